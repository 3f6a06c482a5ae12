/- Walks: lists of lists: one's own, shared; the laws' helpers on them. -/
import Derived.Test.YtmcedghgincaaaaWkQ
import Derived.Test.YtmcedghgincaaaaWkP
namespace Go.Proofs.Ytmcedghgincaaaa
open Go.RowKit

/-- One of a list of lists of one's own. -/
def OLAt (Is : List Heaplet) (xs : List Value) (i : Nat) (l : List Int) : Prop := ∃ v F, xs[i]? = some v ∧ Is[i]? = some F ∧ IRow F 3 v l
/-- A list of lists of one's own: the outer one, and a part for each. -/
structure OLists (O : Heaplet) (Is : List Heaplet) (v : Value) (ls : List (List Int)) : Prop where
  len : Is.length = ls.length
  ex : ∃ xs, Row O 26 1 v ls.length xs ∧ ∀ i (hi : i < ls.length), OLAt Is xs i ls[i]
theorem OLists.sl {O : Heaplet} {Is : List Heaplet} {v : Value} {ls : List (List Int)} (hO : OLists O Is v ls) : Sl v ls.length := by
  obtain ⟨xs, hR, _⟩ := hO.ex
  exact hR.sl
theorem OLists.nil (O : Heaplet) (v : Value) (h : Row O 26 1 v 0 []) : OLists O [] v [] := ⟨rfl, [], h, fun i hi => by simp at hi⟩

section
variable {h : GH} {Ls : List Heaplet} {w : World}

/-- A list of lists that reads so. -/
structure RdLL (h : GH) (Ls : List Heaplet) (v : Value) (ls : List (List Int)) : Prop where
  sl : Sl v ls.length
  at_ : ∀ {i} (hi : i < ls.length), ∃ u, RdL h Ls u ls[i] ∧ ∀ {w}, H w h Ls → w.cell? ((slA v).add (i * 1)) = some u
/-- A shared list of lists. -/
structure Lists (h : GH) (v : Value) (ls : List (List Int)) : Prop where
  sl : Sl v ls.length
  at_ : ∀ {i} (hi : i < ls.length), ∃ u, Ints h u ls[i] ∧ (slA v).spot = none ∧ ∃ cs e fz, h.blk (slA v).block = some (.cells cs e fz) ∧ cs[(slA v).off + i]? = some u
theorem Lists.mono {h h' : GH} {v : Value} {ls : List (List Int)} (hL : Lists h v ls) (hle : h.Le h') : Lists h' v ls := ⟨hL.sl, fun hi => by
  obtain ⟨u, h1, h2, cs, e, fz, h3, h4⟩ := hL.at_ hi
  exact ⟨u, h1.mono hle, h2, cs, e, fz, hle.blk _ _ h3, h4⟩⟩
theorem Lists.elem {v : Value} {ls : List (List Int)} (hL : Lists h v ls) {i : Nat} (hi : i < ls.length) : ∃ u, Ints h u ls[i] ∧ ∀ {w Ls}, H w h Ls → w.cell? ((slA v).add (i * 1)) = some u := by
  obtain ⟨u, h1, h2, cs, e, fz, h3, h4⟩ := hL.at_ hi
  refine ⟨u, h1, fun hH => ?_⟩
  rw [Nat.mul_one, add_of h2, cell_of_heap (hH.rd _ _ h3)]
  exact h4
theorem Lists.rdll {v : Value} {ls : List (List Int)} (hL : Lists h v ls) (Ls : List Heaplet) : RdLL h Ls v ls := ⟨hL.sl, fun hi => by
  obtain ⟨u, h1, h2⟩ := hL.elem hi
  exact ⟨u, h1.rdl _, fun hH => h2 hH⟩⟩

/-- Where the parts of a list of lists lie. -/
structure LAt (Ls : List Heaplet) (a b : Nat) (O : Heaplet) (Is : List Heaplet) : Prop where
  o : Ls[a]? = some O
  i : ∀ j F, Is[j]? = some F → Ls[b + j]? = some F
theorem LAt.cons {O : Heaplet} {Is Ms : List Heaplet} : LAt (O :: (Is ++ Ms)) 0 1 O Is := ⟨rfl, fun j F hj => by
  rw [show 1 + j = j + 1 by omega, List.getElem?_cons_succ, List.getElem?_append_left (List.getElem?_eq_some_iff.1 hj).1]
  exact hj⟩
theorem LAt.skip {O : Heaplet} {Is Ms : List Heaplet} {a b : Nat} (hL : LAt Ms a b O Is) (A : List Heaplet) : LAt (A ++ Ms) (A.length + a) (A.length + b) O Is :=
  ⟨by rw [List.getElem?_append_right (by omega), Nat.add_sub_cancel_left]; exact hL.o, fun j F hj => by
    rw [Nat.add_assoc, List.getElem?_append_right (by omega), Nat.add_sub_cancel_left]; exact hL.i j F hj⟩
theorem LAt.skip1 {O X : Heaplet} {Is Ms : List Heaplet} {a b : Nat} (hL : LAt Ms a b O Is) : LAt (X :: Ms) (a + 1) (b + 1) O Is :=
  ⟨hL.o, fun j F hj => by rw [show b + 1 + j = b + j + 1 by omega, List.getElem?_cons_succ]; exact hL.i j F hj⟩
theorem OLists.elem {O : Heaplet} {Is : List Heaplet} {v : Value} {ls : List (List Int)} (hO : OLists O Is v ls) {a b : Nat} (hA : LAt Ls a b O Is) {i : Nat} (hi : i < ls.length) :
    ∃ u F, IRow F 3 u ls[i] ∧ Is[i]? = some F ∧ Ls[b + i]? = some F ∧ ∀ {w}, H w h Ls → w.cell? ((slA v).add (i * 1)) = some u := by
  obtain ⟨xs, hR, hat⟩ := hO.ex
  obtain ⟨u, F, h1, h2, h3⟩ := hat i hi
  exact ⟨u, F, h3, h2, hA.i i F h2, fun hH => by rw [Nat.mul_one]; exact hR.cell hH hA.o h1⟩
theorem OLists.rdll {O : Heaplet} {Is : List Heaplet} {v : Value} {ls : List (List Int)} (hO : OLists O Is v ls) {a b : Nat} (hA : LAt Ls a b O Is) : RdLL h Ls v ls := ⟨hO.sl, fun hi => by
  obtain ⟨u, F, h1, _, h2, h3⟩ := hO.elem (h := h) hA hi
  exact ⟨u, h1.rdl h2, fun hH => h3 hH⟩⟩
/-- A list more. -/
theorem OLists.snoc {O O' : Heaplet} {Is : List Heaplet} {v v' : Value} {ls : List (List Int)} {xs : List Value} {l : List Int} {u : Value} {F : Heaplet} (hil : Is.length = ls.length) (hR : Row O 26 1 v ls.length xs) (hat : ∀ i (hi : i < ls.length), OLAt Is xs i ls[i])
    (hO : Row O' 26 1 v' (ls.length + 1) (xs ++ [u])) (hF : IRow F 3 u l) : OLists O' (Is ++ [F]) v' (ls ++ [l]) := by
  have hxl := hR.len
  refine ⟨by simp [hil], _, by simpa using hO, fun i hi => ?_⟩
  rw [List.getElem_append]
  split
  · rename_i h1
    obtain ⟨u', F', g1, g2, g3⟩ := hat i h1
    exact ⟨u', F', by rw [List.getElem?_append_left (List.getElem?_eq_some_iff.1 g1).1]; exact g1, by rw [List.getElem?_append_left (List.getElem?_eq_some_iff.1 g2).1]; exact g2, g3⟩
  · rename_i h1
    have : i = ls.length := by simp at hi; omega
    subst this
    refine ⟨u, F, by rw [List.getElem?_append_right (by omega)]; simp [hxl], by rw [List.getElem?_append_right (by omega)]; simp [hil], by simpa using hF⟩
/-- One of the lists is replaced. -/
theorem OLists.set {O' : Heaplet} {Is : List Heaplet} {v : Value} {ls : List (List Int)} {xs : List Value} {l : List Int} {u : Value} {F : Heaplet} {k : Nat} (hk : k < ls.length) (hil : Is.length = ls.length) (hxl : xs.length = ls.length) (hat : ∀ i (hi : i < ls.length), OLAt Is xs i ls[i])
    (hO : Row O' 26 1 v ls.length (xs.set k u)) (hF : IRow F 3 u l) : OLists O' (Is.set k F) v (ls.set k l) := by
  refine ⟨by simp [hil], _, by simpa using hO, fun i hi => ?_⟩
  have hi' : i < ls.length := by simpa using hi
  rw [List.getElem_set]
  split
  · rename_i h1
    subst h1
    exact ⟨u, F, by rw [List.getElem?_set, if_pos rfl, if_pos (by omega)], by rw [List.getElem?_set, if_pos rfl, if_pos (by omega)], hF⟩
  · rename_i h1
    obtain ⟨u', F', g1, g2, g3⟩ := hat i hi'
    exact ⟨u', F', by rw [List.getElem?_set, if_neg h1]; exact g1, by rw [List.getElem?_set, if_neg h1]; exact g2, g3⟩
/-- It can be shared. -/
theorem OLists.lists {O : Heaplet} {Is : List Heaplet} {v : Value} {ls : List (List Int)} (hO : OLists O Is v ls) {h' : GH} (hX : ∀ q ∈ (O :: Is).flatten, h'.blk q.1 = some q.2) : Lists h' v ls := by
  obtain ⟨xs, hR, hat⟩ := hO.ex
  refine ⟨hR.sl, fun {i} hi => ?_⟩
  obtain ⟨u, F, h1, h2, h3⟩ := hat i hi
  obtain ⟨g1, cs, e, fz, g2, g3⟩ := hR.rd (fun q hq => hX q (by simp [hq])) _ _ h1
  exact ⟨u, h3.ints fun q hq => hX q (by
    simp only [List.flatten_cons]
    exact List.mem_append_right _ (List.mem_flatten.2 ⟨_, List.mem_of_getElem? h2, hq⟩)), g1, cs, e, fz, g2, g3⟩
theorem OLists.freeze {O : Heaplet} {Is : List Heaplet} {v : Value} {ls : List (List Int)} (hO : OLists O Is v ls) (hH : H w h (O :: (Is ++ Ls))) :
    ∃ h', h.Le h' ∧ H w h' Ls ∧ Lists h' v ls ∧ ∀ {w2 Ls2}, H w2 h' Ls2 → H w2 h (O :: (Is ++ Ls2)) := by
  have hH' : H w h ((O :: Is).flatten :: Ls) := by simpa [H] using hH
  obtain ⟨h', hle, hH2, hX2, hnd, _⟩ := hH'.freeze
  exact ⟨h', hle, hH2, hO.lists fun q hq => (hX2 q hq).1, fun hH3 => by simpa [H] using hH3.unfreeze hle hX2 hnd⟩

theorem sameRows_ok (hH : H w h Ls) {av bv : Value} {xs ys : List (List Int)} (hA : RdLL h Ls av xs) (hB : RdLL h Ls bv ys) : Rets Try.prog 29 #[av, bv] w fun v w' => v = .bool (decide (xs = ys)) ∧ H w' h Ls := by
  have hal := hA.sl.lim
  refine rets_enter Try.func29 rfl Try.ntmps29 (by simp) ?_
  refine WT_seq ?_
  refine WT_region ?_
  refine WL_v rfl (ov_assign rfl) ?_
  refine WL_nil ?_
  refine WT_seq ?_
  refine WT_seq ?_
  refine WT_region ?_
  refine WL_v rfl (ov_move rfl) ?_
  refine WL_v rfl (ov_len rfl hA.sl st_sl_sl_int) ?_
  refine WL_v rfl (ov_move rfl) ?_
  refine WL_v rfl (ov_len rfl hB.sl st_sl_sl_int) ?_
  refine WL_v rfl (ov_neq rfl rfl) ?_
  refine WL_nil ?_
  refine WT_cond rfl (fun hne => ?_) (fun hne => ?_)
  · skip
    first | with_reducible replace hne := of_decide_eq_true hne | with_reducible replace hne := bn_T hne | with_reducible replace hne := bb_T hne | skip
    refine WT_seq ?_
    refine WT_region ?_
    refine WL_v rfl (ov_assign rfl) ?_
    refine WL_nil ?_
    exact WT_ret1 Try.func29 Try.results29 rfl ⟨congrArg Value.bool (decide_eq_false fun h => by subst h; exact hne rfl).symm, hH⟩
  first | with_reducible replace hne := of_decide_eq_false hne | with_reducible replace hne := bn_F hne | with_reducible replace hne := bb_F hne | skip
  have hlen : xs.length = ys.length := by omega
  refine WT_skip ?_
  refine WT_seq ?_
  refine WT_seq ?_
  refine WT_region ?_
  refine WL_v rfl (ov_assign rfl) ?_
  refine WL_nil ?_
  refine WT_block ?_
  refine WT_while (fun s : Nat => [(0, av), (1, bv), (5, .int .i64 (s : Int))]) (fun k w => k ≤ xs.length ∧ (∀ j (_ : j < k) (h1 : j < xs.length) (h2 : j < ys.length), xs[j] = ys[j]) ∧ H w h Ls) (fun k => xs.length - k) 0 (by repeat (first | exact trivial | refine ⟨rfl, ?_⟩)) ⟨by omega, by omega, hH⟩ ?_
  clear hH
  rintro k w2 ⟨hk, hall, hH1⟩ again
  refine WT_seq ?_
  refine WT_seq ?_
  refine WT_region ?_
  refine WL_v rfl (ov_move rfl) ?_
  refine WL_v rfl (ov_move rfl) ?_
  refine WL_v rfl (ov_len rfl hA.sl st_sl_sl_int) ?_
  refine WL_v rfl (ov_lss rfl rfl) ?_
  refine WL_nil ?_
  refine WT_cond rfl (fun hc => ?_) (fun hc => ?_)
  · skip
    first | with_reducible replace hc := of_decide_eq_true hc | with_reducible replace hc := bn_T hc | with_reducible replace hc := bb_T hc | skip
    have hkx : k < xs.length := by omega
    have hky : k < ys.length := by omega
    obtain ⟨u1, g1, c1⟩ := hA.at_ hkx
    obtain ⟨u2, g2, c2⟩ := hB.at_ hky
    refine WT_skip ?_
    refine WT_seq ?_
    refine WT_block ?_
    refine WT_seq ?_
    refine WT_quiet mixed (by kernel_rfl) hH1 ?_
    clear hH1
    refine WQ_v rfl (fun _ _ => ov_move rfl) ?_
    refine WQ_v rfl (fun _ _ => ov_move rfl) ?_
    refine WQ_v rfl (fun _ _ => ov_index rfl rfl st_sl_sl_int hA.sl hkx) ?_
    refine WQ_v rfl (fun _ hH => ov_load rfl one_sl_int (c1 hH)) ?_
    refine WQ_v rfl (fun _ _ => ov_move rfl) ?_
    refine WQ_v rfl (fun _ _ => ov_move rfl) ?_
    refine WQ_v rfl (fun _ _ => ov_index rfl rfl st_sl_sl_int hB.sl hky) ?_
    refine WQ_v rfl (fun _ hH => ov_load rfl one_sl_int (c2 hH)) ?_
    refine WQ_call rfl rfl cf_laws_sameRow (fun _ hH => sameRow_ok hH g1 g2) ?_
    refine WQ_v rfl (fun _ _ => ov_not rfl) ?_
    refine WQ_nil ?_
    intro w3 hH1
    refine WT_cond rfl (fun hne => ?_) (fun hne => ?_)
    · skip
      first | with_reducible replace hne := of_decide_eq_true hne | with_reducible replace hne := bn_T hne | with_reducible replace hne := bb_T hne | skip
      refine WT_seq ?_
      refine WT_region ?_
      refine WL_v rfl (ov_assign rfl) ?_
      refine WL_nil ?_
      exact WT_ret1 Try.func29 Try.results29 rfl ⟨congrArg Value.bool (decide_eq_false fun h => by subst h; simp at hne).symm, hH1⟩
    first | with_reducible replace hne := of_decide_eq_false hne | with_reducible replace hne := bn_F hne | with_reducible replace hne := bb_F hne | skip
    refine WT_skip ?_
    refine WT_inBlock ?_
    refine WT_region ?_
    refine WL_v rfl (ov_move rfl) ?_
    refine WL_v rfl (ov_add rfl rfl (by omega)) ?_
    refine WL_v rfl (ov_assign rfl) ?_
    refine WL_nil ?_
    refine again (k + 1) _ _ (by omega) (by repeat (first | exact trivial | refine ⟨rfl, ?_⟩)) ⟨by omega, fun j hj h1 h2 => ?_, hH1⟩
    rcases Nat.lt_or_ge j k with h3 | h3
    · exact hall j h3 h1 h2
    · obtain rfl : j = k := by omega
      simpa using hne
  first | with_reducible replace hc := of_decide_eq_false hc | with_reducible replace hc := bn_F hc | with_reducible replace hc := bb_F hc | skip
  obtain rfl : k = xs.length := by omega
  refine WT_exit rfl ?_
  refine WT_seq ?_
  refine WT_region ?_
  refine WL_v rfl (ov_assign rfl) ?_
  refine WL_nil ?_
  exact WT_ret1 Try.func29 Try.results29 rfl ⟨congrArg Value.bool (decide_eq_true (List.ext_getElem hlen fun j h1 h2 => hall j h1 h1 h2)).symm, hH1⟩
end
end Go.Proofs.Ytmcedghgincaaaa
