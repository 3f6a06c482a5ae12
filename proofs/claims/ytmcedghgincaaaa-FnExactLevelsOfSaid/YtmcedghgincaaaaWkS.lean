/- Walks: places that are free, and the places of a plan. -/
import Derived.Test.YtmcedghgincaaaaWkI
import Derived.Test.YtmcedghgincaaaaWkP
import Derived.Test.YtmcedghgincaaaaPlH
namespace Go.Proofs.Ytmcedghgincaaaa
open Go.RowKit

/-- The links of free places: where each lies, and which place. -/
def hdT (e : Value) : List Nat → Value
  | [] => e
  | a :: _ => ptr a
def chainT (e : Value) : List Nat → List Nat → List Heaplet
  | a :: us, p :: ps => [(a, .cells #[.int .i64 (p : Int), hdT e us] 127 (0, 0))] :: chainT e us ps
  | _, _ => []
theorem hdT_append (e : Value) : ∀ (a b : List Nat), hdT e (a ++ b) = hdT (hdT e b) a
  | [], b => rfl
  | _ :: _, b => rfl
theorem chainT_append (e : Value) : ∀ {a p : List Nat} (b q : List Nat), a.length = p.length → chainT e (a ++ b) (p ++ q) = chainT (hdT e b) a p ++ chainT e b q
  | [], [], b, q, _ => rfl
  | x :: a, y :: p, b, q, h => by
    simp only [List.cons_append, chainT, hdT_append]
    rw [chainT_append e b q (by simpa using h)]
  | [], _ :: _, _, _, h => by simp at h
  | _ :: _, [], _, _, h => by simp at h
theorem chainT_len (e : Value) : ∀ {a p : List Nat}, a.length = p.length → (chainT e a p).length = p.length
  | [], [], _ => rfl
  | x :: a, y :: p, h => by simp only [chainT, List.length_cons]; rw [chainT_len e (by simpa using h)]
  | [], _ :: _, h => by simp at h
  | _ :: _, [], h => by simp at h
theorem hdT_form (us : List Nat) : ∃ o, hdT (.pointer none) us = .pointer o ∧ (o.isNone = true ↔ us = []) := by
  cases us with
  | nil => exact ⟨none, rfl, by simp⟩
  | cons a us => exact ⟨some ⟨a, 0, none⟩, rfl, by simp⟩
theorem hdT_one (us : List Nat) : (hdT (.pointer none) us).oneCell' = true := by cases us <;> rfl

section
variable {h : GH} {Ls : List Heaplet} {w : World}

/-- The variable of the free places. -/
abbrev fbox (f : Nat) (us : List Nat) (m : Nat) : Heaplet := [(f, .cells #[hdT (.pointer none) us, .int .i64 (m : Int)] 88 (0, 0))]

theorem fpTake_new {f m : Nat} (hH : H w h (fbox f [] m :: Ls)) (hm : m ≤ 1000000) : Rets Try.prog 84 #[ptr f] w fun v w' => v = .int .i64 (m : Int) ∧ H w' h (fbox f [] (m + 1) :: Ls) := by
  refine rets_enter Try.func84 rfl Try.ntmps84 (by simp) ?_
  refine WT_seq ?_
  refine WT_region ?_
  refine WL_v rfl (ov_assign rfl) ?_
  refine WL_nil ?_
  refine WT_seq ?_
  refine WT_seq ?_
  refine WT_region ?_
  refine WL_v rfl (ov_move rfl) ?_
  refine WL_v rfl (ov_nilCheck rfl) ?_
  refine WL_v rfl (ov_field rfl fo_impl_freePlaces_0) ?_
  refine WL_v rfl (ov_load rfl one_p_impl_placeLink (hH.cb 0 rfl 0)) ?_
  refine WL_v rfl (ov_eqlPN rfl Try.underlying86) ?_
  refine WL_nil ?_
  refine WT_condT rfl ?_
  refine WT_seq ?_
  refine WT_region ?_
  refine WL_v rfl (ov_move rfl) ?_
  refine WL_v rfl (ov_nilCheck rfl) ?_
  refine WL_v rfl (ov_field rfl fo_impl_freePlaces_1) ?_
  refine WL_v rfl (ov_load rfl one_int (hH.cb 0 rfl 1)) ?_
  refine WL_v rfl (ov_add rfl rfl (by omega)) ?_
  refine WL_v rfl (ov_nilCheck rfl) ?_
  refine WL_v rfl (ov_field rfl fo_impl_freePlaces_1) ?_
  refine WL_store hH rfl rfl (i := 0) (off := 1) rfl rfl (by simp) rfl sz_int ?_; rintro w1 hH1
  refine WL_nil ?_
  refine WT_seq ?_
  refine WT_region ?_
  refine WL_v rfl (ov_move rfl) ?_
  refine WL_v rfl (ov_nilCheck rfl) ?_
  refine WL_v rfl (ov_field rfl fo_impl_freePlaces_1) ?_
  refine WL_v rfl (ov_load rfl one_int (hH1.cb 0 rfl 1)) ?_
  refine WL_v rfl (ov_as (ov_sub rfl rfl (by omega)) (congrArg (Value.int .i64) ((show (m : Int) + 1 - 1 = (m : Int) by omega)))) ?_
  refine WL_v rfl (ov_assign rfl) ?_
  refine WL_nil ?_
  exact WT_ret1 Try.func84 Try.results84 rfl ⟨rfl, hH1⟩

theorem fpTake_old {f m a p : Nat} {us ps : List Nat} (hH : H w h (fbox f (a :: us) m :: (chainT (.pointer none) (a :: us) (p :: ps) ++ Ls))) : Rets Try.prog 84 #[ptr f] w fun v w' => v = .int .i64 (p : Int) ∧ H w' h (fbox f us m :: (chainT (.pointer none) us ps ++ Ls)) := by
  have hH0 : H w h (fbox f (a :: us) m :: [(a, .cells #[.int .i64 (p : Int), hdT (.pointer none) us] 127 (0, 0))] :: (chainT (.pointer none) us ps ++ Ls)) := hH
  clear hH
  refine rets_enter Try.func84 rfl Try.ntmps84 (by simp) ?_
  refine WT_seq ?_
  refine WT_region ?_
  refine WL_v rfl (ov_assign rfl) ?_
  refine WL_nil ?_
  refine WT_seq ?_
  refine WT_seq ?_
  refine WT_region ?_
  refine WL_v rfl (ov_move rfl) ?_
  refine WL_v rfl (ov_nilCheck rfl) ?_
  refine WL_v rfl (ov_field rfl fo_impl_freePlaces_0) ?_
  refine WL_v rfl (ov_load rfl one_p_impl_placeLink (hH0.cb 0 rfl 0)) ?_
  refine WL_v rfl (ov_eqlPN rfl Try.underlying86) ?_
  refine WL_nil ?_
  refine WT_condF rfl ?_
  refine WT_skip ?_
  refine WT_seq ?_
  refine WT_region ?_
  refine WL_v rfl (ov_move rfl) ?_
  refine WL_v rfl (ov_nilCheck rfl) ?_
  refine WL_v rfl (ov_field rfl fo_impl_freePlaces_0) ?_
  refine WL_v rfl (ov_load rfl one_p_impl_placeLink (hH0.cb 0 rfl 0)) ?_
  refine WL_v rfl (ov_nilCheck rfl) ?_
  refine WL_v rfl (ov_field rfl fo_impl_placeLink_0) ?_
  refine WL_v rfl (ov_load rfl one_int (hH0.cb 1 rfl 0)) ?_
  refine WL_v rfl (ov_assign rfl) ?_
  refine WL_nil ?_
  refine WT_seq ?_
  refine WT_region ?_
  refine WL_v rfl (ov_move rfl) ?_
  refine WL_v rfl (ov_move rfl) ?_
  refine WL_v rfl (ov_nilCheck rfl) ?_
  refine WL_v rfl (ov_field rfl fo_impl_freePlaces_0) ?_
  refine WL_v rfl (ov_load rfl one_p_impl_placeLink (hH0.cb 0 rfl 0)) ?_
  refine WL_v rfl (ov_nilCheck rfl) ?_
  refine WL_v rfl (ov_field rfl fo_impl_placeLink_1) ?_
  refine WL_v rfl (ov_load rfl one_p_impl_placeLink (hH0.cb 1 rfl 1)) ?_
  refine WL_v rfl (ov_nilCheck rfl) ?_
  refine WL_v rfl (ov_field rfl fo_impl_freePlaces_0) ?_
  refine WL_store hH0 rfl rfl (i := 0) (off := 0) rfl rfl (by simp) (hdT_one us) sz_p_impl_placeLink ?_; rintro w1 hH1
  refine WL_nil ?_
  refine WT_seq ?_
  refine WT_region ?_
  refine WL_v rfl (ov_move rfl) ?_
  refine WL_v rfl (ov_assign rfl) ?_
  refine WL_nil ?_
  exact WT_ret1 Try.func84 Try.results84 rfl ⟨rfl, hH1.del 1 rfl⟩

/-- The pointer that is looked at: the variable's own, or the last link's. -/
def linkP (f : Nat) (a1 : List Nat) : Value := match a1.getLast? with
  | none => .pointer (some ⟨f, 0, none⟩)
  | some a => .pointer (some ⟨a, 1, none⟩)
theorem linkP_nil (f : Nat) : linkP f [] = .pointer (some ⟨f, 0, none⟩) := rfl
theorem linkP_snoc (f : Nat) (b : List Nat) (a : Nat) : linkP f (b ++ [a]) = .pointer (some ⟨a, 1, none⟩) := by simp [linkP]

theorem run_build_pl (n : Int) (o : Option Addr) (W : World) : (Instr.build 127 #[(0, .int .i64 n), (1, .pointer o)]).run Try.prog W = .ok (.agg #[.int .i64 n, .pointer o]) W := by kernel_rfl

/-- Where the next link is written, and what is read there. -/
theorem link_at {f m : Nat} {a1 a2 p1 p2 : List Nat} (h1 : a1.length = p1.length) (_h2 : a2.length = p2.length) (hH : H w h (fbox f (a1 ++ a2) m :: (chainT (.pointer none) (a1 ++ a2) (p1 ++ p2) ++ Ls))) :
    ∃ g o cs e i, linkP f a1 = .pointer (some ⟨g, o, none⟩) ∧ (fbox f (a1 ++ a2) m :: (chainT (.pointer none) (a1 ++ a2) (p1 ++ p2) ++ Ls))[i]? = some [(g, .cells cs e (0, 0))] ∧ o < cs.size ∧ w.cell? ⟨g, o, none⟩ = some (hdT (.pointer none) a2) ∧
      ∀ (nb q : Nat) (X : Heaplet) {w'}, X = [(nb, .cells #[.int .i64 (q : Int), hdT (.pointer none) a2] 127 (0, 0))] → H w' h (X :: ((fbox f (a1 ++ a2) m :: (chainT (.pointer none) (a1 ++ a2) (p1 ++ p2) ++ Ls)).set i [(g, .cells (cs.setIfInBounds o (ptr nb)) e (0, 0))])) →
        H w' h (fbox f (a1 ++ nb :: a2) m :: (chainT (.pointer none) (a1 ++ nb :: a2) (p1 ++ q :: p2) ++ Ls)) := by
  rcases List.eq_nil_or_concat a1 with rfl | ⟨b1, b, rfl⟩
  · have : p1 = [] := List.eq_nil_of_length_eq_zero (by simpa using h1.symm)
    subst this
    refine ⟨f, 0, _, _, 0, rfl, rfl, by simp, hH.cb 0 rfl 0, fun nb q X w' hX hH' => ?_⟩
    subst hX
    exact hH'.swap
  · simp only [List.concat_eq_append] at h1 hH ⊢
    obtain ⟨q1, q, rfl⟩ : ∃ q1 q, p1 = q1 ++ [q] := by
      rcases List.eq_nil_or_concat p1 with rfl | ⟨q1, q, h⟩
      · simp at h1
      · exact ⟨q1, q, by simpa using h⟩
    have hb : b1.length = q1.length := by simpa using h1
    have hch : ∀ {a2 p2 : List Nat}, chainT (.pointer none) (b1 ++ [b] ++ a2) (q1 ++ [q] ++ p2) = chainT (ptr b) b1 q1 ++ ([(b, .cells #[.int .i64 (q : Int), hdT (.pointer none) a2] 127 (0, 0))] :: chainT (.pointer none) a2 p2) := by
      intro a2 p2
      rw [chainT_append _ a2 p2 (by simpa using h1), chainT_append _ [b] [q] hb]
      simp [hdT, chainT]
    have hfb : ∀ {a2 : List Nat}, hdT (.pointer none) (b1 ++ [b] ++ a2) = hdT (ptr b) b1 := by
      intro a2
      rw [hdT_append, hdT_append]; rfl
    have hcl := chainT_len (ptr b) hb
    have hfx : ∀ {a2 : List Nat}, fbox f (b1 ++ [b] ++ a2) m = [(f, .cells #[hdT (ptr b) b1, .int .i64 (m : Int)] 88 (0, 0))] := by
      intro a2
      unfold fbox
      rw [hfb]
    rw [hch, hfx] at hH
    rw [linkP_snoc, hch, hfx, List.append_assoc]
    rw [List.append_assoc] at hH
    have hidx : (([(f, Obj.cells #[hdT (ptr b) b1, .int .i64 (m : Int)] 88 (0, 0))] : Heaplet) :: (chainT (ptr b) b1 q1 ++ (([(b, Obj.cells #[.int .i64 (q : Int), hdT (.pointer none) a2] 127 (0, 0))] :: chainT (.pointer none) a2 p2) ++ Ls)))[b1.length + 1]? = some [(b, .cells #[.int .i64 (q : Int), hdT (.pointer none) a2] 127 (0, 0))] := by
      rw [List.getElem?_cons_succ, List.getElem?_append_right (by omega), hcl, hb, Nat.sub_self]; rfl
    refine ⟨b, 1, _, _, b1.length + 1, rfl, hidx, by simp, hH.cb _ hidx 1, fun nb q' X w' hX hH' => ?_⟩
    rw [hch, hfx, List.append_assoc]
    rw [List.set_cons_succ, List.set_append_right _ _ (by omega), hcl, hb, Nat.sub_self] at hH'
    subst hX
    have hH2 : H w' h ([(nb, .cells #[.int .i64 (q' : Int), hdT (.pointer none) a2] 127 (0, 0))] :: [(f, .cells #[hdT (ptr b) b1, .int .i64 (m : Int)] 88 (0, 0))] :: (chainT (ptr b) b1 q1 ++ [(b, .cells #[.int .i64 (q : Int), ptr nb] 127 (0, 0))] :: (chainT (.pointer none) a2 p2 ++ Ls))) := hH'
    refine (hH2.swap).perm (.cons _ ?_)
    exact (List.perm_middle (a := [(nb, Obj.cells #[.int .i64 (q' : Int), hdT (.pointer none) a2] 127 (0, 0))]) (l₁ := chainT (ptr b) b1 q1 ++ [[(b, .cells #[.int .i64 (q : Int), ptr nb] 127 (0, 0))]]) (l₂ := chainT (.pointer none) a2 p2 ++ Ls)).symm |> fun hp => by simpa [chainT, hdT] using hp

theorem fpGive_ok {f m q : Nat} {us ps : List Nat} (hl : us.length = ps.length) (hH : H w h (fbox f us m :: (chainT (.pointer none) us ps ++ Ls))) :
    Rets Try.prog 83 #[ptr f, .int .i64 (q : Int)] w fun v w' => v = .tuple #[] ∧ ∃ us', us'.length = (insAsc q ps).length ∧ H w' h (fbox f us' m :: (chainT (.pointer none) us' (insAsc q ps) ++ Ls)) := by
  refine rets_enter Try.func83 rfl Try.ntmps83 (by simp) ?_
  refine WT_seq ?_
  refine WT_region ?_
  refine WL_v rfl (ov_move rfl) ?_
  refine WL_v rfl (ov_nilCheck rfl) ?_
  refine WL_v rfl (ov_field rfl fo_impl_freePlaces_0) ?_
  refine WL_v rfl (ov_assign rfl) ?_
  refine WL_nil ?_
  refine WT_seq ?_
  refine WT_block ?_
  refine WT_while (fun s : Nat => [(0, ptr f), (1, .int .i64 (q : Int)), (4, linkP f (us.take s))]) (fun s w => s ≤ ps.length ∧ (∀ x ∈ ps.take s, x < q) ∧ H w h (fbox f us m :: (chainT (.pointer none) us ps ++ Ls))) (fun s => ps.length - s) 0 (by repeat (first | exact trivial | refine ⟨rfl, ?_⟩)) ⟨by omega, by simp, hH⟩ ?_
  clear hH
  rintro s w1 ⟨hs, hlt, hH⟩ again
  have hsa : s ≤ us.length := by omega
  have hta : us.take s ++ us.drop s = us := List.take_append_drop s us
  have htp : ps.take s ++ ps.drop s = ps := List.take_append_drop s ps
  have hl1 : (us.take s).length = (ps.take s).length := by simp [hl]
  have hl2 : (us.drop s).length = (ps.drop s).length := by simp [hl]
  obtain ⟨g, o, cs, e, i, hlk, hidx, ho, hc, hput⟩ := link_at (a1 := us.take s) (a2 := us.drop s) (p1 := ps.take s) (p2 := ps.drop s) (Ls := Ls) (m := m) (f := f) (w := w1) hl1 hl2 (by rw [hta, htp]; exact hH)
  rw [hta, htp] at hidx hput
  rw [hlk]
  have hdone : (∀ x, ps[s]? = some x → q ≤ x) → insAsc q ps = ps.take s ++ q :: ps.drop s := by
    intro hge
    have key : ∀ (s : Nat) (ps : List Nat), (∀ x ∈ ps.take s, x < q) → (∀ x, ps[s]? = some x → q ≤ x) → insAsc q ps = ps.take s ++ q :: ps.drop s := by
      intro s
      induction s with
      | zero =>
        intro ps _ h2
        cases ps with
        | nil => rfl
        | cons y ps =>
          have := h2 y rfl
          simp [insAsc, show ¬ y < q by omega]
      | succ s ih =>
        intro ps h1 h2
        cases ps with
        | nil => rfl
        | cons y ps =>
          have hy := h1 y (by simp)
          have := ih ps (fun x hx => h1 x (by simp [hx])) (fun x hx => h2 x (by simpa using hx))
          simp only [List.take_succ_cons, List.drop_succ_cons, List.cons_append]
          rw [← this]
          simp [insAsc, hy]
    exact key s ps hlt hge
  have hfin : ∀ {w2 : World} {env2 : Env}, Sub [(0, ptr f), (1, .int .i64 (q : Int)), (4, .pointer (some ⟨g, o, none⟩))] env2 → (∀ x, ps[s]? = some x → q ≤ x) → H w2 h (fbox f us m :: (chainT (.pointer none) us ps ++ Ls)) → True := fun _ _ _ => trivial
  clear hfin
  by_cases hend : s = ps.length
  · skip
    have hnil : us.drop s = [] := List.drop_eq_nil_of_le (by omega)
    rw [hnil] at hc hput
    refine WT_seq ?_
    refine WT_seq ?_
    refine WT_region ?_
    refine WL_v rfl (ov_move rfl) ?_
    refine WL_v rfl (ov_nilCheck rfl) ?_
    refine WL_v rfl (ov_load rfl one_p_impl_placeLink (hc)) ?_
    refine WL_v rfl (ov_neqPN rfl Try.underlying86) ?_
    refine WL_v rfl (ov_move rfl) ?_
    refine WL_guardOff rfl rfl rfl rfl ?_
    refine WL_guardOff rfl rfl rfl rfl ?_
    refine WL_guardOff rfl rfl rfl rfl ?_
    refine WL_guardOff rfl rfl rfl rfl ?_
    refine WL_guardOff rfl rfl rfl rfl ?_
    refine WL_guardOff rfl rfl rfl rfl ?_
    refine WL_guardOff rfl rfl rfl rfl ?_
    refine WL_guardOff rfl rfl rfl rfl ?_
    refine WL_v rfl (ov_pickF rfl rfl) ?_
    refine WL_nil ?_
    refine WT_condF rfl ?_
    refine WT_exit rfl ?_
    refine WT_region ?_
    refine WL_v rfl (ov_move rfl) ?_
    refine WL_v rfl (ov_move rfl) ?_
    refine WL_v rfl (ov_move rfl) ?_
    refine WL_v rfl (ov_nilCheck rfl) ?_
    refine WL_v rfl (ov_load rfl one_p_impl_placeLink (hc)) ?_
    refine WL_v rfl (ov_build rfl (run_build_pl _ _)) ?_
    refine WL_box _ rfl hH rfl rfl ?_; rintro nb w2 hH2
    refine WL_v rfl (ov_nilCheck rfl) ?_
    refine WL_store hH2 rfl rfl (i := i + 1) hidx rfl ho rfl sz_p_impl_placeLink ?_; rintro w3 hH3
    refine WL_nil ?_
    exact WT_end0 Try.func83 Try.results83 ⟨rfl, us.take s ++ [nb], by rw [hdone (fun x hx => by rw [hend, List.getElem?_eq_none (Nat.le_refl _)] at hx; cases hx)]; simp [hl, hend], by
        rw [hdone (fun x hx => by rw [hend, List.getElem?_eq_none (Nat.le_refl _)] at hx; cases hx)]
        exact hput nb q _ rfl hH3⟩
  have hsp : s < ps.length := by omega
  have hsa2 : s < us.length := by omega
  have hda : us.drop s = us[s] :: us.drop (s + 1) := List.drop_eq_getElem_cons hsa2
  have hdp : ps.drop s = ps[s] :: ps.drop (s + 1) := List.drop_eq_getElem_cons hsp
  have hcl := chainT_len (hdT (.pointer none) (us.drop s)) hl1
  have hnode : (fbox f us m :: (chainT (.pointer none) us ps ++ Ls))[s + 1]? = some [(us[s], .cells #[.int .i64 (ps[s] : Int), hdT (.pointer none) (us.drop (s + 1))] 127 (0, 0))] := by
    rw [List.getElem?_cons_succ]
    conv => lhs; rw [← hta, ← htp, chainT_append _ _ _ hl1, hda, hdp]
    rw [List.append_assoc, List.getElem?_append_right (by rw [← hda, hcl, List.length_take]; omega), ← hda, hcl, List.length_take, Nat.min_eq_left (by omega), Nat.sub_self, hda]
    rfl
  rw [hda] at hc hput
  by_cases hlq : (ps[s] : Int) < (q : Int)
  · skip
    refine WT_seq ?_
    refine WT_seq ?_
    refine WT_region ?_
    refine WL_v rfl (ov_move rfl) ?_
    refine WL_v rfl (ov_nilCheck rfl) ?_
    refine WL_v rfl (ov_load rfl one_p_impl_placeLink (hc)) ?_
    refine WL_v rfl (ov_neqPN rfl Try.underlying86) ?_
    refine WL_v rfl (ov_move rfl) ?_
    refine WL_guardOn rfl rfl ?_
    refine WL_v rfl (ov_move rfl) ?_
    refine WL_guardOn rfl rfl ?_
    refine WL_v rfl (ov_nilCheck rfl) ?_
    refine WL_guardOn rfl rfl ?_
    refine WL_v rfl (ov_load rfl one_p_impl_placeLink (hc)) ?_
    refine WL_guardOn rfl rfl ?_
    refine WL_v rfl (ov_nilCheck rfl) ?_
    refine WL_guardOn rfl rfl ?_
    refine WL_v rfl (ov_field rfl fo_impl_placeLink_0) ?_
    refine WL_guardOn rfl rfl ?_
    refine WL_v rfl (ov_load rfl one_int (hH.cb (s + 1) hnode 0)) ?_
    refine WL_guardOn rfl rfl ?_
    refine WL_v rfl (ov_move rfl) ?_
    refine WL_guardOn rfl rfl ?_
    refine WL_v rfl (ov_T (ov_lss rfl rfl) (by first | exact decide_eq_true hlq | exact nb_T hlq | exact mb_T hlq | exact hlq | (simp only [decide_eq_true_eq]; omega) | simpa using hlq)) ?_
    refine WL_v rfl (ov_pickT rfl rfl) ?_
    refine WL_nil ?_
    refine WT_condT rfl ?_
    refine WT_skip ?_
    refine WT_block ?_
    refine WT_region ?_
    refine WL_v rfl (ov_move rfl) ?_
    refine WL_v rfl (ov_nilCheck rfl) ?_
    refine WL_v rfl (ov_load rfl one_p_impl_placeLink (hc)) ?_
    refine WL_v rfl (ov_nilCheck rfl) ?_
    refine WL_v rfl (ov_field rfl fo_impl_placeLink_1) ?_
    refine WL_v rfl (ov_assign rfl) ?_
    refine WL_nil ?_
    refine WT_inBlock ?_
    refine again (s + 1) _ _ (by omega) ⟨rfl, rfl, by rw [List.take_succ_eq_append_getElem hsa2, linkP_snoc]; rfl, trivial⟩ ⟨by omega, fun x hx => ?_, hH⟩
    rw [List.take_succ_eq_append_getElem hsp] at hx
    rcases List.mem_append.1 hx with hx | hx
    · exact hlt x hx
    · rw [List.mem_singleton] at hx
      omega
  have hge : ∀ x, ps[s]? = some x → q ≤ x := fun x hx => by
    rw [List.getElem?_eq_getElem hsp] at hx
    simp only [Option.some.injEq] at hx
    omega
  refine WT_seq ?_
  refine WT_seq ?_
  refine WT_region ?_
  refine WL_v rfl (ov_move rfl) ?_
  refine WL_v rfl (ov_nilCheck rfl) ?_
  refine WL_v rfl (ov_load rfl one_p_impl_placeLink (hc)) ?_
  refine WL_v rfl (ov_neqPN rfl Try.underlying86) ?_
  refine WL_v rfl (ov_move rfl) ?_
  refine WL_guardOn rfl rfl ?_
  refine WL_v rfl (ov_move rfl) ?_
  refine WL_guardOn rfl rfl ?_
  refine WL_v rfl (ov_nilCheck rfl) ?_
  refine WL_guardOn rfl rfl ?_
  refine WL_v rfl (ov_load rfl one_p_impl_placeLink (hc)) ?_
  refine WL_guardOn rfl rfl ?_
  refine WL_v rfl (ov_nilCheck rfl) ?_
  refine WL_guardOn rfl rfl ?_
  refine WL_v rfl (ov_field rfl fo_impl_placeLink_0) ?_
  refine WL_guardOn rfl rfl ?_
  refine WL_v rfl (ov_load rfl one_int (hH.cb (s + 1) hnode 0)) ?_
  refine WL_guardOn rfl rfl ?_
  refine WL_v rfl (ov_move rfl) ?_
  refine WL_guardOn rfl rfl ?_
  refine WL_v rfl (ov_F (ov_lss rfl rfl) (by first | exact decide_eq_false hlq | exact nb_F hlq | exact mb_F hlq | exact hlq | (simp only [decide_eq_false_iff_not]; omega) | simpa using hlq)) ?_
  refine WL_v rfl (ov_pickT rfl rfl) ?_
  refine WL_nil ?_
  refine WT_condF rfl ?_
  refine WT_exit rfl ?_
  refine WT_region ?_
  refine WL_v rfl (ov_move rfl) ?_
  refine WL_v rfl (ov_move rfl) ?_
  refine WL_v rfl (ov_move rfl) ?_
  refine WL_v rfl (ov_nilCheck rfl) ?_
  refine WL_v rfl (ov_load rfl one_p_impl_placeLink (hc)) ?_
  refine WL_v rfl (ov_build rfl (run_build_pl _ _)) ?_
  refine WL_box _ rfl hH rfl rfl ?_; rintro nb w2 hH2
  refine WL_v rfl (ov_nilCheck rfl) ?_
  refine WL_store hH2 rfl rfl (i := i + 1) hidx rfl ho rfl sz_p_impl_placeLink ?_; rintro w3 hH3
  refine WL_nil ?_
  exact WT_end0 Try.func83 Try.results83 ⟨rfl, us.take s ++ nb :: us[s] :: us.drop (s + 1), by rw [hdone hge, hdp]; simp [hl], by
      rw [hdone hge]
      exact hput nb q _ rfl hH3⟩
end
end Go.Proofs.Ytmcedghgincaaaa
