/- Walks: the laws' own helpers: sizes, copies, equality. -/
import Derived.Test.YtmcedghgincaaaaWkB
import Derived.Test.YtmcedghgincaaaaPlC
namespace Go.Proofs.Ytmcedghgincaaaa
open Go.RowKit

section
variable {h : GH} {Ls : List Heaplet} {w : World}

/-- A list of numbers that reads so: shared or one's own. -/
structure RdL (h : GH) (Ls : List Heaplet) (v : Value) (xs : List Int) : Prop where
  sl : Sl v xs.length
  cell : ∀ {w}, H w h Ls → ∀ {j} (hj : j < xs.length), w.cell? ((slA v).add (j * 1)) = some (.int .i64 xs[j])
theorem Ints.rdl {v : Value} {xs : List Int} (hI : Ints h v xs) (Ls : List Heaplet) : RdL h Ls v xs := ⟨hI.sl, fun hH _ hj => hI.cell hH hj⟩
theorem IRow.rdl {X : Heaplet} {e : TypeId} {v : Value} {xs : List Int} (hI : IRow X e v xs) {i : Nat} (hi : Ls[i]? = some X) : RdL h Ls v xs := ⟨hI.sl, fun hH _ hj => hI.cell hH hi hj⟩

theorem eqIntS_ok (hH : H w h Ls) {av bv : Value} {xs ys : List Int} (hA : RdL h Ls av xs) (hB : RdL h Ls bv ys) : Rets Try.prog 36 #[av, bv] w fun v w' => v = .bool (decide (xs = ys)) ∧ H w' h Ls := by
  have hal := hA.sl.lim
  refine rets_enter Try.func36 rfl Try.ntmps36 (by simp) ?_
  refine WT_seq ?_
  refine WT_region ?_
  refine WL_v rfl (ov_assign rfl) ?_
  refine WL_nil ?_
  refine WT_seq ?_
  refine WT_seq ?_
  refine WT_region ?_
  refine WL_v rfl (ov_move rfl) ?_
  refine WL_v rfl (ov_len rfl hA.sl st_sl_int) ?_
  refine WL_v rfl (ov_move rfl) ?_
  refine WL_v rfl (ov_len rfl hB.sl st_sl_int) ?_
  refine WL_v rfl (ov_neq rfl rfl) ?_
  refine WL_nil ?_
  refine WT_cond rfl (fun hne => ?_) (fun hne => ?_)
  · skip
    first | with_reducible replace hne := of_decide_eq_true hne | with_reducible replace hne := bn_T hne | with_reducible replace hne := bb_T hne | skip
    refine WT_seq ?_
    refine WT_region ?_
    refine WL_v rfl (ov_assign rfl) ?_
    refine WL_nil ?_
    exact WT_ret1 Try.func36 Try.results36 rfl ⟨congrArg Value.bool (decide_eq_false fun h => by subst h; exact hne rfl).symm, hH⟩
  first | with_reducible replace hne := of_decide_eq_false hne | with_reducible replace hne := bn_F hne | with_reducible replace hne := bb_F hne | skip
  have hlen : xs.length = ys.length := by omega
  refine WT_skip ?_
  refine WT_seq ?_
  refine WT_seq ?_
  refine WT_region ?_
  refine WL_v rfl (ov_assign rfl) ?_
  refine WL_nil ?_
  refine WT_block ?_
  refine WT_while (fun s : Nat => [(0, av), (1, bv), (5, .int .i64 (s : Int))]) (fun k w => k ≤ xs.length ∧ (∀ j (_ : j < k) (h1 : j < xs.length) (h2 : j < ys.length), xs[j] = ys[j]) ∧ H w h Ls) (fun k => xs.length - k) 0 (by repeat (first | exact trivial | refine ⟨rfl, ?_⟩)) ⟨by omega, by omega, hH⟩ ?_
  clear hH
  rintro k w2 ⟨hk, hall, hH1⟩ again
  refine WT_seq ?_
  refine WT_seq ?_
  refine WT_region ?_
  refine WL_v rfl (ov_move rfl) ?_
  refine WL_v rfl (ov_move rfl) ?_
  refine WL_v rfl (ov_len rfl hA.sl st_sl_int) ?_
  refine WL_v rfl (ov_lss rfl rfl) ?_
  refine WL_nil ?_
  refine WT_cond rfl (fun hc => ?_) (fun hc => ?_)
  · skip
    first | with_reducible replace hc := of_decide_eq_true hc | with_reducible replace hc := bn_T hc | with_reducible replace hc := bb_T hc | skip
    have hkx : k < xs.length := by omega
    have hky : k < ys.length := by omega
    refine WT_skip ?_
    refine WT_seq ?_
    refine WT_block ?_
    refine WT_seq ?_
    refine WT_quiet mixed (by kernel_rfl) hH1 ?_
    clear hH1
    refine WQ_v rfl (fun _ _ => ov_move rfl) ?_
    refine WQ_v rfl (fun _ _ => ov_move rfl) ?_
    refine WQ_v rfl (fun _ _ => ov_index rfl rfl st_sl_int hA.sl hkx) ?_
    refine WQ_v rfl (fun _ hH => ov_load rfl one_int (hA.cell hH hkx)) ?_
    refine WQ_v rfl (fun _ _ => ov_move rfl) ?_
    refine WQ_v rfl (fun _ _ => ov_move rfl) ?_
    refine WQ_v rfl (fun _ _ => ov_index rfl rfl st_sl_int hB.sl hky) ?_
    refine WQ_v rfl (fun _ hH => ov_load rfl one_int (hB.cell hH hky)) ?_
    refine WQ_v rfl (fun _ _ => ov_neq rfl rfl) ?_
    refine WQ_nil ?_
    intro w3 hH1
    refine WT_cond rfl (fun hne => ?_) (fun hne => ?_)
    · skip
      first | with_reducible replace hne := of_decide_eq_true hne | with_reducible replace hne := bn_T hne | with_reducible replace hne := bb_T hne | skip
      refine WT_seq ?_
      refine WT_region ?_
      refine WL_v rfl (ov_assign rfl) ?_
      refine WL_nil ?_
      exact WT_ret1 Try.func36 Try.results36 rfl ⟨congrArg Value.bool (decide_eq_false fun h => by subst h; exact hne rfl).symm, hH1⟩
    first | with_reducible replace hne := of_decide_eq_false hne | with_reducible replace hne := bn_F hne | with_reducible replace hne := bb_F hne | skip
    refine WT_skip ?_
    refine WT_inBlock ?_
    refine WT_region ?_
    refine WL_v rfl (ov_move rfl) ?_
    refine WL_v rfl (ov_add rfl rfl (by omega)) ?_
    refine WL_v rfl (ov_assign rfl) ?_
    refine WL_nil ?_
    refine again (k + 1) _ _ (by omega) (by repeat (first | exact trivial | refine ⟨rfl, ?_⟩)) ⟨by omega, fun j hj h1 h2 => ?_, hH1⟩
    rcases Nat.lt_or_ge j k with h3 | h3
    · exact hall j h3 h1 h2
    · obtain rfl : j = k := by omega
      simpa using hne
  first | with_reducible replace hc := of_decide_eq_false hc | with_reducible replace hc := bn_F hc | with_reducible replace hc := bb_F hc | skip
  obtain rfl : k = xs.length := by omega
  refine WT_exit rfl ?_
  refine WT_seq ?_
  refine WT_region ?_
  refine WL_v rfl (ov_assign rfl) ?_
  refine WL_nil ?_
  exact WT_ret1 Try.func36 Try.results36 rfl ⟨congrArg Value.bool (decide_eq_true (List.ext_getElem hlen fun j h1 h2 => hall j h1 h1 h2)).symm, hH1⟩

theorem toIntS_ok (hH : H w h Ls) {av : Value} {xs : List Int} (hA : Ints h av xs) (hl : xs.length ≤ 1048576) : Rets Try.prog 60 #[av] w fun v w' => ∃ X, IRow X 3 v xs ∧ H w' h (X :: Ls) := by
  refine rets_enter Try.func60 rfl Try.ntmps60 (by simp) ?_
  refine WT_seq ?_
  refine WT_region ?_
  refine WL_v rfl (ov_assign rfl) ?_
  refine WL_nil ?_
  refine WT_seq ?_
  refine WT_region ?_
  refine WL_v rfl (ov_move rfl) ?_
  refine WL_v rfl (ov_len rfl hA.sl st_sl_int) ?_
  refine WL_makeI rfl hH rfl rfl st_sl_int (by omega) (by omega) ?_; rintro X0 sv w1 hX0 hH1
  refine WL_v rfl (ov_assign rfl) ?_
  refine WL_nil ?_
  refine WT_seq ?_
  refine WT_seq ?_
  refine WT_region ?_
  refine WL_v rfl (ov_assign rfl) ?_
  refine WL_nil ?_
  refine WT_block ?_
  refine WT_while (fun s : Nat => [(0, av), (3, sv), (4, .int .i64 (s : Int))]) (fun k w => k ≤ xs.length ∧ ∃ X, IRow X 3 sv (xs.take k ++ List.replicate (xs.length - k) 0) ∧ H w h (X :: Ls)) (fun k => xs.length - k) 0 (by repeat (first | exact trivial | refine ⟨rfl, ?_⟩)) ⟨by omega, X0, by simpa using hX0, hH1⟩ ?_
  clear hH hH1 hX0
  rintro k w2 ⟨hk, X, hX, hH1⟩ again
  refine WT_seq ?_
  refine WT_seq ?_
  refine WT_region ?_
  refine WL_v rfl (ov_move rfl) ?_
  refine WL_v rfl (ov_move rfl) ?_
  refine WL_v rfl (ov_len rfl hA.sl st_sl_int) ?_
  refine WL_v rfl (ov_lss rfl rfl) ?_
  refine WL_nil ?_
  refine WT_cond rfl (fun hc => ?_) (fun hc => ?_)
  · skip
    first | with_reducible replace hc := of_decide_eq_true hc | with_reducible replace hc := bn_T hc | with_reducible replace hc := bb_T hc | skip
    have hkx : k < xs.length := by omega
    have hkl : k < (xs.take k ++ List.replicate (xs.length - k) (0 : Int)).length := by simp; omega
    refine WT_skip ?_
    refine WT_seq ?_
    refine WT_block ?_
    refine WT_region ?_
    refine WL_v rfl (ov_move rfl) ?_
    refine WL_v rfl (ov_move rfl) ?_
    refine WL_v rfl (ov_move rfl) ?_
    refine WL_v rfl (ov_move rfl) ?_
    refine WL_v rfl (ov_index rfl rfl st_sl_int hA.sl hkx) ?_
    refine WL_v rfl (ov_load rfl one_int (hA.cell hH1 hkx)) ?_
    refine WL_v rfl (ov_index rfl rfl st_sl_int hX.sl hkl) ?_
    refine WL_storeI hH1 rfl rfl (i := 0) rfl hX hkl sz_int ?_; rintro X2 w3 hX2 hH3
    refine WL_nil ?_
    refine WT_inBlock ?_
    refine WT_region ?_
    refine WL_v rfl (ov_move rfl) ?_
    refine WL_v rfl (ov_add rfl rfl (by omega)) ?_
    refine WL_v rfl (ov_assign rfl) ?_
    refine WL_nil ?_
    refine again (k + 1) _ _ (by omega) (by repeat (first | exact trivial | refine ⟨rfl, ?_⟩)) ⟨by omega, X2, ?_, hH3⟩
    have h1 : (xs.take k ++ List.replicate (xs.length - k) (0 : Int)).set k xs[k] = xs.take (k + 1) ++ List.replicate (xs.length - (k + 1)) 0 := by
      have h0 : k - (xs.take k).length = 0 := by rw [List.length_take]; omega
      rw [List.set_append_right _ _ (by rw [List.length_take]; omega), show xs.length - k = (xs.length - (k + 1)) + 1 by omega, List.replicate_succ, h0, List.set_cons_zero, List.take_succ_eq_append_getElem hkx, List.append_assoc]
      rfl
    rw [h1] at hX2
    exact hX2
  first | with_reducible replace hc := of_decide_eq_false hc | with_reducible replace hc := bn_F hc | with_reducible replace hc := bb_F hc | skip
  obtain rfl : k = xs.length := by omega
  refine WT_exit rfl ?_
  refine WT_seq ?_
  refine WT_region ?_
  refine WL_v rfl (ov_move rfl) ?_
  refine WL_v rfl (ov_assign rfl) ?_
  refine WL_nil ?_
  exact WT_ret1 Try.func60 Try.results60 rfl ⟨X, by simpa using hX, hH1⟩

theorem szIntS_ok (hH : H w h Ls) {av : Value} {xs : List Int} (hA : Ints h av xs) {r : Int} (hr : 0 ≤ r ∧ r ≤ 1048576) : Rets Try.prog 108 #[av, .int .i64 r] w fun v w' => ∃ s : Int, v = .int .i64 s ∧ s ≤ r ∧ (s = -1 ∨ (0 ≤ s ∧ (xs.length : Int) ≤ r)) ∧ H w' h Ls := by
  have hal := hA.sl.lim
  refine rets_enter Try.func108 rfl Try.ntmps108 (by simp) ?_
  refine WT_seq ?_
  refine WT_region ?_
  refine WL_v rfl (ov_assign rfl) ?_
  refine WL_nil ?_
  refine WT_seq ?_
  refine WT_region ?_
  refine WL_v rfl (ov_move rfl) ?_
  refine WL_v rfl (ov_move rfl) ?_
  refine WL_v rfl (ov_len rfl hA.sl st_sl_int) ?_
  refine WL_v rfl (ov_sub rfl rfl (by omega)) ?_
  refine WL_v rfl (ov_assign rfl) ?_
  refine WL_nil ?_
  refine WT_seq ?_
  refine WT_seq ?_
  refine WT_region ?_
  refine WL_v rfl (ov_move rfl) ?_
  refine WL_v rfl (ov_lss rfl rfl) ?_
  refine WL_nil ?_
  refine WT_cond rfl (fun hne => ?_) (fun hne => ?_)
  · skip
    first | with_reducible replace hne := of_decide_eq_true hne | with_reducible replace hne := bn_T hne | with_reducible replace hne := bb_T hne | skip
    refine WT_seq ?_
    refine WT_region ?_
    refine WL_v rfl (ov_assign rfl) ?_
    refine WL_nil ?_
    exact WT_ret1 Try.func108 Try.results108 rfl ⟨_, rfl, by omega, .inl rfl, hH⟩
  first | with_reducible replace hne := of_decide_eq_false hne | with_reducible replace hne := bn_F hne | with_reducible replace hne := bb_F hne | skip
  refine WT_skip ?_
  refine WT_seq ?_
  refine WT_region ?_
  refine WL_v rfl (ov_move rfl) ?_
  refine WL_v rfl (ov_assign rfl) ?_
  refine WL_nil ?_
  exact WT_ret1 Try.func108 Try.results108 rfl ⟨_, rfl, by omega, .inr ⟨by omega, by omega⟩, hH⟩

theorem szNode_ok (hH : H w h Ls) {xv : Value} {x : Nd} (hx : NdV h xv x) {r : Int} (hr : 0 ≤ r ∧ r ≤ 1048576) : Rets Try.prog 78 #[xv, .int .i64 r] w fun v w' => ∃ s : Int, v = .int .i64 s ∧ s ≤ r ∧ (s = -1 ∨ (0 ≤ s ∧ (x.frm.length : Int) ≤ r ∧ (x.row.length : Int) ≤ r)) ∧ H w' h Ls := by
  obtain ⟨fv, rv, rfl, hf, hrw⟩ := hx
  refine rets_enter Try.func78 rfl Try.ntmps78 (by simp) ?_
  refine WT_seq ?_
  refine WT_region ?_
  refine WL_box _ rfl hH rfl rfl ?_; rintro g w1 hH1
  refine WL_v rfl (ov_assign rfl) ?_
  refine WL_nil ?_
  refine WT_seq ?_
  refine WT_region ?_
  refine WL_v rfl (ov_field rfl fo_laws_Node_1) ?_
  refine WL_v rfl (ov_load rfl one_sl_int (hH1.cb 0 rfl 1)) ?_
  refine WL_v rfl (ov_move rfl) ?_
  refine WL_call rfl rfl cf_laws_szIntS (szIntS_ok hH1 hf hr) ?_; rintro _ w2 ⟨s, rfl, hs1, hs2, hH2⟩
  refine WL_v rfl (ov_assign rfl) ?_
  refine WL_nil ?_
  refine WT_seq ?_
  refine WT_seq ?_
  refine WT_region ?_
  refine WL_v rfl (ov_move rfl) ?_
  refine WL_v rfl (ov_lss rfl rfl) ?_
  refine WL_nil ?_
  refine WT_cond rfl (fun hne => ?_) (fun hne => ?_)
  · skip
    first | with_reducible replace hne := of_decide_eq_true hne | with_reducible replace hne := bn_T hne | with_reducible replace hne := bb_T hne | skip
    refine WT_seq ?_
    refine WT_region ?_
    refine WL_v rfl (ov_assign rfl) ?_
    refine WL_nil ?_
    exact WT_ret1 Try.func78 Try.results78 rfl ⟨_, rfl, by omega, .inl rfl, hH2.drop⟩
  first | with_reducible replace hne := of_decide_eq_false hne | with_reducible replace hne := bn_F hne | with_reducible replace hne := bb_F hne | skip
  refine WT_skip ?_
  refine WT_seq ?_
  refine WT_region ?_
  refine WL_v rfl (ov_field rfl fo_laws_Node_2) ?_
  refine WL_v rfl (ov_load rfl one_sl_int (hH2.cb 0 rfl 2)) ?_
  refine WL_v rfl (ov_move rfl) ?_
  refine WL_call rfl rfl cf_laws_szIntS (szIntS_ok hH2 hrw (show 0 ≤ s ∧ s ≤ 1048576 by omega)) ?_; rintro _ w3 ⟨s2, rfl, hs3, hs4, hH3⟩
  refine WL_v rfl (ov_assign rfl) ?_
  refine WL_nil ?_
  refine WT_seq ?_
  refine WT_seq ?_
  refine WT_region ?_
  refine WL_v rfl (ov_move rfl) ?_
  refine WL_v rfl (ov_lss rfl rfl) ?_
  refine WL_nil ?_
  refine WT_cond rfl (fun hne2 => ?_) (fun hne2 => ?_)
  · skip
    first | with_reducible replace hne2 := of_decide_eq_true hne2 | with_reducible replace hne2 := bn_T hne2 | with_reducible replace hne2 := bb_T hne2 | skip
    refine WT_seq ?_
    refine WT_region ?_
    refine WL_v rfl (ov_assign rfl) ?_
    refine WL_nil ?_
    exact WT_ret1 Try.func78 Try.results78 rfl ⟨_, rfl, by omega, .inl rfl, hH3.drop⟩
  first | with_reducible replace hne2 := of_decide_eq_false hne2 | with_reducible replace hne2 := bn_F hne2 | with_reducible replace hne2 := bb_F hne2 | skip
  refine WT_skip ?_
  refine WT_seq ?_
  refine WT_region ?_
  refine WL_v rfl (ov_move rfl) ?_
  refine WL_v rfl (ov_assign rfl) ?_
  refine WL_nil ?_
  exact WT_ret1 Try.func78 Try.results78 rfl ⟨_, rfl, by omega, .inr ⟨by omega, by omega, by omega⟩, hH3.drop⟩

/-- The value of a node of a plan. -/
theorem Plan.ndV' {pv : Value} {p : List Nd} (hP : Plan h pv p) {i : Nat} (hi : i < p.length) : ∃ f r, NdV h (.agg [.int .i64 p[i].kind, f, r].toArray) p[i] ∧ ∀ w Ls, H w h Ls → ∀ j u, [Value.int .i64 p[i].kind, f, r][j]? = some u → w.cell? (((slA pv).add (i * 3)).add j) = some u := by
  obtain ⟨f, r, h1, h2, h3⟩ := hP.node hi
  exact ⟨f, r, ⟨f, r, rfl, h1, h2⟩, h3⟩

theorem szNodeS_ok (hH : H w h Ls) {pv : Value} {p : List Nd} (hP : Plan h pv p) : Rets Try.prog 32 #[pv, .int .i64 1048576] w fun v w' => ∃ s : Int, v = .int .i64 s ∧ (s = -1 ∨ (0 ≤ s ∧ p.length ≤ 1048576 ∧ ∀ i (hi : i < p.length), p[i].frm.length ≤ 1048576 ∧ p[i].row.length ≤ 1048576)) ∧ H w' h Ls := by
  have hal := hP.sl.lim
  refine rets_enter Try.func32 rfl Try.ntmps32 (by simp) ?_
  refine WT_seq ?_
  refine WT_region ?_
  refine WL_v rfl (ov_assign rfl) ?_
  refine WL_nil ?_
  refine WT_seq ?_
  refine WT_region ?_
  refine WL_v rfl (ov_move rfl) ?_
  refine WL_v rfl (ov_move rfl) ?_
  refine WL_v rfl (ov_len rfl hP.sl st_sl_laws_Node) ?_
  refine WL_v rfl (ov_sub rfl rfl (by omega)) ?_
  refine WL_v rfl (ov_assign rfl) ?_
  refine WL_nil ?_
  refine WT_seq ?_
  refine WT_seq ?_
  refine WT_region ?_
  refine WL_v rfl (ov_move rfl) ?_
  refine WL_v rfl (ov_lss rfl rfl) ?_
  refine WL_nil ?_
  refine WT_cond rfl (fun hne => ?_) (fun hne => ?_)
  · skip
    first | with_reducible replace hne := of_decide_eq_true hne | with_reducible replace hne := bn_T hne | with_reducible replace hne := bb_T hne | skip
    refine WT_seq ?_
    refine WT_region ?_
    refine WL_v rfl (ov_assign rfl) ?_
    refine WL_nil ?_
    exact WT_ret1 Try.func32 Try.results32 rfl ⟨_, rfl, .inl rfl, hH⟩
  first | with_reducible replace hne := of_decide_eq_false hne | with_reducible replace hne := bn_F hne | with_reducible replace hne := bb_F hne | skip
  refine WT_skip ?_
  refine WT_seq ?_
  refine WT_seq ?_
  refine WT_region ?_
  refine WL_v rfl (ov_assign rfl) ?_
  refine WL_nil ?_
  refine WT_block ?_
  refine WT_while (fun s : Nat × Int => [(0, pv), (1, .int .i64 s.2), (5, .int .i64 (s.1 : Int))]) (fun s w => s.1 ≤ p.length ∧ 0 ≤ s.2 ∧ s.2 ≤ 1048576 ∧ (∀ i (_ : i < s.1) (hi : i < p.length), p[i].frm.length ≤ 1048576 ∧ p[i].row.length ≤ 1048576) ∧ H w h Ls) (fun s => p.length - s.1) (0, 1048576 - (p.length : Int)) (by repeat (first | exact trivial | refine ⟨rfl, ?_⟩)) ⟨by omega, by simp only; omega, by simp only; omega, by omega, hH⟩ ?_
  clear hH
  rintro ⟨k, r⟩ w2 ⟨hk, hr1, hr2, hall, hH⟩ again
  simp only at hk hr1 hr2 hall
  refine WT_seq ?_
  refine WT_seq ?_
  refine WT_region ?_
  refine WL_v rfl (ov_move rfl) ?_
  refine WL_v rfl (ov_move rfl) ?_
  refine WL_v rfl (ov_len rfl hP.sl st_sl_laws_Node) ?_
  refine WL_v rfl (ov_lss rfl rfl) ?_
  refine WL_nil ?_
  refine WT_cond rfl (fun hc => ?_) (fun hc => ?_)
  · skip
    first | with_reducible replace hc := of_decide_eq_true hc | with_reducible replace hc := bn_T hc | with_reducible replace hc := bb_T hc | skip
    simp only at hc
    have hkp : k < p.length := by omega
    obtain ⟨fv, rv, hx, hcell⟩ := hP.ndV' hkp
    refine WT_skip ?_
    refine WT_seq ?_
    refine WT_block ?_
    refine WT_seq ?_
    refine WT_region ?_
    refine WL_v rfl (ov_move rfl) ?_
    refine WL_v rfl (ov_move rfl) ?_
    refine WL_v rfl (ov_index rfl rfl st_sl_laws_Node hP.sl hkp) ?_
    refine WL_v rfl (ov_loadN [.int .i64 p[k].kind, fv, rv] rfl agg_laws_Node rfl ((hcell _ _ hH))) ?_
    refine WL_v rfl (ov_move rfl) ?_
    refine WL_call rfl rfl cf_laws_szNode (szNode_ok hH hx (show 0 ≤ r ∧ r ≤ 1048576 from ⟨hr1, hr2⟩)) ?_; rintro _ w3 ⟨s, rfl, hs1, hs2, hH3⟩
    refine WL_v rfl (ov_assign rfl) ?_
    refine WL_nil ?_
    refine WT_seq ?_
    refine WT_region ?_
    refine WL_v rfl (ov_move rfl) ?_
    refine WL_v rfl (ov_lss rfl rfl) ?_
    refine WL_nil ?_
    refine WT_cond rfl (fun hne2 => ?_) (fun hne2 => ?_)
    · skip
      first | with_reducible replace hne2 := of_decide_eq_true hne2 | with_reducible replace hne2 := bn_T hne2 | with_reducible replace hne2 := bb_T hne2 | skip
      refine WT_seq ?_
      refine WT_region ?_
      refine WL_v rfl (ov_assign rfl) ?_
      refine WL_nil ?_
      exact WT_ret1 Try.func32 Try.results32 rfl ⟨_, rfl, .inl rfl, hH3⟩
    first | with_reducible replace hne2 := of_decide_eq_false hne2 | with_reducible replace hne2 := bn_F hne2 | with_reducible replace hne2 := bb_F hne2 | skip
    refine WT_skip ?_
    refine WT_inBlock ?_
    refine WT_region ?_
    refine WL_v rfl (ov_move rfl) ?_
    refine WL_v rfl (ov_add rfl rfl (by omega)) ?_
    refine WL_v rfl (ov_assign rfl) ?_
    refine WL_nil ?_
    refine again (k + 1, s) _ _ (by simp only; omega) (by repeat (first | exact trivial | refine ⟨rfl, ?_⟩)) ⟨by simp only; omega, by simp only; omega, by simp only; omega, fun i hi hil => ?_, hH3⟩
    simp only at hi
    rcases Nat.lt_or_ge i k with h3 | h3
    · exact hall i h3 hil
    · obtain rfl : i = k := by omega
      omega
  first | with_reducible replace hc := of_decide_eq_false hc | with_reducible replace hc := bn_F hc | with_reducible replace hc := bb_F hc | skip
  simp only at hc
  obtain rfl : k = p.length := by omega
  refine WT_exit rfl ?_
  refine WT_seq ?_
  refine WT_region ?_
  refine WL_v rfl (ov_move rfl) ?_
  refine WL_v rfl (ov_assign rfl) ?_
  refine WL_nil ?_
  exact WT_ret1 Try.func32 Try.results32 rfl ⟨_, rfl, .inr ⟨hr1, by omega, fun i hi => hall i hi hi⟩, hH⟩

theorem eqNode_ok (hH : H w h Ls) {xv yv : Value} {x y : Nd} (hx : NdV h xv x) (hy : NdV h yv y) : Rets Try.prog 85 #[xv, yv] w fun v w' => v = .bool (decide (x = y)) ∧ H w' h Ls := by
  obtain ⟨fv, rv, rfl, hf, hr⟩ := hx
  obtain ⟨fv2, rv2, rfl, hf2, hr2⟩ := hy
  refine rets_enter Try.func85 rfl Try.ntmps85 (by simp) ?_
  refine WT_seq ?_
  refine WT_region ?_
  refine WL_box _ rfl hH rfl rfl ?_; rintro g w1 hH1
  refine WL_box _ rfl hH1 rfl rfl ?_; rintro g2 w2 hH2
  refine WL_v rfl (ov_assign rfl) ?_
  refine WL_nil ?_
  refine WT_seq ?_
  refine WT_seq ?_
  refine WT_region ?_
  refine WL_v rfl (ov_field rfl fo_impl_Node_0) ?_
  refine WL_v rfl (ov_load rfl one_int (hH2.cb 1 rfl 0)) ?_
  refine WL_v rfl (ov_field rfl fo_impl_Node_0) ?_
  refine WL_v rfl (ov_load rfl one_int (hH2.cb 0 rfl 0)) ?_
  refine WL_v rfl (ov_neq rfl rfl) ?_
  refine WL_nil ?_
  refine WT_cond rfl (fun hne => ?_) (fun hne => ?_)
  · skip
    first | with_reducible replace hne := of_decide_eq_true hne | with_reducible replace hne := bn_T hne | with_reducible replace hne := bb_T hne | skip
    refine WT_seq ?_
    refine WT_region ?_
    refine WL_v rfl (ov_assign rfl) ?_
    refine WL_nil ?_
    exact WT_ret1 Try.func85 Try.results85 rfl ⟨congrArg Value.bool (decide_eq_false fun h => by subst h; exact hne rfl).symm, hH2.drop.drop⟩
  first | with_reducible replace hne := of_decide_eq_false hne | with_reducible replace hne := bn_F hne | with_reducible replace hne := bb_F hne | skip
  refine WT_skip ?_
  refine WT_seq ?_
  refine WT_seq ?_
  refine WT_region ?_
  refine WL_v rfl (ov_field rfl fo_impl_Node_1) ?_
  refine WL_v rfl (ov_load rfl one_sl_int (hH2.cb 1 rfl 1)) ?_
  refine WL_v rfl (ov_field rfl fo_impl_Node_1) ?_
  refine WL_v rfl (ov_load rfl one_sl_int (hH2.cb 0 rfl 1)) ?_
  refine WL_call rfl rfl cf_laws_eqIntS (eqIntS_ok hH2 (hf.rdl _) (hf2.rdl _)) ?_; rintro _ w3 ⟨rfl, hH3⟩
  refine WL_v rfl (ov_not rfl) ?_
  refine WL_nil ?_
  refine WT_cond rfl (fun hne2 => ?_) (fun hne2 => ?_)
  · skip
    first | with_reducible replace hne2 := of_decide_eq_true hne2 | with_reducible replace hne2 := bn_T hne2 | with_reducible replace hne2 := bb_T hne2 | skip
    refine WT_seq ?_
    refine WT_region ?_
    refine WL_v rfl (ov_assign rfl) ?_
    refine WL_nil ?_
    exact WT_ret1 Try.func85 Try.results85 rfl ⟨congrArg Value.bool (decide_eq_false fun h => by subst h; simp at hne2).symm, hH3.drop.drop⟩
  first | with_reducible replace hne2 := of_decide_eq_false hne2 | with_reducible replace hne2 := bn_F hne2 | with_reducible replace hne2 := bb_F hne2 | skip
  refine WT_skip ?_
  refine WT_seq ?_
  refine WT_seq ?_
  refine WT_region ?_
  refine WL_v rfl (ov_field rfl fo_impl_Node_2) ?_
  refine WL_v rfl (ov_load rfl one_sl_int (hH3.cb 1 rfl 2)) ?_
  refine WL_v rfl (ov_field rfl fo_impl_Node_2) ?_
  refine WL_v rfl (ov_load rfl one_sl_int (hH3.cb 0 rfl 2)) ?_
  refine WL_call rfl rfl cf_laws_eqIntS (eqIntS_ok hH3 (hr.rdl _) (hr2.rdl _)) ?_; rintro _ w4 ⟨rfl, hH4⟩
  refine WL_v rfl (ov_not rfl) ?_
  refine WL_nil ?_
  refine WT_cond rfl (fun hne3 => ?_) (fun hne3 => ?_)
  · skip
    first | with_reducible replace hne3 := of_decide_eq_true hne3 | with_reducible replace hne3 := bn_T hne3 | with_reducible replace hne3 := bb_T hne3 | skip
    refine WT_seq ?_
    refine WT_region ?_
    refine WL_v rfl (ov_assign rfl) ?_
    refine WL_nil ?_
    exact WT_ret1 Try.func85 Try.results85 rfl ⟨congrArg Value.bool (decide_eq_false fun h => by subst h; simp at hne3).symm, hH4.drop.drop⟩
  first | with_reducible replace hne3 := of_decide_eq_false hne3 | with_reducible replace hne3 := bn_F hne3 | with_reducible replace hne3 := bb_F hne3 | skip
  refine WT_skip ?_
  refine WT_seq ?_
  refine WT_region ?_
  refine WL_v rfl (ov_assign rfl) ?_
  refine WL_nil ?_

  exact WT_ret1 Try.func85 Try.results85 rfl ⟨congrArg Value.bool (decide_eq_true (by cases x; cases y; simp_all)).symm, hH4.drop.drop⟩

theorem eqNodeS_ok (hH : H w h Ls) {av bv : Value} {p q : List Nd} (hA : Plan h av p) (hB : Plan h bv q) : Rets Try.prog 37 #[av, bv] w fun v w' => v = .bool (decide (p = q)) ∧ H w' h Ls := by
  have hal := hA.sl.lim
  refine rets_enter Try.func37 rfl Try.ntmps37 (by simp) ?_
  refine WT_seq ?_
  refine WT_region ?_
  refine WL_v rfl (ov_assign rfl) ?_
  refine WL_nil ?_
  refine WT_seq ?_
  refine WT_seq ?_
  refine WT_region ?_
  refine WL_v rfl (ov_move rfl) ?_
  refine WL_v rfl (ov_len rfl hA.sl st_sl_impl_Node) ?_
  refine WL_v rfl (ov_move rfl) ?_
  refine WL_v rfl (ov_len rfl hB.sl st_sl_impl_Node) ?_
  refine WL_v rfl (ov_neq rfl rfl) ?_
  refine WL_nil ?_
  refine WT_cond rfl (fun hne => ?_) (fun hne => ?_)
  · skip
    first | with_reducible replace hne := of_decide_eq_true hne | with_reducible replace hne := bn_T hne | with_reducible replace hne := bb_T hne | skip
    refine WT_seq ?_
    refine WT_region ?_
    refine WL_v rfl (ov_assign rfl) ?_
    refine WL_nil ?_
    exact WT_ret1 Try.func37 Try.results37 rfl ⟨congrArg Value.bool (decide_eq_false fun h => by subst h; exact hne rfl).symm, hH⟩
  first | with_reducible replace hne := of_decide_eq_false hne | with_reducible replace hne := bn_F hne | with_reducible replace hne := bb_F hne | skip
  have hlen : p.length = q.length := by omega
  refine WT_skip ?_
  refine WT_seq ?_
  refine WT_seq ?_
  refine WT_region ?_
  refine WL_v rfl (ov_assign rfl) ?_
  refine WL_nil ?_
  refine WT_block ?_
  refine WT_while (fun s : Nat => [(0, av), (1, bv), (5, .int .i64 (s : Int))]) (fun k w => k ≤ p.length ∧ (∀ j (_ : j < k) (h1 : j < p.length) (h2 : j < q.length), p[j] = q[j]) ∧ H w h Ls) (fun k => p.length - k) 0 (by repeat (first | exact trivial | refine ⟨rfl, ?_⟩)) ⟨by omega, by omega, hH⟩ ?_
  clear hH
  rintro k w2 ⟨hk, hall, hH1⟩ again
  refine WT_seq ?_
  refine WT_seq ?_
  refine WT_region ?_
  refine WL_v rfl (ov_move rfl) ?_
  refine WL_v rfl (ov_move rfl) ?_
  refine WL_v rfl (ov_len rfl hA.sl st_sl_impl_Node) ?_
  refine WL_v rfl (ov_lss rfl rfl) ?_
  refine WL_nil ?_
  refine WT_cond rfl (fun hc => ?_) (fun hc => ?_)
  · skip
    first | with_reducible replace hc := of_decide_eq_true hc | with_reducible replace hc := bn_T hc | with_reducible replace hc := bb_T hc | skip
    have hkx : k < p.length := by omega
    have hky : k < q.length := by omega
    obtain ⟨fv, rv, hx, hcell⟩ := hA.ndV' hkx
    obtain ⟨fv2, rv2, hy, hcell2⟩ := hB.ndV' hky
    refine WT_skip ?_
    refine WT_seq ?_
    refine WT_block ?_
    refine WT_seq ?_
    refine WT_quiet mixed (by kernel_rfl) hH1 ?_
    clear hH1
    refine WQ_v rfl (fun _ _ => ov_move rfl) ?_
    refine WQ_v rfl (fun _ _ => ov_move rfl) ?_
    refine WQ_v rfl (fun _ _ => ov_index rfl rfl st_sl_impl_Node hA.sl hkx) ?_
    refine WQ_v rfl (fun _ hH => ov_loadN [.int .i64 p[k].kind, fv, rv] rfl agg_impl_Node rfl ((hcell _ _ hH))) ?_
    refine WQ_v rfl (fun _ _ => ov_move rfl) ?_
    refine WQ_v rfl (fun _ _ => ov_move rfl) ?_
    refine WQ_v rfl (fun _ _ => ov_index rfl rfl st_sl_impl_Node hB.sl hky) ?_
    refine WQ_v rfl (fun _ hH => ov_loadN [.int .i64 q[k].kind, fv2, rv2] rfl agg_impl_Node rfl ((hcell2 _ _ hH))) ?_
    refine WQ_call rfl rfl cf_laws_eqNode (fun _ hH => eqNode_ok hH hx hy) ?_
    refine WQ_v rfl (fun _ _ => ov_not rfl) ?_
    refine WQ_nil ?_
    intro w3 hH1
    refine WT_cond rfl (fun hne => ?_) (fun hne => ?_)
    · skip
      first | with_reducible replace hne := of_decide_eq_true hne | with_reducible replace hne := bn_T hne | with_reducible replace hne := bb_T hne | skip
      refine WT_seq ?_
      refine WT_region ?_
      refine WL_v rfl (ov_assign rfl) ?_
      refine WL_nil ?_
      exact WT_ret1 Try.func37 Try.results37 rfl ⟨congrArg Value.bool (decide_eq_false fun h => by subst h; simp at hne).symm, hH1⟩
    first | with_reducible replace hne := of_decide_eq_false hne | with_reducible replace hne := bn_F hne | with_reducible replace hne := bb_F hne | skip
    refine WT_skip ?_
    refine WT_inBlock ?_
    refine WT_region ?_
    refine WL_v rfl (ov_move rfl) ?_
    refine WL_v rfl (ov_add rfl rfl (by omega)) ?_
    refine WL_v rfl (ov_assign rfl) ?_
    refine WL_nil ?_
    refine again (k + 1) _ _ (by omega) (by repeat (first | exact trivial | refine ⟨rfl, ?_⟩)) ⟨by omega, fun j hj h1 h2 => ?_, hH1⟩
    rcases Nat.lt_or_ge j k with h3 | h3
    · exact hall j h3 h1 h2
    · obtain rfl : j = k := by omega
      simpa using hne
  first | with_reducible replace hc := of_decide_eq_false hc | with_reducible replace hc := bn_F hc | with_reducible replace hc := bb_F hc | skip
  obtain rfl : k = p.length := by omega
  refine WT_exit rfl ?_
  refine WT_seq ?_
  refine WT_region ?_
  refine WL_v rfl (ov_assign rfl) ?_
  refine WL_nil ?_
  exact WT_ret1 Try.func37 Try.results37 rfl ⟨congrArg Value.bool (decide_eq_true (List.ext_getElem hlen fun j h1 h2 => hall j h1 h1 h2)).symm, hH1⟩
end
end Go.Proofs.Ytmcedghgincaaaa
