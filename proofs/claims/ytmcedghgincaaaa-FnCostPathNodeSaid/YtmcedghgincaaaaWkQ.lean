/- Walks: the laws' marks: all of a list or a plan is written over, and read again. -/
import Derived.Test.YtmcedghgincaaaaWkX
import Derived.Test.YtmcedghgincaaaaWkY
namespace Go.Proofs.Ytmcedghgincaaaa
open Go.RowKit

/-- Numbers from one on. -/
def marks (k : Int) (n : Nat) : List Int := (List.range n).map fun (j : Nat) => k + (j : Int)
theorem marks_len (k : Int) (n : Nat) : (marks k n).length = n := by simp [marks]
theorem marks_succ (k : Int) (n : Nat) : marks k (n + 1) = marks k n ++ [k + (n : Int)] := by simp [marks, List.range_succ]
theorem marks_get {k : Int} {n j : Nat} (h : j < (marks k n).length) : (marks k n)[j] = k + (j : Int) := by simp [marks]

section
variable {h : GH} {Ls : List Heaplet} {w : World}

theorem markIntS_ok {i : Nat} {X : Heaplet} {av : Value} {xs : List Int} (hH : H w h Ls) (hi : Ls[i]? = some X) (hX : IRow X 3 av xs) {k : Int} (hk : 0 ≤ k ∧ k ≤ 4611686018427387904) (hl : xs.length ≤ 1000000000) :
    Rets Try.prog 39 #[av, .int .i64 k] w fun v w' => v = .int .i64 (k + xs.length) ∧ ∃ X', IRow X' 3 av (marks k xs.length) ∧ H w' h (Ls.set i X') := by
  have hil : i < Ls.length := (List.getElem?_eq_some_iff.1 hi).1
  refine rets_enter Try.func39 rfl Try.ntmps39 (by simp) ?_
  refine WT_seq ?_
  refine WT_region ?_
  refine WL_v rfl (ov_assign rfl) ?_
  refine WL_nil ?_
  refine WT_seq ?_
  refine WT_seq ?_
  refine WT_region ?_
  refine WL_v rfl (ov_assign rfl) ?_
  refine WL_nil ?_
  refine WT_block ?_
  refine WT_while (fun s : Nat => [(0, av), (1, .int .i64 (k + (s : Int))), (5, .int .i64 (s : Int))]) (fun s w => s ≤ xs.length ∧ ∃ X, IRow X 3 av (marks k s ++ xs.drop s) ∧ H w h (Ls.set i X)) (fun s => xs.length - s) 0 ⟨rfl, by rw [show k + ((0 : Nat) : Int) = k by omega]; rfl, rfl, trivial⟩ ⟨by omega, X, by simpa [marks] using hX, by
    have : Ls.set i X = Ls := by
      apply List.ext_getElem?
      intro j
      rw [List.getElem?_set]
      split
      · rename_i hij; subst hij; exact hi.symm
      · rfl
    rw [this]; exact hH⟩ ?_
  clear hH hX hi
  rintro s w1 ⟨hs, X, hX, hH⟩ again
  have hlen : (marks k s ++ xs.drop s).length = xs.length := by rw [List.length_append, marks_len, List.length_drop]; omega
  refine WT_seq ?_
  refine WT_seq ?_
  refine WT_region ?_
  refine WL_v rfl (ov_move rfl) ?_
  refine WL_v rfl (ov_move rfl) ?_
  refine WL_v rfl (ov_len rfl (hlen ▸ hX.sl) st_sl_int) ?_
  refine WL_v rfl (ov_lss rfl rfl) ?_
  refine WL_nil ?_
  refine WT_cond rfl (fun hc => ?_) (fun hc => ?_)
  · skip
    first | with_reducible replace hc := of_decide_eq_true hc | with_reducible replace hc := bn_T hc | with_reducible replace hc := bb_T hc | skip
    have hsx : s < xs.length := by omega
    have hsl : s < (marks k s ++ xs.drop s).length := by omega
    refine WT_skip ?_
    refine WT_seq ?_
    refine WT_block ?_
    refine WT_seq ?_
    refine WT_region ?_
    refine WL_v rfl (ov_move rfl) ?_
    refine WL_v rfl (ov_move rfl) ?_
    refine WL_v rfl (ov_move rfl) ?_
    refine WL_v rfl (ov_index rfl rfl st_sl_int hX.sl hsl) ?_
    refine WL_storeI hH rfl rfl (i := i) (X := X) (by rw [List.getElem?_set_self hil]) hX hsl sz_int ?_; rintro X2 w2 hX2 hH2
    refine WL_nil ?_
    refine WT_region ?_
    refine WL_v rfl (ov_move rfl) ?_
    refine WL_v rfl (ov_add rfl rfl (by omega)) ?_
    refine WL_v rfl (ov_assign rfl) ?_
    refine WL_nil ?_
    refine WT_inBlock ?_
    refine WT_region ?_
    refine WL_v rfl (ov_move rfl) ?_
    refine WL_v rfl (ov_add rfl rfl (by omega)) ?_
    refine WL_v rfl (ov_assign rfl) ?_
    refine WL_nil ?_
    refine again (s + 1) _ _ (by omega) ⟨rfl, by rw [show k + ((s + 1 : Nat) : Int) = k + (s : Int) + 1 by omega]; rfl, rfl, trivial⟩ ⟨by omega, X2, ?_, by rw [List.set_set] at hH2; exact hH2⟩
    rw [List.drop_eq_getElem_cons hsx, List.set_append_right _ _ (by rw [marks_len]; omega), marks_len, Nat.sub_self, List.set_cons_zero] at hX2
    rw [marks_succ]
    simpa using hX2
  first | with_reducible replace hc := of_decide_eq_false hc | with_reducible replace hc := bn_F hc | with_reducible replace hc := bb_F hc | skip
  obtain rfl : s = xs.length := by omega
  refine WT_exit rfl ?_
  refine WT_seq ?_
  refine WT_region ?_
  refine WL_v rfl (ov_move rfl) ?_
  refine WL_v rfl (ov_assign rfl) ?_
  refine WL_nil ?_
  exact WT_ret1 Try.func39 Try.results39 rfl ⟨rfl, X, by simpa using hX, hH⟩

theorem heldIntS_ok {av : Value} {k : Int} {n : Nat} (hH : H w h Ls) (hA : RdL h Ls av (marks k n)) (hk : 0 ≤ k ∧ k ≤ 4611686018427387904) (hl : n ≤ 1000000000) :
    Rets Try.prog 40 #[av, .int .i64 k] w fun v w' => v = .int .i64 (k + n) ∧ H w' h Ls := by
  have hlen := marks_len k n
  refine rets_enter Try.func40 rfl Try.ntmps40 (by simp) ?_
  refine WT_seq ?_
  refine WT_region ?_
  refine WL_v rfl (ov_assign rfl) ?_
  refine WL_nil ?_
  refine WT_seq ?_
  refine WT_seq ?_
  refine WT_region ?_
  refine WL_v rfl (ov_assign rfl) ?_
  refine WL_nil ?_
  refine WT_block ?_
  refine WT_while (fun s : Nat => [(0, av), (1, .int .i64 (k + (s : Int))), (5, .int .i64 (s : Int))]) (fun s w => s ≤ n ∧ H w h Ls) (fun s => n - s) 0 ⟨rfl, by rw [show k + ((0 : Nat) : Int) = k by omega]; rfl, rfl, trivial⟩ ⟨by omega, hH⟩ ?_
  clear hH
  rintro s w1 ⟨hs, hH⟩ again
  refine WT_seq ?_
  refine WT_seq ?_
  refine WT_region ?_
  refine WL_v rfl (ov_move rfl) ?_
  refine WL_v rfl (ov_move rfl) ?_
  refine WL_v rfl (ov_len rfl hA.sl st_sl_int) ?_
  refine WL_v rfl (ov_lss rfl rfl) ?_
  refine WL_nil ?_
  refine WT_cond rfl (fun hc => ?_) (fun hc => ?_)
  · skip
    first | with_reducible replace hc := of_decide_eq_true hc | with_reducible replace hc := bn_T hc | with_reducible replace hc := bb_T hc | skip
    have hsl : s < (marks k n).length := by omega
    refine WT_skip ?_
    refine WT_seq ?_
    refine WT_block ?_
    refine WT_seq ?_
    refine WT_seq ?_
    refine WT_region ?_
    refine WL_v rfl (ov_move rfl) ?_
    refine WL_v rfl (ov_move rfl) ?_
    refine WL_v rfl (ov_index rfl rfl st_sl_int hA.sl hsl) ?_
    refine WL_v rfl (ov_load rfl one_int (hA.cell hH hsl)) ?_
    refine WL_v rfl (ov_move rfl) ?_
    refine WL_v rfl (ov_F (ov_neq rfl rfl) (by rw [marks_get hsl]; simp)) ?_
    refine WL_nil ?_
    refine WT_condF rfl ?_
    refine WT_skip ?_
    refine WT_region ?_
    refine WL_v rfl (ov_move rfl) ?_
    refine WL_v rfl (ov_add rfl rfl (by omega)) ?_
    refine WL_v rfl (ov_assign rfl) ?_
    refine WL_nil ?_
    refine WT_inBlock ?_
    refine WT_region ?_
    refine WL_v rfl (ov_move rfl) ?_
    refine WL_v rfl (ov_add rfl rfl (by omega)) ?_
    refine WL_v rfl (ov_assign rfl) ?_
    refine WL_nil ?_
    exact again (s + 1) _ _ (by omega) ⟨rfl, by rw [show k + ((s + 1 : Nat) : Int) = k + (s : Int) + 1 by omega]; rfl, rfl, trivial⟩ ⟨by omega, hH⟩
  first | with_reducible replace hc := of_decide_eq_false hc | with_reducible replace hc := bn_F hc | with_reducible replace hc := bb_F hc | skip
  obtain rfl : s = n := by omega
  refine WT_exit rfl ?_
  refine WT_seq ?_
  refine WT_region ?_
  refine WL_v rfl (ov_move rfl) ?_
  refine WL_v rfl (ov_assign rfl) ?_
  refine WL_nil ?_
  exact WT_ret1 Try.func40 Try.results40 rfl ⟨rfl, hH⟩

/-- A node of a plan of one's own, whatever is in it. -/
def OAtW (Is : List Heaplet) (xs : List Value) (i : Nat) : Prop :=
  ∃ (kv fv rv : Value) (F R : Heaplet) (f r : List Int), xs[i * 3]? = some kv ∧ xs[i * 3 + 1]? = some fv ∧ xs[i * 3 + 2]? = some rv ∧ Is[2 * i]? = some F ∧ Is[2 * i + 1]? = some R ∧ IRow F 3 fv f ∧ IRow R 3 rv r ∧ f.length ≤ 1048576 ∧ r.length ≤ 1048576
theorem OAt.weak {Is : List Heaplet} {xs : List Value} {i : Nat} {x : Nd} (h : OAt Is xs i x) (h1 : x.frm.length ≤ 1048576) (h2 : x.row.length ≤ 1048576) : OAtW Is xs i := by
  obtain ⟨fv, rv, F, R, g1, g2, g3, g4, g5⟩ := h
  exact ⟨_, fv, rv, F, R, _, _, by simpa using g1 0 _ rfl, g1 1 _ rfl, g1 2 _ rfl, g2, g3, g4, g5, h1, h2⟩

theorem markNodeS_ok {O : Heaplet} {Is : List Heaplet} {v : Value} {p : List Nd} (hO : OPlan O Is v p) (hH : H w h (O :: (Is ++ Ls))) (h0 : p.length ≤ 1048576) (h1 : ∀ i (hi : i < p.length), p[i].frm.length ≤ 1048576 ∧ p[i].row.length ≤ 1048576) {k : Int} (hk : 0 ≤ k ∧ k ≤ 1000000000000) :
    Rets Try.prog 38 #[v, .int .i64 k] w fun u w' => ∃ k' : Int, u = .int .i64 k' ∧ k ≤ k' ∧ k' ≤ k + 3000000 * 1048576 ∧ H w' h Ls := by
  obtain ⟨hil, xs, hR, hat⟩ := hO
  have hlim := hR.lim
  refine rets_enter Try.func38 rfl Try.ntmps38 (by simp) ?_
  refine WT_seq ?_
  refine WT_region ?_
  refine WL_v rfl (ov_assign rfl) ?_
  refine WL_nil ?_
  refine WT_seq ?_
  refine WT_seq ?_
  refine WT_region ?_
  refine WL_v rfl (ov_assign rfl) ?_
  refine WL_nil ?_
  refine WT_block ?_
  refine WT_while (fun s : Nat × Int => [(0, v), (1, .int .i64 s.2), (5, .int .i64 (s.1 : Int))]) (fun s w => s.1 ≤ p.length ∧ k ≤ s.2 ∧ s.2 ≤ k + 3000000 * s.1 ∧ ∃ O Is xs, Is.length = 2 * p.length ∧ Row O 58 3 v p.length xs ∧ (∀ i, i < p.length → OAtW Is xs i) ∧ H w h (O :: (Is ++ Ls))) (fun s => p.length - s.1) (0, k) (by repeat (first | exact trivial | refine ⟨rfl, ?_⟩)) ⟨by omega, by simp only; omega, by simp only; omega, O, Is, xs, hil, hR, fun i hi => (hat i hi).weak (h1 i hi).1 (h1 i hi).2, hH⟩ ?_
  clear hH hR hat hil
  rintro ⟨s, m⟩ w1 ⟨hs, hm1, hm2, O, Is, xs, hil, hR, hat, hH⟩ again
  simp only at hs hm1 hm2
  refine WT_seq ?_
  refine WT_seq ?_
  refine WT_region ?_
  refine WL_v rfl (ov_move rfl) ?_
  refine WL_v rfl (ov_move rfl) ?_
  refine WL_v rfl (ov_len rfl hR.sl st_sl_impl_Node) ?_
  refine WL_v rfl (ov_lss rfl rfl) ?_
  refine WL_nil ?_
  refine WT_cond rfl (fun hc => ?_) (fun hc => ?_)
  · skip
    first | with_reducible replace hc := of_decide_eq_true hc | with_reducible replace hc := bn_T hc | with_reducible replace hc := bb_T hc | skip
    simp only at hc
    have hsp : s < p.length := by omega
    have hxl := hR.len
    obtain ⟨kv, fv, rv, F, R, f, r, g0, g1, g2, g3, g4, g5, g6, g7, g8⟩ := hat s hsp
    refine WT_skip ?_
    refine WT_seq ?_
    refine WT_block ?_
    refine WT_seq ?_
    refine WT_region ?_
    refine WL_v rfl (ov_move rfl) ?_
    refine WL_v rfl (ov_move rfl) ?_
    refine WL_v rfl (ov_move rfl) ?_
    refine WL_v rfl (ov_index rfl rfl st_sl_impl_Node hR.sl hsp) ?_
    refine WL_v rfl (ov_field rfl fo_impl_Node_0) ?_
    refine WL_storeRow hH rfl rfl (i := 0) rfl hR (show s * 3 < xs.length by omega) rfl sz_int ?_; rintro O2 w2 hR2 hH2
    refine WL_nil ?_
    refine WT_seq ?_
    refine WT_region ?_
    refine WL_v rfl (ov_move rfl) ?_
    refine WL_v rfl (ov_add rfl rfl (by omega)) ?_
    refine WL_v rfl (ov_assign rfl) ?_
    refine WL_nil ?_
    refine WT_seq ?_
    refine WT_region ?_
    refine WL_v rfl (ov_move rfl) ?_
    refine WL_v rfl (ov_move rfl) ?_
    have hc1 : (xs.set (s * 3) (.int .i64 m))[s * 3 + 1]? = some fv := by rw [List.getElem?_set, if_neg (by omega)]; exact g1
    have hc2 : (xs.set (s * 3) (.int .i64 m))[s * 3 + 2]? = some rv := by rw [List.getElem?_set, if_neg (by omega)]; exact g2
    have hF : (O2 :: (Is ++ Ls))[2 * s + 1]? = some F := by rw [List.getElem?_cons_succ, List.getElem?_append_left (by omega)]; exact g3
    refine WL_v rfl (ov_index rfl rfl st_sl_impl_Node hR2.sl hsp) ?_
    refine WL_v rfl (ov_field rfl fo_impl_Node_1) ?_
    refine WL_v rfl (ov_load rfl one_sl_int (by rw [add_add]; exact hR2.cell hH2 (i := 0) rfl hc1)) ?_
    refine WL_v rfl (ov_move rfl) ?_
    refine WL_call rfl rfl cf_laws_markIntS (markIntS_ok hH2 hF g5 (show 0 ≤ m + 1 ∧ m + 1 ≤ 4611686018427387904 by omega) (by omega)) ?_; rintro _ w3 ⟨rfl, F2, hF2, hH3⟩
    refine WL_v rfl (ov_assign rfl) ?_
    refine WL_nil ?_
    refine WT_region ?_
    refine WL_v rfl (ov_move rfl) ?_
    refine WL_v rfl (ov_move rfl) ?_
    have hH3' : H w3 h (O2 :: (Is.set (2 * s) F2 ++ Ls)) := by
      rw [List.set_cons_zero, List.set_cons_succ, List.set_append_left _ _ (by omega)] at hH3
      exact hH3
    have hRR : (O2 :: (Is.set (2 * s) F2 ++ Ls))[2 * s + 1 + 1]? = some R := by rw [List.getElem?_cons_succ, List.getElem?_append_left (by simp; omega), List.getElem?_set, if_neg (by omega)]; exact g4
    refine WL_v rfl (ov_index rfl rfl st_sl_impl_Node hR2.sl hsp) ?_
    refine WL_v rfl (ov_field rfl fo_impl_Node_2) ?_
    refine WL_v rfl (ov_load rfl one_sl_int (by rw [add_add]; exact hR2.cell hH3' (i := 0) rfl hc2)) ?_
    refine WL_v rfl (ov_move rfl) ?_
    refine WL_call rfl rfl cf_laws_markIntS (markIntS_ok hH3' hRR g6 (show 0 ≤ m + 1 + f.length ∧ m + 1 + f.length ≤ 4611686018427387904 by omega) (by omega)) ?_; rintro _ w4 ⟨rfl, R2, hR3, hH4⟩
    refine WL_v rfl (ov_assign rfl) ?_
    refine WL_nil ?_
    refine WT_inBlock ?_
    refine WT_region ?_
    refine WL_v rfl (ov_move rfl) ?_
    refine WL_v rfl (ov_add rfl rfl (by omega)) ?_
    refine WL_v rfl (ov_assign rfl) ?_
    refine WL_nil ?_
    have hH4' : H w4 h (O2 :: ((Is.set (2 * s) F2).set (2 * s + 1) R2 ++ Ls)) := by
      rw [List.set_cons_succ, List.set_append_left _ _ (by simp; omega)] at hH4
      exact hH4
    refine again (s + 1, m + 1 + f.length + r.length) _ _ (by simp only; omega) (by repeat (first | exact trivial | refine ⟨rfl, ?_⟩)) ⟨by simp only; omega, by simp only; omega, by simp only; omega, O2, _, _, by simp [hil], hR2, fun i hi => ?_, hH4'⟩
    by_cases his : i = s
    · subst his
      refine ⟨_, fv, rv, F2, R2, _, _, by rw [List.getElem?_set, if_pos rfl, if_pos (by omega)], hc1, hc2, ?_, ?_, hF2, hR3, by rw [marks_len]; omega, by rw [marks_len]; omega⟩
      · rw [List.getElem?_set, if_neg (by omega), List.getElem?_set, if_pos rfl, if_pos (by omega)]
      · rw [List.getElem?_set, if_pos rfl, if_pos (by simp; omega)]
    · obtain ⟨kv', fv', rv', F', R', f', r', k0, k1, k2, k3, k4, k5, k6, k7, k8⟩ := hat i hi
      refine ⟨kv', fv', rv', F', R', f', r', ?_, ?_, ?_, ?_, ?_, k5, k6, k7, k8⟩
      · rw [List.getElem?_set, if_neg (by omega)]; exact k0
      · rw [List.getElem?_set, if_neg (by omega)]; exact k1
      · rw [List.getElem?_set, if_neg (by omega)]; exact k2
      · rw [List.getElem?_set, if_neg (by omega), List.getElem?_set, if_neg (by omega)]; exact k3
      · rw [List.getElem?_set, if_neg (by omega), List.getElem?_set, if_neg (by omega)]; exact k4
  first | with_reducible replace hc := of_decide_eq_false hc | with_reducible replace hc := bn_F hc | with_reducible replace hc := bb_F hc | skip
  simp only at hc
  obtain rfl : s = p.length := by omega
  refine WT_exit rfl ?_
  refine WT_seq ?_
  refine WT_region ?_
  refine WL_v rfl (ov_move rfl) ?_
  refine WL_v rfl (ov_assign rfl) ?_
  refine WL_nil ?_
  exact WT_ret1 Try.func38 Try.results38 rfl ⟨m, rfl, by omega, by omega, H.drops _ hH.drop⟩
end
end Go.Proofs.Ytmcedghgincaaaa
