/- Walks: until when rows are needed, how many are kept, whether places fit. -/
import Derived.Test.YtmcedghgincaaaaWkG
import Derived.Test.YtmcedghgincaaaaPlD
namespace Go.Proofs.Ytmcedghgincaaaa
open Go.RowKit

section
variable {h : GH} {Ls : List Heaplet} {w : World}

theorem bufferEnds_ok (hH : H w h Ls) {pv : Value} {p : List Nd} (hP : Plan h pv p) : Rets Try.prog 82 #[pv] w fun v w' => ∃ X, IRow X 3 v (if planOk p then endsTo p p.length else []) ∧ H w' h (X :: Ls) := by
  refine rets_enter Try.func82 rfl Try.ntmps82 (by simp) ?_
  refine WT_seq ?_
  refine WT_region ?_
  refine WL_v rfl (ov_assign rfl) ?_
  refine WL_nil ?_
  refine WT_seq ?_
  refine WT_seq ?_
  refine WT_region ?_
  refine WL_v rfl (ov_move rfl) ?_
  refine WL_call rfl rfl cf_impl_PlanValid (planValid_ok hH hP) ?_; rintro _ w1 ⟨rfl, hH1⟩
  refine WL_v rfl (ov_not rfl) ?_
  refine WL_nil ?_
  refine WT_cond rfl (fun hv => ?_) (fun hv => ?_)
  · skip
    first | with_reducible replace hv := of_decide_eq_true hv | with_reducible replace hv := bn_T hv | with_reducible replace hv := bb_T hv | skip
    refine WT_seq ?_
    refine WT_region ?_
    refine WL_v rfl (ov_assign rfl) ?_
    refine WL_nil ?_
    exact WT_ret1 Try.func82 Try.results82 rfl ⟨[], by rw [hv]; exact IRow.nil _, hH1.nilIn⟩
  first | with_reducible replace hv := of_decide_eq_false hv | with_reducible replace hv := bn_F hv | with_reducible replace hv := bb_F hv | skip
  have hlen := PlanOk.len hv
  refine WT_skip ?_
  refine WT_seq ?_
  refine WT_region ?_
  refine WL_v rfl (ov_move rfl) ?_
  refine WL_v rfl (ov_len rfl hP.sl st_sl_impl_Node) ?_
  refine WL_makeI rfl hH1 rfl rfl st_sl_int (by omega) (by omega) ?_; rintro X0 ev w2 hX0 hH2
  refine WL_v rfl (ov_assign rfl) ?_
  refine WL_nil ?_
  refine WT_seq ?_
  refine WT_seq ?_
  refine WT_region ?_
  refine WL_v rfl (ov_move rfl) ?_
  refine WL_v rfl (ov_len rfl hP.sl st_sl_impl_Node) ?_
  refine WL_v rfl (ov_move rfl) ?_
  refine WL_nil ?_
  refine WT_block ?_
  refine WT_while (fun s : Nat => [(0, pv), (3, ev), (14, pv), (15, .int .i64 (p.length : Int)), (16, .int .i64 (s : Int))]) (fun k w => k ≤ p.length ∧ ∃ X, IRow X 3 ev (endsTo p k ++ List.replicate (p.length - k) 0) ∧ H w h (X :: Ls)) (fun k => p.length - k) 0 (by repeat (first | exact trivial | refine ⟨rfl, ?_⟩)) ⟨by omega, X0, by simpa [endsTo] using hX0, hH2⟩ ?_
  clear hH hH1 hH2 hX0
  rintro k w3 ⟨hk, X, hX, hH⟩ again
  refine WT_seq ?_
  refine WT_region ?_
  refine WL_v rfl (ov_lss rfl rfl) ?_
  refine WL_nil ?_
  refine WT_seq ?_
  refine WT_cond rfl (fun hc => ?_) (fun hc => ?_)
  · skip
    first | with_reducible replace hc := of_decide_eq_true hc | with_reducible replace hc := bn_T hc | with_reducible replace hc := bb_T hc | skip
    have hkp : k < p.length := by omega
    obtain ⟨fv, rv, hf, hr, hcell⟩ := hP.node hkp
    have hN := PlanOk.node hv hkp
    have hel := endsTo_len p k
    have hrep : List.replicate (p.length - k) (0 : Int) = 0 :: List.replicate (p.length - (k + 1)) 0 := by
      rw [show p.length - k = (p.length - (k + 1)) + 1 by omega, List.replicate_succ]
    rw [hrep] at hX
    have hkl : k < (endsTo p k ++ (0 : Int) :: List.replicate (p.length - (k + 1)) 0).length := by simp [hel]
    have hfl := hf.sl.lim
    refine WT_skip ?_
    refine WT_seq ?_
    refine WT_block ?_
    refine WT_seq ?_
    refine WT_region ?_
    refine WL_v rfl (ov_move rfl) ?_
    refine WL_v rfl (ov_index rfl rfl st_sl_impl_Node hP.sl hkp) ?_
    refine WL_v rfl (ov_loadN [.int .i64 p[k].kind, fv, rv] rfl agg_impl_Node rfl ((hcell _ _ hH))) ?_
    refine WL_alloc _ rfl hH zero_impl_Node rfl ?_; rintro g w4 hH4
    refine WL_v rfl (ov_assign rfl) ?_
    refine WL_storeN hH4 rfl rfl (i := 0) rfl rfl rfl (ones_cons rfl (ones_cons hf.sl.one (ones_cons hr.sl.one ones_nil))) sz_impl_Node ?_; rintro w5 hH5
    refine WL_nil ?_
    refine WT_seq ?_
    refine WT_region ?_
    refine WL_v rfl (ov_move rfl) ?_
    refine WL_v rfl (ov_move rfl) ?_
    refine WL_v rfl (ov_move rfl) ?_
    refine WL_v rfl (ov_index rfl rfl st_sl_int hX.sl hkl) ?_
    refine WL_storeI hH5 rfl rfl (i := 1) rfl hX hkl sz_int ?_; rintro X2 w6 hX2 hH6
    refine WL_nil ?_
    refine WT_seq ?_
    refine WT_region ?_
    refine WL_v rfl (ov_field rfl fo_impl_Node_1) ?_
    refine WL_v rfl (ov_load rfl one_sl_int (hH6.cb 0 rfl 1)) ?_
    refine WL_v rfl (ov_len rfl hf.sl st_sl_int) ?_
    refine WL_v rfl (ov_move rfl) ?_
    refine WL_nil ?_
    refine WT_block ?_
    have hX3 : IRow X2 3 ev (setAll (endsTo p k ++ [(k : Int)]) k (p[k].frm.take 0) ++ List.replicate (p.length - (k + 1)) 0) := by
      rw [set_mid _ _ _ _ _ hel] at hX2
      simpa [setAll] using hX2
    refine WT_while (fun s : Nat => [(0, pv), (3, ev), (4, .int .i64 (k : Int)), (14, pv), (15, .int .i64 (p.length : Int)), (16, .int .i64 (k : Int)), (26, fv), (27, .int .i64 (p[k].frm.length : Int)), (28, .int .i64 (s : Int))])
      (fun j w => j ≤ p[k].frm.length ∧ ∃ X, IRow X 3 ev (setAll (endsTo p k ++ [(k : Int)]) k (p[k].frm.take j) ++ List.replicate (p.length - (k + 1)) 0) ∧ H w h ([(g, .cells #[.int .i64 p[k].kind, fv, rv] 58 (0, 0))] :: X :: Ls))
      (fun j => p[k].frm.length - j) 0 (by repeat (first | exact trivial | refine ⟨rfl, ?_⟩)) ⟨by omega, X2, hX3, hH6⟩ ?_
    clear hH hH4 hH5 hH6 hX hX2 hX3
    rintro j w7 ⟨hj, X3, hX3, hH7⟩ again2
    refine WT_seq ?_
    refine WT_region ?_
    refine WL_v rfl (ov_lss rfl rfl) ?_
    refine WL_nil ?_
    refine WT_seq ?_
    refine WT_cond rfl (fun hc2 => ?_) (fun hc2 => ?_)
    · skip
      first | with_reducible replace hc2 := of_decide_eq_true hc2 | with_reducible replace hc2 := bn_T hc2 | with_reducible replace hc2 := bb_T hc2 | skip
      have hjl : j < p[k].frm.length := by omega
      have hfb := hN.frm p[k].frm[j] (List.getElem_mem hjl)
      obtain ⟨fn, hfn⟩ := Int.eq_ofNat_of_zero_le hfb.1
      have hsl : (setAll (endsTo p k ++ [(k : Int)]) k (p[k].frm.take j)).length = k + 1 := by simp [setAll_len, hel]
      have hfl2 : fn < (setAll (endsTo p k ++ [(k : Int)]) k (p[k].frm.take j) ++ List.replicate (p.length - (k + 1)) (0 : Int)).length := by rw [List.length_append, hsl]; omega
      refine WT_skip ?_
      refine WT_seq ?_
      refine WT_block ?_
      refine WT_seq ?_
      refine WT_region ?_
      refine WL_v rfl (ov_index rfl rfl st_sl_int hf.sl hjl) ?_
      refine WL_v rfl (ov_load rfl one_int (hf.cell hH7 hjl)) ?_; rw [hfn]
      refine WL_v rfl (ov_assign rfl) ?_
      refine WL_nil ?_
      refine WT_region ?_
      refine WL_v rfl (ov_move rfl) ?_
      refine WL_v rfl (ov_move rfl) ?_
      refine WL_v rfl (ov_move rfl) ?_
      refine WL_v rfl (ov_index rfl rfl st_sl_int hX3.sl hfl2) ?_
      refine WL_storeI hH7 rfl rfl (i := 1) rfl hX3 hfl2 sz_int ?_; rintro X4 w8 hX4 hH8
      refine WL_nil ?_
      refine WT_inBlock ?_
      refine WT_region ?_
      refine WL_v rfl (ov_add rfl rfl (by omega)) ?_
      refine WL_v rfl (ov_move rfl) ?_
      refine WL_nil ?_
      refine again2 (j + 1) _ _ (by omega) (by repeat (first | exact trivial | refine ⟨rfl, ?_⟩)) ⟨by omega, X4, ?_, hH8⟩
      rw [List.set_append_left _ _ (by omega)] at hX4
      rw [List.take_succ_eq_append_getElem hjl, setAll_snoc, hfn]
      exact hX4
    first | with_reducible replace hc2 := of_decide_eq_false hc2 | with_reducible replace hc2 := bn_F hc2 | with_reducible replace hc2 := bb_F hc2 | skip
    obtain rfl : j = p[k].frm.length := by omega
    rw [List.take_length] at hX3
    refine WT_exit rfl ?_
    refine WT_inBlock ?_
    refine WT_region ?_
    refine WL_v rfl (ov_add rfl rfl (by omega)) ?_
    refine WL_v rfl (ov_move rfl) ?_
    refine WL_nil ?_
    refine again (k + 1) _ _ (by omega) (by repeat (first | exact trivial | refine ⟨rfl, ?_⟩)) ⟨by omega, X3, ?_, hH7.drop⟩
    rw [endsTo, getD_of hkp]
    exact hX3
  first | with_reducible replace hc := of_decide_eq_false hc | with_reducible replace hc := bn_F hc | with_reducible replace hc := bb_F hc | skip
  obtain rfl : k = p.length := by omega
  refine WT_exit rfl ?_
  refine WT_seq ?_
  refine WT_region ?_
  refine WL_v rfl (ov_move rfl) ?_
  refine WL_v rfl (ov_assign rfl) ?_
  refine WL_nil ?_
  exact WT_ret1 Try.func82 Try.results82 rfl ⟨X, by rw [if_pos hv]; simpa using hX, hH⟩

theorem l32Ends_ok (hH : H w h Ls) {pv : Value} {p : List Nd} (hP : Plan h pv p) (hv : planOk p = true) : Rets Try.prog 79 #[pv] w fun v w' => ∃ X, IRow X 3 v (endsTo p p.length) ∧ H w' h (X :: Ls) := by
  have hlen := PlanOk.len hv
  refine rets_enter Try.func79 rfl Try.ntmps79 (by simp) ?_
  refine WT_seq ?_
  refine WT_region ?_
  refine WL_v rfl (ov_assign rfl) ?_
  refine WL_nil ?_
  refine WT_seq ?_
  refine WT_region ?_
  refine WL_bsI0 rfl hH run_bs_int0 ?_; rintro X0 ev0 w2 hX0 hH2
  refine WL_v rfl (ov_assign rfl) ?_
  refine WL_nil ?_
  refine WT_seq ?_
  refine WT_seq ?_
  refine WT_region ?_
  refine WL_v rfl (ov_assign rfl) ?_
  refine WL_nil ?_
  refine WT_block ?_
  refine WT_while (fun s : Nat × Value => [(0, pv), (3, s.2), (4, .int .i64 (s.1 : Int))]) (fun s w => s.1 ≤ p.length ∧ ∃ X, IRow X 3 s.2 (endsTo p s.1) ∧ H w h (X :: Ls)) (fun s => p.length - s.1) (0, ev0) (by repeat (first | exact trivial | refine ⟨rfl, ?_⟩)) ⟨by omega, X0, hX0, hH2⟩ ?_
  clear hH hH2 hX0
  rintro ⟨k, sv⟩ w3 ⟨hk, X, hX, hH⟩ again
  simp only at hk hX
  refine WT_seq ?_
  refine WT_seq ?_
  refine WT_region ?_
  refine WL_v rfl (ov_move rfl) ?_
  refine WL_v rfl (ov_move rfl) ?_
  refine WL_v rfl (ov_len rfl hP.sl st_sl_impl_Node) ?_
  refine WL_v rfl (ov_lss rfl rfl) ?_
  refine WL_nil ?_
  refine WT_cond rfl (fun hc => ?_) (fun hc => ?_)
  · skip
    first | with_reducible replace hc := of_decide_eq_true hc | with_reducible replace hc := bn_T hc | with_reducible replace hc := bb_T hc | skip
    simp only at hc
    have hkp : k < p.length := by omega
    obtain ⟨fv, rv, hf, hr, hcell⟩ := hP.node hkp
    have hN := PlanOk.node hv hkp
    have hel := endsTo_len p k
    have hfl := hf.sl.lim
    refine WT_skip ?_
    refine WT_seq ?_
    refine WT_block ?_
    refine WT_seq ?_
    refine WT_region ?_
    refine WL_v rfl (ov_move rfl) ?_
    refine WL_v rfl (ov_move rfl) ?_
    refine WL_bsI rfl hH rfl (run_bs_int _) ?_; rintro Y yv w4 hY hH4
    refine WL_appI (i := 1) (j := 0) rfl hH4 rfl rfl st_sl_int rfl hX rfl hY (by simp; omega) (by simp; omega) ?_; rintro X2 sv2 w5 hX2 hH5
    refine WL_v rfl (ov_assign rfl) ?_
    refine WL_nil ?_
    refine WT_seq ?_
    refine WT_region ?_
    refine WL_v rfl (ov_assign rfl) ?_
    refine WL_nil ?_
    refine WT_block ?_
    have hH5' := hH5.drop
    have hX3 : IRow X2 3 sv2 (setAll (endsTo p k ++ [(k : Int)]) k (p[k].frm.take 0)) := by simpa [setAll] using hX2
    refine WT_while (fun s : Nat => [(0, pv), (3, sv2), (4, .int .i64 (k : Int)), (5, .int .i64 (s : Int))])
      (fun j w => j ≤ p[k].frm.length ∧ ∃ X, IRow X 3 sv2 (setAll (endsTo p k ++ [(k : Int)]) k (p[k].frm.take j)) ∧ H w h (X :: Ls))
      (fun j => p[k].frm.length - j) 0 (by repeat (first | exact trivial | refine ⟨rfl, ?_⟩)) ⟨by omega, X2, hX3, hH5'⟩ ?_
    clear hH hH4 hH5 hH5' hX hX2 hX3
    rintro j w7 ⟨hj, X3, hX3, hH7⟩ again2
    refine WT_seq ?_
    refine WT_seq ?_
    refine WT_region ?_
    refine WL_v rfl (ov_move rfl) ?_
    refine WL_v rfl (ov_move rfl) ?_
    refine WL_v rfl (ov_move rfl) ?_
    refine WL_v rfl (ov_index rfl rfl st_sl_impl_Node hP.sl hkp) ?_
    refine WL_v rfl (ov_field rfl fo_impl_Node_1) ?_
    refine WL_v rfl (ov_load rfl one_sl_int (hcell _ _ hH7 1 _ rfl)) ?_
    refine WL_v rfl (ov_len rfl hf.sl st_sl_int) ?_
    refine WL_v rfl (ov_lss rfl rfl) ?_
    refine WL_nil ?_
    refine WT_cond rfl (fun hc2 => ?_) (fun hc2 => ?_)
    · skip
      first | with_reducible replace hc2 := of_decide_eq_true hc2 | with_reducible replace hc2 := bn_T hc2 | with_reducible replace hc2 := bb_T hc2 | skip
      have hjl : j < p[k].frm.length := by omega
      have hfb := hN.frm p[k].frm[j] (List.getElem_mem hjl)
      obtain ⟨fn, hfn⟩ := Int.eq_ofNat_of_zero_le hfb.1
      have hfl2 : fn < (setAll (endsTo p k ++ [(k : Int)]) k (p[k].frm.take j)).length := by simp [setAll_len, hel]; omega
      refine WT_skip ?_
      refine WT_seq ?_
      refine WT_block ?_
      refine WT_region ?_
      refine WL_v rfl (ov_move rfl) ?_
      refine WL_v rfl (ov_move rfl) ?_
      refine WL_v rfl (ov_move rfl) ?_
      refine WL_v rfl (ov_index rfl rfl st_sl_impl_Node hP.sl hkp) ?_
      refine WL_v rfl (ov_field rfl fo_impl_Node_1) ?_
      refine WL_v rfl (ov_load rfl one_sl_int (hcell _ _ hH7 1 _ rfl)) ?_
      refine WL_v rfl (ov_move rfl) ?_
      refine WL_v rfl (ov_index rfl rfl st_sl_int hf.sl hjl) ?_
      refine WL_v rfl (ov_load rfl one_int (hf.cell hH7 hjl)) ?_; rw [hfn]
      refine WL_v rfl (ov_move rfl) ?_
      refine WL_v rfl (ov_index rfl rfl st_sl_int hX3.sl hfl2) ?_
      refine WL_storeI hH7 rfl rfl (i := 0) rfl hX3 hfl2 sz_int ?_; rintro X4 w8 hX4 hH8
      refine WL_nil ?_
      refine WT_inBlock ?_
      refine WT_region ?_
      refine WL_v rfl (ov_move rfl) ?_
      refine WL_v rfl (ov_add rfl rfl (by omega)) ?_
      refine WL_v rfl (ov_assign rfl) ?_
      refine WL_nil ?_
      refine again2 (j + 1) _ _ (by omega) (by repeat (first | exact trivial | refine ⟨rfl, ?_⟩)) ⟨by omega, X4, ?_, hH8⟩
      rw [List.take_succ_eq_append_getElem hjl, setAll_snoc, hfn]
      exact hX4
    first | with_reducible replace hc2 := of_decide_eq_false hc2 | with_reducible replace hc2 := bn_F hc2 | with_reducible replace hc2 := bb_F hc2 | skip
    obtain rfl : j = p[k].frm.length := by omega
    rw [List.take_length] at hX3
    refine WT_exit rfl ?_
    refine WT_inBlock ?_
    refine WT_region ?_
    refine WL_v rfl (ov_move rfl) ?_
    refine WL_v rfl (ov_add rfl rfl (by omega)) ?_
    refine WL_v rfl (ov_assign rfl) ?_
    refine WL_nil ?_
    refine again (k + 1, sv2) _ _ (by simp only; omega) (by repeat (first | exact trivial | refine ⟨rfl, ?_⟩)) ⟨by simp only; omega, X3, ?_, hH7⟩
    simp only [endsTo]
    rw [getD_of hkp]
    exact hX3
  first | with_reducible replace hc := of_decide_eq_false hc | with_reducible replace hc := bn_F hc | with_reducible replace hc := bb_F hc | skip
  simp only at hc
  obtain rfl : k = p.length := by omega
  refine WT_exit rfl ?_
  refine WT_seq ?_
  refine WT_region ?_
  refine WL_v rfl (ov_move rfl) ?_
  refine WL_v rfl (ov_assign rfl) ?_
  refine WL_nil ?_
  exact WT_ret1 Try.func79 Try.results79 rfl ⟨X, hX, hH⟩

end
end Go.Proofs.Ytmcedghgincaaaa
