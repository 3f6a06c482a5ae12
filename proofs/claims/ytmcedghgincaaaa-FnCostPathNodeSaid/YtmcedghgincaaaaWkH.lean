/- Walks: the reference's most expensive path. -/
import Derived.Test.YtmcedghgincaaaaWkG
namespace Go.Proofs.Ytmcedghgincaaaa
open Go.RowKit

section
variable {h : GH} {Ls : List Heaplet} {w : World}

theorem sCostPath_ok (hH : H w h Ls) {pv : Value} {p : List Nd} (hP : Plan h pv p) (hl : p.length ≤ 1000000000) : Rets Try.prog 51 #[pv] w fun v w' => v = .int .i64 (if planOk p then mostOf (pathsTo p p.length) else -1) ∧ H w' h Ls := by
  refine rets_enter Try.func51 rfl Try.ntmps51 (by simp) ?_
  refine WT_seq ?_
  refine WT_region ?_
  refine WL_v rfl (ov_assign rfl) ?_
  refine WL_nil ?_
  refine WT_seq ?_
  refine WT_seq ?_
  refine WT_region ?_
  refine WL_v rfl (ov_move rfl) ?_
  refine WL_call rfl rfl cf_spec_PlanValid (sPlanValid_ok hH hP hl) ?_; rintro _ w1 ⟨rfl, hH1⟩
  refine WL_v rfl (ov_not rfl) ?_
  refine WL_nil ?_
  refine WT_cond rfl (fun hv => ?_) (fun hv => ?_)
  · skip
    first | with_reducible replace hv := of_decide_eq_true hv | with_reducible replace hv := bn_T hv | with_reducible replace hv := bb_T hv | skip
    refine WT_seq ?_
    refine WT_region ?_
    refine WL_v rfl (ov_assign rfl) ?_
    refine WL_nil ?_
    exact WT_ret1 Try.func51 Try.results51 rfl ⟨by rw [hv]; rfl, hH1⟩
  first | with_reducible replace hv := of_decide_eq_false hv | with_reducible replace hv := bn_F hv | with_reducible replace hv := bb_F hv | skip
  have hlen := PlanOk.len hv
  refine WT_skip ?_
  refine WT_seq ?_
  refine WT_region ?_
  refine WL_bsI0 rfl hH1 run_bs_int0 ?_; rintro X0 ev0 w2 hX0 hH2
  refine WL_v rfl (ov_assign rfl) ?_
  refine WL_nil ?_
  refine WT_seq ?_
  refine WT_region ?_
  refine WL_v rfl (ov_assign rfl) ?_
  refine WL_nil ?_
  refine WT_seq ?_
  refine WT_seq ?_
  refine WT_region ?_
  refine WL_v rfl (ov_assign rfl) ?_
  refine WL_nil ?_
  refine WT_block ?_
  refine WT_while (fun s : Nat × Value => [(0, pv), (3, s.2), (4, .int .i64 (mostOf (pathsTo p s.1))), (5, .int .i64 (s.1 : Int))]) (fun s w => s.1 ≤ p.length ∧ ∃ X, IRow X 3 s.2 (pathsTo p s.1) ∧ H w h (X :: Ls)) (fun s => p.length - s.1) (0, ev0) (by repeat (first | exact trivial | refine ⟨rfl, ?_⟩)) ⟨by omega, X0, hX0, hH2⟩ ?_
  clear hH hH1 hH2 hX0
  rintro ⟨k, sv⟩ w3 ⟨hk, X, hX, hH⟩ again
  simp only at hk hX
  refine WT_seq ?_
  refine WT_seq ?_
  refine WT_region ?_
  refine WL_v rfl (ov_move rfl) ?_
  refine WL_v rfl (ov_move rfl) ?_
  refine WL_v rfl (ov_len rfl hP.sl st_sl_impl_Node) ?_
  refine WL_v rfl (ov_lss rfl rfl) ?_
  refine WL_nil ?_
  refine WT_cond rfl (fun hc => ?_) (fun hc => ?_)
  · skip
    first | with_reducible replace hc := of_decide_eq_true hc | with_reducible replace hc := bn_T hc | with_reducible replace hc := bb_T hc | skip
    simp only at hc
    have hkp : k < p.length := by omega
    obtain ⟨fv, rv, hf, hr, hcell⟩ := hP.node hkp
    have hN := PlanOk.node hv hkp
    have hrg := pathsTo_rg p k
    have hr2 := kindCost_rg p[k].kind
    have hpl : (pathsTo p k).length = k := progTo_len _ _ _
    have hfl := hf.sl.lim
    refine WT_skip ?_
    refine WT_seq ?_
    refine WT_block ?_
    refine WT_seq ?_
    refine WT_region ?_
    refine WL_v rfl (ov_assign rfl) ?_
    refine WL_nil ?_
    refine WT_seq ?_
    refine WT_seq ?_
    refine WT_region ?_
    refine WL_v rfl (ov_assign rfl) ?_
    refine WL_nil ?_
    refine WT_block ?_
    refine WT_while (fun s : Nat => [(0, pv), (3, sv), (4, .int .i64 (mostOf (pathsTo p k))), (5, .int .i64 (k : Int)), (6, .int .i64 (upOf 0 (pathsTo p k) (p[k].frm.take s))), (7, .int .i64 (s : Int))])
      (fun j w => j ≤ p[k].frm.length ∧ H w h (X :: Ls)) (fun j => p[k].frm.length - j) 0 (by repeat (first | exact trivial | refine ⟨rfl, ?_⟩)) ⟨by omega, hH⟩ ?_
    clear hH
    rintro j w6 ⟨hj, hH⟩ again2
    refine WT_seq ?_
    refine WT_seq ?_
    refine WT_region ?_
    refine WL_v rfl (ov_move rfl) ?_
    refine WL_v rfl (ov_move rfl) ?_
    refine WL_v rfl (ov_move rfl) ?_
    refine WL_v rfl (ov_index rfl rfl st_sl_impl_Node hP.sl hkp) ?_
    refine WL_v rfl (ov_field rfl fo_impl_Node_1) ?_
    refine WL_v rfl (ov_load rfl one_sl_int (hcell _ _ hH 1 _ rfl)) ?_
    refine WL_v rfl (ov_len rfl hf.sl st_sl_int) ?_
    refine WL_v rfl (ov_lss rfl rfl) ?_
    refine WL_nil ?_
    refine WT_cond rfl (fun hc2 => ?_) (fun hc2 => ?_)
    · skip
      first | with_reducible replace hc2 := of_decide_eq_true hc2 | with_reducible replace hc2 := bn_T hc2 | with_reducible replace hc2 := bb_T hc2 | skip
      have hjl : j < p[k].frm.length := by omega
      have hfb := hN.frm p[k].frm[j] (List.getElem_mem hjl)
      obtain ⟨fn, hfn⟩ := Int.eq_ofNat_of_zero_le hfb.1
      have hfk : fn < (pathsTo p k).length := by omega
      have hup : max (upOf 0 (pathsTo p k) (p[k].frm.take j)) (pathsTo p k)[fn] = upOf 0 (pathsTo p k) (p[k].frm.take (j + 1)) := by
        rw [List.take_succ_eq_append_getElem hjl, upOf_snoc, hfn, Int.add_zero, List.getD_eq_getElem?_getD]
        simp [hfk]
      refine WT_skip ?_
      refine WT_seq ?_
      refine WT_block ?_
      refine WT_region ?_
      refine WL_v rfl (ov_move rfl) ?_
      refine WL_v rfl (ov_move rfl) ?_
      refine WL_v rfl (ov_move rfl) ?_
      refine WL_v rfl (ov_move rfl) ?_
      refine WL_v rfl (ov_index rfl rfl st_sl_impl_Node hP.sl hkp) ?_
      refine WL_v rfl (ov_field rfl fo_impl_Node_1) ?_
      refine WL_v rfl (ov_load rfl one_sl_int (hcell _ _ hH 1 _ rfl)) ?_
      refine WL_v rfl (ov_move rfl) ?_
      refine WL_v rfl (ov_index rfl rfl st_sl_int hf.sl hjl) ?_
      refine WL_v rfl (ov_load rfl one_int (hf.cell hH hjl)) ?_; rw [hfn]
      refine WL_v rfl (ov_index rfl rfl st_sl_int hX.sl hfk) ?_
      refine WL_v rfl (ov_load rfl one_int (hX.cell hH (i := 0) rfl hfk)) ?_
      refine WL_v rfl (ov_as (ov_max rfl rfl) (congrArg (Value.int .i64) hup)) ?_
      refine WL_v rfl (ov_assign rfl) ?_
      refine WL_nil ?_
      refine WT_inBlock ?_
      refine WT_region ?_
      refine WL_v rfl (ov_move rfl) ?_
      refine WL_v rfl (ov_add rfl rfl (by omega)) ?_
      refine WL_v rfl (ov_assign rfl) ?_
      refine WL_nil ?_
      refine again2 (j + 1) _ _ (by omega) (by repeat (first | exact trivial | refine ⟨rfl, ?_⟩)) ⟨by omega, hH⟩
    first | with_reducible replace hc2 := of_decide_eq_false hc2 | with_reducible replace hc2 := bn_F hc2 | with_reducible replace hc2 := bb_F hc2 | skip
    obtain rfl : j = p[k].frm.length := by omega
    rw [List.take_length]
    have hu1 := upOf_nonneg 0 (pathsTo p k) p[k].frm
    have hu2 : upOf 0 (pathsTo p k) p[k].frm ≤ 4 * (k : Int) := upOf_le (by omega) fun f _ => by
      rcases getD_mem_or (pathsTo p k) f.toNat with h | h
      · rw [h]; omega
      · have := hrg _ h; omega
    have hst : pathsTo p (k + 1) = pathsTo p k ++ [upOf 0 (pathsTo p k) p[k].frm + kindCost p[k].kind] := by
      simp only [pathsTo, progTo, getD_of hkp]
    have hmo : max (mostOf (pathsTo p k)) (upOf 0 (pathsTo p k) p[k].frm + kindCost p[k].kind) = mostOf (pathsTo p (k + 1)) := by rw [hst, mostOf_snoc]
    refine WT_exit rfl ?_
    refine WT_seq ?_
    refine WT_region ?_
    refine WL_v rfl (ov_move rfl) ?_
    refine WL_v rfl (ov_move rfl) ?_
    refine WL_v rfl (ov_move rfl) ?_
    refine WL_v rfl (ov_move rfl) ?_
    refine WL_v rfl (ov_index rfl rfl st_sl_impl_Node hP.sl hkp) ?_
    refine WL_v rfl (ov_field rfl fo_impl_Node_0) ?_
    refine WL_v rfl (ov_load rfl one_int (hcell _ _ hH 0 _ rfl)) ?_
    refine WL_call rfl rfl cf_spec_l31Cost (l31Cost_ok hH _) ?_; rintro _ w7 ⟨rfl, hH7⟩
    refine WL_v rfl (ov_add rfl rfl (by omega)) ?_
    refine WL_bsI rfl hH7 rfl (run_bs_int _) ?_; rintro Y yv w8 hY hH8
    refine WL_appI (i := 1) (j := 0) rfl hH8 rfl rfl st_sl_int rfl hX rfl hY (by simp; omega) (by simp; omega) ?_; rintro X2 sv2 w9 hX2 hH9
    refine WL_v rfl (ov_assign rfl) ?_
    refine WL_nil ?_
    refine WT_region ?_
    refine WL_v rfl (ov_move rfl) ?_
    refine WL_v rfl (ov_move rfl) ?_
    refine WL_v rfl (ov_move rfl) ?_
    have hkl2 : k < (pathsTo p k ++ [upOf 0 (pathsTo p k) p[k].frm + kindCost p[k].kind]).length := by simp; omega
    have hg3 := getElem_mid (pathsTo p k) [] (upOf 0 (pathsTo p k) p[k].frm + kindCost p[k].kind) k hpl
    refine WL_v rfl (ov_index rfl rfl st_sl_int hX2.sl hkl2) ?_
    refine WL_v rfl (ov_load rfl one_int (hX2.cell hH9 (i := 1) rfl hkl2)) ?_; rw [hg3 hkl2]
    refine WL_v rfl (ov_as (ov_max rfl rfl) (congrArg (Value.int .i64) hmo)) ?_
    refine WL_v rfl (ov_assign rfl) ?_
    refine WL_nil ?_
    refine WT_inBlock ?_
    refine WT_region ?_
    refine WL_v rfl (ov_move rfl) ?_
    refine WL_v rfl (ov_add rfl rfl (by omega)) ?_
    refine WL_v rfl (ov_assign rfl) ?_
    refine WL_nil ?_
    refine again (k + 1, sv2) _ _ (by simp only; omega) (by repeat (first | exact trivial | refine ⟨rfl, ?_⟩)) ⟨by simp only; omega, X2, by rw [hst]; exact hX2, hH9.drop⟩
  first | with_reducible replace hc := of_decide_eq_false hc | with_reducible replace hc := bn_F hc | with_reducible replace hc := bb_F hc | skip
  simp only at hc
  obtain rfl : k = p.length := by omega
  refine WT_exit rfl ?_
  refine WT_seq ?_
  refine WT_region ?_
  refine WL_v rfl (ov_move rfl) ?_
  refine WL_v rfl (ov_assign rfl) ?_
  refine WL_nil ?_
  exact WT_ret1 Try.func51 Try.results51 rfl ⟨by rw [if_pos hv], hH.drop⟩
end
end Go.Proofs.Ytmcedghgincaaaa
