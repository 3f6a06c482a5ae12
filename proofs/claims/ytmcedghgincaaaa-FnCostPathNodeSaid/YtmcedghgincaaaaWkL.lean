/- Walks: levels: the reference. -/
import Derived.Test.YtmcedghgincaaaaWkG
namespace Go.Proofs.Ytmcedghgincaaaa
open Go.RowKit

section
variable {h : GH} {Ls : List Heaplet} {w : World}

theorem l5Levels_ok (hH : H w h Ls) {pv : Value} {p : List Nd} (hP : Plan h pv p) (hv : planOk p = true) : Rets Try.prog 74 #[pv] w fun v w' => ∃ X, IRow X 3 v (levelsTo p p.length) ∧ H w' h (X :: Ls) := by
  have hlen := PlanOk.len hv
  refine rets_enter Try.func74 rfl Try.ntmps74 (by simp) ?_
  refine WT_seq ?_
  refine WT_region ?_
  refine WL_v rfl (ov_assign rfl) ?_
  refine WL_nil ?_
  refine WT_seq ?_
  refine WT_region ?_
  refine WL_bsI0 rfl hH run_bs_int0 ?_; rintro X0 ev0 w2 hX0 hH2
  refine WL_v rfl (ov_assign rfl) ?_
  refine WL_nil ?_
  refine WT_seq ?_
  refine WT_seq ?_
  refine WT_region ?_
  refine WL_v rfl (ov_assign rfl) ?_
  refine WL_nil ?_
  refine WT_block ?_
  refine WT_while (fun s : Nat × Value => [(0, pv), (3, s.2), (4, .int .i64 (s.1 : Int))]) (fun s w => s.1 ≤ p.length ∧ ∃ X, IRow X 3 s.2 (levelsTo p s.1) ∧ H w h (X :: Ls)) (fun s => p.length - s.1) (0, ev0) (by repeat (first | exact trivial | refine ⟨rfl, ?_⟩)) ⟨by omega, X0, hX0, hH2⟩ ?_
  clear hH hH2 hX0
  rintro ⟨k, sv⟩ w3 ⟨hk, X, hX, hH⟩ again
  simp only at hk hX
  refine WT_seq ?_
  refine WT_seq ?_
  refine WT_region ?_
  refine WL_v rfl (ov_move rfl) ?_
  refine WL_v rfl (ov_move rfl) ?_
  refine WL_v rfl (ov_len rfl hP.sl st_sl_impl_Node) ?_
  refine WL_v rfl (ov_lss rfl rfl) ?_
  refine WL_nil ?_
  refine WT_cond rfl (fun hc => ?_) (fun hc => ?_)
  · skip
    first | with_reducible replace hc := of_decide_eq_true hc | with_reducible replace hc := bn_T hc | with_reducible replace hc := bb_T hc | skip
    simp only at hc
    have hkp : k < p.length := by omega
    obtain ⟨fv, rv, hf, hr, hcell⟩ := hP.node hkp
    have hN := PlanOk.node hv hkp
    have hrg := levelsTo_rg p k
    have hpl : (levelsTo p k).length = k := progTo_len _ _ _
    have hfl := hf.sl.lim
    refine WT_skip ?_
    refine WT_seq ?_
    refine WT_block ?_
    refine WT_seq ?_
    refine WT_region ?_
    refine WL_v rfl (ov_assign rfl) ?_
    refine WL_nil ?_
    refine WT_seq ?_
    refine WT_seq ?_
    refine WT_region ?_
    refine WL_v rfl (ov_assign rfl) ?_
    refine WL_nil ?_
    refine WT_block ?_
    refine WT_while (fun s : Nat => [(0, pv), (3, sv), (4, .int .i64 (k : Int)), (5, .int .i64 (upOf 1 (levelsTo p k) (p[k].frm.take s))), (6, .int .i64 (s : Int))])
      (fun j w => j ≤ p[k].frm.length ∧ H w h (X :: Ls)) (fun j => p[k].frm.length - j) 0 (by repeat (first | exact trivial | refine ⟨rfl, ?_⟩)) ⟨by omega, hH⟩ ?_
    clear hH
    rintro j w6 ⟨hj, hH⟩ again2
    refine WT_seq ?_
    refine WT_seq ?_
    refine WT_region ?_
    refine WL_v rfl (ov_move rfl) ?_
    refine WL_v rfl (ov_move rfl) ?_
    refine WL_v rfl (ov_move rfl) ?_
    refine WL_v rfl (ov_index rfl rfl st_sl_impl_Node hP.sl hkp) ?_
    refine WL_v rfl (ov_field rfl fo_impl_Node_1) ?_
    refine WL_v rfl (ov_load rfl one_sl_int (hcell _ _ hH 1 _ rfl)) ?_
    refine WL_v rfl (ov_len rfl hf.sl st_sl_int) ?_
    refine WL_v rfl (ov_lss rfl rfl) ?_
    refine WL_nil ?_
    refine WT_cond rfl (fun hc2 => ?_) (fun hc2 => ?_)
    · skip
      first | with_reducible replace hc2 := of_decide_eq_true hc2 | with_reducible replace hc2 := bn_T hc2 | with_reducible replace hc2 := bb_T hc2 | skip
      have hjl : j < p[k].frm.length := by omega
      have hfb := hN.frm p[k].frm[j] (List.getElem_mem hjl)
      obtain ⟨fn, hfn⟩ := Int.eq_ofNat_of_zero_le hfb.1
      have hfk : fn < (levelsTo p k).length := by omega
      have hrf := hrg _ (List.getElem_mem hfk)
      have hup : max (upOf 1 (levelsTo p k) (p[k].frm.take j)) ((levelsTo p k)[fn] + 1) = upOf 1 (levelsTo p k) (p[k].frm.take (j + 1)) := by
        rw [List.take_succ_eq_append_getElem hjl, upOf_snoc, hfn, List.getD_eq_getElem?_getD]
        simp [hfk]
      refine WT_skip ?_
      refine WT_seq ?_
      refine WT_block ?_
      refine WT_region ?_
      refine WL_v rfl (ov_move rfl) ?_
      refine WL_v rfl (ov_move rfl) ?_
      refine WL_v rfl (ov_move rfl) ?_
      refine WL_v rfl (ov_move rfl) ?_
      refine WL_v rfl (ov_index rfl rfl st_sl_impl_Node hP.sl hkp) ?_
      refine WL_v rfl (ov_field rfl fo_impl_Node_1) ?_
      refine WL_v rfl (ov_load rfl one_sl_int (hcell _ _ hH 1 _ rfl)) ?_
      refine WL_v rfl (ov_move rfl) ?_
      refine WL_v rfl (ov_index rfl rfl st_sl_int hf.sl hjl) ?_
      refine WL_v rfl (ov_load rfl one_int (hf.cell hH hjl)) ?_; rw [hfn]
      refine WL_v rfl (ov_index rfl rfl st_sl_int hX.sl hfk) ?_
      refine WL_v rfl (ov_load rfl one_int (hX.cell hH (i := 0) rfl hfk)) ?_
      refine WL_v rfl (ov_add rfl rfl (by omega)) ?_
      refine WL_v rfl (ov_as (ov_max rfl rfl) (congrArg (Value.int .i64) hup)) ?_
      refine WL_v rfl (ov_assign rfl) ?_
      refine WL_nil ?_
      refine WT_inBlock ?_
      refine WT_region ?_
      refine WL_v rfl (ov_move rfl) ?_
      refine WL_v rfl (ov_add rfl rfl (by omega)) ?_
      refine WL_v rfl (ov_assign rfl) ?_
      refine WL_nil ?_
      refine again2 (j + 1) _ _ (by omega) (by repeat (first | exact trivial | refine ⟨rfl, ?_⟩)) ⟨by omega, hH⟩
    first | with_reducible replace hc2 := of_decide_eq_false hc2 | with_reducible replace hc2 := bn_F hc2 | with_reducible replace hc2 := bb_F hc2 | skip
    obtain rfl : j = p[k].frm.length := by omega
    rw [List.take_length]
    have hst : levelsTo p (k + 1) = levelsTo p k ++ [upOf 1 (levelsTo p k) p[k].frm] := by
      simp only [levelsTo, progTo, getD_of hkp]
    refine WT_exit rfl ?_
    refine WT_region ?_
    refine WL_v rfl (ov_move rfl) ?_
    refine WL_v rfl (ov_move rfl) ?_
    refine WL_bsI rfl hH rfl (run_bs_int _) ?_; rintro Y yv w8 hY hH8
    refine WL_appI (i := 1) (j := 0) rfl hH8 rfl rfl st_sl_int rfl hX rfl hY (by simp; omega) (by simp; omega) ?_; rintro X2 sv2 w9 hX2 hH9
    refine WL_v rfl (ov_assign rfl) ?_
    refine WL_nil ?_
    refine WT_inBlock ?_
    refine WT_region ?_
    refine WL_v rfl (ov_move rfl) ?_
    refine WL_v rfl (ov_add rfl rfl (by omega)) ?_
    refine WL_v rfl (ov_assign rfl) ?_
    refine WL_nil ?_
    refine again (k + 1, sv2) _ _ (by simp only; omega) (by repeat (first | exact trivial | refine ⟨rfl, ?_⟩)) ⟨by simp only; omega, X2, by rw [hst]; exact hX2, hH9.drop⟩
  first | with_reducible replace hc := of_decide_eq_false hc | with_reducible replace hc := bn_F hc | with_reducible replace hc := bb_F hc | skip
  simp only at hc
  obtain rfl : k = p.length := by omega
  refine WT_exit rfl ?_
  refine WT_seq ?_
  refine WT_region ?_
  refine WL_v rfl (ov_move rfl) ?_
  refine WL_v rfl (ov_assign rfl) ?_
  refine WL_nil ?_
  exact WT_ret1 Try.func74 Try.results74 rfl ⟨X, hX, hH⟩
end
end Go.Proofs.Ytmcedghgincaaaa
