/- Walks: the reference's counts. -/
import Derived.Test.YtmcedghgincaaaaWkEE
namespace Go.Proofs.Ytmcedghgincaaaa
open Go.RowKit

section
variable {h : GH} {Ls : List Heaplet} {w : World}

theorem ints_takeK {v : Value} {xs : List Int} {k : Nat} (hI : Ints h v xs) (hk : k ≤ xs.length) : Ints h (reslice v 0 k 1) (xs.take k) := by
  have := hI.reslice (lo := 0) (hi := k) (by omega) hk
  simpa using this

theorem l11Counts_ok (hH : H w h Ls) {pv : Value} {p : List Nd} (hP : Plan h pv p) (hv : planOk p = true) : Rets Try.prog 69 #[pv] w fun v w' => ∃ X, IRow X 3 v (countsL p) ∧ H w' h (X :: Ls) := by
  have hlen := PlanOk.len hv
  have hcl := countsL_len p
  refine rets_enter Try.func69 rfl Try.ntmps69 (by simp) ?_
  refine WT_seq ?_
  refine WT_region ?_
  refine WL_v rfl (ov_assign rfl) ?_
  refine WL_nil ?_
  refine WT_seq ?_
  refine WT_region ?_
  refine WL_bsI0 rfl hH run_bs_int0 ?_; rintro X0 sv0 w1 hX0 hH1
  refine WL_v rfl (ov_assign rfl) ?_
  refine WL_nil ?_
  refine WT_seq ?_
  refine WT_seq ?_
  refine WT_region ?_
  refine WL_v rfl (ov_assign rfl) ?_
  refine WL_nil ?_
  refine WT_block ?_
  refine WT_while (fun s : Nat × Value => [(0, pv), (3, s.2), (4, .int .i64 (s.1 : Int))]) (fun s w => s.1 ≤ p.length ∧ ∃ X, IRow X 3 s.2 ((countsL p).take s.1) ∧ H w h (X :: Ls)) (fun s => p.length - s.1) (0, sv0) (by repeat (first | exact trivial | refine ⟨rfl, ?_⟩)) ⟨by omega, X0, hX0, hH1⟩ ?_
  clear hH hH1 hX0
  rintro ⟨k, sv⟩ w2 ⟨hk, X, hX, hH⟩ again
  simp only at hk hX
  refine WT_seq ?_
  refine WT_seq ?_
  refine WT_region ?_
  refine WL_v rfl (ov_move rfl) ?_
  refine WL_v rfl (ov_move rfl) ?_
  refine WL_v rfl (ov_len rfl hP.sl st_sl_impl_Node) ?_
  refine WL_v rfl (ov_lss rfl rfl) ?_
  refine WL_nil ?_
  refine WT_cond rfl (fun hc => ?_) (fun hc => ?_)
  · skip
    first | with_reducible replace hc := of_decide_eq_true hc | with_reducible replace hc := bn_T hc | with_reducible replace hc := bb_T hc | skip
    simp only at hc
    have hkp : k < p.length := by omega
    obtain ⟨fv, rv, hf, hr, hcell⟩ := hP.node hkp
    have hN := PlanOk.node hv hkp
    have hf2 := NodeOk.len2 hN
    refine WT_skip ?_
    refine WT_seq ?_
    refine WT_block ?_
    refine WT_seq ?_
    refine WT_region ?_
    refine WL_v rfl (ov_assign rfl) ?_
    refine WL_nil ?_
    refine WT_seq ?_
    refine WT_seq ?_
    refine WT_region ?_
    refine WL_v rfl (ov_assign rfl) ?_
    refine WL_nil ?_
    refine WT_block ?_
    refine WT_while (fun s : Nat => [(0, pv), (3, sv), (4, .int .i64 (k : Int)), (5, .int .i64 ((needTo (p[k].frm.take s)).length : Int)), (6, .int .i64 (s : Int))]) (fun j w => j ≤ p[k].frm.length ∧ H w h (X :: Ls)) (fun j => p[k].frm.length - j) 0 (by repeat (first | exact trivial | refine ⟨rfl, ?_⟩)) ⟨by omega, hH⟩ ?_
    clear hH
    rintro j w3 ⟨hj, hH⟩ again2
    have hnl := needTo_len (p[k].frm.take j)
    rw [List.length_take] at hnl
    refine WT_seq ?_
    refine WT_seq ?_
    refine WT_region ?_
    refine WL_v rfl (ov_move rfl) ?_
    refine WL_v rfl (ov_move rfl) ?_
    refine WL_v rfl (ov_move rfl) ?_
    refine WL_v rfl (ov_index rfl rfl st_sl_impl_Node hP.sl hkp) ?_
    refine WL_v rfl (ov_field rfl fo_impl_Node_1) ?_
    refine WL_v rfl (ov_load rfl one_sl_int (hcell _ _ hH 1 _ rfl)) ?_
    refine WL_v rfl (ov_len rfl hf.sl st_sl_int) ?_
    refine WL_v rfl (ov_lss rfl rfl) ?_
    refine WL_nil ?_
    refine WT_cond rfl (fun hc2 => ?_) (fun hc2 => ?_)
    · skip
      first | with_reducible replace hc2 := of_decide_eq_true hc2 | with_reducible replace hc2 := bn_T hc2 | with_reducible replace hc2 := bb_T hc2 | skip
      have hjl : j < p[k].frm.length := by omega
      have htk : p[k].frm.take (j + 1) = p[k].frm.take j ++ [p[k].frm[j]] := by rw [List.take_succ_eq_append_getElem hjl]
      have hfj := hN.frm _ (List.getElem_mem hjl)
      have hmem : p[k].frm[j].toNat ∈ needTo (p[k].frm.take j) ↔ p[k].frm[j] ∈ p[k].frm.take j := by
        rw [mem_needTo' fun f h => (hN.frm f (List.mem_of_mem_take h)).1, show (p[k].frm[j].toNat : Int) = p[k].frm[j] by omega]
      refine WT_skip ?_
      refine WT_seq ?_
      refine WT_block ?_
      refine WT_seq ?_
      refine WT_quiet mixed (by kernel_rfl) hH ?_
      clear hH
      refine WQ_v rfl (fun _ _ => ov_move rfl) ?_
      refine WQ_v rfl (fun _ _ => ov_move rfl) ?_
      refine WQ_v rfl (fun _ _ => ov_index rfl rfl st_sl_impl_Node hP.sl hkp) ?_
      refine WQ_v rfl (fun _ _ => ov_field rfl fo_impl_Node_1) ?_
      refine WQ_v rfl (fun _ hH => ov_load rfl one_sl_int (hcell _ _ hH 1 _ rfl)) ?_
      refine WQ_v rfl (fun _ _ => ov_move rfl) ?_
      refine WQ_v rfl (fun _ _ => ov_sliceHi rfl rfl st_sl_int hf.sl (by omega)) ?_
      refine WQ_v rfl (fun _ _ => ov_move rfl) ?_
      refine WQ_v rfl (fun _ _ => ov_move rfl) ?_
      refine WQ_v rfl (fun _ _ => ov_index rfl rfl st_sl_impl_Node hP.sl hkp) ?_
      refine WQ_v rfl (fun _ _ => ov_field rfl fo_impl_Node_1) ?_
      refine WQ_v rfl (fun _ hH => ov_load rfl one_sl_int (hcell _ _ hH 1 _ rfl)) ?_
      refine WQ_v rfl (fun _ _ => ov_move rfl) ?_
      refine WQ_v rfl (fun _ _ => ov_index rfl rfl st_sl_int hf.sl hjl) ?_
      refine WQ_v rfl (fun _ hH => ov_load rfl one_int (hf.cell hH hjl)) ?_
      refine WQ_call rfl rfl cf_spec_l3Has (fun _ hH => l3HasR_ok hH ((ints_takeK hf (Nat.le_of_lt hjl)).rdl _) _) ?_
      refine WQ_v rfl (fun _ _ => ov_not rfl) ?_
      refine WQ_nil ?_
      intro w4 hH
      refine WT_cond rfl (fun hin => ?_) (fun hin => ?_)
      · skip
        first | with_reducible replace hin := of_decide_eq_true hin | with_reducible replace hin := bn_T hin | with_reducible replace hin := bb_T hin | skip
        have hin' : p[k].frm[j] ∉ p[k].frm.take j := by simpa using hin
        have hv5 : ((needTo (p[k].frm.take j)).length : Int) + 1 = ((needTo (p[k].frm.take (j + 1))).length : Int) := by
          rw [htk, needTo_snoc, addN, if_neg (fun hh => hin' (hmem.1 hh)), List.length_append, List.length_singleton]; omega
        refine WT_region ?_
        refine WL_v rfl (ov_move rfl) ?_
        refine WL_v rfl (ov_as (ov_add rfl rfl (by omega)) (congrArg (Value.int .i64) (hv5))) ?_
        refine WL_v rfl (ov_assign rfl) ?_
        refine WL_nil ?_
        refine WT_inBlock ?_
        refine WT_region ?_
        refine WL_v rfl (ov_move rfl) ?_
        refine WL_v rfl (ov_add rfl rfl (by omega)) ?_
        refine WL_v rfl (ov_assign rfl) ?_
        refine WL_nil ?_
        refine again2 (j + 1) _ _ (by omega) (by repeat (first | exact trivial | refine ⟨rfl, ?_⟩)) ⟨by omega, hH⟩
      first | with_reducible replace hin := of_decide_eq_false hin | with_reducible replace hin := bn_F hin | with_reducible replace hin := bb_F hin | skip
      have hin' : p[k].frm[j] ∈ p[k].frm.take j := by simpa using hin
      have hv5 : needTo (p[k].frm.take (j + 1)) = needTo (p[k].frm.take j) := by rw [htk, needTo_snoc, addN, if_pos (hmem.2 hin')]
      refine WT_skip ?_
      refine WT_inBlock ?_
      refine WT_region ?_
      refine WL_v rfl (ov_move rfl) ?_
      refine WL_v rfl (ov_add rfl rfl (by omega)) ?_
      refine WL_v rfl (ov_assign rfl) ?_
      refine WL_nil ?_
      refine again2 (j + 1) _ _ (by omega) (by rw [hv5]; exact (by repeat (first | exact trivial | refine ⟨rfl, ?_⟩))) ⟨by omega, hH⟩
    first | with_reducible replace hc2 := of_decide_eq_false hc2 | with_reducible replace hc2 := bn_F hc2 | with_reducible replace hc2 := bb_F hc2 | skip
    obtain rfl : j = p[k].frm.length := by omega
    rw [List.take_length]
    have hkc : k < (countsL p).length := by omega
    have hst : (countsL p).take (k + 1) = (countsL p).take k ++ [((needTo p[k].frm).length : Int)] := by
      rw [List.take_succ_eq_append_getElem hkc, countsL_get, getD_of hkp]
    refine WT_exit rfl ?_
    refine WT_region ?_
    refine WL_v rfl (ov_move rfl) ?_
    refine WL_v rfl (ov_move rfl) ?_
    refine WL_bsI rfl hH rfl (run_bs_int _) ?_; rintro Y yv w4 hY hH4
    refine WL_appI (i := 1) (j := 0) rfl hH4 rfl rfl st_sl_int rfl hX rfl hY (by simp only [List.length_take, List.length_cons, List.length_nil]; omega) (by simp only [List.length_take, List.length_cons, List.length_nil]; omega) ?_; rintro X2 sv2 w5 hX2 hH5
    refine WL_v rfl (ov_assign rfl) ?_
    refine WL_nil ?_
    refine WT_inBlock ?_
    refine WT_region ?_
    refine WL_v rfl (ov_move rfl) ?_
    refine WL_v rfl (ov_add rfl rfl (by omega)) ?_
    refine WL_v rfl (ov_assign rfl) ?_
    refine WL_nil ?_
    refine again (k + 1, sv2) _ _ (by simp only; omega) (by repeat (first | exact trivial | refine ⟨rfl, ?_⟩)) ⟨by simp only; omega, X2, by simp only; rw [hst]; exact hX2, hH5.drop⟩
  first | with_reducible replace hc := of_decide_eq_false hc | with_reducible replace hc := bn_F hc | with_reducible replace hc := bb_F hc | skip
  simp only at hc
  obtain rfl : k = p.length := by omega
  rw [List.take_of_length_le (by omega)] at hX
  refine WT_exit rfl ?_
  refine WT_seq ?_
  refine WT_region ?_
  refine WL_v rfl (ov_move rfl) ?_
  refine WL_v rfl (ov_assign rfl) ?_
  refine WL_nil ?_
  exact WT_ret1 Try.func69 Try.results69 rfl ⟨X, hX, hH⟩

theorem sCountsOf_ok (hH : H w h Ls) {pv : Value} {p : List Nd} (hP : Plan h pv p) (hl : p.length ≤ 1000000000) : Rets Try.prog 22 #[pv] w fun v w' => ∃ X, IRow X 3 v (countsOf p) ∧ H w' h (X :: Ls) := by
  refine rets_enter Try.func22 rfl Try.ntmps22 (by simp) ?_
  refine WT_seq ?_
  refine WT_region ?_
  refine WL_v rfl (ov_assign rfl) ?_
  refine WL_nil ?_
  refine WT_seq ?_
  refine WT_seq ?_
  refine WT_region ?_
  refine WL_v rfl (ov_move rfl) ?_
  refine WL_call rfl rfl cf_spec_PlanValid (sPlanValid_ok hH hP hl) ?_; rintro _ w1 ⟨rfl, hH1⟩
  refine WL_v rfl (ov_not rfl) ?_
  refine WL_nil ?_
  refine WT_cond rfl (fun hv => ?_) (fun hv => ?_)
  · skip
    first | with_reducible replace hv := of_decide_eq_true hv | with_reducible replace hv := bn_T hv | with_reducible replace hv := bb_T hv | skip
    refine WT_seq ?_
    refine WT_region ?_
    refine WL_bsI0 rfl hH1 run_bs_int0 ?_; rintro X v w2 hX hH2
    refine WL_v rfl (ov_assign rfl) ?_
    refine WL_nil ?_
    exact WT_ret1 Try.func22 Try.results22 rfl ⟨X, by unfold countsOf; rw [hv]; exact hX, hH2⟩
  first | with_reducible replace hv := of_decide_eq_false hv | with_reducible replace hv := bn_F hv | with_reducible replace hv := bb_F hv | skip
  refine WT_skip ?_
  refine WT_seq ?_
  refine WT_region ?_
  refine WL_v rfl (ov_move rfl) ?_
  refine WL_call rfl rfl cf_spec_l11Counts (l11Counts_ok hH1 hP hv) ?_; rintro _ w2 ⟨X, hX, hH2⟩
  refine WL_v rfl (ov_assign rfl) ?_
  refine WL_nil ?_
  exact WT_ret1 Try.func22 Try.results22 rfl ⟨X, by unfold countsOf; rw [if_pos hv]; exact hX, hH2⟩

theorem l11Done_ok (hH : H w h Ls) {pv cv : Value} {p : List Nd} {c : List Int} (hP : Plan h pv p) (hv : planOk p = true) (hC : RdL h Ls cv c) (hcl : c.length = p.length) (hrg : ∀ u, -1000000 ≤ c.getD u 0 ∧ c.getD u 0 ≤ 1000000) (a : Int) : Rets Try.prog 92 #[pv, cv, .int .i64 a] w fun v w' => ∃ X Y xv yv, v = .tuple #[xv, yv] ∧ IRow X 3 xv (doneC p c a) ∧ IRow Y 3 yv (toI (doneR p c a)) ∧ H w' h (X :: Y :: Ls) := by
  have hlen := PlanOk.len hv
  have hdl := doneC_len p c a
  refine rets_enter Try.func92 rfl Try.ntmps92 (by simp) ?_
  refine WT_seq ?_
  refine WT_region ?_
  refine WL_v rfl (ov_assign rfl) ?_
  refine WL_v rfl (ov_assign rfl) ?_
  refine WL_nil ?_
  refine WT_seq ?_
  refine WT_region ?_
  refine WL_bsI0 rfl hH run_bs_int0 ?_; rintro X0 ev w1 hX0 hH1
  refine WL_v rfl (ov_move rfl) ?_
  refine WL_appR (i := 0) (xs := []) rfl hH1 rfl rfl st_sl_int rfl hX0 hC.sl (hC.cell hH1.drop) (by simp only [List.length_nil]; omega) (by simp only [List.length_nil]; omega) ?_; rintro X1 xv w2 hX1 hH2
  refine WL_v rfl (ov_assign rfl) ?_
  refine WL_nil ?_
  refine WT_seq ?_
  refine WT_region ?_
  refine WL_bsI0 rfl hH2 run_bs_int0 ?_; rintro Y0 yv0 w3 hY0 hH3
  refine WL_v rfl (ov_assign rfl) ?_
  refine WL_nil ?_
  refine WT_seq ?_
  refine WT_seq ?_
  refine WT_region ?_
  refine WL_v rfl (ov_assign rfl) ?_
  refine WL_nil ?_
  refine WT_block ?_
  refine WT_while (fun s : Nat × Value => [(0, pv), (2, .int .i64 a), (8, xv), (9, s.2), (10, .int .i64 (s.1 : Int))]) (fun s w => s.1 ≤ p.length ∧ ∃ X Y, IRow X 3 xv ((doneC p c a).take s.1 ++ c.drop s.1) ∧ IRow Y 3 s.2 (toI ((List.range s.1).filter fun i => decide (a ∈ (p.getD i default).frm) && decide (c.getD i 0 = 1))) ∧ H w h (Y :: X :: Ls)) (fun s => p.length - s.1) (0, yv0) (by repeat (first | exact trivial | refine ⟨rfl, ?_⟩)) ⟨by omega, X1, Y0, by simpa using hX1, hY0, hH3⟩ ?_
  clear hH hH1 hH2 hH3 hX0 hX1 hY0
  rintro ⟨k, yv⟩ w4 ⟨hk, X, Y, hX, hY, hH⟩ again
  simp only at hk hX hY
  have hfl := List.length_filter_le (fun i => decide (a ∈ (p.getD i default).frm) && decide (c.getD i 0 = 1)) (List.range k)
  rw [List.length_range] at hfl
  refine WT_seq ?_
  refine WT_seq ?_
  refine WT_region ?_
  refine WL_v rfl (ov_move rfl) ?_
  refine WL_v rfl (ov_move rfl) ?_
  refine WL_v rfl (ov_len rfl hP.sl st_sl_impl_Node) ?_
  refine WL_v rfl (ov_lss rfl rfl) ?_
  refine WL_nil ?_
  refine WT_cond rfl (fun hc => ?_) (fun hc => ?_)
  · skip
    first | with_reducible replace hc := of_decide_eq_true hc | with_reducible replace hc := bn_T hc | with_reducible replace hc := bb_T hc | skip
    simp only at hc
    have hkp : k < p.length := by omega
    obtain ⟨fv, rv, hf, hr, hcell⟩ := hP.node hkp
    have htl : ((doneC p c a).take k).length = k := by rw [List.length_take]; omega
    have hkc : k < c.length := by omega
    have hdk : k < (doneC p c a).length := by omega
    have hdc : c.drop k = c[k] :: c.drop (k + 1) := List.drop_eq_getElem_cons hkc
    have htk : (doneC p c a).take (k + 1) = (doneC p c a).take k ++ [(doneC p c a)[k]] := List.take_succ_eq_append_getElem hdk
    have hval : (doneC p c a)[k] = c[k] - (if a ∈ p[k].frm then 1 else 0) := by rw [doneC_get, getD_elem hkc, getD_of hkp]
    have hck := hrg k
    rw [getD_elem hkc] at hck
    rw [hdc] at hX
    have hkl : k < ((doneC p c a).take k ++ c[k] :: c.drop (k + 1)).length := by rw [List.length_append, htl, List.length_cons]; omega
    have hgk := getElem_mid ((doneC p c a).take k) (c.drop (k + 1)) c[k] k htl hkl
    refine WT_skip ?_
    refine WT_seq ?_
    refine WT_block ?_
    refine WT_seq ?_
    refine WT_region ?_
    refine WL_v rfl (ov_move rfl) ?_
    refine WL_v rfl (ov_move rfl) ?_
    refine WL_v rfl (ov_index rfl rfl st_sl_impl_Node hP.sl hkp) ?_
    refine WL_v rfl (ov_field rfl fo_impl_Node_1) ?_
    refine WL_v rfl (ov_load rfl one_sl_int (hcell _ _ hH 1 _ rfl)) ?_
    refine WL_v rfl (ov_move rfl) ?_
    refine WL_call rfl rfl cf_spec_l3Has (l3HasR_ok hH (hf.rdl _) a) ?_; rintro _ w5 ⟨rfl, hH5⟩
    refine WL_nil ?_
    refine WT_cond rfl (fun hin => ?_) (fun hin => ?_)
    · skip
      first | with_reducible replace hin := of_decide_eq_true hin | with_reducible replace hin := bn_T hin | with_reducible replace hin := bb_T hin | skip
      rw [if_pos hin] at hval
      refine WT_seq ?_
      refine WT_region ?_
      refine WL_v rfl (ov_move rfl) ?_
      refine WL_v rfl (ov_move rfl) ?_
      refine WL_v rfl (ov_move rfl) ?_
      refine WL_v rfl (ov_move rfl) ?_
      refine WL_v rfl (ov_index rfl rfl st_sl_int hX.sl hkl) ?_
      refine WL_v rfl (ov_load rfl one_int (hX.cell hH5 (i := 1) rfl hkl)) ?_; rw [hgk]
      refine WL_v rfl (ov_sub rfl rfl (by omega)) ?_
      refine WL_v rfl (ov_index rfl rfl st_sl_int hX.sl hkl) ?_
      refine WL_storeI hH5 rfl rfl (i := 1) rfl hX hkl sz_int ?_; rintro X2 w6 hX2 hH6
      refine WL_nil ?_
      refine WT_seq ?_
      refine WT_region ?_
      refine WL_v rfl (ov_move rfl) ?_
      refine WL_v rfl (ov_move rfl) ?_
      rw [set_mid _ _ _ _ _ htl] at hX2
      have hkl2 : k < ((doneC p c a).take k ++ (c[k] - 1) :: c.drop (k + 1)).length := by rw [List.length_append, htl, List.length_cons]; omega
      have hgk2 := getElem_mid ((doneC p c a).take k) (c.drop (k + 1)) (c[k] - 1) k htl hkl2
      have hX3 : IRow X2 3 xv ((doneC p c a).take (k + 1) ++ c.drop (k + 1)) := by rw [htk, hval]; simpa using hX2
      refine WL_v rfl (ov_index rfl rfl st_sl_int hX2.sl hkl2) ?_
      refine WL_v rfl (ov_load rfl one_int (hX2.cell hH6 (i := 1) rfl hkl2)) ?_; rw [hgk2]
      refine WL_v rfl (ov_eql rfl rfl) ?_
      refine WL_nil ?_
      refine WT_cond rfl (fun h0 => ?_) (fun h0 => ?_)
      · skip
        first | with_reducible replace h0 := of_decide_eq_true h0 | with_reducible replace h0 := bn_T h0 | with_reducible replace h0 := bb_T h0 | skip
        refine WT_region ?_
        refine WL_v rfl (ov_move rfl) ?_
        refine WL_v rfl (ov_move rfl) ?_
        refine WL_bsI rfl hH6 rfl (run_bs_int _) ?_; rintro Z zv w7 hZ hH7
        refine WL_appI (i := 1) (j := 0) rfl hH7 rfl rfl st_sl_int rfl hY rfl hZ (by simp only [toI_len, List.length_cons, List.length_nil]; omega) (by simp only [toI_len, List.length_cons, List.length_nil]; omega) ?_; rintro Y2 yv2 w8 hY2 hH8
        refine WL_v rfl (ov_assign rfl) ?_
        refine WL_nil ?_
        refine WT_inBlock ?_
        refine WT_region ?_
        refine WL_v rfl (ov_move rfl) ?_
        refine WL_v rfl (ov_add rfl rfl (by omega)) ?_
        refine WL_v rfl (ov_assign rfl) ?_
        refine WL_nil ?_
        refine again (k + 1, yv2) _ _ (by simp only; omega) (by repeat (first | exact trivial | refine ⟨rfl, ?_⟩)) ⟨by simp only; omega, X2, Y2, hX3, by simp only; rw [List.range_succ, List.filter_append, List.filter_cons, if_pos (by rw [getD_of hkp, getD_elem hkc, decide_eq_true hin, decide_eq_true (by omega)]; rfl), List.filter_nil, toI_snoc]; exact hY2, hH8.drop⟩
      first | with_reducible replace h0 := of_decide_eq_false h0 | with_reducible replace h0 := bn_F h0 | with_reducible replace h0 := bb_F h0 | skip
      refine WT_skip ?_
      refine WT_inBlock ?_
      refine WT_region ?_
      refine WL_v rfl (ov_move rfl) ?_
      refine WL_v rfl (ov_add rfl rfl (by omega)) ?_
      refine WL_v rfl (ov_assign rfl) ?_
      refine WL_nil ?_
      refine again (k + 1, yv) _ _ (by simp only; omega) (by repeat (first | exact trivial | refine ⟨rfl, ?_⟩)) ⟨by simp only; omega, X2, Y, hX3, by simp only; rw [List.range_succ, List.filter_append, List.filter_cons, if_neg (by rw [getD_elem hkc, decide_eq_false (p := c[k] = 1) (by omega), Bool.and_false]; simp), List.filter_nil, List.append_nil]; exact hY, hH6⟩
    first | with_reducible replace hin := of_decide_eq_false hin | with_reducible replace hin := bn_F hin | with_reducible replace hin := bb_F hin | skip
    rw [if_neg hin, Int.sub_zero] at hval
    have hX3 : IRow X 3 xv ((doneC p c a).take (k + 1) ++ c.drop (k + 1)) := by rw [htk, hval]; simpa using hX
    refine WT_skip ?_
    refine WT_inBlock ?_
    refine WT_region ?_
    refine WL_v rfl (ov_move rfl) ?_
    refine WL_v rfl (ov_add rfl rfl (by omega)) ?_
    refine WL_v rfl (ov_assign rfl) ?_
    refine WL_nil ?_
    refine again (k + 1, yv) _ _ (by simp only; omega) (by repeat (first | exact trivial | refine ⟨rfl, ?_⟩)) ⟨by simp only; omega, X, Y, hX3, by simp only; rw [List.range_succ, List.filter_append, List.filter_cons, if_neg (by rw [getD_of hkp, decide_eq_false hin, Bool.false_and]; simp), List.filter_nil, List.append_nil]; exact hY, hH5⟩
  first | with_reducible replace hc := of_decide_eq_false hc | with_reducible replace hc := bn_F hc | with_reducible replace hc := bb_F hc | skip
  simp only at hc
  obtain rfl : k = p.length := by omega
  rw [List.take_of_length_le (by omega), List.drop_eq_nil_of_le (by omega), List.append_nil] at hX
  refine WT_exit rfl ?_
  refine WT_seq ?_
  refine WT_region ?_
  refine WL_v rfl (ov_move rfl) ?_
  refine WL_v rfl (ov_move rfl) ?_
  refine WL_v rfl (ov_assign rfl) ?_
  refine WL_v rfl (ov_assign rfl) ?_
  refine WL_nil ?_
  exact WT_ret2 Try.func92 Try.results92 rfl rfl ⟨X, Y, xv, yv, rfl, hX, hY, hH.swap⟩

set_option maxHeartbeats 1000000 in
theorem sCountsDone_ok (hH : H w h Ls) {pv cv : Value} {p : List Nd} {c : List Int} (hP : Plan h pv p) (hC : RdL h Ls cv c) (hcl : c.length ≤ 1000000000) (hl : p.length ≤ 1000000000) (a : Int) : Rets Try.prog 45 #[pv, cv, .int .i64 a] w (DoneV h Ls p c a) := by
  have bad : ∀ {w : World} {X Y : Heaplet} {xv yv : Value}, doneOk p c a = false → IRow X 3 xv [] → IRow Y 3 yv [] → H w h (Y :: X :: Ls) → DoneV h Ls p c a (.tuple #[xv, yv, .bool false]) w := fun hb hX hY hH =>
    ⟨_, _, _, _, by rw [hb], by unfold doneCo; rw [if_neg (by rw [hb]; simp)]; exact hX, by unfold doneRo; rw [if_neg (by rw [hb]; simp)]; exact hY, hH.swap⟩
  have hCX : ∀ {A}, RdL h (A :: Ls) cv c := ⟨hC.sl, fun hH _ hj => hC.cell hH.drop hj⟩
  refine rets_enter Try.func45 rfl Try.ntmps45 (by simp) ?_
  by_cases hv : planOk p = true
  case neg =>
    have hv' : planOk p = false := by simpa using hv
    refine WT_seq ?_
    refine WT_region ?_
    refine WL_v rfl (ov_assign rfl) ?_
    refine WL_v rfl (ov_assign rfl) ?_
    refine WL_v rfl (ov_assign rfl) ?_
    refine WL_nil ?_
    refine WT_seq ?_
    refine WT_seq ?_
    refine WT_region ?_
    refine WL_v rfl (ov_move rfl) ?_
    refine WL_call rfl rfl cf_spec_PlanValid (sPlanValid_ok hH hP hl) ?_; rintro _ w1 ⟨rfl, hH1⟩
    refine WL_v rfl (ov_T (ov_not rfl) (by first | exact decide_eq_true hv' | exact nb_T hv' | exact mb_T hv' | exact hv' | (simp only [decide_eq_true_eq]; omega) | simpa using hv')) ?_
    refine WL_v rfl (ov_move rfl) ?_
    refine WL_guardOff rfl rfl rfl rfl ?_
    refine WL_guardOff rfl rfl rfl rfl ?_
    refine WL_guardOff rfl rfl rfl rfl ?_
    refine WL_guardOff rfl rfl rfl rfl ?_
    refine WL_guardOff rfl rfl rfl rfl ?_
    refine WL_guardOff rfl rfl rfl rfl ?_
    refine WL_v rfl (ov_pickT rfl rfl) ?_
    refine WL_v rfl (ov_move rfl) ?_
    refine WL_guardOff rfl rfl rfl rfl ?_
    refine WL_guardOff rfl rfl rfl rfl ?_
    refine WL_guardOff rfl rfl rfl rfl ?_
    refine WL_guardOff rfl rfl rfl rfl ?_
    refine WL_guardOff rfl rfl rfl rfl ?_
    refine WL_v rfl (ov_pickT rfl rfl) ?_
    refine WL_nil ?_
    refine WT_condT rfl ?_
    refine WT_seq ?_
    refine WT_region ?_
    refine WL_bsI0 rfl hH1 run_bs_int0 ?_; rintro X xv w2 hX hH2
    refine WL_bsI0 rfl hH2 run_bs_int0 ?_; rintro Y yv w3 hY hH3
    refine WL_v rfl (ov_assign rfl) ?_
    refine WL_v rfl (ov_assign rfl) ?_
    refine WL_v rfl (ov_assign rfl) ?_
    refine WL_nil ?_
    exact WT_ret3 Try.func45 Try.results45 rfl rfl rfl (bad (doneOk_bad fun hh => hv hh.1) hX hY hH3)
  have hlen := PlanOk.len hv
  by_cases hn : 0 ≤ a ∧ a ≤ (p.length : Int) - 1
  case neg =>
    refine WT_seq ?_
    refine WT_region ?_
    refine WL_v rfl (ov_assign rfl) ?_
    refine WL_v rfl (ov_assign rfl) ?_
    refine WL_v rfl (ov_assign rfl) ?_
    refine WL_nil ?_
    refine WT_seq ?_
    refine WT_seq ?_
    refine WT_region ?_
    refine WL_v rfl (ov_move rfl) ?_
    refine WL_call rfl rfl cf_spec_PlanValid (sPlanValid_ok hH hP hl) ?_; rintro _ w1 ⟨rfl, hH1⟩
    refine WL_v rfl (ov_F (ov_not rfl) (by first | exact decide_eq_false hv | exact nb_F hv | exact mb_F hv | exact hv | (simp only [decide_eq_false_iff_not]; omega) | simpa using hv)) ?_
    refine WL_v rfl (ov_move rfl) ?_
    refine WL_guardOn rfl rfl ?_
    refine WL_v rfl (ov_move rfl) ?_
    refine WL_guardOn rfl rfl ?_
    refine WL_v rfl (ov_move rfl) ?_
    refine WL_guardOn rfl rfl ?_
    refine WL_v rfl (ov_len rfl hP.sl st_sl_impl_Node) ?_
    refine WL_guardOn rfl rfl ?_
    refine WL_v rfl (ov_sub rfl rfl (by omega)) ?_
    refine WL_guardOn rfl rfl ?_
    refine WL_call rfl rfl cf_spec_l6In (l6In_ok hH1 a 0 _) ?_; rintro _ w2 ⟨rfl, hH2⟩
    refine WL_guardOn rfl rfl ?_
    refine WL_v rfl (ov_T (ov_not rfl) (by rw [decide_eq_false hn]; rfl)) ?_
    refine WL_v rfl (ov_pickF rfl rfl) ?_
    refine WL_v rfl (ov_move rfl) ?_
    refine WL_guardOff rfl rfl rfl rfl ?_
    refine WL_guardOff rfl rfl rfl rfl ?_
    refine WL_guardOff rfl rfl rfl rfl ?_
    refine WL_guardOff rfl rfl rfl rfl ?_
    refine WL_guardOff rfl rfl rfl rfl ?_
    refine WL_v rfl (ov_pickT rfl rfl) ?_
    refine WL_nil ?_
    refine WT_condT rfl ?_
    refine WT_seq ?_
    refine WT_region ?_
    refine WL_bsI0 rfl hH2 run_bs_int0 ?_; rintro X xv w3 hX hH3
    refine WL_bsI0 rfl hH3 run_bs_int0 ?_; rintro Y yv w4 hY hH4
    refine WL_v rfl (ov_assign rfl) ?_
    refine WL_v rfl (ov_assign rfl) ?_
    refine WL_v rfl (ov_assign rfl) ?_
    refine WL_nil ?_
    exact WT_ret3 Try.func45 Try.results45 rfl rfl rfl (bad (doneOk_bad fun hh => hn (by omega)) hX hY hH4)
  refine WT_seq ?_
  refine WT_region ?_
  refine WL_v rfl (ov_assign rfl) ?_
  refine WL_v rfl (ov_assign rfl) ?_
  refine WL_v rfl (ov_assign rfl) ?_
  refine WL_nil ?_
  refine WT_seq ?_
  refine WT_seq ?_
  refine WT_region ?_
  refine WL_v rfl (ov_move rfl) ?_
  refine WL_call rfl rfl cf_spec_PlanValid (sPlanValid_ok hH hP hl) ?_; rintro _ w1 ⟨rfl, hH1⟩
  refine WL_v rfl (ov_F (ov_not rfl) (by first | exact decide_eq_false hv | exact nb_F hv | exact mb_F hv | exact hv | (simp only [decide_eq_false_iff_not]; omega) | simpa using hv)) ?_
  refine WL_v rfl (ov_move rfl) ?_
  refine WL_guardOn rfl rfl ?_
  refine WL_v rfl (ov_move rfl) ?_
  refine WL_guardOn rfl rfl ?_
  refine WL_v rfl (ov_move rfl) ?_
  refine WL_guardOn rfl rfl ?_
  refine WL_v rfl (ov_len rfl hP.sl st_sl_impl_Node) ?_
  refine WL_guardOn rfl rfl ?_
  refine WL_v rfl (ov_sub rfl rfl (by omega)) ?_
  refine WL_guardOn rfl rfl ?_
  refine WL_call rfl rfl cf_spec_l6In (l6In_ok hH1 a 0 _) ?_; rintro _ w2 ⟨rfl, hH2⟩
  refine WL_guardOn rfl rfl ?_
  refine WL_v rfl (ov_F (ov_not rfl) (by rw [decide_eq_true hn]; rfl)) ?_
  refine WL_v rfl (ov_pickF rfl rfl) ?_
  refine WL_v rfl (ov_move rfl) ?_
  refine WL_guardOn rfl rfl ?_
  refine WL_v rfl (ov_move rfl) ?_
  refine WL_guardOn rfl rfl ?_
  refine WL_v rfl (ov_len rfl hC.sl st_sl_int) ?_
  refine WL_guardOn rfl rfl ?_
  refine WL_v rfl (ov_move rfl) ?_
  refine WL_guardOn rfl rfl ?_
  refine WL_v rfl (ov_len rfl hP.sl st_sl_impl_Node) ?_
  refine WL_guardOn rfl rfl ?_
  refine WL_v rfl (ov_neq rfl rfl) ?_
  refine WL_v rfl (ov_pickF rfl rfl) ?_
  refine WL_nil ?_
  refine WT_cond rfl (fun hne => ?_) (fun hne => ?_)
  · skip
    first | with_reducible replace hne := of_decide_eq_true hne | with_reducible replace hne := bn_T hne | with_reducible replace hne := bb_T hne | skip
    refine WT_seq ?_
    refine WT_region ?_
    refine WL_bsI0 rfl hH2 run_bs_int0 ?_; rintro X xv w3 hX hH3
    refine WL_bsI0 rfl hH3 run_bs_int0 ?_; rintro Y yv w4 hY hH4
    refine WL_v rfl (ov_assign rfl) ?_
    refine WL_v rfl (ov_assign rfl) ?_
    refine WL_v rfl (ov_assign rfl) ?_
    refine WL_nil ?_
    exact WT_ret3 Try.func45 Try.results45 rfl rfl rfl (bad (doneOk_bad fun hh => hne (by rw [hh.2.2.1])) hX hY hH4)
  first | with_reducible replace hne := of_decide_eq_false hne | with_reducible replace hne := bn_F hne | with_reducible replace hne := bb_F hne | skip
  have hcn : c.length = p.length := by omega
  have hcLl := countsL_len p
  refine WT_skip ?_
  refine WT_seq ?_
  refine WT_region ?_
  refine WL_v rfl (ov_move rfl) ?_
  refine WL_call rfl rfl cf_spec_l11Counts (l11Counts_ok hH2 hP hv) ?_; rintro av w3 ⟨A, hA, hH3⟩
  refine WL_v rfl (ov_assign rfl) ?_
  refine WL_nil ?_
  refine WT_seq ?_
  refine WT_seq ?_
  refine WT_region ?_
  refine WL_v rfl (ov_assign rfl) ?_
  refine WL_nil ?_
  refine WT_block ?_
  refine WT_while (fun s : Nat => [(0, pv), (1, cv), (2, .int .i64 a), (9, av), (10, .int .i64 (s : Int))]) (fun k w => k ≤ p.length ∧ (∀ i, i < k → (0 ≤ c.getD i 0 ∧ c.getD i 0 ≤ ((needTo (p.getD i default).frm).length : Int)) ∧ (a ∈ (p.getD i default).frm → c.getD i 0 ≠ 0)) ∧ H w h (A :: Ls)) (fun k => p.length - k) 0 (by repeat (first | exact trivial | refine ⟨rfl, ?_⟩)) ⟨by omega, by omega, hH3⟩ ?_
  clear hH hH1 hH2 hH3
  rintro k w4 ⟨hk, hall, hH⟩ again
  refine WT_seq ?_
  refine WT_seq ?_
  refine WT_region ?_
  refine WL_v rfl (ov_move rfl) ?_
  refine WL_v rfl (ov_move rfl) ?_
  refine WL_v rfl (ov_len rfl hP.sl st_sl_impl_Node) ?_
  refine WL_v rfl (ov_lss rfl rfl) ?_
  refine WL_nil ?_
  refine WT_cond rfl (fun hc => ?_) (fun hc => ?_)
  · skip
    first | with_reducible replace hc := of_decide_eq_true hc | with_reducible replace hc := bn_T hc | with_reducible replace hc := bb_T hc | skip
    have hkp : k < p.length := by omega
    obtain ⟨fv, rv, hf, hr, hcell⟩ := hP.node hkp
    have hkc : k < c.length := by omega
    have hkL : k < (countsL p).length := by omega
    have hgL := countsL_get hkL
    have hnot : ¬ ((0 ≤ c.getD k 0 ∧ c.getD k 0 ≤ ((needTo (p.getD k default).frm).length : Int)) ∧ (a ∈ (p.getD k default).frm → c.getD k 0 ≠ 0)) → doneOk p c a = false := fun hh => doneOk_bad fun h9 => hh (h9.2.2.2 k hkp)
    have hnext : ((0 ≤ c.getD k 0 ∧ c.getD k 0 ≤ ((needTo (p.getD k default).frm).length : Int)) ∧ (a ∈ (p.getD k default).frm → c.getD k 0 ≠ 0)) → ∀ i, i < k + 1 → (0 ≤ c.getD i 0 ∧ c.getD i 0 ≤ ((needTo (p.getD i default).frm).length : Int)) ∧ (a ∈ (p.getD i default).frm → c.getD i 0 ≠ 0) := fun hh i hi => by
      rcases Nat.lt_or_ge i k with h3 | h3
      · exact hall i h3
      · obtain rfl : i = k := by omega
        exact hh
    rw [getD_elem hkc, getD_of hkp] at hnot hnext
    rw [getD_of hkp] at hgL
    by_cases hin : 0 ≤ c[k] ∧ c[k] ≤ ((needTo p[k].frm).length : Int)
    case neg =>
      refine WT_skip ?_
      refine WT_seq ?_
      refine WT_block ?_
      refine WT_seq ?_
      refine WT_quiet mixed (by kernel_rfl) hH ?_
      clear hH
      refine WQ_v rfl (fun _ _ => ov_move rfl) ?_
      refine WQ_v rfl (fun _ _ => ov_move rfl) ?_
      refine WQ_v rfl (fun _ _ => ov_index rfl rfl st_sl_int hC.sl hkc) ?_
      refine WQ_v rfl (fun _ hH => ov_load rfl one_int (hC.cell hH.drop hkc)) ?_
      refine WQ_v rfl (fun _ _ => ov_move rfl) ?_
      refine WQ_v rfl (fun _ _ => ov_move rfl) ?_
      refine WQ_v rfl (fun _ _ => ov_index rfl rfl st_sl_int hA.sl hkL) ?_
      refine WQ_v rfl (fun _ hH => ov_load rfl one_int (hA.cell hH (i := 0) rfl hkL)) ?_; rw [hgL]
      refine WQ_call rfl rfl cf_spec_l6In (fun _ hH => l6In_ok hH _ _ _) ?_
      refine WQ_v rfl (fun _ _ => ov_T (ov_not rfl) (by rw [decide_eq_false hin]; rfl)) ?_
      refine WQ_v rfl (fun _ _ => ov_move rfl) ?_
      refine WQ_guardOff rfl rfl rfl rfl ?_
      refine WQ_guardOff rfl rfl rfl rfl ?_
      refine WQ_guardOff rfl rfl rfl rfl ?_
      refine WQ_guardOff rfl rfl rfl rfl ?_
      refine WQ_guardOff rfl rfl rfl rfl ?_
      refine WQ_guardOff rfl rfl rfl rfl ?_
      refine WQ_guardOff rfl rfl rfl rfl ?_
      refine WQ_guardOff rfl rfl rfl rfl ?_
      refine WQ_guardOffU rfl rfl rfl ?_
      refine WQ_guardOffU rfl rfl rfl ?_
      refine WQ_guardOffU rfl rfl rfl ?_
      refine WQ_guardOffU rfl rfl rfl ?_
      refine WQ_guardOffU rfl rfl rfl ?_
      refine WQ_guardOff rfl rfl rfl rfl ?_
      refine WQ_v rfl (fun _ _ => ov_pickT rfl rfl) ?_
      refine WQ_nil ?_
      intro w5 hH
      refine WT_condT rfl ?_
      refine WT_seq ?_
      refine WT_region ?_
      refine WL_bsI0 rfl hH run_bs_int0 ?_; rintro X xv w6 hX hH6
      refine WL_bsI0 rfl hH6 run_bs_int0 ?_; rintro Y yv w7 hY hH7
      refine WL_v rfl (ov_assign rfl) ?_
      refine WL_v rfl (ov_assign rfl) ?_
      refine WL_v rfl (ov_assign rfl) ?_
      refine WL_nil ?_
      exact WT_ret3 Try.func45 Try.results45 rfl rfl rfl (bad (hnot fun hh => hin hh.1) hX hY (hH7.del 2 rfl))
    by_cases hm : a ∈ p[k].frm
    case neg =>
      refine WT_skip ?_
      refine WT_seq ?_
      refine WT_block ?_
      refine WT_seq ?_
      refine WT_quiet mixed (by kernel_rfl) hH ?_
      clear hH
      refine WQ_v rfl (fun _ _ => ov_move rfl) ?_
      refine WQ_v rfl (fun _ _ => ov_move rfl) ?_
      refine WQ_v rfl (fun _ _ => ov_index rfl rfl st_sl_int hC.sl hkc) ?_
      refine WQ_v rfl (fun _ hH => ov_load rfl one_int (hC.cell hH.drop hkc)) ?_
      refine WQ_v rfl (fun _ _ => ov_move rfl) ?_
      refine WQ_v rfl (fun _ _ => ov_move rfl) ?_
      refine WQ_v rfl (fun _ _ => ov_index rfl rfl st_sl_int hA.sl hkL) ?_
      refine WQ_v rfl (fun _ hH => ov_load rfl one_int (hA.cell hH (i := 0) rfl hkL)) ?_; rw [hgL]
      refine WQ_call rfl rfl cf_spec_l6In (fun _ hH => l6In_ok hH _ _ _) ?_
      refine WQ_v rfl (fun _ _ => ov_F (ov_not rfl) (by rw [decide_eq_true hin]; rfl)) ?_
      refine WQ_v rfl (fun _ _ => ov_move rfl) ?_
      refine WQ_guardOn rfl rfl ?_
      refine WQ_v rfl (fun _ _ => ov_move rfl) ?_
      refine WQ_guardOn rfl rfl ?_
      refine WQ_v rfl (fun _ _ => ov_move rfl) ?_
      refine WQ_guardOn rfl rfl ?_
      refine WQ_v rfl (fun _ _ => ov_index rfl rfl st_sl_impl_Node hP.sl hkp) ?_
      refine WQ_guardOn rfl rfl ?_
      refine WQ_v rfl (fun _ _ => ov_field rfl fo_impl_Node_1) ?_
      refine WQ_guardOn rfl rfl ?_
      refine WQ_v rfl (fun _ hH => ov_load rfl one_sl_int (hcell _ _ hH 1 _ rfl)) ?_
      refine WQ_guardOn rfl rfl ?_
      refine WQ_v rfl (fun _ _ => ov_move rfl) ?_
      refine WQ_guardOn rfl rfl ?_
      refine WQ_call rfl rfl cf_spec_l3Has (v := .bool false) (fun _ hH => (l3HasR_ok hH (hf.rdl _) a).mono fun _ _ hh => ⟨by rw [hh.1, decide_eq_false hm], hh.2⟩) ?_
      refine WQ_guardOn rfl rfl ?_
      refine WQ_v rfl (fun _ _ => ov_move rfl) ?_
      refine WQ_guardOff rfl rfl rfl rfl ?_
      refine WQ_guardOff rfl rfl rfl rfl ?_
      refine WQ_guardOff rfl rfl rfl rfl ?_
      refine WQ_guardOff rfl rfl rfl rfl ?_
      refine WQ_guardOff rfl rfl rfl rfl ?_
      refine WQ_guardOn rfl rfl ?_
      refine WQ_v rfl (fun _ _ => ov_pickF rfl rfl) ?_
      refine WQ_v rfl (fun _ _ => ov_pickF rfl rfl) ?_
      refine WQ_nil ?_
      intro w5 hH
      refine WT_condF rfl ?_
      refine WT_skip ?_
      refine WT_inBlock ?_
      refine WT_region ?_
      refine WL_v rfl (ov_move rfl) ?_
      refine WL_v rfl (ov_add rfl rfl (by omega)) ?_
      refine WL_v rfl (ov_assign rfl) ?_
      refine WL_nil ?_
      refine again (k + 1) _ _ (by omega) (by repeat (first | exact trivial | refine ⟨rfl, ?_⟩)) ⟨by omega, hnext ⟨hin, fun h9 => absurd h9 hm⟩, hH⟩
    refine WT_skip ?_
    refine WT_seq ?_
    refine WT_block ?_
    refine WT_seq ?_
    refine WT_quiet mixed (by kernel_rfl) hH ?_
    clear hH
    refine WQ_v rfl (fun _ _ => ov_move rfl) ?_
    refine WQ_v rfl (fun _ _ => ov_move rfl) ?_
    refine WQ_v rfl (fun _ _ => ov_index rfl rfl st_sl_int hC.sl hkc) ?_
    refine WQ_v rfl (fun _ hH => ov_load rfl one_int (hC.cell hH.drop hkc)) ?_
    refine WQ_v rfl (fun _ _ => ov_move rfl) ?_
    refine WQ_v rfl (fun _ _ => ov_move rfl) ?_
    refine WQ_v rfl (fun _ _ => ov_index rfl rfl st_sl_int hA.sl hkL) ?_
    refine WQ_v rfl (fun _ hH => ov_load rfl one_int (hA.cell hH (i := 0) rfl hkL)) ?_; rw [hgL]
    refine WQ_call rfl rfl cf_spec_l6In (fun _ hH => l6In_ok hH _ _ _) ?_
    refine WQ_v rfl (fun _ _ => ov_F (ov_not rfl) (by rw [decide_eq_true hin]; rfl)) ?_
    refine WQ_v rfl (fun _ _ => ov_move rfl) ?_
    refine WQ_guardOn rfl rfl ?_
    refine WQ_v rfl (fun _ _ => ov_move rfl) ?_
    refine WQ_guardOn rfl rfl ?_
    refine WQ_v rfl (fun _ _ => ov_move rfl) ?_
    refine WQ_guardOn rfl rfl ?_
    refine WQ_v rfl (fun _ _ => ov_index rfl rfl st_sl_impl_Node hP.sl hkp) ?_
    refine WQ_guardOn rfl rfl ?_
    refine WQ_v rfl (fun _ _ => ov_field rfl fo_impl_Node_1) ?_
    refine WQ_guardOn rfl rfl ?_
    refine WQ_v rfl (fun _ hH => ov_load rfl one_sl_int (hcell _ _ hH 1 _ rfl)) ?_
    refine WQ_guardOn rfl rfl ?_
    refine WQ_v rfl (fun _ _ => ov_move rfl) ?_
    refine WQ_guardOn rfl rfl ?_
    refine WQ_call rfl rfl cf_spec_l3Has (v := .bool true) (fun _ hH => (l3HasR_ok hH (hf.rdl _) a).mono fun _ _ hh => ⟨by rw [hh.1, decide_eq_true hm], hh.2⟩) ?_
    refine WQ_guardOn rfl rfl ?_
    refine WQ_v rfl (fun _ _ => ov_move rfl) ?_
    refine WQ_guardOn rfl rfl ?_
    refine WQ_v rfl (fun _ _ => ov_move rfl) ?_
    refine WQ_guardOn rfl rfl ?_
    refine WQ_v rfl (fun _ _ => ov_move rfl) ?_
    refine WQ_guardOn rfl rfl ?_
    refine WQ_v rfl (fun _ _ => ov_index rfl rfl st_sl_int hC.sl hkc) ?_
    refine WQ_guardOn rfl rfl ?_
    refine WQ_v rfl (fun _ hH => ov_load rfl one_int (hC.cell hH.drop hkc)) ?_
    refine WQ_guardOn rfl rfl ?_
    refine WQ_v rfl (fun _ _ => ov_eql rfl rfl) ?_
    refine WQ_guardOn rfl rfl ?_
    refine WQ_v rfl (fun _ _ => ov_pickT rfl rfl) ?_
    refine WQ_v rfl (fun _ _ => ov_pickF rfl rfl) ?_
    refine WQ_nil ?_
    intro w5 hH
    refine WT_cond rfl (fun h0 => ?_) (fun h0 => ?_)
    · skip
      first | with_reducible replace h0 := of_decide_eq_true h0 | with_reducible replace h0 := bn_T h0 | with_reducible replace h0 := bb_T h0 | skip
      refine WT_seq ?_
      refine WT_region ?_
      refine WL_bsI0 rfl hH run_bs_int0 ?_; rintro X xv w6 hX hH6
      refine WL_bsI0 rfl hH6 run_bs_int0 ?_; rintro Y yv w7 hY hH7
      refine WL_v rfl (ov_assign rfl) ?_
      refine WL_v rfl (ov_assign rfl) ?_
      refine WL_v rfl (ov_assign rfl) ?_
      refine WL_nil ?_
      exact WT_ret3 Try.func45 Try.results45 rfl rfl rfl (bad (hnot fun hh => hh.2 hm h0) hX hY (hH7.del 2 rfl))
    first | with_reducible replace h0 := of_decide_eq_false h0 | with_reducible replace h0 := bn_F h0 | with_reducible replace h0 := bb_F h0 | skip
    refine WT_skip ?_
    refine WT_inBlock ?_
    refine WT_region ?_
    refine WL_v rfl (ov_move rfl) ?_
    refine WL_v rfl (ov_add rfl rfl (by omega)) ?_
    refine WL_v rfl (ov_assign rfl) ?_
    refine WL_nil ?_
    refine again (k + 1) _ _ (by omega) (by repeat (first | exact trivial | refine ⟨rfl, ?_⟩)) ⟨by omega, hnext ⟨hin, fun _ => h0⟩, hH⟩
  first | with_reducible replace hc := of_decide_eq_false hc | with_reducible replace hc := bn_F hc | with_reducible replace hc := bb_F hc | skip
  obtain rfl : k = p.length := by omega
  have hok : doneOk p c a = true := doneOk_of hv (by omega) hcn hall
  have hrg : ∀ u, -1000000 ≤ c.getD u 0 ∧ c.getD u 0 ≤ 1000000 := fun u => by
    rcases Nat.lt_or_ge u c.length with hu | hu
    · have h1 := (hall u (by omega)).1
      have h2 := needTo_len (p.getD u default).frm
      have h3 : (p.getD u default).frm.length ≤ 2 := by rw [getD_of (by omega)]; exact NodeOk.len2 (PlanOk.node hv (by omega))
      omega
    · rw [List.getD_eq_getElem?_getD, List.getElem?_eq_none hu]; simp
  refine WT_exit rfl ?_
  refine WT_seq ?_
  refine WT_region ?_
  refine WL_v rfl (ov_move rfl) ?_
  refine WL_v rfl (ov_move rfl) ?_
  refine WL_v rfl (ov_move rfl) ?_
  refine WL_call rfl rfl cf_spec_l11Done (l11Done_ok hH hP hv hCX hcn hrg a) ?_; rintro _ w6 ⟨X, Y, xv, yv, rfl, hX, hY, hH6⟩
  refine WL_v rfl (ov_move rfl) ?_
  refine WL_v rfl (ov_extract rfl rfl) ?_
  refine WL_v rfl (ov_extract rfl rfl) ?_
  refine WL_v rfl (ov_assign rfl) ?_
  refine WL_v rfl (ov_assign rfl) ?_
  refine WL_nil ?_
  refine WT_seq ?_
  refine WT_region ?_
  refine WL_v rfl (ov_move rfl) ?_
  refine WL_v rfl (ov_move rfl) ?_
  refine WL_v rfl (ov_assign rfl) ?_
  refine WL_v rfl (ov_assign rfl) ?_
  refine WL_v rfl (ov_assign rfl) ?_
  refine WL_nil ?_
  exact WT_ret3 Try.func45 Try.results45 rfl rfl rfl ⟨X, Y, xv, yv, by rw [hok]; rfl, by unfold doneCo; rw [if_pos hok]; exact hX, by unfold doneRo; rw [if_pos hok]; exact hY, hH6.del 2 rfl⟩
end
end Go.Proofs.Ytmcedghgincaaaa
