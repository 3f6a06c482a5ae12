/- The laws on levels' rows and paths. -/
import Derived.Test.YtieoacpffdpgeaaWkW
import Derived.Test.YtieoacpffdpgeaaWkH
import Derived.Test.YtieoacpffdpgeaaWkV
import Derived.Test.YtieoacpffdpgeaaSlF
namespace Go.Proofs.Ytieoacpffdpgeaa
open Go.RowKit

section
variable {h : GH} {Ls : List Heaplet} {w : World}

theorem drawLevelsOf_ok (hH : H w h Ls) {cv : Value} {bs : List Int} (hB : Bytes h cv bs) : Rets Try.prog 35 #[cv] w (Drew h Ls) := by
  refine rets_enter Try.func35 rfl Try.ntmps35 (by simp) ?_
  refine WT_seq ?_
  refine WT_region ?_
  refine WL_v rfl (ov_assign rfl) ?_
  refine WL_nil ?_
  refine WT_seq ?_
  refine WT_region ?_
  refine WL_v rfl (ov_move rfl) ?_
  refine WL_call rfl rfl cf_spec_l6Open (l6Open_ok hH hB) ?_; rintro _ w1 ⟨g, bv, bs', rfl, hB', hH1⟩
  refine WL_call rfl rfl cf_spec_l91Plan (l91Plan_ok hH1 hB' (by omega)) ?_; rintro _ w2 ⟨p, O, Is, p', hO, hl, hp', hH2⟩
  refine WL_v rfl (ov_assign rfl) ?_
  refine WL_nil ?_
  exact WT_ret1 Try.func35 Try.results35 rfl (drew_of hO hl hH2)
theorem drawCostPath_ok (hH : H w h Ls) {cv : Value} {bs : List Int} (hB : Bytes h cv bs) : Rets Try.prog 40 #[cv] w (Drew h Ls) := by
  refine rets_enter Try.func40 rfl Try.ntmps40 (by simp) ?_
  refine WT_seq ?_
  refine WT_region ?_
  refine WL_v rfl (ov_assign rfl) ?_
  refine WL_nil ?_
  refine WT_seq ?_
  refine WT_region ?_
  refine WL_v rfl (ov_move rfl) ?_
  refine WL_call rfl rfl cf_spec_l6Open (l6Open_ok hH hB) ?_; rintro _ w1 ⟨g, bv, bs', rfl, hB', hH1⟩
  refine WL_call rfl rfl cf_spec_l91Plan (l91Plan_ok hH1 hB' (by omega)) ?_; rintro _ w2 ⟨p, O, Is, p', hO, hl, hp', hH2⟩
  refine WL_v rfl (ov_assign rfl) ?_
  refine WL_nil ?_
  exact WT_ret1 Try.func40 Try.results40 rfl (drew_of hO hl hH2)

theorem lev_levelOf {p : List Nd} (hv : planOk p = true) {i : Nat} (hi : i < p.length) : levelOf p (i : Int) = lev p i := by
  unfold levelOf lev
  rw [if_pos ⟨hv, by omega, by omega⟩]; rfl
theorem valid_of' {p : List Nd} {a : Int} (h : ¬ (if planOk p = true then a else -1) < 0) : planOk p = true := by
  cases hp : planOk p with
  | true => rfl
  | false => rw [hp] at h; exact absurd (by simp) h

theorem fnCostPath_walk (hH : H w h Ls) {cv : Value} {bs : List Int} (hB : Bytes h cv bs) : Rets Try.prog 11 #[cv] w fun v w' => v = .bool true ∧ H w' h Ls := by
  refine rets_enter Try.func11 rfl Try.ntmps11 (by simp) ?_
  refine WT_seq ?_
  refine WT_region ?_
  refine WL_v rfl (ov_assign rfl) ?_
  refine WL_nil ?_
  refine WT_seq ?_
  refine WT_seq ?_
  refine WT_region ?_
  refine WL_v rfl (ov_move rfl) ?_
  refine WL_v rfl (ov_len rfl hB.sl st_sl_uint8) ?_
  refine WL_v rfl (ov_gtr rfl rfl) ?_
  refine WL_nil ?_
  refine WT_cond rfl (fun hl => ?_) (fun hl => ?_)
  · skip
    first | with_reducible replace hl := of_decide_eq_true hl | with_reducible replace hl := bn_T hl | with_reducible replace hl := bb_T hl | skip
    refine WT_seq ?_
    refine WT_region ?_
    refine WL_v rfl (ov_assign rfl) ?_
    refine WL_nil ?_
    exact WT_ret1 Try.func11 Try.results11 rfl ⟨rfl, hH⟩
  first | with_reducible replace hl := of_decide_eq_false hl | with_reducible replace hl := bn_F hl | with_reducible replace hl := bb_F hl | skip
  refine WT_skip ?_
  refine WT_seq ?_
  refine WT_region ?_
  refine WL_v rfl (ov_move rfl) ?_
  refine WL_call rfl rfl cf_spec_DrawCostPath (drawCostPath_ok hH hB) ?_; rintro pv w1 ⟨h', p, hle, hP, hpl, hH1⟩
  refine WL_v rfl (ov_assign rfl) ?_
  refine WL_nil ?_
  refine WT_seq ?_
  refine WT_region ?_
  refine WL_v rfl (ov_move rfl) ?_
  refine WL_call rfl rfl cf_impl_CostPath (costPath_ok hH1 hP) ?_; rintro _ w2 ⟨rfl, hH2⟩
  refine WL_v rfl (ov_assign rfl) ?_
  refine WL_nil ?_
  refine WT_seq ?_
  refine WT_region ?_
  refine WL_v rfl (ov_move rfl) ?_
  refine WL_call rfl rfl cf_spec_CostPath (sCostPath_ok hH2 hP (by omega)) ?_; rintro _ w3 ⟨rfl, hH3⟩
  refine WL_v rfl (ov_assign rfl) ?_
  refine WL_nil ?_
  refine WT_seq ?_
  refine WT_seq ?_
  refine WT_region ?_
  refine WL_v rfl (ov_move rfl) ?_
  refine WL_v rfl (ov_move rfl) ?_
  refine WL_v rfl (ov_F (ov_neq rfl rfl) (by first | exact decide_eq_false rfl | exact nb_F rfl | exact mb_F rfl | exact rfl | (simp only [decide_eq_false_iff_not]; omega) | simpa using rfl)) ?_
  refine WL_v rfl (ov_move rfl) ?_
  refine WL_guardOn rfl rfl ?_
  refine WL_v rfl (ov_move rfl) ?_
  refine WL_guardOn rfl rfl ?_
  refine WL_v rfl (ov_lss rfl rfl) ?_
  refine WL_v rfl (ov_pickF rfl rfl) ?_
  refine WL_nil ?_
  refine WT_cond rfl (fun hneg => ?_) (fun hneg => ?_)
  · skip
    first | with_reducible replace hneg := of_decide_eq_true hneg | with_reducible replace hneg := bn_T hneg | with_reducible replace hneg := bb_T hneg | skip
    refine WT_seq ?_
    refine WT_region ?_
    refine WL_v rfl (ov_move rfl) ?_
    refine WL_v rfl (ov_move rfl) ?_
    refine WL_v rfl (ov_T (ov_eql rfl rfl) (by first | exact decide_eq_true rfl | exact nb_T rfl | exact mb_T rfl | exact rfl | (simp only [decide_eq_true_eq]; omega) | simpa using rfl)) ?_
    refine WL_v rfl (ov_assign rfl) ?_
    refine WL_nil ?_
    exact WT_ret1 Try.func11 Try.results11 rfl ⟨rfl, hH3.weak hle⟩
  first | with_reducible replace hneg := of_decide_eq_false hneg | with_reducible replace hneg := bn_F hneg | with_reducible replace hneg := bb_F hneg | skip
  have hv := valid_of' hneg
  rw [if_pos hv]
  have hlen := PlanOk.len hv
  have hpa := path_le_all p
  have hlc := levCount_le_path hv
  have hcr := levCount_rg hv
  refine WT_skip ?_
  refine WT_seq ?_
  refine WT_seq ?_
  refine WT_region ?_
  refine WL_v rfl (ov_assign rfl) ?_
  refine WL_nil ?_
  refine WT_block ?_
  refine WT_while (fun s : Nat => [(3, pv), (4, .int .i64 (mostOf (pathsTo p p.length))), (6, .int .i64 (s : Int))]) (fun k w => k ≤ p.length ∧ H w h' Ls) (fun k => p.length - k) 0 (by repeat (first | exact trivial | refine ⟨rfl, ?_⟩)) ⟨by omega, hH3⟩ ?_
  clear hH hH1 hH2 hH3
  rintro k w5 ⟨hk, hH⟩ again
  refine WT_seq ?_
  refine WT_seq ?_
  refine WT_region ?_
  refine WL_v rfl (ov_move rfl) ?_
  refine WL_v rfl (ov_move rfl) ?_
  refine WL_v rfl (ov_len rfl hP.sl st_sl_impl_Node) ?_
  refine WL_v rfl (ov_lss rfl rfl) ?_
  refine WL_nil ?_
  refine WT_cond rfl (fun hc => ?_) (fun hc => ?_)
  · skip
    first | with_reducible replace hc := of_decide_eq_true hc | with_reducible replace hc := bn_T hc | with_reducible replace hc := bb_T hc | skip
    have hkp : k < p.length := by omega
    obtain ⟨fv, rv, hf, hr, hcell⟩ := hP.node hkp
    have hkk := costKind_valid (PlanOk.node hv hkp).kind
    have hcl := cost_le_path hkp
    refine WT_skip ?_
    refine WT_seq ?_
    refine WT_block ?_
    refine WT_seq ?_
    refine WT_region ?_
    refine WL_v rfl (ov_move rfl) ?_
    refine WL_v rfl (ov_move rfl) ?_
    refine WL_v rfl (ov_index rfl rfl st_sl_impl_Node hP.sl hkp) ?_
    refine WL_v rfl (ov_field rfl fo_impl_Node_0) ?_
    refine WL_v rfl (ov_load rfl one_int (hcell _ _ hH 0 _ rfl)) ?_
    refine WL_call rfl rfl cf_impl_CostKind (costKind_ok hH _) ?_; rintro _ w6 ⟨rfl, hH6⟩
    refine WL_v rfl (ov_move rfl) ?_
    refine WL_v rfl (ov_F (ov_gtr rfl rfl) (decide_eq_false (by rw [hkk]; omega))) ?_
    refine WL_nil ?_
    refine WT_condF rfl ?_
    refine WT_skip ?_
    refine WT_inBlock ?_
    refine WT_region ?_
    refine WL_v rfl (ov_move rfl) ?_
    refine WL_v rfl (ov_add rfl rfl (by omega)) ?_
    refine WL_v rfl (ov_assign rfl) ?_
    refine WL_nil ?_
    refine again (k + 1) _ _ (by omega) (by repeat (first | exact trivial | refine ⟨rfl, ?_⟩)) ⟨by omega, hH6⟩
  first | with_reducible replace hc := of_decide_eq_false hc | with_reducible replace hc := bn_F hc | with_reducible replace hc := bb_F hc | skip
  refine WT_exit rfl ?_
  refine WT_seq ?_
  refine WT_region ?_
  refine WL_v rfl (ov_move rfl) ?_
  refine WL_v rfl (ov_move rfl) ?_
  refine WL_call rfl rfl cf_impl_CostAll (costAll_ok hH hP) ?_; rintro _ w6 ⟨rfl, hH6⟩
  refine WL_v rfl (ov_T (ov_leq rfl rfl) (decide_eq_true (by rw [if_pos hv]; exact hpa))) ?_
  refine WL_v rfl (ov_move rfl) ?_
  refine WL_guardOn rfl rfl ?_
  refine WL_v rfl (ov_move rfl) ?_
  refine WL_guardOn rfl rfl ?_
  refine WL_v rfl (ov_move rfl) ?_
  refine WL_guardOn rfl rfl ?_
  refine WL_call rfl rfl cf_impl_LevelsOf (levelsOf_ok hH6 hP) ?_; rintro ov w7 ⟨O, Is, hO, hH7⟩
  refine WL_guardOn rfl rfl ?_
  refine WL_v rfl (ov_len rfl hO.sl st_sl_sl_int) ?_
  refine WL_guardOn rfl rfl ?_
  refine WL_v rfl (ov_T (ov_geq rfl rfl) (decide_eq_true (by unfold levelsOf; rw [if_pos hv, levelsL_len]; omega))) ?_
  refine WL_v rfl (ov_pickT rfl rfl) ?_
  refine WL_v rfl (ov_assign rfl) ?_
  refine WL_nil ?_
  exact WT_ret1 Try.func11 Try.results11 rfl ⟨rfl, H.drops _ (hH7.weak hle).drop⟩

theorem fnLevels_walk (hH : H w h Ls) {cv : Value} {bs : List Int} (hB : Bytes h cv bs) : Rets Try.prog 9 #[cv] w fun v w' => v = .bool true ∧ H w' h Ls := by
  refine rets_enter Try.func9 rfl Try.ntmps9 (by simp) ?_
  refine WT_seq ?_
  refine WT_region ?_
  refine WL_v rfl (ov_assign rfl) ?_
  refine WL_nil ?_
  refine WT_seq ?_
  refine WT_seq ?_
  refine WT_region ?_
  refine WL_v rfl (ov_move rfl) ?_
  refine WL_v rfl (ov_len rfl hB.sl st_sl_uint8) ?_
  refine WL_v rfl (ov_gtr rfl rfl) ?_
  refine WL_nil ?_
  refine WT_cond rfl (fun hl => ?_) (fun hl => ?_)
  · skip
    first | with_reducible replace hl := of_decide_eq_true hl | with_reducible replace hl := bn_T hl | with_reducible replace hl := bb_T hl | skip
    refine WT_seq ?_
    refine WT_region ?_
    refine WL_v rfl (ov_assign rfl) ?_
    refine WL_nil ?_
    exact WT_ret1 Try.func9 Try.results9 rfl ⟨rfl, hH⟩
  first | with_reducible replace hl := of_decide_eq_false hl | with_reducible replace hl := bn_F hl | with_reducible replace hl := bb_F hl | skip
  refine WT_skip ?_
  refine WT_seq ?_
  refine WT_region ?_
  refine WL_v rfl (ov_move rfl) ?_
  refine WL_call rfl rfl cf_spec_DrawLevelsOf (drawLevelsOf_ok hH hB) ?_; rintro pv w1 ⟨h', p, hle, hP, hpl, hH1⟩
  refine WL_v rfl (ov_assign rfl) ?_
  refine WL_nil ?_
  refine WT_seq ?_
  refine WT_region ?_
  refine WL_v rfl (ov_move rfl) ?_
  refine WL_call rfl rfl cf_impl_LevelsOf (levelsOf_ok hH1 hP) ?_; rintro ov w2 ⟨O, Is, hO, hH2⟩
  refine WL_v rfl (ov_assign rfl) ?_
  refine WL_nil ?_
  refine WT_seq ?_
  refine WT_region ?_
  refine WL_v rfl (ov_move rfl) ?_
  refine WL_call rfl rfl cf_spec_LevelsOf (sLevelsOf_ok hH2 hP (by omega)) ?_; rintro sv w3 ⟨O2, Is2, hO2, hH3⟩
  refine WL_v rfl (ov_assign rfl) ?_
  refine WL_nil ?_
  refine WT_seq ?_
  refine WT_seq ?_
  refine WT_region ?_
  refine WL_v rfl (ov_move rfl) ?_
  refine WL_v rfl (ov_move rfl) ?_
  obtain ⟨h2, hle2, hH4, hL2, _⟩ := hO2.freeze hH3
  obtain ⟨h3, hle3, hH5, hL, _⟩ := hO.freeze hH4
  have hP3 := (hP.mono (hle2.trans hle3))
  have hle' := hle.trans (hle2.trans hle3)
  refine WL_call rfl rfl cf_laws_sameRows (sameRows_ok hH5 (hL.rdll _) ((hL2.mono hle3).rdll _)) ?_; rintro _ w4 ⟨rfl, hH6⟩
  refine WL_v rfl (ov_F (ov_not rfl) (by simp)) ?_
  refine WL_v rfl (ov_move rfl) ?_
  refine WL_guardOn rfl rfl ?_
  refine WL_v rfl (ov_move rfl) ?_
  refine WL_guardOn rfl rfl ?_
  refine WL_call rfl rfl cf_spec_PlanValid (sPlanValid_ok hH6 hP3 (by omega)) ?_; rintro _ w5 ⟨rfl, hH7⟩
  refine WL_guardOn rfl rfl ?_
  refine WL_v rfl (ov_not rfl) ?_
  refine WL_v rfl (ov_pickF rfl rfl) ?_
  refine WL_nil ?_
  refine WT_cond rfl (fun hv => ?_) (fun hv => ?_)
  · skip
    first | with_reducible replace hv := of_decide_eq_true hv | with_reducible replace hv := bn_T hv | with_reducible replace hv := bb_T hv | skip
    refine WT_seq ?_
    refine WT_region ?_
    refine WL_v rfl (ov_move rfl) ?_
    refine WL_v rfl (ov_move rfl) ?_
    refine WL_call rfl rfl cf_laws_sameRows (sameRows_ok hH7 (hL.rdll _) ((hL2.mono hle3).rdll _)) ?_; rintro _ w6 ⟨rfl, hH8⟩
    refine WL_v rfl (ov_assign rfl) ?_
    refine WL_nil ?_
    exact WT_ret1 Try.func9 Try.results9 rfl ⟨by simp, hH8.weak hle'⟩
  first | with_reducible replace hv := of_decide_eq_false hv | with_reducible replace hv := bn_F hv | with_reducible replace hv := bb_F hv | skip
  have hlen := PlanOk.len hv
  have hcr := levCount_rg hv
  have hlo : levelsOf p = levelsL p := by unfold levelsOf; rw [if_pos hv]
  rw [hlo] at hL
  have hll := levelsL_len p
  have hrle : ∀ k, rowsLen p k ≤ 10 := fun k => by
    rw [rowsLen_eq]
    have := List.length_filter_le (fun i => decide (lev p i < (k : Int))) (List.range p.length)
    rw [List.length_range] at this
    omega
  refine WT_skip ?_
  refine WT_seq ?_
  refine WT_region ?_
  refine WL_v rfl (ov_assign rfl) ?_
  refine WL_nil ?_
  refine WT_seq ?_
  refine WT_seq ?_
  refine WT_region ?_
  refine WL_v rfl (ov_assign rfl) ?_
  refine WL_nil ?_
  refine WT_block ?_
  refine WT_while (fun s : Nat => [(3, pv), (4, ov), (6, .int .i64 (rowsLen p s : Int)), (7, .int .i64 (s : Int))]) (fun k w => k ≤ (levCount p).toNat ∧ H w h3 Ls) (fun k => (levCount p).toNat - k) 0 (by repeat (first | exact trivial | refine ⟨rfl, ?_⟩)) ⟨by omega, hH7⟩ ?_
  clear hH hH1 hH2 hH3 hH4 hH5 hH6 hH7
  rintro k w5 ⟨hk, hH⟩ again
  have hrk := hrle k
  refine WT_seq ?_
  refine WT_seq ?_
  refine WT_region ?_
  refine WL_v rfl (ov_move rfl) ?_
  refine WL_v rfl (ov_move rfl) ?_
  refine WL_v rfl (ov_len rfl hL.sl st_sl_sl_int) ?_
  refine WL_v rfl (ov_lss rfl rfl) ?_
  refine WL_nil ?_
  refine WT_cond rfl (fun hc => ?_) (fun hc => ?_)
  · skip
    first | with_reducible replace hc := of_decide_eq_true hc | with_reducible replace hc := bn_T hc | with_reducible replace hc := bb_T hc | skip
    have hkl : k < (levelsL p).length := by omega
    have hkc : (k : Int) < levCount p := by omega
    obtain ⟨u, hu, hucell⟩ := hL.elem hkl
    rw [levelsL_get] at hu
    have hul := toI_len (levRow p k)
    have hrow : (levRow p k).length ≤ 10 := by have := hrle (k + 1); rw [rowsLen] at this; omega
    refine WT_skip ?_
    refine WT_seq ?_
    refine WT_block ?_
    refine WT_seq ?_
    refine WT_region ?_
    refine WL_v rfl (ov_move rfl) ?_
    refine WL_v rfl (ov_move rfl) ?_
    refine WL_v rfl (ov_move rfl) ?_
    refine WL_v rfl (ov_index rfl rfl st_sl_sl_int hL.sl hkl) ?_
    refine WL_v rfl (ov_load rfl one_sl_int (hucell hH)) ?_
    refine WL_v rfl (ov_len rfl hu.sl st_sl_int) ?_
    refine WL_v rfl (ov_as (ov_add rfl rfl (by omega)) (congrArg (Value.int .i64) ((by rw [rowsLen, hul]; omega : (rowsLen p k : Int) + ((toI (levRow p k)).length : Int) = ((rowsLen p (k + 1) : Nat) : Int))))) ?_
    refine WL_v rfl (ov_assign rfl) ?_
    refine WL_nil ?_
    refine WT_seq ?_
    refine WT_seq ?_
    refine WT_region ?_
    refine WL_v rfl (ov_assign rfl) ?_
    refine WL_nil ?_
    refine WT_block ?_
    refine WT_while (fun s : Nat => [(3, pv), (4, ov), (6, .int .i64 (rowsLen p (k + 1) : Int)), (7, .int .i64 (k : Int)), (8, .int .i64 (s : Int))]) (fun j w => j ≤ (levRow p k).length ∧ H w h3 Ls) (fun j => (levRow p k).length - j) 0 (by repeat (first | exact trivial | refine ⟨rfl, ?_⟩)) ⟨by omega, hH⟩ ?_
    clear hH
    rintro j w6 ⟨hj, hH⟩ again2
    refine WT_seq ?_
    refine WT_seq ?_
    refine WT_region ?_
    refine WL_v rfl (ov_move rfl) ?_
    refine WL_v rfl (ov_move rfl) ?_
    refine WL_v rfl (ov_move rfl) ?_
    refine WL_v rfl (ov_index rfl rfl st_sl_sl_int hL.sl hkl) ?_
    refine WL_v rfl (ov_load rfl one_sl_int (hucell hH)) ?_
    refine WL_v rfl (ov_len rfl hu.sl st_sl_int) ?_
    refine WL_v rfl (ov_lss rfl rfl) ?_
    refine WL_nil ?_
    refine WT_cond rfl (fun hc2 => ?_) (fun hc2 => ?_)
    · skip
      first | with_reducible replace hc2 := of_decide_eq_true hc2 | with_reducible replace hc2 := bn_T hc2 | with_reducible replace hc2 := bb_T hc2 | skip
      have hjl : j < (levRow p k).length := by omega
      have hju : j < (toI (levRow p k)).length := by omega
      have hgj : (toI (levRow p k))[j] = ((levRow p k)[j] : Int) := by simp [toI]
      obtain ⟨hm1, hm2⟩ := mem_levRow.1 (List.getElem_mem hjl)
      have hlo2 : levelOf p ((levRow p k)[j] : Int) = (k : Int) := by rw [lev_levelOf hv hm1, hm2]
      rcases Nat.eq_zero_or_pos j with hj0 | hj0
      · skip
        refine WT_skip ?_
        refine WT_seq ?_
        refine WT_block ?_
        refine WT_seq ?_
        refine WT_quiet mixed (by kernel_rfl) hH ?_
        clear hH
        refine WQ_v rfl (fun _ _ => ov_move rfl) ?_
        refine WQ_v rfl (fun _ _ => ov_move rfl) ?_
        refine WQ_v rfl (fun _ _ => ov_move rfl) ?_
        refine WQ_v rfl (fun _ _ => ov_index rfl rfl st_sl_sl_int hL.sl hkl) ?_
        refine WQ_v rfl (fun _ hH => ov_load rfl one_sl_int (hucell hH)) ?_
        refine WQ_v rfl (fun _ _ => ov_move rfl) ?_
        refine WQ_v rfl (fun _ _ => ov_index rfl rfl st_sl_int hu.sl hju) ?_
        refine WQ_v rfl (fun _ hH => ov_load rfl one_int (hu.cell hH hju)) ?_; rw [hgj]
        refine WQ_call rfl rfl cf_impl_LevelOf (fun _ hH => levelOf_ok hH hP3 _) ?_
        refine WQ_v rfl (fun _ _ => ov_move rfl) ?_
        refine WQ_v rfl (fun _ _ => ov_F (ov_neq rfl rfl) (by rw [hlo2]; simp)) ?_
        refine WQ_v rfl (fun _ _ => ov_move rfl) ?_
        refine WQ_guardOn rfl rfl ?_
        refine WQ_v rfl (fun _ _ => ov_move rfl) ?_
        refine WQ_guardOn rfl rfl ?_
        refine WQ_v rfl (fun _ _ => ov_F (ov_gtr rfl rfl) (decide_eq_false (by omega))) ?_
        refine WQ_guardOn rfl rfl ?_
        refine WQ_v rfl (fun _ _ => ov_move rfl) ?_
        refine WQ_guardOff rfl rfl rfl rfl ?_
        refine WQ_guardOff rfl rfl rfl rfl ?_
        refine WQ_guardOff rfl rfl rfl rfl ?_
        refine WQ_guardOff rfl rfl rfl rfl ?_
        refine WQ_guardOff rfl rfl rfl rfl ?_
        refine WQ_guardOff rfl rfl rfl rfl ?_
        refine WQ_guardOff rfl rfl rfl rfl ?_
        refine WQ_guardOff rfl rfl rfl rfl ?_
        refine WQ_guardOff rfl rfl rfl rfl ?_
        refine WQ_guardOff rfl rfl rfl rfl ?_
        refine WQ_guardOff rfl rfl rfl rfl ?_
        refine WQ_guardOff rfl rfl rfl rfl ?_
        refine WQ_guardOff rfl rfl rfl rfl ?_
        refine WQ_guardOff rfl rfl rfl rfl ?_
        refine WQ_guardOff rfl rfl rfl rfl ?_
        refine WQ_guardOff rfl rfl rfl rfl ?_
        refine WQ_guardOn rfl rfl ?_
        refine WQ_v rfl (fun _ _ => ov_pickF rfl rfl) ?_
        refine WQ_v rfl (fun _ _ => ov_pickF rfl rfl) ?_
        refine WQ_nil ?_
        intro w7 hH
        refine WT_condF rfl ?_
        refine WT_skip ?_
        refine WT_inBlock ?_
        refine WT_region ?_
        refine WL_v rfl (ov_move rfl) ?_
        refine WL_v rfl (ov_add rfl rfl (by omega)) ?_
        refine WL_v rfl (ov_assign rfl) ?_
        refine WL_nil ?_
        refine again2 (j + 1) _ _ (by omega) (by repeat (first | exact trivial | refine ⟨rfl, ?_⟩)) ⟨by omega, hH⟩
      have hj1 : j - 1 < (toI (levRow p k)).length := by omega
      have hgj1 : (toI (levRow p k))[j - 1] = ((levRow p k)[j - 1] : Int) := by simp [toI]
      have hasc : (levRow p k)[j - 1] < (levRow p k)[j] := (List.pairwise_iff_getElem.1 (levRow_asc p k)) (j - 1) j (by omega) hjl (by omega)
      refine WT_skip ?_
      refine WT_seq ?_
      refine WT_block ?_
      refine WT_seq ?_
      refine WT_quiet mixed (by kernel_rfl) hH ?_
      clear hH
      refine WQ_v rfl (fun _ _ => ov_move rfl) ?_
      refine WQ_v rfl (fun _ _ => ov_move rfl) ?_
      refine WQ_v rfl (fun _ _ => ov_move rfl) ?_
      refine WQ_v rfl (fun _ _ => ov_index rfl rfl st_sl_sl_int hL.sl hkl) ?_
      refine WQ_v rfl (fun _ hH => ov_load rfl one_sl_int (hucell hH)) ?_
      refine WQ_v rfl (fun _ _ => ov_move rfl) ?_
      refine WQ_v rfl (fun _ _ => ov_index rfl rfl st_sl_int hu.sl hju) ?_
      refine WQ_v rfl (fun _ hH => ov_load rfl one_int (hu.cell hH hju)) ?_; rw [hgj]
      refine WQ_call rfl rfl cf_impl_LevelOf (fun _ hH => levelOf_ok hH hP3 _) ?_
      refine WQ_v rfl (fun _ _ => ov_move rfl) ?_
      refine WQ_v rfl (fun _ _ => ov_F (ov_neq rfl rfl) (by rw [hlo2]; simp)) ?_
      refine WQ_v rfl (fun _ _ => ov_move rfl) ?_
      refine WQ_guardOn rfl rfl ?_
      refine WQ_v rfl (fun _ _ => ov_move rfl) ?_
      refine WQ_guardOn rfl rfl ?_
      refine WQ_v rfl (fun _ _ => ov_T (ov_gtr rfl rfl) (decide_eq_true (by omega))) ?_
      refine WQ_guardOn rfl rfl ?_
      refine WQ_v rfl (fun _ _ => ov_move rfl) ?_
      refine WQ_guardOn rfl rfl ?_
      refine WQ_v rfl (fun _ _ => ov_move rfl) ?_
      refine WQ_guardOn rfl rfl ?_
      refine WQ_v rfl (fun _ _ => ov_move rfl) ?_
      refine WQ_guardOn rfl rfl ?_
      refine WQ_v rfl (fun _ _ => ov_index rfl rfl st_sl_sl_int hL.sl hkl) ?_
      refine WQ_guardOn rfl rfl ?_
      refine WQ_v rfl (fun _ hH => ov_load rfl one_sl_int (hucell hH)) ?_
      refine WQ_guardOn rfl rfl ?_
      refine WQ_v rfl (fun _ _ => ov_move rfl) ?_
      refine WQ_guardOn rfl rfl ?_
      refine WQ_v rfl (fun _ _ => ov_as (ov_sub rfl rfl (by omega)) (congrArg (Value.int .i64) ((show (j : Int) - 1 = ((j - 1 : Nat) : Int) by omega)))) ?_
      refine WQ_guardOn rfl rfl ?_
      refine WQ_v rfl (fun _ _ => ov_index rfl rfl st_sl_int hu.sl hj1) ?_
      refine WQ_guardOn rfl rfl ?_
      refine WQ_v rfl (fun _ hH => ov_load rfl one_int (hu.cell hH hj1)) ?_; rw [hgj1]
      refine WQ_guardOn rfl rfl ?_
      refine WQ_v rfl (fun _ _ => ov_move rfl) ?_
      refine WQ_guardOn rfl rfl ?_
      refine WQ_v rfl (fun _ _ => ov_move rfl) ?_
      refine WQ_guardOn rfl rfl ?_
      refine WQ_v rfl (fun _ _ => ov_index rfl rfl st_sl_sl_int hL.sl hkl) ?_
      refine WQ_guardOn rfl rfl ?_
      refine WQ_v rfl (fun _ hH => ov_load rfl one_sl_int (hucell hH)) ?_
      refine WQ_guardOn rfl rfl ?_
      refine WQ_v rfl (fun _ _ => ov_move rfl) ?_
      refine WQ_guardOn rfl rfl ?_
      refine WQ_v rfl (fun _ _ => ov_index rfl rfl st_sl_int hu.sl hju) ?_
      refine WQ_guardOn rfl rfl ?_
      refine WQ_v rfl (fun _ hH => ov_load rfl one_int (hu.cell hH hju)) ?_; rw [hgj]
      refine WQ_guardOn rfl rfl ?_
      refine WQ_v rfl (fun _ _ => ov_F (ov_geq rfl rfl) (decide_eq_false (by omega))) ?_
      refine WQ_guardOn rfl rfl ?_
      refine WQ_v rfl (fun _ _ => ov_pickT rfl rfl) ?_
      refine WQ_v rfl (fun _ _ => ov_pickF rfl rfl) ?_
      refine WQ_nil ?_
      intro w7 hH
      refine WT_condF rfl ?_
      refine WT_skip ?_
      refine WT_inBlock ?_
      refine WT_region ?_
      refine WL_v rfl (ov_move rfl) ?_
      refine WL_v rfl (ov_add rfl rfl (by omega)) ?_
      refine WL_v rfl (ov_assign rfl) ?_
      refine WL_nil ?_
      refine again2 (j + 1) _ _ (by omega) (by repeat (first | exact trivial | refine ⟨rfl, ?_⟩)) ⟨by omega, hH⟩
    first | with_reducible replace hc2 := of_decide_eq_false hc2 | with_reducible replace hc2 := bn_F hc2 | with_reducible replace hc2 := bb_F hc2 | skip
    have hne := List.length_pos_iff.2 (levRow_ne hv hkc)
    refine WT_exit rfl ?_
    refine WT_seq ?_
    refine WT_region ?_
    refine WL_v rfl (ov_move rfl) ?_
    refine WL_v rfl (ov_move rfl) ?_
    refine WL_v rfl (ov_index rfl rfl st_sl_sl_int hL.sl hkl) ?_
    refine WL_v rfl (ov_load rfl one_sl_int (hucell hH)) ?_
    refine WL_v rfl (ov_len rfl hu.sl st_sl_int) ?_
    refine WL_v rfl (ov_F (ov_eql rfl rfl) (decide_eq_false (by omega))) ?_
    refine WL_nil ?_
    refine WT_condF rfl ?_
    refine WT_skip ?_
    refine WT_inBlock ?_
    refine WT_region ?_
    refine WL_v rfl (ov_move rfl) ?_
    refine WL_v rfl (ov_add rfl rfl (by omega)) ?_
    refine WL_v rfl (ov_assign rfl) ?_
    refine WL_nil ?_
    refine again (k + 1) _ _ (by omega) (by repeat (first | exact trivial | refine ⟨rfl, ?_⟩)) ⟨by omega, hH⟩
  first | with_reducible replace hc := of_decide_eq_false hc | with_reducible replace hc := bn_F hc | with_reducible replace hc := bb_F hc | skip
  have hkk : k = (levCount p).toNat := by omega
  have hall := rowsLen_all hv
  refine WT_exit rfl ?_
  refine WT_seq ?_
  refine WT_region ?_
  refine WL_v rfl (ov_move rfl) ?_
  refine WL_v rfl (ov_move rfl) ?_
  refine WL_v rfl (ov_len rfl hP.sl st_sl_impl_Node) ?_
  refine WL_v rfl (ov_T (ov_eql rfl rfl) (decide_eq_true (by rw [hkk]; omega))) ?_
  refine WL_v rfl (ov_assign rfl) ?_
  refine WL_nil ?_
  exact WT_ret1 Try.func9 Try.results9 rfl ⟨rfl, hH.weak hle'⟩
end
end Go.Proofs.Ytieoacpffdpgeaa
