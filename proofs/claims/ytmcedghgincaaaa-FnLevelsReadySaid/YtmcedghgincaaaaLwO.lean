/- The law FnLevelsReady. -/
import Derived.Test.YtmcedghgincaaaaLwI
import Derived.Test.YtmcedghgincaaaaWkCC
namespace Go.Proofs.Ytmcedghgincaaaa
open Go.RowKit

section
variable {h : GH} {Ls : List Heaplet} {w : World}

theorem sameRows_same (hH : H w h Ls) {av bv : Value} {xs : List (List Int)} (hA : RdLL h Ls av xs) (hB : RdLL h Ls bv xs) : Rets Try.prog 29 #[av, bv] w fun v w' => v = .bool true ∧ H w' h Ls :=
  (sameRows_ok hH hA hB).mono fun _ _ hh => ⟨by rw [hh.1]; simp, hh.2⟩
theorem ints_nil_rdl {v : Value} {A : Heaplet} {e : TypeId} (hA : IRow A e v []) {i : Nat} (hi : Ls[i]? = some A) : RdL h Ls v [] := hA.rdl hi

theorem fnLevelsReady_walk (hH : H w h Ls) {cv : Value} {bs : List Int} (hB : Bytes h cv bs) : Rets Try.prog 5 #[cv] w fun v w' => v = .bool true ∧ H w' h Ls := by
  refine rets_enter Try.func5 rfl Try.ntmps5 (by simp) ?_
  refine WT_seq ?_
  refine WT_region ?_
  refine WL_v rfl (ov_assign rfl) ?_
  refine WL_nil ?_
  refine WT_seq ?_
  refine WT_seq ?_
  refine WT_region ?_
  refine WL_v rfl (ov_move rfl) ?_
  refine WL_v rfl (ov_len rfl hB.sl st_sl_uint8) ?_
  refine WL_v rfl (ov_gtr rfl rfl) ?_
  refine WL_nil ?_
  refine WT_cond rfl (fun hl => ?_) (fun hl => ?_)
  · skip
    first | with_reducible replace hl := of_decide_eq_true hl | with_reducible replace hl := bn_T hl | with_reducible replace hl := bb_T hl | skip
    refine WT_seq ?_
    refine WT_region ?_
    refine WL_v rfl (ov_assign rfl) ?_
    refine WL_nil ?_
    exact WT_ret1 Try.func5 Try.results5 rfl ⟨rfl, hH⟩
  first | with_reducible replace hl := of_decide_eq_false hl | with_reducible replace hl := bn_F hl | with_reducible replace hl := bb_F hl | skip
  refine WT_skip ?_
  refine WT_seq ?_
  refine WT_region ?_
  refine WL_v rfl (ov_move rfl) ?_
  refine WL_call rfl rfl cf_spec_DrawLevelsOf (drawLevelsOf_ok hH hB) ?_; rintro pv w1 ⟨h', p, hle, hP, hpl, hH1⟩
  refine WL_v rfl (ov_assign rfl) ?_
  refine WL_nil ?_
  refine WT_seq ?_
  refine WT_region ?_
  refine WL_v rfl (ov_move rfl) ?_
  refine WL_call rfl rfl cf_impl_LevelsOf (levelsOf_ok hH1 hP) ?_; rintro ov w2 ⟨O, Is, hO, hH2⟩
  refine WL_v rfl (ov_assign rfl) ?_
  refine WL_nil ?_
  refine WT_seq ?_
  refine WT_region ?_
  refine WL_v rfl (ov_move rfl) ?_
  refine WL_call rfl rfl cf_spec_LevelsOf (sLevelsOf_ok hH2 hP (by omega)) ?_; rintro sv w3 ⟨O2, Is2, hO2, hH3⟩
  refine WL_v rfl (ov_assign rfl) ?_
  refine WL_nil ?_
  refine WT_seq ?_
  refine WT_seq ?_
  refine WT_region ?_
  refine WL_v rfl (ov_move rfl) ?_
  refine WL_v rfl (ov_move rfl) ?_
  obtain ⟨h2, hle2, hH4, hL2, _⟩ := hO2.freeze hH3
  obtain ⟨h3, hle3, hH5, hL, _⟩ := hO.freeze hH4
  have hP3 := (hP.mono (hle2.trans hle3))
  have hle' := hle.trans (hle2.trans hle3)
  have hL2' := hL2.mono hle3
  by_cases hv : planOk p = true
  case neg =>
    have hv' : planOk p = false := by simpa using hv
    refine WL_call rfl rfl cf_laws_sameRows (sameRows_same hH5 (hL.rdll _) (hL2'.rdll _)) ?_; rintro _ w4 ⟨rfl, hH6⟩
    refine WL_v rfl (ov_F (ov_not rfl) rfl) ?_
    refine WL_v rfl (ov_move rfl) ?_
    refine WL_guardOn rfl rfl ?_
    refine WL_v rfl (ov_move rfl) ?_
    refine WL_guardOn rfl rfl ?_
    refine WL_call rfl rfl cf_spec_PlanValid (sPlanValid_ok hH6 hP3 (by omega)) ?_; rintro _ w5 ⟨rfl, hH7⟩
    refine WL_guardOn rfl rfl ?_
    refine WL_v rfl (ov_T (ov_not rfl) (by first | exact decide_eq_true hv' | exact nb_T hv' | exact mb_T hv' | exact hv' | (simp only [decide_eq_true_eq]; omega) | simpa using hv')) ?_
    refine WL_v rfl (ov_pickF rfl rfl) ?_
    refine WL_v rfl (ov_move rfl) ?_
    refine WL_guardOff rfl rfl rfl rfl ?_
    refine WL_guardOff rfl rfl rfl rfl ?_
    refine WL_guardOff rfl rfl rfl rfl ?_
    refine WL_v rfl (ov_pickT rfl rfl) ?_
    refine WL_nil ?_
    refine WT_condT rfl ?_
    refine WT_seq ?_
    refine WT_region ?_
    refine WL_v rfl (ov_move rfl) ?_
    refine WL_v rfl (ov_move rfl) ?_
    refine WL_call rfl rfl cf_laws_sameRows (sameRows_same hH7 (hL.rdll _) (hL2'.rdll _)) ?_; rintro _ w6 ⟨rfl, hH8⟩
    refine WL_v rfl (ov_assign rfl) ?_
    refine WL_nil ?_
    exact WT_ret1 Try.func5 Try.results5 rfl ⟨rfl, hH8.weak hle'⟩
  have hlen := PlanOk.len hv
  have hcr := levCount_rg hv
  have hlo : levelsOf p = levelsL p := by unfold levelsOf; rw [if_pos hv]
  refine WL_call rfl rfl cf_laws_sameRows (sameRows_same hH5 (hL.rdll _) (hL2'.rdll _)) ?_; rintro _ w4 ⟨rfl, hH6⟩
  refine WL_v rfl (ov_F (ov_not rfl) rfl) ?_
  refine WL_v rfl (ov_move rfl) ?_
  refine WL_guardOn rfl rfl ?_
  refine WL_v rfl (ov_move rfl) ?_
  refine WL_guardOn rfl rfl ?_
  refine WL_call rfl rfl cf_spec_PlanValid (sPlanValid_ok hH6 hP3 (by omega)) ?_; rintro _ w5 ⟨rfl, hH7⟩
  refine WL_guardOn rfl rfl ?_
  refine WL_v rfl (ov_F (ov_not rfl) (by first | exact decide_eq_false hv | exact nb_F hv | exact mb_F hv | exact hv | (simp only [decide_eq_false_iff_not]; omega) | simpa using hv)) ?_
  refine WL_v rfl (ov_pickF rfl rfl) ?_
  refine WL_v rfl (ov_move rfl) ?_
  refine WL_guardOn rfl rfl ?_
  refine WL_v rfl (ov_move rfl) ?_
  refine WL_guardOn rfl rfl ?_
  refine WL_v rfl (ov_len rfl hP3.sl st_sl_impl_Node) ?_
  refine WL_guardOn rfl rfl ?_
  refine WL_v rfl (ov_eql rfl rfl) ?_
  refine WL_v rfl (ov_pickF rfl rfl) ?_
  refine WL_nil ?_
  refine WT_cond rfl (fun h0 => ?_) (fun h0 => ?_)
  · skip
    first | with_reducible replace h0 := of_decide_eq_true h0 | with_reducible replace h0 := bn_T h0 | with_reducible replace h0 := bb_T h0 | skip
    refine WT_seq ?_
    refine WT_region ?_
    refine WL_v rfl (ov_move rfl) ?_
    refine WL_v rfl (ov_move rfl) ?_
    refine WL_call rfl rfl cf_laws_sameRows (sameRows_same hH7 (hL.rdll _) (hL2'.rdll _)) ?_; rintro _ w6 ⟨rfl, hH8⟩
    refine WL_v rfl (ov_assign rfl) ?_
    refine WL_nil ?_
    exact WT_ret1 Try.func5 Try.results5 rfl ⟨rfl, hH8.weak hle'⟩
  first | with_reducible replace h0 := of_decide_eq_false h0 | with_reducible replace h0 := bn_F h0 | with_reducible replace h0 := bb_F h0 | skip
  have hp0 : 0 < p.length := by omega
  have hlc0 := lev_lt_count (p := p) hp0
  have hln0 := lev_nonneg p 0
  rw [hlo] at hL
  have hll := levelsL_len p
  have hl0 : 0 < (levelsL p).length := by omega
  obtain ⟨u0, hu0, hc0⟩ := hL.elem hl0
  rw [levelsL_get] at hu0
  have hr0 : readyOf p [] = toI (levRow p 0) := by unfold readyOf; rw [if_pos hv, ready_first hv]
  have hr1 : readyOf p (toI (levRow p 0)) = toI (levRow p 1) := by unfold readyOf toI; rw [if_pos hv, ready_second hv]
  have hul0 := toI_len (levRow p 0)
  have hlr : (levRow p 0).length ≤ p.length := by
    have := List.length_filter_le (fun i => decide (lev p i = ((0 : Nat) : Int))) (List.range p.length)
    simpa [levRow] using this
  refine WT_skip ?_
  refine WT_seq ?_
  refine WT_region ?_
  refine WL_v rfl (ov_move rfl) ?_
  refine WL_bsI0 rfl hH7 run_bs_int0 ?_; rintro Z zv w6 hZ hH8
  refine WL_call rfl rfl cf_impl_ReadyOf (readyOf_ok hH8 hP3 (hZ.rdl (i := 0) rfl) (by simp)) ?_; rintro xv w7 ⟨X, hX, hH9⟩
  refine WL_v rfl (ov_assign rfl) ?_
  refine WL_nil ?_
  refine WT_seq ?_
  refine WT_seq ?_
  refine WT_region ?_
  refine WL_v rfl (ov_move rfl) ?_
  refine WL_v rfl (ov_move rfl) ?_
  rw [hr0] at hX
  refine WL_v rfl (ov_index (i := 0) rfl rfl st_sl_sl_int hL.sl hl0) ?_
  refine WL_v rfl (ov_load rfl one_sl_int (hc0 hH9)) ?_
  refine WL_call rfl rfl cf_laws_sameRow (sameRow_ok hH9 (hX.rdl (i := 0) rfl) (hu0.rdl _)) ?_; rintro _ w8 ⟨rfl, hH10⟩
  refine WL_v rfl (ov_F (ov_not rfl) (by simp)) ?_
  refine WL_nil ?_
  refine WT_condF rfl ?_
  refine WT_skip ?_
  refine WT_seq ?_
  refine WT_seq ?_
  refine WT_region ?_
  refine WL_v rfl (ov_move rfl) ?_
  refine WL_v rfl (ov_len rfl hL.sl st_sl_sl_int) ?_
  refine WL_v rfl (ov_eql rfl rfl) ?_
  refine WL_nil ?_
  refine WT_cond rfl (fun h1 => ?_) (fun h1 => ?_)
  · skip
    first | with_reducible replace h1 := of_decide_eq_true h1 | with_reducible replace h1 := bn_T h1 | with_reducible replace h1 := bb_T h1 | skip
    refine WT_seq ?_
    refine WT_region ?_
    refine WL_v rfl (ov_assign rfl) ?_
    refine WL_nil ?_
    exact WT_ret1 Try.func5 Try.results5 rfl ⟨rfl, (hH10.weak hle').drop.drop⟩
  first | with_reducible replace h1 := of_decide_eq_false h1 | with_reducible replace h1 := bn_F h1 | with_reducible replace h1 := bb_F h1 | skip
  have hl1 : 1 < (levelsL p).length := by omega
  obtain ⟨u1, hu1, hc1⟩ := hL.elem hl1
  rw [levelsL_get] at hu1
  refine WT_skip ?_
  refine WT_seq ?_
  refine WT_mixL [(0, 0), (1, 0), (2, 0), (3, 0), (5, 0), (6, 0), (7, 0), (4, 1), (8, 1), (9, 0)] mixed (by kernel_rfl) hH10 ?_
  clear hH10
  intro w9 hH10 hC
  refine WM_v rfl rfl hC (fun _ _ => ov_move rfl) ?_
  refine WM_v rfl rfl hC (fun _ _ => ov_move rfl) ?_
  refine WM_v rfl rfl hC (fun _ _ => ov_index (i := 0) rfl rfl st_sl_sl_int hL.sl hl0) ?_
  refine WM_v rfl rfl hC (fun _ ⟨_, hH⟩ => ov_load rfl one_sl_int (hc0 hH)) ?_
  refine WM_v rfl rfl hC (fun _ _ => ov_move rfl) ?_
  refine WM_v rfl rfl hC (fun _ _ => ov_index (i := 1) rfl rfl st_sl_sl_int hL.sl hl1) ?_
  refine WM_v rfl rfl hC (fun _ ⟨_, hH⟩ => ov_load rfl one_sl_int (hc1 hH)) ?_
  refine WM_e rfl ?_
  refine WL_call rfl rfl cf_impl_ReadyOf (readyOf_ok hH10 hP3 (hu0.rdl _) (by omega)) ?_; rintro yv w10 ⟨Y, hY, hH11⟩
  replace hC : Cl _ _ _ := ⟨_, hH11⟩
  refine WL_mix (fun _ => hC) ?_
  refine WM_e rfl ?_
  refine WL_call rfl rfl cf_laws_sameRow (sameRow_ok hH11 (hY.rdl (i := 0) rfl) (hu1.rdl _)) ?_; rintro _ w11 ⟨rfl, hH12⟩
  replace hC : Cl _ _ _ := ⟨_, hH12⟩
  refine WL_mix (fun _ => hC) ?_
  refine WM_v rfl rfl hC (fun _ _ => ov_assign rfl) ?_
  refine WM_nil ?_
  exact WT_ret1 Try.func5 Try.results5 rfl ⟨by rw [hr1]; simp, (hH12.weak hle').drop.drop.drop⟩
end
end Go.Proofs.Ytmcedghgincaaaa
