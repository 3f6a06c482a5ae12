/- The law FnCostPathNode. -/
import Derived.Test.YtmcedghgincaaaaLwI
import Derived.Test.YtmcedghgincaaaaWkBB
import Derived.Test.YtmcedghgincaaaaWkII
namespace Go.Proofs.Ytmcedghgincaaaa
open Go.RowKit

section
variable {h : GH} {Ls : List Heaplet} {w : World}

theorem costPath_yes (hH : H w h Ls) {pv : Value} {p : List Nd} (hP : Plan h pv p) (hv : planOk p = true) : Rets Try.prog 19 #[pv] w fun v w' => v = .int .i64 (mostOf (pathsTo p p.length)) ∧ H w' h Ls :=
  (costPath_ok hH hP).mono fun _ _ hh => ⟨by rw [hh.1, if_pos hv], hh.2⟩
theorem cutOk_one {p : List Nd} (hv : planOk p = true) {a : Nat} (ha : a < p.length) : cutOk p [(a : Int)] = true := by
  unfold cutOk
  rw [hv, Bool.true_and]
  simp only [List.all_cons, List.all_nil, Bool.and_true, decide_eq_true_eq]
  omega
theorem cutOk_needs {p : List Nd} (hv : planOk p = true) {a : Nat} (ha : a < p.length) : cutOk p (toI (needsL p a)) = true := by
  unfold cutOk
  rw [hv, Bool.true_and, List.all_eq_true]
  intro x hx
  obtain ⟨j, hj, rfl⟩ := List.mem_map.1 hx
  have := ((mem_needsL hv).1 hj).lt hv
  rw [decide_eq_true_eq]
  omega

theorem fnCostPathNode_walk (hH : H w h Ls) {cv mv : Value} {bs ms : List Int} (hB : Bytes h cv bs) (hM : Bytes h mv ms) : Rets Try.prog 11 #[cv, mv] w fun v w' => v = .bool true ∧ H w' h Ls := by
  refine rets_enter Try.func11 rfl Try.ntmps11 (by simp) ?_
  by_cases hl : (1048576 : Int) < (bs.length : Int)
  · skip
    refine WT_seq ?_
    refine WT_region ?_
    refine WL_v rfl (ov_assign rfl) ?_
    refine WL_nil ?_
    refine WT_seq ?_
    refine WT_seq ?_
    refine WT_region ?_
    refine WL_v rfl (ov_move rfl) ?_
    refine WL_v rfl (ov_len rfl hB.sl st_sl_uint8) ?_
    refine WL_v rfl (ov_T (ov_gtr rfl rfl) (by first | exact decide_eq_true hl | exact nb_T hl | exact mb_T hl | exact hl | (simp only [decide_eq_true_eq]; omega) | simpa using hl)) ?_
    refine WL_v rfl (ov_move rfl) ?_
    refine WL_guardOff rfl rfl rfl rfl ?_
    refine WL_guardOff rfl rfl rfl rfl ?_
    refine WL_guardOff rfl rfl rfl rfl ?_
    refine WL_v rfl (ov_pickT rfl rfl) ?_
    refine WL_nil ?_
    refine WT_condT rfl ?_
    refine WT_seq ?_
    refine WT_region ?_
    refine WL_v rfl (ov_assign rfl) ?_
    refine WL_nil ?_
    exact WT_ret1 Try.func11 Try.results11 rfl ⟨rfl, hH⟩
  refine WT_seq ?_
  refine WT_region ?_
  refine WL_v rfl (ov_assign rfl) ?_
  refine WL_nil ?_
  refine WT_seq ?_
  refine WT_seq ?_
  refine WT_region ?_
  refine WL_v rfl (ov_move rfl) ?_
  refine WL_v rfl (ov_len rfl hB.sl st_sl_uint8) ?_
  refine WL_v rfl (ov_F (ov_gtr rfl rfl) (by first | exact decide_eq_false hl | exact nb_F hl | exact mb_F hl | exact hl | (simp only [decide_eq_false_iff_not]; omega) | simpa using hl)) ?_
  refine WL_v rfl (ov_move rfl) ?_
  refine WL_guardOn rfl rfl ?_
  refine WL_v rfl (ov_move rfl) ?_
  refine WL_guardOn rfl rfl ?_
  refine WL_v rfl (ov_len rfl hM.sl st_sl_uint8) ?_
  refine WL_guardOn rfl rfl ?_
  refine WL_v rfl (ov_gtr rfl rfl) ?_
  refine WL_v rfl (ov_pickF rfl rfl) ?_
  refine WL_nil ?_
  refine WT_cond rfl (fun hl2 => ?_) (fun hl2 => ?_)
  · skip
    first | with_reducible replace hl2 := of_decide_eq_true hl2 | with_reducible replace hl2 := bn_T hl2 | with_reducible replace hl2 := bb_T hl2 | skip
    refine WT_seq ?_
    refine WT_region ?_
    refine WL_v rfl (ov_assign rfl) ?_
    refine WL_nil ?_
    exact WT_ret1 Try.func11 Try.results11 rfl ⟨rfl, hH⟩
  first | with_reducible replace hl2 := of_decide_eq_false hl2 | with_reducible replace hl2 := bn_F hl2 | with_reducible replace hl2 := bb_F hl2 | skip
  refine WT_skip ?_
  refine WT_seq ?_
  refine WT_region ?_
  refine WL_v rfl (ov_move rfl) ?_
  refine WL_call rfl rfl cf_spec_DrawCostPath (drawCostPath_ok hH hB) ?_; rintro pv w1 ⟨h', p, hle, hP, hpl, hH1⟩
  refine WL_v rfl (ov_assign rfl) ?_
  refine WL_nil ?_
  refine WT_seq ?_
  refine WT_region ?_
  refine WL_v rfl (ov_move rfl) ?_
  refine WL_call rfl rfl cf_impl_CostPath (costPath_ok hH1 hP) ?_; rintro _ w2 ⟨rfl, hH2⟩
  refine WL_v rfl (ov_assign rfl) ?_
  refine WL_nil ?_
  refine WT_seq ?_
  refine WT_region ?_
  refine WL_v rfl (ov_move rfl) ?_
  refine WL_call rfl rfl cf_spec_CostPath (sCostPath_ok hH2 hP (by omega)) ?_; rintro _ w3 ⟨rfl, hH3⟩
  refine WL_v rfl (ov_assign rfl) ?_
  refine WL_nil ?_
  refine WT_seq ?_
  refine WT_seq ?_
  refine WT_region ?_
  refine WL_v rfl (ov_move rfl) ?_
  refine WL_v rfl (ov_move rfl) ?_
  refine WL_v rfl (ov_F (ov_neq rfl rfl) (by first | exact decide_eq_false rfl | exact nb_F rfl | exact mb_F rfl | exact rfl | (simp only [decide_eq_false_iff_not]; omega) | simpa using rfl)) ?_
  refine WL_v rfl (ov_move rfl) ?_
  by_cases hneg : (if planOk p = true then mostOf (pathsTo p p.length) else -1) < 0
  · skip
    refine WL_guardOn rfl rfl ?_
    refine WL_v rfl (ov_move rfl) ?_
    refine WL_guardOn rfl rfl ?_
    refine WL_v rfl (ov_T (ov_lss rfl rfl) (by first | exact decide_eq_true hneg | exact nb_T hneg | exact mb_T hneg | exact hneg | (simp only [decide_eq_true_eq]; omega) | simpa using hneg)) ?_
    refine WL_v rfl (ov_pickF rfl rfl) ?_
    refine WL_v rfl (ov_move rfl) ?_
    refine WL_guardOff rfl rfl rfl rfl ?_
    refine WL_guardOff rfl rfl rfl rfl ?_
    refine WL_guardOff rfl rfl rfl rfl ?_
    refine WL_v rfl (ov_pickT rfl rfl) ?_
    refine WL_nil ?_
    refine WT_condT rfl ?_
    refine WT_seq ?_
    refine WT_region ?_
    refine WL_v rfl (ov_move rfl) ?_
    refine WL_v rfl (ov_move rfl) ?_
    refine WL_v rfl (ov_T (ov_eql rfl rfl) (by first | exact decide_eq_true rfl | exact nb_T rfl | exact mb_T rfl | exact rfl | (simp only [decide_eq_true_eq]; omega) | simpa using rfl)) ?_
    refine WL_v rfl (ov_assign rfl) ?_
    refine WL_nil ?_
    exact WT_ret1 Try.func11 Try.results11 rfl ⟨rfl, hH3.weak hle⟩
  have hv := valid_of' hneg
  refine WL_guardOn rfl rfl ?_
  refine WL_v rfl (ov_move rfl) ?_
  refine WL_guardOn rfl rfl ?_
  refine WL_v rfl (ov_F (ov_lss rfl rfl) (by first | exact decide_eq_false hneg | exact nb_F hneg | exact mb_F hneg | exact hneg | (simp only [decide_eq_false_iff_not]; omega) | simpa using hneg)) ?_
  refine WL_v rfl (ov_pickF rfl rfl) ?_
  refine WL_v rfl (ov_move rfl) ?_
  refine WL_guardOn rfl rfl ?_
  refine WL_v rfl (ov_move rfl) ?_
  refine WL_guardOn rfl rfl ?_
  refine WL_v rfl (ov_len rfl hP.sl st_sl_impl_Node) ?_
  refine WL_guardOn rfl rfl ?_
  refine WL_v rfl (ov_eql rfl rfl) ?_
  refine WL_v rfl (ov_pickF rfl rfl) ?_
  refine WL_nil ?_
  refine WT_cond rfl (fun h0 => ?_) (fun h0 => ?_)
  · skip
    first | with_reducible replace h0 := of_decide_eq_true h0 | with_reducible replace h0 := bn_T h0 | with_reducible replace h0 := bb_T h0 | skip
    refine WT_seq ?_
    refine WT_region ?_
    refine WL_v rfl (ov_move rfl) ?_
    refine WL_v rfl (ov_move rfl) ?_
    refine WL_v rfl (ov_T (ov_eql rfl rfl) (by first | exact decide_eq_true rfl | exact nb_T rfl | exact mb_T rfl | exact rfl | (simp only [decide_eq_true_eq]; omega) | simpa using rfl)) ?_
    refine WL_v rfl (ov_assign rfl) ?_
    refine WL_nil ?_
    exact WT_ret1 Try.func11 Try.results11 rfl ⟨rfl, hH3.weak hle⟩
  first | with_reducible replace h0 := of_decide_eq_false h0 | with_reducible replace h0 := bn_F h0 | with_reducible replace h0 := bb_F h0 | skip
  have hp0 : 0 < p.length := by omega
  have hlen := PlanOk.len hv
  obtain ⟨a, ha, hap⟩ : ∃ a, ms.length % p.length = a ∧ a < p.length := ⟨_, rfl, Nat.mod_lt _ hp0⟩
  have hmod : (ms.length : Int) % (p.length : Int) = (a : Int) := by rw [← ha]; rfl
  have hno : needsOf p (a : Int) = toI (needsL p a) := by unfold needsOf; rw [if_pos ⟨hv, by omega, by omega⟩]; rfl
  have hok1 := cutOk_one hv hap
  have hok2 := cutOk_needs hv hap
  refine WT_skip ?_
  refine WT_seq ?_
  refine WT_region ?_
  refine WL_v rfl (ov_move rfl) ?_
  refine WL_v rfl (ov_len rfl hM.sl st_sl_uint8) ?_
  refine WL_v rfl (ov_move rfl) ?_
  refine WL_v rfl (ov_len rfl hP.sl st_sl_impl_Node) ?_
  refine WL_v rfl (ov_as (ov_rem rfl rfl (by omega) (by omega)) (congrArg (Value.int .i64) hmod)) ?_
  refine WL_v rfl (ov_assign rfl) ?_
  refine WL_nil ?_
  refine WT_seq ?_
  refine WT_region ?_
  refine WL_v rfl (ov_move rfl) ?_
  refine WL_v rfl (ov_move rfl) ?_
  refine WL_bsI rfl hH3 rfl (run_bs_int _) ?_; rintro Z zv w4 hZ hH4
  refine WL_call rfl rfl cf_impl_PlanCut (planCut_yes hH4 hP (hZ.rdl (i := 0) rfl) hok1) ?_; rintro _ w5 ⟨K1, hK1, ov1, nv1, O1, Is1, X1, rfl, hO1, hX1, hH5⟩
  refine WL_v rfl (ov_move rfl) ?_
  refine WL_v rfl (ov_extract rfl rfl) ?_
  refine WL_v rfl (ov_extract rfl rfl) ?_
  refine WL_v rfl (ov_extract rfl rfl) ?_
  refine WL_v rfl (ov_assign rfl) ?_
  refine WL_v rfl (ov_assign rfl) ?_
  refine WL_v rfl (ov_assign rfl) ?_
  refine WL_nil ?_
  refine WT_seq ?_
  refine WT_region ?_
  refine WL_v rfl (ov_move rfl) ?_
  refine WL_v rfl (ov_move rfl) ?_
  refine WL_v rfl (ov_move rfl) ?_
  obtain ⟨h2, hle2, hH6, hP1, _⟩ := hO1.freeze hH5
  have hP2 := hP.mono hle2
  refine WL_call rfl rfl cf_impl_PlanNeeds (planNeeds_ok hH6 hP2 (a : Int)) ?_; rintro nl w6 ⟨XN, hXN, hH7⟩
  rw [hno] at hXN
  refine WL_call rfl rfl cf_impl_PlanCut (planCut_yes hH7 hP2 (hXN.rdl (i := 0) rfl) hok2) ?_; rintro _ w7 ⟨K2, hK2, ov2, nv2, O2, Is2, X2, rfl, hO2, hX2, hH8⟩
  refine WL_v rfl (ov_move rfl) ?_
  refine WL_v rfl (ov_extract rfl rfl) ?_
  refine WL_v rfl (ov_extract rfl rfl) ?_
  refine WL_v rfl (ov_extract rfl rfl) ?_
  refine WL_v rfl (ov_assign rfl) ?_
  refine WL_v rfl (ov_assign rfl) ?_
  refine WL_v rfl (ov_assign rfl) ?_
  refine WL_nil ?_
  refine WT_seq ?_
  obtain ⟨h3, hle3, hH9, hP4, _⟩ := hO2.freeze hH8
  have hP3 := hP1.mono hle3
  have hPp := hP2.mono hle3
  have hv1 := cut_ok hv (Keep.clK hv hK1)
  have hv2 := cut_ok hv (Keep.clK hv hK2)
  have hcut := cut_node hv hap hK1 hK2
  have hb1 := path_le_all (cutTo p K2 p.length)
  have hb2 := sumTo_rg (cutTo p K2 p.length) (cutTo p K2 p.length).length
  have hb3 := mostOf_nonneg (pathsTo (cutTo p K2 p.length) (cutTo p K2 p.length).length)
  have hb4 := numK_le K2 p.length
  have hb5 := cutTo_len p K2 p.length
  have hkc := kindCost_rg (p.getD a default).kind
  have hck : costKind p[a].kind = kindCost (p.getD a default).kind := by rw [getD_of hap]; exact costKind_valid (PlanOk.node hv hap).kind
  obtain ⟨fv, rv, hf, hr, hcell⟩ := hPp.node hap
  generalize hA : mostOf (pathsTo (cutTo p K1 p.length) (cutTo p K1 p.length).length) = A at hcut
  generalize hBB : mostOf (pathsTo (cutTo p K2 p.length) (cutTo p K2 p.length).length) = BB at hcut hb1 hb3
  generalize hCC : kindCost (p.getD a default).kind = CC at hcut hkc hck
  refine WT_mixL [(0, 0), (1, 0), (2, 0), (3, 0), (4, 0), (5, 0), (7, 0), (9, 0), (10, 0), (11, 0), (12, 0), (13, 0), (6, 1), (8, 1), (14, 1), (15, 0), (16, 0), (17, 0), (18, 0)] mixed (by kernel_rfl) hH9 ?_
  clear hH9
  intro w8 hH9 hC
  refine WM_v rfl rfl hC (fun _ _ => ov_move rfl) ?_
  refine WM_v rfl rfl hC (fun _ _ => ov_move rfl) ?_
  refine WM_vOn rfl rfl rfl rfl hC (fun _ _ => ov_move rfl) ?_
  refine WM_v rfl rfl hC (fun _ _ => ov_pickT rfl rfl) ?_
  refine WM_v rfl rfl hC (fun _ _ => ov_move rfl) ?_
  refine WM_vOn rfl rfl rfl rfl hC (fun _ _ => ov_move rfl) ?_
  refine WM_vOn rfl rfl rfl rfl hC (fun _ _ => ov_move rfl) ?_
  refine WM_vOn rfl rfl rfl rfl hC (fun _ _ => ov_move rfl) ?_
  refine WM_vOn rfl rfl rfl rfl hC (fun _ _ => ov_move rfl) ?_
  refine WM_vOn rfl rfl rfl rfl hC (fun _ _ => ov_index rfl rfl st_sl_impl_Node hPp.sl hap) ?_
  refine WM_vOn rfl rfl rfl rfl hC (fun _ _ => ov_field rfl fo_impl_Node_0) ?_
  refine WM_vOn rfl rfl rfl rfl hC (fun _ ⟨_, hH⟩ => ov_load rfl one_int (hcell _ _ hH 0 _ rfl)) ?_
  refine WM_e rfl ?_
  refine WL_guardOn rfl rfl ?_
  refine WL_call rfl rfl cf_impl_CostPath (costPath_yes hH9 hP3 hv1) ?_; rintro _ w9 ⟨rfl, hH10⟩
  replace hC : Cl _ _ _ := ⟨_, hH10.nilIn⟩
  refine WL_mix (fun _ => hC) ?_
  refine WM_e rfl ?_
  refine WL_guardOn rfl rfl ?_
  refine WL_call rfl rfl cf_impl_CostPath (costPath_yes hH10 hP4 hv2) ?_; rintro _ w10 ⟨rfl, hH11⟩
  replace hC : Cl _ _ _ := ⟨_, hH11.nilIn⟩
  refine WL_mix (fun _ => hC) ?_
  refine WM_e rfl ?_
  refine WL_guardOn rfl rfl ?_
  refine WL_call rfl rfl cf_impl_CostKind (costKind_ok hH11 _) ?_; rintro _ w11 ⟨rfl, hH12⟩
  replace hC : Cl _ _ _ := ⟨_, hH12.nilIn⟩
  refine WL_mix (fun _ => hC) ?_
  refine WM_vOn rfl rfl rfl rfl hC (fun _ _ => ov_add rfl rfl (by rw [hBB, hck]; omega)) ?_
  refine WM_vOn rfl rfl rfl rfl hC (fun _ _ => ov_eql rfl rfl) ?_
  refine WM_v rfl rfl hC (fun _ _ => ov_pickT rfl rfl) ?_
  refine WM_v rfl rfl hC (fun _ _ => ov_assign rfl) ?_
  refine WM_nil ?_
  exact WT_ret1 Try.func11 Try.results11 rfl ⟨congrArg Value.bool (decide_eq_true (by rw [hA, hBB, hck, hcut])), ((hH12.weak (hle2.trans hle3)).weak hle).drop.drop.drop.drop⟩
end
end Go.Proofs.Ytmcedghgincaaaa
