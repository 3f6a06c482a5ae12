/- The laws ExactCrewValid, ExactCrewLeft, ExactCrewAt, ExactTurnFrom: their walks. -/
import Derived.Test.YteagnhdhafiofaaGreatBe6
import Derived.Test.YteagnhdhafiofaaGreatSlF
namespace Go.Proofs.YteagnhdhafiofaaGreat
open Go.RowKit

theorem CrIn.mono {h h' : GH} {v : Value} {c : Cr} (hC : CrIn h v c) (hle : h.Le h') : CrIn h' v c := by
  obtain ⟨dv, cv, nv, rv, e, h1, h2, h3, h4⟩ := hC
  exact ⟨dv, cv, nv, rv, e, h1.mono hle, h2.mono hle, h3.mono hle, h4.mono hle⟩

section
variable {h : GH} {Ls : List Heaplet} {w : World}

set_option maxHeartbeats 1000000 in
theorem fnExactCrewValid_walk (hH : H w h Ls) {pv : Value} {p : List Nd} (hP : Plan h pv p) {xv : Value} {c : Cr} (hCi : CrIn h xv c) : Rets Tryz.prog 6 #[pv, xv] w fun v w' => v = .bool true ∧ H w' h Ls := by
  have hCi2 := hCi
  obtain ⟨dv, cv, nv, rv, rfl, k1, k2, k3, k4⟩ := hCi2
  obtain ⟨A2, c2, rfl, _⟩ := k1.sl.form
  obtain ⟨A3, c3, rfl, _⟩ := k2.sl.form
  obtain ⟨A4, c4, rfl, _⟩ := k3.sl.form
  obtain ⟨A5, c5, rfl, _⟩ := k4.sl.form
  refine rets_enter Tryz.func6 rfl Tryz.ntmps6 (by simp) ?_
  refine WT_seq ?_
  refine WT_region ?_
  refine WL_box _ rfl hH rfl rfl ?_; rintro b w1 hH1; replace hH1 : H w1 h (lcbox b (.slice A2 c.dq.length c2) (.slice A3 c.ct.length c3) (.slice A4 c.dn.length c4) (.slice A5 c.rw.length c5) :: Ls) := hH1
  refine WL_v rfl (ov_assign rfl) ?_
  refine WL_nil ?_
  refine WT_seq ?_
  refine WT_region ?_
  refine WL_v rfl (ov_assign rfl) ?_
  refine WL_nil ?_
  refine WT_seq ?_
  refine WT_region ?_
  refine WL_v rfl (ov_move rfl) ?_
  refine WL_v rfl (ov_move rfl) ?_
  refine WL_call rfl rfl cf_laws_szNodeS (szNodeS_ok2 hH1 hP) ?_; rintro _ w2 ⟨s, rfl, hs1, hs2, hH2⟩
  refine WL_v rfl (ov_assign rfl) ?_
  refine WL_nil ?_
  refine WT_seq ?_
  refine WT_seq ?_
  refine WT_region ?_
  refine WL_v rfl (ov_move rfl) ?_
  refine WL_v rfl (ov_lss rfl rfl) ?_
  refine WL_nil ?_
  refine WT_cond rfl (fun hneg => ?_) (fun hneg => ?_)
  · skip
    first | with_reducible replace hneg := of_decide_eq_true hneg | with_reducible replace hneg := bn_T hneg | with_reducible replace hneg := bb_T hneg | skip
    refine WT_seq ?_
    refine WT_region ?_
    refine WL_v rfl (ov_assign rfl) ?_
    refine WL_nil ?_
    exact WT_ret1 Tryz.func6 Tryz.results6 rfl ⟨rfl, hH2.drop⟩
  first | with_reducible replace hneg := of_decide_eq_false hneg | with_reducible replace hneg := bn_F hneg | with_reducible replace hneg := bb_F hneg | skip
  obtain ⟨hs0, hl0, hl2⟩ := hs2.resolve_left (by omega)
  refine WT_skip ?_
  refine WT_seq ?_
  refine WT_region ?_
  refine WL_v rfl (ov_loadN [.slice A2 c.dq.length c2, .slice A3 c.ct.length c3, .slice A4 c.dn.length c4, .slice A5 c.rw.length c5] rfl agg_laws_Crew rfl ((loadLC (i := 0) rfl hH2))) ?_
  refine WL_v rfl (ov_move rfl) ?_
  refine WL_call rfl rfl cf_laws_szCrew (szCrew_ok hH2 hCi (show 0 ≤ s ∧ s ≤ 1048576 by omega)) ?_; rintro _ w3 ⟨s2, rfl, hs3, hH3⟩
  refine WL_v rfl (ov_assign rfl) ?_
  refine WL_nil ?_
  refine WT_seq ?_
  refine WT_seq ?_
  refine WT_region ?_
  refine WL_v rfl (ov_move rfl) ?_
  refine WL_v rfl (ov_lss rfl rfl) ?_
  refine WL_nil ?_
  refine WT_cond rfl (fun hneg2 => ?_) (fun hneg2 => ?_)
  · skip
    first | with_reducible replace hneg2 := of_decide_eq_true hneg2 | with_reducible replace hneg2 := bn_T hneg2 | with_reducible replace hneg2 := bb_T hneg2 | skip
    refine WT_seq ?_
    refine WT_region ?_
    refine WL_v rfl (ov_assign rfl) ?_
    refine WL_nil ?_
    exact WT_ret1 Tryz.func6 Tryz.results6 rfl ⟨rfl, hH3.drop⟩
  first | with_reducible replace hneg2 := of_decide_eq_false hneg2 | with_reducible replace hneg2 := bn_F hneg2 | with_reducible replace hneg2 := bb_F hneg2 | skip
  have hsz := hs3.resolve_left (by omega)
  have hlim := hsz.lim
  refine WT_skip ?_
  refine WT_seq ?_
  refine WT_mixS [(0, 1), (2, 0), (1, 2), (3, 3), (4, 3), (5, 1)] [lcbox b (.slice A2 c.dq.length c2) (.slice A3 c.ct.length c3) (.slice A4 c.dn.length c4) (.slice A5 c.rw.length c5)] (fun w' hh => Cl.sub [] [lcbox b (.slice A2 c.dq.length c2) (.slice A3 c.ct.length c3) (.slice A4 c.dn.length c4) (.slice A5 c.rw.length c5)] _ hh) mixed (by kernel_rfl) hH3 ?_
  clear hH3
  intro w4 hH3 hC
  refine WM_p rfl rfl (fun _ => ov_move rfl) ?_
  refine WM_v rfl rfl hC (fun _ ⟨_, hH⟩ => ov_loadN [.slice A2 c.dq.length c2, .slice A3 c.ct.length c3, .slice A4 c.dn.length c4, .slice A5 c.rw.length c5] rfl agg_laws_Crew rfl ((loadLC (i := 1) rfl hH))) ?_
  refine WM_e rfl ?_
  refine WL_call rfl rfl cf_laws_toNodeS (toNodeS_ok hH3 hP hl0 hl2) ?_; rintro yv w5 ⟨O, Is, hO, hH5⟩; obtain ⟨h1, hle1, hH6, hP1, _⟩ := hO.freeze hH5
  replace hC : Cl _ _ _ := Cl.sub [] [lcbox b (.slice A2 c.dq.length c2) (.slice A3 c.ct.length c3) (.slice A4 c.dn.length c4) (.slice A5 c.rw.length c5)] _ (hH6.weak hle1)
  refine WL_mix (fun _ => hC) ?_
  refine WM_e rfl ?_
  refine WL_call rfl rfl cf_laws_toCrew (toCrew_ok hH6 (hCi.mono hle1) hsz) ?_; rintro _ w7 ⟨C, N, D, R, Ds, Rs, ov1, ov2, ov3, ov4, rfl, hO1, hH7⟩
  refine WL_mix (fun h => absurd rfl h) ?_
  refine WM_e rfl ?_
  refine WL_call rfl rfl cf_spec_CrewValid (sCrewValid_ok hH7 hP1 (by omega) hlim hO1.rd) ?_; rintro _ w8 ⟨rfl, hH8⟩
  refine WL_mix (fun h => absurd rfl h) ?_
  refine WM_p rfl rfl (fun _ => ov_assign rfl) ?_
  refine WM_nil ?_
  refine WT_seq ?_
  refine WT_region ?_
  refine WL_v rfl (ov_move rfl) ?_
  have hH9 : H w8 h1 (lcbox b (.slice A2 c.dq.length c2) (.slice A3 c.ct.length c3) (.slice A4 c.dn.length c4) (.slice A5 c.rw.length c5) :: Ls) := H.drops (C :: N :: D :: R :: (Ds ++ Rs)) (by simpa using hH8)
  clear hH7 hH8 hO1
  refine WL_call rfl rfl cf_laws_toNodeS (toNodeS_ok hH9 (hP.mono hle1) hl0 hl2) ?_; rintro zv w10 ⟨O2, Is2, hO2, hH10⟩; obtain ⟨h2, hle2, hH11, hP2, _⟩ := hO2.freeze hH10
  refine WL_v rfl (ov_assign rfl) ?_
  refine WL_nil ?_
  refine WT_seq ?_
  refine WT_region ?_
  refine WL_v rfl (ov_loadN [.slice A2 c.dq.length c2, .slice A3 c.ct.length c3, .slice A4 c.dn.length c4, .slice A5 c.rw.length c5] rfl agg_laws_Crew rfl ((loadLC (i := 0) rfl hH11))) ?_
  refine WL_call rfl rfl cf_laws_toCrew (toCrew_ok hH11 (hCi.mono (hle1.trans hle2)) hsz) ?_; rintro _ w12 ⟨C2, N2, D2, R2, Ds2, Rs2, ov5, ov6, ov7, ov8, rfl, hO3, hH12⟩
  refine WL_alloc _ rfl hH12 zero_crew rfl ?_; rintro g w13 hH13
  refine WL_storeN hH13 rfl rfl (i := 0) rfl rfl rfl (ones_cons hO3.dq.sl.one (ones_cons hO3.ct.sl.one (ones_cons hO3.dn.sl.one (ones_cons hO3.rw.sl.one ones_nil)))) sz_impl_Crew ?_; rintro w14 hH14; replace hH14 : H w14 h2 (crbox g ov5 ov6 ov7 ov8 :: C2 :: N2 :: D2 :: R2 :: (Ds2 ++ (Rs2 ++ lcbox b (.slice A2 c.dq.length c2) (.slice A3 c.ct.length c3) (.slice A4 c.dn.length c4) (.slice A5 c.rw.length c5) :: Ls))) := hH14
  refine WL_nil ?_
  refine WT_seq ?_
  refine WT_region ?_
  refine WL_v rfl (ov_move rfl) ?_
  refine WL_v rfl (ov_loadN [ov5, ov6, ov7, ov8] rfl agg_impl_Crew rfl ((loadCrew (i := 0) rfl hH14))) ?_
  refine WL_call rfl rfl cf_impl_CrewValid (crewValid_ok hH14 hP2 hlim hO3.rd.up) ?_; rintro _ w15 ⟨rfl, hH15⟩
  refine WL_v rfl (ov_assign rfl) ?_
  refine WL_nil ?_
  refine WT_seq ?_
  refine WT_seq ?_
  refine WT_region ?_
  refine WL_v rfl (ov_move rfl) ?_
  refine WL_v rfl (ov_move rfl) ?_
  refine WL_v rfl (ov_F (ov_neqB rfl rfl Tryz.underlying4) (by simp)) ?_
  refine WL_nil ?_
  refine WT_condF rfl ?_
  refine WT_skip ?_
  refine WT_seq ?_
  refine WT_seq ?_
  refine WT_region ?_
  refine WL_v rfl (ov_move rfl) ?_
  refine WL_v rfl (ov_move rfl) ?_
  refine WL_call rfl rfl cf_laws_toNodeS (toNodeS_ok hH15 (hP.mono (hle1.trans hle2)) hl0 hl2) ?_; rintro uv w16 ⟨O4, Is4, hO4, hH16⟩; obtain ⟨h3, hle3, hH17, hP3, _⟩ := hO4.freeze hH16
  refine WL_call rfl rfl cf_laws_eqNodeS (eqNodeS_ok hH17 (hP2.mono hle3) hP3) ?_; rintro _ w18 ⟨rfl, hH18⟩
  refine WL_v rfl (ov_F (ov_not rfl) (by first | exact decide_eq_false rfl | exact nb_F rfl | exact mb_F rfl | exact rfl | (simp only [decide_eq_false_iff_not]; omega) | simpa using rfl)) ?_
  refine WL_nil ?_
  refine WT_condF rfl ?_
  have hH19 : H w18 h3 (lcbox b (.slice A2 c.dq.length c2) (.slice A3 c.ct.length c3) (.slice A4 c.dn.length c4) (.slice A5 c.rw.length c5) :: crbox g ov5 ov6 ov7 ov8 :: C2 :: N2 :: D2 :: R2 :: (Ds2 ++ (Rs2 ++ Ls))) := by
    have := H.behind (O := crbox g ov5 ov6 ov7 ov8) (Is := C2 :: N2 :: D2 :: R2 :: (Ds2 ++ Rs2)) (Ms := Ls) (by simpa using hH18)
    simpa using this
  clear hH hH1 hH2 hH5 hH6 hH9 hH10 hH11 hH12 hH13 hH14 hH15 hH16 hH17 hH18
  refine WT_skip ?_
  refine WT_seq ?_
  refine WT_seq ?_
  refine WT_mixS [(0, 0), (1, 0), (2, 2), (3, 3), (4, 1)] [lcbox b (.slice A2 c.dq.length c2) (.slice A3 c.ct.length c3) (.slice A4 c.dn.length c4) (.slice A5 c.rw.length c5), crbox g ov5 ov6 ov7 ov8] (fun w' hh => Cl.sub [] [lcbox b (.slice A2 c.dq.length c2) (.slice A3 c.ct.length c3) (.slice A4 c.dn.length c4) (.slice A5 c.rw.length c5), crbox g ov5 ov6 ov7 ov8] _ hh) mixed (by kernel_rfl) hH19 ?_
  clear hH19
  intro w20 hH19 hC
  refine WM_v rfl rfl hC (fun _ ⟨_, hH⟩ => ov_loadN [ov5, ov6, ov7, ov8] rfl agg_impl_Crew rfl ((loadCrew (i := 2) rfl hH))) ?_
  refine WM_v rfl rfl hC (fun _ ⟨_, hH⟩ => ov_loadN [.slice A2 c.dq.length c2, .slice A3 c.ct.length c3, .slice A4 c.dn.length c4, .slice A5 c.rw.length c5] rfl agg_laws_Crew rfl ((loadLC (i := 1) rfl hH))) ?_
  refine WM_e rfl ?_
  refine WL_call rfl rfl cf_laws_toCrew (toCrew_ok hH19 (hCi.mono (hle1.trans (hle2.trans hle3))) hsz) ?_; rintro _ w21 ⟨C5, N5, D5, R5, Ds5, Rs5, ov9, ov10, ov11, ov12, rfl, hO5, hH21⟩
  replace hC : Cl _ _ _ := Cl.sub (C5 :: N5 :: D5 :: R5 :: (Ds5 ++ Rs5)) [lcbox b (.slice A2 c.dq.length c2) (.slice A3 c.ct.length c3) (.slice A4 c.dn.length c4) (.slice A5 c.rw.length c5), crbox g ov5 ov6 ov7 ov8] _ (by simpa using hH21)
  refine WL_mix (fun _ => hC) ?_
  refine WM_e rfl ?_
  refine WL_call rfl rfl cf_laws_eqCrew (eqCrew_same hH21 (fun Ms => by simpa using (hO3.rd (h := h3) (Ls := Ls)).ups (Ms ++ C5 :: N5 :: D5 :: R5 :: (Ds5 ++ (Rs5 ++ [lcbox b (.slice A2 c.dq.length c2) (.slice A3 c.ct.length c3) (.slice A4 c.dn.length c4) (.slice A5 c.rw.length c5), crbox g ov5 ov6 ov7 ov8])))) (fun Ms => hO5.rd.ups Ms)) ?_; rintro _ w22 ⟨rfl, hH22⟩
  refine WL_mix (fun h => absurd rfl h) ?_
  refine WM_p rfl rfl (fun _ => ov_F (ov_not rfl) (by first | exact decide_eq_false rfl | exact nb_F rfl | exact mb_F rfl | exact rfl | (simp only [decide_eq_false_iff_not]; omega) | simpa using rfl)) ?_
  refine WM_nil ?_
  refine WT_condF rfl ?_
  refine WT_skip ?_
  refine WT_seq ?_
  refine WT_region ?_
  refine WL_v rfl (ov_assign rfl) ?_
  refine WL_nil ?_
  exact WT_ret1 Tryz.func6 Tryz.results6 rfl ⟨rfl, H.drops (C5 :: N5 :: D5 :: R5 :: (Ds5 ++ (Rs5 ++ lcbox b (.slice A2 c.dq.length c2) (.slice A3 c.ct.length c3) (.slice A4 c.dn.length c4) (.slice A5 c.rw.length c5) :: crbox g ov5 ov6 ov7 ov8 :: C2 :: N2 :: D2 :: R2 :: (Ds2 ++ Rs2)))) (by simpa using hH22.weak (hle1.trans (hle2.trans hle3)))⟩

set_option maxHeartbeats 1000000 in
theorem fnExactCrewLeft_walk (hH : H w h Ls) {pv : Value} {p : List Nd} (hP : Plan h pv p) {xv : Value} {c : Cr} (hCi : CrIn h xv c) : Rets Tryz.prog 7 #[pv, xv] w fun v w' => v = .bool true ∧ H w' h Ls := by
  have hCi2 := hCi
  obtain ⟨dv, cv, nv, rv, rfl, k1, k2, k3, k4⟩ := hCi2
  obtain ⟨A2, c2, rfl, _⟩ := k1.sl.form
  obtain ⟨A3, c3, rfl, _⟩ := k2.sl.form
  obtain ⟨A4, c4, rfl, _⟩ := k3.sl.form
  obtain ⟨A5, c5, rfl, _⟩ := k4.sl.form
  refine rets_enter Tryz.func7 rfl Tryz.ntmps7 (by simp) ?_
  refine WT_seq ?_
  refine WT_region ?_
  refine WL_box _ rfl hH rfl rfl ?_; rintro b w1 hH1; replace hH1 : H w1 h (lcbox b (.slice A2 c.dq.length c2) (.slice A3 c.ct.length c3) (.slice A4 c.dn.length c4) (.slice A5 c.rw.length c5) :: Ls) := hH1
  refine WL_v rfl (ov_assign rfl) ?_
  refine WL_nil ?_
  refine WT_seq ?_
  refine WT_region ?_
  refine WL_v rfl (ov_assign rfl) ?_
  refine WL_nil ?_
  refine WT_seq ?_
  refine WT_region ?_
  refine WL_v rfl (ov_move rfl) ?_
  refine WL_v rfl (ov_move rfl) ?_
  refine WL_call rfl rfl cf_laws_szNodeS (szNodeS_ok2 hH1 hP) ?_; rintro _ w2 ⟨s, rfl, hs1, hs2, hH2⟩
  refine WL_v rfl (ov_assign rfl) ?_
  refine WL_nil ?_
  refine WT_seq ?_
  refine WT_seq ?_
  refine WT_region ?_
  refine WL_v rfl (ov_move rfl) ?_
  refine WL_v rfl (ov_lss rfl rfl) ?_
  refine WL_nil ?_
  refine WT_cond rfl (fun hneg => ?_) (fun hneg => ?_)
  · skip
    first | with_reducible replace hneg := of_decide_eq_true hneg | with_reducible replace hneg := bn_T hneg | with_reducible replace hneg := bb_T hneg | skip
    refine WT_seq ?_
    refine WT_region ?_
    refine WL_v rfl (ov_assign rfl) ?_
    refine WL_nil ?_
    exact WT_ret1 Tryz.func7 Tryz.results7 rfl ⟨rfl, hH2.drop⟩
  first | with_reducible replace hneg := of_decide_eq_false hneg | with_reducible replace hneg := bn_F hneg | with_reducible replace hneg := bb_F hneg | skip
  obtain ⟨hs0, hl0, hl2⟩ := hs2.resolve_left (by omega)
  refine WT_skip ?_
  refine WT_seq ?_
  refine WT_region ?_
  refine WL_v rfl (ov_loadN [.slice A2 c.dq.length c2, .slice A3 c.ct.length c3, .slice A4 c.dn.length c4, .slice A5 c.rw.length c5] rfl agg_laws_Crew rfl ((loadLC (i := 0) rfl hH2))) ?_
  refine WL_v rfl (ov_move rfl) ?_
  refine WL_call rfl rfl cf_laws_szCrew (szCrew_ok hH2 hCi (show 0 ≤ s ∧ s ≤ 1048576 by omega)) ?_; rintro _ w3 ⟨s2, rfl, hs3, hH3⟩
  refine WL_v rfl (ov_assign rfl) ?_
  refine WL_nil ?_
  refine WT_seq ?_
  refine WT_seq ?_
  refine WT_region ?_
  refine WL_v rfl (ov_move rfl) ?_
  refine WL_v rfl (ov_lss rfl rfl) ?_
  refine WL_nil ?_
  refine WT_cond rfl (fun hneg2 => ?_) (fun hneg2 => ?_)
  · skip
    first | with_reducible replace hneg2 := of_decide_eq_true hneg2 | with_reducible replace hneg2 := bn_T hneg2 | with_reducible replace hneg2 := bb_T hneg2 | skip
    refine WT_seq ?_
    refine WT_region ?_
    refine WL_v rfl (ov_assign rfl) ?_
    refine WL_nil ?_
    exact WT_ret1 Tryz.func7 Tryz.results7 rfl ⟨rfl, hH3.drop⟩
  first | with_reducible replace hneg2 := of_decide_eq_false hneg2 | with_reducible replace hneg2 := bn_F hneg2 | with_reducible replace hneg2 := bb_F hneg2 | skip
  have hsz := hs3.resolve_left (by omega)
  have hlim := hsz.lim
  refine WT_skip ?_
  refine WT_seq ?_
  refine WT_mixS [(0, 1), (2, 0), (1, 2), (3, 3), (4, 3), (5, 1)] [lcbox b (.slice A2 c.dq.length c2) (.slice A3 c.ct.length c3) (.slice A4 c.dn.length c4) (.slice A5 c.rw.length c5)] (fun w' hh => Cl.sub [] [lcbox b (.slice A2 c.dq.length c2) (.slice A3 c.ct.length c3) (.slice A4 c.dn.length c4) (.slice A5 c.rw.length c5)] _ hh) mixed (by kernel_rfl) hH3 ?_
  clear hH3
  intro w4 hH3 hC
  refine WM_p rfl rfl (fun _ => ov_move rfl) ?_
  refine WM_v rfl rfl hC (fun _ ⟨_, hH⟩ => ov_loadN [.slice A2 c.dq.length c2, .slice A3 c.ct.length c3, .slice A4 c.dn.length c4, .slice A5 c.rw.length c5] rfl agg_laws_Crew rfl ((loadLC (i := 1) rfl hH))) ?_
  refine WM_e rfl ?_
  refine WL_call rfl rfl cf_laws_toNodeS (toNodeS_ok hH3 hP hl0 hl2) ?_; rintro yv w5 ⟨O, Is, hO, hH5⟩; obtain ⟨h1, hle1, hH6, hP1, _⟩ := hO.freeze hH5
  replace hC : Cl _ _ _ := Cl.sub [] [lcbox b (.slice A2 c.dq.length c2) (.slice A3 c.ct.length c3) (.slice A4 c.dn.length c4) (.slice A5 c.rw.length c5)] _ (hH6.weak hle1)
  refine WL_mix (fun _ => hC) ?_
  refine WM_e rfl ?_
  refine WL_call rfl rfl cf_laws_toCrew (toCrew_ok hH6 (hCi.mono hle1) hsz) ?_; rintro _ w7 ⟨C, N, D, R, Ds, Rs, ov1, ov2, ov3, ov4, rfl, hO1, hH7⟩
  refine WL_mix (fun h => absurd rfl h) ?_
  refine WM_e rfl ?_
  refine WL_call rfl rfl cf_spec_CrewLeft (sCrewLeft_ok hH7 hP1 (by omega) hlim hO1.rd) ?_; rintro _ w8 ⟨rfl, hH8⟩
  refine WL_mix (fun h => absurd rfl h) ?_
  refine WM_p rfl rfl (fun _ => ov_assign rfl) ?_
  refine WM_nil ?_
  refine WT_seq ?_
  refine WT_region ?_
  refine WL_v rfl (ov_move rfl) ?_
  have hH9 : H w8 h1 (lcbox b (.slice A2 c.dq.length c2) (.slice A3 c.ct.length c3) (.slice A4 c.dn.length c4) (.slice A5 c.rw.length c5) :: Ls) := H.drops (C :: N :: D :: R :: (Ds ++ Rs)) (by simpa using hH8)
  clear hH7 hH8 hO1
  refine WL_call rfl rfl cf_laws_toNodeS (toNodeS_ok hH9 (hP.mono hle1) hl0 hl2) ?_; rintro zv w10 ⟨O2, Is2, hO2, hH10⟩; obtain ⟨h2, hle2, hH11, hP2, _⟩ := hO2.freeze hH10
  refine WL_v rfl (ov_assign rfl) ?_
  refine WL_nil ?_
  refine WT_seq ?_
  refine WT_region ?_
  refine WL_v rfl (ov_loadN [.slice A2 c.dq.length c2, .slice A3 c.ct.length c3, .slice A4 c.dn.length c4, .slice A5 c.rw.length c5] rfl agg_laws_Crew rfl ((loadLC (i := 0) rfl hH11))) ?_
  refine WL_call rfl rfl cf_laws_toCrew (toCrew_ok hH11 (hCi.mono (hle1.trans hle2)) hsz) ?_; rintro _ w12 ⟨C2, N2, D2, R2, Ds2, Rs2, ov5, ov6, ov7, ov8, rfl, hO3, hH12⟩
  refine WL_alloc _ rfl hH12 zero_crew rfl ?_; rintro g w13 hH13
  refine WL_storeN hH13 rfl rfl (i := 0) rfl rfl rfl (ones_cons hO3.dq.sl.one (ones_cons hO3.ct.sl.one (ones_cons hO3.dn.sl.one (ones_cons hO3.rw.sl.one ones_nil)))) sz_impl_Crew ?_; rintro w14 hH14; replace hH14 : H w14 h2 (crbox g ov5 ov6 ov7 ov8 :: C2 :: N2 :: D2 :: R2 :: (Ds2 ++ (Rs2 ++ lcbox b (.slice A2 c.dq.length c2) (.slice A3 c.ct.length c3) (.slice A4 c.dn.length c4) (.slice A5 c.rw.length c5) :: Ls))) := hH14
  refine WL_nil ?_
  refine WT_seq ?_
  refine WT_region ?_
  refine WL_v rfl (ov_move rfl) ?_
  refine WL_v rfl (ov_loadN [ov5, ov6, ov7, ov8] rfl agg_impl_Crew rfl ((loadCrew (i := 0) rfl hH14))) ?_
  refine WL_call rfl rfl cf_impl_CrewLeft (crewLeft_ok hH14 hP2 hlim hO3.rd.up) ?_; rintro _ w15 ⟨rfl, hH15⟩
  refine WL_v rfl (ov_assign rfl) ?_
  refine WL_nil ?_
  refine WT_seq ?_
  refine WT_seq ?_
  refine WT_region ?_
  refine WL_v rfl (ov_move rfl) ?_
  refine WL_v rfl (ov_move rfl) ?_
  refine WL_v rfl (ov_F (ov_neq rfl rfl) (by first | exact decide_eq_false rfl | exact nb_F rfl | exact mb_F rfl | exact rfl | (simp only [decide_eq_false_iff_not]; omega) | simpa using rfl)) ?_
  refine WL_nil ?_
  refine WT_condF rfl ?_
  refine WT_skip ?_
  refine WT_seq ?_
  refine WT_seq ?_
  refine WT_region ?_
  refine WL_v rfl (ov_move rfl) ?_
  refine WL_v rfl (ov_move rfl) ?_
  refine WL_call rfl rfl cf_laws_toNodeS (toNodeS_ok hH15 (hP.mono (hle1.trans hle2)) hl0 hl2) ?_; rintro uv w16 ⟨O4, Is4, hO4, hH16⟩; obtain ⟨h3, hle3, hH17, hP3, _⟩ := hO4.freeze hH16
  refine WL_call rfl rfl cf_laws_eqNodeS (eqNodeS_ok hH17 (hP2.mono hle3) hP3) ?_; rintro _ w18 ⟨rfl, hH18⟩
  refine WL_v rfl (ov_F (ov_not rfl) (by first | exact decide_eq_false rfl | exact nb_F rfl | exact mb_F rfl | exact rfl | (simp only [decide_eq_false_iff_not]; omega) | simpa using rfl)) ?_
  refine WL_nil ?_
  refine WT_condF rfl ?_
  have hH19 : H w18 h3 (lcbox b (.slice A2 c.dq.length c2) (.slice A3 c.ct.length c3) (.slice A4 c.dn.length c4) (.slice A5 c.rw.length c5) :: crbox g ov5 ov6 ov7 ov8 :: C2 :: N2 :: D2 :: R2 :: (Ds2 ++ (Rs2 ++ Ls))) := by
    have := H.behind (O := crbox g ov5 ov6 ov7 ov8) (Is := C2 :: N2 :: D2 :: R2 :: (Ds2 ++ Rs2)) (Ms := Ls) (by simpa using hH18)
    simpa using this
  clear hH hH1 hH2 hH5 hH6 hH9 hH10 hH11 hH12 hH13 hH14 hH15 hH16 hH17 hH18
  refine WT_skip ?_
  refine WT_seq ?_
  refine WT_seq ?_
  refine WT_mixS [(0, 0), (1, 0), (2, 2), (3, 3), (4, 1)] [lcbox b (.slice A2 c.dq.length c2) (.slice A3 c.ct.length c3) (.slice A4 c.dn.length c4) (.slice A5 c.rw.length c5), crbox g ov5 ov6 ov7 ov8] (fun w' hh => Cl.sub [] [lcbox b (.slice A2 c.dq.length c2) (.slice A3 c.ct.length c3) (.slice A4 c.dn.length c4) (.slice A5 c.rw.length c5), crbox g ov5 ov6 ov7 ov8] _ hh) mixed (by kernel_rfl) hH19 ?_
  clear hH19
  intro w20 hH19 hC
  refine WM_v rfl rfl hC (fun _ ⟨_, hH⟩ => ov_loadN [ov5, ov6, ov7, ov8] rfl agg_impl_Crew rfl ((loadCrew (i := 2) rfl hH))) ?_
  refine WM_v rfl rfl hC (fun _ ⟨_, hH⟩ => ov_loadN [.slice A2 c.dq.length c2, .slice A3 c.ct.length c3, .slice A4 c.dn.length c4, .slice A5 c.rw.length c5] rfl agg_laws_Crew rfl ((loadLC (i := 1) rfl hH))) ?_
  refine WM_e rfl ?_
  refine WL_call rfl rfl cf_laws_toCrew (toCrew_ok hH19 (hCi.mono (hle1.trans (hle2.trans hle3))) hsz) ?_; rintro _ w21 ⟨C5, N5, D5, R5, Ds5, Rs5, ov9, ov10, ov11, ov12, rfl, hO5, hH21⟩
  replace hC : Cl _ _ _ := Cl.sub (C5 :: N5 :: D5 :: R5 :: (Ds5 ++ Rs5)) [lcbox b (.slice A2 c.dq.length c2) (.slice A3 c.ct.length c3) (.slice A4 c.dn.length c4) (.slice A5 c.rw.length c5), crbox g ov5 ov6 ov7 ov8] _ (by simpa using hH21)
  refine WL_mix (fun _ => hC) ?_
  refine WM_e rfl ?_
  refine WL_call rfl rfl cf_laws_eqCrew (eqCrew_same hH21 (fun Ms => by simpa using (hO3.rd (h := h3) (Ls := Ls)).ups (Ms ++ C5 :: N5 :: D5 :: R5 :: (Ds5 ++ (Rs5 ++ [lcbox b (.slice A2 c.dq.length c2) (.slice A3 c.ct.length c3) (.slice A4 c.dn.length c4) (.slice A5 c.rw.length c5), crbox g ov5 ov6 ov7 ov8])))) (fun Ms => hO5.rd.ups Ms)) ?_; rintro _ w22 ⟨rfl, hH22⟩
  refine WL_mix (fun h => absurd rfl h) ?_
  refine WM_p rfl rfl (fun _ => ov_F (ov_not rfl) (by first | exact decide_eq_false rfl | exact nb_F rfl | exact mb_F rfl | exact rfl | (simp only [decide_eq_false_iff_not]; omega) | simpa using rfl)) ?_
  refine WM_nil ?_
  refine WT_condF rfl ?_
  refine WT_skip ?_
  refine WT_seq ?_
  refine WT_region ?_
  refine WL_v rfl (ov_assign rfl) ?_
  refine WL_nil ?_
  exact WT_ret1 Tryz.func7 Tryz.results7 rfl ⟨rfl, H.drops (C5 :: N5 :: D5 :: R5 :: (Ds5 ++ (Rs5 ++ lcbox b (.slice A2 c.dq.length c2) (.slice A3 c.ct.length c3) (.slice A4 c.dn.length c4) (.slice A5 c.rw.length c5) :: crbox g ov5 ov6 ov7 ov8 :: C2 :: N2 :: D2 :: R2 :: (Ds2 ++ Rs2)))) (by simpa using hH22.weak (hle1.trans (hle2.trans hle3)))⟩

set_option maxHeartbeats 1000000 in
theorem fnExactCrewAt_walk (hH : H w h Ls) {pv : Value} {p : List Nd} (hP : Plan h pv p) {xv : Value} {c : Cr} (hCi : CrIn h xv c) {a : Int} (_ha : I64 a) : Rets Tryz.prog 8 #[pv, xv, .int .i64 a] w fun v w' => v = .bool true ∧ H w' h Ls := by
  have hCi2 := hCi
  obtain ⟨dv, cv, nv, rv, rfl, k1, k2, k3, k4⟩ := hCi2
  obtain ⟨A2, c2, rfl, _⟩ := k1.sl.form
  obtain ⟨A3, c3, rfl, _⟩ := k2.sl.form
  obtain ⟨A4, c4, rfl, _⟩ := k3.sl.form
  obtain ⟨A5, c5, rfl, _⟩ := k4.sl.form
  refine rets_enter Tryz.func8 rfl Tryz.ntmps8 (by simp) ?_
  refine WT_seq ?_
  refine WT_region ?_
  refine WL_box _ rfl hH rfl rfl ?_; rintro b w1 hH1; replace hH1 : H w1 h (lcbox b (.slice A2 c.dq.length c2) (.slice A3 c.ct.length c3) (.slice A4 c.dn.length c4) (.slice A5 c.rw.length c5) :: Ls) := hH1
  refine WL_v rfl (ov_assign rfl) ?_
  refine WL_nil ?_
  refine WT_seq ?_
  refine WT_region ?_
  refine WL_v rfl (ov_assign rfl) ?_
  refine WL_nil ?_
  refine WT_seq ?_
  refine WT_region ?_
  refine WL_v rfl (ov_move rfl) ?_
  refine WL_v rfl (ov_move rfl) ?_
  refine WL_call rfl rfl cf_laws_szNodeS (szNodeS_ok2 hH1 hP) ?_; rintro _ w2 ⟨s, rfl, hs1, hs2, hH2⟩
  refine WL_v rfl (ov_assign rfl) ?_
  refine WL_nil ?_
  refine WT_seq ?_
  refine WT_seq ?_
  refine WT_region ?_
  refine WL_v rfl (ov_move rfl) ?_
  refine WL_v rfl (ov_lss rfl rfl) ?_
  refine WL_nil ?_
  refine WT_cond rfl (fun hneg => ?_) (fun hneg => ?_)
  · skip
    first | with_reducible replace hneg := of_decide_eq_true hneg | with_reducible replace hneg := bn_T hneg | with_reducible replace hneg := bb_T hneg | skip
    refine WT_seq ?_
    refine WT_region ?_
    refine WL_v rfl (ov_assign rfl) ?_
    refine WL_nil ?_
    exact WT_ret1 Tryz.func8 Tryz.results8 rfl ⟨rfl, hH2.drop⟩
  first | with_reducible replace hneg := of_decide_eq_false hneg | with_reducible replace hneg := bn_F hneg | with_reducible replace hneg := bb_F hneg | skip
  obtain ⟨hs0, hl0, hl2⟩ := hs2.resolve_left (by omega)
  refine WT_skip ?_
  refine WT_seq ?_
  refine WT_region ?_
  refine WL_v rfl (ov_loadN [.slice A2 c.dq.length c2, .slice A3 c.ct.length c3, .slice A4 c.dn.length c4, .slice A5 c.rw.length c5] rfl agg_laws_Crew rfl ((loadLC (i := 0) rfl hH2))) ?_
  refine WL_v rfl (ov_move rfl) ?_
  refine WL_call rfl rfl cf_laws_szCrew (szCrew_ok hH2 hCi (show 0 ≤ s ∧ s ≤ 1048576 by omega)) ?_; rintro _ w3 ⟨s2, rfl, hs3, hH3⟩
  refine WL_v rfl (ov_assign rfl) ?_
  refine WL_nil ?_
  refine WT_seq ?_
  refine WT_seq ?_
  refine WT_region ?_
  refine WL_v rfl (ov_move rfl) ?_
  refine WL_v rfl (ov_lss rfl rfl) ?_
  refine WL_nil ?_
  refine WT_cond rfl (fun hneg2 => ?_) (fun hneg2 => ?_)
  · skip
    first | with_reducible replace hneg2 := of_decide_eq_true hneg2 | with_reducible replace hneg2 := bn_T hneg2 | with_reducible replace hneg2 := bb_T hneg2 | skip
    refine WT_seq ?_
    refine WT_region ?_
    refine WL_v rfl (ov_assign rfl) ?_
    refine WL_nil ?_
    exact WT_ret1 Tryz.func8 Tryz.results8 rfl ⟨rfl, hH3.drop⟩
  first | with_reducible replace hneg2 := of_decide_eq_false hneg2 | with_reducible replace hneg2 := bn_F hneg2 | with_reducible replace hneg2 := bb_F hneg2 | skip
  have hsz := hs3.resolve_left (by omega)
  have hlim := hsz.lim
  refine WT_skip ?_
  refine WT_seq ?_
  refine WT_mixS [(0, 1), (2, 0), (4, 1), (1, 2), (3, 3), (5, 3), (6, 1)] [lcbox b (.slice A2 c.dq.length c2) (.slice A3 c.ct.length c3) (.slice A4 c.dn.length c4) (.slice A5 c.rw.length c5)] (fun w' hh => Cl.sub [] [lcbox b (.slice A2 c.dq.length c2) (.slice A3 c.ct.length c3) (.slice A4 c.dn.length c4) (.slice A5 c.rw.length c5)] _ hh) mixed (by kernel_rfl) hH3 ?_
  clear hH3
  intro w4 hH3 hC
  refine WM_p rfl rfl (fun _ => ov_move rfl) ?_
  refine WM_v rfl rfl hC (fun _ ⟨_, hH⟩ => ov_loadN [.slice A2 c.dq.length c2, .slice A3 c.ct.length c3, .slice A4 c.dn.length c4, .slice A5 c.rw.length c5] rfl agg_laws_Crew rfl ((loadLC (i := 1) rfl hH))) ?_
  refine WM_p rfl rfl (fun _ => ov_move rfl) ?_
  refine WM_e rfl ?_
  refine WL_call rfl rfl cf_laws_toNodeS (toNodeS_ok hH3 hP hl0 hl2) ?_; rintro yv w5 ⟨O, Is, hO, hH5⟩; obtain ⟨h1, hle1, hH6, hP1, _⟩ := hO.freeze hH5
  replace hC : Cl _ _ _ := Cl.sub [] [lcbox b (.slice A2 c.dq.length c2) (.slice A3 c.ct.length c3) (.slice A4 c.dn.length c4) (.slice A5 c.rw.length c5)] _ (hH6.weak hle1)
  refine WL_mix (fun _ => hC) ?_
  refine WM_e rfl ?_
  refine WL_call rfl rfl cf_laws_toCrew (toCrew_ok hH6 (hCi.mono hle1) hsz) ?_; rintro _ w7 ⟨C, N, D, R, Ds, Rs, ov1, ov2, ov3, ov4, rfl, hO1, hH7⟩
  refine WL_mix (fun h => absurd rfl h) ?_
  refine WM_e rfl ?_
  refine WL_call rfl rfl cf_spec_CrewAt (sCrewAt_ok hH7 hP1 (by omega) hlim hO1.rd a) ?_; rintro _ w8 ⟨rfl, hH8⟩
  refine WL_mix (fun h => absurd rfl h) ?_
  refine WM_p rfl rfl (fun _ => ov_assign rfl) ?_
  refine WM_nil ?_
  refine WT_seq ?_
  refine WT_region ?_
  refine WL_v rfl (ov_move rfl) ?_
  have hH9 : H w8 h1 (lcbox b (.slice A2 c.dq.length c2) (.slice A3 c.ct.length c3) (.slice A4 c.dn.length c4) (.slice A5 c.rw.length c5) :: Ls) := H.drops (C :: N :: D :: R :: (Ds ++ Rs)) (by simpa using hH8)
  clear hH7 hH8 hO1
  refine WL_call rfl rfl cf_laws_toNodeS (toNodeS_ok hH9 (hP.mono hle1) hl0 hl2) ?_; rintro zv w10 ⟨O2, Is2, hO2, hH10⟩; obtain ⟨h2, hle2, hH11, hP2, _⟩ := hO2.freeze hH10
  refine WL_v rfl (ov_assign rfl) ?_
  refine WL_nil ?_
  refine WT_seq ?_
  refine WT_region ?_
  refine WL_v rfl (ov_loadN [.slice A2 c.dq.length c2, .slice A3 c.ct.length c3, .slice A4 c.dn.length c4, .slice A5 c.rw.length c5] rfl agg_laws_Crew rfl ((loadLC (i := 0) rfl hH11))) ?_
  refine WL_call rfl rfl cf_laws_toCrew (toCrew_ok hH11 (hCi.mono (hle1.trans hle2)) hsz) ?_; rintro _ w12 ⟨C2, N2, D2, R2, Ds2, Rs2, ov5, ov6, ov7, ov8, rfl, hO3, hH12⟩
  refine WL_alloc _ rfl hH12 zero_crew rfl ?_; rintro g w13 hH13
  refine WL_storeN hH13 rfl rfl (i := 0) rfl rfl rfl (ones_cons hO3.dq.sl.one (ones_cons hO3.ct.sl.one (ones_cons hO3.dn.sl.one (ones_cons hO3.rw.sl.one ones_nil)))) sz_impl_Crew ?_; rintro w14 hH14; replace hH14 : H w14 h2 (crbox g ov5 ov6 ov7 ov8 :: C2 :: N2 :: D2 :: R2 :: (Ds2 ++ (Rs2 ++ lcbox b (.slice A2 c.dq.length c2) (.slice A3 c.ct.length c3) (.slice A4 c.dn.length c4) (.slice A5 c.rw.length c5) :: Ls))) := hH14
  refine WL_nil ?_
  refine WT_seq ?_
  refine WT_region ?_
  refine WL_v rfl (ov_move rfl) ?_
  refine WL_v rfl (ov_loadN [ov5, ov6, ov7, ov8] rfl agg_impl_Crew rfl ((loadCrew (i := 0) rfl hH14))) ?_
  refine WL_v rfl (ov_move rfl) ?_
  refine WL_call rfl rfl cf_impl_CrewAt (crewAt_ok hH14 hP2 hlim hO3.rd.up a) ?_; rintro _ w15 ⟨rfl, hH15⟩
  refine WL_v rfl (ov_assign rfl) ?_
  refine WL_nil ?_
  refine WT_seq ?_
  refine WT_seq ?_
  refine WT_region ?_
  refine WL_v rfl (ov_move rfl) ?_
  refine WL_v rfl (ov_move rfl) ?_
  refine WL_v rfl (ov_F (ov_neq rfl rfl) (by first | exact decide_eq_false rfl | exact nb_F rfl | exact mb_F rfl | exact rfl | (simp only [decide_eq_false_iff_not]; omega) | simpa using rfl)) ?_
  refine WL_nil ?_
  refine WT_condF rfl ?_
  refine WT_skip ?_
  refine WT_seq ?_
  refine WT_seq ?_
  refine WT_region ?_
  refine WL_v rfl (ov_move rfl) ?_
  refine WL_v rfl (ov_move rfl) ?_
  refine WL_call rfl rfl cf_laws_toNodeS (toNodeS_ok hH15 (hP.mono (hle1.trans hle2)) hl0 hl2) ?_; rintro uv w16 ⟨O4, Is4, hO4, hH16⟩; obtain ⟨h3, hle3, hH17, hP3, _⟩ := hO4.freeze hH16
  refine WL_call rfl rfl cf_laws_eqNodeS (eqNodeS_ok hH17 (hP2.mono hle3) hP3) ?_; rintro _ w18 ⟨rfl, hH18⟩
  refine WL_v rfl (ov_F (ov_not rfl) (by first | exact decide_eq_false rfl | exact nb_F rfl | exact mb_F rfl | exact rfl | (simp only [decide_eq_false_iff_not]; omega) | simpa using rfl)) ?_
  refine WL_nil ?_
  refine WT_condF rfl ?_
  have hH19 : H w18 h3 (lcbox b (.slice A2 c.dq.length c2) (.slice A3 c.ct.length c3) (.slice A4 c.dn.length c4) (.slice A5 c.rw.length c5) :: crbox g ov5 ov6 ov7 ov8 :: C2 :: N2 :: D2 :: R2 :: (Ds2 ++ (Rs2 ++ Ls))) := by
    have := H.behind (O := crbox g ov5 ov6 ov7 ov8) (Is := C2 :: N2 :: D2 :: R2 :: (Ds2 ++ Rs2)) (Ms := Ls) (by simpa using hH18)
    simpa using this
  clear hH hH1 hH2 hH5 hH6 hH9 hH10 hH11 hH12 hH13 hH14 hH15 hH16 hH17 hH18
  refine WT_skip ?_
  refine WT_seq ?_
  refine WT_seq ?_
  refine WT_mixS [(0, 0), (1, 0), (2, 2), (3, 3), (4, 1)] [lcbox b (.slice A2 c.dq.length c2) (.slice A3 c.ct.length c3) (.slice A4 c.dn.length c4) (.slice A5 c.rw.length c5), crbox g ov5 ov6 ov7 ov8] (fun w' hh => Cl.sub [] [lcbox b (.slice A2 c.dq.length c2) (.slice A3 c.ct.length c3) (.slice A4 c.dn.length c4) (.slice A5 c.rw.length c5), crbox g ov5 ov6 ov7 ov8] _ hh) mixed (by kernel_rfl) hH19 ?_
  clear hH19
  intro w20 hH19 hC
  refine WM_v rfl rfl hC (fun _ ⟨_, hH⟩ => ov_loadN [ov5, ov6, ov7, ov8] rfl agg_impl_Crew rfl ((loadCrew (i := 2) rfl hH))) ?_
  refine WM_v rfl rfl hC (fun _ ⟨_, hH⟩ => ov_loadN [.slice A2 c.dq.length c2, .slice A3 c.ct.length c3, .slice A4 c.dn.length c4, .slice A5 c.rw.length c5] rfl agg_laws_Crew rfl ((loadLC (i := 1) rfl hH))) ?_
  refine WM_e rfl ?_
  refine WL_call rfl rfl cf_laws_toCrew (toCrew_ok hH19 (hCi.mono (hle1.trans (hle2.trans hle3))) hsz) ?_; rintro _ w21 ⟨C5, N5, D5, R5, Ds5, Rs5, ov9, ov10, ov11, ov12, rfl, hO5, hH21⟩
  replace hC : Cl _ _ _ := Cl.sub (C5 :: N5 :: D5 :: R5 :: (Ds5 ++ Rs5)) [lcbox b (.slice A2 c.dq.length c2) (.slice A3 c.ct.length c3) (.slice A4 c.dn.length c4) (.slice A5 c.rw.length c5), crbox g ov5 ov6 ov7 ov8] _ (by simpa using hH21)
  refine WL_mix (fun _ => hC) ?_
  refine WM_e rfl ?_
  refine WL_call rfl rfl cf_laws_eqCrew (eqCrew_same hH21 (fun Ms => by simpa using (hO3.rd (h := h3) (Ls := Ls)).ups (Ms ++ C5 :: N5 :: D5 :: R5 :: (Ds5 ++ (Rs5 ++ [lcbox b (.slice A2 c.dq.length c2) (.slice A3 c.ct.length c3) (.slice A4 c.dn.length c4) (.slice A5 c.rw.length c5), crbox g ov5 ov6 ov7 ov8])))) (fun Ms => hO5.rd.ups Ms)) ?_; rintro _ w22 ⟨rfl, hH22⟩
  refine WL_mix (fun h => absurd rfl h) ?_
  refine WM_p rfl rfl (fun _ => ov_F (ov_not rfl) (by first | exact decide_eq_false rfl | exact nb_F rfl | exact mb_F rfl | exact rfl | (simp only [decide_eq_false_iff_not]; omega) | simpa using rfl)) ?_
  refine WM_nil ?_
  refine WT_condF rfl ?_
  refine WT_skip ?_
  refine WT_seq ?_
  refine WT_region ?_
  refine WL_v rfl (ov_assign rfl) ?_
  refine WL_nil ?_
  exact WT_ret1 Tryz.func8 Tryz.results8 rfl ⟨rfl, H.drops (C5 :: N5 :: D5 :: R5 :: (Ds5 ++ (Rs5 ++ lcbox b (.slice A2 c.dq.length c2) (.slice A3 c.ct.length c3) (.slice A4 c.dn.length c4) (.slice A5 c.rw.length c5) :: crbox g ov5 ov6 ov7 ov8 :: C2 :: N2 :: D2 :: R2 :: (Ds2 ++ Rs2)))) (by simpa using hH22.weak (hle1.trans (hle2.trans hle3)))⟩

set_option maxHeartbeats 1000000 in
theorem fnExactTurnFrom_walk (hH : H w h Ls) {pv : Value} {p : List Nd} (hP : Plan h pv p) {xv : Value} {c : Cr} (hCi : CrIn h xv c) {a : Int} (_ha : I64 a) : Rets Tryz.prog 9 #[pv, xv, .int .i64 a] w fun v w' => v = .bool true ∧ H w' h Ls := by
  have hCi2 := hCi
  obtain ⟨dv, cv, nv, rv, rfl, k1, k2, k3, k4⟩ := hCi2
  obtain ⟨A2, c2, rfl, _⟩ := k1.sl.form
  obtain ⟨A3, c3, rfl, _⟩ := k2.sl.form
  obtain ⟨A4, c4, rfl, _⟩ := k3.sl.form
  obtain ⟨A5, c5, rfl, _⟩ := k4.sl.form
  refine rets_enter Tryz.func9 rfl Tryz.ntmps9 (by simp) ?_
  refine WT_seq ?_
  refine WT_region ?_
  refine WL_box _ rfl hH rfl rfl ?_; rintro b w1 hH1; replace hH1 : H w1 h (lcbox b (.slice A2 c.dq.length c2) (.slice A3 c.ct.length c3) (.slice A4 c.dn.length c4) (.slice A5 c.rw.length c5) :: Ls) := hH1
  refine WL_v rfl (ov_assign rfl) ?_
  refine WL_nil ?_
  refine WT_seq ?_
  refine WT_region ?_
  refine WL_v rfl (ov_assign rfl) ?_
  refine WL_nil ?_
  refine WT_seq ?_
  refine WT_region ?_
  refine WL_v rfl (ov_move rfl) ?_
  refine WL_v rfl (ov_move rfl) ?_
  refine WL_call rfl rfl cf_laws_szNodeS (szNodeS_ok2 hH1 hP) ?_; rintro _ w2 ⟨s, rfl, hs1, hs2, hH2⟩
  refine WL_v rfl (ov_assign rfl) ?_
  refine WL_nil ?_
  refine WT_seq ?_
  refine WT_seq ?_
  refine WT_region ?_
  refine WL_v rfl (ov_move rfl) ?_
  refine WL_v rfl (ov_lss rfl rfl) ?_
  refine WL_nil ?_
  refine WT_cond rfl (fun hneg => ?_) (fun hneg => ?_)
  · skip
    first | with_reducible replace hneg := of_decide_eq_true hneg | with_reducible replace hneg := bn_T hneg | with_reducible replace hneg := bb_T hneg | skip
    refine WT_seq ?_
    refine WT_region ?_
    refine WL_v rfl (ov_assign rfl) ?_
    refine WL_nil ?_
    exact WT_ret1 Tryz.func9 Tryz.results9 rfl ⟨rfl, hH2.drop⟩
  first | with_reducible replace hneg := of_decide_eq_false hneg | with_reducible replace hneg := bn_F hneg | with_reducible replace hneg := bb_F hneg | skip
  obtain ⟨hs0, hl0, hl2⟩ := hs2.resolve_left (by omega)
  refine WT_skip ?_
  refine WT_seq ?_
  refine WT_region ?_
  refine WL_v rfl (ov_loadN [.slice A2 c.dq.length c2, .slice A3 c.ct.length c3, .slice A4 c.dn.length c4, .slice A5 c.rw.length c5] rfl agg_laws_Crew rfl ((loadLC (i := 0) rfl hH2))) ?_
  refine WL_v rfl (ov_move rfl) ?_
  refine WL_call rfl rfl cf_laws_szCrew (szCrew_ok hH2 hCi (show 0 ≤ s ∧ s ≤ 1048576 by omega)) ?_; rintro _ w3 ⟨s2, rfl, hs3, hH3⟩
  refine WL_v rfl (ov_assign rfl) ?_
  refine WL_nil ?_
  refine WT_seq ?_
  refine WT_seq ?_
  refine WT_region ?_
  refine WL_v rfl (ov_move rfl) ?_
  refine WL_v rfl (ov_lss rfl rfl) ?_
  refine WL_nil ?_
  refine WT_cond rfl (fun hneg2 => ?_) (fun hneg2 => ?_)
  · skip
    first | with_reducible replace hneg2 := of_decide_eq_true hneg2 | with_reducible replace hneg2 := bn_T hneg2 | with_reducible replace hneg2 := bb_T hneg2 | skip
    refine WT_seq ?_
    refine WT_region ?_
    refine WL_v rfl (ov_assign rfl) ?_
    refine WL_nil ?_
    exact WT_ret1 Tryz.func9 Tryz.results9 rfl ⟨rfl, hH3.drop⟩
  first | with_reducible replace hneg2 := of_decide_eq_false hneg2 | with_reducible replace hneg2 := bn_F hneg2 | with_reducible replace hneg2 := bb_F hneg2 | skip
  have hsz := hs3.resolve_left (by omega)
  have hlim := hsz.lim
  refine WT_skip ?_
  refine WT_seq ?_
  refine WT_mixS [(0, 1), (2, 0), (4, 1), (1, 2), (3, 3), (5, 3), (6, 1)] [lcbox b (.slice A2 c.dq.length c2) (.slice A3 c.ct.length c3) (.slice A4 c.dn.length c4) (.slice A5 c.rw.length c5)] (fun w' hh => Cl.sub [] [lcbox b (.slice A2 c.dq.length c2) (.slice A3 c.ct.length c3) (.slice A4 c.dn.length c4) (.slice A5 c.rw.length c5)] _ hh) mixed (by kernel_rfl) hH3 ?_
  clear hH3
  intro w4 hH3 hC
  refine WM_p rfl rfl (fun _ => ov_move rfl) ?_
  refine WM_v rfl rfl hC (fun _ ⟨_, hH⟩ => ov_loadN [.slice A2 c.dq.length c2, .slice A3 c.ct.length c3, .slice A4 c.dn.length c4, .slice A5 c.rw.length c5] rfl agg_laws_Crew rfl ((loadLC (i := 1) rfl hH))) ?_
  refine WM_p rfl rfl (fun _ => ov_move rfl) ?_
  refine WM_e rfl ?_
  refine WL_call rfl rfl cf_laws_toNodeS (toNodeS_ok hH3 hP hl0 hl2) ?_; rintro yv w5 ⟨O, Is, hO, hH5⟩; obtain ⟨h1, hle1, hH6, hP1, _⟩ := hO.freeze hH5
  replace hC : Cl _ _ _ := Cl.sub [] [lcbox b (.slice A2 c.dq.length c2) (.slice A3 c.ct.length c3) (.slice A4 c.dn.length c4) (.slice A5 c.rw.length c5)] _ (hH6.weak hle1)
  refine WL_mix (fun _ => hC) ?_
  refine WM_e rfl ?_
  refine WL_call rfl rfl cf_laws_toCrew (toCrew_ok hH6 (hCi.mono hle1) hsz) ?_; rintro _ w7 ⟨C, N, D, R, Ds, Rs, ov1, ov2, ov3, ov4, rfl, hO1, hH7⟩
  refine WL_mix (fun h => absurd rfl h) ?_
  refine WM_e rfl ?_
  refine WL_call rfl rfl cf_spec_TurnFrom (sTurnFrom_ok hH7 hP1 (by omega) hlim hO1.rd a) ?_; rintro _ w8 ⟨rfl, hH8⟩
  refine WL_mix (fun h => absurd rfl h) ?_
  refine WM_p rfl rfl (fun _ => ov_assign rfl) ?_
  refine WM_nil ?_
  refine WT_seq ?_
  refine WT_region ?_
  refine WL_v rfl (ov_move rfl) ?_
  have hH9 : H w8 h1 (lcbox b (.slice A2 c.dq.length c2) (.slice A3 c.ct.length c3) (.slice A4 c.dn.length c4) (.slice A5 c.rw.length c5) :: Ls) := H.drops (C :: N :: D :: R :: (Ds ++ Rs)) (by simpa using hH8)
  clear hH7 hH8 hO1
  refine WL_call rfl rfl cf_laws_toNodeS (toNodeS_ok hH9 (hP.mono hle1) hl0 hl2) ?_; rintro zv w10 ⟨O2, Is2, hO2, hH10⟩; obtain ⟨h2, hle2, hH11, hP2, _⟩ := hO2.freeze hH10
  refine WL_v rfl (ov_assign rfl) ?_
  refine WL_nil ?_
  refine WT_seq ?_
  refine WT_region ?_
  refine WL_v rfl (ov_loadN [.slice A2 c.dq.length c2, .slice A3 c.ct.length c3, .slice A4 c.dn.length c4, .slice A5 c.rw.length c5] rfl agg_laws_Crew rfl ((loadLC (i := 0) rfl hH11))) ?_
  refine WL_call rfl rfl cf_laws_toCrew (toCrew_ok hH11 (hCi.mono (hle1.trans hle2)) hsz) ?_; rintro _ w12 ⟨C2, N2, D2, R2, Ds2, Rs2, ov5, ov6, ov7, ov8, rfl, hO3, hH12⟩
  refine WL_alloc _ rfl hH12 zero_crew rfl ?_; rintro g w13 hH13
  refine WL_storeN hH13 rfl rfl (i := 0) rfl rfl rfl (ones_cons hO3.dq.sl.one (ones_cons hO3.ct.sl.one (ones_cons hO3.dn.sl.one (ones_cons hO3.rw.sl.one ones_nil)))) sz_impl_Crew ?_; rintro w14 hH14; replace hH14 : H w14 h2 (crbox g ov5 ov6 ov7 ov8 :: C2 :: N2 :: D2 :: R2 :: (Ds2 ++ (Rs2 ++ lcbox b (.slice A2 c.dq.length c2) (.slice A3 c.ct.length c3) (.slice A4 c.dn.length c4) (.slice A5 c.rw.length c5) :: Ls))) := hH14
  refine WL_nil ?_
  refine WT_seq ?_
  refine WT_region ?_
  refine WL_v rfl (ov_move rfl) ?_
  refine WL_v rfl (ov_loadN [ov5, ov6, ov7, ov8] rfl agg_impl_Crew rfl ((loadCrew (i := 0) rfl hH14))) ?_
  refine WL_v rfl (ov_move rfl) ?_
  refine WL_call rfl rfl cf_impl_TurnFrom (turnFrom_ok hH14 hP2 hlim hO3.rd.up a) ?_; rintro _ w15 ⟨rfl, hH15⟩
  refine WL_v rfl (ov_assign rfl) ?_
  refine WL_nil ?_
  refine WT_seq ?_
  refine WT_seq ?_
  refine WT_region ?_
  refine WL_v rfl (ov_move rfl) ?_
  refine WL_v rfl (ov_move rfl) ?_
  refine WL_v rfl (ov_F (ov_neq rfl rfl) (by first | exact decide_eq_false rfl | exact nb_F rfl | exact mb_F rfl | exact rfl | (simp only [decide_eq_false_iff_not]; omega) | simpa using rfl)) ?_
  refine WL_nil ?_
  refine WT_condF rfl ?_
  refine WT_skip ?_
  refine WT_seq ?_
  refine WT_seq ?_
  refine WT_region ?_
  refine WL_v rfl (ov_move rfl) ?_
  refine WL_v rfl (ov_move rfl) ?_
  refine WL_call rfl rfl cf_laws_toNodeS (toNodeS_ok hH15 (hP.mono (hle1.trans hle2)) hl0 hl2) ?_; rintro uv w16 ⟨O4, Is4, hO4, hH16⟩; obtain ⟨h3, hle3, hH17, hP3, _⟩ := hO4.freeze hH16
  refine WL_call rfl rfl cf_laws_eqNodeS (eqNodeS_ok hH17 (hP2.mono hle3) hP3) ?_; rintro _ w18 ⟨rfl, hH18⟩
  refine WL_v rfl (ov_F (ov_not rfl) (by first | exact decide_eq_false rfl | exact nb_F rfl | exact mb_F rfl | exact rfl | (simp only [decide_eq_false_iff_not]; omega) | simpa using rfl)) ?_
  refine WL_nil ?_
  refine WT_condF rfl ?_
  have hH19 : H w18 h3 (lcbox b (.slice A2 c.dq.length c2) (.slice A3 c.ct.length c3) (.slice A4 c.dn.length c4) (.slice A5 c.rw.length c5) :: crbox g ov5 ov6 ov7 ov8 :: C2 :: N2 :: D2 :: R2 :: (Ds2 ++ (Rs2 ++ Ls))) := by
    have := H.behind (O := crbox g ov5 ov6 ov7 ov8) (Is := C2 :: N2 :: D2 :: R2 :: (Ds2 ++ Rs2)) (Ms := Ls) (by simpa using hH18)
    simpa using this
  clear hH hH1 hH2 hH5 hH6 hH9 hH10 hH11 hH12 hH13 hH14 hH15 hH16 hH17 hH18
  refine WT_skip ?_
  refine WT_seq ?_
  refine WT_seq ?_
  refine WT_mixS [(0, 0), (1, 0), (2, 2), (3, 3), (4, 1)] [lcbox b (.slice A2 c.dq.length c2) (.slice A3 c.ct.length c3) (.slice A4 c.dn.length c4) (.slice A5 c.rw.length c5), crbox g ov5 ov6 ov7 ov8] (fun w' hh => Cl.sub [] [lcbox b (.slice A2 c.dq.length c2) (.slice A3 c.ct.length c3) (.slice A4 c.dn.length c4) (.slice A5 c.rw.length c5), crbox g ov5 ov6 ov7 ov8] _ hh) mixed (by kernel_rfl) hH19 ?_
  clear hH19
  intro w20 hH19 hC
  refine WM_v rfl rfl hC (fun _ ⟨_, hH⟩ => ov_loadN [ov5, ov6, ov7, ov8] rfl agg_impl_Crew rfl ((loadCrew (i := 2) rfl hH))) ?_
  refine WM_v rfl rfl hC (fun _ ⟨_, hH⟩ => ov_loadN [.slice A2 c.dq.length c2, .slice A3 c.ct.length c3, .slice A4 c.dn.length c4, .slice A5 c.rw.length c5] rfl agg_laws_Crew rfl ((loadLC (i := 1) rfl hH))) ?_
  refine WM_e rfl ?_
  refine WL_call rfl rfl cf_laws_toCrew (toCrew_ok hH19 (hCi.mono (hle1.trans (hle2.trans hle3))) hsz) ?_; rintro _ w21 ⟨C5, N5, D5, R5, Ds5, Rs5, ov9, ov10, ov11, ov12, rfl, hO5, hH21⟩
  replace hC : Cl _ _ _ := Cl.sub (C5 :: N5 :: D5 :: R5 :: (Ds5 ++ Rs5)) [lcbox b (.slice A2 c.dq.length c2) (.slice A3 c.ct.length c3) (.slice A4 c.dn.length c4) (.slice A5 c.rw.length c5), crbox g ov5 ov6 ov7 ov8] _ (by simpa using hH21)
  refine WL_mix (fun _ => hC) ?_
  refine WM_e rfl ?_
  refine WL_call rfl rfl cf_laws_eqCrew (eqCrew_same hH21 (fun Ms => by simpa using (hO3.rd (h := h3) (Ls := Ls)).ups (Ms ++ C5 :: N5 :: D5 :: R5 :: (Ds5 ++ (Rs5 ++ [lcbox b (.slice A2 c.dq.length c2) (.slice A3 c.ct.length c3) (.slice A4 c.dn.length c4) (.slice A5 c.rw.length c5), crbox g ov5 ov6 ov7 ov8])))) (fun Ms => hO5.rd.ups Ms)) ?_; rintro _ w22 ⟨rfl, hH22⟩
  refine WL_mix (fun h => absurd rfl h) ?_
  refine WM_p rfl rfl (fun _ => ov_F (ov_not rfl) (by first | exact decide_eq_false rfl | exact nb_F rfl | exact mb_F rfl | exact rfl | (simp only [decide_eq_false_iff_not]; omega) | simpa using rfl)) ?_
  refine WM_nil ?_
  refine WT_condF rfl ?_
  refine WT_skip ?_
  refine WT_seq ?_
  refine WT_region ?_
  refine WL_v rfl (ov_assign rfl) ?_
  refine WL_nil ?_
  exact WT_ret1 Tryz.func9 Tryz.results9 rfl ⟨rfl, H.drops (C5 :: N5 :: D5 :: R5 :: (Ds5 ++ (Rs5 ++ lcbox b (.slice A2 c.dq.length c2) (.slice A3 c.ct.length c3) (.slice A4 c.dn.length c4) (.slice A5 c.rw.length c5) :: crbox g ov5 ov6 ov7 ov8 :: C2 :: N2 :: D2 :: R2 :: (Ds2 ++ Rs2)))) (by simpa using hH22.weak (hle1.trans (hle2.trans hle3)))⟩

end
end Go.Proofs.YteagnhdhafiofaaGreat
