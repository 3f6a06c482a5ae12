/- The law ExactLoseWorker: its walk. -/
import Derived.Test.YteagnhdhafiofaaGreatBh6
import Derived.Test.YteagnhdhafiofaaGreatSlF
namespace Go.Proofs.YteagnhdhafiofaaGreat
open Go.RowKit

theorem CrIn.mono {h h' : GH} {v : Value} {c : Cr} (hC : CrIn h v c) (hle : h.Le h') : CrIn h' v c := by
  obtain ⟨dv, cv, nv, rv, e, h1, h2, h3, h4⟩ := hC
  exact ⟨dv, cv, nv, rv, e, h1.mono hle, h2.mono hle, h3.mono hle, h4.mono hle⟩

section
variable {h : GH} {Ls : List Heaplet} {w : World}

theorem RdL.mono {h' : GH} {v : Value} {xs : List Int} (hA : RdL h Ls v xs) (hle : h.Le h') : RdL h' Ls v xs := ⟨hA.sl, fun hH _ hj => hA.cell (hH.weak hle) hj⟩
theorem RdLL.mono {h' : GH} {v : Value} {ls : List (List Int)} (hA : RdLL h Ls v ls) (hle : h.Le h') : RdLL h' Ls v ls := ⟨hA.sl, fun hi => by
  obtain ⟨u, h1, h2⟩ := hA.at_ hi
  exact ⟨u, h1.mono hle, fun hH => h2 (hH.weak hle)⟩⟩
theorem RdCr.mono {h' : GH} {dv cv nv rv : Value} {c : Cr} (hC : RdCr h Ls dv cv nv rv c) (hle : h.Le h') : RdCr h' Ls dv cv nv rv c := ⟨hC.dq.mono hle, hC.ct.mono hle, hC.dn.mono hle, hC.rw.mono hle⟩

set_option maxHeartbeats 4000000 in
theorem fnExactLoseWorker_walk (hH : H w h Ls) {pv : Value} {p : List Nd} (hP : Plan h pv p) {xv : Value} {c : Cr} (hCi : CrIn h xv c) {a : Int} (_ha : I64 a) : Rets Tryz.prog 5 #[pv, xv, .int .i64 a] w fun v w' => v = .bool true ∧ H w' h Ls := by
  have hCi2 := hCi
  obtain ⟨dv, cv, nv, rv, rfl, k1, k2, k3, k4⟩ := hCi2
  obtain ⟨A2, c2, rfl, _⟩ := k1.sl.form
  obtain ⟨A3, c3, rfl, _⟩ := k2.sl.form
  obtain ⟨A4, c4, rfl, _⟩ := k3.sl.form
  obtain ⟨A5, c5, rfl, _⟩ := k4.sl.form
  refine rets_enter Tryz.func5 rfl Tryz.ntmps5 (by simp) ?_
  refine WT_seq ?_
  refine WT_region ?_
  refine WL_box _ rfl hH rfl rfl ?_; rintro b w1 hH1; replace hH1 : H w1 h (lcbox b (.slice A2 c.dq.length c2) (.slice A3 c.ct.length c3) (.slice A4 c.dn.length c4) (.slice A5 c.rw.length c5) :: Ls) := hH1
  refine WL_v rfl (ov_assign rfl) ?_
  refine WL_nil ?_
  refine WT_seq ?_
  refine WT_region ?_
  refine WL_v rfl (ov_assign rfl) ?_
  refine WL_nil ?_
  refine WT_seq ?_
  refine WT_region ?_
  refine WL_v rfl (ov_move rfl) ?_
  refine WL_v rfl (ov_move rfl) ?_
  refine WL_call rfl rfl cf_laws_szNodeS (szNodeS_ok2 hH1 hP) ?_; rintro _ w2 ⟨s, rfl, hs1, hs2, hH2⟩
  refine WL_v rfl (ov_assign rfl) ?_
  refine WL_nil ?_
  refine WT_seq ?_
  refine WT_seq ?_
  refine WT_region ?_
  refine WL_v rfl (ov_move rfl) ?_
  refine WL_v rfl (ov_lss rfl rfl) ?_
  refine WL_nil ?_
  refine WT_cond rfl (fun hneg => ?_) (fun hneg => ?_)
  · skip
    first | with_reducible replace hneg := of_decide_eq_true hneg | with_reducible replace hneg := bn_T hneg | with_reducible replace hneg := bb_T hneg | skip
    refine WT_seq ?_
    refine WT_region ?_
    refine WL_v rfl (ov_assign rfl) ?_
    refine WL_nil ?_
    exact WT_ret1 Tryz.func5 Tryz.results5 rfl ⟨rfl, hH2.drop⟩
  first | with_reducible replace hneg := of_decide_eq_false hneg | with_reducible replace hneg := bn_F hneg | with_reducible replace hneg := bb_F hneg | skip
  obtain ⟨hs0, hl0, hl2⟩ := hs2.resolve_left (by omega)
  refine WT_skip ?_
  refine WT_seq ?_
  refine WT_region ?_
  refine WL_v rfl (ov_loadN [.slice A2 c.dq.length c2, .slice A3 c.ct.length c3, .slice A4 c.dn.length c4, .slice A5 c.rw.length c5] rfl agg_laws_Crew rfl ((loadLC (i := 0) rfl hH2))) ?_
  refine WL_v rfl (ov_move rfl) ?_
  refine WL_call rfl rfl cf_laws_szCrew (szCrew_ok hH2 hCi (show 0 ≤ s ∧ s ≤ 1048576 by omega)) ?_; rintro _ w3 ⟨s2, rfl, hs3, hH3⟩
  refine WL_v rfl (ov_assign rfl) ?_
  refine WL_nil ?_
  refine WT_seq ?_
  refine WT_seq ?_
  refine WT_region ?_
  refine WL_v rfl (ov_move rfl) ?_
  refine WL_v rfl (ov_lss rfl rfl) ?_
  refine WL_nil ?_
  refine WT_cond rfl (fun hneg2 => ?_) (fun hneg2 => ?_)
  · skip
    first | with_reducible replace hneg2 := of_decide_eq_true hneg2 | with_reducible replace hneg2 := bn_T hneg2 | with_reducible replace hneg2 := bb_T hneg2 | skip
    refine WT_seq ?_
    refine WT_region ?_
    refine WL_v rfl (ov_assign rfl) ?_
    refine WL_nil ?_
    exact WT_ret1 Tryz.func5 Tryz.results5 rfl ⟨rfl, hH3.drop⟩
  first | with_reducible replace hneg2 := of_decide_eq_false hneg2 | with_reducible replace hneg2 := bn_F hneg2 | with_reducible replace hneg2 := bb_F hneg2 | skip
  have hsz := hs3.resolve_left (by omega)
  have hlim := hsz.lim
  have hls := lost_sz (p := p) hsz a
  clear hH hH1 hH2
  refine WT_skip ?_
  refine WT_seq ?_
  refine WT_join (ι := GH × Nat × Value × Value × Value × Value) (fun s => [(0, pv), (2, .int .i64 a), (4, ptr b), (8, ptr s.2.1), (9, .bool (lostOk p c a))]) (fun s w => GH.Le h s.1 ∧ (∀ Ms, RdCr s.1 Ms s.2.2.1 s.2.2.2.1 s.2.2.2.2.1 s.2.2.2.2.2 (lostCr p c a)) ∧ H w s.1 (crbox s.2.1 s.2.2.1 s.2.2.2.1 s.2.2.2.2.1 s.2.2.2.2.2 :: lcbox b (.slice A2 c.dq.length c2) (.slice A3 c.ct.length c3) (.slice A4 c.dn.length c4) (.slice A5 c.rw.length c5) :: Ls) ∧ True) ?_ ?_
  · intro joined
    refine WT_mixXS [(0, 1), (1, 2), (2, 0), (3, 3), (4, 1), (5, 3), (6, 1), (7, 1), (8, 1), (9, 2), (10, 3), (11, 1)] [(0, 1), (2, 0), (4, 1)] 9 #[true, false, true, false, true, false, false, false, false, false, false, false] [lcbox b (.slice A2 c.dq.length c2) (.slice A3 c.ct.length c3) (.slice A4 c.dn.length c4) (.slice A5 c.rw.length c5)] (fun w' hh => Cl.sub [] [lcbox b (.slice A2 c.dq.length c2) (.slice A3 c.ct.length c3) (.slice A4 c.dn.length c4) (.slice A5 c.rw.length c5)] _ hh) mixed (by kernel_rfl) hH3 ?_
    clear hH3
    intro wq hH3 hC
    refine WM_p rfl rfl (fun _ => ov_move rfl) ?_
    refine WM_v rfl rfl hC (fun _ ⟨_, hH⟩ => ov_loadN [.slice A2 c.dq.length c2, .slice A3 c.ct.length c3, .slice A4 c.dn.length c4, .slice A5 c.rw.length c5] rfl agg_laws_Crew rfl ((loadLC (i := 1) rfl hH))) ?_
    refine WM_p rfl rfl (fun _ => ov_move rfl) ?_
    refine WM_fork 1 9 0 0 [] [(1, 2), (3, 3), (5, 3), (6, 1), (7, 1), (8, 1), (10, 3), (11, 1)] 8 0 #[true, true, true, false, true, false, false, false, false, false, false, false] #[true, true, true, true, true, true, true, true, true, true, true, true] (by kernel_rfl) ?_ ?_
    · skip
      refine WM_e rfl ?_
      refine WL_call rfl rfl cf_laws_toNodeS (toNodeS_ok hH3 (hP.mono (GH.Le.refl h)) hl0 hl2) ?_; rintro yv1 wa1 ⟨Oa1, Ia1, hOa1, hKa1⟩; obtain ⟨gh1, hg1, hK1, hPa, _⟩ := hOa1.freeze hKa1
      replace hC : Cl _ _ _ := Cl.sub [] [lcbox b (.slice A2 c.dq.length c2) (.slice A3 c.ct.length c3) (.slice A4 c.dn.length c4) (.slice A5 c.rw.length c5)] _ (hK1.weak hg1)
      refine WL_mix (fun _ => hC) ?_
      refine WM_fork 3 9 1 0 [] [(3, 3), (5, 3), (6, 1), (7, 1), (8, 1), (10, 3), (11, 1)] 7 0 #[true, true, true, true, true, false, false, false, false, false, false, false] #[true, true, true, true, true, true, true, true, true, true, true, true] (by kernel_rfl) ?_ ?_
      · skip
        refine WM_e rfl ?_
        refine WL_call rfl rfl cf_laws_toCrew (toCrew_ok hK1 (hCi.mono ((GH.Le.refl h).trans hg1)) hsz) ?_; rintro _ wa2 ⟨Ca, Na, Da, Ra, Dsa, Rsa, oa1, oa2, oa3, oa4, rfl, hOb, hKa2⟩; obtain ⟨gh2, hg2, hK2, hRa⟩ := hOb.freeze hKa2
        refine WL_mix (fun h => absurd rfl h) ?_
        refine WM_fork 5 9 1 0 [(6, 1), (7, 1), (8, 1), (9, 2), (10, 3), (11, 1)] [(5, 3), (6, 1), (7, 1), (8, 1), (10, 3), (11, 1)] 0 0 #[true, true, true, true, true, true, true, true, true, true, true, true] #[true, true, true, true, true, true, true, true, true, true, true, true] (by kernel_rfl) ?_ ?_
        · skip
          refine WM_e rfl ?_
          refine WL_call rfl rfl cf_spec_LoseWorker (sLoseWorker_any hK2 (hPa.mono hg2) (by omega) hlim (hRa _) a) ?_; rintro _ wa3 ⟨dz, kz, nz, rz, rfl, Cb, Nb, Db, Rb, Dsb, Rsb, hOc, hKa3⟩; obtain ⟨gh3, hg3, hK3, hRz⟩ := hOc.freeze hKa3
          refine WL_mix (fun h => absurd rfl h) ?_
          refine WM_p rfl rfl (fun _ => ov_move rfl) ?_
          refine WM_p rfl rfl (fun _ => ov_extract rfl rfl) ?_
          refine WM_p rfl rfl (fun _ => ov_extract rfl rfl) ?_
          refine WM_e rfl ?_
          refine WL_alloc _ rfl hK3 zero_crew rfl ?_; rintro g9 wa4 hK4
          replace hC : Cl _ _ _ := Cl.sub [cz9 g9] [lcbox b (.slice A2 c.dq.length c2) (.slice A3 c.ct.length c3) (.slice A4 c.dn.length c4) (.slice A5 c.rw.length c5)] _ (hK4.weak (hg1.trans (hg2.trans hg3)))
          refine WL_mix (fun _ => hC) ?_
          refine WM_e rfl ?_
          refine WL_storeN hK4 rfl rfl (i := 0) rfl rfl rfl (ones_cons (hRz []).dq.sl.one (ones_cons (hRz []).ct.sl.one (ones_cons (hRz []).dn.sl.one (ones_cons (hRz []).rw.sl.one ones_nil)))) sz_impl_Crew ?_; rintro wa5 hK5
          refine WL_mix (fun h => absurd rfl h) ?_
          refine WM_p rfl rfl (fun _ => ov_assign rfl) ?_
          refine WM_fin (by kernel_rfl) ?_
          exact joined (gh3, g9, dz, kz, nz, rz) _ _ (by repeat (first | exact trivial | refine ⟨rfl, ?_⟩)) ⟨((GH.Le.refl h).trans (hg1.trans (hg2.trans hg3))), hRz, hK5, by first | exact hKt | trivial⟩
        refine WM_e rfl ?_
        refine WL_alloc _ rfl hK2 zero_crew rfl ?_; rintro g9 wa3 hK3
        replace hC : Cl _ _ _ := Cl.sub [cz9 g9] [lcbox b (.slice A2 c.dq.length c2) (.slice A3 c.ct.length c3) (.slice A4 c.dn.length c4) (.slice A5 c.rw.length c5)] _ (hK3.weak (hg1.trans hg2))
        refine WL_mix (fun _ => hC) ?_
        refine WM_e rfl ?_
        refine WL_call rfl rfl cf_spec_LoseWorker (sLoseWorker_any hK3 (hPa.mono hg2) (by omega) hlim (hRa _) a) ?_; rintro _ wa4 ⟨dz, kz, nz, rz, rfl, Cb, Nb, Db, Rb, Dsb, Rsb, hOc, hKa4⟩; obtain ⟨gh3, hg3, hK4, hRz⟩ := hOc.freeze hKa4
        refine WL_mix (fun h => absurd rfl h) ?_
        refine WM_p rfl rfl (fun _ => ov_move rfl) ?_
        refine WM_p rfl rfl (fun _ => ov_extract rfl rfl) ?_
        refine WM_p rfl rfl (fun _ => ov_extract rfl rfl) ?_
        refine WM_e rfl ?_
        refine WL_storeN hK4 rfl rfl (i := 0) rfl rfl rfl (ones_cons (hRz []).dq.sl.one (ones_cons (hRz []).ct.sl.one (ones_cons (hRz []).dn.sl.one (ones_cons (hRz []).rw.sl.one ones_nil)))) sz_impl_Crew ?_; rintro wa5 hK5
        refine WL_mix (fun h => absurd rfl h) ?_
        refine WM_p rfl rfl (fun _ => ov_assign rfl) ?_
        refine WM_fin (by kernel_rfl) ?_
        exact joined (gh3, g9, dz, kz, nz, rz) _ _ (by repeat (first | exact trivial | refine ⟨rfl, ?_⟩)) ⟨((GH.Le.refl h).trans (hg1.trans (hg2.trans hg3))), hRz, hK5, by first | exact hKt | trivial⟩
      refine WM_e rfl ?_
      refine WL_alloc _ rfl hK1 zero_crew rfl ?_; rintro g9 wa2 hK2
      replace hC : Cl _ _ _ := Cl.sub [cz9 g9] [lcbox b (.slice A2 c.dq.length c2) (.slice A3 c.ct.length c3) (.slice A4 c.dn.length c4) (.slice A5 c.rw.length c5)] _ (hK2.weak hg1)
      refine WL_mix (fun _ => hC) ?_
      refine WM_e rfl ?_
      refine WL_call rfl rfl cf_laws_toCrew (toCrew_ok hK2 (hCi.mono ((GH.Le.refl h).trans hg1)) hsz) ?_; rintro _ wa3 ⟨Ca, Na, Da, Ra, Dsa, Rsa, oa1, oa2, oa3, oa4, rfl, hOb, hKa3⟩; obtain ⟨gh2, hg2, hK3, hRa⟩ := hOb.freeze hKa3
      refine WL_mix (fun h => absurd rfl h) ?_
      refine WM_e rfl ?_
      refine WL_call rfl rfl cf_spec_LoseWorker (sLoseWorker_any hK3 (hPa.mono hg2) (by omega) hlim (hRa _) a) ?_; rintro _ wa4 ⟨dz, kz, nz, rz, rfl, Cb, Nb, Db, Rb, Dsb, Rsb, hOc, hKa4⟩; obtain ⟨gh3, hg3, hK4, hRz⟩ := hOc.freeze hKa4
      refine WL_mix (fun h => absurd rfl h) ?_
      refine WM_p rfl rfl (fun _ => ov_move rfl) ?_
      refine WM_p rfl rfl (fun _ => ov_extract rfl rfl) ?_
      refine WM_p rfl rfl (fun _ => ov_extract rfl rfl) ?_
      refine WM_e rfl ?_
      refine WL_storeN hK4 rfl rfl (i := 0) rfl rfl rfl (ones_cons (hRz []).dq.sl.one (ones_cons (hRz []).ct.sl.one (ones_cons (hRz []).dn.sl.one (ones_cons (hRz []).rw.sl.one ones_nil)))) sz_impl_Crew ?_; rintro wa5 hK5
      refine WL_mix (fun h => absurd rfl h) ?_
      refine WM_p rfl rfl (fun _ => ov_assign rfl) ?_
      refine WM_fin (by kernel_rfl) ?_
      exact joined (gh3, g9, dz, kz, nz, rz) _ _ (by repeat (first | exact trivial | refine ⟨rfl, ?_⟩)) ⟨((GH.Le.refl h).trans (hg1.trans (hg2.trans hg3))), hRz, hK5, by first | exact hKt | trivial⟩
    refine WM_e rfl ?_
    refine WL_alloc _ rfl hH3 zero_crew rfl ?_; rintro g9 wa1 hK1
    replace hC : Cl _ _ _ := Cl.sub [cz9 g9] [lcbox b (.slice A2 c.dq.length c2) (.slice A3 c.ct.length c3) (.slice A4 c.dn.length c4) (.slice A5 c.rw.length c5)] _ hK1
    refine WL_mix (fun _ => hC) ?_
    refine WM_e rfl ?_
    refine WL_call rfl rfl cf_laws_toNodeS (toNodeS_ok hK1 (hP.mono (GH.Le.refl h)) hl0 hl2) ?_; rintro yv2 wa2 ⟨Oa2, Ia2, hOa2, hKa2⟩; obtain ⟨gh1, hg1, hK2, hPa, _⟩ := hOa2.freeze hKa2
    replace hC : Cl _ _ _ := Cl.sub [cz9 g9] [lcbox b (.slice A2 c.dq.length c2) (.slice A3 c.ct.length c3) (.slice A4 c.dn.length c4) (.slice A5 c.rw.length c5)] _ (hK2.weak hg1)
    refine WL_mix (fun _ => hC) ?_
    refine WM_e rfl ?_
    refine WL_call rfl rfl cf_laws_toCrew (toCrew_ok hK2 (hCi.mono ((GH.Le.refl h).trans hg1)) hsz) ?_; rintro _ wa3 ⟨Ca, Na, Da, Ra, Dsa, Rsa, oa1, oa2, oa3, oa4, rfl, hOb, hKa3⟩; obtain ⟨gh2, hg2, hK3, hRa⟩ := hOb.freeze hKa3
    refine WL_mix (fun h => absurd rfl h) ?_
    refine WM_e rfl ?_
    refine WL_call rfl rfl cf_spec_LoseWorker (sLoseWorker_any hK3 (hPa.mono hg2) (by omega) hlim (hRa _) a) ?_; rintro _ wa4 ⟨dz, kz, nz, rz, rfl, Cb, Nb, Db, Rb, Dsb, Rsb, hOc, hKa4⟩; obtain ⟨gh3, hg3, hK4, hRz⟩ := hOc.freeze hKa4
    refine WL_mix (fun h => absurd rfl h) ?_
    refine WM_p rfl rfl (fun _ => ov_move rfl) ?_
    refine WM_p rfl rfl (fun _ => ov_extract rfl rfl) ?_
    refine WM_p rfl rfl (fun _ => ov_extract rfl rfl) ?_
    refine WM_e rfl ?_
    refine WL_storeN hK4 rfl rfl (i := 0) rfl rfl rfl (ones_cons (hRz []).dq.sl.one (ones_cons (hRz []).ct.sl.one (ones_cons (hRz []).dn.sl.one (ones_cons (hRz []).rw.sl.one ones_nil)))) sz_impl_Crew ?_; rintro wa5 hK5
    refine WL_mix (fun h => absurd rfl h) ?_
    refine WM_p rfl rfl (fun _ => ov_assign rfl) ?_
    refine WM_fin (by kernel_rfl) ?_
    exact joined (gh3, g9, dz, kz, nz, rz) _ _ (by repeat (first | exact trivial | refine ⟨rfl, ?_⟩)) ⟨((GH.Le.refl h).trans (hg1.trans (hg2.trans hg3))), hRz, hK5, by first | exact hKt | trivial⟩
  clear hH3
  rintro ⟨hA, g8, d0, k0, n0, r0⟩ w4 ⟨leA, hR0, hH, _⟩
  simp only at hR0 hH
  refine WT_seq ?_
  refine WT_region ?_
  refine WL_v rfl (ov_move rfl) ?_
  refine WL_call rfl rfl cf_laws_toNodeS (toNodeS_ok hH (hP.mono leA) hl0 hl2) ?_; rintro xp w5 ⟨O2, Is2, hO2, hH5⟩; obtain ⟨hB, leB, hH6, hP2, unf⟩ := hO2.freeze hH5
  refine WL_v rfl (ov_assign rfl) ?_
  refine WL_nil ?_
  refine WT_seq ?_
  refine WT_region ?_
  refine WL_v rfl (ov_loadN [.slice A2 c.dq.length c2, .slice A3 c.ct.length c3, .slice A4 c.dn.length c4, .slice A5 c.rw.length c5] rfl agg_laws_Crew rfl ((loadLC (i := 1) rfl hH6))) ?_
  refine WL_call rfl rfl cf_laws_toCrew (toCrew_ok hH6 (hCi.mono (leA.trans leB)) hsz) ?_; rintro _ w7 ⟨C2, N2, D2, R2, Ds2, Rs2, x1, x2, x3, x4, rfl, hOx, hH7⟩; replace hH7 := H.behindCr hH7
  refine WL_alloc _ rfl hH7 zero_crew rfl ?_; rintro g11 w8 hH8
  refine WL_storeN hH8 rfl rfl (i := 0) rfl rfl rfl (ones_cons hOx.dq.sl.one (ones_cons hOx.ct.sl.one (ones_cons hOx.dn.sl.one (ones_cons hOx.rw.sl.one ones_nil)))) sz_impl_Crew ?_; rintro w9 hH9; replace hH9 : H w9 hB (crbox g11 x1 x2 x3 x4 :: crbox g8 d0 k0 n0 r0 :: lcbox b (.slice A2 c.dq.length c2) (.slice A3 c.ct.length c3) (.slice A4 c.dn.length c4) (.slice A5 c.rw.length c5) :: C2 :: N2 :: D2 :: R2 :: (Ds2 ++ (Rs2 ++ Ls))) := hH9
  refine WL_nil ?_
  refine WT_seq ?_
  refine WT_region ?_
  refine WL_v rfl (ov_move rfl) ?_
  refine WL_v rfl (ov_loadN [x1, x2, x3, x4] rfl agg_impl_Crew rfl ((loadCrew (i := 0) rfl hH9))) ?_
  refine WL_v rfl (ov_move rfl) ?_
  refine WL_call rfl rfl cf_impl_LoseWorker (loseWorker_any hH9 hP2 hlim hOx.rd.up.up.up a) ?_; rintro _ w10 ⟨y1, y2, y3, y4, rfl, C3, N3, D3, R3, Ds3, Rs3, hOg, hH10⟩
  refine WL_v rfl (ov_move rfl) ?_
  refine WL_v rfl (ov_extract rfl rfl) ?_
  refine WL_v rfl (ov_extract rfl rfl) ?_
  have hH11 : H w10 hB (crbox g11 x1 x2 x3 x4 :: crbox g8 d0 k0 n0 r0 :: lcbox b (.slice A2 c.dq.length c2) (.slice A3 c.ct.length c3) (.slice A4 c.dn.length c4) (.slice A5 c.rw.length c5) :: C3 :: N3 :: D3 :: R3 :: (Ds3 ++ (Rs3 ++ C2 :: N2 :: D2 :: R2 :: (Ds2 ++ (Rs2 ++ Ls))))) := by
    have := H.flip (C3 :: N3 :: D3 :: R3 :: (Ds3 ++ Rs3)) (B := [crbox g11 x1 x2 x3 x4, crbox g8 d0 k0 n0 r0, lcbox b (.slice A2 c.dq.length c2) (.slice A3 c.ct.length c3) (.slice A4 c.dn.length c4) (.slice A5 c.rw.length c5)]) (by simpa using hH10)
    simpa using this
  clear hH hH5 hH6 hH7 hH8 hH9 hH10
  refine WL_alloc _ rfl hH11 zero_crew rfl ?_; rintro g12 w11 hH12
  refine WL_storeN hH12 rfl rfl (i := 0) rfl rfl rfl (ones_cons hOg.dq.sl.one (ones_cons hOg.ct.sl.one (ones_cons hOg.dn.sl.one (ones_cons hOg.rw.sl.one ones_nil)))) sz_impl_Crew ?_; rintro w12 hH13; replace hH13 : H w12 hB (crbox g12 y1 y2 y3 y4 :: crbox g11 x1 x2 x3 x4 :: crbox g8 d0 k0 n0 r0 :: lcbox b (.slice A2 c.dq.length c2) (.slice A3 c.ct.length c3) (.slice A4 c.dn.length c4) (.slice A5 c.rw.length c5) :: C3 :: N3 :: D3 :: R3 :: (Ds3 ++ (Rs3 ++ C2 :: N2 :: D2 :: R2 :: (Ds2 ++ (Rs2 ++ Ls))))) := hH13
  refine WL_v rfl (ov_assign rfl) ?_
  refine WL_nil ?_
  refine WT_seq ?_
  refine WT_seq ?_
  refine WT_region ?_
  refine WL_v rfl (ov_loadN [y1, y2, y3, y4] rfl agg_impl_Crew rfl ((loadCrew (i := 0) rfl hH13))) ?_
  refine WL_v rfl (ov_loadN [d0, k0, n0, r0] rfl agg_impl_Crew rfl ((loadCrew (i := 2) rfl hH13))) ?_
  refine WL_call rfl rfl cf_laws_eqCrew (eqCrew_same hH13 (fun Ms => by simpa using (hOg.rd (h := hB) (Ls := C2 :: N2 :: D2 :: R2 :: (Ds2 ++ (Rs2 ++ Ls)))).ups (Ms ++ [crbox g12 y1 y2 y3 y4, crbox g11 x1 x2 x3 x4, crbox g8 d0 k0 n0 r0, lcbox b (.slice A2 c.dq.length c2) (.slice A3 c.ct.length c3) (.slice A4 c.dn.length c4) (.slice A5 c.rw.length c5)])) (fun Ms => (hR0 _).mono leB)) ?_; rintro _ w13 ⟨rfl, hH14⟩
  refine WL_v rfl (ov_F (ov_not rfl) (by first | exact decide_eq_false rfl | exact nb_F rfl | exact mb_F rfl | exact rfl | (simp only [decide_eq_false_iff_not]; omega) | simpa using rfl)) ?_
  refine WL_v rfl (ov_move rfl) ?_
  refine WL_guardOn rfl rfl ?_
  refine WL_v rfl (ov_move rfl) ?_
  refine WL_guardOn rfl rfl ?_
  refine WL_v rfl (ov_move rfl) ?_
  refine WL_guardOn rfl rfl ?_
  refine WL_v rfl (ov_F (ov_neqB rfl rfl Tryz.underlying4) (by simp)) ?_
  refine WL_v rfl (ov_pickF rfl rfl) ?_
  refine WL_nil ?_
  refine WT_condF rfl ?_
  refine WT_skip ?_
  refine WT_seq ?_
  refine WT_seq ?_
  refine WT_region ?_
  refine WL_v rfl (ov_move rfl) ?_
  refine WL_v rfl (ov_move rfl) ?_
  refine WL_call rfl rfl cf_laws_toNodeS (toNodeS_ok hH14 (hP.mono (leA.trans leB)) hl0 hl2) ?_; rintro uv w14 ⟨O4, Is4, hO4, hH15⟩; obtain ⟨hQ, leC, hH16, hP3, _⟩ := hO4.freeze hH15
  refine WL_call rfl rfl cf_laws_eqNodeS (eqNodeS_ok hH16 (hP2.mono leC) hP3) ?_; rintro _ w15 ⟨rfl, hH17⟩
  refine WL_v rfl (ov_F (ov_not rfl) (by first | exact decide_eq_false rfl | exact nb_F rfl | exact mb_F rfl | exact rfl | (simp only [decide_eq_false_iff_not]; omega) | simpa using rfl)) ?_
  refine WL_nil ?_
  refine WT_condF rfl ?_
  have hRx : ∀ (hh : GH) Ms, RdCr hh (Ms ++ (crbox g12 y1 y2 y3 y4 :: crbox g11 x1 x2 x3 x4 :: crbox g8 d0 k0 n0 r0 :: lcbox b (.slice A2 c.dq.length c2) (.slice A3 c.ct.length c3) (.slice A4 c.dn.length c4) (.slice A5 c.rw.length c5) :: C3 :: N3 :: D3 :: R3 :: (Ds3 ++ (Rs3 ++ C2 :: N2 :: D2 :: R2 :: (Ds2 ++ (Rs2 ++ Ls)))))) x1 x2 x3 x4 c := fun hh Ms => by
    simpa using (hOx.rd (h := hh) (Ls := Ls)).ups (Ms ++ crbox g12 y1 y2 y3 y4 :: crbox g11 x1 x2 x3 x4 :: crbox g8 d0 k0 n0 r0 :: lcbox b (.slice A2 c.dq.length c2) (.slice A3 c.ct.length c3) (.slice A4 c.dn.length c4) (.slice A5 c.rw.length c5) :: (C3 :: N3 :: D3 :: R3 :: (Ds3 ++ Rs3)))
  clear hH11 hH12 hH13 hH14 hH15 hH16
  refine WT_skip ?_
  refine WT_seq ?_
  refine WT_seq ?_
  refine WT_mixS [(0, 0), (1, 0), (2, 2), (3, 3), (4, 1)] [crbox g12 y1 y2 y3 y4, crbox g11 x1 x2 x3 x4, crbox g8 d0 k0 n0 r0, lcbox b (.slice A2 c.dq.length c2) (.slice A3 c.ct.length c3) (.slice A4 c.dn.length c4) (.slice A5 c.rw.length c5)] (fun w' hh => Cl.sub [] [crbox g12 y1 y2 y3 y4, crbox g11 x1 x2 x3 x4, crbox g8 d0 k0 n0 r0, lcbox b (.slice A2 c.dq.length c2) (.slice A3 c.ct.length c3) (.slice A4 c.dn.length c4) (.slice A5 c.rw.length c5)] _ hh) mixed (by kernel_rfl) hH17 ?_
  clear hH17
  intro w16 hH17 hC
  refine WM_v rfl rfl hC (fun _ ⟨_, hH⟩ => ov_loadN [x1, x2, x3, x4] rfl agg_impl_Crew rfl ((loadCrew (i := 2) rfl hH))) ?_
  refine WM_v rfl rfl hC (fun _ ⟨_, hH⟩ => ov_loadN [.slice A2 c.dq.length c2, .slice A3 c.ct.length c3, .slice A4 c.dn.length c4, .slice A5 c.rw.length c5] rfl agg_laws_Crew rfl ((loadLC (i := 4) rfl hH))) ?_
  refine WM_e rfl ?_
  refine WL_call rfl rfl cf_laws_toCrew (toCrew_ok hH17 (hCi.mono (leA.trans (leB.trans leC))) hsz) ?_; rintro _ w17 ⟨C5, N5, D5, R5, Ds5, Rs5, ov9, ov10, ov11, ov12, rfl, hO5, hH18⟩; obtain ⟨hD, leD, hH19, hR5⟩ := hO5.freeze hH18
  replace hC : Cl _ _ _ := Cl.sub [] [crbox g12 y1 y2 y3 y4, crbox g11 x1 x2 x3 x4, crbox g8 d0 k0 n0 r0, lcbox b (.slice A2 c.dq.length c2) (.slice A3 c.ct.length c3) (.slice A4 c.dn.length c4) (.slice A5 c.rw.length c5)] _ (hH19.weak leD)
  refine WL_mix (fun _ => hC) ?_
  refine WM_e rfl ?_
  refine WL_call rfl rfl cf_laws_eqCrew (eqCrew_same hH19 (fun Ms => hRx _ Ms) (fun Ms => hR5 _)) ?_; rintro _ w18 ⟨rfl, hH20⟩
  refine WL_mix (fun h => absurd rfl h) ?_
  refine WM_p rfl rfl (fun _ => ov_F (ov_not rfl) (by first | exact decide_eq_false rfl | exact nb_F rfl | exact mb_F rfl | exact rfl | (simp only [decide_eq_false_iff_not]; omega) | simpa using rfl)) ?_
  refine WM_nil ?_
  refine WT_condF rfl ?_
  have hH21 := unf (hH20.weak (leC.trans leD))
  clear hH17 hH18 hH19 hH20 hO5
  refine WT_skip ?_
  refine WT_seq ?_
  refine WT_region ?_
  refine WL_v rfl (ov_assign rfl) ?_
  refine WL_nil ?_
  refine WT_seq ?_
  refine WT_region ?_
  refine WL_v rfl (ov_move rfl) ?_
  refine WL_v rfl (ov_move rfl) ?_
  refine WL_call rfl rfl cf_laws_markNodeS (markNodeS_ok hO2 hH21 hl0 hl2 (show (0 : Int) ≤ 1 ∧ (1 : Int) ≤ 1000000000000 by omega)) ?_; rintro _ w19 ⟨k', rfl, hk1, hk2, hH22⟩
  refine WL_v rfl (ov_assign rfl) ?_
  refine WL_nil ?_
  refine WT_seq ?_
  refine WT_region ?_
  refine WL_v rfl (ov_loadN [x1, x2, x3, x4] rfl agg_impl_Crew rfl ((loadCrew (i := 1) rfl hH22))) ?_
  refine WL_v rfl (ov_move rfl) ?_
  have hH23 : H w19 hA (C2 :: N2 :: D2 :: R2 :: (Ds2 ++ (Rs2 ++ crbox g12 y1 y2 y3 y4 :: crbox g11 x1 x2 x3 x4 :: crbox g8 d0 k0 n0 r0 :: lcbox b (.slice A2 c.dq.length c2) (.slice A3 c.ct.length c3) (.slice A4 c.dn.length c4) (.slice A5 c.rw.length c5) :: C3 :: N3 :: D3 :: R3 :: (Ds3 ++ (Rs3 ++ Ls))))) := by
    have := H.flip (crbox g12 y1 y2 y3 y4 :: crbox g11 x1 x2 x3 x4 :: crbox g8 d0 k0 n0 r0 :: lcbox b (.slice A2 c.dq.length c2) (.slice A3 c.ct.length c3) (.slice A4 c.dn.length c4) (.slice A5 c.rw.length c5) :: (C3 :: N3 :: D3 :: R3 :: (Ds3 ++ Rs3))) (B := C2 :: N2 :: D2 :: R2 :: (Ds2 ++ Rs2)) (Ms := Ls) (by simpa using hH22)
    simpa using this
  have hmc : manyCr c ≤ 4194304 := many_le hsz
  have hml : manyCr (lostCr p c a) ≤ 4194304 := many_le hls
  refine WL_call rfl rfl cf_laws_markCrew (markCrew_ok hOx hH23 hsz (show 0 ≤ k' ∧ k' ≤ 100000000000000 by omega)) ?_; rintro _ w20 ⟨rfl, C6, N6, D6, R6, Ds6, Rs6, _, hH24⟩; have hH25 : H w20 hA (crbox g12 y1 y2 y3 y4 :: crbox g11 x1 x2 x3 x4 :: crbox g8 d0 k0 n0 r0 :: lcbox b (.slice A2 c.dq.length c2) (.slice A3 c.ct.length c3) (.slice A4 c.dn.length c4) (.slice A5 c.rw.length c5) :: C3 :: N3 :: D3 :: R3 :: (Ds3 ++ (Rs3 ++ Ls))) := H.drops (C6 :: N6 :: D6 :: R6 :: (Ds6 ++ Rs6)) (by simpa using hH24)
  refine WL_v rfl (ov_assign rfl) ?_
  refine WL_nil ?_
  refine WT_seq ?_
  refine WT_seq ?_
  refine WT_region ?_
  refine WL_v rfl (ov_move rfl) ?_
  refine WL_v rfl (ov_F (ov_lss rfl rfl) (decide_eq_false (by omega))) ?_
  refine WL_v rfl (ov_move rfl) ?_
  refine WL_guardOn rfl rfl ?_
  refine WL_v rfl (ov_loadN [y1, y2, y3, y4] rfl agg_impl_Crew rfl ((loadCrew (i := 0) rfl hH25))) ?_
  refine WL_guardOn rfl rfl ?_
  refine WL_v rfl (ov_loadN [d0, k0, n0, r0] rfl agg_impl_Crew rfl ((loadCrew (i := 2) rfl hH25))) ?_
  refine WL_guardOn rfl rfl ?_
  refine WL_call rfl rfl cf_laws_eqCrew (eqCrew_same hH25 (fun Ms => by simpa using (hOg.rd (h := hA) (Ls := Ls)).ups (Ms ++ [crbox g12 y1 y2 y3 y4, crbox g11 x1 x2 x3 x4, crbox g8 d0 k0 n0 r0, lcbox b (.slice A2 c.dq.length c2) (.slice A3 c.ct.length c3) (.slice A4 c.dn.length c4) (.slice A5 c.rw.length c5)])) (fun Ms => hR0 _)) ?_; rintro _ w21 ⟨rfl, hH26⟩
  refine WL_guardOn rfl rfl ?_
  refine WL_v rfl (ov_F (ov_not rfl) (by first | exact decide_eq_false rfl | exact nb_F rfl | exact mb_F rfl | exact rfl | (simp only [decide_eq_false_iff_not]; omega) | simpa using rfl)) ?_
  refine WL_v rfl (ov_pickF rfl rfl) ?_
  refine WL_v rfl (ov_move rfl) ?_
  refine WL_guardOn rfl rfl ?_
  refine WL_v rfl (ov_move rfl) ?_
  refine WL_guardOn rfl rfl ?_
  refine WL_v rfl (ov_move rfl) ?_
  refine WL_guardOn rfl rfl ?_
  refine WL_v rfl (ov_F (ov_neqB rfl rfl Tryz.underlying4) (by simp)) ?_
  refine WL_v rfl (ov_pickF rfl rfl) ?_
  refine WL_nil ?_
  refine WT_condF rfl ?_
  clear hH21 hH22 hH23 hH24 hH25
  refine WT_skip ?_
  refine WT_seq ?_
  refine WT_region ?_
  refine WL_v rfl (ov_assign rfl) ?_
  refine WL_nil ?_
  refine WT_seq ?_
  refine WT_region ?_
  refine WL_v rfl (ov_loadN [y1, y2, y3, y4] rfl agg_impl_Crew rfl ((loadCrew (i := 0) rfl hH26))) ?_
  refine WL_v rfl (ov_move rfl) ?_
  have hH27 : H w21 hA (C3 :: N3 :: D3 :: R3 :: (Ds3 ++ (Rs3 ++ crbox g12 y1 y2 y3 y4 :: crbox g11 x1 x2 x3 x4 :: crbox g8 d0 k0 n0 r0 :: lcbox b (.slice A2 c.dq.length c2) (.slice A3 c.ct.length c3) (.slice A4 c.dn.length c4) (.slice A5 c.rw.length c5) :: Ls))) := by
    have := H.flip [crbox g12 y1 y2 y3 y4, crbox g11 x1 x2 x3 x4, crbox g8 d0 k0 n0 r0, lcbox b (.slice A2 c.dq.length c2) (.slice A3 c.ct.length c3) (.slice A4 c.dn.length c4) (.slice A5 c.rw.length c5)] (B := C3 :: N3 :: D3 :: R3 :: (Ds3 ++ Rs3)) (Ms := Ls) (by simpa using hH26)
    simpa using this
  refine WL_call rfl rfl cf_laws_markCrew (markCrew_ok hOg hH27 hls (show (0 : Int) ≤ 1 ∧ (1 : Int) ≤ 100000000000000 by omega)) ?_; rintro _ w22 ⟨rfl, C5, N5, D5, R5, Ds5, Rs5, hOm, hH28⟩
  refine WL_v rfl (ov_assign rfl) ?_
  refine WL_nil ?_
  refine WT_seq ?_
  refine WT_region ?_
  refine WL_v rfl (ov_assign rfl) ?_
  refine WL_nil ?_
  refine WT_seq ?_
  refine WT_region ?_
  have hH29 : H w22 hA (crbox g12 y1 y2 y3 y4 :: crbox g11 x1 x2 x3 x4 :: crbox g8 d0 k0 n0 r0 :: lcbox b (.slice A2 c.dq.length c2) (.slice A3 c.ct.length c3) (.slice A4 c.dn.length c4) (.slice A5 c.rw.length c5) :: C5 :: N5 :: D5 :: R5 :: (Ds5 ++ (Rs5 ++ Ls))) := by
    have := H.flip (C5 :: N5 :: D5 :: R5 :: (Ds5 ++ Rs5)) (B := [crbox g12 y1 y2 y3 y4, crbox g11 x1 x2 x3 x4, crbox g8 d0 k0 n0 r0, lcbox b (.slice A2 c.dq.length c2) (.slice A3 c.ct.length c3) (.slice A4 c.dn.length c4) (.slice A5 c.rw.length c5)]) (Ms := Ls) (by simpa using hH28)
    simpa using this
  have hRm : ∀ (hh : GH) Ms, RdCr hh (Ms ++ (crbox g12 y1 y2 y3 y4 :: crbox g11 x1 x2 x3 x4 :: crbox g8 d0 k0 n0 r0 :: lcbox b (.slice A2 c.dq.length c2) (.slice A3 c.ct.length c3) (.slice A4 c.dn.length c4) (.slice A5 c.rw.length c5) :: C5 :: N5 :: D5 :: R5 :: (Ds5 ++ (Rs5 ++ Ls)))) y1 y2 y3 y4 (markCr 1 (lostCr p c a)) := fun hh Ms => by
    simpa using (hOm.rd (h := hh) (Ls := Ls)).ups (Ms ++ [crbox g12 y1 y2 y3 y4, crbox g11 x1 x2 x3 x4, crbox g8 d0 k0 n0 r0, lcbox b (.slice A2 c.dq.length c2) (.slice A3 c.ct.length c3) (.slice A4 c.dn.length c4) (.slice A5 c.rw.length c5)])
  clear hH26 hH27 hH28
  refine WL_v rfl (ov_loadN [y1, y2, y3, y4] rfl agg_impl_Crew rfl ((loadCrew (i := 0) rfl hH29))) ?_
  refine WL_v rfl (ov_move rfl) ?_
  refine WL_call rfl rfl cf_laws_heldCrew (heldCrew_ok hH29 (hRm _) hls (show (0 : Int) ≤ 1 ∧ (1 : Int) ≤ 100000000000000 by omega)) ?_; rintro _ w23 ⟨rfl, hH30⟩
  refine WL_v rfl (ov_assign rfl) ?_
  refine WL_nil ?_
  refine WT_seq ?_
  refine WT_seq ?_
  refine WT_region ?_
  refine WL_v rfl (ov_move rfl) ?_
  refine WL_v rfl (ov_F (ov_lss rfl rfl) (decide_eq_false (by omega))) ?_
  refine WL_nil ?_
  refine WT_condF rfl ?_
  refine WT_skip ?_
  refine WT_seq ?_
  refine WT_seq ?_
  refine WT_region ?_
  refine WL_v rfl (ov_move rfl) ?_
  refine WL_v rfl (ov_move rfl) ?_
  refine WL_v rfl (ov_F (ov_neq rfl rfl) (by simp)) ?_
  refine WL_nil ?_
  refine WT_condF rfl ?_
  clear hH29
  refine WT_skip ?_
  refine WT_seq ?_
  refine WT_join (ι := GH × Nat × Value × Value × Value × Value) (fun s => [(0, pv), (2, .int .i64 a), (4, ptr b), (8, ptr g8), (9, .bool (lostOk p c a)), (12, ptr g12), (15, .int .i64 (1 + (manyCr (lostCr p c a) : Int))), (17, ptr s.2.1), (18, .bool (lostOk p c a))]) (fun s w => GH.Le hA s.1 ∧ (∀ Ms, RdCr s.1 Ms s.2.2.1 s.2.2.2.1 s.2.2.2.2.1 s.2.2.2.2.2 (lostCr p c a)) ∧ H w s.1 (crbox s.2.1 s.2.2.1 s.2.2.2.1 s.2.2.2.2.1 s.2.2.2.2.2 :: crbox g12 y1 y2 y3 y4 :: crbox g11 x1 x2 x3 x4 :: crbox g8 d0 k0 n0 r0 :: lcbox b (.slice A2 c.dq.length c2) (.slice A3 c.ct.length c3) (.slice A4 c.dn.length c4) (.slice A5 c.rw.length c5) :: C5 :: N5 :: D5 :: R5 :: (Ds5 ++ (Rs5 ++ Ls))) ∧ True) ?_ ?_
  · intro joined
    refine WT_mixXS [(0, 1), (1, 2), (2, 0), (3, 3), (4, 1), (5, 3), (6, 1), (7, 1), (8, 1), (9, 2), (10, 3), (11, 1)] [(0, 1), (2, 0), (4, 1)] 9 #[true, false, true, false, true, false, false, false, false, false, false, false] [crbox g12 y1 y2 y3 y4, crbox g11 x1 x2 x3 x4, crbox g8 d0 k0 n0 r0, lcbox b (.slice A2 c.dq.length c2) (.slice A3 c.ct.length c3) (.slice A4 c.dn.length c4) (.slice A5 c.rw.length c5)] (fun w' hh => Cl.sub [] [crbox g12 y1 y2 y3 y4, crbox g11 x1 x2 x3 x4, crbox g8 d0 k0 n0 r0, lcbox b (.slice A2 c.dq.length c2) (.slice A3 c.ct.length c3) (.slice A4 c.dn.length c4) (.slice A5 c.rw.length c5)] _ hh) mixed (by kernel_rfl) hH30 ?_
    clear hH30
    intro wq hH30 hC
    refine WM_p rfl rfl (fun _ => ov_move rfl) ?_
    refine WM_v rfl rfl hC (fun _ ⟨_, hH⟩ => ov_loadN [.slice A2 c.dq.length c2, .slice A3 c.ct.length c3, .slice A4 c.dn.length c4, .slice A5 c.rw.length c5] rfl agg_laws_Crew rfl ((loadLC (i := 4) rfl hH))) ?_
    refine WM_p rfl rfl (fun _ => ov_move rfl) ?_
    refine WM_fork 1 9 0 0 [] [(1, 2), (3, 3), (5, 3), (6, 1), (7, 1), (8, 1), (10, 3), (11, 1)] 8 0 #[true, true, true, false, true, false, false, false, false, false, false, false] #[true, true, true, true, true, true, true, true, true, true, true, true] (by kernel_rfl) ?_ ?_
    · skip
      refine WM_e rfl ?_
      refine WL_call rfl rfl cf_laws_toNodeS (toNodeS_ok hH30 ((hP.mono leA).mono (GH.Le.refl hA)) hl0 hl2) ?_; rintro yv1 wa1 ⟨Oa1, Ia1, hOa1, hKa1⟩; obtain ⟨gh1, hg1, hK1, hPa, _⟩ := hOa1.freeze hKa1
      replace hC : Cl _ _ _ := Cl.sub [] [crbox g12 y1 y2 y3 y4, crbox g11 x1 x2 x3 x4, crbox g8 d0 k0 n0 r0, lcbox b (.slice A2 c.dq.length c2) (.slice A3 c.ct.length c3) (.slice A4 c.dn.length c4) (.slice A5 c.rw.length c5)] _ (hK1.weak hg1)
      refine WL_mix (fun _ => hC) ?_
      refine WM_fork 3 9 1 0 [] [(3, 3), (5, 3), (6, 1), (7, 1), (8, 1), (10, 3), (11, 1)] 7 0 #[true, true, true, true, true, false, false, false, false, false, false, false] #[true, true, true, true, true, true, true, true, true, true, true, true] (by kernel_rfl) ?_ ?_
      · skip
        refine WM_e rfl ?_
        refine WL_call rfl rfl cf_laws_toCrew (toCrew_ok hK1 ((hCi.mono leA).mono ((GH.Le.refl hA).trans hg1)) hsz) ?_; rintro _ wa2 ⟨Ca, Na, Da, Ra, Dsa, Rsa, oa1, oa2, oa3, oa4, rfl, hOb, hKa2⟩; obtain ⟨gh2, hg2, hK2, hRa⟩ := hOb.freeze hKa2
        refine WL_mix (fun h => absurd rfl h) ?_
        refine WM_fork 5 9 1 0 [(6, 1), (7, 1), (8, 1), (9, 2), (10, 3), (11, 1)] [(5, 3), (6, 1), (7, 1), (8, 1), (10, 3), (11, 1)] 0 0 #[true, true, true, true, true, true, true, true, true, true, true, true] #[true, true, true, true, true, true, true, true, true, true, true, true] (by kernel_rfl) ?_ ?_
        · skip
          refine WM_e rfl ?_
          refine WL_call rfl rfl cf_impl_LoseWorker (loseWorker_any hK2 (hPa.mono hg2) hlim (hRa _) a) ?_; rintro _ wa3 ⟨dz, kz, nz, rz, rfl, Cb, Nb, Db, Rb, Dsb, Rsb, hOc, hKa3⟩; obtain ⟨gh3, hg3, hK3, hRz⟩ := hOc.freeze hKa3
          refine WL_mix (fun h => absurd rfl h) ?_
          refine WM_p rfl rfl (fun _ => ov_move rfl) ?_
          refine WM_p rfl rfl (fun _ => ov_extract rfl rfl) ?_
          refine WM_p rfl rfl (fun _ => ov_extract rfl rfl) ?_
          refine WM_e rfl ?_
          refine WL_alloc _ rfl hK3 zero_crew rfl ?_; rintro g9 wa4 hK4
          replace hC : Cl _ _ _ := Cl.sub [cz9 g9] [crbox g12 y1 y2 y3 y4, crbox g11 x1 x2 x3 x4, crbox g8 d0 k0 n0 r0, lcbox b (.slice A2 c.dq.length c2) (.slice A3 c.ct.length c3) (.slice A4 c.dn.length c4) (.slice A5 c.rw.length c5)] _ (hK4.weak (hg1.trans (hg2.trans hg3)))
          refine WL_mix (fun _ => hC) ?_
          refine WM_e rfl ?_
          refine WL_storeN hK4 rfl rfl (i := 0) rfl rfl rfl (ones_cons (hRz []).dq.sl.one (ones_cons (hRz []).ct.sl.one (ones_cons (hRz []).dn.sl.one (ones_cons (hRz []).rw.sl.one ones_nil)))) sz_impl_Crew ?_; rintro wa5 hK5
          refine WL_mix (fun h => absurd rfl h) ?_
          refine WM_p rfl rfl (fun _ => ov_assign rfl) ?_
          refine WM_fin (by kernel_rfl) ?_
          exact joined (gh3, g9, dz, kz, nz, rz) _ _ (by repeat (first | exact trivial | refine ⟨rfl, ?_⟩)) ⟨((GH.Le.refl hA).trans (hg1.trans (hg2.trans hg3))), hRz, hK5, by first | exact hKt | trivial⟩
        refine WM_e rfl ?_
        refine WL_alloc _ rfl hK2 zero_crew rfl ?_; rintro g9 wa3 hK3
        replace hC : Cl _ _ _ := Cl.sub [cz9 g9] [crbox g12 y1 y2 y3 y4, crbox g11 x1 x2 x3 x4, crbox g8 d0 k0 n0 r0, lcbox b (.slice A2 c.dq.length c2) (.slice A3 c.ct.length c3) (.slice A4 c.dn.length c4) (.slice A5 c.rw.length c5)] _ (hK3.weak (hg1.trans hg2))
        refine WL_mix (fun _ => hC) ?_
        refine WM_e rfl ?_
        refine WL_call rfl rfl cf_impl_LoseWorker (loseWorker_any hK3 (hPa.mono hg2) hlim (hRa _) a) ?_; rintro _ wa4 ⟨dz, kz, nz, rz, rfl, Cb, Nb, Db, Rb, Dsb, Rsb, hOc, hKa4⟩; obtain ⟨gh3, hg3, hK4, hRz⟩ := hOc.freeze hKa4
        refine WL_mix (fun h => absurd rfl h) ?_
        refine WM_p rfl rfl (fun _ => ov_move rfl) ?_
        refine WM_p rfl rfl (fun _ => ov_extract rfl rfl) ?_
        refine WM_p rfl rfl (fun _ => ov_extract rfl rfl) ?_
        refine WM_e rfl ?_
        refine WL_storeN hK4 rfl rfl (i := 0) rfl rfl rfl (ones_cons (hRz []).dq.sl.one (ones_cons (hRz []).ct.sl.one (ones_cons (hRz []).dn.sl.one (ones_cons (hRz []).rw.sl.one ones_nil)))) sz_impl_Crew ?_; rintro wa5 hK5
        refine WL_mix (fun h => absurd rfl h) ?_
        refine WM_p rfl rfl (fun _ => ov_assign rfl) ?_
        refine WM_fin (by kernel_rfl) ?_
        exact joined (gh3, g9, dz, kz, nz, rz) _ _ (by repeat (first | exact trivial | refine ⟨rfl, ?_⟩)) ⟨((GH.Le.refl hA).trans (hg1.trans (hg2.trans hg3))), hRz, hK5, by first | exact hKt | trivial⟩
      refine WM_e rfl ?_
      refine WL_alloc _ rfl hK1 zero_crew rfl ?_; rintro g9 wa2 hK2
      replace hC : Cl _ _ _ := Cl.sub [cz9 g9] [crbox g12 y1 y2 y3 y4, crbox g11 x1 x2 x3 x4, crbox g8 d0 k0 n0 r0, lcbox b (.slice A2 c.dq.length c2) (.slice A3 c.ct.length c3) (.slice A4 c.dn.length c4) (.slice A5 c.rw.length c5)] _ (hK2.weak hg1)
      refine WL_mix (fun _ => hC) ?_
      refine WM_e rfl ?_
      refine WL_call rfl rfl cf_laws_toCrew (toCrew_ok hK2 ((hCi.mono leA).mono ((GH.Le.refl hA).trans hg1)) hsz) ?_; rintro _ wa3 ⟨Ca, Na, Da, Ra, Dsa, Rsa, oa1, oa2, oa3, oa4, rfl, hOb, hKa3⟩; obtain ⟨gh2, hg2, hK3, hRa⟩ := hOb.freeze hKa3
      refine WL_mix (fun h => absurd rfl h) ?_
      refine WM_e rfl ?_
      refine WL_call rfl rfl cf_impl_LoseWorker (loseWorker_any hK3 (hPa.mono hg2) hlim (hRa _) a) ?_; rintro _ wa4 ⟨dz, kz, nz, rz, rfl, Cb, Nb, Db, Rb, Dsb, Rsb, hOc, hKa4⟩; obtain ⟨gh3, hg3, hK4, hRz⟩ := hOc.freeze hKa4
      refine WL_mix (fun h => absurd rfl h) ?_
      refine WM_p rfl rfl (fun _ => ov_move rfl) ?_
      refine WM_p rfl rfl (fun _ => ov_extract rfl rfl) ?_
      refine WM_p rfl rfl (fun _ => ov_extract rfl rfl) ?_
      refine WM_e rfl ?_
      refine WL_storeN hK4 rfl rfl (i := 0) rfl rfl rfl (ones_cons (hRz []).dq.sl.one (ones_cons (hRz []).ct.sl.one (ones_cons (hRz []).dn.sl.one (ones_cons (hRz []).rw.sl.one ones_nil)))) sz_impl_Crew ?_; rintro wa5 hK5
      refine WL_mix (fun h => absurd rfl h) ?_
      refine WM_p rfl rfl (fun _ => ov_assign rfl) ?_
      refine WM_fin (by kernel_rfl) ?_
      exact joined (gh3, g9, dz, kz, nz, rz) _ _ (by repeat (first | exact trivial | refine ⟨rfl, ?_⟩)) ⟨((GH.Le.refl hA).trans (hg1.trans (hg2.trans hg3))), hRz, hK5, by first | exact hKt | trivial⟩
    refine WM_e rfl ?_
    refine WL_alloc _ rfl hH30 zero_crew rfl ?_; rintro g9 wa1 hK1
    replace hC : Cl _ _ _ := Cl.sub [cz9 g9] [crbox g12 y1 y2 y3 y4, crbox g11 x1 x2 x3 x4, crbox g8 d0 k0 n0 r0, lcbox b (.slice A2 c.dq.length c2) (.slice A3 c.ct.length c3) (.slice A4 c.dn.length c4) (.slice A5 c.rw.length c5)] _ hK1
    refine WL_mix (fun _ => hC) ?_
    refine WM_e rfl ?_
    refine WL_call rfl rfl cf_laws_toNodeS (toNodeS_ok hK1 ((hP.mono leA).mono (GH.Le.refl hA)) hl0 hl2) ?_; rintro yv2 wa2 ⟨Oa2, Ia2, hOa2, hKa2⟩; obtain ⟨gh1, hg1, hK2, hPa, _⟩ := hOa2.freeze hKa2
    replace hC : Cl _ _ _ := Cl.sub [cz9 g9] [crbox g12 y1 y2 y3 y4, crbox g11 x1 x2 x3 x4, crbox g8 d0 k0 n0 r0, lcbox b (.slice A2 c.dq.length c2) (.slice A3 c.ct.length c3) (.slice A4 c.dn.length c4) (.slice A5 c.rw.length c5)] _ (hK2.weak hg1)
    refine WL_mix (fun _ => hC) ?_
    refine WM_e rfl ?_
    refine WL_call rfl rfl cf_laws_toCrew (toCrew_ok hK2 ((hCi.mono leA).mono ((GH.Le.refl hA).trans hg1)) hsz) ?_; rintro _ wa3 ⟨Ca, Na, Da, Ra, Dsa, Rsa, oa1, oa2, oa3, oa4, rfl, hOb, hKa3⟩; obtain ⟨gh2, hg2, hK3, hRa⟩ := hOb.freeze hKa3
    refine WL_mix (fun h => absurd rfl h) ?_
    refine WM_e rfl ?_
    refine WL_call rfl rfl cf_impl_LoseWorker (loseWorker_any hK3 (hPa.mono hg2) hlim (hRa _) a) ?_; rintro _ wa4 ⟨dz, kz, nz, rz, rfl, Cb, Nb, Db, Rb, Dsb, Rsb, hOc, hKa4⟩; obtain ⟨gh3, hg3, hK4, hRz⟩ := hOc.freeze hKa4
    refine WL_mix (fun h => absurd rfl h) ?_
    refine WM_p rfl rfl (fun _ => ov_move rfl) ?_
    refine WM_p rfl rfl (fun _ => ov_extract rfl rfl) ?_
    refine WM_p rfl rfl (fun _ => ov_extract rfl rfl) ?_
    refine WM_e rfl ?_
    refine WL_storeN hK4 rfl rfl (i := 0) rfl rfl rfl (ones_cons (hRz []).dq.sl.one (ones_cons (hRz []).ct.sl.one (ones_cons (hRz []).dn.sl.one (ones_cons (hRz []).rw.sl.one ones_nil)))) sz_impl_Crew ?_; rintro wa5 hK5
    refine WL_mix (fun h => absurd rfl h) ?_
    refine WM_p rfl rfl (fun _ => ov_assign rfl) ?_
    refine WM_fin (by kernel_rfl) ?_
    exact joined (gh3, g9, dz, kz, nz, rz) _ _ (by repeat (first | exact trivial | refine ⟨rfl, ?_⟩)) ⟨((GH.Le.refl hA).trans (hg1.trans (hg2.trans hg3))), hRz, hK5, by first | exact hKt | trivial⟩
  clear hH30
  rintro ⟨hE, g17, z1, z2, z3, z4⟩ w24 ⟨leE, hRz, hH, _⟩
  simp only at hRz hH
  refine WT_seq ?_
  refine WT_seq ?_
  refine WT_region ?_
  refine WL_v rfl (ov_loadN [z1, z2, z3, z4] rfl agg_impl_Crew rfl ((loadCrew (i := 0) rfl hH))) ?_
  refine WL_v rfl (ov_loadN [d0, k0, n0, r0] rfl agg_impl_Crew rfl ((loadCrew (i := 3) rfl hH))) ?_
  refine WL_call rfl rfl cf_laws_eqCrew (eqCrew_same hH (fun Ms => hRz _) (fun Ms => (hR0 _).mono leE)) ?_; rintro _ w25 ⟨rfl, hH31⟩
  refine WL_v rfl (ov_F (ov_not rfl) (by first | exact decide_eq_false rfl | exact nb_F rfl | exact mb_F rfl | exact rfl | (simp only [decide_eq_false_iff_not]; omega) | simpa using rfl)) ?_
  refine WL_v rfl (ov_move rfl) ?_
  refine WL_guardOn rfl rfl ?_
  refine WL_v rfl (ov_move rfl) ?_
  refine WL_guardOn rfl rfl ?_
  refine WL_v rfl (ov_move rfl) ?_
  refine WL_guardOn rfl rfl ?_
  refine WL_v rfl (ov_F (ov_neqB rfl rfl Tryz.underlying4) (by simp)) ?_
  refine WL_v rfl (ov_pickF rfl rfl) ?_
  refine WL_nil ?_
  refine WT_condF rfl ?_
  refine WT_skip ?_
  refine WT_seq ?_
  refine WT_region ?_
  refine WL_v rfl (ov_assign rfl) ?_
  refine WL_nil ?_
  refine WT_seq ?_
  refine WT_region ?_
  refine WL_v rfl (ov_loadN [y1, y2, y3, y4] rfl agg_impl_Crew rfl ((loadCrew (i := 1) rfl hH31))) ?_
  refine WL_v rfl (ov_move rfl) ?_
  refine WL_call rfl rfl cf_laws_heldCrew (heldCrew_ok hH31 (fun Ms => by simpa using hRm hE (Ms ++ [crbox g17 z1 z2 z3 z4])) hls (show (0 : Int) ≤ 1 ∧ (1 : Int) ≤ 100000000000000 by omega)) ?_; rintro _ w26 ⟨rfl, hH32⟩
  refine WL_v rfl (ov_assign rfl) ?_
  refine WL_nil ?_
  refine WT_seq ?_
  refine WT_seq ?_
  refine WT_region ?_
  refine WL_v rfl (ov_move rfl) ?_
  refine WL_v rfl (ov_F (ov_lss rfl rfl) (decide_eq_false (by omega))) ?_
  refine WL_nil ?_
  refine WT_condF rfl ?_
  refine WT_skip ?_
  refine WT_seq ?_
  refine WT_seq ?_
  refine WT_region ?_
  refine WL_v rfl (ov_move rfl) ?_
  refine WL_v rfl (ov_move rfl) ?_
  refine WL_v rfl (ov_F (ov_neq rfl rfl) (by simp)) ?_
  refine WL_nil ?_
  refine WT_condF rfl ?_
  refine WT_skip ?_
  refine WT_seq ?_
  refine WT_region ?_
  refine WL_v rfl (ov_assign rfl) ?_
  refine WL_nil ?_
  exact WT_ret1 Tryz.func5 Tryz.results5 rfl ⟨rfl, H.drops (crbox g17 z1 z2 z3 z4 :: crbox g12 y1 y2 y3 y4 :: crbox g11 x1 x2 x3 x4 :: crbox g8 d0 k0 n0 r0 :: lcbox b (.slice A2 c.dq.length c2) (.slice A3 c.ct.length c3) (.slice A4 c.dn.length c4) (.slice A5 c.rw.length c5) :: (C5 :: N5 :: D5 :: R5 :: (Ds5 ++ Rs5))) (by simpa using hH32.weak (leA.trans leE))⟩
end
end Go.Proofs.YteagnhdhafiofaaGreat
