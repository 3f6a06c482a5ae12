/- The laws LoseWorker and LoseWorkerNext: their walks. -/
import Derived.Test.YteagnhdhafiofaaGreatBg7
namespace Go.Proofs.YteagnhdhafiofaaGreat
open Go.RowKit

section
variable {h : GH} {Ls : List Heaplet} {w : World}

theorem RdL.mono {h' : GH} {v : Value} {xs : List Int} (hA : RdL h Ls v xs) (hle : h.Le h') : RdL h' Ls v xs := ⟨hA.sl, fun hH _ hj => hA.cell (hH.weak hle) hj⟩
theorem RdLL.mono {h' : GH} {v : Value} {ls : List (List Int)} (hA : RdLL h Ls v ls) (hle : h.Le h') : RdLL h' Ls v ls := ⟨hA.sl, fun hi => by
  obtain ⟨u, h1, h2⟩ := hA.at_ hi
  exact ⟨u, h1.mono hle, fun hH => h2 (hH.weak hle)⟩⟩
theorem RdCr.mono {h' : GH} {dv cv nv rv : Value} {c : Cr} (hC : RdCr h Ls dv cv nv rv c) (hle : h.Le h') : RdCr h' Ls dv cv nv rv c := ⟨hC.dq.mono hle, hC.ct.mono hle, hC.dn.mono hle, hC.rw.mono hle⟩
theorem RdCr.nils (h : GH) (Ls : List Heaplet) : RdCr h Ls nilV nilV nilV nilV ⟨[], [], [], []⟩ :=
  ⟨⟨⟨by simp, none, 0, rfl, by simp, by simp, by simp⟩, fun hi => by simp at hi⟩, (Ints.nil h).rdl _, (Ints.nil h).rdl _, ⟨⟨by simp, none, 0, rfl, by simp, by simp, by simp⟩, fun hi => by simp at hi⟩⟩

theorem drawLose_ok (hH : H w h Ls) {xv : Value} {bs : List Int} (hB : Bytes h xv bs) : Rets Tryz.prog 11 #[xv] w fun v w' => ∃ pv dv cv nv rv a, v = .tuple #[pv, crV dv cv nv rv, .int .i64 a] ∧ -1 ≤ a ∧ a ≤ 100 ∧ DrewCr h Ls pv dv cv nv rv w' := by
  refine rets_enter Tryz.func11 rfl Tryz.ntmps11 (by simp) ?_
  refine WT_seq ?_
  refine WT_region ?_
  refine WL_v rfl (ov_assign rfl) ?_
  refine WL_alloc _ rfl hH zero_crew rfl ?_; rintro g3 w1 hH1
  refine WL_v rfl (ov_assign rfl) ?_
  refine WL_nil ?_
  refine WT_seq ?_
  refine WT_region ?_
  refine WL_v rfl (ov_move rfl) ?_
  refine WL_call rfl rfl cf_spec_l6Open (l6Open_ok hH1 hB) ?_; rintro _ w2 ⟨g, bv, bs', rfl, hB2, hH2⟩
  refine WL_call rfl rfl cf_spec_l92Worker (l92Worker_ok hH2 hB2) ?_; rintro _ w3 ⟨pv, dv, cv, nv, rv, a, rfl, ha1, ha2, h', p, c, hle, hP, hpl, hR, hlim, hH3⟩
  refine WL_v rfl (ov_extract rfl rfl) ?_
  refine WL_v rfl (ov_extract rfl rfl) ?_
  refine WL_v rfl (ov_extract rfl rfl) ?_
  refine WL_v rfl (ov_assign rfl) ?_
  refine WL_storeN hH3 rfl rfl (i := 0) rfl rfl rfl (ones_cons (hR []).dq.sl.one (ones_cons (hR []).ct.sl.one (ones_cons (hR []).dn.sl.one (ones_cons (hR []).rw.sl.one ones_nil)))) sz_impl_Crew ?_; rintro w4 hH4
  refine WL_v rfl (ov_assign rfl) ?_
  refine WL_nil ?_
  exact WT_retTCT Tryz.func11 Tryz.results11 rfl rfl rfl (lvCrew (i := 0) (dv := dv) (cv := cv) (nv := nv) (rv := rv) rfl hH4) ⟨pv, dv, cv, nv, rv, a, rfl, ha1, ha2, h', p, c, hle, hP, hpl, hR, hlim, hH4.drop⟩

set_option maxHeartbeats 1000000 in
theorem fnLoseWorker_walk (hH : H w h Ls) {xv : Value} {bs : List Int} (hB : Bytes h xv bs) : Rets Tryz.prog 3 #[xv] w fun v w' => v = .bool true ∧ H w' h Ls := by
  refine rets_enter Tryz.func3 rfl Tryz.ntmps3 (by simp) ?_
  refine WT_seq ?_
  refine WT_region ?_
  refine WL_v rfl (ov_assign rfl) ?_
  refine WL_nil ?_
  refine WT_seq ?_
  refine WT_seq ?_
  refine WT_region ?_
  refine WL_v rfl (ov_move rfl) ?_
  refine WL_v rfl (ov_len rfl hB.sl st_sl_uint8) ?_
  refine WL_v rfl (ov_gtr rfl rfl) ?_
  refine WL_nil ?_
  refine WT_cond rfl (fun hl => ?_) (fun hl => ?_)
  · skip
    first | with_reducible replace hl := of_decide_eq_true hl | with_reducible replace hl := bn_T hl | with_reducible replace hl := bb_T hl | skip
    refine WT_seq ?_
    refine WT_region ?_
    refine WL_v rfl (ov_assign rfl) ?_
    refine WL_nil ?_
    exact WT_ret1 Tryz.func3 Tryz.results3 rfl ⟨rfl, hH⟩
  first | with_reducible replace hl := of_decide_eq_false hl | with_reducible replace hl := bn_F hl | with_reducible replace hl := bb_F hl | skip
  refine WT_skip ?_
  refine WT_seq ?_
  refine WT_region ?_
  refine WL_v rfl (ov_move rfl) ?_
  refine WL_call rfl rfl cf_spec_DrawLoseWorker (drawLose_ok hH hB) ?_; rintro _ w1 ⟨pv, dv, cv, nv, rv, a, rfl, ha1, ha2, h', p, c, hle, hP, hpl, hR, hlim, hH1⟩
  refine WL_v rfl (ov_move rfl) ?_
  refine WL_v rfl (ov_extract rfl rfl) ?_
  refine WL_v rfl (ov_extract rfl rfl) ?_
  refine WL_v rfl (ov_extract rfl rfl) ?_
  refine WL_alloc _ rfl hH1 zero_crew rfl ?_; rintro g4 w2 hH2
  refine WL_v rfl (ov_assign rfl) ?_
  refine WL_storeN hH2 rfl rfl (i := 0) rfl rfl rfl (ones_cons (hR []).dq.sl.one (ones_cons (hR []).ct.sl.one (ones_cons (hR []).dn.sl.one (ones_cons (hR []).rw.sl.one ones_nil)))) sz_impl_Crew ?_; rintro w3 hH3
  refine WL_v rfl (ov_assign rfl) ?_
  refine WL_nil ?_
  refine WT_seq ?_
  refine WT_region ?_
  refine WL_v rfl (ov_move rfl) ?_
  refine WL_v rfl (ov_loadN [dv, cv, nv, rv] rfl agg_impl_Crew rfl ((loadCrew (i := 0) rfl hH3))) ?_
  refine WL_v rfl (ov_move rfl) ?_
  clear hH hH1 hH2
  by_cases hb : crewOk p c = true ∧ 0 ≤ a ∧ a < (c.dq.length : Int) ∧ c.dq.length ≠ 1
  case neg =>
    refine WL_call rfl rfl cf_impl_LoseWorker (loseWorker_no hH3 hP hlim (hR _) hb) ?_; rintro _ w4 ⟨rfl, hH4⟩
    refine WL_v rfl (ov_move rfl) ?_
    refine WL_v rfl (ov_extract rfl rfl) ?_
    refine WL_v rfl (ov_extract rfl rfl) ?_
    refine WL_alloc _ rfl hH4 zero_crew rfl ?_; rintro g6 w5 hH5
    refine WL_storeN hH5 rfl rfl (i := 0) rfl rfl rfl (ones_cons rfl (ones_cons rfl (ones_cons rfl (ones_cons rfl ones_nil)))) sz_impl_Crew ?_; rintro w6 hH6
    refine WL_v rfl (ov_assign rfl) ?_
    refine WL_nil ?_
    refine WT_seq ?_
    refine WT_region ?_
    refine WL_v rfl (ov_move rfl) ?_
    refine WL_v rfl (ov_loadN [dv, cv, nv, rv] rfl agg_impl_Crew rfl ((loadCrew (i := 1) rfl hH6))) ?_
    refine WL_v rfl (ov_move rfl) ?_
    refine WL_call rfl rfl cf_spec_LoseWorker (sLoseWorker_no hH6 hP (by omega) hlim (hR _) hb) ?_; rintro _ w7 ⟨rfl, hH7⟩
    refine WL_v rfl (ov_move rfl) ?_
    refine WL_v rfl (ov_extract rfl rfl) ?_
    refine WL_v rfl (ov_extract rfl rfl) ?_
    refine WL_alloc _ rfl hH7 zero_crew rfl ?_; rintro g8 w8 hH8
    refine WL_storeN hH8 rfl rfl (i := 0) rfl rfl rfl (ones_cons rfl (ones_cons rfl (ones_cons rfl (ones_cons rfl ones_nil)))) sz_impl_Crew ?_; rintro w9 hH9
    refine WL_v rfl (ov_assign rfl) ?_
    refine WL_nil ?_
    refine WT_seq ?_
    refine WT_seq ?_
    refine WT_region ?_
    refine WL_v rfl (ov_move rfl) ?_
    refine WL_v rfl (ov_move rfl) ?_
    refine WL_v rfl (ov_F (ov_neqB rfl rfl Tryz.underlying4) (by simp)) ?_
    refine WL_v rfl (ov_move rfl) ?_
    refine WL_guardOn rfl rfl ?_
    refine WL_v rfl (ov_loadN [nilV, nilV, nilV, nilV] rfl agg_impl_Crew rfl ((loadCrew (i := 1) rfl hH9))) ?_
    refine WL_guardOn rfl rfl ?_
    refine WL_v rfl (ov_loadN [nilV, nilV, nilV, nilV] rfl agg_impl_Crew rfl ((loadCrew (i := 0) rfl hH9))) ?_
    refine WL_guardOn rfl rfl ?_
    refine WL_call rfl rfl cf_laws_sameCrew (sameCrew_same hH9 (fun _ => RdCr.nils _ _) (fun _ => RdCr.nils _ _)) ?_; rintro _ w10 ⟨rfl, hH10⟩
    refine WL_guardOn rfl rfl ?_
    refine WL_v rfl (ov_F (ov_not rfl) (by first | exact decide_eq_false rfl | exact nb_F rfl | exact mb_F rfl | exact rfl | (simp only [decide_eq_false_iff_not]; omega) | simpa using rfl)) ?_
    refine WL_v rfl (ov_pickF rfl rfl) ?_
    refine WL_v rfl (ov_move rfl) ?_
    refine WL_guardOn rfl rfl ?_
    refine WL_v rfl (ov_move rfl) ?_
    refine WL_guardOn rfl rfl ?_
    refine WL_v rfl (ov_T (ov_not rfl) (by first | exact decide_eq_true rfl | exact nb_T rfl | exact mb_T rfl | exact rfl | (simp only [decide_eq_true_eq]; omega) | simpa using rfl)) ?_
    refine WL_v rfl (ov_pickF rfl rfl) ?_
    refine WL_nil ?_
    refine WT_condT rfl ?_
    refine WT_seq ?_
    refine WT_region ?_
    refine WL_v rfl (ov_move rfl) ?_
    refine WL_v rfl (ov_move rfl) ?_
    refine WL_v rfl (ov_T (ov_eqlB rfl rfl Tryz.underlying4) (by simp)) ?_
    refine WL_v rfl (ov_move rfl) ?_
    refine WL_guardOn rfl rfl ?_
    refine WL_v rfl (ov_loadN [nilV, nilV, nilV, nilV] rfl agg_impl_Crew rfl ((loadCrew (i := 1) rfl hH10))) ?_
    refine WL_guardOn rfl rfl ?_
    refine WL_v rfl (ov_loadN [nilV, nilV, nilV, nilV] rfl agg_impl_Crew rfl ((loadCrew (i := 0) rfl hH10))) ?_
    refine WL_guardOn rfl rfl ?_
    refine WL_call rfl rfl cf_laws_sameCrew (sameCrew_same hH10 (fun _ => RdCr.nils _ _) (fun _ => RdCr.nils _ _)) ?_; rintro _ w11 ⟨rfl, hH11⟩
    refine WL_v rfl (ov_pickT rfl rfl) ?_
    refine WL_v rfl (ov_assign rfl) ?_
    refine WL_nil ?_
    exact WT_ret1 Tryz.func3 Tryz.results3 rfl ⟨rfl, hH11.drop.drop.drop.weak hle⟩
  obtain ⟨hcv, ha3, ha4, hn1⟩ := hb
  obtain ⟨k, rfl⟩ : ∃ k : Nat, a = (k : Int) := ⟨a.toNat, by omega⟩
  have hk : k < c.dq.length := by omega
  have hok := (crewOk_iff _ _).1 hcv
  have hok2 := lose_ok hok hk hn1
  have hlim2 := hok2.small.lim
  have hcv2 := (crewOk_iff _ _).2 hok2
  have hq4 := hok.dq
  refine WL_call rfl rfl cf_impl_LoseWorker (loseWorker_yes hH3 hP hlim (hR _) hcv hk hn1) ?_; rintro _ w4 ⟨dv2, cv2, nv2, rv2, rfl, C, N, D, R, Ds, Rs, hO, hH4⟩; obtain ⟨h1, hle1, hH5, hR1⟩ := hO.freeze hH4
  refine WL_v rfl (ov_move rfl) ?_
  refine WL_v rfl (ov_extract rfl rfl) ?_
  refine WL_v rfl (ov_extract rfl rfl) ?_
  refine WL_alloc _ rfl hH5 zero_crew rfl ?_; rintro g6 w5 hH6
  refine WL_storeN hH6 rfl rfl (i := 0) rfl rfl rfl (ones_cons (hR1 []).dq.sl.one (ones_cons (hR1 []).ct.sl.one (ones_cons (hR1 []).dn.sl.one (ones_cons (hR1 []).rw.sl.one ones_nil)))) sz_impl_Crew ?_; rintro w6 hH7
  refine WL_v rfl (ov_assign rfl) ?_
  refine WL_nil ?_
  refine WT_seq ?_
  refine WT_region ?_
  refine WL_v rfl (ov_move rfl) ?_
  refine WL_v rfl (ov_loadN [dv, cv, nv, rv] rfl agg_impl_Crew rfl ((loadCrew (i := 1) rfl hH7))) ?_
  refine WL_v rfl (ov_move rfl) ?_
  refine WL_call rfl rfl cf_spec_LoseWorker (sLoseWorker_yes hH7 (hP.mono hle1) (by omega) hlim ((hR _).mono hle1) hcv hk hn1) ?_; rintro _ w7 ⟨dv3, cv3, nv3, rv3, rfl, C3, N3, D3, R3, Ds3, Rs3, hO3, hH8⟩; obtain ⟨h2, hle2, hH9, hR2⟩ := hO3.freeze hH8
  refine WL_v rfl (ov_move rfl) ?_
  refine WL_v rfl (ov_extract rfl rfl) ?_
  refine WL_v rfl (ov_extract rfl rfl) ?_
  refine WL_alloc _ rfl hH9 zero_crew rfl ?_; rintro g8 w8 hH10
  refine WL_storeN hH10 rfl rfl (i := 0) rfl rfl rfl (ones_cons (hR2 []).dq.sl.one (ones_cons (hR2 []).ct.sl.one (ones_cons (hR2 []).dn.sl.one (ones_cons (hR2 []).rw.sl.one ones_nil)))) sz_impl_Crew ?_; rintro w9 hH11
  refine WL_v rfl (ov_assign rfl) ?_
  refine WL_nil ?_
  refine WT_seq ?_
  refine WT_seq ?_
  refine WT_region ?_
  refine WL_v rfl (ov_move rfl) ?_
  refine WL_v rfl (ov_move rfl) ?_
  refine WL_v rfl (ov_F (ov_neqB rfl rfl Tryz.underlying4) (by simp)) ?_
  refine WL_v rfl (ov_move rfl) ?_
  refine WL_guardOn rfl rfl ?_
  refine WL_v rfl (ov_loadN [dv2, cv2, nv2, rv2] rfl agg_impl_Crew rfl ((loadCrew (i := 1) rfl hH11))) ?_
  refine WL_guardOn rfl rfl ?_
  refine WL_v rfl (ov_loadN [dv3, cv3, nv3, rv3] rfl agg_impl_Crew rfl ((loadCrew (i := 0) rfl hH11))) ?_
  refine WL_guardOn rfl rfl ?_
  refine WL_call rfl rfl cf_laws_sameCrew (sameCrew_same hH11 (fun Ms => (hR1 _).mono hle2) (fun Ms => hR2 _)) ?_; rintro _ w10 ⟨rfl, hH12⟩
  refine WL_guardOn rfl rfl ?_
  refine WL_v rfl (ov_F (ov_not rfl) (by first | exact decide_eq_false rfl | exact nb_F rfl | exact mb_F rfl | exact rfl | (simp only [decide_eq_false_iff_not]; omega) | simpa using rfl)) ?_
  refine WL_v rfl (ov_pickF rfl rfl) ?_
  refine WL_v rfl (ov_move rfl) ?_
  refine WL_guardOn rfl rfl ?_
  refine WL_v rfl (ov_move rfl) ?_
  refine WL_guardOn rfl rfl ?_
  refine WL_v rfl (ov_F (ov_not rfl) (by first | exact decide_eq_false rfl | exact nb_F rfl | exact mb_F rfl | exact rfl | (simp only [decide_eq_false_iff_not]; omega) | simpa using rfl)) ?_
  refine WL_v rfl (ov_pickF rfl rfl) ?_
  refine WL_nil ?_
  refine WT_condF rfl ?_
  have hRc : ∀ Ms, RdCr h2 Ms dv cv nv rv c := fun Ms => ((hR Ms).mono hle1).mono hle2
  have hRl : ∀ Ms, RdCr h2 Ms dv2 cv2 nv2 rv2 (loseCr c k) := fun Ms => (hR1 Ms).mono hle2
  have hP2 : Plan h2 pv p := (hP.mono hle1).mono hle2
  have hll := loseL_len hk
  have hdl : (loseCr c k).dq.length = c.dq.length - 1 := hll
  clear hH3 hH4 hH5 hH6 hH7 hH8 hH9 hH10 hH11 hO hO3
  have hcvo := crewValid_ok hH12 hP2 hlim2 (hRl _)
  rw [hcv2] at hcvo
  have e1 := fun {w : World} {Ls : List Heaplet} (hH : H w h2 Ls) => sameRow_ok hH (hRl _).dn (hRc _).dn
  have e2 := fun {w : World} {Ls : List Heaplet} (hH : H w h2 Ls) => sameRows_ok hH (hRl _).rw (hRc _).rw
  have e3 := fun {w : World} {Ls : List Heaplet} (hH : H w h2 Ls) => sameRow_ok hH (hRl _).ct (hRc _).ct
  rw [show (loseCr c k).dn = c.dn from rfl, decide_eq_true rfl] at e1
  rw [show (loseCr c k).rw = c.rw from rfl, decide_eq_true rfl] at e2
  rw [show (loseCr c k).ct = c.ct from rfl, decide_eq_true rfl] at e3
  refine WT_skip ?_
  refine WT_seq ?_
  refine WT_region ?_
  refine WL_v rfl (ov_move rfl) ?_
  refine WL_v rfl (ov_loadN [dv2, cv2, nv2, rv2] rfl agg_impl_Crew rfl ((loadCrew (i := 1) rfl hH12))) ?_
  refine WL_call rfl rfl cf_impl_CrewValid (hcvo) ?_; rintro _ w11 ⟨rfl, hH13⟩
  refine WL_v rfl (ov_move rfl) ?_
  refine WL_guardOn rfl rfl ?_
  refine WL_v rfl (ov_field rfl fo_impl_Crew_0) ?_
  refine WL_guardOn rfl rfl ?_
  refine WL_v rfl (ov_load rfl one_sl_sl_int (hH13.cb 1 rfl 0)) ?_
  refine WL_guardOn rfl rfl ?_
  refine WL_v rfl (ov_len rfl (hRl []).dq.sl st_sl_sl_int) ?_
  refine WL_guardOn rfl rfl ?_
  refine WL_v rfl (ov_field rfl fo_impl_Crew_0) ?_
  refine WL_guardOn rfl rfl ?_
  refine WL_v rfl (ov_load rfl one_sl_sl_int (hH13.cb 2 rfl 0)) ?_
  refine WL_guardOn rfl rfl ?_
  refine WL_v rfl (ov_len rfl (hRc []).dq.sl st_sl_sl_int) ?_
  refine WL_guardOn rfl rfl ?_
  refine WL_v rfl (ov_sub rfl rfl (by omega)) ?_
  refine WL_guardOn rfl rfl ?_
  refine WL_v rfl (ov_T (ov_eql rfl rfl) (decide_eq_true (by omega))) ?_
  refine WL_v rfl (ov_pickT rfl rfl) ?_
  refine WL_v rfl (ov_move rfl) ?_
  refine WL_guardOn rfl rfl ?_
  refine WL_v rfl (ov_field rfl fo_impl_Crew_2) ?_
  refine WL_guardOn rfl rfl ?_
  refine WL_v rfl (ov_load rfl one_sl_int (hH13.cb 1 rfl 2)) ?_
  refine WL_guardOn rfl rfl ?_
  refine WL_v rfl (ov_field rfl fo_impl_Crew_2) ?_
  refine WL_guardOn rfl rfl ?_
  refine WL_v rfl (ov_load rfl one_sl_int (hH13.cb 2 rfl 2)) ?_
  refine WL_guardOn rfl rfl ?_
  refine WL_call rfl rfl cf_laws_sameRow (e1 hH13) ?_; rintro _ w12 ⟨rfl, hH14⟩
  refine WL_v rfl (ov_pickT rfl rfl) ?_
  refine WL_v rfl (ov_move rfl) ?_
  refine WL_guardOn rfl rfl ?_
  refine WL_v rfl (ov_field rfl fo_impl_Crew_3) ?_
  refine WL_guardOn rfl rfl ?_
  refine WL_v rfl (ov_load rfl one_sl_sl_int (hH14.cb 1 rfl 3)) ?_
  refine WL_guardOn rfl rfl ?_
  refine WL_v rfl (ov_field rfl fo_impl_Crew_3) ?_
  refine WL_guardOn rfl rfl ?_
  refine WL_v rfl (ov_load rfl one_sl_sl_int (hH14.cb 2 rfl 3)) ?_
  refine WL_guardOn rfl rfl ?_
  refine WL_call rfl rfl cf_laws_sameRows (e2 hH14) ?_; rintro _ w13 ⟨rfl, hH15⟩
  refine WL_v rfl (ov_pickT rfl rfl) ?_
  refine WL_v rfl (ov_move rfl) ?_
  refine WL_guardOn rfl rfl ?_
  refine WL_v rfl (ov_field rfl fo_impl_Crew_1) ?_
  refine WL_guardOn rfl rfl ?_
  refine WL_v rfl (ov_load rfl one_sl_int (hH15.cb 1 rfl 1)) ?_
  refine WL_guardOn rfl rfl ?_
  refine WL_v rfl (ov_field rfl fo_impl_Crew_1) ?_
  refine WL_guardOn rfl rfl ?_
  refine WL_v rfl (ov_load rfl one_sl_int (hH15.cb 2 rfl 1)) ?_
  refine WL_guardOn rfl rfl ?_
  refine WL_call rfl rfl cf_laws_sameRow (e3 hH15) ?_; rintro _ w14 ⟨rfl, hH16⟩
  refine WL_v rfl (ov_pickT rfl rfl) ?_
  refine WL_v rfl (ov_assign rfl) ?_
  refine WL_nil ?_
  exact WT_ret1 Tryz.func3 Tryz.results3 rfl ⟨rfl, hH16.drop.drop.drop.weak (hle.trans (hle1.trans hle2))⟩

set_option maxHeartbeats 1000000 in
theorem fnLoseWorkerNext_walk (hH : H w h Ls) {xv : Value} {bs : List Int} (hB : Bytes h xv bs) : Rets Tryz.prog 4 #[xv] w fun v w' => v = .bool true ∧ H w' h Ls := by
  refine rets_enter Tryz.func4 rfl Tryz.ntmps4 (by simp) ?_
  refine WT_seq ?_
  refine WT_region ?_
  refine WL_v rfl (ov_assign rfl) ?_
  refine WL_nil ?_
  refine WT_seq ?_
  refine WT_seq ?_
  refine WT_region ?_
  refine WL_v rfl (ov_move rfl) ?_
  refine WL_v rfl (ov_len rfl hB.sl st_sl_uint8) ?_
  refine WL_v rfl (ov_gtr rfl rfl) ?_
  refine WL_nil ?_
  refine WT_cond rfl (fun hl => ?_) (fun hl => ?_)
  · skip
    first | with_reducible replace hl := of_decide_eq_true hl | with_reducible replace hl := bn_T hl | with_reducible replace hl := bb_T hl | skip
    refine WT_seq ?_
    refine WT_region ?_
    refine WL_v rfl (ov_assign rfl) ?_
    refine WL_nil ?_
    exact WT_ret1 Tryz.func4 Tryz.results4 rfl ⟨rfl, hH⟩
  first | with_reducible replace hl := of_decide_eq_false hl | with_reducible replace hl := bn_F hl | with_reducible replace hl := bb_F hl | skip
  refine WT_skip ?_
  refine WT_seq ?_
  refine WT_region ?_
  refine WL_v rfl (ov_move rfl) ?_
  refine WL_call rfl rfl cf_spec_DrawLoseWorker (drawLose_ok hH hB) ?_; rintro _ w1 ⟨pv, dv, cv, nv, rv, a, rfl, ha1, ha2, h', p, c, hle, hP, hpl, hR, hlim, hH1⟩
  refine WL_v rfl (ov_move rfl) ?_
  refine WL_v rfl (ov_extract rfl rfl) ?_
  refine WL_v rfl (ov_extract rfl rfl) ?_
  refine WL_v rfl (ov_extract rfl rfl) ?_
  refine WL_alloc _ rfl hH1 zero_crew rfl ?_; rintro g4 w2 hH2
  refine WL_v rfl (ov_assign rfl) ?_
  refine WL_storeN hH2 rfl rfl (i := 0) rfl rfl rfl (ones_cons (hR []).dq.sl.one (ones_cons (hR []).ct.sl.one (ones_cons (hR []).dn.sl.one (ones_cons (hR []).rw.sl.one ones_nil)))) sz_impl_Crew ?_; rintro w3 hH3
  refine WL_v rfl (ov_assign rfl) ?_
  refine WL_nil ?_
  refine WT_seq ?_
  refine WT_region ?_
  refine WL_v rfl (ov_move rfl) ?_
  refine WL_v rfl (ov_loadN [dv, cv, nv, rv] rfl agg_impl_Crew rfl ((loadCrew (i := 0) rfl hH3))) ?_
  refine WL_v rfl (ov_move rfl) ?_
  clear hH hH1 hH2
  by_cases hb : crewOk p c = true ∧ 0 ≤ a ∧ a < (c.dq.length : Int) ∧ c.dq.length ≠ 1
  case neg =>
    refine WL_call rfl rfl cf_impl_LoseWorker (loseWorker_no hH3 hP hlim (hR _) hb) ?_; rintro _ w4 ⟨rfl, hH4⟩
    refine WL_v rfl (ov_move rfl) ?_
    refine WL_v rfl (ov_extract rfl rfl) ?_
    refine WL_v rfl (ov_extract rfl rfl) ?_
    refine WL_alloc _ rfl hH4 zero_crew rfl ?_; rintro g6 w5 hH5
    refine WL_storeN hH5 rfl rfl (i := 0) rfl rfl rfl (ones_cons rfl (ones_cons rfl (ones_cons rfl (ones_cons rfl ones_nil)))) sz_impl_Crew ?_; rintro w6 hH6
    refine WL_v rfl (ov_assign rfl) ?_
    refine WL_nil ?_
    refine WT_seq ?_
    refine WT_region ?_
    refine WL_v rfl (ov_move rfl) ?_
    refine WL_v rfl (ov_loadN [dv, cv, nv, rv] rfl agg_impl_Crew rfl ((loadCrew (i := 1) rfl hH6))) ?_
    refine WL_v rfl (ov_move rfl) ?_
    refine WL_call rfl rfl cf_spec_LoseWorker (sLoseWorker_no hH6 hP (by omega) hlim (hR _) hb) ?_; rintro _ w7 ⟨rfl, hH7⟩
    refine WL_v rfl (ov_move rfl) ?_
    refine WL_v rfl (ov_extract rfl rfl) ?_
    refine WL_v rfl (ov_extract rfl rfl) ?_
    refine WL_alloc _ rfl hH7 zero_crew rfl ?_; rintro g8 w8 hH8
    refine WL_storeN hH8 rfl rfl (i := 0) rfl rfl rfl (ones_cons rfl (ones_cons rfl (ones_cons rfl (ones_cons rfl ones_nil)))) sz_impl_Crew ?_; rintro w9 hH9
    refine WL_v rfl (ov_assign rfl) ?_
    refine WL_nil ?_
    refine WT_seq ?_
    refine WT_seq ?_
    refine WT_region ?_
    refine WL_v rfl (ov_move rfl) ?_
    refine WL_v rfl (ov_move rfl) ?_
    refine WL_v rfl (ov_F (ov_neqB rfl rfl Tryz.underlying4) (by simp)) ?_
    refine WL_v rfl (ov_move rfl) ?_
    refine WL_guardOn rfl rfl ?_
    refine WL_v rfl (ov_loadN [nilV, nilV, nilV, nilV] rfl agg_impl_Crew rfl ((loadCrew (i := 1) rfl hH9))) ?_
    refine WL_guardOn rfl rfl ?_
    refine WL_v rfl (ov_loadN [nilV, nilV, nilV, nilV] rfl agg_impl_Crew rfl ((loadCrew (i := 0) rfl hH9))) ?_
    refine WL_guardOn rfl rfl ?_
    refine WL_call rfl rfl cf_laws_sameCrew (sameCrew_same hH9 (fun _ => RdCr.nils _ _) (fun _ => RdCr.nils _ _)) ?_; rintro _ w10 ⟨rfl, hH10⟩
    refine WL_guardOn rfl rfl ?_
    refine WL_v rfl (ov_F (ov_not rfl) (by first | exact decide_eq_false rfl | exact nb_F rfl | exact mb_F rfl | exact rfl | (simp only [decide_eq_false_iff_not]; omega) | simpa using rfl)) ?_
    refine WL_v rfl (ov_pickF rfl rfl) ?_
    refine WL_v rfl (ov_move rfl) ?_
    refine WL_guardOn rfl rfl ?_
    refine WL_v rfl (ov_move rfl) ?_
    refine WL_guardOn rfl rfl ?_
    refine WL_v rfl (ov_T (ov_not rfl) (by first | exact decide_eq_true rfl | exact nb_T rfl | exact mb_T rfl | exact rfl | (simp only [decide_eq_true_eq]; omega) | simpa using rfl)) ?_
    refine WL_v rfl (ov_pickF rfl rfl) ?_
    refine WL_nil ?_
    refine WT_condT rfl ?_
    refine WT_seq ?_
    refine WT_region ?_
    refine WL_v rfl (ov_move rfl) ?_
    refine WL_v rfl (ov_move rfl) ?_
    refine WL_v rfl (ov_T (ov_eqlB rfl rfl Tryz.underlying4) (by simp)) ?_
    refine WL_v rfl (ov_move rfl) ?_
    refine WL_guardOn rfl rfl ?_
    refine WL_v rfl (ov_loadN [nilV, nilV, nilV, nilV] rfl agg_impl_Crew rfl ((loadCrew (i := 1) rfl hH10))) ?_
    refine WL_guardOn rfl rfl ?_
    refine WL_v rfl (ov_loadN [nilV, nilV, nilV, nilV] rfl agg_impl_Crew rfl ((loadCrew (i := 0) rfl hH10))) ?_
    refine WL_guardOn rfl rfl ?_
    refine WL_call rfl rfl cf_laws_sameCrew (sameCrew_same hH10 (fun _ => RdCr.nils _ _) (fun _ => RdCr.nils _ _)) ?_; rintro _ w11 ⟨rfl, hH11⟩
    refine WL_v rfl (ov_pickT rfl rfl) ?_
    refine WL_v rfl (ov_assign rfl) ?_
    refine WL_nil ?_
    exact WT_ret1 Tryz.func4 Tryz.results4 rfl ⟨rfl, hH11.drop.drop.drop.weak hle⟩
  obtain ⟨hcv, ha3, ha4, hn1⟩ := hb
  obtain ⟨k, rfl⟩ : ∃ k : Nat, a = (k : Int) := ⟨a.toNat, by omega⟩
  have hk : k < c.dq.length := by omega
  have hok := (crewOk_iff _ _).1 hcv
  have hok2 := lose_ok hok hk hn1
  have hlim2 := hok2.small.lim
  have hcv2 := (crewOk_iff _ _).2 hok2
  have hq4 := hok.dq
  refine WL_call rfl rfl cf_impl_LoseWorker (loseWorker_yes hH3 hP hlim (hR _) hcv hk hn1) ?_; rintro _ w4 ⟨dv2, cv2, nv2, rv2, rfl, C, N, D, R, Ds, Rs, hO, hH4⟩; obtain ⟨h1, hle1, hH5, hR1⟩ := hO.freeze hH4
  refine WL_v rfl (ov_move rfl) ?_
  refine WL_v rfl (ov_extract rfl rfl) ?_
  refine WL_v rfl (ov_extract rfl rfl) ?_
  refine WL_alloc _ rfl hH5 zero_crew rfl ?_; rintro g6 w5 hH6
  refine WL_storeN hH6 rfl rfl (i := 0) rfl rfl rfl (ones_cons (hR1 []).dq.sl.one (ones_cons (hR1 []).ct.sl.one (ones_cons (hR1 []).dn.sl.one (ones_cons (hR1 []).rw.sl.one ones_nil)))) sz_impl_Crew ?_; rintro w6 hH7
  refine WL_v rfl (ov_assign rfl) ?_
  refine WL_nil ?_
  refine WT_seq ?_
  refine WT_region ?_
  refine WL_v rfl (ov_move rfl) ?_
  refine WL_v rfl (ov_loadN [dv, cv, nv, rv] rfl agg_impl_Crew rfl ((loadCrew (i := 1) rfl hH7))) ?_
  refine WL_v rfl (ov_move rfl) ?_
  refine WL_call rfl rfl cf_spec_LoseWorker (sLoseWorker_yes hH7 (hP.mono hle1) (by omega) hlim ((hR _).mono hle1) hcv hk hn1) ?_; rintro _ w7 ⟨dv3, cv3, nv3, rv3, rfl, C3, N3, D3, R3, Ds3, Rs3, hO3, hH8⟩; obtain ⟨h2, hle2, hH9, hR2⟩ := hO3.freeze hH8
  refine WL_v rfl (ov_move rfl) ?_
  refine WL_v rfl (ov_extract rfl rfl) ?_
  refine WL_v rfl (ov_extract rfl rfl) ?_
  refine WL_alloc _ rfl hH9 zero_crew rfl ?_; rintro g8 w8 hH10
  refine WL_storeN hH10 rfl rfl (i := 0) rfl rfl rfl (ones_cons (hR2 []).dq.sl.one (ones_cons (hR2 []).ct.sl.one (ones_cons (hR2 []).dn.sl.one (ones_cons (hR2 []).rw.sl.one ones_nil)))) sz_impl_Crew ?_; rintro w9 hH11
  refine WL_v rfl (ov_assign rfl) ?_
  refine WL_nil ?_
  refine WT_seq ?_
  refine WT_seq ?_
  refine WT_region ?_
  refine WL_v rfl (ov_move rfl) ?_
  refine WL_v rfl (ov_move rfl) ?_
  refine WL_v rfl (ov_F (ov_neqB rfl rfl Tryz.underlying4) (by simp)) ?_
  refine WL_v rfl (ov_move rfl) ?_
  refine WL_guardOn rfl rfl ?_
  refine WL_v rfl (ov_loadN [dv2, cv2, nv2, rv2] rfl agg_impl_Crew rfl ((loadCrew (i := 1) rfl hH11))) ?_
  refine WL_guardOn rfl rfl ?_
  refine WL_v rfl (ov_loadN [dv3, cv3, nv3, rv3] rfl agg_impl_Crew rfl ((loadCrew (i := 0) rfl hH11))) ?_
  refine WL_guardOn rfl rfl ?_
  refine WL_call rfl rfl cf_laws_sameCrew (sameCrew_same hH11 (fun Ms => (hR1 _).mono hle2) (fun Ms => hR2 _)) ?_; rintro _ w10 ⟨rfl, hH12⟩
  refine WL_guardOn rfl rfl ?_
  refine WL_v rfl (ov_F (ov_not rfl) (by first | exact decide_eq_false rfl | exact nb_F rfl | exact mb_F rfl | exact rfl | (simp only [decide_eq_false_iff_not]; omega) | simpa using rfl)) ?_
  refine WL_v rfl (ov_pickF rfl rfl) ?_
  refine WL_v rfl (ov_move rfl) ?_
  refine WL_guardOn rfl rfl ?_
  refine WL_v rfl (ov_move rfl) ?_
  refine WL_guardOn rfl rfl ?_
  refine WL_v rfl (ov_F (ov_not rfl) (by first | exact decide_eq_false rfl | exact nb_F rfl | exact mb_F rfl | exact rfl | (simp only [decide_eq_false_iff_not]; omega) | simpa using rfl)) ?_
  refine WL_v rfl (ov_pickF rfl rfl) ?_
  refine WL_nil ?_
  refine WT_condF rfl ?_
  have hRc : ∀ Ms, RdCr h2 Ms dv cv nv rv c := fun Ms => ((hR Ms).mono hle1).mono hle2
  have hRl : ∀ Ms, RdCr h2 Ms dv2 cv2 nv2 rv2 (loseCr c k) := fun Ms => (hR1 Ms).mono hle2
  have hP2 : Plan h2 pv p := (hP.mono hle1).mono hle2
  have hll := loseL_len hk
  have hdl : (loseCr c k).dq.length = c.dq.length - 1 := hll
  clear hH3 hH4 hH5 hH6 hH7 hH8 hH9 hH10 hH11 hO hO3
  have hx : (k + 1) % c.dq.length < c.dq.length := Nat.mod_lt _ (by omega)
  have hmod : ((k : Nat) : Int) + 1 = ((k + 1 : Nat) : Int) := by omega
  have hmod2 : ((k + 1 : Nat) : Int) % ((c.dq.length : Nat) : Int) = (((k + 1) % c.dq.length : Nat) : Int) := (Int.natCast_emod _ _).symm
  have hla := lose_at hk (by omega)
  have hne := next_ne hk (by omega)
  have hlk := len_flat hk
  have hlx := len_flat hx
  have hlf := hlim.dd
  have hg1 : c.dq.getD k [] = c.dq[k] := by simp [List.getD_eq_getElem?_getD, List.getElem?_eq_getElem hk]
  have hg2 : c.dq.getD ((k + 1) % c.dq.length) [] = c.dq[(k + 1) % c.dq.length] := by simp [List.getD_eq_getElem?_getD, List.getElem?_eq_getElem hx]
  rw [hg1, hg2] at hla
  obtain ⟨ub, b2, b3⟩ := (hRc (crbox g8 dv3 cv3 nv3 rv3 :: crbox g6 dv2 cv2 nv2 rv2 :: crbox g4 dv cv nv rv :: Ls)).dq.at_ hk
  obtain ⟨uc, c2, c3⟩ := (hRc (crbox g8 dv3 cv3 nv3 rv3 :: crbox g6 dv2 cv2 nv2 rv2 :: crbox g4 dv cv nv rv :: Ls)).dq.at_ hx
  have b3 : ∀ {w : World} {L : Heaplet}, H w h2 (L :: crbox g8 dv3 cv3 nv3 rv3 :: crbox g6 dv2 cv2 nv2 rv2 :: crbox g4 dv cv nv rv :: Ls) → w.cell? ((slA dv).add (k * 1)) = some ub := fun hH => b3 hH.drop
  have c3 : ∀ {w : World} {L : Heaplet}, H w h2 (L :: crbox g8 dv3 cv3 nv3 rv3 :: crbox g6 dv2 cv2 nv2 rv2 :: crbox g4 dv cv nv rv :: Ls) → w.cell? ((slA dv).add ((k + 1) % c.dq.length * 1)) = some uc := fun hH => c3 hH.drop
  have hmodx : ((k + 1 : Nat) : Int) % ((c.dq.length : Nat) : Int) = (((k + 1) % c.dq.length : Nat) : Int) := hmod2
  clear hmod2
  by_cases hgt : k < (k + 1) % c.dq.length
  · skip
    rw [if_pos hgt] at hla
    have hat : (k + 1) % c.dq.length - 1 < (loseCr c k).dq.length := by omega
    have heq : (loseCr c k).dq[(k + 1) % c.dq.length - 1] = c.dq[k] ++ c.dq[(k + 1) % c.dq.length] := by
      rw [← hla]
      show (loseL c.dq k)[(k + 1) % c.dq.length - 1]'hat = _
      rw [List.getD_eq_getElem?_getD, List.getElem?_eq_getElem (show _ < (loseL c.dq k).length from hat)]; rfl
    obtain ⟨ua, f2, f3⟩ := (hRl (crbox g8 dv3 cv3 nv3 rv3 :: crbox g6 dv2 cv2 nv2 rv2 :: crbox g4 dv cv nv rv :: Ls)).dq.at_ hat
    have f3 : ∀ {w : World} {L : Heaplet}, H w h2 (L :: crbox g8 dv3 cv3 nv3 rv3 :: crbox g6 dv2 cv2 nv2 rv2 :: crbox g4 dv cv nv rv :: Ls) → w.cell? ((slA dv2).add (((k + 1) % c.dq.length - 1) * 1)) = some ua := fun hH => f3 hH.drop
    have hcas : (((k + 1) % c.dq.length : Nat) : Int) - 1 = (((k + 1) % c.dq.length - 1 : Nat) : Int) := by omega
    refine WT_skip ?_
    refine WT_seq ?_
    refine WT_region ?_
    refine WL_v rfl (ov_move rfl) ?_
    refine WL_v rfl (ov_as (ov_add rfl rfl (by omega)) (congrArg (Value.int .i64) (hmod))) ?_
    refine WL_v rfl (ov_field rfl fo_impl_Crew_0) ?_
    refine WL_v rfl (ov_load rfl one_sl_sl_int (hH12.cb 2 rfl 0)) ?_
    refine WL_v rfl (ov_len rfl (hRc []).dq.sl st_sl_sl_int) ?_
    refine WL_v rfl (ov_as (ov_rem rfl rfl (by omega) (by omega)) (congrArg (Value.int .i64) hmodx)) ?_
    refine WL_v rfl (ov_assign rfl) ?_
    refine WL_nil ?_
    refine WT_seq ?_
    refine WT_region ?_
    refine WL_v rfl (ov_move rfl) ?_
    refine WL_v rfl (ov_assign rfl) ?_
    refine WL_nil ?_
    refine WT_seq ?_
    refine WT_seq ?_
    refine WT_region ?_
    refine WL_v rfl (ov_move rfl) ?_
    refine WL_v rfl (ov_move rfl) ?_
    refine WL_v rfl (ov_T (ov_gtr rfl rfl) (decide_eq_true (by omega))) ?_
    refine WL_nil ?_
    refine WT_condT rfl ?_
    refine WT_region ?_
    refine WL_v rfl (ov_move rfl) ?_
    refine WL_v rfl (ov_as (ov_sub rfl rfl (by omega)) (congrArg (Value.int .i64) (hcas))) ?_
    refine WL_v rfl (ov_assign rfl) ?_
    refine WL_nil ?_
    refine WT_seq ?_
    refine WT_mixL [(0, 1), (1, 0), (2, 1), (3, 1), (4, 0), (6, 1), (7, 0), (8, 1), (9, 1), (10, 0), (12, 1), (13, 0), (14, 1), (15, 1), (16, 0), (5, 2), (11, 2), (17, 2), (18, 2), (19, 1)] mixed (by kernel_rfl) hH12 ?_
    clear hH12
    intro w11 hH12 hC
    refine WM_p rfl rfl (fun _ => ov_field rfl fo_impl_Crew_0) ?_
    refine WM_v rfl rfl hC (fun _ ⟨_, hH⟩ => ov_load rfl one_sl_sl_int (hH.cb 2 rfl 0)) ?_
    refine WM_p rfl rfl (fun _ => ov_move rfl) ?_
    refine WM_p rfl rfl (fun _ => ov_index rfl rfl st_sl_sl_int (hRl []).dq.sl (i := (k + 1) % c.dq.length - 1) hat) ?_
    refine WM_v rfl rfl hC (fun _ ⟨_, hH⟩ => ov_load rfl one_sl_int ((f3 hH))) ?_
    refine WM_p rfl rfl (fun _ => ov_field rfl fo_impl_Crew_0) ?_
    refine WM_v rfl rfl hC (fun _ ⟨_, hH⟩ => ov_load rfl one_sl_sl_int (hH.cb 3 rfl 0)) ?_
    refine WM_p rfl rfl (fun _ => ov_move rfl) ?_
    refine WM_p rfl rfl (fun _ => ov_index rfl rfl st_sl_sl_int (hRc []).dq.sl hk) ?_
    refine WM_v rfl rfl hC (fun _ ⟨_, hH⟩ => ov_load rfl one_sl_int ((b3 hH))) ?_
    refine WM_p rfl rfl (fun _ => ov_field rfl fo_impl_Crew_0) ?_
    refine WM_v rfl rfl hC (fun _ ⟨_, hH⟩ => ov_load rfl one_sl_sl_int (hH.cb 3 rfl 0)) ?_
    refine WM_p rfl rfl (fun _ => ov_move rfl) ?_
    refine WM_p rfl rfl (fun _ => ov_index rfl rfl st_sl_sl_int (hRc []).dq.sl hx) ?_
    refine WM_v rfl rfl hC (fun _ ⟨_, hH⟩ => ov_load rfl one_sl_int ((c3 hH))) ?_
    refine WM_e rfl ?_
    refine WL_bsI0 rfl hH12 run_bs_int0 ?_; rintro Z zv w12 hZ hH13
    replace hC : Cl _ _ _ := Cl.sub [Z] (crbox g8 dv3 cv3 nv3 rv3 :: crbox g6 dv2 cv2 nv2 rv2 :: crbox g4 dv cv nv rv :: Ls) [] (by simpa using hH13)
    refine WL_mix (fun _ => hC) ?_
    refine WM_e rfl ?_
    refine WL_appR (i := 0) rfl hH13 rfl rfl st_sl_int rfl hZ b2.sl (b2.cell hH13.drop) (by simp; omega) (by simp; omega) ?_; rintro F fv w13 hF hH14; rw [List.nil_append] at hF
    replace hC : Cl _ _ _ := Cl.sub [F] (crbox g8 dv3 cv3 nv3 rv3 :: crbox g6 dv2 cv2 nv2 rv2 :: crbox g4 dv cv nv rv :: Ls) [] (by simpa using hH14)
    refine WL_mix (fun _ => hC) ?_
    refine WM_e rfl ?_
    refine WL_appR (i := 0) rfl hH14 rfl rfl st_sl_int rfl hF c2.sl (c2.cell hH14.drop) (by omega) (by omega) ?_; rintro F2 fv2 w14 hF2 hH15
    replace hC : Cl _ _ _ := Cl.sub [F2] (crbox g8 dv3 cv3 nv3 rv3 :: crbox g6 dv2 cv2 nv2 rv2 :: crbox g4 dv cv nv rv :: Ls) [] (by simpa using hH15)
    refine WL_mix (fun _ => hC) ?_
    refine WM_e rfl ?_
    refine WL_call rfl rfl cf_laws_sameRow (sameRow_ok hH15 f2.up (hF2.rdl (i := 0) rfl)) ?_; rintro _ w15 ⟨rfl, hH16⟩
    replace hC : Cl _ _ _ := Cl.sub [F2] (crbox g8 dv3 cv3 nv3 rv3 :: crbox g6 dv2 cv2 nv2 rv2 :: crbox g4 dv cv nv rv :: Ls) [] (by simpa using hH16)
    refine WL_mix (fun _ => hC) ?_
    refine WM_p rfl rfl (fun _ => ov_assign rfl) ?_
    refine WM_nil ?_
    exact WT_ret1 Tryz.func4 Tryz.results4 rfl ⟨congrArg Value.bool (decide_eq_true heq), hH16.drop.drop.drop.drop.weak (hle.trans (hle1.trans hle2))⟩
  · skip
    rw [if_neg hgt] at hla
    have hat : (k + 1) % c.dq.length < (loseCr c k).dq.length := by omega
    have heq : (loseCr c k).dq[(k + 1) % c.dq.length] = c.dq[k] ++ c.dq[(k + 1) % c.dq.length] := by
      rw [← hla]
      show (loseL c.dq k)[(k + 1) % c.dq.length]'hat = _
      rw [List.getD_eq_getElem?_getD, List.getElem?_eq_getElem (show _ < (loseL c.dq k).length from hat)]; rfl
    obtain ⟨ua, f2, f3⟩ := (hRl (crbox g8 dv3 cv3 nv3 rv3 :: crbox g6 dv2 cv2 nv2 rv2 :: crbox g4 dv cv nv rv :: Ls)).dq.at_ hat
    have f3 : ∀ {w : World} {L : Heaplet}, H w h2 (L :: crbox g8 dv3 cv3 nv3 rv3 :: crbox g6 dv2 cv2 nv2 rv2 :: crbox g4 dv cv nv rv :: Ls) → w.cell? ((slA dv2).add (((k + 1) % c.dq.length) * 1)) = some ua := fun hH => f3 hH.drop
    refine WT_skip ?_
    refine WT_seq ?_
    refine WT_region ?_
    refine WL_v rfl (ov_move rfl) ?_
    refine WL_v rfl (ov_as (ov_add rfl rfl (by omega)) (congrArg (Value.int .i64) (hmod))) ?_
    refine WL_v rfl (ov_field rfl fo_impl_Crew_0) ?_
    refine WL_v rfl (ov_load rfl one_sl_sl_int (hH12.cb 2 rfl 0)) ?_
    refine WL_v rfl (ov_len rfl (hRc []).dq.sl st_sl_sl_int) ?_
    refine WL_v rfl (ov_as (ov_rem rfl rfl (by omega) (by omega)) (congrArg (Value.int .i64) hmodx)) ?_
    refine WL_v rfl (ov_assign rfl) ?_
    refine WL_nil ?_
    refine WT_seq ?_
    refine WT_region ?_
    refine WL_v rfl (ov_move rfl) ?_
    refine WL_v rfl (ov_assign rfl) ?_
    refine WL_nil ?_
    refine WT_seq ?_
    refine WT_seq ?_
    refine WT_region ?_
    refine WL_v rfl (ov_move rfl) ?_
    refine WL_v rfl (ov_move rfl) ?_
    refine WL_v rfl (ov_F (ov_gtr rfl rfl) (decide_eq_false (by omega))) ?_
    refine WL_nil ?_
    refine WT_condF rfl ?_
    refine WT_skip ?_
    refine WT_seq ?_
    refine WT_mixL [(0, 1), (1, 0), (2, 1), (3, 1), (4, 0), (6, 1), (7, 0), (8, 1), (9, 1), (10, 0), (12, 1), (13, 0), (14, 1), (15, 1), (16, 0), (5, 2), (11, 2), (17, 2), (18, 2), (19, 1)] mixed (by kernel_rfl) hH12 ?_
    clear hH12
    intro w11 hH12 hC
    refine WM_p rfl rfl (fun _ => ov_field rfl fo_impl_Crew_0) ?_
    refine WM_v rfl rfl hC (fun _ ⟨_, hH⟩ => ov_load rfl one_sl_sl_int (hH.cb 2 rfl 0)) ?_
    refine WM_p rfl rfl (fun _ => ov_move rfl) ?_
    refine WM_p rfl rfl (fun _ => ov_index rfl rfl st_sl_sl_int (hRl []).dq.sl (i := (k + 1) % c.dq.length) hat) ?_
    refine WM_v rfl rfl hC (fun _ ⟨_, hH⟩ => ov_load rfl one_sl_int ((f3 hH))) ?_
    refine WM_p rfl rfl (fun _ => ov_field rfl fo_impl_Crew_0) ?_
    refine WM_v rfl rfl hC (fun _ ⟨_, hH⟩ => ov_load rfl one_sl_sl_int (hH.cb 3 rfl 0)) ?_
    refine WM_p rfl rfl (fun _ => ov_move rfl) ?_
    refine WM_p rfl rfl (fun _ => ov_index rfl rfl st_sl_sl_int (hRc []).dq.sl hk) ?_
    refine WM_v rfl rfl hC (fun _ ⟨_, hH⟩ => ov_load rfl one_sl_int ((b3 hH))) ?_
    refine WM_p rfl rfl (fun _ => ov_field rfl fo_impl_Crew_0) ?_
    refine WM_v rfl rfl hC (fun _ ⟨_, hH⟩ => ov_load rfl one_sl_sl_int (hH.cb 3 rfl 0)) ?_
    refine WM_p rfl rfl (fun _ => ov_move rfl) ?_
    refine WM_p rfl rfl (fun _ => ov_index rfl rfl st_sl_sl_int (hRc []).dq.sl hx) ?_
    refine WM_v rfl rfl hC (fun _ ⟨_, hH⟩ => ov_load rfl one_sl_int ((c3 hH))) ?_
    refine WM_e rfl ?_
    refine WL_bsI0 rfl hH12 run_bs_int0 ?_; rintro Z zv w12 hZ hH13
    replace hC : Cl _ _ _ := Cl.sub [Z] (crbox g8 dv3 cv3 nv3 rv3 :: crbox g6 dv2 cv2 nv2 rv2 :: crbox g4 dv cv nv rv :: Ls) [] (by simpa using hH13)
    refine WL_mix (fun _ => hC) ?_
    refine WM_e rfl ?_
    refine WL_appR (i := 0) rfl hH13 rfl rfl st_sl_int rfl hZ b2.sl (b2.cell hH13.drop) (by simp; omega) (by simp; omega) ?_; rintro F fv w13 hF hH14; rw [List.nil_append] at hF
    replace hC : Cl _ _ _ := Cl.sub [F] (crbox g8 dv3 cv3 nv3 rv3 :: crbox g6 dv2 cv2 nv2 rv2 :: crbox g4 dv cv nv rv :: Ls) [] (by simpa using hH14)
    refine WL_mix (fun _ => hC) ?_
    refine WM_e rfl ?_
    refine WL_appR (i := 0) rfl hH14 rfl rfl st_sl_int rfl hF c2.sl (c2.cell hH14.drop) (by omega) (by omega) ?_; rintro F2 fv2 w14 hF2 hH15
    replace hC : Cl _ _ _ := Cl.sub [F2] (crbox g8 dv3 cv3 nv3 rv3 :: crbox g6 dv2 cv2 nv2 rv2 :: crbox g4 dv cv nv rv :: Ls) [] (by simpa using hH15)
    refine WL_mix (fun _ => hC) ?_
    refine WM_e rfl ?_
    refine WL_call rfl rfl cf_laws_sameRow (sameRow_ok hH15 f2.up (hF2.rdl (i := 0) rfl)) ?_; rintro _ w15 ⟨rfl, hH16⟩
    replace hC : Cl _ _ _ := Cl.sub [F2] (crbox g8 dv3 cv3 nv3 rv3 :: crbox g6 dv2 cv2 nv2 rv2 :: crbox g4 dv cv nv rv :: Ls) [] (by simpa using hH16)
    refine WL_mix (fun _ => hC) ?_
    refine WM_p rfl rfl (fun _ => ov_assign rfl) ?_
    refine WM_nil ?_
    exact WT_ret1 Tryz.func4 Tryz.results4 rfl ⟨congrArg Value.bool (decide_eq_true heq), hH16.drop.drop.drop.drop.weak (hle.trans (hle1.trans hle2))⟩

end
end Go.Proofs.YteagnhdhafiofaaGreat
