/- The laws CrewReady, CrewCounts, CrewLeft, TurnFrom, TurnFromNone, CrewAt, CrewAtNone: their walks. -/
import Derived.Test.YtlmdmgjppdhelaaGreatBd6
namespace Go.Proofs.YtlmdmgjppdhelaaGreat
open Go.RowKit

section
variable {h : GH} {Ls : List Heaplet} {w : World}

theorem fnCrewReady_walk (hH : H w h Ls) {xv : Value} {bs : List Int} (hB : Bytes h xv bs) : Rets Tryz.prog 7 #[xv] w fun v w' => v = .bool true ∧ H w' h Ls := by
  refine rets_enter Tryz.func7 rfl Tryz.ntmps7 (by simp) ?_
  refine WT_seq ?_
  refine WT_region ?_
  refine WL_v rfl (ov_assign rfl) ?_
  refine WL_nil ?_
  refine WT_seq ?_
  refine WT_seq ?_
  refine WT_region ?_
  refine WL_v rfl (ov_move rfl) ?_
  refine WL_v rfl (ov_len rfl hB.sl st_sl_uint8) ?_
  refine WL_v rfl (ov_gtr rfl rfl) ?_
  refine WL_nil ?_
  refine WT_cond rfl (fun hl => ?_) (fun hl => ?_)
  · skip
    first | with_reducible replace hl := of_decide_eq_true hl | with_reducible replace hl := bn_T hl | with_reducible replace hl := bb_T hl | skip
    refine WT_seq ?_
    refine WT_region ?_
    refine WL_v rfl (ov_assign rfl) ?_
    refine WL_nil ?_
    exact WT_ret1 Tryz.func7 Tryz.results7 rfl ⟨rfl, hH⟩
  first | with_reducible replace hl := of_decide_eq_false hl | with_reducible replace hl := bn_F hl | with_reducible replace hl := bb_F hl | skip
  refine WT_skip ?_
  refine WT_seq ?_
  refine WT_region ?_
  refine WL_v rfl (ov_move rfl) ?_
  refine WL_call rfl rfl cf_spec_DrawCrewValid (drawCrewValid_ok hH hB) ?_; rintro _ w1 ⟨pv, dv, cv, nv, rv, rfl, h', p, c, hle, hP, hpl, hR, hlim, hH1⟩
  refine WL_v rfl (ov_move rfl) ?_
  refine WL_v rfl (ov_extract rfl rfl) ?_
  refine WL_v rfl (ov_extract rfl rfl) ?_
  refine WL_alloc _ rfl hH1 zero_crew rfl ?_; rintro g w2 hH2
  refine WL_v rfl (ov_assign rfl) ?_
  refine WL_storeN hH2 rfl rfl (i := 0) rfl rfl rfl (ones_cons (hR []).dq.sl.one (ones_cons (hR []).ct.sl.one (ones_cons (hR []).dn.sl.one (ones_cons (hR []).rw.sl.one ones_nil)))) sz_impl_Crew ?_; rintro w3 hH3
  refine WL_nil ?_
  refine WT_seq ?_
  refine WT_region ?_
  refine WL_v rfl (ov_move rfl) ?_
  refine WL_v rfl (ov_loadN [dv, cv, nv, rv] rfl agg_impl_Crew rfl ((loadCrew (i := 0) rfl hH3))) ?_
  refine WL_call rfl rfl cf_impl_CrewValid (crewValid_ok hH3 hP hlim (hR _)) ?_; rintro _ w4 ⟨rfl, hH4⟩
  refine WL_v rfl (ov_assign rfl) ?_
  refine WL_nil ?_
  refine WT_seq ?_
  refine WT_region ?_
  refine WL_v rfl (ov_move rfl) ?_
  refine WL_v rfl (ov_loadN [dv, cv, nv, rv] rfl agg_impl_Crew rfl ((loadCrew (i := 0) rfl hH4))) ?_
  refine WL_call rfl rfl cf_spec_CrewValid (sCrewValid_ok hH4 hP (by omega) hlim (hR _)) ?_; rintro _ w5 ⟨rfl, hH5⟩
  refine WL_v rfl (ov_assign rfl) ?_
  refine WL_nil ?_
  refine WT_seq ?_
  refine WT_seq ?_
  refine WT_region ?_
  refine WL_v rfl (ov_move rfl) ?_
  refine WL_v rfl (ov_move rfl) ?_
  clear hH hH1 hH2 hH3 hH4
  by_cases hv : crewOk p c = true
  case neg =>
    have hv' : crewOk p c = false := by simpa using hv
    rw [hv']
    refine WL_v rfl (ov_F (ov_neqB rfl rfl Tryz.underlying4) (by simp)) ?_
    refine WL_v rfl (ov_move rfl) ?_
    refine WL_guardOn rfl rfl ?_
    refine WL_v rfl (ov_move rfl) ?_
    refine WL_guardOn rfl rfl ?_
    refine WL_v rfl (ov_T (ov_not rfl) (by first | exact decide_eq_true (by simp) | exact nb_T (by simp) | exact mb_T (by simp) | exact (by simp) | (simp only [decide_eq_true_eq]; omega) | simpa using (by simp))) ?_
    refine WL_v rfl (ov_pickF rfl rfl) ?_
    refine WL_nil ?_
    refine WT_condT rfl ?_
    refine WT_seq ?_
    refine WT_region ?_
    refine WL_v rfl (ov_move rfl) ?_
    refine WL_v rfl (ov_move rfl) ?_
    refine WL_v rfl (ov_T (ov_eqlB rfl rfl Tryz.underlying4) (by simp)) ?_
    refine WL_v rfl (ov_assign rfl) ?_
    refine WL_nil ?_
    exact WT_ret1 Tryz.func7 Tryz.results7 rfl ⟨rfl, hH5.drop.weak hle⟩
  rw [hv]
  have hok := (crewOk_iff p c).1 hv
  refine WL_v rfl (ov_F (ov_neqB rfl rfl Tryz.underlying4) (by simp)) ?_
  refine WL_v rfl (ov_move rfl) ?_
  refine WL_guardOn rfl rfl ?_
  refine WL_v rfl (ov_move rfl) ?_
  refine WL_guardOn rfl rfl ?_
  refine WL_v rfl (ov_F (ov_not rfl) (by first | exact decide_eq_false (by simp) | exact nb_F (by simp) | exact mb_F (by simp) | exact (by simp) | (simp only [decide_eq_false_iff_not]; omega) | simpa using (by simp))) ?_
  refine WL_v rfl (ov_pickF rfl rfl) ?_
  refine WL_nil ?_
  refine WT_condF rfl ?_
  have hld := hlim.dd
  have hlq := hlim.dq
  have hlen := PlanOk.len hok.plan
  refine WT_skip ?_
  refine WT_seq ?_
  refine WT_region ?_
  refine WL_bsI0 rfl hH5 run_bs_int0 ?_; rintro X0 v0 w6 hX0 hH6
  refine WL_v rfl (ov_assign rfl) ?_
  refine WL_nil ?_
  refine WT_seq ?_
  refine WT_seq ?_
  refine WT_region ?_
  refine WL_v rfl (ov_assign rfl) ?_
  refine WL_nil ?_
  refine WT_block ?_
  refine WT_while (fun s : Nat × Value => [(3, pv), (4, ptr g), (7, s.2), (8, .int .i64 (s.1 : Int))]) (fun s w => s.1 ≤ c.dq.length ∧ ∃ X, IRow X 3 s.2 (c.dq.take s.1).flatten ∧ H w h' (X :: crbox g dv cv nv rv :: Ls)) (fun s => c.dq.length - s.1) (0, v0) (by repeat (first | exact trivial | refine ⟨rfl, ?_⟩)) ⟨by simp, X0, by simpa using hX0, hH6⟩ ?_
  clear hH5 hH6 hX0 X0 v0
  rintro ⟨k, xv2⟩ w6 ⟨hk, X, hX, hH⟩ again
  simp only at hk hX
  refine WT_seq ?_
  refine WT_seq ?_
  refine WT_region ?_
  refine WL_v rfl (ov_move rfl) ?_
  refine WL_v rfl (ov_field rfl fo_impl_Crew_0) ?_
  refine WL_v rfl (ov_load rfl one_sl_sl_int (hH.cb 1 rfl 0)) ?_
  refine WL_v rfl (ov_len rfl (hR []).dq.sl st_sl_sl_int) ?_
  refine WL_v rfl (ov_lss rfl rfl) ?_
  refine WL_nil ?_
  refine WT_cond rfl (fun hc => ?_) (fun hc => ?_)
  · skip
    first | with_reducible replace hc := of_decide_eq_true hc | with_reducible replace hc := bn_T hc | with_reducible replace hc := bb_T hc | skip
    have hkl : k < c.dq.length := by simp only at hc; omega
    obtain ⟨u, h1, h2⟩ := (hR (X :: crbox g dv cv nv rv :: Ls)).dq.at_ hkl
    have htf := take_flat hkl
    have hle3 := take_flat_le c.dq (k + 1)
    have hle2 : (c.dq.take (k + 1)).flatten.length = (c.dq.take k).flatten.length + c.dq[k].length := by rw [htf, List.length_append]
    refine WT_skip ?_
    refine WT_seq ?_
    refine WT_block ?_
    refine WT_region ?_
    refine WL_v rfl (ov_move rfl) ?_
    refine WL_v rfl (ov_field rfl fo_impl_Crew_0) ?_
    refine WL_v rfl (ov_load rfl one_sl_sl_int (hH.cb 1 rfl 0)) ?_
    refine WL_v rfl (ov_move rfl) ?_
    refine WL_v rfl (ov_index rfl rfl st_sl_sl_int (hR []).dq.sl hkl) ?_
    refine WL_v rfl (ov_load rfl one_sl_int (h2 hH)) ?_
    refine WL_appR (i := 0) rfl hH rfl rfl st_sl_int rfl hX h1.sl (h1.cell hH) (by omega) (by omega) ?_; rintro X2 xv3 w7 hX2 hH7
    refine WL_v rfl (ov_assign rfl) ?_
    refine WL_nil ?_
    refine WT_inBlock ?_
    refine WT_region ?_
    refine WL_v rfl (ov_move rfl) ?_
    refine WL_v rfl (ov_add rfl rfl (by omega)) ?_
    refine WL_v rfl (ov_assign rfl) ?_
    refine WL_nil ?_
    refine again (k + 1, xv3) _ _ (by simp only; omega) (by repeat (first | exact trivial | refine ⟨rfl, ?_⟩)) ⟨by simp only; omega, X2, by simp only; rw [htf]; exact hX2, hH7⟩
  first | with_reducible replace hc := of_decide_eq_false hc | with_reducible replace hc := bn_F hc | with_reducible replace hc := bb_F hc | skip
  obtain rfl : k = c.dq.length := by simp only at hc; omega
  rw [List.take_length] at hX
  clear again
  have hln := hlim.dn
  refine WT_exit rfl ?_
  refine WT_seq ?_
  refine WT_region ?_
  refine WL_v rfl (ov_move rfl) ?_
  refine WL_v rfl (ov_field rfl fo_impl_Crew_2) ?_
  refine WL_v rfl (ov_load rfl one_sl_int (hH.cb 1 rfl 2)) ?_
  refine WL_call rfl rfl cf_impl_ReadyOf (readyOf_ok hH hP (hR _).dn (by omega)) ?_; rintro qv w8 ⟨Q, hQ, hH8⟩
  refine WL_v rfl (ov_assign rfl) ?_
  refine WL_nil ?_
  refine WT_seq ?_
  refine WT_seq ?_
  refine WT_region ?_
  refine WL_v rfl (ov_assign rfl) ?_
  refine WL_nil ?_
  refine WT_block ?_
  rw [readyI_of hok.plan] at hQ
  have hsz := hok.size
  have hnd := hok.nodup
  have hmem : ∀ {a}, a ∈ c.dq.flatten → a ∈ readyI p c.dn := fun ha => hok.mem.1 ha
  generalize hFl : c.dq.flatten = fl at hX hsz hnd hmem
  have hfl10 : fl.length ≤ 10 := by have := readyI_len_le p c.dn; omega
  refine WT_while (fun s : Nat => [(7, xv2), (9, qv), (10, .int .i64 (s : Int))]) (fun s w => s ≤ fl.length ∧ H w h' (Q :: X :: crbox g dv cv nv rv :: Ls)) (fun s => fl.length - s) 0 (by repeat (first | exact trivial | refine ⟨rfl, ?_⟩)) ⟨by omega, hH8⟩ ?_
  clear hH hH8
  rintro k w9 ⟨hk, hH⟩ again
  refine WT_seq ?_
  refine WT_seq ?_
  refine WT_region ?_
  refine WL_v rfl (ov_move rfl) ?_
  refine WL_v rfl (ov_move rfl) ?_
  refine WL_v rfl (ov_len rfl hX.sl st_sl_int) ?_
  refine WL_v rfl (ov_lss rfl rfl) ?_
  refine WL_nil ?_
  refine WT_cond rfl (fun hc2 => ?_) (fun hc2 => ?_)
  · skip
    first | with_reducible replace hc2 := of_decide_eq_true hc2 | with_reducible replace hc2 := bn_T hc2 | with_reducible replace hc2 := bb_T hc2 | skip
    have hkl : k < fl.length := by omega
    have h1 := fun {w : World} (hH : H w h' (Q :: X :: crbox g dv cv nv rv :: Ls)) => hasInt_ok hH (hQ.rdl (i := 0) rfl) fl[k]
    rw [decide_eq_true (hmem (List.getElem_mem hkl))] at h1
    have hXr : RdL h' (Q :: X :: crbox g dv cv nv rv :: Ls) xv2 fl := hX.rdl (i := 1) rfl
    have h2 := fun {w : World} (hH : H w h' (Q :: X :: crbox g dv cv nv rv :: Ls)) => hasInt_ok hH (hXr.take (k := k) (by omega)) fl[k]
    have hnm : fl[k] ∉ fl.take k := fun hm => by
      obtain ⟨j, hj, he⟩ := List.getElem_of_mem hm
      rw [List.length_take] at hj
      rw [List.getElem_take] at he
      exact absurd he (List.pairwise_iff_getElem.1 hnd j k (by omega) hkl (by omega))
    rw [decide_eq_false hnm] at h2
    refine WT_skip ?_
    refine WT_seq ?_
    refine WT_block ?_
    refine WT_seq ?_
    refine WT_quiet mixed (by kernel_rfl) hH ?_
    clear hH
    refine WQ_v rfl (fun _ _ => ov_move rfl) ?_
    refine WQ_v rfl (fun _ _ => ov_move rfl) ?_
    refine WQ_v rfl (fun _ _ => ov_move rfl) ?_
    refine WQ_v rfl (fun _ _ => ov_index rfl rfl st_sl_int hX.sl hkl) ?_
    refine WQ_v rfl (fun _ hH => ov_load rfl one_int (hXr.cell hH hkl)) ?_
    refine WQ_call rfl rfl cf_laws_hasInt (fun _ hH => h1 hH) ?_
    refine WQ_v rfl (fun _ _ => ov_not rfl) ?_
    refine WQ_v rfl (fun _ _ => ov_move rfl) ?_
    refine WQ_guardOn rfl rfl ?_
    refine WQ_v rfl (fun _ _ => ov_move rfl) ?_
    refine WQ_guardOn rfl rfl ?_
    refine WQ_v rfl (fun _ _ => ov_move rfl) ?_
    refine WQ_guardOn rfl rfl ?_
    refine WQ_v rfl (fun _ _ => ov_sliceHi rfl rfl st_sl_int hX.sl (by omega)) ?_
    refine WQ_guardOn rfl rfl ?_
    refine WQ_v rfl (fun _ _ => ov_move rfl) ?_
    refine WQ_guardOn rfl rfl ?_
    refine WQ_v rfl (fun _ _ => ov_move rfl) ?_
    refine WQ_guardOn rfl rfl ?_
    refine WQ_v rfl (fun _ _ => ov_index rfl rfl st_sl_int hX.sl hkl) ?_
    refine WQ_guardOn rfl rfl ?_
    refine WQ_v rfl (fun _ hH => ov_load rfl one_int (hXr.cell hH hkl)) ?_
    refine WQ_guardOn rfl rfl ?_
    refine WQ_call rfl rfl cf_laws_hasInt (fun _ hH => h2 hH) ?_
    refine WQ_v rfl (fun _ _ => ov_pickF rfl rfl) ?_
    refine WQ_nil ?_
    intro w10 hH
    refine WT_condF rfl ?_
    refine WT_skip ?_
    refine WT_inBlock ?_
    refine WT_region ?_
    refine WL_v rfl (ov_move rfl) ?_
    refine WL_v rfl (ov_add rfl rfl (by omega)) ?_
    refine WL_v rfl (ov_assign rfl) ?_
    refine WL_nil ?_
    refine again (k + 1) _ _ (by omega) (by repeat (first | exact trivial | refine ⟨rfl, ?_⟩)) ⟨by omega, hH⟩
  first | with_reducible replace hc2 := of_decide_eq_false hc2 | with_reducible replace hc2 := bn_F hc2 | with_reducible replace hc2 := bb_F hc2 | skip
  refine WT_exit rfl ?_
  refine WT_seq ?_
  refine WT_region ?_
  refine WL_v rfl (ov_move rfl) ?_
  refine WL_v rfl (ov_len rfl hX.sl st_sl_int) ?_
  refine WL_v rfl (ov_move rfl) ?_
  refine WL_v rfl (ov_len rfl hQ.sl st_sl_int) ?_
  refine WL_v rfl (ov_eql rfl rfl) ?_
  refine WL_v rfl (ov_assign rfl) ?_
  refine WL_nil ?_
  exact WT_ret1 Tryz.func7 Tryz.results7 rfl ⟨congrArg Value.bool (decide_eq_true (by omega)), hH.drop.drop.drop.weak hle⟩

theorem fnCrewCounts_walk (hH : H w h Ls) {xv : Value} {bs : List Int} (hB : Bytes h xv bs) : Rets Tryz.prog 9 #[xv] w fun v w' => v = .bool true ∧ H w' h Ls := by
  refine rets_enter Tryz.func9 rfl Tryz.ntmps9 (by simp) ?_
  refine WT_seq ?_
  refine WT_region ?_
  refine WL_v rfl (ov_assign rfl) ?_
  refine WL_nil ?_
  refine WT_seq ?_
  refine WT_seq ?_
  refine WT_region ?_
  refine WL_v rfl (ov_move rfl) ?_
  refine WL_v rfl (ov_len rfl hB.sl st_sl_uint8) ?_
  refine WL_v rfl (ov_gtr rfl rfl) ?_
  refine WL_nil ?_
  refine WT_cond rfl (fun hl => ?_) (fun hl => ?_)
  · skip
    first | with_reducible replace hl := of_decide_eq_true hl | with_reducible replace hl := bn_T hl | with_reducible replace hl := bb_T hl | skip
    refine WT_seq ?_
    refine WT_region ?_
    refine WL_v rfl (ov_assign rfl) ?_
    refine WL_nil ?_
    exact WT_ret1 Tryz.func9 Tryz.results9 rfl ⟨rfl, hH⟩
  first | with_reducible replace hl := of_decide_eq_false hl | with_reducible replace hl := bn_F hl | with_reducible replace hl := bb_F hl | skip
  refine WT_skip ?_
  refine WT_seq ?_
  refine WT_region ?_
  refine WL_v rfl (ov_move rfl) ?_
  refine WL_call rfl rfl cf_spec_DrawCrewValid (drawCrewValid_ok hH hB) ?_; rintro _ w1 ⟨pv, dv, cv, nv, rv, rfl, h', p, c, hle, hP, hpl, hR, hlim, hH1⟩
  refine WL_v rfl (ov_move rfl) ?_
  refine WL_v rfl (ov_extract rfl rfl) ?_
  refine WL_v rfl (ov_extract rfl rfl) ?_
  refine WL_alloc _ rfl hH1 zero_crew rfl ?_; rintro g w2 hH2
  refine WL_v rfl (ov_assign rfl) ?_
  refine WL_storeN hH2 rfl rfl (i := 0) rfl rfl rfl (ones_cons (hR []).dq.sl.one (ones_cons (hR []).ct.sl.one (ones_cons (hR []).dn.sl.one (ones_cons (hR []).rw.sl.one ones_nil)))) sz_impl_Crew ?_; rintro w3 hH3
  refine WL_nil ?_
  refine WT_seq ?_
  refine WT_region ?_
  refine WL_v rfl (ov_move rfl) ?_
  refine WL_v rfl (ov_loadN [dv, cv, nv, rv] rfl agg_impl_Crew rfl ((loadCrew (i := 0) rfl hH3))) ?_
  refine WL_call rfl rfl cf_impl_CrewValid (crewValid_ok hH3 hP hlim (hR _)) ?_; rintro _ w4 ⟨rfl, hH4⟩
  refine WL_v rfl (ov_assign rfl) ?_
  refine WL_nil ?_
  refine WT_seq ?_
  refine WT_region ?_
  refine WL_v rfl (ov_move rfl) ?_
  refine WL_v rfl (ov_loadN [dv, cv, nv, rv] rfl agg_impl_Crew rfl ((loadCrew (i := 0) rfl hH4))) ?_
  refine WL_call rfl rfl cf_spec_CrewValid (sCrewValid_ok hH4 hP (by omega) hlim (hR _)) ?_; rintro _ w5 ⟨rfl, hH5⟩
  refine WL_v rfl (ov_assign rfl) ?_
  refine WL_nil ?_
  refine WT_seq ?_
  refine WT_seq ?_
  refine WT_region ?_
  refine WL_v rfl (ov_move rfl) ?_
  refine WL_v rfl (ov_move rfl) ?_
  clear hH hH1 hH2 hH3 hH4
  by_cases hv : crewOk p c = true
  case neg =>
    have hv' : crewOk p c = false := by simpa using hv
    rw [hv']
    refine WL_v rfl (ov_F (ov_neqB rfl rfl Tryz.underlying4) (by simp)) ?_
    refine WL_v rfl (ov_move rfl) ?_
    refine WL_guardOn rfl rfl ?_
    refine WL_v rfl (ov_move rfl) ?_
    refine WL_guardOn rfl rfl ?_
    refine WL_v rfl (ov_T (ov_not rfl) (by first | exact decide_eq_true (by simp) | exact nb_T (by simp) | exact mb_T (by simp) | exact (by simp) | (simp only [decide_eq_true_eq]; omega) | simpa using (by simp))) ?_
    refine WL_v rfl (ov_pickF rfl rfl) ?_
    refine WL_nil ?_
    refine WT_condT rfl ?_
    refine WT_seq ?_
    refine WT_region ?_
    refine WL_v rfl (ov_move rfl) ?_
    refine WL_v rfl (ov_move rfl) ?_
    refine WL_v rfl (ov_T (ov_eqlB rfl rfl Tryz.underlying4) (by simp)) ?_
    refine WL_v rfl (ov_assign rfl) ?_
    refine WL_nil ?_
    exact WT_ret1 Tryz.func9 Tryz.results9 rfl ⟨rfl, hH5.drop.weak hle⟩
  rw [hv]
  have hok := (crewOk_iff p c).1 hv
  refine WL_v rfl (ov_F (ov_neqB rfl rfl Tryz.underlying4) (by simp)) ?_
  refine WL_v rfl (ov_move rfl) ?_
  refine WL_guardOn rfl rfl ?_
  refine WL_v rfl (ov_move rfl) ?_
  refine WL_guardOn rfl rfl ?_
  refine WL_v rfl (ov_F (ov_not rfl) (by first | exact decide_eq_false (by simp) | exact nb_F (by simp) | exact mb_F (by simp) | exact (by simp) | (simp only [decide_eq_false_iff_not]; omega) | simpa using (by simp))) ?_
  refine WL_v rfl (ov_pickF rfl rfl) ?_
  refine WL_nil ?_
  refine WT_condF rfl ?_
  have hlc := hlim.ct
  have hln := hlim.dn
  have hlen := PlanOk.len hok.plan
  have hzl := zeros_len hok
  have hza := fun {z : Int} => zeros_all hok (z := z)
  have hdisj : ∀ {z}, z ∈ c.dn → z ∉ readyI p c.dn := fun hz hz2 => (mem_readyI.1 hz2).2.1 hz
  refine WT_skip ?_
  refine WT_seq ?_
  refine WT_region ?_
  refine WL_v rfl (ov_field rfl fo_impl_Crew_1) ?_
  refine WL_v rfl (ov_load rfl one_sl_int (hH5.cb 0 rfl 1)) ?_
  refine WL_call rfl rfl cf_impl_CountsReady (countsReady_ok hH5 (hR _).ct (by omega)) ?_; rintro zv w6 ⟨Z, hZ, hH6⟩
  refine WL_v rfl (ov_assign rfl) ?_
  refine WL_nil ?_
  refine WT_seq ?_
  refine WT_region ?_
  refine WL_v rfl (ov_move rfl) ?_
  refine WL_v rfl (ov_field rfl fo_impl_Crew_2) ?_
  refine WL_v rfl (ov_load rfl one_sl_int (hH6.cb 1 rfl 2)) ?_
  refine WL_call rfl rfl cf_impl_ReadyOf (readyOf_ok hH6 hP (hR _).dn (by omega)) ?_; rintro qv w7 ⟨Q, hQ, hH7⟩
  refine WL_v rfl (ov_assign rfl) ?_
  refine WL_nil ?_
  refine WT_seq ?_
  refine WT_seq ?_
  refine WT_region ?_
  refine WL_v rfl (ov_assign rfl) ?_
  refine WL_nil ?_
  refine WT_block ?_
  rw [readyI_of hok.plan] at hQ
  have hzl2 : (toI (zerosL c.ct c.ct.length)).length = c.dn.length + (readyI p c.dn).length := by rw [toI_len]; exact hzl
  have hza2 : ∀ {z : Int}, z ∈ toI (zerosL c.ct c.ct.length) ↔ z ∈ c.dn ∨ z ∈ readyI p c.dn := fun {z} => hza
  generalize toI (zerosL c.ct c.ct.length) = zs at hZ hzl2 hza2
  have hrl := readyI_len_le p c.dn
  refine WT_while (fun s : Nat => [(4, ptr g), (7, zv), (8, qv), (9, .int .i64 (s : Int))]) (fun s w => s ≤ zs.length ∧ H w h' (Q :: Z :: crbox g dv cv nv rv :: Ls)) (fun s => zs.length - s) 0 (by repeat (first | exact trivial | refine ⟨rfl, ?_⟩)) ⟨by omega, hH7⟩ ?_
  clear hH5 hH6 hH7
  rintro k w9 ⟨hk, hH⟩ again
  refine WT_seq ?_
  refine WT_seq ?_
  refine WT_region ?_
  refine WL_v rfl (ov_move rfl) ?_
  refine WL_v rfl (ov_move rfl) ?_
  refine WL_v rfl (ov_len rfl hZ.sl st_sl_int) ?_
  refine WL_v rfl (ov_lss rfl rfl) ?_
  refine WL_nil ?_
  refine WT_cond rfl (fun hc2 => ?_) (fun hc2 => ?_)
  · skip
    first | with_reducible replace hc2 := of_decide_eq_true hc2 | with_reducible replace hc2 := bn_T hc2 | with_reducible replace hc2 := bb_T hc2 | skip
    have hkl : k < zs.length := by omega
    have hZr : RdL h' (Q :: Z :: crbox g dv cv nv rv :: Ls) zv zs := hZ.rdl (i := 1) rfl
    have h1 := fun {w : World} (hH : H w h' (Q :: Z :: crbox g dv cv nv rv :: Ls)) => hasInt_ok hH (hR _).dn zs[k]
    have h2 := fun {w : World} (hH : H w h' (Q :: Z :: crbox g dv cv nv rv :: Ls)) => hasInt_ok hH (hQ.rdl (i := 0) rfl) zs[k]
    have hne : (decide (zs[k] ∈ c.dn) == decide (zs[k] ∈ readyI p c.dn)) = false := by
      rcases hza2.1 (List.getElem_mem hkl) with h3 | h3
      · rw [decide_eq_true h3, decide_eq_false (hdisj h3)]; rfl
      · rw [decide_eq_true h3, decide_eq_false (fun hh => hdisj hh h3)]; rfl
    refine WT_skip ?_
    refine WT_seq ?_
    refine WT_block ?_
    refine WT_seq ?_
    refine WT_quiet mixed (by kernel_rfl) hH ?_
    clear hH
    refine WQ_v rfl (fun _ _ => ov_field rfl fo_impl_Crew_2) ?_
    refine WQ_v rfl (fun _ hH => ov_load rfl one_sl_int (hH.cb 2 rfl 2)) ?_
    refine WQ_v rfl (fun _ _ => ov_move rfl) ?_
    refine WQ_v rfl (fun _ _ => ov_move rfl) ?_
    refine WQ_v rfl (fun _ _ => ov_index rfl rfl st_sl_int hZ.sl hkl) ?_
    refine WQ_v rfl (fun _ hH => ov_load rfl one_int (hZr.cell hH hkl)) ?_
    refine WQ_call rfl rfl cf_laws_hasInt (fun _ hH => h1 hH) ?_
    refine WQ_v rfl (fun _ _ => ov_move rfl) ?_
    refine WQ_v rfl (fun _ _ => ov_move rfl) ?_
    refine WQ_v rfl (fun _ _ => ov_move rfl) ?_
    refine WQ_v rfl (fun _ _ => ov_index rfl rfl st_sl_int hZ.sl hkl) ?_
    refine WQ_v rfl (fun _ hH => ov_load rfl one_int (hZr.cell hH hkl)) ?_
    refine WQ_call rfl rfl cf_laws_hasInt (fun _ hH => h2 hH) ?_
    refine WQ_v rfl (fun _ _ => ov_F (ov_eqlB rfl rfl Tryz.underlying4) (by simpa using hne)) ?_
    refine WQ_nil ?_
    intro w10 hH
    refine WT_condF rfl ?_
    refine WT_skip ?_
    refine WT_inBlock ?_
    refine WT_region ?_
    refine WL_v rfl (ov_move rfl) ?_
    refine WL_v rfl (ov_add rfl rfl (by omega)) ?_
    refine WL_v rfl (ov_assign rfl) ?_
    refine WL_nil ?_
    refine again (k + 1) _ _ (by omega) (by repeat (first | exact trivial | refine ⟨rfl, ?_⟩)) ⟨by omega, hH⟩
  first | with_reducible replace hc2 := of_decide_eq_false hc2 | with_reducible replace hc2 := bn_F hc2 | with_reducible replace hc2 := bb_F hc2 | skip
  refine WT_exit rfl ?_
  refine WT_seq ?_
  refine WT_region ?_
  refine WL_v rfl (ov_move rfl) ?_
  refine WL_v rfl (ov_len rfl hZ.sl st_sl_int) ?_
  refine WL_v rfl (ov_field rfl fo_impl_Crew_2) ?_
  refine WL_v rfl (ov_load rfl one_sl_int (hH.cb 2 rfl 2)) ?_
  refine WL_v rfl (ov_len rfl (hR []).dn.sl st_sl_int) ?_
  refine WL_v rfl (ov_move rfl) ?_
  refine WL_v rfl (ov_len rfl hQ.sl st_sl_int) ?_
  refine WL_v rfl (ov_add rfl rfl (by omega)) ?_
  refine WL_v rfl (ov_eql rfl rfl) ?_
  refine WL_v rfl (ov_assign rfl) ?_
  refine WL_nil ?_
  exact WT_ret1 Tryz.func9 Tryz.results9 rfl ⟨congrArg Value.bool (decide_eq_true (by omega)), hH.drop.drop.drop.weak hle⟩

theorem fnCrewLeft_walk (hH : H w h Ls) {xv : Value} {bs : List Int} (hB : Bytes h xv bs) : Rets Tryz.prog 4 #[xv] w fun v w' => v = .bool true ∧ H w' h Ls := by
  refine rets_enter Tryz.func4 rfl Tryz.ntmps4 (by simp) ?_
  refine WT_seq ?_
  refine WT_region ?_
  refine WL_v rfl (ov_assign rfl) ?_
  refine WL_nil ?_
  refine WT_seq ?_
  refine WT_seq ?_
  refine WT_region ?_
  refine WL_v rfl (ov_move rfl) ?_
  refine WL_v rfl (ov_len rfl hB.sl st_sl_uint8) ?_
  refine WL_v rfl (ov_gtr rfl rfl) ?_
  refine WL_nil ?_
  refine WT_cond rfl (fun hl => ?_) (fun hl => ?_)
  · skip
    first | with_reducible replace hl := of_decide_eq_true hl | with_reducible replace hl := bn_T hl | with_reducible replace hl := bb_T hl | skip
    refine WT_seq ?_
    refine WT_region ?_
    refine WL_v rfl (ov_assign rfl) ?_
    refine WL_nil ?_
    exact WT_ret1 Tryz.func4 Tryz.results4 rfl ⟨rfl, hH⟩
  first | with_reducible replace hl := of_decide_eq_false hl | with_reducible replace hl := bn_F hl | with_reducible replace hl := bb_F hl | skip
  refine WT_skip ?_
  refine WT_seq ?_
  refine WT_region ?_
  refine WL_v rfl (ov_move rfl) ?_
  refine WL_call rfl rfl cf_spec_DrawCrewLeft (drawCrewLeft_ok hH hB) ?_; rintro _ w1 ⟨pv, dv, cv, nv, rv, rfl, h', p, c, hle, hP, hpl, hR, hlim, hH1⟩
  refine WL_v rfl (ov_move rfl) ?_
  refine WL_v rfl (ov_extract rfl rfl) ?_
  refine WL_v rfl (ov_extract rfl rfl) ?_
  refine WL_alloc _ rfl hH1 zero_crew rfl ?_; rintro g w2 hH2
  refine WL_v rfl (ov_assign rfl) ?_
  refine WL_storeN hH2 rfl rfl (i := 0) rfl rfl rfl (ones_cons (hR []).dq.sl.one (ones_cons (hR []).ct.sl.one (ones_cons (hR []).dn.sl.one (ones_cons (hR []).rw.sl.one ones_nil)))) sz_impl_Crew ?_; rintro w3 hH3
  refine WL_nil ?_
  refine WT_seq ?_
  refine WT_region ?_
  refine WL_v rfl (ov_move rfl) ?_
  refine WL_v rfl (ov_loadN [dv, cv, nv, rv] rfl agg_impl_Crew rfl ((loadCrew (i := 0) rfl hH3))) ?_
  refine WL_call rfl rfl cf_impl_CrewLeft (crewLeft_ok hH3 hP hlim (hR _)) ?_; rintro _ w4 ⟨rfl, hH4⟩
  refine WL_v rfl (ov_assign rfl) ?_
  refine WL_nil ?_
  refine WT_seq ?_
  refine WT_region ?_
  refine WL_v rfl (ov_move rfl) ?_
  refine WL_v rfl (ov_loadN [dv, cv, nv, rv] rfl agg_impl_Crew rfl ((loadCrew (i := 0) rfl hH4))) ?_
  refine WL_call rfl rfl cf_spec_CrewLeft (sCrewLeft_ok hH4 hP (by omega) hlim (hR _)) ?_; rintro _ w5 ⟨rfl, hH5⟩
  refine WL_v rfl (ov_assign rfl) ?_
  refine WL_nil ?_
  refine WT_seq ?_
  refine WT_seq ?_
  refine WT_region ?_
  refine WL_v rfl (ov_move rfl) ?_
  refine WL_v rfl (ov_move rfl) ?_
  refine WL_v rfl (ov_F (ov_neq rfl rfl) (by first | exact decide_eq_false rfl | exact nb_F rfl | exact mb_F rfl | exact rfl | (simp only [decide_eq_false_iff_not]; omega) | simpa using rfl)) ?_
  refine WL_v rfl (ov_move rfl) ?_
  clear hH hH1 hH2 hH3 hH4
  by_cases hneg : crewLeft p c < 0
  case pos =>
    refine WL_guardOn rfl rfl ?_
    refine WL_v rfl (ov_move rfl) ?_
    refine WL_guardOn rfl rfl ?_
    refine WL_v rfl (ov_T (ov_lss rfl rfl) (by first | exact decide_eq_true hneg | exact nb_T hneg | exact mb_T hneg | exact hneg | (simp only [decide_eq_true_eq]; omega) | simpa using hneg)) ?_
    refine WL_v rfl (ov_pickF rfl rfl) ?_
    refine WL_nil ?_
    refine WT_condT rfl ?_
    refine WT_seq ?_
    refine WT_region ?_
    refine WL_v rfl (ov_move rfl) ?_
    refine WL_v rfl (ov_move rfl) ?_
    refine WL_v rfl (ov_T (ov_eql rfl rfl) (by first | exact decide_eq_true rfl | exact nb_T rfl | exact mb_T rfl | exact rfl | (simp only [decide_eq_true_eq]; omega) | simpa using rfl)) ?_
    refine WL_v rfl (ov_assign rfl) ?_
    refine WL_nil ?_
    exact WT_ret1 Tryz.func4 Tryz.results4 rfl ⟨rfl, hH5.drop.weak hle⟩
  refine WL_guardOn rfl rfl ?_
  refine WL_v rfl (ov_move rfl) ?_
  refine WL_guardOn rfl rfl ?_
  refine WL_v rfl (ov_F (ov_lss rfl rfl) (by first | exact decide_eq_false hneg | exact nb_F hneg | exact mb_F hneg | exact hneg | (simp only [decide_eq_false_iff_not]; omega) | simpa using hneg)) ?_
  refine WL_v rfl (ov_pickF rfl rfl) ?_
  refine WL_nil ?_
  refine WT_condF rfl ?_
  have hv : crewOk p c = true := by
    cases hh : crewOk p c with
    | true => rfl
    | false => rw [crewLeft, hh] at hneg; simp at hneg
  have hok := (crewOk_iff p c).1 hv
  have hcl : crewLeft p c = (p.length : Int) - (c.dn.length : Int) := by rw [crewLeft, if_pos hv]
  have hld := hlim.dd
  have hlq := hlim.dq
  have hlen := PlanOk.len hok.plan
  have hsum := hok.sum_le
  have hall := hok.all
  have hsz := hok.size
  have hps := hP.sl
  rw [hcl]
  refine WT_skip ?_
  refine WT_seq ?_
  refine WT_region ?_
  refine WL_v rfl (ov_assign rfl) ?_
  refine WL_nil ?_
  refine WT_seq ?_
  refine WT_seq ?_
  refine WT_region ?_
  refine WL_v rfl (ov_assign rfl) ?_
  refine WL_nil ?_
  refine WT_block ?_
  refine WT_while (fun s : Nat => [(3, pv), (4, ptr g), (5, .int .i64 ((p.length : Int) - (c.dn.length : Int))), (7, .int .i64 ((c.dq.take s).flatten.length : Int)), (8, .int .i64 (s : Int))]) (fun s w => s ≤ c.dq.length ∧ H w h' (crbox g dv cv nv rv :: Ls)) (fun s => c.dq.length - s) 0 (by repeat (first | exact trivial | refine ⟨rfl, ?_⟩)) ⟨by omega, hH5⟩ ?_
  clear hH5
  rintro k w6 ⟨hk, hH⟩ again
  refine WT_seq ?_
  refine WT_seq ?_
  refine WT_region ?_
  refine WL_v rfl (ov_move rfl) ?_
  refine WL_v rfl (ov_field rfl fo_impl_Crew_0) ?_
  refine WL_v rfl (ov_load rfl one_sl_sl_int (hH.cb 0 rfl 0)) ?_
  refine WL_v rfl (ov_len rfl (hR []).dq.sl st_sl_sl_int) ?_
  refine WL_v rfl (ov_lss rfl rfl) ?_
  refine WL_nil ?_
  refine WT_cond rfl (fun hc => ?_) (fun hc => ?_)
  · skip
    first | with_reducible replace hc := of_decide_eq_true hc | with_reducible replace hc := bn_T hc | with_reducible replace hc := bb_T hc | skip
    have hkl : k < c.dq.length := by omega
    obtain ⟨u, h1, h2⟩ := (hR (crbox g dv cv nv rv :: Ls)).dq.at_ hkl
    have htf := take_flat hkl
    have hle3 := take_flat_le c.dq (k + 1)
    have hle2 : (c.dq.take (k + 1)).flatten.length = (c.dq.take k).flatten.length + c.dq[k].length := by rw [htf, List.length_append]
    refine WT_skip ?_
    refine WT_seq ?_
    refine WT_block ?_
    refine WT_region ?_
    refine WL_v rfl (ov_move rfl) ?_
    refine WL_v rfl (ov_field rfl fo_impl_Crew_0) ?_
    refine WL_v rfl (ov_load rfl one_sl_sl_int (hH.cb 0 rfl 0)) ?_
    refine WL_v rfl (ov_move rfl) ?_
    refine WL_v rfl (ov_index rfl rfl st_sl_sl_int (hR []).dq.sl hkl) ?_
    refine WL_v rfl (ov_load rfl one_sl_int (h2 hH)) ?_
    refine WL_v rfl (ov_len rfl h1.sl st_sl_int) ?_
    refine WL_v rfl (ov_as (ov_add rfl rfl (by omega)) (congrArg (Value.int .i64) ((show ((c.dq.take k).flatten.length : Int) + (c.dq[k].length : Int) = ((c.dq.take (k + 1)).flatten.length : Int) by omega)))) ?_
    refine WL_v rfl (ov_assign rfl) ?_
    refine WL_nil ?_
    refine WT_inBlock ?_
    refine WT_region ?_
    refine WL_v rfl (ov_move rfl) ?_
    refine WL_v rfl (ov_add rfl rfl (by omega)) ?_
    refine WL_v rfl (ov_assign rfl) ?_
    refine WL_nil ?_
    refine again (k + 1) _ _ (by omega) (by repeat (first | exact trivial | refine ⟨rfl, ?_⟩)) ⟨by omega, hH⟩
  first | with_reducible replace hc := of_decide_eq_false hc | with_reducible replace hc := bn_F hc | with_reducible replace hc := bb_F hc | skip
  obtain rfl : k = c.dq.length := by omega
  rw [List.take_length]
  have hiff : ((p.length : Int) - (c.dn.length : Int) = 0) ↔ ((c.dq.flatten.length : Int) = 0) := by
    constructor
    · intro h0
      have h9 := hall.2 (by omega)
      rw [h9, List.length_nil] at hsz
      omega
    · intro h0
      have := hall.1 (List.eq_nil_of_length_eq_zero (by omega))
      omega
  refine WT_exit rfl ?_
  refine WT_seq ?_
  refine WT_region ?_
  refine WL_v rfl (ov_move rfl) ?_
  refine WL_v rfl (ov_eql rfl rfl) ?_
  refine WL_v rfl (ov_move rfl) ?_
  refine WL_v rfl (ov_eql rfl rfl) ?_
  refine WL_v rfl (ov_T (ov_eqlB rfl rfl Tryz.underlying4) (by rw [decide_eq_decide.2 hiff]; exact decide_eq_true rfl)) ?_
  refine WL_v rfl (ov_move rfl) ?_
  refine WL_guardOn rfl rfl ?_
  refine WL_v rfl (ov_move rfl) ?_
  refine WL_guardOn rfl rfl ?_
  refine WL_v rfl (ov_move rfl) ?_
  refine WL_guardOn rfl rfl ?_
  refine WL_v rfl (ov_T (ov_geq rfl rfl) (by first | exact decide_eq_true (by omega) | exact nb_T (by omega) | exact mb_T (by omega) | exact (by omega) | (simp only [decide_eq_true_eq]; omega) | simpa using (by omega))) ?_
  refine WL_v rfl (ov_pickT rfl rfl) ?_
  refine WL_v rfl (ov_move rfl) ?_
  refine WL_guardOn rfl rfl ?_
  refine WL_v rfl (ov_move rfl) ?_
  refine WL_guardOn rfl rfl ?_
  refine WL_v rfl (ov_field rfl fo_impl_Crew_2) ?_
  refine WL_guardOn rfl rfl ?_
  refine WL_v rfl (ov_load rfl one_sl_int (hH.cb 0 rfl 2)) ?_
  refine WL_guardOn rfl rfl ?_
  refine WL_v rfl (ov_len rfl (hR []).dn.sl st_sl_int) ?_
  refine WL_guardOn rfl rfl ?_
  refine WL_v rfl (ov_add rfl rfl (by omega)) ?_
  refine WL_guardOn rfl rfl ?_
  refine WL_v rfl (ov_move rfl) ?_
  refine WL_guardOn rfl rfl ?_
  refine WL_v rfl (ov_len rfl hps st_sl_impl_Node) ?_
  refine WL_guardOn rfl rfl ?_
  refine WL_v rfl (ov_T (ov_eql rfl rfl) (by first | exact decide_eq_true (by omega) | exact nb_T (by omega) | exact mb_T (by omega) | exact (by omega) | (simp only [decide_eq_true_eq]; omega) | simpa using (by omega))) ?_
  refine WL_v rfl (ov_pickT rfl rfl) ?_
  refine WL_v rfl (ov_assign rfl) ?_
  refine WL_nil ?_
  exact WT_ret1 Tryz.func4 Tryz.results4 rfl ⟨rfl, hH.drop.weak hle⟩

theorem fnTurnFrom_walk (hH : H w h Ls) {xv : Value} {bs : List Int} (hB : Bytes h xv bs) : Rets Tryz.prog 5 #[xv] w fun v w' => v = .bool true ∧ H w' h Ls := by
  refine rets_enter Tryz.func5 rfl Tryz.ntmps5 (by simp) ?_
  refine WT_seq ?_
  refine WT_region ?_
  refine WL_v rfl (ov_assign rfl) ?_
  refine WL_nil ?_
  refine WT_seq ?_
  refine WT_seq ?_
  refine WT_region ?_
  refine WL_v rfl (ov_move rfl) ?_
  refine WL_v rfl (ov_len rfl hB.sl st_sl_uint8) ?_
  refine WL_v rfl (ov_gtr rfl rfl) ?_
  refine WL_nil ?_
  refine WT_cond rfl (fun hl => ?_) (fun hl => ?_)
  · skip
    first | with_reducible replace hl := of_decide_eq_true hl | with_reducible replace hl := bn_T hl | with_reducible replace hl := bb_T hl | skip
    refine WT_seq ?_
    refine WT_region ?_
    refine WL_v rfl (ov_assign rfl) ?_
    refine WL_nil ?_
    exact WT_ret1 Tryz.func5 Tryz.results5 rfl ⟨rfl, hH⟩
  first | with_reducible replace hl := of_decide_eq_false hl | with_reducible replace hl := bn_F hl | with_reducible replace hl := bb_F hl | skip
  refine WT_skip ?_
  refine WT_seq ?_
  refine WT_region ?_
  refine WL_v rfl (ov_move rfl) ?_
  refine WL_call rfl rfl cf_spec_DrawTurnFrom (drawTurnFrom_ok hH hB) ?_; rintro _ w1 ⟨pv, dv, cv, nv, rv, a, rfl, ha1, ha2, h', p, c, hle, hP, hpl, hR, hlim, hH1⟩
  refine WL_v rfl (ov_move rfl) ?_
  refine WL_v rfl (ov_extract rfl rfl) ?_
  refine WL_v rfl (ov_extract rfl rfl) ?_
  refine WL_v rfl (ov_extract rfl rfl) ?_
  refine WL_alloc _ rfl hH1 zero_crew rfl ?_; rintro g w2 hH2
  refine WL_v rfl (ov_assign rfl) ?_
  refine WL_storeN hH2 rfl rfl (i := 0) rfl rfl rfl (ones_cons (hR []).dq.sl.one (ones_cons (hR []).ct.sl.one (ones_cons (hR []).dn.sl.one (ones_cons (hR []).rw.sl.one ones_nil)))) sz_impl_Crew ?_; rintro w3 hH3
  refine WL_v rfl (ov_assign rfl) ?_
  refine WL_nil ?_
  refine WT_seq ?_
  refine WT_region ?_
  refine WL_v rfl (ov_move rfl) ?_
  refine WL_v rfl (ov_loadN [dv, cv, nv, rv] rfl agg_impl_Crew rfl ((loadCrew (i := 0) rfl hH3))) ?_
  refine WL_v rfl (ov_move rfl) ?_
  refine WL_call rfl rfl cf_impl_TurnFrom (turnFrom_ok hH3 hP hlim (hR _) a) ?_; rintro _ w4 ⟨rfl, hH4⟩
  refine WL_v rfl (ov_assign rfl) ?_
  refine WL_nil ?_
  refine WT_seq ?_
  refine WT_region ?_
  refine WL_v rfl (ov_move rfl) ?_
  refine WL_v rfl (ov_loadN [dv, cv, nv, rv] rfl agg_impl_Crew rfl ((loadCrew (i := 0) rfl hH4))) ?_
  refine WL_v rfl (ov_move rfl) ?_
  refine WL_call rfl rfl cf_spec_TurnFrom (sTurnFrom_ok hH4 hP (by omega) hlim (hR _) a) ?_; rintro _ w5 ⟨rfl, hH5⟩
  refine WL_v rfl (ov_assign rfl) ?_
  refine WL_nil ?_
  refine WT_seq ?_
  refine WT_seq ?_
  refine WT_region ?_
  refine WL_v rfl (ov_move rfl) ?_
  refine WL_v rfl (ov_move rfl) ?_
  refine WL_v rfl (ov_F (ov_neq rfl rfl) (by first | exact decide_eq_false rfl | exact nb_F rfl | exact mb_F rfl | exact rfl | (simp only [decide_eq_false_iff_not]; omega) | simpa using rfl)) ?_
  refine WL_v rfl (ov_move rfl) ?_
  clear hH hH1 hH2 hH3 hH4
  by_cases hneg : crewFrom p c a < 0
  case pos =>
    refine WL_guardOn rfl rfl ?_
    refine WL_v rfl (ov_move rfl) ?_
    refine WL_guardOn rfl rfl ?_
    refine WL_v rfl (ov_T (ov_lss rfl rfl) (by first | exact decide_eq_true hneg | exact nb_T hneg | exact mb_T hneg | exact hneg | (simp only [decide_eq_true_eq]; omega) | simpa using hneg)) ?_
    refine WL_v rfl (ov_pickF rfl rfl) ?_
    refine WL_nil ?_
    refine WT_condT rfl ?_
    refine WT_seq ?_
    refine WT_region ?_
    refine WL_v rfl (ov_move rfl) ?_
    refine WL_v rfl (ov_move rfl) ?_
    refine WL_v rfl (ov_T (ov_eql rfl rfl) (by first | exact decide_eq_true rfl | exact nb_T rfl | exact mb_T rfl | exact rfl | (simp only [decide_eq_true_eq]; omega) | simpa using rfl)) ?_
    refine WL_v rfl (ov_assign rfl) ?_
    refine WL_nil ?_
    exact WT_ret1 Tryz.func5 Tryz.results5 rfl ⟨rfl, hH5.drop.weak hle⟩
  refine WL_guardOn rfl rfl ?_
  refine WL_v rfl (ov_move rfl) ?_
  refine WL_guardOn rfl rfl ?_
  refine WL_v rfl (ov_F (ov_lss rfl rfl) (by first | exact decide_eq_false hneg | exact nb_F hneg | exact mb_F hneg | exact hneg | (simp only [decide_eq_false_iff_not]; omega) | simpa using hneg)) ?_
  refine WL_v rfl (ov_pickF rfl rfl) ?_
  refine WL_nil ?_
  refine WT_condF rfl ?_
  have hcf : crewOk p c = true ∧ 0 ≤ a ∧ a < (c.dq.length : Int) := by
    by_cases hh : crewOk p c = true ∧ 0 ≤ a ∧ a < (c.dq.length : Int)
    · exact hh
    · rw [crewFrom, if_neg hh] at hneg; omega
  obtain ⟨hv, hw0, hw1⟩ := hcf
  obtain ⟨k, rfl⟩ := Int.eq_ofNat_of_zero_le hw0
  have hkn : k < c.dq.length := by omega
  have hcv : crewFrom p c (k : Int) = fromW c.dq k := by rw [crewFrom, if_pos ⟨hv, hw0, hw1⟩, Int.toNat_natCast]
  rw [hcv] at hneg ⊢
  rcases fromW_spec c.dq k with ⟨hm1, _⟩ | ⟨s, hs, hfr, hne, hemp⟩
  · rw [hm1] at hneg; omega
  rw [hfr]
  have hmm : (k + s) % c.dq.length < c.dq.length := Nat.mod_lt _ (by omega)
  generalize hme : (k + s) % c.dq.length = m at hmm hne
  obtain ⟨u, h1, h2⟩ := (hR (crbox g dv cv nv rv :: Ls)).dq.at_ hmm
  obtain ⟨u3, h3, h4⟩ := (hR (crbox g dv cv nv rv :: Ls)).dq.at_ hkn
  rw [getLD hmm] at hne
  have hpos : 0 < c.dq[m].length := List.length_pos_iff.2 hne
  have hk0 : c.dq[k].length = 0 ∨ m = k := by
    rcases Nat.eq_zero_or_pos s with h0 | h0
    · subst h0
      rw [Nat.add_zero, Nat.mod_eq_of_lt hkn] at hme
      exact .inr hme.symm
    · have := hemp 0 h0
      rw [Nat.add_zero, Nat.mod_eq_of_lt hkn, getLD hkn] at this
      rw [this]
      exact .inl rfl
  by_cases hz : c.dq[k].length = 0
  · skip
    refine WT_skip ?_
    refine WT_seq ?_
    refine WT_region ?_
    refine WL_v rfl (ov_field rfl fo_impl_Crew_0) ?_
    refine WL_v rfl (ov_load rfl one_sl_sl_int (hH5.cb 0 rfl 0)) ?_
    refine WL_v rfl (ov_move rfl) ?_
    refine WL_v rfl (ov_index rfl rfl st_sl_sl_int (hR []).dq.sl hmm) ?_
    refine WL_v rfl (ov_load rfl one_sl_int (h2 hH5)) ?_
    refine WL_v rfl (ov_len rfl h1.sl st_sl_int) ?_
    refine WL_v rfl (ov_T (ov_gtr rfl rfl) (by first | exact decide_eq_true (by omega) | exact nb_T (by omega) | exact mb_T (by omega) | exact (by omega) | (simp only [decide_eq_true_eq]; omega) | simpa using (by omega))) ?_
    refine WL_v rfl (ov_move rfl) ?_
    refine WL_guardOn rfl rfl ?_
    refine WL_v rfl (ov_field rfl fo_impl_Crew_0) ?_
    refine WL_guardOn rfl rfl ?_
    refine WL_v rfl (ov_load rfl one_sl_sl_int (hH5.cb 0 rfl 0)) ?_
    refine WL_guardOn rfl rfl ?_
    refine WL_v rfl (ov_move rfl) ?_
    refine WL_guardOn rfl rfl ?_
    refine WL_v rfl (ov_index rfl rfl st_sl_sl_int (hR []).dq.sl hkn) ?_
    refine WL_guardOn rfl rfl ?_
    refine WL_v rfl (ov_load rfl one_sl_int (h4 hH5)) ?_
    refine WL_guardOn rfl rfl ?_
    refine WL_v rfl (ov_len rfl h3.sl st_sl_int) ?_
    refine WL_guardOn rfl rfl ?_
    refine WL_v rfl (ov_T (ov_eql rfl rfl) (by first | exact decide_eq_true (by omega) | exact nb_T (by omega) | exact mb_T (by omega) | exact (by omega) | (simp only [decide_eq_true_eq]; omega) | simpa using (by omega))) ?_
    refine WL_guardOn rfl rfl ?_
    refine WL_v rfl (ov_move rfl) ?_
    refine WL_guardOff rfl rfl rfl rfl ?_
    refine WL_guardOff rfl rfl rfl rfl ?_
    refine WL_guardOff rfl rfl rfl rfl ?_
    refine WL_guardOn rfl rfl ?_
    refine WL_v rfl (ov_pickT rfl rfl) ?_
    refine WL_v rfl (ov_pickT rfl rfl) ?_
    refine WL_v rfl (ov_assign rfl) ?_
    refine WL_nil ?_
    exact WT_ret1 Tryz.func5 Tryz.results5 rfl ⟨rfl, hH5.drop.weak hle⟩
  · skip
    have hmk : m = k := by omega
    refine WT_skip ?_
    refine WT_seq ?_
    refine WT_region ?_
    refine WL_v rfl (ov_field rfl fo_impl_Crew_0) ?_
    refine WL_v rfl (ov_load rfl one_sl_sl_int (hH5.cb 0 rfl 0)) ?_
    refine WL_v rfl (ov_move rfl) ?_
    refine WL_v rfl (ov_index rfl rfl st_sl_sl_int (hR []).dq.sl hmm) ?_
    refine WL_v rfl (ov_load rfl one_sl_int (h2 hH5)) ?_
    refine WL_v rfl (ov_len rfl h1.sl st_sl_int) ?_
    refine WL_v rfl (ov_T (ov_gtr rfl rfl) (by first | exact decide_eq_true (by omega) | exact nb_T (by omega) | exact mb_T (by omega) | exact (by omega) | (simp only [decide_eq_true_eq]; omega) | simpa using (by omega))) ?_
    refine WL_v rfl (ov_move rfl) ?_
    refine WL_guardOn rfl rfl ?_
    refine WL_v rfl (ov_field rfl fo_impl_Crew_0) ?_
    refine WL_guardOn rfl rfl ?_
    refine WL_v rfl (ov_load rfl one_sl_sl_int (hH5.cb 0 rfl 0)) ?_
    refine WL_guardOn rfl rfl ?_
    refine WL_v rfl (ov_move rfl) ?_
    refine WL_guardOn rfl rfl ?_
    refine WL_v rfl (ov_index rfl rfl st_sl_sl_int (hR []).dq.sl hkn) ?_
    refine WL_guardOn rfl rfl ?_
    refine WL_v rfl (ov_load rfl one_sl_int (h4 hH5)) ?_
    refine WL_guardOn rfl rfl ?_
    refine WL_v rfl (ov_len rfl h3.sl st_sl_int) ?_
    refine WL_guardOn rfl rfl ?_
    refine WL_v rfl (ov_F (ov_eql rfl rfl) (by first | exact decide_eq_false (by omega) | exact nb_F (by omega) | exact mb_F (by omega) | exact (by omega) | (simp only [decide_eq_false_iff_not]; omega) | simpa using (by omega))) ?_
    refine WL_guardOn rfl rfl ?_
    refine WL_v rfl (ov_move rfl) ?_
    refine WL_guardOn rfl rfl ?_
    refine WL_v rfl (ov_move rfl) ?_
    refine WL_guardOn rfl rfl ?_
    refine WL_v rfl (ov_move rfl) ?_
    refine WL_guardOn rfl rfl ?_
    refine WL_v rfl (ov_T (ov_eql rfl rfl) (by first | exact decide_eq_true (by omega) | exact nb_T (by omega) | exact mb_T (by omega) | exact (by omega) | (simp only [decide_eq_true_eq]; omega) | simpa using (by omega))) ?_
    refine WL_guardOn rfl rfl ?_
    refine WL_v rfl (ov_pickF rfl rfl) ?_
    refine WL_v rfl (ov_pickT rfl rfl) ?_
    refine WL_v rfl (ov_assign rfl) ?_
    refine WL_nil ?_
    exact WT_ret1 Tryz.func5 Tryz.results5 rfl ⟨rfl, hH5.drop.weak hle⟩

end
end Go.Proofs.YtlmdmgjppdhelaaGreat
