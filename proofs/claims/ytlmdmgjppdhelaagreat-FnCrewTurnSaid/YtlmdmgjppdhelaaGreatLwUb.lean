/- The laws TurnFromNone, TurnFromNext, CrewAt, CrewAtNone, CrewRows, CrewTurn: their walks. -/
import Derived.Test.YtlmdmgjppdhelaaGreatBd6
namespace Go.Proofs.YtlmdmgjppdhelaaGreat
open Go.RowKit

theorem swap_flat {dq : List (List Int)} (h : 0 < dq.length) : ((dq.set 0 (dq[dq.length - 1]'(by omega))).set (dq.length - 1) dq[0]).flatten.Perm dq.flatten := by
  match dq, h with
  | [x], _ => simp
  | x :: y :: r, h =>
    obtain ⟨M, z, hM⟩ : ∃ M z, y :: r = M ++ [z] := ⟨(y :: r).dropLast, (y :: r).getLast (by simp), (List.dropLast_concat_getLast (by simp)).symm⟩
    generalize hl : y :: r = q at hM h
    subst hM
    have h1 : (x :: (M ++ [z]))[(x :: (M ++ [z])).length - 1]'(by simp) = z := by simp
    have h2 : (x :: (M ++ [z])).length - 1 = M.length + 1 := by simp
    have h3 : ((x :: (M ++ [z])).set 0 z).set (M.length + 1) x = z :: (M ++ [x]) := by
      simp only [List.set_cons_zero, List.set_cons_succ]
      rw [List.set_append_right _ _ (Nat.le_refl _), Nat.sub_self]
      rfl
    simp only [h1, List.getElem_cons_zero]
    rw [h2, h3]
    simp only [List.flatten_cons, List.flatten_append, List.flatten_nil, List.append_nil]
    rw [← List.append_assoc, ← List.append_assoc]
    refine List.perm_append_comm.trans ?_
    rw [List.append_assoc]
    exact List.Perm.append_left x List.perm_append_comm

section
variable {h : GH} {Ls : List Heaplet} {w : World}

theorem fnTurnFromNone_walk (hH : H w h Ls) {xv : Value} {bs : List Int} (hB : Bytes h xv bs) : Rets Tryz.prog 8 #[xv] w fun v w' => v = .bool true ∧ H w' h Ls := by
  refine rets_enter Tryz.func8 rfl Tryz.ntmps8 (by simp) ?_
  refine WT_seq ?_
  refine WT_region ?_
  refine WL_v rfl (ov_assign rfl) ?_
  refine WL_nil ?_
  refine WT_seq ?_
  refine WT_seq ?_
  refine WT_region ?_
  refine WL_v rfl (ov_move rfl) ?_
  refine WL_v rfl (ov_len rfl hB.sl st_sl_uint8) ?_
  refine WL_v rfl (ov_gtr rfl rfl) ?_
  refine WL_nil ?_
  refine WT_cond rfl (fun hl => ?_) (fun hl => ?_)
  · skip
    first | with_reducible replace hl := of_decide_eq_true hl | with_reducible replace hl := bn_T hl | with_reducible replace hl := bb_T hl | skip
    refine WT_seq ?_
    refine WT_region ?_
    refine WL_v rfl (ov_assign rfl) ?_
    refine WL_nil ?_
    exact WT_ret1 Tryz.func8 Tryz.results8 rfl ⟨rfl, hH⟩
  first | with_reducible replace hl := of_decide_eq_false hl | with_reducible replace hl := bn_F hl | with_reducible replace hl := bb_F hl | skip
  refine WT_skip ?_
  refine WT_seq ?_
  refine WT_region ?_
  refine WL_v rfl (ov_move rfl) ?_
  refine WL_call rfl rfl cf_spec_DrawTurnFrom (drawTurnFrom_ok hH hB) ?_; rintro _ w1 ⟨pv, dv, cv, nv, rv, a, rfl, ha1, ha2, h', p, c, hle, hP, hpl, hR, hlim, hH1⟩
  refine WL_v rfl (ov_move rfl) ?_
  refine WL_v rfl (ov_extract rfl rfl) ?_
  refine WL_v rfl (ov_extract rfl rfl) ?_
  refine WL_v rfl (ov_extract rfl rfl) ?_
  refine WL_alloc _ rfl hH1 zero_crew rfl ?_; rintro g w2 hH2
  refine WL_v rfl (ov_assign rfl) ?_
  refine WL_storeN hH2 rfl rfl (i := 0) rfl rfl rfl (ones_cons (hR []).dq.sl.one (ones_cons (hR []).ct.sl.one (ones_cons (hR []).dn.sl.one (ones_cons (hR []).rw.sl.one ones_nil)))) sz_impl_Crew ?_; rintro w3 hH3
  refine WL_v rfl (ov_assign rfl) ?_
  refine WL_nil ?_
  refine WT_seq ?_
  refine WT_region ?_
  refine WL_v rfl (ov_move rfl) ?_
  refine WL_v rfl (ov_loadN [dv, cv, nv, rv] rfl agg_impl_Crew rfl ((loadCrew (i := 0) rfl hH3))) ?_
  refine WL_v rfl (ov_move rfl) ?_
  refine WL_call rfl rfl cf_impl_TurnFrom (turnFrom_ok hH3 hP hlim (hR _) a) ?_; rintro _ w4 ⟨rfl, hH4⟩
  refine WL_v rfl (ov_assign rfl) ?_
  refine WL_nil ?_
  refine WT_seq ?_
  refine WT_region ?_
  refine WL_v rfl (ov_move rfl) ?_
  refine WL_v rfl (ov_loadN [dv, cv, nv, rv] rfl agg_impl_Crew rfl ((loadCrew (i := 0) rfl hH4))) ?_
  refine WL_v rfl (ov_move rfl) ?_
  refine WL_call rfl rfl cf_spec_TurnFrom (sTurnFrom_ok hH4 hP (by omega) hlim (hR _) a) ?_; rintro _ w5 ⟨rfl, hH5⟩
  refine WL_v rfl (ov_assign rfl) ?_
  refine WL_nil ?_
  refine WT_seq ?_
  refine WT_seq ?_
  refine WT_region ?_
  refine WL_v rfl (ov_move rfl) ?_
  refine WL_v rfl (ov_move rfl) ?_
  refine WL_v rfl (ov_F (ov_neq rfl rfl) (by first | exact decide_eq_false rfl | exact nb_F rfl | exact mb_F rfl | exact rfl | (simp only [decide_eq_false_iff_not]; omega) | simpa using rfl)) ?_
  refine WL_v rfl (ov_move rfl) ?_
  clear hH hH1 hH2 hH3 hH4
  have hlq := hlim.dq
  have hscv := fun {w : World} (hH : H w h' (crbox g dv cv nv rv :: Ls)) => sCrewValid_ok hH hP (by omega) hlim (hR _)
  by_cases hv : crewOk p c = true
  case neg =>
    have hv' : crewOk p c = false := by simpa using hv
    rw [hv'] at hscv
    refine WL_guardOn rfl rfl ?_
    refine WL_v rfl (ov_move rfl) ?_
    refine WL_guardOn rfl rfl ?_
    refine WL_v rfl (ov_loadN [dv, cv, nv, rv] rfl agg_impl_Crew rfl ((loadCrew (i := 0) rfl hH5))) ?_
    refine WL_guardOn rfl rfl ?_
    refine WL_call rfl rfl cf_spec_CrewValid (hscv hH5) ?_; rintro _ w6 ⟨rfl, hH6⟩
    refine WL_guardOn rfl rfl ?_
    refine WL_v rfl (ov_not rfl) ?_
    refine WL_v rfl (ov_pickF rfl rfl) ?_
    refine WL_v rfl (ov_move rfl) ?_
    refine WL_guardOff rfl rfl rfl rfl ?_
    refine WL_guardOff rfl rfl rfl rfl ?_
    refine WL_v rfl (ov_pickT rfl rfl) ?_
    refine WL_v rfl (ov_move rfl) ?_
    refine WL_guardOff rfl rfl rfl rfl ?_
    refine WL_guardOff rfl rfl rfl rfl ?_
    refine WL_guardOff rfl rfl rfl rfl ?_
    refine WL_guardOff rfl rfl rfl rfl ?_
    refine WL_guardOff rfl rfl rfl rfl ?_
    refine WL_v rfl (ov_pickT rfl rfl) ?_
    refine WL_nil ?_
    refine WT_condT rfl ?_
    refine WT_seq ?_
    refine WT_region ?_
    refine WL_v rfl (ov_move rfl) ?_
    refine WL_v rfl (ov_move rfl) ?_
    refine WL_v rfl (ov_T (ov_eql rfl rfl) (by first | exact decide_eq_true rfl | exact nb_T rfl | exact mb_T rfl | exact rfl | (simp only [decide_eq_true_eq]; omega) | simpa using rfl)) ?_
    refine WL_v rfl (ov_assign rfl) ?_
    refine WL_nil ?_
    exact WT_ret1 Tryz.func8 Tryz.results8 rfl ⟨rfl, hH6.drop.weak hle⟩
  rw [hv] at hscv
  by_cases h0 : a < 0
  case pos =>
    refine WL_guardOn rfl rfl ?_
    refine WL_v rfl (ov_move rfl) ?_
    refine WL_guardOn rfl rfl ?_
    refine WL_v rfl (ov_loadN [dv, cv, nv, rv] rfl agg_impl_Crew rfl ((loadCrew (i := 0) rfl hH5))) ?_
    refine WL_guardOn rfl rfl ?_
    refine WL_call rfl rfl cf_spec_CrewValid (hscv hH5) ?_; rintro _ w6 ⟨rfl, hH6⟩
    refine WL_guardOn rfl rfl ?_
    refine WL_v rfl (ov_not rfl) ?_
    refine WL_v rfl (ov_pickF rfl rfl) ?_
    refine WL_v rfl (ov_move rfl) ?_
    refine WL_guardOn rfl rfl ?_
    refine WL_v rfl (ov_move rfl) ?_
    refine WL_guardOn rfl rfl ?_
    refine WL_v rfl (ov_T (ov_lss rfl rfl) (by first | exact decide_eq_true h0 | exact nb_T h0 | exact mb_T h0 | exact h0 | (simp only [decide_eq_true_eq]; omega) | simpa using h0)) ?_
    refine WL_v rfl (ov_pickF rfl rfl) ?_
    refine WL_v rfl (ov_move rfl) ?_
    refine WL_guardOff rfl rfl rfl rfl ?_
    refine WL_guardOff rfl rfl rfl rfl ?_
    refine WL_guardOff rfl rfl rfl rfl ?_
    refine WL_guardOff rfl rfl rfl rfl ?_
    refine WL_guardOff rfl rfl rfl rfl ?_
    refine WL_v rfl (ov_pickT rfl rfl) ?_
    refine WL_nil ?_
    refine WT_condT rfl ?_
    refine WT_seq ?_
    refine WT_region ?_
    refine WL_v rfl (ov_move rfl) ?_
    refine WL_v rfl (ov_move rfl) ?_
    refine WL_v rfl (ov_T (ov_eql rfl rfl) (by first | exact decide_eq_true rfl | exact nb_T rfl | exact mb_T rfl | exact rfl | (simp only [decide_eq_true_eq]; omega) | simpa using rfl)) ?_
    refine WL_v rfl (ov_assign rfl) ?_
    refine WL_nil ?_
    exact WT_ret1 Tryz.func8 Tryz.results8 rfl ⟨rfl, hH6.drop.weak hle⟩
  by_cases h1 : (c.dq.length : Int) ≤ a
  case pos =>
    refine WL_guardOn rfl rfl ?_
    refine WL_v rfl (ov_move rfl) ?_
    refine WL_guardOn rfl rfl ?_
    refine WL_v rfl (ov_loadN [dv, cv, nv, rv] rfl agg_impl_Crew rfl ((loadCrew (i := 0) rfl hH5))) ?_
    refine WL_guardOn rfl rfl ?_
    refine WL_call rfl rfl cf_spec_CrewValid (hscv hH5) ?_; rintro _ w6 ⟨rfl, hH6⟩
    refine WL_guardOn rfl rfl ?_
    refine WL_v rfl (ov_not rfl) ?_
    refine WL_v rfl (ov_pickF rfl rfl) ?_
    refine WL_v rfl (ov_move rfl) ?_
    refine WL_guardOn rfl rfl ?_
    refine WL_v rfl (ov_move rfl) ?_
    refine WL_guardOn rfl rfl ?_
    refine WL_v rfl (ov_F (ov_lss rfl rfl) (by first | exact decide_eq_false h0 | exact nb_F h0 | exact mb_F h0 | exact h0 | (simp only [decide_eq_false_iff_not]; omega) | simpa using h0)) ?_
    refine WL_v rfl (ov_pickF rfl rfl) ?_
    refine WL_v rfl (ov_move rfl) ?_
    refine WL_guardOn rfl rfl ?_
    refine WL_v rfl (ov_move rfl) ?_
    refine WL_guardOn rfl rfl ?_
    refine WL_v rfl (ov_field rfl fo_impl_Crew_0) ?_
    refine WL_guardOn rfl rfl ?_
    refine WL_v rfl (ov_load rfl one_sl_sl_int (hH6.cb 0 rfl 0)) ?_
    refine WL_guardOn rfl rfl ?_
    refine WL_v rfl (ov_len rfl (hR []).dq.sl st_sl_sl_int) ?_
    refine WL_guardOn rfl rfl ?_
    refine WL_v rfl (ov_T (ov_geq rfl rfl) (by first | exact decide_eq_true h1 | exact nb_T h1 | exact mb_T h1 | exact h1 | (simp only [decide_eq_true_eq]; omega) | simpa using h1)) ?_
    refine WL_v rfl (ov_pickF rfl rfl) ?_
    refine WL_nil ?_
    refine WT_condT rfl ?_
    refine WT_seq ?_
    refine WT_region ?_
    refine WL_v rfl (ov_move rfl) ?_
    refine WL_v rfl (ov_move rfl) ?_
    refine WL_v rfl (ov_T (ov_eql rfl rfl) (by first | exact decide_eq_true rfl | exact nb_T rfl | exact mb_T rfl | exact rfl | (simp only [decide_eq_true_eq]; omega) | simpa using rfl)) ?_
    refine WL_v rfl (ov_assign rfl) ?_
    refine WL_nil ?_
    exact WT_ret1 Tryz.func8 Tryz.results8 rfl ⟨rfl, hH6.drop.weak hle⟩
  refine WL_guardOn rfl rfl ?_
  refine WL_v rfl (ov_move rfl) ?_
  refine WL_guardOn rfl rfl ?_
  refine WL_v rfl (ov_loadN [dv, cv, nv, rv] rfl agg_impl_Crew rfl ((loadCrew (i := 0) rfl hH5))) ?_
  refine WL_guardOn rfl rfl ?_
  refine WL_call rfl rfl cf_spec_CrewValid (hscv hH5) ?_; rintro _ w6 ⟨rfl, hH6⟩
  refine WL_guardOn rfl rfl ?_
  refine WL_v rfl (ov_not rfl) ?_
  refine WL_v rfl (ov_pickF rfl rfl) ?_
  refine WL_v rfl (ov_move rfl) ?_
  refine WL_guardOn rfl rfl ?_
  refine WL_v rfl (ov_move rfl) ?_
  refine WL_guardOn rfl rfl ?_
  refine WL_v rfl (ov_F (ov_lss rfl rfl) (by first | exact decide_eq_false h0 | exact nb_F h0 | exact mb_F h0 | exact h0 | (simp only [decide_eq_false_iff_not]; omega) | simpa using h0)) ?_
  refine WL_v rfl (ov_pickF rfl rfl) ?_
  refine WL_v rfl (ov_move rfl) ?_
  refine WL_guardOn rfl rfl ?_
  refine WL_v rfl (ov_move rfl) ?_
  refine WL_guardOn rfl rfl ?_
  refine WL_v rfl (ov_field rfl fo_impl_Crew_0) ?_
  refine WL_guardOn rfl rfl ?_
  refine WL_v rfl (ov_load rfl one_sl_sl_int (hH6.cb 0 rfl 0)) ?_
  refine WL_guardOn rfl rfl ?_
  refine WL_v rfl (ov_len rfl (hR []).dq.sl st_sl_sl_int) ?_
  refine WL_guardOn rfl rfl ?_
  refine WL_v rfl (ov_F (ov_geq rfl rfl) (by first | exact decide_eq_false h1 | exact nb_F h1 | exact mb_F h1 | exact h1 | (simp only [decide_eq_false_iff_not]; omega) | simpa using h1)) ?_
  refine WL_v rfl (ov_pickF rfl rfl) ?_
  refine WL_nil ?_
  refine WT_condF rfl ?_
  have hok := (crewOk_iff p c).1 hv
  obtain ⟨k, rfl⟩ := Int.eq_ofNat_of_zero_le (show 0 ≤ a by omega)
  have hkn : k < c.dq.length := by omega
  have hcv : crewFrom p c (k : Int) = fromW c.dq k := by rw [crewFrom, if_pos ⟨hv, by omega, by omega⟩, Int.toNat_natCast]
  have hcl : crewLeft p c = (p.length : Int) - (c.dn.length : Int) := by rw [crewLeft, if_pos hv]
  have hsum := hok.sum_le
  have hsz := hok.size
  have hiff : crewFrom p c (k : Int) = -1 ↔ crewLeft p c = 0 := by
    rw [hcv, hcl]
    constructor
    · intro hm
      rcases fromW_spec c.dq k with ⟨_, hall⟩ | ⟨s, hs, hfr, _, _⟩
      · have := turn_all hkn hall
        rw [this] at hsz
        have := hok.all.1 (List.eq_nil_of_length_eq_zero (by simpa using hsz.symm))
        omega
      · omega
    · intro hz
      have hr := hok.all.2 (by omega)
      rw [hr] at hsz
      have hnil : c.dq.flatten = [] := List.eq_nil_of_length_eq_zero (by simpa using hsz)
      rcases fromW_spec c.dq k with ⟨hm, _⟩ | ⟨s, hs, _, hne, _⟩
      · exact hm
      · have hmm : (k + s) % c.dq.length < c.dq.length := Nat.mod_lt _ (by omega)
        obtain ⟨x, hx⟩ := List.exists_mem_of_ne_nil _ hne
        have := mem_flatD.2 ⟨_, hmm, hx⟩
        rw [hnil] at this
        simp at this
  refine WT_skip ?_
  refine WT_seq ?_
  refine WT_region ?_
  refine WL_v rfl (ov_move rfl) ?_
  refine WL_v rfl (ov_eql rfl rfl) ?_
  refine WL_v rfl (ov_move rfl) ?_
  refine WL_v rfl (ov_loadN [dv, cv, nv, rv] rfl agg_impl_Crew rfl ((loadCrew (i := 0) rfl hH6))) ?_
  refine WL_call rfl rfl cf_impl_CrewLeft (crewLeft_ok hH6 hP hlim (hR _)) ?_; rintro _ w7 ⟨rfl, hH7⟩
  refine WL_v rfl (ov_eql rfl rfl) ?_
  refine WL_v rfl (ov_T (ov_eqlB rfl rfl Tryz.underlying4) (by rw [decide_eq_decide.2 hiff]; exact decide_eq_true rfl)) ?_
  refine WL_v rfl (ov_assign rfl) ?_
  refine WL_nil ?_
  exact WT_ret1 Tryz.func8 Tryz.results8 rfl ⟨rfl, hH7.drop.weak hle⟩

theorem fnTurnFromNext_walk (hH : H w h Ls) {xv : Value} {bs : List Int} (hB : Bytes h xv bs) : Rets Tryz.prog 6 #[xv] w fun v w' => v = .bool true ∧ H w' h Ls := by
  refine rets_enter Tryz.func6 rfl Tryz.ntmps6 (by simp) ?_
  refine WT_seq ?_
  refine WT_region ?_
  refine WL_v rfl (ov_assign rfl) ?_
  refine WL_nil ?_
  refine WT_seq ?_
  refine WT_seq ?_
  refine WT_region ?_
  refine WL_v rfl (ov_move rfl) ?_
  refine WL_v rfl (ov_len rfl hB.sl st_sl_uint8) ?_
  refine WL_v rfl (ov_gtr rfl rfl) ?_
  refine WL_nil ?_
  refine WT_cond rfl (fun hl => ?_) (fun hl => ?_)
  · skip
    first | with_reducible replace hl := of_decide_eq_true hl | with_reducible replace hl := bn_T hl | with_reducible replace hl := bb_T hl | skip
    refine WT_seq ?_
    refine WT_region ?_
    refine WL_v rfl (ov_assign rfl) ?_
    refine WL_nil ?_
    exact WT_ret1 Tryz.func6 Tryz.results6 rfl ⟨rfl, hH⟩
  first | with_reducible replace hl := of_decide_eq_false hl | with_reducible replace hl := bn_F hl | with_reducible replace hl := bb_F hl | skip
  refine WT_skip ?_
  refine WT_seq ?_
  refine WT_region ?_
  refine WL_v rfl (ov_move rfl) ?_
  refine WL_call rfl rfl cf_spec_DrawTurnFrom (drawTurnFrom_ok hH hB) ?_; rintro _ w1 ⟨pv, dv, cv, nv, rv, a, rfl, ha1, ha2, h', p, c, hle, hP, hpl, hR, hlim, hH1⟩
  refine WL_v rfl (ov_move rfl) ?_
  refine WL_v rfl (ov_extract rfl rfl) ?_
  refine WL_v rfl (ov_extract rfl rfl) ?_
  refine WL_v rfl (ov_extract rfl rfl) ?_
  refine WL_alloc _ rfl hH1 zero_crew rfl ?_; rintro g w2 hH2
  refine WL_v rfl (ov_assign rfl) ?_
  refine WL_storeN hH2 rfl rfl (i := 0) rfl rfl rfl (ones_cons (hR []).dq.sl.one (ones_cons (hR []).ct.sl.one (ones_cons (hR []).dn.sl.one (ones_cons (hR []).rw.sl.one ones_nil)))) sz_impl_Crew ?_; rintro w3 hH3
  refine WL_v rfl (ov_assign rfl) ?_
  refine WL_nil ?_
  refine WT_seq ?_
  refine WT_region ?_
  refine WL_v rfl (ov_move rfl) ?_
  refine WL_v rfl (ov_loadN [dv, cv, nv, rv] rfl agg_impl_Crew rfl ((loadCrew (i := 0) rfl hH3))) ?_
  refine WL_v rfl (ov_move rfl) ?_
  refine WL_call rfl rfl cf_impl_TurnFrom (turnFrom_ok hH3 hP hlim (hR _) a) ?_; rintro _ w4 ⟨rfl, hH4⟩
  refine WL_v rfl (ov_assign rfl) ?_
  refine WL_nil ?_
  refine WT_seq ?_
  refine WT_region ?_
  refine WL_v rfl (ov_move rfl) ?_
  refine WL_v rfl (ov_loadN [dv, cv, nv, rv] rfl agg_impl_Crew rfl ((loadCrew (i := 0) rfl hH4))) ?_
  refine WL_v rfl (ov_move rfl) ?_
  refine WL_call rfl rfl cf_spec_TurnFrom (sTurnFrom_ok hH4 hP (by omega) hlim (hR _) a) ?_; rintro _ w5 ⟨rfl, hH5⟩
  refine WL_v rfl (ov_assign rfl) ?_
  refine WL_nil ?_
  refine WT_seq ?_
  refine WT_seq ?_
  refine WT_region ?_
  refine WL_v rfl (ov_move rfl) ?_
  refine WL_v rfl (ov_move rfl) ?_
  refine WL_v rfl (ov_F (ov_neq rfl rfl) (by first | exact decide_eq_false rfl | exact nb_F rfl | exact mb_F rfl | exact rfl | (simp only [decide_eq_false_iff_not]; omega) | simpa using rfl)) ?_
  refine WL_v rfl (ov_move rfl) ?_
  clear hH hH1 hH2 hH3 hH4
  by_cases hneg : crewFrom p c a < 0
  case pos =>
    refine WL_guardOn rfl rfl ?_
    refine WL_v rfl (ov_move rfl) ?_
    refine WL_guardOn rfl rfl ?_
    refine WL_v rfl (ov_T (ov_lss rfl rfl) (by first | exact decide_eq_true hneg | exact nb_T hneg | exact mb_T hneg | exact hneg | (simp only [decide_eq_true_eq]; omega) | simpa using hneg)) ?_
    refine WL_v rfl (ov_pickF rfl rfl) ?_
    refine WL_nil ?_
    refine WT_condT rfl ?_
    refine WT_seq ?_
    refine WT_region ?_
    refine WL_v rfl (ov_move rfl) ?_
    refine WL_v rfl (ov_move rfl) ?_
    refine WL_v rfl (ov_T (ov_eql rfl rfl) (by first | exact decide_eq_true rfl | exact nb_T rfl | exact mb_T rfl | exact rfl | (simp only [decide_eq_true_eq]; omega) | simpa using rfl)) ?_
    refine WL_v rfl (ov_assign rfl) ?_
    refine WL_nil ?_
    exact WT_ret1 Tryz.func6 Tryz.results6 rfl ⟨rfl, hH5.drop.weak hle⟩
  refine WL_guardOn rfl rfl ?_
  refine WL_v rfl (ov_move rfl) ?_
  refine WL_guardOn rfl rfl ?_
  refine WL_v rfl (ov_F (ov_lss rfl rfl) (by first | exact decide_eq_false hneg | exact nb_F hneg | exact mb_F hneg | exact hneg | (simp only [decide_eq_false_iff_not]; omega) | simpa using hneg)) ?_
  refine WL_v rfl (ov_pickF rfl rfl) ?_
  refine WL_nil ?_
  refine WT_condF rfl ?_
  have hcf : crewOk p c = true ∧ 0 ≤ a ∧ a < (c.dq.length : Int) := by
    by_cases hh : crewOk p c = true ∧ 0 ≤ a ∧ a < (c.dq.length : Int)
    · exact hh
    · rw [crewFrom, if_neg hh] at hneg; omega
  obtain ⟨hv, hw0, hw1⟩ := hcf
  obtain ⟨k, rfl⟩ := Int.eq_ofNat_of_zero_le hw0
  have hkn : k < c.dq.length := by omega
  have hcv : crewFrom p c (k : Int) = fromW c.dq k := by rw [crewFrom, if_pos ⟨hv, hw0, hw1⟩, Int.toNat_natCast]
  rw [hcv] at hneg ⊢
  rcases fromW_spec c.dq k with ⟨hm1, _⟩ | ⟨s, hs, hfr, hne, hemp⟩
  · rw [hm1] at hneg; omega
  rw [hfr]
  have hlq := hlim.dq
  refine WT_skip ?_
  refine WT_seq ?_
  refine WT_seq ?_
  refine WT_region ?_
  refine WL_v rfl (ov_move rfl) ?_
  refine WL_v rfl (ov_assign rfl) ?_
  refine WL_nil ?_
  refine WT_block ?_
  refine WT_while (fun j : Nat => [(4, ptr g), (6, .int .i64 (((k + s) % c.dq.length : Nat) : Int)), (8, .int .i64 (((k + j) % c.dq.length : Nat) : Int))]) (fun j w => j ≤ s ∧ H w h' (crbox g dv cv nv rv :: Ls)) (fun j => s - j) 0 (by rw [Nat.add_zero, Nat.mod_eq_of_lt hkn]; exact (by repeat (first | exact trivial | refine ⟨rfl, ?_⟩))) ⟨by omega, hH5⟩ ?_
  clear hH5
  rintro j w6 ⟨hj, hH⟩ again
  refine WT_seq ?_
  refine WT_seq ?_
  refine WT_region ?_
  refine WL_v rfl (ov_move rfl) ?_
  refine WL_v rfl (ov_move rfl) ?_
  refine WL_v rfl (ov_neq rfl rfl) ?_
  refine WL_nil ?_
  refine WT_cond rfl (fun hc => ?_) (fun hc => ?_)
  · skip
    first | with_reducible replace hc := of_decide_eq_true hc | with_reducible replace hc := bn_T hc | with_reducible replace hc := bb_T hc | skip
    have hjs : j < s := by
      rcases Nat.lt_or_ge j s with h1 | h1
      · exact h1
      · obtain rfl : j = s := by omega
        exact absurd rfl hc
    have hmm : (k + j) % c.dq.length < c.dq.length := Nat.mod_lt _ (by omega)
    obtain ⟨u, h1, h2⟩ := (hR (crbox g dv cv nv rv :: Ls)).dq.at_ hmm
    have h3 := hemp j hjs
    rw [getLD hmm] at h3
    rw [h3] at h1
    have hnx : ((((k + j) % c.dq.length : Nat) : Int) + 1) % ((c.dq.length : Nat) : Int) = (((k + (j + 1)) % c.dq.length : Nat) : Int) := by
      have h9 : ((k + j) % c.dq.length + 1) % c.dq.length = (k + (j + 1)) % c.dq.length := by rw [Nat.mod_add_mod, Nat.add_assoc]
      rw [← h9, Int.natCast_emod]
      rfl
    refine WT_skip ?_
    refine WT_seq ?_
    refine WT_block ?_
    refine WT_seq ?_
    refine WT_region ?_
    refine WL_v rfl (ov_field rfl fo_impl_Crew_0) ?_
    refine WL_v rfl (ov_load rfl one_sl_sl_int (hH.cb 0 rfl 0)) ?_
    refine WL_v rfl (ov_move rfl) ?_
    refine WL_v rfl (ov_index rfl rfl st_sl_sl_int (hR []).dq.sl hmm) ?_
    refine WL_v rfl (ov_load rfl one_sl_int (h2 hH)) ?_
    refine WL_v rfl (ov_len rfl h1.sl st_sl_int) ?_
    refine WL_v rfl (ov_F (ov_gtr rfl rfl) (by first | exact decide_eq_false (by simp) | exact nb_F (by simp) | exact mb_F (by simp) | exact (by simp) | (simp only [decide_eq_false_iff_not]; omega) | simpa using (by simp))) ?_
    refine WL_nil ?_
    refine WT_condF rfl ?_
    refine WT_skip ?_
    refine WT_inBlock ?_
    refine WT_region ?_
    refine WL_v rfl (ov_move rfl) ?_
    refine WL_v rfl (ov_add rfl rfl (by omega)) ?_
    refine WL_v rfl (ov_field rfl fo_impl_Crew_0) ?_
    refine WL_v rfl (ov_load rfl one_sl_sl_int (hH.cb 0 rfl 0)) ?_
    refine WL_v rfl (ov_len rfl (hR []).dq.sl st_sl_sl_int) ?_
    refine WL_v rfl (ov_as (ov_rem rfl rfl (by omega) (by omega)) (congrArg (Value.int .i64) hnx)) ?_
    refine WL_v rfl (ov_assign rfl) ?_
    refine WL_nil ?_
    refine again (j + 1) _ _ (by omega) (by repeat (first | exact trivial | refine ⟨rfl, ?_⟩)) ⟨by omega, hH⟩
  first | with_reducible replace hc := of_decide_eq_false hc | with_reducible replace hc := bn_F hc | with_reducible replace hc := bb_F hc | skip
  refine WT_exit rfl ?_
  refine WT_seq ?_
  refine WT_region ?_
  refine WL_v rfl (ov_assign rfl) ?_
  refine WL_nil ?_
  exact WT_ret1 Tryz.func6 Tryz.results6 rfl ⟨rfl, hH.drop.weak hle⟩

theorem fnCrewAt_walk (hH : H w h Ls) {xv : Value} {bs : List Int} (hB : Bytes h xv bs) : Rets Tryz.prog 11 #[xv] w fun v w' => v = .bool true ∧ H w' h Ls := by
  refine rets_enter Tryz.func11 rfl Tryz.ntmps11 (by simp) ?_
  refine WT_seq ?_
  refine WT_region ?_
  refine WL_v rfl (ov_assign rfl) ?_
  refine WL_nil ?_
  refine WT_seq ?_
  refine WT_seq ?_
  refine WT_region ?_
  refine WL_v rfl (ov_move rfl) ?_
  refine WL_v rfl (ov_len rfl hB.sl st_sl_uint8) ?_
  refine WL_v rfl (ov_gtr rfl rfl) ?_
  refine WL_nil ?_
  refine WT_cond rfl (fun hl => ?_) (fun hl => ?_)
  · skip
    first | with_reducible replace hl := of_decide_eq_true hl | with_reducible replace hl := bn_T hl | with_reducible replace hl := bb_T hl | skip
    refine WT_seq ?_
    refine WT_region ?_
    refine WL_v rfl (ov_assign rfl) ?_
    refine WL_nil ?_
    exact WT_ret1 Tryz.func11 Tryz.results11 rfl ⟨rfl, hH⟩
  first | with_reducible replace hl := of_decide_eq_false hl | with_reducible replace hl := bn_F hl | with_reducible replace hl := bb_F hl | skip
  refine WT_skip ?_
  refine WT_seq ?_
  refine WT_region ?_
  refine WL_v rfl (ov_move rfl) ?_
  refine WL_call rfl rfl cf_spec_DrawCrewAt (drawCrewAt_ok hH hB) ?_; rintro _ w1 ⟨pv, dv, cv, nv, rv, a, rfl, ha1, ha2, h', p, c, hle, hP, hpl, hR, hlim, hH1⟩
  refine WL_v rfl (ov_move rfl) ?_
  refine WL_v rfl (ov_extract rfl rfl) ?_
  refine WL_v rfl (ov_extract rfl rfl) ?_
  refine WL_v rfl (ov_extract rfl rfl) ?_
  refine WL_alloc _ rfl hH1 zero_crew rfl ?_; rintro g w2 hH2
  refine WL_v rfl (ov_assign rfl) ?_
  refine WL_storeN hH2 rfl rfl (i := 0) rfl rfl rfl (ones_cons (hR []).dq.sl.one (ones_cons (hR []).ct.sl.one (ones_cons (hR []).dn.sl.one (ones_cons (hR []).rw.sl.one ones_nil)))) sz_impl_Crew ?_; rintro w3 hH3
  refine WL_v rfl (ov_assign rfl) ?_
  refine WL_nil ?_
  refine WT_seq ?_
  refine WT_region ?_
  refine WL_v rfl (ov_move rfl) ?_
  refine WL_v rfl (ov_loadN [dv, cv, nv, rv] rfl agg_impl_Crew rfl ((loadCrew (i := 0) rfl hH3))) ?_
  refine WL_v rfl (ov_move rfl) ?_
  refine WL_call rfl rfl cf_impl_CrewAt (crewAt_ok hH3 hP hlim (hR _) a) ?_; rintro _ w4 ⟨rfl, hH4⟩
  refine WL_v rfl (ov_assign rfl) ?_
  refine WL_nil ?_
  refine WT_seq ?_
  refine WT_region ?_
  refine WL_v rfl (ov_move rfl) ?_
  refine WL_v rfl (ov_loadN [dv, cv, nv, rv] rfl agg_impl_Crew rfl ((loadCrew (i := 0) rfl hH4))) ?_
  refine WL_v rfl (ov_move rfl) ?_
  refine WL_call rfl rfl cf_spec_CrewAt (sCrewAt_ok hH4 hP (by omega) hlim (hR _) a) ?_; rintro _ w5 ⟨rfl, hH5⟩
  refine WL_v rfl (ov_assign rfl) ?_
  refine WL_nil ?_
  refine WT_seq ?_
  refine WT_seq ?_
  refine WT_region ?_
  refine WL_v rfl (ov_move rfl) ?_
  refine WL_v rfl (ov_move rfl) ?_
  refine WL_v rfl (ov_F (ov_neq rfl rfl) (by first | exact decide_eq_false rfl | exact nb_F rfl | exact mb_F rfl | exact rfl | (simp only [decide_eq_false_iff_not]; omega) | simpa using rfl)) ?_
  refine WL_v rfl (ov_move rfl) ?_
  clear hH hH1 hH2 hH3 hH4
  by_cases hneg : crewAt p c a < 0
  case pos =>
    refine WL_guardOn rfl rfl ?_
    refine WL_v rfl (ov_move rfl) ?_
    refine WL_guardOn rfl rfl ?_
    refine WL_v rfl (ov_T (ov_lss rfl rfl) (by first | exact decide_eq_true hneg | exact nb_T hneg | exact mb_T hneg | exact hneg | (simp only [decide_eq_true_eq]; omega) | simpa using hneg)) ?_
    refine WL_v rfl (ov_pickF rfl rfl) ?_
    refine WL_nil ?_
    refine WT_condT rfl ?_
    refine WT_seq ?_
    refine WT_region ?_
    refine WL_v rfl (ov_move rfl) ?_
    refine WL_v rfl (ov_move rfl) ?_
    refine WL_v rfl (ov_T (ov_eql rfl rfl) (by first | exact decide_eq_true rfl | exact nb_T rfl | exact mb_T rfl | exact rfl | (simp only [decide_eq_true_eq]; omega) | simpa using rfl)) ?_
    refine WL_v rfl (ov_assign rfl) ?_
    refine WL_nil ?_
    exact WT_ret1 Tryz.func11 Tryz.results11 rfl ⟨rfl, hH5.drop.weak hle⟩
  refine WL_guardOn rfl rfl ?_
  refine WL_v rfl (ov_move rfl) ?_
  refine WL_guardOn rfl rfl ?_
  refine WL_v rfl (ov_F (ov_lss rfl rfl) (by first | exact decide_eq_false hneg | exact nb_F hneg | exact mb_F hneg | exact hneg | (simp only [decide_eq_false_iff_not]; omega) | simpa using hneg)) ?_
  refine WL_v rfl (ov_pickF rfl rfl) ?_
  refine WL_nil ?_
  refine WT_condF rfl ?_
  have hv : crewOk p c = true := by
    cases hh : crewOk p c with
    | true => rfl
    | false => rw [crewAt, hh] at hneg; simp at hneg
  have hok := (crewOk_iff p c).1 hv
  have hca : crewAt p c a = lastW c.dq a c.dq.length := by rw [crewAt, if_pos hv]
  have hln := hlim.dn
  rw [hca] at hneg ⊢
  rcases lastW_spec c.dq a c.dq.length with ⟨h1, _⟩ | ⟨m, hm, hlw, hmem⟩
  · rw [h1] at hneg; omega
  rw [hlw]
  obtain ⟨u, h1, h2⟩ := (hR (crbox g dv cv nv rv :: Ls)).dq.at_ hm
  have hfl := hok.mem.1 (mem_flatD.2 ⟨m, hm, hmem⟩)
  rw [getLD hm] at hmem
  have hi1 := fun {w : World} (hH : H w h' (crbox g dv cv nv rv :: Ls)) => hasInt_ok hH h1 a
  rw [decide_eq_true hmem] at hi1
  refine WT_skip ?_
  refine WT_seq ?_
  refine WT_region ?_
  refine WL_v rfl (ov_field rfl fo_impl_Crew_0) ?_
  refine WL_v rfl (ov_load rfl one_sl_sl_int (hH5.cb 0 rfl 0)) ?_
  refine WL_v rfl (ov_move rfl) ?_
  refine WL_v rfl (ov_index rfl rfl st_sl_sl_int (hR []).dq.sl hm) ?_
  refine WL_v rfl (ov_load rfl one_sl_int (h2 hH5)) ?_
  refine WL_v rfl (ov_move rfl) ?_
  refine WL_call rfl rfl cf_laws_hasInt (hi1 hH5) ?_; rintro _ w6 ⟨rfl, hH6⟩
  refine WL_v rfl (ov_move rfl) ?_
  refine WL_guardOn rfl rfl ?_
  refine WL_v rfl (ov_move rfl) ?_
  refine WL_guardOn rfl rfl ?_
  refine WL_v rfl (ov_field rfl fo_impl_Crew_2) ?_
  refine WL_guardOn rfl rfl ?_
  refine WL_v rfl (ov_load rfl one_sl_int (hH6.cb 0 rfl 2)) ?_
  refine WL_guardOn rfl rfl ?_
  refine WL_call rfl rfl cf_impl_ReadyOf (readyOf_ok hH6 hP (hR _).dn (by omega)) ?_; rintro qv w7 ⟨Q, hQ, hH7⟩; rw [readyI_of hok.plan] at hQ; have hi2 := hasInt_ok hH7 (hQ.rdl (i := 0) rfl) a; rw [decide_eq_true hfl] at hi2
  refine WL_guardOn rfl rfl ?_
  refine WL_v rfl (ov_move rfl) ?_
  refine WL_guardOn rfl rfl ?_
  refine WL_call rfl rfl cf_laws_hasInt (hi2) ?_; rintro _ w8 ⟨rfl, hH8⟩
  refine WL_v rfl (ov_pickT rfl rfl) ?_
  refine WL_v rfl (ov_assign rfl) ?_
  refine WL_nil ?_
  exact WT_ret1 Tryz.func11 Tryz.results11 rfl ⟨rfl, hH8.drop.drop.weak hle⟩

theorem fnCrewAtNone_walk (hH : H w h Ls) {xv : Value} {bs : List Int} (hB : Bytes h xv bs) : Rets Tryz.prog 12 #[xv] w fun v w' => v = .bool true ∧ H w' h Ls := by
  refine rets_enter Tryz.func12 rfl Tryz.ntmps12 (by simp) ?_
  refine WT_seq ?_
  refine WT_region ?_
  refine WL_v rfl (ov_assign rfl) ?_
  refine WL_nil ?_
  refine WT_seq ?_
  refine WT_seq ?_
  refine WT_region ?_
  refine WL_v rfl (ov_move rfl) ?_
  refine WL_v rfl (ov_len rfl hB.sl st_sl_uint8) ?_
  refine WL_v rfl (ov_gtr rfl rfl) ?_
  refine WL_nil ?_
  refine WT_cond rfl (fun hl => ?_) (fun hl => ?_)
  · skip
    first | with_reducible replace hl := of_decide_eq_true hl | with_reducible replace hl := bn_T hl | with_reducible replace hl := bb_T hl | skip
    refine WT_seq ?_
    refine WT_region ?_
    refine WL_v rfl (ov_assign rfl) ?_
    refine WL_nil ?_
    exact WT_ret1 Tryz.func12 Tryz.results12 rfl ⟨rfl, hH⟩
  first | with_reducible replace hl := of_decide_eq_false hl | with_reducible replace hl := bn_F hl | with_reducible replace hl := bb_F hl | skip
  refine WT_skip ?_
  refine WT_seq ?_
  refine WT_region ?_
  refine WL_v rfl (ov_move rfl) ?_
  refine WL_call rfl rfl cf_spec_DrawCrewAt (drawCrewAt_ok hH hB) ?_; rintro _ w1 ⟨pv, dv, cv, nv, rv, a, rfl, ha1, ha2, h', p, c, hle, hP, hpl, hR, hlim, hH1⟩
  refine WL_v rfl (ov_move rfl) ?_
  refine WL_v rfl (ov_extract rfl rfl) ?_
  refine WL_v rfl (ov_extract rfl rfl) ?_
  refine WL_v rfl (ov_extract rfl rfl) ?_
  refine WL_alloc _ rfl hH1 zero_crew rfl ?_; rintro g w2 hH2
  refine WL_v rfl (ov_assign rfl) ?_
  refine WL_storeN hH2 rfl rfl (i := 0) rfl rfl rfl (ones_cons (hR []).dq.sl.one (ones_cons (hR []).ct.sl.one (ones_cons (hR []).dn.sl.one (ones_cons (hR []).rw.sl.one ones_nil)))) sz_impl_Crew ?_; rintro w3 hH3
  refine WL_v rfl (ov_assign rfl) ?_
  refine WL_nil ?_
  refine WT_seq ?_
  refine WT_region ?_
  refine WL_v rfl (ov_move rfl) ?_
  refine WL_v rfl (ov_loadN [dv, cv, nv, rv] rfl agg_impl_Crew rfl ((loadCrew (i := 0) rfl hH3))) ?_
  refine WL_v rfl (ov_move rfl) ?_
  refine WL_call rfl rfl cf_impl_CrewAt (crewAt_ok hH3 hP hlim (hR _) a) ?_; rintro _ w4 ⟨rfl, hH4⟩
  refine WL_v rfl (ov_assign rfl) ?_
  refine WL_nil ?_
  refine WT_seq ?_
  refine WT_region ?_
  refine WL_v rfl (ov_move rfl) ?_
  refine WL_v rfl (ov_loadN [dv, cv, nv, rv] rfl agg_impl_Crew rfl ((loadCrew (i := 0) rfl hH4))) ?_
  refine WL_v rfl (ov_move rfl) ?_
  refine WL_call rfl rfl cf_spec_CrewAt (sCrewAt_ok hH4 hP (by omega) hlim (hR _) a) ?_; rintro _ w5 ⟨rfl, hH5⟩
  refine WL_v rfl (ov_assign rfl) ?_
  refine WL_nil ?_
  refine WT_seq ?_
  refine WT_seq ?_
  refine WT_region ?_
  refine WL_v rfl (ov_move rfl) ?_
  refine WL_v rfl (ov_move rfl) ?_
  refine WL_v rfl (ov_F (ov_neq rfl rfl) (by first | exact decide_eq_false rfl | exact nb_F rfl | exact mb_F rfl | exact rfl | (simp only [decide_eq_false_iff_not]; omega) | simpa using rfl)) ?_
  refine WL_v rfl (ov_move rfl) ?_
  clear hH hH1 hH2 hH3 hH4
  have hln := hlim.dn
  have hscv := fun {w : World} (hH : H w h' (crbox g dv cv nv rv :: Ls)) => sCrewValid_ok hH hP (by omega) hlim (hR _)
  by_cases hv : crewOk p c = true
  case neg =>
    have hv' : crewOk p c = false := by simpa using hv
    rw [hv'] at hscv
    refine WL_guardOn rfl rfl ?_
    refine WL_v rfl (ov_move rfl) ?_
    refine WL_guardOn rfl rfl ?_
    refine WL_v rfl (ov_loadN [dv, cv, nv, rv] rfl agg_impl_Crew rfl ((loadCrew (i := 0) rfl hH5))) ?_
    refine WL_guardOn rfl rfl ?_
    refine WL_call rfl rfl cf_spec_CrewValid (hscv hH5) ?_; rintro _ w6 ⟨rfl, hH6⟩
    refine WL_guardOn rfl rfl ?_
    refine WL_v rfl (ov_not rfl) ?_
    refine WL_v rfl (ov_pickF rfl rfl) ?_
    refine WL_nil ?_
    refine WT_condT rfl ?_
    refine WT_seq ?_
    refine WT_region ?_
    refine WL_v rfl (ov_move rfl) ?_
    refine WL_v rfl (ov_move rfl) ?_
    refine WL_v rfl (ov_T (ov_eql rfl rfl) (by first | exact decide_eq_true rfl | exact nb_T rfl | exact mb_T rfl | exact rfl | (simp only [decide_eq_true_eq]; omega) | simpa using rfl)) ?_
    refine WL_v rfl (ov_assign rfl) ?_
    refine WL_nil ?_
    exact WT_ret1 Tryz.func12 Tryz.results12 rfl ⟨rfl, hH6.drop.weak hle⟩
  rw [hv] at hscv
  refine WL_guardOn rfl rfl ?_
  refine WL_v rfl (ov_move rfl) ?_
  refine WL_guardOn rfl rfl ?_
  refine WL_v rfl (ov_loadN [dv, cv, nv, rv] rfl agg_impl_Crew rfl ((loadCrew (i := 0) rfl hH5))) ?_
  refine WL_guardOn rfl rfl ?_
  refine WL_call rfl rfl cf_spec_CrewValid (hscv hH5) ?_; rintro _ w6 ⟨rfl, hH6⟩
  refine WL_guardOn rfl rfl ?_
  refine WL_v rfl (ov_not rfl) ?_
  refine WL_v rfl (ov_pickF rfl rfl) ?_
  refine WL_nil ?_
  refine WT_condF rfl ?_
  have hok := (crewOk_iff p c).1 hv
  have hca : crewAt p c a = lastW c.dq a c.dq.length := by rw [crewAt, if_pos hv]
  have hiff : crewAt p c a = -1 ↔ a ∉ readyI p c.dn := by
    rw [hca, lastW_neg, hok.mem]
  have hne : (!(decide (crewAt p c a = -1) == decide (a ∈ readyI p c.dn))) = true := by
    by_cases hm : a ∈ readyI p c.dn
    · rw [decide_eq_true hm, decide_eq_false (fun hh => hiff.1 hh hm)]; rfl
    · rw [decide_eq_false hm, decide_eq_true (hiff.2 hm)]; rfl
  refine WT_skip ?_
  refine WT_seq ?_
  refine WT_region ?_
  refine WL_v rfl (ov_move rfl) ?_
  refine WL_v rfl (ov_eql rfl rfl) ?_
  refine WL_v rfl (ov_move rfl) ?_
  refine WL_v rfl (ov_field rfl fo_impl_Crew_2) ?_
  refine WL_v rfl (ov_load rfl one_sl_int (hH6.cb 0 rfl 2)) ?_
  refine WL_call rfl rfl cf_impl_ReadyOf (readyOf_ok hH6 hP (hR _).dn (by omega)) ?_; rintro qv w7 ⟨Q, hQ, hH7⟩; rw [readyI_of hok.plan] at hQ
  refine WL_v rfl (ov_move rfl) ?_
  refine WL_call rfl rfl cf_laws_hasInt (hasInt_ok hH7 (hQ.rdl (i := 0) rfl) a) ?_; rintro _ w8 ⟨rfl, hH8⟩
  refine WL_v rfl (ov_T (ov_neqB rfl rfl Tryz.underlying4) hne) ?_
  refine WL_v rfl (ov_assign rfl) ?_
  refine WL_nil ?_
  exact WT_ret1 Tryz.func12 Tryz.results12 rfl ⟨rfl, hH8.drop.drop.weak hle⟩

theorem fnCrewRows_walk (hH : H w h Ls) {xv : Value} {bs : List Int} (hB : Bytes h xv bs) : Rets Tryz.prog 10 #[xv] w fun v w' => v = .bool true ∧ H w' h Ls := by
  refine rets_enter Tryz.func10 rfl Tryz.ntmps10 (by simp) ?_
  refine WT_seq ?_
  refine WT_region ?_
  refine WL_v rfl (ov_assign rfl) ?_
  refine WL_nil ?_
  refine WT_seq ?_
  refine WT_seq ?_
  refine WT_region ?_
  refine WL_v rfl (ov_move rfl) ?_
  refine WL_v rfl (ov_len rfl hB.sl st_sl_uint8) ?_
  refine WL_v rfl (ov_gtr rfl rfl) ?_
  refine WL_nil ?_
  refine WT_cond rfl (fun hl => ?_) (fun hl => ?_)
  · skip
    first | with_reducible replace hl := of_decide_eq_true hl | with_reducible replace hl := bn_T hl | with_reducible replace hl := bb_T hl | skip
    refine WT_seq ?_
    refine WT_region ?_
    refine WL_v rfl (ov_assign rfl) ?_
    refine WL_nil ?_
    exact WT_ret1 Tryz.func10 Tryz.results10 rfl ⟨rfl, hH⟩
  first | with_reducible replace hl := of_decide_eq_false hl | with_reducible replace hl := bn_F hl | with_reducible replace hl := bb_F hl | skip
  refine WT_skip ?_
  refine WT_seq ?_
  refine WT_region ?_
  refine WL_v rfl (ov_move rfl) ?_
  refine WL_call rfl rfl cf_spec_DrawCrewValid (drawCrewValid_ok hH hB) ?_; rintro _ w1 ⟨pv, dv, cv, nv, rv, rfl, h', p, c, hle, hP, hpl, hR, hlim, hH1⟩
  refine WL_v rfl (ov_move rfl) ?_
  refine WL_v rfl (ov_extract rfl rfl) ?_
  refine WL_v rfl (ov_extract rfl rfl) ?_
  refine WL_alloc _ rfl hH1 zero_crew rfl ?_; rintro g w2 hH2
  refine WL_v rfl (ov_assign rfl) ?_
  refine WL_storeN hH2 rfl rfl (i := 0) rfl rfl rfl (ones_cons (hR []).dq.sl.one (ones_cons (hR []).ct.sl.one (ones_cons (hR []).dn.sl.one (ones_cons (hR []).rw.sl.one ones_nil)))) sz_impl_Crew ?_; rintro w3 hH3
  refine WL_nil ?_
  refine WT_seq ?_
  refine WT_region ?_
  refine WL_v rfl (ov_move rfl) ?_
  refine WL_v rfl (ov_loadN [dv, cv, nv, rv] rfl agg_impl_Crew rfl ((loadCrew (i := 0) rfl hH3))) ?_
  refine WL_call rfl rfl cf_impl_CrewValid (crewValid_ok hH3 hP hlim (hR _)) ?_; rintro _ w4 ⟨rfl, hH4⟩
  refine WL_v rfl (ov_assign rfl) ?_
  refine WL_nil ?_
  refine WT_seq ?_
  refine WT_region ?_
  refine WL_v rfl (ov_move rfl) ?_
  refine WL_v rfl (ov_loadN [dv, cv, nv, rv] rfl agg_impl_Crew rfl ((loadCrew (i := 0) rfl hH4))) ?_
  refine WL_call rfl rfl cf_spec_CrewValid (sCrewValid_ok hH4 hP (by omega) hlim (hR _)) ?_; rintro _ w5 ⟨rfl, hH5⟩
  refine WL_v rfl (ov_assign rfl) ?_
  refine WL_nil ?_
  refine WT_seq ?_
  refine WT_seq ?_
  refine WT_region ?_
  refine WL_v rfl (ov_move rfl) ?_
  refine WL_v rfl (ov_move rfl) ?_
  clear hH hH1 hH2 hH3 hH4
  by_cases hv : crewOk p c = true
  case neg =>
    have hv' : crewOk p c = false := by simpa using hv
    rw [hv']
    refine WL_v rfl (ov_F (ov_neqB rfl rfl Tryz.underlying4) (by simp)) ?_
    refine WL_v rfl (ov_move rfl) ?_
    refine WL_guardOn rfl rfl ?_
    refine WL_v rfl (ov_move rfl) ?_
    refine WL_guardOn rfl rfl ?_
    refine WL_v rfl (ov_T (ov_not rfl) (by first | exact decide_eq_true (by simp) | exact nb_T (by simp) | exact mb_T (by simp) | exact (by simp) | (simp only [decide_eq_true_eq]; omega) | simpa using (by simp))) ?_
    refine WL_v rfl (ov_pickF rfl rfl) ?_
    refine WL_nil ?_
    refine WT_condT rfl ?_
    refine WT_seq ?_
    refine WT_region ?_
    refine WL_v rfl (ov_move rfl) ?_
    refine WL_v rfl (ov_move rfl) ?_
    refine WL_v rfl (ov_T (ov_eqlB rfl rfl Tryz.underlying4) (by simp)) ?_
    refine WL_v rfl (ov_assign rfl) ?_
    refine WL_nil ?_
    exact WT_ret1 Tryz.func10 Tryz.results10 rfl ⟨rfl, hH5.drop.weak hle⟩
  rw [hv]
  have hok := (crewOk_iff p c).1 hv
  refine WL_v rfl (ov_F (ov_neqB rfl rfl Tryz.underlying4) (by simp)) ?_
  refine WL_v rfl (ov_move rfl) ?_
  refine WL_guardOn rfl rfl ?_
  refine WL_v rfl (ov_move rfl) ?_
  refine WL_guardOn rfl rfl ?_
  refine WL_v rfl (ov_F (ov_not rfl) (by first | exact decide_eq_false (by simp) | exact nb_F (by simp) | exact mb_F (by simp) | exact (by simp) | (simp only [decide_eq_false_iff_not]; omega) | simpa using (by simp))) ?_
  refine WL_v rfl (ov_pickF rfl rfl) ?_
  refine WL_nil ?_
  refine WT_condF rfl ?_
  have hvl : (valsL p).length = p.length := valsTo_len p p.length
  have hps := hP.sl
  have hrl := hok.rl
  refine WT_skip ?_
  refine WT_seq ?_
  refine WT_region ?_
  refine WL_v rfl (ov_move rfl) ?_
  refine WL_call rfl rfl cf_impl_ValuesOf (valuesOf_yes hH5 hP hok.plan) ?_; rintro _ w6 ⟨ov, O, Is, rfl, hO, hH6⟩; replace hH6 := H.behind hH6
  refine WL_v rfl (ov_move rfl) ?_
  refine WL_v rfl (ov_extract rfl rfl) ?_
  refine WL_v rfl (ov_extract rfl rfl) ?_
  refine WL_v rfl (ov_assign rfl) ?_
  refine WL_v rfl (ov_assign rfl) ?_
  refine WL_nil ?_
  refine WT_seq ?_
  refine WT_seq ?_
  refine WT_region ?_
  refine WL_v rfl (ov_assign rfl) ?_
  refine WL_nil ?_
  refine WT_block ?_
  have hV : RdLL h' (crbox g dv cv nv rv :: O :: (Is ++ Ls)) ov (valsL p) := hO.rdll (LAt.cons (Ms := Ls)).skip1
  refine WT_while (fun s : Nat => [(3, pv), (4, ptr g), (7, ov), (8, .bool true), (9, .int .i64 (s : Int))]) (fun s w => s ≤ p.length ∧ H w h' (crbox g dv cv nv rv :: O :: (Is ++ Ls))) (fun s => p.length - s) 0 (by repeat (first | exact trivial | refine ⟨rfl, ?_⟩)) ⟨by omega, hH6⟩ ?_
  clear hH5 hH6
  rintro k w9 ⟨hk, hH⟩ again
  refine WT_seq ?_
  refine WT_seq ?_
  refine WT_region ?_
  refine WL_v rfl (ov_move rfl) ?_
  refine WL_v rfl (ov_move rfl) ?_
  refine WL_v rfl (ov_len rfl hps st_sl_impl_Node) ?_
  refine WL_v rfl (ov_lss rfl rfl) ?_
  refine WL_nil ?_
  refine WT_cond rfl (fun hc2 => ?_) (fun hc2 => ?_)
  · skip
    first | with_reducible replace hc2 := of_decide_eq_true hc2 | with_reducible replace hc2 := bn_T hc2 | with_reducible replace hc2 := bb_T hc2 | skip
    have hkp : k < p.length := by omega
    have hkr : k < c.rw.length := by omega
    have hkv : k < (valsL p).length := by omega
    obtain ⟨u, g1, g2⟩ := (hR (crbox g dv cv nv rv :: O :: (Is ++ Ls))).rw.at_ hkr
    obtain ⟨u2, e1, e2⟩ := hV.at_ hkv
    have hrow := hok.rows k hkp
    rw [getLD hkr] at hrow
    have hi := fun {w : World} (hH : H w h' (crbox g dv cv nv rv :: O :: (Is ++ Ls))) => hasInt_ok hH (hR _).dn (k : Int)
    by_cases hm : (k : Int) ∈ c.dn
    · skip
      rw [decide_eq_true hm] at hi
      rw [rowWant, if_pos hm, getLD hkv] at hrow
      have hsr := fun {w : World} (hH : H w h' (crbox g dv cv nv rv :: O :: (Is ++ Ls))) => sameRow_ok hH g1 e1
      rw [decide_eq_true hrow.symm] at hsr
      refine WT_skip ?_
      refine WT_seq ?_
      refine WT_block ?_
      refine WT_seq ?_
      refine WT_quiet mixed (by kernel_rfl) hH ?_
      clear hH
      refine WQ_v rfl (fun _ _ => ov_field rfl fo_impl_Crew_2) ?_
      refine WQ_v rfl (fun _ hH => ov_load rfl one_sl_int (hH.cb 0 rfl 2)) ?_
      refine WQ_v rfl (fun _ _ => ov_move rfl) ?_
      refine WQ_call rfl rfl cf_laws_hasInt (fun _ hH => hi hH) ?_
      refine WQ_v rfl (fun _ _ => ov_move rfl) ?_
      refine WQ_guardOn rfl rfl ?_
      refine WQ_v rfl (fun _ _ => ov_field rfl fo_impl_Crew_3) ?_
      refine WQ_guardOn rfl rfl ?_
      refine WQ_v rfl (fun _ hH => ov_load rfl one_sl_sl_int (hH.cb 0 rfl 3)) ?_
      refine WQ_guardOn rfl rfl ?_
      refine WQ_v rfl (fun _ _ => ov_move rfl) ?_
      refine WQ_guardOn rfl rfl ?_
      refine WQ_v rfl (fun _ _ => ov_index rfl rfl st_sl_sl_int (hR []).rw.sl hkr) ?_
      refine WQ_guardOn rfl rfl ?_
      refine WQ_v rfl (fun _ hH => ov_load rfl one_sl_int (g2 hH)) ?_
      refine WQ_guardOn rfl rfl ?_
      refine WQ_v rfl (fun _ _ => ov_move rfl) ?_
      refine WQ_guardOn rfl rfl ?_
      refine WQ_v rfl (fun _ _ => ov_move rfl) ?_
      refine WQ_guardOn rfl rfl ?_
      refine WQ_v rfl (fun _ _ => ov_index rfl rfl st_sl_sl_int hO.sl hkv) ?_
      refine WQ_guardOn rfl rfl ?_
      refine WQ_v rfl (fun _ hH => ov_load rfl one_sl_int (e2 hH)) ?_
      refine WQ_guardOn rfl rfl ?_
      refine WQ_call rfl rfl cf_laws_sameRow (fun _ hH => hsr hH) ?_
      refine WQ_guardOn rfl rfl ?_
      refine WQ_v rfl (fun _ _ => ov_not rfl) ?_
      refine WQ_v rfl (fun _ _ => ov_pickT rfl rfl) ?_
      refine WQ_v rfl (fun _ _ => ov_move rfl) ?_
      refine WQ_guardOn rfl rfl ?_
      refine WQ_v rfl (fun _ _ => ov_field rfl fo_impl_Crew_2) ?_
      refine WQ_guardOn rfl rfl ?_
      refine WQ_v rfl (fun _ hH => ov_load rfl one_sl_int (hH.cb 0 rfl 2)) ?_
      refine WQ_guardOn rfl rfl ?_
      refine WQ_v rfl (fun _ _ => ov_move rfl) ?_
      refine WQ_guardOn rfl rfl ?_
      refine WQ_call rfl rfl cf_laws_hasInt (fun _ hH => hi hH) ?_
      refine WQ_guardOn rfl rfl ?_
      refine WQ_v rfl (fun _ _ => ov_not rfl) ?_
      refine WQ_guardOn rfl rfl ?_
      refine WQ_v rfl (fun _ _ => ov_move rfl) ?_
      refine WQ_guardOff rfl rfl rfl rfl ?_
      refine WQ_guardOff rfl rfl rfl rfl ?_
      refine WQ_guardOff rfl rfl rfl rfl ?_
      refine WQ_guardOff rfl rfl rfl rfl ?_
      refine WQ_guardOff rfl rfl rfl rfl ?_
      refine WQ_guardOff rfl rfl rfl rfl ?_
      refine WQ_guardOff rfl rfl rfl rfl ?_
      refine WQ_guardOn rfl rfl ?_
      refine WQ_v rfl (fun _ _ => ov_pickF rfl rfl) ?_
      refine WQ_v rfl (fun _ _ => ov_pickF rfl rfl) ?_
      refine WQ_nil ?_
      intro w10 hH
      refine WT_condF rfl ?_
      refine WT_skip ?_
      refine WT_inBlock ?_
      refine WT_region ?_
      refine WL_v rfl (ov_move rfl) ?_
      refine WL_v rfl (ov_add rfl rfl (by omega)) ?_
      refine WL_v rfl (ov_assign rfl) ?_
      refine WL_nil ?_
      refine again (k + 1) _ _ (by omega) (by repeat (first | exact trivial | refine ⟨rfl, ?_⟩)) ⟨by omega, hH⟩
    · skip
      rw [decide_eq_false hm] at hi
      rw [rowWant, if_neg hm] at hrow
      rw [← hrow] at g1
      refine WT_skip ?_
      refine WT_seq ?_
      refine WT_block ?_
      refine WT_seq ?_
      refine WT_quiet mixed (by kernel_rfl) hH ?_
      clear hH
      refine WQ_v rfl (fun _ _ => ov_field rfl fo_impl_Crew_2) ?_
      refine WQ_v rfl (fun _ hH => ov_load rfl one_sl_int (hH.cb 0 rfl 2)) ?_
      refine WQ_v rfl (fun _ _ => ov_move rfl) ?_
      refine WQ_call rfl rfl cf_laws_hasInt (fun _ hH => hi hH) ?_
      refine WQ_v rfl (fun _ _ => ov_move rfl) ?_
      refine WQ_guardOff rfl rfl rfl rfl ?_
      refine WQ_guardOff rfl rfl rfl rfl ?_
      refine WQ_guardOff rfl rfl rfl rfl ?_
      refine WQ_guardOff rfl rfl rfl rfl ?_
      refine WQ_guardOff rfl rfl rfl rfl ?_
      refine WQ_guardOff rfl rfl rfl rfl ?_
      refine WQ_guardOff rfl rfl rfl rfl ?_
      refine WQ_guardOff rfl rfl rfl rfl ?_
      refine WQ_guardOff rfl rfl rfl rfl ?_
      refine WQ_guardOff rfl rfl rfl rfl ?_
      refine WQ_guardOff rfl rfl rfl rfl ?_
      refine WQ_v rfl (fun _ _ => ov_pickF rfl rfl) ?_
      refine WQ_v rfl (fun _ _ => ov_move rfl) ?_
      refine WQ_guardOn rfl rfl ?_
      refine WQ_v rfl (fun _ _ => ov_field rfl fo_impl_Crew_2) ?_
      refine WQ_guardOn rfl rfl ?_
      refine WQ_v rfl (fun _ hH => ov_load rfl one_sl_int (hH.cb 0 rfl 2)) ?_
      refine WQ_guardOn rfl rfl ?_
      refine WQ_v rfl (fun _ _ => ov_move rfl) ?_
      refine WQ_guardOn rfl rfl ?_
      refine WQ_call rfl rfl cf_laws_hasInt (fun _ hH => hi hH) ?_
      refine WQ_guardOn rfl rfl ?_
      refine WQ_v rfl (fun _ _ => ov_not rfl) ?_
      refine WQ_guardOn rfl rfl ?_
      refine WQ_v rfl (fun _ _ => ov_move rfl) ?_
      refine WQ_guardOn rfl rfl ?_
      refine WQ_v rfl (fun _ _ => ov_field rfl fo_impl_Crew_3) ?_
      refine WQ_guardOn rfl rfl ?_
      refine WQ_v rfl (fun _ hH => ov_load rfl one_sl_sl_int (hH.cb 0 rfl 3)) ?_
      refine WQ_guardOn rfl rfl ?_
      refine WQ_v rfl (fun _ _ => ov_move rfl) ?_
      refine WQ_guardOn rfl rfl ?_
      refine WQ_v rfl (fun _ _ => ov_index rfl rfl st_sl_sl_int (hR []).rw.sl hkr) ?_
      refine WQ_guardOn rfl rfl ?_
      refine WQ_v rfl (fun _ hH => ov_load rfl one_sl_int (g2 hH)) ?_
      refine WQ_guardOn rfl rfl ?_
      refine WQ_v rfl (fun _ _ => ov_len rfl g1.sl st_sl_int) ?_
      refine WQ_guardOn rfl rfl ?_
      refine WQ_v rfl (fun _ _ => ov_F (ov_gtr rfl rfl) (by first | exact decide_eq_false (by simp) | exact nb_F (by simp) | exact mb_F (by simp) | exact (by simp) | (simp only [decide_eq_false_iff_not]; omega) | simpa using (by simp))) ?_
      refine WQ_guardOn rfl rfl ?_
      refine WQ_v rfl (fun _ _ => ov_pickT rfl rfl) ?_
      refine WQ_v rfl (fun _ _ => ov_pickF rfl rfl) ?_
      refine WQ_nil ?_
      intro w10 hH
      refine WT_condF rfl ?_
      refine WT_skip ?_
      refine WT_inBlock ?_
      refine WT_region ?_
      refine WL_v rfl (ov_move rfl) ?_
      refine WL_v rfl (ov_add rfl rfl (by omega)) ?_
      refine WL_v rfl (ov_assign rfl) ?_
      refine WL_nil ?_
      refine again (k + 1) _ _ (by omega) (by repeat (first | exact trivial | refine ⟨rfl, ?_⟩)) ⟨by omega, hH⟩
  first | with_reducible replace hc2 := of_decide_eq_false hc2 | with_reducible replace hc2 := bn_F hc2 | with_reducible replace hc2 := bb_F hc2 | skip
  refine WT_exit rfl ?_
  refine WT_seq ?_
  refine WT_region ?_
  refine WL_v rfl (ov_move rfl) ?_
  refine WL_v rfl (ov_assign rfl) ?_
  refine WL_nil ?_
  exact WT_ret1 Tryz.func10 Tryz.results10 rfl ⟨rfl, (hH.drop.drop.drops Is).weak hle⟩

theorem RdLL.vals {v : Value} {ls : List (List Int)} (hA : RdLL h Ls v ls) : ∃ ys : List Value, ys.length = ls.length ∧ ∀ i (hi : i < ls.length), ∃ u, ys[i]? = some u ∧ RdL h Ls u ls[i] ∧ ∀ {w}, H w h Ls → w.cell? ((slA v).add (i * 1)) = some u := by
  refine ⟨(List.range ls.length).map fun i => if hi : i < ls.length then Classical.choose (hA.at_ hi) else .slice none 0 0, by simp, fun i hi => ?_⟩
  have := Classical.choose_spec (hA.at_ hi)
  exact ⟨_, by rw [List.getElem?_map, List.getElem?_range hi, Option.map_some, dif_pos hi], this.1, fun hH => this.2 hH⟩

theorem fnCrewTurn_walk (hH : H w h Ls) {xv : Value} {bs : List Int} (hB : Bytes h xv bs) : Rets Tryz.prog 3 #[xv] w fun v w' => v = .bool true ∧ H w' h Ls := by
  refine rets_enter Tryz.func3 rfl Tryz.ntmps3 (by simp) ?_
  refine WT_seq ?_
  refine WT_region ?_
  refine WL_v rfl (ov_assign rfl) ?_
  refine WL_nil ?_
  refine WT_seq ?_
  refine WT_seq ?_
  refine WT_region ?_
  refine WL_v rfl (ov_move rfl) ?_
  refine WL_v rfl (ov_len rfl hB.sl st_sl_uint8) ?_
  refine WL_v rfl (ov_gtr rfl rfl) ?_
  refine WL_nil ?_
  refine WT_cond rfl (fun hl => ?_) (fun hl => ?_)
  · skip
    first | with_reducible replace hl := of_decide_eq_true hl | with_reducible replace hl := bn_T hl | with_reducible replace hl := bb_T hl | skip
    refine WT_seq ?_
    refine WT_region ?_
    refine WL_v rfl (ov_assign rfl) ?_
    refine WL_nil ?_
    exact WT_ret1 Tryz.func3 Tryz.results3 rfl ⟨rfl, hH⟩
  first | with_reducible replace hl := of_decide_eq_false hl | with_reducible replace hl := bn_F hl | with_reducible replace hl := bb_F hl | skip
  refine WT_skip ?_
  refine WT_seq ?_
  refine WT_region ?_
  refine WL_v rfl (ov_move rfl) ?_
  refine WL_call rfl rfl cf_spec_DrawCrewValid (drawCrewValid_ok hH hB) ?_; rintro _ w1 ⟨pv, dv, cv, nv, rv, rfl, h', p, c, hle, hP, hpl, hR, hlim, hH1⟩
  refine WL_v rfl (ov_move rfl) ?_
  refine WL_v rfl (ov_extract rfl rfl) ?_
  refine WL_v rfl (ov_extract rfl rfl) ?_
  refine WL_alloc _ rfl hH1 zero_crew rfl ?_; rintro g w2 hH2
  refine WL_v rfl (ov_assign rfl) ?_
  refine WL_storeN hH2 rfl rfl (i := 0) rfl rfl rfl (ones_cons (hR []).dq.sl.one (ones_cons (hR []).ct.sl.one (ones_cons (hR []).dn.sl.one (ones_cons (hR []).rw.sl.one ones_nil)))) sz_impl_Crew ?_; rintro w3 hH3
  refine WL_nil ?_
  refine WT_seq ?_
  refine WT_region ?_
  refine WL_v rfl (ov_move rfl) ?_
  refine WL_v rfl (ov_loadN [dv, cv, nv, rv] rfl agg_impl_Crew rfl ((loadCrew (i := 0) rfl hH3))) ?_
  refine WL_call rfl rfl cf_impl_CrewValid (crewValid_ok hH3 hP hlim (hR _)) ?_; rintro _ w4 ⟨rfl, hH4⟩
  refine WL_v rfl (ov_assign rfl) ?_
  refine WL_nil ?_
  refine WT_seq ?_
  refine WT_region ?_
  refine WL_v rfl (ov_move rfl) ?_
  refine WL_v rfl (ov_loadN [dv, cv, nv, rv] rfl agg_impl_Crew rfl ((loadCrew (i := 0) rfl hH4))) ?_
  refine WL_call rfl rfl cf_spec_CrewValid (sCrewValid_ok hH4 hP (by omega) hlim (hR _)) ?_; rintro _ w5 ⟨rfl, hH5⟩
  refine WL_v rfl (ov_assign rfl) ?_
  refine WL_nil ?_
  refine WT_seq ?_
  refine WT_seq ?_
  refine WT_region ?_
  refine WL_v rfl (ov_move rfl) ?_
  refine WL_v rfl (ov_move rfl) ?_
  clear hH hH1 hH2 hH3 hH4
  by_cases hv : crewOk p c = true
  case neg =>
    have hv' : crewOk p c = false := by simpa using hv
    rw [hv']
    refine WL_v rfl (ov_F (ov_neqB rfl rfl Tryz.underlying4) (by simp)) ?_
    refine WL_v rfl (ov_move rfl) ?_
    refine WL_guardOn rfl rfl ?_
    refine WL_v rfl (ov_move rfl) ?_
    refine WL_guardOn rfl rfl ?_
    refine WL_v rfl (ov_T (ov_not rfl) (by first | exact decide_eq_true (by simp) | exact nb_T (by simp) | exact mb_T (by simp) | exact (by simp) | (simp only [decide_eq_true_eq]; omega) | simpa using (by simp))) ?_
    refine WL_v rfl (ov_pickF rfl rfl) ?_
    refine WL_nil ?_
    refine WT_condT rfl ?_
    refine WT_seq ?_
    refine WT_region ?_
    refine WL_v rfl (ov_move rfl) ?_
    refine WL_v rfl (ov_move rfl) ?_
    refine WL_v rfl (ov_T (ov_eqlB rfl rfl Tryz.underlying4) (by simp)) ?_
    refine WL_v rfl (ov_assign rfl) ?_
    refine WL_nil ?_
    exact WT_ret1 Tryz.func3 Tryz.results3 rfl ⟨rfl, hH5.drop.weak hle⟩
  rw [hv]
  have hok := (crewOk_iff p c).1 hv
  refine WL_v rfl (ov_F (ov_neqB rfl rfl Tryz.underlying4) (by simp)) ?_
  refine WL_v rfl (ov_move rfl) ?_
  refine WL_guardOn rfl rfl ?_
  refine WL_v rfl (ov_move rfl) ?_
  refine WL_guardOn rfl rfl ?_
  refine WL_v rfl (ov_F (ov_not rfl) (by first | exact decide_eq_false (by simp) | exact nb_F (by simp) | exact mb_F (by simp) | exact (by simp) | (simp only [decide_eq_false_iff_not]; omega) | simpa using (by simp))) ?_
  refine WL_v rfl (ov_pickF rfl rfl) ?_
  refine WL_nil ?_
  refine WT_condF rfl ?_
  have hq := hok.dq
  have hn0 : 0 < c.dq.length := by omega
  have hn1 : c.dq.length - 1 < c.dq.length := by omega
  have hds := (hR []).dq.sl
  have hsw := swap_flat hn0
  have hcas : (c.dq.length : Int) - 1 = ((c.dq.length - 1 : Nat) : Int) := by omega
  refine WT_skip ?_
  refine WT_seq ?_
  refine WT_region ?_
  refine WL_v rfl (ov_loadN [dv, cv, nv, rv] rfl agg_impl_Crew rfl ((loadCrew (i := 0) rfl hH5))) ?_
  refine WL_alloc _ rfl hH5 zero_crew rfl ?_; rintro g7 w6 hH6
  refine WL_storeN hH6 rfl rfl (i := 0) rfl rfl rfl (ones_cons (hR []).dq.sl.one (ones_cons (hR []).ct.sl.one (ones_cons (hR []).dn.sl.one (ones_cons (hR []).rw.sl.one ones_nil)))) sz_impl_Crew ?_; rintro w7 hH7
  refine WL_nil ?_
  refine WT_seq ?_
  refine WT_region ?_
  refine WL_buildSlice (sz := 1) (parts := []) (vs := []) [] rfl hH7 rfl run_bs_sl0 rfl (by omega) ?_; rintro O ov w8 hO hH8
  refine WL_v rfl (ov_field rfl fo_impl_Crew_0) ?_
  refine WL_v rfl (ov_load rfl one_sl_sl_int (hH8.cb 2 rfl 0)) ?_
  obtain ⟨ys, hyl, hya⟩ := (hR Ls).dq.vals
  have hyc : ∀ j u, ys[j]? = some u → w8.cell? ((slA dv).add j) = some u := fun j u hj => by
    have hjl : j < c.dq.length := by rw [← hyl]; exact (List.getElem?_eq_some_iff.1 hj).1
    obtain ⟨u2, e1, _, e3⟩ := hya j hjl
    rw [hj] at e1
    obtain rfl := Option.some.inj e1
    have := e3 hH8.drop.drop.drop
    rwa [Nat.mul_one] at this
  have hy1 : ∀ u ∈ ys, u.oneCell' = true := fun u hu => by
    obtain ⟨j, hj, rfl⟩ := List.getElem_of_mem hu
    obtain ⟨u2, e1, e2, _⟩ := hya j (by omega)
    rw [List.getElem?_eq_getElem hj] at e1
    obtain rfl := Option.some.inj e1
    exact e2.sl.one
  refine WL_append (sz := 1) (n := 0) (m := c.dq.length) rfl hH8 rfl rfl st_sl_sl_int (by omega) (i := 0) rfl hO hds (ys := ys) (by omega) hyc hy1 (by omega) (by omega) ?_; rintro O2 ov2 w9 hO2 hH9; rw [Nat.zero_add, List.nil_append] at hO2
  refine WL_v rfl (ov_field rfl fo_impl_Crew_0) ?_
  refine WL_store hH9 rfl rfl (i := 1) (off := 0) rfl rfl (by exact Nat.zero_lt_succ _) hO2.sl.one sz_sl_sl_int ?_; rintro w10 hH10
  refine WL_nil ?_
  refine WT_seq ?_
  have hH11 : H w10 h' (O2 :: crbox g7 ov2 cv nv rv :: crbox g dv cv nv rv :: Ls) := hH10
  clear hH5 hH6 hH7 hH8 hH9 hH10 hyc
  have hos := hO2.sl
  obtain ⟨uL, l1, l2, l3⟩ := hya _ hn1
  obtain ⟨uF, f1, f2, f3⟩ := hya _ hn0
  refine WT_mixL [(0, 1), (1, 0), (2, 1), (3, 0), (4, 1), (5, 0), (6, 1), (7, 1), (8, 1), (9, 0), (10, 1), (11, 3)] mixed (by kernel_rfl) hH11 ?_
  clear hH11
  intro w11 hH11 hC
  refine WM_p rfl rfl (fun _ => ov_field rfl fo_impl_Crew_0) ?_
  refine WM_v rfl rfl hC (fun _ ⟨_, hH⟩ => ov_load rfl one_sl_sl_int (hH.cb 2 rfl 0)) ?_
  refine WM_p rfl rfl (fun _ => ov_field rfl fo_impl_Crew_0) ?_
  refine WM_v rfl rfl hC (fun _ ⟨_, hH⟩ => ov_load rfl one_sl_sl_int (hH.cb 3 rfl 0)) ?_
  refine WM_p rfl rfl (fun _ => ov_field rfl fo_impl_Crew_0) ?_
  refine WM_v rfl rfl hC (fun _ ⟨_, hH⟩ => ov_load rfl one_sl_sl_int (hH.cb 3 rfl 0)) ?_
  refine WM_p rfl rfl (fun _ => ov_len rfl hds st_sl_sl_int) ?_
  refine WM_p rfl rfl (fun _ => ov_as (ov_sub rfl rfl (by omega)) (congrArg (Value.int .i64) (hcas))) ?_
  refine WM_p rfl rfl (fun _ => ov_index rfl rfl st_sl_sl_int hds hn1) ?_
  refine WM_v rfl rfl hC (fun _ ⟨_, hH⟩ => ov_load rfl one_sl_int (l3 hH.drop.drop.drop.drop)) ?_
  refine WM_p rfl rfl (fun _ => ov_index (i := 0) rfl rfl st_sl_sl_int hos (by omega)) ?_
  refine WM_e rfl ?_
  refine WL_storeRow (j := 0 * 1) hH11 rfl rfl (i := 0) rfl hO2 (by omega) l2.sl.one sz_sl_int ?_; rintro O3 w12 hO3 hH12; rw [Nat.zero_mul] at hO3
  refine WL_mix (fun h => absurd rfl h) ?_
  refine WM_nil ?_
  refine WT_seq ?_
  refine WT_mixL [(0, 1), (1, 0), (2, 1), (3, 0), (4, 1), (5, 1), (6, 1), (7, 0), (8, 1), (9, 0), (10, 1), (11, 3)] mixed (by kernel_rfl) hH12 ?_
  clear hH12
  intro w13 hH12 hC
  refine WM_p rfl rfl (fun _ => ov_field rfl fo_impl_Crew_0) ?_
  refine WM_v rfl rfl hC (fun _ ⟨_, hH⟩ => ov_load rfl one_sl_sl_int (hH.cb 2 rfl 0)) ?_
  refine WM_p rfl rfl (fun _ => ov_field rfl fo_impl_Crew_0) ?_
  refine WM_v rfl rfl hC (fun _ ⟨_, hH⟩ => ov_load rfl one_sl_sl_int (hH.cb 2 rfl 0)) ?_
  refine WM_p rfl rfl (fun _ => ov_len rfl hos st_sl_sl_int) ?_
  refine WM_p rfl rfl (fun _ => ov_as (ov_sub rfl rfl (by omega)) (congrArg (Value.int .i64) (hcas))) ?_
  refine WM_p rfl rfl (fun _ => ov_field rfl fo_impl_Crew_0) ?_
  refine WM_v rfl rfl hC (fun _ ⟨_, hH⟩ => ov_load rfl one_sl_sl_int (hH.cb 3 rfl 0)) ?_
  refine WM_p rfl rfl (fun _ => ov_index (i := 0) rfl rfl st_sl_sl_int hds (by omega)) ?_
  refine WM_v rfl rfl hC (fun _ ⟨_, hH⟩ => ov_load rfl one_sl_int (f3 hH.drop.drop.drop.drop)) ?_
  refine WM_p rfl rfl (fun _ => ov_index rfl rfl st_sl_sl_int hos hn1) ?_
  refine WM_e rfl ?_
  refine WL_storeRow (j := (c.dq.length - 1) * 1) hH12 rfl rfl (i := 0) rfl hO3 (by rw [List.length_set]; omega) f2.sl.one sz_sl_int ?_; rintro O4 w14 hO4 hH14; rw [Nat.mul_one] at hO4
  refine WL_mix (fun h => absurd rfl h) ?_
  refine WM_nil ?_
  refine WT_seq ?_
  refine WT_region ?_
  refine WL_v rfl (ov_move rfl) ?_
  have hH15 : H w14 h' (O4 :: crbox g7 ov2 cv nv rv :: crbox g dv cv nv rv :: Ls) := hH14
  have hdl : ((c.dq.set 0 (c.dq[c.dq.length - 1])).set (c.dq.length - 1) c.dq[0]).length = c.dq.length := by simp
  generalize hdq2 : (c.dq.set 0 (c.dq[c.dq.length - 1])).set (c.dq.length - 1) c.dq[0] = dq2 at hsw hdl
  have hok2 := hok.deal hsw hdl
  have hcr : crewOk p ⟨dq2, c.ct, c.dn, c.rw⟩ = true := (crewOk_iff _ _).2 hok2
  have hlim2 : CrLim ⟨dq2, c.ct, c.dn, c.rw⟩ := ⟨by simp only; rw [hdl]; exact hlim.dq, by simp only; rw [hsw.length_eq]; exact hlim.dd, hlim.ct, hlim.dn, hlim.rw, hlim.rr⟩
  have hRD : RdLL h' (O4 :: crbox g7 ov2 cv nv rv :: crbox g dv cv nv rv :: Ls) ov2 dq2 := ⟨by rw [hdl]; exact hO4.sl, fun {i} hi => by
    have hic : i < c.dq.length := by omega
    obtain ⟨u, e1, e2, _⟩ := hya i hic
    have hv2 : ∀ {u2 : Value} {l : List Int}, ((ys.set 0 uL).set (c.dq.length - 1) uF)[i]? = some u2 → RdL h' Ls u2 l → dq2[i] = l → ∃ u, RdL h' (O4 :: crbox g7 ov2 cv nv rv :: crbox g dv cv nv rv :: Ls) u dq2[i] ∧ ∀ {w}, H w h' (O4 :: crbox g7 ov2 cv nv rv :: crbox g dv cv nv rv :: Ls) → w.cell? ((slA ov2).add (i * 1)) = some u := fun {u2 l} k1 k2 k3 => by
      rw [k3]
      exact ⟨u2, k2.up.up.up, fun hH => by rw [Nat.mul_one]; exact hO4.cell hH (i := 0) rfl k1⟩
    by_cases hiL : c.dq.length - 1 = i
    · refine hv2 (u2 := uF) (by rw [List.getElem?_set, if_pos hiL, if_pos (by rw [List.length_set]; omega)]) f2 ?_
      subst hdq2
      rw [List.getElem_set, if_pos hiL]
    · by_cases hi0 : 0 = i
      · refine hv2 (u2 := uL) (by rw [List.getElem?_set, if_neg hiL, List.getElem?_set, if_pos hi0, if_pos (by omega)]) l2 ?_
        subst hdq2
        rw [List.getElem_set, if_neg hiL, List.getElem_set, if_pos hi0]
      · refine hv2 (u2 := u) (by rw [List.getElem?_set, if_neg hiL, List.getElem?_set, if_neg hi0]; exact e1) e2 ?_
        subst hdq2
        rw [List.getElem_set, if_neg hiL, List.getElem_set, if_neg hi0]⟩
  have hcv2 := crewValid_ok hH15 hP hlim2 ⟨hRD, (hR _).ct, (hR _).dn, (hR _).rw⟩
  rw [hcr] at hcv2
  refine WL_v rfl (ov_loadN [ov2, cv, nv, rv] rfl agg_impl_Crew rfl ((loadCrew (i := 1) rfl hH15))) ?_
  refine WL_call rfl rfl cf_impl_CrewValid (hcv2) ?_; rintro _ w15 ⟨rfl, hH16⟩
  refine WL_v rfl (ov_assign rfl) ?_
  refine WL_nil ?_
  exact WT_ret1 Tryz.func3 Tryz.results3 rfl ⟨rfl, hH16.drop.drop.drop.weak hle⟩
end
end Go.Proofs.YtlmdmgjppdhelaaGreat
