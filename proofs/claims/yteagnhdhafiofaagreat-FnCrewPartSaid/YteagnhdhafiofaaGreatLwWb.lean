/- The law CrewPart: its walk. -/
import Derived.Test.YteagnhdhafiofaaGreatBe6
namespace Go.Proofs.YteagnhdhafiofaaGreat
open Go.RowKit

theorem flat_set_nil : ∀ {ls : List (List Int)} {k : Nat} (hk : k < ls.length), (ls.set k []).flatten.length + ls[k].length = ls.flatten.length
  | l :: ls, 0, _ => by simp; omega
  | l :: ls, k + 1, hk => by
    have := flat_set_nil (ls := ls) (k := k) (by simpa using hk)
    simp only [List.set_cons_succ, List.flatten_cons, List.length_append, List.getElem_cons_succ]
    omega
theorem crew_part {p : List Nd} {c : Cr} (h : CrewOk p c) {k : Nat} (hk : k < c.dq.length) (hn : 0 < c.dq[k].length) : crewOk p ⟨c.dq.set k [], c.ct, c.dn, c.rw⟩ = false := by
  refine crewOk_not fun h2 => ?_
  have e1 := ((isort_eq (readyI_le p c.dn)).1 h.deq).length_eq
  have e2 := ((isort_eq (readyI_le p c.dn)).1 h2.deq).length_eq
  have e3 := flat_set_nil hk
  simp only at e2
  omega
theorem flat_none {ls : List (List Int)} (h : ∀ i (hi : i < ls.length), ls[i].length = 0) : ls.flatten = [] := by
  refine List.flatten_eq_nil_iff.2 fun l hl => ?_
  obtain ⟨i, hi, rfl⟩ := List.getElem_of_mem hl
  exact List.eq_nil_of_length_eq_zero (h i hi)
/-- The elements of a list of lists. -/
theorem RdLL.valsP {h : GH} {Ls : List Heaplet} {v : Value} {ls : List (List Int)} (hA : RdLL h Ls v ls) : ∃ xs : List Value, xs.length = ls.length ∧ ∀ i (hi : i < ls.length), ∃ u, xs[i]? = some u ∧ RdL h Ls u ls[i] ∧ ∀ {w}, H w h Ls → w.cell? ((slA v).add (i * 1)) = some u := by
  refine ⟨(List.range ls.length).map fun i => if hi : i < ls.length then Classical.choose (hA.at_ hi) else .bool true, by simp, fun i hi => ?_⟩
  have := Classical.choose_spec (hA.at_ hi)
  exact ⟨_, by simp [hi], this.1, this.2⟩

section
variable {h : GH} {Ls : List Heaplet} {w : World}

set_option maxHeartbeats 1000000 in
theorem fnCrewPart_walk (hH : H w h Ls) {xv : Value} {bs : List Int} (hB : Bytes h xv bs) : Rets Tryz.prog 10 #[xv] w fun v w' => v = .bool true ∧ H w' h Ls := by
  refine rets_enter Tryz.func10 rfl Tryz.ntmps10 (by simp) ?_
  refine WT_seq ?_
  refine WT_region ?_
  refine WL_v rfl (ov_assign rfl) ?_
  refine WL_nil ?_
  refine WT_seq ?_
  refine WT_seq ?_
  refine WT_region ?_
  refine WL_v rfl (ov_move rfl) ?_
  refine WL_v rfl (ov_len rfl hB.sl st_sl_uint8) ?_
  refine WL_v rfl (ov_gtr rfl rfl) ?_
  refine WL_nil ?_
  refine WT_cond rfl (fun hl => ?_) (fun hl => ?_)
  · skip
    first | with_reducible replace hl := of_decide_eq_true hl | with_reducible replace hl := bn_T hl | with_reducible replace hl := bb_T hl | skip
    refine WT_seq ?_
    refine WT_region ?_
    refine WL_v rfl (ov_assign rfl) ?_
    refine WL_nil ?_
    exact WT_ret1 Tryz.func10 Tryz.results10 rfl ⟨rfl, hH⟩
  first | with_reducible replace hl := of_decide_eq_false hl | with_reducible replace hl := bn_F hl | with_reducible replace hl := bb_F hl | skip
  refine WT_skip ?_
  refine WT_seq ?_
  refine WT_region ?_
  refine WL_v rfl (ov_move rfl) ?_
  refine WL_call rfl rfl cf_spec_DrawCrewValid (drawCrewValid_ok hH hB) ?_; rintro _ w1 ⟨pv, dv, cv, nv, rv, rfl, h', p, c, hle, hP, hpl, hR, hlim, hH1⟩
  refine WL_v rfl (ov_move rfl) ?_
  refine WL_v rfl (ov_extract rfl rfl) ?_
  refine WL_v rfl (ov_extract rfl rfl) ?_
  refine WL_alloc _ rfl hH1 zero_crew rfl ?_; rintro g w2 hH2
  refine WL_v rfl (ov_assign rfl) ?_
  refine WL_storeN hH2 rfl rfl (i := 0) rfl rfl rfl (ones_cons (hR []).dq.sl.one (ones_cons (hR []).ct.sl.one (ones_cons (hR []).dn.sl.one (ones_cons (hR []).rw.sl.one ones_nil)))) sz_impl_Crew ?_; rintro w3 hH3
  refine WL_nil ?_
  refine WT_seq ?_
  refine WT_region ?_
  refine WL_v rfl (ov_move rfl) ?_
  refine WL_v rfl (ov_loadN [dv, cv, nv, rv] rfl agg_impl_Crew rfl ((loadCrew (i := 0) rfl hH3))) ?_
  refine WL_call rfl rfl cf_impl_CrewValid (crewValid_ok hH3 hP hlim (hR _)) ?_; rintro _ w4 ⟨rfl, hH4⟩
  refine WL_v rfl (ov_assign rfl) ?_
  refine WL_nil ?_
  refine WT_seq ?_
  refine WT_region ?_
  refine WL_v rfl (ov_move rfl) ?_
  refine WL_v rfl (ov_loadN [dv, cv, nv, rv] rfl agg_impl_Crew rfl ((loadCrew (i := 0) rfl hH4))) ?_
  refine WL_call rfl rfl cf_spec_CrewValid (sCrewValid_ok hH4 hP (by omega) hlim (hR _)) ?_; rintro _ w5 ⟨rfl, hH5⟩
  refine WL_v rfl (ov_assign rfl) ?_
  refine WL_nil ?_
  refine WT_seq ?_
  refine WT_seq ?_
  refine WT_region ?_
  refine WL_v rfl (ov_move rfl) ?_
  refine WL_v rfl (ov_move rfl) ?_
  clear hH hH1 hH2 hH3 hH4
  by_cases hv : crewOk p c = true
  case neg =>
    have hv' : crewOk p c = false := by simpa using hv
    rw [hv']
    refine WL_v rfl (ov_F (ov_neqB rfl rfl Tryz.underlying4) (by simp)) ?_
    refine WL_v rfl (ov_move rfl) ?_
    refine WL_guardOn rfl rfl ?_
    refine WL_v rfl (ov_move rfl) ?_
    refine WL_guardOn rfl rfl ?_
    refine WL_v rfl (ov_T (ov_not rfl) (by first | exact decide_eq_true (by simp) | exact nb_T (by simp) | exact mb_T (by simp) | exact (by simp) | (simp only [decide_eq_true_eq]; omega) | simpa using (by simp))) ?_
    refine WL_v rfl (ov_pickF rfl rfl) ?_
    refine WL_nil ?_
    refine WT_condT rfl ?_
    refine WT_seq ?_
    refine WT_region ?_
    refine WL_v rfl (ov_move rfl) ?_
    refine WL_v rfl (ov_move rfl) ?_
    refine WL_v rfl (ov_T (ov_eqlB rfl rfl Tryz.underlying4) (by simp)) ?_
    refine WL_v rfl (ov_assign rfl) ?_
    refine WL_nil ?_
    exact WT_ret1 Tryz.func10 Tryz.results10 rfl ⟨rfl, hH5.drop.weak hle⟩
  rw [hv]
  have hok := (crewOk_iff p c).1 hv
  refine WL_v rfl (ov_F (ov_neqB rfl rfl Tryz.underlying4) (by simp)) ?_
  refine WL_v rfl (ov_move rfl) ?_
  refine WL_guardOn rfl rfl ?_
  refine WL_v rfl (ov_move rfl) ?_
  refine WL_guardOn rfl rfl ?_
  refine WL_v rfl (ov_F (ov_not rfl) (by first | exact decide_eq_false (by simp) | exact nb_F (by simp) | exact mb_F (by simp) | exact (by simp) | (simp only [decide_eq_false_iff_not]; omega) | simpa using (by simp))) ?_
  refine WL_v rfl (ov_pickF rfl rfl) ?_
  refine WL_nil ?_
  refine WT_condF rfl ?_
  have hds := (hR []).dq.sl
  have hlq := hlim.dq
  obtain ⟨ys, hyl, hya⟩ := (hR Ls).dq.valsP
  have hy1 : ∀ u ∈ ys, u.oneCell' = true := fun u hu => by
    obtain ⟨j, hj, rfl⟩ := List.getElem_of_mem hu
    obtain ⟨u2, e1, e2, _⟩ := hya j (by omega)
    rw [List.getElem?_eq_getElem hj] at e1
    obtain rfl := Option.some.inj e1
    exact e2.sl.one
  refine WT_skip ?_
  refine WT_seq ?_
  refine WT_seq ?_
  refine WT_region ?_
  refine WL_v rfl (ov_assign rfl) ?_
  refine WL_nil ?_
  refine WT_block ?_
  refine WT_while (fun s : Nat => [(3, pv), (4, .pointer (some ⟨g, 0, none⟩)), (7, .int .i64 (s : Int))]) (fun k w => k ≤ c.dq.length ∧ (∀ i (_ : i < k) (hi : i < c.dq.length), c.dq[i].length = 0) ∧ H w h' (crbox g dv cv nv rv :: Ls)) (fun k => c.dq.length - k) 0 (by repeat (first | exact trivial | refine ⟨rfl, ?_⟩)) ⟨by omega, fun i hi => by omega, hH5⟩ ?_
  clear hH5
  rintro k w6 ⟨hk, hall, hH⟩ again
  refine WT_seq ?_
  refine WT_seq ?_
  refine WT_region ?_
  refine WL_v rfl (ov_move rfl) ?_
  refine WL_v rfl (ov_field rfl fo_impl_Crew_0) ?_
  refine WL_v rfl (ov_load rfl one_sl_sl_int (hH.cb 0 rfl 0)) ?_
  refine WL_v rfl (ov_len rfl hds st_sl_sl_int) ?_
  refine WL_v rfl (ov_lss rfl rfl) ?_
  refine WL_nil ?_
  refine WT_cond rfl (fun hc => ?_) (fun hc => ?_)
  · skip
    first | with_reducible replace hc := of_decide_eq_true hc | with_reducible replace hc := bn_T hc | with_reducible replace hc := bb_T hc | skip
    have hkp : k < c.dq.length := by omega
    obtain ⟨u0, f1, f2, f3⟩ := hya k hkp
    refine WT_skip ?_
    refine WT_seq ?_
    refine WT_block ?_
    refine WT_seq ?_
    refine WT_region ?_
    refine WL_v rfl (ov_field rfl fo_impl_Crew_0) ?_
    refine WL_v rfl (ov_load rfl one_sl_sl_int (hH.cb 0 rfl 0)) ?_
    refine WL_v rfl (ov_move rfl) ?_
    refine WL_v rfl (ov_index rfl rfl st_sl_sl_int hds hkp) ?_
    refine WL_v rfl (ov_load rfl one_sl_int (f3 hH.drop)) ?_
    refine WL_v rfl (ov_len rfl f2.sl st_sl_int) ?_
    refine WL_v rfl (ov_gtr rfl rfl) ?_
    refine WL_nil ?_
    refine WT_cond rfl (fun hgt => ?_) (fun hgt => ?_)
    · skip
      first | with_reducible replace hgt := of_decide_eq_true hgt | with_reducible replace hgt := bn_T hgt | with_reducible replace hgt := bb_T hgt | skip
      have hyc : ∀ {w : World} {A B : Heaplet}, H w h' (A :: B :: crbox g dv cv nv rv :: Ls) → ∀ j u, ys[j]? = some u → w.cell? ((slA dv).add j) = some u := fun {w A B} hH j u hj => by
        have hjl : j < c.dq.length := by rw [← hyl]; exact (List.getElem?_eq_some_iff.1 hj).1
        obtain ⟨u2, e1, _, e3⟩ := hya j hjl
        rw [hj] at e1
        obtain rfl := Option.some.inj e1
        have := e3 hH.drop.drop.drop
        rwa [Nat.mul_one] at this
      refine WT_seq ?_
      refine WT_region ?_
      refine WL_v rfl (ov_loadN [dv, cv, nv, rv] rfl agg_impl_Crew rfl ((loadCrew (i := 0) rfl hH))) ?_
      refine WL_alloc _ rfl hH zero_crew rfl ?_; rintro g7 w7 hH7
      refine WL_storeN hH7 rfl rfl (i := 0) rfl rfl rfl (ones_cons (hR []).dq.sl.one (ones_cons (hR []).ct.sl.one (ones_cons (hR []).dn.sl.one (ones_cons (hR []).rw.sl.one ones_nil)))) sz_impl_Crew ?_; rintro w8 hH8
      refine WL_nil ?_
      refine WT_seq ?_
      refine WT_region ?_
      refine WL_buildSlice (sz := 1) (parts := []) (vs := []) [] rfl hH8 rfl run_bs_sl0 rfl (by omega) ?_; rintro O ov w9 hO hH9
      refine WL_v rfl (ov_field rfl fo_impl_Crew_0) ?_
      refine WL_v rfl (ov_load rfl one_sl_sl_int (hH9.cb 2 rfl 0)) ?_
      refine WL_append (sz := 1) (n := 0) (m := c.dq.length) rfl hH9 rfl rfl st_sl_sl_int (by omega) (i := 0) rfl hO hds (ys := ys) (by omega) (hyc hH9) hy1 (by omega) (by omega) ?_; rintro O2 ov2 w10 hO2 hH10; rw [Nat.zero_add, List.nil_append] at hO2
      refine WL_v rfl (ov_field rfl fo_impl_Crew_0) ?_
      refine WL_store hH10 rfl rfl (i := 1) (off := 0) rfl rfl (by exact Nat.zero_lt_succ _) hO2.sl.one sz_sl_sl_int ?_; rintro w11 hH11
      refine WL_nil ?_
      refine WT_seq ?_
      refine WT_region ?_
      refine WL_v rfl (ov_field rfl fo_impl_Crew_0) ?_
      have hH12 : H w11 h' (O2 :: crbox g7 ov2 cv nv rv :: crbox g dv cv nv rv :: Ls) := hH11
      have hos := hO2.sl
      clear hH7 hH8 hH9 hH10 hH11
      refine WL_v rfl (ov_load rfl one_sl_sl_int (hH12.cb 1 rfl 0)) ?_
      refine WL_v rfl (ov_move rfl) ?_
      refine WL_bsI0 rfl hH12 run_bs_int0 ?_; rintro Z zv w13 hZ hH13
      refine WL_v rfl (ov_index rfl rfl st_sl_sl_int hos hkp) ?_
      refine WL_storeRow (j := k * 1) hH13 rfl rfl (i := 1) rfl hO2 (by omega) hZ.sl.one sz_sl_int ?_; rintro O3 w14 hO3 hH14; rw [Nat.mul_one] at hO3
      refine WL_nil ?_
      refine WT_seq ?_
      refine WT_region ?_
      refine WL_v rfl (ov_move rfl) ?_
      have hH15 : H w14 h' (Z :: O3 :: crbox g7 ov2 cv nv rv :: crbox g dv cv nv rv :: Ls) := hH14
      have hdl : (c.dq.set k []).length = c.dq.length := List.length_set
      have hcp := crew_part hok hkp (by omega)
      have hsn := flat_set_nil hkp
      have hdd := hlim.dd
      have hlim2 : CrLim ⟨c.dq.set k [], c.ct, c.dn, c.rw⟩ := ⟨by simp only; omega, by simp only; omega, hlim.ct, hlim.dn, hlim.rw, hlim.rr⟩
      have hRD : RdLL h' (Z :: O3 :: crbox g7 ov2 cv nv rv :: crbox g dv cv nv rv :: Ls) ov2 (c.dq.set k []) := ⟨by rw [hdl]; exact hO3.sl, fun {i} hi => by
        have hic : i < c.dq.length := by omega
        rw [List.getElem_set]
        by_cases hik : k = i
        · rw [if_pos hik]
          exact ⟨zv, hZ.rdl (i := 0) rfl, fun hH => by rw [Nat.mul_one]; exact hO3.cell hH (i := 1) rfl (by rw [List.getElem?_set, if_pos hik, if_pos (by omega)])⟩
        · rw [if_neg hik]
          obtain ⟨u, e1, e2, _⟩ := hya i hic
          exact ⟨u, e2.up.up.up.up, fun hH => by rw [Nat.mul_one]; exact hO3.cell hH (i := 1) rfl (by rw [List.getElem?_set, if_neg hik]; exact e1)⟩⟩
      have hcv2 := crewValid_ok hH15 hP hlim2 ⟨hRD, (hR _).ct, (hR _).dn, (hR _).rw⟩
      rw [hcp] at hcv2
      refine WL_v rfl (ov_loadN [ov2, cv, nv, rv] rfl agg_impl_Crew rfl ((loadCrew (i := 2) rfl hH15))) ?_
      refine WL_call rfl rfl cf_impl_CrewValid (hcv2) ?_; rintro _ w15 ⟨rfl, hH16⟩
      refine WL_v rfl (ov_T (ov_not rfl) (by first | exact decide_eq_true rfl | exact nb_T rfl | exact mb_T rfl | exact rfl | (simp only [decide_eq_true_eq]; omega) | simpa using rfl)) ?_
      refine WL_v rfl (ov_assign rfl) ?_
      refine WL_nil ?_
      exact WT_ret1 Tryz.func10 Tryz.results10 rfl ⟨rfl, hH16.drop.drop.drop.drop.weak hle⟩
    first | with_reducible replace hgt := of_decide_eq_false hgt | with_reducible replace hgt := bn_F hgt | with_reducible replace hgt := bb_F hgt | skip
    refine WT_skip ?_
    refine WT_inBlock ?_
    refine WT_region ?_
    refine WL_v rfl (ov_move rfl) ?_
    refine WL_v rfl (ov_add rfl rfl (by omega)) ?_
    refine WL_v rfl (ov_assign rfl) ?_
    refine WL_nil ?_
    refine again (k + 1) _ _ (by omega) (by repeat (first | exact trivial | refine ⟨rfl, ?_⟩)) ⟨by omega, fun i hi hil => ?_, hH⟩
    rcases Nat.lt_or_ge i k with h3 | h3
    · exact hall i h3 hil
    · obtain rfl : i = k := by omega
      omega
  first | with_reducible replace hc := of_decide_eq_false hc | with_reducible replace hc := bn_F hc | with_reducible replace hc := bb_F hc | skip
  obtain rfl : k = c.dq.length := by omega
  have hfl := flat_none fun i hi => hall i hi hi
  have hr0 : readyI p c.dn = [] := by
    have := hok.deq
    rw [hfl] at this
    exact this.symm
  have hln := hok.all.1 hr0
  refine WT_exit rfl ?_
  refine WT_seq ?_
  refine WT_region ?_
  refine WL_v rfl (ov_field rfl fo_impl_Crew_2) ?_
  refine WL_v rfl (ov_load rfl one_sl_int (hH.cb 0 rfl 2)) ?_
  refine WL_v rfl (ov_len rfl (hR []).dn.sl st_sl_int) ?_
  refine WL_v rfl (ov_move rfl) ?_
  refine WL_v rfl (ov_len rfl hP.sl st_sl_impl_Node) ?_
  refine WL_v rfl (ov_T (ov_eql rfl rfl) (decide_eq_true (by omega))) ?_
  refine WL_v rfl (ov_assign rfl) ?_
  refine WL_nil ?_
  exact WT_ret1 Tryz.func10 Tryz.results10 rfl ⟨rfl, hH.drop.weak hle⟩
end
end Go.Proofs.YteagnhdhafiofaaGreat
