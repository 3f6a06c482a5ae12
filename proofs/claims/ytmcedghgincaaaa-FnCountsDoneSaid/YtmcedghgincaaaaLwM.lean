/- The laws on counts behind a node. -/
import Derived.Test.YtmcedghgincaaaaLwL
namespace Go.Proofs.Ytmcedghgincaaaa
open Go.RowKit

section
variable {h : GH} {Ls : List Heaplet} {w : World}

theorem sameRow_same (hH : H w h Ls) {av bv : Value} {xs : List Int} (hA : RdL h Ls av xs) (hB : RdL h Ls bv xs) : Rets Try.prog 23 #[av, bv] w fun v w' => v = .bool true ∧ H w' h Ls :=
  (sameRow_ok hH hA hB).mono fun _ _ hh => ⟨by rw [hh.1]; simp, hh.2⟩

theorem fnCountsNew_walk (hH : H w h Ls) {cv : Value} {bs : List Int} (hB : Bytes h cv bs) : Rets Try.prog 8 #[cv] w fun v w' => v = .bool true ∧ H w' h Ls := by
  refine rets_enter Try.func8 rfl Try.ntmps8 (by simp) ?_
  refine WT_seq ?_
  refine WT_region ?_
  refine WL_v rfl (ov_assign rfl) ?_
  refine WL_nil ?_
  refine WT_seq ?_
  refine WT_seq ?_
  refine WT_region ?_
  refine WL_v rfl (ov_move rfl) ?_
  refine WL_v rfl (ov_len rfl hB.sl st_sl_uint8) ?_
  refine WL_v rfl (ov_gtr rfl rfl) ?_
  refine WL_nil ?_
  refine WT_cond rfl (fun hl => ?_) (fun hl => ?_)
  · skip
    first | with_reducible replace hl := of_decide_eq_true hl | with_reducible replace hl := bn_T hl | with_reducible replace hl := bb_T hl | skip
    refine WT_seq ?_
    refine WT_region ?_
    refine WL_v rfl (ov_assign rfl) ?_
    refine WL_nil ?_
    exact WT_ret1 Try.func8 Try.results8 rfl ⟨rfl, hH⟩
  first | with_reducible replace hl := of_decide_eq_false hl | with_reducible replace hl := bn_F hl | with_reducible replace hl := bb_F hl | skip
  refine WT_skip ?_
  refine WT_seq ?_
  refine WT_region ?_
  refine WL_v rfl (ov_move rfl) ?_
  refine WL_call rfl rfl cf_spec_DrawCountsDone (drawCountsDone_ok hH hB) ?_; rintro _ w1 ⟨pv, cv2, a, rfl, ha1, ha2, h', p, c, hle, hP, hpl, hC, hcl, hH1⟩
  refine WL_v rfl (ov_move rfl) ?_
  refine WL_v rfl (ov_extract rfl rfl) ?_
  refine WL_v rfl (ov_extract rfl rfl) ?_
  refine WL_v rfl (ov_extract rfl rfl) ?_
  refine WL_v rfl (ov_assign rfl) ?_
  refine WL_v rfl (ov_assign rfl) ?_
  refine WL_v rfl (ov_assign rfl) ?_
  refine WL_nil ?_
  refine WT_seq ?_
  refine WT_region ?_
  refine WL_v rfl (ov_move rfl) ?_
  refine WL_v rfl (ov_move rfl) ?_
  refine WL_v rfl (ov_move rfl) ?_
  refine WL_call rfl rfl cf_impl_CountsDone (countsDone_ok hH1 hP (hC.rdl _) (by omega) a) ?_; rintro _ w2 ⟨X, Y, xv, yv, rfl, hX, hY, hH2⟩
  refine WL_v rfl (ov_move rfl) ?_
  refine WL_v rfl (ov_extract rfl rfl) ?_
  refine WL_v rfl (ov_extract rfl rfl) ?_
  refine WL_v rfl (ov_extract rfl rfl) ?_
  refine WL_v rfl (ov_assign rfl) ?_
  refine WL_v rfl (ov_assign rfl) ?_
  refine WL_v rfl (ov_assign rfl) ?_
  refine WL_nil ?_
  refine WT_seq ?_
  refine WT_region ?_
  refine WL_v rfl (ov_move rfl) ?_
  refine WL_v rfl (ov_move rfl) ?_
  refine WL_v rfl (ov_move rfl) ?_
  refine WL_call rfl rfl cf_spec_CountsDone (sCountsDone_ok hH2 hP (hC.rdl _) (by omega) (by omega) a) ?_; rintro _ w3 ⟨X2, Y2, xv2, yv2, rfl, hX2, hY2, hH3⟩
  refine WL_v rfl (ov_move rfl) ?_
  refine WL_v rfl (ov_extract rfl rfl) ?_
  refine WL_v rfl (ov_extract rfl rfl) ?_
  refine WL_v rfl (ov_extract rfl rfl) ?_
  refine WL_v rfl (ov_assign rfl) ?_
  refine WL_v rfl (ov_assign rfl) ?_
  refine WL_v rfl (ov_assign rfl) ?_
  refine WL_nil ?_
  refine WT_seq ?_
  refine WT_seq ?_
  refine WT_region ?_
  refine WL_v rfl (ov_move rfl) ?_
  refine WL_v rfl (ov_move rfl) ?_
  refine WL_v rfl (ov_F (ov_neqB rfl rfl Try.underlying4) (by simp)) ?_
  refine WL_v rfl (ov_move rfl) ?_
  refine WL_guardOn rfl rfl ?_
  refine WL_v rfl (ov_move rfl) ?_
  refine WL_guardOn rfl rfl ?_
  refine WL_v rfl (ov_move rfl) ?_
  refine WL_guardOn rfl rfl ?_
  refine WL_call rfl rfl cf_laws_sameRow (sameRow_same hH3 (hY.rdl (i := 3) rfl) (hY2.rdl (i := 1) rfl)) ?_; rintro _ w4 ⟨rfl, hH4⟩
  refine WL_guardOn rfl rfl ?_
  refine WL_v rfl (ov_F (ov_not rfl) rfl) ?_
  refine WL_v rfl (ov_pickF rfl rfl) ?_
  refine WL_v rfl (ov_move rfl) ?_
  refine WL_guardOn rfl rfl ?_
  refine WL_v rfl (ov_move rfl) ?_
  refine WL_guardOn rfl rfl ?_
  refine WL_v rfl (ov_move rfl) ?_
  refine WL_guardOn rfl rfl ?_
  refine WL_call rfl rfl cf_laws_sameRow (sameRow_same hH4 (hX.rdl (i := 2) rfl) (hX2.rdl (i := 0) rfl)) ?_; rintro _ w5 ⟨rfl, hH5⟩
  refine WL_guardOn rfl rfl ?_
  refine WL_v rfl (ov_F (ov_not rfl) rfl) ?_
  refine WL_v rfl (ov_pickF rfl rfl) ?_
  refine WL_v rfl (ov_move rfl) ?_
  refine WL_guardOn rfl rfl ?_
  refine WL_v rfl (ov_move rfl) ?_
  refine WL_guardOn rfl rfl ?_
  refine WL_v rfl (ov_not rfl) ?_
  refine WL_v rfl (ov_pickF rfl rfl) ?_
  refine WL_nil ?_
  refine WT_cond rfl (fun hok => ?_) (fun hok => ?_)
  · skip
    first | with_reducible replace hok := of_decide_eq_true hok | with_reducible replace hok := bn_T hok | with_reducible replace hok := bb_T hok | skip
    refine WT_seq ?_
    refine WT_region ?_
    refine WL_v rfl (ov_move rfl) ?_
    refine WL_v rfl (ov_move rfl) ?_
    refine WL_v rfl (ov_T (ov_eqlB rfl rfl Try.underlying4) (by simp)) ?_
    refine WL_v rfl (ov_move rfl) ?_
    refine WL_guardOn rfl rfl ?_
    refine WL_v rfl (ov_move rfl) ?_
    refine WL_guardOn rfl rfl ?_
    refine WL_v rfl (ov_move rfl) ?_
    refine WL_guardOn rfl rfl ?_
    refine WL_call rfl rfl cf_laws_sameRow (sameRow_same hH5 (hY.rdl (i := 3) rfl) (hY2.rdl (i := 1) rfl)) ?_; rintro _ w6 ⟨rfl, hH6⟩
    refine WL_v rfl (ov_pickT rfl rfl) ?_
    refine WL_v rfl (ov_move rfl) ?_
    refine WL_guardOn rfl rfl ?_
    refine WL_v rfl (ov_move rfl) ?_
    refine WL_guardOn rfl rfl ?_
    refine WL_v rfl (ov_move rfl) ?_
    refine WL_guardOn rfl rfl ?_
    refine WL_call rfl rfl cf_laws_sameRow (sameRow_same hH6 (hX.rdl (i := 2) rfl) (hX2.rdl (i := 0) rfl)) ?_; rintro _ w7 ⟨rfl, hH7⟩
    refine WL_v rfl (ov_pickT rfl rfl) ?_
    refine WL_v rfl (ov_assign rfl) ?_
    refine WL_nil ?_
    exact WT_ret1 Try.func8 Try.results8 rfl ⟨rfl, (hH7.weak hle).drop.drop.drop.drop⟩
  first | with_reducible replace hok := of_decide_eq_false hok | with_reducible replace hok := bn_F hok | with_reducible replace hok := bb_F hok | skip
  obtain ⟨hv, hn, hcn, hall⟩ := doneOk_spec hok
  have hlen := PlanOk.len hv
  obtain ⟨i, hi⟩ := Int.eq_ofNat_of_zero_le hn.1
  subst hi
  have hdl := doneC_len p c (i : Int)
  unfold doneCo at hX
  unfold doneRo at hY
  rw [if_pos hok] at hX hY
  have hrl := toI_len (doneR p c (i : Int))
  have hcb : ∀ k (hk : k < c.length), 0 ≤ c[k] ∧ c[k] ≤ 2 := fun k hk => by
    have h1 := (hall k (by omega)).1
    rw [getD_elem hk] at h1
    have h2 := needTo_len (p.getD k default).frm
    have h3 : (p.getD k default).frm.length ≤ 2 := by rw [getD_of (by omega)]; exact NodeOk.len2 (PlanOk.node hv (by omega))
    omega
  refine WT_skip ?_
  refine WT_seq ?_
  refine WT_region ?_
  refine WL_v rfl (ov_assign rfl) ?_
  refine WL_nil ?_
  refine WT_seq ?_
  refine WT_seq ?_
  refine WT_region ?_
  refine WL_v rfl (ov_assign rfl) ?_
  refine WL_nil ?_
  refine WT_block ?_
  refine WT_while (fun s : Nat => [(4, cv2), (6, xv), (7, yv), (12, .int .i64 ((toldTo p c (i : Int) s).length : Int)), (13, .int .i64 (s : Int))]) (fun k w => k ≤ p.length ∧ H w h' (X2 :: Y2 :: X :: Y :: Ls)) (fun k => p.length - k) 0 (by repeat (first | exact trivial | refine ⟨rfl, ?_⟩)) ⟨by omega, hH5⟩ ?_
  clear hH hH1 hH2 hH3 hH4 hH5
  rintro k w6 ⟨hk, hH⟩ again
  have htl : (toldTo p c (i : Int) k).length ≤ k := by
    have := List.length_filter_le (fun j => decide ((i : Int) ∈ (p.getD j default).frm) && decide (c.getD j 0 = 1)) (List.range k)
    simpa [toldTo] using this
  refine WT_seq ?_
  refine WT_seq ?_
  refine WT_region ?_
  refine WL_v rfl (ov_move rfl) ?_
  refine WL_v rfl (ov_move rfl) ?_
  refine WL_v rfl (ov_len rfl hX.sl st_sl_int) ?_
  refine WL_v rfl (ov_lss rfl rfl) ?_
  refine WL_nil ?_
  refine WT_cond rfl (fun hc => ?_) (fun hc => ?_)
  · skip
    first | with_reducible replace hc := of_decide_eq_true hc | with_reducible replace hc := bn_T hc | with_reducible replace hc := bb_T hc | skip
    have hkp : k < p.length := by omega
    have hkd : k < (doneC p c (i : Int)).length := by omega
    have hkc : k < c.length := by omega
    have hgd := doneC_get hkd
    have hck := hcb k hkc
    have hka := (hall k hkp).2
    rw [getD_elem hkc] at hgd hka
    have hsame : ¬ ((i : Int) ∈ (p.getD k default).frm ∧ c.getD k 0 = 1) → toldTo p c (i : Int) (k + 1) = toldTo p c (i : Int) k := fun hh => by rw [toldTo_succ, if_neg hh, List.append_nil]
    by_cases hz : (doneC p c (i : Int))[k] = 0
    case neg =>
      have hs := hsame (fun hh => by rw [if_pos hh.1] at hgd; have := hh.2; rw [getD_elem hkc] at this; omega)
      refine WT_skip ?_
      refine WT_seq ?_
      refine WT_block ?_
      refine WT_seq ?_
      refine WT_region ?_
      refine WL_v rfl (ov_move rfl) ?_
      refine WL_v rfl (ov_move rfl) ?_
      refine WL_v rfl (ov_index rfl rfl st_sl_int hX.sl hkd) ?_
      refine WL_v rfl (ov_load rfl one_int (hX.cell hH (i := 2) rfl hkd)) ?_
      refine WL_v rfl (ov_F (ov_eql rfl rfl) (by first | exact decide_eq_false hz | exact nb_F hz | exact mb_F hz | exact hz | (simp only [decide_eq_false_iff_not]; omega) | simpa using hz)) ?_
      refine WL_v rfl (ov_move rfl) ?_
      refine WL_guardOff rfl rfl rfl rfl ?_
      refine WL_guardOff rfl rfl rfl rfl ?_
      refine WL_guardOff rfl rfl rfl rfl ?_
      refine WL_guardOff rfl rfl rfl rfl ?_
      refine WL_guardOff rfl rfl rfl rfl ?_
      refine WL_v rfl (ov_pickF rfl rfl) ?_
      refine WL_nil ?_
      refine WT_condF rfl ?_
      refine WT_skip ?_
      refine WT_inBlock ?_
      refine WT_region ?_
      refine WL_v rfl (ov_move rfl) ?_
      refine WL_v rfl (ov_add rfl rfl (by omega)) ?_
      refine WL_v rfl (ov_assign rfl) ?_
      refine WL_nil ?_
      refine again (k + 1) _ _ (by omega) (by rw [hs]; exact (by repeat (first | exact trivial | refine ⟨rfl, ?_⟩))) ⟨by omega, hH⟩
    refine WT_skip ?_
    refine WT_seq ?_
    refine WT_block ?_
    refine WT_seq ?_
    refine WT_region ?_
    refine WL_v rfl (ov_move rfl) ?_
    refine WL_v rfl (ov_move rfl) ?_
    refine WL_v rfl (ov_index rfl rfl st_sl_int hX.sl hkd) ?_
    refine WL_v rfl (ov_load rfl one_int (hX.cell hH (i := 2) rfl hkd)) ?_
    refine WL_v rfl (ov_T (ov_eql rfl rfl) (by first | exact decide_eq_true hz | exact nb_T hz | exact mb_T hz | exact hz | (simp only [decide_eq_true_eq]; omega) | simpa using hz)) ?_
    refine WL_v rfl (ov_move rfl) ?_
    refine WL_guardOn rfl rfl ?_
    refine WL_v rfl (ov_move rfl) ?_
    refine WL_guardOn rfl rfl ?_
    refine WL_v rfl (ov_move rfl) ?_
    refine WL_guardOn rfl rfl ?_
    refine WL_v rfl (ov_index rfl rfl st_sl_int hC.sl hkc) ?_
    refine WL_guardOn rfl rfl ?_
    refine WL_v rfl (ov_load rfl one_int (hC.cell hH hkc)) ?_
    refine WL_guardOn rfl rfl ?_
    refine WL_v rfl (ov_gtr rfl rfl) ?_
    refine WL_v rfl (ov_pickT rfl rfl) ?_
    refine WL_nil ?_
    refine WT_cond rfl (fun hgt => ?_) (fun hgt => ?_)
    · skip
      first | with_reducible replace hgt := of_decide_eq_true hgt | with_reducible replace hgt := bn_T hgt | with_reducible replace hgt := bb_T hgt | skip
      have hm : (i : Int) ∈ (p.getD k default).frm ∧ c.getD k 0 = 1 := by
        by_cases h9 : (i : Int) ∈ (p.getD k default).frm
        · rw [if_pos h9] at hgd
          exact ⟨h9, by rw [getD_elem hkc]; omega⟩
        · rw [if_neg h9] at hgd; omega
      obtain ⟨hlt, hat⟩ := toldTo_at hkp hm
      have hlt2 : (toldTo p c (i : Int) k).length < (toI (doneR p c (i : Int))).length := by omega
      have hgt2 : (toI (doneR p c (i : Int)))[(toldTo p c (i : Int) k).length] = (k : Int) := by simp only [toI, List.getElem_map, hat]
      have hs : ((toldTo p c (i : Int) k).length : Int) + 1 = ((toldTo p c (i : Int) (k + 1)).length : Int) := by rw [toldTo_succ, if_pos hm, List.length_append, List.length_singleton]; omega
      refine WT_seq ?_
      refine WT_seq ?_
      refine WT_region ?_
      refine WL_v rfl (ov_move rfl) ?_
      refine WL_v rfl (ov_move rfl) ?_
      refine WL_v rfl (ov_len rfl hY.sl st_sl_int) ?_
      refine WL_v rfl (ov_F (ov_geq rfl rfl) (decide_eq_false (by omega))) ?_
      refine WL_v rfl (ov_move rfl) ?_
      refine WL_guardOn rfl rfl ?_
      refine WL_v rfl (ov_move rfl) ?_
      refine WL_guardOn rfl rfl ?_
      refine WL_v rfl (ov_move rfl) ?_
      refine WL_guardOn rfl rfl ?_
      refine WL_v rfl (ov_index rfl rfl st_sl_int hY.sl hlt2) ?_
      refine WL_guardOn rfl rfl ?_
      refine WL_v rfl (ov_load rfl one_int (hY.cell hH (i := 3) rfl hlt2)) ?_
      refine WL_guardOn rfl rfl ?_
      refine WL_v rfl (ov_move rfl) ?_
      refine WL_guardOn rfl rfl ?_
      refine WL_v rfl (ov_F (ov_neq rfl rfl) (by rw [hgt2]; simp)) ?_
      refine WL_v rfl (ov_pickF rfl rfl) ?_
      refine WL_nil ?_
      refine WT_condF rfl ?_
      refine WT_skip ?_
      refine WT_region ?_
      refine WL_v rfl (ov_move rfl) ?_
      refine WL_v rfl (ov_as (ov_add rfl rfl (by omega)) (congrArg (Value.int .i64) (hs))) ?_
      refine WL_v rfl (ov_assign rfl) ?_
      refine WL_nil ?_
      refine WT_inBlock ?_
      refine WT_region ?_
      refine WL_v rfl (ov_move rfl) ?_
      refine WL_v rfl (ov_add rfl rfl (by omega)) ?_
      refine WL_v rfl (ov_assign rfl) ?_
      refine WL_nil ?_
      refine again (k + 1) _ _ (by omega) (by repeat (first | exact trivial | refine ⟨rfl, ?_⟩)) ⟨by omega, hH⟩
    first | with_reducible replace hgt := of_decide_eq_false hgt | with_reducible replace hgt := bn_F hgt | with_reducible replace hgt := bb_F hgt | skip
    have hs := hsame (fun hh => by have := hh.2; rw [getD_elem hkc] at this; omega)
    refine WT_skip ?_
    refine WT_inBlock ?_
    refine WT_region ?_
    refine WL_v rfl (ov_move rfl) ?_
    refine WL_v rfl (ov_add rfl rfl (by omega)) ?_
    refine WL_v rfl (ov_assign rfl) ?_
    refine WL_nil ?_
    refine again (k + 1) _ _ (by omega) (by rw [hs]; exact (by repeat (first | exact trivial | refine ⟨rfl, ?_⟩))) ⟨by omega, hH⟩
  first | with_reducible replace hc := of_decide_eq_false hc | with_reducible replace hc := bn_F hc | with_reducible replace hc := bb_F hc | skip
  obtain rfl : k = p.length := by omega
  refine WT_exit rfl ?_
  refine WT_seq ?_
  refine WT_region ?_
  refine WL_v rfl (ov_move rfl) ?_
  refine WL_v rfl (ov_move rfl) ?_
  refine WL_v rfl (ov_len rfl hY.sl st_sl_int) ?_
  refine WL_v rfl (ov_T (ov_eql rfl rfl) (by rw [hrl]; exact decide_eq_true rfl)) ?_
  refine WL_v rfl (ov_assign rfl) ?_
  refine WL_nil ?_
  exact WT_ret1 Try.func8 Try.results8 rfl ⟨rfl, (hH.weak hle).drop.drop.drop.drop⟩

theorem fnCountsSum_walk (hH : H w h Ls) {cv : Value} {bs : List Int} (hB : Bytes h cv bs) : Rets Try.prog 9 #[cv] w fun v w' => v = .bool true ∧ H w' h Ls := by
  refine rets_enter Try.func9 rfl Try.ntmps9 (by simp) ?_
  refine WT_seq ?_
  refine WT_region ?_
  refine WL_v rfl (ov_assign rfl) ?_
  refine WL_nil ?_
  refine WT_seq ?_
  refine WT_seq ?_
  refine WT_region ?_
  refine WL_v rfl (ov_move rfl) ?_
  refine WL_v rfl (ov_len rfl hB.sl st_sl_uint8) ?_
  refine WL_v rfl (ov_gtr rfl rfl) ?_
  refine WL_nil ?_
  refine WT_cond rfl (fun hl => ?_) (fun hl => ?_)
  · skip
    first | with_reducible replace hl := of_decide_eq_true hl | with_reducible replace hl := bn_T hl | with_reducible replace hl := bb_T hl | skip
    refine WT_seq ?_
    refine WT_region ?_
    refine WL_v rfl (ov_assign rfl) ?_
    refine WL_nil ?_
    exact WT_ret1 Try.func9 Try.results9 rfl ⟨rfl, hH⟩
  first | with_reducible replace hl := of_decide_eq_false hl | with_reducible replace hl := bn_F hl | with_reducible replace hl := bb_F hl | skip
  refine WT_skip ?_
  refine WT_seq ?_
  refine WT_region ?_
  refine WL_v rfl (ov_move rfl) ?_
  refine WL_call rfl rfl cf_spec_DrawCountsDone (drawCountsDone_ok hH hB) ?_; rintro _ w1 ⟨pv, cv2, a, rfl, ha1, ha2, h', p, c, hle, hP, hpl, hC, hcl, hH1⟩
  refine WL_v rfl (ov_move rfl) ?_
  refine WL_v rfl (ov_extract rfl rfl) ?_
  refine WL_v rfl (ov_extract rfl rfl) ?_
  refine WL_v rfl (ov_extract rfl rfl) ?_
  refine WL_v rfl (ov_assign rfl) ?_
  refine WL_v rfl (ov_assign rfl) ?_
  refine WL_v rfl (ov_assign rfl) ?_
  refine WL_nil ?_
  refine WT_seq ?_
  refine WT_region ?_
  refine WL_v rfl (ov_move rfl) ?_
  refine WL_v rfl (ov_move rfl) ?_
  refine WL_v rfl (ov_move rfl) ?_
  refine WL_call rfl rfl cf_impl_CountsDone (countsDone_ok hH1 hP (hC.rdl _) (by omega) a) ?_; rintro _ w2 ⟨X, Y, xv, yv, rfl, hX, hY, hH2⟩
  refine WL_v rfl (ov_move rfl) ?_
  refine WL_v rfl (ov_extract rfl rfl) ?_
  refine WL_v rfl (ov_extract rfl rfl) ?_
  refine WL_v rfl (ov_extract rfl rfl) ?_
  refine WL_v rfl (ov_assign rfl) ?_
  refine WL_v rfl (ov_assign rfl) ?_
  refine WL_v rfl (ov_assign rfl) ?_
  refine WL_nil ?_
  refine WT_seq ?_
  refine WT_region ?_
  refine WL_v rfl (ov_move rfl) ?_
  refine WL_v rfl (ov_move rfl) ?_
  refine WL_v rfl (ov_move rfl) ?_
  refine WL_call rfl rfl cf_spec_CountsDone (sCountsDone_ok hH2 hP (hC.rdl _) (by omega) (by omega) a) ?_; rintro _ w3 ⟨X2, Y2, xv2, yv2, rfl, hX2, hY2, hH3⟩
  refine WL_v rfl (ov_move rfl) ?_
  refine WL_v rfl (ov_extract rfl rfl) ?_
  refine WL_v rfl (ov_extract rfl rfl) ?_
  refine WL_v rfl (ov_extract rfl rfl) ?_
  refine WL_v rfl (ov_assign rfl) ?_
  refine WL_v rfl (ov_assign rfl) ?_
  refine WL_v rfl (ov_assign rfl) ?_
  refine WL_nil ?_
  refine WT_seq ?_
  refine WT_seq ?_
  refine WT_region ?_
  refine WL_v rfl (ov_move rfl) ?_
  refine WL_v rfl (ov_move rfl) ?_
  refine WL_v rfl (ov_F (ov_neqB rfl rfl Try.underlying4) (by simp)) ?_
  refine WL_v rfl (ov_move rfl) ?_
  refine WL_guardOn rfl rfl ?_
  refine WL_v rfl (ov_move rfl) ?_
  refine WL_guardOn rfl rfl ?_
  refine WL_v rfl (ov_move rfl) ?_
  refine WL_guardOn rfl rfl ?_
  refine WL_call rfl rfl cf_laws_sameRow (sameRow_same hH3 (hY.rdl (i := 3) rfl) (hY2.rdl (i := 1) rfl)) ?_; rintro _ w4 ⟨rfl, hH4⟩
  refine WL_guardOn rfl rfl ?_
  refine WL_v rfl (ov_F (ov_not rfl) rfl) ?_
  refine WL_v rfl (ov_pickF rfl rfl) ?_
  refine WL_v rfl (ov_move rfl) ?_
  refine WL_guardOn rfl rfl ?_
  refine WL_v rfl (ov_move rfl) ?_
  refine WL_guardOn rfl rfl ?_
  refine WL_v rfl (ov_move rfl) ?_
  refine WL_guardOn rfl rfl ?_
  refine WL_call rfl rfl cf_laws_sameRow (sameRow_same hH4 (hX.rdl (i := 2) rfl) (hX2.rdl (i := 0) rfl)) ?_; rintro _ w5 ⟨rfl, hH5⟩
  refine WL_guardOn rfl rfl ?_
  refine WL_v rfl (ov_F (ov_not rfl) rfl) ?_
  refine WL_v rfl (ov_pickF rfl rfl) ?_
  refine WL_v rfl (ov_move rfl) ?_
  refine WL_guardOn rfl rfl ?_
  refine WL_v rfl (ov_move rfl) ?_
  refine WL_guardOn rfl rfl ?_
  refine WL_v rfl (ov_not rfl) ?_
  refine WL_v rfl (ov_pickF rfl rfl) ?_
  refine WL_nil ?_
  refine WT_cond rfl (fun hok => ?_) (fun hok => ?_)
  · skip
    first | with_reducible replace hok := of_decide_eq_true hok | with_reducible replace hok := bn_T hok | with_reducible replace hok := bb_T hok | skip
    refine WT_seq ?_
    refine WT_region ?_
    refine WL_v rfl (ov_move rfl) ?_
    refine WL_v rfl (ov_move rfl) ?_
    refine WL_v rfl (ov_T (ov_eqlB rfl rfl Try.underlying4) (by simp)) ?_
    refine WL_v rfl (ov_move rfl) ?_
    refine WL_guardOn rfl rfl ?_
    refine WL_v rfl (ov_move rfl) ?_
    refine WL_guardOn rfl rfl ?_
    refine WL_v rfl (ov_move rfl) ?_
    refine WL_guardOn rfl rfl ?_
    refine WL_call rfl rfl cf_laws_sameRow (sameRow_same hH5 (hY.rdl (i := 3) rfl) (hY2.rdl (i := 1) rfl)) ?_; rintro _ w6 ⟨rfl, hH6⟩
    refine WL_v rfl (ov_pickT rfl rfl) ?_
    refine WL_v rfl (ov_move rfl) ?_
    refine WL_guardOn rfl rfl ?_
    refine WL_v rfl (ov_move rfl) ?_
    refine WL_guardOn rfl rfl ?_
    refine WL_v rfl (ov_move rfl) ?_
    refine WL_guardOn rfl rfl ?_
    refine WL_call rfl rfl cf_laws_sameRow (sameRow_same hH6 (hX.rdl (i := 2) rfl) (hX2.rdl (i := 0) rfl)) ?_; rintro _ w7 ⟨rfl, hH7⟩
    refine WL_v rfl (ov_pickT rfl rfl) ?_
    refine WL_v rfl (ov_assign rfl) ?_
    refine WL_nil ?_
    exact WT_ret1 Try.func9 Try.results9 rfl ⟨rfl, (hH7.weak hle).drop.drop.drop.drop⟩
  first | with_reducible replace hok := of_decide_eq_false hok | with_reducible replace hok := bn_F hok | with_reducible replace hok := bb_F hok | skip
  obtain ⟨hv, hn, hcn, hall⟩ := doneOk_spec hok
  have hlen := PlanOk.len hv
  obtain ⟨i, hi⟩ := Int.eq_ofNat_of_zero_le hn.1
  subst hi
  have hdl := doneC_len p c (i : Int)
  unfold doneCo at hX
  unfold doneRo at hY
  rw [if_pos hok] at hX hY
  have hrl := toI_len (doneR p c (i : Int))
  have hcb : ∀ k (hk : k < c.length), 0 ≤ c[k] ∧ c[k] ≤ 2 := fun k hk => by
    have h1 := (hall k (by omega)).1
    rw [getD_elem hk] at h1
    have h2 := needTo_len (p.getD k default).frm
    have h3 : (p.getD k default).frm.length ≤ 2 := by rw [getD_of (by omega)]; exact NodeOk.len2 (PlanOk.node hv (by omega))
    omega
  have hu : usesOf p (i : Int) = toI (usersTo p p.length i) := by unfold usesOf; rw [if_pos ⟨hv, hn⟩]; simp
  have hul := usersTo_len p p.length i
  have hut := toI_len (usersTo p p.length i)
  have hrle := doneR_len_le p c i
  refine WT_skip ?_
  refine WT_seq ?_
  refine WT_region ?_
  refine WL_v rfl (ov_move rfl) ?_
  refine WL_v rfl (ov_move rfl) ?_
  refine WL_call rfl rfl cf_impl_PlanUses (planUses_ok hH5 hP (i : Int)) ?_; rintro uv w6 ⟨U, hU, hH6⟩
  rw [hu] at hU
  refine WL_v rfl (ov_len rfl hU.sl st_sl_int) ?_
  refine WL_v rfl (ov_assign rfl) ?_
  refine WL_nil ?_
  refine WT_seq ?_
  refine WT_seq ?_
  refine WT_region ?_
  refine WL_v rfl (ov_assign rfl) ?_
  refine WL_nil ?_
  refine WT_block ?_
  refine WT_while (fun s : Nat => [(3, pv), (4, cv2), (5, .int .i64 (i : Int)), (6, xv), (7, yv), (12, .int .i64 (((usersTo p p.length i).length : Int) - ((usersTo p s i).length : Int))), (13, .int .i64 (s : Int))]) (fun k w => k ≤ p.length ∧ H w h' (U :: X2 :: Y2 :: X :: Y :: Ls)) (fun k => p.length - k) 0 ⟨rfl, rfl, rfl, rfl, rfl, by rw [hut, show usersTo p 0 i = [] from rfl]; simp; rfl, rfl, trivial⟩ ⟨by omega, hH6⟩ ?_
  clear hH hH1 hH2 hH3 hH4 hH5 hH6
  rintro k w7 ⟨hk, hH⟩ again
  have huk := usersTo_len p k i
  refine WT_seq ?_
  refine WT_seq ?_
  refine WT_region ?_
  refine WL_v rfl (ov_move rfl) ?_
  refine WL_v rfl (ov_move rfl) ?_
  refine WL_v rfl (ov_len rfl hC.sl st_sl_int) ?_
  refine WL_v rfl (ov_lss rfl rfl) ?_
  refine WL_nil ?_
  refine WT_cond rfl (fun hc => ?_) (fun hc => ?_)
  · skip
    first | with_reducible replace hc := of_decide_eq_true hc | with_reducible replace hc := bn_T hc | with_reducible replace hc := bb_T hc | skip
    have hkp : k < p.length := by omega
    have hkd : k < (doneC p c (i : Int)).length := by omega
    have hkc : k < c.length := by omega
    have hgd := doneC_get hkd
    have hck := hcb k hkc
    rw [getD_elem hkc] at hgd
    have hsu := sum_users p i k
    have hbd : -1 ≤ (doneC p c (i : Int))[k] ∧ (doneC p c (i : Int))[k] ≤ 2 := by rw [hgd]; split <;> omega
    have hst : ((usersTo p p.length i).length : Int) - ((usersTo p k i).length : Int) + (doneC p c (i : Int))[k] - c[k] = ((usersTo p p.length i).length : Int) - ((usersTo p (k + 1) i).length : Int) := by
      rw [hgd, hsu]; omega
    refine WT_skip ?_
    refine WT_seq ?_
    refine WT_block ?_
    refine WT_quiet mixed (by kernel_rfl) hH ?_
    clear hH
    refine WQ_v rfl (fun _ _ => ov_move rfl) ?_
    refine WQ_v rfl (fun _ _ => ov_move rfl) ?_
    refine WQ_v rfl (fun _ _ => ov_move rfl) ?_
    refine WQ_v rfl (fun _ _ => ov_index rfl rfl st_sl_int hX.sl hkd) ?_
    refine WQ_v rfl (fun _ hH => ov_load rfl one_int (hX.cell hH (i := 3) rfl hkd)) ?_
    refine WQ_v rfl (fun _ _ => ov_add rfl rfl (by omega)) ?_
    refine WQ_v rfl (fun _ _ => ov_move rfl) ?_
    refine WQ_v rfl (fun _ _ => ov_move rfl) ?_
    refine WQ_v rfl (fun _ _ => ov_index rfl rfl st_sl_int hC.sl hkc) ?_
    refine WQ_v rfl (fun _ hH => ov_load rfl one_int (hC.cell hH hkc)) ?_
    refine WQ_v rfl (fun _ _ => ov_as (ov_sub rfl rfl (by omega)) (congrArg (Value.int .i64) (hst))) ?_
    refine WQ_v rfl (fun _ _ => ov_assign rfl) ?_
    refine WQ_nil ?_
    intro w8 hH
    refine WT_inBlock ?_
    refine WT_region ?_
    refine WL_v rfl (ov_move rfl) ?_
    refine WL_v rfl (ov_add rfl rfl (by omega)) ?_
    refine WL_v rfl (ov_assign rfl) ?_
    refine WL_nil ?_
    refine again (k + 1) _ _ (by omega) (by repeat (first | exact trivial | refine ⟨rfl, ?_⟩)) ⟨by omega, hH⟩
  first | with_reducible replace hc := of_decide_eq_false hc | with_reducible replace hc := bn_F hc | with_reducible replace hc := bb_F hc | skip
  obtain rfl : k = p.length := by omega
  refine WT_exit rfl ?_
  refine WT_seq ?_
  refine WT_region ?_
  refine WL_v rfl (ov_move rfl) ?_
  refine WL_v rfl (ov_T (ov_eql rfl rfl) (by rw [Int.sub_self]; rfl)) ?_
  refine WL_v rfl (ov_move rfl) ?_
  refine WL_guardOn rfl rfl ?_
  refine WL_v rfl (ov_move rfl) ?_
  refine WL_guardOn rfl rfl ?_
  refine WL_v rfl (ov_len rfl hY.sl st_sl_int) ?_
  refine WL_guardOn rfl rfl ?_
  refine WL_v rfl (ov_move rfl) ?_
  refine WL_guardOn rfl rfl ?_
  refine WL_v rfl (ov_move rfl) ?_
  refine WL_guardOn rfl rfl ?_
  refine WL_call rfl rfl cf_impl_PlanUses (planUses_ok hH hP (i : Int)) ?_; rintro uv2 w8 ⟨U2, hU2, hH8⟩
  refine WL_guardOn rfl rfl ?_
  refine WL_v rfl (ov_len rfl hU2.sl st_sl_int) ?_
  refine WL_guardOn rfl rfl ?_
  refine WL_v rfl (ov_T (ov_leq rfl rfl) (by rw [hu]; exact decide_eq_true (by omega))) ?_
  refine WL_v rfl (ov_pickT rfl rfl) ?_
  refine WL_v rfl (ov_assign rfl) ?_
  refine WL_nil ?_
  exact WT_ret1 Try.func9 Try.results9 rfl ⟨rfl, (hH8.weak hle).drop.drop.drop.drop.drop.drop⟩

theorem fnCountsDone_walk (hH : H w h Ls) {cv : Value} {bs : List Int} (hB : Bytes h cv bs) : Rets Try.prog 12 #[cv] w fun v w' => v = .bool true ∧ H w' h Ls := by
  refine rets_enter Try.func12 rfl Try.ntmps12 (by simp) ?_
  refine WT_seq ?_
  refine WT_region ?_
  refine WL_v rfl (ov_assign rfl) ?_
  refine WL_nil ?_
  refine WT_seq ?_
  refine WT_seq ?_
  refine WT_region ?_
  refine WL_v rfl (ov_move rfl) ?_
  refine WL_v rfl (ov_len rfl hB.sl st_sl_uint8) ?_
  refine WL_v rfl (ov_gtr rfl rfl) ?_
  refine WL_nil ?_
  refine WT_cond rfl (fun hl => ?_) (fun hl => ?_)
  · skip
    first | with_reducible replace hl := of_decide_eq_true hl | with_reducible replace hl := bn_T hl | with_reducible replace hl := bb_T hl | skip
    refine WT_seq ?_
    refine WT_region ?_
    refine WL_v rfl (ov_assign rfl) ?_
    refine WL_nil ?_
    exact WT_ret1 Try.func12 Try.results12 rfl ⟨rfl, hH⟩
  first | with_reducible replace hl := of_decide_eq_false hl | with_reducible replace hl := bn_F hl | with_reducible replace hl := bb_F hl | skip
  refine WT_skip ?_
  refine WT_seq ?_
  refine WT_region ?_
  refine WL_v rfl (ov_move rfl) ?_
  refine WL_call rfl rfl cf_spec_DrawCountsDone (drawCountsDone_ok hH hB) ?_; rintro _ w1 ⟨pv, cv2, a, rfl, ha1, ha2, h', p, c, hle, hP, hpl, hC, hcl, hH1⟩
  refine WL_v rfl (ov_move rfl) ?_
  refine WL_v rfl (ov_extract rfl rfl) ?_
  refine WL_v rfl (ov_extract rfl rfl) ?_
  refine WL_v rfl (ov_extract rfl rfl) ?_
  refine WL_v rfl (ov_assign rfl) ?_
  refine WL_v rfl (ov_assign rfl) ?_
  refine WL_v rfl (ov_assign rfl) ?_
  refine WL_nil ?_
  refine WT_seq ?_
  refine WT_region ?_
  refine WL_v rfl (ov_move rfl) ?_
  refine WL_v rfl (ov_move rfl) ?_
  refine WL_v rfl (ov_move rfl) ?_
  refine WL_call rfl rfl cf_impl_CountsDone (countsDone_ok hH1 hP (hC.rdl _) (by omega) a) ?_; rintro _ w2 ⟨X, Y, xv, yv, rfl, hX, hY, hH2⟩
  refine WL_v rfl (ov_move rfl) ?_
  refine WL_v rfl (ov_extract rfl rfl) ?_
  refine WL_v rfl (ov_extract rfl rfl) ?_
  refine WL_v rfl (ov_extract rfl rfl) ?_
  refine WL_v rfl (ov_assign rfl) ?_
  refine WL_v rfl (ov_assign rfl) ?_
  refine WL_v rfl (ov_assign rfl) ?_
  refine WL_nil ?_
  refine WT_seq ?_
  refine WT_region ?_
  refine WL_v rfl (ov_move rfl) ?_
  refine WL_v rfl (ov_move rfl) ?_
  refine WL_v rfl (ov_move rfl) ?_
  refine WL_call rfl rfl cf_spec_CountsDone (sCountsDone_ok hH2 hP (hC.rdl _) (by omega) (by omega) a) ?_; rintro _ w3 ⟨X2, Y2, xv2, yv2, rfl, hX2, hY2, hH3⟩
  refine WL_v rfl (ov_move rfl) ?_
  refine WL_v rfl (ov_extract rfl rfl) ?_
  refine WL_v rfl (ov_extract rfl rfl) ?_
  refine WL_v rfl (ov_extract rfl rfl) ?_
  refine WL_v rfl (ov_assign rfl) ?_
  refine WL_v rfl (ov_assign rfl) ?_
  refine WL_v rfl (ov_assign rfl) ?_
  refine WL_nil ?_
  refine WT_seq ?_
  refine WT_seq ?_
  refine WT_region ?_
  refine WL_v rfl (ov_move rfl) ?_
  refine WL_v rfl (ov_move rfl) ?_
  refine WL_v rfl (ov_F (ov_neqB rfl rfl Try.underlying4) (by simp)) ?_
  refine WL_v rfl (ov_move rfl) ?_
  refine WL_guardOn rfl rfl ?_
  refine WL_v rfl (ov_move rfl) ?_
  refine WL_guardOn rfl rfl ?_
  refine WL_v rfl (ov_move rfl) ?_
  refine WL_guardOn rfl rfl ?_
  refine WL_call rfl rfl cf_laws_sameRow (sameRow_same hH3 (hY.rdl (i := 3) rfl) (hY2.rdl (i := 1) rfl)) ?_; rintro _ w4 ⟨rfl, hH4⟩
  refine WL_guardOn rfl rfl ?_
  refine WL_v rfl (ov_F (ov_not rfl) rfl) ?_
  refine WL_v rfl (ov_pickF rfl rfl) ?_
  refine WL_v rfl (ov_move rfl) ?_
  refine WL_guardOn rfl rfl ?_
  refine WL_v rfl (ov_move rfl) ?_
  refine WL_guardOn rfl rfl ?_
  refine WL_v rfl (ov_move rfl) ?_
  refine WL_guardOn rfl rfl ?_
  refine WL_call rfl rfl cf_laws_sameRow (sameRow_same hH4 (hX.rdl (i := 2) rfl) (hX2.rdl (i := 0) rfl)) ?_; rintro _ w5 ⟨rfl, hH5⟩
  refine WL_guardOn rfl rfl ?_
  refine WL_v rfl (ov_F (ov_not rfl) rfl) ?_
  refine WL_v rfl (ov_pickF rfl rfl) ?_
  refine WL_v rfl (ov_move rfl) ?_
  refine WL_guardOn rfl rfl ?_
  refine WL_v rfl (ov_move rfl) ?_
  refine WL_guardOn rfl rfl ?_
  refine WL_v rfl (ov_not rfl) ?_
  refine WL_v rfl (ov_pickF rfl rfl) ?_
  refine WL_nil ?_
  refine WT_cond rfl (fun hok => ?_) (fun hok => ?_)
  · skip
    first | with_reducible replace hok := of_decide_eq_true hok | with_reducible replace hok := bn_T hok | with_reducible replace hok := bb_T hok | skip
    refine WT_seq ?_
    refine WT_region ?_
    refine WL_v rfl (ov_move rfl) ?_
    refine WL_v rfl (ov_move rfl) ?_
    refine WL_v rfl (ov_T (ov_eqlB rfl rfl Try.underlying4) (by simp)) ?_
    refine WL_v rfl (ov_move rfl) ?_
    refine WL_guardOn rfl rfl ?_
    refine WL_v rfl (ov_move rfl) ?_
    refine WL_guardOn rfl rfl ?_
    refine WL_v rfl (ov_move rfl) ?_
    refine WL_guardOn rfl rfl ?_
    refine WL_call rfl rfl cf_laws_sameRow (sameRow_same hH5 (hY.rdl (i := 3) rfl) (hY2.rdl (i := 1) rfl)) ?_; rintro _ w6 ⟨rfl, hH6⟩
    refine WL_v rfl (ov_pickT rfl rfl) ?_
    refine WL_v rfl (ov_move rfl) ?_
    refine WL_guardOn rfl rfl ?_
    refine WL_v rfl (ov_move rfl) ?_
    refine WL_guardOn rfl rfl ?_
    refine WL_v rfl (ov_move rfl) ?_
    refine WL_guardOn rfl rfl ?_
    refine WL_call rfl rfl cf_laws_sameRow (sameRow_same hH6 (hX.rdl (i := 2) rfl) (hX2.rdl (i := 0) rfl)) ?_; rintro _ w7 ⟨rfl, hH7⟩
    refine WL_v rfl (ov_pickT rfl rfl) ?_
    refine WL_v rfl (ov_assign rfl) ?_
    refine WL_nil ?_
    exact WT_ret1 Try.func12 Try.results12 rfl ⟨rfl, (hH7.weak hle).drop.drop.drop.drop⟩
  first | with_reducible replace hok := of_decide_eq_false hok | with_reducible replace hok := bn_F hok | with_reducible replace hok := bb_F hok | skip
  obtain ⟨hv, hn, hcn, hall⟩ := doneOk_spec hok
  have hlen := PlanOk.len hv
  obtain ⟨i, hi⟩ := Int.eq_ofNat_of_zero_le hn.1
  subst hi
  have hdl := doneC_len p c (i : Int)
  unfold doneCo at hX
  unfold doneRo at hY
  rw [if_pos hok] at hX hY
  have hrl := toI_len (doneR p c (i : Int))
  have hcb : ∀ k (hk : k < c.length), 0 ≤ c[k] ∧ c[k] ≤ 2 := fun k hk => by
    have h1 := (hall k (by omega)).1
    rw [getD_elem hk] at h1
    have h2 := needTo_len (p.getD k default).frm
    have h3 : (p.getD k default).frm.length ≤ 2 := by rw [getD_of (by omega)]; exact NodeOk.len2 (PlanOk.node hv (by omega))
    omega
  have hu : usesOf p (i : Int) = toI (usersTo p p.length i) := by unfold usesOf; rw [if_pos ⟨hv, hn⟩]; simp
  refine WT_skip ?_
  refine WT_seq ?_
  refine WT_region ?_
  refine WL_v rfl (ov_move rfl) ?_
  refine WL_v rfl (ov_move rfl) ?_
  refine WL_call rfl rfl cf_impl_PlanUses (planUses_ok hH5 hP (i : Int)) ?_; rintro uv w6 ⟨U, hU, hH6⟩
  refine WL_v rfl (ov_assign rfl) ?_
  refine WL_nil ?_
  refine WT_seq ?_
  refine WT_seq ?_
  refine WT_region ?_
  refine WL_v rfl (ov_assign rfl) ?_
  refine WL_nil ?_
  refine WT_block ?_
  rw [hu] at hU
  refine WT_while (fun s : Nat => [(4, cv2), (6, xv), (12, uv), (13, .int .i64 (s : Int))]) (fun k w => k ≤ p.length ∧ H w h' (U :: X2 :: Y2 :: X :: Y :: Ls)) (fun k => p.length - k) 0 (by repeat (first | exact trivial | refine ⟨rfl, ?_⟩)) ⟨by omega, hH6⟩ ?_
  clear hH hH1 hH2 hH3 hH4 hH5 hH6
  rintro k w7 ⟨hk, hH⟩ again
  refine WT_seq ?_
  refine WT_seq ?_
  refine WT_region ?_
  refine WL_v rfl (ov_move rfl) ?_
  refine WL_v rfl (ov_move rfl) ?_
  refine WL_v rfl (ov_len rfl hC.sl st_sl_int) ?_
  refine WL_v rfl (ov_lss rfl rfl) ?_
  refine WL_nil ?_
  refine WT_cond rfl (fun hc => ?_) (fun hc => ?_)
  · skip
    first | with_reducible replace hc := of_decide_eq_true hc | with_reducible replace hc := bn_T hc | with_reducible replace hc := bb_T hc | skip
    have hkp : k < p.length := by omega
    have hkd : k < (doneC p c (i : Int)).length := by omega
    have hkc : k < c.length := by omega
    have hgd := doneC_get hkd
    have hck := hcb k hkc
    rw [getD_elem hkc] at hgd
    have hmu : (k : Int) ∈ toI (usersTo p p.length i) ↔ (i : Int) ∈ (p.getD k default).frm := by
      rw [mem_toI_nat, mem_usersTo]; exact ⟨fun h => h.2, fun h => ⟨hkp, h⟩⟩
    refine WT_skip ?_
    refine WT_seq ?_
    refine WT_block ?_
    refine WT_seq ?_
    refine WT_region ?_
    refine WL_v rfl (ov_move rfl) ?_
    refine WL_v rfl (ov_move rfl) ?_
    refine WL_v rfl (ov_index rfl rfl st_sl_int hC.sl hkc) ?_
    refine WL_v rfl (ov_load rfl one_int (hC.cell hH hkc)) ?_
    refine WL_v rfl (ov_assign rfl) ?_
    refine WL_nil ?_
    refine WT_seq ?_
    refine WT_seq ?_
    refine WT_region ?_
    refine WL_v rfl (ov_move rfl) ?_
    refine WL_v rfl (ov_move rfl) ?_
    refine WL_call rfl rfl cf_laws_hasInt (hasInt_ok hH (hU.rdl (i := 0) rfl) (k : Int)) ?_; rintro _ w8 ⟨rfl, hH8⟩
    refine WL_nil ?_
    refine WT_cond rfl (fun hin => ?_) (fun hin => ?_)
    · skip
      first | with_reducible replace hin := of_decide_eq_true hin | with_reducible replace hin := bn_T hin | with_reducible replace hin := bb_T hin | skip
      have hin' := hmu.1 hin
      rw [if_pos hin'] at hgd
      refine WT_region ?_
      refine WL_v rfl (ov_move rfl) ?_
      refine WL_v rfl (ov_sub rfl rfl (by omega)) ?_
      refine WL_v rfl (ov_assign rfl) ?_
      refine WL_nil ?_
      refine WT_seq ?_
      refine WT_region ?_
      refine WL_v rfl (ov_move rfl) ?_
      refine WL_v rfl (ov_move rfl) ?_
      refine WL_v rfl (ov_index rfl rfl st_sl_int hX.sl hkd) ?_
      refine WL_v rfl (ov_load rfl one_int (hX.cell hH8 (i := 3) rfl hkd)) ?_
      refine WL_v rfl (ov_move rfl) ?_
      refine WL_v rfl (ov_F (ov_neq rfl rfl) (by rw [hgd]; simp)) ?_
      refine WL_nil ?_
      refine WT_condF rfl ?_
      refine WT_skip ?_
      refine WT_inBlock ?_
      refine WT_region ?_
      refine WL_v rfl (ov_move rfl) ?_
      refine WL_v rfl (ov_add rfl rfl (by omega)) ?_
      refine WL_v rfl (ov_assign rfl) ?_
      refine WL_nil ?_
      refine again (k + 1) _ _ (by omega) (by repeat (first | exact trivial | refine ⟨rfl, ?_⟩)) ⟨by omega, hH8⟩
    first | with_reducible replace hin := of_decide_eq_false hin | with_reducible replace hin := bn_F hin | with_reducible replace hin := bb_F hin | skip
    have hin' := fun hh => hin (hmu.2 hh)
    rw [if_neg hin'] at hgd
    refine WT_skip ?_
    refine WT_seq ?_
    refine WT_region ?_
    refine WL_v rfl (ov_move rfl) ?_
    refine WL_v rfl (ov_move rfl) ?_
    refine WL_v rfl (ov_index rfl rfl st_sl_int hX.sl hkd) ?_
    refine WL_v rfl (ov_load rfl one_int (hX.cell hH8 (i := 3) rfl hkd)) ?_
    refine WL_v rfl (ov_move rfl) ?_
    refine WL_v rfl (ov_F (ov_neq rfl rfl) (by rw [hgd]; simp)) ?_
    refine WL_nil ?_
    refine WT_condF rfl ?_
    refine WT_skip ?_
    refine WT_inBlock ?_
    refine WT_region ?_
    refine WL_v rfl (ov_move rfl) ?_
    refine WL_v rfl (ov_add rfl rfl (by omega)) ?_
    refine WL_v rfl (ov_assign rfl) ?_
    refine WL_nil ?_
    refine again (k + 1) _ _ (by omega) (by repeat (first | exact trivial | refine ⟨rfl, ?_⟩)) ⟨by omega, hH8⟩
  first | with_reducible replace hc := of_decide_eq_false hc | with_reducible replace hc := bn_F hc | with_reducible replace hc := bb_F hc | skip
  refine WT_exit rfl ?_
  refine WT_seq ?_
  refine WT_region ?_
  refine WL_v rfl (ov_move rfl) ?_
  refine WL_v rfl (ov_len rfl hX.sl st_sl_int) ?_
  refine WL_v rfl (ov_move rfl) ?_
  refine WL_v rfl (ov_len rfl hC.sl st_sl_int) ?_
  refine WL_v rfl (ov_T (ov_eql rfl rfl) (decide_eq_true (by omega))) ?_
  refine WL_v rfl (ov_assign rfl) ?_
  refine WL_nil ?_
  exact WT_ret1 Try.func12 Try.results12 rfl ⟨rfl, (hH.weak hle).drop.drop.drop.drop.drop⟩
end
end Go.Proofs.Ytmcedghgincaaaa
