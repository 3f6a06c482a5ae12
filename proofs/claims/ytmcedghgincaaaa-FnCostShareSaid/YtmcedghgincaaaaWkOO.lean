/- Walks: a plan without nodes that do the same. -/
import Derived.Test.YtmcedghgincaaaaWkNN
namespace Go.Proofs.Ytmcedghgincaaaa
open Go.RowKit

section
variable {h : GH} {Ls : List Heaplet} {w : World}

/-- The numbers of the first nodes. -/
def shNums (fs : List Int) (k : Nat) : List Int := (List.range k).map fun i => ((shNum fs i : Nat) : Int)
theorem shNums_len (fs : List Int) (k : Nat) : (shNums fs k).length = k := by simp [shNums]
theorem shNums_succ (fs : List Int) (k : Nat) : shNums fs (k + 1) = shNums fs k ++ [((shNum fs k : Nat) : Int)] := by simp [shNums, List.range_succ]
theorem shNums_get {fs : List Int} {k i : Nat} (h : i < (shNums fs k).length) : (shNums fs k)[i] = ((shNum fs i : Nat) : Int) := by simp [shNums]

set_option maxHeartbeats 1000000 in
theorem planShare_yes (hH : H w h Ls) {pv : Value} {p : List Nd} (hP : Plan h pv p) (hv : planOk p = true) : Rets Try.prog 18 #[pv] w fun v w' => ∃ fs L ov nv O Is, v = .tuple #[ov, nv, .bool true] ∧ Shr p p.length fs L ∧ OPlan O Is ov (shTo p fs p.length) ∧ H w' h (O :: (Is ++ Ls)) := by
  have hlen := PlanOk.len hv
  refine rets_enter Try.func18 rfl Try.ntmps18 (by simp) ?_
  refine WT_seq ?_
  refine WT_region ?_
  refine WL_v rfl (ov_assign rfl) ?_
  refine WL_v rfl (ov_assign rfl) ?_
  refine WL_v rfl (ov_assign rfl) ?_
  refine WL_nil ?_
  refine WT_seq ?_
  refine WT_seq ?_
  refine WT_region ?_
  refine WL_v rfl (ov_move rfl) ?_
  refine WL_call rfl rfl cf_impl_PlanValid (planValid_ok hH hP) ?_; rintro _ w1 ⟨rfl, hH1⟩
  refine WL_v rfl (ov_F (ov_not rfl) (by first | exact decide_eq_false hv | exact nb_F hv | exact mb_F hv | exact hv | (simp only [decide_eq_false_iff_not]; omega) | simpa using hv)) ?_
  refine WL_nil ?_
  refine WT_condF rfl ?_
  refine WT_skip ?_
  refine WT_seq ?_
  refine WT_region ?_
  refine WL_v rfl (ov_assign rfl) ?_
  refine WL_nil ?_
  refine WT_seq ?_
  refine WT_region ?_
  refine WL_v rfl (ov_move rfl) ?_
  refine WL_v rfl (ov_len rfl hP.sl st_sl_impl_Node) ?_
  refine WL_make (sz := 1) (n := 0) (c := p.length) rfl hH1 rfl rfl st_sl_int (by omega) (by omega) (by omega) (by omega) ?_; rintro Y0 nv0 w2 hY0 hH2
  refine WL_v rfl (ov_assign rfl) ?_
  refine WL_nil ?_
  refine WT_seq ?_
  refine WT_seq ?_
  refine WT_region ?_
  refine WL_v rfl (ov_move rfl) ?_
  refine WL_call rfl rfl cf_impl_ShareFirst (shareFirst_ok hH2 hP hv) ?_; rintro fv w3 ⟨X, fs, L, hX, hS, hH3⟩
  refine WL_v rfl (ov_len rfl hX.sl st_sl_int) ?_
  refine WL_v rfl (ov_move rfl) ?_
  refine WL_nil ?_
  refine WT_block ?_
  have hfl := hS.len
  refine WT_while (fun s : Nat × Value × Value => [(0, pv), (5, s.2.1), (6, s.2.2), (19, fv), (20, .int .i64 (fs.length : Int)), (21, .int .i64 (s.1 : Int))]) (fun s w => s.1 ≤ p.length ∧ ∃ Y O Is, IRow Y 3 s.2.2 (shNums fs s.1) ∧ OPlan O Is s.2.1 (shTo p fs s.1) ∧ H w h (X :: Y :: O :: (Is ++ Ls))) (fun s => p.length - s.1) (0, .slice none 0 0, nv0) (by repeat (first | exact trivial | refine ⟨rfl, ?_⟩)) ⟨by omega, Y0, [], [], by simpa [IRow, shNums] using hY0, ⟨rfl, [], Row.nil _ _, by simp [shTo]⟩, (hH3.nilIn.pull 2 rfl).pull 2 rfl⟩ ?_
  clear hH hH1 hH2 hH3 hY0
  rintro ⟨k, ov, nv⟩ w4 ⟨hk, Y, O, Is, hY, hO, hH⟩ again
  simp only at hk hY hO
  refine WT_seq ?_
  refine WT_region ?_
  refine WL_v rfl (ov_lss rfl rfl) ?_
  refine WL_nil ?_
  refine WT_seq ?_
  refine WT_cond rfl (fun hc => ?_) (fun hc => ?_)
  · skip
    first | with_reducible replace hc := of_decide_eq_true hc | with_reducible replace hc := bn_T hc | with_reducible replace hc := bb_T hc | skip
    have hkp : k < p.length := by simp only at hc; omega
    have hkf : k < fs.length := by omega
    obtain ⟨j, hj, hjk, hjb, hnk, _⟩ := hS.num hkp
    have hgk : fs[k] = (j : Int) := by rw [← getD_elem hkf]; exact hj
    have hnl := shNums_len fs k
    have hol := shTo_len p fs k
    have hnk2 := numK_le (shB fs) k
    refine WT_skip ?_
    refine WT_seq ?_
    refine WT_block ?_
    refine WT_seq ?_
    refine WT_region ?_
    refine WL_v rfl (ov_move rfl) ?_
    refine WL_v rfl (ov_index rfl rfl st_sl_int hX.sl hkf) ?_
    refine WL_v rfl (ov_load rfl one_int (hX.cell hH (i := 0) rfl hkf)) ?_; rw [hgk]
    refine WL_v rfl (ov_assign rfl) ?_
    refine WL_v rfl (ov_assign rfl) ?_
    refine WL_nil ?_
    refine WT_seq ?_
    refine WT_seq ?_
    refine WT_region ?_
    refine WL_v rfl (ov_move rfl) ?_
    refine WL_v rfl (ov_move rfl) ?_
    refine WL_v rfl (ov_neq rfl rfl) ?_
    refine WL_nil ?_
    refine WT_cond rfl (fun hne => ?_) (fun hne => ?_)
    · skip
      first | with_reducible replace hne := of_decide_eq_true hne | with_reducible replace hne := bn_T hne | with_reducible replace hne := bb_T hne | skip
      have hjlt : j < k := by simp only at hne; omega
      have hjy : j < (shNums fs k).length := by omega
      have hgj : (shNums fs k)[j] = ((shNum fs k : Nat) : Int) := by
        rw [shNums_get]
        have h1 : fs.getD j 0 = (j : Int) := of_decide_eq_true hjb
        have h2 : shNum fs j = numK (shB fs) j := by unfold shNum; rw [h1, Int.toNat_natCast]
        rw [h2, hnk]
      have hkb : ¬ shB fs k = true := fun hh => by
        have : fs.getD k 0 = (k : Int) := of_decide_eq_true hh
        omega
      refine WT_seq ?_
      refine WT_region ?_
      refine WL_v rfl (ov_move rfl) ?_
      refine WL_v rfl (ov_move rfl) ?_
      refine WL_v rfl (ov_move rfl) ?_
      refine WL_v rfl (ov_index rfl rfl st_sl_int hY.sl hjy) ?_
      refine WL_v rfl (ov_load rfl one_int (hY.cell hH (i := 1) rfl hjy)) ?_; rw [hgj]
      refine WL_bsI rfl hH rfl (run_bs_int _) ?_; rintro Z zv w5 hZ hH5
      refine WL_appI (i := 2) (j := 0) rfl hH5 rfl rfl st_sl_int rfl hY rfl hZ (by simp; omega) (by simp; omega) ?_; rintro Y2 nv2 w6 hY2 hH6
      refine WL_v rfl (ov_assign rfl) ?_
      refine WL_nil ?_
      refine WT_exit rfl ?_
      refine WT_region ?_
      refine WL_v rfl (ov_add rfl rfl (by omega)) ?_
      refine WL_v rfl (ov_move rfl) ?_
      refine WL_nil ?_
      rw [← shNums_succ] at hY2
      refine again (k + 1, ov, nv2) _ _ (by simp only; omega) (by repeat (first | exact trivial | refine ⟨rfl, ?_⟩)) ⟨by simp only; omega, Y2, O, Is, hY2, by rw [shTo_succ, if_neg hkb, List.append_nil]; exact hO, hH6.drop⟩
    first | with_reducible replace hne := of_decide_eq_false hne | with_reducible replace hne := bn_F hne | with_reducible replace hne := bb_F hne | skip
    have hjk2 : j = k := by simp only at hne; omega
    subst hjk2
    clear hjk
    obtain ⟨a, rfl⟩ : ∃ a, a = j := ⟨_, rfl⟩
    have hap := hkp
    obtain ⟨gv, rv, hf, hrr, hcell⟩ := hP.node hap
    have hN := PlanOk.node hv hap
    have hf2 := NodeOk.len2 hN
    have hfr := frm_pos hv hap
    rw [getD_of hap] at hfr
    refine WT_skip ?_
    refine WT_seq ?_
    refine WT_region ?_
    refine WL_v rfl (ov_move rfl) ?_
    refine WL_v rfl (ov_move rfl) ?_
    refine WL_v rfl (ov_index rfl rfl st_sl_impl_Node hP.sl hap) ?_
    refine WL_v rfl (ov_loadN [.int .i64 p[a].kind, gv, rv] rfl agg_impl_Node rfl ((hcell _ _ hH))) ?_
    refine WL_call rfl rfl cf_impl_copyNode (copyNode_ok hH (hf.rdl _) (hrr.rdl _) (by omega) (by have := rowOk_six hN.row; omega)) ?_; rintro _ w7 ⟨x, F, R, ⟨fv2, rv2, rfl, hF, hR⟩, hx, hH7⟩
    subst hx
    simp only at hF hR
    refine WL_alloc _ rfl hH7 zero_impl_Node rfl ?_; rintro g w8 hH8
    refine WL_storeN hH8 rfl rfl (i := 0) rfl rfl rfl (ones_cons rfl (ones_cons hF.sl.one (ones_cons hR.sl.one ones_nil))) sz_impl_Node ?_; rintro w9 hH9
    refine WL_nil ?_
    refine WT_seq ?_
    refine WT_seq ?_
    refine WT_region ?_
    refine WL_v rfl (ov_field rfl fo_impl_Node_1) ?_
    refine WL_v rfl (ov_load rfl one_sl_int (hH9.cb 0 rfl 1)) ?_
    refine WL_v rfl (ov_len rfl hF.sl st_sl_int) ?_
    refine WL_v rfl (ov_move rfl) ?_
    refine WL_nil ?_
    refine WT_block ?_
    refine WT_while (fun j : Nat => [(0, pv), (5, ov), (6, nv), (9, ptr g), (19, fv), (20, .int .i64 (fs.length : Int)), (21, .int .i64 (a : Int)), (42, fv2), (43, .int .i64 (p[a].frm.length : Int)), (44, .int .i64 (j : Int))]) (fun j w => j ≤ p[a].frm.length ∧ ∃ F, IRow F 3 fv2 ((shNode fs p[a]).frm.take j ++ p[a].frm.drop j) ∧ H w h ([(g, .cells #[.int .i64 p[a].kind, fv2, rv2] 58 (0, 0))] :: F :: R :: X :: Y :: O :: (Is ++ Ls))) (fun j => p[a].frm.length - j) 0 (by repeat (first | exact trivial | refine ⟨rfl, ?_⟩)) ⟨by omega, F, by simpa using hF, hH9⟩ ?_
    clear hH hH7 hH8 hH9 hF F
    rintro j w10 ⟨hj, F, hF, hH⟩ again2
    have hcfl : (shNode fs p[a]).frm.length = p[a].frm.length := by simp [shNode]
    refine WT_seq ?_
    refine WT_region ?_
    refine WL_v rfl (ov_lss rfl rfl) ?_
    refine WL_nil ?_
    refine WT_seq ?_
    refine WT_cond rfl (fun hc2 => ?_) (fun hc2 => ?_)
    · skip
      first | with_reducible replace hc2 := of_decide_eq_true hc2 | with_reducible replace hc2 := bn_T hc2 | with_reducible replace hc2 := bb_T hc2 | skip
      have hjf : j < p[a].frm.length := by omega
      have htl : ((shNode fs p[a]).frm.take j).length = j := by rw [List.length_take]; omega
      have hdr : p[a].frm.drop j = p[a].frm[j] :: p[a].frm.drop (j + 1) := List.drop_eq_getElem_cons hjf
      rw [hdr] at hF
      have hjl : j < ((shNode fs p[a]).frm.take j ++ p[a].frm[j] :: p[a].frm.drop (j + 1)).length := by rw [List.length_append, htl, List.length_cons]; omega
      have hgj := getElem_mid ((shNode fs p[a]).frm.take j) (p[a].frm.drop (j + 1)) p[a].frm[j] j htl hjl
      have hfm := List.getElem_mem hjf
      have hfp := hfr _ hfm
      obtain ⟨u, hu⟩ := Int.eq_ofNat_of_zero_le hfp.1
      replace hgj := hgj.trans hu
      have hua : u < a := by omega
      have huy : u < (shNums fs a).length := by omega
      have hgu : (shNums fs a)[u] = ((shNum fs u : Nat) : Int) := shNums_get huy
      refine WT_skip ?_
      refine WT_seq ?_
      refine WT_block ?_
      refine WT_seq ?_
      refine WT_region ?_
      refine WL_v rfl (ov_move rfl) ?_
      refine WL_v rfl (ov_index rfl rfl st_sl_int hF.sl hjl) ?_
      refine WL_v rfl (ov_load rfl one_int (hF.cell hH (i := 1) rfl hjl)) ?_; rw [hgj]
      refine WL_v rfl (ov_assign rfl) ?_
      refine WL_v rfl (ov_assign rfl) ?_
      refine WL_nil ?_
      refine WT_mixL [(0, 0), (1, 0), (2, 0), (3, 0), (4, 0), (5, 0), (6, 0), (7, 0), (8, 2)] mixed (by kernel_rfl) hH ?_
      clear hH
      intro w11 hH hC
      refine WM_v rfl rfl hC (fun _ _ => ov_field rfl fo_impl_Node_1) ?_
      refine WM_v rfl rfl hC (fun _ ⟨_, hH⟩ => ov_load rfl one_sl_int (hH.cb 1 rfl 1)) ?_
      refine WM_v rfl rfl hC (fun _ _ => ov_move rfl) ?_
      refine WM_v rfl rfl hC (fun _ _ => ov_move rfl) ?_
      refine WM_v rfl rfl hC (fun _ _ => ov_move rfl) ?_
      refine WM_v rfl rfl hC (fun _ _ => ov_index rfl rfl st_sl_int hY.sl huy) ?_
      refine WM_v rfl rfl hC (fun _ ⟨_, hH⟩ => ov_load rfl one_int (hY.cell hH (i := 5) rfl huy)) ?_; rw [hgu]
      refine WM_v rfl rfl hC (fun _ _ => ov_index rfl rfl st_sl_int hF.sl hjl) ?_
      refine WM_e rfl ?_
      refine WL_storeI hH rfl rfl (i := 1) rfl hF hjl sz_int ?_; rintro F2 w12 hF2 hH12
      refine WL_mix (fun h => absurd rfl h) ?_
      refine WM_nil ?_
      refine WT_inBlock ?_
      refine WT_region ?_
      refine WL_v rfl (ov_add rfl rfl (by omega)) ?_
      refine WL_v rfl (ov_move rfl) ?_
      refine WL_nil ?_
      rw [set_mid _ _ _ _ _ htl] at hF2
      refine again2 (j + 1) _ _ (by omega) (by repeat (first | exact trivial | refine ⟨rfl, ?_⟩)) ⟨by omega, F2, ?_, hH12⟩
      have : (shNode fs p[a]).frm.take (j + 1) = (shNode fs p[a]).frm.take j ++ [((shNum fs u : Nat) : Int)] := by
        rw [List.take_succ_eq_append_getElem (by omega)]
        congr 2
        simp [shNode, hu]
      rw [this, List.append_assoc]
      exact hF2
    first | with_reducible replace hc2 := of_decide_eq_false hc2 | with_reducible replace hc2 := bn_F hc2 | with_reducible replace hc2 := bb_F hc2 | skip
    obtain rfl : j = p[a].frm.length := by omega
    have hF9 : IRow F 3 fv2 (shNode fs p[a]).frm := by
      rw [List.drop_length, List.append_nil, List.take_of_length_le (by omega)] at hF
      exact hF
    obtain ⟨hil, xs, hR3, hat⟩ := hO
    refine WT_exit rfl ?_
    refine WT_seq ?_
    refine WT_region ?_
    refine WL_v rfl (ov_move rfl) ?_
    refine WL_v rfl (ov_move rfl) ?_
    refine WL_v rfl (ov_len rfl hR3.sl st_sl_impl_Node) ?_
    refine WL_bsI rfl hH rfl (run_bs_int _) ?_; rintro Z zv w11 hZ hH11
    refine WL_appI (i := 5) (j := 0) rfl hH11 rfl rfl st_sl_int rfl hY rfl hZ (by simp; omega) (by simp; omega) ?_; rintro Y2 nv2 w12 hY2 hH12
    refine WL_v rfl (ov_assign rfl) ?_
    refine WL_nil ?_
    refine WT_region ?_
    refine WL_v rfl (ov_move rfl) ?_
    refine WL_v rfl (ov_loadN [.int .i64 p[a].kind, fv2, rv2] rfl agg_impl_Node rfl ((fun j v hj => by rw [show Addr.add ⟨g, 0, none⟩ j = ⟨g, j, none⟩ by simp [add_of]]; exact (hH12.cb 1 rfl j).trans (by simpa using hj)))) ?_
    refine WL_buildSlice (sz := 3) [.int .i64 p[a].kind, fv2, rv2] rfl hH12 rfl (run_bs_node hF9.sl hR.sl) rfl (by omega) ?_; rintro Z3 zv3 w13 hZ3 hH13
    refine WL_append1 (i := 7) (j := 0) (n := (shTo p fs a).length) (m := 1) rfl hH13 rfl rfl st_sl_impl_Node (by omega) rfl hR3 rfl hZ3 (ones_cons rfl (ones_cons hF9.sl.one (ones_cons hR.sl.one ones_nil))) (by omega) (by omega) ?_; rintro O2 ov2 w14 hO2 hH14
    refine WL_v rfl (ov_assign rfl) ?_
    refine WL_nil ?_
    refine WT_inBlock ?_
    refine WT_region ?_
    refine WL_v rfl (ov_add rfl rfl (by omega)) ?_
    refine WL_v rfl (ov_move rfl) ?_
    refine WL_nil ?_
    rw [hol, ← hnk, ← shNums_succ] at hY2
    refine again (a + 1, ov2, nv2) _ _ (by simp only; omega) (by repeat (first | exact trivial | refine ⟨rfl, ?_⟩)) ⟨by simp only; omega, Y2, O2, Is ++ [F, R], hY2, ?_, H.lateFR (T := X :: Y2 :: O2 :: Is) hH14.drop.drop.drop⟩
    show OPlan O2 (Is ++ [F, R]) ov2 (shTo p fs (a + 1))
    rw [shTo_succ, if_pos hjb, getD_of hap]
    exact OPlan.snoc (x := shNode fs p[a]) hil hR3.len hat hO2 hF9 hR
  first | with_reducible replace hc := of_decide_eq_false hc | with_reducible replace hc := bn_F hc | with_reducible replace hc := bb_F hc | skip
  have hkl : k = p.length := by simp only at hc; omega
  subst hkl
  refine WT_exit rfl ?_
  refine WT_seq ?_
  refine WT_region ?_
  refine WL_v rfl (ov_move rfl) ?_
  refine WL_v rfl (ov_move rfl) ?_
  refine WL_v rfl (ov_assign rfl) ?_
  refine WL_v rfl (ov_assign rfl) ?_
  refine WL_v rfl (ov_assign rfl) ?_
  refine WL_nil ?_
  exact WT_ret3 Try.func18 Try.results18 rfl rfl rfl ⟨fs, L, ov, nv, O, Is, rfl, hS, hO, hH.drop.drop⟩
end
end Go.Proofs.Ytmcedghgincaaaa
