/- Walks: a valid plan; what all nodes cost, and the most expensive path. -/
import Derived.Test.YtmcedghgincaaaaWkF
import Derived.Test.YtmcedghgincaaaaPlC
namespace Go.Proofs.Ytmcedghgincaaaa
open Go.RowKit

section
variable {h : GH} {Ls : List Heaplet} {w : World}

theorem planValid_ok (hH : H w h Ls) {pv : Value} {p : List Nd} (hP : Plan h pv p) : Rets Try.prog 63 #[pv] w fun v w' => v = .bool (planOk p) ∧ H w' h Ls := by
  refine rets_enter Try.func63 rfl Try.ntmps63 (by simp) ?_
  refine WT_seq ?_
  refine WT_region ?_
  refine WL_v rfl (ov_assign rfl) ?_
  refine WL_nil ?_
  refine WT_seq ?_
  refine WT_region ?_
  refine WL_v rfl (ov_move rfl) ?_
  have hc : Rets Try.prog 93 #[pv] w fun v w' => ∃ gv, v = .tuple #[gv, .bool (planOk p)] ∧ H w' h Ls := (graphOf_ok hH hP).mono fun v w' hv => by
    rcases hv with ⟨h1, rfl, h2⟩ | ⟨h1, gv, g, h', rfl, hle, h2, _⟩
    · exact ⟨_, by rw [h1], h2⟩
    · exact ⟨gv, by rw [h1], h2.weak hle⟩
  refine WL_call rfl rfl cf_impl_graphOf (hc) ?_; rintro _ w1 ⟨gv, rfl, hH1⟩
  refine WL_v rfl (ov_move rfl) ?_
  refine WL_v rfl (ov_extract rfl rfl) ?_
  refine WL_v rfl (ov_extract rfl rfl) ?_
  refine WL_v rfl (ov_assign rfl) ?_
  refine WL_v rfl (ov_assign rfl) ?_
  refine WL_nil ?_
  refine WT_seq ?_
  refine WT_region ?_
  refine WL_v rfl (ov_move rfl) ?_
  refine WL_v rfl (ov_assign rfl) ?_
  refine WL_nil ?_
  exact WT_ret1 Try.func63 Try.results63 rfl ⟨rfl, hH1⟩

theorem costKind_valid {k : Int} (hk : kindOk k = true) : costKind k = kindCost k := by rw [costKind, if_pos hk]

theorem costAll_ok (hH : H w h Ls) {pv : Value} {p : List Nd} (hP : Plan h pv p) : Rets Try.prog 16 #[pv] w fun v w' => v = .int .i64 (if planOk p then sumTo p p.length else -1) ∧ H w' h Ls := by
  refine rets_enter Try.func16 rfl Try.ntmps16 (by simp) ?_
  refine WT_seq ?_
  refine WT_region ?_
  refine WL_v rfl (ov_assign rfl) ?_
  refine WL_nil ?_
  refine WT_seq ?_
  refine WT_seq ?_
  refine WT_region ?_
  refine WL_v rfl (ov_move rfl) ?_
  refine WL_call rfl rfl cf_impl_PlanValid (planValid_ok hH hP) ?_; rintro _ w1 ⟨rfl, hH1⟩
  refine WL_v rfl (ov_not rfl) ?_
  refine WL_nil ?_
  refine WT_cond rfl (fun hv => ?_) (fun hv => ?_)
  · skip
    first | with_reducible replace hv := of_decide_eq_true hv | with_reducible replace hv := bn_T hv | with_reducible replace hv := bb_T hv | skip
    refine WT_seq ?_
    refine WT_region ?_
    refine WL_v rfl (ov_assign rfl) ?_
    refine WL_nil ?_
    exact WT_ret1 Try.func16 Try.results16 rfl ⟨by rw [hv]; rfl, hH1⟩
  first | with_reducible replace hv := of_decide_eq_false hv | with_reducible replace hv := bn_F hv | with_reducible replace hv := bb_F hv | skip
  have hlen := PlanOk.len hv
  refine WT_skip ?_
  refine WT_seq ?_
  refine WT_region ?_
  refine WL_v rfl (ov_assign rfl) ?_
  refine WL_nil ?_
  refine WT_seq ?_
  refine WT_seq ?_
  refine WT_region ?_
  refine WL_v rfl (ov_move rfl) ?_
  refine WL_v rfl (ov_len rfl hP.sl st_sl_impl_Node) ?_
  refine WL_v rfl (ov_move rfl) ?_
  refine WL_nil ?_
  refine WT_block ?_
  refine WT_while (fun s : Nat => [(0, pv), (3, .int .i64 (sumTo p s)), (9, pv), (10, .int .i64 (p.length : Int)), (11, .int .i64 (s : Int))]) (fun k w => k ≤ p.length ∧ H w h Ls) (fun k => p.length - k) 0 (by repeat (first | exact trivial | refine ⟨rfl, ?_⟩)) ⟨by omega, hH1⟩ ?_
  clear hH hH1
  rintro k w2 ⟨hk, hH⟩ again
  refine WT_seq ?_
  refine WT_region ?_
  refine WL_v rfl (ov_lss rfl rfl) ?_
  refine WL_nil ?_
  refine WT_seq ?_
  refine WT_cond rfl (fun hc => ?_) (fun hc => ?_)
  · skip
    first | with_reducible replace hc := of_decide_eq_true hc | with_reducible replace hc := bn_T hc | with_reducible replace hc := bb_T hc | skip
    have hkp : k < p.length := by omega
    obtain ⟨fv, rv, hf, hr, hcell⟩ := hP.node hkp
    have hr1 := sumTo_rg p k
    have hr2 := kindCost_rg p[k].kind
    have hkk := costKind_valid (PlanOk.node hv hkp).kind
    refine WT_skip ?_
    refine WT_seq ?_
    refine WT_block ?_
    refine WT_seq ?_
    refine WT_region ?_
    refine WL_v rfl (ov_index rfl rfl st_sl_impl_Node hP.sl hkp) ?_
    refine WL_v rfl (ov_loadN [.int .i64 p[k].kind, fv, rv] rfl agg_impl_Node rfl ((hcell _ _ hH))) ?_
    refine WL_alloc _ rfl hH zero_impl_Node rfl ?_; rintro g w3 hH3
    refine WL_storeN hH3 rfl rfl (i := 0) rfl rfl rfl (ones_cons rfl (ones_cons hf.sl.one (ones_cons hr.sl.one ones_nil))) sz_impl_Node ?_; rintro w4 hH4
    refine WL_nil ?_
    refine WT_region ?_
    refine WL_v rfl (ov_move rfl) ?_
    refine WL_v rfl (ov_field rfl fo_impl_Node_0) ?_
    refine WL_v rfl (ov_load rfl one_int (hH4.cb 0 rfl 0)) ?_
    refine WL_call rfl rfl cf_impl_CostKind (costKind_ok hH4 _) ?_; rintro _ w5 ⟨rfl, hH5⟩
    refine WL_v rfl (ov_as (ov_add rfl rfl (by omega)) (congrArg (Value.int .i64) ((by rw [hkk, sumTo, getD_of hkp] : sumTo p k + costKind p[k].kind = sumTo p (k + 1))))) ?_
    refine WL_v rfl (ov_assign rfl) ?_
    refine WL_nil ?_
    refine WT_inBlock ?_
    refine WT_region ?_
    refine WL_v rfl (ov_add rfl rfl (by omega)) ?_
    refine WL_v rfl (ov_move rfl) ?_
    refine WL_nil ?_
    refine again (k + 1) _ _ (by omega) (by repeat (first | exact trivial | refine ⟨rfl, ?_⟩)) ⟨by omega, hH5.drop⟩
  first | with_reducible replace hc := of_decide_eq_false hc | with_reducible replace hc := bn_F hc | with_reducible replace hc := bb_F hc | skip
  obtain rfl : k = p.length := by omega
  refine WT_exit rfl ?_
  refine WT_seq ?_
  refine WT_region ?_
  refine WL_v rfl (ov_move rfl) ?_
  refine WL_v rfl (ov_assign rfl) ?_
  refine WL_nil ?_
  exact WT_ret1 Try.func16 Try.results16 rfl ⟨by rw [if_pos hv], hH⟩

theorem sCostAll_ok (hH : H w h Ls) {pv : Value} {p : List Nd} (hP : Plan h pv p) (hl : p.length ≤ 1000000000) : Rets Try.prog 17 #[pv] w fun v w' => v = .int .i64 (if planOk p then sumTo p p.length else -1) ∧ H w' h Ls := by
  refine rets_enter Try.func17 rfl Try.ntmps17 (by simp) ?_
  refine WT_seq ?_
  refine WT_region ?_
  refine WL_v rfl (ov_assign rfl) ?_
  refine WL_nil ?_
  refine WT_seq ?_
  refine WT_seq ?_
  refine WT_region ?_
  refine WL_v rfl (ov_move rfl) ?_
  refine WL_call rfl rfl cf_spec_PlanValid (sPlanValid_ok hH hP hl) ?_; rintro _ w1 ⟨rfl, hH1⟩
  refine WL_v rfl (ov_not rfl) ?_
  refine WL_nil ?_
  refine WT_cond rfl (fun hv => ?_) (fun hv => ?_)
  · skip
    first | with_reducible replace hv := of_decide_eq_true hv | with_reducible replace hv := bn_T hv | with_reducible replace hv := bb_T hv | skip
    refine WT_seq ?_
    refine WT_region ?_
    refine WL_v rfl (ov_assign rfl) ?_
    refine WL_nil ?_
    exact WT_ret1 Try.func17 Try.results17 rfl ⟨by rw [hv]; rfl, hH1⟩
  first | with_reducible replace hv := of_decide_eq_false hv | with_reducible replace hv := bn_F hv | with_reducible replace hv := bb_F hv | skip
  have hlen := PlanOk.len hv
  refine WT_skip ?_
  refine WT_seq ?_
  refine WT_region ?_
  refine WL_v rfl (ov_assign rfl) ?_
  refine WL_nil ?_
  refine WT_seq ?_
  refine WT_seq ?_
  refine WT_region ?_
  refine WL_v rfl (ov_assign rfl) ?_
  refine WL_nil ?_
  refine WT_block ?_
  refine WT_while (fun s : Nat => [(0, pv), (3, .int .i64 (sumTo p s)), (4, .int .i64 (s : Int))]) (fun k w => k ≤ p.length ∧ H w h Ls) (fun k => p.length - k) 0 (by repeat (first | exact trivial | refine ⟨rfl, ?_⟩)) ⟨by omega, hH1⟩ ?_
  clear hH hH1
  rintro k w2 ⟨hk, hH⟩ again
  refine WT_seq ?_
  refine WT_seq ?_
  refine WT_region ?_
  refine WL_v rfl (ov_move rfl) ?_
  refine WL_v rfl (ov_move rfl) ?_
  refine WL_v rfl (ov_len rfl hP.sl st_sl_impl_Node) ?_
  refine WL_v rfl (ov_lss rfl rfl) ?_
  refine WL_nil ?_
  refine WT_cond rfl (fun hc => ?_) (fun hc => ?_)
  · skip
    first | with_reducible replace hc := of_decide_eq_true hc | with_reducible replace hc := bn_T hc | with_reducible replace hc := bb_T hc | skip
    have hkp : k < p.length := by omega
    obtain ⟨fv, rv, hf, hr, hcell⟩ := hP.node hkp
    have hr1 := sumTo_rg p k
    have hr2 := kindCost_rg p[k].kind
    refine WT_skip ?_
    refine WT_seq ?_
    refine WT_block ?_
    refine WT_region ?_
    refine WL_v rfl (ov_move rfl) ?_
    refine WL_v rfl (ov_move rfl) ?_
    refine WL_v rfl (ov_move rfl) ?_
    refine WL_v rfl (ov_index rfl rfl st_sl_impl_Node hP.sl hkp) ?_
    refine WL_v rfl (ov_field rfl fo_impl_Node_0) ?_
    refine WL_v rfl (ov_load rfl one_int (hcell _ _ hH 0 _ rfl)) ?_
    refine WL_call rfl rfl cf_spec_l31Cost (l31Cost_ok hH _) ?_; rintro _ w5 ⟨rfl, hH5⟩
    refine WL_v rfl (ov_as (ov_add rfl rfl (by omega)) (congrArg (Value.int .i64) ((by rw [sumTo, getD_of hkp] : sumTo p k + kindCost p[k].kind = sumTo p (k + 1))))) ?_
    refine WL_v rfl (ov_assign rfl) ?_
    refine WL_nil ?_
    refine WT_inBlock ?_
    refine WT_region ?_
    refine WL_v rfl (ov_move rfl) ?_
    refine WL_v rfl (ov_add rfl rfl (by omega)) ?_
    refine WL_v rfl (ov_assign rfl) ?_
    refine WL_nil ?_
    refine again (k + 1) _ _ (by omega) (by repeat (first | exact trivial | refine ⟨rfl, ?_⟩)) ⟨by omega, hH5⟩
  first | with_reducible replace hc := of_decide_eq_false hc | with_reducible replace hc := bn_F hc | with_reducible replace hc := bb_F hc | skip
  obtain rfl : k = p.length := by omega
  refine WT_exit rfl ?_
  refine WT_seq ?_
  refine WT_region ?_
  refine WL_v rfl (ov_move rfl) ?_
  refine WL_v rfl (ov_assign rfl) ?_
  refine WL_nil ?_
  exact WT_ret1 Try.func17 Try.results17 rfl ⟨by rw [if_pos hv], hH⟩

theorem set_mid (ps r : List Int) (v u : Int) (n : Nat) (h : ps.length = n) : (ps ++ v :: r).set n u = ps ++ u :: r := by
  subst h
  simp
theorem getElem_mid (ps r : List Int) (v : Int) (n : Nat) (h : ps.length = n) (hn : n < (ps ++ v :: r).length) : (ps ++ v :: r)[n] = v := by
  subst h
  simp

theorem costPath_ok (hH : H w h Ls) {pv : Value} {p : List Nd} (hP : Plan h pv p) : Rets Try.prog 19 #[pv] w fun v w' => v = .int .i64 (if planOk p then mostOf (pathsTo p p.length) else -1) ∧ H w' h Ls := by
  refine rets_enter Try.func19 rfl Try.ntmps19 (by simp) ?_
  refine WT_seq ?_
  refine WT_region ?_
  refine WL_v rfl (ov_assign rfl) ?_
  refine WL_nil ?_
  refine WT_seq ?_
  refine WT_seq ?_
  refine WT_region ?_
  refine WL_v rfl (ov_move rfl) ?_
  refine WL_call rfl rfl cf_impl_PlanValid (planValid_ok hH hP) ?_; rintro _ w1 ⟨rfl, hH1⟩
  refine WL_v rfl (ov_not rfl) ?_
  refine WL_nil ?_
  refine WT_cond rfl (fun hv => ?_) (fun hv => ?_)
  · skip
    first | with_reducible replace hv := of_decide_eq_true hv | with_reducible replace hv := bn_T hv | with_reducible replace hv := bb_T hv | skip
    refine WT_seq ?_
    refine WT_region ?_
    refine WL_v rfl (ov_assign rfl) ?_
    refine WL_nil ?_
    exact WT_ret1 Try.func19 Try.results19 rfl ⟨by rw [hv]; rfl, hH1⟩
  first | with_reducible replace hv := of_decide_eq_false hv | with_reducible replace hv := bn_F hv | with_reducible replace hv := bb_F hv | skip
  have hlen := PlanOk.len hv
  refine WT_skip ?_
  refine WT_seq ?_
  refine WT_region ?_
  refine WL_v rfl (ov_assign rfl) ?_
  refine WL_nil ?_
  refine WT_seq ?_
  refine WT_region ?_
  refine WL_v rfl (ov_move rfl) ?_
  refine WL_v rfl (ov_len rfl hP.sl st_sl_impl_Node) ?_
  refine WL_makeI rfl hH1 rfl rfl st_sl_int (by omega) (by omega) ?_; rintro X0 sv w2 hX0 hH2
  refine WL_v rfl (ov_assign rfl) ?_
  refine WL_nil ?_
  refine WT_seq ?_
  refine WT_seq ?_
  refine WT_region ?_
  refine WL_v rfl (ov_move rfl) ?_
  refine WL_v rfl (ov_len rfl hP.sl st_sl_impl_Node) ?_
  refine WL_v rfl (ov_move rfl) ?_
  refine WL_nil ?_
  refine WT_block ?_
  refine WT_while (fun s : Nat => [(0, pv), (3, .int .i64 (mostOf (pathsTo p s))), (4, sv), (15, pv), (16, .int .i64 (p.length : Int)), (17, .int .i64 (s : Int))]) (fun k w => k ≤ p.length ∧ ∃ X, IRow X 3 sv (pathsTo p k ++ List.replicate (p.length - k) 0) ∧ H w h (X :: Ls)) (fun k => p.length - k) 0 (by repeat (first | exact trivial | refine ⟨rfl, ?_⟩)) ⟨by omega, X0, by simpa [pathsTo, progTo] using hX0, hH2⟩ ?_
  clear hH hH1 hH2 hX0
  rintro k w3 ⟨hk, X, hX, hH⟩ again
  refine WT_seq ?_
  refine WT_region ?_
  refine WL_v rfl (ov_lss rfl rfl) ?_
  refine WL_nil ?_
  refine WT_seq ?_
  refine WT_cond rfl (fun hc => ?_) (fun hc => ?_)
  · skip
    first | with_reducible replace hc := of_decide_eq_true hc | with_reducible replace hc := bn_T hc | with_reducible replace hc := bb_T hc | skip
    have hkp : k < p.length := by omega
    obtain ⟨fv, rv, hf, hr, hcell⟩ := hP.node hkp
    have hN := PlanOk.node hv hkp
    have hrg := pathsTo_rg p k
    have hr2 := kindCost_rg p[k].kind
    have hkk := costKind_valid hN.kind
    have hpl : (pathsTo p k).length = k := progTo_len _ _ _
    have hrep : List.replicate (p.length - k) (0 : Int) = 0 :: List.replicate (p.length - (k + 1)) 0 := by
      rw [show p.length - k = (p.length - (k + 1)) + 1 by omega, List.replicate_succ]
    rw [hrep] at hX
    refine WT_skip ?_
    refine WT_seq ?_
    refine WT_block ?_
    refine WT_seq ?_
    refine WT_region ?_
    refine WL_v rfl (ov_move rfl) ?_
    refine WL_v rfl (ov_index rfl rfl st_sl_impl_Node hP.sl hkp) ?_
    refine WL_v rfl (ov_loadN [.int .i64 p[k].kind, fv, rv] rfl agg_impl_Node rfl ((hcell _ _ hH))) ?_
    refine WL_alloc _ rfl hH zero_impl_Node rfl ?_; rintro g w4 hH4
    refine WL_v rfl (ov_assign rfl) ?_
    refine WL_storeN hH4 rfl rfl (i := 0) rfl rfl rfl (ones_cons rfl (ones_cons hf.sl.one (ones_cons hr.sl.one ones_nil))) sz_impl_Node ?_; rintro w5 hH5
    refine WL_nil ?_
    refine WT_seq ?_
    refine WT_seq ?_
    refine WT_region ?_
    refine WL_v rfl (ov_field rfl fo_impl_Node_1) ?_
    refine WL_v rfl (ov_load rfl one_sl_int (hH5.cb 0 rfl 1)) ?_
    refine WL_v rfl (ov_len rfl hf.sl st_sl_int) ?_
    refine WL_v rfl (ov_move rfl) ?_
    refine WL_nil ?_
    refine WT_block ?_
    have hfl := hf.sl.lim
    refine WT_while (fun s : Nat => [(0, pv), (3, .int .i64 (mostOf (pathsTo p k))), (4, sv), (5, .int .i64 (k : Int)), (6, .pointer (some ⟨g, 0, none⟩)), (15, pv), (16, .int .i64 (p.length : Int)), (17, .int .i64 (k : Int)), (23, fv), (24, .int .i64 (p[k].frm.length : Int)), (25, .int .i64 (s : Int))])
      (fun j w => j ≤ p[k].frm.length ∧ ∃ X, IRow X 3 sv (pathsTo p k ++ upOf 0 (pathsTo p k) (p[k].frm.take j) :: List.replicate (p.length - (k + 1)) 0) ∧ H w h ([(g, .cells #[.int .i64 p[k].kind, fv, rv] 58 (0, 0))] :: X :: Ls))
      (fun j => p[k].frm.length - j) 0 (by repeat (first | exact trivial | refine ⟨rfl, ?_⟩)) ⟨by omega, X, hX, hH5⟩ ?_
    clear hH hH4 hH5 hX
    rintro j w6 ⟨hj, X, hX, hH⟩ again2
    have hlen2 : (pathsTo p k ++ upOf 0 (pathsTo p k) (p[k].frm.take j) :: List.replicate (p.length - (k + 1)) 0).length = p.length := by
      simp [hpl]; omega
    refine WT_seq ?_
    refine WT_region ?_
    refine WL_v rfl (ov_lss rfl rfl) ?_
    refine WL_nil ?_
    refine WT_seq ?_
    refine WT_cond rfl (fun hc2 => ?_) (fun hc2 => ?_)
    · skip
      first | with_reducible replace hc2 := of_decide_eq_true hc2 | with_reducible replace hc2 := bn_T hc2 | with_reducible replace hc2 := bb_T hc2 | skip
      have hjl : j < p[k].frm.length := by omega
      have hfb := hN.frm p[k].frm[j] (List.getElem_mem hjl)
      obtain ⟨fn, hfn⟩ := Int.eq_ofNat_of_zero_le hfb.1
      have hfk : fn < k := by omega
      have hkl : k < (pathsTo p k ++ upOf 0 (pathsTo p k) (p[k].frm.take j) :: List.replicate (p.length - (k + 1)) 0).length := by omega
      have hfl2 : fn < (pathsTo p k ++ upOf 0 (pathsTo p k) (p[k].frm.take j) :: List.replicate (p.length - (k + 1)) 0).length := by omega
      have hg1 : (pathsTo p k ++ upOf 0 (pathsTo p k) (p[k].frm.take j) :: List.replicate (p.length - (k + 1)) 0)[fn] = (pathsTo p k).getD fn 0 := by
        rw [List.getElem_append_left (by omega), List.getD_eq_getElem?_getD, List.getElem?_eq_getElem (by omega)]; rfl
      refine WT_skip ?_
      refine WT_seq ?_
      refine WT_block ?_
      refine WT_seq ?_
      refine WT_region ?_
      refine WL_v rfl (ov_index rfl rfl st_sl_int hf.sl hjl) ?_
      refine WL_v rfl (ov_load rfl one_int (hf.cell hH hjl)) ?_; rw [hfn]
      refine WL_v rfl (ov_assign rfl) ?_
      refine WL_nil ?_
      refine WT_mixL [(0, 0), (1, 0), (2, 0), (3, 0), (4, 0), (5, 0), (6, 0), (7, 0), (8, 0), (9, 0), (10, 0), (11, 0), (12, 2)] mixed (by kernel_rfl) hH ?_
      clear hH
      intro w7 hH hC
      refine WM_v rfl rfl hC (fun _ _ => ov_move rfl) ?_
      refine WM_v rfl rfl hC (fun _ _ => ov_move rfl) ?_
      refine WM_v rfl rfl hC (fun _ _ => ov_move rfl) ?_
      refine WM_v rfl rfl hC (fun _ _ => ov_move rfl) ?_
      refine WM_v rfl rfl hC (fun _ _ => ov_index rfl rfl st_sl_int hX.sl hkl) ?_
      refine WM_v rfl rfl hC (fun _ ⟨_, hH⟩ => ov_load rfl one_int (hX.cell hH (i := 2) rfl hkl)) ?_
      refine WM_v rfl rfl hC (fun _ _ => ov_move rfl) ?_
      refine WM_v rfl rfl hC (fun _ _ => ov_move rfl) ?_
      refine WM_v rfl rfl hC (fun _ _ => ov_index rfl rfl st_sl_int hX.sl hfl2) ?_
      refine WM_v rfl rfl hC (fun _ ⟨_, hH⟩ => ov_load rfl one_int (hX.cell hH (i := 2) rfl hfl2)) ?_
      refine WM_v rfl rfl hC (fun _ _ => ov_max rfl rfl) ?_
      refine WM_v rfl rfl hC (fun _ _ => ov_index rfl rfl st_sl_int hX.sl hkl) ?_
      refine WM_e rfl ?_
      refine WL_storeI hH rfl rfl (i := 1) rfl hX hkl sz_int ?_; rintro X2 w8 hX2 hH8
      refine WL_mix (fun h => absurd rfl h) ?_
      refine WM_nil ?_
      refine WT_inBlock ?_
      refine WT_region ?_
      refine WL_v rfl (ov_add rfl rfl (by omega)) ?_
      refine WL_v rfl (ov_move rfl) ?_
      refine WL_nil ?_
      refine again2 (j + 1) _ _ (by omega) (by repeat (first | exact trivial | refine ⟨rfl, ?_⟩)) ⟨by omega, X2, ?_, hH8⟩
      rw [hg1, getElem_mid _ _ _ _ hpl, set_mid _ _ _ _ _ hpl] at hX2
      rw [List.take_succ_eq_append_getElem hjl, upOf_snoc, hfn, Int.add_zero]
      exact hX2
    first | with_reducible replace hc2 := of_decide_eq_false hc2 | with_reducible replace hc2 := bn_F hc2 | with_reducible replace hc2 := bb_F hc2 | skip
    obtain rfl : j = p[k].frm.length := by omega
    rw [List.take_length] at hX hlen2
    have hu1 := upOf_nonneg 0 (pathsTo p k) p[k].frm
    have hu2 : upOf 0 (pathsTo p k) p[k].frm ≤ 4 * (k : Int) := upOf_le (by omega) fun f _ => by
      rcases getD_mem_or (pathsTo p k) f.toNat with h | h
      · rw [h]; omega
      · have := hrg _ h; omega
    have hg2 := getElem_mid (pathsTo p k) (List.replicate (p.length - (k + 1)) 0) (upOf 0 (pathsTo p k) p[k].frm) k hpl
    have hkl : k < (pathsTo p k ++ upOf 0 (pathsTo p k) p[k].frm :: List.replicate (p.length - (k + 1)) 0).length := by omega
    have hst : pathsTo p (k + 1) = pathsTo p k ++ [upOf 0 (pathsTo p k) p[k].frm + kindCost p[k].kind] := by
      simp only [pathsTo, progTo, getD_of hkp]
    refine WT_exit rfl ?_
    refine WT_seq ?_
    refine WT_mixL [(0, 0), (1, 0), (2, 0), (3, 0), (4, 0), (5, 0), (6, 1), (7, 0), (8, 0), (9, 2)] mixed (by kernel_rfl) hH ?_
    clear hH
    intro w7 hH hC
    refine WM_v rfl rfl hC (fun _ _ => ov_move rfl) ?_
    refine WM_v rfl rfl hC (fun _ _ => ov_move rfl) ?_
    refine WM_v rfl rfl hC (fun _ _ => ov_index rfl rfl st_sl_int hX.sl hkl) ?_
    refine WM_v rfl rfl hC (fun _ ⟨_, hH⟩ => ov_load rfl one_int (hX.cell hH (i := 2) rfl hkl)) ?_; rw [hg2 hkl]
    refine WM_v rfl rfl hC (fun _ _ => ov_field rfl fo_impl_Node_0) ?_
    refine WM_v rfl rfl hC (fun _ ⟨_, hH⟩ => ov_load rfl one_int (hH.cb 1 rfl 0)) ?_
    refine WM_e rfl ?_
    refine WL_call rfl rfl cf_impl_CostKind (costKind_ok hH _) ?_; rintro _ w8 ⟨rfl, hH8⟩
    replace hC : Cl _ _ _ := Cl.of hH8
    refine WL_mix (fun _ => hC) ?_
    refine WM_v rfl rfl hC (fun _ _ => ov_as (ov_add rfl rfl (by omega)) (congrArg (Value.int .i64) ((by rw [hkk] : upOf 0 (pathsTo p k) p[k].frm + costKind p[k].kind = upOf 0 (pathsTo p k) p[k].frm + kindCost p[k].kind)))) ?_
    refine WM_v rfl rfl hC (fun _ _ => ov_index rfl rfl st_sl_int hX.sl hkl) ?_
    refine WM_e rfl ?_
    refine WL_storeI hH8 rfl rfl (i := 1) rfl hX hkl sz_int ?_; rintro X2 w9 hX2 hH9
    refine WL_mix (fun h => absurd rfl h) ?_
    refine WM_nil ?_
    refine WT_region ?_
    refine WL_v rfl (ov_move rfl) ?_
    refine WL_v rfl (ov_move rfl) ?_
    refine WL_v rfl (ov_move rfl) ?_
    rw [set_mid _ _ _ _ _ hpl] at hX2
    have hkl2 : k < (pathsTo p k ++ (upOf 0 (pathsTo p k) p[k].frm + kindCost p[k].kind) :: List.replicate (p.length - (k + 1)) 0).length := by simp; omega
    have hg3 := getElem_mid (pathsTo p k) (List.replicate (p.length - (k + 1)) 0) (upOf 0 (pathsTo p k) p[k].frm + kindCost p[k].kind) k hpl
    refine WL_v rfl (ov_index rfl rfl st_sl_int hX2.sl hkl2) ?_
    refine WL_v rfl (ov_load rfl one_int (hX2.cell hH9 (i := 1) rfl hkl2)) ?_; rw [hg3 hkl2]
    refine WL_v rfl (ov_as (ov_max rfl rfl) (congrArg (Value.int .i64) (by rw [hst, mostOf_snoc] : max (mostOf (pathsTo p k)) (upOf 0 (pathsTo p k) p[k].frm + kindCost p[k].kind) = mostOf (pathsTo p (k + 1))))) ?_
    refine WL_v rfl (ov_assign rfl) ?_
    refine WL_nil ?_
    refine WT_inBlock ?_
    refine WT_region ?_
    refine WL_v rfl (ov_add rfl rfl (by omega)) ?_
    refine WL_v rfl (ov_move rfl) ?_
    refine WL_nil ?_
    refine again (k + 1) _ _ (by omega) (by repeat (first | exact trivial | refine ⟨rfl, ?_⟩)) ⟨by omega, X2, by rw [hst]; simpa using hX2, hH9.drop⟩
  first | with_reducible replace hc := of_decide_eq_false hc | with_reducible replace hc := bn_F hc | with_reducible replace hc := bb_F hc | skip
  obtain rfl : k = p.length := by omega
  refine WT_exit rfl ?_
  refine WT_seq ?_
  refine WT_region ?_
  refine WL_v rfl (ov_move rfl) ?_
  refine WL_v rfl (ov_assign rfl) ?_
  refine WL_nil ?_
  exact WT_ret1 Try.func19 Try.results19 rfl ⟨by rw [if_pos hv], hH.drop⟩
end
end Go.Proofs.Ytmcedghgincaaaa
