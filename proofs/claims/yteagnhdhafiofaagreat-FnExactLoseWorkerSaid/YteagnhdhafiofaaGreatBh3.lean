/- Walks: what kinds do with rows: the reference. -/
import Derived.Test.YteagnhdhafiofaaGreatBh2
namespace Go.Proofs.YteagnhdhafiofaaGreat
open Go.RowKit

section
variable {h : GH} {Ls : List Heaplet} {w : World}

theorem bothOk_eq (a b : List Int) : bothOk a b = (rowOk a && rowOk b && decide (a.length = b.length)) := rfl
theorem l1Both_ok (hH : H w h Ls) {av bv : Value} {a b : List Int} (hA : RdL h Ls av a) (hB : RdL h Ls bv b) : Rets Tryz.prog 161 #[av, bv] w fun v w' => v = .bool (bothOk a b) ∧ H w' h Ls := by
  have hva := fun {w : World} (hH : H w h Ls) => sRowValidR_ok hH hA
  have hvb := fun {w : World} (hH : H w h Ls) => sRowValidR_ok hH hB
  rw [bothOk_eq]
  refine rets_enter Tryz.func161 rfl Tryz.ntmps161 (by simp) ?_
  by_cases ha : rowOk a = true
  · skip
    rw [ha] at hva ⊢
    by_cases hb : rowOk b = true
    · skip
      rw [hb] at hvb ⊢
      refine WT_seq ?_
      refine WT_region ?_
      refine WL_v rfl (ov_assign rfl) ?_
      refine WL_nil ?_
      refine WT_seq ?_
      refine WT_region ?_
      refine WL_v rfl (ov_move rfl) ?_
      refine WL_call rfl rfl cf_spec_RowValid (hva hH) ?_; rintro _ w1 ⟨rfl, hH1⟩
      refine WL_v rfl (ov_move rfl) ?_
      refine WL_guardOn rfl rfl ?_
      refine WL_v rfl (ov_move rfl) ?_
      refine WL_guardOn rfl rfl ?_
      refine WL_call rfl rfl cf_spec_RowValid (hvb hH1) ?_; rintro _ w2 ⟨rfl, hH2⟩
      refine WL_v rfl (ov_pickT rfl rfl) ?_
      refine WL_v rfl (ov_move rfl) ?_
      refine WL_guardOn rfl rfl ?_
      refine WL_v rfl (ov_move rfl) ?_
      refine WL_guardOn rfl rfl ?_
      refine WL_v rfl (ov_len rfl hA.sl st_sl_int) ?_
      refine WL_guardOn rfl rfl ?_
      refine WL_v rfl (ov_move rfl) ?_
      refine WL_guardOn rfl rfl ?_
      refine WL_v rfl (ov_len rfl hB.sl st_sl_int) ?_
      refine WL_guardOn rfl rfl ?_
      refine WL_v rfl (ov_eql rfl rfl) ?_
      refine WL_v rfl (ov_pickT rfl rfl) ?_
      refine WL_v rfl (ov_assign rfl) ?_
      refine WL_nil ?_
      exact WT_ret1 Tryz.func161 Tryz.results161 rfl ⟨congrArg Value.bool (by rw [Bool.true_and, Bool.true_and]; exact decide_eq_decide.2 (by omega)), hH2⟩
    · skip
      rw [rowOk_F hb] at hvb ⊢
      refine WT_seq ?_
      refine WT_region ?_
      refine WL_v rfl (ov_assign rfl) ?_
      refine WL_nil ?_
      refine WT_seq ?_
      refine WT_region ?_
      refine WL_v rfl (ov_move rfl) ?_
      refine WL_call rfl rfl cf_spec_RowValid (hva hH) ?_; rintro _ w1 ⟨rfl, hH1⟩
      refine WL_v rfl (ov_move rfl) ?_
      refine WL_guardOn rfl rfl ?_
      refine WL_v rfl (ov_move rfl) ?_
      refine WL_guardOn rfl rfl ?_
      refine WL_call rfl rfl cf_spec_RowValid (hvb hH1) ?_; rintro _ w2 ⟨rfl, hH2⟩
      refine WL_v rfl (ov_pickT rfl rfl) ?_
      refine WL_v rfl (ov_move rfl) ?_
      refine WL_guardOff rfl rfl rfl rfl ?_
      refine WL_guardOff rfl rfl rfl rfl ?_
      refine WL_guardOff rfl rfl rfl rfl ?_
      refine WL_guardOff rfl rfl rfl rfl ?_
      refine WL_guardOff rfl rfl rfl rfl ?_
      refine WL_v rfl (ov_pickF rfl rfl) ?_
      refine WL_v rfl (ov_assign rfl) ?_
      refine WL_nil ?_
      exact WT_ret1 Tryz.func161 Tryz.results161 rfl ⟨rfl, hH2⟩
  · skip
    rw [rowOk_F ha] at hva ⊢
    refine WT_seq ?_
    refine WT_region ?_
    refine WL_v rfl (ov_assign rfl) ?_
    refine WL_nil ?_
    refine WT_seq ?_
    refine WT_region ?_
    refine WL_v rfl (ov_move rfl) ?_
    refine WL_call rfl rfl cf_spec_RowValid (hva hH) ?_; rintro _ w1 ⟨rfl, hH1⟩
    refine WL_v rfl (ov_move rfl) ?_
    refine WL_guardOff rfl rfl rfl rfl ?_
    refine WL_guardOff rfl rfl rfl rfl ?_
    refine WL_v rfl (ov_pickF rfl rfl) ?_
    refine WL_v rfl (ov_move rfl) ?_
    refine WL_guardOff rfl rfl rfl rfl ?_
    refine WL_guardOff rfl rfl rfl rfl ?_
    refine WL_guardOff rfl rfl rfl rfl ?_
    refine WL_guardOff rfl rfl rfl rfl ?_
    refine WL_guardOff rfl rfl rfl rfl ?_
    refine WL_v rfl (ov_pickF rfl rfl) ?_
    refine WL_v rfl (ov_assign rfl) ?_
    refine WL_nil ?_
    exact WT_ret1 Tryz.func161 Tryz.results161 rfl ⟨rfl, hH1⟩

theorem sRowAdd_ok (hH : H w h Ls) {av bv : Value} {a b : List Int} (hA : RdL h Ls av a) (hB : RdL h Ls bv b) : Rets Tryz.prog 136 #[av, bv] w fun v w' => RowT h Ls v w' (pairL (· + ·) a b) := by
  refine rets_enter Tryz.func136 rfl Tryz.ntmps136 (by simp) ?_
  refine WT_seq ?_
  refine WT_region ?_
  refine WL_v rfl (ov_assign rfl) ?_
  refine WL_v rfl (ov_assign rfl) ?_
  refine WL_nil ?_
  refine WT_seq ?_
  refine WT_region ?_
  refine WL_bsI0 rfl hH run_bs_int0 ?_; rintro X xv w1 hX hH1
  refine WL_v rfl (ov_assign rfl) ?_
  refine WL_nil ?_
  refine WT_seq ?_
  refine WT_seq ?_
  refine WT_region ?_
  refine WL_v rfl (ov_move rfl) ?_
  refine WL_v rfl (ov_move rfl) ?_
  refine WL_call rfl rfl cf_spec_l1Both (l1Both_ok hH1 hA.up hB.up) ?_; rintro _ w2 ⟨rfl, hH2⟩
  refine WL_v rfl (ov_not rfl) ?_
  refine WL_nil ?_
  refine WT_cond rfl (fun hbo => ?_) (fun hbo => ?_)
  · skip
    first | with_reducible replace hbo := of_decide_eq_true hbo | with_reducible replace hbo := bn_T hbo | with_reducible replace hbo := bb_T hbo | skip
    refine WT_seq ?_
    refine WT_region ?_
    refine WL_v rfl (ov_move rfl) ?_
    refine WL_v rfl (ov_assign rfl) ?_
    refine WL_v rfl (ov_assign rfl) ?_
    refine WL_nil ?_
    exact WT_ret2 Tryz.func136 Tryz.results136 rfl rfl ⟨xv, false, X, rfl, by rw [pairL, if_neg (by simpa using hbo)]; exact hX, hH2⟩
  first | with_reducible replace hbo := of_decide_eq_false hbo | with_reducible replace hbo := bn_F hbo | with_reducible replace hbo := bb_F hbo | skip
  have hboth : bothOk a b = true := by simpa using hbo
  obtain ⟨ha, hb, hl⟩ := (bothOk_iff a b).1 hboth
  have h6 := rowOk_len6 ha
  rw [pairL, if_pos hboth]
  refine WT_skip ?_
  refine WT_seq ?_
  refine WT_seq ?_
  refine WT_region ?_
  refine WL_v rfl (ov_assign rfl) ?_
  refine WL_nil ?_
  refine WT_block ?_
  refine WT_while (fun s : Nat × Value => [(0, av), (1, bv), (6, s.2), (7, .int .i64 (s.1 : Int))]) (fun s w => s.1 ≤ a.length ∧ ∃ X, IRow X 3 s.2 ((List.zipWith (fun x y => (x + y) % 1009) a b).take s.1) ∧ H w h (X :: Ls)) (fun s => a.length - s.1) (0, xv) (by repeat (first | exact trivial | refine ⟨rfl, ?_⟩)) ⟨by simp, X, by simpa using hX, hH2⟩ ?_
  clear hH hH1 hH2 hX X xv
  rintro ⟨k, xv⟩ w3 ⟨hk, X, hX, hH⟩ again
  simp only at hk hX
  refine WT_seq ?_
  refine WT_seq ?_
  refine WT_region ?_
  refine WL_v rfl (ov_move rfl) ?_
  refine WL_v rfl (ov_move rfl) ?_
  refine WL_v rfl (ov_len rfl hA.sl st_sl_int) ?_
  refine WL_v rfl (ov_lss rfl rfl) ?_
  refine WL_nil ?_
  refine WT_cond rfl (fun hc => ?_) (fun hc => ?_)
  · skip
    first | with_reducible replace hc := of_decide_eq_true hc | with_reducible replace hc := bn_T hc | with_reducible replace hc := bb_T hc | skip
    have hka : k < a.length := by simp only at hc; omega
    have hkb : k < b.length := by omega
    have htl : ((List.zipWith (fun x y => (x + y) % 1009) a b).take k).length = k := by simp; omega
    have hax := rowOk_at ha hka
    have hbx := rowOk_at hb hkb
    have hm := mul_small hax.1 hax.2 hbx.1 hbx.2
    refine WT_skip ?_
    refine WT_seq ?_
    refine WT_block ?_
    refine WT_mixL [(0, 1), (1, 1), (2, 1), (3, 1), (4, 0), (5, 1), (6, 1), (7, 1), (8, 0), (9, 1), (10, 1), (11, 3), (12, 3), (13, 1)] mixed (by kernel_rfl) hH ?_
    clear hH
    intro w4 hH hC
    refine WM_p rfl rfl (fun _ => ov_move rfl) ?_
    refine WM_p rfl rfl (fun _ => ov_move rfl) ?_
    refine WM_p rfl rfl (fun _ => ov_move rfl) ?_
    refine WM_p rfl rfl (fun _ => ov_index rfl rfl st_sl_int hA.sl hka) ?_
    refine WM_v rfl rfl hC (fun _ ⟨_, hH⟩ => ov_load rfl one_int (hA.cell hH.drop.drop hka)) ?_
    refine WM_p rfl rfl (fun _ => ov_move rfl) ?_
    refine WM_p rfl rfl (fun _ => ov_move rfl) ?_
    refine WM_p rfl rfl (fun _ => ov_index rfl rfl st_sl_int hB.sl hkb) ?_
    refine WM_v rfl rfl hC (fun _ ⟨_, hH⟩ => ov_load rfl one_int (hB.cell hH.drop.drop hkb)) ?_
    refine WM_p rfl rfl (fun _ => ov_add rfl rfl (by omega)) ?_
    refine WM_p rfl rfl (fun _ => ov_rem rfl rfl (by omega) (by decide)) ?_
    refine WM_e rfl ?_
    refine WL_bsI rfl hH rfl (run_bs_int _) ?_; rintro Y yv w5 hY hH5
    refine WL_mix (fun h => absurd rfl h) ?_
    refine WM_e rfl ?_
    refine WL_appI (i := 1) (j := 0) rfl hH5 rfl rfl st_sl_int rfl hX rfl hY (by rw [htl]; simp; omega) (by rw [htl]; simp; omega) ?_; rintro X2 xv2 w6 hX2 hH6
    refine WL_mix (fun h => absurd rfl h) ?_
    refine WM_p rfl rfl (fun _ => ov_assign rfl) ?_
    refine WM_nil ?_
    refine WT_inBlock ?_
    refine WT_region ?_
    refine WL_v rfl (ov_move rfl) ?_
    refine WL_v rfl (ov_add rfl rfl (by omega)) ?_
    refine WL_v rfl (ov_assign rfl) ?_
    refine WL_nil ?_
    refine again (k + 1, xv2) _ _ (by simp only; omega) (by repeat (first | exact trivial | refine ⟨rfl, ?_⟩)) ⟨by simp only; omega, X2, by simp only; rw [pairL_snoc (f := (· + ·)) hka hkb]; exact hX2, hH6.drop⟩
  first | with_reducible replace hc := of_decide_eq_false hc | with_reducible replace hc := bn_F hc | with_reducible replace hc := bb_F hc | skip
  obtain rfl : k = a.length := by simp only at hc; omega
  refine WT_exit rfl ?_
  refine WT_seq ?_
  refine WT_region ?_
  refine WL_v rfl (ov_move rfl) ?_
  refine WL_v rfl (ov_assign rfl) ?_
  refine WL_v rfl (ov_assign rfl) ?_
  refine WL_nil ?_
  exact WT_ret2 Tryz.func136 Tryz.results136 rfl rfl ⟨_, _, X, rfl, by rw [List.take_of_length_le (by simp; omega)] at hX; exact hX, hH⟩

theorem sRowTimes_ok (hH : H w h Ls) {av bv : Value} {a b : List Int} (hA : RdL h Ls av a) (hB : RdL h Ls bv b) : Rets Tryz.prog 137 #[av, bv] w fun v w' => RowT h Ls v w' (pairL (· * ·) a b) := by
  refine rets_enter Tryz.func137 rfl Tryz.ntmps137 (by simp) ?_
  refine WT_seq ?_
  refine WT_region ?_
  refine WL_v rfl (ov_assign rfl) ?_
  refine WL_v rfl (ov_assign rfl) ?_
  refine WL_nil ?_
  refine WT_seq ?_
  refine WT_region ?_
  refine WL_bsI0 rfl hH run_bs_int0 ?_; rintro X xv w1 hX hH1
  refine WL_v rfl (ov_assign rfl) ?_
  refine WL_nil ?_
  refine WT_seq ?_
  refine WT_seq ?_
  refine WT_region ?_
  refine WL_v rfl (ov_move rfl) ?_
  refine WL_v rfl (ov_move rfl) ?_
  refine WL_call rfl rfl cf_spec_l1Both (l1Both_ok hH1 hA.up hB.up) ?_; rintro _ w2 ⟨rfl, hH2⟩
  refine WL_v rfl (ov_not rfl) ?_
  refine WL_nil ?_
  refine WT_cond rfl (fun hbo => ?_) (fun hbo => ?_)
  · skip
    first | with_reducible replace hbo := of_decide_eq_true hbo | with_reducible replace hbo := bn_T hbo | with_reducible replace hbo := bb_T hbo | skip
    refine WT_seq ?_
    refine WT_region ?_
    refine WL_v rfl (ov_move rfl) ?_
    refine WL_v rfl (ov_assign rfl) ?_
    refine WL_v rfl (ov_assign rfl) ?_
    refine WL_nil ?_
    exact WT_ret2 Tryz.func137 Tryz.results137 rfl rfl ⟨xv, false, X, rfl, by rw [pairL, if_neg (by simpa using hbo)]; exact hX, hH2⟩
  first | with_reducible replace hbo := of_decide_eq_false hbo | with_reducible replace hbo := bn_F hbo | with_reducible replace hbo := bb_F hbo | skip
  have hboth : bothOk a b = true := by simpa using hbo
  obtain ⟨ha, hb, hl⟩ := (bothOk_iff a b).1 hboth
  have h6 := rowOk_len6 ha
  rw [pairL, if_pos hboth]
  refine WT_skip ?_
  refine WT_seq ?_
  refine WT_seq ?_
  refine WT_region ?_
  refine WL_v rfl (ov_assign rfl) ?_
  refine WL_nil ?_
  refine WT_block ?_
  refine WT_while (fun s : Nat × Value => [(0, av), (1, bv), (6, s.2), (7, .int .i64 (s.1 : Int))]) (fun s w => s.1 ≤ a.length ∧ ∃ X, IRow X 3 s.2 ((List.zipWith (fun x y => (x * y) % 1009) a b).take s.1) ∧ H w h (X :: Ls)) (fun s => a.length - s.1) (0, xv) (by repeat (first | exact trivial | refine ⟨rfl, ?_⟩)) ⟨by simp, X, by simpa using hX, hH2⟩ ?_
  clear hH hH1 hH2 hX X xv
  rintro ⟨k, xv⟩ w3 ⟨hk, X, hX, hH⟩ again
  simp only at hk hX
  refine WT_seq ?_
  refine WT_seq ?_
  refine WT_region ?_
  refine WL_v rfl (ov_move rfl) ?_
  refine WL_v rfl (ov_move rfl) ?_
  refine WL_v rfl (ov_len rfl hA.sl st_sl_int) ?_
  refine WL_v rfl (ov_lss rfl rfl) ?_
  refine WL_nil ?_
  refine WT_cond rfl (fun hc => ?_) (fun hc => ?_)
  · skip
    first | with_reducible replace hc := of_decide_eq_true hc | with_reducible replace hc := bn_T hc | with_reducible replace hc := bb_T hc | skip
    have hka : k < a.length := by simp only at hc; omega
    have hkb : k < b.length := by omega
    have htl : ((List.zipWith (fun x y => (x * y) % 1009) a b).take k).length = k := by simp; omega
    have hax := rowOk_at ha hka
    have hbx := rowOk_at hb hkb
    have hm := mul_small hax.1 hax.2 hbx.1 hbx.2
    refine WT_skip ?_
    refine WT_seq ?_
    refine WT_block ?_
    refine WT_mixL [(0, 1), (1, 1), (2, 1), (3, 1), (4, 0), (5, 1), (6, 1), (7, 1), (8, 0), (9, 1), (10, 1), (11, 3), (12, 3), (13, 1)] mixed (by kernel_rfl) hH ?_
    clear hH
    intro w4 hH hC
    refine WM_p rfl rfl (fun _ => ov_move rfl) ?_
    refine WM_p rfl rfl (fun _ => ov_move rfl) ?_
    refine WM_p rfl rfl (fun _ => ov_move rfl) ?_
    refine WM_p rfl rfl (fun _ => ov_index rfl rfl st_sl_int hA.sl hka) ?_
    refine WM_v rfl rfl hC (fun _ ⟨_, hH⟩ => ov_load rfl one_int (hA.cell hH.drop.drop hka)) ?_
    refine WM_p rfl rfl (fun _ => ov_move rfl) ?_
    refine WM_p rfl rfl (fun _ => ov_move rfl) ?_
    refine WM_p rfl rfl (fun _ => ov_index rfl rfl st_sl_int hB.sl hkb) ?_
    refine WM_v rfl rfl hC (fun _ ⟨_, hH⟩ => ov_load rfl one_int (hB.cell hH.drop.drop hkb)) ?_
    refine WM_p rfl rfl (fun _ => ov_mul rfl rfl (by omega)) ?_
    refine WM_p rfl rfl (fun _ => ov_rem rfl rfl (by omega) (by decide)) ?_
    refine WM_e rfl ?_
    refine WL_bsI rfl hH rfl (run_bs_int _) ?_; rintro Y yv w5 hY hH5
    refine WL_mix (fun h => absurd rfl h) ?_
    refine WM_e rfl ?_
    refine WL_appI (i := 1) (j := 0) rfl hH5 rfl rfl st_sl_int rfl hX rfl hY (by rw [htl]; simp; omega) (by rw [htl]; simp; omega) ?_; rintro X2 xv2 w6 hX2 hH6
    refine WL_mix (fun h => absurd rfl h) ?_
    refine WM_p rfl rfl (fun _ => ov_assign rfl) ?_
    refine WM_nil ?_
    refine WT_inBlock ?_
    refine WT_region ?_
    refine WL_v rfl (ov_move rfl) ?_
    refine WL_v rfl (ov_add rfl rfl (by omega)) ?_
    refine WL_v rfl (ov_assign rfl) ?_
    refine WL_nil ?_
    refine again (k + 1, xv2) _ _ (by simp only; omega) (by repeat (first | exact trivial | refine ⟨rfl, ?_⟩)) ⟨by simp only; omega, X2, by simp only; rw [pairL_snoc (f := (· * ·)) hka hkb]; exact hX2, hH6.drop⟩
  first | with_reducible replace hc := of_decide_eq_false hc | with_reducible replace hc := bn_F hc | with_reducible replace hc := bb_F hc | skip
  obtain rfl : k = a.length := by simp only at hc; omega
  refine WT_exit rfl ?_
  refine WT_seq ?_
  refine WT_region ?_
  refine WL_v rfl (ov_move rfl) ?_
  refine WL_v rfl (ov_assign rfl) ?_
  refine WL_v rfl (ov_assign rfl) ?_
  refine WL_nil ?_
  exact WT_ret2 Tryz.func137 Tryz.results137 rfl rfl ⟨_, _, X, rfl, by rw [List.take_of_length_le (by simp; omega)] at hX; exact hX, hH⟩

theorem sRowSums_ok (hH : H w h Ls) {av : Value} {r : List Int} (hA : RdL h Ls av r) : Rets Tryz.prog 138 #[av] w fun v w' => RowT h Ls v w' (sumsL r) := by
  refine rets_enter Tryz.func138 rfl Tryz.ntmps138 (by simp) ?_
  refine WT_seq ?_
  refine WT_region ?_
  refine WL_v rfl (ov_assign rfl) ?_
  refine WL_v rfl (ov_assign rfl) ?_
  refine WL_nil ?_
  refine WT_seq ?_
  refine WT_region ?_
  refine WL_bsI0 rfl hH run_bs_int0 ?_; rintro X xv w1 hX hH1
  refine WL_v rfl (ov_assign rfl) ?_
  refine WL_nil ?_
  refine WT_seq ?_
  refine WT_seq ?_
  refine WT_region ?_
  refine WL_v rfl (ov_move rfl) ?_
  refine WL_call rfl rfl cf_spec_RowValid (sRowValidR_ok hH1 hA.up) ?_; rintro _ w2 ⟨rfl, hH2⟩
  refine WL_v rfl (ov_not rfl) ?_
  refine WL_nil ?_
  refine WT_cond rfl (fun hbo => ?_) (fun hbo => ?_)
  · skip
    first | with_reducible replace hbo := of_decide_eq_true hbo | with_reducible replace hbo := bn_T hbo | with_reducible replace hbo := bb_T hbo | skip
    refine WT_seq ?_
    refine WT_region ?_
    refine WL_v rfl (ov_move rfl) ?_
    refine WL_v rfl (ov_assign rfl) ?_
    refine WL_v rfl (ov_assign rfl) ?_
    refine WL_nil ?_
    exact WT_ret2 Tryz.func138 Tryz.results138 rfl rfl ⟨xv, false, X, rfl, by rw [sumsL, if_neg (by simpa using hbo)]; exact hX, hH2⟩
  first | with_reducible replace hbo := of_decide_eq_false hbo | with_reducible replace hbo := bn_F hbo | with_reducible replace hbo := bb_F hbo | skip
  have hr : rowOk r = true := by simpa using hbo
  have h6 := rowOk_len6 hr
  rw [sumsL, if_pos hr]
  refine WT_skip ?_
  refine WT_seq ?_
  refine WT_region ?_
  refine WL_v rfl (ov_assign rfl) ?_
  refine WL_nil ?_
  refine WT_seq ?_
  refine WT_seq ?_
  refine WT_region ?_
  refine WL_v rfl (ov_assign rfl) ?_
  refine WL_nil ?_
  refine WT_block ?_
  refine WT_while (fun s : Nat × Value => [(0, av), (4, s.2), (5, .int .i64 (sumAt r s.1)), (6, .int .i64 (s.1 : Int))]) (fun s w => s.1 ≤ r.length ∧ ∃ X, IRow X 3 s.2 (sumsFrom 0 (r.take s.1)) ∧ H w h (X :: Ls)) (fun s => r.length - s.1) (0, xv) (by repeat (first | exact trivial | refine ⟨rfl, ?_⟩)) ⟨by simp, X, by simpa [sumsFrom] using hX, hH2⟩ ?_
  clear hH hH1 hH2 hX X xv
  rintro ⟨k, xv⟩ w3 ⟨hk, X, hX, hH⟩ again
  simp only at hk hX
  refine WT_seq ?_
  refine WT_seq ?_
  refine WT_region ?_
  refine WL_v rfl (ov_move rfl) ?_
  refine WL_v rfl (ov_move rfl) ?_
  refine WL_v rfl (ov_len rfl hA.sl st_sl_int) ?_
  refine WL_v rfl (ov_lss rfl rfl) ?_
  refine WL_nil ?_
  refine WT_cond rfl (fun hc => ?_) (fun hc => ?_)
  · skip
    first | with_reducible replace hc := of_decide_eq_true hc | with_reducible replace hc := bn_T hc | with_reducible replace hc := bb_T hc | skip
    have hkr : k < r.length := by simp only at hc; omega
    have htl : (sumsFrom 0 (r.take k)).length = k := by rw [sumsFrom_len, List.length_take]; omega
    have hx := rowOk_at hr hkr
    have hs := sumAt_range r k hk
    have hss := sumAt_succ hkr
    refine WT_skip ?_
    refine WT_seq ?_
    refine WT_block ?_
    refine WT_seq ?_
    refine WT_region ?_
    refine WL_v rfl (ov_move rfl) ?_
    refine WL_v rfl (ov_move rfl) ?_
    refine WL_v rfl (ov_move rfl) ?_
    refine WL_v rfl (ov_index rfl rfl st_sl_int hA.sl hkr) ?_
    refine WL_v rfl (ov_load rfl one_int (hA.cell hH.drop hkr)) ?_
    refine WL_v rfl (ov_add rfl rfl (by simp only; omega)) ?_
    refine WL_v rfl (ov_as (ov_rem rfl rfl (by simp only; omega) (by decide)) (congrArg (Value.int .i64) hss.symm)) ?_
    refine WL_v rfl (ov_assign rfl) ?_
    refine WL_nil ?_
    refine WT_region ?_
    refine WL_v rfl (ov_move rfl) ?_
    refine WL_v rfl (ov_move rfl) ?_
    refine WL_bsI rfl hH rfl (run_bs_int _) ?_; rintro Y yv w5 hY hH5
    refine WL_appI (i := 1) (j := 0) rfl hH5 rfl rfl st_sl_int rfl hX rfl hY (by rw [htl]; simp; omega) (by rw [htl]; simp; omega) ?_; rintro X2 xv2 w6 hX2 hH6
    refine WL_v rfl (ov_assign rfl) ?_
    refine WL_nil ?_
    refine WT_inBlock ?_
    refine WT_region ?_
    refine WL_v rfl (ov_move rfl) ?_
    refine WL_v rfl (ov_add rfl rfl (by omega)) ?_
    refine WL_v rfl (ov_assign rfl) ?_
    refine WL_nil ?_
    refine again (k + 1, xv2) _ _ (by simp only; omega) (by repeat (first | exact trivial | refine ⟨rfl, ?_⟩)) ⟨by simp only; omega, X2, by simp only; rw [sums_take hkr]; exact hX2, hH6.drop⟩
  first | with_reducible replace hc := of_decide_eq_false hc | with_reducible replace hc := bn_F hc | with_reducible replace hc := bb_F hc | skip
  obtain rfl : k = r.length := by simp only at hc; omega
  refine WT_exit rfl ?_
  refine WT_seq ?_
  refine WT_region ?_
  refine WL_v rfl (ov_move rfl) ?_
  refine WL_v rfl (ov_assign rfl) ?_
  refine WL_v rfl (ov_assign rfl) ?_
  refine WL_nil ?_
  exact WT_ret2 Tryz.func138 Tryz.results138 rfl rfl ⟨_, _, X, rfl, by rw [List.take_length] at hX; exact hX, hH⟩

theorem l1Put_ok (hH : H w h Ls) {av : Value} {r : List Int} (n : Int) (hA : RdL h Ls av r) (hr : r.length ≤ 6) : Rets Tryz.prog 162 #[av, .int .i64 n] w fun v w' => ∃ X, IRow X 3 v (putL n r) ∧ H w' h (X :: Ls) := by
  refine rets_enter Tryz.func162 rfl Tryz.ntmps162 (by simp) ?_
  refine WT_seq ?_
  refine WT_region ?_
  refine WL_v rfl (ov_assign rfl) ?_
  refine WL_nil ?_
  refine WT_seq ?_
  refine WT_region ?_
  refine WL_bsI0 rfl hH run_bs_int0 ?_; rintro X xv w1 hX hH1
  refine WL_v rfl (ov_assign rfl) ?_
  refine WL_nil ?_
  refine WT_seq ?_
  refine WT_region ?_
  refine WL_v rfl (ov_assign rfl) ?_
  refine WL_nil ?_
  refine WT_seq ?_
  refine WT_seq ?_
  refine WT_region ?_
  refine WL_v rfl (ov_assign rfl) ?_
  refine WL_nil ?_
  refine WT_block ?_
  refine WT_while (fun s : Nat × Value × Bool => [(0, av), (1, .int .i64 n), (5, s.2.1), (6, .bool s.2.2), (7, .int .i64 (s.1 : Int))]) (fun s w => s.1 ≤ r.length ∧ ∃ X o, IRow X 3 s.2.1 o ∧ o.length ≤ s.1 + 1 ∧ (s.2.2 = false → o = r.take s.1 ∧ ∀ y ∈ o, y ≤ n) ∧ (s.2.2 = true → o ++ r.drop s.1 = putL n r) ∧ H w h (X :: Ls)) (fun s => r.length - s.1) (0, xv, false) (by repeat (first | exact trivial | refine ⟨rfl, ?_⟩)) ⟨by simp, X, [], hX, by simp, by simp, by simp, hH1⟩ ?_
  clear hH hH1 hX X xv
  rintro ⟨k, xv, dn⟩ w3 ⟨hk, X, o, hX, hol, hF, hT, hH⟩ again
  simp only at hk hX hol hF hT
  refine WT_seq ?_
  refine WT_seq ?_
  refine WT_region ?_
  refine WL_v rfl (ov_move rfl) ?_
  refine WL_v rfl (ov_move rfl) ?_
  refine WL_v rfl (ov_len rfl hA.sl st_sl_int) ?_
  refine WL_v rfl (ov_lss rfl rfl) ?_
  refine WL_nil ?_
  refine WT_cond rfl (fun hc => ?_) (fun hc => ?_)
  · skip
    first | with_reducible replace hc := of_decide_eq_true hc | with_reducible replace hc := bn_T hc | with_reducible replace hc := bb_T hc | skip
    have hkr : k < r.length := by simp only at hc; omega
    have hdr : r.drop k = r[k] :: r.drop (k + 1) := List.drop_eq_getElem_cons hkr
    have htk : r.take (k + 1) = r.take k ++ [r[k]] := List.take_succ_eq_append_getElem hkr
    cases dn with
    | true =>
      have hT1 := hT rfl
      refine WT_skip ?_
      refine WT_seq ?_
      refine WT_block ?_
      refine WT_seq ?_
      refine WT_seq ?_
      refine WT_region ?_
      refine WL_v rfl (ov_move rfl) ?_
      refine WL_v rfl (ov_not rfl) ?_
      refine WL_v rfl (ov_move rfl) ?_
      refine WL_guardOff rfl rfl rfl rfl ?_
      refine WL_guardOff rfl rfl rfl rfl ?_
      refine WL_guardOff rfl rfl rfl rfl ?_
      refine WL_guardOff rfl rfl rfl rfl ?_
      refine WL_guardOff rfl rfl rfl rfl ?_
      refine WL_guardOff rfl rfl rfl rfl ?_
      refine WL_v rfl (ov_pickF rfl rfl) ?_
      refine WL_nil ?_
      refine WT_condF rfl ?_
      refine WT_skip ?_
      refine WT_region ?_
      refine WL_v rfl (ov_move rfl) ?_
      refine WL_v rfl (ov_move rfl) ?_
      refine WL_v rfl (ov_move rfl) ?_
      refine WL_v rfl (ov_index rfl rfl st_sl_int hA.sl hkr) ?_
      refine WL_v rfl (ov_load rfl one_int (hA.cell hH.drop hkr)) ?_
      refine WL_bsI rfl hH rfl (run_bs_int _) ?_; rintro Y yv w5 hY hH5
      refine WL_appI (i := 1) (j := 0) rfl hH5 rfl rfl st_sl_int rfl hX rfl hY (by simp; omega) (by simp; omega) ?_; rintro X2 xv2 w6 hX2 hH6
      refine WL_v rfl (ov_assign rfl) ?_
      refine WL_nil ?_
      refine WT_inBlock ?_
      refine WT_region ?_
      refine WL_v rfl (ov_move rfl) ?_
      refine WL_v rfl (ov_add rfl rfl (by omega)) ?_
      refine WL_v rfl (ov_assign rfl) ?_
      refine WL_nil ?_
      refine again (k + 1, xv2, true) _ _ (by simp only; omega) (by repeat (first | exact trivial | refine ⟨rfl, ?_⟩)) ⟨by simp only; omega, X2, o ++ [r[k]], hX2, by simp; omega, by simp, fun _ => ?_, hH6.drop⟩
      rw [← hT1, hdr, List.append_assoc]
      rfl
    | false =>
      obtain ⟨ho, hle⟩ := hF rfl
      refine WT_skip ?_
      refine WT_seq ?_
      refine WT_block ?_
      refine WT_seq ?_
      refine WT_seq ?_
      refine WT_region ?_
      refine WL_v rfl (ov_move rfl) ?_
      refine WL_v rfl (ov_not rfl) ?_
      refine WL_v rfl (ov_move rfl) ?_
      refine WL_guardOn rfl rfl ?_
      refine WL_v rfl (ov_move rfl) ?_
      refine WL_guardOn rfl rfl ?_
      refine WL_v rfl (ov_move rfl) ?_
      refine WL_guardOn rfl rfl ?_
      refine WL_v rfl (ov_index rfl rfl st_sl_int hA.sl hkr) ?_
      refine WL_guardOn rfl rfl ?_
      refine WL_v rfl (ov_load rfl one_int (hA.cell hH.drop hkr)) ?_
      refine WL_guardOn rfl rfl ?_
      refine WL_v rfl (ov_move rfl) ?_
      refine WL_guardOn rfl rfl ?_
      refine WL_v rfl (ov_gtr rfl rfl) ?_
      refine WL_v rfl (ov_pickT rfl rfl) ?_
      refine WL_nil ?_
      refine WT_cond rfl (fun hgt => ?_) (fun hgt => ?_)
      · skip
        first | with_reducible replace hgt := of_decide_eq_true hgt | with_reducible replace hgt := bn_T hgt | with_reducible replace hgt := bb_T hgt | skip
        refine WT_seq ?_
        refine WT_region ?_
        refine WL_v rfl (ov_move rfl) ?_
        refine WL_v rfl (ov_move rfl) ?_
        refine WL_bsI rfl hH rfl (run_bs_int _) ?_; rintro Y yv w5 hY hH5
        refine WL_appI (i := 1) (j := 0) rfl hH5 rfl rfl st_sl_int rfl hX rfl hY (by simp; omega) (by simp; omega) ?_; rintro X2 xv2 w6 hX2 hH6
        refine WL_v rfl (ov_assign rfl) ?_
        refine WL_nil ?_
        refine WT_region ?_
        refine WL_v rfl (ov_assign rfl) ?_
        refine WL_nil ?_
        refine WT_region ?_
        refine WL_v rfl (ov_move rfl) ?_
        refine WL_v rfl (ov_move rfl) ?_
        refine WL_v rfl (ov_move rfl) ?_
        refine WL_v rfl (ov_index rfl rfl st_sl_int hA.sl hkr) ?_
        refine WL_v rfl (ov_load rfl one_int (hA.cell hH6.drop.drop hkr)) ?_
        refine WL_bsI rfl hH6 rfl (run_bs_int _) ?_; rintro Z zv w7 hZ hH7
        refine WL_appI (i := 2) (j := 0) rfl hH7 rfl rfl st_sl_int rfl hX2 rfl hZ (by simp; omega) (by simp; omega) ?_; rintro X3 xv3 w8 hX3 hH8
        refine WL_v rfl (ov_assign rfl) ?_
        refine WL_nil ?_
        refine WT_inBlock ?_
        refine WT_region ?_
        refine WL_v rfl (ov_move rfl) ?_
        refine WL_v rfl (ov_add rfl rfl (by omega)) ?_
        refine WL_v rfl (ov_assign rfl) ?_
        refine WL_nil ?_
        refine again (k + 1, xv3, true) _ _ (by simp only; omega) (by repeat (first | exact trivial | refine ⟨rfl, ?_⟩)) ⟨by simp only; omega, X3, o ++ [n] ++ [r[k]], hX3, ?_, by simp, fun _ => ?_, hH8.drop.drop⟩
        · simp
          have : o.length ≤ k := by rw [ho, List.length_take]; omega
          omega
        · have := putL_mid n (r.take k) (r.drop k) (fun y hy => hle y (by rw [ho]; exact hy)) (fun y hy => by rw [hdr] at hy; have := Option.some.inj hy; omega)
          rw [List.take_append_drop] at this
          rw [this, ho, hdr]
          simp
      first | with_reducible replace hgt := of_decide_eq_false hgt | with_reducible replace hgt := bn_F hgt | with_reducible replace hgt := bb_F hgt | skip
      refine WT_skip ?_
      refine WT_region ?_
      refine WL_v rfl (ov_move rfl) ?_
      refine WL_v rfl (ov_move rfl) ?_
      refine WL_v rfl (ov_move rfl) ?_
      refine WL_v rfl (ov_index rfl rfl st_sl_int hA.sl hkr) ?_
      refine WL_v rfl (ov_load rfl one_int (hA.cell hH.drop hkr)) ?_
      refine WL_bsI rfl hH rfl (run_bs_int _) ?_; rintro Y yv w5 hY hH5
      refine WL_appI (i := 1) (j := 0) rfl hH5 rfl rfl st_sl_int rfl hX rfl hY (by simp; omega) (by simp; omega) ?_; rintro X2 xv2 w6 hX2 hH6
      refine WL_v rfl (ov_assign rfl) ?_
      refine WL_nil ?_
      refine WT_inBlock ?_
      refine WT_region ?_
      refine WL_v rfl (ov_move rfl) ?_
      refine WL_v rfl (ov_add rfl rfl (by omega)) ?_
      refine WL_v rfl (ov_assign rfl) ?_
      refine WL_nil ?_
      refine again (k + 1, xv2, false) _ _ (by simp only; omega) (by repeat (first | exact trivial | refine ⟨rfl, ?_⟩)) ⟨by simp only; omega, X2, o ++ [r[k]], hX2, by simp; omega, fun _ => ⟨by rw [htk, ho], fun y hy => ?_⟩, by simp, hH6.drop⟩
      rcases List.mem_append.1 hy with hy | hy
      · exact hle y hy
      · simp at hy; omega
  first | with_reducible replace hc := of_decide_eq_false hc | with_reducible replace hc := bn_F hc | with_reducible replace hc := bb_F hc | skip
  obtain rfl : k = r.length := by simp only at hc; omega
  cases dn with
  | true =>
    have hT1 := hT rfl
    rw [List.drop_length, List.append_nil] at hT1
    subst hT1
    refine WT_exit rfl ?_
    refine WT_seq ?_
    refine WT_seq ?_
    refine WT_region ?_
    refine WL_v rfl (ov_move rfl) ?_
    refine WL_v rfl (ov_not rfl) ?_
    refine WL_nil ?_
    refine WT_condF rfl ?_
    refine WT_skip ?_
    refine WT_seq ?_
    refine WT_region ?_
    refine WL_v rfl (ov_move rfl) ?_
    refine WL_v rfl (ov_assign rfl) ?_
    refine WL_nil ?_
    exact WT_ret1 Tryz.func162 Tryz.results162 rfl ⟨X, hX, hH⟩
  | false =>
    obtain ⟨ho, hle⟩ := hF rfl
    rw [List.take_length] at ho
    subst ho
    refine WT_exit rfl ?_
    refine WT_seq ?_
    refine WT_seq ?_
    refine WT_region ?_
    refine WL_v rfl (ov_move rfl) ?_
    refine WL_v rfl (ov_not rfl) ?_
    refine WL_nil ?_
    refine WT_condT rfl ?_
    refine WT_region ?_
    refine WL_v rfl (ov_move rfl) ?_
    refine WL_v rfl (ov_move rfl) ?_
    refine WL_bsI rfl hH rfl (run_bs_int _) ?_; rintro Y yv w5 hY hH5
    refine WL_appI (i := 1) (j := 0) rfl hH5 rfl rfl st_sl_int rfl hX rfl hY (by simp; omega) (by simp; omega) ?_; rintro X2 xv2 w6 hX2 hH6
    refine WL_v rfl (ov_assign rfl) ?_
    refine WL_nil ?_
    refine WT_seq ?_
    refine WT_region ?_
    refine WL_v rfl (ov_move rfl) ?_
    refine WL_v rfl (ov_assign rfl) ?_
    refine WL_nil ?_
    exact WT_ret1 Tryz.func162 Tryz.results162 rfl ⟨X2, by have := putL_mid n o [] hle (by simp); rw [List.append_nil] at this; rw [this]; exact hX2, hH6.drop⟩

theorem sRowSort_ok (hH : H w h Ls) {av : Value} {r : List Int} (hA : RdL h Ls av r) : Rets Tryz.prog 139 #[av] w fun v w' => RowT h Ls v w' (sortL r) := by
  refine rets_enter Tryz.func139 rfl Tryz.ntmps139 (by simp) ?_
  refine WT_seq ?_
  refine WT_region ?_
  refine WL_v rfl (ov_assign rfl) ?_
  refine WL_v rfl (ov_assign rfl) ?_
  refine WL_nil ?_
  refine WT_seq ?_
  refine WT_region ?_
  refine WL_bsI0 rfl hH run_bs_int0 ?_; rintro X xv w1 hX hH1
  refine WL_v rfl (ov_assign rfl) ?_
  refine WL_nil ?_
  refine WT_seq ?_
  refine WT_seq ?_
  refine WT_region ?_
  refine WL_v rfl (ov_move rfl) ?_
  refine WL_call rfl rfl cf_spec_RowValid (sRowValidR_ok hH1 hA.up) ?_; rintro _ w2 ⟨rfl, hH2⟩
  refine WL_v rfl (ov_not rfl) ?_
  refine WL_nil ?_
  refine WT_cond rfl (fun hbo => ?_) (fun hbo => ?_)
  · skip
    first | with_reducible replace hbo := of_decide_eq_true hbo | with_reducible replace hbo := bn_T hbo | with_reducible replace hbo := bb_T hbo | skip
    refine WT_seq ?_
    refine WT_region ?_
    refine WL_v rfl (ov_move rfl) ?_
    refine WL_v rfl (ov_assign rfl) ?_
    refine WL_v rfl (ov_assign rfl) ?_
    refine WL_nil ?_
    exact WT_ret2 Tryz.func139 Tryz.results139 rfl rfl ⟨xv, false, X, rfl, by rw [sortL, if_neg (by simpa using hbo)]; exact hX, hH2⟩
  first | with_reducible replace hbo := of_decide_eq_false hbo | with_reducible replace hbo := bn_F hbo | with_reducible replace hbo := bb_F hbo | skip
  have hr : rowOk r = true := by simpa using hbo
  have h6 := rowOk_len6 hr
  rw [sortL, if_pos hr]
  refine WT_skip ?_
  refine WT_seq ?_
  refine WT_seq ?_
  refine WT_region ?_
  refine WL_v rfl (ov_assign rfl) ?_
  refine WL_nil ?_
  refine WT_block ?_
  refine WT_while (fun s : Nat × Value => [(0, av), (4, s.2), (5, .int .i64 (s.1 : Int))]) (fun s w => s.1 ≤ r.length ∧ ∃ X, IRow X 3 s.2 (isortL (r.take s.1)) ∧ H w h (X :: Ls)) (fun s => r.length - s.1) (0, xv) (by repeat (first | exact trivial | refine ⟨rfl, ?_⟩)) ⟨by simp, X, by simpa [isortL] using hX, hH2⟩ ?_
  clear hH hH1 hH2 hX X xv
  rintro ⟨k, xv⟩ w3 ⟨hk, X, hX, hH⟩ again
  simp only at hk hX
  refine WT_seq ?_
  refine WT_seq ?_
  refine WT_region ?_
  refine WL_v rfl (ov_move rfl) ?_
  refine WL_v rfl (ov_move rfl) ?_
  refine WL_v rfl (ov_len rfl hA.sl st_sl_int) ?_
  refine WL_v rfl (ov_lss rfl rfl) ?_
  refine WL_nil ?_
  refine WT_cond rfl (fun hc => ?_) (fun hc => ?_)
  · skip
    first | with_reducible replace hc := of_decide_eq_true hc | with_reducible replace hc := bn_T hc | with_reducible replace hc := bb_T hc | skip
    have hkr : k < r.length := by simp only at hc; omega
    refine WT_skip ?_
    refine WT_seq ?_
    refine WT_block ?_
    refine WT_region ?_
    refine WL_v rfl (ov_move rfl) ?_
    refine WL_v rfl (ov_move rfl) ?_
    refine WL_v rfl (ov_move rfl) ?_
    refine WL_v rfl (ov_index rfl rfl st_sl_int hA.sl hkr) ?_
    refine WL_v rfl (ov_load rfl one_int (hA.cell hH.drop hkr)) ?_
    refine WL_call rfl rfl cf_spec_l1Put (l1Put_ok hH r[k] (hX.rdl (i := 0) rfl) (by rw [isort_len, List.length_take]; omega)) ?_; rintro xv2 w5 ⟨X2, hX2, hH5⟩
    refine WL_v rfl (ov_assign rfl) ?_
    refine WL_nil ?_
    refine WT_inBlock ?_
    refine WT_region ?_
    refine WL_v rfl (ov_move rfl) ?_
    refine WL_v rfl (ov_add rfl rfl (by omega)) ?_
    refine WL_v rfl (ov_assign rfl) ?_
    refine WL_nil ?_
    refine again (k + 1, xv2) _ _ (by simp only; omega) (by repeat (first | exact trivial | refine ⟨rfl, ?_⟩)) ⟨by simp only; omega, X2, by simp only; rw [List.take_succ_eq_append_getElem hkr, isort_snoc]; exact hX2, hH5.del 1 rfl⟩
  first | with_reducible replace hc := of_decide_eq_false hc | with_reducible replace hc := bn_F hc | with_reducible replace hc := bb_F hc | skip
  obtain rfl : k = r.length := by simp only at hc; omega
  refine WT_exit rfl ?_
  refine WT_seq ?_
  refine WT_region ?_
  refine WL_v rfl (ov_move rfl) ?_
  refine WL_v rfl (ov_assign rfl) ?_
  refine WL_v rfl (ov_assign rfl) ?_
  refine WL_nil ?_
  exact WT_ret2 Tryz.func139 Tryz.results139 rfl rfl ⟨_, _, X, rfl, by rw [List.take_length] at hX; exact hX, hH⟩

theorem sRowTurn_ok (hH : H w h Ls) {av : Value} {r : List Int} (hA : RdL h Ls av r) : Rets Tryz.prog 140 #[av] w fun v w' => RowT h Ls v w' (turnL r) := by
  refine rets_enter Tryz.func140 rfl Tryz.ntmps140 (by simp) ?_
  refine WT_seq ?_
  refine WT_region ?_
  refine WL_v rfl (ov_assign rfl) ?_
  refine WL_v rfl (ov_assign rfl) ?_
  refine WL_nil ?_
  refine WT_seq ?_
  refine WT_region ?_
  refine WL_bsI0 rfl hH run_bs_int0 ?_; rintro X xv w1 hX hH1
  refine WL_v rfl (ov_assign rfl) ?_
  refine WL_nil ?_
  refine WT_seq ?_
  refine WT_seq ?_
  refine WT_region ?_
  refine WL_v rfl (ov_move rfl) ?_
  refine WL_call rfl rfl cf_spec_RowValid (sRowValidR_ok hH1 hA.up) ?_; rintro _ w2 ⟨rfl, hH2⟩
  refine WL_v rfl (ov_not rfl) ?_
  refine WL_nil ?_
  refine WT_cond rfl (fun hbo => ?_) (fun hbo => ?_)
  · skip
    first | with_reducible replace hbo := of_decide_eq_true hbo | with_reducible replace hbo := bn_T hbo | with_reducible replace hbo := bb_T hbo | skip
    refine WT_seq ?_
    refine WT_region ?_
    refine WL_v rfl (ov_move rfl) ?_
    refine WL_v rfl (ov_assign rfl) ?_
    refine WL_v rfl (ov_assign rfl) ?_
    refine WL_nil ?_
    exact WT_ret2 Tryz.func140 Tryz.results140 rfl rfl ⟨xv, false, X, rfl, by rw [turnL, if_neg (by simpa using hbo)]; exact hX, hH2⟩
  first | with_reducible replace hbo := of_decide_eq_false hbo | with_reducible replace hbo := bn_F hbo | with_reducible replace hbo := bb_F hbo | skip
  have hr : rowOk r = true := by simpa using hbo
  have h6 := rowOk_len6 hr
  rw [turnL, if_pos hr]
  refine WT_skip ?_
  refine WT_seq ?_
  refine WT_seq ?_
  refine WT_region ?_
  refine WL_v rfl (ov_move rfl) ?_
  refine WL_v rfl (ov_len rfl hA.sl st_sl_int) ?_
  refine WL_v rfl (ov_as (ov_sub rfl rfl (by omega)) (congrArg (Value.int .i64) ((show (r.length : Int) - 1 = (r.length : Int) - 1 - ((0 : Nat) : Int) by omega)))) ?_
  refine WL_v rfl (ov_assign rfl) ?_
  refine WL_nil ?_
  refine WT_block ?_
  refine WT_while (fun s : Nat × Value => [(0, av), (4, s.2), (5, .int .i64 ((r.length : Int) - 1 - (s.1 : Int)))]) (fun s w => s.1 ≤ r.length ∧ ∃ X, IRow X 3 s.2 (r.reverse.take s.1) ∧ H w h (X :: Ls)) (fun s => r.length - s.1) (0, xv) (by repeat (first | exact trivial | refine ⟨rfl, ?_⟩)) ⟨by simp, X, by simpa using hX, hH2⟩ ?_
  clear hH hH1 hH2 hX X xv
  rintro ⟨k, xv⟩ w3 ⟨hk, X, hX, hH⟩ again
  simp only at hk hX
  refine WT_seq ?_
  refine WT_seq ?_
  refine WT_region ?_
  refine WL_v rfl (ov_move rfl) ?_
  refine WL_v rfl (ov_geq rfl rfl) ?_
  refine WL_nil ?_
  refine WT_cond rfl (fun hc => ?_) (fun hc => ?_)
  · skip
    first | with_reducible replace hc := of_decide_eq_true hc | with_reducible replace hc := bn_T hc | with_reducible replace hc := bb_T hc | skip
    have hkr : k < r.length := by simp only at hc; omega
    obtain ⟨m, hm⟩ : ∃ m, m = r.length - 1 - k := ⟨_, rfl⟩
    have hmi : ((r.length : Int) - 1 - (k : Int)) = (m : Int) := by omega
    have hmr : m < r.length := by omega
    have htl : (r.reverse.take k).length = k := by rw [List.length_take, List.length_reverse]; omega
    simp only [hmi]
    refine WT_skip ?_
    refine WT_seq ?_
    refine WT_block ?_
    refine WT_region ?_
    refine WL_v rfl (ov_move rfl) ?_
    refine WL_v rfl (ov_move rfl) ?_
    refine WL_v rfl (ov_move rfl) ?_
    refine WL_v rfl (ov_index rfl rfl st_sl_int hA.sl hmr) ?_
    refine WL_v rfl (ov_load rfl one_int (hA.cell hH.drop hmr)) ?_
    refine WL_bsI rfl hH rfl (run_bs_int _) ?_; rintro Y yv w5 hY hH5
    refine WL_appI (i := 1) (j := 0) rfl hH5 rfl rfl st_sl_int rfl hX rfl hY (by rw [htl]; simp; omega) (by rw [htl]; simp; omega) ?_; rintro X2 xv2 w6 hX2 hH6
    refine WL_v rfl (ov_assign rfl) ?_
    refine WL_nil ?_
    refine WT_inBlock ?_
    refine WT_region ?_
    refine WL_v rfl (ov_move rfl) ?_
    refine WL_v rfl (ov_as (ov_sub rfl rfl (by omega)) (congrArg (Value.int .i64) ((show (m : Int) - 1 = (r.length : Int) - 1 - ((k + 1 : Nat) : Int) by omega)))) ?_
    refine WL_v rfl (ov_assign rfl) ?_
    refine WL_nil ?_
    refine again (k + 1, xv2) _ _ (by simp only; omega) (by repeat (first | exact trivial | refine ⟨rfl, ?_⟩)) ⟨by simp only; omega, X2, ?_, hH6.drop⟩
    simp only
    rw [List.take_succ_eq_append_getElem (by rw [List.length_reverse]; exact hkr), List.getElem_reverse]
    have : r[r.length - 1 - k] = r[m] := by congr 1; omega
    rw [this]
    exact hX2
  first | with_reducible replace hc := of_decide_eq_false hc | with_reducible replace hc := bn_F hc | with_reducible replace hc := bb_F hc | skip
  obtain rfl : k = r.length := by simp only at hc; omega
  refine WT_exit rfl ?_
  refine WT_seq ?_
  refine WT_region ?_
  refine WL_v rfl (ov_move rfl) ?_
  refine WL_v rfl (ov_assign rfl) ?_
  refine WL_v rfl (ov_assign rfl) ?_
  refine WL_nil ?_
  exact WT_ret2 Tryz.func140 Tryz.results140 rfl rfl ⟨_, _, X, rfl, by rw [List.take_of_length_le (by rw [List.length_reverse]; exact Nat.le_refl _)] at hX; exact hX, hH⟩
end
end Go.Proofs.YteagnhdhafiofaaGreat

/- Walks: the rows of a plan: the reference. -/
namespace Go.Proofs.YteagnhdhafiofaaGreat
open Go.RowKit

section
variable {h : GH} {Ls : List Heaplet} {w : World}

theorem RdLL.up {X : Heaplet} {v : Value} {ls : List (List Int)} (hA : RdLL h Ls v ls) : RdLL h (X :: Ls) v ls := ⟨hA.sl, fun hi => by
  obtain ⟨u, h1, h2⟩ := hA.at_ hi
  exact ⟨u, h1.up, fun hH => h2 hH.drop⟩⟩

theorem sKindRun_1 (hH : H w h Ls) {rv : Value} {rows : List (List Int)} (hR : RdLL h Ls rv rows) : Rets Tryz.prog 111 #[.int .i64 1, rv] w fun v w' => RowT h Ls v w' (kindRow 1 rows) := by
  have hkn : kindNeeds 1 = 2 := rfl
  refine rets_enter Tryz.func111 rfl Tryz.ntmps111 (by simp) ?_
  refine WT_seq ?_
  refine WT_region ?_
  refine WL_v rfl (ov_assign rfl) ?_
  refine WL_v rfl (ov_assign rfl) ?_
  refine WL_nil ?_
  refine WT_seq ?_
  refine WT_seq ?_
  refine WT_region ?_
  refine WL_v rfl (ov_move rfl) ?_
  refine WL_v rfl (ov_F (ov_eql rfl rfl) (by first | exact decide_eq_false (by decide) | exact nb_F (by decide) | exact mb_F (by decide) | exact (by decide) | (simp only [decide_eq_false_iff_not]; omega) | simpa using (by decide))) ?_
  refine WL_v rfl (ov_move rfl) ?_
  refine WL_guardOn rfl rfl ?_
  refine WL_v rfl (ov_move rfl) ?_
  refine WL_guardOn rfl rfl ?_
  refine WL_call rfl rfl cf_spec_KindNeeds (sKindNeeds_ok hH 1) ?_; rintro _ w1 ⟨rfl, hH1⟩
  refine WL_guardOn rfl rfl ?_
  refine WL_v rfl (ov_move rfl) ?_
  refine WL_guardOn rfl rfl ?_
  refine WL_v rfl (ov_len rfl hR.sl st_sl_sl_int) ?_
  refine WL_guardOn rfl rfl ?_
  refine WL_v rfl (ov_neq rfl rfl) ?_
  refine WL_v rfl (ov_pickF rfl rfl) ?_
  refine WL_nil ?_
  refine WT_cond rfl (fun hl => ?_) (fun hl => ?_)
  · skip
    first | with_reducible replace hl := of_decide_eq_true hl | with_reducible replace hl := bn_T hl | with_reducible replace hl := bb_T hl | skip
    have hl2 : rows.length ≠ 2 := by rw [hkn] at hl; omega
    have hnil : kindRow 1 rows = [] := by
      match rows, hl2 with
      | [], _ => rfl
      | [_], _ => rfl
      | [_, _], hl2 => simp at hl2
      | _ :: _ :: _ :: _, _ => rfl
    rw [hnil]
    refine WT_seq ?_
    refine WT_region ?_
    refine WL_bsI0 rfl hH1 run_bs_int0 ?_; rintro X xv w2 hX hH2
    refine WL_v rfl (ov_assign rfl) ?_
    refine WL_v rfl (ov_assign rfl) ?_
    refine WL_nil ?_
    exact WT_ret2 Tryz.func111 Tryz.results111 rfl rfl ⟨xv, false, X, rfl, hX, hH2⟩
  first | with_reducible replace hl := of_decide_eq_false hl | with_reducible replace hl := bn_F hl | with_reducible replace hl := bb_F hl | skip
  have hl2 : rows.length = 2 := by rw [hkn] at hl; omega
  obtain ⟨x, y, rfl⟩ : ∃ x y, rows = [x, y] := by
    match rows, hl2 with
    | [x, y], _ => exact ⟨x, y, rfl⟩
  obtain ⟨u1, g1, c1⟩ := hR.at_ (i := 0) (by simp)
  obtain ⟨u2, g2, c2⟩ := hR.at_ (i := 1) (by simp)
  refine WT_skip ?_
  refine WT_seq ?_
  refine WT_seq ?_
  refine WT_region ?_
  refine WL_v rfl (ov_move rfl) ?_
  refine WL_nil ?_
  refine WT_block ?_
  refine WT_seq ?_
  refine WT_region ?_
  refine WL_v rfl (ov_T (ov_eql rfl rfl) (by first | exact decide_eq_true (by decide) | exact nb_T (by decide) | exact mb_T (by decide) | exact (by decide) | (simp only [decide_eq_true_eq]; omega) | simpa using (by decide))) ?_
  refine WL_v rfl (ov_assign rfl) ?_
  refine WL_nil ?_
  refine WT_condT rfl ?_
  refine WT_seq ?_
  refine WT_mixL [(0, 1), (1, 1), (2, 0), (3, 1), (4, 1), (5, 0), (6, 3), (7, 1), (8, 1), (9, 1), (10, 1)] mixed (by kernel_rfl) hH1 ?_
  clear hH1
  intro w2 hH1 hC
  refine WM_p rfl rfl (fun _ => ov_move rfl) ?_
  refine WM_p rfl rfl (fun _ => ov_index (i := 0) rfl rfl st_sl_sl_int hR.sl (by omega)) ?_
  refine WM_v rfl rfl hC (fun _ ⟨_, hH⟩ => ov_load rfl one_sl_int (c1 hH.drop)) ?_
  refine WM_p rfl rfl (fun _ => ov_move rfl) ?_
  refine WM_p rfl rfl (fun _ => ov_index (i := 1) rfl rfl st_sl_sl_int hR.sl (by omega)) ?_
  refine WM_v rfl rfl hC (fun _ ⟨_, hH⟩ => ov_load rfl one_sl_int (c2 hH.drop)) ?_
  refine WM_e rfl ?_
  refine WL_call rfl rfl cf_spec_RowAdd (sRowAdd_ok hH1 g1 g2) ?_; rintro _ w3 ⟨ru, ok, X, rfl, hX, hH3⟩
  refine WL_mix (fun h => absurd rfl h) ?_
  refine WM_p rfl rfl (fun _ => ov_extract rfl rfl) ?_
  refine WM_p rfl rfl (fun _ => ov_extract rfl rfl) ?_
  refine WM_p rfl rfl (fun _ => ov_assign rfl) ?_
  refine WM_p rfl rfl (fun _ => ov_assign rfl) ?_
  refine WM_nil ?_
  exact WT_ret2 Tryz.func111 Tryz.results111 rfl rfl ⟨ru, ok, X, rfl, hX, hH3⟩

theorem sKindRun_2 (hH : H w h Ls) {rv : Value} {rows : List (List Int)} (hR : RdLL h Ls rv rows) : Rets Tryz.prog 111 #[.int .i64 2, rv] w fun v w' => RowT h Ls v w' (kindRow 2 rows) := by
  have hkn : kindNeeds 2 = 2 := rfl
  refine rets_enter Tryz.func111 rfl Tryz.ntmps111 (by simp) ?_
  refine WT_seq ?_
  refine WT_region ?_
  refine WL_v rfl (ov_assign rfl) ?_
  refine WL_v rfl (ov_assign rfl) ?_
  refine WL_nil ?_
  refine WT_seq ?_
  refine WT_seq ?_
  refine WT_region ?_
  refine WL_v rfl (ov_move rfl) ?_
  refine WL_v rfl (ov_F (ov_eql rfl rfl) (by first | exact decide_eq_false (by decide) | exact nb_F (by decide) | exact mb_F (by decide) | exact (by decide) | (simp only [decide_eq_false_iff_not]; omega) | simpa using (by decide))) ?_
  refine WL_v rfl (ov_move rfl) ?_
  refine WL_guardOn rfl rfl ?_
  refine WL_v rfl (ov_move rfl) ?_
  refine WL_guardOn rfl rfl ?_
  refine WL_call rfl rfl cf_spec_KindNeeds (sKindNeeds_ok hH 2) ?_; rintro _ w1 ⟨rfl, hH1⟩
  refine WL_guardOn rfl rfl ?_
  refine WL_v rfl (ov_move rfl) ?_
  refine WL_guardOn rfl rfl ?_
  refine WL_v rfl (ov_len rfl hR.sl st_sl_sl_int) ?_
  refine WL_guardOn rfl rfl ?_
  refine WL_v rfl (ov_neq rfl rfl) ?_
  refine WL_v rfl (ov_pickF rfl rfl) ?_
  refine WL_nil ?_
  refine WT_cond rfl (fun hl => ?_) (fun hl => ?_)
  · skip
    first | with_reducible replace hl := of_decide_eq_true hl | with_reducible replace hl := bn_T hl | with_reducible replace hl := bb_T hl | skip
    have hl2 : rows.length ≠ 2 := by rw [hkn] at hl; omega
    have hnil : kindRow 2 rows = [] := by
      match rows, hl2 with
      | [], _ => rfl
      | [_], _ => rfl
      | [_, _], hl2 => simp at hl2
      | _ :: _ :: _ :: _, _ => rfl
    rw [hnil]
    refine WT_seq ?_
    refine WT_region ?_
    refine WL_bsI0 rfl hH1 run_bs_int0 ?_; rintro X xv w2 hX hH2
    refine WL_v rfl (ov_assign rfl) ?_
    refine WL_v rfl (ov_assign rfl) ?_
    refine WL_nil ?_
    exact WT_ret2 Tryz.func111 Tryz.results111 rfl rfl ⟨xv, false, X, rfl, hX, hH2⟩
  first | with_reducible replace hl := of_decide_eq_false hl | with_reducible replace hl := bn_F hl | with_reducible replace hl := bb_F hl | skip
  have hl2 : rows.length = 2 := by rw [hkn] at hl; omega
  obtain ⟨x, y, rfl⟩ : ∃ x y, rows = [x, y] := by
    match rows, hl2 with
    | [x, y], _ => exact ⟨x, y, rfl⟩
  obtain ⟨u1, g1, c1⟩ := hR.at_ (i := 0) (by simp)
  obtain ⟨u2, g2, c2⟩ := hR.at_ (i := 1) (by simp)
  refine WT_skip ?_
  refine WT_seq ?_
  refine WT_seq ?_
  refine WT_region ?_
  refine WL_v rfl (ov_move rfl) ?_
  refine WL_nil ?_
  refine WT_block ?_
  refine WT_seq ?_
  refine WT_region ?_
  refine WL_v rfl (ov_F (ov_eql rfl rfl) (by first | exact decide_eq_false (by decide) | exact nb_F (by decide) | exact mb_F (by decide) | exact (by decide) | (simp only [decide_eq_false_iff_not]; omega) | simpa using (by decide))) ?_
  refine WL_v rfl (ov_assign rfl) ?_
  refine WL_nil ?_
  refine WT_condF rfl ?_
  refine WT_seq ?_
  refine WT_region ?_
  refine WL_v rfl (ov_T (ov_eql rfl rfl) (by first | exact decide_eq_true (by decide) | exact nb_T (by decide) | exact mb_T (by decide) | exact (by decide) | (simp only [decide_eq_true_eq]; omega) | simpa using (by decide))) ?_
  refine WL_v rfl (ov_assign rfl) ?_
  refine WL_nil ?_
  refine WT_condT rfl ?_
  refine WT_seq ?_
  refine WT_mixL [(0, 1), (1, 1), (2, 0), (3, 1), (4, 1), (5, 0), (6, 3), (7, 1), (8, 1), (9, 1), (10, 1)] mixed (by kernel_rfl) hH1 ?_
  clear hH1
  intro w2 hH1 hC
  refine WM_p rfl rfl (fun _ => ov_move rfl) ?_
  refine WM_p rfl rfl (fun _ => ov_index (i := 0) rfl rfl st_sl_sl_int hR.sl (by omega)) ?_
  refine WM_v rfl rfl hC (fun _ ⟨_, hH⟩ => ov_load rfl one_sl_int (c1 hH.drop)) ?_
  refine WM_p rfl rfl (fun _ => ov_move rfl) ?_
  refine WM_p rfl rfl (fun _ => ov_index (i := 1) rfl rfl st_sl_sl_int hR.sl (by omega)) ?_
  refine WM_v rfl rfl hC (fun _ ⟨_, hH⟩ => ov_load rfl one_sl_int (c2 hH.drop)) ?_
  refine WM_e rfl ?_
  refine WL_call rfl rfl cf_spec_RowTimes (sRowTimes_ok hH1 g1 g2) ?_; rintro _ w3 ⟨ru, ok, X, rfl, hX, hH3⟩
  refine WL_mix (fun h => absurd rfl h) ?_
  refine WM_p rfl rfl (fun _ => ov_extract rfl rfl) ?_
  refine WM_p rfl rfl (fun _ => ov_extract rfl rfl) ?_
  refine WM_p rfl rfl (fun _ => ov_assign rfl) ?_
  refine WM_p rfl rfl (fun _ => ov_assign rfl) ?_
  refine WM_nil ?_
  exact WT_ret2 Tryz.func111 Tryz.results111 rfl rfl ⟨ru, ok, X, rfl, hX, hH3⟩

theorem sKindRun_3 (hH : H w h Ls) {rv : Value} {rows : List (List Int)} (hR : RdLL h Ls rv rows) : Rets Tryz.prog 111 #[.int .i64 3, rv] w fun v w' => RowT h Ls v w' (kindRow 3 rows) := by
  have hkn : kindNeeds 3 = 1 := rfl
  refine rets_enter Tryz.func111 rfl Tryz.ntmps111 (by simp) ?_
  refine WT_seq ?_
  refine WT_region ?_
  refine WL_v rfl (ov_assign rfl) ?_
  refine WL_v rfl (ov_assign rfl) ?_
  refine WL_nil ?_
  refine WT_seq ?_
  refine WT_seq ?_
  refine WT_region ?_
  refine WL_v rfl (ov_move rfl) ?_
  refine WL_v rfl (ov_F (ov_eql rfl rfl) (by first | exact decide_eq_false (by decide) | exact nb_F (by decide) | exact mb_F (by decide) | exact (by decide) | (simp only [decide_eq_false_iff_not]; omega) | simpa using (by decide))) ?_
  refine WL_v rfl (ov_move rfl) ?_
  refine WL_guardOn rfl rfl ?_
  refine WL_v rfl (ov_move rfl) ?_
  refine WL_guardOn rfl rfl ?_
  refine WL_call rfl rfl cf_spec_KindNeeds (sKindNeeds_ok hH 3) ?_; rintro _ w1 ⟨rfl, hH1⟩
  refine WL_guardOn rfl rfl ?_
  refine WL_v rfl (ov_move rfl) ?_
  refine WL_guardOn rfl rfl ?_
  refine WL_v rfl (ov_len rfl hR.sl st_sl_sl_int) ?_
  refine WL_guardOn rfl rfl ?_
  refine WL_v rfl (ov_neq rfl rfl) ?_
  refine WL_v rfl (ov_pickF rfl rfl) ?_
  refine WL_nil ?_
  refine WT_cond rfl (fun hl => ?_) (fun hl => ?_)
  · skip
    first | with_reducible replace hl := of_decide_eq_true hl | with_reducible replace hl := bn_T hl | with_reducible replace hl := bb_T hl | skip
    have hl2 : rows.length ≠ 1 := by rw [hkn] at hl; omega
    have hnil : kindRow 3 rows = [] := by
      match rows, hl2 with
      | [], _ => rfl
      | [_], hl2 => simp at hl2
      | _ :: _ :: _, _ => rfl
    rw [hnil]
    refine WT_seq ?_
    refine WT_region ?_
    refine WL_bsI0 rfl hH1 run_bs_int0 ?_; rintro X xv w2 hX hH2
    refine WL_v rfl (ov_assign rfl) ?_
    refine WL_v rfl (ov_assign rfl) ?_
    refine WL_nil ?_
    exact WT_ret2 Tryz.func111 Tryz.results111 rfl rfl ⟨xv, false, X, rfl, hX, hH2⟩
  first | with_reducible replace hl := of_decide_eq_false hl | with_reducible replace hl := bn_F hl | with_reducible replace hl := bb_F hl | skip
  have hl2 : rows.length = 1 := by rw [hkn] at hl; omega
  obtain ⟨x, rfl⟩ : ∃ x, rows = [x] := by
    match rows, hl2 with
    | [x], _ => exact ⟨x, rfl⟩
  obtain ⟨u1, g1, c1⟩ := hR.at_ (i := 0) (by simp)
  refine WT_skip ?_
  refine WT_seq ?_
  refine WT_seq ?_
  refine WT_region ?_
  refine WL_v rfl (ov_move rfl) ?_
  refine WL_nil ?_
  refine WT_block ?_
  refine WT_seq ?_
  refine WT_region ?_
  refine WL_v rfl (ov_F (ov_eql rfl rfl) (by first | exact decide_eq_false (by decide) | exact nb_F (by decide) | exact mb_F (by decide) | exact (by decide) | (simp only [decide_eq_false_iff_not]; omega) | simpa using (by decide))) ?_
  refine WL_v rfl (ov_assign rfl) ?_
  refine WL_nil ?_
  refine WT_condF rfl ?_
  refine WT_seq ?_
  refine WT_region ?_
  refine WL_v rfl (ov_F (ov_eql rfl rfl) (by first | exact decide_eq_false (by decide) | exact nb_F (by decide) | exact mb_F (by decide) | exact (by decide) | (simp only [decide_eq_false_iff_not]; omega) | simpa using (by decide))) ?_
  refine WL_v rfl (ov_assign rfl) ?_
  refine WL_nil ?_
  refine WT_condF rfl ?_
  refine WT_seq ?_
  refine WT_region ?_
  refine WL_v rfl (ov_T (ov_eql rfl rfl) (by first | exact decide_eq_true (by decide) | exact nb_T (by decide) | exact mb_T (by decide) | exact (by decide) | (simp only [decide_eq_true_eq]; omega) | simpa using (by decide))) ?_
  refine WL_v rfl (ov_assign rfl) ?_
  refine WL_nil ?_
  refine WT_condT rfl ?_
  refine WT_seq ?_
  refine WT_region ?_
  refine WL_v rfl (ov_move rfl) ?_
  refine WL_v rfl (ov_index (i := 0) rfl rfl st_sl_sl_int hR.sl (by omega)) ?_
  refine WL_v rfl (ov_load rfl one_sl_int (c1 hH1)) ?_
  refine WL_call rfl rfl cf_spec_RowSums (sRowSums_ok hH1 g1) ?_; rintro _ w3 ⟨ru, ok, X, rfl, hX, hH3⟩
  refine WL_v rfl (ov_extract rfl rfl) ?_
  refine WL_v rfl (ov_extract rfl rfl) ?_
  refine WL_v rfl (ov_assign rfl) ?_
  refine WL_v rfl (ov_assign rfl) ?_
  refine WL_nil ?_
  exact WT_ret2 Tryz.func111 Tryz.results111 rfl rfl ⟨ru, ok, X, rfl, hX, hH3⟩

theorem sKindRun_4 (hH : H w h Ls) {rv : Value} {rows : List (List Int)} (hR : RdLL h Ls rv rows) : Rets Tryz.prog 111 #[.int .i64 4, rv] w fun v w' => RowT h Ls v w' (kindRow 4 rows) := by
  have hkn : kindNeeds 4 = 1 := rfl
  refine rets_enter Tryz.func111 rfl Tryz.ntmps111 (by simp) ?_
  refine WT_seq ?_
  refine WT_region ?_
  refine WL_v rfl (ov_assign rfl) ?_
  refine WL_v rfl (ov_assign rfl) ?_
  refine WL_nil ?_
  refine WT_seq ?_
  refine WT_seq ?_
  refine WT_region ?_
  refine WL_v rfl (ov_move rfl) ?_
  refine WL_v rfl (ov_F (ov_eql rfl rfl) (by first | exact decide_eq_false (by decide) | exact nb_F (by decide) | exact mb_F (by decide) | exact (by decide) | (simp only [decide_eq_false_iff_not]; omega) | simpa using (by decide))) ?_
  refine WL_v rfl (ov_move rfl) ?_
  refine WL_guardOn rfl rfl ?_
  refine WL_v rfl (ov_move rfl) ?_
  refine WL_guardOn rfl rfl ?_
  refine WL_call rfl rfl cf_spec_KindNeeds (sKindNeeds_ok hH 4) ?_; rintro _ w1 ⟨rfl, hH1⟩
  refine WL_guardOn rfl rfl ?_
  refine WL_v rfl (ov_move rfl) ?_
  refine WL_guardOn rfl rfl ?_
  refine WL_v rfl (ov_len rfl hR.sl st_sl_sl_int) ?_
  refine WL_guardOn rfl rfl ?_
  refine WL_v rfl (ov_neq rfl rfl) ?_
  refine WL_v rfl (ov_pickF rfl rfl) ?_
  refine WL_nil ?_
  refine WT_cond rfl (fun hl => ?_) (fun hl => ?_)
  · skip
    first | with_reducible replace hl := of_decide_eq_true hl | with_reducible replace hl := bn_T hl | with_reducible replace hl := bb_T hl | skip
    have hl2 : rows.length ≠ 1 := by rw [hkn] at hl; omega
    have hnil : kindRow 4 rows = [] := by
      match rows, hl2 with
      | [], _ => rfl
      | [_], hl2 => simp at hl2
      | _ :: _ :: _, _ => rfl
    rw [hnil]
    refine WT_seq ?_
    refine WT_region ?_
    refine WL_bsI0 rfl hH1 run_bs_int0 ?_; rintro X xv w2 hX hH2
    refine WL_v rfl (ov_assign rfl) ?_
    refine WL_v rfl (ov_assign rfl) ?_
    refine WL_nil ?_
    exact WT_ret2 Tryz.func111 Tryz.results111 rfl rfl ⟨xv, false, X, rfl, hX, hH2⟩
  first | with_reducible replace hl := of_decide_eq_false hl | with_reducible replace hl := bn_F hl | with_reducible replace hl := bb_F hl | skip
  have hl2 : rows.length = 1 := by rw [hkn] at hl; omega
  obtain ⟨x, rfl⟩ : ∃ x, rows = [x] := by
    match rows, hl2 with
    | [x], _ => exact ⟨x, rfl⟩
  obtain ⟨u1, g1, c1⟩ := hR.at_ (i := 0) (by simp)
  refine WT_skip ?_
  refine WT_seq ?_
  refine WT_seq ?_
  refine WT_region ?_
  refine WL_v rfl (ov_move rfl) ?_
  refine WL_nil ?_
  refine WT_block ?_
  refine WT_seq ?_
  refine WT_region ?_
  refine WL_v rfl (ov_F (ov_eql rfl rfl) (by first | exact decide_eq_false (by decide) | exact nb_F (by decide) | exact mb_F (by decide) | exact (by decide) | (simp only [decide_eq_false_iff_not]; omega) | simpa using (by decide))) ?_
  refine WL_v rfl (ov_assign rfl) ?_
  refine WL_nil ?_
  refine WT_condF rfl ?_
  refine WT_seq ?_
  refine WT_region ?_
  refine WL_v rfl (ov_F (ov_eql rfl rfl) (by first | exact decide_eq_false (by decide) | exact nb_F (by decide) | exact mb_F (by decide) | exact (by decide) | (simp only [decide_eq_false_iff_not]; omega) | simpa using (by decide))) ?_
  refine WL_v rfl (ov_assign rfl) ?_
  refine WL_nil ?_
  refine WT_condF rfl ?_
  refine WT_seq ?_
  refine WT_region ?_
  refine WL_v rfl (ov_F (ov_eql rfl rfl) (by first | exact decide_eq_false (by decide) | exact nb_F (by decide) | exact mb_F (by decide) | exact (by decide) | (simp only [decide_eq_false_iff_not]; omega) | simpa using (by decide))) ?_
  refine WL_v rfl (ov_assign rfl) ?_
  refine WL_nil ?_
  refine WT_condF rfl ?_
  refine WT_seq ?_
  refine WT_region ?_
  refine WL_v rfl (ov_T (ov_eql rfl rfl) (by first | exact decide_eq_true (by decide) | exact nb_T (by decide) | exact mb_T (by decide) | exact (by decide) | (simp only [decide_eq_true_eq]; omega) | simpa using (by decide))) ?_
  refine WL_v rfl (ov_assign rfl) ?_
  refine WL_nil ?_
  refine WT_condT rfl ?_
  refine WT_seq ?_
  refine WT_region ?_
  refine WL_v rfl (ov_move rfl) ?_
  refine WL_v rfl (ov_index (i := 0) rfl rfl st_sl_sl_int hR.sl (by omega)) ?_
  refine WL_v rfl (ov_load rfl one_sl_int (c1 hH1)) ?_
  refine WL_call rfl rfl cf_spec_RowSort (sRowSort_ok hH1 g1) ?_; rintro _ w3 ⟨ru, ok, X, rfl, hX, hH3⟩
  refine WL_v rfl (ov_extract rfl rfl) ?_
  refine WL_v rfl (ov_extract rfl rfl) ?_
  refine WL_v rfl (ov_assign rfl) ?_
  refine WL_v rfl (ov_assign rfl) ?_
  refine WL_nil ?_
  exact WT_ret2 Tryz.func111 Tryz.results111 rfl rfl ⟨ru, ok, X, rfl, hX, hH3⟩

theorem sKindRun_5 (hH : H w h Ls) {rv : Value} {rows : List (List Int)} (hR : RdLL h Ls rv rows) : Rets Tryz.prog 111 #[.int .i64 5, rv] w fun v w' => RowT h Ls v w' (kindRow 5 rows) := by
  have hkn : kindNeeds 5 = 1 := rfl
  refine rets_enter Tryz.func111 rfl Tryz.ntmps111 (by simp) ?_
  refine WT_seq ?_
  refine WT_region ?_
  refine WL_v rfl (ov_assign rfl) ?_
  refine WL_v rfl (ov_assign rfl) ?_
  refine WL_nil ?_
  refine WT_seq ?_
  refine WT_seq ?_
  refine WT_region ?_
  refine WL_v rfl (ov_move rfl) ?_
  refine WL_v rfl (ov_F (ov_eql rfl rfl) (by first | exact decide_eq_false (by decide) | exact nb_F (by decide) | exact mb_F (by decide) | exact (by decide) | (simp only [decide_eq_false_iff_not]; omega) | simpa using (by decide))) ?_
  refine WL_v rfl (ov_move rfl) ?_
  refine WL_guardOn rfl rfl ?_
  refine WL_v rfl (ov_move rfl) ?_
  refine WL_guardOn rfl rfl ?_
  refine WL_call rfl rfl cf_spec_KindNeeds (sKindNeeds_ok hH 5) ?_; rintro _ w1 ⟨rfl, hH1⟩
  refine WL_guardOn rfl rfl ?_
  refine WL_v rfl (ov_move rfl) ?_
  refine WL_guardOn rfl rfl ?_
  refine WL_v rfl (ov_len rfl hR.sl st_sl_sl_int) ?_
  refine WL_guardOn rfl rfl ?_
  refine WL_v rfl (ov_neq rfl rfl) ?_
  refine WL_v rfl (ov_pickF rfl rfl) ?_
  refine WL_nil ?_
  refine WT_cond rfl (fun hl => ?_) (fun hl => ?_)
  · skip
    first | with_reducible replace hl := of_decide_eq_true hl | with_reducible replace hl := bn_T hl | with_reducible replace hl := bb_T hl | skip
    have hl2 : rows.length ≠ 1 := by rw [hkn] at hl; omega
    have hnil : kindRow 5 rows = [] := by
      match rows, hl2 with
      | [], _ => rfl
      | [_], hl2 => simp at hl2
      | _ :: _ :: _, _ => rfl
    rw [hnil]
    refine WT_seq ?_
    refine WT_region ?_
    refine WL_bsI0 rfl hH1 run_bs_int0 ?_; rintro X xv w2 hX hH2
    refine WL_v rfl (ov_assign rfl) ?_
    refine WL_v rfl (ov_assign rfl) ?_
    refine WL_nil ?_
    exact WT_ret2 Tryz.func111 Tryz.results111 rfl rfl ⟨xv, false, X, rfl, hX, hH2⟩
  first | with_reducible replace hl := of_decide_eq_false hl | with_reducible replace hl := bn_F hl | with_reducible replace hl := bb_F hl | skip
  have hl2 : rows.length = 1 := by rw [hkn] at hl; omega
  obtain ⟨x, rfl⟩ : ∃ x, rows = [x] := by
    match rows, hl2 with
    | [x], _ => exact ⟨x, rfl⟩
  obtain ⟨u1, g1, c1⟩ := hR.at_ (i := 0) (by simp)
  refine WT_skip ?_
  refine WT_seq ?_
  refine WT_seq ?_
  refine WT_region ?_
  refine WL_v rfl (ov_move rfl) ?_
  refine WL_nil ?_
  refine WT_block ?_
  refine WT_seq ?_
  refine WT_region ?_
  refine WL_v rfl (ov_F (ov_eql rfl rfl) (by first | exact decide_eq_false (by decide) | exact nb_F (by decide) | exact mb_F (by decide) | exact (by decide) | (simp only [decide_eq_false_iff_not]; omega) | simpa using (by decide))) ?_
  refine WL_v rfl (ov_assign rfl) ?_
  refine WL_nil ?_
  refine WT_condF rfl ?_
  refine WT_seq ?_
  refine WT_region ?_
  refine WL_v rfl (ov_F (ov_eql rfl rfl) (by first | exact decide_eq_false (by decide) | exact nb_F (by decide) | exact mb_F (by decide) | exact (by decide) | (simp only [decide_eq_false_iff_not]; omega) | simpa using (by decide))) ?_
  refine WL_v rfl (ov_assign rfl) ?_
  refine WL_nil ?_
  refine WT_condF rfl ?_
  refine WT_seq ?_
  refine WT_region ?_
  refine WL_v rfl (ov_F (ov_eql rfl rfl) (by first | exact decide_eq_false (by decide) | exact nb_F (by decide) | exact mb_F (by decide) | exact (by decide) | (simp only [decide_eq_false_iff_not]; omega) | simpa using (by decide))) ?_
  refine WL_v rfl (ov_assign rfl) ?_
  refine WL_nil ?_
  refine WT_condF rfl ?_
  refine WT_seq ?_
  refine WT_region ?_
  refine WL_v rfl (ov_F (ov_eql rfl rfl) (by first | exact decide_eq_false (by decide) | exact nb_F (by decide) | exact mb_F (by decide) | exact (by decide) | (simp only [decide_eq_false_iff_not]; omega) | simpa using (by decide))) ?_
  refine WL_v rfl (ov_assign rfl) ?_
  refine WL_nil ?_
  refine WT_condF rfl ?_
  refine WT_skip ?_
  refine WT_inBlock ?_
  refine WT_seq ?_
  refine WT_region ?_
  refine WL_v rfl (ov_move rfl) ?_
  refine WL_v rfl (ov_index (i := 0) rfl rfl st_sl_sl_int hR.sl (by omega)) ?_
  refine WL_v rfl (ov_load rfl one_sl_int (c1 hH1)) ?_
  refine WL_call rfl rfl cf_spec_RowTurn (sRowTurn_ok hH1 g1) ?_; rintro _ w3 ⟨ru, ok, X, rfl, hX, hH3⟩
  refine WL_v rfl (ov_extract rfl rfl) ?_
  refine WL_v rfl (ov_extract rfl rfl) ?_
  refine WL_v rfl (ov_assign rfl) ?_
  refine WL_v rfl (ov_assign rfl) ?_
  refine WL_nil ?_
  exact WT_ret2 Tryz.func111 Tryz.results111 rfl rfl ⟨ru, ok, X, rfl, hX, hH3⟩

theorem sKindRun_ok (hH : H w h Ls) {k : Int} (hk : kindOk k = true) (h0 : k ≠ 0) {rv : Value} {rows : List (List Int)} (hR : RdLL h Ls rv rows) : Rets Tryz.prog 111 #[.int .i64 k, rv] w fun v w' => RowT h Ls v w' (kindRow k rows) := by
  rcases (kindOk_iff k).1 hk with rfl | rfl | rfl | rfl | rfl | rfl
  · exact absurd rfl h0
  · exact sKindRun_1 hH hR
  · exact sKindRun_2 hH hR
  · exact sKindRun_3 hH hR
  · exact sKindRun_4 hH hR
  · exact sKindRun_5 hH hR

/-- Some of a list of lists, by their numbers. -/
structure Pick (h : GH) (Ls : List Heaplet) (us : List Value) (f : List Int) (rows : List (List Int)) (n : Nat) : Prop where
  at_ : ∀ j (hj : j < f.length), j < n → ∃ u, us[j]? = some u ∧ RdL h Ls u (rows.getD (f[j]).toNat [])
theorem Pick.rdll {O : Heaplet} {ov : Value} {us : List Value} {f : List Int} {rows : List (List Int)} (hP : Pick h Ls us f rows f.length) {i : Nat} (hi : Ls[i]? = some O) (hO : Row O 25 1 ov f.length us) : RdLL h Ls ov (f.map fun x => rows.getD x.toNat []) :=
  ⟨by rw [List.length_map]; exact hO.sl, fun {i'} hi' => by
    rw [List.length_map] at hi'
    obtain ⟨u, h1, h2⟩ := hP.at_ i' hi' hi'
    refine ⟨u, by rw [List.getElem_map]; exact h2, fun hH => ?_⟩
    rw [Nat.mul_one]
    exact hO.cell hH hi h1⟩
theorem getLD {rows : List (List Int)} {t : Nat} (h : t < rows.length) : rows.getD t [] = rows[t] := by simp [List.getD_eq_getElem?_getD, List.getElem?_eq_getElem h]

theorem l4Step_ok (hH : H w h Ls) {k : Int} {fv rv mv : Value} {f r : List Int} {rows : List (List Int)} (hF : RdL h Ls fv f) (hR : RdL h Ls rv r) (hM : RdLL h Ls mv rows) (hk : kindOk k = true) (hfl : f.length ≤ 2) (hrl : r.length ≤ 6)
    (hfb : ∀ x ∈ f, 0 ≤ x ∧ x < (rows.length : Int)) : Rets Tryz.prog 92 #[.agg [.int .i64 k, fv, rv].toArray, mv] w fun v w' => ∃ X, IRow X 3 v (stepL ⟨k, f, r⟩ rows) ∧ H w' h (X :: Ls) := by
  refine rets_enter Tryz.func92 rfl Tryz.ntmps92 (by simp) ?_
  refine WT_seq ?_
  refine WT_region ?_
  refine WL_box _ rfl hH rfl rfl ?_; rintro b w1 hH1
  refine WL_v rfl (ov_assign rfl) ?_
  refine WL_nil ?_
  refine WT_seq ?_
  refine WT_seq ?_
  refine WT_region ?_
  refine WL_v rfl (ov_field rfl fo_impl_Node_0) ?_
  refine WL_v rfl (ov_load rfl one_int (hH1.cb 0 rfl 0)) ?_
  refine WL_v rfl (ov_eql rfl rfl) ?_
  refine WL_nil ?_
  refine WT_cond rfl (fun h0 => ?_) (fun h0 => ?_)
  · skip
    first | with_reducible replace h0 := of_decide_eq_true h0 | with_reducible replace h0 := bn_T h0 | with_reducible replace h0 := bb_T h0 | skip
    refine WT_seq ?_
    refine WT_region ?_
    refine WL_bsI0 rfl hH1 run_bs_int0 ?_; rintro X xv w2 hX hH2
    refine WL_v rfl (ov_field rfl fo_impl_Node_2) ?_
    refine WL_v rfl (ov_load rfl one_sl_int (hH2.cb 1 rfl 2)) ?_
    refine WL_appR (i := 0) (xs := []) rfl hH2 rfl rfl st_sl_int rfl hX hR.sl (fun hj => hR.cell hH2.drop.drop hj) (by simp only [List.length_nil]; omega) (by simp only [List.length_nil]; omega) ?_; rintro X2 xv2 w3 hX2 hH3
    refine WL_v rfl (ov_assign rfl) ?_
    refine WL_nil ?_
    exact WT_ret1 Tryz.func92 Tryz.results92 rfl ⟨X2, by rw [stepL, if_pos h0]; rw [List.nil_append] at hX2; exact hX2, hH3.del 1 rfl⟩
  first | with_reducible replace h0 := of_decide_eq_false h0 | with_reducible replace h0 := bn_F h0 | with_reducible replace h0 := bb_F h0 | skip
  refine WT_skip ?_
  refine WT_seq ?_
  refine WT_region ?_
  refine WL_buildSlice (sz := 1) (parts := []) (vs := []) [] rfl hH1 rfl run_bs_sl0 rfl (by omega) ?_; rintro O0 ov0 w2 hO0 hH2
  refine WL_v rfl (ov_assign rfl) ?_
  refine WL_nil ?_
  refine WT_seq ?_
  refine WT_seq ?_
  refine WT_region ?_
  refine WL_v rfl (ov_assign rfl) ?_
  refine WL_nil ?_
  refine WT_block ?_
  refine WT_while (fun s : Nat × Value => [(1, mv), (2, ptr b), (5, s.2), (6, .int .i64 (s.1 : Int))]) (fun s w => s.1 ≤ f.length ∧ ∃ O us, Row O 25 1 s.2 s.1 us ∧ Pick h Ls us f rows s.1 ∧ H w h (O :: [(b, .cells #[.int .i64 k, fv, rv] 74 (0, 0))] :: Ls)) (fun s => f.length - s.1) (0, ov0) (by repeat (first | exact trivial | refine ⟨rfl, ?_⟩)) ⟨by simp, O0, [], hO0, ⟨fun j _ h => by simp at h⟩, hH2⟩ ?_
  clear hH hH1 hH2 hO0 O0 ov0
  rintro ⟨j, ov⟩ w3 ⟨hj, O, us, hO, hP, hH⟩ again
  simp only at hj hO hP
  refine WT_seq ?_
  refine WT_seq ?_
  refine WT_region ?_
  refine WL_v rfl (ov_move rfl) ?_
  refine WL_v rfl (ov_field rfl fo_impl_Node_1) ?_
  refine WL_v rfl (ov_load rfl one_sl_int (hH.cb 1 rfl 1)) ?_
  refine WL_v rfl (ov_len rfl hF.sl st_sl_int) ?_
  refine WL_v rfl (ov_lss rfl rfl) ?_
  refine WL_nil ?_
  refine WT_cond rfl (fun hc => ?_) (fun hc => ?_)
  · skip
    first | with_reducible replace hc := of_decide_eq_true hc | with_reducible replace hc := bn_T hc | with_reducible replace hc := bb_T hc | skip
    have hjf : j < f.length := by simp only at hc; omega
    have hfm := List.getElem_mem hjf
    have hfp := hfb _ hfm
    obtain ⟨u, hu⟩ := Int.eq_ofNat_of_zero_le hfp.1
    have hur : u < rows.length := by omega
    obtain ⟨tv, ht, hct⟩ := hM.at_ hur
    obtain ⟨A, cp, htv, _⟩ := ht.sl.form
    have hul := hO.len
    have hrun : ∀ W, (Instr.buildSlice 24 1 #[(0, tv)]).run Tryz.prog W = .ok (.slice (some ⟨W.heap.size, 0, none⟩) 1 1) (W.alloc (.cells [tv].toArray 25)) := fun W => by rw [htv]; exact run_bs_sl1 _ _ _ W
    refine WT_skip ?_
    refine WT_seq ?_
    refine WT_block ?_
    refine WT_region ?_
    refine WL_v rfl (ov_move rfl) ?_
    refine WL_v rfl (ov_move rfl) ?_
    refine WL_v rfl (ov_field rfl fo_impl_Node_1) ?_
    refine WL_v rfl (ov_load rfl one_sl_int (hH.cb 1 rfl 1)) ?_
    refine WL_v rfl (ov_move rfl) ?_
    refine WL_v rfl (ov_index rfl rfl st_sl_int hF.sl hjf) ?_
    refine WL_v rfl (ov_load rfl one_int (hF.cell hH.drop.drop hjf)) ?_; rw [hu]
    refine WL_v rfl (ov_index rfl rfl st_sl_sl_int hM.sl hur) ?_
    refine WL_v rfl (ov_load rfl one_sl_int (hct hH.drop.drop)) ?_
    refine WL_buildSlice (sz := 1) [tv] rfl hH rfl hrun rfl (by omega) ?_; rintro Y yv w7 hY hH7
    refine WL_append1 (i := 1) (j := 0) (n := j) (m := 1) rfl hH7 rfl rfl st_sl_sl_int (by omega) rfl hO rfl hY (ones_cons ht.sl.one ones_nil) (by omega) (by omega) ?_; rintro O2 ov2 w8 hO2 hH8
    refine WL_v rfl (ov_assign rfl) ?_
    refine WL_nil ?_
    refine WT_inBlock ?_
    refine WT_region ?_
    refine WL_v rfl (ov_move rfl) ?_
    refine WL_v rfl (ov_add rfl rfl (by omega)) ?_
    refine WL_v rfl (ov_assign rfl) ?_
    refine WL_nil ?_
    refine again (j + 1, ov2) _ _ (by simp only; omega) (by repeat (first | exact trivial | refine ⟨rfl, ?_⟩)) ⟨by simp only; omega, O2, us ++ [tv], hO2, ⟨fun i hi hij => ?_⟩, hH8.drop⟩
    simp only at hij
    rcases Nat.lt_or_ge i j with h1 | h1
    · obtain ⟨u', g1, g2⟩ := hP.at_ i hi h1
      exact ⟨u', by rw [List.getElem?_append_left (List.getElem?_eq_some_iff.1 g1).1]; exact g1, g2⟩
    · obtain rfl : i = j := by omega
      refine ⟨tv, by rw [List.getElem?_append_right (by omega)]; simp [hul], ?_⟩
      rw [hu, Int.toNat_natCast, getLD hur]
      exact ht
  first | with_reducible replace hc := of_decide_eq_false hc | with_reducible replace hc := bn_F hc | with_reducible replace hc := bb_F hc | skip
  obtain rfl : j = f.length := by simp only at hc; omega
  have hP2 : Pick h (O :: [(b, .cells #[.int .i64 k, fv, rv] 74 (0, 0))] :: Ls) us f rows f.length := ⟨fun j hj hjn => by
    obtain ⟨u, g1, g2⟩ := hP.at_ j hj hjn
    exact ⟨u, g1, g2.up.up⟩⟩
  refine WT_exit rfl ?_
  refine WT_seq ?_
  refine WT_region ?_
  refine WL_v rfl (ov_field rfl fo_impl_Node_0) ?_
  refine WL_v rfl (ov_load rfl one_int (hH.cb 1 rfl 0)) ?_
  refine WL_v rfl (ov_move rfl) ?_
  refine WL_call rfl rfl cf_spec_KindRun (sKindRun_ok hH hk h0 (hP2.rdll (i := 0) rfl hO)) ?_; rintro _ w4 ⟨xv, ok, X, rfl, hX, hH4⟩
  refine WL_v rfl (ov_move rfl) ?_
  refine WL_v rfl (ov_extract rfl rfl) ?_
  refine WL_v rfl (ov_extract rfl rfl) ?_
  refine WL_v rfl (ov_assign rfl) ?_
  refine WL_v rfl (ov_assign rfl) ?_
  refine WL_nil ?_
  refine WT_seq ?_
  refine WT_region ?_
  refine WL_v rfl (ov_move rfl) ?_
  refine WL_v rfl (ov_assign rfl) ?_
  refine WL_nil ?_
  exact WT_ret1 Tryz.func92 Tryz.results92 rfl ⟨X, by rw [stepL, if_neg h0]; exact hX, (hH4.del 2 rfl).del 1 rfl⟩

theorem H.snocT {T O : Heaplet} {Is Ms : List Heaplet} (hH : H w h (T :: O :: (Is ++ Ms))) : H w h (O :: ((Is ++ [T]) ++ Ms)) := by
  refine hH.swap.perm (.cons _ ?_)
  have : (T :: (Is ++ Ms)).Perm (Is ++ T :: Ms) := List.perm_middle.symm
  simpa using this

theorem l4Values_ok (hH : H w h Ls) {pv : Value} {p : List Nd} (hP : Plan h pv p) (hv : planOk p = true) : Rets Tryz.prog 67 #[pv] w fun v w' => ∃ O Is, OLists O Is v (valsL p) ∧ H w' h (O :: (Is ++ Ls)) := by
  have hlen := PlanOk.len hv
  refine rets_enter Tryz.func67 rfl Tryz.ntmps67 (by simp) ?_
  refine WT_seq ?_
  refine WT_region ?_
  refine WL_v rfl (ov_assign rfl) ?_
  refine WL_nil ?_
  refine WT_seq ?_
  refine WT_region ?_
  refine WL_buildSlice (sz := 1) (parts := []) (vs := []) [] rfl hH rfl run_bs_sl0 rfl (by omega) ?_; rintro O0 ov0 w1 hO0 hH1
  refine WL_v rfl (ov_assign rfl) ?_
  refine WL_nil ?_
  refine WT_seq ?_
  refine WT_seq ?_
  refine WT_region ?_
  refine WL_v rfl (ov_assign rfl) ?_
  refine WL_nil ?_
  refine WT_block ?_
  refine WT_while (fun s : Nat × Value => [(0, pv), (3, s.2), (4, .int .i64 (s.1 : Int))]) (fun s w => s.1 ≤ p.length ∧ ∃ O Is, OLists O Is s.2 (valsTo p s.1) ∧ H w h (O :: (Is ++ Ls))) (fun s => p.length - s.1) (0, ov0) (by repeat (first | exact trivial | refine ⟨rfl, ?_⟩)) ⟨by simp, O0, [], OLists.nil _ _ hO0, hH1⟩ ?_
  clear hH hH1 hO0 O0 ov0
  rintro ⟨k, ov⟩ w2 ⟨hk, O, Is, hO, hH⟩ again
  simp only at hk hO
  refine WT_seq ?_
  refine WT_seq ?_
  refine WT_region ?_
  refine WL_v rfl (ov_move rfl) ?_
  refine WL_v rfl (ov_move rfl) ?_
  refine WL_v rfl (ov_len rfl hP.sl st_sl_impl_Node) ?_
  refine WL_v rfl (ov_lss rfl rfl) ?_
  refine WL_nil ?_
  refine WT_cond rfl (fun hc => ?_) (fun hc => ?_)
  · skip
    first | with_reducible replace hc := of_decide_eq_true hc | with_reducible replace hc := bn_T hc | with_reducible replace hc := bb_T hc | skip
    have hkp : k < p.length := by simp only at hc; omega
    obtain ⟨fv, rv, hf, hrr, hcell⟩ := hP.node hkp
    have hN := PlanOk.node hv hkp
    have hf2 := NodeOk.len2 hN
    have hr6 := ((rowOk_iff _).1 hN.row).2
    have hvl := valsTo_len p k
    have hst : valsTo p (k + 1) = valsTo p k ++ [stepL ⟨p[k].kind, p[k].frm, p[k].row⟩ (valsTo p k)] := by rw [valsTo, getD_of hkp]
    refine WT_skip ?_
    refine WT_seq ?_
    refine WT_block ?_
    refine WT_region ?_
    refine WL_v rfl (ov_move rfl) ?_
    refine WL_v rfl (ov_move rfl) ?_
    refine WL_v rfl (ov_move rfl) ?_
    refine WL_v rfl (ov_index rfl rfl st_sl_impl_Node hP.sl hkp) ?_
    refine WL_v rfl (ov_loadN [.int .i64 p[k].kind, fv, rv] rfl agg_impl_Node rfl ((hcell _ _ hH))) ?_
    refine WL_v rfl (ov_move rfl) ?_
    refine WL_call rfl rfl cf_spec_l4Step (l4Step_ok hH (hf.rdl _) (hrr.rdl _) (hO.rdll LAt.cons) hN.kind hf2 hr6 (fun x hx => by have := hN.frm x hx; rw [hvl]; exact this)) ?_; rintro tv w3 ⟨T, hT, hH3⟩
    obtain ⟨A, cp, htv, _⟩ := hT.sl.form
    have hrun : ∀ W, (Instr.buildSlice 24 1 #[(0, tv)]).run Tryz.prog W = .ok (.slice (some ⟨W.heap.size, 0, none⟩) 1 1) (W.alloc (.cells [tv].toArray 25)) := fun W => by rw [htv]; exact run_bs_sl1 _ _ _ W
    obtain ⟨hil, xs, hR, hat⟩ := hO
    refine WL_buildSlice (sz := 1) [tv] rfl hH3 rfl hrun rfl (by omega) ?_; rintro Y yv w7 hY hH7
    refine WL_append1 (i := 2) (j := 0) (n := (valsTo p k).length) (m := 1) rfl hH7 rfl rfl st_sl_sl_int (by omega) rfl hR rfl hY (ones_cons hT.sl.one ones_nil) (by omega) (by omega) ?_; rintro O2 ov2 w8 hO2 hH8
    refine WL_v rfl (ov_assign rfl) ?_
    refine WL_nil ?_
    refine WT_inBlock ?_
    refine WT_region ?_
    refine WL_v rfl (ov_move rfl) ?_
    refine WL_v rfl (ov_add rfl rfl (by omega)) ?_
    refine WL_v rfl (ov_assign rfl) ?_
    refine WL_nil ?_
    refine again (k + 1, ov2) _ _ (by simp only; omega) (by repeat (first | exact trivial | refine ⟨rfl, ?_⟩)) ⟨by simp only; omega, O2, Is ++ [T], ?_, H.snocT hH8.drop⟩
    simp only
    rw [hst]
    exact OLists.snoc hil hR hat hO2 hT
  first | with_reducible replace hc := of_decide_eq_false hc | with_reducible replace hc := bn_F hc | with_reducible replace hc := bb_F hc | skip
  obtain rfl : k = p.length := by simp only at hc; omega
  refine WT_exit rfl ?_
  refine WT_seq ?_
  refine WT_region ?_
  refine WL_v rfl (ov_move rfl) ?_
  refine WL_v rfl (ov_assign rfl) ?_
  refine WL_nil ?_
  exact WT_ret1 Tryz.func67 Tryz.results67 rfl ⟨O, Is, hO, hH⟩
end
end Go.Proofs.YteagnhdhafiofaaGreat

/- Plain laws: the nodes of each level. -/
namespace Go.Proofs.YteagnhdhafiofaaGreat

/-- The level of a node of a valid plan. -/
def lev (p : List Nd) (i : Nat) : Int := (levelsTo p p.length).getD i 0
theorem lev_nonneg (p : List Nd) (i : Nat) : 0 ≤ lev p i := by
  unfold lev
  rcases getD_mem_or (levelsTo p p.length) i with h | h
  · omega
  · exact (levelsTo_rg p _ _ h).1
theorem lev_le {p : List Nd} (hv : planOk p = true) : ∀ i, i < p.length → lev p i ≤ i := by
  intro i
  induction i using Nat.strongRecOn with
  | _ i ih =>
    intro hi
    unfold lev
    rw [levelsTo_getD hi]
    refine upOf_le (by omega) fun f hf => ?_
    have h1 := frm_pos hv hi f hf
    have h2 := ih f.toNat (by omega) (by omega)
    have h3 : (levelsTo p i).getD f.toNat 0 = lev p f.toNat := progTo_same (by omega) (by omega)
    omega
theorem lev_lt_count {p : List Nd} {i : Nat} (hi : i < p.length) : lev p i < levCount p := by
  have := le_mostOf (l := (levelsTo p p.length).map (· + 1)) (a := lev p i + 1) (List.mem_map.2 ⟨_, getD_mem (by rw [levelsTo_len]; exact hi), rfl⟩)
  unfold levCount
  omega
theorem levCount_rg {p : List Nd} (hv : planOk p = true) : 0 ≤ levCount p ∧ levCount p ≤ p.length := by
  refine ⟨mostOf_nonneg _, mostOf_le (by omega) fun a ha => ?_⟩
  obtain ⟨b, hb, rfl⟩ := List.mem_map.1 ha
  obtain ⟨i, hi, rfl⟩ := List.mem_iff_getElem.1 hb
  rw [levelsTo_len] at hi
  have := lev_le hv i hi
  unfold lev at this
  rw [getD_elem (by rw [levelsTo_len]; exact hi)] at this
  omega
/-- Who is not at the bottom needs one just below. -/
theorem lev_down {p : List Nd} (hv : planOk p = true) {i : Nat} (hi : i < p.length) (h0 : 0 < lev p i) : ∃ f, f < i ∧ (f : Int) ∈ (p.getD i default).frm ∧ lev p f + 1 = lev p i := by
  have h1 : lev p i = upOf 1 (levelsTo p i) (p.getD i default).frm := levelsTo_getD hi
  unfold upOf at h1
  rcases foldl_max_eq (fun f : Int => (levelsTo p i).getD f.toNat 0 + 1) (p.getD i default).frm 0 with h | ⟨f, hf, h⟩
  · rw [h] at h1; omega
  · have h2 := frm_pos hv hi f hf
    have h3 : (levelsTo p i).getD f.toNat 0 = lev p f.toNat := progTo_same (by omega) (by omega)
    refine ⟨f.toNat, by omega, by rw [show (f.toNat : Int) = f by omega]; exact hf, ?_⟩
    rw [h] at h1
    omega
theorem lev_some {p : List Nd} (hv : planOk p = true) : ∀ (d : Nat) (m : Int), 0 ≤ m → m + 1 + d = levCount p → ∃ i, i < p.length ∧ lev p i = m
  | 0, m, hm, h => by
    rcases mostOf_eq ((levelsTo p p.length).map (· + 1)) with h1 | h1
    · unfold levCount at h; omega
    · obtain ⟨b, hb, h2⟩ := List.mem_map.1 h1
      obtain ⟨i, hi, rfl⟩ := List.mem_iff_getElem.1 hb
      have hi' : i < p.length := by rw [levelsTo_len] at hi; exact hi
      refine ⟨i, hi', ?_⟩
      unfold lev
      rw [getD_elem hi]
      unfold levCount at h
      omega
  | d + 1, m, hm, h => by
    obtain ⟨i, hi, h1⟩ := lev_some hv d (m + 1) (by omega) (by omega)
    obtain ⟨f, hf, _, h2⟩ := lev_down hv hi (by omega)
    exact ⟨f, by omega, by omega⟩

/-- The nodes of a level. -/
def levRow (p : List Nd) (n : Nat) : List Nat := (List.range p.length).filter fun i => decide (lev p i = (n : Int))
theorem mem_levRow {p : List Nd} {n i : Nat} : i ∈ levRow p n ↔ i < p.length ∧ lev p i = (n : Int) := by simp [levRow]
theorem levRow_ne {p : List Nd} (hv : planOk p = true) {n : Nat} (h : (n : Int) < levCount p) : levRow p n ≠ [] := by
  obtain ⟨i, hi, h1⟩ := lev_some hv (levCount p - 1 - n).toNat n (by omega) (by omega)
  exact List.ne_nil_of_mem (mem_levRow.2 ⟨hi, h1⟩)
theorem levRow_nil {p : List Nd} {n : Nat} (h : levCount p ≤ (n : Int)) : levRow p n = [] := by
  apply List.eq_nil_iff_forall_not_mem.2
  intro i hi
  have := mem_levRow.1 hi
  have := lev_lt_count this.1
  omega
theorem levRow_asc (p : List Nd) (n : Nat) : (levRow p n).Pairwise (· < ·) := List.pairwise_lt_range.filter _
/-- All levels together have all nodes. -/
def rowsLen (p : List Nd) : Nat → Nat
  | 0 => 0
  | n + 1 => rowsLen p n + (levRow p n).length
theorem rowsLen_eq (p : List Nd) : ∀ n : Nat, rowsLen p n = ((List.range p.length).filter fun i => decide (lev p i < (n : Int))).length
  | 0 => by
    have : ((List.range p.length).filter fun i => decide (lev p i < ((0 : Nat) : Int))) = [] := List.filter_eq_nil_iff.2 fun i _ => by have := lev_nonneg p i; simp; omega
    rw [this]; rfl
  | n + 1 => by
    rw [rowsLen, rowsLen_eq p n, levRow]
    generalize List.range p.length = l
    induction l with
    | nil => rfl
    | cons a l ih =>
      simp only [List.filter_cons]
      by_cases h1 : lev p a < (n : Int)
      · rw [if_pos (by simpa using h1), if_neg (by simp; omega), if_pos (by simp; omega)]
        simp only [List.length_cons]; omega
      · by_cases h2 : lev p a = (n : Int)
        · rw [if_neg (by simpa using h1), if_pos (by simpa using h2), if_pos (by simp; omega)]
          simp only [List.length_cons]; omega
        · rw [if_neg (by simpa using h1), if_neg (by simpa using h2), if_neg (by simp; omega)]
          exact ih
theorem rowsLen_all {p : List Nd} (hv : planOk p = true) : rowsLen p (levCount p).toNat = p.length := by
  have hr := levCount_rg hv
  rw [rowsLen_eq, List.filter_eq_self.2 fun i hi => by have := lev_lt_count (List.mem_range.1 hi); simp; omega, List.length_range]
end Go.Proofs.YteagnhdhafiofaaGreat

/- Plain laws: what a node needs, directly or not. -/
namespace Go.Proofs.YteagnhdhafiofaaGreat

/-- A node needs another one, directly or not. -/
inductive Rch (p : List Nd) : Nat → Nat → Prop
  | one {i f : Nat} : f ∈ needTo (p.getD i default).frm → Rch p i f
  | step {i f g : Nat} : f ∈ needTo (p.getD i default).frm → Rch p f g → Rch p i g
theorem need_lt {p : List Nd} (hv : planOk p = true) {i f : Nat} (h : f ∈ needTo (p.getD i default).frm) : f < i ∧ i < p.length := by
  rcases Nat.lt_or_ge i p.length with hi | hi
  · have := (mem_users_needs hv hi).2 h
    exact ⟨usersTo_gt hv (Nat.le_refl _) this, hi⟩
  · rw [getD_default_of hi] at h
    simp [needTo, default] at h
theorem Rch.lt {p : List Nd} (hv : planOk p = true) {i g : Nat} (h : Rch p i g) : g < i ∧ i < p.length := by
  induction h with
  | one h => exact need_lt hv h
  | step h _ ih => have := need_lt hv h; omega
theorem Rch.trans {p : List Nd} {i f g : Nat} (h : Rch p i f) (h2 : Rch p f g) : Rch p i g := by
  induction h with
  | one h => exact .step h h2
  | step h _ ih => exact .step h (ih h2)
theorem need_lev {p : List Nd} (hv : planOk p = true) {i f : Nat} (h : f ∈ needTo (p.getD i default).frm) : lev p f < lev p i := by
  have h1 := need_lt hv h
  have hf := frm_pos hv h1.2
  have hm := (mem_needTo' fun f h => (hf f h).1).1 h
  have h2 := le_upOf (c := 1) (ps := levelsTo p i) hm
  have h3 : lev p i = upOf 1 (levelsTo p i) (p.getD i default).frm := levelsTo_getD h1.2
  have h4 : (levelsTo p i).getD f 0 = lev p f := progTo_same h1.1 (by omega)
  rw [Int.toNat_natCast, h4] at h2
  omega
theorem Rch.lev {p : List Nd} (hv : planOk p = true) {i g : Nat} (h : Rch p i g) : lev p g < lev p i := by
  induction h with
  | one h => exact need_lev hv h
  | step h _ ih => have := need_lev hv h; omega
/-- At least as many are needed as the level says. -/
theorem rch_many {p : List Nd} (hv : planOk p = true) : ∀ i, i < p.length → ∃ L : List Nat, L.Nodup ∧ (∀ a ∈ L, Rch p i a) ∧ (L.length : Int) = Go.Proofs.YteagnhdhafiofaaGreat.lev p i := by
  intro i
  induction i using Nat.strongRecOn with
  | _ i ih =>
    intro hi
    rcases Int.lt_or_le 0 (Go.Proofs.YteagnhdhafiofaaGreat.lev p i) with h0 | h0
    · obtain ⟨f, hf, hm, hl⟩ := lev_down hv hi h0
      obtain ⟨L, h1, h2, h3⟩ := ih f hf (by omega)
      have hfm : f ∈ needTo (p.getD i default).frm := (mem_needTo' fun f h => (frm_pos hv hi f h).1).2 hm
      refine ⟨f :: L, List.nodup_cons.2 ⟨fun h => ?_, h1⟩, fun a ha => ?_, by simp only [List.length_cons]; omega⟩
      · have := (h2 f h).lt hv; omega
      · rcases List.mem_cons.1 ha with rfl | ha
        · exact .one hfm
        · exact .step hfm (h2 a ha)
    · exact ⟨[], by simp, by simp, by have := lev_nonneg p i; simp; omega⟩

open Classical in
/-- All that a node needs, in order. -/
noncomputable def needsL (p : List Nd) (i : Nat) : List Nat := (List.range p.length).filter fun a => decide (Rch p i a)
open Classical in
noncomputable def rchB (p : List Nd) (i a : Nat) : Bool := decide (Rch p i a)
theorem rchB_iff {p : List Nd} {i a : Nat} : rchB p i a = true ↔ Rch p i a := by simp [rchB]
theorem mem_needsL {p : List Nd} (hv : planOk p = true) {i a : Nat} : a ∈ needsL p i ↔ Rch p i a := by
  simp only [needsL, List.mem_filter, List.mem_range, decide_eq_true_eq]
  exact ⟨fun h => h.2, fun h => ⟨by have := h.lt hv; omega, h⟩⟩
theorem needsL_len (p : List Nd) (i : Nat) : (needsL p i).length ≤ p.length := by
  have := List.length_filter_le (fun a => @decide (Rch p i a) (Classical.propDecidable _)) (List.range p.length)
  simpa [needsL] using this
theorem needsL_many {p : List Nd} (hv : planOk p = true) {i : Nat} (hi : i < p.length) : lev p i ≤ (needsL p i).length := by
  obtain ⟨L, h1, h2, h3⟩ := rch_many hv i hi
  have := h1.length_le_of_subset (l₂ := needsL p i) fun a ha => (mem_needsL hv).2 (h2 a ha)
  omega
/-- The same among ten places. -/
theorem needsL_ten {p : List Nd} (hv : planOk p = true) (i : Nat) {S : Nat → Bool} (hS : ∀ a, S a = true ↔ Rch p i a) : (List.range 10).filter S = needsL p i := by
  have hlen := PlanOk.len hv
  have he : (fun a => @decide (Rch p i a) (Classical.propDecidable _)) = S := by
    funext a
    cases h : S a with
    | true => exact @decide_eq_true _ (Classical.propDecidable _) ((hS a).1 h)
    | false => exact @decide_eq_false _ (Classical.propDecidable _) fun hr => by rw [(hS a).2 hr] at h; cases h
  unfold needsL
  rw [he]
  have key : ∀ m, p.length ≤ m → (List.range m).filter S = (List.range p.length).filter S := by
    intro m
    induction m with
    | zero => intro h; rw [show p.length = 0 by omega]
    | succ m ih =>
      intro h
      rcases Nat.lt_or_ge m p.length with h1 | h1
      · rw [show p.length = m + 1 by omega]
      · rw [List.range_succ, List.filter_append, ih h1, List.filter_cons, if_neg (fun hh => by have := ((hS m).1 hh).lt hv; omega), List.filter_nil, List.append_nil]
  exact key 10 hlen

/-- What a search marks: closed below the node that is searched. -/
structure Marked (p : List Nd) (i : Nat) (S S' : Nat → Bool) : Prop where
  mono : ∀ a, S a = true → S' a = true
  new : ∀ a, S' a = true → S a = true ∨ Rch p i a
  shut : ∀ a, S' a = true → a < i → ∀ f ∈ needTo (p.getD a default).frm, S' f = true
theorem Marked.one {p : List Nd} (hv : planOk p = true) {i : Nat} {S S' : Nat → Bool} (hM : Marked p i S S') (h0 : ∀ a, S a = false) (hn : ∀ f ∈ needTo (p.getD i default).frm, S' f = true) : ∀ a, S' a = true ↔ Rch p i a := fun a => by
  constructor
  · intro h
    rcases hM.new a h with h1 | h1
    · rw [h0] at h1; cases h1
    · exact h1
  · intro h
    have key : ∀ {b a : Nat}, Rch p b a → (b = i ∨ (S' b = true ∧ b < i)) → S' a = true := by
      intro b a h
      induction h with
      | one hm =>
        rintro (he | ⟨h1, h2⟩)
        · rw [he] at hm; exact hn _ hm
        · exact hM.shut _ h1 h2 _ hm
      | step hm _ ih =>
        have hlt := need_lt hv hm
        rintro (he | ⟨h1, h2⟩)
        · rw [he] at hm hlt; exact ih (.inr ⟨hn _ hm, hlt.1⟩)
        · exact ih (.inr ⟨hM.shut _ h1 h2 _ hm, by omega⟩)
    exact key h (.inl rfl)
end Go.Proofs.YteagnhdhafiofaaGreat

/- Walks: all that a node needs. -/
namespace Go.Proofs.YteagnhdhafiofaaGreat
open Go.RowKit

/-- The variable of ten truths. -/
def sbox (g : Nat) (S : Nat → Bool) : Heaplet := [(g, .cells ((List.range 10).map fun u => Value.bool (S u)).toArray 88 (0, 0))]
theorem sbox_get {S : Nat → Bool} {u : Nat} (hu : u < 10) : (((List.range 10).map fun u => Value.bool (S u)).toArray)[0 + u]? = some (.bool (S u)) := by
  rw [Nat.zero_add, List.getElem?_toArray, List.getElem?_map, List.getElem?_range hu]; rfl
theorem sbox_set {S : Nat → Bool} {u : Nat} (b : Bool) : ((List.range 10).map fun u => Value.bool (S u)).toArray.setIfInBounds (0 + u) (.bool b) = ((List.range 10).map fun a => Value.bool (if a = u then b else S a)).toArray := by
  rw [Nat.zero_add, List.setIfInBounds_toArray]
  congr 1
  refine List.ext_getElem (by simp) fun i h1 h2 => ?_
  rw [List.getElem_set, List.getElem_map, List.getElem_map, List.getElem_range]
  by_cases h : u = i
  · rw [if_pos h, if_pos h.symm]
  · rw [if_neg h, if_neg (fun e => h e.symm)]

section
variable {h : GH} {Ls : List Heaplet}

/-- All that a node needs. -/
noncomputable def needsOf (p : List Nd) (a : Int) : List Int := if planOk p = true ∧ 0 ≤ a ∧ a < (p.length : Int) then toI (needsL p a.toNat) else []

end
end Go.Proofs.YteagnhdhafiofaaGreat

/- Plain laws: what is ready; counts behind a node. -/
namespace Go.Proofs.YteagnhdhafiofaaGreat

/-- Who is ready behind some. -/
def readyB (p : List Nd) (D : List Int) (i : Nat) : Bool := decide ((i : Int) ∉ D) && (p.getD i default).frm.all fun f => decide (f ∈ D)
def readyL (p : List Nd) (D : List Int) : List Nat := (List.range p.length).filter (readyB p D)
theorem mem_readyL {p : List Nd} {D : List Int} {i : Nat} : i ∈ readyL p D ↔ i < p.length ∧ (i : Int) ∉ D ∧ ∀ f ∈ (p.getD i default).frm, f ∈ D := by
  simp [readyL, readyB]
theorem readyL_len (p : List Nd) (D : List Int) : (readyL p D).length ≤ p.length := by
  have := List.length_filter_le (readyB p D) (List.range p.length)
  simpa [readyL] using this
theorem readyL_nodup (p : List Nd) (D : List Int) : (readyL p D).Nodup := List.nodup_range.filter _
theorem readyL_congr {p : List Nd} {D E : List Int} (hv : planOk p = true) (h : ∀ i : Nat, i < p.length → ((i : Int) ∈ D ↔ (i : Int) ∈ E)) : readyL p D = readyL p E := by
  refine List.filter_congr fun i hi => ?_
  have hip := List.mem_range.1 hi
  unfold readyB
  have h1 : decide ((i : Int) ∉ D) = decide ((i : Int) ∉ E) := decide_eq_decide.2 (not_congr (h i hip))
  rw [h1]
  congr 1
  rw [Bool.eq_iff_iff, List.all_eq_true, List.all_eq_true]
  refine forall_congr' fun f => forall_congr' fun hf => ?_
  have := frm_pos hv hip f hf
  have h2 := h f.toNat (by omega)
  rw [show (f.toNat : Int) = f by omega] at h2
  simp only [decide_eq_true_eq, h2]

theorem toI_inj {a b : List Nat} (h : (a.map fun (j : Nat) => (j : Int)) = b.map fun (j : Nat) => (j : Int)) : a = b := by
  have := congrArg (List.map Int.toNat) h
  simpa [List.map_map, Function.comp_def] using this
/-- The first level is what is ready at first. -/
theorem ready_first {p : List Nd} (_hv : planOk p = true) : readyL p [] = levRow p 0 := by
  refine List.filter_congr fun i hi => ?_
  have hip := List.mem_range.1 hi
  have h1 : lev p i = upOf 1 (levelsTo p i) (p.getD i default).frm := levelsTo_getD hip
  unfold readyB
  rw [Bool.eq_iff_iff]
  simp only [List.not_mem_nil, not_false_eq_true, decide_true, Bool.true_and, List.all_eq_true, decide_eq_true_eq, decide_false, Bool.false_eq_true]
  constructor
  · intro h
    have : (p.getD i default).frm = [] := List.eq_nil_iff_forall_not_mem.2 fun f hf => h f hf
    rw [h1, this]; rfl
  · intro h f hf
    have h2 := le_upOf (c := 1) (ps := levelsTo p i) hf
    have h3 : 0 ≤ (levelsTo p i).getD f.toNat 0 := levelsTo_getD_nonneg p i f.toNat
    rw [h1] at h
    have : upOf 1 (levelsTo p i) (p.getD i default).frm = 0 := h
    omega
/-- Behind it the second one is ready. -/
theorem ready_second {p : List Nd} (hv : planOk p = true) : readyL p ((levRow p 0).map fun (j : Nat) => (j : Int)) = levRow p 1 := by
  refine List.filter_congr fun i hi => ?_
  have hip := List.mem_range.1 hi
  have h1 : lev p i = upOf 1 (levelsTo p i) (p.getD i default).frm := levelsTo_getD hip
  have hmem : ∀ f : Int, f ∈ ((levRow p 0).map fun (j : Nat) => (j : Int)) ↔ 0 ≤ f ∧ f.toNat < p.length ∧ lev p f.toNat = 0 := fun f => by
    simp only [List.mem_map]
    constructor
    · rintro ⟨j, hj, rfl⟩
      have := mem_levRow.1 hj
      refine ⟨by omega, by simpa using this.1, by simpa using this.2⟩
    · rintro ⟨h2, h3, h4⟩
      exact ⟨f.toNat, mem_levRow.2 ⟨h3, by simpa using h4⟩, by omega⟩
  unfold readyB
  rw [Bool.eq_iff_iff]
  simp only [Bool.and_eq_true, List.all_eq_true, decide_eq_true_eq, hmem]
  have hup : ∀ f ∈ (p.getD i default).frm, lev p f.toNat + 1 ≤ lev p i := fun f hf => by
    have h2 := le_upOf (c := 1) (ps := levelsTo p i) hf
    have h3 := frm_pos hv hip f hf
    have h4 : (levelsTo p i).getD f.toNat 0 = lev p f.toNat := progTo_same (by omega) (by omega)
    omega
  constructor
  · rintro ⟨h2, h3⟩
    have hne : lev p i ≠ 0 := fun h0 => h2 ⟨by omega, by simpa using hip, by simpa using h0⟩
    have := lev_nonneg p i
    obtain ⟨f, hf1, hf2, hf3⟩ := lev_down hv hip (by omega)
    have := (h3 _ hf2).2.2
    simp only [Int.toNat_natCast] at this
    show lev p i = 1
    omega
  · intro h2
    have h2' : lev p i = 1 := h2
    refine ⟨fun h3 => by have := h3.2.2; simp only [Int.toNat_natCast] at this; omega, fun f hf => ?_⟩
    have h3 := frm_pos hv hip f hf
    have h4 := hup f hf
    have h5 := lev_nonneg p f.toNat
    exact ⟨h3.1, by omega, by omega⟩

/-! counts -/
/-- A node may be taken out of counts. -/
def doneOk (p : List Nd) (c : List Int) (a : Int) : Bool :=
  planOk p && decide (0 ≤ a ∧ a < (p.length : Int)) && decide (c.length = p.length) && (List.range p.length).all fun i => decide (0 ≤ c.getD i 0 ∧ c.getD i 0 ≤ ((needTo (p.getD i default).frm).length : Int)) && !(decide (a ∈ (p.getD i default).frm) && decide (c.getD i 0 = 0))
/-- The counts behind a node. -/
def doneC (p : List Nd) (c : List Int) (a : Int) : List Int := (List.range p.length).map fun i => c.getD i 0 - (if a ∈ (p.getD i default).frm then 1 else 0)
/-- Who is told. -/
def doneR (p : List Nd) (c : List Int) (a : Int) : List Nat := (List.range p.length).filter fun i => decide (a ∈ (p.getD i default).frm) && decide (c.getD i 0 = 1)
theorem doneC_len (p : List Nd) (c : List Int) (a : Int) : (doneC p c a).length = p.length := by simp [doneC]
theorem doneC_get {p : List Nd} {c : List Int} {a : Int} {i : Nat} (h : i < (doneC p c a).length) : (doneC p c a)[i] = c.getD i 0 - (if a ∈ (p.getD i default).frm then 1 else 0) := by simp [doneC]
theorem doneOk_spec {p : List Nd} {c : List Int} {a : Int} (h : doneOk p c a = true) : planOk p = true ∧ (0 ≤ a ∧ a < (p.length : Int)) ∧ c.length = p.length ∧ ∀ i, i < p.length → (0 ≤ c.getD i 0 ∧ c.getD i 0 ≤ ((needTo (p.getD i default).frm).length : Int)) ∧ (a ∈ (p.getD i default).frm → c.getD i 0 ≠ 0) := by
  simp only [doneOk, Bool.and_eq_true, decide_eq_true_eq, List.all_eq_true, List.mem_range, Bool.not_eq_true', Bool.and_eq_false_iff, decide_eq_false_iff_not] at h
  obtain ⟨⟨⟨h1, h2⟩, h3⟩, h4⟩ := h
  refine ⟨h1, h2, h3, fun i hi => ⟨(h4 i hi).1, fun hm h0 => ?_⟩⟩
  rcases (h4 i hi).2 with h5 | h5
  · exact h5 hm
  · exact h5 h0
theorem doneOk_of {p : List Nd} {c : List Int} {a : Int} (h1 : planOk p = true) (h2 : 0 ≤ a ∧ a < (p.length : Int)) (h3 : c.length = p.length) (h4 : ∀ i, i < p.length → (0 ≤ c.getD i 0 ∧ c.getD i 0 ≤ ((needTo (p.getD i default).frm).length : Int)) ∧ (a ∈ (p.getD i default).frm → c.getD i 0 ≠ 0)) : doneOk p c a = true := by
  simp only [doneOk, Bool.and_eq_true, decide_eq_true_eq, List.all_eq_true, List.mem_range, Bool.not_eq_true', Bool.and_eq_false_iff, decide_eq_false_iff_not]
  refine ⟨⟨⟨h1, h2⟩, h3⟩, fun i hi => ⟨(h4 i hi).1, ?_⟩⟩
  by_cases hm : a ∈ (p.getD i default).frm
  · exact .inr ((h4 i hi).2 hm)
  · exact .inl hm
theorem doneOk_bad {p : List Nd} {c : List Int} {a : Int} (h : ¬ (planOk p = true ∧ (0 ≤ a ∧ a < (p.length : Int)) ∧ c.length = p.length ∧ ∀ i, i < p.length → (0 ≤ c.getD i 0 ∧ c.getD i 0 ≤ ((needTo (p.getD i default).frm).length : Int)) ∧ (a ∈ (p.getD i default).frm → c.getD i 0 ≠ 0))) : doneOk p c a = false := by
  cases hd : doneOk p c a with
  | false => rfl
  | true => exact absurd (doneOk_spec hd) h
/-- Counts when the first nodes are done. -/
def leftK (p : List Nd) (k : Nat) : List Int := (List.range p.length).map fun (u : Nat) => ((needTo (p.getD u default).frm).length : Int) - (cntK p k u : Int)
theorem leftK_len (p : List Nd) (k : Nat) : (leftK p k).length = p.length := by simp [leftK]
theorem leftK_getD {p : List Nd} {k u : Nat} (h : u < p.length) : (leftK p k).getD u 0 = ((needTo (p.getD u default).frm).length : Int) - (cntK p k u : Int) := by
  rw [leftK, List.getD_eq_getElem?_getD, List.getElem?_map, List.getElem?_range h]; rfl
theorem leftK_zero (p : List Nd) : leftK p 0 = (List.range p.length).map fun (u : Nat) => ((needTo (p.getD u default).frm).length : Int) := by
  refine List.map_congr_left fun u _ => ?_
  rw [cntK_zero]; simp
theorem leftK_ok {p : List Nd} (hv : planOk p = true) {k : Nat} (hk : k < p.length) : doneOk p (leftK p k) (k : Int) = true ∧ doneC p (leftK p k) (k : Int) = leftK p (k + 1) ∧ (leftK p k).getD k 0 = 0 := by
  refine ⟨doneOk_of hv ⟨by omega, by omega⟩ (leftK_len _ _) fun i hi => ?_, ?_, ?_⟩
  · rw [leftK_getD hi]
    have h1 := cntK_le p k i
    refine ⟨by omega, fun hm => ?_⟩
    have h2 := (mem_needTo' fun f h => (frm_pos hv hi f h).1).2 hm
    have h3 := cntK_succ (p := p) k i
    rw [if_pos h2] at h3
    have h4 := cntK_le p (k + 1) i
    omega
  · refine List.map_congr_left fun i hi => ?_
    have hi' := List.mem_range.1 hi
    rw [leftK_getD hi', cntK_succ]
    by_cases hm : (k : Int) ∈ (p.getD i default).frm
    · have h2 := (mem_needTo' fun f h => (frm_pos hv hi' f h).1).2 hm
      rw [if_pos hm, if_pos h2]; omega
    · have h2 : k ∉ needTo (p.getD i default).frm := fun h => hm ((mem_needTo' fun f h => (frm_pos hv hi' f h).1).1 h)
      rw [if_neg hm, if_neg h2]; omega
  · rw [leftK_getD hk]
    have : cntK p k k = (needTo (p.getD k default).frm).length := by
      unfold cntK
      rw [List.filter_eq_self.2 fun f hf => ?_]
      have h1 := frm_pos hv hk
      have h2 := (h1 _ ((mem_needTo' fun f h => (h1 f h).1).1 hf)).2
      simp; omega
    omega
theorem leftK_all {p : List Nd} (hv : planOk p = true) : leftK p p.length = List.replicate p.length 0 := by
  refine List.ext_getElem (by simp [leftK]) fun i h1 h2 => ?_
  rw [List.getElem_replicate]
  have := leftK_getD (p := p) (k := p.length) (u := i) (by simpa [leftK] using h1)
  rw [getD_elem h1, cntK_all hv] at this
  omega
end Go.Proofs.YteagnhdhafiofaaGreat

/- Walks: what is ready behind some. -/
namespace Go.Proofs.YteagnhdhafiofaaGreat
open Go.RowKit

def readyOf (p : List Nd) (D : List Int) : List Int := if planOk p = true then toI (readyL p D) else []

section
variable {h : GH} {Ls : List Heaplet} {w : World}

theorem l3HasR_ok (hH : H w h Ls) {av : Value} {xs : List Int} (hA : RdL h Ls av xs) (n : Int) : Rets Tryz.prog 68 #[av, .int .i64 n] w fun v w' => v = .bool (decide (n ∈ xs)) ∧ H w' h Ls := by
  have hal := hA.sl.lim
  refine rets_enter Tryz.func68 rfl Tryz.ntmps68 (by simp) ?_
  refine WT_seq ?_
  refine WT_region ?_
  refine WL_v rfl (ov_assign rfl) ?_
  refine WL_nil ?_
  refine WT_seq ?_
  refine WT_seq ?_
  refine WT_region ?_
  refine WL_v rfl (ov_assign rfl) ?_
  refine WL_nil ?_
  refine WT_block ?_
  refine WT_while (fun s : Nat => [(0, av), (1, .int .i64 n), (5, .int .i64 (s : Int))]) (fun k w => k ≤ xs.length ∧ (∀ j (_ : j < k) (h1 : j < xs.length), xs[j] ≠ n) ∧ H w h Ls) (fun k => xs.length - k) 0 (by repeat (first | exact trivial | refine ⟨rfl, ?_⟩)) ⟨by omega, by omega, hH⟩ ?_
  clear hH
  rintro k w2 ⟨hk, hall, hH1⟩ again
  refine WT_seq ?_
  refine WT_seq ?_
  refine WT_region ?_
  refine WL_v rfl (ov_move rfl) ?_
  refine WL_v rfl (ov_move rfl) ?_
  refine WL_v rfl (ov_len rfl hA.sl st_sl_int) ?_
  refine WL_v rfl (ov_lss rfl rfl) ?_
  refine WL_nil ?_
  refine WT_cond rfl (fun hc => ?_) (fun hc => ?_)
  · skip
    first | with_reducible replace hc := of_decide_eq_true hc | with_reducible replace hc := bn_T hc | with_reducible replace hc := bb_T hc | skip
    have hkx : k < xs.length := by omega
    refine WT_skip ?_
    refine WT_seq ?_
    refine WT_block ?_
    refine WT_seq ?_
    refine WT_region ?_
    refine WL_v rfl (ov_move rfl) ?_
    refine WL_v rfl (ov_move rfl) ?_
    refine WL_v rfl (ov_index rfl rfl st_sl_int hA.sl hkx) ?_
    refine WL_v rfl (ov_load rfl one_int (hA.cell hH1 hkx)) ?_
    refine WL_v rfl (ov_move rfl) ?_
    refine WL_v rfl (ov_eql rfl rfl) ?_
    refine WL_nil ?_
    refine WT_cond rfl (fun heq => ?_) (fun heq => ?_)
    · skip
      first | with_reducible replace heq := of_decide_eq_true heq | with_reducible replace heq := bn_T heq | with_reducible replace heq := bb_T heq | skip
      refine WT_seq ?_
      refine WT_region ?_
      refine WL_v rfl (ov_assign rfl) ?_
      refine WL_nil ?_
      exact WT_ret1 Tryz.func68 Tryz.results68 rfl ⟨congrArg Value.bool (decide_eq_true (heq ▸ List.getElem_mem hkx)).symm, hH1⟩
    first | with_reducible replace heq := of_decide_eq_false heq | with_reducible replace heq := bn_F heq | with_reducible replace heq := bb_F heq | skip
    refine WT_skip ?_
    refine WT_inBlock ?_
    refine WT_region ?_
    refine WL_v rfl (ov_move rfl) ?_
    refine WL_v rfl (ov_add rfl rfl (by omega)) ?_
    refine WL_v rfl (ov_assign rfl) ?_
    refine WL_nil ?_
    refine again (k + 1) _ _ (by omega) (by repeat (first | exact trivial | refine ⟨rfl, ?_⟩)) ⟨by omega, fun j hj h1 => ?_, hH1⟩
    rcases Nat.lt_or_ge j k with h3 | h3
    · exact hall j h3 h1
    · obtain rfl : j = k := by omega
      exact heq
  first | with_reducible replace hc := of_decide_eq_false hc | with_reducible replace hc := bn_F hc | with_reducible replace hc := bb_F hc | skip
  obtain rfl : k = xs.length := by omega
  refine WT_exit rfl ?_
  refine WT_seq ?_
  refine WT_region ?_
  refine WL_v rfl (ov_assign rfl) ?_
  refine WL_nil ?_
  exact WT_ret1 Tryz.func68 Tryz.results68 rfl ⟨congrArg Value.bool (decide_eq_false fun hm => by obtain ⟨j, hj, he⟩ := List.mem_iff_getElem.1 hm; exact hall j hj hj he).symm, hH1⟩

theorem l5All_ok (hH : H w h Ls) {av bv : Value} {xs ys : List Int} (hA : RdL h Ls av xs) (hB : RdL h Ls bv ys) : Rets Tryz.prog 89 #[av, bv] w fun v w' => v = .bool (ys.all fun f => decide (f ∈ xs)) ∧ H w' h Ls := by
  have hbl := hB.sl.lim
  refine rets_enter Tryz.func89 rfl Tryz.ntmps89 (by simp) ?_
  refine WT_seq ?_
  refine WT_region ?_
  refine WL_v rfl (ov_assign rfl) ?_
  refine WL_nil ?_
  refine WT_seq ?_
  refine WT_seq ?_
  refine WT_region ?_
  refine WL_v rfl (ov_assign rfl) ?_
  refine WL_nil ?_
  refine WT_block ?_
  refine WT_while (fun s : Nat => [(0, av), (1, bv), (5, .int .i64 (s : Int))]) (fun k w => k ≤ ys.length ∧ (∀ j (_ : j < k) (h1 : j < ys.length), ys[j] ∈ xs) ∧ H w h Ls) (fun k => ys.length - k) 0 (by repeat (first | exact trivial | refine ⟨rfl, ?_⟩)) ⟨by omega, by omega, hH⟩ ?_
  clear hH
  rintro k w2 ⟨hk, hall, hH1⟩ again
  refine WT_seq ?_
  refine WT_seq ?_
  refine WT_region ?_
  refine WL_v rfl (ov_move rfl) ?_
  refine WL_v rfl (ov_move rfl) ?_
  refine WL_v rfl (ov_len rfl hB.sl st_sl_int) ?_
  refine WL_v rfl (ov_lss rfl rfl) ?_
  refine WL_nil ?_
  refine WT_cond rfl (fun hc => ?_) (fun hc => ?_)
  · skip
    first | with_reducible replace hc := of_decide_eq_true hc | with_reducible replace hc := bn_T hc | with_reducible replace hc := bb_T hc | skip
    have hky : k < ys.length := by omega
    refine WT_skip ?_
    refine WT_seq ?_
    refine WT_block ?_
    refine WT_seq ?_
    refine WT_region ?_
    refine WL_v rfl (ov_move rfl) ?_
    refine WL_v rfl (ov_move rfl) ?_
    refine WL_v rfl (ov_move rfl) ?_
    refine WL_v rfl (ov_index rfl rfl st_sl_int hB.sl hky) ?_
    refine WL_v rfl (ov_load rfl one_int (hB.cell hH1 hky)) ?_
    refine WL_call rfl rfl cf_spec_l3Has (l3HasR_ok hH1 hA _) ?_; rintro _ w3 ⟨rfl, hH3⟩
    refine WL_v rfl (ov_not rfl) ?_
    refine WL_nil ?_
    refine WT_cond rfl (fun hin => ?_) (fun hin => ?_)
    · skip
      first | with_reducible replace hin := of_decide_eq_true hin | with_reducible replace hin := bn_T hin | with_reducible replace hin := bb_T hin | skip
      have hin' : ys[k] ∉ xs := by simpa using hin
      refine WT_seq ?_
      refine WT_region ?_
      refine WL_v rfl (ov_assign rfl) ?_
      refine WL_nil ?_
      exact WT_ret1 Tryz.func89 Tryz.results89 rfl ⟨congrArg Value.bool (List.all_eq_false.2 ⟨_, List.getElem_mem hky, by simpa using hin'⟩).symm, hH3⟩
    first | with_reducible replace hin := of_decide_eq_false hin | with_reducible replace hin := bn_F hin | with_reducible replace hin := bb_F hin | skip
    have hin' : ys[k] ∈ xs := by simpa using hin
    refine WT_skip ?_
    refine WT_inBlock ?_
    refine WT_region ?_
    refine WL_v rfl (ov_move rfl) ?_
    refine WL_v rfl (ov_add rfl rfl (by omega)) ?_
    refine WL_v rfl (ov_assign rfl) ?_
    refine WL_nil ?_
    refine again (k + 1) _ _ (by omega) (by repeat (first | exact trivial | refine ⟨rfl, ?_⟩)) ⟨by omega, fun j hj h1 => ?_, hH3⟩
    rcases Nat.lt_or_ge j k with h3 | h3
    · exact hall j h3 h1
    · obtain rfl : j = k := by omega
      exact hin'
  first | with_reducible replace hc := of_decide_eq_false hc | with_reducible replace hc := bn_F hc | with_reducible replace hc := bb_F hc | skip
  obtain rfl : k = ys.length := by omega
  refine WT_exit rfl ?_
  refine WT_seq ?_
  refine WT_region ?_
  refine WL_v rfl (ov_assign rfl) ?_
  refine WL_nil ?_
  exact WT_ret1 Tryz.func89 Tryz.results89 rfl ⟨congrArg Value.bool (List.all_eq_true.2 fun x hx => by obtain ⟨j, hj, rfl⟩ := List.mem_iff_getElem.1 hx; exact decide_eq_true (hall j hj hj)).symm, hH1⟩

theorem allIn_ok (hH : H w h Ls) {av : Value} {xs : List Int} {i s : Nat} {S : Nat → Bool} (hA : RdL h Ls av xs) (hi : Ls[i]? = some (sbox s S)) (hr : ∀ x ∈ xs, 0 ≤ x ∧ x < 10) : Rets Tryz.prog 79 #[av, ptr s] w fun v w' => v = .bool (xs.all fun f => S f.toNat) ∧ H w' h Ls := by
  have hal := hA.sl.lim
  refine rets_enter Tryz.func79 rfl Tryz.ntmps79 (by simp) ?_
  refine WT_seq ?_
  refine WT_region ?_
  refine WL_v rfl (ov_assign rfl) ?_
  refine WL_nil ?_
  refine WT_seq ?_
  refine WT_seq ?_
  refine WT_region ?_
  refine WL_v rfl (ov_move rfl) ?_
  refine WL_v rfl (ov_len rfl hA.sl st_sl_int) ?_
  refine WL_v rfl (ov_move rfl) ?_
  refine WL_nil ?_
  refine WT_block ?_
  refine WT_while (fun k : Nat => [(1, ptr s), (7, av), (8, .int .i64 (xs.length : Int)), (9, .int .i64 (k : Int))]) (fun k w => k ≤ xs.length ∧ (∀ j (_ : j < k) (h1 : j < xs.length), S xs[j].toNat = true) ∧ H w h Ls) (fun k => xs.length - k) 0 (by repeat (first | exact trivial | refine ⟨rfl, ?_⟩)) ⟨by omega, by omega, hH⟩ ?_
  clear hH
  rintro k w2 ⟨hk, hall, hH⟩ again
  refine WT_seq ?_
  refine WT_region ?_
  refine WL_v rfl (ov_lss rfl rfl) ?_
  refine WL_nil ?_
  refine WT_seq ?_
  refine WT_cond rfl (fun hc => ?_) (fun hc => ?_)
  · skip
    first | with_reducible replace hc := of_decide_eq_true hc | with_reducible replace hc := bn_T hc | with_reducible replace hc := bb_T hc | skip
    have hkx : k < xs.length := by omega
    have hx := hr _ (List.getElem_mem hkx)
    obtain ⟨u, hu⟩ := Int.eq_ofNat_of_zero_le hx.1
    have hcell : ∀ {w}, H w h Ls → w.cell? ((⟨s, 0, none⟩ : Addr).add (u * 1)) = some (.bool (S u)) := fun {w} hH => by
      rw [hH.cbA i hi 0 u, sbox_get (by omega)]
    refine WT_skip ?_
    refine WT_seq ?_
    refine WT_block ?_
    refine WT_seq ?_
    refine WT_region ?_
    refine WL_v rfl (ov_index rfl rfl st_sl_int hA.sl hkx) ?_
    refine WL_v rfl (ov_load rfl one_int (hA.cell hH hkx)) ?_; rw [hu]
    refine WL_v rfl (ov_assign rfl) ?_
    refine WL_nil ?_
    refine WT_seq ?_
    refine WT_region ?_
    refine WL_v rfl (ov_move rfl) ?_
    refine WL_v rfl (ov_move rfl) ?_
    refine WL_v rfl (ov_nilCheck rfl) ?_
    refine WL_v rfl (ov_idxA rfl rfl arr_10bool (by omega)) ?_
    refine WL_v rfl (ov_load rfl one_bool (hcell hH)) ?_
    refine WL_v rfl (ov_not rfl) ?_
    refine WL_nil ?_
    refine WT_cond rfl (fun hs => ?_) (fun hs => ?_)
    · skip
      first | with_reducible replace hs := of_decide_eq_true hs | with_reducible replace hs := bn_T hs | with_reducible replace hs := bb_T hs | skip
      have hs' : S u = false := by simpa using hs
      refine WT_seq ?_
      refine WT_region ?_
      refine WL_v rfl (ov_assign rfl) ?_
      refine WL_nil ?_
      exact WT_ret1 Tryz.func79 Tryz.results79 rfl ⟨congrArg Value.bool (List.all_eq_false.2 ⟨_, List.getElem_mem hkx, by rw [hu, Int.toNat_natCast, hs']; simp⟩).symm, hH⟩
    first | with_reducible replace hs := of_decide_eq_false hs | with_reducible replace hs := bn_F hs | with_reducible replace hs := bb_F hs | skip
    have hs' : S u = true := by simpa using hs
    refine WT_skip ?_
    refine WT_inBlock ?_
    refine WT_region ?_
    refine WL_v rfl (ov_add rfl rfl (by omega)) ?_
    refine WL_v rfl (ov_move rfl) ?_
    refine WL_nil ?_
    refine again (k + 1) _ _ (by omega) (by repeat (first | exact trivial | refine ⟨rfl, ?_⟩)) ⟨by omega, fun j hj h1 => ?_, hH⟩
    rcases Nat.lt_or_ge j k with h3 | h3
    · exact hall j h3 h1
    · obtain rfl : j = k := by omega
      rw [hu, Int.toNat_natCast]; exact hs'
  first | with_reducible replace hc := of_decide_eq_false hc | with_reducible replace hc := bn_F hc | with_reducible replace hc := bb_F hc | skip
  obtain rfl : k = xs.length := by omega
  refine WT_exit rfl ?_
  refine WT_seq ?_
  refine WT_region ?_
  refine WL_v rfl (ov_assign rfl) ?_
  refine WL_nil ?_
  exact WT_ret1 Tryz.func79 Tryz.results79 rfl ⟨congrArg Value.bool (List.all_eq_true.2 fun x hx => by obtain ⟨j, hj, rfl⟩ := List.mem_iff_getElem.1 hx; exact hall j hj hj).symm, hH⟩

theorem sbox_zero (s : Nat) : sbox s (fun _ => false) = [(s, .cells #[.bool false, .bool false, .bool false, .bool false, .bool false, .bool false, .bool false, .bool false, .bool false, .bool false] 88 (0, 0))] := rfl

theorem readyOf_ok (hH : H w h Ls) {pv dv : Value} {p : List Nd} {D : List Int} (hP : Plan h pv p) (hD : RdL h Ls dv D) (hdl : D.length ≤ 1000000000) : Rets Tryz.prog 83 #[pv, dv] w fun v w' => ∃ X, IRow X 3 v (readyOf p D) ∧ H w' h (X :: Ls) := by
  refine rets_enter Tryz.func83 rfl Tryz.ntmps83 (by simp) ?_
  refine WT_seq ?_
  refine WT_region ?_
  refine WL_v rfl (ov_assign rfl) ?_
  refine WL_nil ?_
  refine WT_seq ?_
  refine WT_seq ?_
  refine WT_region ?_
  refine WL_v rfl (ov_move rfl) ?_
  refine WL_call rfl rfl cf_impl_PlanValid (planValid_ok hH hP) ?_; rintro _ w1 ⟨rfl, hH1⟩
  refine WL_v rfl (ov_not rfl) ?_
  refine WL_nil ?_
  refine WT_cond rfl (fun hv => ?_) (fun hv => ?_)
  · skip
    first | with_reducible replace hv := of_decide_eq_true hv | with_reducible replace hv := bn_T hv | with_reducible replace hv := bb_T hv | skip
    refine WT_seq ?_
    refine WT_region ?_
    refine WL_v rfl (ov_assign rfl) ?_
    refine WL_nil ?_
    exact WT_ret1 Tryz.func83 Tryz.results83 rfl ⟨[], by unfold readyOf; rw [hv]; exact IRow.nil _, hH1.nilIn⟩
  first | with_reducible replace hv := of_decide_eq_false hv | with_reducible replace hv := bn_F hv | with_reducible replace hv := bb_F hv | skip
  have hlen := PlanOk.len hv
  have hDc : ∀ {w X}, H w h (X :: Ls) → ∀ {j} (hj : j < D.length), w.cell? ((slA dv).add (j * 1)) = some (.int .i64 D[j]) := fun hH _ hj => hD.cell hH.drop hj
  refine WT_skip ?_
  refine WT_seq ?_
  refine WT_region ?_
  refine WL_alloc #[.bool false, .bool false, .bool false, .bool false, .bool false, .bool false, .bool false, .bool false, .bool false, .bool false] rfl hH1 zero_10bool rfl ?_; rintro s w2 hH2
  refine WL_nil ?_
  refine WT_seq ?_
  refine WT_seq ?_
  refine WT_region ?_
  refine WL_v rfl (ov_move rfl) ?_
  refine WL_v rfl (ov_len rfl hD.sl st_sl_int) ?_
  refine WL_v rfl (ov_move rfl) ?_
  refine WL_nil ?_
  refine WT_block ?_
  rw [← sbox_zero] at hH2
  refine WT_while (fun k : Nat => [(0, pv), (5, ptr s), (14, dv), (15, .int .i64 (D.length : Int)), (16, .int .i64 (k : Int))]) (fun k w => k ≤ D.length ∧ ∃ S : Nat → Bool, (∀ u, S u = true ↔ u < p.length ∧ (u : Int) ∈ D.take k) ∧ H w h (sbox s S :: Ls)) (fun k => D.length - k) 0 (by repeat (first | exact trivial | refine ⟨rfl, ?_⟩)) ⟨by omega, _, by simp, hH2⟩ ?_
  clear hH hH1 hH2
  rintro k w3 ⟨hk, S, hS, hH⟩ again
  refine WT_seq ?_
  refine WT_region ?_
  refine WL_v rfl (ov_lss rfl rfl) ?_
  refine WL_nil ?_
  refine WT_seq ?_
  refine WT_cond rfl (fun hc => ?_) (fun hc => ?_)
  · skip
    first | with_reducible replace hc := of_decide_eq_true hc | with_reducible replace hc := bn_T hc | with_reducible replace hc := bb_T hc | skip
    have hkd : k < D.length := by omega
    refine WT_skip ?_
    refine WT_seq ?_
    refine WT_block ?_
    refine WT_seq ?_
    refine WT_region ?_
    refine WL_v rfl (ov_index rfl rfl st_sl_int hD.sl hkd) ?_
    refine WL_v rfl (ov_load rfl one_int (hDc hH hkd)) ?_
    refine WL_v rfl (ov_assign rfl) ?_
    refine WL_nil ?_
    refine WT_seq ?_
    refine WT_region ?_
    refine WL_v rfl (ov_move rfl) ?_
    refine WL_v rfl (ov_move rfl) ?_
    refine WL_call rfl rfl cf_impl_isNode (isNode_ok hH hP.sl _) ?_; rintro _ w4 ⟨rfl, hH4⟩
    refine WL_nil ?_
    refine WT_cond rfl (fun hn => ?_) (fun hn => ?_)
    · skip
      first | with_reducible replace hn := of_decide_eq_true hn | with_reducible replace hn := bn_T hn | with_reducible replace hn := bb_T hn | skip
      obtain ⟨u, hu⟩ := Int.eq_ofNat_of_zero_le hn.1
      rw [hu]
      refine WT_region ?_
      refine WL_v rfl (ov_move rfl) ?_
      refine WL_v rfl (ov_idxA rfl rfl arr_10bool (by omega)) ?_
      refine WL_store hH4 rfl rfl (i := 0) (off := 0 + u) rfl (addA s 0 u) (by simp; omega) rfl sz_bool ?_; rintro w5 hH5
      refine WL_nil ?_
      refine WT_inBlock ?_
      refine WT_region ?_
      refine WL_v rfl (ov_add rfl rfl (by omega)) ?_
      refine WL_v rfl (ov_move rfl) ?_
      refine WL_nil ?_
      rw [sbox_set] at hH5
      refine again (k + 1) _ _ (by omega) (by repeat (first | exact trivial | refine ⟨rfl, ?_⟩)) ⟨by omega, _, fun a => ?_, hH5⟩
      rw [List.take_succ_eq_append_getElem hkd, hu, List.mem_append, List.mem_singleton]
      by_cases ha : a = u
      · subst ha
        simp; omega
      · rw [if_neg ha, hS]
        constructor
        · rintro ⟨h1, h2⟩; exact ⟨h1, .inl h2⟩
        · rintro ⟨h1, h2 | h2⟩
          · exact ⟨h1, h2⟩
          · omega
    first | with_reducible replace hn := of_decide_eq_false hn | with_reducible replace hn := bn_F hn | with_reducible replace hn := bb_F hn | skip
    refine WT_skip ?_
    refine WT_inBlock ?_
    refine WT_region ?_
    refine WL_v rfl (ov_add rfl rfl (by omega)) ?_
    refine WL_v rfl (ov_move rfl) ?_
    refine WL_nil ?_
    refine again (k + 1) _ _ (by omega) (by repeat (first | exact trivial | refine ⟨rfl, ?_⟩)) ⟨by omega, S, fun a => ?_, hH4⟩
    rw [List.take_succ_eq_append_getElem hkd, List.mem_append, List.mem_singleton, hS]
    constructor
    · rintro ⟨h1, h2⟩; exact ⟨h1, .inl h2⟩
    · rintro ⟨h1, h2 | h2⟩
      · exact ⟨h1, h2⟩
      · exact absurd ⟨by omega, by omega⟩ hn
  first | with_reducible replace hc := of_decide_eq_false hc | with_reducible replace hc := bn_F hc | with_reducible replace hc := bb_F hc | skip
  obtain rfl : k = D.length := by omega
  rw [List.take_length] at hS
  refine WT_exit rfl ?_
  refine WT_seq ?_
  refine WT_region ?_
  refine WL_v rfl (ov_assign rfl) ?_
  refine WL_nil ?_
  refine WT_seq ?_
  refine WT_seq ?_
  refine WT_region ?_
  refine WL_v rfl (ov_move rfl) ?_
  refine WL_v rfl (ov_len rfl hP.sl st_sl_impl_Node) ?_
  refine WL_v rfl (ov_move rfl) ?_
  refine WL_nil ?_
  refine WT_block ?_
  refine WT_while (fun k : Nat × Value => [(5, ptr s), (8, k.2), (26, pv), (27, .int .i64 (p.length : Int)), (28, .int .i64 (k.1 : Int))]) (fun k w => k.1 ≤ p.length ∧ ∃ X, IRow X 3 k.2 (toI ((List.range k.1).filter (readyB p D))) ∧ H w h (X :: sbox s S :: Ls)) (fun k => p.length - k.1) (0, .slice none 0 0) (by repeat (first | exact trivial | refine ⟨rfl, ?_⟩)) ⟨by omega, [], IRow.nil _, hH.nilIn⟩ ?_
  clear hH
  rintro ⟨k, sv⟩ w4 ⟨hk, X, hX, hH⟩ again
  simp only at hk hX
  have hfl := List.length_filter_le (readyB p D) (List.range k)
  rw [List.length_range] at hfl
  refine WT_seq ?_
  refine WT_region ?_
  refine WL_v rfl (ov_lss rfl rfl) ?_
  refine WL_nil ?_
  refine WT_seq ?_
  refine WT_cond rfl (fun hc => ?_) (fun hc => ?_)
  · skip
    first | with_reducible replace hc := of_decide_eq_true hc | with_reducible replace hc := bn_T hc | with_reducible replace hc := bb_T hc | skip
    simp only at hc
    have hkp : k < p.length := by omega
    obtain ⟨fv, rv, hf, hr, hcell⟩ := hP.node hkp
    have hN := PlanOk.node hv hkp
    have hfr : ∀ x ∈ p[k].frm, 0 ≤ x ∧ x < 10 := fun x hx => by have := hN.frm x hx; omega
    have hall : (p[k].frm.all fun f => S f.toNat) = (p.getD k default).frm.all fun f => decide (f ∈ D) := by
      rw [getD_of hkp, Bool.eq_iff_iff, List.all_eq_true, List.all_eq_true]
      refine forall_congr' fun f => forall_congr' fun hf => ?_
      have := hN.frm f hf
      rw [hS, show (f.toNat : Int) = f by omega]
      simp only [decide_eq_true_eq]
      exact ⟨fun h => h.2, fun h => ⟨by omega, h⟩⟩
    have hSk : S k = decide ((k : Int) ∈ D) := by
      rw [Bool.eq_iff_iff, hS, decide_eq_true_eq]
      exact ⟨fun h => h.2, fun h => ⟨hkp, h⟩⟩
    have hscell : ∀ {w A B}, H w h (A :: B :: sbox s S :: Ls) → w.cell? ((⟨s, 0, none⟩ : Addr).add (k * 1)) = some (.bool (S k)) := fun {w A B} hH => by
      rw [hH.cbA 2 rfl 0 k, sbox_get (by omega)]
    have hrd : readyB p D k = (!S k && p[k].frm.all fun f => S f.toNat) := by
      unfold readyB
      rw [hall, hSk]
      by_cases h9 : (k : Int) ∈ D <;> simp [h9]
    refine WT_skip ?_
    refine WT_seq ?_
    refine WT_block ?_
    refine WT_seq ?_
    refine WT_region ?_
    refine WL_v rfl (ov_move rfl) ?_
    refine WL_v rfl (ov_index rfl rfl st_sl_impl_Node hP.sl hkp) ?_
    refine WL_v rfl (ov_loadN [.int .i64 p[k].kind, fv, rv] rfl agg_impl_Node rfl ((hcell _ _ hH))) ?_
    refine WL_alloc _ rfl hH zero_impl_Node rfl ?_; rintro g w5 hH5
    refine WL_v rfl (ov_assign rfl) ?_
    refine WL_storeN hH5 rfl rfl (i := 0) rfl rfl rfl (ones_cons rfl (ones_cons hf.sl.one (ones_cons hr.sl.one ones_nil))) sz_impl_Node ?_; rintro w6 hH6
    refine WL_nil ?_
    refine WT_seq ?_
    refine WT_region ?_
    refine WL_v rfl (ov_move rfl) ?_
    by_cases hs : S k = true
    · skip
      refine WL_v rfl (ov_idxA rfl rfl arr_10bool (by omega)) ?_
      refine WL_v rfl (ov_load rfl one_bool (hscell hH6)) ?_
      refine WL_v rfl (ov_F (ov_not rfl) (by rw [hs]; rfl)) ?_
      refine WL_v rfl (ov_move rfl) ?_
      refine WL_guardOff rfl rfl rfl rfl ?_
      refine WL_guardOff rfl rfl rfl rfl ?_
      refine WL_guardOff rfl rfl rfl rfl ?_
      refine WL_v rfl (ov_pickF rfl rfl) ?_
      refine WL_nil ?_
      refine WT_condF rfl ?_
      refine WT_skip ?_
      refine WT_inBlock ?_
      refine WT_region ?_
      refine WL_v rfl (ov_add rfl rfl (by omega)) ?_
      refine WL_v rfl (ov_move rfl) ?_
      refine WL_nil ?_
      refine again (k + 1, sv) _ _ (by simp only; omega) (by repeat (first | exact trivial | refine ⟨rfl, ?_⟩)) ⟨by simp only; omega, X, by rw [List.range_succ, List.filter_append, List.filter_cons, if_neg (by rw [hrd, hs]; simp), List.filter_nil, List.append_nil]; exact hX, hH6.drop⟩
    have hs' : S k = false := by simpa using hs
    refine WL_v rfl (ov_idxA rfl rfl arr_10bool (by omega)) ?_
    refine WL_v rfl (ov_load rfl one_bool (hscell hH6)) ?_
    refine WL_v rfl (ov_T (ov_not rfl) (by rw [hs']; rfl)) ?_
    refine WL_v rfl (ov_move rfl) ?_
    refine WL_guardOn rfl rfl ?_
    refine WL_v rfl (ov_field rfl fo_impl_Node_1) ?_
    refine WL_guardOn rfl rfl ?_
    refine WL_v rfl (ov_load rfl one_sl_int (hH6.cb 0 rfl 1)) ?_
    refine WL_guardOn rfl rfl ?_
    refine WL_call rfl rfl cf_impl_allIn (allIn_ok hH6 (hf.rdl _) (i := 2) rfl hfr) ?_; rintro _ w7 ⟨rfl, hH7⟩
    refine WL_v rfl (ov_pickT rfl rfl) ?_
    refine WL_nil ?_
    refine WT_cond rfl (fun ha => ?_) (fun ha => ?_)
    · skip
      first | with_reducible replace ha := of_decide_eq_true ha | with_reducible replace ha := bn_T ha | with_reducible replace ha := bb_T ha | skip
      refine WT_region ?_
      refine WL_v rfl (ov_move rfl) ?_
      refine WL_v rfl (ov_move rfl) ?_
      refine WL_bsI rfl hH7 rfl (run_bs_int _) ?_; rintro Y yv w8 hY hH8
      refine WL_appI (i := 2) (j := 0) rfl hH8 rfl rfl st_sl_int rfl hX rfl hY (by simp only [toI_len, List.length_cons, List.length_nil]; omega) (by simp only [toI_len, List.length_cons, List.length_nil]; omega) ?_; rintro X2 sv2 w9 hX2 hH9
      refine WL_v rfl (ov_assign rfl) ?_
      refine WL_nil ?_
      refine WT_inBlock ?_
      refine WT_region ?_
      refine WL_v rfl (ov_add rfl rfl (by omega)) ?_
      refine WL_v rfl (ov_move rfl) ?_
      refine WL_nil ?_
      refine again (k + 1, sv2) _ _ (by simp only; omega) (by repeat (first | exact trivial | refine ⟨rfl, ?_⟩)) ⟨by simp only; omega, X2, by rw [List.range_succ, List.filter_append, List.filter_cons, if_pos (by rw [hrd, hs', ha]; rfl), List.filter_nil, toI_snoc]; exact hX2, hH9.drop.drop⟩
    first | with_reducible replace ha := of_decide_eq_false ha | with_reducible replace ha := bn_F ha | with_reducible replace ha := bb_F ha | skip
    refine WT_skip ?_
    refine WT_inBlock ?_
    refine WT_region ?_
    refine WL_v rfl (ov_add rfl rfl (by omega)) ?_
    refine WL_v rfl (ov_move rfl) ?_
    refine WL_nil ?_
    refine again (k + 1, sv) _ _ (by simp only; omega) (by repeat (first | exact trivial | refine ⟨rfl, ?_⟩)) ⟨by simp only; omega, X, by rw [List.range_succ, List.filter_append, List.filter_cons, if_neg (by rw [hrd, ha]; simp), List.filter_nil, List.append_nil]; exact hX, hH7.drop⟩
  first | with_reducible replace hc := of_decide_eq_false hc | with_reducible replace hc := bn_F hc | with_reducible replace hc := bb_F hc | skip
  simp only at hc
  obtain rfl : k = p.length := by omega
  refine WT_exit rfl ?_
  refine WT_seq ?_
  refine WT_region ?_
  refine WL_v rfl (ov_move rfl) ?_
  refine WL_v rfl (ov_assign rfl) ?_
  refine WL_nil ?_
  exact WT_ret1 Tryz.func83 Tryz.results83 rfl ⟨X, by unfold readyOf; rw [if_pos hv]; exact hX, hH.del 1 rfl⟩

theorem sReadyOf_ok (hH : H w h Ls) {pv dv : Value} {p : List Nd} {D : List Int} (hP : Plan h pv p) (hD : RdL h Ls dv D) (hl : p.length ≤ 1000000000) : Rets Tryz.prog 65 #[pv, dv] w fun v w' => ∃ X, IRow X 3 v (readyOf p D) ∧ H w' h (X :: Ls) := by
  have hDX : ∀ {X}, RdL h (X :: Ls) dv D := ⟨hD.sl, fun hH _ hj => hD.cell hH.drop hj⟩
  refine rets_enter Tryz.func65 rfl Tryz.ntmps65 (by simp) ?_
  refine WT_seq ?_
  refine WT_region ?_
  refine WL_v rfl (ov_assign rfl) ?_
  refine WL_nil ?_
  refine WT_seq ?_
  refine WT_region ?_
  refine WL_bsI0 rfl hH run_bs_int0 ?_; rintro X0 sv0 w1 hX0 hH1
  refine WL_v rfl (ov_assign rfl) ?_
  refine WL_nil ?_
  refine WT_seq ?_
  refine WT_seq ?_
  refine WT_region ?_
  refine WL_v rfl (ov_assign rfl) ?_
  refine WL_nil ?_
  refine WT_block ?_
  refine WT_while (fun s : Nat × Value => [(0, pv), (1, dv), (5, s.2), (6, .int .i64 (s.1 : Int))]) (fun s w => s.1 ≤ p.length ∧ (planOk p = true ∨ s.1 = 0) ∧ ∃ X, IRow X 3 s.2 (toI ((List.range s.1).filter (readyB p D))) ∧ H w h (X :: Ls)) (fun s => p.length - s.1) (0, sv0) (by repeat (first | exact trivial | refine ⟨rfl, ?_⟩)) ⟨by omega, .inr rfl, X0, hX0, hH1⟩ ?_
  clear hH hH1 hX0
  rintro ⟨k, sv⟩ w2 ⟨hk, hvk, X, hX, hH⟩ again
  simp only at hk hX hvk
  have hfl := List.length_filter_le (readyB p D) (List.range k)
  rw [List.length_range] at hfl
  by_cases hkp : k < p.length
  case neg =>
    have hkn : k = p.length := by omega
    subst hkn
    refine WT_seq ?_
    refine WT_seq ?_
    refine WT_region ?_
    refine WL_v rfl (ov_move rfl) ?_
    refine WL_v rfl (ov_move rfl) ?_
    refine WL_v rfl (ov_len rfl hP.sl st_sl_impl_Node) ?_
    refine WL_v rfl (ov_F (ov_lss rfl rfl) (decide_eq_false (by simp only; omega))) ?_
    refine WL_v rfl (ov_move rfl) ?_
    refine WL_guardOff rfl rfl rfl rfl ?_
    refine WL_guardOff rfl rfl rfl rfl ?_
    refine WL_v rfl (ov_pickF rfl rfl) ?_
    refine WL_nil ?_
    refine WT_condF rfl ?_
    refine WT_exit rfl ?_
    refine WT_seq ?_
    refine WT_region ?_
    refine WL_v rfl (ov_move rfl) ?_
    refine WL_v rfl (ov_assign rfl) ?_
    refine WL_nil ?_
    exact WT_ret1 Tryz.func65 Tryz.results65 rfl ⟨X, by
      unfold readyOf
      rcases hvk with hv | h0
      · rw [if_pos hv]; exact hX
      · rw [h0] at hX
        have : p = [] := List.eq_nil_of_length_eq_zero h0
        subst this
        split <;> exact hX, hH⟩
  refine WT_seq ?_
  refine WT_seq ?_
  refine WT_region ?_
  refine WL_v rfl (ov_move rfl) ?_
  refine WL_v rfl (ov_move rfl) ?_
  refine WL_v rfl (ov_len rfl hP.sl st_sl_impl_Node) ?_
  refine WL_v rfl (ov_T (ov_lss rfl rfl) (decide_eq_true (by simp only; omega))) ?_
  refine WL_v rfl (ov_move rfl) ?_
  refine WL_guardOn rfl rfl ?_
  refine WL_v rfl (ov_move rfl) ?_
  refine WL_guardOn rfl rfl ?_
  refine WL_call rfl rfl cf_spec_PlanValid (sPlanValid_ok hH hP hl) ?_; rintro _ w3 ⟨rfl, hH3⟩
  refine WL_v rfl (ov_pickT rfl rfl) ?_
  refine WL_nil ?_
  refine WT_cond rfl (fun hv => ?_) (fun hv => ?_)
  · skip
    first | with_reducible replace hv := of_decide_eq_true hv | with_reducible replace hv := bn_T hv | with_reducible replace hv := bb_T hv | skip
    have hlen := PlanOk.len hv
    obtain ⟨fv, rv, hf, hr, hcell⟩ := hP.node hkp
    have hrd : readyB p D k = (!decide ((k : Int) ∈ D) && p[k].frm.all fun f => decide (f ∈ D)) := by
      unfold readyB
      rw [getD_of hkp]
      by_cases h9 : (k : Int) ∈ D <;> simp [h9]
    by_cases hs : (k : Int) ∈ D
    · skip
      refine WT_skip ?_
      refine WT_seq ?_
      refine WT_block ?_
      refine WT_seq ?_
      refine WT_region ?_
      refine WL_v rfl (ov_move rfl) ?_
      refine WL_v rfl (ov_move rfl) ?_
      refine WL_call rfl rfl cf_spec_l3Has (l3HasR_ok hH3 hDX _) ?_; rintro _ w4 ⟨rfl, hH4⟩
      refine WL_v rfl (ov_F (ov_not rfl) (by rw [decide_eq_true hs]; rfl)) ?_
      refine WL_v rfl (ov_move rfl) ?_
      refine WL_guardOff rfl rfl rfl rfl ?_
      refine WL_guardOff rfl rfl rfl rfl ?_
      refine WL_guardOff rfl rfl rfl rfl ?_
      refine WL_guardOff rfl rfl rfl rfl ?_
      refine WL_guardOff rfl rfl rfl rfl ?_
      refine WL_guardOff rfl rfl rfl rfl ?_
      refine WL_guardOff rfl rfl rfl rfl ?_
      refine WL_v rfl (ov_pickF rfl rfl) ?_
      refine WL_nil ?_
      refine WT_condF rfl ?_
      refine WT_skip ?_
      refine WT_inBlock ?_
      refine WT_region ?_
      refine WL_v rfl (ov_move rfl) ?_
      refine WL_v rfl (ov_add rfl rfl (by omega)) ?_
      refine WL_v rfl (ov_assign rfl) ?_
      refine WL_nil ?_
      refine again (k + 1, sv) _ _ (by simp only; omega) (by repeat (first | exact trivial | refine ⟨rfl, ?_⟩)) ⟨by simp only; omega, .inl hv, X, by rw [List.range_succ, List.filter_append, List.filter_cons, if_neg (by rw [hrd, decide_eq_true hs]; simp), List.filter_nil, List.append_nil]; exact hX, hH4⟩
    refine WT_skip ?_
    refine WT_seq ?_
    refine WT_block ?_
    refine WT_seq ?_
    refine WT_region ?_
    refine WL_v rfl (ov_move rfl) ?_
    refine WL_v rfl (ov_move rfl) ?_
    refine WL_call rfl rfl cf_spec_l3Has (l3HasR_ok hH3 hDX _) ?_; rintro _ w4 ⟨rfl, hH4⟩
    refine WL_v rfl (ov_T (ov_not rfl) (by rw [decide_eq_false hs]; rfl)) ?_
    refine WL_v rfl (ov_move rfl) ?_
    refine WL_guardOn rfl rfl ?_
    refine WL_v rfl (ov_move rfl) ?_
    refine WL_guardOn rfl rfl ?_
    refine WL_v rfl (ov_move rfl) ?_
    refine WL_guardOn rfl rfl ?_
    refine WL_v rfl (ov_move rfl) ?_
    refine WL_guardOn rfl rfl ?_
    refine WL_v rfl (ov_index rfl rfl st_sl_impl_Node hP.sl hkp) ?_
    refine WL_guardOn rfl rfl ?_
    refine WL_v rfl (ov_field rfl fo_impl_Node_1) ?_
    refine WL_guardOn rfl rfl ?_
    refine WL_v rfl (ov_load rfl one_sl_int (hcell _ _ hH4 1 _ rfl)) ?_
    refine WL_guardOn rfl rfl ?_
    refine WL_call rfl rfl cf_spec_l5All (l5All_ok hH4 hDX (hf.rdl _)) ?_; rintro _ w5 ⟨rfl, hH5⟩
    refine WL_v rfl (ov_pickT rfl rfl) ?_
    refine WL_nil ?_
    refine WT_cond rfl (fun ha => ?_) (fun ha => ?_)
    · skip
      first | with_reducible replace ha := of_decide_eq_true ha | with_reducible replace ha := bn_T ha | with_reducible replace ha := bb_T ha | skip
      refine WT_region ?_
      refine WL_v rfl (ov_move rfl) ?_
      refine WL_v rfl (ov_move rfl) ?_
      refine WL_bsI rfl hH5 rfl (run_bs_int _) ?_; rintro Y yv w6 hY hH6
      refine WL_appI (i := 1) (j := 0) rfl hH6 rfl rfl st_sl_int rfl hX rfl hY (by simp only [toI_len, List.length_cons, List.length_nil]; omega) (by simp only [toI_len, List.length_cons, List.length_nil]; omega) ?_; rintro X2 sv2 w7 hX2 hH7
      refine WL_v rfl (ov_assign rfl) ?_
      refine WL_nil ?_
      refine WT_inBlock ?_
      refine WT_region ?_
      refine WL_v rfl (ov_move rfl) ?_
      refine WL_v rfl (ov_add rfl rfl (by omega)) ?_
      refine WL_v rfl (ov_assign rfl) ?_
      refine WL_nil ?_
      refine again (k + 1, sv2) _ _ (by simp only; omega) (by repeat (first | exact trivial | refine ⟨rfl, ?_⟩)) ⟨by simp only; omega, .inl hv, X2, by rw [List.range_succ, List.filter_append, List.filter_cons, if_pos (by rw [hrd, decide_eq_false hs, ha]; rfl), List.filter_nil, toI_snoc]; exact hX2, hH7.drop⟩
    first | with_reducible replace ha := of_decide_eq_false ha | with_reducible replace ha := bn_F ha | with_reducible replace ha := bb_F ha | skip
    refine WT_skip ?_
    refine WT_inBlock ?_
    refine WT_region ?_
    refine WL_v rfl (ov_move rfl) ?_
    refine WL_v rfl (ov_add rfl rfl (by omega)) ?_
    refine WL_v rfl (ov_assign rfl) ?_
    refine WL_nil ?_
    refine again (k + 1, sv) _ _ (by simp only; omega) (by repeat (first | exact trivial | refine ⟨rfl, ?_⟩)) ⟨by simp only; omega, .inl hv, X, by rw [List.range_succ, List.filter_append, List.filter_cons, if_neg (by rw [hrd, ha]; simp), List.filter_nil, List.append_nil]; exact hX, hH5⟩
  first | with_reducible replace hv := of_decide_eq_false hv | with_reducible replace hv := bn_F hv | with_reducible replace hv := bb_F hv | skip
  have hk0 : k = 0 := by
    rcases hvk with h9 | h9
    · rw [h9] at hv; cases hv
    · exact h9
  subst hk0
  refine WT_exit rfl ?_
  refine WT_seq ?_
  refine WT_region ?_
  refine WL_v rfl (ov_move rfl) ?_
  refine WL_v rfl (ov_assign rfl) ?_
  refine WL_nil ?_
  exact WT_ret1 Tryz.func65 Tryz.results65 rfl ⟨X, by unfold readyOf; rw [if_neg (by rw [hv]; simp)]; exact hX, hH3⟩
end
end Go.Proofs.YteagnhdhafiofaaGreat

/- Walks: the rows of a plan. -/
namespace Go.Proofs.YteagnhdhafiofaaGreat
open Go.RowKit

theorem zero_fnA (W : World) : (zeroValue 89).run Tryz.prog W = .ok .nilFunc W := by kernel_rfl
theorem zero_fnB (W : World) : (zeroValue 92).run Tryz.prog W = .ok .nilFunc W := by kernel_rfl
theorem zero_LL (W : World) : (zeroValue 24).run Tryz.prog W = .ok (.slice none 0 0) W := by kernel_rfl
theorem cf_rowOf (vs : Array Value) (W : World) : (callFunc 75 vs).run Tryz.prog W = .ok (.enter 75 vs) W := by kernel_rfl
theorem cf_gather (vs : Array Value) (W : World) : (callFunc 77 vs).run Tryz.prog W = .ok (.enter 77 vs) W := by kernel_rfl

/-- Rows that are made, the first ones of some. -/
structure VRows (O : Heaplet) (Is : List Heaplet) (ov : Value) (ls : List (List Int)) (n : Nat) (xs : List Value) : Prop where
  len : Is.length = ls.length
  row : Row O 25 1 ov n xs
  at_ : ∀ i (hi : i < ls.length), OLAt Is xs i ls[i]
theorem VRows.put {O O' : Heaplet} {Is : List Heaplet} {ov : Value} {ls : List (List Int)} {n : Nat} {xs : List Value} {u : Value} {F : Heaplet} {l : List Int} {k : Nat} (hV : VRows O Is ov ls n xs) (hk : ls.length = k) (hkn : k < n)
    (hO : Row O' 25 1 ov n (xs.set k u)) (hF : IRow F 3 u l) : VRows O' (Is ++ [F]) ov (ls ++ [l]) n (xs.set k u) := by
  have hxl := hV.row.len
  have hil := hV.len
  refine ⟨by simp [hil], hO, fun i hi => ?_⟩
  rw [List.getElem_append]
  split
  · rename_i h1
    obtain ⟨u', F', g1, g2, g3⟩ := hV.at_ i h1
    exact ⟨u', F', by rw [List.getElem?_set, if_neg (by omega)]; exact g1, by rw [List.getElem?_append_left (List.getElem?_eq_some_iff.1 g2).1]; exact g2, g3⟩
  · rename_i h1
    have : i = k := by simp at hi; omega
    subst this
    exact ⟨u, F, by rw [List.getElem?_set, if_pos rfl, if_pos (by omega)], by rw [List.getElem?_append_right (by omega)]; simp [hil, hk], by simpa using hF⟩
theorem VRows.lists {O : Heaplet} {Is : List Heaplet} {ov : Value} {ls : List (List Int)} {n : Nat} {xs : List Value} (hV : VRows O Is ov ls n xs) (hn : ls.length = n) : OLists O Is ov ls := ⟨hV.len, xs, by rw [hn]; exact hV.row, hV.at_⟩

section
variable {h : GH} {Ls : List Heaplet} {w : World}

abbrev rbox (g : Nat) (ov : Value) : Heaplet := [(g, .cells #[ov] 24 (0, 0))]
abbrev pbox (g : Nat) (pv : Value) : Heaplet := [(g, .cells #[pv] 23 (0, 0))]
abbrev gbox (g o : Nat) : Heaplet := [(g, .cells #[.func (.func 77) #[] #[ptr o]] 89 (0, 0))]
abbrev obox (o m r p g : Nat) : Heaplet := [(o, .cells #[.func (.func 75) #[] #[ptr m, ptr r, ptr p, ptr g]] 92 (0, 0))]

/-- A row that is made is handed out. -/
theorem rowMade_ok {bm br bp bg : Nat} {S : Nat → Bool} {O : Heaplet} {ov u : Value} {n : Nat} {xs : List Value} {im ir io : Nat} {a : Nat} (hH : H w h Ls) (him : Ls[im]? = some (sbox bm S)) (hir : Ls[ir]? = some (rbox br ov)) (hio : Ls[io]? = some O)
    (hO : Row O 25 1 ov n xs) (hu : xs[a]? = some u) (hS : S a = true) (ha : a < 10) : Rets Tryz.prog 75 #[.int .i64 (a : Int), ptr bm, ptr br, ptr bp, ptr bg] w fun v w' => v = u ∧ H w' h Ls := by
  have han : a < n := by
    have h1 := (List.getElem?_eq_some_iff.1 hu).1
    have := hO.len
    omega
  have hcell : ∀ {w}, H w h Ls → w.cell? ((⟨bm, 0, none⟩ : Addr).add (a * 1)) = some (.bool (S a)) := fun {w} hH => by
    rw [hH.cbA im him 0 a, sbox_get ha]
  have hcu : ∀ {w}, H w h Ls → w.cell? ((slA ov).add (a * 1)) = some u := fun {w} hH => by
    rw [Nat.mul_one]; exact hO.cell hH hio hu
  refine rets_enter Tryz.func75 rfl Tryz.ntmps75 (by simp) ?_
  refine WT_seq ?_
  refine WT_region ?_
  refine WL_v rfl (ov_assign rfl) ?_
  refine WL_nil ?_
  refine WT_seq ?_
  refine WT_seq ?_
  refine WT_region ?_
  refine WL_v rfl (ov_move rfl) ?_
  refine WL_v rfl (ov_idxA rfl rfl arr_10bool ha) ?_
  refine WL_v rfl (ov_load rfl one_bool (hcell hH)) ?_; rw [hS]
  refine WL_nil ?_
  refine WT_condT rfl ?_
  refine WT_seq ?_
  refine WT_region ?_
  refine WL_v rfl (ov_load rfl one_sl_sl_int (hH.cb ir hir 0)) ?_
  refine WL_v rfl (ov_move rfl) ?_
  refine WL_v rfl (ov_index rfl rfl st_sl_sl_int hO.sl han) ?_
  refine WL_v rfl (ov_load rfl one_sl_int (hcu hH)) ?_
  refine WL_v rfl (ov_assign rfl) ?_
  refine WL_nil ?_
  exact WT_ret1 Tryz.func75 Tryz.results75 rfl ⟨rfl, hH⟩

theorem gather_ok {bm br bp bg bo : Nat} {S : Nat → Bool} {O : Heaplet} {ov fv : Value} {n : Nat} {xs : List Value} {im ir io ib : Nat} {f : List Int} (hH : H w h Ls) (him : Ls[im]? = some (sbox bm S)) (hir : Ls[ir]? = some (rbox br ov)) (hio : Ls[io]? = some O)
    (hib : Ls[ib]? = some (obox bo bm br bp bg)) (hO : Row O 25 1 ov n xs) (hF : RdL h Ls fv f) (hfl : f.length ≤ 2) (hall : ∀ x ∈ f, 0 ≤ x ∧ x < 10 ∧ S x.toNat = true ∧ x < (n : Int)) (hone : ∀ x ∈ f, ∀ u, xs[x.toNat]? = some u → u.oneCell' = true) :
    Rets Tryz.prog 77 #[fv, ptr bo] w fun v w' => ∃ N us, Row N 25 1 v f.length us ∧ (∀ j (hj : j < f.length), us[j]? = xs[(f[j]).toNat]?) ∧ H w' h (N :: Ls) := by
  refine rets_enter Tryz.func77 rfl Tryz.ntmps77 (by simp) ?_
  refine WT_seq ?_
  refine WT_region ?_
  refine WL_v rfl (ov_assign rfl) ?_
  refine WL_nil ?_
  refine WT_seq ?_
  refine WT_region ?_
  refine WL_v rfl (ov_move rfl) ?_
  refine WL_v rfl (ov_len rfl hF.sl st_sl_int) ?_
  refine WL_make (sz := 1) (n := f.length) (c := f.length) rfl hH rfl rfl st_sl_sl_int (by omega) (by omega) (by omega) (by omega) ?_; rintro N0 nv w1 hN0 hH1
  refine WL_v rfl (ov_assign rfl) ?_
  refine WL_nil ?_
  refine WT_seq ?_
  refine WT_seq ?_
  refine WT_region ?_
  refine WL_v rfl (ov_move rfl) ?_
  refine WL_v rfl (ov_len rfl hF.sl st_sl_int) ?_
  refine WL_v rfl (ov_move rfl) ?_
  refine WL_nil ?_
  refine WT_block ?_
  refine WT_while (fun s : Nat => [(1, ptr bo), (4, nv), (10, fv), (11, .int .i64 (f.length : Int)), (12, .int .i64 (s : Int))]) (fun s w => s ≤ f.length ∧ ∃ N us, Row N 25 1 nv f.length us ∧ (∀ j (hj : j < f.length), j < s → us[j]? = xs[(f[j]).toNat]?) ∧ H w h (N :: Ls)) (fun s => f.length - s) 0 (by repeat (first | exact trivial | refine ⟨rfl, ?_⟩)) ⟨by omega, N0, _, hN0, fun j _ h => by omega, hH1⟩ ?_
  clear hH hH1 hN0 N0
  rintro s w2 ⟨hs, N, us, hN, hus, hH⟩ again
  refine WT_seq ?_
  refine WT_region ?_
  refine WL_v rfl (ov_lss rfl rfl) ?_
  refine WL_nil ?_
  refine WT_seq ?_
  refine WT_cond rfl (fun hc => ?_) (fun hc => ?_)
  · skip
    first | with_reducible replace hc := of_decide_eq_true hc | with_reducible replace hc := bn_T hc | with_reducible replace hc := bb_T hc | skip
    have hsf : s < f.length := by omega
    obtain ⟨g1, g2, g3, g4⟩ := hall _ (List.getElem_mem hsf)
    obtain ⟨a, ha⟩ := Int.eq_ofNat_of_zero_le g1
    rw [ha, Int.toNat_natCast] at g3
    have hxl := hO.len
    have hax : a < xs.length := by omega
    have hnl := hN.len
    refine WT_skip ?_
    refine WT_seq ?_
    refine WT_block ?_
    refine WT_seq ?_
    refine WT_region ?_
    refine WL_v rfl (ov_move rfl) ?_
    refine WL_v rfl (ov_index rfl rfl st_sl_int hF.sl hsf) ?_
    refine WL_v rfl (ov_load rfl one_int (hF.cell hH.drop hsf)) ?_; rw [ha]
    refine WL_v rfl (ov_assign rfl) ?_
    refine WL_v rfl (ov_assign rfl) ?_
    refine WL_nil ?_
    refine WT_region ?_
    refine WL_v rfl (ov_move rfl) ?_
    refine WL_v rfl (ov_move rfl) ?_
    refine WL_v rfl (ov_load rfl one_func_int_sl_int (hH.cb (ib + 1) hib 0)) ?_
    refine WL_v rfl (ov_move rfl) ?_
    refine WL_callV (ws := [.int .i64 (a : Int), ptr bm, ptr br, ptr bp, ptr bg]) rfl rfl rfl rfl cf_rowOf (rowMade_ok (im := im + 1) (ir := ir + 1) (io := io + 1) hH him hir hio hO (List.getElem?_eq_getElem hax) g3 (by omega)) ?_; rintro _ w3 ⟨rfl, hH3⟩
    refine WL_v rfl (ov_index rfl rfl st_sl_sl_int hN.sl hsf) ?_
    refine WL_storeRow hH3 rfl rfl (i := 0) rfl hN (j := s * 1) (by omega) (hone _ (List.getElem_mem hsf) _ (by rw [ha, Int.toNat_natCast]; exact List.getElem?_eq_getElem hax)) sz_sl_int ?_; rintro N2 w4 hN2 hH4
    refine WL_nil ?_
    refine WT_inBlock ?_
    refine WT_region ?_
    refine WL_v rfl (ov_add rfl rfl (by omega)) ?_
    refine WL_v rfl (ov_move rfl) ?_
    refine WL_nil ?_
    refine again (s + 1) _ _ (by omega) (by repeat (first | exact trivial | refine ⟨rfl, ?_⟩)) ⟨by omega, N2, _, hN2, fun j hj hjs => ?_, hH4⟩
    rw [Nat.mul_one, List.getElem?_set]
    split
    · rename_i h1
      subst h1
      rw [if_pos (by omega), ha, Int.toNat_natCast, List.getElem?_eq_getElem hax]
    · exact hus j hj (by omega)
  first | with_reducible replace hc := of_decide_eq_false hc | with_reducible replace hc := bn_F hc | with_reducible replace hc := bb_F hc | skip
  obtain rfl : s = f.length := by omega
  refine WT_exit rfl ?_
  refine WT_seq ?_
  refine WT_region ?_
  refine WL_v rfl (ov_move rfl) ?_
  refine WL_v rfl (ov_assign rfl) ?_
  refine WL_nil ?_
  exact WT_ret1 Tryz.func77 Tryz.results77 rfl ⟨N, us, hN, fun j hj => hus j hj hj, hH⟩

theorem Cl.two {A B : Heaplet} (hH : H w h (A :: B :: Ls)) : Cl h Ls w := ⟨A ++ B, by simpa [H] using hH⟩
/-- All that the functions share. -/
def VSt (w : World) (h : GH) (bo bg bm br bp : Nat) (S : Nat → Bool) (O : Heaplet) (ov pv : Value) (Rs : List Heaplet) : Prop := H w h (obox bo bm br bp bg :: gbox bg bo :: sbox bm S :: rbox br ov :: O :: pbox bp pv :: Rs)

theorem H.fillT {T A B C D E G : Heaplet} {Is Ms : List Heaplet} (hH : H w h (T :: A :: B :: C :: D :: E :: G :: (Is ++ Ms))) : H w h (A :: B :: C :: D :: E :: G :: ((Is ++ [T]) ++ Ms)) := by
  refine hH.perm ?_
  have : (T :: ((A :: B :: C :: D :: E :: G :: Is) ++ Ms)).Perm ((A :: B :: C :: D :: E :: G :: Is) ++ T :: Ms) := List.perm_middle.symm
  simpa using this

set_option maxHeartbeats 1000000 in
/-- A row is made from the ones ahead. -/
theorem rowNew_ok {bm br bp bg bo : Nat} {S : Nat → Bool} {O : Heaplet} {Is : List Heaplet} {ov pv : Value} {p : List Nd} {xs : List Value} {k : Nat} (hP : Plan h pv p) (hv : planOk p = true) (hk : k < p.length)
    (hS : ∀ u, S u = true ↔ u < k) (hV : VRows O Is ov (valsTo p k) p.length xs) (hH : VSt w h bo bg bm br bp S O ov pv (Is ++ Ls)) :
    Rets Tryz.prog 75 #[.int .i64 (k : Int), ptr bm, ptr br, ptr bp, ptr bg] w fun _ w' => ∃ O' F xs', VRows O' (Is ++ [F]) ov (valsTo p (k + 1)) p.length xs' ∧ VSt w' h bo bg bm br bp (fun u => if u = k then true else S u) O' ov pv ((Is ++ [F]) ++ Ls) := by
  unfold VSt at hH ⊢
  have hlen := PlanOk.len hv
  have hvl := valsTo_len p k
  have hst : valsTo p (k + 1) = valsTo p k ++ [stepL ⟨p[k].kind, p[k].frm, p[k].row⟩ (valsTo p k)] := by rw [valsTo, getD_of hk]
  obtain ⟨fv, rv, hf, hrr, hcell⟩ := hP.node hk
  have hN' := PlanOk.node hv hk
  have hf2 := NodeOk.len2 hN'
  have hr6 := ((rowOk_iff _).1 hN'.row).2
  have hSk : S k = false := by
    cases h1 : S k with
    | false => rfl
    | true => have := (hS k).1 h1; omega
  have hxl := hV.row.len
  have hcellS : ∀ {w}, H w h (obox bo bm br bp bg :: gbox bg bo :: sbox bm S :: rbox br ov :: O :: pbox bp pv :: (Is ++ Ls)) → w.cell? ((⟨bm, 0, none⟩ : Addr).add (k * 1)) = some (.bool (S k)) := fun {w} hH => by
    rw [hH.cbA 2 rfl 0 k, sbox_get (by omega)]
  refine rets_enter Tryz.func75 rfl Tryz.ntmps75 (by simp) ?_
  refine WT_seq ?_
  refine WT_region ?_
  refine WL_v rfl (ov_assign rfl) ?_
  refine WL_nil ?_
  refine WT_seq ?_
  refine WT_seq ?_
  refine WT_region ?_
  refine WL_v rfl (ov_move rfl) ?_
  refine WL_v rfl (ov_idxA rfl rfl arr_10bool (by omega)) ?_
  refine WL_v rfl (ov_load rfl one_bool (hcellS hH)) ?_; rw [hSk]
  refine WL_nil ?_
  refine WT_condF rfl ?_
  refine WT_skip ?_
  refine WT_seq ?_
  refine WT_region ?_
  refine WL_v rfl (ov_load rfl one_sl_impl_Node (hH.cb 5 rfl 0)) ?_
  refine WL_v rfl (ov_move rfl) ?_
  refine WL_v rfl (ov_index rfl rfl st_sl_impl_Node hP.sl hk) ?_
  refine WL_v rfl (ov_loadN [.int .i64 p[k].kind, fv, rv] rfl agg_impl_Node rfl ((hcell _ _ hH))) ?_
  refine WL_alloc _ rfl hH zero_impl_Node rfl ?_; rintro g w1 hH1
  refine WL_storeN hH1 rfl rfl (i := 0) rfl rfl rfl (ones_cons rfl (ones_cons hf.sl.one (ones_cons hrr.sl.one ones_nil))) sz_impl_Node ?_; rintro w2 hH2
  refine WL_nil ?_
  refine WT_seq ?_
  refine WT_seq ?_
  refine WT_region ?_
  refine WL_v rfl (ov_field rfl fo_impl_Node_0) ?_
  refine WL_v rfl (ov_load rfl one_int (hH2.cb 0 rfl 0)) ?_
  refine WL_v rfl (ov_eql rfl rfl) ?_
  refine WL_nil ?_
  refine WT_join (ι := Heaplet × Heaplet) (fun _ => [(0, .int .i64 (k : Int)), (1, ptr bm), (2, ptr br)]) (fun s w => (∃ xs', VRows s.1 (Is ++ [s.2]) ov (valsTo p (k + 1)) p.length xs') ∧ H w h (obox bo bm br bp bg :: gbox bg bo :: sbox bm S :: rbox br ov :: s.1 :: pbox bp pv :: ((Is ++ [s.2]) ++ Ls))) (fun joined => ?_) ?_
  · skip
    refine WT_cond rfl (fun h0 => ?_) (fun h0 => ?_)
    · skip
      first | with_reducible replace h0 := of_decide_eq_true h0 | with_reducible replace h0 := bn_T h0 | with_reducible replace h0 := bb_T h0 | skip
      refine WT_mixL [(0, 0), (1, 1), (2, 1), (3, 0), (4, 2), (5, 1), (6, 3)] mixed (by kernel_rfl) hH2 ?_
      clear hH2
      intro w3 hH2 hC
      refine WM_v rfl rfl hC (fun _ ⟨_, hH⟩ => ov_load rfl one_sl_sl_int (hH.cb 5 rfl 0)) ?_
      refine WM_p rfl rfl (fun _ => ov_move rfl) ?_
      refine WM_p rfl rfl (fun _ => ov_field rfl fo_impl_Node_2) ?_
      refine WM_v rfl rfl hC (fun _ ⟨_, hH⟩ => ov_load rfl one_sl_int (hH.cb 1 rfl 2)) ?_
      refine WM_e rfl ?_
      refine WL_call rfl rfl cf_impl_copyInts (copyInts_ok hH2 (hrr.rdl _) (by omega)) ?_; rintro tv w4 ⟨T, hT, hH4⟩
      replace hC : Cl _ _ _ := ⟨T, hH4⟩
      refine WL_mix (fun _ => hC) ?_
      refine WM_p rfl rfl (fun _ => ov_index rfl rfl st_sl_sl_int hV.row.sl hk) ?_
      refine WM_e rfl ?_
      refine WL_storeRow hH4 rfl rfl (i := 6) rfl hV.row (j := k * 1) (by omega) hT.sl.one sz_sl_int ?_; rintro O2 w5 hO2 hH5
      refine WL_mix (fun h => absurd rfl h) ?_
      refine WM_nil ?_
      refine joined (O2, T) _ _ (by repeat (first | exact trivial | refine ⟨rfl, ?_⟩)) ⟨⟨xs.set k tv, ?_⟩, ?_⟩
      · rw [hst, stepL, if_pos h0]
        rw [Nat.mul_one] at hO2
        exact hV.put hvl hk hO2 hT
      · exact H.fillT (hH5.del 1 rfl)
    first | with_reducible replace h0 := of_decide_eq_false h0 | with_reducible replace h0 := bn_F h0 | with_reducible replace h0 := bb_F h0 | skip
    have hall : ∀ x ∈ p[k].frm, 0 ≤ x ∧ x < 10 ∧ S x.toNat = true ∧ x < (p.length : Int) := fun x hx => by
      have := hN'.frm x hx
      exact ⟨this.1, by omega, (hS _).2 (by omega), by omega⟩
    have hkk : ∀ x ∈ p[k].frm, x.toNat < (valsTo p k).length := fun x hx => by
      have := hN'.frm x hx
      omega
    have hplace : ∀ {N : Heaplet} (j : Nat) (F : Heaplet), Is[j]? = some F → (N :: [(g, .cells #[.int .i64 p[k].kind, fv, rv] 74 (0, 0))] :: obox bo bm br bp bg :: gbox bg bo :: sbox bm S :: rbox br ov :: O :: pbox bp pv :: (Is ++ Ls))[8 + j]? = some F := fun j F hj => by
      rw [show 8 + j = j + 1 + 1 + 1 + 1 + 1 + 1 + 1 + 1 by omega]
      simp only [List.getElem?_cons_succ]
      rw [List.getElem?_append_left (List.getElem?_eq_some_iff.1 hj).1]
      exact hj
    have hone : ∀ x ∈ p[k].frm, ∀ u, xs[x.toNat]? = some u → u.oneCell' = true := fun x hx u hu => by
      obtain ⟨u', F', g1, _, g3⟩ := hV.at_ _ (hkk x hx)
      rw [hu] at g1
      obtain rfl := Option.some.inj g1
      exact g3.sl.one
    refine WT_mixL [(0, 0), (1, 1), (2, 1), (3, 0), (4, 0), (5, 1), (6, 0), (7, 2), (8, 2), (9, 1), (10, 1), (11, 1), (12, 1), (13, 3)] mixed (by kernel_rfl) hH2 ?_
    clear hH2
    intro w3 hH2 hC
    refine WM_v rfl rfl hC (fun _ ⟨_, hH⟩ => ov_load rfl one_sl_sl_int (hH.cb 5 rfl 0)) ?_
    refine WM_p rfl rfl (fun _ => ov_move rfl) ?_
    refine WM_p rfl rfl (fun _ => ov_field rfl fo_impl_Node_0) ?_
    refine WM_v rfl rfl hC (fun _ ⟨_, hH⟩ => ov_load rfl one_int (hH.cb 1 rfl 0)) ?_
    refine WM_v rfl rfl hC (fun _ ⟨_, hH⟩ => ov_load rfl one_func_sl_int_sl_sl_int (hH.cb 3 rfl 0)) ?_
    refine WM_p rfl rfl (fun _ => ov_field rfl fo_impl_Node_1) ?_
    refine WM_v rfl rfl hC (fun _ ⟨_, hH⟩ => ov_load rfl one_sl_int (hH.cb 1 rfl 1)) ?_
    refine WM_e rfl ?_
    refine WL_callV (ws := [fv, ptr bo]) rfl rfl rfl rfl cf_gather (gather_ok (im := 3) (ir := 4) (io := 5) (ib := 1) hH2 rfl rfl rfl rfl hV.row (hf.rdl _) hf2 hall hone) ?_; rintro nv w4 ⟨N, us, hN, hus, hH4⟩
    replace hC : Cl _ _ _ := ⟨N, hH4⟩
    refine WL_mix (fun _ => hC) ?_
    refine WM_e rfl ?_
    refine WL_call rfl rfl cf_impl_KindRun (kindRun_ok hH4 hN'.kind (Pick.rdll (rows := valsTo p k) ⟨fun j hj _ => by { have hx := List.getElem_mem hj; have hkj := hkk _ hx; obtain ⟨u', F', g1, g2, g3⟩ := hV.at_ _ hkj; refine ⟨u', (hus j hj).trans g1, ?_⟩; rw [getLD hkj]; exact g3.rdl (hplace _ F' g2) }⟩ (i := 0) rfl hN)) ?_; rintro _ w5 ⟨tv, ok, T, rfl, hT, hH5⟩
    replace hC : Cl _ _ _ := Cl.two hH5
    refine WL_mix (fun _ => hC) ?_
    refine WM_p rfl rfl (fun _ => ov_move rfl) ?_
    refine WM_p rfl rfl (fun _ => ov_extract rfl rfl) ?_
    refine WM_p rfl rfl (fun _ => ov_extract rfl rfl) ?_
    refine WM_p rfl rfl (fun _ => ov_index rfl rfl st_sl_sl_int hV.row.sl hk) ?_
    refine WM_e rfl ?_
    refine WL_storeRow hH5 rfl rfl (i := 7) rfl hV.row (j := k * 1) (by omega) hT.sl.one sz_sl_int ?_; rintro O2 w6 hO2 hH6
    refine WL_mix (fun h => absurd rfl h) ?_
    refine WM_nil ?_
    refine joined (O2, T) _ _ (by repeat (first | exact trivial | refine ⟨rfl, ?_⟩)) ⟨⟨xs.set k tv, ?_⟩, ?_⟩
    · rw [hst, stepL, if_neg h0]
      rw [Nat.mul_one] at hO2
      exact hV.put hvl hk hO2 hT
    · exact H.fillT ((hH6.del 2 rfl).del 1 rfl)
  clear hH hH1 hH2
  rintro ⟨O2, T⟩ w6 ⟨⟨xs2, hV2⟩, hH6⟩
  simp only at hV2 hH6
  obtain ⟨u, F, hu, _, hF⟩ := hV2.at_ k (by rw [valsTo_len]; omega)
  have hcu : ∀ {w S}, H w h (obox bo bm br bp bg :: gbox bg bo :: sbox bm S :: rbox br ov :: O2 :: pbox bp pv :: ((Is ++ [T]) ++ Ls)) → w.cell? ((slA ov).add (k * 1)) = some u := fun hH => by
    rw [Nat.mul_one]; exact hV2.row.cell hH (i := 4) rfl hu
  refine WT_seq ?_
  refine WT_region ?_
  refine WL_v rfl (ov_move rfl) ?_
  refine WL_v rfl (ov_idxA rfl rfl arr_10bool (by omega)) ?_
  refine WL_store hH6 rfl rfl (i := 2) (off := 0 + k) rfl (addA bm 0 k) (by simp; omega) rfl sz_bool ?_; rintro w7 hH7; rw [sbox_set] at hH7
  refine WL_nil ?_
  refine WT_seq ?_
  refine WT_region ?_
  refine WL_v rfl (ov_load rfl one_sl_sl_int (hH7.cb 3 rfl 0)) ?_
  refine WL_v rfl (ov_move rfl) ?_
  refine WL_v rfl (ov_index rfl rfl st_sl_sl_int hV2.row.sl hk) ?_
  refine WL_v rfl (ov_load rfl one_sl_int (hcu hH7)) ?_
  refine WL_v rfl (ov_assign rfl) ?_
  refine WL_nil ?_
  exact WT_ret1 Tryz.func75 Tryz.results75 rfl ⟨O2, T, xs2, hV2, hH7⟩
end
end Go.Proofs.YteagnhdhafiofaaGreat

/- Walks: the rows of a plan, whole. -/
namespace Go.Proofs.YteagnhdhafiofaaGreat
open Go.RowKit

section
variable {h : GH} {Ls : List Heaplet} {w : World}

theorem valuesOf_no (hH : H w h Ls) {pv : Value} {p : List Nd} (hP : Plan h pv p) (hv : planOk p = false) : Rets Tryz.prog 43 #[pv] w fun v w' => v = .tuple #[.slice none 0 0, .bool false] ∧ H w' h Ls := by
  have hva := fun {w : World} {Ls : List Heaplet} (hH : H w h Ls) => planValid_ok hH hP
  rw [hv] at hva
  have hpc : pv.cells = #[pv] := by
    obtain ⟨A0, c0, hpv, _⟩ := hP.sl.form
    rw [hpv]; rfl
  refine rets_enter Tryz.func43 rfl Tryz.ntmps43 (by simp) ?_
  refine WT_seq ?_
  refine WT_region ?_
  refine WL_box _ rfl hH rfl rfl ?_; rintro bp w1 hH1; rw [hpc] at hH1
  refine WL_v rfl (ov_assign rfl) ?_
  refine WL_v rfl (ov_assign rfl) ?_
  refine WL_nil ?_
  refine WT_seq ?_
  refine WT_seq ?_
  refine WT_region ?_
  refine WL_v rfl (ov_load rfl one_sl_impl_Node (hH1.cb 0 rfl 0)) ?_
  refine WL_call rfl rfl cf_impl_PlanValid (hva hH1) ?_; rintro _ w2 ⟨rfl, hH2⟩
  refine WL_v rfl (ov_not rfl) ?_
  refine WL_nil ?_
  refine WT_condT rfl ?_
  refine WT_seq ?_
  refine WT_region ?_
  refine WL_v rfl (ov_assign rfl) ?_
  refine WL_v rfl (ov_assign rfl) ?_
  refine WL_nil ?_
  exact WT_ret2 Tryz.func43 Tryz.results43 rfl rfl ⟨rfl, hH2.drop⟩

/-- The rows of a plan, of one's own. -/
def OVals (h : GH) (Ls : List Heaplet) (p : List Nd) (v : Value) (w' : World) : Prop := ∃ ov O Is, v = .tuple #[ov, .bool true] ∧ OLists O Is ov (valsL p) ∧ H w' h (O :: (Is ++ Ls))

theorem valuesOf_yes (hH : H w h Ls) {pv : Value} {p : List Nd} (hP : Plan h pv p) (hv : planOk p = true) : Rets Tryz.prog 43 #[pv] w fun v w' => OVals h Ls p v w' := by
  have hva := fun {w : World} {Ls : List Heaplet} (hH : H w h Ls) => planValid_ok hH hP
  rw [hv] at hva
  have hpc : pv.cells = #[pv] := by
    obtain ⟨A0, c0, hpv, _⟩ := hP.sl.form
    rw [hpv]; rfl
  have hlen := PlanOk.len hv
  refine rets_enter Tryz.func43 rfl Tryz.ntmps43 (by simp) ?_
  refine WT_seq ?_
  refine WT_region ?_
  refine WL_box _ rfl hH rfl rfl ?_; rintro bp w1 hH1; rw [hpc] at hH1
  refine WL_v rfl (ov_assign rfl) ?_
  refine WL_v rfl (ov_assign rfl) ?_
  refine WL_nil ?_
  refine WT_seq ?_
  refine WT_seq ?_
  refine WT_region ?_
  refine WL_v rfl (ov_load rfl one_sl_impl_Node (hH1.cb 0 rfl 0)) ?_
  refine WL_call rfl rfl cf_impl_PlanValid (hva hH1) ?_; rintro _ w2 ⟨rfl, hH2⟩
  refine WL_v rfl (ov_not rfl) ?_
  refine WL_nil ?_
  refine WT_condF rfl ?_
  refine WT_skip ?_
  refine WT_seq ?_
  refine WT_region ?_
  refine WL_v rfl (ov_load rfl one_sl_impl_Node (hH2.cb 0 rfl 0)) ?_
  refine WL_v rfl (ov_len rfl hP.sl st_sl_impl_Node) ?_
  refine WL_make (sz := 1) (n := p.length) (c := p.length) rfl hH2 rfl rfl st_sl_sl_int (by omega) (by omega) (by omega) (by omega) ?_; rintro O0 ov w3 hO0 hH3
  refine WL_alloc _ rfl hH3 zero_LL rfl ?_; rintro br w4 hH4
  refine WL_store hH4 rfl rfl (i := 0) (off := 0) rfl rfl Nat.zero_lt_one hO0.sl.one sz_sl_sl_int ?_; rintro w5 hH5
  refine WL_nil ?_
  refine WT_seq ?_
  refine WT_region ?_
  refine WL_alloc #[.bool false, .bool false, .bool false, .bool false, .bool false, .bool false, .bool false, .bool false, .bool false, .bool false] rfl hH5 zero_10bool rfl ?_; rintro bm w6 hH6
  refine WL_nil ?_
  refine WT_seq ?_
  refine WT_region ?_
  refine WL_alloc _ rfl hH6 zero_fnA rfl ?_; rintro bg w7 hH7
  refine WL_nil ?_
  refine WT_seq ?_
  refine WT_region ?_
  refine WL_v rfl (ov_makeFunc rfl rfl) ?_
  refine WL_alloc _ rfl hH7 zero_fnB rfl ?_; rintro bo w8 hH8
  refine WL_store hH8 rfl rfl (i := 0) (off := 0) rfl rfl Nat.zero_lt_one rfl sz_func_int_sl_int ?_; rintro w9 hH9
  refine WL_nil ?_
  refine WT_seq ?_
  refine WT_region ?_
  refine WL_v rfl (ov_makeFunc rfl rfl) ?_
  refine WL_store hH9 rfl rfl (i := 1) (off := 0) rfl rfl Nat.zero_lt_one rfl sz_func_sl_int_sl_sl_int ?_; rintro w10 hH10
  refine WL_nil ?_
  refine WT_seq ?_
  refine WT_seq ?_
  refine WT_region ?_
  refine WL_v rfl (ov_load rfl one_sl_impl_Node (hH10.cb 5 rfl 0)) ?_
  refine WL_v rfl (ov_len rfl hP.sl st_sl_impl_Node) ?_
  refine WL_v rfl (ov_move rfl) ?_
  refine WL_nil ?_
  refine WT_block ?_
  have hst : VSt w10 h bo bg bm br bp (fun _ => false) O0 ov pv Ls := hH10
  clear hH hH1 hH2 hH3 hH4 hH5 hH6 hH7 hH8 hH9 hH10
  refine WT_while (fun s : Nat => [(4, ptr br), (7, ptr bo), (18, .int .i64 (p.length : Int)), (19, .int .i64 (s : Int))]) (fun s w => s ≤ p.length ∧ ∃ S O Is xs, (∀ u, S u = true ↔ u < s) ∧ VRows O Is ov (valsTo p s) p.length xs ∧ VSt w h bo bg bm br bp S O ov pv (Is ++ Ls)) (fun s => p.length - s) 0 (by repeat (first | exact trivial | refine ⟨rfl, ?_⟩)) ⟨by omega, _, O0, [], _, by simp, ⟨rfl, hO0, fun i hi => by simp [valsTo] at hi⟩, hst⟩ ?_
  clear hst hO0 O0
  rintro s w11 ⟨hs, S, O, Is, xs, hS, hV, hH⟩ again
  refine WT_seq ?_
  refine WT_region ?_
  refine WL_v rfl (ov_lss rfl rfl) ?_
  refine WL_nil ?_
  refine WT_seq ?_
  refine WT_cond rfl (fun hc => ?_) (fun hc => ?_)
  · skip
    first | with_reducible replace hc := of_decide_eq_true hc | with_reducible replace hc := bn_T hc | with_reducible replace hc := bb_T hc | skip
    have hsp : s < p.length := by omega
    have hH' := hH
    unfold VSt at hH'
    refine WT_skip ?_
    refine WT_seq ?_
    refine WT_block ?_
    refine WT_seq ?_
    refine WT_region ?_
    refine WL_v rfl (ov_move rfl) ?_
    refine WL_v rfl (ov_assign rfl) ?_
    refine WL_nil ?_
    refine WT_region ?_
    refine WL_v rfl (ov_load rfl one_func_int_sl_int (hH'.cb 0 rfl 0)) ?_
    refine WL_v rfl (ov_move rfl) ?_
    refine WL_callV (ws := [.int .i64 (s : Int), ptr bm, ptr br, ptr bp, ptr bg]) rfl rfl rfl rfl cf_rowOf (rowNew_ok hP hv hsp hS hV hH) ?_; rintro uv w12 ⟨O2, F, xs2, hV2, hH2⟩
    refine WL_nil ?_
    refine WT_inBlock ?_
    refine WT_region ?_
    refine WL_v rfl (ov_add rfl rfl (by omega)) ?_
    refine WL_v rfl (ov_move rfl) ?_
    refine WL_nil ?_
    refine again (s + 1) _ _ (by omega) (by repeat (first | exact trivial | refine ⟨rfl, ?_⟩)) ⟨by omega, _, O2, _, xs2, fun u => ?_, hV2, hH2⟩
    by_cases hu : u = s
    · simp [hu]
    · simp only [hu, if_false, hS]
      omega
  first | with_reducible replace hc := of_decide_eq_false hc | with_reducible replace hc := bn_F hc | with_reducible replace hc := bb_F hc | skip
  obtain rfl : s = p.length := by omega
  unfold VSt at hH
  refine WT_exit rfl ?_
  refine WT_seq ?_
  refine WT_region ?_
  refine WL_v rfl (ov_load rfl one_sl_sl_int (hH.cb 3 rfl 0)) ?_
  refine WL_v rfl (ov_assign rfl) ?_
  refine WL_v rfl (ov_assign rfl) ?_
  refine WL_nil ?_
  exact WT_ret2 Tryz.func43 Tryz.results43 rfl rfl ⟨ov, O, Is, rfl, hV.lists (valsTo_len p _), ((((hH.del 5 rfl).del 3 rfl).del 2 rfl).del 1 rfl).drop⟩
end
end Go.Proofs.YteagnhdhafiofaaGreat

/- Plain laws: counts taken down one by one. -/
namespace Go.Proofs.YteagnhdhafiofaaGreat

theorem nodup_le {Q : List Nat} {n : Nat} (hn : Q.Nodup) (h : ∀ q ∈ Q, q < n) : Q.length ≤ n := by
  have := hn.length_le_of_subset (l₂ := List.range n) fun q hq => List.mem_range.2 (h q hq)
  simpa using this
/-- Some counts are less by one. -/
def decAll (l : List Nat) (L : List Int) : List Int := l.foldl (fun y u => y.set u (y.getD u 0 - 1)) L
theorem decAll_snoc (l : List Nat) (L : List Int) (u : Nat) : decAll (l ++ [u]) L = (decAll l L).set u ((decAll l L).getD u 0 - 1) := by simp [decAll]
theorem decAll_len : ∀ (l : List Nat) (L : List Int), (decAll l L).length = L.length
  | [], _ => rfl
  | u :: l, L => by simp only [decAll, List.foldl_cons]; exact (decAll_len l _).trans (by simp)
theorem decAll_getD : ∀ {l : List Nat} {L : List Int}, l.Nodup → (∀ u ∈ l, u < L.length) → ∀ i, (decAll l L).getD i 0 = L.getD i 0 - (if i ∈ l then 1 else 0)
  | [], L, _, _, i => by simp [decAll]
  | u :: l, L, hn, hu, i => by
    rw [List.nodup_cons] at hn
    have hul := hu u (by simp)
    have ih := decAll_getD (l := l) (L := L.set u (L.getD u 0 - 1)) hn.2 (fun x hx => by rw [List.length_set]; exact hu x (by simp [hx])) i
    simp only [decAll, List.foldl_cons] at ih ⊢
    rw [ih, getD_setI hul]
    by_cases h : u = i
    · subst h
      rw [if_pos rfl, if_neg hn.1, if_pos (by simp)]; omega
    · have : (i ∈ u :: l) ↔ i ∈ l := by simp [Ne.symm h]
      rw [if_neg h]
      simp only [this]
theorem decAll_take {p : List Nd} (_hv : planOk p = true) {c R : List Int} (hc : c.length = p.length) {a : Nat} : (decAll (usersTo p p.length a) (c ++ R)).take p.length = doneC p c (a : Int) := by
  have hl := decAll_len (usersTo p p.length a) (c ++ R)
  have hn : (usersTo p p.length a).Nodup := List.nodup_range.filter _
  refine List.ext_getElem (by rw [List.length_take, hl, doneC_len]; simp [hc]) fun i h1 h2 => ?_
  have hi : i < p.length := by rw [doneC_len] at h2; exact h2
  rw [List.getElem_take, doneC_get]
  have := decAll_getD (L := c ++ R) hn (fun u hu => by have := (mem_usersTo.1 hu).1; simp [hc]; omega) i
  rw [getD_elem (by rw [hl]; simp [hc]; omega)] at this
  rw [this]
  have h3 : (c ++ R).getD i 0 = c.getD i 0 := by
    rw [List.getD_eq_getElem?_getD, List.getElem?_append_left (by omega), ← List.getD_eq_getElem?_getD]
  rw [h3]
  have h4 : i ∈ usersTo p p.length a ↔ (a : Int) ∈ (p.getD i default).frm := by rw [mem_usersTo]; exact ⟨fun h => h.2, fun h => ⟨hi, h⟩⟩
  simp only [h4]
/-- Who is told, from the users. -/
theorem doneR_eq {p : List Nd} {c : List Int} {a : Nat} : (usersTo p p.length a).filter (fun u => decide (c.getD u 0 = 1)) = doneR p c (a : Int) := by
  unfold usersTo doneR
  rw [List.filter_filter]
  refine List.filter_congr fun i _ => ?_
  rw [Bool.and_comm]
end Go.Proofs.YteagnhdhafiofaaGreat

/- Walks: counts behind a node. -/
namespace Go.Proofs.YteagnhdhafiofaaGreat
open Go.RowKit

section
variable {h : GH} {Ls : List Heaplet} {w : World}

theorem setsame {i : Nat} {X : Heaplet} (hi : Ls[i]? = some X) : Ls.set i X = Ls := by
  have hil : i < Ls.length := (List.getElem?_eq_some_iff.1 hi).1
  apply List.ext_getElem?
  intro j
  rw [List.getElem?_set]
  split
  · rename_i hij; subst hij; exact hi.symm
  · rfl

theorem ctSet_ok {i g : Nat} {L : List Int} {n : Nat} {cv : Value} {c : List Int} (hH : H w h Ls) (hi : Ls[i]? = some (cbox g L n)) (hL : L.length = 10) (hn : n ≤ 10) (hC : RdL h Ls cv c) (_hlim : c.length ≤ 1000000000) :
    Rets Tryz.prog 103 #[ptr g, cv] w fun v w' => (c.length = n ∧ (∀ k, k < n → 0 ≤ c.getD k 0 ∧ c.getD k 0 ≤ L.getD k 0) ∧ v = .bool true ∧ H w' h (Ls.set i (cbox g (c ++ L.drop n) n))) ∨ (¬ (c.length = n ∧ ∀ k, k < n → 0 ≤ c.getD k 0 ∧ c.getD k 0 ≤ L.getD k 0) ∧ v = .bool false ∧ H w' h Ls) := by
  have hsz : ∀ {w}, H w h Ls → w.cell? ((⟨g, 0, none⟩ : Addr).add 10) = some (.int .i64 (n : Int)) := fun {w} hH => (hH.cb i hi 10).trans (cbox_size hL)
  have hcell : ∀ {w}, H w h Ls → ∀ {u}, (hu : u < L.length) → w.cell? (((⟨g, 0, none⟩ : Addr).add 0).add (u * 1)) = some (.int .i64 L[u]) := fun {w} hH {u} hu => by
    have := hH.cbA i hi 0 u
    rw [cbox_get hu] at this
    exact this
  refine rets_enter Tryz.func103 rfl Tryz.ntmps103 (by simp) ?_
  refine WT_seq ?_
  refine WT_region ?_
  refine WL_v rfl (ov_assign rfl) ?_
  refine WL_nil ?_
  refine WT_seq ?_
  refine WT_seq ?_
  refine WT_region ?_
  refine WL_v rfl (ov_move rfl) ?_
  refine WL_v rfl (ov_len rfl hC.sl st_sl_int) ?_
  refine WL_v rfl (ov_move rfl) ?_
  refine WL_v rfl (ov_nilCheck rfl) ?_
  refine WL_v rfl (ov_field rfl fo_impl_countTable_1) ?_
  refine WL_v rfl (ov_load rfl one_int (hsz hH)) ?_
  refine WL_v rfl (ov_neq rfl rfl) ?_
  refine WL_nil ?_
  refine WT_cond rfl (fun hne => ?_) (fun hne => ?_)
  · skip
    first | with_reducible replace hne := of_decide_eq_true hne | with_reducible replace hne := bn_T hne | with_reducible replace hne := bb_T hne | skip
    refine WT_seq ?_
    refine WT_region ?_
    refine WL_v rfl (ov_assign rfl) ?_
    refine WL_nil ?_
    exact WT_ret1 Tryz.func103 Tryz.results103 rfl (.inr ⟨fun hh => hne (by rw [hh.1]), rfl, hH⟩)
  first | with_reducible replace hne := of_decide_eq_false hne | with_reducible replace hne := bn_F hne | with_reducible replace hne := bb_F hne | skip
  have hcn : c.length = n := by omega
  refine WT_skip ?_
  refine WT_seq ?_
  refine WT_seq ?_
  refine WT_region ?_
  refine WL_v rfl (ov_move rfl) ?_
  refine WL_v rfl (ov_len rfl hC.sl st_sl_int) ?_
  refine WL_v rfl (ov_move rfl) ?_
  refine WL_nil ?_
  refine WT_block ?_
  refine WT_while (fun s : Nat => [(0, ptr g), (1, cv), (14, cv), (15, .int .i64 (c.length : Int)), (16, .int .i64 (s : Int))]) (fun k w => k ≤ c.length ∧ (∀ j, j < k → 0 ≤ c.getD j 0 ∧ c.getD j 0 ≤ L.getD j 0) ∧ H w h Ls) (fun k => c.length - k) 0 (by repeat (first | exact trivial | refine ⟨rfl, ?_⟩)) ⟨by omega, by omega, hH⟩ ?_
  clear hH
  rintro k w2 ⟨hk, hall, hH⟩ again
  refine WT_seq ?_
  refine WT_region ?_
  refine WL_v rfl (ov_lss rfl rfl) ?_
  refine WL_nil ?_
  refine WT_seq ?_
  refine WT_cond rfl (fun hc => ?_) (fun hc => ?_)
  · skip
    first | with_reducible replace hc := of_decide_eq_true hc | with_reducible replace hc := bn_T hc | with_reducible replace hc := bb_T hc | skip
    have hkc : k < c.length := by omega
    have hkL : k < L.length := by omega
    by_cases h0 : c[k] < 0
    · skip
      refine WT_skip ?_
      refine WT_seq ?_
      refine WT_block ?_
      refine WT_seq ?_
      refine WT_region ?_
      refine WL_v rfl (ov_move rfl) ?_
      refine WL_v rfl (ov_index rfl rfl st_sl_int hC.sl hkc) ?_
      refine WL_v rfl (ov_load rfl one_int (hC.cell hH hkc)) ?_
      refine WL_v rfl (ov_assign rfl) ?_
      refine WL_v rfl (ov_assign rfl) ?_
      refine WL_nil ?_
      refine WT_seq ?_
      refine WT_region ?_
      refine WL_v rfl (ov_move rfl) ?_
      refine WL_v rfl (ov_T (ov_lss rfl rfl) (by first | exact decide_eq_true h0 | exact nb_T h0 | exact mb_T h0 | exact h0 | (simp only [decide_eq_true_eq]; omega) | simpa using h0)) ?_
      refine WL_v rfl (ov_move rfl) ?_
      refine WL_guardOff rfl rfl rfl rfl ?_
      refine WL_guardOff rfl rfl rfl rfl ?_
      refine WL_guardOff rfl rfl rfl rfl ?_
      refine WL_guardOff rfl rfl rfl rfl ?_
      refine WL_guardOff rfl rfl rfl rfl ?_
      refine WL_guardOff rfl rfl rfl rfl ?_
      refine WL_guardOff rfl rfl rfl rfl ?_
      refine WL_guardOff rfl rfl rfl rfl ?_
      refine WL_v rfl (ov_pickT rfl rfl) ?_
      refine WL_nil ?_
      refine WT_condT rfl ?_
      refine WT_seq ?_
      refine WT_region ?_
      refine WL_v rfl (ov_assign rfl) ?_
      refine WL_nil ?_
      exact WT_ret1 Tryz.func103 Tryz.results103 rfl (.inr ⟨fun hh => by have := hh.2 k (by omega); rw [getD_elem hkc] at this; omega, rfl, hH⟩)
    refine WT_skip ?_
    refine WT_seq ?_
    refine WT_block ?_
    refine WT_seq ?_
    refine WT_region ?_
    refine WL_v rfl (ov_move rfl) ?_
    refine WL_v rfl (ov_index rfl rfl st_sl_int hC.sl hkc) ?_
    refine WL_v rfl (ov_load rfl one_int (hC.cell hH hkc)) ?_
    refine WL_v rfl (ov_assign rfl) ?_
    refine WL_v rfl (ov_assign rfl) ?_
    refine WL_nil ?_
    refine WT_seq ?_
    refine WT_region ?_
    refine WL_v rfl (ov_move rfl) ?_
    refine WL_v rfl (ov_F (ov_lss rfl rfl) (by first | exact decide_eq_false h0 | exact nb_F h0 | exact mb_F h0 | exact h0 | (simp only [decide_eq_false_iff_not]; omega) | simpa using h0)) ?_
    refine WL_v rfl (ov_move rfl) ?_
    refine WL_guardOn rfl rfl ?_
    refine WL_v rfl (ov_move rfl) ?_
    refine WL_guardOn rfl rfl ?_
    refine WL_v rfl (ov_move rfl) ?_
    refine WL_guardOn rfl rfl ?_
    refine WL_v rfl (ov_move rfl) ?_
    refine WL_guardOn rfl rfl ?_
    refine WL_v rfl (ov_nilCheck rfl) ?_
    refine WL_guardOn rfl rfl ?_
    refine WL_v rfl (ov_field rfl fo_impl_countTable_0) ?_
    refine WL_guardOn rfl rfl ?_
    refine WL_v rfl (ov_idxA rfl rfl arr_10int (by omega)) ?_
    refine WL_guardOn rfl rfl ?_
    refine WL_v rfl (ov_load rfl one_int (hcell hH hkL)) ?_
    refine WL_guardOn rfl rfl ?_
    refine WL_v rfl (ov_gtr rfl rfl) ?_
    refine WL_v rfl (ov_pickF rfl rfl) ?_
    refine WL_nil ?_
    refine WT_cond rfl (fun h1 => ?_) (fun h1 => ?_)
    · skip
      first | with_reducible replace h1 := of_decide_eq_true h1 | with_reducible replace h1 := bn_T h1 | with_reducible replace h1 := bb_T h1 | skip
      refine WT_seq ?_
      refine WT_region ?_
      refine WL_v rfl (ov_assign rfl) ?_
      refine WL_nil ?_
      exact WT_ret1 Tryz.func103 Tryz.results103 rfl (.inr ⟨fun hh => by have := hh.2 k (by omega); rw [getD_elem hkc, getD_elem hkL] at this; omega, rfl, hH⟩)
    first | with_reducible replace h1 := of_decide_eq_false h1 | with_reducible replace h1 := bn_F h1 | with_reducible replace h1 := bb_F h1 | skip
    refine WT_skip ?_
    refine WT_inBlock ?_
    refine WT_region ?_
    refine WL_v rfl (ov_add rfl rfl (by omega)) ?_
    refine WL_v rfl (ov_move rfl) ?_
    refine WL_nil ?_
    refine again (k + 1) _ _ (by omega) (by repeat (first | exact trivial | refine ⟨rfl, ?_⟩)) ⟨by omega, fun j hj => ?_, hH⟩
    rcases Nat.lt_or_ge j k with h3 | h3
    · exact hall j h3
    · obtain rfl : j = k := by omega
      rw [getD_elem hkc, getD_elem hkL]; omega
  first | with_reducible replace hc := of_decide_eq_false hc | with_reducible replace hc := bn_F hc | with_reducible replace hc := bb_F hc | skip
  obtain rfl : k = c.length := by omega
  have hsp : (splice ((L.map (Value.int .i64) ++ [Value.int .i64 (n : Int)]).toArray).toList 0 (c.map (Value.int .i64))).toArray = ((c ++ L.drop n).map (Value.int .i64) ++ [Value.int .i64 (n : Int)]).toArray := by
    congr 1
    unfold splice
    have h9 : c.length ≤ (List.map (Value.int .i64) L).length := by simp [hL]; omega
    simp only [List.take_zero, List.nil_append, Nat.zero_add, List.length_map]
    rw [List.drop_append_of_le_length h9, hcn, List.map_append, List.map_drop, List.append_assoc]
  refine WT_exit rfl ?_
  refine WT_seq ?_
  refine WT_region ?_
  refine WL_v rfl (ov_move rfl) ?_
  refine WL_v rfl (ov_nilCheck rfl) ?_
  refine WL_v rfl (ov_field rfl fo_impl_countTable_0) ?_
  refine WL_v rfl (ov_sliceAll rfl arr_10int) ?_
  refine WL_v rfl (ov_move rfl) ?_
  refine WL_copyI rfl hH rfl rfl st_sl_int (i := i) hi hC.sl (hC.cell hH) (by omega) (by simp [hL]; omega) ?_; rintro w3 hH3
  refine WL_nil ?_
  refine WT_seq ?_
  refine WT_region ?_
  refine WL_v rfl (ov_assign rfl) ?_
  refine WL_nil ?_
  rw [hsp] at hH3
  exact WT_ret1 Tryz.func103 Tryz.results103 rfl (.inl ⟨hcn, fun k hk => hall k (by omega), rfl, hH3⟩)

theorem ctTake_ok {i j g : Nat} {L : List Int} {n : Nat} {uv : Value} {U : List Nat} {UX : Heaplet} (hH : H w h Ls) (hi : Ls[i]? = some (cbox g L n)) (hj : Ls[j]? = some UX) (hij : i ≠ j) (hL : L.length = 10) (hU : IRow UX 3 uv (toI U)) (hUn : U.Nodup) (hU10 : ∀ u ∈ U, u < 10) (hr : ∀ u, 0 ≤ L.getD u 0 ∧ L.getD u 0 ≤ 1000) :
    Rets Tryz.prog 104 #[ptr g, uv] w fun v w' => ((∀ u ∈ U, L.getD u 0 ≠ 0) ∧ ∃ X rv, v = .tuple #[rv, .bool true] ∧ IRow X 3 rv (toI (U.filter fun u => decide (L.getD u 0 = 1))) ∧ H w' h (X :: Ls.set i (cbox g (decAll U L) n))) ∨
      (¬ (∀ u ∈ U, L.getD u 0 ≠ 0) ∧ v = .tuple #[.slice none 0 0, .bool false] ∧ ∃ L', H w' h (Ls.set i (cbox g L' n))) := by
  have hil : i < Ls.length := (List.getElem?_eq_some_iff.1 hi).1
  have hjl : j < Ls.length := (List.getElem?_eq_some_iff.1 hj).1
  have hul := toI_len U
  have hUle : U.length ≤ 10 := nodup_le hUn hU10
  have hsi : ∀ {L' : List Int}, (Ls.set i (cbox g L' n))[i]? = some (cbox g L' n) := fun {L'} => by rw [List.getElem?_set, if_pos rfl, if_pos hil]
  have hsj : ∀ {L' : List Int}, (Ls.set i (cbox g L' n))[j]? = some UX := fun {L'} => by rw [List.getElem?_set, if_neg hij]; exact hj
  refine rets_enter Tryz.func104 rfl Tryz.ntmps104 (by simp) ?_
  refine WT_seq ?_
  refine WT_region ?_
  refine WL_v rfl (ov_assign rfl) ?_
  refine WL_v rfl (ov_assign rfl) ?_
  refine WL_nil ?_
  refine WT_seq ?_
  refine WT_region ?_
  refine WL_v rfl (ov_assign rfl) ?_
  refine WL_nil ?_
  refine WT_seq ?_
  refine WT_seq ?_
  refine WT_region ?_
  refine WL_v rfl (ov_move rfl) ?_
  refine WL_v rfl (ov_len rfl hU.sl st_sl_int) ?_
  refine WL_v rfl (ov_move rfl) ?_
  refine WL_nil ?_
  refine WT_block ?_
  refine WT_while (fun s : Nat × Value => [(0, ptr g), (6, s.2), (9, uv), (10, .int .i64 ((toI U).length : Int)), (11, .int .i64 (s.1 : Int))]) (fun s w => s.1 ≤ U.length ∧ (∀ u ∈ U.take s.1, L.getD u 0 ≠ 0) ∧ ∃ X, IRow X 3 s.2 (toI ((U.take s.1).filter fun u => decide (L.getD u 0 = 1))) ∧ H w h (X :: Ls.set i (cbox g (decAll (U.take s.1) L) n))) (fun s => U.length - s.1) (0, .slice none 0 0) (by repeat (first | exact trivial | refine ⟨rfl, ?_⟩)) ⟨by omega, by simp, [], IRow.nil _, by
    have : Ls.set i (cbox g (decAll (U.take 0) L) n) = Ls := setsame hi
    rw [this]; exact hH.nilIn⟩ ?_
  clear hH
  rintro ⟨k, sv⟩ w2 ⟨hk, hall, X, hX, hH⟩ again
  simp only at hk hall hX
  have hfl := List.length_filter_le (fun u => decide (L.getD u 0 = 1)) (U.take k)
  rw [List.length_take] at hfl
  refine WT_seq ?_
  refine WT_region ?_
  refine WL_v rfl (ov_lss rfl rfl) ?_
  refine WL_nil ?_
  refine WT_seq ?_
  refine WT_cond rfl (fun hc => ?_) (fun hc => ?_)
  · skip
    first | with_reducible replace hc := of_decide_eq_true hc | with_reducible replace hc := bn_T hc | with_reducible replace hc := bb_T hc | skip
    simp only at hc
    have hkU : k < U.length := by omega
    have hkt : k < (toI U).length := by omega
    obtain ⟨u, hu⟩ : ∃ u, U[k] = u := ⟨_, rfl⟩
    have hgk : (toI U)[k] = (u : Int) := by simp [toI, hu]
    have hum : u ∈ U := hu ▸ List.getElem_mem hkU
    have hu10 := hU10 u hum
    have hut : u ∉ U.take k := fun hm => by
      obtain ⟨a, ha, he⟩ := List.mem_iff_getElem.1 hm
      rw [List.length_take] at ha
      rw [List.getElem_take, ← hu] at he
      have := (List.getElem_inj hUn).1 he
      omega
    have hdl := decAll_len (U.take k) L
    have hud : u < (decAll (U.take k) L).length := by omega
    have hdu : (decAll (U.take k) L)[u] = L.getD u 0 := by
      have := decAll_getD (l := U.take k) (L := L) (hUn.sublist (List.take_sublist _ _)) (fun x hx => by have := hU10 x (List.mem_of_mem_take hx); omega) u
      rw [getD_elem hud, if_neg hut] at this
      omega
    have hru := hr u
    have hcell : ∀ {w A}, H w h (A :: Ls.set i (cbox g (decAll (U.take k) L) n)) → w.cell? (((⟨g, 0, none⟩ : Addr).add 0).add (u * 1)) = some (.int .i64 (L.getD u 0)) := fun {w A} hH => by
      have := hH.cbA (i + 1) hsi 0 u
      rw [cbox_get hud, hdu] at this
      exact this
    have hcell2 : ∀ {w A B}, H w h (A :: B :: Ls.set i (cbox g (decAll (U.take k) L) n)) → w.cell? (((⟨g, 0, none⟩ : Addr).add 0).add (u * 1)) = some (.int .i64 (L.getD u 0)) := fun {w A B} hH => by
      have := hH.cbA (i + 1 + 1) hsi 0 u
      rw [cbox_get hud, hdu] at this
      exact this
    refine WT_skip ?_
    refine WT_seq ?_
    refine WT_block ?_
    refine WT_seq ?_
    refine WT_region ?_
    refine WL_v rfl (ov_index rfl rfl st_sl_int hU.sl hkt) ?_
    refine WL_v rfl (ov_load rfl one_int (hU.cell hH (i := j + 1) hsj hkt)) ?_; rw [hgk]
    refine WL_v rfl (ov_assign rfl) ?_
    refine WL_nil ?_
    refine WT_seq ?_
    refine WT_seq ?_
    refine WT_region ?_
    refine WL_v rfl (ov_move rfl) ?_
    refine WL_v rfl (ov_move rfl) ?_
    refine WL_v rfl (ov_nilCheck rfl) ?_
    refine WL_v rfl (ov_field rfl fo_impl_countTable_0) ?_
    refine WL_v rfl (ov_idxA rfl rfl arr_10int (by omega)) ?_
    refine WL_v rfl (ov_load rfl one_int (hcell hH)) ?_
    refine WL_v rfl (ov_eql rfl rfl) ?_
    refine WL_nil ?_
    refine WT_cond rfl (fun h0 => ?_) (fun h0 => ?_)
    · skip
      first | with_reducible replace h0 := of_decide_eq_true h0 | with_reducible replace h0 := bn_T h0 | with_reducible replace h0 := bb_T h0 | skip
      refine WT_seq ?_
      refine WT_region ?_
      refine WL_v rfl (ov_assign rfl) ?_
      refine WL_v rfl (ov_assign rfl) ?_
      refine WL_nil ?_
      exact WT_ret2 Tryz.func104 Tryz.results104 rfl rfl (.inr ⟨fun hh => hh u hum h0, rfl, _, hH.drop⟩)
    first | with_reducible replace h0 := of_decide_eq_false h0 | with_reducible replace h0 := bn_F h0 | with_reducible replace h0 := bb_F h0 | skip
    have htk : U.take (k + 1) = U.take k ++ [u] := by rw [List.take_succ_eq_append_getElem hkU, hu]
    have hnew : decAll (U.take (k + 1)) L = (decAll (U.take k) L).set u (L.getD u 0 - 1) := by
      rw [htk, decAll_snoc, getD_elem hud, hdu]
    refine WT_skip ?_
    refine WT_seq ?_
    refine WT_mixL [(0, 0), (1, 0), (2, 0), (3, 0), (4, 0), (5, 0), (6, 0), (7, 0), (8, 0), (9, 0), (10, 3)] mixed (by kernel_rfl) hH ?_
    clear hH
    intro w3 hH hC
    refine WM_v rfl rfl hC (fun _ _ => ov_move rfl) ?_
    refine WM_v rfl rfl hC (fun _ _ => ov_move rfl) ?_
    refine WM_v rfl rfl hC (fun _ _ => ov_nilCheck rfl) ?_
    refine WM_v rfl rfl hC (fun _ _ => ov_field rfl fo_impl_countTable_0) ?_
    refine WM_v rfl rfl hC (fun _ _ => ov_idxA rfl rfl arr_10int (by omega)) ?_
    refine WM_v rfl rfl hC (fun _ ⟨_, hH⟩ => ov_load rfl one_int (hcell2 hH)) ?_
    refine WM_v rfl rfl hC (fun _ _ => ov_sub rfl rfl (by omega)) ?_
    refine WM_v rfl rfl hC (fun _ _ => ov_nilCheck rfl) ?_
    refine WM_v rfl rfl hC (fun _ _ => ov_field rfl fo_impl_countTable_0) ?_
    refine WM_v rfl rfl hC (fun _ _ => ov_idxA rfl rfl arr_10int (by omega)) ?_
    refine WM_e rfl ?_
    refine WL_store hH rfl rfl (i := i + 1) (off := 0 + u) hsi (by show ((⟨g, 0, none⟩ : Addr).add 0).add (u * 1) = _; exact addA g 0 u) (by simp [hdl, hL]; omega) rfl sz_int ?_; rintro w4 hH4
    refine WL_mix (fun h => absurd rfl h) ?_
    refine WM_nil ?_
    refine WT_seq ?_
    refine WT_region ?_
    refine WL_v rfl (ov_move rfl) ?_
    refine WL_v rfl (ov_move rfl) ?_
    refine WL_v rfl (ov_nilCheck rfl) ?_
    refine WL_v rfl (ov_field rfl fo_impl_countTable_0) ?_
    rw [cbox_set hud, List.set_cons_succ, List.set_set, ← hnew] at hH4
    have hH5 : H w4 h (X :: Ls.set i (cbox g (decAll (U.take (k + 1)) L) n)) := hH4
    have hud2 : u < (decAll (U.take (k + 1)) L).length := by rw [decAll_len]; omega
    have hdu2 : (decAll (U.take (k + 1)) L)[u] = L.getD u 0 - 1 := by simp [hnew]
    have hcell3 : ∀ {w A}, H w h (A :: Ls.set i (cbox g (decAll (U.take (k + 1)) L) n)) → w.cell? (((⟨g, 0, none⟩ : Addr).add 0).add (u * 1)) = some (.int .i64 (L.getD u 0 - 1)) := fun {w A} hH => by
      have := hH.cbA (i + 1) hsi 0 u
      rw [cbox_get hud2, hdu2] at this
      exact this
    have hall2 : ∀ x ∈ U.take (k + 1), L.getD x 0 ≠ 0 := fun x hx => by
      rw [htk] at hx
      rcases List.mem_append.1 hx with hx | hx
      · exact hall x hx
      · rw [List.mem_singleton] at hx; rw [hx]; exact h0
    refine WL_v rfl (ov_idxA rfl rfl arr_10int (by omega)) ?_
    refine WL_v rfl (ov_load rfl one_int (hcell3 hH5)) ?_
    refine WL_v rfl (ov_eql rfl rfl) ?_
    refine WL_nil ?_
    refine WT_cond rfl (fun h1 => ?_) (fun h1 => ?_)
    · skip
      first | with_reducible replace h1 := of_decide_eq_true h1 | with_reducible replace h1 := bn_T h1 | with_reducible replace h1 := bb_T h1 | skip
      refine WT_region ?_
      refine WL_v rfl (ov_move rfl) ?_
      refine WL_v rfl (ov_move rfl) ?_
      refine WL_bsI rfl hH5 rfl (run_bs_int _) ?_; rintro Y yv w5 hY hH6
      refine WL_appI (i := 1) (j := 0) rfl hH6 rfl rfl st_sl_int rfl hX rfl hY (by simp only [toI_len, List.length_cons, List.length_nil]; omega) (by simp only [toI_len, List.length_cons, List.length_nil]; omega) ?_; rintro X2 sv2 w6 hX2 hH7
      refine WL_v rfl (ov_assign rfl) ?_
      refine WL_nil ?_
      refine WT_inBlock ?_
      refine WT_region ?_
      refine WL_v rfl (ov_add rfl rfl (by omega)) ?_
      refine WL_v rfl (ov_move rfl) ?_
      refine WL_nil ?_
      refine again (k + 1, sv2) _ _ (by simp only; omega) (by repeat (first | exact trivial | refine ⟨rfl, ?_⟩)) ⟨by simp only; omega, hall2, X2, by simp only; rw [htk, List.filter_append, List.filter_cons, if_pos (by rw [decide_eq_true_eq]; omega), List.filter_nil, toI_snoc]; exact hX2, hH7.drop⟩
    first | with_reducible replace h1 := of_decide_eq_false h1 | with_reducible replace h1 := bn_F h1 | with_reducible replace h1 := bb_F h1 | skip
    refine WT_skip ?_
    refine WT_inBlock ?_
    refine WT_region ?_
    refine WL_v rfl (ov_add rfl rfl (by omega)) ?_
    refine WL_v rfl (ov_move rfl) ?_
    refine WL_nil ?_
    refine again (k + 1, sv) _ _ (by simp only; omega) (by repeat (first | exact trivial | refine ⟨rfl, ?_⟩)) ⟨by simp only; omega, hall2, X, by simp only; rw [htk, List.filter_append, List.filter_cons, if_neg (by rw [decide_eq_true_eq]; omega), List.filter_nil, List.append_nil]; exact hX, hH5⟩
  first | with_reducible replace hc := of_decide_eq_false hc | with_reducible replace hc := bn_F hc | with_reducible replace hc := bb_F hc | skip
  simp only at hc
  obtain rfl : k = U.length := by omega
  rw [List.take_length] at hX hH hall
  refine WT_exit rfl ?_
  refine WT_seq ?_
  refine WT_region ?_
  refine WL_v rfl (ov_move rfl) ?_
  refine WL_v rfl (ov_assign rfl) ?_
  refine WL_v rfl (ov_assign rfl) ?_
  refine WL_nil ?_
  exact WT_ret2 Tryz.func104 Tryz.results104 rfl rfl (.inl ⟨hall, X, sv, rfl, hX, hH⟩)
end
end Go.Proofs.YteagnhdhafiofaaGreat

/- Walks: CountsDone, CountsReady, the reference's counts. -/
namespace Go.Proofs.YteagnhdhafiofaaGreat
open Go.RowKit

/-- What CountsDone returns. -/
def doneCo (p : List Nd) (c : List Int) (a : Int) : List Int := if doneOk p c a = true then doneC p c a else []
def doneRo (p : List Nd) (c : List Int) (a : Int) : List Int := if doneOk p c a = true then toI (doneR p c a) else []

section
variable {h : GH} {Ls : List Heaplet} {w : World}

/-- The result of taking a node out of counts. -/
def DoneV (h : GH) (Ls : List Heaplet) (p : List Nd) (c : List Int) (a : Int) (v : Value) (w' : World) : Prop := ∃ X Y xv yv, v = .tuple #[xv, yv, .bool (doneOk p c a)] ∧ IRow X 3 xv (doneCo p c a) ∧ IRow Y 3 yv (doneRo p c a) ∧ H w' h (X :: Y :: Ls)
theorem doneV_bad {p : List Nd} {c : List Int} {a : Int} (hb : doneOk p c a = false) (hH : H w h Ls) : DoneV h Ls p c a (.tuple #[.slice none 0 0, .slice none 0 0, .bool false]) w :=
  ⟨[], [], _, _, by rw [hb], by unfold doneCo; rw [if_neg (by rw [hb]; simp)]; exact IRow.nil _, by unfold doneRo; rw [if_neg (by rw [hb]; simp)]; exact IRow.nil _, hH.nilIn.nilIn⟩

theorem tabK_rg {p : List Nd} (hv : planOk p = true) (u : Nat) : 0 ≤ (tabK p p.length []).getD u 0 ∧ (tabK p p.length []).getD u 0 ≤ 2 := by
  rcases Nat.lt_or_ge u (tabK p p.length []).length with hu | hu
  · rw [getD_elem hu, tabK_get, cntK_all hv]
    have h1 := needTo_len (p.getD u default).frm
    rcases Nat.lt_or_ge u p.length with h2 | h2
    · have : (p.getD u default).frm.length ≤ 2 := by rw [getD_of h2]; exact NodeOk.len2 (PlanOk.node hv h2)
      simp only [List.not_mem_nil, if_false, Nat.add_zero]; omega
    · rw [getD_default_of h2]; simp [needTo, default]
  · rw [List.getD_eq_getElem?_getD, List.getElem?_eq_none hu]; simp
theorem tabK_val {p : List Nd} (hv : planOk p = true) {u : Nat} (hu : u < p.length) : (tabK p p.length []).getD u 0 = ((needTo (p.getD u default).frm).length : Int) := by
  have hlen := PlanOk.len hv
  rw [getD_elem (by rw [tabK_len]; omega), tabK_get, cntK_all hv]; simp
theorem app_getD {c R : List Int} {u : Nat} (h : u < c.length) : (c ++ R).getD u 0 = c.getD u 0 := by
  rw [List.getD_eq_getElem?_getD, List.getElem?_append_left h, ← List.getD_eq_getElem?_getD]

theorem countsDone_ok (hH : H w h Ls) {pv cv : Value} {p : List Nd} {c : List Int} (hP : Plan h pv p) (hC : RdL h Ls cv c) (hcl : c.length ≤ 1000000000) (a : Int) : Rets Tryz.prog 81 #[pv, cv, .int .i64 a] w (DoneV h Ls p c a) := by
  refine rets_enter Tryz.func81 rfl Tryz.ntmps81 (by simp) ?_
  by_cases hv : planOk p = true
  case neg =>
    have hv' : planOk p = false := by simpa using hv
    refine WT_seq ?_
    refine WT_region ?_
    refine WL_v rfl (ov_assign rfl) ?_
    refine WL_v rfl (ov_assign rfl) ?_
    refine WL_v rfl (ov_assign rfl) ?_
    refine WL_nil ?_
    refine WT_seq ?_
    refine WT_seq ?_
    refine WT_region ?_
    refine WL_v rfl (ov_move rfl) ?_
    refine WL_call rfl rfl cf_impl_PlanValid (planValid_ok hH hP) ?_; rintro _ w1 ⟨rfl, hH1⟩
    refine WL_v rfl (ov_T (ov_not rfl) (by first | exact decide_eq_true hv' | exact nb_T hv' | exact mb_T hv' | exact hv' | (simp only [decide_eq_true_eq]; omega) | simpa using hv')) ?_
    refine WL_v rfl (ov_move rfl) ?_
    refine WL_guardOff rfl rfl rfl rfl ?_
    refine WL_guardOff rfl rfl rfl rfl ?_
    refine WL_guardOff rfl rfl rfl rfl ?_
    refine WL_guardOff rfl rfl rfl rfl ?_
    refine WL_v rfl (ov_pickT rfl rfl) ?_
    refine WL_nil ?_
    refine WT_condT rfl ?_
    refine WT_seq ?_
    refine WT_region ?_
    refine WL_v rfl (ov_assign rfl) ?_
    refine WL_v rfl (ov_assign rfl) ?_
    refine WL_v rfl (ov_assign rfl) ?_
    refine WL_nil ?_
    exact WT_ret3 Tryz.func81 Tryz.results81 rfl rfl rfl (doneV_bad (doneOk_bad fun hh => hv hh.1) hH1)
  have hlen := PlanOk.len hv
  refine WT_seq ?_
  refine WT_region ?_
  refine WL_v rfl (ov_assign rfl) ?_
  refine WL_v rfl (ov_assign rfl) ?_
  refine WL_v rfl (ov_assign rfl) ?_
  refine WL_nil ?_
  refine WT_seq ?_
  refine WT_seq ?_
  refine WT_region ?_
  refine WL_v rfl (ov_move rfl) ?_
  refine WL_call rfl rfl cf_impl_PlanValid (planValid_ok hH hP) ?_; rintro _ w1 ⟨rfl, hH1⟩
  refine WL_v rfl (ov_F (ov_not rfl) (by first | exact decide_eq_false hv | exact nb_F hv | exact mb_F hv | exact hv | (simp only [decide_eq_false_iff_not]; omega) | simpa using hv)) ?_
  refine WL_v rfl (ov_move rfl) ?_
  refine WL_guardOn rfl rfl ?_
  refine WL_v rfl (ov_move rfl) ?_
  refine WL_guardOn rfl rfl ?_
  refine WL_v rfl (ov_move rfl) ?_
  refine WL_guardOn rfl rfl ?_
  refine WL_call rfl rfl cf_impl_isNode (isNode_ok hH1 hP.sl a) ?_; rintro _ w2 ⟨rfl, hH2⟩
  refine WL_guardOn rfl rfl ?_
  refine WL_v rfl (ov_not rfl) ?_
  refine WL_v rfl (ov_pickF rfl rfl) ?_
  refine WL_nil ?_
  refine WT_cond rfl (fun hn => ?_) (fun hn => ?_)
  · skip
    first | with_reducible replace hn := of_decide_eq_true hn | with_reducible replace hn := bn_T hn | with_reducible replace hn := bb_T hn | skip
    refine WT_seq ?_
    refine WT_region ?_
    refine WL_v rfl (ov_assign rfl) ?_
    refine WL_v rfl (ov_assign rfl) ?_
    refine WL_v rfl (ov_assign rfl) ?_
    refine WL_nil ?_
    exact WT_ret3 Tryz.func81 Tryz.results81 rfl rfl rfl (doneV_bad (doneOk_bad fun hh => hn hh.2.1) hH2)
  first | with_reducible replace hn := of_decide_eq_false hn | with_reducible replace hn := bn_F hn | with_reducible replace hn := bb_F hn | skip
  obtain ⟨i, hi⟩ := Int.eq_ofNat_of_zero_le hn.1
  subst hi
  have hin : i < p.length := by omega
  have hC2 : ∀ {A}, RdL h (A :: Ls) cv c := ⟨hC.sl, fun hH _ hj => hC.cell hH.drop hj⟩
  refine WT_skip ?_
  refine WT_seq ?_
  refine WT_region ?_
  refine WL_v rfl (ov_move rfl) ?_
  refine WL_call rfl rfl cf_impl_countTableOf (countTableOf_ok hH2 hP hv) ?_; rintro _ w3 ⟨g, rfl, hH3⟩
  refine WL_v rfl (ov_assign rfl) ?_
  refine WL_nil ?_
  refine WT_seq ?_
  refine WT_seq ?_
  refine WT_region ?_
  refine WL_v rfl (ov_move rfl) ?_
  refine WL_v rfl (ov_move rfl) ?_
  have hset := ctSet_ok hH3 (i := 0) rfl (tabK_len _ _ _) hlen hC2 hcl
  by_cases hcond : c.length = p.length ∧ ∀ k, k < p.length → 0 ≤ c.getD k 0 ∧ c.getD k 0 ≤ (tabK p p.length []).getD k 0
  case neg =>
    have hset2 := hset.mono (R' := fun v w' => v = .bool false ∧ H w' h (cbox g (tabK p p.length []) p.length :: Ls)) fun v w' hh => by
      rcases hh with ⟨h1, h2, _⟩ | ⟨_, h1, h2⟩
      · exact absurd ⟨h1, h2⟩ hcond
      · exact ⟨h1, h2⟩
    refine WL_call rfl rfl cf_p_impl_countTable_set (hset2) ?_; rintro _ w4 ⟨rfl, hH4⟩
    refine WL_v rfl (ov_not rfl) ?_
    refine WL_nil ?_
    refine WT_condT rfl ?_
    refine WT_seq ?_
    refine WT_region ?_
    refine WL_v rfl (ov_assign rfl) ?_
    refine WL_v rfl (ov_assign rfl) ?_
    refine WL_v rfl (ov_assign rfl) ?_
    refine WL_nil ?_
    exact WT_ret3 Tryz.func81 Tryz.results81 rfl rfl rfl (doneV_bad (doneOk_bad fun hh => hcond ⟨hh.2.2.1, fun k hk => by have := (hh.2.2.2 k hk).1; rw [tabK_val hv hk]; exact this⟩) hH4.drop)
  have hset2 := hset.mono (R' := fun v w' => v = .bool true ∧ H w' h (cbox g (c ++ (tabK p p.length []).drop p.length) p.length :: Ls)) fun v w' hh => by
    rcases hh with ⟨_, _, h1, h2⟩ | ⟨h1, _⟩
    · exact ⟨h1, h2⟩
    · exact absurd hcond h1
  clear hset
  obtain ⟨hcn, hcr⟩ := hcond
  generalize hR : (tabK p p.length []).drop p.length = R at hset2
  have hRl : (c ++ R).length = 10 := by rw [← hR, List.length_append, List.length_drop, tabK_len]; omega
  have hrg : ∀ u, 0 ≤ (c ++ R).getD u 0 ∧ (c ++ R).getD u 0 ≤ 1000 := fun u => by
    rcases Nat.lt_or_ge u c.length with hu | hu
    · rw [app_getD hu]
      have h1 := hcr u (by omega)
      have h2 := tabK_rg hv u
      omega
    · have h2 := tabK_rg hv u
      have : (c ++ R).getD u 0 = (tabK p p.length []).getD u 0 := by
        rw [List.getD_eq_getElem?_getD, List.getElem?_append_right hu, ← hR, List.getElem?_drop, ← List.getD_eq_getElem?_getD]
        congr 1
        omega
      omega
  have hu : usesOf p (i : Int) = toI (usersTo p p.length i) := by unfold usesOf; rw [if_pos ⟨hv, hn⟩]; simp
  have hUn : (usersTo p p.length i).Nodup := List.nodup_range.filter _
  have hU10 : ∀ u ∈ usersTo p p.length i, u < 10 := fun u hm => by have := usersTo_lt hm; omega
  refine WL_call rfl rfl cf_p_impl_countTable_set (hset2) ?_; rintro _ w4 ⟨rfl, hH4⟩
  refine WL_v rfl (ov_not rfl) ?_
  refine WL_nil ?_
  refine WT_condF rfl ?_
  refine WT_skip ?_
  refine WT_seq ?_
  refine WT_region ?_
  refine WL_v rfl (ov_move rfl) ?_
  refine WL_v rfl (ov_move rfl) ?_
  refine WL_v rfl (ov_move rfl) ?_
  refine WL_call rfl rfl cf_impl_PlanUses (planUses_ok hH4 hP (i : Int)) ?_; rintro uv w5 ⟨UX, hU, hH5⟩
  rw [hu] at hU
  have htk := ctTake_ok hH5 (i := 1) (j := 0) rfl rfl (by omega) hRl hU hUn hU10 hrg
  by_cases hnz : ∀ u ∈ usersTo p p.length i, (c ++ R).getD u 0 ≠ 0
  case neg =>
    have htk2 := htk.mono (R' := fun v w' => v = .tuple #[.slice none 0 0, .bool false] ∧ ∃ L', H w' h (UX :: cbox g L' p.length :: Ls)) fun v w' hh => by
      rcases hh with ⟨h1, _⟩ | ⟨_, h1, h2⟩
      · exact absurd h1 hnz
      · exact ⟨h1, h2⟩
    refine WL_call rfl rfl cf_p_impl_countTable_take (htk2) ?_; rintro _ w6 ⟨rfl, L', hH6⟩
    refine WL_v rfl (ov_move rfl) ?_
    refine WL_v rfl (ov_extract rfl rfl) ?_
    refine WL_v rfl (ov_extract rfl rfl) ?_
    refine WL_v rfl (ov_assign rfl) ?_
    refine WL_v rfl (ov_assign rfl) ?_
    refine WL_nil ?_
    refine WT_seq ?_
    refine WT_seq ?_
    refine WT_region ?_
    refine WL_v rfl (ov_move rfl) ?_
    refine WL_v rfl (ov_not rfl) ?_
    refine WL_nil ?_
    refine WT_condT rfl ?_
    refine WT_seq ?_
    refine WT_region ?_
    refine WL_v rfl (ov_assign rfl) ?_
    refine WL_v rfl (ov_assign rfl) ?_
    refine WL_v rfl (ov_assign rfl) ?_
    refine WL_nil ?_
    exact WT_ret3 Tryz.func81 Tryz.results81 rfl rfl rfl (doneV_bad (doneOk_bad fun hh => hnz fun u hm => by
      have hup := usersTo_lt hm
      rw [app_getD (by omega)]
      exact (hh.2.2.2 u hup).2 (mem_usersTo.1 hm).2) hH6.drop.drop)
  have htk2 := htk.mono (R' := fun v w' => ∃ X rv, v = .tuple #[rv, .bool true] ∧ IRow X 3 rv (toI ((usersTo p p.length i).filter fun u => decide ((c ++ R).getD u 0 = 1))) ∧ H w' h (X :: UX :: cbox g (decAll (usersTo p p.length i) (c ++ R)) p.length :: Ls)) fun v w' hh => by
    rcases hh with ⟨_, h1⟩ | ⟨h1, _⟩
    · exact h1
    · exact absurd hnz h1
  clear htk
  have hok : doneOk p c (i : Int) = true := doneOk_of hv hn hcn fun k hk => ⟨by have := hcr k hk; rw [tabK_val hv hk] at this; exact this, fun hm => by
    have := hnz k (mem_usersTo.2 ⟨hk, hm⟩)
    rwa [app_getD (by omega)] at this⟩
  have hfil : (usersTo p p.length i).filter (fun u => decide ((c ++ R).getD u 0 = 1)) = doneR p c (i : Int) := by
    rw [← doneR_eq]
    refine List.filter_congr fun u hm => ?_
    rw [app_getD (by have := usersTo_lt hm; omega)]
  rw [hfil] at htk2
  refine WL_call rfl rfl cf_p_impl_countTable_take (htk2) ?_; rintro _ w6 ⟨Y, yv, rfl, hY, hH6⟩
  refine WL_v rfl (ov_move rfl) ?_
  refine WL_v rfl (ov_extract rfl rfl) ?_
  refine WL_v rfl (ov_extract rfl rfl) ?_
  refine WL_v rfl (ov_assign rfl) ?_
  refine WL_v rfl (ov_assign rfl) ?_
  refine WL_nil ?_
  refine WT_seq ?_
  refine WT_seq ?_
  refine WT_region ?_
  refine WL_v rfl (ov_move rfl) ?_
  refine WL_v rfl (ov_not rfl) ?_
  refine WL_nil ?_
  refine WT_condF rfl ?_
  refine WT_skip ?_
  refine WT_seq ?_
  refine WT_region ?_
  refine WL_v rfl (ov_move rfl) ?_
  refine WL_call rfl rfl cf_p_impl_countTable_list (ctList_ok hH6 (i := 2) rfl (by rw [decAll_len]; exact hRl) hlen) ?_; rintro xv w7 ⟨X, hX, hH7⟩
  refine WL_v rfl (ov_move rfl) ?_
  refine WL_v rfl (ov_assign rfl) ?_
  refine WL_v rfl (ov_assign rfl) ?_
  refine WL_v rfl (ov_assign rfl) ?_
  refine WL_nil ?_
  rw [decAll_take hv hcn] at hX
  exact WT_ret3 Tryz.func81 Tryz.results81 rfl rfl rfl ⟨X, Y, xv, yv, by rw [hok]; rfl, by unfold doneCo; rw [if_pos hok]; exact hX, by unfold doneRo; rw [if_pos hok]; exact hY, (hH7.del 3 rfl).del 2 rfl⟩

/-- The places of counts that are 0. -/
def zerosL (c : List Int) (k : Nat) : List Nat := (List.range k).filter fun i => decide (c.getD i 0 = 0)

end
end Go.Proofs.YteagnhdhafiofaaGreat
