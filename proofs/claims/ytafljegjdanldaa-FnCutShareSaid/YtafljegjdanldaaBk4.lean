/- Walks: the rows of a plan: the reference. -/
import Derived.Test.YtafljegjdanldaaBk3
import Derived.Test.YtafljegjdanldaaSlO
import Derived.Test.YtafljegjdanldaaSlM
import Derived.Test.YtafljegjdanldaaSlK
namespace Go.Proofs.Ytafljegjdanldaa
open Go.RowKit

section
variable {h : GH} {Ls : List Heaplet} {w : World}

theorem RdLL.up {X : Heaplet} {v : Value} {ls : List (List Int)} (hA : RdLL h Ls v ls) : RdLL h (X :: Ls) v ls := ⟨hA.sl, fun hi => by
  obtain ⟨u, h1, h2⟩ := hA.at_ hi
  exact ⟨u, h1.up, fun hH => h2 hH.drop⟩⟩

theorem sKindRun_1 (hH : H w h Ls) {rv : Value} {rows : List (List Int)} (hR : RdLL h Ls rv rows) : Rets Try.prog 113 #[.int .i64 1, rv] w fun v w' => RowT h Ls v w' (kindRow 1 rows) := by
  have hkn : kindNeeds 1 = 2 := rfl
  refine rets_enter Try.func113 rfl Try.ntmps113 (by simp) ?_
  refine WT_seq ?_
  refine WT_region ?_
  refine WL_v rfl (ov_assign rfl) ?_
  refine WL_v rfl (ov_assign rfl) ?_
  refine WL_nil ?_
  refine WT_seq ?_
  refine WT_seq ?_
  refine WT_region ?_
  refine WL_v rfl (ov_move rfl) ?_
  refine WL_v rfl (ov_F (ov_eql rfl rfl) (by first | exact decide_eq_false (by decide) | exact nb_F (by decide) | exact mb_F (by decide) | exact (by decide) | (simp only [decide_eq_false_iff_not]; omega) | simpa using (by decide))) ?_
  refine WL_v rfl (ov_move rfl) ?_
  refine WL_guardOn rfl rfl ?_
  refine WL_v rfl (ov_move rfl) ?_
  refine WL_guardOn rfl rfl ?_
  refine WL_call rfl rfl cf_spec_KindNeeds (sKindNeeds_ok hH 1) ?_; rintro _ w1 ⟨rfl, hH1⟩
  refine WL_guardOn rfl rfl ?_
  refine WL_v rfl (ov_move rfl) ?_
  refine WL_guardOn rfl rfl ?_
  refine WL_v rfl (ov_len rfl hR.sl st_sl_sl_int) ?_
  refine WL_guardOn rfl rfl ?_
  refine WL_v rfl (ov_neq rfl rfl) ?_
  refine WL_v rfl (ov_pickF rfl rfl) ?_
  refine WL_nil ?_
  refine WT_cond rfl (fun hl => ?_) (fun hl => ?_)
  · skip
    first | with_reducible replace hl := of_decide_eq_true hl | with_reducible replace hl := bn_T hl | with_reducible replace hl := bb_T hl | skip
    have hl2 : rows.length ≠ 2 := by rw [hkn] at hl; omega
    have hnil : kindRow 1 rows = [] := by
      match rows, hl2 with
      | [], _ => rfl
      | [_], _ => rfl
      | [_, _], hl2 => simp at hl2
      | _ :: _ :: _ :: _, _ => rfl
    rw [hnil]
    refine WT_seq ?_
    refine WT_region ?_
    refine WL_bsI0 rfl hH1 run_bs_int0 ?_; rintro X xv w2 hX hH2
    refine WL_v rfl (ov_assign rfl) ?_
    refine WL_v rfl (ov_assign rfl) ?_
    refine WL_nil ?_
    exact WT_ret2 Try.func113 Try.results113 rfl rfl ⟨xv, false, X, rfl, hX, hH2⟩
  first | with_reducible replace hl := of_decide_eq_false hl | with_reducible replace hl := bn_F hl | with_reducible replace hl := bb_F hl | skip
  have hl2 : rows.length = 2 := by rw [hkn] at hl; omega
  obtain ⟨x, y, rfl⟩ : ∃ x y, rows = [x, y] := by
    match rows, hl2 with
    | [x, y], _ => exact ⟨x, y, rfl⟩
  obtain ⟨u1, g1, c1⟩ := hR.at_ (i := 0) (by simp)
  obtain ⟨u2, g2, c2⟩ := hR.at_ (i := 1) (by simp)
  refine WT_skip ?_
  refine WT_seq ?_
  refine WT_seq ?_
  refine WT_region ?_
  refine WL_v rfl (ov_move rfl) ?_
  refine WL_nil ?_
  refine WT_block ?_
  refine WT_seq ?_
  refine WT_region ?_
  refine WL_v rfl (ov_T (ov_eql rfl rfl) (by first | exact decide_eq_true (by decide) | exact nb_T (by decide) | exact mb_T (by decide) | exact (by decide) | (simp only [decide_eq_true_eq]; omega) | simpa using (by decide))) ?_
  refine WL_v rfl (ov_assign rfl) ?_
  refine WL_nil ?_
  refine WT_condT rfl ?_
  refine WT_seq ?_
  refine WT_mixL [(0, 1), (1, 1), (2, 0), (3, 1), (4, 1), (5, 0), (6, 3), (7, 1), (8, 1), (9, 1), (10, 1)] mixed (by kernel_rfl) hH1 ?_
  clear hH1
  intro w2 hH1 hC
  refine WM_p rfl rfl (fun _ => ov_move rfl) ?_
  refine WM_p rfl rfl (fun _ => ov_index (i := 0) rfl rfl st_sl_sl_int hR.sl (by omega)) ?_
  refine WM_v rfl rfl hC (fun _ ⟨_, hH⟩ => ov_load rfl one_sl_int (c1 hH.drop)) ?_
  refine WM_p rfl rfl (fun _ => ov_move rfl) ?_
  refine WM_p rfl rfl (fun _ => ov_index (i := 1) rfl rfl st_sl_sl_int hR.sl (by omega)) ?_
  refine WM_v rfl rfl hC (fun _ ⟨_, hH⟩ => ov_load rfl one_sl_int (c2 hH.drop)) ?_
  refine WM_e rfl ?_
  refine WL_call rfl rfl cf_spec_RowAdd (sRowAdd_ok hH1 g1 g2) ?_; rintro _ w3 ⟨ru, ok, X, rfl, hX, hH3⟩
  refine WL_mix (fun h => absurd rfl h) ?_
  refine WM_p rfl rfl (fun _ => ov_extract rfl rfl) ?_
  refine WM_p rfl rfl (fun _ => ov_extract rfl rfl) ?_
  refine WM_p rfl rfl (fun _ => ov_assign rfl) ?_
  refine WM_p rfl rfl (fun _ => ov_assign rfl) ?_
  refine WM_nil ?_
  exact WT_ret2 Try.func113 Try.results113 rfl rfl ⟨ru, ok, X, rfl, hX, hH3⟩

theorem sKindRun_2 (hH : H w h Ls) {rv : Value} {rows : List (List Int)} (hR : RdLL h Ls rv rows) : Rets Try.prog 113 #[.int .i64 2, rv] w fun v w' => RowT h Ls v w' (kindRow 2 rows) := by
  have hkn : kindNeeds 2 = 2 := rfl
  refine rets_enter Try.func113 rfl Try.ntmps113 (by simp) ?_
  refine WT_seq ?_
  refine WT_region ?_
  refine WL_v rfl (ov_assign rfl) ?_
  refine WL_v rfl (ov_assign rfl) ?_
  refine WL_nil ?_
  refine WT_seq ?_
  refine WT_seq ?_
  refine WT_region ?_
  refine WL_v rfl (ov_move rfl) ?_
  refine WL_v rfl (ov_F (ov_eql rfl rfl) (by first | exact decide_eq_false (by decide) | exact nb_F (by decide) | exact mb_F (by decide) | exact (by decide) | (simp only [decide_eq_false_iff_not]; omega) | simpa using (by decide))) ?_
  refine WL_v rfl (ov_move rfl) ?_
  refine WL_guardOn rfl rfl ?_
  refine WL_v rfl (ov_move rfl) ?_
  refine WL_guardOn rfl rfl ?_
  refine WL_call rfl rfl cf_spec_KindNeeds (sKindNeeds_ok hH 2) ?_; rintro _ w1 ⟨rfl, hH1⟩
  refine WL_guardOn rfl rfl ?_
  refine WL_v rfl (ov_move rfl) ?_
  refine WL_guardOn rfl rfl ?_
  refine WL_v rfl (ov_len rfl hR.sl st_sl_sl_int) ?_
  refine WL_guardOn rfl rfl ?_
  refine WL_v rfl (ov_neq rfl rfl) ?_
  refine WL_v rfl (ov_pickF rfl rfl) ?_
  refine WL_nil ?_
  refine WT_cond rfl (fun hl => ?_) (fun hl => ?_)
  · skip
    first | with_reducible replace hl := of_decide_eq_true hl | with_reducible replace hl := bn_T hl | with_reducible replace hl := bb_T hl | skip
    have hl2 : rows.length ≠ 2 := by rw [hkn] at hl; omega
    have hnil : kindRow 2 rows = [] := by
      match rows, hl2 with
      | [], _ => rfl
      | [_], _ => rfl
      | [_, _], hl2 => simp at hl2
      | _ :: _ :: _ :: _, _ => rfl
    rw [hnil]
    refine WT_seq ?_
    refine WT_region ?_
    refine WL_bsI0 rfl hH1 run_bs_int0 ?_; rintro X xv w2 hX hH2
    refine WL_v rfl (ov_assign rfl) ?_
    refine WL_v rfl (ov_assign rfl) ?_
    refine WL_nil ?_
    exact WT_ret2 Try.func113 Try.results113 rfl rfl ⟨xv, false, X, rfl, hX, hH2⟩
  first | with_reducible replace hl := of_decide_eq_false hl | with_reducible replace hl := bn_F hl | with_reducible replace hl := bb_F hl | skip
  have hl2 : rows.length = 2 := by rw [hkn] at hl; omega
  obtain ⟨x, y, rfl⟩ : ∃ x y, rows = [x, y] := by
    match rows, hl2 with
    | [x, y], _ => exact ⟨x, y, rfl⟩
  obtain ⟨u1, g1, c1⟩ := hR.at_ (i := 0) (by simp)
  obtain ⟨u2, g2, c2⟩ := hR.at_ (i := 1) (by simp)
  refine WT_skip ?_
  refine WT_seq ?_
  refine WT_seq ?_
  refine WT_region ?_
  refine WL_v rfl (ov_move rfl) ?_
  refine WL_nil ?_
  refine WT_block ?_
  refine WT_seq ?_
  refine WT_region ?_
  refine WL_v rfl (ov_F (ov_eql rfl rfl) (by first | exact decide_eq_false (by decide) | exact nb_F (by decide) | exact mb_F (by decide) | exact (by decide) | (simp only [decide_eq_false_iff_not]; omega) | simpa using (by decide))) ?_
  refine WL_v rfl (ov_assign rfl) ?_
  refine WL_nil ?_
  refine WT_condF rfl ?_
  refine WT_seq ?_
  refine WT_region ?_
  refine WL_v rfl (ov_T (ov_eql rfl rfl) (by first | exact decide_eq_true (by decide) | exact nb_T (by decide) | exact mb_T (by decide) | exact (by decide) | (simp only [decide_eq_true_eq]; omega) | simpa using (by decide))) ?_
  refine WL_v rfl (ov_assign rfl) ?_
  refine WL_nil ?_
  refine WT_condT rfl ?_
  refine WT_seq ?_
  refine WT_mixL [(0, 1), (1, 1), (2, 0), (3, 1), (4, 1), (5, 0), (6, 3), (7, 1), (8, 1), (9, 1), (10, 1)] mixed (by kernel_rfl) hH1 ?_
  clear hH1
  intro w2 hH1 hC
  refine WM_p rfl rfl (fun _ => ov_move rfl) ?_
  refine WM_p rfl rfl (fun _ => ov_index (i := 0) rfl rfl st_sl_sl_int hR.sl (by omega)) ?_
  refine WM_v rfl rfl hC (fun _ ⟨_, hH⟩ => ov_load rfl one_sl_int (c1 hH.drop)) ?_
  refine WM_p rfl rfl (fun _ => ov_move rfl) ?_
  refine WM_p rfl rfl (fun _ => ov_index (i := 1) rfl rfl st_sl_sl_int hR.sl (by omega)) ?_
  refine WM_v rfl rfl hC (fun _ ⟨_, hH⟩ => ov_load rfl one_sl_int (c2 hH.drop)) ?_
  refine WM_e rfl ?_
  refine WL_call rfl rfl cf_spec_RowTimes (sRowTimes_ok hH1 g1 g2) ?_; rintro _ w3 ⟨ru, ok, X, rfl, hX, hH3⟩
  refine WL_mix (fun h => absurd rfl h) ?_
  refine WM_p rfl rfl (fun _ => ov_extract rfl rfl) ?_
  refine WM_p rfl rfl (fun _ => ov_extract rfl rfl) ?_
  refine WM_p rfl rfl (fun _ => ov_assign rfl) ?_
  refine WM_p rfl rfl (fun _ => ov_assign rfl) ?_
  refine WM_nil ?_
  exact WT_ret2 Try.func113 Try.results113 rfl rfl ⟨ru, ok, X, rfl, hX, hH3⟩

theorem sKindRun_3 (hH : H w h Ls) {rv : Value} {rows : List (List Int)} (hR : RdLL h Ls rv rows) : Rets Try.prog 113 #[.int .i64 3, rv] w fun v w' => RowT h Ls v w' (kindRow 3 rows) := by
  have hkn : kindNeeds 3 = 1 := rfl
  refine rets_enter Try.func113 rfl Try.ntmps113 (by simp) ?_
  refine WT_seq ?_
  refine WT_region ?_
  refine WL_v rfl (ov_assign rfl) ?_
  refine WL_v rfl (ov_assign rfl) ?_
  refine WL_nil ?_
  refine WT_seq ?_
  refine WT_seq ?_
  refine WT_region ?_
  refine WL_v rfl (ov_move rfl) ?_
  refine WL_v rfl (ov_F (ov_eql rfl rfl) (by first | exact decide_eq_false (by decide) | exact nb_F (by decide) | exact mb_F (by decide) | exact (by decide) | (simp only [decide_eq_false_iff_not]; omega) | simpa using (by decide))) ?_
  refine WL_v rfl (ov_move rfl) ?_
  refine WL_guardOn rfl rfl ?_
  refine WL_v rfl (ov_move rfl) ?_
  refine WL_guardOn rfl rfl ?_
  refine WL_call rfl rfl cf_spec_KindNeeds (sKindNeeds_ok hH 3) ?_; rintro _ w1 ⟨rfl, hH1⟩
  refine WL_guardOn rfl rfl ?_
  refine WL_v rfl (ov_move rfl) ?_
  refine WL_guardOn rfl rfl ?_
  refine WL_v rfl (ov_len rfl hR.sl st_sl_sl_int) ?_
  refine WL_guardOn rfl rfl ?_
  refine WL_v rfl (ov_neq rfl rfl) ?_
  refine WL_v rfl (ov_pickF rfl rfl) ?_
  refine WL_nil ?_
  refine WT_cond rfl (fun hl => ?_) (fun hl => ?_)
  · skip
    first | with_reducible replace hl := of_decide_eq_true hl | with_reducible replace hl := bn_T hl | with_reducible replace hl := bb_T hl | skip
    have hl2 : rows.length ≠ 1 := by rw [hkn] at hl; omega
    have hnil : kindRow 3 rows = [] := by
      match rows, hl2 with
      | [], _ => rfl
      | [_], hl2 => simp at hl2
      | _ :: _ :: _, _ => rfl
    rw [hnil]
    refine WT_seq ?_
    refine WT_region ?_
    refine WL_bsI0 rfl hH1 run_bs_int0 ?_; rintro X xv w2 hX hH2
    refine WL_v rfl (ov_assign rfl) ?_
    refine WL_v rfl (ov_assign rfl) ?_
    refine WL_nil ?_
    exact WT_ret2 Try.func113 Try.results113 rfl rfl ⟨xv, false, X, rfl, hX, hH2⟩
  first | with_reducible replace hl := of_decide_eq_false hl | with_reducible replace hl := bn_F hl | with_reducible replace hl := bb_F hl | skip
  have hl2 : rows.length = 1 := by rw [hkn] at hl; omega
  obtain ⟨x, rfl⟩ : ∃ x, rows = [x] := by
    match rows, hl2 with
    | [x], _ => exact ⟨x, rfl⟩
  obtain ⟨u1, g1, c1⟩ := hR.at_ (i := 0) (by simp)
  refine WT_skip ?_
  refine WT_seq ?_
  refine WT_seq ?_
  refine WT_region ?_
  refine WL_v rfl (ov_move rfl) ?_
  refine WL_nil ?_
  refine WT_block ?_
  refine WT_seq ?_
  refine WT_region ?_
  refine WL_v rfl (ov_F (ov_eql rfl rfl) (by first | exact decide_eq_false (by decide) | exact nb_F (by decide) | exact mb_F (by decide) | exact (by decide) | (simp only [decide_eq_false_iff_not]; omega) | simpa using (by decide))) ?_
  refine WL_v rfl (ov_assign rfl) ?_
  refine WL_nil ?_
  refine WT_condF rfl ?_
  refine WT_seq ?_
  refine WT_region ?_
  refine WL_v rfl (ov_F (ov_eql rfl rfl) (by first | exact decide_eq_false (by decide) | exact nb_F (by decide) | exact mb_F (by decide) | exact (by decide) | (simp only [decide_eq_false_iff_not]; omega) | simpa using (by decide))) ?_
  refine WL_v rfl (ov_assign rfl) ?_
  refine WL_nil ?_
  refine WT_condF rfl ?_
  refine WT_seq ?_
  refine WT_region ?_
  refine WL_v rfl (ov_T (ov_eql rfl rfl) (by first | exact decide_eq_true (by decide) | exact nb_T (by decide) | exact mb_T (by decide) | exact (by decide) | (simp only [decide_eq_true_eq]; omega) | simpa using (by decide))) ?_
  refine WL_v rfl (ov_assign rfl) ?_
  refine WL_nil ?_
  refine WT_condT rfl ?_
  refine WT_seq ?_
  refine WT_region ?_
  refine WL_v rfl (ov_move rfl) ?_
  refine WL_v rfl (ov_index (i := 0) rfl rfl st_sl_sl_int hR.sl (by omega)) ?_
  refine WL_v rfl (ov_load rfl one_sl_int (c1 hH1)) ?_
  refine WL_call rfl rfl cf_spec_RowSums (sRowSums_ok hH1 g1) ?_; rintro _ w3 ⟨ru, ok, X, rfl, hX, hH3⟩
  refine WL_v rfl (ov_extract rfl rfl) ?_
  refine WL_v rfl (ov_extract rfl rfl) ?_
  refine WL_v rfl (ov_assign rfl) ?_
  refine WL_v rfl (ov_assign rfl) ?_
  refine WL_nil ?_
  exact WT_ret2 Try.func113 Try.results113 rfl rfl ⟨ru, ok, X, rfl, hX, hH3⟩

theorem sKindRun_4 (hH : H w h Ls) {rv : Value} {rows : List (List Int)} (hR : RdLL h Ls rv rows) : Rets Try.prog 113 #[.int .i64 4, rv] w fun v w' => RowT h Ls v w' (kindRow 4 rows) := by
  have hkn : kindNeeds 4 = 1 := rfl
  refine rets_enter Try.func113 rfl Try.ntmps113 (by simp) ?_
  refine WT_seq ?_
  refine WT_region ?_
  refine WL_v rfl (ov_assign rfl) ?_
  refine WL_v rfl (ov_assign rfl) ?_
  refine WL_nil ?_
  refine WT_seq ?_
  refine WT_seq ?_
  refine WT_region ?_
  refine WL_v rfl (ov_move rfl) ?_
  refine WL_v rfl (ov_F (ov_eql rfl rfl) (by first | exact decide_eq_false (by decide) | exact nb_F (by decide) | exact mb_F (by decide) | exact (by decide) | (simp only [decide_eq_false_iff_not]; omega) | simpa using (by decide))) ?_
  refine WL_v rfl (ov_move rfl) ?_
  refine WL_guardOn rfl rfl ?_
  refine WL_v rfl (ov_move rfl) ?_
  refine WL_guardOn rfl rfl ?_
  refine WL_call rfl rfl cf_spec_KindNeeds (sKindNeeds_ok hH 4) ?_; rintro _ w1 ⟨rfl, hH1⟩
  refine WL_guardOn rfl rfl ?_
  refine WL_v rfl (ov_move rfl) ?_
  refine WL_guardOn rfl rfl ?_
  refine WL_v rfl (ov_len rfl hR.sl st_sl_sl_int) ?_
  refine WL_guardOn rfl rfl ?_
  refine WL_v rfl (ov_neq rfl rfl) ?_
  refine WL_v rfl (ov_pickF rfl rfl) ?_
  refine WL_nil ?_
  refine WT_cond rfl (fun hl => ?_) (fun hl => ?_)
  · skip
    first | with_reducible replace hl := of_decide_eq_true hl | with_reducible replace hl := bn_T hl | with_reducible replace hl := bb_T hl | skip
    have hl2 : rows.length ≠ 1 := by rw [hkn] at hl; omega
    have hnil : kindRow 4 rows = [] := by
      match rows, hl2 with
      | [], _ => rfl
      | [_], hl2 => simp at hl2
      | _ :: _ :: _, _ => rfl
    rw [hnil]
    refine WT_seq ?_
    refine WT_region ?_
    refine WL_bsI0 rfl hH1 run_bs_int0 ?_; rintro X xv w2 hX hH2
    refine WL_v rfl (ov_assign rfl) ?_
    refine WL_v rfl (ov_assign rfl) ?_
    refine WL_nil ?_
    exact WT_ret2 Try.func113 Try.results113 rfl rfl ⟨xv, false, X, rfl, hX, hH2⟩
  first | with_reducible replace hl := of_decide_eq_false hl | with_reducible replace hl := bn_F hl | with_reducible replace hl := bb_F hl | skip
  have hl2 : rows.length = 1 := by rw [hkn] at hl; omega
  obtain ⟨x, rfl⟩ : ∃ x, rows = [x] := by
    match rows, hl2 with
    | [x], _ => exact ⟨x, rfl⟩
  obtain ⟨u1, g1, c1⟩ := hR.at_ (i := 0) (by simp)
  refine WT_skip ?_
  refine WT_seq ?_
  refine WT_seq ?_
  refine WT_region ?_
  refine WL_v rfl (ov_move rfl) ?_
  refine WL_nil ?_
  refine WT_block ?_
  refine WT_seq ?_
  refine WT_region ?_
  refine WL_v rfl (ov_F (ov_eql rfl rfl) (by first | exact decide_eq_false (by decide) | exact nb_F (by decide) | exact mb_F (by decide) | exact (by decide) | (simp only [decide_eq_false_iff_not]; omega) | simpa using (by decide))) ?_
  refine WL_v rfl (ov_assign rfl) ?_
  refine WL_nil ?_
  refine WT_condF rfl ?_
  refine WT_seq ?_
  refine WT_region ?_
  refine WL_v rfl (ov_F (ov_eql rfl rfl) (by first | exact decide_eq_false (by decide) | exact nb_F (by decide) | exact mb_F (by decide) | exact (by decide) | (simp only [decide_eq_false_iff_not]; omega) | simpa using (by decide))) ?_
  refine WL_v rfl (ov_assign rfl) ?_
  refine WL_nil ?_
  refine WT_condF rfl ?_
  refine WT_seq ?_
  refine WT_region ?_
  refine WL_v rfl (ov_F (ov_eql rfl rfl) (by first | exact decide_eq_false (by decide) | exact nb_F (by decide) | exact mb_F (by decide) | exact (by decide) | (simp only [decide_eq_false_iff_not]; omega) | simpa using (by decide))) ?_
  refine WL_v rfl (ov_assign rfl) ?_
  refine WL_nil ?_
  refine WT_condF rfl ?_
  refine WT_seq ?_
  refine WT_region ?_
  refine WL_v rfl (ov_T (ov_eql rfl rfl) (by first | exact decide_eq_true (by decide) | exact nb_T (by decide) | exact mb_T (by decide) | exact (by decide) | (simp only [decide_eq_true_eq]; omega) | simpa using (by decide))) ?_
  refine WL_v rfl (ov_assign rfl) ?_
  refine WL_nil ?_
  refine WT_condT rfl ?_
  refine WT_seq ?_
  refine WT_region ?_
  refine WL_v rfl (ov_move rfl) ?_
  refine WL_v rfl (ov_index (i := 0) rfl rfl st_sl_sl_int hR.sl (by omega)) ?_
  refine WL_v rfl (ov_load rfl one_sl_int (c1 hH1)) ?_
  refine WL_call rfl rfl cf_spec_RowSort (sRowSort_ok hH1 g1) ?_; rintro _ w3 ⟨ru, ok, X, rfl, hX, hH3⟩
  refine WL_v rfl (ov_extract rfl rfl) ?_
  refine WL_v rfl (ov_extract rfl rfl) ?_
  refine WL_v rfl (ov_assign rfl) ?_
  refine WL_v rfl (ov_assign rfl) ?_
  refine WL_nil ?_
  exact WT_ret2 Try.func113 Try.results113 rfl rfl ⟨ru, ok, X, rfl, hX, hH3⟩

theorem sKindRun_5 (hH : H w h Ls) {rv : Value} {rows : List (List Int)} (hR : RdLL h Ls rv rows) : Rets Try.prog 113 #[.int .i64 5, rv] w fun v w' => RowT h Ls v w' (kindRow 5 rows) := by
  have hkn : kindNeeds 5 = 1 := rfl
  refine rets_enter Try.func113 rfl Try.ntmps113 (by simp) ?_
  refine WT_seq ?_
  refine WT_region ?_
  refine WL_v rfl (ov_assign rfl) ?_
  refine WL_v rfl (ov_assign rfl) ?_
  refine WL_nil ?_
  refine WT_seq ?_
  refine WT_seq ?_
  refine WT_region ?_
  refine WL_v rfl (ov_move rfl) ?_
  refine WL_v rfl (ov_F (ov_eql rfl rfl) (by first | exact decide_eq_false (by decide) | exact nb_F (by decide) | exact mb_F (by decide) | exact (by decide) | (simp only [decide_eq_false_iff_not]; omega) | simpa using (by decide))) ?_
  refine WL_v rfl (ov_move rfl) ?_
  refine WL_guardOn rfl rfl ?_
  refine WL_v rfl (ov_move rfl) ?_
  refine WL_guardOn rfl rfl ?_
  refine WL_call rfl rfl cf_spec_KindNeeds (sKindNeeds_ok hH 5) ?_; rintro _ w1 ⟨rfl, hH1⟩
  refine WL_guardOn rfl rfl ?_
  refine WL_v rfl (ov_move rfl) ?_
  refine WL_guardOn rfl rfl ?_
  refine WL_v rfl (ov_len rfl hR.sl st_sl_sl_int) ?_
  refine WL_guardOn rfl rfl ?_
  refine WL_v rfl (ov_neq rfl rfl) ?_
  refine WL_v rfl (ov_pickF rfl rfl) ?_
  refine WL_nil ?_
  refine WT_cond rfl (fun hl => ?_) (fun hl => ?_)
  · skip
    first | with_reducible replace hl := of_decide_eq_true hl | with_reducible replace hl := bn_T hl | with_reducible replace hl := bb_T hl | skip
    have hl2 : rows.length ≠ 1 := by rw [hkn] at hl; omega
    have hnil : kindRow 5 rows = [] := by
      match rows, hl2 with
      | [], _ => rfl
      | [_], hl2 => simp at hl2
      | _ :: _ :: _, _ => rfl
    rw [hnil]
    refine WT_seq ?_
    refine WT_region ?_
    refine WL_bsI0 rfl hH1 run_bs_int0 ?_; rintro X xv w2 hX hH2
    refine WL_v rfl (ov_assign rfl) ?_
    refine WL_v rfl (ov_assign rfl) ?_
    refine WL_nil ?_
    exact WT_ret2 Try.func113 Try.results113 rfl rfl ⟨xv, false, X, rfl, hX, hH2⟩
  first | with_reducible replace hl := of_decide_eq_false hl | with_reducible replace hl := bn_F hl | with_reducible replace hl := bb_F hl | skip
  have hl2 : rows.length = 1 := by rw [hkn] at hl; omega
  obtain ⟨x, rfl⟩ : ∃ x, rows = [x] := by
    match rows, hl2 with
    | [x], _ => exact ⟨x, rfl⟩
  obtain ⟨u1, g1, c1⟩ := hR.at_ (i := 0) (by simp)
  refine WT_skip ?_
  refine WT_seq ?_
  refine WT_seq ?_
  refine WT_region ?_
  refine WL_v rfl (ov_move rfl) ?_
  refine WL_nil ?_
  refine WT_block ?_
  refine WT_seq ?_
  refine WT_region ?_
  refine WL_v rfl (ov_F (ov_eql rfl rfl) (by first | exact decide_eq_false (by decide) | exact nb_F (by decide) | exact mb_F (by decide) | exact (by decide) | (simp only [decide_eq_false_iff_not]; omega) | simpa using (by decide))) ?_
  refine WL_v rfl (ov_assign rfl) ?_
  refine WL_nil ?_
  refine WT_condF rfl ?_
  refine WT_seq ?_
  refine WT_region ?_
  refine WL_v rfl (ov_F (ov_eql rfl rfl) (by first | exact decide_eq_false (by decide) | exact nb_F (by decide) | exact mb_F (by decide) | exact (by decide) | (simp only [decide_eq_false_iff_not]; omega) | simpa using (by decide))) ?_
  refine WL_v rfl (ov_assign rfl) ?_
  refine WL_nil ?_
  refine WT_condF rfl ?_
  refine WT_seq ?_
  refine WT_region ?_
  refine WL_v rfl (ov_F (ov_eql rfl rfl) (by first | exact decide_eq_false (by decide) | exact nb_F (by decide) | exact mb_F (by decide) | exact (by decide) | (simp only [decide_eq_false_iff_not]; omega) | simpa using (by decide))) ?_
  refine WL_v rfl (ov_assign rfl) ?_
  refine WL_nil ?_
  refine WT_condF rfl ?_
  refine WT_seq ?_
  refine WT_region ?_
  refine WL_v rfl (ov_F (ov_eql rfl rfl) (by first | exact decide_eq_false (by decide) | exact nb_F (by decide) | exact mb_F (by decide) | exact (by decide) | (simp only [decide_eq_false_iff_not]; omega) | simpa using (by decide))) ?_
  refine WL_v rfl (ov_assign rfl) ?_
  refine WL_nil ?_
  refine WT_condF rfl ?_
  refine WT_skip ?_
  refine WT_inBlock ?_
  refine WT_seq ?_
  refine WT_region ?_
  refine WL_v rfl (ov_move rfl) ?_
  refine WL_v rfl (ov_index (i := 0) rfl rfl st_sl_sl_int hR.sl (by omega)) ?_
  refine WL_v rfl (ov_load rfl one_sl_int (c1 hH1)) ?_
  refine WL_call rfl rfl cf_spec_RowTurn (sRowTurn_ok hH1 g1) ?_; rintro _ w3 ⟨ru, ok, X, rfl, hX, hH3⟩
  refine WL_v rfl (ov_extract rfl rfl) ?_
  refine WL_v rfl (ov_extract rfl rfl) ?_
  refine WL_v rfl (ov_assign rfl) ?_
  refine WL_v rfl (ov_assign rfl) ?_
  refine WL_nil ?_
  exact WT_ret2 Try.func113 Try.results113 rfl rfl ⟨ru, ok, X, rfl, hX, hH3⟩

theorem sKindRun_ok (hH : H w h Ls) {k : Int} (hk : kindOk k = true) (h0 : k ≠ 0) {rv : Value} {rows : List (List Int)} (hR : RdLL h Ls rv rows) : Rets Try.prog 113 #[.int .i64 k, rv] w fun v w' => RowT h Ls v w' (kindRow k rows) := by
  rcases (kindOk_iff k).1 hk with rfl | rfl | rfl | rfl | rfl | rfl
  · exact absurd rfl h0
  · exact sKindRun_1 hH hR
  · exact sKindRun_2 hH hR
  · exact sKindRun_3 hH hR
  · exact sKindRun_4 hH hR
  · exact sKindRun_5 hH hR

/-- Some of a list of lists, by their numbers. -/
structure Pick (h : GH) (Ls : List Heaplet) (us : List Value) (f : List Int) (rows : List (List Int)) (n : Nat) : Prop where
  at_ : ∀ j (hj : j < f.length), j < n → ∃ u, us[j]? = some u ∧ RdL h Ls u (rows.getD (f[j]).toNat [])
theorem Pick.rdll {O : Heaplet} {ov : Value} {us : List Value} {f : List Int} {rows : List (List Int)} (hP : Pick h Ls us f rows f.length) {i : Nat} (hi : Ls[i]? = some O) (hO : Row O 24 1 ov f.length us) : RdLL h Ls ov (f.map fun x => rows.getD x.toNat []) :=
  ⟨by rw [List.length_map]; exact hO.sl, fun {i'} hi' => by
    rw [List.length_map] at hi'
    obtain ⟨u, h1, h2⟩ := hP.at_ i' hi' hi'
    refine ⟨u, by rw [List.getElem_map]; exact h2, fun hH => ?_⟩
    rw [Nat.mul_one]
    exact hO.cell hH hi h1⟩
theorem getLD {rows : List (List Int)} {t : Nat} (h : t < rows.length) : rows.getD t [] = rows[t] := by simp [List.getD_eq_getElem?_getD, List.getElem?_eq_getElem h]

theorem l4Step_ok (hH : H w h Ls) {k : Int} {fv rv mv : Value} {f r : List Int} {rows : List (List Int)} (hF : RdL h Ls fv f) (hR : RdL h Ls rv r) (hM : RdLL h Ls mv rows) (hk : kindOk k = true) (hfl : f.length ≤ 2) (hrl : r.length ≤ 6)
    (hfb : ∀ x ∈ f, 0 ≤ x ∧ x < (rows.length : Int)) : Rets Try.prog 96 #[.agg [.int .i64 k, fv, rv].toArray, mv] w fun v w' => ∃ X, IRow X 3 v (stepL ⟨k, f, r⟩ rows) ∧ H w' h (X :: Ls) := by
  refine rets_enter Try.func96 rfl Try.ntmps96 (by simp) ?_
  refine WT_seq ?_
  refine WT_region ?_
  refine WL_box _ rfl hH rfl rfl ?_; rintro b w1 hH1
  refine WL_v rfl (ov_assign rfl) ?_
  refine WL_nil ?_
  refine WT_seq ?_
  refine WT_seq ?_
  refine WT_region ?_
  refine WL_v rfl (ov_field rfl fo_impl_Node_0) ?_
  refine WL_v rfl (ov_load rfl one_int (hH1.cb 0 rfl 0)) ?_
  refine WL_v rfl (ov_eql rfl rfl) ?_
  refine WL_nil ?_
  refine WT_cond rfl (fun h0 => ?_) (fun h0 => ?_)
  · skip
    first | with_reducible replace h0 := of_decide_eq_true h0 | with_reducible replace h0 := bn_T h0 | with_reducible replace h0 := bb_T h0 | skip
    refine WT_seq ?_
    refine WT_region ?_
    refine WL_bsI0 rfl hH1 run_bs_int0 ?_; rintro X xv w2 hX hH2
    refine WL_v rfl (ov_field rfl fo_impl_Node_2) ?_
    refine WL_v rfl (ov_load rfl one_sl_int (hH2.cb 1 rfl 2)) ?_
    refine WL_appR (i := 0) (xs := []) rfl hH2 rfl rfl st_sl_int rfl hX hR.sl (fun hj => hR.cell hH2.drop.drop hj) (by simp only [List.length_nil]; omega) (by simp only [List.length_nil]; omega) ?_; rintro X2 xv2 w3 hX2 hH3
    refine WL_v rfl (ov_assign rfl) ?_
    refine WL_nil ?_
    exact WT_ret1 Try.func96 Try.results96 rfl ⟨X2, by rw [stepL, if_pos h0]; rw [List.nil_append] at hX2; exact hX2, hH3.del 1 rfl⟩
  first | with_reducible replace h0 := of_decide_eq_false h0 | with_reducible replace h0 := bn_F h0 | with_reducible replace h0 := bb_F h0 | skip
  refine WT_skip ?_
  refine WT_seq ?_
  refine WT_region ?_
  refine WL_buildSlice (sz := 1) (parts := []) (vs := []) [] rfl hH1 rfl run_bs_sl0 rfl (by omega) ?_; rintro O0 ov0 w2 hO0 hH2
  refine WL_v rfl (ov_assign rfl) ?_
  refine WL_nil ?_
  refine WT_seq ?_
  refine WT_seq ?_
  refine WT_region ?_
  refine WL_v rfl (ov_assign rfl) ?_
  refine WL_nil ?_
  refine WT_block ?_
  refine WT_while (fun s : Nat × Value => [(1, mv), (2, ptr b), (5, s.2), (6, .int .i64 (s.1 : Int))]) (fun s w => s.1 ≤ f.length ∧ ∃ O us, Row O 24 1 s.2 s.1 us ∧ Pick h Ls us f rows s.1 ∧ H w h (O :: [(b, .cells #[.int .i64 k, fv, rv] 32 (0, 0))] :: Ls)) (fun s => f.length - s.1) (0, ov0) (by repeat (first | exact trivial | refine ⟨rfl, ?_⟩)) ⟨by simp, O0, [], hO0, ⟨fun j _ h => by simp at h⟩, hH2⟩ ?_
  clear hH hH1 hH2 hO0 O0 ov0
  rintro ⟨j, ov⟩ w3 ⟨hj, O, us, hO, hP, hH⟩ again
  simp only at hj hO hP
  refine WT_seq ?_
  refine WT_seq ?_
  refine WT_region ?_
  refine WL_v rfl (ov_move rfl) ?_
  refine WL_v rfl (ov_field rfl fo_impl_Node_1) ?_
  refine WL_v rfl (ov_load rfl one_sl_int (hH.cb 1 rfl 1)) ?_
  refine WL_v rfl (ov_len rfl hF.sl st_sl_int) ?_
  refine WL_v rfl (ov_lss rfl rfl) ?_
  refine WL_nil ?_
  refine WT_cond rfl (fun hc => ?_) (fun hc => ?_)
  · skip
    first | with_reducible replace hc := of_decide_eq_true hc | with_reducible replace hc := bn_T hc | with_reducible replace hc := bb_T hc | skip
    have hjf : j < f.length := by simp only at hc; omega
    have hfm := List.getElem_mem hjf
    have hfp := hfb _ hfm
    obtain ⟨u, hu⟩ := Int.eq_ofNat_of_zero_le hfp.1
    have hur : u < rows.length := by omega
    obtain ⟨tv, ht, hct⟩ := hM.at_ hur
    obtain ⟨A, cp, htv, _⟩ := ht.sl.form
    have hul := hO.len
    have hrun : ∀ W, (Instr.buildSlice 28 1 #[(0, tv)]).run Try.prog W = .ok (.slice (some ⟨W.heap.size, 0, none⟩) 1 1) (W.alloc (.cells [tv].toArray 24)) := fun W => by rw [htv]; exact run_bs_sl1 _ _ _ W
    refine WT_skip ?_
    refine WT_seq ?_
    refine WT_block ?_
    refine WT_region ?_
    refine WL_v rfl (ov_move rfl) ?_
    refine WL_v rfl (ov_move rfl) ?_
    refine WL_v rfl (ov_field rfl fo_impl_Node_1) ?_
    refine WL_v rfl (ov_load rfl one_sl_int (hH.cb 1 rfl 1)) ?_
    refine WL_v rfl (ov_move rfl) ?_
    refine WL_v rfl (ov_index rfl rfl st_sl_int hF.sl hjf) ?_
    refine WL_v rfl (ov_load rfl one_int (hF.cell hH.drop.drop hjf)) ?_; rw [hu]
    refine WL_v rfl (ov_index rfl rfl st_sl_sl_int hM.sl hur) ?_
    refine WL_v rfl (ov_load rfl one_sl_int (hct hH.drop.drop)) ?_
    refine WL_buildSlice (sz := 1) [tv] rfl hH rfl hrun rfl (by omega) ?_; rintro Y yv w7 hY hH7
    refine WL_append1 (i := 1) (j := 0) (n := j) (m := 1) rfl hH7 rfl rfl st_sl_sl_int (by omega) rfl hO rfl hY (ones_cons ht.sl.one ones_nil) (by omega) (by omega) ?_; rintro O2 ov2 w8 hO2 hH8
    refine WL_v rfl (ov_assign rfl) ?_
    refine WL_nil ?_
    refine WT_inBlock ?_
    refine WT_region ?_
    refine WL_v rfl (ov_move rfl) ?_
    refine WL_v rfl (ov_add rfl rfl (by omega)) ?_
    refine WL_v rfl (ov_assign rfl) ?_
    refine WL_nil ?_
    refine again (j + 1, ov2) _ _ (by simp only; omega) (by repeat (first | exact trivial | refine ⟨rfl, ?_⟩)) ⟨by simp only; omega, O2, us ++ [tv], hO2, ⟨fun i hi hij => ?_⟩, hH8.drop⟩
    simp only at hij
    rcases Nat.lt_or_ge i j with h1 | h1
    · obtain ⟨u', g1, g2⟩ := hP.at_ i hi h1
      exact ⟨u', by rw [List.getElem?_append_left (List.getElem?_eq_some_iff.1 g1).1]; exact g1, g2⟩
    · obtain rfl : i = j := by omega
      refine ⟨tv, by rw [List.getElem?_append_right (by omega)]; simp [hul], ?_⟩
      rw [hu, Int.toNat_natCast, getLD hur]
      exact ht
  first | with_reducible replace hc := of_decide_eq_false hc | with_reducible replace hc := bn_F hc | with_reducible replace hc := bb_F hc | skip
  obtain rfl : j = f.length := by simp only at hc; omega
  have hP2 : Pick h (O :: [(b, .cells #[.int .i64 k, fv, rv] 32 (0, 0))] :: Ls) us f rows f.length := ⟨fun j hj hjn => by
    obtain ⟨u, g1, g2⟩ := hP.at_ j hj hjn
    exact ⟨u, g1, g2.up.up⟩⟩
  refine WT_exit rfl ?_
  refine WT_seq ?_
  refine WT_region ?_
  refine WL_v rfl (ov_field rfl fo_impl_Node_0) ?_
  refine WL_v rfl (ov_load rfl one_int (hH.cb 1 rfl 0)) ?_
  refine WL_v rfl (ov_move rfl) ?_
  refine WL_call rfl rfl cf_spec_KindRun (sKindRun_ok hH hk h0 (hP2.rdll (i := 0) rfl hO)) ?_; rintro _ w4 ⟨xv, ok, X, rfl, hX, hH4⟩
  refine WL_v rfl (ov_move rfl) ?_
  refine WL_v rfl (ov_extract rfl rfl) ?_
  refine WL_v rfl (ov_extract rfl rfl) ?_
  refine WL_v rfl (ov_assign rfl) ?_
  refine WL_v rfl (ov_assign rfl) ?_
  refine WL_nil ?_
  refine WT_seq ?_
  refine WT_region ?_
  refine WL_v rfl (ov_move rfl) ?_
  refine WL_v rfl (ov_assign rfl) ?_
  refine WL_nil ?_
  exact WT_ret1 Try.func96 Try.results96 rfl ⟨X, by rw [stepL, if_neg h0]; exact hX, (hH4.del 2 rfl).del 1 rfl⟩

theorem H.snocT {T O : Heaplet} {Is Ms : List Heaplet} (hH : H w h (T :: O :: (Is ++ Ms))) : H w h (O :: ((Is ++ [T]) ++ Ms)) := by
  refine hH.swap.perm (.cons _ ?_)
  have : (T :: (Is ++ Ms)).Perm (Is ++ T :: Ms) := List.perm_middle.symm
  simpa using this

theorem l4Values_ok (hH : H w h Ls) {pv : Value} {p : List Nd} (hP : Plan h pv p) (hv : planOk p = true) : Rets Try.prog 67 #[pv] w fun v w' => ∃ O Is, OLists O Is v (valsL p) ∧ H w' h (O :: (Is ++ Ls)) := by
  have hlen := PlanOk.len hv
  refine rets_enter Try.func67 rfl Try.ntmps67 (by simp) ?_
  refine WT_seq ?_
  refine WT_region ?_
  refine WL_v rfl (ov_assign rfl) ?_
  refine WL_nil ?_
  refine WT_seq ?_
  refine WT_region ?_
  refine WL_buildSlice (sz := 1) (parts := []) (vs := []) [] rfl hH rfl run_bs_sl0 rfl (by omega) ?_; rintro O0 ov0 w1 hO0 hH1
  refine WL_v rfl (ov_assign rfl) ?_
  refine WL_nil ?_
  refine WT_seq ?_
  refine WT_seq ?_
  refine WT_region ?_
  refine WL_v rfl (ov_assign rfl) ?_
  refine WL_nil ?_
  refine WT_block ?_
  refine WT_while (fun s : Nat × Value => [(0, pv), (3, s.2), (4, .int .i64 (s.1 : Int))]) (fun s w => s.1 ≤ p.length ∧ ∃ O Is, OLists O Is s.2 (valsTo p s.1) ∧ H w h (O :: (Is ++ Ls))) (fun s => p.length - s.1) (0, ov0) (by repeat (first | exact trivial | refine ⟨rfl, ?_⟩)) ⟨by simp, O0, [], OLists.nil _ _ hO0, hH1⟩ ?_
  clear hH hH1 hO0 O0 ov0
  rintro ⟨k, ov⟩ w2 ⟨hk, O, Is, hO, hH⟩ again
  simp only at hk hO
  refine WT_seq ?_
  refine WT_seq ?_
  refine WT_region ?_
  refine WL_v rfl (ov_move rfl) ?_
  refine WL_v rfl (ov_move rfl) ?_
  refine WL_v rfl (ov_len rfl hP.sl st_sl_impl_Node) ?_
  refine WL_v rfl (ov_lss rfl rfl) ?_
  refine WL_nil ?_
  refine WT_cond rfl (fun hc => ?_) (fun hc => ?_)
  · skip
    first | with_reducible replace hc := of_decide_eq_true hc | with_reducible replace hc := bn_T hc | with_reducible replace hc := bb_T hc | skip
    have hkp : k < p.length := by simp only at hc; omega
    obtain ⟨fv, rv, hf, hrr, hcell⟩ := hP.node hkp
    have hN := PlanOk.node hv hkp
    have hf2 := NodeOk.len2 hN
    have hr6 := ((rowOk_iff _).1 hN.row).2
    have hvl := valsTo_len p k
    have hst : valsTo p (k + 1) = valsTo p k ++ [stepL ⟨p[k].kind, p[k].frm, p[k].row⟩ (valsTo p k)] := by rw [valsTo, getD_of hkp]
    refine WT_skip ?_
    refine WT_seq ?_
    refine WT_block ?_
    refine WT_region ?_
    refine WL_v rfl (ov_move rfl) ?_
    refine WL_v rfl (ov_move rfl) ?_
    refine WL_v rfl (ov_move rfl) ?_
    refine WL_v rfl (ov_index rfl rfl st_sl_impl_Node hP.sl hkp) ?_
    refine WL_v rfl (ov_loadN [.int .i64 p[k].kind, fv, rv] rfl agg_impl_Node rfl ((hcell _ _ hH))) ?_
    refine WL_v rfl (ov_move rfl) ?_
    refine WL_call rfl rfl cf_spec_l4Step (l4Step_ok hH (hf.rdl _) (hrr.rdl _) (hO.rdll LAt.cons) hN.kind hf2 hr6 (fun x hx => by have := hN.frm x hx; rw [hvl]; exact this)) ?_; rintro tv w3 ⟨T, hT, hH3⟩
    obtain ⟨A, cp, htv, _⟩ := hT.sl.form
    have hrun : ∀ W, (Instr.buildSlice 28 1 #[(0, tv)]).run Try.prog W = .ok (.slice (some ⟨W.heap.size, 0, none⟩) 1 1) (W.alloc (.cells [tv].toArray 24)) := fun W => by rw [htv]; exact run_bs_sl1 _ _ _ W
    obtain ⟨hil, xs, hR, hat⟩ := hO
    refine WL_buildSlice (sz := 1) [tv] rfl hH3 rfl hrun rfl (by omega) ?_; rintro Y yv w7 hY hH7
    refine WL_append1 (i := 2) (j := 0) (n := (valsTo p k).length) (m := 1) rfl hH7 rfl rfl st_sl_sl_int (by omega) rfl hR rfl hY (ones_cons hT.sl.one ones_nil) (by omega) (by omega) ?_; rintro O2 ov2 w8 hO2 hH8
    refine WL_v rfl (ov_assign rfl) ?_
    refine WL_nil ?_
    refine WT_inBlock ?_
    refine WT_region ?_
    refine WL_v rfl (ov_move rfl) ?_
    refine WL_v rfl (ov_add rfl rfl (by omega)) ?_
    refine WL_v rfl (ov_assign rfl) ?_
    refine WL_nil ?_
    refine again (k + 1, ov2) _ _ (by simp only; omega) (by repeat (first | exact trivial | refine ⟨rfl, ?_⟩)) ⟨by simp only; omega, O2, Is ++ [T], ?_, H.snocT hH8.drop⟩
    simp only
    rw [hst]
    exact OLists.snoc hil hR hat hO2 hT
  first | with_reducible replace hc := of_decide_eq_false hc | with_reducible replace hc := bn_F hc | with_reducible replace hc := bb_F hc | skip
  obtain rfl : k = p.length := by simp only at hc; omega
  refine WT_exit rfl ?_
  refine WT_seq ?_
  refine WT_region ?_
  refine WL_v rfl (ov_move rfl) ?_
  refine WL_v rfl (ov_assign rfl) ?_
  refine WL_nil ?_
  exact WT_ret1 Try.func67 Try.results67 rfl ⟨O, Is, hO, hH⟩
end
end Go.Proofs.Ytafljegjdanldaa

/- Walks: all that a node needs. -/
namespace Go.Proofs.Ytafljegjdanldaa
open Go.RowKit

/-- The variable of ten truths. -/
def sbox (g : Nat) (S : Nat → Bool) : Heaplet := [(g, .cells ((List.range 10).map fun u => Value.bool (S u)).toArray 55 (0, 0))]
theorem sbox_get {S : Nat → Bool} {u : Nat} (hu : u < 10) : (((List.range 10).map fun u => Value.bool (S u)).toArray)[0 + u]? = some (.bool (S u)) := by
  rw [Nat.zero_add, List.getElem?_toArray, List.getElem?_map, List.getElem?_range hu]; rfl
theorem sbox_set {S : Nat → Bool} {u : Nat} (b : Bool) : ((List.range 10).map fun u => Value.bool (S u)).toArray.setIfInBounds (0 + u) (.bool b) = ((List.range 10).map fun a => Value.bool (if a = u then b else S a)).toArray := by
  rw [Nat.zero_add, List.setIfInBounds_toArray]
  congr 1
  refine List.ext_getElem (by simp) fun i h1 h2 => ?_
  rw [List.getElem_set, List.getElem_map, List.getElem_map, List.getElem_range]
  by_cases h : u = i
  · rw [if_pos h, if_pos h.symm]
  · rw [if_neg h, if_neg (fun e => h e.symm)]

section
variable {h : GH} {Ls : List Heaplet}

/-- All that a node needs. -/
noncomputable def needsOf (p : List Nd) (a : Int) : List Int := if planOk p = true ∧ 0 ≤ a ∧ a < (p.length : Int) then toI (needsL p a.toNat) else []

end
end Go.Proofs.Ytafljegjdanldaa

/- Plain laws: what is ready; counts behind a node. -/
namespace Go.Proofs.Ytafljegjdanldaa

/-- Who is ready behind some. -/
def readyB (p : List Nd) (D : List Int) (i : Nat) : Bool := decide ((i : Int) ∉ D) && (p.getD i default).frm.all fun f => decide (f ∈ D)
def readyL (p : List Nd) (D : List Int) : List Nat := (List.range p.length).filter (readyB p D)
theorem mem_readyL {p : List Nd} {D : List Int} {i : Nat} : i ∈ readyL p D ↔ i < p.length ∧ (i : Int) ∉ D ∧ ∀ f ∈ (p.getD i default).frm, f ∈ D := by
  simp [readyL, readyB]
theorem readyL_len (p : List Nd) (D : List Int) : (readyL p D).length ≤ p.length := by
  have := List.length_filter_le (readyB p D) (List.range p.length)
  simpa [readyL] using this
theorem readyL_nodup (p : List Nd) (D : List Int) : (readyL p D).Nodup := List.nodup_range.filter _
theorem readyL_congr {p : List Nd} {D E : List Int} (hv : planOk p = true) (h : ∀ i : Nat, i < p.length → ((i : Int) ∈ D ↔ (i : Int) ∈ E)) : readyL p D = readyL p E := by
  refine List.filter_congr fun i hi => ?_
  have hip := List.mem_range.1 hi
  unfold readyB
  have h1 : decide ((i : Int) ∉ D) = decide ((i : Int) ∉ E) := decide_eq_decide.2 (not_congr (h i hip))
  rw [h1]
  congr 1
  rw [Bool.eq_iff_iff, List.all_eq_true, List.all_eq_true]
  refine forall_congr' fun f => forall_congr' fun hf => ?_
  have := frm_pos hv hip f hf
  have h2 := h f.toNat (by omega)
  rw [show (f.toNat : Int) = f by omega] at h2
  simp only [decide_eq_true_eq, h2]

theorem toI_inj {a b : List Nat} (h : (a.map fun (j : Nat) => (j : Int)) = b.map fun (j : Nat) => (j : Int)) : a = b := by
  have := congrArg (List.map Int.toNat) h
  simpa [List.map_map, Function.comp_def] using this
/-- The first level is what is ready at first. -/
theorem ready_first {p : List Nd} (_hv : planOk p = true) : readyL p [] = levRow p 0 := by
  refine List.filter_congr fun i hi => ?_
  have hip := List.mem_range.1 hi
  have h1 : lev p i = upOf 1 (levelsTo p i) (p.getD i default).frm := levelsTo_getD hip
  unfold readyB
  rw [Bool.eq_iff_iff]
  simp only [List.not_mem_nil, not_false_eq_true, decide_true, Bool.true_and, List.all_eq_true, decide_eq_true_eq, decide_false, Bool.false_eq_true]
  constructor
  · intro h
    have : (p.getD i default).frm = [] := List.eq_nil_iff_forall_not_mem.2 fun f hf => h f hf
    rw [h1, this]; rfl
  · intro h f hf
    have h2 := le_upOf (c := 1) (ps := levelsTo p i) hf
    have h3 : 0 ≤ (levelsTo p i).getD f.toNat 0 := levelsTo_getD_nonneg p i f.toNat
    rw [h1] at h
    have : upOf 1 (levelsTo p i) (p.getD i default).frm = 0 := h
    omega
/-- Behind it the second one is ready. -/
theorem ready_second {p : List Nd} (hv : planOk p = true) : readyL p ((levRow p 0).map fun (j : Nat) => (j : Int)) = levRow p 1 := by
  refine List.filter_congr fun i hi => ?_
  have hip := List.mem_range.1 hi
  have h1 : lev p i = upOf 1 (levelsTo p i) (p.getD i default).frm := levelsTo_getD hip
  have hmem : ∀ f : Int, f ∈ ((levRow p 0).map fun (j : Nat) => (j : Int)) ↔ 0 ≤ f ∧ f.toNat < p.length ∧ lev p f.toNat = 0 := fun f => by
    simp only [List.mem_map]
    constructor
    · rintro ⟨j, hj, rfl⟩
      have := mem_levRow.1 hj
      refine ⟨by omega, by simpa using this.1, by simpa using this.2⟩
    · rintro ⟨h2, h3, h4⟩
      exact ⟨f.toNat, mem_levRow.2 ⟨h3, by simpa using h4⟩, by omega⟩
  unfold readyB
  rw [Bool.eq_iff_iff]
  simp only [Bool.and_eq_true, List.all_eq_true, decide_eq_true_eq, hmem]
  have hup : ∀ f ∈ (p.getD i default).frm, lev p f.toNat + 1 ≤ lev p i := fun f hf => by
    have h2 := le_upOf (c := 1) (ps := levelsTo p i) hf
    have h3 := frm_pos hv hip f hf
    have h4 : (levelsTo p i).getD f.toNat 0 = lev p f.toNat := progTo_same (by omega) (by omega)
    omega
  constructor
  · rintro ⟨h2, h3⟩
    have hne : lev p i ≠ 0 := fun h0 => h2 ⟨by omega, by simpa using hip, by simpa using h0⟩
    have := lev_nonneg p i
    obtain ⟨f, hf1, hf2, hf3⟩ := lev_down hv hip (by omega)
    have := (h3 _ hf2).2.2
    simp only [Int.toNat_natCast] at this
    show lev p i = 1
    omega
  · intro h2
    have h2' : lev p i = 1 := h2
    refine ⟨fun h3 => by have := h3.2.2; simp only [Int.toNat_natCast] at this; omega, fun f hf => ?_⟩
    have h3 := frm_pos hv hip f hf
    have h4 := hup f hf
    have h5 := lev_nonneg p f.toNat
    exact ⟨h3.1, by omega, by omega⟩

/-! counts -/
/-- A node may be taken out of counts. -/
def doneOk (p : List Nd) (c : List Int) (a : Int) : Bool :=
  planOk p && decide (0 ≤ a ∧ a < (p.length : Int)) && decide (c.length = p.length) && (List.range p.length).all fun i => decide (0 ≤ c.getD i 0 ∧ c.getD i 0 ≤ ((needTo (p.getD i default).frm).length : Int)) && !(decide (a ∈ (p.getD i default).frm) && decide (c.getD i 0 = 0))
/-- The counts behind a node. -/
def doneC (p : List Nd) (c : List Int) (a : Int) : List Int := (List.range p.length).map fun i => c.getD i 0 - (if a ∈ (p.getD i default).frm then 1 else 0)
/-- Who is told. -/
def doneR (p : List Nd) (c : List Int) (a : Int) : List Nat := (List.range p.length).filter fun i => decide (a ∈ (p.getD i default).frm) && decide (c.getD i 0 = 1)
theorem doneC_len (p : List Nd) (c : List Int) (a : Int) : (doneC p c a).length = p.length := by simp [doneC]
theorem doneC_get {p : List Nd} {c : List Int} {a : Int} {i : Nat} (h : i < (doneC p c a).length) : (doneC p c a)[i] = c.getD i 0 - (if a ∈ (p.getD i default).frm then 1 else 0) := by simp [doneC]
theorem doneOk_spec {p : List Nd} {c : List Int} {a : Int} (h : doneOk p c a = true) : planOk p = true ∧ (0 ≤ a ∧ a < (p.length : Int)) ∧ c.length = p.length ∧ ∀ i, i < p.length → (0 ≤ c.getD i 0 ∧ c.getD i 0 ≤ ((needTo (p.getD i default).frm).length : Int)) ∧ (a ∈ (p.getD i default).frm → c.getD i 0 ≠ 0) := by
  simp only [doneOk, Bool.and_eq_true, decide_eq_true_eq, List.all_eq_true, List.mem_range, Bool.not_eq_true', Bool.and_eq_false_iff, decide_eq_false_iff_not] at h
  obtain ⟨⟨⟨h1, h2⟩, h3⟩, h4⟩ := h
  refine ⟨h1, h2, h3, fun i hi => ⟨(h4 i hi).1, fun hm h0 => ?_⟩⟩
  rcases (h4 i hi).2 with h5 | h5
  · exact h5 hm
  · exact h5 h0
theorem doneOk_of {p : List Nd} {c : List Int} {a : Int} (h1 : planOk p = true) (h2 : 0 ≤ a ∧ a < (p.length : Int)) (h3 : c.length = p.length) (h4 : ∀ i, i < p.length → (0 ≤ c.getD i 0 ∧ c.getD i 0 ≤ ((needTo (p.getD i default).frm).length : Int)) ∧ (a ∈ (p.getD i default).frm → c.getD i 0 ≠ 0)) : doneOk p c a = true := by
  simp only [doneOk, Bool.and_eq_true, decide_eq_true_eq, List.all_eq_true, List.mem_range, Bool.not_eq_true', Bool.and_eq_false_iff, decide_eq_false_iff_not]
  refine ⟨⟨⟨h1, h2⟩, h3⟩, fun i hi => ⟨(h4 i hi).1, ?_⟩⟩
  by_cases hm : a ∈ (p.getD i default).frm
  · exact .inr ((h4 i hi).2 hm)
  · exact .inl hm
theorem doneOk_bad {p : List Nd} {c : List Int} {a : Int} (h : ¬ (planOk p = true ∧ (0 ≤ a ∧ a < (p.length : Int)) ∧ c.length = p.length ∧ ∀ i, i < p.length → (0 ≤ c.getD i 0 ∧ c.getD i 0 ≤ ((needTo (p.getD i default).frm).length : Int)) ∧ (a ∈ (p.getD i default).frm → c.getD i 0 ≠ 0))) : doneOk p c a = false := by
  cases hd : doneOk p c a with
  | false => rfl
  | true => exact absurd (doneOk_spec hd) h
/-- Counts when the first nodes are done. -/
def leftK (p : List Nd) (k : Nat) : List Int := (List.range p.length).map fun (u : Nat) => ((needTo (p.getD u default).frm).length : Int) - (cntK p k u : Int)
theorem leftK_len (p : List Nd) (k : Nat) : (leftK p k).length = p.length := by simp [leftK]
theorem leftK_getD {p : List Nd} {k u : Nat} (h : u < p.length) : (leftK p k).getD u 0 = ((needTo (p.getD u default).frm).length : Int) - (cntK p k u : Int) := by
  rw [leftK, List.getD_eq_getElem?_getD, List.getElem?_map, List.getElem?_range h]; rfl
theorem leftK_zero (p : List Nd) : leftK p 0 = (List.range p.length).map fun (u : Nat) => ((needTo (p.getD u default).frm).length : Int) := by
  refine List.map_congr_left fun u _ => ?_
  rw [cntK_zero]; simp
theorem leftK_ok {p : List Nd} (hv : planOk p = true) {k : Nat} (hk : k < p.length) : doneOk p (leftK p k) (k : Int) = true ∧ doneC p (leftK p k) (k : Int) = leftK p (k + 1) ∧ (leftK p k).getD k 0 = 0 := by
  refine ⟨doneOk_of hv ⟨by omega, by omega⟩ (leftK_len _ _) fun i hi => ?_, ?_, ?_⟩
  · rw [leftK_getD hi]
    have h1 := cntK_le p k i
    refine ⟨by omega, fun hm => ?_⟩
    have h2 := (mem_needTo' fun f h => (frm_pos hv hi f h).1).2 hm
    have h3 := cntK_succ (p := p) k i
    rw [if_pos h2] at h3
    have h4 := cntK_le p (k + 1) i
    omega
  · refine List.map_congr_left fun i hi => ?_
    have hi' := List.mem_range.1 hi
    rw [leftK_getD hi', cntK_succ]
    by_cases hm : (k : Int) ∈ (p.getD i default).frm
    · have h2 := (mem_needTo' fun f h => (frm_pos hv hi' f h).1).2 hm
      rw [if_pos hm, if_pos h2]; omega
    · have h2 : k ∉ needTo (p.getD i default).frm := fun h => hm ((mem_needTo' fun f h => (frm_pos hv hi' f h).1).1 h)
      rw [if_neg hm, if_neg h2]; omega
  · rw [leftK_getD hk]
    have : cntK p k k = (needTo (p.getD k default).frm).length := by
      unfold cntK
      rw [List.filter_eq_self.2 fun f hf => ?_]
      have h1 := frm_pos hv hk
      have h2 := (h1 _ ((mem_needTo' fun f h => (h1 f h).1).1 hf)).2
      simp; omega
    omega
theorem leftK_all {p : List Nd} (hv : planOk p = true) : leftK p p.length = List.replicate p.length 0 := by
  refine List.ext_getElem (by simp [leftK]) fun i h1 h2 => ?_
  rw [List.getElem_replicate]
  have := leftK_getD (p := p) (k := p.length) (u := i) (by simpa [leftK] using h1)
  rw [getD_elem h1, cntK_all hv] at this
  omega
end Go.Proofs.Ytafljegjdanldaa

/- Walks: what is ready behind some. -/
namespace Go.Proofs.Ytafljegjdanldaa
open Go.RowKit

def readyOf (p : List Nd) (D : List Int) : List Int := if planOk p = true then toI (readyL p D) else []

section
variable {h : GH} {Ls : List Heaplet} {w : World}

theorem l3HasR_ok (hH : H w h Ls) {av : Value} {xs : List Int} (hA : RdL h Ls av xs) (n : Int) : Rets Try.prog 62 #[av, .int .i64 n] w fun v w' => v = .bool (decide (n ∈ xs)) ∧ H w' h Ls := by
  have hal := hA.sl.lim
  refine rets_enter Try.func62 rfl Try.ntmps62 (by simp) ?_
  refine WT_seq ?_
  refine WT_region ?_
  refine WL_v rfl (ov_assign rfl) ?_
  refine WL_nil ?_
  refine WT_seq ?_
  refine WT_seq ?_
  refine WT_region ?_
  refine WL_v rfl (ov_assign rfl) ?_
  refine WL_nil ?_
  refine WT_block ?_
  refine WT_while (fun s : Nat => [(0, av), (1, .int .i64 n), (5, .int .i64 (s : Int))]) (fun k w => k ≤ xs.length ∧ (∀ j (_ : j < k) (h1 : j < xs.length), xs[j] ≠ n) ∧ H w h Ls) (fun k => xs.length - k) 0 (by repeat (first | exact trivial | refine ⟨rfl, ?_⟩)) ⟨by omega, by omega, hH⟩ ?_
  clear hH
  rintro k w2 ⟨hk, hall, hH1⟩ again
  refine WT_seq ?_
  refine WT_seq ?_
  refine WT_region ?_
  refine WL_v rfl (ov_move rfl) ?_
  refine WL_v rfl (ov_move rfl) ?_
  refine WL_v rfl (ov_len rfl hA.sl st_sl_int) ?_
  refine WL_v rfl (ov_lss rfl rfl) ?_
  refine WL_nil ?_
  refine WT_cond rfl (fun hc => ?_) (fun hc => ?_)
  · skip
    first | with_reducible replace hc := of_decide_eq_true hc | with_reducible replace hc := bn_T hc | with_reducible replace hc := bb_T hc | skip
    have hkx : k < xs.length := by omega
    refine WT_skip ?_
    refine WT_seq ?_
    refine WT_block ?_
    refine WT_seq ?_
    refine WT_region ?_
    refine WL_v rfl (ov_move rfl) ?_
    refine WL_v rfl (ov_move rfl) ?_
    refine WL_v rfl (ov_index rfl rfl st_sl_int hA.sl hkx) ?_
    refine WL_v rfl (ov_load rfl one_int (hA.cell hH1 hkx)) ?_
    refine WL_v rfl (ov_move rfl) ?_
    refine WL_v rfl (ov_eql rfl rfl) ?_
    refine WL_nil ?_
    refine WT_cond rfl (fun heq => ?_) (fun heq => ?_)
    · skip
      first | with_reducible replace heq := of_decide_eq_true heq | with_reducible replace heq := bn_T heq | with_reducible replace heq := bb_T heq | skip
      refine WT_seq ?_
      refine WT_region ?_
      refine WL_v rfl (ov_assign rfl) ?_
      refine WL_nil ?_
      exact WT_ret1 Try.func62 Try.results62 rfl ⟨congrArg Value.bool (decide_eq_true (heq ▸ List.getElem_mem hkx)).symm, hH1⟩
    first | with_reducible replace heq := of_decide_eq_false heq | with_reducible replace heq := bn_F heq | with_reducible replace heq := bb_F heq | skip
    refine WT_skip ?_
    refine WT_inBlock ?_
    refine WT_region ?_
    refine WL_v rfl (ov_move rfl) ?_
    refine WL_v rfl (ov_add rfl rfl (by omega)) ?_
    refine WL_v rfl (ov_assign rfl) ?_
    refine WL_nil ?_
    refine again (k + 1) _ _ (by omega) (by repeat (first | exact trivial | refine ⟨rfl, ?_⟩)) ⟨by omega, fun j hj h1 => ?_, hH1⟩
    rcases Nat.lt_or_ge j k with h3 | h3
    · exact hall j h3 h1
    · obtain rfl : j = k := by omega
      exact heq
  first | with_reducible replace hc := of_decide_eq_false hc | with_reducible replace hc := bn_F hc | with_reducible replace hc := bb_F hc | skip
  obtain rfl : k = xs.length := by omega
  refine WT_exit rfl ?_
  refine WT_seq ?_
  refine WT_region ?_
  refine WL_v rfl (ov_assign rfl) ?_
  refine WL_nil ?_
  exact WT_ret1 Try.func62 Try.results62 rfl ⟨congrArg Value.bool (decide_eq_false fun hm => by obtain ⟨j, hj, he⟩ := List.mem_iff_getElem.1 hm; exact hall j hj hj he).symm, hH1⟩

theorem l5All_ok (hH : H w h Ls) {av bv : Value} {xs ys : List Int} (hA : RdL h Ls av xs) (hB : RdL h Ls bv ys) : Rets Try.prog 111 #[av, bv] w fun v w' => v = .bool (ys.all fun f => decide (f ∈ xs)) ∧ H w' h Ls := by
  have hbl := hB.sl.lim
  refine rets_enter Try.func111 rfl Try.ntmps111 (by simp) ?_
  refine WT_seq ?_
  refine WT_region ?_
  refine WL_v rfl (ov_assign rfl) ?_
  refine WL_nil ?_
  refine WT_seq ?_
  refine WT_seq ?_
  refine WT_region ?_
  refine WL_v rfl (ov_assign rfl) ?_
  refine WL_nil ?_
  refine WT_block ?_
  refine WT_while (fun s : Nat => [(0, av), (1, bv), (5, .int .i64 (s : Int))]) (fun k w => k ≤ ys.length ∧ (∀ j (_ : j < k) (h1 : j < ys.length), ys[j] ∈ xs) ∧ H w h Ls) (fun k => ys.length - k) 0 (by repeat (first | exact trivial | refine ⟨rfl, ?_⟩)) ⟨by omega, by omega, hH⟩ ?_
  clear hH
  rintro k w2 ⟨hk, hall, hH1⟩ again
  refine WT_seq ?_
  refine WT_seq ?_
  refine WT_region ?_
  refine WL_v rfl (ov_move rfl) ?_
  refine WL_v rfl (ov_move rfl) ?_
  refine WL_v rfl (ov_len rfl hB.sl st_sl_int) ?_
  refine WL_v rfl (ov_lss rfl rfl) ?_
  refine WL_nil ?_
  refine WT_cond rfl (fun hc => ?_) (fun hc => ?_)
  · skip
    first | with_reducible replace hc := of_decide_eq_true hc | with_reducible replace hc := bn_T hc | with_reducible replace hc := bb_T hc | skip
    have hky : k < ys.length := by omega
    refine WT_skip ?_
    refine WT_seq ?_
    refine WT_block ?_
    refine WT_seq ?_
    refine WT_region ?_
    refine WL_v rfl (ov_move rfl) ?_
    refine WL_v rfl (ov_move rfl) ?_
    refine WL_v rfl (ov_move rfl) ?_
    refine WL_v rfl (ov_index rfl rfl st_sl_int hB.sl hky) ?_
    refine WL_v rfl (ov_load rfl one_int (hB.cell hH1 hky)) ?_
    refine WL_call rfl rfl cf_spec_l3Has (l3HasR_ok hH1 hA _) ?_; rintro _ w3 ⟨rfl, hH3⟩
    refine WL_v rfl (ov_not rfl) ?_
    refine WL_nil ?_
    refine WT_cond rfl (fun hin => ?_) (fun hin => ?_)
    · skip
      first | with_reducible replace hin := of_decide_eq_true hin | with_reducible replace hin := bn_T hin | with_reducible replace hin := bb_T hin | skip
      have hin' : ys[k] ∉ xs := by simpa using hin
      refine WT_seq ?_
      refine WT_region ?_
      refine WL_v rfl (ov_assign rfl) ?_
      refine WL_nil ?_
      exact WT_ret1 Try.func111 Try.results111 rfl ⟨congrArg Value.bool (List.all_eq_false.2 ⟨_, List.getElem_mem hky, by simpa using hin'⟩).symm, hH3⟩
    first | with_reducible replace hin := of_decide_eq_false hin | with_reducible replace hin := bn_F hin | with_reducible replace hin := bb_F hin | skip
    have hin' : ys[k] ∈ xs := by simpa using hin
    refine WT_skip ?_
    refine WT_inBlock ?_
    refine WT_region ?_
    refine WL_v rfl (ov_move rfl) ?_
    refine WL_v rfl (ov_add rfl rfl (by omega)) ?_
    refine WL_v rfl (ov_assign rfl) ?_
    refine WL_nil ?_
    refine again (k + 1) _ _ (by omega) (by repeat (first | exact trivial | refine ⟨rfl, ?_⟩)) ⟨by omega, fun j hj h1 => ?_, hH3⟩
    rcases Nat.lt_or_ge j k with h3 | h3
    · exact hall j h3 h1
    · obtain rfl : j = k := by omega
      exact hin'
  first | with_reducible replace hc := of_decide_eq_false hc | with_reducible replace hc := bn_F hc | with_reducible replace hc := bb_F hc | skip
  obtain rfl : k = ys.length := by omega
  refine WT_exit rfl ?_
  refine WT_seq ?_
  refine WT_region ?_
  refine WL_v rfl (ov_assign rfl) ?_
  refine WL_nil ?_
  exact WT_ret1 Try.func111 Try.results111 rfl ⟨congrArg Value.bool (List.all_eq_true.2 fun x hx => by obtain ⟨j, hj, rfl⟩ := List.mem_iff_getElem.1 hx; exact decide_eq_true (hall j hj hj)).symm, hH1⟩

theorem allIn_ok (hH : H w h Ls) {av : Value} {xs : List Int} {i s : Nat} {S : Nat → Bool} (hA : RdL h Ls av xs) (hi : Ls[i]? = some (sbox s S)) (hr : ∀ x ∈ xs, 0 ≤ x ∧ x < 10) : Rets Try.prog 108 #[av, ptr s] w fun v w' => v = .bool (xs.all fun f => S f.toNat) ∧ H w' h Ls := by
  have hal := hA.sl.lim
  refine rets_enter Try.func108 rfl Try.ntmps108 (by simp) ?_
  refine WT_seq ?_
  refine WT_region ?_
  refine WL_v rfl (ov_assign rfl) ?_
  refine WL_nil ?_
  refine WT_seq ?_
  refine WT_seq ?_
  refine WT_region ?_
  refine WL_v rfl (ov_move rfl) ?_
  refine WL_v rfl (ov_len rfl hA.sl st_sl_int) ?_
  refine WL_v rfl (ov_move rfl) ?_
  refine WL_nil ?_
  refine WT_block ?_
  refine WT_while (fun k : Nat => [(1, ptr s), (7, av), (8, .int .i64 (xs.length : Int)), (9, .int .i64 (k : Int))]) (fun k w => k ≤ xs.length ∧ (∀ j (_ : j < k) (h1 : j < xs.length), S xs[j].toNat = true) ∧ H w h Ls) (fun k => xs.length - k) 0 (by repeat (first | exact trivial | refine ⟨rfl, ?_⟩)) ⟨by omega, by omega, hH⟩ ?_
  clear hH
  rintro k w2 ⟨hk, hall, hH⟩ again
  refine WT_seq ?_
  refine WT_region ?_
  refine WL_v rfl (ov_lss rfl rfl) ?_
  refine WL_nil ?_
  refine WT_seq ?_
  refine WT_cond rfl (fun hc => ?_) (fun hc => ?_)
  · skip
    first | with_reducible replace hc := of_decide_eq_true hc | with_reducible replace hc := bn_T hc | with_reducible replace hc := bb_T hc | skip
    have hkx : k < xs.length := by omega
    have hx := hr _ (List.getElem_mem hkx)
    obtain ⟨u, hu⟩ := Int.eq_ofNat_of_zero_le hx.1
    have hcell : ∀ {w}, H w h Ls → w.cell? ((⟨s, 0, none⟩ : Addr).add (u * 1)) = some (.bool (S u)) := fun {w} hH => by
      rw [hH.cbA i hi 0 u, sbox_get (by omega)]
    refine WT_skip ?_
    refine WT_seq ?_
    refine WT_block ?_
    refine WT_seq ?_
    refine WT_region ?_
    refine WL_v rfl (ov_index rfl rfl st_sl_int hA.sl hkx) ?_
    refine WL_v rfl (ov_load rfl one_int (hA.cell hH hkx)) ?_; rw [hu]
    refine WL_v rfl (ov_assign rfl) ?_
    refine WL_nil ?_
    refine WT_seq ?_
    refine WT_region ?_
    refine WL_v rfl (ov_move rfl) ?_
    refine WL_v rfl (ov_move rfl) ?_
    refine WL_v rfl (ov_nilCheck rfl) ?_
    refine WL_v rfl (ov_idxA rfl rfl arr_10bool (by omega)) ?_
    refine WL_v rfl (ov_load rfl one_bool (hcell hH)) ?_
    refine WL_v rfl (ov_not rfl) ?_
    refine WL_nil ?_
    refine WT_cond rfl (fun hs => ?_) (fun hs => ?_)
    · skip
      first | with_reducible replace hs := of_decide_eq_true hs | with_reducible replace hs := bn_T hs | with_reducible replace hs := bb_T hs | skip
      have hs' : S u = false := by simpa using hs
      refine WT_seq ?_
      refine WT_region ?_
      refine WL_v rfl (ov_assign rfl) ?_
      refine WL_nil ?_
      exact WT_ret1 Try.func108 Try.results108 rfl ⟨congrArg Value.bool (List.all_eq_false.2 ⟨_, List.getElem_mem hkx, by rw [hu, Int.toNat_natCast, hs']; simp⟩).symm, hH⟩
    first | with_reducible replace hs := of_decide_eq_false hs | with_reducible replace hs := bn_F hs | with_reducible replace hs := bb_F hs | skip
    have hs' : S u = true := by simpa using hs
    refine WT_skip ?_
    refine WT_inBlock ?_
    refine WT_region ?_
    refine WL_v rfl (ov_add rfl rfl (by omega)) ?_
    refine WL_v rfl (ov_move rfl) ?_
    refine WL_nil ?_
    refine again (k + 1) _ _ (by omega) (by repeat (first | exact trivial | refine ⟨rfl, ?_⟩)) ⟨by omega, fun j hj h1 => ?_, hH⟩
    rcases Nat.lt_or_ge j k with h3 | h3
    · exact hall j h3 h1
    · obtain rfl : j = k := by omega
      rw [hu, Int.toNat_natCast]; exact hs'
  first | with_reducible replace hc := of_decide_eq_false hc | with_reducible replace hc := bn_F hc | with_reducible replace hc := bb_F hc | skip
  obtain rfl : k = xs.length := by omega
  refine WT_exit rfl ?_
  refine WT_seq ?_
  refine WT_region ?_
  refine WL_v rfl (ov_assign rfl) ?_
  refine WL_nil ?_
  exact WT_ret1 Try.func108 Try.results108 rfl ⟨congrArg Value.bool (List.all_eq_true.2 fun x hx => by obtain ⟨j, hj, rfl⟩ := List.mem_iff_getElem.1 hx; exact hall j hj hj).symm, hH⟩

theorem sbox_zero (s : Nat) : sbox s (fun _ => false) = [(s, .cells #[.bool false, .bool false, .bool false, .bool false, .bool false, .bool false, .bool false, .bool false, .bool false, .bool false] 55 (0, 0))] := rfl

theorem readyOf_ok (hH : H w h Ls) {pv dv : Value} {p : List Nd} {D : List Int} (hP : Plan h pv p) (hD : RdL h Ls dv D) (hdl : D.length ≤ 1000000000) : Rets Try.prog 78 #[pv, dv] w fun v w' => ∃ X, IRow X 3 v (readyOf p D) ∧ H w' h (X :: Ls) := by
  refine rets_enter Try.func78 rfl Try.ntmps78 (by simp) ?_
  refine WT_seq ?_
  refine WT_region ?_
  refine WL_v rfl (ov_assign rfl) ?_
  refine WL_nil ?_
  refine WT_seq ?_
  refine WT_seq ?_
  refine WT_region ?_
  refine WL_v rfl (ov_move rfl) ?_
  refine WL_call rfl rfl cf_impl_PlanValid (planValid_ok hH hP) ?_; rintro _ w1 ⟨rfl, hH1⟩
  refine WL_v rfl (ov_not rfl) ?_
  refine WL_nil ?_
  refine WT_cond rfl (fun hv => ?_) (fun hv => ?_)
  · skip
    first | with_reducible replace hv := of_decide_eq_true hv | with_reducible replace hv := bn_T hv | with_reducible replace hv := bb_T hv | skip
    refine WT_seq ?_
    refine WT_region ?_
    refine WL_v rfl (ov_assign rfl) ?_
    refine WL_nil ?_
    exact WT_ret1 Try.func78 Try.results78 rfl ⟨[], by unfold readyOf; rw [hv]; exact IRow.nil _, hH1.nilIn⟩
  first | with_reducible replace hv := of_decide_eq_false hv | with_reducible replace hv := bn_F hv | with_reducible replace hv := bb_F hv | skip
  have hlen := PlanOk.len hv
  have hDc : ∀ {w X}, H w h (X :: Ls) → ∀ {j} (hj : j < D.length), w.cell? ((slA dv).add (j * 1)) = some (.int .i64 D[j]) := fun hH _ hj => hD.cell hH.drop hj
  refine WT_skip ?_
  refine WT_seq ?_
  refine WT_region ?_
  refine WL_alloc #[.bool false, .bool false, .bool false, .bool false, .bool false, .bool false, .bool false, .bool false, .bool false, .bool false] rfl hH1 zero_10bool rfl ?_; rintro s w2 hH2
  refine WL_nil ?_
  refine WT_seq ?_
  refine WT_seq ?_
  refine WT_region ?_
  refine WL_v rfl (ov_move rfl) ?_
  refine WL_v rfl (ov_len rfl hD.sl st_sl_int) ?_
  refine WL_v rfl (ov_move rfl) ?_
  refine WL_nil ?_
  refine WT_block ?_
  rw [← sbox_zero] at hH2
  refine WT_while (fun k : Nat => [(0, pv), (5, ptr s), (14, dv), (15, .int .i64 (D.length : Int)), (16, .int .i64 (k : Int))]) (fun k w => k ≤ D.length ∧ ∃ S : Nat → Bool, (∀ u, S u = true ↔ u < p.length ∧ (u : Int) ∈ D.take k) ∧ H w h (sbox s S :: Ls)) (fun k => D.length - k) 0 (by repeat (first | exact trivial | refine ⟨rfl, ?_⟩)) ⟨by omega, _, by simp, hH2⟩ ?_
  clear hH hH1 hH2
  rintro k w3 ⟨hk, S, hS, hH⟩ again
  refine WT_seq ?_
  refine WT_region ?_
  refine WL_v rfl (ov_lss rfl rfl) ?_
  refine WL_nil ?_
  refine WT_seq ?_
  refine WT_cond rfl (fun hc => ?_) (fun hc => ?_)
  · skip
    first | with_reducible replace hc := of_decide_eq_true hc | with_reducible replace hc := bn_T hc | with_reducible replace hc := bb_T hc | skip
    have hkd : k < D.length := by omega
    refine WT_skip ?_
    refine WT_seq ?_
    refine WT_block ?_
    refine WT_seq ?_
    refine WT_region ?_
    refine WL_v rfl (ov_index rfl rfl st_sl_int hD.sl hkd) ?_
    refine WL_v rfl (ov_load rfl one_int (hDc hH hkd)) ?_
    refine WL_v rfl (ov_assign rfl) ?_
    refine WL_nil ?_
    refine WT_seq ?_
    refine WT_region ?_
    refine WL_v rfl (ov_move rfl) ?_
    refine WL_v rfl (ov_move rfl) ?_
    refine WL_call rfl rfl cf_impl_isNode (isNode_ok hH hP.sl _) ?_; rintro _ w4 ⟨rfl, hH4⟩
    refine WL_nil ?_
    refine WT_cond rfl (fun hn => ?_) (fun hn => ?_)
    · skip
      first | with_reducible replace hn := of_decide_eq_true hn | with_reducible replace hn := bn_T hn | with_reducible replace hn := bb_T hn | skip
      obtain ⟨u, hu⟩ := Int.eq_ofNat_of_zero_le hn.1
      rw [hu]
      refine WT_region ?_
      refine WL_v rfl (ov_move rfl) ?_
      refine WL_v rfl (ov_idxA rfl rfl arr_10bool (by omega)) ?_
      refine WL_store hH4 rfl rfl (i := 0) (off := 0 + u) rfl (addA s 0 u) (by simp; omega) rfl sz_bool ?_; rintro w5 hH5
      refine WL_nil ?_
      refine WT_inBlock ?_
      refine WT_region ?_
      refine WL_v rfl (ov_add rfl rfl (by omega)) ?_
      refine WL_v rfl (ov_move rfl) ?_
      refine WL_nil ?_
      rw [sbox_set] at hH5
      refine again (k + 1) _ _ (by omega) (by repeat (first | exact trivial | refine ⟨rfl, ?_⟩)) ⟨by omega, _, fun a => ?_, hH5⟩
      rw [List.take_succ_eq_append_getElem hkd, hu, List.mem_append, List.mem_singleton]
      by_cases ha : a = u
      · subst ha
        simp; omega
      · rw [if_neg ha, hS]
        constructor
        · rintro ⟨h1, h2⟩; exact ⟨h1, .inl h2⟩
        · rintro ⟨h1, h2 | h2⟩
          · exact ⟨h1, h2⟩
          · omega
    first | with_reducible replace hn := of_decide_eq_false hn | with_reducible replace hn := bn_F hn | with_reducible replace hn := bb_F hn | skip
    refine WT_skip ?_
    refine WT_inBlock ?_
    refine WT_region ?_
    refine WL_v rfl (ov_add rfl rfl (by omega)) ?_
    refine WL_v rfl (ov_move rfl) ?_
    refine WL_nil ?_
    refine again (k + 1) _ _ (by omega) (by repeat (first | exact trivial | refine ⟨rfl, ?_⟩)) ⟨by omega, S, fun a => ?_, hH4⟩
    rw [List.take_succ_eq_append_getElem hkd, List.mem_append, List.mem_singleton, hS]
    constructor
    · rintro ⟨h1, h2⟩; exact ⟨h1, .inl h2⟩
    · rintro ⟨h1, h2 | h2⟩
      · exact ⟨h1, h2⟩
      · exact absurd ⟨by omega, by omega⟩ hn
  first | with_reducible replace hc := of_decide_eq_false hc | with_reducible replace hc := bn_F hc | with_reducible replace hc := bb_F hc | skip
  obtain rfl : k = D.length := by omega
  rw [List.take_length] at hS
  refine WT_exit rfl ?_
  refine WT_seq ?_
  refine WT_region ?_
  refine WL_v rfl (ov_assign rfl) ?_
  refine WL_nil ?_
  refine WT_seq ?_
  refine WT_seq ?_
  refine WT_region ?_
  refine WL_v rfl (ov_move rfl) ?_
  refine WL_v rfl (ov_len rfl hP.sl st_sl_impl_Node) ?_
  refine WL_v rfl (ov_move rfl) ?_
  refine WL_nil ?_
  refine WT_block ?_
  refine WT_while (fun k : Nat × Value => [(5, ptr s), (8, k.2), (26, pv), (27, .int .i64 (p.length : Int)), (28, .int .i64 (k.1 : Int))]) (fun k w => k.1 ≤ p.length ∧ ∃ X, IRow X 3 k.2 (toI ((List.range k.1).filter (readyB p D))) ∧ H w h (X :: sbox s S :: Ls)) (fun k => p.length - k.1) (0, .slice none 0 0) (by repeat (first | exact trivial | refine ⟨rfl, ?_⟩)) ⟨by omega, [], IRow.nil _, hH.nilIn⟩ ?_
  clear hH
  rintro ⟨k, sv⟩ w4 ⟨hk, X, hX, hH⟩ again
  simp only at hk hX
  have hfl := List.length_filter_le (readyB p D) (List.range k)
  rw [List.length_range] at hfl
  refine WT_seq ?_
  refine WT_region ?_
  refine WL_v rfl (ov_lss rfl rfl) ?_
  refine WL_nil ?_
  refine WT_seq ?_
  refine WT_cond rfl (fun hc => ?_) (fun hc => ?_)
  · skip
    first | with_reducible replace hc := of_decide_eq_true hc | with_reducible replace hc := bn_T hc | with_reducible replace hc := bb_T hc | skip
    simp only at hc
    have hkp : k < p.length := by omega
    obtain ⟨fv, rv, hf, hr, hcell⟩ := hP.node hkp
    have hN := PlanOk.node hv hkp
    have hfr : ∀ x ∈ p[k].frm, 0 ≤ x ∧ x < 10 := fun x hx => by have := hN.frm x hx; omega
    have hall : (p[k].frm.all fun f => S f.toNat) = (p.getD k default).frm.all fun f => decide (f ∈ D) := by
      rw [getD_of hkp, Bool.eq_iff_iff, List.all_eq_true, List.all_eq_true]
      refine forall_congr' fun f => forall_congr' fun hf => ?_
      have := hN.frm f hf
      rw [hS, show (f.toNat : Int) = f by omega]
      simp only [decide_eq_true_eq]
      exact ⟨fun h => h.2, fun h => ⟨by omega, h⟩⟩
    have hSk : S k = decide ((k : Int) ∈ D) := by
      rw [Bool.eq_iff_iff, hS, decide_eq_true_eq]
      exact ⟨fun h => h.2, fun h => ⟨hkp, h⟩⟩
    have hscell : ∀ {w A B}, H w h (A :: B :: sbox s S :: Ls) → w.cell? ((⟨s, 0, none⟩ : Addr).add (k * 1)) = some (.bool (S k)) := fun {w A B} hH => by
      rw [hH.cbA 2 rfl 0 k, sbox_get (by omega)]
    have hrd : readyB p D k = (!S k && p[k].frm.all fun f => S f.toNat) := by
      unfold readyB
      rw [hall, hSk]
      by_cases h9 : (k : Int) ∈ D <;> simp [h9]
    refine WT_skip ?_
    refine WT_seq ?_
    refine WT_block ?_
    refine WT_seq ?_
    refine WT_region ?_
    refine WL_v rfl (ov_move rfl) ?_
    refine WL_v rfl (ov_index rfl rfl st_sl_impl_Node hP.sl hkp) ?_
    refine WL_v rfl (ov_loadN [.int .i64 p[k].kind, fv, rv] rfl agg_impl_Node rfl ((hcell _ _ hH))) ?_
    refine WL_alloc _ rfl hH zero_impl_Node rfl ?_; rintro g w5 hH5
    refine WL_v rfl (ov_assign rfl) ?_
    refine WL_storeN hH5 rfl rfl (i := 0) rfl rfl rfl (ones_cons rfl (ones_cons hf.sl.one (ones_cons hr.sl.one ones_nil))) sz_impl_Node ?_; rintro w6 hH6
    refine WL_nil ?_
    refine WT_seq ?_
    refine WT_region ?_
    refine WL_v rfl (ov_move rfl) ?_
    by_cases hs : S k = true
    · skip
      refine WL_v rfl (ov_idxA rfl rfl arr_10bool (by omega)) ?_
      refine WL_v rfl (ov_load rfl one_bool (hscell hH6)) ?_
      refine WL_v rfl (ov_F (ov_not rfl) (by rw [hs]; rfl)) ?_
      refine WL_v rfl (ov_move rfl) ?_
      refine WL_guardOff rfl rfl rfl rfl ?_
      refine WL_guardOff rfl rfl rfl rfl ?_
      refine WL_guardOff rfl rfl rfl rfl ?_
      refine WL_v rfl (ov_pickF rfl rfl) ?_
      refine WL_nil ?_
      refine WT_condF rfl ?_
      refine WT_skip ?_
      refine WT_inBlock ?_
      refine WT_region ?_
      refine WL_v rfl (ov_add rfl rfl (by omega)) ?_
      refine WL_v rfl (ov_move rfl) ?_
      refine WL_nil ?_
      refine again (k + 1, sv) _ _ (by simp only; omega) (by repeat (first | exact trivial | refine ⟨rfl, ?_⟩)) ⟨by simp only; omega, X, by rw [List.range_succ, List.filter_append, List.filter_cons, if_neg (by rw [hrd, hs]; simp), List.filter_nil, List.append_nil]; exact hX, hH6.drop⟩
    have hs' : S k = false := by simpa using hs
    refine WL_v rfl (ov_idxA rfl rfl arr_10bool (by omega)) ?_
    refine WL_v rfl (ov_load rfl one_bool (hscell hH6)) ?_
    refine WL_v rfl (ov_T (ov_not rfl) (by rw [hs']; rfl)) ?_
    refine WL_v rfl (ov_move rfl) ?_
    refine WL_guardOn rfl rfl ?_
    refine WL_v rfl (ov_field rfl fo_impl_Node_1) ?_
    refine WL_guardOn rfl rfl ?_
    refine WL_v rfl (ov_load rfl one_sl_int (hH6.cb 0 rfl 1)) ?_
    refine WL_guardOn rfl rfl ?_
    refine WL_call rfl rfl cf_impl_allIn (allIn_ok hH6 (hf.rdl _) (i := 2) rfl hfr) ?_; rintro _ w7 ⟨rfl, hH7⟩
    refine WL_v rfl (ov_pickT rfl rfl) ?_
    refine WL_nil ?_
    refine WT_cond rfl (fun ha => ?_) (fun ha => ?_)
    · skip
      first | with_reducible replace ha := of_decide_eq_true ha | with_reducible replace ha := bn_T ha | with_reducible replace ha := bb_T ha | skip
      refine WT_region ?_
      refine WL_v rfl (ov_move rfl) ?_
      refine WL_v rfl (ov_move rfl) ?_
      refine WL_bsI rfl hH7 rfl (run_bs_int _) ?_; rintro Y yv w8 hY hH8
      refine WL_appI (i := 2) (j := 0) rfl hH8 rfl rfl st_sl_int rfl hX rfl hY (by simp only [toI_len, List.length_cons, List.length_nil]; omega) (by simp only [toI_len, List.length_cons, List.length_nil]; omega) ?_; rintro X2 sv2 w9 hX2 hH9
      refine WL_v rfl (ov_assign rfl) ?_
      refine WL_nil ?_
      refine WT_inBlock ?_
      refine WT_region ?_
      refine WL_v rfl (ov_add rfl rfl (by omega)) ?_
      refine WL_v rfl (ov_move rfl) ?_
      refine WL_nil ?_
      refine again (k + 1, sv2) _ _ (by simp only; omega) (by repeat (first | exact trivial | refine ⟨rfl, ?_⟩)) ⟨by simp only; omega, X2, by rw [List.range_succ, List.filter_append, List.filter_cons, if_pos (by rw [hrd, hs', ha]; rfl), List.filter_nil, toI_snoc]; exact hX2, hH9.drop.drop⟩
    first | with_reducible replace ha := of_decide_eq_false ha | with_reducible replace ha := bn_F ha | with_reducible replace ha := bb_F ha | skip
    refine WT_skip ?_
    refine WT_inBlock ?_
    refine WT_region ?_
    refine WL_v rfl (ov_add rfl rfl (by omega)) ?_
    refine WL_v rfl (ov_move rfl) ?_
    refine WL_nil ?_
    refine again (k + 1, sv) _ _ (by simp only; omega) (by repeat (first | exact trivial | refine ⟨rfl, ?_⟩)) ⟨by simp only; omega, X, by rw [List.range_succ, List.filter_append, List.filter_cons, if_neg (by rw [hrd, ha]; simp), List.filter_nil, List.append_nil]; exact hX, hH7.drop⟩
  first | with_reducible replace hc := of_decide_eq_false hc | with_reducible replace hc := bn_F hc | with_reducible replace hc := bb_F hc | skip
  simp only at hc
  obtain rfl : k = p.length := by omega
  refine WT_exit rfl ?_
  refine WT_seq ?_
  refine WT_region ?_
  refine WL_v rfl (ov_move rfl) ?_
  refine WL_v rfl (ov_assign rfl) ?_
  refine WL_nil ?_
  exact WT_ret1 Try.func78 Try.results78 rfl ⟨X, by unfold readyOf; rw [if_pos hv]; exact hX, hH.del 1 rfl⟩

theorem sReadyOf_ok (hH : H w h Ls) {pv dv : Value} {p : List Nd} {D : List Int} (hP : Plan h pv p) (hD : RdL h Ls dv D) (hl : p.length ≤ 1000000000) : Rets Try.prog 83 #[pv, dv] w fun v w' => ∃ X, IRow X 3 v (readyOf p D) ∧ H w' h (X :: Ls) := by
  have hDX : ∀ {X}, RdL h (X :: Ls) dv D := ⟨hD.sl, fun hH _ hj => hD.cell hH.drop hj⟩
  refine rets_enter Try.func83 rfl Try.ntmps83 (by simp) ?_
  refine WT_seq ?_
  refine WT_region ?_
  refine WL_v rfl (ov_assign rfl) ?_
  refine WL_nil ?_
  refine WT_seq ?_
  refine WT_region ?_
  refine WL_bsI0 rfl hH run_bs_int0 ?_; rintro X0 sv0 w1 hX0 hH1
  refine WL_v rfl (ov_assign rfl) ?_
  refine WL_nil ?_
  refine WT_seq ?_
  refine WT_seq ?_
  refine WT_region ?_
  refine WL_v rfl (ov_assign rfl) ?_
  refine WL_nil ?_
  refine WT_block ?_
  refine WT_while (fun s : Nat × Value => [(0, pv), (1, dv), (5, s.2), (6, .int .i64 (s.1 : Int))]) (fun s w => s.1 ≤ p.length ∧ (planOk p = true ∨ s.1 = 0) ∧ ∃ X, IRow X 3 s.2 (toI ((List.range s.1).filter (readyB p D))) ∧ H w h (X :: Ls)) (fun s => p.length - s.1) (0, sv0) (by repeat (first | exact trivial | refine ⟨rfl, ?_⟩)) ⟨by omega, .inr rfl, X0, hX0, hH1⟩ ?_
  clear hH hH1 hX0
  rintro ⟨k, sv⟩ w2 ⟨hk, hvk, X, hX, hH⟩ again
  simp only at hk hX hvk
  have hfl := List.length_filter_le (readyB p D) (List.range k)
  rw [List.length_range] at hfl
  by_cases hkp : k < p.length
  case neg =>
    have hkn : k = p.length := by omega
    subst hkn
    refine WT_seq ?_
    refine WT_seq ?_
    refine WT_region ?_
    refine WL_v rfl (ov_move rfl) ?_
    refine WL_v rfl (ov_move rfl) ?_
    refine WL_v rfl (ov_len rfl hP.sl st_sl_impl_Node) ?_
    refine WL_v rfl (ov_F (ov_lss rfl rfl) (decide_eq_false (by simp only; omega))) ?_
    refine WL_v rfl (ov_move rfl) ?_
    refine WL_guardOff rfl rfl rfl rfl ?_
    refine WL_guardOff rfl rfl rfl rfl ?_
    refine WL_v rfl (ov_pickF rfl rfl) ?_
    refine WL_nil ?_
    refine WT_condF rfl ?_
    refine WT_exit rfl ?_
    refine WT_seq ?_
    refine WT_region ?_
    refine WL_v rfl (ov_move rfl) ?_
    refine WL_v rfl (ov_assign rfl) ?_
    refine WL_nil ?_
    exact WT_ret1 Try.func83 Try.results83 rfl ⟨X, by
      unfold readyOf
      rcases hvk with hv | h0
      · rw [if_pos hv]; exact hX
      · rw [h0] at hX
        have : p = [] := List.eq_nil_of_length_eq_zero h0
        subst this
        split <;> exact hX, hH⟩
  refine WT_seq ?_
  refine WT_seq ?_
  refine WT_region ?_
  refine WL_v rfl (ov_move rfl) ?_
  refine WL_v rfl (ov_move rfl) ?_
  refine WL_v rfl (ov_len rfl hP.sl st_sl_impl_Node) ?_
  refine WL_v rfl (ov_T (ov_lss rfl rfl) (decide_eq_true (by simp only; omega))) ?_
  refine WL_v rfl (ov_move rfl) ?_
  refine WL_guardOn rfl rfl ?_
  refine WL_v rfl (ov_move rfl) ?_
  refine WL_guardOn rfl rfl ?_
  refine WL_call rfl rfl cf_spec_PlanValid (sPlanValid_ok hH hP hl) ?_; rintro _ w3 ⟨rfl, hH3⟩
  refine WL_v rfl (ov_pickT rfl rfl) ?_
  refine WL_nil ?_
  refine WT_cond rfl (fun hv => ?_) (fun hv => ?_)
  · skip
    first | with_reducible replace hv := of_decide_eq_true hv | with_reducible replace hv := bn_T hv | with_reducible replace hv := bb_T hv | skip
    have hlen := PlanOk.len hv
    obtain ⟨fv, rv, hf, hr, hcell⟩ := hP.node hkp
    have hrd : readyB p D k = (!decide ((k : Int) ∈ D) && p[k].frm.all fun f => decide (f ∈ D)) := by
      unfold readyB
      rw [getD_of hkp]
      by_cases h9 : (k : Int) ∈ D <;> simp [h9]
    by_cases hs : (k : Int) ∈ D
    · skip
      refine WT_skip ?_
      refine WT_seq ?_
      refine WT_block ?_
      refine WT_seq ?_
      refine WT_region ?_
      refine WL_v rfl (ov_move rfl) ?_
      refine WL_v rfl (ov_move rfl) ?_
      refine WL_call rfl rfl cf_spec_l3Has (l3HasR_ok hH3 hDX _) ?_; rintro _ w4 ⟨rfl, hH4⟩
      refine WL_v rfl (ov_F (ov_not rfl) (by rw [decide_eq_true hs]; rfl)) ?_
      refine WL_v rfl (ov_move rfl) ?_
      refine WL_guardOff rfl rfl rfl rfl ?_
      refine WL_guardOff rfl rfl rfl rfl ?_
      refine WL_guardOff rfl rfl rfl rfl ?_
      refine WL_guardOff rfl rfl rfl rfl ?_
      refine WL_guardOff rfl rfl rfl rfl ?_
      refine WL_guardOff rfl rfl rfl rfl ?_
      refine WL_guardOff rfl rfl rfl rfl ?_
      refine WL_v rfl (ov_pickF rfl rfl) ?_
      refine WL_nil ?_
      refine WT_condF rfl ?_
      refine WT_skip ?_
      refine WT_inBlock ?_
      refine WT_region ?_
      refine WL_v rfl (ov_move rfl) ?_
      refine WL_v rfl (ov_add rfl rfl (by omega)) ?_
      refine WL_v rfl (ov_assign rfl) ?_
      refine WL_nil ?_
      refine again (k + 1, sv) _ _ (by simp only; omega) (by repeat (first | exact trivial | refine ⟨rfl, ?_⟩)) ⟨by simp only; omega, .inl hv, X, by rw [List.range_succ, List.filter_append, List.filter_cons, if_neg (by rw [hrd, decide_eq_true hs]; simp), List.filter_nil, List.append_nil]; exact hX, hH4⟩
    refine WT_skip ?_
    refine WT_seq ?_
    refine WT_block ?_
    refine WT_seq ?_
    refine WT_region ?_
    refine WL_v rfl (ov_move rfl) ?_
    refine WL_v rfl (ov_move rfl) ?_
    refine WL_call rfl rfl cf_spec_l3Has (l3HasR_ok hH3 hDX _) ?_; rintro _ w4 ⟨rfl, hH4⟩
    refine WL_v rfl (ov_T (ov_not rfl) (by rw [decide_eq_false hs]; rfl)) ?_
    refine WL_v rfl (ov_move rfl) ?_
    refine WL_guardOn rfl rfl ?_
    refine WL_v rfl (ov_move rfl) ?_
    refine WL_guardOn rfl rfl ?_
    refine WL_v rfl (ov_move rfl) ?_
    refine WL_guardOn rfl rfl ?_
    refine WL_v rfl (ov_move rfl) ?_
    refine WL_guardOn rfl rfl ?_
    refine WL_v rfl (ov_index rfl rfl st_sl_impl_Node hP.sl hkp) ?_
    refine WL_guardOn rfl rfl ?_
    refine WL_v rfl (ov_field rfl fo_impl_Node_1) ?_
    refine WL_guardOn rfl rfl ?_
    refine WL_v rfl (ov_load rfl one_sl_int (hcell _ _ hH4 1 _ rfl)) ?_
    refine WL_guardOn rfl rfl ?_
    refine WL_call rfl rfl cf_spec_l5All (l5All_ok hH4 hDX (hf.rdl _)) ?_; rintro _ w5 ⟨rfl, hH5⟩
    refine WL_v rfl (ov_pickT rfl rfl) ?_
    refine WL_nil ?_
    refine WT_cond rfl (fun ha => ?_) (fun ha => ?_)
    · skip
      first | with_reducible replace ha := of_decide_eq_true ha | with_reducible replace ha := bn_T ha | with_reducible replace ha := bb_T ha | skip
      refine WT_region ?_
      refine WL_v rfl (ov_move rfl) ?_
      refine WL_v rfl (ov_move rfl) ?_
      refine WL_bsI rfl hH5 rfl (run_bs_int _) ?_; rintro Y yv w6 hY hH6
      refine WL_appI (i := 1) (j := 0) rfl hH6 rfl rfl st_sl_int rfl hX rfl hY (by simp only [toI_len, List.length_cons, List.length_nil]; omega) (by simp only [toI_len, List.length_cons, List.length_nil]; omega) ?_; rintro X2 sv2 w7 hX2 hH7
      refine WL_v rfl (ov_assign rfl) ?_
      refine WL_nil ?_
      refine WT_inBlock ?_
      refine WT_region ?_
      refine WL_v rfl (ov_move rfl) ?_
      refine WL_v rfl (ov_add rfl rfl (by omega)) ?_
      refine WL_v rfl (ov_assign rfl) ?_
      refine WL_nil ?_
      refine again (k + 1, sv2) _ _ (by simp only; omega) (by repeat (first | exact trivial | refine ⟨rfl, ?_⟩)) ⟨by simp only; omega, .inl hv, X2, by rw [List.range_succ, List.filter_append, List.filter_cons, if_pos (by rw [hrd, decide_eq_false hs, ha]; rfl), List.filter_nil, toI_snoc]; exact hX2, hH7.drop⟩
    first | with_reducible replace ha := of_decide_eq_false ha | with_reducible replace ha := bn_F ha | with_reducible replace ha := bb_F ha | skip
    refine WT_skip ?_
    refine WT_inBlock ?_
    refine WT_region ?_
    refine WL_v rfl (ov_move rfl) ?_
    refine WL_v rfl (ov_add rfl rfl (by omega)) ?_
    refine WL_v rfl (ov_assign rfl) ?_
    refine WL_nil ?_
    refine again (k + 1, sv) _ _ (by simp only; omega) (by repeat (first | exact trivial | refine ⟨rfl, ?_⟩)) ⟨by simp only; omega, .inl hv, X, by rw [List.range_succ, List.filter_append, List.filter_cons, if_neg (by rw [hrd, ha]; simp), List.filter_nil, List.append_nil]; exact hX, hH5⟩
  first | with_reducible replace hv := of_decide_eq_false hv | with_reducible replace hv := bn_F hv | with_reducible replace hv := bb_F hv | skip
  have hk0 : k = 0 := by
    rcases hvk with h9 | h9
    · rw [h9] at hv; cases hv
    · exact h9
  subst hk0
  refine WT_exit rfl ?_
  refine WT_seq ?_
  refine WT_region ?_
  refine WL_v rfl (ov_move rfl) ?_
  refine WL_v rfl (ov_assign rfl) ?_
  refine WL_nil ?_
  exact WT_ret1 Try.func83 Try.results83 rfl ⟨X, by unfold readyOf; rw [if_neg (by rw [hv]; simp)]; exact hX, hH3⟩
end
end Go.Proofs.Ytafljegjdanldaa

/- Walks: the rows of a plan. -/
namespace Go.Proofs.Ytafljegjdanldaa
open Go.RowKit

theorem zero_fnA (W : World) : (zeroValue 56).run Try.prog W = .ok .nilFunc W := by kernel_rfl
theorem zero_fnB (W : World) : (zeroValue 60).run Try.prog W = .ok .nilFunc W := by kernel_rfl
theorem zero_LL (W : World) : (zeroValue 28).run Try.prog W = .ok (.slice none 0 0) W := by kernel_rfl
theorem cf_rowOf (vs : Array Value) (W : World) : (callFunc 43 vs).run Try.prog W = .ok (.enter 43 vs) W := by kernel_rfl
theorem cf_gather (vs : Array Value) (W : World) : (callFunc 46 vs).run Try.prog W = .ok (.enter 46 vs) W := by kernel_rfl

/-- Rows that are made, the first ones of some. -/
structure VRows (O : Heaplet) (Is : List Heaplet) (ov : Value) (ls : List (List Int)) (n : Nat) (xs : List Value) : Prop where
  len : Is.length = ls.length
  row : Row O 24 1 ov n xs
  at_ : ∀ i (hi : i < ls.length), OLAt Is xs i ls[i]
theorem VRows.put {O O' : Heaplet} {Is : List Heaplet} {ov : Value} {ls : List (List Int)} {n : Nat} {xs : List Value} {u : Value} {F : Heaplet} {l : List Int} {k : Nat} (hV : VRows O Is ov ls n xs) (hk : ls.length = k) (hkn : k < n)
    (hO : Row O' 24 1 ov n (xs.set k u)) (hF : IRow F 3 u l) : VRows O' (Is ++ [F]) ov (ls ++ [l]) n (xs.set k u) := by
  have hxl := hV.row.len
  have hil := hV.len
  refine ⟨by simp [hil], hO, fun i hi => ?_⟩
  rw [List.getElem_append]
  split
  · rename_i h1
    obtain ⟨u', F', g1, g2, g3⟩ := hV.at_ i h1
    exact ⟨u', F', by rw [List.getElem?_set, if_neg (by omega)]; exact g1, by rw [List.getElem?_append_left (List.getElem?_eq_some_iff.1 g2).1]; exact g2, g3⟩
  · rename_i h1
    have : i = k := by simp at hi; omega
    subst this
    exact ⟨u, F, by rw [List.getElem?_set, if_pos rfl, if_pos (by omega)], by rw [List.getElem?_append_right (by omega)]; simp [hil, hk], by simpa using hF⟩
theorem VRows.lists {O : Heaplet} {Is : List Heaplet} {ov : Value} {ls : List (List Int)} {n : Nat} {xs : List Value} (hV : VRows O Is ov ls n xs) (hn : ls.length = n) : OLists O Is ov ls := ⟨hV.len, xs, by rw [hn]; exact hV.row, hV.at_⟩

section
variable {h : GH} {Ls : List Heaplet} {w : World}

abbrev rbox (g : Nat) (ov : Value) : Heaplet := [(g, .cells #[ov] 28 (0, 0))]
abbrev pbox (g : Nat) (pv : Value) : Heaplet := [(g, .cells #[pv] 23 (0, 0))]
abbrev gbox (g o : Nat) : Heaplet := [(g, .cells #[.func (.func 46) #[] #[ptr o]] 56 (0, 0))]
abbrev obox (o m r p g : Nat) : Heaplet := [(o, .cells #[.func (.func 43) #[] #[ptr m, ptr r, ptr p, ptr g]] 60 (0, 0))]

/-- A row that is made is handed out. -/
theorem rowMade_ok {bm br bp bg : Nat} {S : Nat → Bool} {O : Heaplet} {ov u : Value} {n : Nat} {xs : List Value} {im ir io : Nat} {a : Nat} (hH : H w h Ls) (him : Ls[im]? = some (sbox bm S)) (hir : Ls[ir]? = some (rbox br ov)) (hio : Ls[io]? = some O)
    (hO : Row O 24 1 ov n xs) (hu : xs[a]? = some u) (hS : S a = true) (ha : a < 10) : Rets Try.prog 43 #[.int .i64 (a : Int), ptr bm, ptr br, ptr bp, ptr bg] w fun v w' => v = u ∧ H w' h Ls := by
  have han : a < n := by
    have h1 := (List.getElem?_eq_some_iff.1 hu).1
    have := hO.len
    omega
  have hcell : ∀ {w}, H w h Ls → w.cell? ((⟨bm, 0, none⟩ : Addr).add (a * 1)) = some (.bool (S a)) := fun {w} hH => by
    rw [hH.cbA im him 0 a, sbox_get ha]
  have hcu : ∀ {w}, H w h Ls → w.cell? ((slA ov).add (a * 1)) = some u := fun {w} hH => by
    rw [Nat.mul_one]; exact hO.cell hH hio hu
  refine rets_enter Try.func43 rfl Try.ntmps43 (by simp) ?_
  refine WT_seq ?_
  refine WT_region ?_
  refine WL_v rfl (ov_assign rfl) ?_
  refine WL_nil ?_
  refine WT_seq ?_
  refine WT_seq ?_
  refine WT_region ?_
  refine WL_v rfl (ov_move rfl) ?_
  refine WL_v rfl (ov_idxA rfl rfl arr_10bool ha) ?_
  refine WL_v rfl (ov_load rfl one_bool (hcell hH)) ?_; rw [hS]
  refine WL_nil ?_
  refine WT_condT rfl ?_
  refine WT_seq ?_
  refine WT_region ?_
  refine WL_v rfl (ov_load rfl one_sl_sl_int (hH.cb ir hir 0)) ?_
  refine WL_v rfl (ov_move rfl) ?_
  refine WL_v rfl (ov_index rfl rfl st_sl_sl_int hO.sl han) ?_
  refine WL_v rfl (ov_load rfl one_sl_int (hcu hH)) ?_
  refine WL_v rfl (ov_assign rfl) ?_
  refine WL_nil ?_
  exact WT_ret1 Try.func43 Try.results43 rfl ⟨rfl, hH⟩

theorem gather_ok {bm br bp bg bo : Nat} {S : Nat → Bool} {O : Heaplet} {ov fv : Value} {n : Nat} {xs : List Value} {im ir io ib : Nat} {f : List Int} (hH : H w h Ls) (him : Ls[im]? = some (sbox bm S)) (hir : Ls[ir]? = some (rbox br ov)) (hio : Ls[io]? = some O)
    (hib : Ls[ib]? = some (obox bo bm br bp bg)) (hO : Row O 24 1 ov n xs) (hF : RdL h Ls fv f) (hfl : f.length ≤ 2) (hall : ∀ x ∈ f, 0 ≤ x ∧ x < 10 ∧ S x.toNat = true ∧ x < (n : Int)) (hone : ∀ x ∈ f, ∀ u, xs[x.toNat]? = some u → u.oneCell' = true) :
    Rets Try.prog 46 #[fv, ptr bo] w fun v w' => ∃ N us, Row N 24 1 v f.length us ∧ (∀ j (hj : j < f.length), us[j]? = xs[(f[j]).toNat]?) ∧ H w' h (N :: Ls) := by
  refine rets_enter Try.func46 rfl Try.ntmps46 (by simp) ?_
  refine WT_seq ?_
  refine WT_region ?_
  refine WL_v rfl (ov_assign rfl) ?_
  refine WL_nil ?_
  refine WT_seq ?_
  refine WT_region ?_
  refine WL_v rfl (ov_move rfl) ?_
  refine WL_v rfl (ov_len rfl hF.sl st_sl_int) ?_
  refine WL_make (sz := 1) (n := f.length) (c := f.length) rfl hH rfl rfl st_sl_sl_int (by omega) (by omega) (by omega) (by omega) ?_; rintro N0 nv w1 hN0 hH1
  refine WL_v rfl (ov_assign rfl) ?_
  refine WL_nil ?_
  refine WT_seq ?_
  refine WT_seq ?_
  refine WT_region ?_
  refine WL_v rfl (ov_move rfl) ?_
  refine WL_v rfl (ov_len rfl hF.sl st_sl_int) ?_
  refine WL_v rfl (ov_move rfl) ?_
  refine WL_nil ?_
  refine WT_block ?_
  refine WT_while (fun s : Nat => [(1, ptr bo), (4, nv), (10, fv), (11, .int .i64 (f.length : Int)), (12, .int .i64 (s : Int))]) (fun s w => s ≤ f.length ∧ ∃ N us, Row N 24 1 nv f.length us ∧ (∀ j (hj : j < f.length), j < s → us[j]? = xs[(f[j]).toNat]?) ∧ H w h (N :: Ls)) (fun s => f.length - s) 0 (by repeat (first | exact trivial | refine ⟨rfl, ?_⟩)) ⟨by omega, N0, _, hN0, fun j _ h => by omega, hH1⟩ ?_
  clear hH hH1 hN0 N0
  rintro s w2 ⟨hs, N, us, hN, hus, hH⟩ again
  refine WT_seq ?_
  refine WT_region ?_
  refine WL_v rfl (ov_lss rfl rfl) ?_
  refine WL_nil ?_
  refine WT_seq ?_
  refine WT_cond rfl (fun hc => ?_) (fun hc => ?_)
  · skip
    first | with_reducible replace hc := of_decide_eq_true hc | with_reducible replace hc := bn_T hc | with_reducible replace hc := bb_T hc | skip
    have hsf : s < f.length := by omega
    obtain ⟨g1, g2, g3, g4⟩ := hall _ (List.getElem_mem hsf)
    obtain ⟨a, ha⟩ := Int.eq_ofNat_of_zero_le g1
    rw [ha, Int.toNat_natCast] at g3
    have hxl := hO.len
    have hax : a < xs.length := by omega
    have hnl := hN.len
    refine WT_skip ?_
    refine WT_seq ?_
    refine WT_block ?_
    refine WT_seq ?_
    refine WT_region ?_
    refine WL_v rfl (ov_move rfl) ?_
    refine WL_v rfl (ov_index rfl rfl st_sl_int hF.sl hsf) ?_
    refine WL_v rfl (ov_load rfl one_int (hF.cell hH.drop hsf)) ?_; rw [ha]
    refine WL_v rfl (ov_assign rfl) ?_
    refine WL_v rfl (ov_assign rfl) ?_
    refine WL_nil ?_
    refine WT_region ?_
    refine WL_v rfl (ov_move rfl) ?_
    refine WL_v rfl (ov_move rfl) ?_
    refine WL_v rfl (ov_load rfl one_func_int_sl_int (hH.cb (ib + 1) hib 0)) ?_
    refine WL_v rfl (ov_move rfl) ?_
    refine WL_callV (ws := [.int .i64 (a : Int), ptr bm, ptr br, ptr bp, ptr bg]) rfl rfl rfl rfl cf_rowOf (rowMade_ok (im := im + 1) (ir := ir + 1) (io := io + 1) hH him hir hio hO (List.getElem?_eq_getElem hax) g3 (by omega)) ?_; rintro _ w3 ⟨rfl, hH3⟩
    refine WL_v rfl (ov_index rfl rfl st_sl_sl_int hN.sl hsf) ?_
    refine WL_storeRow hH3 rfl rfl (i := 0) rfl hN (j := s * 1) (by omega) (hone _ (List.getElem_mem hsf) _ (by rw [ha, Int.toNat_natCast]; exact List.getElem?_eq_getElem hax)) sz_sl_int ?_; rintro N2 w4 hN2 hH4
    refine WL_nil ?_
    refine WT_inBlock ?_
    refine WT_region ?_
    refine WL_v rfl (ov_add rfl rfl (by omega)) ?_
    refine WL_v rfl (ov_move rfl) ?_
    refine WL_nil ?_
    refine again (s + 1) _ _ (by omega) (by repeat (first | exact trivial | refine ⟨rfl, ?_⟩)) ⟨by omega, N2, _, hN2, fun j hj hjs => ?_, hH4⟩
    rw [Nat.mul_one, List.getElem?_set]
    split
    · rename_i h1
      subst h1
      rw [if_pos (by omega), ha, Int.toNat_natCast, List.getElem?_eq_getElem hax]
    · exact hus j hj (by omega)
  first | with_reducible replace hc := of_decide_eq_false hc | with_reducible replace hc := bn_F hc | with_reducible replace hc := bb_F hc | skip
  obtain rfl : s = f.length := by omega
  refine WT_exit rfl ?_
  refine WT_seq ?_
  refine WT_region ?_
  refine WL_v rfl (ov_move rfl) ?_
  refine WL_v rfl (ov_assign rfl) ?_
  refine WL_nil ?_
  exact WT_ret1 Try.func46 Try.results46 rfl ⟨N, us, hN, fun j hj => hus j hj hj, hH⟩

theorem Cl.two {A B : Heaplet} (hH : H w h (A :: B :: Ls)) : Cl h Ls w := ⟨A ++ B, by simpa [H] using hH⟩
/-- All that the functions share. -/
def VSt (w : World) (h : GH) (bo bg bm br bp : Nat) (S : Nat → Bool) (O : Heaplet) (ov pv : Value) (Rs : List Heaplet) : Prop := H w h (obox bo bm br bp bg :: gbox bg bo :: sbox bm S :: rbox br ov :: O :: pbox bp pv :: Rs)

theorem H.fillT {T A B C D E G : Heaplet} {Is Ms : List Heaplet} (hH : H w h (T :: A :: B :: C :: D :: E :: G :: (Is ++ Ms))) : H w h (A :: B :: C :: D :: E :: G :: ((Is ++ [T]) ++ Ms)) := by
  refine hH.perm ?_
  have : (T :: ((A :: B :: C :: D :: E :: G :: Is) ++ Ms)).Perm ((A :: B :: C :: D :: E :: G :: Is) ++ T :: Ms) := List.perm_middle.symm
  simpa using this

set_option maxHeartbeats 1000000 in
/-- A row is made from the ones ahead. -/
theorem rowNew_ok {bm br bp bg bo : Nat} {S : Nat → Bool} {O : Heaplet} {Is : List Heaplet} {ov pv : Value} {p : List Nd} {xs : List Value} {k : Nat} (hP : Plan h pv p) (hv : planOk p = true) (hk : k < p.length)
    (hS : ∀ u, S u = true ↔ u < k) (hV : VRows O Is ov (valsTo p k) p.length xs) (hH : VSt w h bo bg bm br bp S O ov pv (Is ++ Ls)) :
    Rets Try.prog 43 #[.int .i64 (k : Int), ptr bm, ptr br, ptr bp, ptr bg] w fun _ w' => ∃ O' F xs', VRows O' (Is ++ [F]) ov (valsTo p (k + 1)) p.length xs' ∧ VSt w' h bo bg bm br bp (fun u => if u = k then true else S u) O' ov pv ((Is ++ [F]) ++ Ls) := by
  unfold VSt at hH ⊢
  have hlen := PlanOk.len hv
  have hvl := valsTo_len p k
  have hst : valsTo p (k + 1) = valsTo p k ++ [stepL ⟨p[k].kind, p[k].frm, p[k].row⟩ (valsTo p k)] := by rw [valsTo, getD_of hk]
  obtain ⟨fv, rv, hf, hrr, hcell⟩ := hP.node hk
  have hN' := PlanOk.node hv hk
  have hf2 := NodeOk.len2 hN'
  have hr6 := ((rowOk_iff _).1 hN'.row).2
  have hSk : S k = false := by
    cases h1 : S k with
    | false => rfl
    | true => have := (hS k).1 h1; omega
  have hxl := hV.row.len
  have hcellS : ∀ {w}, H w h (obox bo bm br bp bg :: gbox bg bo :: sbox bm S :: rbox br ov :: O :: pbox bp pv :: (Is ++ Ls)) → w.cell? ((⟨bm, 0, none⟩ : Addr).add (k * 1)) = some (.bool (S k)) := fun {w} hH => by
    rw [hH.cbA 2 rfl 0 k, sbox_get (by omega)]
  refine rets_enter Try.func43 rfl Try.ntmps43 (by simp) ?_
  refine WT_seq ?_
  refine WT_region ?_
  refine WL_v rfl (ov_assign rfl) ?_
  refine WL_nil ?_
  refine WT_seq ?_
  refine WT_seq ?_
  refine WT_region ?_
  refine WL_v rfl (ov_move rfl) ?_
  refine WL_v rfl (ov_idxA rfl rfl arr_10bool (by omega)) ?_
  refine WL_v rfl (ov_load rfl one_bool (hcellS hH)) ?_; rw [hSk]
  refine WL_nil ?_
  refine WT_condF rfl ?_
  refine WT_skip ?_
  refine WT_seq ?_
  refine WT_region ?_
  refine WL_v rfl (ov_load rfl one_sl_impl_Node (hH.cb 5 rfl 0)) ?_
  refine WL_v rfl (ov_move rfl) ?_
  refine WL_v rfl (ov_index rfl rfl st_sl_impl_Node hP.sl hk) ?_
  refine WL_v rfl (ov_loadN [.int .i64 p[k].kind, fv, rv] rfl agg_impl_Node rfl ((hcell _ _ hH))) ?_
  refine WL_alloc _ rfl hH zero_impl_Node rfl ?_; rintro g w1 hH1
  refine WL_storeN hH1 rfl rfl (i := 0) rfl rfl rfl (ones_cons rfl (ones_cons hf.sl.one (ones_cons hrr.sl.one ones_nil))) sz_impl_Node ?_; rintro w2 hH2
  refine WL_nil ?_
  refine WT_seq ?_
  refine WT_seq ?_
  refine WT_region ?_
  refine WL_v rfl (ov_field rfl fo_impl_Node_0) ?_
  refine WL_v rfl (ov_load rfl one_int (hH2.cb 0 rfl 0)) ?_
  refine WL_v rfl (ov_eql rfl rfl) ?_
  refine WL_nil ?_
  refine WT_join (ι := Heaplet × Heaplet) (fun _ => [(0, .int .i64 (k : Int)), (1, ptr bm), (2, ptr br)]) (fun s w => (∃ xs', VRows s.1 (Is ++ [s.2]) ov (valsTo p (k + 1)) p.length xs') ∧ H w h (obox bo bm br bp bg :: gbox bg bo :: sbox bm S :: rbox br ov :: s.1 :: pbox bp pv :: ((Is ++ [s.2]) ++ Ls))) (fun joined => ?_) ?_
  · skip
    refine WT_cond rfl (fun h0 => ?_) (fun h0 => ?_)
    · skip
      first | with_reducible replace h0 := of_decide_eq_true h0 | with_reducible replace h0 := bn_T h0 | with_reducible replace h0 := bb_T h0 | skip
      refine WT_mixL [(0, 0), (1, 1), (2, 1), (3, 0), (4, 2), (5, 1), (6, 3)] mixed (by kernel_rfl) hH2 ?_
      clear hH2
      intro w3 hH2 hC
      refine WM_v rfl rfl hC (fun _ ⟨_, hH⟩ => ov_load rfl one_sl_sl_int (hH.cb 5 rfl 0)) ?_
      refine WM_p rfl rfl (fun _ => ov_move rfl) ?_
      refine WM_p rfl rfl (fun _ => ov_field rfl fo_impl_Node_2) ?_
      refine WM_v rfl rfl hC (fun _ ⟨_, hH⟩ => ov_load rfl one_sl_int (hH.cb 1 rfl 2)) ?_
      refine WM_e rfl ?_
      refine WL_call rfl rfl cf_impl_copyInts (copyInts_ok hH2 (hrr.rdl _) (by omega)) ?_; rintro tv w4 ⟨T, hT, hH4⟩
      replace hC : Cl _ _ _ := ⟨T, hH4⟩
      refine WL_mix (fun _ => hC) ?_
      refine WM_p rfl rfl (fun _ => ov_index rfl rfl st_sl_sl_int hV.row.sl hk) ?_
      refine WM_e rfl ?_
      refine WL_storeRow hH4 rfl rfl (i := 6) rfl hV.row (j := k * 1) (by omega) hT.sl.one sz_sl_int ?_; rintro O2 w5 hO2 hH5
      refine WL_mix (fun h => absurd rfl h) ?_
      refine WM_nil ?_
      refine joined (O2, T) _ _ (by repeat (first | exact trivial | refine ⟨rfl, ?_⟩)) ⟨⟨xs.set k tv, ?_⟩, ?_⟩
      · rw [hst, stepL, if_pos h0]
        rw [Nat.mul_one] at hO2
        exact hV.put hvl hk hO2 hT
      · exact H.fillT (hH5.del 1 rfl)
    first | with_reducible replace h0 := of_decide_eq_false h0 | with_reducible replace h0 := bn_F h0 | with_reducible replace h0 := bb_F h0 | skip
    have hall : ∀ x ∈ p[k].frm, 0 ≤ x ∧ x < 10 ∧ S x.toNat = true ∧ x < (p.length : Int) := fun x hx => by
      have := hN'.frm x hx
      exact ⟨this.1, by omega, (hS _).2 (by omega), by omega⟩
    have hkk : ∀ x ∈ p[k].frm, x.toNat < (valsTo p k).length := fun x hx => by
      have := hN'.frm x hx
      omega
    have hplace : ∀ {N : Heaplet} (j : Nat) (F : Heaplet), Is[j]? = some F → (N :: [(g, .cells #[.int .i64 p[k].kind, fv, rv] 32 (0, 0))] :: obox bo bm br bp bg :: gbox bg bo :: sbox bm S :: rbox br ov :: O :: pbox bp pv :: (Is ++ Ls))[8 + j]? = some F := fun j F hj => by
      rw [show 8 + j = j + 1 + 1 + 1 + 1 + 1 + 1 + 1 + 1 by omega]
      simp only [List.getElem?_cons_succ]
      rw [List.getElem?_append_left (List.getElem?_eq_some_iff.1 hj).1]
      exact hj
    have hone : ∀ x ∈ p[k].frm, ∀ u, xs[x.toNat]? = some u → u.oneCell' = true := fun x hx u hu => by
      obtain ⟨u', F', g1, _, g3⟩ := hV.at_ _ (hkk x hx)
      rw [hu] at g1
      obtain rfl := Option.some.inj g1
      exact g3.sl.one
    refine WT_mixL [(0, 0), (1, 1), (2, 1), (3, 0), (4, 0), (5, 1), (6, 0), (7, 2), (8, 2), (9, 1), (10, 1), (11, 1), (12, 1), (13, 3)] mixed (by kernel_rfl) hH2 ?_
    clear hH2
    intro w3 hH2 hC
    refine WM_v rfl rfl hC (fun _ ⟨_, hH⟩ => ov_load rfl one_sl_sl_int (hH.cb 5 rfl 0)) ?_
    refine WM_p rfl rfl (fun _ => ov_move rfl) ?_
    refine WM_p rfl rfl (fun _ => ov_field rfl fo_impl_Node_0) ?_
    refine WM_v rfl rfl hC (fun _ ⟨_, hH⟩ => ov_load rfl one_int (hH.cb 1 rfl 0)) ?_
    refine WM_v rfl rfl hC (fun _ ⟨_, hH⟩ => ov_load rfl one_func_sl_int_sl_sl_int (hH.cb 3 rfl 0)) ?_
    refine WM_p rfl rfl (fun _ => ov_field rfl fo_impl_Node_1) ?_
    refine WM_v rfl rfl hC (fun _ ⟨_, hH⟩ => ov_load rfl one_sl_int (hH.cb 1 rfl 1)) ?_
    refine WM_e rfl ?_
    refine WL_callV (ws := [fv, ptr bo]) rfl rfl rfl rfl cf_gather (gather_ok (im := 3) (ir := 4) (io := 5) (ib := 1) hH2 rfl rfl rfl rfl hV.row (hf.rdl _) hf2 hall hone) ?_; rintro nv w4 ⟨N, us, hN, hus, hH4⟩
    replace hC : Cl _ _ _ := ⟨N, hH4⟩
    refine WL_mix (fun _ => hC) ?_
    refine WM_e rfl ?_
    refine WL_call rfl rfl cf_impl_KindRun (kindRun_ok hH4 hN'.kind (Pick.rdll (rows := valsTo p k) ⟨fun j hj _ => by { have hx := List.getElem_mem hj; have hkj := hkk _ hx; obtain ⟨u', F', g1, g2, g3⟩ := hV.at_ _ hkj; refine ⟨u', (hus j hj).trans g1, ?_⟩; rw [getLD hkj]; exact g3.rdl (hplace _ F' g2) }⟩ (i := 0) rfl hN)) ?_; rintro _ w5 ⟨tv, ok, T, rfl, hT, hH5⟩
    replace hC : Cl _ _ _ := Cl.two hH5
    refine WL_mix (fun _ => hC) ?_
    refine WM_p rfl rfl (fun _ => ov_move rfl) ?_
    refine WM_p rfl rfl (fun _ => ov_extract rfl rfl) ?_
    refine WM_p rfl rfl (fun _ => ov_extract rfl rfl) ?_
    refine WM_p rfl rfl (fun _ => ov_index rfl rfl st_sl_sl_int hV.row.sl hk) ?_
    refine WM_e rfl ?_
    refine WL_storeRow hH5 rfl rfl (i := 7) rfl hV.row (j := k * 1) (by omega) hT.sl.one sz_sl_int ?_; rintro O2 w6 hO2 hH6
    refine WL_mix (fun h => absurd rfl h) ?_
    refine WM_nil ?_
    refine joined (O2, T) _ _ (by repeat (first | exact trivial | refine ⟨rfl, ?_⟩)) ⟨⟨xs.set k tv, ?_⟩, ?_⟩
    · rw [hst, stepL, if_neg h0]
      rw [Nat.mul_one] at hO2
      exact hV.put hvl hk hO2 hT
    · exact H.fillT ((hH6.del 2 rfl).del 1 rfl)
  clear hH hH1 hH2
  rintro ⟨O2, T⟩ w6 ⟨⟨xs2, hV2⟩, hH6⟩
  simp only at hV2 hH6
  obtain ⟨u, F, hu, _, hF⟩ := hV2.at_ k (by rw [valsTo_len]; omega)
  have hcu : ∀ {w S}, H w h (obox bo bm br bp bg :: gbox bg bo :: sbox bm S :: rbox br ov :: O2 :: pbox bp pv :: ((Is ++ [T]) ++ Ls)) → w.cell? ((slA ov).add (k * 1)) = some u := fun hH => by
    rw [Nat.mul_one]; exact hV2.row.cell hH (i := 4) rfl hu
  refine WT_seq ?_
  refine WT_region ?_
  refine WL_v rfl (ov_move rfl) ?_
  refine WL_v rfl (ov_idxA rfl rfl arr_10bool (by omega)) ?_
  refine WL_store hH6 rfl rfl (i := 2) (off := 0 + k) rfl (addA bm 0 k) (by simp; omega) rfl sz_bool ?_; rintro w7 hH7; rw [sbox_set] at hH7
  refine WL_nil ?_
  refine WT_seq ?_
  refine WT_region ?_
  refine WL_v rfl (ov_load rfl one_sl_sl_int (hH7.cb 3 rfl 0)) ?_
  refine WL_v rfl (ov_move rfl) ?_
  refine WL_v rfl (ov_index rfl rfl st_sl_sl_int hV2.row.sl hk) ?_
  refine WL_v rfl (ov_load rfl one_sl_int (hcu hH7)) ?_
  refine WL_v rfl (ov_assign rfl) ?_
  refine WL_nil ?_
  exact WT_ret1 Try.func43 Try.results43 rfl ⟨O2, T, xs2, hV2, hH7⟩
end
end Go.Proofs.Ytafljegjdanldaa

/- Walks: the rows of a plan, whole. -/
namespace Go.Proofs.Ytafljegjdanldaa
open Go.RowKit

section
variable {h : GH} {Ls : List Heaplet} {w : World}

theorem valuesOf_no (hH : H w h Ls) {pv : Value} {p : List Nd} (hP : Plan h pv p) (hv : planOk p = false) : Rets Try.prog 14 #[pv] w fun v w' => v = .tuple #[.slice none 0 0, .bool false] ∧ H w' h Ls := by
  have hva := fun {w : World} {Ls : List Heaplet} (hH : H w h Ls) => planValid_ok hH hP
  rw [hv] at hva
  have hpc : pv.cells = #[pv] := by
    obtain ⟨A0, c0, hpv, _⟩ := hP.sl.form
    rw [hpv]; rfl
  refine rets_enter Try.func14 rfl Try.ntmps14 (by simp) ?_
  refine WT_seq ?_
  refine WT_region ?_
  refine WL_box _ rfl hH rfl rfl ?_; rintro bp w1 hH1; rw [hpc] at hH1
  refine WL_v rfl (ov_assign rfl) ?_
  refine WL_v rfl (ov_assign rfl) ?_
  refine WL_nil ?_
  refine WT_seq ?_
  refine WT_seq ?_
  refine WT_region ?_
  refine WL_v rfl (ov_load rfl one_sl_impl_Node (hH1.cb 0 rfl 0)) ?_
  refine WL_call rfl rfl cf_impl_PlanValid (hva hH1) ?_; rintro _ w2 ⟨rfl, hH2⟩
  refine WL_v rfl (ov_not rfl) ?_
  refine WL_nil ?_
  refine WT_condT rfl ?_
  refine WT_seq ?_
  refine WT_region ?_
  refine WL_v rfl (ov_assign rfl) ?_
  refine WL_v rfl (ov_assign rfl) ?_
  refine WL_nil ?_
  exact WT_ret2 Try.func14 Try.results14 rfl rfl ⟨rfl, hH2.drop⟩

/-- The rows of a plan, of one's own. -/
def OVals (h : GH) (Ls : List Heaplet) (p : List Nd) (v : Value) (w' : World) : Prop := ∃ ov O Is, v = .tuple #[ov, .bool true] ∧ OLists O Is ov (valsL p) ∧ H w' h (O :: (Is ++ Ls))

theorem valuesOf_yes (hH : H w h Ls) {pv : Value} {p : List Nd} (hP : Plan h pv p) (hv : planOk p = true) : Rets Try.prog 14 #[pv] w fun v w' => OVals h Ls p v w' := by
  have hva := fun {w : World} {Ls : List Heaplet} (hH : H w h Ls) => planValid_ok hH hP
  rw [hv] at hva
  have hpc : pv.cells = #[pv] := by
    obtain ⟨A0, c0, hpv, _⟩ := hP.sl.form
    rw [hpv]; rfl
  have hlen := PlanOk.len hv
  refine rets_enter Try.func14 rfl Try.ntmps14 (by simp) ?_
  refine WT_seq ?_
  refine WT_region ?_
  refine WL_box _ rfl hH rfl rfl ?_; rintro bp w1 hH1; rw [hpc] at hH1
  refine WL_v rfl (ov_assign rfl) ?_
  refine WL_v rfl (ov_assign rfl) ?_
  refine WL_nil ?_
  refine WT_seq ?_
  refine WT_seq ?_
  refine WT_region ?_
  refine WL_v rfl (ov_load rfl one_sl_impl_Node (hH1.cb 0 rfl 0)) ?_
  refine WL_call rfl rfl cf_impl_PlanValid (hva hH1) ?_; rintro _ w2 ⟨rfl, hH2⟩
  refine WL_v rfl (ov_not rfl) ?_
  refine WL_nil ?_
  refine WT_condF rfl ?_
  refine WT_skip ?_
  refine WT_seq ?_
  refine WT_region ?_
  refine WL_v rfl (ov_load rfl one_sl_impl_Node (hH2.cb 0 rfl 0)) ?_
  refine WL_v rfl (ov_len rfl hP.sl st_sl_impl_Node) ?_
  refine WL_make (sz := 1) (n := p.length) (c := p.length) rfl hH2 rfl rfl st_sl_sl_int (by omega) (by omega) (by omega) (by omega) ?_; rintro O0 ov w3 hO0 hH3
  refine WL_alloc _ rfl hH3 zero_LL rfl ?_; rintro br w4 hH4
  refine WL_store hH4 rfl rfl (i := 0) (off := 0) rfl rfl Nat.zero_lt_one hO0.sl.one sz_sl_sl_int ?_; rintro w5 hH5
  refine WL_nil ?_
  refine WT_seq ?_
  refine WT_region ?_
  refine WL_alloc #[.bool false, .bool false, .bool false, .bool false, .bool false, .bool false, .bool false, .bool false, .bool false, .bool false] rfl hH5 zero_10bool rfl ?_; rintro bm w6 hH6
  refine WL_nil ?_
  refine WT_seq ?_
  refine WT_region ?_
  refine WL_alloc _ rfl hH6 zero_fnA rfl ?_; rintro bg w7 hH7
  refine WL_nil ?_
  refine WT_seq ?_
  refine WT_region ?_
  refine WL_v rfl (ov_makeFunc rfl rfl) ?_
  refine WL_alloc _ rfl hH7 zero_fnB rfl ?_; rintro bo w8 hH8
  refine WL_store hH8 rfl rfl (i := 0) (off := 0) rfl rfl Nat.zero_lt_one rfl sz_func_int_sl_int ?_; rintro w9 hH9
  refine WL_nil ?_
  refine WT_seq ?_
  refine WT_region ?_
  refine WL_v rfl (ov_makeFunc rfl rfl) ?_
  refine WL_store hH9 rfl rfl (i := 1) (off := 0) rfl rfl Nat.zero_lt_one rfl sz_func_sl_int_sl_sl_int ?_; rintro w10 hH10
  refine WL_nil ?_
  refine WT_seq ?_
  refine WT_seq ?_
  refine WT_region ?_
  refine WL_v rfl (ov_load rfl one_sl_impl_Node (hH10.cb 5 rfl 0)) ?_
  refine WL_v rfl (ov_len rfl hP.sl st_sl_impl_Node) ?_
  refine WL_v rfl (ov_move rfl) ?_
  refine WL_nil ?_
  refine WT_block ?_
  have hst : VSt w10 h bo bg bm br bp (fun _ => false) O0 ov pv Ls := hH10
  clear hH hH1 hH2 hH3 hH4 hH5 hH6 hH7 hH8 hH9 hH10
  refine WT_while (fun s : Nat => [(4, ptr br), (7, ptr bo), (18, .int .i64 (p.length : Int)), (19, .int .i64 (s : Int))]) (fun s w => s ≤ p.length ∧ ∃ S O Is xs, (∀ u, S u = true ↔ u < s) ∧ VRows O Is ov (valsTo p s) p.length xs ∧ VSt w h bo bg bm br bp S O ov pv (Is ++ Ls)) (fun s => p.length - s) 0 (by repeat (first | exact trivial | refine ⟨rfl, ?_⟩)) ⟨by omega, _, O0, [], _, by simp, ⟨rfl, hO0, fun i hi => by simp [valsTo] at hi⟩, hst⟩ ?_
  clear hst hO0 O0
  rintro s w11 ⟨hs, S, O, Is, xs, hS, hV, hH⟩ again
  refine WT_seq ?_
  refine WT_region ?_
  refine WL_v rfl (ov_lss rfl rfl) ?_
  refine WL_nil ?_
  refine WT_seq ?_
  refine WT_cond rfl (fun hc => ?_) (fun hc => ?_)
  · skip
    first | with_reducible replace hc := of_decide_eq_true hc | with_reducible replace hc := bn_T hc | with_reducible replace hc := bb_T hc | skip
    have hsp : s < p.length := by omega
    have hH' := hH
    unfold VSt at hH'
    refine WT_skip ?_
    refine WT_seq ?_
    refine WT_block ?_
    refine WT_seq ?_
    refine WT_region ?_
    refine WL_v rfl (ov_move rfl) ?_
    refine WL_v rfl (ov_assign rfl) ?_
    refine WL_nil ?_
    refine WT_region ?_
    refine WL_v rfl (ov_load rfl one_func_int_sl_int (hH'.cb 0 rfl 0)) ?_
    refine WL_v rfl (ov_move rfl) ?_
    refine WL_callV (ws := [.int .i64 (s : Int), ptr bm, ptr br, ptr bp, ptr bg]) rfl rfl rfl rfl cf_rowOf (rowNew_ok hP hv hsp hS hV hH) ?_; rintro uv w12 ⟨O2, F, xs2, hV2, hH2⟩
    refine WL_nil ?_
    refine WT_inBlock ?_
    refine WT_region ?_
    refine WL_v rfl (ov_add rfl rfl (by omega)) ?_
    refine WL_v rfl (ov_move rfl) ?_
    refine WL_nil ?_
    refine again (s + 1) _ _ (by omega) (by repeat (first | exact trivial | refine ⟨rfl, ?_⟩)) ⟨by omega, _, O2, _, xs2, fun u => ?_, hV2, hH2⟩
    by_cases hu : u = s
    · simp [hu]
    · simp only [hu, if_false, hS]
      omega
  first | with_reducible replace hc := of_decide_eq_false hc | with_reducible replace hc := bn_F hc | with_reducible replace hc := bb_F hc | skip
  obtain rfl : s = p.length := by omega
  unfold VSt at hH
  refine WT_exit rfl ?_
  refine WT_seq ?_
  refine WT_region ?_
  refine WL_v rfl (ov_load rfl one_sl_sl_int (hH.cb 3 rfl 0)) ?_
  refine WL_v rfl (ov_assign rfl) ?_
  refine WL_v rfl (ov_assign rfl) ?_
  refine WL_nil ?_
  exact WT_ret2 Try.func14 Try.results14 rfl rfl ⟨ov, O, Is, rfl, hV.lists (valsTo_len p _), ((((hH.del 5 rfl).del 3 rfl).del 2 rfl).del 1 rfl).drop⟩
end
end Go.Proofs.Ytafljegjdanldaa

/- Parts moved: nothing of a program. -/
namespace Go.Proofs.Ytafljegjdanldaa
open Go.RowKit

section
variable {h : GH} {Ls : List Heaplet} {w : World}

theorem Cl.manyM : ∀ (A : List Heaplet) {Ls : List Heaplet}, H w h (A ++ Ls) → Cl h Ls w := fun A Ls hH => ⟨A.flatten, by simpa [H] using hH⟩
theorem Cl.subM (A S B : List Heaplet) (hH : H w h (A ++ (S ++ B))) : Cl h S w := Cl.manyM (A ++ B) (by
  rw [List.append_assoc]
  exact hH.perm (List.Perm.append_left A List.perm_append_comm))
theorem H.bh {O X : Heaplet} {Is Ms : List Heaplet} (hH : H w h (O :: (Is ++ X :: Ms))) : H w h (X :: O :: (Is ++ Ms)) := by
  refine hH.perm ?_
  have : (X :: ((O :: Is) ++ Ms)).Perm ((O :: Is) ++ X :: Ms) := List.perm_middle.symm
  simpa using this.symm
theorem H.bh2 {O X Y : Heaplet} {Is Ms : List Heaplet} (hH : H w h (O :: (Is ++ X :: Y :: Ms))) : H w h (X :: Y :: O :: (Is ++ Ms)) := by
  have h1 := hH.bh
  have h2 : H w h ((X :: O :: Is) ++ Y :: Ms) := by simpa using h1
  have h3 := h2.perm (List.perm_middle (a := Y) (l₁ := X :: O :: Is) (l₂ := Ms))
  exact h3.swap
/-- A part and its own go behind two others. -/
theorem H.ub2 {O X Y : Heaplet} {Is Ms : List Heaplet} (hH : H w h (X :: Y :: O :: (Is ++ Ms))) : H w h (O :: (Is ++ X :: Y :: Ms)) := by
  refine hH.perm ?_
  have : (([X, Y] ++ (O :: Is)) ++ Ms).Perm (((O :: Is) ++ [X, Y]) ++ Ms) := List.perm_append_comm.append_right Ms
  simpa using this
theorem H.flipM (A : List Heaplet) {B Ms : List Heaplet} (hH : H w h (A ++ (B ++ Ms))) : H w h (B ++ (A ++ Ms)) := by
  refine hH.perm ?_
  have : ((A ++ B) ++ Ms).Perm ((B ++ A) ++ Ms) := List.perm_append_comm.append_right Ms
  simpa using this
end
end Go.Proofs.Ytafljegjdanldaa

/- Plain: a node is folded. -/
namespace Go.Proofs.Ytafljegjdanldaa

/-- A node whose row is given, and the plan with it. -/
def foldN (p : List Nd) (a : Nat) : Nd := ⟨0, [], (valsL p).getD a []⟩
def foldP (p : List Nd) (a : Nat) : List Nd := p.set a (foldN p a)
theorem foldP_len (p : List Nd) (a : Nat) : (foldP p a).length = p.length := List.length_set
theorem foldP_get {p : List Nd} {a i : Nat} (h : i < (foldP p a).length) (h2 : i < p.length) : (foldP p a)[i] = if a = i then foldN p a else p[i] := by
  have e : (foldP p a)[i]? = some (if a = i then foldN p a else p[i]) := by
    unfold foldP
    rw [List.getElem?_set]
    split
    · rename_i h3
      subst h3
      rw [if_pos h2]
    · exact List.getElem?_eq_getElem h2
  rw [List.getElem?_eq_getElem h] at e
  exact Option.some.inj e
theorem foldP_getD {p : List Nd} {a i : Nat} (h2 : i < p.length) : (foldP p a).getD i default = if a = i then foldN p a else p.getD i default := by
  rw [getD_of (by rw [foldP_len]; exact h2), getD_of h2, foldP_get _ h2]

theorem kindNeeds_zero {k : Int} (hk : kindOk k = true) (h : kindNeeds k = 0) : k = 0 := by
  have h1 : 0 ≤ k ∧ k ≤ 5 := by simpa [kindOk] using hk
  unfold kindNeeds at h
  split at h
  · assumption
  split at h
  · cases h
  split at h
  · cases h
  · cases h
theorem kind_cases {k : Int} (hk : kindOk k = true) : k = 0 ∨ k = 1 ∨ k = 2 ∨ k = 3 ∨ k = 4 ∨ k = 5 := by
  have h1 : 0 ≤ k ∧ k ≤ 5 := by simpa [kindOk] using hk
  omega
theorem first_fixed {p : List Nd} (hv : planOk p = true) (h : 0 < p.length) : p[0].kind = 0 := by
  have hn := PlanOk.node hv h
  have h1 : p[0].frm = [] := List.eq_nil_iff_forall_not_mem.2 fun f hf => by have := hn.frm f hf; omega
  have h2 := hn.len
  rw [h1] at h2
  exact kindNeeds_zero hn.kind h2.symm
theorem wide_first {p : List Nd} (hv : planOk p = true) (h : 0 < p.length) : wideOf p = p[0].row.length := by
  have h0 := first_fixed hv h
  match p, h with
  | x :: r, _ =>
    simp only [List.getElem_cons_zero] at h0 ⊢
    simp [wideOf, h0]
theorem vals_wide {p : List Nd} (hv : planOk p = true) : ∀ i, i < p.length → ((valsL p).getD i []).length = wideOf p := by
  intro i
  induction i using Nat.strongRecOn with
  | _ i ih =>
    intro hi
    have hn := PlanOk.node hv hi
    rw [vals_step p hi, getD_of hi]
    have hrow : ∀ f ∈ p[i].frm, ((valsTo p i).getD f.toNat []).length = wideOf p ∧ rowOk ((valsTo p i).getD f.toNat []) = true := fun f hf => by
      have h1 := hn.frm f hf
      have h2 : f.toNat < i := by omega
      have h3 := ih f.toNat h2 (by omega)
      have h4 := vals_ok hv (i := f.toNat)
      rw [valsTo_keep p h2 (Nat.le_of_lt hi)] at h3 h4 <;> first | exact ⟨by rw [valsTo_keep p (Nat.lt_succ_self _) (show f.toNat + 1 ≤ i by omega), ← valsTo_keep p (Nat.lt_succ_self _) (show f.toNat + 1 ≤ p.length by omega)]; exact ih f.toNat h2 (by omega), by rw [valsTo_keep p (Nat.lt_succ_self _) (show f.toNat + 1 ≤ i by omega), ← valsTo_keep p (Nat.lt_succ_self _) (show f.toNat + 1 ≤ p.length by omega)]; exact vals_ok hv⟩ | omega
    have hlen := hn.len
    unfold stepL
    rcases kind_cases hn.kind with hk | hk | hk | hk | hk | hk
    · rw [if_pos hk]; exact hn.wide hk
    all_goals
      rw [if_neg (by omega)]
      rw [hk] at hlen ⊢
    · match hf : p[i].frm, hlen with
      | [f, g], _ =>
        have h1 := hrow f (by rw [hf]; simp)
        have h2 := hrow g (by rw [hf]; simp)
        simp only [List.map_cons, List.map_nil, kindRow, two2]
        rw [if_pos trivial, pairL_len ((bothOk_iff _ _).2 ⟨h1.2, h2.2, by rw [h1.1, h2.1]⟩)]
        exact h1.1
    · match hf : p[i].frm, hlen with
      | [f, g], _ =>
        have h1 := hrow f (by rw [hf]; simp)
        have h2 := hrow g (by rw [hf]; simp)
        simp only [List.map_cons, List.map_nil, kindRow, two2]
        rw [if_neg (by omega), if_pos trivial, pairL_len ((bothOk_iff _ _).2 ⟨h1.2, h2.2, by rw [h1.1, h2.1]⟩)]
        exact h1.1
    · match hf : p[i].frm, hlen with
      | [f], _ =>
        have h1 := hrow f (by rw [hf]; simp)
        simp only [List.map_cons, List.map_nil, kindRow, one1, sumsL]
        rw [if_neg (by omega), if_neg (by omega), if_pos trivial, if_pos h1.2, sumsFrom_len]
        exact h1.1
    · match hf : p[i].frm, hlen with
      | [f], _ =>
        have h1 := hrow f (by rw [hf]; simp)
        simp only [List.map_cons, List.map_nil, kindRow, one1, sortL]
        rw [if_neg (by omega), if_neg (by omega), if_neg (by omega), if_pos trivial, if_pos h1.2, isort_len]
        exact h1.1
    · match hf : p[i].frm, hlen with
      | [f], _ =>
        have h1 := hrow f (by rw [hf]; simp)
        simp only [List.map_cons, List.map_nil, kindRow, one1, turnL]
        rw [if_neg (by omega), if_neg (by omega), if_neg (by omega), if_neg (by omega), if_pos trivial, if_pos h1.2, List.length_reverse]
        exact h1.1
theorem fold_wide {p : List Nd} (hv : planOk p = true) {a : Nat} (ha : a < p.length) : wideOf (foldP p a) = wideOf p := by
  have h0 := first_fixed hv (by omega)
  have h1 := wide_first hv (by omega)
  have h2 := vals_wide hv a ha
  obtain ⟨x, r, rfl⟩ : ∃ x r, p = x :: r := by
    cases p with
    | nil => exact absurd ha (by simp)
    | cons x r => exact ⟨x, r, rfl⟩
  replace h0 : x.kind = 0 := h0
  replace h1 : wideOf (x :: r) = x.row.length := h1
  cases a with
  | zero =>
    show wideOf (foldN (x :: r) 0 :: r) = _
    rw [wideOf, if_pos (show (foldN (x :: r) 0).kind = 0 from rfl)]
    exact h2
  | succ a =>
    show wideOf (x :: r.set a (foldN (x :: r) (a + 1))) = _
    rw [wideOf, if_pos h0, h1]
theorem fold_ok {p : List Nd} (hv : planOk p = true) {a : Nat} (ha : a < p.length) : planOk (foldP p a) = true := by
  rw [planOk_iff]
  refine ⟨by rw [foldP_len]; exact PlanOk.len hv, fun i hi => ?_⟩
  have hi' : i < p.length := by rw [foldP_len] at hi; exact hi
  rw [fold_wide hv ha, foldP_get hi hi']
  split
  · rename_i h
    subst h
    have h1 := vals_wide hv a ha
    have h2 := vals_ok hv (i := a)
    unfold foldN
    generalize (valsL p).getD a [] = R at h1 h2 ⊢
    simp [nodeOk, kindNeeds, h1, h2]
  · exact ((planOk_iff p).1 hv).2 i hi'
theorem fold_users {p : List Nd} (hv : planOk p = true) {a : Nat} (ha : a < p.length) : usersTo (foldP p a) (foldP p a).length a = usersTo p p.length a := by
  rw [foldP_len]
  unfold usersTo
  refine List.filter_congr fun j hj => ?_
  have hj' := List.mem_range.1 hj
  rw [foldP_getD hj']
  split
  · rename_i h
    subst h
    have h1 : (a : Int) ∉ (p.getD a default).frm := fun hm => by
      rw [getD_of ha] at hm
      have := (PlanOk.node hv ha).frm _ hm
      omega
    rw [decide_eq_false h1, decide_eq_false (by simp [foldN])]
  · rfl
theorem fold_level {p : List Nd} {a : Nat} (ha : a < p.length) : (levelsTo (foldP p a) (foldP p a).length).getD a 0 = 0 := by
  rw [foldP_len]
  unfold levelsTo
  rw [progTo_getD ha, foldP_getD ha, if_pos rfl]
  rfl
theorem kindCost_pos (k : Int) : 1 ≤ kindCost k := by
  unfold kindCost
  split
  · omega
  split <;> omega
theorem fold_sum (p : List Nd) (a : Nat) : ∀ k, k ≤ p.length → sumTo (foldP p a) k ≤ sumTo p k
  | 0, _ => Int.le_refl _
  | k + 1, hk => by
    have h1 := fold_sum p a k (by omega)
    have h2 : kindCost ((foldP p a).getD k default).kind ≤ kindCost (p.getD k default).kind := by
      rw [foldP_getD (by omega)]
      split
      · exact kindCost_pos _
      · exact Int.le_refl _
    show sumTo (foldP p a) k + _ ≤ sumTo p k + _
    omega
theorem fold_path {p : List Nd} (hv : planOk p = true) {a : Nat} : ∀ i, i < p.length → (pathsTo (foldP p a) p.length).getD i 0 ≤ (pathsTo p p.length).getD i 0 := by
  intro i
  induction i using Nat.strongRecOn with
  | _ i ih =>
    intro hi
    rw [pathsTo_getD hi, pathsTo_getD hi, foldP_getD hi]
    split
    · have h1 := upOf_nonneg 0 (pathsTo p i) (p.getD i default).frm
      have h2 := kindCost_pos (p.getD i default).kind
      show upOf 0 _ [] + kindCost 0 ≤ _
      have h3 : upOf 0 (pathsTo (foldP p a) i) [] = 0 := rfl
      have h4 : kindCost 0 = 1 := rfl
      omega
    · have h1 : upOf 0 (pathsTo (foldP p a) i) (p.getD i default).frm ≤ upOf 0 (pathsTo p i) (p.getD i default).frm := by
        refine upOf_le (upOf_nonneg _ _ _) fun f hf => ?_
        have hf2 := hf
        rw [getD_of hi] at hf2
        have hfr := (PlanOk.node hv hi).frm f hf2
        have h2 := le_upOf (c := 0) (ps := pathsTo p i) hf
        have h3 := ih f.toNat (by omega) (by omega)
        have h4 : (pathsTo (foldP p a) i).getD f.toNat 0 = (pathsTo (foldP p a) p.length).getD f.toNat 0 := progTo_same (by omega) (by omega)
        have h5 : (pathsTo p i).getD f.toNat 0 = (pathsTo p p.length).getD f.toNat 0 := progTo_same (by omega) (by omega)
        omega
      omega
theorem fold_most {p : List Nd} (hv : planOk p = true) (a : Nat) : mostOf (pathsTo (foldP p a) (foldP p a).length) ≤ mostOf (pathsTo p p.length) := by
  rw [foldP_len]
  refine mostOf_le (mostOf_nonneg _) fun x hx => ?_
  obtain ⟨i, hi, rfl⟩ := List.getElem_of_mem hx
  rw [pathsTo_len] at hi
  have h1 := fold_path hv (a := a) i hi
  have h2 : (pathsTo p p.length).getD i 0 ≤ mostOf (pathsTo p p.length) := le_mostOf (by
    rw [List.getD_eq_getElem?_getD, List.getElem?_eq_getElem (by rw [pathsTo_len]; exact hi)]
    exact List.getElem_mem _)
  rw [List.getD_eq_getElem?_getD, List.getElem?_eq_getElem (by rw [pathsTo_len]; exact hi)] at h1
  exact Int.le_trans h1 h2
end Go.Proofs.Ytafljegjdanldaa

/- Walks: nodes folded by the program. -/
namespace Go.Proofs.Ytafljegjdanldaa
open Go.RowKit

abbrev nbx (g : Nat) (kv fv rv : Value) : Heaplet := [(g, .cells #[kv, fv, rv] 32 (0, 0))]

section
variable {h : GH} {Ls : List Heaplet} {w : World}

theorem loadNb {i g : Nat} {kv fv rv : Value} (hi : Ls[i]? = some (nbx g kv fv rv)) (hH : H w h Ls) : ∀ j v, [kv, fv, rv][j]? = some v → w.cell? (Addr.add ⟨g, 0, none⟩ j) = some v := fun j v hj => by
  rw [show Addr.add ⟨g, 0, none⟩ j = ⟨g, j, none⟩ by simp [add_of]]
  exact (hH.cb i hi j).trans (by simpa using hj)

theorem setOf_ok (hH : H w h Ls) {pv lv : Value} {p : List Nd} {L : List Int} (hP : Plan h pv p) (hpl : p.length ≤ 10) (hL : RdL h Ls lv L) (hr : ∀ x ∈ L, 0 ≤ x ∧ x < (p.length : Int)) :
    Rets Try.prog 95 #[pv, lv] w fun v w' => ∃ m : Nat, v = .int .u16 (m : Int) ∧ m < 1024 ∧ (∀ j, m.testBit j = decide ((j : Int) ∈ L)) ∧ H w' h Ls := by
  have hll := hL.sl.lim
  refine rets_enter Try.func95 rfl Try.ntmps95 (by simp) ?_
  refine WT_seq ?_
  refine WT_region ?_
  refine WL_v rfl (ov_assign rfl) ?_
  refine WL_nil ?_
  refine WT_seq ?_
  refine WT_region ?_
  refine WL_v rfl (ov_assign rfl) ?_
  refine WL_nil ?_
  refine WT_seq ?_
  refine WT_seq ?_
  refine WT_region ?_
  refine WL_v rfl (ov_move rfl) ?_
  refine WL_v rfl (ov_len rfl hL.sl st_sl_int) ?_
  refine WL_v rfl (ov_move rfl) ?_
  refine WL_nil ?_
  refine WT_block ?_
  refine WT_while (fun s : Nat × Nat => [(0, pv), (5, .int .u16 (s.2 : Int)), (8, lv), (9, .int .i64 (L.length : Int)), (10, .int .i64 (s.1 : Int))]) (fun s w => s.1 ≤ L.length ∧ s.2 < 1024 ∧ (∀ j, s.2.testBit j = decide ((j : Int) ∈ L.take s.1)) ∧ H w h Ls) (fun s => L.length - s.1) (0, 0) (by repeat (first | exact trivial | refine ⟨rfl, ?_⟩)) ⟨by omega, by simp only; omega, fun j => by simp, hH⟩ ?_
  clear hH
  rintro ⟨k, m⟩ w1 ⟨hk, hm, hb, hH⟩ again
  simp only at hk hm hb
  refine WT_seq ?_
  refine WT_region ?_
  refine WL_v rfl (ov_lss rfl rfl) ?_
  refine WL_nil ?_
  refine WT_seq ?_
  refine WT_cond rfl (fun hc => ?_) (fun hc => ?_)
  · skip
    first | with_reducible replace hc := of_decide_eq_true hc | with_reducible replace hc := bn_T hc | with_reducible replace hc := bb_T hc | skip
    simp only at hc
    have hkl : k < L.length := by omega
    have hx := hr _ (List.getElem_mem hkl)
    obtain ⟨a, ha⟩ := Int.eq_ofNat_of_zero_le hx.1
    have hal : a < 10 := by omega
    refine WT_skip ?_
    refine WT_seq ?_
    refine WT_block ?_
    refine WT_seq ?_
    refine WT_region ?_
    refine WL_v rfl (ov_index rfl rfl st_sl_int hL.sl hkl) ?_
    refine WL_v rfl (ov_load rfl one_int (hL.cell hH hkl)) ?_; rw [ha]
    refine WL_v rfl (ov_assign rfl) ?_
    refine WL_nil ?_
    refine WT_seq ?_
    refine WT_region ?_
    refine WL_v rfl (ov_move rfl) ?_
    refine WL_v rfl (ov_move rfl) ?_
    refine WL_call rfl rfl cf_impl_isNode (isNode_ok hH hP.sl _) ?_; rintro _ w2 ⟨rfl, hH2⟩; rw [decide_eq_true (show 0 ≤ (a : Int) ∧ (a : Int) < (p.length : Int) by omega)]
    refine WL_nil ?_
    refine WT_condT rfl ?_
    refine WT_region ?_
    refine WL_v rfl (ov_move rfl) ?_
    refine WL_v rfl (ov_move rfl) ?_
    refine WL_call rfl rfl cf_impl_nodeSet_with (with_ok hH2 hm hal) ?_; rintro _ w3 ⟨rfl, hH3⟩
    refine WL_v rfl (ov_assign rfl) ?_
    refine WL_nil ?_
    refine WT_inBlock ?_
    refine WT_region ?_
    refine WL_v rfl (ov_add rfl rfl (by omega)) ?_
    refine WL_v rfl (ov_move rfl) ?_
    refine WL_nil ?_
    refine again (k + 1, m ||| 2 ^ a) _ _ (by simp only; omega) (by repeat (first | exact trivial | refine ⟨rfl, ?_⟩)) ⟨by simp only; omega, Nat.or_lt_two_pow (n := 10) (by omega) (Nat.pow_lt_pow_right (by omega) hal), fun j => ?_, hH3⟩
    simp only
    rw [Nat.testBit_or, hb, Nat.testBit_two_pow, List.take_succ_eq_append_getElem hkl, ha, ← Bool.decide_or]
    refine decide_eq_decide.2 ?_
    rw [List.mem_append, List.mem_singleton]
    constructor
    · rintro (h1 | h1)
      · exact .inl h1
      · exact .inr (by omega)
    · rintro (h1 | h1)
      · exact .inl h1
      · exact .inr (by omega)
  first | with_reducible replace hc := of_decide_eq_false hc | with_reducible replace hc := bn_F hc | with_reducible replace hc := bb_F hc | skip
  simp only at hc
  obtain rfl : k = L.length := by omega
  rw [List.take_length] at hb
  refine WT_exit rfl ?_
  refine WT_seq ?_
  refine WT_region ?_
  refine WL_v rfl (ov_move rfl) ?_
  refine WL_v rfl (ov_assign rfl) ?_
  refine WL_nil ?_
  exact WT_ret1 Try.func95 Try.results95 rfl ⟨m, rfl, hm, hb, hH⟩

theorem ones_row {Is : List Heaplet} {xs : List Value} {p : List Nd} (hat : ∀ i (hi : i < p.length), OAt Is xs i p[i]) (hl : xs.length = p.length * 3) : ∀ u ∈ xs, u.oneCell' = true := fun u hu => by
  obtain ⟨j, hj, rfl⟩ := List.getElem_of_mem hu
  obtain ⟨fv, rv, F, R, g1, _, _, g4, g5⟩ := hat (j / 3) (by omega)
  have hx : ∀ t v, [Value.int .i64 (p[j / 3]'(by omega)).kind, fv, rv][t]? = some v → j = j / 3 * 3 + t → xs[j] = v := fun t v ht hjt => by
    have := g1 t v ht
    rw [← hjt, List.getElem?_eq_getElem hj] at this
    exact Option.some.inj this
  have h3 : j % 3 = 0 ∨ j % 3 = 1 ∨ j % 3 = 2 := by omega
  rcases h3 with h3 | h3 | h3
  · rw [hx 0 _ rfl (by omega)]; rfl
  · rw [hx 1 _ rfl (by omega)]; exact g4.sl.one
  · rw [hx 2 _ rfl (by omega)]; exact g5.sl.one
theorem OPlan.cons {O' : Heaplet} {Is : List Heaplet} {v' : Value} {p : List Nd} {xs : List Value} {x : Nd} {fv rv : Value} {F R : Heaplet} (hil : Is.length = 2 * p.length) (hat : ∀ i (hi : i < p.length), OAt Is xs i p[i])
    (hO : Row O' 32 3 v' (1 + p.length) ([.int .i64 x.kind, fv, rv] ++ xs)) (hF : IRow F 3 fv x.frm) (hR : IRow R 3 rv x.row) : OPlan O' (F :: R :: Is) v' (x :: p) := by
  refine ⟨by simp [hil]; omega, _, by rw [List.length_cons, Nat.add_comm]; exact hO, fun i hi => ?_⟩
  match i, hi with
  | 0, _ =>
    refine ⟨fv, rv, F, R, fun j u hj => ?_, rfl, rfl, hF, hR⟩
    have : j < 3 := (List.getElem?_eq_some_iff.1 hj).1
    rw [List.getElem?_append_left (by simp only [List.length_cons, List.length_nil]; omega), show 0 * 3 + j = j by omega]
    exact hj
  | i + 1, hi =>
    have hi' : i < p.length := by simpa using hi
    obtain ⟨fv', rv', F', R', g1, g2, g3, g4, g5⟩ := hat i hi'
    refine ⟨fv', rv', F', R', fun j u hj => ?_, ?_, ?_, g4, g5⟩
    · rw [List.getElem?_append_right (by simp only [List.length_cons, List.length_nil]; omega), show (i + 1) * 3 + j - [Value.int .i64 x.kind, fv, rv].length = i * 3 + j by simp only [List.length_cons, List.length_nil]; omega]
      exact g1 j u hj
    · rw [show 2 * (i + 1) = 2 * i + 1 + 1 by omega]; exact g2
    · rw [show 2 * (i + 1) + 1 = 2 * i + 1 + 1 + 1 by omega]; exact g3

set_option maxHeartbeats 1000000 in
theorem foldFrom_ok {pv vv : Value} {p : List Nd} (hP : Plan h pv p) (hv : planOk p = true) (hV : Lists h vv (valsL p)) {a m : Nat} (ha : a < p.length) (hm : m < 1024) (hb : ∀ j, m.testBit j = decide (j = a)) : ∀ (n at_ : Nat), n + at_ = p.length → ∀ {w : World} {Ls : List Heaplet}, H w h Ls →
    Rets Try.prog 94 #[pv, vv, .int .u16 (m : Int), .int .i64 (at_ : Int)] w fun v w' => ∃ O Is, OPlan O Is v ((foldP p a).drop at_) ∧ H w' h (O :: (Is ++ Ls)) := by
  intro n
  have hlen := PlanOk.len hv
  have hfl := foldP_len p a
  have hvl : (valsL p).length = p.length := valsTo_len p _
  induction n with
  | zero =>
    intro at_ hn w Ls hH
    obtain rfl : at_ = p.length := by omega
    refine rets_enter Try.func94 rfl Try.ntmps94 (by simp) ?_
    refine WT_seq ?_
    refine WT_region ?_
    refine WL_v rfl (ov_assign rfl) ?_
    refine WL_nil ?_
    refine WT_seq ?_
    refine WT_seq ?_
    refine WT_region ?_
    refine WL_v rfl (ov_move rfl) ?_
    refine WL_v rfl (ov_move rfl) ?_
    refine WL_v rfl (ov_len rfl hP.sl st_sl_impl_Node) ?_
    refine WL_v rfl (ov_T (ov_eql rfl rfl) (by first | exact decide_eq_true (rfl) | exact nb_T (rfl) | exact mb_T (rfl) | exact (rfl) | (simp only [decide_eq_true_eq]; omega) | simpa using (rfl))) ?_
    refine WL_nil ?_
    refine WT_condT rfl ?_
    refine WT_seq ?_
    refine WT_region ?_
    refine WL_v rfl (ov_assign rfl) ?_
    refine WL_nil ?_
    exact WT_ret1 Try.func94 Try.results94 rfl ⟨[], [], by rw [List.drop_eq_nil_of_le (by omega)]; exact ⟨rfl, [], Row.nil _ _, fun i hi => by simp at hi⟩, hH.nilIn⟩
  | succ n ih =>
    intro at_ hn w Ls hH
    have hap : at_ < p.length := by omega
    obtain ⟨gv, rv, hf, hrr, hcell⟩ := hP.node hap
    have hN := PlanOk.node hv hap
    have hf2 := NodeOk.len2 hN
    have hvo := vals_ok hv (i := at_)
    have hav : at_ < (valsL p).length := by omega
    have hvg : (valsL p).getD at_ [] = (valsL p)[at_] := by rw [List.getD_eq_getElem?_getD, List.getElem?_eq_getElem hav]; rfl
    have hv6 := rowOk_six hvo
    obtain ⟨u, hu, hucell⟩ := hV.elem (h := h) hav
    have hdr : (foldP p a).drop at_ = (foldP p a)[at_] :: (foldP p a).drop (at_ + 1) := List.drop_eq_getElem_cons (by omega)
    have hget := foldP_get (p := p) (a := a) (i := at_) (by omega) hap
    refine rets_enter Try.func94 rfl Try.ntmps94 (by simp) ?_
    refine WT_seq ?_
    refine WT_region ?_
    refine WL_v rfl (ov_assign rfl) ?_
    refine WL_nil ?_
    refine WT_seq ?_
    refine WT_seq ?_
    refine WT_region ?_
    refine WL_v rfl (ov_move rfl) ?_
    refine WL_v rfl (ov_move rfl) ?_
    refine WL_v rfl (ov_len rfl hP.sl st_sl_impl_Node) ?_
    refine WL_v rfl (ov_F (ov_eql rfl rfl) (decide_eq_false (by omega))) ?_
    refine WL_nil ?_
    refine WT_condF rfl ?_
    refine WT_skip ?_
    refine WT_seq ?_
    refine WT_region ?_
    refine WL_v rfl (ov_move rfl) ?_
    refine WL_v rfl (ov_move rfl) ?_
    refine WL_v rfl (ov_index rfl rfl st_sl_impl_Node hP.sl hap) ?_
    refine WL_v rfl (ov_loadN [.int .i64 p[at_].kind, gv, rv] rfl agg_impl_Node rfl ((hcell _ _ hH))) ?_
    refine WL_call rfl rfl cf_impl_copyNode (copyNode_ok hH (hf.rdl _) (hrr.rdl _) (by omega) (by have := rowOk_six hN.row; omega)) ?_; rintro _ w7 ⟨x, F, R, ⟨fv2, rv2, rfl, hF, hR⟩, hx, hH7⟩
    subst hx
    simp only at hF hR
    refine WL_alloc _ rfl hH7 zero_impl_Node rfl ?_; rintro g w8 hH8
    refine WL_storeN hH8 rfl rfl (i := 0) rfl rfl rfl (ones_cons rfl (ones_cons hF.sl.one (ones_cons hR.sl.one ones_nil))) sz_impl_Node ?_; rintro w9 hH9
    refine WL_nil ?_
    refine WT_seq ?_
    refine WT_seq ?_
    refine WT_region ?_
    refine WL_v rfl (ov_move rfl) ?_
    refine WL_v rfl (ov_move rfl) ?_
    refine WL_call rfl rfl cf_impl_nodeSet_has (has_ok hH9 (by omega) (by omega)) ?_; rintro _ w10 ⟨rfl, hH10⟩; rw [hb]
    refine WL_nil ?_
    refine WT_join (ι := Int × Value × Value) (fun s => [(0, pv), (1, vv), (2, .int .u16 (m : Int)), (3, .int .i64 (at_ : Int)), (9, ptr g)]) (fun s w => ∃ F R, s.1 = (foldP p a)[at_].kind ∧ IRow F 3 s.2.1 (foldP p a)[at_].frm ∧ IRow R 3 s.2.2 (foldP p a)[at_].row ∧ H w h (nbx g (.int .i64 s.1) s.2.1 s.2.2 :: F :: R :: Ls)) ?_ ?_
    · intro joined
      refine WT_cond rfl (fun hba => ?_) (fun hba => ?_)
      · skip
        first | with_reducible replace hba := of_decide_eq_true hba | with_reducible replace hba := bn_T hba | with_reducible replace hba := bb_T hba | skip
        obtain rfl : at_ = a := by simpa using hba
        rw [hget, if_pos rfl] at joined
        have hrow : RdL h (nbx g (.int .i64 p[at_].kind) fv2 rv2 :: F :: R :: Ls) u (valsL p)[at_] := hu.rdl _
        refine WT_region ?_
        refine WL_v rfl (ov_move rfl) ?_
        refine WL_v rfl (ov_move rfl) ?_
        refine WL_v rfl (ov_index (i := at_) rfl rfl st_sl_sl_int hV.sl hav) ?_
        refine WL_v rfl (ov_load rfl one_sl_int (hucell hH10)) ?_
        refine WL_call rfl rfl cf_impl_copyInts (copyInts_ok hH10 hrow (by rw [← hvg]; omega)) ?_; rintro rv3 w11 ⟨X, hX, hH11⟩
        refine WL_v rfl (ov_build rfl (run_build_row hX.sl)) ?_
        refine WL_storeN hH11 rfl rfl (i := 1) rfl rfl rfl (ones_cons rfl (ones_cons rfl (ones_cons hX.sl.one ones_nil))) sz_impl_Node ?_; rintro w12 hH12
        refine WL_nil ?_
        refine joined (0, .slice none 0 0, rv3) _ _ (by repeat (first | exact trivial | refine ⟨rfl, ?_⟩)) ⟨[], X, rfl, IRow.nil _, by unfold foldN; rw [hvg]; exact hX, ?_⟩
        have h1 : H w12 h (X :: nbx g (.int .i64 0) (.slice none 0 0) rv3 :: F :: R :: Ls) := hH12
        exact ((h1.swap.del 2 rfl).del 2 rfl).nilIn.swap
      first | with_reducible replace hba := of_decide_eq_false hba | with_reducible replace hba := bn_F hba | with_reducible replace hba := bb_F hba | skip
      have hne : ¬ a = at_ := fun he => hba (by simp [he])
      rw [hget, if_neg hne] at joined
      refine WT_skip ?_
      exact joined (p[at_].kind, fv2, rv2) _ _ (by repeat (first | exact trivial | refine ⟨rfl, ?_⟩)) ⟨F, R, rfl, hF, hR, hH10⟩
    clear hH hH7 hH8 hH9 hH10 hF hR
    rintro ⟨kd, fv3, rv3⟩ w11 ⟨F, R, hkd, hF, hR, hH⟩
    simp only at hkd hF hR hH
    have hrec := fun {w : World} {Ls : List Heaplet} (hH : H w h Ls) => ih (at_ + 1) (by omega) hH
    have hfin : ∀ {w : World} {O2 O' : Heaplet} {Is' : List Heaplet}, H w h (O2 :: O' :: (Is' ++ nbx g (.int .i64 kd) fv3 rv3 :: F :: R :: Ls)) → H w h (O2 :: ((F :: R :: Is') ++ Ls)) := fun {w O2 O' Is'} hH => by
      have h1 := (H.bh2 (H.bh hH.swap.drop).drop)
      exact h1.pull 2 rfl
    have hadd : ((at_ : Nat) : Int) + 1 = ((at_ + 1 : Nat) : Int) := by omega
    refine WT_seq ?_
    refine WT_mixXS [(0, 0), (1, 3), (2, 1), (3, 1), (4, 1), (5, 1), (6, 1), (7, 2), (8, 3), (9, 1)] [(0, 0), (2, 1), (3, 1), (4, 1), (5, 1), (6, 1)] 4 #[true, false, true, true, true, true, true, false, false, false] [nbx g (.int .i64 kd) fv3 rv3] (fun w' hh => Cl.subM [] [nbx g (.int .i64 kd) fv3 rv3] _ hh) mixed (by kernel_rfl) hH ?_
    clear hH
    intro w12 hH hC
    refine WM_v rfl rfl hC (fun _ ⟨_, hH⟩ => ov_loadN [.int .i64 kd, fv3, rv3] rfl agg_impl_Node rfl ((loadNb (i := 1) rfl hH))) ?_
    refine WM_p rfl rfl (fun _ => ov_move rfl) ?_
    refine WM_p rfl rfl (fun _ => ov_move rfl) ?_
    refine WM_p rfl rfl (fun _ => ov_move rfl) ?_
    refine WM_p rfl rfl (fun _ => ov_move rfl) ?_
    refine WM_p rfl rfl (fun _ => ov_as (ov_add rfl rfl (by omega)) (congrArg (Value.int .i64) (hadd))) ?_
    refine WM_fork 1 7 1 0 [(7, 2), (8, 3), (9, 1)] [(1, 3), (8, 3), (9, 1)] 0 0 #[true, true, true, true, true, true, true, true, true, true] #[true, true, true, true, true, true, true, true, true, true] (by kernel_rfl) ?_ ?_
    · skip
      refine WM_e rfl ?_
      refine WL_buildSlice (sz := 3) [.int .i64 kd, fv3, rv3] rfl hH rfl (run_bs_node hF.sl hR.sl) rfl (by omega) ?_; rintro Z3 zv3 w13 hZ3 hH13
      refine WL_mix (fun h => absurd rfl h) ?_
      refine WM_e rfl ?_
      refine WL_call rfl rfl cf_impl_foldFrom (hrec hH13) ?_; rintro ov w14 ⟨O', Is', hO', hH14⟩; obtain ⟨hil, xs, hR3, hat⟩ := hO'; have hdl : ((foldP p a).drop (at_ + 1)).length = n := (by rw [List.length_drop]; omega); replace hH14 := H.bh hH14
      replace hC : Cl _ _ _ := Cl.subM (Z3 :: O' :: Is') [nbx g (.int .i64 kd) fv3 rv3] _ hH14
      refine WL_mix (fun _ => hC) ?_
      refine WM_e rfl ?_
      refine WL_append1 (i := 0) (j := 1) (n := 1) (m := ((foldP p a).drop (at_ + 1)).length) rfl hH14 rfl rfl st_sl_impl_Node (by omega) rfl hZ3 rfl hR3 (ones_row hat hR3.len) (by omega) (by omega) ?_; rintro O2 ov2 w15 hO2 hH15
      refine WL_mix (fun h => absurd rfl h) ?_
      refine WM_p rfl rfl (fun _ => ov_assign rfl) ?_
      refine WM_fin (by kernel_rfl) ?_
      exact WT_ret1 Try.func94 Try.results94 rfl ⟨O2, F :: R :: Is', by rw [hdr]; exact OPlan.cons hil hat (by rw [← hkd]; exact hO2) hF hR, hfin hH15⟩
    refine WM_e rfl ?_
    refine WL_call rfl rfl cf_impl_foldFrom (hrec hH) ?_; rintro ov w13 ⟨O', Is', hO', hH13⟩; obtain ⟨hil, xs, hR3, hat⟩ := hO'; have hdl : ((foldP p a).drop (at_ + 1)).length = n := (by rw [List.length_drop]; omega)
    replace hC : Cl _ _ _ := Cl.subM (O' :: Is') [nbx g (.int .i64 kd) fv3 rv3] _ hH13
    refine WL_mix (fun _ => hC) ?_
    refine WM_e rfl ?_
    refine WL_buildSlice (sz := 3) [.int .i64 kd, fv3, rv3] rfl hH13 rfl (run_bs_node hF.sl hR.sl) rfl (by omega) ?_; rintro Z3 zv3 w14 hZ3 hH14
    refine WL_mix (fun h => absurd rfl h) ?_
    refine WM_e rfl ?_
    refine WL_append1 (i := 0) (j := 1) (n := 1) (m := ((foldP p a).drop (at_ + 1)).length) rfl hH14 rfl rfl st_sl_impl_Node (by omega) rfl hZ3 rfl hR3 (ones_row hat hR3.len) (by omega) (by omega) ?_; rintro O2 ov2 w15 hO2 hH15
    refine WL_mix (fun h => absurd rfl h) ?_
    refine WM_p rfl rfl (fun _ => ov_assign rfl) ?_
    refine WM_fin (by kernel_rfl) ?_
    exact WT_ret1 Try.func94 Try.results94 rfl ⟨O2, F :: R :: Is', by rw [hdr]; exact OPlan.cons hil hat (by rw [← hkd]; exact hO2) hF hR, hfin hH15⟩

theorem RdL.monoG {h' : GH} {v : Value} {xs : List Int} (hA : RdL h Ls v xs) (hle : h.Le h') : RdL h' Ls v xs := ⟨hA.sl, fun hH _ hj => hA.cell (hH.weak hle) hj⟩
theorem allNodes_one (hH : H w h Ls) {pv lv : Value} {p : List Nd} {a : Int} (hP : Plan h pv p) (hL : RdL h Ls lv [a]) : Rets Try.prog 89 #[pv, lv] w fun v w' => v = .bool (decide (0 ≤ a ∧ a < (p.length : Int))) ∧ H w' h Ls := by
  have := allNodes_ok hH hP hL
  simpa using this

/-- A folded plan. -/
def FoldV (h : GH) (Ls : List Heaplet) (p : List Nd) (a : Nat) (v : Value) (w' : World) : Prop := ∃ ov O Is, v = .tuple #[ov, .bool true] ∧ OPlan O Is ov (foldP p a) ∧ H w' h (O :: (Is ++ Ls))

theorem foldNode_yes (hH : H w h Ls) {pv : Value} {p : List Nd} (hP : Plan h pv p) (hv : planOk p = true) {a : Nat} (ha : a < p.length) : Rets Try.prog 31 #[pv, .int .i64 (a : Int)] w (FoldV h Ls p a) := by
  have hlen := PlanOk.len hv
  have hall : ∀ {w : World} {Ls : List Heaplet} (_ : H w h Ls) {lv : Value}, RdL h Ls lv [(a : Int)] → Rets Try.prog 66 #[pv, lv] w (FoldV h Ls p a) := fun {w Ls} hH {lv} hL => by
    refine rets_enter Try.func66 rfl Try.ntmps66 (by simp) ?_
    refine WT_seq ?_
    refine WT_region ?_
    refine WL_v rfl (ov_assign rfl) ?_
    refine WL_v rfl (ov_assign rfl) ?_
    refine WL_nil ?_
    refine WT_seq ?_
    refine WT_region ?_
    refine WL_v rfl (ov_move rfl) ?_
    refine WL_call rfl rfl cf_impl_ValuesOf (valuesOf_yes hH hP hv) ?_; rintro _ w1 ⟨ov, O, Is, rfl, hO, hH1⟩; obtain ⟨h1, hle, hH2, hV, unf⟩ := hO.freeze hH1; have hL1 := hL.monoG hle
    refine WL_v rfl (ov_move rfl) ?_
    refine WL_v rfl (ov_extract rfl rfl) ?_
    refine WL_v rfl (ov_extract rfl rfl) ?_
    refine WL_v rfl (ov_assign rfl) ?_
    refine WL_v rfl (ov_assign rfl) ?_
    refine WL_nil ?_
    refine WT_seq ?_
    refine WT_seq ?_
    refine WT_region ?_
    refine WL_v rfl (ov_move rfl) ?_
    refine WL_v rfl (ov_F (ov_not rfl) (by first | exact decide_eq_false rfl | exact nb_F rfl | exact mb_F rfl | exact rfl | (simp only [decide_eq_false_iff_not]; omega) | simpa using rfl)) ?_
    refine WL_v rfl (ov_move rfl) ?_
    refine WL_guardOn rfl rfl ?_
    refine WL_v rfl (ov_move rfl) ?_
    refine WL_guardOn rfl rfl ?_
    refine WL_v rfl (ov_move rfl) ?_
    refine WL_guardOn rfl rfl ?_
    refine WL_call rfl rfl cf_impl_allNodes (allNodes_one hH2 (hP.mono hle) hL1) ?_; rintro _ w2 ⟨rfl, hH3⟩
    refine WL_guardOn rfl rfl ?_
    refine WL_v rfl (ov_F (ov_not rfl) (by simp; omega)) ?_
    refine WL_v rfl (ov_pickF rfl rfl) ?_
    refine WL_nil ?_
    refine WT_condF rfl ?_
    have hff := fun {w : World} {m : Nat} (hm : m < 1024) (hb : ∀ j, m.testBit j = decide ((j : Int) ∈ [(a : Int)])) (hH : H w h1 Ls) => foldFrom_ok (hP.mono hle) hv hV ha hm (fun j => by rw [hb]; exact decide_eq_decide.2 (by rw [List.mem_singleton]; omega)) p.length 0 (by omega) hH
    refine WT_skip ?_
    refine WT_seq ?_
    refine WT_region ?_
    refine WL_v rfl (ov_move rfl) ?_
    refine WL_v rfl (ov_move rfl) ?_
    refine WL_v rfl (ov_move rfl) ?_
    refine WL_v rfl (ov_move rfl) ?_
    refine WL_call rfl rfl cf_impl_setOf (setOf_ok hH3 (hP.mono hle) hlen hL1 (fun x hx => by rw [List.mem_singleton] at hx; omega)) ?_; rintro _ w3 ⟨m, rfl, hm, hb, hH4⟩
    refine WL_call rfl rfl cf_impl_foldFrom (hff hm hb hH4) ?_; rintro ov2 w4 ⟨O2, Is2, hO2, hH5⟩
    refine WL_v rfl (ov_assign rfl) ?_
    refine WL_v rfl (ov_assign rfl) ?_
    refine WL_nil ?_
    rw [List.drop_zero] at hO2
    exact WT_ret2 Try.func66 Try.results66 rfl rfl ⟨ov2, O2, Is2, rfl, hO2, hH5.weak hle⟩
  refine rets_enter Try.func31 rfl Try.ntmps31 (by simp) ?_
  refine WT_seq ?_
  refine WT_region ?_
  refine WL_v rfl (ov_assign rfl) ?_
  refine WL_v rfl (ov_assign rfl) ?_
  refine WL_nil ?_
  refine WT_seq ?_
  refine WT_region ?_
  refine WL_v rfl (ov_move rfl) ?_
  refine WL_v rfl (ov_move rfl) ?_
  refine WL_bsI rfl hH rfl (run_bs_int _) ?_; rintro Z zv w1 hZ hH1
  refine WL_call rfl rfl cf_impl_FoldAll (hall hH1 (hZ.rdl (i := 0) rfl)) ?_; rintro _ w2 ⟨ov, O, Is, rfl, hO, hH2⟩
  refine WL_v rfl (ov_extract rfl rfl) ?_
  refine WL_v rfl (ov_extract rfl rfl) ?_
  refine WL_v rfl (ov_assign rfl) ?_
  refine WL_v rfl (ov_assign rfl) ?_
  refine WL_nil ?_
  exact WT_ret2 Try.func31 Try.results31 rfl rfl ⟨ov, O, Is, rfl, hO, (H.bh hH2).drop⟩

theorem foldNode_no (hH : H w h Ls) {pv : Value} {p : List Nd} (hP : Plan h pv p) {a : Int} (hb : ¬ (planOk p = true ∧ 0 ≤ a ∧ a < (p.length : Int))) : Rets Try.prog 31 #[pv, .int .i64 a] w fun v w' => v = .tuple #[.slice none 0 0, .bool false] ∧ H w' h Ls := by
  have hall : ∀ {w : World} {Ls : List Heaplet} (_ : H w h Ls) {lv : Value}, RdL h Ls lv [a] → Rets Try.prog 66 #[pv, lv] w fun v w' => v = .tuple #[.slice none 0 0, .bool false] ∧ H w' h Ls := fun {w Ls} hH {lv} hL => by
    refine rets_enter Try.func66 rfl Try.ntmps66 (by simp) ?_
    by_cases hv : planOk p = true
    · have hnb : ¬ (0 ≤ a ∧ a < (p.length : Int)) := fun h0 => hb ⟨hv, h0⟩
      refine WT_seq ?_
      refine WT_region ?_
      refine WL_v rfl (ov_assign rfl) ?_
      refine WL_v rfl (ov_assign rfl) ?_
      refine WL_nil ?_
      refine WT_seq ?_
      refine WT_region ?_
      refine WL_v rfl (ov_move rfl) ?_
      refine WL_call rfl rfl cf_impl_ValuesOf (valuesOf_yes hH hP hv) ?_; rintro _ w1 ⟨ov, O, Is, rfl, hO, hH1⟩; obtain ⟨h1, hle, hH2, hV, unf⟩ := hO.freeze hH1; have hL1 := hL.monoG hle
      refine WL_v rfl (ov_move rfl) ?_
      refine WL_v rfl (ov_extract rfl rfl) ?_
      refine WL_v rfl (ov_extract rfl rfl) ?_
      refine WL_v rfl (ov_assign rfl) ?_
      refine WL_v rfl (ov_assign rfl) ?_
      refine WL_nil ?_
      refine WT_seq ?_
      refine WT_seq ?_
      refine WT_region ?_
      refine WL_v rfl (ov_move rfl) ?_
      refine WL_v rfl (ov_F (ov_not rfl) (by first | exact decide_eq_false rfl | exact nb_F rfl | exact mb_F rfl | exact rfl | (simp only [decide_eq_false_iff_not]; omega) | simpa using rfl)) ?_
      refine WL_v rfl (ov_move rfl) ?_
      refine WL_guardOn rfl rfl ?_
      refine WL_v rfl (ov_move rfl) ?_
      refine WL_guardOn rfl rfl ?_
      refine WL_v rfl (ov_move rfl) ?_
      refine WL_guardOn rfl rfl ?_
      refine WL_call rfl rfl cf_impl_allNodes (allNodes_one hH2 (hP.mono hle) hL1) ?_; rintro _ w2 ⟨rfl, hH3⟩
      refine WL_guardOn rfl rfl ?_
      refine WL_v rfl (ov_T (ov_not rfl) (by rw [decide_eq_false hnb]; rfl)) ?_
      refine WL_v rfl (ov_pickF rfl rfl) ?_
      refine WL_nil ?_
      refine WT_condT rfl ?_
      refine WT_seq ?_
      refine WT_region ?_
      refine WL_v rfl (ov_assign rfl) ?_
      refine WL_v rfl (ov_assign rfl) ?_
      refine WL_nil ?_
      exact WT_ret2 Try.func66 Try.results66 rfl rfl ⟨rfl, hH3.weak hle⟩
    · skip
      refine WT_seq ?_
      refine WT_region ?_
      refine WL_v rfl (ov_assign rfl) ?_
      refine WL_v rfl (ov_assign rfl) ?_
      refine WL_nil ?_
      refine WT_seq ?_
      refine WT_region ?_
      refine WL_v rfl (ov_move rfl) ?_
      refine WL_call rfl rfl cf_impl_ValuesOf (valuesOf_no hH hP (by simpa using hv)) ?_; rintro _ w1 ⟨rfl, hH1⟩
      refine WL_v rfl (ov_move rfl) ?_
      refine WL_v rfl (ov_extract rfl rfl) ?_
      refine WL_v rfl (ov_extract rfl rfl) ?_
      refine WL_v rfl (ov_assign rfl) ?_
      refine WL_v rfl (ov_assign rfl) ?_
      refine WL_nil ?_
      refine WT_seq ?_
      refine WT_seq ?_
      refine WT_region ?_
      refine WL_v rfl (ov_move rfl) ?_
      refine WL_v rfl (ov_T (ov_not rfl) (by first | exact decide_eq_true rfl | exact nb_T rfl | exact mb_T rfl | exact rfl | (simp only [decide_eq_true_eq]; omega) | simpa using rfl)) ?_
      refine WL_v rfl (ov_move rfl) ?_
      refine WL_guardOff rfl rfl rfl rfl ?_
      refine WL_guardOff rfl rfl rfl rfl ?_
      refine WL_guardOff rfl rfl rfl rfl ?_
      refine WL_guardOff rfl rfl rfl rfl ?_
      refine WL_v rfl (ov_pickT rfl rfl) ?_
      refine WL_nil ?_
      refine WT_condT rfl ?_
      refine WT_seq ?_
      refine WT_region ?_
      refine WL_v rfl (ov_assign rfl) ?_
      refine WL_v rfl (ov_assign rfl) ?_
      refine WL_nil ?_
      exact WT_ret2 Try.func66 Try.results66 rfl rfl ⟨rfl, hH1⟩
  refine rets_enter Try.func31 rfl Try.ntmps31 (by simp) ?_
  refine WT_seq ?_
  refine WT_region ?_
  refine WL_v rfl (ov_assign rfl) ?_
  refine WL_v rfl (ov_assign rfl) ?_
  refine WL_nil ?_
  refine WT_seq ?_
  refine WT_region ?_
  refine WL_v rfl (ov_move rfl) ?_
  refine WL_v rfl (ov_move rfl) ?_
  refine WL_bsI rfl hH rfl (run_bs_int _) ?_; rintro Z zv w1 hZ hH1
  refine WL_call rfl rfl cf_impl_FoldAll (hall hH1 (hZ.rdl (i := 0) rfl)) ?_; rintro _ w2 ⟨rfl, hH2⟩
  refine WL_v rfl (ov_extract rfl rfl) ?_
  refine WL_v rfl (ov_extract rfl rfl) ?_
  refine WL_v rfl (ov_assign rfl) ?_
  refine WL_v rfl (ov_assign rfl) ?_
  refine WL_nil ?_
  exact WT_ret2 Try.func31 Try.results31 rfl rfl ⟨rfl, hH2.drop⟩
end
end Go.Proofs.Ytafljegjdanldaa

/- Walks: plans copied and folded by the reference; plans compared. -/
namespace Go.Proofs.Ytafljegjdanldaa
open Go.RowKit

section
variable {h : GH} {Ls : List Heaplet} {w : World}

theorem sameRow_one (hH : H w h Ls) {av bv : Value} {xs : List Int} (hA : RdL h Ls av xs) (hB : RdL h Ls bv xs) : Rets Try.prog 15 #[av, bv] w fun v w' => v = .bool true ∧ H w' h Ls := by
  have := sameRow_ok hH hA hB
  rwa [decide_eq_true rfl] at this
theorem sameNode_one (hH : H w h Ls) {xv yv : Value} {x : Nd} (hx : NdV h xv x) (hy : NdV h yv x) : Rets Try.prog 63 #[xv, yv] w fun v w' => v = .bool true ∧ H w' h Ls := by
  obtain ⟨fv, rv, rfl, hf, hr⟩ := hx
  obtain ⟨fv2, rv2, rfl, hf2, hr2⟩ := hy
  refine rets_enter Try.func63 rfl Try.ntmps63 (by simp) ?_
  refine WT_seq ?_
  refine WT_region ?_
  refine WL_box _ rfl hH rfl rfl ?_; rintro g w1 hH1
  refine WL_box _ rfl hH1 rfl rfl ?_; rintro g2 w2 hH2
  refine WL_v rfl (ov_assign rfl) ?_
  refine WL_nil ?_
  refine WT_seq ?_
  refine WT_region ?_
  refine WL_v rfl (ov_field rfl fo_impl_Node_0) ?_
  refine WL_v rfl (ov_load rfl one_int (hH2.cb 1 rfl 0)) ?_
  refine WL_v rfl (ov_field rfl fo_impl_Node_0) ?_
  refine WL_v rfl (ov_load rfl one_int (hH2.cb 0 rfl 0)) ?_
  refine WL_v rfl (ov_T (ov_eql rfl rfl) (by first | exact decide_eq_true rfl | exact nb_T rfl | exact mb_T rfl | exact rfl | (simp only [decide_eq_true_eq]; omega) | simpa using rfl)) ?_
  refine WL_v rfl (ov_move rfl) ?_
  refine WL_guardOn rfl rfl ?_
  refine WL_v rfl (ov_field rfl fo_impl_Node_1) ?_
  refine WL_guardOn rfl rfl ?_
  refine WL_v rfl (ov_load rfl one_sl_int (hH2.cb 1 rfl 1)) ?_
  refine WL_guardOn rfl rfl ?_
  refine WL_v rfl (ov_field rfl fo_impl_Node_1) ?_
  refine WL_guardOn rfl rfl ?_
  refine WL_v rfl (ov_load rfl one_sl_int (hH2.cb 0 rfl 1)) ?_
  refine WL_guardOn rfl rfl ?_
  refine WL_call rfl rfl cf_laws_sameRow (sameRow_one hH2 (hf.rdl _) (hf2.rdl _)) ?_; rintro _ w3 ⟨rfl, hH3⟩
  refine WL_v rfl (ov_pickT rfl rfl) ?_
  refine WL_v rfl (ov_move rfl) ?_
  refine WL_guardOn rfl rfl ?_
  refine WL_v rfl (ov_field rfl fo_impl_Node_2) ?_
  refine WL_guardOn rfl rfl ?_
  refine WL_v rfl (ov_load rfl one_sl_int (hH3.cb 1 rfl 2)) ?_
  refine WL_guardOn rfl rfl ?_
  refine WL_v rfl (ov_field rfl fo_impl_Node_2) ?_
  refine WL_guardOn rfl rfl ?_
  refine WL_v rfl (ov_load rfl one_sl_int (hH3.cb 0 rfl 2)) ?_
  refine WL_guardOn rfl rfl ?_
  refine WL_call rfl rfl cf_laws_sameRow (sameRow_one hH3 (hr.rdl _) (hr2.rdl _)) ?_; rintro _ w4 ⟨rfl, hH4⟩
  refine WL_v rfl (ov_pickT rfl rfl) ?_
  refine WL_v rfl (ov_assign rfl) ?_
  refine WL_nil ?_
  exact WT_ret1 Try.func63 Try.results63 rfl ⟨rfl, hH4.drop.drop⟩
theorem samePlan_one (hH : H w h Ls) {av bv : Value} {p : List Nd} (hA : Plan h av p) (hB : Plan h bv p) : Rets Try.prog 26 #[av, bv] w fun v w' => v = .bool true ∧ H w' h Ls := by
  have hal := hA.sl.lim
  refine rets_enter Try.func26 rfl Try.ntmps26 (by simp) ?_
  refine WT_seq ?_
  refine WT_region ?_
  refine WL_v rfl (ov_assign rfl) ?_
  refine WL_nil ?_
  refine WT_seq ?_
  refine WT_seq ?_
  refine WT_region ?_
  refine WL_v rfl (ov_move rfl) ?_
  refine WL_v rfl (ov_len rfl hA.sl st_sl_impl_Node) ?_
  refine WL_v rfl (ov_move rfl) ?_
  refine WL_v rfl (ov_len rfl hB.sl st_sl_impl_Node) ?_
  refine WL_v rfl (ov_F (ov_neq rfl rfl) (by simp)) ?_
  refine WL_nil ?_
  refine WT_condF rfl ?_
  refine WT_skip ?_
  refine WT_seq ?_
  refine WT_seq ?_
  refine WT_region ?_
  refine WL_v rfl (ov_assign rfl) ?_
  refine WL_nil ?_
  refine WT_block ?_
  refine WT_while (fun s : Nat => [(0, av), (1, bv), (5, .int .i64 (s : Int))]) (fun k w => k ≤ p.length ∧ H w h Ls) (fun k => p.length - k) 0 (by repeat (first | exact trivial | refine ⟨rfl, ?_⟩)) ⟨by omega, hH⟩ ?_
  clear hH
  rintro k w2 ⟨hk, hH1⟩ again
  refine WT_seq ?_
  refine WT_seq ?_
  refine WT_region ?_
  refine WL_v rfl (ov_move rfl) ?_
  refine WL_v rfl (ov_move rfl) ?_
  refine WL_v rfl (ov_len rfl hA.sl st_sl_impl_Node) ?_
  refine WL_v rfl (ov_lss rfl rfl) ?_
  refine WL_nil ?_
  refine WT_cond rfl (fun hc => ?_) (fun hc => ?_)
  · skip
    first | with_reducible replace hc := of_decide_eq_true hc | with_reducible replace hc := bn_T hc | with_reducible replace hc := bb_T hc | skip
    have hkx : k < p.length := by omega
    obtain ⟨fv, rv, hx, hcell⟩ := hA.ndV' hkx
    obtain ⟨fv2, rv2, hy, hcell2⟩ := hB.ndV' hkx
    refine WT_skip ?_
    refine WT_seq ?_
    refine WT_block ?_
    refine WT_seq ?_
    refine WT_quiet mixed (by kernel_rfl) hH1 ?_
    clear hH1
    refine WQ_v rfl (fun _ _ => ov_move rfl) ?_
    refine WQ_v rfl (fun _ _ => ov_move rfl) ?_
    refine WQ_v rfl (fun _ _ => ov_index rfl rfl st_sl_impl_Node hA.sl hkx) ?_
    refine WQ_v rfl (fun _ hH => ov_loadN [.int .i64 p[k].kind, fv, rv] rfl agg_impl_Node rfl ((hcell _ _ hH))) ?_
    refine WQ_v rfl (fun _ _ => ov_move rfl) ?_
    refine WQ_v rfl (fun _ _ => ov_move rfl) ?_
    refine WQ_v rfl (fun _ _ => ov_index rfl rfl st_sl_impl_Node hB.sl hkx) ?_
    refine WQ_v rfl (fun _ hH => ov_loadN [.int .i64 p[k].kind, fv2, rv2] rfl agg_impl_Node rfl ((hcell2 _ _ hH))) ?_
    refine WQ_call rfl rfl cf_laws_sameNode (fun _ hH => sameNode_one hH hx hy) ?_
    refine WQ_v rfl (fun _ _ => ov_F (ov_not rfl) (by first | exact decide_eq_false rfl | exact nb_F rfl | exact mb_F rfl | exact rfl | (simp only [decide_eq_false_iff_not]; omega) | simpa using rfl)) ?_
    refine WQ_nil ?_
    intro w3 hH1
    refine WT_condF rfl ?_
    refine WT_skip ?_
    refine WT_inBlock ?_
    refine WT_region ?_
    refine WL_v rfl (ov_move rfl) ?_
    refine WL_v rfl (ov_add rfl rfl (by omega)) ?_
    refine WL_v rfl (ov_assign rfl) ?_
    refine WL_nil ?_
    exact again (k + 1) _ _ (by omega) (by repeat (first | exact trivial | refine ⟨rfl, ?_⟩)) ⟨by omega, hH1⟩
  first | with_reducible replace hc := of_decide_eq_false hc | with_reducible replace hc := bn_F hc | with_reducible replace hc := bb_F hc | skip
  obtain rfl : k = p.length := by omega
  refine WT_exit rfl ?_
  refine WT_seq ?_
  refine WT_region ?_
  refine WL_v rfl (ov_assign rfl) ?_
  refine WL_nil ?_
  exact WT_ret1 Try.func26 Try.results26 rfl ⟨rfl, hH1⟩

set_option maxHeartbeats 2000000 in
theorem l3Copy_ok (hH : H w h Ls) {pv : Value} {p : List Nd} (hP : Plan h pv p) (hv : planOk p = true) : Rets Try.prog 61 #[pv] w fun v w' => ∃ O Is, OPlan O Is v p ∧ H w' h (O :: (Is ++ Ls)) := by
  have hlen := PlanOk.len hv
  refine rets_enter Try.func61 rfl Try.ntmps61 (by simp) ?_
  refine WT_seq ?_
  refine WT_region ?_
  refine WL_v rfl (ov_assign rfl) ?_
  refine WL_nil ?_
  refine WT_seq ?_
  refine WT_region ?_
  refine WL_buildSlice (sz := 3) (parts := []) (vs := []) [] rfl hH rfl run_bs_node0 rfl (by omega) ?_; rintro O0 ov0 w1 hO0 hH1
  refine WL_v rfl (ov_assign rfl) ?_
  refine WL_nil ?_
  refine WT_seq ?_
  refine WT_seq ?_
  refine WT_region ?_
  refine WL_v rfl (ov_assign rfl) ?_
  refine WL_nil ?_
  refine WT_block ?_
  refine WT_while (fun s : Nat × Value => [(0, pv), (3, s.2), (4, .int .i64 (s.1 : Int))]) (fun s w => s.1 ≤ p.length ∧ ∃ O Is, OPlan O Is s.2 (p.take s.1) ∧ H w h (O :: (Is ++ Ls))) (fun s => p.length - s.1) (0, ov0) (by repeat (first | exact trivial | refine ⟨rfl, ?_⟩)) ⟨by omega, O0, [], ⟨rfl, [], hO0, by simp⟩, hH1⟩ ?_
  clear hH hH1 hO0
  rintro ⟨k, ov⟩ w2 ⟨hk, O, Is, hO, hH0⟩ again
  simp only at hk hO
  refine WT_seq ?_
  refine WT_seq ?_
  refine WT_region ?_
  refine WL_v rfl (ov_move rfl) ?_
  refine WL_v rfl (ov_move rfl) ?_
  refine WL_v rfl (ov_len rfl hP.sl st_sl_impl_Node) ?_
  refine WL_v rfl (ov_lss rfl rfl) ?_
  refine WL_nil ?_
  refine WT_cond rfl (fun hc => ?_) (fun hc => ?_)
  · skip
    first | with_reducible replace hc := of_decide_eq_true hc | with_reducible replace hc := bn_T hc | with_reducible replace hc := bb_T hc | skip
    have hkp : k < p.length := by simp only at hc; omega
    obtain ⟨fv, rv, hf, hr, hcell⟩ := hP.node hkp
    have hN := PlanOk.node hv hkp
    have hf2 := NodeOk.len2 hN
    have hr6 := rowOk_six hN.row
    have htk : (p.take k).length = k := by rw [List.length_take]; omega
    obtain ⟨hil, xs, hR3, hat⟩ := hO
    have hnew : ∀ {O2 F R : Heaplet} {ov2 fv2 rv2 : Value}, Row O2 32 3 ov2 ((p.take k).length + 1) (xs ++ [.int .i64 p[k].kind, fv2, rv2]) → IRow F 3 fv2 p[k].frm → IRow R 3 rv2 p[k].row → OPlan O2 (Is ++ [F, R]) ov2 (p.take (k + 1)) := fun {O2 F R ov2 fv2 rv2} hO2 hF hR => by
      rw [List.take_succ_eq_append_getElem hkp]
      exact OPlan.snoc (x := p[k]) hil hR3.len hat hO2 hF hR
    refine WT_skip ?_
    refine WT_seq ?_
    refine WT_block ?_
    refine WT_seq ?_
    refine WT_region ?_
    refine WL_v rfl (ov_move rfl) ?_
    refine WL_v rfl (ov_move rfl) ?_
    refine WL_v rfl (ov_index rfl rfl st_sl_impl_Node hP.sl hkp) ?_
    refine WL_v rfl (ov_loadN [.int .i64 p[k].kind, fv, rv] rfl agg_impl_Node rfl ((hcell _ _ hH0))) ?_
    refine WL_alloc _ rfl hH0 zero_impl_Node rfl ?_; rintro g w3 hH3
    refine WL_storeN hH3 rfl rfl (i := 0) rfl rfl rfl (ones_cons rfl (ones_cons hf.sl.one (ones_cons hr.sl.one ones_nil))) sz_impl_Node ?_; rintro w4 hH
    refine WL_nil ?_
    clear hH0 hH3
    refine WT_mixXS [(0, 1), (1, 1), (2, 0), (3, 2), (4, 1), (5, 0), (6, 2), (7, 2), (8, 1), (9, 0), (10, 2), (11, 1), (12, 3), (13, 3), (14, 1)] [(0, 1), (1, 1), (2, 0), (4, 1), (5, 0), (8, 1), (9, 0)] 8 #[true, true, true, false, true, true, false, false, true, true, false, false, false, false, false] [nbx g (.int .i64 p[k].kind) fv rv] (fun w' hh => Cl.subM [] [nbx g (.int .i64 p[k].kind) fv rv] _ hh) mixed (by kernel_rfl) hH ?_
    clear hH
    intro w5 hH hC
    refine WM_p rfl rfl (fun _ => ov_move rfl) ?_
    refine WM_p rfl rfl (fun _ => ov_field rfl fo_impl_Node_0) ?_
    refine WM_v rfl rfl hC (fun _ ⟨_, hH⟩ => ov_load rfl one_int (hH.cb 1 rfl 0)) ?_
    refine WM_p rfl rfl (fun _ => ov_field rfl fo_impl_Node_1) ?_
    refine WM_v rfl rfl hC (fun _ ⟨_, hH⟩ => ov_load rfl one_sl_int (hH.cb 1 rfl 1)) ?_
    refine WM_p rfl rfl (fun _ => ov_field rfl fo_impl_Node_2) ?_
    refine WM_v rfl rfl hC (fun _ ⟨_, hH⟩ => ov_load rfl one_sl_int (hH.cb 1 rfl 2)) ?_
    refine WM_fork 3 7 0 0 [] [(3, 2), (6, 2), (10, 2), (11, 1), (12, 3), (13, 3), (14, 1)] 7 0 #[true, true, true, true, true, true, false, false, true, true, false, false, false, false, false] #[true, true, true, true, true, true, true, true, true, true, true, true, true, true, true] (by kernel_rfl) ?_ ?_
    · skip
      refine WM_e rfl ?_
      refine WL_bsI0 rfl hH run_bs_int0 ?_; rintro X3 v3 wf1 hX3 hK1
      replace hC : Cl _ _ _ := Cl.subM [X3] [nbx g (.int .i64 p[k].kind) fv rv] _ hK1
      refine WL_mix (fun _ => hC) ?_
      refine WM_fork 6 7 0 0 [(7, 2), (10, 2), (11, 1), (12, 3), (13, 3), (14, 1)] [(6, 2), (10, 2), (11, 1), (12, 3), (13, 3), (14, 1)] 0 0 #[true, true, true, true, true, true, true, true, true, true, true, true, true, true, true] #[true, true, true, true, true, true, true, true, true, true, true, true, true, true, true] (by kernel_rfl) ?_ ?_
      · skip
        refine WM_e rfl ?_
        refine WL_appR (i := 0) (xs := []) rfl hK1 rfl rfl st_sl_int rfl hX3 hf.sl (fun hj => hf.cell hK1 hj) (by simp only [List.length_nil]; omega) (by simp only [List.length_nil]; omega) ?_; clear hX3; rintro X3 v6 wf2 hX3 hK2; rw [List.nil_append] at hX3
        replace hC : Cl _ _ _ := Cl.subM [X3] [nbx g (.int .i64 p[k].kind) fv rv] _ hK2
        refine WL_mix (fun _ => hC) ?_
        refine WM_e rfl ?_
        refine WL_bsI0 rfl hK2 run_bs_int0 ?_; rintro X7 v7 wf3 hX7 hK3
        replace hC : Cl _ _ _ := Cl.subM [X7, X3] [nbx g (.int .i64 p[k].kind) fv rv] _ hK3
        refine WL_mix (fun _ => hC) ?_
        refine WM_e rfl ?_
        refine WL_appR (i := 0) (xs := []) rfl hK3 rfl rfl st_sl_int rfl hX7 hr.sl (fun hj => hr.cell hK3 hj) (by simp only [List.length_nil]; omega) (by simp only [List.length_nil]; omega) ?_; clear hX7; rintro X7 v10 wf4 hX7 hK4; rw [List.nil_append] at hX7
        replace hC : Cl _ _ _ := Cl.subM [X7, X3] [nbx g (.int .i64 p[k].kind) fv rv] _ hK4
        refine WL_mix (fun _ => hC) ?_
        refine WM_p rfl rfl (fun _ => ov_build rfl (run_build_node hX3.sl hX7.sl)) ?_
        refine WM_e rfl ?_
        refine WL_buildSlice (sz := 3) [.int .i64 p[k].kind, v6, v10] rfl hK4 rfl (run_bs_node hX3.sl hX7.sl) rfl (by omega) ?_; rintro Z zv wz5 hZ hZ5
        refine WL_mix (fun h => absurd rfl h) ?_
        refine WM_e rfl ?_
        refine WL_append1 (i := 4) (j := 0) (n := (p.take k).length) (m := 1) rfl hZ5 rfl rfl st_sl_impl_Node (by omega) rfl hR3 rfl hZ (ones_cons rfl (ones_cons hX3.sl.one (ones_cons hX7.sl.one ones_nil))) (by omega) (by omega) ?_; rintro O2 ov2 wy5 hO2 hL5
        refine WL_mix (fun h => absurd rfl h) ?_
        refine WM_p rfl rfl (fun _ => ov_assign rfl) ?_
        refine WM_fin (by kernel_rfl) ?_
        refine WT_inBlock ?_
        refine WT_region ?_
        refine WL_v rfl (ov_move rfl) ?_
        refine WL_v rfl (ov_add rfl rfl (by omega)) ?_
        refine WL_v rfl (ov_assign rfl) ?_
        refine WL_nil ?_
        refine again (k + 1, ov2) _ _ (by simp only; omega) (by repeat (first | exact trivial | refine ⟨rfl, ?_⟩)) ⟨by simp only; omega, O2, Is ++ [X3, X7], hnew hO2 hX3 hX7, (H.addFR ((hL5.drop.swap).pull 2 rfl)).drop⟩
      refine WM_e rfl ?_
      refine WL_bsI0 rfl hK1 run_bs_int0 ?_; rintro X7 v7 wf6 hX7 hK6
      replace hC : Cl _ _ _ := Cl.subM [X7, X3] [nbx g (.int .i64 p[k].kind) fv rv] _ hK6
      refine WL_mix (fun _ => hC) ?_
      refine WM_e rfl ?_
      refine WL_appR (i := 1) (xs := []) rfl hK6 rfl rfl st_sl_int rfl hX3 hf.sl (fun hj => hf.cell hK6 hj) (by simp only [List.length_nil]; omega) (by simp only [List.length_nil]; omega) ?_; clear hX3; rintro X3 v6 wf7 hX3 hK7; rw [List.nil_append] at hX3
      replace hC : Cl _ _ _ := Cl.subM [X7, X3] [nbx g (.int .i64 p[k].kind) fv rv] _ hK7
      refine WL_mix (fun _ => hC) ?_
      refine WM_e rfl ?_
      refine WL_appR (i := 0) (xs := []) rfl hK7 rfl rfl st_sl_int rfl hX7 hr.sl (fun hj => hr.cell hK7 hj) (by simp only [List.length_nil]; omega) (by simp only [List.length_nil]; omega) ?_; clear hX7; rintro X7 v10 wf8 hX7 hK8; rw [List.nil_append] at hX7
      replace hC : Cl _ _ _ := Cl.subM [X7, X3] [nbx g (.int .i64 p[k].kind) fv rv] _ hK8
      refine WL_mix (fun _ => hC) ?_
      refine WM_p rfl rfl (fun _ => ov_build rfl (run_build_node hX3.sl hX7.sl)) ?_
      refine WM_e rfl ?_
      refine WL_buildSlice (sz := 3) [.int .i64 p[k].kind, v6, v10] rfl hK8 rfl (run_bs_node hX3.sl hX7.sl) rfl (by omega) ?_; rintro Z zv wz9 hZ hZ9
      refine WL_mix (fun h => absurd rfl h) ?_
      refine WM_e rfl ?_
      refine WL_append1 (i := 4) (j := 0) (n := (p.take k).length) (m := 1) rfl hZ9 rfl rfl st_sl_impl_Node (by omega) rfl hR3 rfl hZ (ones_cons rfl (ones_cons hX3.sl.one (ones_cons hX7.sl.one ones_nil))) (by omega) (by omega) ?_; rintro O2 ov2 wy9 hO2 hL9
      refine WL_mix (fun h => absurd rfl h) ?_
      refine WM_p rfl rfl (fun _ => ov_assign rfl) ?_
      refine WM_fin (by kernel_rfl) ?_
      refine WT_inBlock ?_
      refine WT_region ?_
      refine WL_v rfl (ov_move rfl) ?_
      refine WL_v rfl (ov_add rfl rfl (by omega)) ?_
      refine WL_v rfl (ov_assign rfl) ?_
      refine WL_nil ?_
      refine again (k + 1, ov2) _ _ (by simp only; omega) (by repeat (first | exact trivial | refine ⟨rfl, ?_⟩)) ⟨by simp only; omega, O2, Is ++ [X3, X7], hnew hO2 hX3 hX7, (H.addFR ((hL9.drop.swap).pull 2 rfl)).drop⟩
    refine WM_e rfl ?_
    refine WL_bsI0 rfl hH run_bs_int0 ?_; rintro X7 v7 wf10 hX7 hK10
    replace hC : Cl _ _ _ := Cl.subM [X7] [nbx g (.int .i64 p[k].kind) fv rv] _ hK10
    refine WL_mix (fun _ => hC) ?_
    refine WM_e rfl ?_
    refine WL_bsI0 rfl hK10 run_bs_int0 ?_; rintro X3 v3 wf11 hX3 hK11
    replace hC : Cl _ _ _ := Cl.subM [X3, X7] [nbx g (.int .i64 p[k].kind) fv rv] _ hK11
    refine WL_mix (fun _ => hC) ?_
    refine WM_e rfl ?_
    refine WL_appR (i := 0) (xs := []) rfl hK11 rfl rfl st_sl_int rfl hX3 hf.sl (fun hj => hf.cell hK11 hj) (by simp only [List.length_nil]; omega) (by simp only [List.length_nil]; omega) ?_; clear hX3; rintro X3 v6 wf12 hX3 hK12; rw [List.nil_append] at hX3
    replace hC : Cl _ _ _ := Cl.subM [X3, X7] [nbx g (.int .i64 p[k].kind) fv rv] _ hK12
    refine WL_mix (fun _ => hC) ?_
    refine WM_e rfl ?_
    refine WL_appR (i := 1) (xs := []) rfl hK12 rfl rfl st_sl_int rfl hX7 hr.sl (fun hj => hr.cell hK12 hj) (by simp only [List.length_nil]; omega) (by simp only [List.length_nil]; omega) ?_; clear hX7; rintro X7 v10 wf13 hX7 hK13; rw [List.nil_append] at hX7
    replace hC : Cl _ _ _ := Cl.subM [X3, X7] [nbx g (.int .i64 p[k].kind) fv rv] _ hK13
    refine WL_mix (fun _ => hC) ?_
    refine WM_p rfl rfl (fun _ => ov_build rfl (run_build_node hX3.sl hX7.sl)) ?_
    refine WM_e rfl ?_
    refine WL_buildSlice (sz := 3) [.int .i64 p[k].kind, v6, v10] rfl hK13 rfl (run_bs_node hX3.sl hX7.sl) rfl (by omega) ?_; rintro Z zv wz14 hZ hZ14
    refine WL_mix (fun h => absurd rfl h) ?_
    refine WM_e rfl ?_
    refine WL_append1 (i := 4) (j := 0) (n := (p.take k).length) (m := 1) rfl hZ14 rfl rfl st_sl_impl_Node (by omega) rfl hR3 rfl hZ (ones_cons rfl (ones_cons hX3.sl.one (ones_cons hX7.sl.one ones_nil))) (by omega) (by omega) ?_; rintro O2 ov2 wy14 hO2 hL14
    refine WL_mix (fun h => absurd rfl h) ?_
    refine WM_p rfl rfl (fun _ => ov_assign rfl) ?_
    refine WM_fin (by kernel_rfl) ?_
    refine WT_inBlock ?_
    refine WT_region ?_
    refine WL_v rfl (ov_move rfl) ?_
    refine WL_v rfl (ov_add rfl rfl (by omega)) ?_
    refine WL_v rfl (ov_assign rfl) ?_
    refine WL_nil ?_
    refine again (k + 1, ov2) _ _ (by simp only; omega) (by repeat (first | exact trivial | refine ⟨rfl, ?_⟩)) ⟨by simp only; omega, O2, Is ++ [X3, X7], hnew hO2 hX3 hX7, (H.addFR ((hL14.drop).pull 2 rfl)).drop⟩
  first | with_reducible replace hc := of_decide_eq_false hc | with_reducible replace hc := bn_F hc | with_reducible replace hc := bb_F hc | skip
  have hkl : k = p.length := by simp only at hc; omega
  subst hkl
  rw [List.take_length] at hO
  refine WT_exit rfl ?_
  refine WT_seq ?_
  refine WT_region ?_
  refine WL_v rfl (ov_move rfl) ?_
  refine WL_v rfl (ov_assign rfl) ?_
  refine WL_nil ?_
  exact WT_ret1 Try.func61 Try.results61 rfl ⟨O, Is, hO, hH0⟩

theorem olists_pick {V : Heaplet} {Vs Ms : List Heaplet} {i : Nat} {R : Heaplet} (hi : Vs[i]? = some R) (hH : H w h (V :: (Vs ++ Ms))) : H w h (R :: Ms) := by
  have hil : i < Vs.length := (List.getElem?_eq_some_iff.1 hi).1
  have h1 := hH.pull (i + 1) (X := R) (by rw [List.getElem?_cons_succ, List.getElem?_append_left hil]; exact hi)
  rw [List.eraseIdx_cons_succ, List.eraseIdx_append_of_lt_length hil] at h1
  have h2 : H w h ((V :: Vs.eraseIdx i) ++ R :: Ms) := h1.perm (by
    have := List.perm_middle (a := R) (l₁ := V :: Vs.eraseIdx i) (l₂ := Ms)
    exact this.symm)
  exact H.drops _ h2

theorem sFoldNode_yes (hH : H w h Ls) {pv : Value} {p : List Nd} (hP : Plan h pv p) (hv : planOk p = true) {a : Nat} (ha : a < p.length) : Rets Try.prog 32 #[pv, .int .i64 (a : Int)] w (FoldV h Ls p a) := by
  have hlen := PlanOk.len hv
  have hsv := fun {w : World} {Ls : List Heaplet} (hH : H w h Ls) => sPlanValid_ok hH hP (by omega)
  rw [hv] at hsv
  have hvl : (valsL p).length = p.length := valsTo_len p _
  have hav : a < (valsL p).length := by omega
  have hvg : (valsL p).getD a [] = (valsL p)[a] := by rw [List.getD_eq_getElem?_getD, List.getElem?_eq_getElem hav]; rfl
  refine rets_enter Try.func32 rfl Try.ntmps32 (by simp) ?_
  refine WT_seq ?_
  refine WT_region ?_
  refine WL_v rfl (ov_assign rfl) ?_
  refine WL_v rfl (ov_assign rfl) ?_
  refine WL_nil ?_
  refine WT_seq ?_
  refine WT_seq ?_
  refine WT_region ?_
  refine WL_v rfl (ov_move rfl) ?_
  refine WL_call rfl rfl cf_spec_PlanValid (hsv hH) ?_; rintro _ w1 ⟨rfl, hH1⟩
  refine WL_v rfl (ov_F (ov_not rfl) (by first | exact decide_eq_false rfl | exact nb_F rfl | exact mb_F rfl | exact rfl | (simp only [decide_eq_false_iff_not]; omega) | simpa using rfl)) ?_
  refine WL_v rfl (ov_move rfl) ?_
  refine WL_guardOn rfl rfl ?_
  refine WL_v rfl (ov_move rfl) ?_
  refine WL_guardOn rfl rfl ?_
  refine WL_v rfl (ov_move rfl) ?_
  refine WL_guardOn rfl rfl ?_
  refine WL_v rfl (ov_len rfl hP.sl st_sl_impl_Node) ?_
  refine WL_guardOn rfl rfl ?_
  refine WL_v rfl (ov_sub rfl rfl (by omega)) ?_
  refine WL_guardOn rfl rfl ?_
  refine WL_call rfl rfl cf_spec_l6In (l6In_ok hH1 _ _ _) ?_; rintro _ w2 ⟨rfl, hH2⟩
  refine WL_guardOn rfl rfl ?_
  refine WL_v rfl (ov_F (ov_not rfl) (by rw [decide_eq_true (by omega)]; rfl)) ?_
  refine WL_v rfl (ov_pickF rfl rfl) ?_
  refine WL_nil ?_
  refine WT_condF rfl ?_
  refine WT_skip ?_
  refine WT_seq ?_
  refine WT_region ?_
  refine WL_v rfl (ov_move rfl) ?_
  refine WL_call rfl rfl cf_spec_l3Copy (l3Copy_ok hH2 hP hv) ?_; rintro ov w3 ⟨O, Is, hO, hH3⟩
  refine WL_v rfl (ov_assign rfl) ?_
  refine WL_nil ?_
  refine WT_seq ?_
  refine WT_region ?_
  refine WL_v rfl (ov_move rfl) ?_
  refine WL_v rfl (ov_move rfl) ?_
  refine WL_bsI0 rfl hH3 run_bs_int0 ?_; rintro F0 fv0 w4 hF0 hH4
  refine WL_v rfl (ov_move rfl) ?_
  refine WL_call rfl rfl cf_spec_l4Values (l4Values_ok hH4 hP hv) ?_; rintro vv w5 ⟨V, Vs, hV, hH5⟩; obtain ⟨u, R, hR, hRi, _, hcell⟩ := hV.elem (h := h) (Ls := V :: (Vs ++ F0 :: O :: (Is ++ Ls))) (LAt.cons) hav; obtain ⟨hil, xs, hR3, hat⟩ := hO; have hxl := hR3.len; have ho1 : a * 3 + [Value.int .i64 0, fv0, u].length ≤ xs.length := (by simp only [List.length_cons, List.length_nil]; omega); have hH55 := olists_pick hRi hH5
  refine WL_v rfl (ov_move rfl) ?_
  refine WL_v rfl (ov_index rfl rfl st_sl_sl_int hV.sl hav) ?_
  refine WL_v rfl (ov_load rfl one_sl_int (hcell hH5)) ?_
  refine WL_v rfl (ov_build rfl (run_build_node hF0.sl hR.sl)) ?_
  refine WL_v rfl (ov_index rfl rfl st_sl_impl_Node hR3.sl ha) ?_
  refine WL_storeRowN hH55 rfl rfl (i := 2) rfl hR3 ho1 (by simp) (ones_cons rfl (ones_cons hF0.sl.one (ones_cons hR.sl.one ones_nil))) sz_impl_Node ?_; rintro O2 w6 hO2 hH6
  refine WL_nil ?_
  refine WT_seq ?_
  refine WT_region ?_
  refine WL_v rfl (ov_move rfl) ?_
  refine WL_v rfl (ov_assign rfl) ?_
  refine WL_v rfl (ov_assign rfl) ?_
  refine WL_nil ?_
  have hnew : OPlan O2 ((Is.set (2 * a) F0).set (2 * a + 1) R) ov (p.set a (foldN p a)) := OPlan.set (k := a) (x := foldN p a) ha hil hxl hat hO2 hF0 (by unfold foldN; rw [hvg]; exact hR)
  have h7 : H w6 h (R :: F0 :: O2 :: (Is ++ Ls)) := hH6
  exact WT_ret2 Try.func32 Try.results32 rfl rfl ⟨ov, O2, _, rfl, hnew, (H.setFR h7.swap.nilIn.unrot3 (by omega)).nilOut⟩

theorem sFoldNode_no (hH : H w h Ls) {pv : Value} {p : List Nd} (hP : Plan h pv p) (hpl : p.length ≤ 1000000000) {a : Int} (ha1 : -1000 ≤ a ∧ a ≤ 1000) (hb : ¬ (planOk p = true ∧ 0 ≤ a ∧ a < (p.length : Int))) : Rets Try.prog 32 #[pv, .int .i64 a] w fun v w' => ∃ ov O, v = .tuple #[ov, .bool false] ∧ OPlan O [] ov [] ∧ H w' h (O :: Ls) := by
  have hsv := fun {w : World} {Ls : List Heaplet} (hH : H w h Ls) => sPlanValid_ok hH hP hpl
  refine rets_enter Try.func32 rfl Try.ntmps32 (by simp) ?_
  by_cases hv : planOk p = true
  · rw [hv] at hsv
    have hnb : ¬ (0 ≤ a ∧ a < (p.length : Int)) := fun h0 => hb ⟨hv, h0⟩
    refine WT_seq ?_
    refine WT_region ?_
    refine WL_v rfl (ov_assign rfl) ?_
    refine WL_v rfl (ov_assign rfl) ?_
    refine WL_nil ?_
    refine WT_seq ?_
    refine WT_seq ?_
    refine WT_region ?_
    refine WL_v rfl (ov_move rfl) ?_
    refine WL_call rfl rfl cf_spec_PlanValid (hsv hH) ?_; rintro _ w1 ⟨rfl, hH1⟩
    refine WL_v rfl (ov_F (ov_not rfl) (by first | exact decide_eq_false rfl | exact nb_F rfl | exact mb_F rfl | exact rfl | (simp only [decide_eq_false_iff_not]; omega) | simpa using rfl)) ?_
    refine WL_v rfl (ov_move rfl) ?_
    refine WL_guardOn rfl rfl ?_
    refine WL_v rfl (ov_move rfl) ?_
    refine WL_guardOn rfl rfl ?_
    refine WL_v rfl (ov_move rfl) ?_
    refine WL_guardOn rfl rfl ?_
    refine WL_v rfl (ov_len rfl hP.sl st_sl_impl_Node) ?_
    refine WL_guardOn rfl rfl ?_
    refine WL_v rfl (ov_sub rfl rfl (by omega)) ?_
    refine WL_guardOn rfl rfl ?_
    refine WL_call rfl rfl cf_spec_l6In (l6In_ok hH1 _ _ _) ?_; rintro _ w2 ⟨rfl, hH2⟩
    refine WL_guardOn rfl rfl ?_
    refine WL_v rfl (ov_T (ov_not rfl) (by rw [decide_eq_false (by omega)]; rfl)) ?_
    refine WL_v rfl (ov_pickF rfl rfl) ?_
    refine WL_nil ?_
    refine WT_condT rfl ?_
    refine WT_seq ?_
    refine WT_region ?_
    refine WL_buildSlice (sz := 3) (parts := []) (vs := []) [] rfl hH2 rfl run_bs_node0 rfl (by omega) ?_; rintro O0 ov0 w3 hO0 hH3
    refine WL_v rfl (ov_assign rfl) ?_
    refine WL_v rfl (ov_assign rfl) ?_
    refine WL_nil ?_
    exact WT_ret2 Try.func32 Try.results32 rfl rfl ⟨ov0, O0, rfl, ⟨rfl, [], hO0, by simp⟩, hH3⟩
  · rw [show planOk p = false by simpa using hv] at hsv
    refine WT_seq ?_
    refine WT_region ?_
    refine WL_v rfl (ov_assign rfl) ?_
    refine WL_v rfl (ov_assign rfl) ?_
    refine WL_nil ?_
    refine WT_seq ?_
    refine WT_seq ?_
    refine WT_region ?_
    refine WL_v rfl (ov_move rfl) ?_
    refine WL_call rfl rfl cf_spec_PlanValid (hsv hH) ?_; rintro _ w1 ⟨rfl, hH1⟩
    refine WL_v rfl (ov_T (ov_not rfl) (by first | exact decide_eq_true rfl | exact nb_T rfl | exact mb_T rfl | exact rfl | (simp only [decide_eq_true_eq]; omega) | simpa using rfl)) ?_
    refine WL_v rfl (ov_move rfl) ?_
    refine WL_guardOff rfl rfl rfl rfl ?_
    refine WL_guardOff rfl rfl rfl rfl ?_
    refine WL_guardOff rfl rfl rfl rfl ?_
    refine WL_guardOff rfl rfl rfl rfl ?_
    refine WL_guardOff rfl rfl rfl rfl ?_
    refine WL_guardOff rfl rfl rfl rfl ?_
    refine WL_v rfl (ov_pickT rfl rfl) ?_
    refine WL_nil ?_
    refine WT_condT rfl ?_
    refine WT_seq ?_
    refine WT_region ?_
    refine WL_buildSlice (sz := 3) (parts := []) (vs := []) [] rfl hH1 rfl run_bs_node0 rfl (by omega) ?_; rintro O0 ov0 w3 hO0 hH3
    refine WL_v rfl (ov_assign rfl) ?_
    refine WL_v rfl (ov_assign rfl) ?_
    refine WL_nil ?_
    exact WT_ret2 Try.func32 Try.results32 rfl rfl ⟨ov0, O0, rfl, ⟨rfl, [], hO0, by simp⟩, hH3⟩
end
end Go.Proofs.Ytafljegjdanldaa

/- Walks: a plan of some nodes alone, by the reference. -/
namespace Go.Proofs.Ytafljegjdanldaa
open Go.RowKit

theorem numsTo_len (K : Nat → Bool) (n : Nat) : (numsTo K n).length = n := by simp [numsTo]
theorem numsTo_succ (K : Nat → Bool) (n : Nat) : numsTo K (n + 1) = numsTo K n ++ [if K n = true then ((numK K n : Nat) : Int) else -1] := by simp [numsTo, List.range_succ]
theorem numsTo_get {K : Nat → Bool} {n j : Nat} (h : j < (numsTo K n).length) (hj : K j = true) : (numsTo K n)[j] = ((numK K j : Nat) : Int) := by simp [numsTo, hj]

/-- The nodes of a plan of one's own from one on: their parts. -/
def RestAt (p : List Nd) (xs : List Value) (i : Nat) (Bs : List Heaplet) : Prop := Bs.length = 2 * (p.length - i) ∧ ∀ j, i ≤ j → ∀ (hj : j < p.length), ∃ fv rv F R, (∀ t u, [Value.int .i64 p[j].kind, fv, rv][t]? = some u → xs[j * 3 + t]? = some u) ∧ Bs[2 * (j - i)]? = some F ∧ Bs[2 * (j - i) + 1]? = some R ∧ IRow F 3 fv p[j].frm ∧ IRow R 3 rv p[j].row
theorem RestAt.step {p : List Nd} {xs : List Value} {i : Nat} {Bs : List Heaplet} (h : RestAt p xs i Bs) (hi : i < p.length) :
    ∃ F R Bs' fv rv, Bs = F :: R :: Bs' ∧ (∀ t u, [Value.int .i64 p[i].kind, fv, rv][t]? = some u → xs[i * 3 + t]? = some u) ∧ IRow F 3 fv p[i].frm ∧ IRow R 3 rv p[i].row ∧ RestAt p xs (i + 1) Bs' := by
  obtain ⟨hl, hat⟩ := h
  match Bs, hl with
  | F :: R :: Bs', hl =>
    obtain ⟨fv, rv, F', R', g1, g2, g3, g4, g5⟩ := hat i (Nat.le_refl _) hi
    simp only [Nat.sub_self, Nat.mul_zero, List.getElem?_cons_zero, Option.some.injEq, Nat.zero_add, List.getElem?_cons_succ] at g2 g3
    subst g2 g3
    refine ⟨F, R, Bs', fv, rv, rfl, g1, g4, g5, by simp only [List.length_cons] at hl; omega, fun j hij hj => ?_⟩
    obtain ⟨fv', rv', F', R', k1, k2, k3, k4, k5⟩ := hat j (by omega) hj
    refine ⟨fv', rv', F', R', k1, ?_, ?_, k4, k5⟩
    · rw [show 2 * (j - i) = 2 * (j - (i + 1)) + 1 + 1 by omega] at k2
      exact k2
    · rw [show 2 * (j - i) + 1 = 2 * (j - (i + 1)) + 1 + 1 + 1 by omega] at k3
      exact k3
  | [], hl => simp only [List.length_nil] at hl; omega
  | [_], hl => simp only [List.length_cons, List.length_nil] at hl; omega

section
variable {h : GH} {Ls : List Heaplet} {w : World}

theorem H.outFR {F R : Heaplet} (P : List Heaplet) {Q : List Heaplet} (hH : H w h (P ++ F :: R :: Q)) : H w h (F :: R :: (P ++ Q)) := by
  refine hH.perm ?_
  have : ((P ++ [F, R]) ++ Q).Perm (([F, R] ++ P) ++ Q) := List.perm_append_comm.append_right Q
  simpa using this

set_option maxHeartbeats 2000000 in
theorem sPlanCut_yes (hH : H w h Ls) {pv lv : Value} {p : List Nd} {L : List Int} (hP : Plan h pv p) (hL : RdL h Ls lv L) (hok : cutOk p L = true) : Rets Try.prog 25 #[pv, lv] w fun v w' => ∃ K : Nat → Bool, (∀ a, K a = true ↔ Keep p L a) ∧ CutV h Ls p K v w' := by
  have hok2 := hok
  unfold cutOk at hok2
  rw [Bool.and_eq_true] at hok2
  obtain ⟨hv, hall⟩ := hok2
  have hlen := PlanOk.len hv
  refine rets_enter Try.func25 rfl Try.ntmps25 (by simp) ?_
  refine WT_seq ?_
  refine WT_region ?_
  refine WL_v rfl (ov_assign rfl) ?_
  refine WL_v rfl (ov_assign rfl) ?_
  refine WL_v rfl (ov_assign rfl) ?_
  refine WL_nil ?_
  refine WT_seq ?_
  refine WT_region ?_
  refine WL_v rfl (ov_move rfl) ?_
  refine WL_v rfl (ov_move rfl) ?_
  refine WL_call rfl rfl cf_spec_CutKeep (sCutKeep_yes hH hP hL hok) ?_; rintro _ w1 ⟨K, X, kv, rfl, hK, hKp, hX, hH1⟩
  refine WL_v rfl (ov_move rfl) ?_
  refine WL_v rfl (ov_extract rfl rfl) ?_
  refine WL_v rfl (ov_extract rfl rfl) ?_
  refine WL_v rfl (ov_assign rfl) ?_
  refine WL_v rfl (ov_assign rfl) ?_
  refine WL_nil ?_
  refine WT_seq ?_
  refine WT_region ?_
  refine WL_buildSlice (sz := 3) (parts := []) (vs := []) [] rfl hH1 rfl run_bs_node0 rfl (by omega) ?_; rintro O0 ov0 w2 hO0 hH2
  refine WL_v rfl (ov_assign rfl) ?_
  refine WL_nil ?_
  refine WT_seq ?_
  refine WT_region ?_
  refine WL_bsI0 rfl hH2 run_bs_int0 ?_; rintro Y0 nv0 w3 hY0 hH3
  refine WL_v rfl (ov_assign rfl) ?_
  refine WL_nil ?_
  refine WT_seq ?_
  refine WT_seq ?_
  refine WT_region ?_
  refine WL_v rfl (ov_move rfl) ?_
  refine WL_v rfl (ov_F (ov_not rfl) (by first | exact decide_eq_false rfl | exact nb_F rfl | exact mb_F rfl | exact rfl | (simp only [decide_eq_false_iff_not]; omega) | simpa using rfl)) ?_
  refine WL_nil ?_
  have hcl := Keep.clK hv hK
  have hkm : ∀ i : Nat, i < p.length → decide ((i : Int) ∈ toI ((List.range p.length).filter K)) = K i := fun i hi => by
    cases hk : K i with
    | true => exact decide_eq_true (List.mem_map.2 ⟨i, List.mem_filter.2 ⟨List.mem_range.2 hi, hk⟩, rfl⟩)
    | false =>
      refine decide_eq_false fun hm => ?_
      obtain ⟨j, hj, he⟩ := List.mem_map.1 hm
      obtain rfl : j = i := by omega
      rw [(List.mem_filter.1 hj).2] at hk
      cases hk
  refine WT_condF rfl ?_
  refine WT_skip ?_
  refine WT_seq ?_
  refine WT_region ?_
  refine WL_v rfl (ov_move rfl) ?_
  refine WL_call rfl rfl cf_spec_l3Copy (l3Copy_ok hH3 hP hv) ?_; rintro av w4 ⟨A, As, hA, hH4⟩
  refine WL_v rfl (ov_assign rfl) ?_
  refine WL_nil ?_
  refine WT_seq ?_
  refine WT_seq ?_
  refine WT_region ?_
  refine WL_v rfl (ov_assign rfl) ?_
  refine WL_nil ?_
  refine WT_block ?_
  obtain ⟨hal, xs, hR3, hat⟩ := hA
  have hrest : RestAt p xs 0 As := ⟨by omega, fun j _ hj => by
    obtain ⟨fv, rv, F, R, g1, g2, g3, g4, g5⟩ := hat j hj
    exact ⟨fv, rv, F, R, g1, g2, g3, g4, g5⟩⟩
  have hxl := hR3.len
  have hH5 : H w4 h (Y0 :: X :: A :: O0 :: ([] ++ (As ++ Ls))) := by
    have h1 := H.flipM (A :: As) (B := [Y0, O0, X]) (Ms := Ls) (by simpa using hH4)
    have h2 : H w4 h (Y0 :: O0 :: X :: A :: (As ++ Ls)) := by simpa using h1
    exact (((h2.pull 1 rfl).pull 3 rfl).pull 3 rfl).pull 3 rfl
  refine WT_while (fun s : Nat × Value × Value => [(0, pv), (7, kv), (9, s.2.1), (10, s.2.2), (11, av), (12, .int .i64 (s.1 : Int))]) (fun s w => s.1 ≤ p.length ∧ ∃ Y O Is Bs, IRow Y 3 s.2.2 (numsTo K s.1) ∧ OPlan O Is s.2.1 (cutTo p K s.1) ∧ RestAt p xs s.1 Bs ∧ H w h (Y :: X :: A :: O :: (Is ++ (Bs ++ Ls)))) (fun s => p.length - s.1) (0, ov0, nv0) (by repeat (first | exact trivial | refine ⟨rfl, ?_⟩)) ⟨by omega, Y0, O0, [], As, hY0, ⟨rfl, [], hO0, by simp [cutTo]⟩, hrest, hH5⟩ ?_
  clear hH hH1 hH2 hH3 hH4 hH5 hY0 hO0 hrest hat
  rintro ⟨i, ov, nv⟩ w5 ⟨hi, Y, O, Is, Bs, hY, hO, hRs, hH⟩ again
  simp only at hi hY hO hRs hH
  refine WT_seq ?_
  refine WT_seq ?_
  refine WT_region ?_
  refine WL_v rfl (ov_move rfl) ?_
  refine WL_v rfl (ov_move rfl) ?_
  refine WL_v rfl (ov_len rfl hP.sl st_sl_impl_Node) ?_
  refine WL_v rfl (ov_lss rfl rfl) ?_
  refine WL_nil ?_
  refine WT_cond rfl (fun hc => ?_) (fun hc => ?_)
  · skip
    first | with_reducible replace hc := of_decide_eq_true hc | with_reducible replace hc := bn_T hc | with_reducible replace hc := bb_T hc | skip
    have hip : i < p.length := by simp only at hc; omega
    have hhas := fun {w : World} (hH : H w h (Y :: X :: A :: O :: (Is ++ (Bs ++ Ls)))) => l3HasR_ok hH (hX.rdl (i := 1) rfl) (i : Int)
    rw [hkm i hip] at hhas
    obtain ⟨F, R, Bs', fv, rv, rfl, hcells, hF, hR, hRs'⟩ := hRs.step hip
    have hN := PlanOk.node hv hip
    have hf2 := NodeOk.len2 hN
    have hfr := frm_pos hv hip
    rw [getD_of hip] at hfr
    have hnl := numsTo_len K i
    have hol := cutTo_len p K i
    have hnk := numK_le K i
    refine WT_skip ?_
    refine WT_seq ?_
    refine WT_block ?_
    refine WT_seq ?_
    refine WT_seq ?_
    refine WT_region ?_
    refine WL_v rfl (ov_move rfl) ?_
    refine WL_v rfl (ov_move rfl) ?_
    refine WL_call rfl rfl cf_spec_l3Has (hhas hH) ?_; rintro _ w6 ⟨rfl, hH6⟩
    refine WL_v rfl (ov_not rfl) ?_
    refine WL_nil ?_
    cases hki : K i with
    | false =>
      refine WT_condT rfl ?_
      refine WT_seq ?_
      refine WT_region ?_
      refine WL_v rfl (ov_move rfl) ?_
      refine WL_bsI rfl hH6 rfl (run_bs_int _) ?_; rintro Z zv w7 hZ hH7
      refine WL_appI (i := 1) (j := 0) rfl hH7 rfl rfl st_sl_int rfl hY rfl hZ (by simp; omega) (by simp; omega) ?_; rintro Y2 nv2 w8 hY2 hH8
      refine WL_v rfl (ov_assign rfl) ?_
      refine WL_nil ?_
      refine WT_exit rfl ?_
      refine WT_region ?_
      refine WL_v rfl (ov_move rfl) ?_
      refine WL_v rfl (ov_add rfl rfl (by omega)) ?_
      refine WL_v rfl (ov_assign rfl) ?_
      refine WL_nil ?_
      refine again (i + 1, ov, nv2) _ _ (by simp only; omega) (by repeat (first | exact trivial | refine ⟨rfl, ?_⟩)) ⟨by simp only; omega, Y2, O, Is, Bs', ?_, ?_, hRs', ?_⟩
      · show IRow Y2 _ _ (numsTo K (i + 1))
        rw [numsTo_succ, if_neg (by rw [hki]; simp)]
        exact hY2
      · show OPlan O Is ov (cutTo p K (i + 1))
        rw [cutTo_succ, if_neg (by rw [hki]; simp), List.append_nil]
        exact hO
      · have h1 : H w8 h ((Y2 :: X :: A :: O :: Is) ++ F :: R :: (Bs' ++ Ls)) := by simpa using hH8.drop
        exact (H.outFR _ h1).drop.drop
    | true =>
      have hclf : ∀ f ∈ p[i].frm, K f.toNat = true := by
        have := hcl i hip hki
        rwa [getD_of hip] at this
      have hH7 : H w6 h (F :: R :: Y :: X :: A :: O :: (Is ++ (Bs' ++ Ls))) := by
        have h1 : H w6 h ((Y :: X :: A :: O :: Is) ++ F :: R :: (Bs' ++ Ls)) := by simpa using hH6
        exact H.outFR _ h1
      refine WT_condF rfl ?_
      refine WT_skip ?_
      refine WT_seq ?_
      refine WT_region ?_
      refine WL_v rfl (ov_move rfl) ?_
      refine WL_v rfl (ov_move rfl) ?_
      refine WL_v rfl (ov_index rfl rfl st_sl_impl_Node hR3.sl hip) ?_
      refine WL_v rfl (ov_loadN [.int .i64 p[i].kind, fv, rv] rfl agg_impl_Node rfl ((fun j v hj => by rw [add_add]; exact hR3.cell hH7 (i := 4) rfl (hcells j v hj)))) ?_
      refine WL_alloc _ rfl hH7 zero_impl_Node rfl ?_; rintro g w8 hH8
      refine WL_storeN hH8 rfl rfl (i := 0) rfl rfl rfl (ones_cons rfl (ones_cons hF.sl.one (ones_cons hR.sl.one ones_nil))) sz_impl_Node ?_; rintro w9 hH9
      refine WL_nil ?_
      refine WT_seq ?_
      refine WT_seq ?_
      refine WT_region ?_
      refine WL_v rfl (ov_assign rfl) ?_
      refine WL_nil ?_
      refine WT_block ?_
      refine WT_while (fun j : Nat => [(0, pv), (7, kv), (9, ov), (10, nv), (11, av), (12, .int .i64 (i : Int)), (13, ptr g), (14, .int .i64 (j : Int))]) (fun j w => j ≤ p[i].frm.length ∧ ∃ F, IRow F 3 fv ((cutNode K p[i]).frm.take j ++ p[i].frm.drop j) ∧ H w h (nbx g (.int .i64 p[i].kind) fv rv :: F :: R :: Y :: X :: A :: O :: (Is ++ (Bs' ++ Ls)))) (fun j => p[i].frm.length - j) 0 (by repeat (first | exact trivial | refine ⟨rfl, ?_⟩)) ⟨by omega, F, by simpa using hF, hH9⟩ ?_
      clear hH hH6 hH7 hH8 hH9 hhas hF hRs F
      rintro j w10 ⟨hj, F, hF, hH⟩ again2
      have hcfl : (cutNode K p[i]).frm.length = p[i].frm.length := by simp [cutNode]
      have htl : ((cutNode K p[i]).frm.take j).length = j := by rw [List.length_take]; omega
      have hll : ((cutNode K p[i]).frm.take j ++ p[i].frm.drop j).length = p[i].frm.length := by rw [List.length_append, htl, List.length_drop]; omega
      refine WT_seq ?_
      refine WT_seq ?_
      refine WT_region ?_
      refine WL_v rfl (ov_move rfl) ?_
      refine WL_v rfl (ov_field rfl fo_impl_Node_1) ?_
      refine WL_v rfl (ov_load rfl one_sl_int (hH.cb 0 rfl 1)) ?_
      refine WL_v rfl (ov_len rfl hF.sl st_sl_int) ?_; rw [hll]
      refine WL_v rfl (ov_lss rfl rfl) ?_
      refine WL_nil ?_
      refine WT_cond rfl (fun hc2 => ?_) (fun hc2 => ?_)
      · skip
        first | with_reducible replace hc2 := of_decide_eq_true hc2 | with_reducible replace hc2 := bn_T hc2 | with_reducible replace hc2 := bb_T hc2 | skip
        have hjf : j < p[i].frm.length := by omega
        have hdr : p[i].frm.drop j = p[i].frm[j] :: p[i].frm.drop (j + 1) := List.drop_eq_getElem_cons hjf
        rw [hdr] at hF
        have hjl : j < ((cutNode K p[i]).frm.take j ++ p[i].frm[j] :: p[i].frm.drop (j + 1)).length := by rw [List.length_append, htl, List.length_cons]; omega
        have hgj := getElem_mid ((cutNode K p[i]).frm.take j) (p[i].frm.drop (j + 1)) p[i].frm[j] j htl hjl
        have hfm := List.getElem_mem hjf
        have hfp := hfr _ hfm
        have hfk := hclf _ hfm
        obtain ⟨u, hu⟩ := Int.eq_ofNat_of_zero_le hfp.1
        replace hgj := hgj.trans hu
        rw [hu] at hfk
        rw [Int.toNat_natCast] at hfk
        have huy : u < (numsTo K i).length := by omega
        have hgu := numsTo_get huy hfk
        refine WT_skip ?_
        refine WT_seq ?_
        refine WT_block ?_
        refine WT_mixL [(0, 0), (1, 0), (2, 0), (3, 0), (4, 0), (5, 0), (6, 0), (7, 0), (8, 0), (9, 0), (10, 0), (11, 0), (12, 3)] mixed (by kernel_rfl) hH ?_
        clear hH
        intro w11 hH hC
        refine WM_v rfl rfl hC (fun _ _ => ov_field rfl fo_impl_Node_1) ?_
        refine WM_v rfl rfl hC (fun _ ⟨_, hH⟩ => ov_load rfl one_sl_int (hH.cb 1 rfl 1)) ?_
        refine WM_v rfl rfl hC (fun _ _ => ov_move rfl) ?_
        refine WM_v rfl rfl hC (fun _ _ => ov_move rfl) ?_
        refine WM_v rfl rfl hC (fun _ _ => ov_field rfl fo_impl_Node_1) ?_
        refine WM_v rfl rfl hC (fun _ ⟨_, hH⟩ => ov_load rfl one_sl_int (hH.cb 1 rfl 1)) ?_
        refine WM_v rfl rfl hC (fun _ _ => ov_move rfl) ?_
        refine WM_v rfl rfl hC (fun _ _ => ov_index rfl rfl st_sl_int hF.sl hjl) ?_
        refine WM_v rfl rfl hC (fun _ ⟨_, hH⟩ => ov_load rfl one_int (hF.cell hH (i := 2) rfl hjl)) ?_; rw [hgj]
        refine WM_v rfl rfl hC (fun _ _ => ov_index rfl rfl st_sl_int hY.sl huy) ?_
        refine WM_v rfl rfl hC (fun _ ⟨_, hH⟩ => ov_load rfl one_int (hY.cell hH (i := 4) rfl huy)) ?_; rw [hgu]
        refine WM_v rfl rfl hC (fun _ _ => ov_index rfl rfl st_sl_int hF.sl hjl) ?_
        refine WM_e rfl ?_
        refine WL_storeI hH rfl rfl (i := 1) rfl hF hjl sz_int ?_; rintro F2 w12 hF2 hH12
        refine WL_mix (fun h => absurd rfl h) ?_
        refine WM_nil ?_
        refine WT_inBlock ?_
        refine WT_region ?_
        refine WL_v rfl (ov_move rfl) ?_
        refine WL_v rfl (ov_add rfl rfl (by omega)) ?_
        refine WL_v rfl (ov_assign rfl) ?_
        refine WL_nil ?_
        rw [set_mid _ _ _ _ _ htl] at hF2
        refine again2 (j + 1) _ _ (by omega) (by repeat (first | exact trivial | refine ⟨rfl, ?_⟩)) ⟨by omega, F2, ?_, hH12⟩
        have : (cutNode K p[i]).frm.take (j + 1) = (cutNode K p[i]).frm.take j ++ [((numK K u : Nat) : Int)] := by
          rw [List.take_succ_eq_append_getElem (by omega)]
          congr 2
          simp [cutNode, hu]
        rw [this, List.append_assoc]
        exact hF2
      first | with_reducible replace hc2 := of_decide_eq_false hc2 | with_reducible replace hc2 := bn_F hc2 | with_reducible replace hc2 := bb_F hc2 | skip
      obtain rfl : j = p[i].frm.length := by omega
      have hF9 : IRow F 3 fv (cutNode K p[i]).frm := by
        rw [List.drop_length, List.append_nil, List.take_of_length_le (by omega)] at hF
        exact hF
      obtain ⟨hil, ys, hO3, hoat⟩ := hO
      refine WT_exit rfl ?_
      refine WT_seq ?_
      refine WT_region ?_
      refine WL_v rfl (ov_move rfl) ?_
      refine WL_v rfl (ov_move rfl) ?_
      refine WL_v rfl (ov_len rfl hO3.sl st_sl_impl_Node) ?_
      refine WL_bsI rfl hH rfl (run_bs_int _) ?_; rintro Z zv w11 hZ hH11
      refine WL_appI (i := 4) (j := 0) rfl hH11 rfl rfl st_sl_int rfl hY rfl hZ (by simp; omega) (by simp; omega) ?_; rintro Y2 nv2 w12 hY2 hH12
      refine WL_v rfl (ov_assign rfl) ?_
      refine WL_nil ?_
      refine WT_region ?_
      refine WL_v rfl (ov_move rfl) ?_
      refine WL_v rfl (ov_loadN [.int .i64 p[i].kind, fv, rv] rfl agg_impl_Node rfl ((loadNb (i := 1) rfl hH12))) ?_
      refine WL_buildSlice (sz := 3) [.int .i64 p[i].kind, fv, rv] rfl hH12 rfl (run_bs_node hF9.sl hR.sl) rfl (by omega) ?_; rintro Z3 zv3 w13 hZ3 hH13
      refine WL_append1 (i := 8) (j := 0) (n := (cutTo p K i).length) (m := 1) rfl hH13 rfl rfl st_sl_impl_Node (by omega) rfl hO3 rfl hZ3 (ones_cons rfl (ones_cons hF9.sl.one (ones_cons hR.sl.one ones_nil))) (by omega) (by omega) ?_; rintro O2 ov2 w14 hO2 hH14
      refine WL_v rfl (ov_assign rfl) ?_
      refine WL_nil ?_
      refine WT_inBlock ?_
      refine WT_region ?_
      refine WL_v rfl (ov_move rfl) ?_
      refine WL_v rfl (ov_add rfl rfl (by omega)) ?_
      refine WL_v rfl (ov_assign rfl) ?_
      refine WL_nil ?_
      refine again (i + 1, ov2, nv2) _ _ (by simp only; omega) (by repeat (first | exact trivial | refine ⟨rfl, ?_⟩)) ⟨by simp only; omega, Y2, O2, Is ++ [F, R], Bs', ?_, ?_, hRs', H.lateFR (T := Y2 :: X :: A :: O2 :: Is) hH14.drop.drop.drop⟩
      · show IRow Y2 _ _ (numsTo K (i + 1))
        rw [numsTo_succ, if_pos hki, ← hol]
        exact hY2
      · show OPlan O2 (Is ++ [F, R]) ov2 (cutTo p K (i + 1))
        rw [cutTo_succ, if_pos hki, getD_of hip]
        exact OPlan.snoc (x := cutNode K p[i]) hil hO3.len hoat hO2 hF9 hR
  first | with_reducible replace hc := of_decide_eq_false hc | with_reducible replace hc := bn_F hc | with_reducible replace hc := bb_F hc | skip
  have hil : i = p.length := by simp only at hc; omega
  subst hil
  have hB0 : Bs = [] := List.eq_nil_of_length_eq_zero (by have := hRs.1; omega)
  subst hB0
  have hfin : H w5 h (O :: (Is ++ Y :: Ls)) := by
    have h1 : H w5 h (Y :: ((O :: Is) ++ Ls)) := by simpa using (hH.del 1 rfl).del 1 rfl
    have h2 := h1.perm (List.perm_middle (a := Y) (l₁ := O :: Is) (l₂ := Ls)).symm
    simpa using h2
  refine WT_exit rfl ?_
  refine WT_seq ?_
  refine WT_region ?_
  refine WL_v rfl (ov_move rfl) ?_
  refine WL_v rfl (ov_move rfl) ?_
  refine WL_v rfl (ov_assign rfl) ?_
  refine WL_v rfl (ov_assign rfl) ?_
  refine WL_v rfl (ov_assign rfl) ?_
  refine WL_nil ?_
  exact WT_ret3 Try.func25 Try.results25 rfl rfl rfl ⟨K, hK, ov, nv, O, Is, Y, rfl, hO, hY, hfin⟩

theorem sPlanCut_no (hH : H w h Ls) {pv lv : Value} {p : List Nd} {L : List Int} (hP : Plan h pv p) (hpl : p.length ≤ 1000000) (hL : RdL h Ls lv L) (hb : ∀ x ∈ L, -1000 ≤ x ∧ x ≤ 1000) (hok : cutOk p L = false) : Rets Try.prog 25 #[pv, lv] w fun v w' => ∃ ov nv O Y, v = .tuple #[ov, nv, .bool false] ∧ OPlan O [] ov [] ∧ IRow Y 3 nv [] ∧ H w' h (O :: Y :: Ls) := by
  refine rets_enter Try.func25 rfl Try.ntmps25 (by simp) ?_
  refine WT_seq ?_
  refine WT_region ?_
  refine WL_v rfl (ov_assign rfl) ?_
  refine WL_v rfl (ov_assign rfl) ?_
  refine WL_v rfl (ov_assign rfl) ?_
  refine WL_nil ?_
  refine WT_seq ?_
  refine WT_region ?_
  refine WL_v rfl (ov_move rfl) ?_
  refine WL_v rfl (ov_move rfl) ?_
  refine WL_call rfl rfl cf_spec_CutKeep (sCutKeep_no hH hP hpl hL hb hok) ?_; rintro _ w1 ⟨X, kv, rfl, hX, hH1⟩
  refine WL_v rfl (ov_move rfl) ?_
  refine WL_v rfl (ov_extract rfl rfl) ?_
  refine WL_v rfl (ov_extract rfl rfl) ?_
  refine WL_v rfl (ov_assign rfl) ?_
  refine WL_v rfl (ov_assign rfl) ?_
  refine WL_nil ?_
  refine WT_seq ?_
  refine WT_region ?_
  refine WL_buildSlice (sz := 3) (parts := []) (vs := []) [] rfl hH1 rfl run_bs_node0 rfl (by omega) ?_; rintro O0 ov0 w2 hO0 hH2
  refine WL_v rfl (ov_assign rfl) ?_
  refine WL_nil ?_
  refine WT_seq ?_
  refine WT_region ?_
  refine WL_bsI0 rfl hH2 run_bs_int0 ?_; rintro Y0 nv0 w3 hY0 hH3
  refine WL_v rfl (ov_assign rfl) ?_
  refine WL_nil ?_
  refine WT_seq ?_
  refine WT_seq ?_
  refine WT_region ?_
  refine WL_v rfl (ov_move rfl) ?_
  refine WL_v rfl (ov_T (ov_not rfl) (by first | exact decide_eq_true rfl | exact nb_T rfl | exact mb_T rfl | exact rfl | (simp only [decide_eq_true_eq]; omega) | simpa using rfl)) ?_
  refine WL_nil ?_
  refine WT_condT rfl ?_
  refine WT_seq ?_
  refine WT_region ?_
  refine WL_v rfl (ov_move rfl) ?_
  refine WL_v rfl (ov_move rfl) ?_
  refine WL_v rfl (ov_assign rfl) ?_
  refine WL_v rfl (ov_assign rfl) ?_
  refine WL_v rfl (ov_assign rfl) ?_
  refine WL_nil ?_
  exact WT_ret3 Try.func25 Try.results25 rfl rfl rfl ⟨ov0, nv0, O0, Y0, rfl, ⟨rfl, [], hO0, by simp⟩, hY0, (hH3.del 2 rfl).swap⟩
end
end Go.Proofs.Ytafljegjdanldaa

/- Walks: sharing. -/
namespace Go.Proofs.Ytafljegjdanldaa
open Go.RowKit

/-- A type of whole numbers alone, to some depth. -/
def intsB (P : Program) : Nat → TypeId → Bool
  | 0, _ => false
  | d + 1, t =>
    match P.underlying t with
    | some (.int q) => q == .i64 && P.cellsOf t == 1
    | some (.array n e) => P.cellsOf t == n * P.cellsOf e && intsB P d e
    | some (.struct fs) => fs.all fun f => f.name != "_" && decide (f.offset + P.cellsOf f.type ≤ P.cellsOf t) && intsB P d f.type
    | _ => false
theorem mapM_some {α β : Type} {f : α → Option β} : ∀ {l : List α}, (∀ x ∈ l, ∃ y, f x = some y) → ∃ ys, l.mapM f = some ys
  | [], _ => ⟨[], rfl⟩
  | x :: r, h => by
    obtain ⟨y, hy⟩ := h x (by simp)
    obtain ⟨ys, hys⟩ := mapM_some (l := r) fun z hz => h z (by simp [hz])
    exact ⟨y :: ys, by simp [List.mapM_cons, hy, hys]⟩
theorem keyLits_ints {P : Program} : ∀ (d : Nat) (t : TypeId) (cs : List Value), intsB P d t = true → cs.length = P.cellsOf t → (∀ c ∈ cs, ∃ n, c = .int .i64 n ∧ (Lit.int .i64 n).wf = true) → ∃ ls, P.keyLits d t cs = some ls
  | 0, _, _, h, _, _ => by simp [intsB] at h
  | d + 1, t, cs, h, hl, hc => by
    unfold intsB at h
    unfold Program.keyLits
    cases hu : P.underlying t with
    | none => rw [hu] at h; simp at h
    | some td =>
      rw [hu] at h
      cases td with
      | int q =>
        simp only [Bool.and_eq_true, beq_iff_eq] at h
        obtain ⟨rfl, h1⟩ := h
        obtain ⟨c, rfl⟩ : ∃ c, cs = [c] := List.length_eq_one_iff.1 (by omega)
        obtain ⟨n, rfl, hw⟩ := hc c (by simp)
        exact ⟨_, if_pos ⟨rfl, hw⟩⟩
      | array n e =>
        simp only [Bool.and_eq_true, beq_iff_eq] at h
        obtain ⟨h1, h2⟩ := h
        obtain ⟨ys, hys⟩ := mapM_some (f := fun i => P.keyLits d e ((cs.drop (i * P.cellsOf e)).take (P.cellsOf e))) (l := List.range n) fun i hi => by
          have hi' := List.mem_range.1 hi
          have h3 : (i + 1) * P.cellsOf e ≤ n * P.cellsOf e := Nat.mul_le_mul_right _ hi'
          rw [Nat.succ_mul] at h3
          exact keyLits_ints d e _ h2 (by rw [List.length_take, List.length_drop]; omega) fun c hcm => hc c (List.mem_of_mem_drop (List.mem_of_mem_take hcm))
        exact ⟨_, by simp only [if_pos hl, hys]; rfl⟩
      | struct fs =>
        simp only [Array.all_eq_true_iff_forall_mem, Bool.and_eq_true, decide_eq_true_eq] at h
        obtain ⟨ys, hys⟩ := mapM_some (f := fun (f : _) => P.keyLits d f.type ((cs.drop f.offset).take (P.cellsOf f.type))) (l := fs.toList) fun f hf => by
          obtain ⟨⟨_, h3⟩, h4⟩ := h f (by simpa using hf)
          exact keyLits_ints d f.type _ h4 (by rw [List.length_take, List.length_drop]; omega) fun c hcm => hc c (List.mem_of_mem_drop (List.mem_of_mem_take hcm))
        have hn : fs.all (·.name != "_") = true := by
          rw [Array.all_eq_true_iff_forall_mem]
          exact fun f hf => (h f hf).1.1
        exact ⟨_, by simp only [if_pos (And.intro hl hn), hys]; rfl⟩
      | _ => simp at h

/-- What the keys of the map are. -/
def shG (v : Value) : Prop := ∃ l, keyOf Try.prog 141 v = some l
theorem shLaid : laidOutB Try.prog = true := by kernel_rfl
theorem shKT : Try.prog.keyType 141 = true := by kernel_rfl
theorem shK : MLaw Try.prog 141 shG := MLaw.deep (deep_law_gate shLaid (Nat.le_of_ble_eq_true (by kernel_rfl)) (Nat.le_of_ble_eq_true (by kernel_rfl)) shKT (by kernel_rfl))
theorem i64_wf {n : Int} (h : -9223372036854775808 ≤ n ∧ n ≤ 9223372036854775807) : (Lit.int .i64 n).wf = true := by
  simp [Lit.wf, IntKind.min, IntKind.max, IntKind.signed, IntKind.bits]; omega
theorem shInts : intsB Try.prog (Try.prog.types.size + 1) 141 = true := by kernel_rfl
theorem shCells : Try.prog.cellsOf 141 = 10 := by kernel_rfl
theorem shStruct : (match Try.prog.underlying 141 with | some (.struct _) => true | _ => false) = true := by kernel_rfl
theorem keyOf_struct {P : Program} {k : TypeId} {cs : Array Value} (hs : (match P.underlying k with | some (.struct _) => true | _ => false) = true) (hk : P.keyType k = true) (hf : cs.size = P.cellsOf k) {ls : List Lit} (hls : P.keyLits (P.types.size + 1) k cs.toList = some ls) : ∃ l, keyOf P k (.agg cs) = some l := by
  cases hu : P.underlying k with
  | none => rw [hu] at hs; simp at hs
  | some td =>
    cases td with
    | struct fs =>
      have h1 : (Value.agg cs).formed P k = true := by simp [Value.formed, hu, hf]
      refine ⟨.string (keyBytes ls), ?_⟩
      simp only [keyOf, hu, hk, h1, Bool.and_self, if_true, Value.cells, hls]
      rfl
    | _ => rw [hu] at hs; simp at hs
/-- Ten whole numbers are a key. -/
theorem sh_key {l : List Int} (hl : l.length = 10) (h : ∀ n ∈ l, -9223372036854775808 ≤ n ∧ n ≤ 9223372036854775807) : shG (.agg (l.map (Value.int .i64)).toArray) := by
  obtain ⟨ls, hls⟩ := keyLits_ints (P := Try.prog) (Try.prog.types.size + 1) 141 (l.map (Value.int .i64)) shInts (by rw [shCells]; simpa using hl) fun c hc => by
    obtain ⟨n, hn, rfl⟩ := List.mem_map.1 hc
    exact ⟨n, rfl, i64_wf (h n hn)⟩
  exact keyOf_struct shStruct shKT (by rw [shCells]; simpa using hl) (by simpa using hls)
end Go.Proofs.Ytafljegjdanldaa

/- Plain laws: nodes that do the same. -/
namespace Go.Proofs.Ytafljegjdanldaa

/-- A row of six, or its front and noughts. -/
def padRow (r : List Int) : List Int := (r ++ List.replicate 6 0).take 6
theorem padRow_len (r : List Int) : (padRow r).length = 6 := by simp [padRow]
/-- The firsts of what a node needs. -/
def keyA (x : Nd) (fs : List Int) : Int := match x.frm with | f :: _ => fs.getD f.toNat 0 | [] => -1
def keyB (x : Nd) (fs : List Int) : Int := match x.frm with | _ :: g :: _ => fs.getD g.toNat 0 | _ => -1
def swapB (x : Nd) (fs : List Int) : Bool := decide ((x.kind = 1 ∨ x.kind = 2) ∧ keyB x fs < keyA x fs)
/-- What is the same for two nodes that do the same. -/
def keyL (x : Nd) (fs : List Int) : List Int := x.kind :: (if swapB x fs = true then keyB x fs else keyA x fs) :: (if swapB x fs = true then keyA x fs else keyB x fs) :: (x.row.length : Int) :: padRow x.row
theorem keyL_len (x : Nd) (fs : List Int) : (keyL x fs).length = 10 := by simp [keyL, padRow_len]
theorem keyL_congr {x : Nd} {fs gs : List Int} (h : ∀ f ∈ x.frm, fs.getD f.toNat 0 = gs.getD f.toNat 0) : keyL x fs = keyL x gs := by
  have hA : keyA x fs = keyA x gs := by
    unfold keyA
    cases hx : x.frm with
    | nil => rfl
    | cons f r => exact h f (by rw [hx]; simp)
  have hB : keyB x fs = keyB x gs := by
    unfold keyB
    cases hx : x.frm with
    | nil => rfl
    | cons f r =>
      cases r with
      | nil => rfl
      | cons g r => exact h g (by rw [hx]; simp)
  unfold keyL swapB
  rw [hA, hB]

/-- The firsts of the first nodes, and the keys that were found with them. -/
structure Shr (p : List Nd) (n : Nat) (fs : List Int) (L : List (List Int × Int)) : Prop where
  len : fs.length = n
  key : ∀ q ∈ L, ∃ j : Nat, j < n ∧ q = (keyL (p.getD j default) fs, (j : Int)) ∧ fs.getD j 0 = (j : Int)
  fst : ∀ i, i < n → (keyL (p.getD i default) fs, fs.getD i 0) ∈ L
  nd : (L.map (·.1)).Nodup
  le : ∀ i, i < n → fs.getD i 0 ≤ (i : Int)
theorem Shr.nil (p : List Nd) : Shr p 0 [] [] := ⟨rfl, by simp, by omega, by simp, by omega⟩
theorem getD_snocL {l : List Int} {a : Int} {i : Nat} (h : i < l.length) : (l ++ [a]).getD i 0 = l.getD i 0 := by
  rw [List.getD_eq_getElem?_getD, List.getD_eq_getElem?_getD, List.getElem?_append_left h]
theorem getD_snocE {l : List Int} {a : Int} : (l ++ [a]).getD l.length 0 = a := by
  rw [List.getD_eq_getElem?_getD, List.getElem?_append_right (Nat.le_refl _), Nat.sub_self]; rfl
theorem Shr.keyS {p : List Nd} (hv : planOk p = true) {n : Nat} {fs : List Int} {a : Int} (hl : fs.length = n) {i : Nat} (hi : i ≤ n) (hip : i < p.length) : keyL (p.getD i default) (fs ++ [a]) = keyL (p.getD i default) fs :=
  keyL_congr fun f hf => getD_snocL (by have := frm_pos hv hip f hf; omega)
theorem Shr.old {p : List Nd} (hv : planOk p = true) {n : Nat} {fs : List Int} {L : List (List Int × Int)} (h : Shr p n fs L) (hn : n < p.length) {j : Nat} {u : Int} (hj : L[j]? = some (keyL (p.getD n default) fs, u)) : Shr p (n + 1) (fs ++ [u]) L := by
  have hu : (fs ++ [u]).getD n 0 = u := by have := getD_snocE (l := fs) (a := u); rw [h.len] at this; exact this
  have hun : u ≤ (n : Int) := by
    obtain ⟨j, h1, h2, _⟩ := h.key _ (List.mem_of_getElem? hj)
    injection h2 with _ h5
    omega
  refine ⟨by rw [List.length_append, h.len]; rfl, fun q hq => ?_, fun i hi => ?_, h.nd, fun i hi => ?_⟩
  · obtain ⟨j, h1, h2, h3⟩ := h.key q hq
    exact ⟨j, by omega, by rw [Shr.keyS hv h.len (by omega) (by omega)]; exact h2, by rw [getD_snocL (by rw [h.len]; exact h1)]; exact h3⟩
  · rw [Shr.keyS hv h.len (by omega) (by omega)]
    rcases Nat.lt_or_ge i n with h1 | h1
    · rw [getD_snocL (by rw [h.len]; exact h1)]; exact h.fst i h1
    · obtain rfl : i = n := by omega
      rw [show (fs ++ [u]).getD i 0 = u by have := getD_snocE (l := fs) (a := u); rw [h.len] at this; exact this]
      exact List.mem_of_getElem? hj
  · rcases Nat.lt_or_ge i n with h1 | h1
    · rw [getD_snocL (by rw [h.len]; exact h1)]; exact h.le i h1
    · obtain rfl : i = n := by omega
      rw [hu]; exact hun
theorem Shr.new {p : List Nd} (hv : planOk p = true) {n : Nat} {fs : List Int} {L : List (List Int × Int)} (h : Shr p n fs L) (hn : n < p.length) (hno : ∀ q ∈ L, q.1 ≠ keyL (p.getD n default) fs) : Shr p (n + 1) (fs ++ [(n : Int)]) (L ++ [(keyL (p.getD n default) fs, (n : Int))]) := by
  have he : (fs ++ [(n : Int)]).getD n 0 = (n : Int) := by have := getD_snocE (l := fs) (a := (n : Int)); rw [h.len] at this; exact this
  refine ⟨by rw [List.length_append, h.len]; rfl, fun q hq => ?_, fun i hi => ?_, ?_, fun i hi => ?_⟩
  · rcases List.mem_append.1 hq with hq | hq
    · obtain ⟨j, h1, h2, h3⟩ := h.key q hq
      exact ⟨j, by omega, by rw [Shr.keyS hv h.len (by omega) (by omega)]; exact h2, by rw [getD_snocL (by rw [h.len]; exact h1)]; exact h3⟩
    · obtain rfl := List.mem_singleton.1 hq
      exact ⟨n, by omega, by rw [Shr.keyS hv h.len (Nat.le_refl _) hn], he⟩
  · rw [Shr.keyS hv h.len (by omega) (by omega)]
    rcases Nat.lt_or_ge i n with h1 | h1
    · rw [getD_snocL (by rw [h.len]; exact h1)]; exact List.mem_append_left _ (h.fst i h1)
    · obtain rfl : i = n := by omega
      rw [he]; exact List.mem_append_right _ (List.mem_singleton.2 rfl)
  · rw [List.map_append, List.nodup_append]
    refine ⟨h.nd, by simp, fun a ha b hb hab => ?_⟩
    obtain ⟨q, hq, rfl⟩ := List.mem_map.1 ha
    obtain rfl := List.mem_singleton.1 hb
    exact hno q hq hab
  · rcases Nat.lt_or_ge i n with h1 | h1
    · rw [getD_snocL (by rw [h.len]; exact h1)]; exact h.le i h1
    · obtain rfl : i = n := by omega
      rw [he]; exact Int.le_refl _
/-- The first of a node: not behind it, its own first, with the same key. -/
theorem Shr.first {p : List Nd} {n : Nat} {fs : List Int} {L : List (List Int × Int)} (h : Shr p n fs L) {i : Nat} (hi : i < n) : ∃ j : Nat, fs.getD i 0 = (j : Int) ∧ j ≤ i ∧ fs.getD j 0 = (j : Int) ∧ keyL (p.getD i default) fs = keyL (p.getD j default) fs := by
  obtain ⟨j, h1, h2, h3⟩ := h.key _ (h.fst i hi)
  injection h2 with h4 h5
  exact ⟨j, h5, by have := h.le i hi; omega, h3, h4⟩
end Go.Proofs.Ytafljegjdanldaa
