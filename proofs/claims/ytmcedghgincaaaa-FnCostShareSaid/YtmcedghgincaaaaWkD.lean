/- Walks: the program's validity of rows and nodes; the graph of a plan. -/
import Derived.Test.YtmcedghgincaaaaWkB
import Derived.Test.YtmcedghgincaaaaPlB
namespace Go.Proofs.Ytmcedghgincaaaa
open Go.RowKit

section
variable {h : GH} {Ls : List Heaplet} {w : World}

theorem rowOk_len {r : List Int} (h : 6 < r.length) : rowOk r = false := by
  unfold rowOk
  rw [decide_eq_false (by omega), Bool.and_false]
theorem rowOk_bad {r : List Int} {k : Nat} (hk : k < r.length) (h : ¬ (0 ≤ r[k] ∧ r[k] ≤ 1008)) : rowOk r = false := by
  unfold rowOk
  rw [List.all_eq_false.2 ⟨_, List.getElem_mem hk, by simpa using h⟩, Bool.false_and]
theorem rowOk_good {r : List Int} (hl : r.length ≤ 6) (h : ∀ j (_ : j < r.length), 0 ≤ r[j] ∧ r[j] ≤ 1008) : rowOk r = true := by
  unfold rowOk
  rw [List.all_eq_true.2 (fun x hx => by obtain ⟨j, hj, rfl⟩ := List.mem_iff_getElem.1 hx; simpa using h j hj), decide_eq_true hl]; rfl

theorem rvValid_ok (hH : H w h Ls) {rv : Value} {r : List Int} (hR : Ints h rv r) : Rets Try.prog 130 #[rv] w fun v w' => v = .bool (rowOk r) ∧ H w' h Ls := by
  refine rets_enter Try.func130 rfl Try.ntmps130 (by simp) ?_
  refine WT_seq ?_
  refine WT_region ?_
  refine WL_v rfl (ov_assign rfl) ?_
  refine WL_nil ?_
  refine WT_seq ?_
  refine WT_seq ?_
  refine WT_region ?_
  refine WL_v rfl (ov_move rfl) ?_
  refine WL_v rfl (ov_len rfl hR.sl st_impl_rowValues) ?_
  refine WL_v rfl (ov_gtr rfl rfl) ?_
  refine WL_nil ?_
  refine WT_cond rfl (fun hl => ?_) (fun hl => ?_)
  · skip
    first | with_reducible replace hl := of_decide_eq_true hl | with_reducible replace hl := bn_T hl | with_reducible replace hl := bb_T hl | skip
    refine WT_seq ?_
    refine WT_region ?_
    refine WL_v rfl (ov_assign rfl) ?_
    refine WL_nil ?_
    exact WT_ret1 Try.func130 Try.results130 rfl ⟨by rw [rowOk_len (by omega)], hH⟩
  first | with_reducible replace hl := of_decide_eq_false hl | with_reducible replace hl := bn_F hl | with_reducible replace hl := bb_F hl | skip
  refine WT_skip ?_
  refine WT_seq ?_
  refine WT_seq ?_
  refine WT_region ?_
  refine WL_v rfl (ov_move rfl) ?_
  refine WL_v rfl (ov_len rfl hR.sl st_impl_rowValues) ?_
  refine WL_v rfl (ov_move rfl) ?_
  refine WL_nil ?_
  refine WT_block ?_
  refine WT_while (fun s : Nat => [(0, rv), (8, rv), (9, .int .i64 (r.length : Int)), (10, .int .i64 (s : Int))]) (fun k w => k ≤ r.length ∧ (∀ j (_ : j < k) (hjr : j < r.length), 0 ≤ r[j] ∧ r[j] ≤ 1008) ∧ H w h Ls) (fun k => r.length - k) 0 (by repeat (first | exact trivial | refine ⟨rfl, ?_⟩)) ⟨by omega, by omega, hH⟩ ?_
  clear hH
  rintro k w1 ⟨hk, hall, hH⟩ again
  refine WT_seq ?_
  refine WT_region ?_
  refine WL_v rfl (ov_lss rfl rfl) ?_
  refine WL_nil ?_
  refine WT_seq ?_
  refine WT_cond rfl (fun hc => ?_) (fun hc => ?_)
  · skip
    first | with_reducible replace hc := of_decide_eq_true hc | with_reducible replace hc := bn_T hc | with_reducible replace hc := bb_T hc | skip
    have hkr : k < r.length := by omega
    by_cases h1 : r[k] < 0
    · skip
      refine WT_skip ?_
      refine WT_seq ?_
      refine WT_block ?_
      refine WT_seq ?_
      refine WT_region ?_
      refine WL_v rfl (ov_index rfl rfl st_impl_rowValues hR.sl hkr) ?_
      refine WL_v rfl (ov_load rfl one_int (hR.cell hH hkr)) ?_
      refine WL_v rfl (ov_assign rfl) ?_
      refine WL_nil ?_
      refine WT_seq ?_
      refine WT_region ?_
      refine WL_v rfl (ov_move rfl) ?_
      refine WL_v rfl (ov_T (ov_lss rfl rfl) (by first | exact decide_eq_true h1 | exact nb_T h1 | exact mb_T h1 | exact h1 | (simp only [decide_eq_true_eq]; omega) | simpa using h1)) ?_
      refine WL_v rfl (ov_move rfl) ?_
      refine WL_guardOff rfl rfl rfl rfl ?_
      refine WL_guardOff rfl rfl rfl rfl ?_
      refine WL_v rfl (ov_pickT rfl rfl) ?_
      refine WL_nil ?_
      refine WT_condT rfl ?_
      refine WT_seq ?_
      refine WT_region ?_
      refine WL_v rfl (ov_assign rfl) ?_
      refine WL_nil ?_
      exact WT_ret1 Try.func130 Try.results130 rfl ⟨by rw [rowOk_bad hkr (by omega)], hH⟩
    refine WT_skip ?_
    refine WT_seq ?_
    refine WT_block ?_
    refine WT_seq ?_
    refine WT_region ?_
    refine WL_v rfl (ov_index rfl rfl st_impl_rowValues hR.sl hkr) ?_
    refine WL_v rfl (ov_load rfl one_int (hR.cell hH hkr)) ?_
    refine WL_v rfl (ov_assign rfl) ?_
    refine WL_nil ?_
    refine WT_seq ?_
    refine WT_region ?_
    refine WL_v rfl (ov_move rfl) ?_
    refine WL_v rfl (ov_F (ov_lss rfl rfl) (by first | exact decide_eq_false h1 | exact nb_F h1 | exact mb_F h1 | exact h1 | (simp only [decide_eq_false_iff_not]; omega) | simpa using h1)) ?_
    refine WL_v rfl (ov_move rfl) ?_
    refine WL_guardOn rfl rfl ?_
    refine WL_v rfl (ov_move rfl) ?_
    refine WL_guardOn rfl rfl ?_
    refine WL_v rfl (ov_geq rfl rfl) ?_
    refine WL_v rfl (ov_pickF rfl rfl) ?_
    refine WL_nil ?_
    refine WT_cond rfl (fun h2 => ?_) (fun h2 => ?_)
    · skip
      first | with_reducible replace h2 := of_decide_eq_true h2 | with_reducible replace h2 := bn_T h2 | with_reducible replace h2 := bb_T h2 | skip
      refine WT_seq ?_
      refine WT_region ?_
      refine WL_v rfl (ov_assign rfl) ?_
      refine WL_nil ?_
      exact WT_ret1 Try.func130 Try.results130 rfl ⟨by rw [rowOk_bad hkr (by omega)], hH⟩
    first | with_reducible replace h2 := of_decide_eq_false h2 | with_reducible replace h2 := bn_F h2 | with_reducible replace h2 := bb_F h2 | skip
    refine WT_skip ?_
    refine WT_inBlock ?_
    refine WT_region ?_
    refine WL_v rfl (ov_add rfl rfl (by omega)) ?_
    refine WL_v rfl (ov_move rfl) ?_
    refine WL_nil ?_
    refine again (k + 1) _ _ (by omega) (by repeat (first | exact trivial | refine ⟨rfl, ?_⟩)) ⟨by omega, fun j hj hjr => ?_, hH⟩
    rcases Nat.lt_or_ge j k with h1 | h1
    · exact hall j h1 hjr
    · obtain rfl : j = k := by omega
      omega
  first | with_reducible replace hc := of_decide_eq_false hc | with_reducible replace hc := bn_F hc | with_reducible replace hc := bb_F hc | skip
  obtain rfl : k = r.length := by omega
  refine WT_exit rfl ?_
  refine WT_seq ?_
  refine WT_region ?_
  refine WL_v rfl (ov_assign rfl) ?_
  refine WL_nil ?_
  exact WT_ret1 Try.func130 Try.results130 rfl ⟨by rw [rowOk_good (by omega) (fun j hj => hall j hj hj)], hH⟩

theorem rowValid_ok (hH : H w h Ls) {rv : Value} {r : List Int} (hR : Ints h rv r) : Rets Try.prog 121 #[rv] w fun v w' => v = .bool (rowOk r) ∧ H w' h Ls := by
  refine rets_enter Try.func121 rfl Try.ntmps121 (by simp) ?_
  refine WT_seq ?_
  refine WT_region ?_
  refine WL_v rfl (ov_assign rfl) ?_
  refine WL_nil ?_
  refine WT_seq ?_
  refine WT_region ?_
  refine WL_v rfl (ov_move rfl) ?_
  refine WL_call rfl rfl cf_impl_rowValues_valid (rvValid_ok hH hR) ?_; rintro _ w1 ⟨rfl, hH1⟩
  refine WL_v rfl (ov_assign rfl) ?_
  refine WL_nil ?_
  exact WT_ret1 Try.func121 Try.results121 rfl ⟨rfl, hH1⟩

/-- A node fits at a place, whatever the width is. -/
def fitsB (x : Nd) (i : Nat) : Bool :=
  decide (kindNeeds x.kind = (x.frm.length : Int)) && x.frm.all (fun f => decide (0 ≤ f ∧ f ≤ (i : Int) - 1)) && (if x.kind = 0 then rowOk x.row else decide (x.row.length = 0))

theorem nodeFits_ok (hH : H w h Ls) {xv : Value} {x : Nd} (hx : NdV h xv x) (i : Nat) : Rets Try.prog 110 #[xv, .int .i64 (i : Int)] w fun v w' => v = .bool (fitsB x i) ∧ H w' h Ls := by
  obtain ⟨fv, rv, rfl, hf, hr⟩ := hx
  have hlf := hf.sl.lim
  refine rets_enter Try.func110 rfl Try.ntmps110 (by simp) ?_
  refine WT_seq ?_
  refine WT_region ?_
  refine WL_box _ rfl hH rfl rfl ?_; rintro g w1 hH1
  refine WL_v rfl (ov_assign rfl) ?_
  refine WL_nil ?_
  refine WT_seq ?_
  refine WT_seq ?_
  refine WT_join (ι := Unit) (fun _ => [(2, .pointer (some ⟨g, 0, none⟩)), (1, .int .i64 (i : Int)), (19, .bool (!decide ((x.frm.length : Int) = kindNeeds x.kind)))]) (fun _ w => H w h ([(g, .cells #[.int .i64 x.kind, fv, rv] 58 (0, 0))] :: Ls)) (fun joined => ?_) ?_
  · skip
    by_cases hk : kindOk x.kind = true
    · skip
      refine WT_quiet mixed (by kernel_rfl) hH1 ?_
      clear hH1
      refine WQ_v rfl (fun _ _ => ov_field rfl fo_impl_Node_0) ?_
      refine WQ_v rfl (fun _ hH => ov_load rfl one_int (hH.cb 0 rfl 0)) ?_
      refine WQ_call rfl rfl cf_impl_KindValid (fun _ hH => kindValid_ok hH _) ?_
      refine WQ_v rfl (fun _ _ => ov_F (ov_not rfl) (by first | exact decide_eq_false hk | exact nb_F hk | exact mb_F hk | exact hk | (simp only [decide_eq_false_iff_not]; omega) | simpa using hk)) ?_
      refine WQ_v rfl (fun _ _ => ov_move rfl) ?_
      refine WQ_guardOn rfl rfl ?_
      refine WQ_v rfl (fun _ _ => ov_field rfl fo_impl_Node_1) ?_
      refine WQ_guardOn rfl rfl ?_
      refine WQ_v rfl (fun _ hH => ov_load rfl one_sl_int (hH.cb 0 rfl 1)) ?_
      refine WQ_guardOn rfl rfl ?_
      refine WQ_v rfl (fun _ _ => ov_len rfl hf.sl st_sl_int) ?_
      refine WQ_guardOn rfl rfl ?_
      refine WQ_v rfl (fun _ _ => ov_field rfl fo_impl_Node_0) ?_
      refine WQ_guardOn rfl rfl ?_
      refine WQ_v rfl (fun _ hH => ov_load rfl one_int (hH.cb 0 rfl 0)) ?_
      refine WQ_guardOn rfl rfl ?_
      refine WQ_call rfl rfl cf_impl_KindNeeds (fun _ hH => kindNeeds_ok hH _) ?_
      refine WQ_guardOn rfl rfl ?_
      refine WQ_v rfl (fun _ _ => ov_neq rfl rfl) ?_
      refine WQ_v rfl (fun _ _ => ov_pickF rfl rfl) ?_
      refine WQ_nil ?_
      intro w2 hH1
      exact joined () _ _ (by repeat (first | exact trivial | refine ⟨rfl, ?_⟩)) hH1
    have hn := kindNeeds_bad (k := x.kind) (by simpa using hk)
    have hk' : kindOk x.kind = false := by simpa using hk
    refine WT_quiet mixed (by kernel_rfl) hH1 ?_
    clear hH1
    refine WQ_v rfl (fun _ _ => ov_field rfl fo_impl_Node_0) ?_
    refine WQ_v rfl (fun _ hH => ov_load rfl one_int (hH.cb 0 rfl 0)) ?_
    refine WQ_call rfl rfl cf_impl_KindValid (fun _ hH => kindValid_ok hH _) ?_
    refine WQ_v rfl (fun _ _ => ov_T (ov_not rfl) (by first | exact decide_eq_true hk' | exact nb_T hk' | exact mb_T hk' | exact hk' | (simp only [decide_eq_true_eq]; omega) | simpa using hk')) ?_
    refine WQ_v rfl (fun _ _ => ov_move rfl) ?_
    refine WQ_guardOff rfl rfl rfl rfl ?_
    refine WQ_guardOff rfl rfl rfl rfl ?_
    refine WQ_guardOff rfl rfl rfl rfl ?_
    refine WQ_guardOff rfl rfl rfl rfl ?_
    refine WQ_guardOff rfl rfl rfl rfl ?_
    refine WQ_guardOff rfl rfl rfl rfl ?_
    refine WQ_guardOff rfl rfl rfl rfl ?_
    refine WQ_v rfl (fun _ _ => ov_pickT rfl rfl) ?_
    refine WQ_nil ?_
    intro w2 hH1
    exact joined () _ _ ⟨rfl, rfl, by rw [hn, decide_eq_false (by omega)]; rfl, trivial⟩ hH1
  clear hH1
  rintro _ w2 hH1
  refine WT_cond rfl (fun hn => ?_) (fun hn => ?_)
  · skip
    first | with_reducible replace hn := of_decide_eq_true hn | with_reducible replace hn := bn_T hn | with_reducible replace hn := bb_T hn | skip
    refine WT_seq ?_
    refine WT_region ?_
    refine WL_v rfl (ov_assign rfl) ?_
    refine WL_nil ?_
    exact WT_ret1 Try.func110 Try.results110 rfl ⟨congrArg Value.bool (by rw [fitsB, decide_eq_false (fun e => hn e.symm)]; simp), hH1.drop⟩
  first | with_reducible replace hn := of_decide_eq_false hn | with_reducible replace hn := bn_F hn | with_reducible replace hn := bb_F hn | skip
  refine WT_skip ?_
  refine WT_seq ?_
  refine WT_seq ?_
  refine WT_region ?_
  refine WL_v rfl (ov_field rfl fo_impl_Node_1) ?_
  refine WL_v rfl (ov_load rfl one_sl_int (hH1.cb 0 rfl 1)) ?_
  refine WL_v rfl (ov_len rfl hf.sl st_sl_int) ?_
  refine WL_v rfl (ov_move rfl) ?_
  refine WL_nil ?_
  refine WT_block ?_
  refine WT_while (fun s : Nat => [(2, .pointer (some ⟨g, 0, none⟩)), (1, .int .i64 (i : Int)), (21, fv), (22, .int .i64 (x.frm.length : Int)), (23, .int .i64 (s : Int))]) (fun k w => k ≤ x.frm.length ∧ (∀ j (_ : j < k) (hjr : j < x.frm.length), 0 ≤ x.frm[j] ∧ x.frm[j] ≤ (i : Int) - 1) ∧ H w h ([(g, .cells #[.int .i64 x.kind, fv, rv] 58 (0, 0))] :: Ls)) (fun k => x.frm.length - k) 0 (by repeat (first | exact trivial | refine ⟨rfl, ?_⟩)) ⟨by omega, by omega, hH1⟩ ?_
  clear hH1
  rintro k w3 ⟨hk, hall, hH1⟩ again
  refine WT_seq ?_
  refine WT_region ?_
  refine WL_v rfl (ov_lss rfl rfl) ?_
  refine WL_nil ?_
  refine WT_seq ?_
  refine WT_cond rfl (fun hc => ?_) (fun hc => ?_)
  · skip
    first | with_reducible replace hc := of_decide_eq_true hc | with_reducible replace hc := bn_T hc | with_reducible replace hc := bb_T hc | skip
    have hkr : k < x.frm.length := by omega
    by_cases h1 : x.frm[k] < 0
    · skip
      refine WT_skip ?_
      refine WT_seq ?_
      refine WT_block ?_
      refine WT_seq ?_
      refine WT_region ?_
      refine WL_v rfl (ov_index rfl rfl st_sl_int hf.sl hkr) ?_
      refine WL_v rfl (ov_load rfl one_int (hf.cell hH1 hkr)) ?_
      refine WL_v rfl (ov_assign rfl) ?_
      refine WL_nil ?_
      refine WT_seq ?_
      refine WT_region ?_
      refine WL_v rfl (ov_move rfl) ?_
      refine WL_v rfl (ov_T (ov_lss rfl rfl) (by first | exact decide_eq_true h1 | exact nb_T h1 | exact mb_T h1 | exact h1 | (simp only [decide_eq_true_eq]; omega) | simpa using h1)) ?_
      refine WL_v rfl (ov_move rfl) ?_
      refine WL_guardOff rfl rfl rfl rfl ?_
      refine WL_guardOff rfl rfl rfl rfl ?_
      refine WL_guardOff rfl rfl rfl rfl ?_
      refine WL_v rfl (ov_pickT rfl rfl) ?_
      refine WL_nil ?_
      refine WT_condT rfl ?_
      refine WT_seq ?_
      refine WT_region ?_
      refine WL_v rfl (ov_assign rfl) ?_
      refine WL_nil ?_
      exact WT_ret1 Try.func110 Try.results110 rfl ⟨congrArg Value.bool (by rw [fitsB, List.all_eq_false.2 ⟨_, List.getElem_mem hkr, by simp; omega⟩]; simp), hH1.drop⟩
    refine WT_skip ?_
    refine WT_seq ?_
    refine WT_block ?_
    refine WT_seq ?_
    refine WT_region ?_
    refine WL_v rfl (ov_index rfl rfl st_sl_int hf.sl hkr) ?_
    refine WL_v rfl (ov_load rfl one_int (hf.cell hH1 hkr)) ?_
    refine WL_v rfl (ov_assign rfl) ?_
    refine WL_nil ?_
    refine WT_seq ?_
    refine WT_region ?_
    refine WL_v rfl (ov_move rfl) ?_
    refine WL_v rfl (ov_F (ov_lss rfl rfl) (by first | exact decide_eq_false h1 | exact nb_F h1 | exact mb_F h1 | exact h1 | (simp only [decide_eq_false_iff_not]; omega) | simpa using h1)) ?_
    refine WL_v rfl (ov_move rfl) ?_
    refine WL_guardOn rfl rfl ?_
    refine WL_v rfl (ov_move rfl) ?_
    refine WL_guardOn rfl rfl ?_
    refine WL_v rfl (ov_move rfl) ?_
    refine WL_guardOn rfl rfl ?_
    refine WL_v rfl (ov_geq rfl rfl) ?_
    refine WL_v rfl (ov_pickF rfl rfl) ?_
    refine WL_nil ?_
    refine WT_cond rfl (fun h2 => ?_) (fun h2 => ?_)
    · skip
      first | with_reducible replace h2 := of_decide_eq_true h2 | with_reducible replace h2 := bn_T h2 | with_reducible replace h2 := bb_T h2 | skip
      refine WT_seq ?_
      refine WT_region ?_
      refine WL_v rfl (ov_assign rfl) ?_
      refine WL_nil ?_
      exact WT_ret1 Try.func110 Try.results110 rfl ⟨congrArg Value.bool (by rw [fitsB, List.all_eq_false.2 ⟨_, List.getElem_mem hkr, by simp; omega⟩]; simp), hH1.drop⟩
    first | with_reducible replace h2 := of_decide_eq_false h2 | with_reducible replace h2 := bn_F h2 | with_reducible replace h2 := bb_F h2 | skip
    refine WT_skip ?_
    refine WT_inBlock ?_
    refine WT_region ?_
    refine WL_v rfl (ov_add rfl rfl (by omega)) ?_
    refine WL_v rfl (ov_move rfl) ?_
    refine WL_nil ?_
    refine again (k + 1) _ _ (by omega) (by repeat (first | exact trivial | refine ⟨rfl, ?_⟩)) ⟨by omega, fun j hj hjr => ?_, hH1⟩
    rcases Nat.lt_or_ge j k with h1 | h1
    · exact hall j h1 hjr
    · obtain rfl : j = k := by omega
      omega
  first | with_reducible replace hc := of_decide_eq_false hc | with_reducible replace hc := bn_F hc | with_reducible replace hc := bb_F hc | skip
  obtain rfl : k = x.frm.length := by omega
  have hallB : x.frm.all (fun f => decide (0 ≤ f ∧ f ≤ (i : Int) - 1)) = true := List.all_eq_true.2 (fun y hy => by obtain ⟨j, hj, rfl⟩ := List.mem_iff_getElem.1 hy; simpa using hall j hj hj)
  refine WT_exit rfl ?_
  refine WT_seq ?_
  refine WT_seq ?_
  refine WT_region ?_
  refine WL_v rfl (ov_field rfl fo_impl_Node_0) ?_
  refine WL_v rfl (ov_load rfl one_int (hH1.cb 0 rfl 0)) ?_
  refine WL_v rfl (ov_eql rfl rfl) ?_
  refine WL_nil ?_
  refine WT_cond rfl (fun h0 => ?_) (fun h0 => ?_)
  · skip
    first | with_reducible replace h0 := of_decide_eq_true h0 | with_reducible replace h0 := bn_T h0 | with_reducible replace h0 := bb_T h0 | skip
    refine WT_seq ?_
    refine WT_region ?_
    refine WL_v rfl (ov_field rfl fo_impl_Node_2) ?_
    refine WL_v rfl (ov_load rfl one_sl_int (hH1.cb 0 rfl 2)) ?_
    refine WL_call rfl rfl cf_impl_RowValid (rowValid_ok hH1 hr) ?_; rintro _ w4 ⟨rfl, hH2⟩
    refine WL_v rfl (ov_assign rfl) ?_
    refine WL_nil ?_
    exact WT_ret1 Try.func110 Try.results110 rfl ⟨congrArg Value.bool (by rw [fitsB, hallB, if_pos h0, decide_eq_true hn.symm]; simp), hH2.drop⟩
  first | with_reducible replace h0 := of_decide_eq_false h0 | with_reducible replace h0 := bn_F h0 | with_reducible replace h0 := bb_F h0 | skip
  refine WT_skip ?_
  refine WT_seq ?_
  refine WT_region ?_
  refine WL_v rfl (ov_field rfl fo_impl_Node_2) ?_
  refine WL_v rfl (ov_load rfl one_sl_int (hH1.cb 0 rfl 2)) ?_
  refine WL_v rfl (ov_len rfl hr.sl st_sl_int) ?_
  refine WL_v rfl (ov_eql rfl rfl) ?_
  refine WL_v rfl (ov_assign rfl) ?_
  refine WL_nil ?_
  exact WT_ret1 Try.func110 Try.results110 rfl ⟨congrArg Value.bool (by rw [fitsB, hallB, if_neg h0, decide_eq_true hn.symm]; simp only [Bool.true_and]; exact decide_eq_decide.2 (by omega)), hH1.drop⟩
end
end Go.Proofs.Ytmcedghgincaaaa
