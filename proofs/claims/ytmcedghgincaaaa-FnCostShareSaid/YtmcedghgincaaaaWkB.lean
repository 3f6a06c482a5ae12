/- Walks: rows, nodes and plans that are valid: the reference. -/
import Derived.Test.YtmcedghgincaaaaWkA
namespace Go.Proofs.Ytmcedghgincaaaa
open Go.RowKit

section
variable {h : GH} {Ls : List Heaplet} {w : World}

theorem sRowValid_ok (hH : H w h Ls) {rv : Value} {r : List Int} (hR : Ints h rv r) : Rets Try.prog 107 #[rv] w fun v w' => v = .bool (rowOk r) ∧ H w' h Ls := by
  have hlim := hR.sl.lim
  refine rets_enter Try.func107 rfl Try.ntmps107 (by simp) ?_
  refine WT_seq ?_
  refine WT_region ?_
  refine WL_v rfl (ov_assign rfl) ?_
  refine WL_nil ?_
  refine WT_seq ?_
  refine WT_seq ?_
  refine WT_region ?_
  refine WL_v rfl (ov_assign rfl) ?_
  refine WL_nil ?_
  refine WT_block ?_
  refine WT_while (fun s : Nat => [(0, rv), (3, .int .i64 (s : Int))]) (fun k w => k ≤ r.length ∧ (∀ j (hj : j < k) (hjr : j < r.length), 0 ≤ r[j] ∧ r[j] ≤ 1008) ∧ H w h Ls) (fun k => r.length - k) 0 (by repeat (first | exact trivial | refine ⟨rfl, ?_⟩)) ⟨by omega, by omega, hH⟩ ?_
  clear hH
  rintro k w1 ⟨hk, hall, hH⟩ again
  refine WT_seq ?_
  refine WT_seq ?_
  refine WT_region ?_
  refine WL_v rfl (ov_move rfl) ?_
  refine WL_v rfl (ov_move rfl) ?_
  refine WL_v rfl (ov_len rfl hR.sl st_sl_int) ?_
  refine WL_v rfl (ov_lss rfl rfl) ?_
  refine WL_nil ?_
  refine WT_cond rfl (fun hc => ?_) (fun hc => ?_)
  · skip
    first | with_reducible replace hc := of_decide_eq_true hc | with_reducible replace hc := bn_T hc | with_reducible replace hc := bb_T hc | skip
    have hkr : k < r.length := by omega
    refine WT_skip ?_
    refine WT_seq ?_
    refine WT_block ?_
    refine WT_seq ?_
    refine WT_region ?_
    refine WL_v rfl (ov_move rfl) ?_
    refine WL_v rfl (ov_move rfl) ?_
    refine WL_v rfl (ov_index rfl rfl st_sl_int hR.sl hkr) ?_
    refine WL_v rfl (ov_load rfl one_int (hR.cell hH hkr)) ?_
    refine WL_call rfl rfl cf_spec_l6In (l6In_ok hH _ _ _) ?_; rintro _ w2 ⟨rfl, hH2⟩
    refine WL_v rfl (ov_not rfl) ?_
    refine WL_nil ?_
    refine WT_cond rfl (fun hin => ?_) (fun hin => ?_)
    · skip
      first | with_reducible replace hin := of_decide_eq_true hin | with_reducible replace hin := bn_T hin | with_reducible replace hin := bb_T hin | skip
      refine WT_seq ?_
      refine WT_region ?_
      refine WL_v rfl (ov_assign rfl) ?_
      refine WL_nil ?_
      exact WT_ret1 Try.func107 Try.results107 rfl ⟨congrArg Value.bool (by rw [rowOk, List.all_eq_false.2 ⟨_, List.getElem_mem hkr, by simpa using hin⟩, Bool.false_and]), hH2⟩
    first | with_reducible replace hin := of_decide_eq_false hin | with_reducible replace hin := bn_F hin | with_reducible replace hin := bb_F hin | skip
    refine WT_skip ?_
    refine WT_inBlock ?_
    refine WT_region ?_
    refine WL_v rfl (ov_move rfl) ?_
    refine WL_v rfl (ov_add rfl rfl (by omega)) ?_
    refine WL_v rfl (ov_assign rfl) ?_
    refine WL_nil ?_
    refine again (k + 1) _ _ (by omega) (by repeat (first | exact trivial | refine ⟨rfl, ?_⟩)) ⟨by omega, fun j hj hjr => ?_, hH2⟩
    rcases Nat.lt_or_ge j k with h1 | h1
    · exact hall j h1 hjr
    · obtain rfl : j = k := by omega
      exact hin
  first | with_reducible replace hc := of_decide_eq_false hc | with_reducible replace hc := bn_F hc | with_reducible replace hc := bb_F hc | skip
  obtain rfl : k = r.length := by omega
  refine WT_exit rfl ?_
  refine WT_seq ?_
  refine WT_region ?_
  refine WL_v rfl (ov_move rfl) ?_
  refine WL_v rfl (ov_len rfl hR.sl st_sl_int) ?_
  refine WL_v rfl (ov_leq rfl rfl) ?_
  refine WL_v rfl (ov_assign rfl) ?_
  refine WL_nil ?_
  exact WT_ret1 Try.func107 Try.results107 rfl ⟨congrArg Value.bool (by rw [rowOk, List.all_eq_true.2 (fun x hx => by obtain ⟨j, hj, rfl⟩ := List.mem_iff_getElem.1 hx; simpa using hall j hj hj), Bool.true_and]; exact decide_eq_decide.2 (by omega)), hH⟩

theorem l3Wide_ok (hH : H w h Ls) {pv : Value} {p : List Nd} (hP : Plan h pv p) : Rets Try.prog 76 #[pv] w fun v w' => v = .int .i64 (wideOf p : Int) ∧ H w' h Ls := by
  have hlim := hP.sl.lim
  refine rets_enter Try.func76 rfl Try.ntmps76 (by simp) ?_
  refine WT_seq ?_
  refine WT_region ?_
  refine WL_v rfl (ov_assign rfl) ?_
  refine WL_nil ?_
  refine WT_seq ?_
  refine WT_seq ?_
  refine WT_region ?_
  refine WL_v rfl (ov_assign rfl) ?_
  refine WL_nil ?_
  refine WT_block ?_
  refine WT_while (fun s : Nat => [(0, pv), (3, .int .i64 (s : Int))]) (fun k w => k ≤ p.length ∧ wideOf p = wideOf (p.drop k) ∧ H w h Ls) (fun k => p.length - k) 0 (by repeat (first | exact trivial | refine ⟨rfl, ?_⟩)) ⟨by omega, rfl, hH⟩ ?_
  clear hH
  rintro k w1 ⟨hk, hw, hH⟩ again
  refine WT_seq ?_
  refine WT_seq ?_
  refine WT_region ?_
  refine WL_v rfl (ov_move rfl) ?_
  refine WL_v rfl (ov_move rfl) ?_
  refine WL_v rfl (ov_len rfl hP.sl st_sl_impl_Node) ?_
  refine WL_v rfl (ov_lss rfl rfl) ?_
  refine WL_nil ?_
  refine WT_cond rfl (fun hc => ?_) (fun hc => ?_)
  · skip
    first | with_reducible replace hc := of_decide_eq_true hc | with_reducible replace hc := bn_T hc | with_reducible replace hc := bb_T hc | skip
    have hkp : k < p.length := by omega
    have hdrop := List.drop_eq_getElem_cons hkp
    obtain ⟨fv, rv, hf, hr, hcell⟩ := hP.node hkp
    refine WT_skip ?_
    refine WT_seq ?_
    refine WT_block ?_
    refine WT_seq ?_
    refine WT_region ?_
    refine WL_v rfl (ov_move rfl) ?_
    refine WL_v rfl (ov_move rfl) ?_
    refine WL_v rfl (ov_index rfl rfl st_sl_impl_Node hP.sl hkp) ?_
    refine WL_v rfl (ov_field rfl fo_impl_Node_0) ?_
    refine WL_v rfl (ov_load rfl one_int (hcell _ _ hH 0 _ rfl)) ?_
    refine WL_v rfl (ov_eql rfl rfl) ?_
    refine WL_nil ?_
    refine WT_cond rfl (fun h0 => ?_) (fun h0 => ?_)
    · skip
      first | with_reducible replace h0 := of_decide_eq_true h0 | with_reducible replace h0 := bn_T h0 | with_reducible replace h0 := bb_T h0 | skip
      refine WT_seq ?_
      refine WT_region ?_
      refine WL_v rfl (ov_move rfl) ?_
      refine WL_v rfl (ov_move rfl) ?_
      refine WL_v rfl (ov_index rfl rfl st_sl_impl_Node hP.sl hkp) ?_
      refine WL_v rfl (ov_field rfl fo_impl_Node_2) ?_
      refine WL_v rfl (ov_load rfl one_sl_int (hcell _ _ hH 2 _ rfl)) ?_
      refine WL_v rfl (ov_len rfl hr.sl st_sl_int) ?_
      refine WL_v rfl (ov_assign rfl) ?_
      refine WL_nil ?_
      exact WT_ret1 Try.func76 Try.results76 rfl ⟨by rw [hw, hdrop, wideOf, if_pos h0], hH⟩
    first | with_reducible replace h0 := of_decide_eq_false h0 | with_reducible replace h0 := bn_F h0 | with_reducible replace h0 := bb_F h0 | skip
    refine WT_skip ?_
    refine WT_inBlock ?_
    refine WT_region ?_
    refine WL_v rfl (ov_move rfl) ?_
    refine WL_v rfl (ov_add rfl rfl (by omega)) ?_
    refine WL_v rfl (ov_assign rfl) ?_
    refine WL_nil ?_
    exact again (k + 1) _ _ (by omega) (by repeat (first | exact trivial | refine ⟨rfl, ?_⟩)) ⟨by omega, by rw [hw, hdrop, wideOf, if_neg h0], hH⟩
  first | with_reducible replace hc := of_decide_eq_false hc | with_reducible replace hc := bn_F hc | with_reducible replace hc := bb_F hc | skip
  obtain rfl : k = p.length := by omega
  refine WT_exit rfl ?_
  refine WT_seq ?_
  refine WT_region ?_
  refine WL_v rfl (ov_assign rfl) ?_
  refine WL_nil ?_
  exact WT_ret1 Try.func76 Try.results76 rfl ⟨by rw [hw, List.drop_length]; rfl, hH⟩

/-- A node as a value. -/
def NdV (h : GH) (v : Value) (x : Nd) : Prop := ∃ f r, v = .agg #[.int .i64 x.kind, f, r] ∧ Ints h f x.frm ∧ Ints h r x.row

theorem l3Node_ok (hH : H w h Ls) {xv : Value} {x : Nd} (hx : NdV h xv x) (i wide : Nat) (hi : i ≤ 1000000000) : Rets Try.prog 75 #[xv, .int .i64 (i : Int), .int .i64 (wide : Int)] w fun v w' => v = .bool (nodeOk x i wide) ∧ H w' h Ls := by
  obtain ⟨fv, rv, rfl, hf, hr⟩ := hx
  have hlf := hf.sl.lim
  refine rets_enter Try.func75 rfl Try.ntmps75 (by simp) ?_
  refine WT_seq ?_
  refine WT_region ?_
  refine WL_box _ rfl hH rfl rfl ?_; rintro g w1 hH1
  refine WL_v rfl (ov_assign rfl) ?_
  refine WL_nil ?_
  refine WT_seq ?_
  refine WT_seq ?_
  by_cases hn : kindNeeds x.kind = (x.frm.length : Int)
  · skip
    refine WT_join (ι := Unit) (fun _ => [(3, .pointer (some ⟨g, 0, none⟩)), (1, .int .i64 (i : Int)), (2, .int .i64 (wide : Int)), (20, .bool (!rowOk x.row))]) (fun _ w => H w h ([(g, .cells #[.int .i64 x.kind, fv, rv] 58 (0, 0))] :: Ls)) (fun joined => ?_) ?_
    · skip
      refine WT_quiet mixed (by kernel_rfl) hH1 ?_
      clear hH1
      refine WQ_v rfl (fun _ _ => ov_field rfl fo_impl_Node_0) ?_
      refine WQ_v rfl (fun _ hH => ov_load rfl one_int (hH.cb 0 rfl 0)) ?_
      refine WQ_call rfl rfl cf_spec_KindNeeds (fun _ hH => (sKindNeeds_ok hH _).mono fun _ _ hh => hh) ?_
      refine WQ_v rfl (fun _ _ => ov_field rfl fo_impl_Node_1) ?_
      refine WQ_v rfl (fun _ hH => ov_load rfl one_sl_int (hH.cb 0 rfl 1)) ?_
      refine WQ_v rfl (fun _ _ => ov_len rfl hf.sl st_sl_int) ?_
      refine WQ_v rfl (fun _ _ => ov_F (ov_neq rfl rfl) (by first | exact decide_eq_false hn | exact nb_F hn | exact mb_F hn | exact hn | (simp only [decide_eq_false_iff_not]; omega) | simpa using hn)) ?_
      refine WQ_v rfl (fun _ _ => ov_move rfl) ?_
      refine WQ_guardOn rfl rfl ?_
      refine WQ_v rfl (fun _ _ => ov_field rfl fo_impl_Node_2) ?_
      refine WQ_guardOn rfl rfl ?_
      refine WQ_v rfl (fun _ hH => ov_load rfl one_sl_int (hH.cb 0 rfl 2)) ?_
      refine WQ_guardOn rfl rfl ?_
      refine WQ_call rfl rfl cf_spec_RowValid (fun _ hH => (sRowValid_ok hH hr).mono fun _ _ hh => hh) ?_
      refine WQ_guardOn rfl rfl ?_
      refine WQ_v rfl (fun _ _ => ov_not rfl) ?_
      refine WQ_v rfl (fun _ _ => ov_pickF rfl rfl) ?_
      refine WQ_nil ?_
      intro w2 hH1
      exact joined () _ _ (by repeat (first | exact trivial | refine ⟨rfl, ?_⟩)) hH1
    clear hH1
    rintro _ w2 hH1
    refine WT_cond rfl (fun hrow => ?_) (fun hrow => ?_)
    · skip
      first | with_reducible replace hrow := of_decide_eq_true hrow | with_reducible replace hrow := bn_T hrow | with_reducible replace hrow := bb_T hrow | skip
      refine WT_seq ?_
      refine WT_region ?_
      refine WL_v rfl (ov_assign rfl) ?_
      refine WL_nil ?_
      exact WT_ret1 Try.func75 Try.results75 rfl ⟨congrArg Value.bool (by simp [nodeOk, hrow]), hH1.drop⟩
    first | with_reducible replace hrow := of_decide_eq_false hrow | with_reducible replace hrow := bn_F hrow | with_reducible replace hrow := bb_F hrow | skip
    refine WT_skip ?_
    refine WT_seq ?_
    refine WT_seq ?_
    refine WT_region ?_
    refine WL_v rfl (ov_assign rfl) ?_
    refine WL_nil ?_
    refine WT_block ?_
    refine WT_while (fun s : Nat => [(3, .pointer (some ⟨g, 0, none⟩)), (1, .int .i64 (i : Int)), (2, .int .i64 (wide : Int)), (7, .int .i64 (s : Int))]) (fun k w => k ≤ x.frm.length ∧ (∀ j (_ : j < k) (hjr : j < x.frm.length), 0 ≤ x.frm[j] ∧ x.frm[j] ≤ (i : Int) - 1) ∧ H w h ([(g, .cells #[.int .i64 x.kind, fv, rv] 58 (0, 0))] :: Ls)) (fun k => x.frm.length - k) 0 (by repeat (first | exact trivial | refine ⟨rfl, ?_⟩)) ⟨by omega, by omega, hH1⟩ ?_
    clear hH1
    rintro k w3 ⟨hk, hall, hH1⟩ again
    refine WT_seq ?_
    refine WT_seq ?_
    refine WT_region ?_
    refine WL_v rfl (ov_move rfl) ?_
    refine WL_v rfl (ov_field rfl fo_impl_Node_1) ?_
    refine WL_v rfl (ov_load rfl one_sl_int (hH1.cb 0 rfl 1)) ?_
    refine WL_v rfl (ov_len rfl hf.sl st_sl_int) ?_
    refine WL_v rfl (ov_lss rfl rfl) ?_
    refine WL_nil ?_
    refine WT_cond rfl (fun hc => ?_) (fun hc => ?_)
    · skip
      first | with_reducible replace hc := of_decide_eq_true hc | with_reducible replace hc := bn_T hc | with_reducible replace hc := bb_T hc | skip
      have hkr : k < x.frm.length := by omega
      refine WT_skip ?_
      refine WT_seq ?_
      refine WT_block ?_
      refine WT_seq ?_
      refine WT_region ?_
      refine WL_v rfl (ov_field rfl fo_impl_Node_1) ?_
      refine WL_v rfl (ov_load rfl one_sl_int (hH1.cb 0 rfl 1)) ?_
      refine WL_v rfl (ov_move rfl) ?_
      refine WL_v rfl (ov_index rfl rfl st_sl_int hf.sl hkr) ?_
      refine WL_v rfl (ov_load rfl one_int (hf.cell hH1 hkr)) ?_
      refine WL_v rfl (ov_move rfl) ?_
      refine WL_v rfl (ov_sub rfl rfl (by omega)) ?_
      refine WL_call rfl rfl cf_spec_l6In (l6In_ok hH1 _ _ _) ?_; rintro _ w4 ⟨rfl, hH2⟩
      refine WL_v rfl (ov_not rfl) ?_
      refine WL_nil ?_
      refine WT_cond rfl (fun hin => ?_) (fun hin => ?_)
      · skip
        first | with_reducible replace hin := of_decide_eq_true hin | with_reducible replace hin := bn_T hin | with_reducible replace hin := bb_T hin | skip
        refine WT_seq ?_
        refine WT_region ?_
        refine WL_v rfl (ov_assign rfl) ?_
        refine WL_nil ?_
        exact WT_ret1 Try.func75 Try.results75 rfl ⟨congrArg Value.bool (by rw [nodeOk, List.all_eq_false.2 ⟨_, List.getElem_mem hkr, by simpa using hin⟩]; simp), hH2.drop⟩
      first | with_reducible replace hin := of_decide_eq_false hin | with_reducible replace hin := bn_F hin | with_reducible replace hin := bb_F hin | skip
      refine WT_skip ?_
      refine WT_inBlock ?_
      refine WT_region ?_
      refine WL_v rfl (ov_move rfl) ?_
      refine WL_v rfl (ov_add rfl rfl (by omega)) ?_
      refine WL_v rfl (ov_assign rfl) ?_
      refine WL_nil ?_
      refine again (k + 1) _ _ (by omega) (by repeat (first | exact trivial | refine ⟨rfl, ?_⟩)) ⟨by omega, fun j hj hjr => ?_, hH2⟩
      rcases Nat.lt_or_ge j k with h1 | h1
      · exact hall j h1 hjr
      · obtain rfl : j = k := by omega
        exact hin
    first | with_reducible replace hc := of_decide_eq_false hc | with_reducible replace hc := bn_F hc | with_reducible replace hc := bb_F hc | skip
    obtain rfl : k = x.frm.length := by omega
    have hallB : x.frm.all (fun f => decide (0 ≤ f ∧ f ≤ (i : Int) - 1)) = true := List.all_eq_true.2 (fun y hy => by obtain ⟨j, hj, rfl⟩ := List.mem_iff_getElem.1 hy; simpa using hall j hj hj)
    refine WT_exit rfl ?_
    refine WT_seq ?_
    refine WT_seq ?_
    refine WT_region ?_
    refine WL_v rfl (ov_field rfl fo_impl_Node_0) ?_
    refine WL_v rfl (ov_load rfl one_int (hH1.cb 0 rfl 0)) ?_
    refine WL_v rfl (ov_eql rfl rfl) ?_
    refine WL_nil ?_
    refine WT_cond rfl (fun h0 => ?_) (fun h0 => ?_)
    · skip
      first | with_reducible replace h0 := of_decide_eq_true h0 | with_reducible replace h0 := bn_T h0 | with_reducible replace h0 := bb_T h0 | skip
      refine WT_seq ?_
      refine WT_region ?_
      refine WL_v rfl (ov_field rfl fo_impl_Node_2) ?_
      refine WL_v rfl (ov_load rfl one_sl_int (hH1.cb 0 rfl 2)) ?_
      refine WL_v rfl (ov_len rfl hr.sl st_sl_int) ?_
      refine WL_v rfl (ov_move rfl) ?_
      refine WL_v rfl (ov_eql rfl rfl) ?_
      refine WL_v rfl (ov_assign rfl) ?_
      refine WL_nil ?_
      exact WT_ret1 Try.func75 Try.results75 rfl ⟨congrArg Value.bool (by rw [nodeOk, hallB, hrow, if_pos h0, decide_eq_true hn]; simp only [Bool.true_and]; exact decide_eq_decide.2 (by omega)), hH1.drop⟩
    first | with_reducible replace h0 := of_decide_eq_false h0 | with_reducible replace h0 := bn_F h0 | with_reducible replace h0 := bb_F h0 | skip
    refine WT_skip ?_
    refine WT_seq ?_
    refine WT_region ?_
    refine WL_v rfl (ov_field rfl fo_impl_Node_2) ?_
    refine WL_v rfl (ov_load rfl one_sl_int (hH1.cb 0 rfl 2)) ?_
    refine WL_v rfl (ov_len rfl hr.sl st_sl_int) ?_
    refine WL_v rfl (ov_eql rfl rfl) ?_
    refine WL_v rfl (ov_assign rfl) ?_
    refine WL_nil ?_
    exact WT_ret1 Try.func75 Try.results75 rfl ⟨congrArg Value.bool (by rw [nodeOk, hallB, hrow, if_neg h0, decide_eq_true hn]; simp only [Bool.true_and]; exact decide_eq_decide.2 (by omega)), hH1.drop⟩
  · skip
    refine WT_quiet mixed (by kernel_rfl) hH1 ?_
    clear hH1
    refine WQ_v rfl (fun _ _ => ov_field rfl fo_impl_Node_0) ?_
    refine WQ_v rfl (fun _ hH => ov_load rfl one_int (hH.cb 0 rfl 0)) ?_
    refine WQ_call rfl rfl cf_spec_KindNeeds (fun _ hH => (sKindNeeds_ok hH _).mono fun _ _ hh => hh) ?_
    refine WQ_v rfl (fun _ _ => ov_field rfl fo_impl_Node_1) ?_
    refine WQ_v rfl (fun _ hH => ov_load rfl one_sl_int (hH.cb 0 rfl 1)) ?_
    refine WQ_v rfl (fun _ _ => ov_len rfl hf.sl st_sl_int) ?_
    refine WQ_v rfl (fun _ _ => ov_T (ov_neq rfl rfl) (by first | exact decide_eq_true hn | exact nb_T hn | exact mb_T hn | exact hn | (simp only [decide_eq_true_eq]; omega) | simpa using hn)) ?_
    refine WQ_v rfl (fun _ _ => ov_move rfl) ?_
    refine WQ_guardOff rfl rfl rfl rfl ?_
    refine WQ_guardOff rfl rfl rfl rfl ?_
    refine WQ_guardOff rfl rfl rfl rfl ?_
    refine WQ_guardOff rfl rfl rfl rfl ?_
    refine WQ_v rfl (fun _ _ => ov_pickT rfl rfl) ?_
    refine WQ_nil ?_
    intro w2 hH1
    refine WT_condT rfl ?_
    refine WT_seq ?_
    refine WT_region ?_
    refine WL_v rfl (ov_assign rfl) ?_
    refine WL_nil ?_
    exact WT_ret1 Try.func75 Try.results75 rfl ⟨congrArg Value.bool (by simp [nodeOk, hn]), hH1.drop⟩

theorem Plan.ndV {pv : Value} {p : List Nd} (hP : Plan h pv p) {i : Nat} (hi : i < p.length) : ∃ v, NdV h v p[i] ∧ ∃ f r, v = .agg [.int .i64 p[i].kind, f, r].toArray ∧ ∀ w Ls, H w h Ls → ∀ j u, [Value.int .i64 p[i].kind, f, r][j]? = some u → w.cell? (((slA pv).add (i * 3)).add j) = some u := by
  obtain ⟨f, r, h1, h2, h3⟩ := hP.node hi
  exact ⟨_, ⟨f, r, rfl, h1, h2⟩, f, r, rfl, h3⟩

theorem sPlanValid_ok (hH : H w h Ls) {pv : Value} {p : List Nd} (hP : Plan h pv p) (hl : p.length ≤ 1000000000) : Rets Try.prog 30 #[pv] w fun v w' => v = .bool (planOk p) ∧ H w' h Ls := by
  refine rets_enter Try.func30 rfl Try.ntmps30 (by simp) ?_
  refine WT_seq ?_
  refine WT_region ?_
  refine WL_v rfl (ov_assign rfl) ?_
  refine WL_nil ?_
  refine WT_seq ?_
  refine WT_seq ?_
  refine WT_region ?_
  refine WL_v rfl (ov_assign rfl) ?_
  refine WL_nil ?_
  refine WT_block ?_
  refine WT_while (fun s : Nat => [(0, pv), (3, .int .i64 (s : Int))]) (fun k w => k ≤ p.length ∧ (∀ j (_ : j < k) (hjr : j < p.length), nodeOk p[j] j (wideOf p) = true) ∧ H w h Ls) (fun k => p.length - k) 0 (by repeat (first | exact trivial | refine ⟨rfl, ?_⟩)) ⟨by omega, by omega, hH⟩ ?_
  clear hH
  rintro k w3 ⟨hk, hall, hH1⟩ again
  refine WT_seq ?_
  refine WT_seq ?_
  refine WT_region ?_
  refine WL_v rfl (ov_move rfl) ?_
  refine WL_v rfl (ov_move rfl) ?_
  refine WL_v rfl (ov_len rfl hP.sl st_sl_impl_Node) ?_
  refine WL_v rfl (ov_lss rfl rfl) ?_
  refine WL_nil ?_
  refine WT_cond rfl (fun hc => ?_) (fun hc => ?_)
  · skip
    first | with_reducible replace hc := of_decide_eq_true hc | with_reducible replace hc := bn_T hc | with_reducible replace hc := bb_T hc | skip
    have hkr : k < p.length := by omega
    obtain ⟨xv, hx, f, r, rfl, hcell⟩ := hP.ndV hkr
    refine WT_skip ?_
    refine WT_seq ?_
    refine WT_block ?_
    refine WT_seq ?_
    refine WT_quiet mixed (by kernel_rfl) hH1 ?_
    clear hH1
    refine WQ_v rfl (fun _ _ => ov_move rfl) ?_
    refine WQ_v rfl (fun _ _ => ov_move rfl) ?_
    refine WQ_v rfl (fun _ _ => ov_index rfl rfl st_sl_impl_Node hP.sl hkr) ?_
    refine WQ_v rfl (fun _ hH => ov_loadN [.int .i64 p[k].kind, f, r] rfl agg_impl_Node rfl ((hcell _ _ hH))) ?_
    refine WQ_v rfl (fun _ _ => ov_move rfl) ?_
    refine WQ_v rfl (fun _ _ => ov_move rfl) ?_
    refine WQ_call rfl rfl cf_spec_l3Wide (fun _ hH => l3Wide_ok hH hP) ?_
    refine WQ_call rfl rfl cf_spec_l3Node (fun _ hH => l3Node_ok hH hx k (wideOf p) (by omega)) ?_
    refine WQ_v rfl (fun _ _ => ov_not rfl) ?_
    refine WQ_nil ?_
    intro w2 hH1
    refine WT_cond rfl (fun hin => ?_) (fun hin => ?_)
    · skip
      first | with_reducible replace hin := of_decide_eq_true hin | with_reducible replace hin := bn_T hin | with_reducible replace hin := bb_T hin | skip
      refine WT_seq ?_
      refine WT_region ?_
      refine WL_v rfl (ov_assign rfl) ?_
      refine WL_nil ?_
      exact WT_ret1 Try.func30 Try.results30 rfl ⟨congrArg Value.bool (planOk_bad hkr hin).symm, hH1⟩
    first | with_reducible replace hin := of_decide_eq_false hin | with_reducible replace hin := bn_F hin | with_reducible replace hin := bb_F hin | skip
    refine WT_skip ?_
    refine WT_inBlock ?_
    refine WT_region ?_
    refine WL_v rfl (ov_move rfl) ?_
    refine WL_v rfl (ov_add rfl rfl (by omega)) ?_
    refine WL_v rfl (ov_assign rfl) ?_
    refine WL_nil ?_
    refine again (k + 1) _ _ (by omega) (by repeat (first | exact trivial | refine ⟨rfl, ?_⟩)) ⟨by omega, fun j hj hjr => ?_, hH1⟩
    rcases Nat.lt_or_ge j k with h1 | h1
    · exact hall j h1 hjr
    · obtain rfl : j = k := by omega
      exact hin
  first | with_reducible replace hc := of_decide_eq_false hc | with_reducible replace hc := bn_F hc | with_reducible replace hc := bb_F hc | skip
  obtain rfl : k = p.length := by omega
  refine WT_exit rfl ?_
  refine WT_seq ?_
  refine WT_region ?_
  refine WL_v rfl (ov_move rfl) ?_
  refine WL_v rfl (ov_len rfl hP.sl st_sl_impl_Node) ?_
  refine WL_v rfl (ov_leq rfl rfl) ?_
  refine WL_v rfl (ov_assign rfl) ?_
  refine WL_nil ?_
  exact WT_ret1 Try.func30 Try.results30 rfl ⟨congrArg Value.bool (by rw [planOk, List.all_eq_true.2 (fun j hj => by rw [List.mem_range] at hj; rw [getD_of hj]; exact hall j hj hj), Bool.true_and]; exact decide_eq_decide.2 (by omega)), hH1⟩
end
end Go.Proofs.Ytmcedghgincaaaa
