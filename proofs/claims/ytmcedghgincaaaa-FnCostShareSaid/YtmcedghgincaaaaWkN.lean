/- Walks: the draws of rows, nodes and plans. -/
import Derived.Test.YtmcedghgincaaaaWkC
import Derived.Test.YtmcedghgincaaaaWkY
namespace Go.Proofs.Ytmcedghgincaaaa
open Go.RowKit

section
variable {h : GH} {Ls : List Heaplet} {w : World}

theorem l91Row_ok {g : Nat} {bv : Value} {p : Nat} {bs : List Int} (hH : H w h (rdr g bv p :: Ls)) (hB : Bytes h bv bs) (hp : p ≤ 1000000) (n : Nat) (hn : n ≤ 12) :
    Rets Try.prog 102 #[.pointer (some ⟨g, 0, none⟩), .int .i64 (n : Int)] w fun v w' => ∃ X r p', IRow X 3 v r ∧ r.length = n ∧ p' ≤ p + 100 ∧ H w' h (X :: rdr g bv p' :: Ls) := by
  refine rets_enter Try.func102 rfl Try.ntmps102 (by simp) ?_
  refine WT_seq ?_
  refine WT_region ?_
  refine WL_v rfl (ov_assign rfl) ?_
  refine WL_nil ?_
  refine WT_seq ?_
  refine WT_region ?_
  refine WL_bsI0 rfl hH run_bs_int0 ?_; rintro X0 ev0 w2 hX0 hH2
  refine WL_v rfl (ov_assign rfl) ?_
  refine WL_nil ?_
  refine WT_seq ?_
  refine WT_seq ?_
  refine WT_region ?_
  refine WL_v rfl (ov_assign rfl) ?_
  refine WL_nil ?_
  refine WT_block ?_
  refine WT_while (fun s : Nat × Value => [(0, .pointer (some ⟨g, 0, none⟩)), (1, .int .i64 (n : Int)), (5, s.2), (6, .int .i64 (s.1 : Int))]) (fun s w => s.1 ≤ n ∧ ∃ X r p', IRow X 3 s.2 r ∧ r.length = s.1 ∧ p' ≤ p + 3 * s.1 ∧ H w h (X :: rdr g bv p' :: Ls)) (fun s => n - s.1) (0, ev0) (by repeat (first | exact trivial | refine ⟨rfl, ?_⟩)) ⟨by omega, X0, [], p, hX0, rfl, by simp only; omega, hH2⟩ ?_
  clear hH hH2 hX0
  rintro ⟨k, sv⟩ w3 ⟨hk, X, r, p', hX, hr, hp', hH⟩ again
  simp only at hk hX hr hp'
  refine WT_seq ?_
  refine WT_seq ?_
  refine WT_region ?_
  refine WL_v rfl (ov_move rfl) ?_
  refine WL_v rfl (ov_move rfl) ?_
  refine WL_v rfl (ov_lss rfl rfl) ?_
  refine WL_nil ?_
  refine WT_cond rfl (fun hc => ?_) (fun hc => ?_)
  · skip
    first | with_reducible replace hc := of_decide_eq_true hc | with_reducible replace hc := bn_T hc | with_reducible replace hc := bb_T hc | skip
    simp only at hc
    have hkn : k < n := by omega
    refine WT_skip ?_
    refine WT_seq ?_
    refine WT_block ?_
    refine WT_region ?_
    refine WL_v rfl (ov_move rfl) ?_
    refine WL_v rfl (ov_move rfl) ?_
    refine WL_call rfl rfl cf_p_spec_l6Rd_pick (pick_ok (hH.pull 1 rfl) hB (by omega) 5) ?_; rintro _ w4 ⟨r1, rfl, hr1, hH4⟩
    refine WL_v rfl (ov_move rfl) ?_
    refine WL_call rfl rfl cf_p_spec_l6Rd_pick (pick_ok hH4 hB (by omega) 1009) ?_; rintro _ w5 ⟨r2, rfl, hr2, hH5⟩
    refine WL_bsIN [(r1 : Int), (r2 : Int)] rfl hH5 rfl (run_bs_int2 _ _) rfl (by omega) ?_; rintro Y yv w6 hY hH6
    refine WL_v rfl (ov_move rfl) ?_
    refine WL_call rfl rfl cf_p_spec_l6Rd_pick (pick_ok (hH6.pull 1 rfl) hB (by omega) 2) ?_; rintro _ w7 ⟨r3, rfl, hr3, hH7⟩
    refine WL_v rfl (ov_index rfl rfl st_sl_int hY.sl (by have := hr3.1 (by omega); simp only [List.length_cons, List.length_nil]; omega)) ?_
    refine WL_v rfl (ov_load rfl one_int (hY.cell hH7 (i := 1) rfl (by have := hr3.1 (by omega); simp only [List.length_cons, List.length_nil]; omega))) ?_
    refine WL_bsI rfl hH7 rfl (run_bs_int _) ?_; rintro Z zv w8 hZ hH8
    refine WL_appI (i := 3) (j := 0) rfl hH8 rfl rfl st_sl_int rfl hX rfl hZ (by simp; omega) (by simp; omega) ?_; rintro X2 sv2 w9 hX2 hH9
    refine WL_v rfl (ov_assign rfl) ?_
    refine WL_nil ?_
    refine WT_inBlock ?_
    refine WT_region ?_
    refine WL_v rfl (ov_move rfl) ?_
    refine WL_v rfl (ov_add rfl rfl (by omega)) ?_
    refine WL_v rfl (ov_assign rfl) ?_
    refine WL_nil ?_
    refine again (k + 1, sv2) _ _ (by simp only; omega) (by repeat (first | exact trivial | refine ⟨rfl, ?_⟩)) ⟨by simp only; omega, X2, _, p' + 1 + 1 + 1, hX2, by simp [hr], by simp only; omega, (hH9.drop.pull 2 rfl).del 2 rfl⟩
  first | with_reducible replace hc := of_decide_eq_false hc | with_reducible replace hc := bn_F hc | with_reducible replace hc := bb_F hc | skip
  simp only at hc
  obtain rfl : k = n := by omega
  by_cases h0 : 0 < k
  case neg =>
    refine WT_exit rfl ?_
    refine WT_seq ?_
    refine WT_seq ?_
    refine WT_region ?_
    refine WL_v rfl (ov_move rfl) ?_
    refine WL_v rfl (ov_F (ov_gtr rfl rfl) (by first | exact decide_eq_false h0 | exact nb_F h0 | exact mb_F h0 | exact h0 | (simp only [decide_eq_false_iff_not]; omega) | simpa using h0)) ?_
    refine WL_v rfl (ov_move rfl) ?_
    refine WL_guardOff rfl rfl rfl rfl ?_
    refine WL_guardOff rfl rfl rfl rfl ?_
    refine WL_guardOff rfl rfl rfl rfl ?_
    refine WL_v rfl (ov_pickF rfl rfl) ?_
    refine WL_nil ?_
    refine WT_condF rfl ?_
    refine WT_skip ?_
    refine WT_seq ?_
    refine WT_region ?_
    refine WL_v rfl (ov_move rfl) ?_
    refine WL_v rfl (ov_assign rfl) ?_
    refine WL_nil ?_
    exact WT_ret1 Try.func102 Try.results102 rfl ⟨X, r, p', hX, hr, by omega, hH⟩
  refine WT_exit rfl ?_
  refine WT_seq ?_
  refine WT_seq ?_
  refine WT_region ?_
  refine WL_v rfl (ov_move rfl) ?_
  refine WL_v rfl (ov_T (ov_gtr rfl rfl) (by first | exact decide_eq_true h0 | exact nb_T h0 | exact mb_T h0 | exact h0 | (simp only [decide_eq_true_eq]; omega) | simpa using h0)) ?_
  refine WL_v rfl (ov_move rfl) ?_
  refine WL_guardOn rfl rfl ?_
  refine WL_v rfl (ov_move rfl) ?_
  refine WL_guardOn rfl rfl ?_
  refine WL_call rfl rfl cf_p_spec_l6Rd_pick (pick_ok (hH.pull 1 rfl) hB (by omega) 50) ?_; rintro _ w4 ⟨r1, rfl, hr1, hH4⟩
  refine WL_guardOn rfl rfl ?_
  refine WL_v rfl (ov_eql rfl rfl) ?_
  refine WL_v rfl (ov_pickT rfl rfl) ?_
  refine WL_nil ?_
  refine WT_cond rfl (fun h1 => ?_) (fun h1 => ?_)
  · skip
    first | with_reducible replace h1 := of_decide_eq_true h1 | with_reducible replace h1 := bn_T h1 | with_reducible replace h1 := bb_T h1 | skip
    refine WT_region ?_
    refine WL_v rfl (ov_move rfl) ?_
    refine WL_v rfl (ov_move rfl) ?_
    refine WL_v rfl (ov_move rfl) ?_
    refine WL_call rfl rfl cf_p_spec_l6Rd_pick (pick_ok hH4 hB (by omega) k) ?_; rintro _ w5 ⟨r2, rfl, hr2, hH5⟩
    refine WL_bsIN [-1, 1008, 1009] rfl hH5 rfl (run_bs_int3 _ _ _) rfl (by omega) ?_; rintro Y yv w6 hY hH6
    refine WL_v rfl (ov_move rfl) ?_
    refine WL_call rfl rfl cf_p_spec_l6Rd_pick (pick_ok (hH6.pull 1 rfl) hB (by omega) 3) ?_; rintro _ w7 ⟨r3, rfl, hr3, hH7⟩
    refine WL_v rfl (ov_index rfl rfl st_sl_int hY.sl (by have := hr3.1 (by omega); simp only [List.length_cons, List.length_nil]; omega)) ?_
    refine WL_v rfl (ov_load rfl one_int (hY.cell hH7 (i := 1) rfl (by have := hr3.1 (by omega); simp only [List.length_cons, List.length_nil]; omega))) ?_
    refine WL_v rfl (ov_index rfl rfl st_sl_int hX.sl (by have := hr2.1 (by omega); omega)) ?_
    refine WL_storeI hH7 rfl rfl (i := 2) rfl hX (by have := hr2.1 (by omega); omega) sz_int ?_; rintro X2 w8 hX2 hH8
    refine WL_nil ?_
    refine WT_seq ?_
    refine WT_region ?_
    refine WL_v rfl (ov_move rfl) ?_
    refine WL_v rfl (ov_assign rfl) ?_
    refine WL_nil ?_
    exact WT_ret1 Try.func102 Try.results102 rfl ⟨X2, _, p' + 1 + 1 + 1, hX2, by simp [hr], by omega, (hH8.pull 2 rfl).del 2 rfl⟩
  first | with_reducible replace h1 := of_decide_eq_false h1 | with_reducible replace h1 := bn_F h1 | with_reducible replace h1 := bb_F h1 | skip
  refine WT_skip ?_
  refine WT_seq ?_
  refine WT_region ?_
  refine WL_v rfl (ov_move rfl) ?_
  refine WL_v rfl (ov_assign rfl) ?_
  refine WL_nil ?_
  exact WT_ret1 Try.func102 Try.results102 rfl ⟨X, r, p' + 1, hX, hr, by omega, hH4.swap⟩

/-- A node that was drawn, as a value of one's own. -/
def ONd (v : Value) (x : Nd) (F R : Heaplet) : Prop := ∃ fv rv, v = .agg [.int .i64 x.kind, fv, rv].toArray ∧ IRow F 3 fv x.frm ∧ IRow R 3 rv x.row

theorem run_build_node' (k : Int) (a b : Option Addr) (n c m d : Nat) (W : World) : (Instr.build 58 #[(0, .int .i64 k), (1, .slice a n c), (2, .slice b m d)]).run Try.prog W = .ok (.agg #[.int .i64 k, .slice a n c, .slice b m d]) W := by kernel_rfl
theorem run_build_node {k : Int} {u v : Value} {n m : Nat} (hu : Sl u n) (hv : Sl v m) (W : World) : (Instr.build 58 #[(0, .int .i64 k), (1, u), (2, v)]).run Try.prog W = .ok (.agg #[.int .i64 k, u, v]) W := by
  obtain ⟨_, _, rfl, _⟩ := hu.form
  obtain ⟨_, _, rfl, _⟩ := hv.form
  exact run_build_node' k _ _ _ _ _ _ W

theorem l91Node_ok {g : Nat} {bv : Value} {p : Nat} {bs : List Int} (hH : H w h (rdr g bv p :: Ls)) (hB : Bytes h bv bs) (hp : p ≤ 900000) (i n : Nat) (hn : n ≤ 11) :
    Rets Try.prog 101 #[.pointer (some ⟨g, 0, none⟩), .int .i64 (i : Int), .int .i64 (n : Int)] w fun v w' => ∃ x F R p', ONd v x F R ∧ p' ≤ p + 200 ∧ H w' h (rdr g bv p' :: F :: R :: Ls) := by
  refine rets_enter Try.func101 rfl Try.ntmps101 (by simp) ?_
  refine WT_seq ?_
  refine WT_region ?_
  refine WL_alloc #[.int .i64 0, .slice none 0 0, .slice none 0 0] rfl hH zero_impl_Node rfl ?_; rintro ga w1 hH1
  refine WL_nil ?_
  refine WT_seq ?_
  refine WT_region ?_
  refine WL_v rfl (ov_move rfl) ?_
  refine WL_call rfl rfl cf_p_spec_l6Rd_pick (pick_ok (hH1.pull 1 rfl) hB (by omega) 6) ?_; rintro _ w2 ⟨r1, rfl, hr1, hH2⟩
  refine WL_bsI0 rfl hH2 run_bs_int0 ?_; rintro X1 xv1 w3 hX1 hH3
  refine WL_bsI0 rfl hH3 run_bs_int0 ?_; rintro X2 xv2 w4 hX2 hH4
  refine WL_v rfl (ov_build rfl (run_build_node hX1.sl hX2.sl)) ?_
  refine WL_alloc #[.int .i64 0, .slice none 0 0, .slice none 0 0] rfl hH4 zero_impl_Node rfl ?_; rintro gb w5 hH5
  refine WL_storeN hH5 rfl rfl (i := 0) rfl rfl rfl (ones_cons rfl (ones_cons hX1.sl.one (ones_cons hX2.sl.one ones_nil))) sz_impl_Node ?_; rintro w6 hH6
  refine WL_nil ?_
  refine WT_seq ?_
  refine WT_seq ?_
  refine WT_region ?_
  refine WL_v rfl (ov_move rfl) ?_
  refine WL_v rfl (ov_eql rfl rfl) ?_
  refine WL_nil ?_
  replace hH6 := (hH6.pull 3 rfl)
  refine WT_join (ι := Int) (fun _ => [(0, .pointer (some ⟨g, 0, none⟩)), (1, .int .i64 (i : Int)), (2, .int .i64 (n : Int)), (6, .pointer (some ⟨ga, 0, none⟩)), (7, .pointer (some ⟨gb, 0, none⟩))]) (fun k w => H w h (rdr g bv (p + 1) :: [(gb, .cells #[.int .i64 k, xv1, xv2] 58 (0, 0))] :: X2 :: X1 :: [(ga, .cells #[.int .i64 0, .slice none 0 0, .slice none 0 0] 58 (0, 0))] :: Ls)) (fun joined => ?_) ?_
  · skip
    refine WT_cond rfl (fun h0 => ?_) (fun h0 => ?_)
    · skip
      first | with_reducible replace h0 := of_decide_eq_true h0 | with_reducible replace h0 := bn_T h0 | with_reducible replace h0 := bb_T h0 | skip
      refine WT_region ?_
      refine WL_v rfl (ov_field rfl fo_impl_Node_0) ?_
      refine WL_store hH6 rfl rfl (i := 1) (off := 0) rfl rfl (by simp) rfl sz_int ?_; rintro w7 hH7
      refine WL_nil ?_
      exact joined _ _ _ (by repeat (first | exact trivial | refine ⟨rfl, ?_⟩)) hH7
    first | with_reducible replace h0 := of_decide_eq_false h0 | with_reducible replace h0 := bn_F h0 | with_reducible replace h0 := bb_F h0 | skip
    refine WT_skip ?_
    exact joined _ _ _ (by repeat (first | exact trivial | refine ⟨rfl, ?_⟩)) hH6
  clear hH hH1 hH2 hH3 hH4 hH5 hH6
  rintro k w7 hH7
  refine WT_seq ?_
  refine WT_seq ?_
  refine WT_region ?_
  refine WL_v rfl (ov_field rfl fo_impl_Node_0) ?_
  refine WL_v rfl (ov_load rfl one_int (hH7.cb 1 rfl 0)) ?_
  refine WL_v rfl (ov_eql rfl rfl) ?_
  refine WL_nil ?_
  refine WT_join (ι := Value) (fun _ => [(0, .pointer (some ⟨g, 0, none⟩)), (1, .int .i64 (i : Int)), (6, .pointer (some ⟨ga, 0, none⟩)), (7, .pointer (some ⟨gb, 0, none⟩))]) (fun rv w => ∃ R r p', IRow R 3 rv r ∧ p' ≤ p + 1 + 100 ∧ H w h (rdr g bv p' :: [(gb, .cells #[.int .i64 k, xv1, rv] 58 (0, 0))] :: R :: X1 :: [(ga, .cells #[.int .i64 0, .slice none 0 0, .slice none 0 0] 58 (0, 0))] :: Ls)) (fun joined => ?_) ?_
  · skip
    refine WT_cond rfl (fun h0 => ?_) (fun h0 => ?_)
    · skip
      first | with_reducible replace h0 := of_decide_eq_true h0 | with_reducible replace h0 := bn_T h0 | with_reducible replace h0 := bb_T h0 | skip
      refine WT_region ?_
      refine WL_v rfl (ov_move rfl) ?_
      refine WL_v rfl (ov_move rfl) ?_
      refine WL_call rfl rfl cf_spec_l91Row (l91Row_ok hH7 hB (by omega) n (by omega)) ?_; rintro rv w8 ⟨R, r, p', hR, hrl, hp', hH8⟩
      refine WL_v rfl (ov_field rfl fo_impl_Node_2) ?_
      refine WL_store hH8 rfl rfl (i := 2) (off := 2) rfl rfl (by simp) hR.sl.one sz_sl_int ?_; rintro w9 hH9
      refine WL_nil ?_
      exact joined rv _ _ (by repeat (first | exact trivial | refine ⟨rfl, ?_⟩)) ⟨R, r, p', hR, hp', ((hH9.del 3 rfl).pull 2 rfl).pull 2 rfl⟩
    first | with_reducible replace h0 := of_decide_eq_false h0 | with_reducible replace h0 := bn_F h0 | with_reducible replace h0 := bb_F h0 | skip
    refine WT_skip ?_
    exact joined xv2 _ _ (by repeat (first | exact trivial | refine ⟨rfl, ?_⟩)) ⟨X2, [], p + 1, hX2, by omega, hH7⟩
  clear hH7 hX2
  rintro rv w8 ⟨R, r, p1, hR, hp1, hH8⟩
  refine WT_seq ?_
  refine WT_seq ?_
  refine WT_region ?_
  refine WL_v rfl (ov_assign rfl) ?_
  refine WL_nil ?_
  refine WT_block ?_
  refine WT_while (fun s : Nat × Value => [(0, .pointer (some ⟨g, 0, none⟩)), (1, .int .i64 (i : Int)), (6, .pointer (some ⟨ga, 0, none⟩)), (7, .pointer (some ⟨gb, 0, none⟩)), (8, .int .i64 (s.1 : Int))]) (fun s w => s.1 ≤ 2 ∧ ∃ X f p', IRow X 3 s.2 f ∧ f.length = s.1 ∧ p' ≤ p + 1 + 100 + s.1 ∧ H w h (rdr g bv p' :: [(gb, .cells #[.int .i64 k, s.2, rv] 58 (0, 0))] :: R :: X :: [(ga, .cells #[.int .i64 0, .slice none 0 0, .slice none 0 0] 58 (0, 0))] :: Ls)) (fun s => 2 - s.1) (0, xv1) (by repeat (first | exact trivial | refine ⟨rfl, ?_⟩)) ⟨by omega, X1, [], p1, hX1, rfl, by simp only; omega, hH8⟩ ?_
  clear hH8 hX1
  rintro ⟨j, fv⟩ w9 ⟨hj, X, f, p2, hX, hfl, hp2, hH9⟩ again
  simp only at hj hX hfl hp2
  have hkn := kindNeeds_le k
  refine WT_seq ?_
  refine WT_seq ?_
  refine WT_region ?_
  refine WL_v rfl (ov_move rfl) ?_
  refine WL_v rfl (ov_field rfl fo_impl_Node_0) ?_
  refine WL_v rfl (ov_load rfl one_int (hH9.cb 1 rfl 0)) ?_
  refine WL_call rfl rfl cf_spec_KindNeeds (sKindNeeds_ok hH9 k) ?_; rintro _ w10 ⟨rfl, hH10⟩
  refine WL_v rfl (ov_lss rfl rfl) ?_
  refine WL_nil ?_
  refine WT_cond rfl (fun hc => ?_) (fun hc => ?_)
  · skip
    first | with_reducible replace hc := of_decide_eq_true hc | with_reducible replace hc := bn_T hc | with_reducible replace hc := bb_T hc | skip
    simp only at hc
    refine WT_skip ?_
    refine WT_seq ?_
    refine WT_block ?_
    refine WT_mixO (i := 1) [(0, 0), (1, 0), (2, 0), (3, 0), (4, 1), (5, 1), (6, 1), (7, 0), (8, 2)] mixed (by kernel_rfl) hH10 rfl ?_
    clear hH10
    intro w11 hH10 hC
    refine WM_v rfl rfl hC (fun _ _ => ov_field rfl fo_impl_Node_1) ?_
    refine WM_v rfl rfl hC (fun _ ⟨_, hH⟩ => ov_load rfl one_sl_int (hH.cb 1 rfl 1)) ?_
    refine WM_v rfl rfl hC (fun _ _ => ov_move rfl) ?_
    refine WM_v rfl rfl hC (fun _ _ => ov_move rfl) ?_
    refine WM_e rfl ?_
    refine WL_call rfl rfl cf_p_spec_l6Rd_pick (pick_ok hH10 hB (by omega) i) ?_; rintro _ w12 ⟨r1, rfl, hr1, hH12⟩
    replace hC : Cl _ _ _ := Cl.one hH12 (i := 1) rfl
    refine WL_mix (fun _ => hC) ?_
    refine WM_e rfl ?_
    refine WL_bsI rfl hH12 rfl (run_bs_int _) ?_; rintro Y yv w13 hY hH13
    replace hC : Cl _ _ _ := Cl.one hH13 (i := 2) rfl
    refine WL_mix (fun _ => hC) ?_
    refine WM_e rfl ?_
    refine WL_appI (i := 4) (j := 0) rfl hH13 rfl rfl st_sl_int rfl hX rfl hY (by simp; omega) (by simp; omega) ?_; rintro X2 fv2 w14 hX2 hH14
    replace hC : Cl _ _ _ := Cl.one hH14 (i := 2) rfl
    refine WL_mix (fun _ => hC) ?_
    refine WM_v rfl rfl hC (fun _ _ => ov_field rfl fo_impl_Node_1) ?_
    refine WM_e rfl ?_
    refine WL_store hH14 rfl rfl (i := 2) (off := 1) rfl rfl (by simp) hX2.sl.one sz_sl_int ?_; rintro w15 hH15
    refine WL_mix (fun h => absurd rfl h) ?_
    refine WM_nil ?_
    refine WT_inBlock ?_
    refine WT_region ?_
    refine WL_v rfl (ov_move rfl) ?_
    refine WL_v rfl (ov_add rfl rfl (by omega)) ?_
    refine WL_v rfl (ov_assign rfl) ?_
    refine WL_nil ?_
    refine again (j + 1, fv2) _ _ (by simp only; omega) (by repeat (first | exact trivial | refine ⟨rfl, ?_⟩)) ⟨by simp only; omega, X2, _, p2 + 1, hX2, by simp [hfl], by simp only; omega, hH15.drop⟩
  first | with_reducible replace hc := of_decide_eq_false hc | with_reducible replace hc := bn_F hc | with_reducible replace hc := bb_F hc | skip
  refine WT_exit rfl ?_
  refine WT_seq ?_
  refine WT_region ?_
  refine WL_v rfl (ov_loadN [.int .i64 k, fv, rv] rfl agg_impl_Node rfl ((fun j v hj => by rw [show Addr.add ⟨gb, 0, none⟩ j = ⟨gb, j, none⟩ by simp [add_of]]; exact (hH10.cb 1 rfl j).trans (by simpa using hj)))) ?_
  refine WL_storeN hH10 rfl rfl (i := 4) rfl rfl rfl (ones_cons rfl (ones_cons hX.sl.one (ones_cons hR.sl.one ones_nil))) sz_impl_Node ?_; rintro w11 hH11
  refine WL_nil ?_
  have hl : (loadVar 58 ⟨ga, 0, none⟩).run Try.prog w11 = .ok (.agg [.int .i64 k, fv, rv].toArray) w11 :=
    run_loadVarN agg_impl_Node rfl fun j v hj => by rw [show Addr.add ⟨ga, 0, none⟩ j = ⟨ga, j, none⟩ by simp [add_of]]; exact (hH11.cb 4 rfl j).trans (by simpa using hj)
  exact WT_retC Try.func101 Try.results101 rfl hl ⟨⟨k, f, r⟩, X, R, p2, ⟨fv, rv, rfl, hX, hR⟩, by omega, (((hH11.del 4 rfl).del 1 rfl).pull 2 rfl).swap⟩
end
end Go.Proofs.Ytmcedghgincaaaa
