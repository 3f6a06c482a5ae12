/- Walks: nodes that do the same. -/
import Derived.Test.YtmcedghgincaaaaWkJJ
import Derived.Test.YtmcedghgincaaaaWkII
import Derived.Test.YtmcedghgincaaaaPlS
namespace Go.Proofs.Ytmcedghgincaaaa
open Go.RowKit

theorem ov_ta {P : Program} {env : Env} {w : World} {ty : TypeId} {x : Operand} {v r : Value} {t at' : TypeId} {b : Bool} (hx : ev env x = some v) (hr : ∀ W, (Instr.typeAssert v t at' b).run P W = .ok r W) : OpV P env w (.typeAssert x t at' b) ty r :=
  fun _ _ _ ρ hρ => by simp [execOp, hρ.1 x _ hx, hr]
theorem ta_nil (W : World) : (Instr.typeAssert .nilIface 133 137 true).run Try.prog W = .ok (.tuple #[.agg #[.nilFunc], .bool false]) W := by kernel_rfl
theorem ta_given (W : World) : (Instr.typeAssert (.iface 144 (.agg #[])) 133 137 true).run Try.prog W = .ok (.tuple #[.agg #[.nilFunc], .bool false]) W := by kernel_rfl
theorem ta_lone (f : Nat) (W : World) : (Instr.typeAssert (.iface 139 (.agg #[.func (.func f) #[] #[]])) 133 137 true).run Try.prog W = .ok (.tuple #[.agg #[.nilFunc], .bool false]) W := by kernel_rfl
theorem ta_pair (f : Nat) (W : World) : (Instr.typeAssert (.iface 137 (.agg #[.func (.func f) #[] #[]])) 133 137 true).run Try.prog W = .ok (.tuple #[.agg #[.func (.func f) #[] #[]], .bool true]) W := by kernel_rfl
theorem ta_work (k : Int) : ∃ z, Value.oneCell' z = true ∧ ∀ W, (Instr.typeAssert (workV k) 133 137 true).run Try.prog W = .ok (.tuple #[.agg [z].toArray, .bool (decide (k = 1 ∨ k = 2))]) W := by
  rcases kindCases k with rfl | rfl | rfl | rfl | rfl | rfl | hk
  · exact ⟨.nilFunc, rfl, ta_given⟩
  · exact ⟨_, rfl, ta_pair _⟩
  · exact ⟨_, rfl, ta_pair _⟩
  · exact ⟨.nilFunc, rfl, ta_lone _⟩
  · exact ⟨.nilFunc, rfl, ta_lone _⟩
  · exact ⟨.nilFunc, rfl, ta_lone _⟩
  · have : ¬ (0 ≤ k ∧ k ≤ 5) := by simpa [kindOk] using hk
    have hw : workV k = .nilIface := by
      unfold workV
      rw [if_neg (by omega), if_neg (by omega), if_neg (by omega), if_neg (by omega), if_neg (by omega), if_neg (by omega)]
    rw [hw, decide_eq_false (by omega)]
    exact ⟨.nilFunc, rfl, ta_nil⟩

section
variable {h : GH} {Ls : List Heaplet} {w : World}
theorem zero_pair (W : World) : (zeroValue 137).run Try.prog W = .ok (.agg #[.nilFunc]) W := by kernel_rfl
theorem kindSwaps_ok (hH : H w h Ls) (k : Int) : Rets Try.prog 118 #[.int .i64 k] w fun v w' => v = .bool (decide (k = 1 ∨ k = 2)) ∧ H w' h Ls := by
  obtain ⟨z, hz1, hz⟩ := ta_work k
  refine rets_enter Try.func118 rfl Try.ntmps118 (by simp) ?_
  refine WT_seq ?_
  refine WT_region ?_
  refine WL_v rfl (ov_assign rfl) ?_
  refine WL_nil ?_
  refine WT_seq ?_
  refine WT_region ?_
  refine WL_v rfl (ov_move rfl) ?_
  refine WL_call rfl rfl cf_impl_workOf (workOf_ok hH k) ?_; rintro _ w1 ⟨rfl, hH1⟩
  refine WL_v rfl (ov_ta rfl hz) ?_
  refine WL_v rfl (ov_move rfl) ?_
  refine WL_v rfl (ov_extract rfl rfl) ?_
  refine WL_v rfl (ov_extract rfl rfl) ?_
  refine WL_alloc #[.nilFunc] rfl hH1 zero_pair rfl ?_; rintro g w2 hH2
  refine WL_storeN hH2 rfl rfl (i := 0) rfl rfl rfl (ones_cons hz1 ones_nil) sz_impl_pairWork ?_; rintro w3 hH3
  refine WL_v rfl (ov_assign rfl) ?_
  refine WL_nil ?_
  refine WT_seq ?_
  refine WT_region ?_
  refine WL_v rfl (ov_move rfl) ?_
  refine WL_v rfl (ov_assign rfl) ?_
  refine WL_nil ?_
  exact WT_ret1 Try.func118 Try.results118 rfl ⟨rfl, hH3.drop⟩

theorem kindSwaps_yes (hH : H w h Ls) {k : Int} (hk : k = 1 ∨ k = 2) : Rets Try.prog 118 #[.int .i64 k] w fun v w' => v = .bool true ∧ H w' h Ls :=
  (kindSwaps_ok hH k).mono fun _ _ hh => ⟨by rw [hh.1, decide_eq_true hk], hh.2⟩
theorem kindSwaps_no (hH : H w h Ls) {k : Int} (hk : ¬ (k = 1 ∨ k = 2)) : Rets Try.prog 118 #[.int .i64 k] w fun v w' => v = .bool false ∧ H w' h Ls :=
  (kindSwaps_ok hH k).mono fun _ _ hh => ⟨by rw [hh.1, decide_eq_false hk], hh.2⟩
theorem zero_key (W : World) : (zeroValue 115).run Try.prog W = .ok (.agg #[.int .i64 0, .int .i64 0, .int .i64 0, .int .i64 0, .int .i64 0, .int .i64 0, .int .i64 0, .int .i64 0, .int .i64 0, .int .i64 0]) W := by kernel_rfl
theorem run_build_key (k n : Int) (W : World) : (Instr.build 115 #[(0, .int .i64 k), (1, .int .i64 (-1)), (2, .int .i64 (-1)), (3, .int .i64 n)]).run Try.prog W = .ok (.agg #[.int .i64 k, .int .i64 (-1), .int .i64 (-1), .int .i64 n, .int .i64 0, .int .i64 0, .int .i64 0, .int .i64 0, .int .i64 0, .int .i64 0]) W := by kernel_rfl
theorem pad_six (r : List Int) : ∃ a b c d e f, padRow r = [a, b, c, d, e, f] := by
  have h := padRow_len r
  match hp : padRow r, h with
  | [a, b, c, d, e, f], _ => exact ⟨a, b, c, d, e, f, rfl⟩
/-- A key in a box. -/
def keyBox (g : Nat) (k a b n : Int) (r : List Int) : Heaplet := [(g, .cells ((k :: a :: b :: n :: padRow r).map (Value.int .i64)).toArray 115 (0, 0))]

theorem shareKeyOf_ok (hH : H w h Ls) {k : Int} {fv rv sv : Value} {f r : List Int} {fs : List Int} (hF : RdL h Ls fv f) (hR : RdL h Ls rv r) (hS : RdL h Ls sv fs) (hrl : r.length ≤ 6) (hfb : ∀ x ∈ f, 0 ≤ x ∧ x < (fs.length : Int)) : Rets Try.prog 103 #[.agg [.int .i64 k, fv, rv].toArray, sv] w fun v w' => v = .agg ((keyL ⟨k, f, r⟩ fs).map (Value.int .i64)).toArray ∧ H w' h Ls := by
  refine rets_enter Try.func103 rfl Try.ntmps103 (by simp) ?_
  refine WT_seq ?_
  refine WT_region ?_
  refine WL_box _ rfl hH rfl rfl ?_; rintro b w1 hH1
  refine WL_alloc _ rfl hH1 zero_key rfl ?_; rintro g4 w2 hH2
  refine WL_nil ?_
  refine WT_seq ?_
  refine WT_region ?_
  refine WL_v rfl (ov_field rfl fo_impl_Node_0) ?_
  refine WL_v rfl (ov_load rfl one_int (hH2.cb 1 rfl 0)) ?_
  refine WL_v rfl (ov_field rfl fo_impl_Node_2) ?_
  refine WL_v rfl (ov_load rfl one_sl_int (hH2.cb 1 rfl 2)) ?_
  refine WL_v rfl (ov_len rfl hR.sl st_sl_int) ?_
  refine WL_v rfl (ov_build rfl (run_build_key _ _)) ?_
  refine WL_alloc _ rfl hH2 zero_key rfl ?_; rintro g5 w3 hH3
  refine WL_storeN hH3 rfl rfl (i := 0) rfl rfl rfl (ones_cons rfl (ones_cons rfl (ones_cons rfl (ones_cons rfl (ones_cons rfl (ones_cons rfl (ones_cons rfl (ones_cons rfl (ones_cons rfl (ones_cons rfl ones_nil)))))))))) sz_impl_shareKey ?_; rintro w4 hH4
  refine WL_nil ?_
  refine WT_seq ?_
  refine WT_mixO (i := 2) [(0, 0), (1, 0), (2, 0), (3, 0), (4, 2)] mixed (by kernel_rfl) hH4 rfl ?_
  clear hH4
  intro w5 hH4 hC
  refine WM_v rfl rfl hC (fun _ _ => ov_field rfl fo_impl_shareKey_4) ?_
  refine WM_v rfl rfl hC (fun _ _ => ov_sliceAll rfl arr_6int) ?_
  refine WM_v rfl rfl hC (fun _ _ => ov_field rfl fo_impl_Node_2) ?_
  refine WM_v rfl rfl hC (fun _ ⟨_, hH⟩ => ov_load rfl one_sl_int (hH.cb 1 rfl 2)) ?_
  refine WM_e rfl ?_
  refine WL_copyI (off := 4) rfl hH4 rfl rfl st_sl_int (i := 0) rfl hR.sl (fun hj => hR.cell hH4.drop.drop.drop hj) hrl (by simp; omega) ?_; rintro w5 hH5
  refine WL_mix (fun h => absurd rfl h) ?_
  refine WM_nil ?_
  refine WT_seq ?_
  refine WT_seq ?_
  refine WT_region ?_
  refine WL_v rfl (ov_field rfl fo_impl_Node_1) ?_
  replace hH5 : H w5 h (keyBox g5 k (-1) (-1) (r.length : Int) r :: [(g4, .cells #[.int .i64 0, .int .i64 0, .int .i64 0, .int .i64 0, .int .i64 0, .int .i64 0, .int .i64 0, .int .i64 0, .int .i64 0, .int .i64 0] 115 (0, 0))] :: [(b, .cells #[.int .i64 k, fv, rv] 58 (0, 0))] :: Ls) := by
    have hsp : (splice [.int .i64 k, .int .i64 (-1), .int .i64 (-1), .int .i64 (r.length : Int), .int .i64 0, .int .i64 0, .int .i64 0, .int .i64 0, .int .i64 0, .int .i64 0] 4 (r.map (Value.int .i64))) = (k :: -1 :: -1 :: (r.length : Int) :: padRow r).map (Value.int .i64) := by
      match r, hrl with
      | [], _ => rfl
      | [_], _ => rfl
      | [_, _], _ => rfl
      | [_, _, _], _ => rfl
      | [_, _, _, _], _ => rfl
      | [_, _, _, _, _], _ => rfl
      | [_, _, _, _, _, _], _ => rfl
    unfold keyBox
    rw [← hsp]
    exact hH5
  obtain ⟨p0, p1, p2, p3, p4, p5, hp⟩ := pad_six r
  unfold keyBox at hH5
  rw [hp] at hH5
  replace hH5 : H w5 h ([(g5, .cells #[.int .i64 k, .int .i64 (-1), .int .i64 (-1), .int .i64 (r.length : Int), .int .i64 p0, .int .i64 p1, .int .i64 p2, .int .i64 p3, .int .i64 p4, .int .i64 p5] 115 (0, 0))] :: [(g4, .cells #[.int .i64 0, .int .i64 0, .int .i64 0, .int .i64 0, .int .i64 0, .int .i64 0, .int .i64 0, .int .i64 0, .int .i64 0, .int .i64 0] 115 (0, 0))] :: [(b, .cells #[.int .i64 k, fv, rv] 58 (0, 0))] :: Ls) := hH5
  have hkey : keyL ⟨k, f, r⟩ fs = k :: (if swapB ⟨k, f, r⟩ fs = true then keyB ⟨k, f, r⟩ fs else keyA ⟨k, f, r⟩ fs) :: (if swapB ⟨k, f, r⟩ fs = true then keyA ⟨k, f, r⟩ fs else keyB ⟨k, f, r⟩ fs) :: (r.length : Int) :: [p0, p1, p2, p3, p4, p5] := by
    unfold keyL; rw [hp]
  refine WL_v rfl (ov_load rfl one_sl_int (hH5.cb 2 rfl 1)) ?_
  refine WL_v rfl (ov_len rfl hF.sl st_sl_int) ?_
  refine WL_v rfl (ov_gtr rfl rfl) ?_
  refine WL_nil ?_
  refine WT_join (ι := Int) (fun _ => [(1, sv), (2, ptr b), (4, ptr g4), (5, ptr g5)]) (fun A w => A = keyA ⟨k, f, r⟩ fs ∧ H w h ([(g5, .cells #[.int .i64 k, .int .i64 A, .int .i64 (-1), .int .i64 (r.length : Int), .int .i64 p0, .int .i64 p1, .int .i64 p2, .int .i64 p3, .int .i64 p4, .int .i64 p5] 115 (0, 0))] :: [(g4, .cells #[.int .i64 0, .int .i64 0, .int .i64 0, .int .i64 0, .int .i64 0, .int .i64 0, .int .i64 0, .int .i64 0, .int .i64 0, .int .i64 0] 115 (0, 0))] :: [(b, .cells #[.int .i64 k, fv, rv] 58 (0, 0))] :: Ls)) (fun joined => ?_) ?_
  · skip
    refine WT_cond rfl (fun h0 => ?_) (fun h0 => ?_)
    · skip
      first | with_reducible replace h0 := of_decide_eq_true h0 | with_reducible replace h0 := bn_T h0 | with_reducible replace h0 := bb_T h0 | skip
      obtain ⟨x, rr, hxf⟩ : ∃ x rr, f = x :: rr := by
        cases f with
        | nil => simp at h0
        | cons x rr => exact ⟨x, rr, rfl⟩
      have hxb := hfb x (by rw [hxf]; simp)
      obtain ⟨u, hu⟩ := Int.eq_ofNat_of_zero_le hxb.1
      have hul : u < fs.length := by omega
      have hfl : 0 < f.length := by omega
      have hg0 : f[0] = (u : Int) := by simp only [hxf]; exact hu
      refine WT_region ?_
      refine WL_v rfl (ov_move rfl) ?_
      refine WL_v rfl (ov_field rfl fo_impl_Node_1) ?_
      refine WL_v rfl (ov_load rfl one_sl_int (hH5.cb 2 rfl 1)) ?_
      refine WL_v rfl (ov_index (i := 0) rfl rfl st_sl_int hF.sl hfl) ?_
      refine WL_v rfl (ov_load rfl one_int (hF.cell hH5.drop.drop.drop hfl)) ?_; rw [hg0]
      refine WL_v rfl (ov_index rfl rfl st_sl_int hS.sl hul) ?_
      refine WL_v rfl (ov_load rfl one_int (hS.cell hH5.drop.drop.drop hul)) ?_
      refine WL_v rfl (ov_field rfl fo_impl_shareKey_1) ?_
      refine WL_store hH5 rfl rfl (i := 0) (off := 1) rfl rfl (by simp) rfl sz_int ?_; rintro w6 hH6
      refine WL_nil ?_
      exact joined fs[u] _ _ (by repeat (first | exact trivial | refine ⟨rfl, ?_⟩)) ⟨by rw [keyA_of (r := rr) hxf, hu, Int.toNat_natCast, getD_elem hul], hH6⟩
    first | with_reducible replace h0 := of_decide_eq_false h0 | with_reducible replace h0 := bn_F h0 | with_reducible replace h0 := bb_F h0 | skip
    have hf0 : f = [] := List.eq_nil_of_length_eq_zero (by omega)
    refine WT_skip ?_
    exact joined (-1) _ _ (by repeat (first | exact trivial | refine ⟨rfl, ?_⟩)) ⟨by unfold keyA; simp only [hf0], hH5⟩
  clear hH5
  rintro A w6 ⟨hA, hH6⟩
  refine WT_seq ?_
  refine WT_seq ?_
  refine WT_region ?_
  refine WL_v rfl (ov_field rfl fo_impl_Node_1) ?_
  refine WL_v rfl (ov_load rfl one_sl_int (hH6.cb 2 rfl 1)) ?_
  refine WL_v rfl (ov_len rfl hF.sl st_sl_int) ?_
  refine WL_v rfl (ov_gtr rfl rfl) ?_
  refine WL_nil ?_
  refine WT_join (ι := Int) (fun _ => [(1, sv), (2, ptr b), (4, ptr g4), (5, ptr g5)]) (fun B w => B = keyB ⟨k, f, r⟩ fs ∧ H w h ([(g5, .cells #[.int .i64 k, .int .i64 A, .int .i64 B, .int .i64 (r.length : Int), .int .i64 p0, .int .i64 p1, .int .i64 p2, .int .i64 p3, .int .i64 p4, .int .i64 p5] 115 (0, 0))] :: [(g4, .cells #[.int .i64 0, .int .i64 0, .int .i64 0, .int .i64 0, .int .i64 0, .int .i64 0, .int .i64 0, .int .i64 0, .int .i64 0, .int .i64 0] 115 (0, 0))] :: [(b, .cells #[.int .i64 k, fv, rv] 58 (0, 0))] :: Ls)) (fun joined => ?_) ?_
  · skip
    refine WT_cond rfl (fun h1 => ?_) (fun h1 => ?_)
    · skip
      first | with_reducible replace h1 := of_decide_eq_true h1 | with_reducible replace h1 := bn_T h1 | with_reducible replace h1 := bb_T h1 | skip
      obtain ⟨x, y, rr, hxf⟩ : ∃ x y rr, f = x :: y :: rr := by
        match f, h1 with
        | [], h1 => simp at h1
        | [_], h1 => simp at h1
        | x :: y :: rr, _ => exact ⟨x, y, rr, rfl⟩
      have hxb := hfb y (by rw [hxf]; simp)
      obtain ⟨u, hu⟩ := Int.eq_ofNat_of_zero_le hxb.1
      have hul : u < fs.length := by omega
      have hfl : 1 < f.length := by omega
      have hg0 : f[1] = (u : Int) := by simp only [hxf]; exact hu
      refine WT_region ?_
      refine WL_v rfl (ov_move rfl) ?_
      refine WL_v rfl (ov_field rfl fo_impl_Node_1) ?_
      refine WL_v rfl (ov_load rfl one_sl_int (hH6.cb 2 rfl 1)) ?_
      refine WL_v rfl (ov_index (i := 1) rfl rfl st_sl_int hF.sl hfl) ?_
      refine WL_v rfl (ov_load rfl one_int (hF.cell hH6.drop.drop.drop hfl)) ?_; rw [hg0]
      refine WL_v rfl (ov_index rfl rfl st_sl_int hS.sl hul) ?_
      refine WL_v rfl (ov_load rfl one_int (hS.cell hH6.drop.drop.drop hul)) ?_
      refine WL_v rfl (ov_field rfl fo_impl_shareKey_2) ?_
      refine WL_store hH6 rfl rfl (i := 0) (off := 2) rfl rfl (by simp) rfl sz_int ?_; rintro w7 hH7
      refine WL_nil ?_
      exact joined fs[u] _ _ (by repeat (first | exact trivial | refine ⟨rfl, ?_⟩)) ⟨by rw [keyB_two (r := rr) hxf, hu, Int.toNat_natCast, getD_elem hul], hH7⟩
    first | with_reducible replace h1 := of_decide_eq_false h1 | with_reducible replace h1 := bn_F h1 | with_reducible replace h1 := bb_F h1 | skip
    refine WT_skip ?_
    exact joined (-1) _ _ (by repeat (first | exact trivial | refine ⟨rfl, ?_⟩)) ⟨by
      unfold keyB
      match f, h1 with
      | [], _ => rfl
      | [_], _ => rfl
      | _ :: _ :: _, h1 => exact absurd (by simp only [List.length_cons]; omega) h1, hH6⟩
  clear hH6
  rintro B w7 ⟨hB, hH7⟩
  have hsw : swapB ⟨k, f, r⟩ fs = decide ((k = 1 ∨ k = 2) ∧ B < A) := by unfold swapB; rw [← hA, ← hB]
  rw [← hA, ← hB, hsw] at hkey
  by_cases hk : k = 1 ∨ k = 2
  case neg =>
    have hd : decide ((k = 1 ∨ k = 2) ∧ B < A) = false := decide_eq_false fun hh => hk hh.1
    rw [hd] at hkey
    refine WT_seq ?_
    refine WT_seq ?_
    refine WT_region ?_
    refine WL_v rfl (ov_field rfl fo_impl_Node_0) ?_
    refine WL_v rfl (ov_load rfl one_int (hH7.cb 2 rfl 0)) ?_
    refine WL_call rfl rfl cf_impl_KindSwaps (kindSwaps_no hH7 hk) ?_; rintro _ w8 ⟨rfl, hH8⟩
    refine WL_v rfl (ov_move rfl) ?_
    refine WL_guardOff rfl rfl rfl rfl ?_
    refine WL_guardOff rfl rfl rfl rfl ?_
    refine WL_guardOff rfl rfl rfl rfl ?_
    refine WL_guardOff rfl rfl rfl rfl ?_
    refine WL_guardOff rfl rfl rfl rfl ?_
    refine WL_v rfl (ov_pickF rfl rfl) ?_
    refine WL_nil ?_
    refine WT_condF rfl ?_
    refine WT_skip ?_
    refine WT_seq ?_
    refine WT_region ?_
    refine WL_v rfl (ov_loadN [.int .i64 k, .int .i64 A, .int .i64 B, .int .i64 (r.length : Int), .int .i64 p0, .int .i64 p1, .int .i64 p2, .int .i64 p3, .int .i64 p4, .int .i64 p5] rfl agg_impl_shareKey rfl ((fun j v hj => by rw [show Addr.add ⟨g5, 0, none⟩ j = ⟨g5, j, none⟩ by simp [add_of]]; exact (hH8.cb 0 rfl j).trans (by simpa using hj)))) ?_
    refine WL_storeN hH8 rfl rfl (i := 1) rfl rfl rfl (ones_cons rfl (ones_cons rfl (ones_cons rfl (ones_cons rfl (ones_cons rfl (ones_cons rfl (ones_cons rfl (ones_cons rfl (ones_cons rfl (ones_cons rfl ones_nil)))))))))) sz_impl_shareKey ?_; rintro wz hHz
    refine WL_nil ?_
    have hl : (loadVar 115 ⟨g4, 0, none⟩).run Try.prog wz = .ok (.agg [.int .i64 k, .int .i64 A, .int .i64 B, .int .i64 (r.length : Int), .int .i64 p0, .int .i64 p1, .int .i64 p2, .int .i64 p3, .int .i64 p4, .int .i64 p5].toArray) wz :=
      run_loadVarN agg_impl_shareKey rfl fun j v hj => by rw [show Addr.add ⟨g4, 0, none⟩ j = ⟨g4, j, none⟩ by simp [add_of]]; exact (hHz.cb 1 rfl j).trans (by simpa using hj)
    exact WT_retC Try.func103 Try.results103 rfl hl ⟨by rw [hkey]; rfl, hHz.drop.drop.drop⟩
  refine WT_seq ?_
  refine WT_seq ?_
  refine WT_region ?_
  refine WL_v rfl (ov_field rfl fo_impl_Node_0) ?_
  refine WL_v rfl (ov_load rfl one_int (hH7.cb 2 rfl 0)) ?_
  refine WL_call rfl rfl cf_impl_KindSwaps (kindSwaps_yes hH7 hk) ?_; rintro _ w8 ⟨rfl, hH8⟩
  refine WL_v rfl (ov_move rfl) ?_
  refine WL_guardOn rfl rfl ?_
  refine WL_v rfl (ov_field rfl fo_impl_shareKey_1) ?_
  refine WL_guardOn rfl rfl ?_
  refine WL_v rfl (ov_load rfl one_int (hH8.cb 0 rfl 1)) ?_
  refine WL_guardOn rfl rfl ?_
  refine WL_v rfl (ov_field rfl fo_impl_shareKey_2) ?_
  refine WL_guardOn rfl rfl ?_
  refine WL_v rfl (ov_load rfl one_int (hH8.cb 0 rfl 2)) ?_
  refine WL_guardOn rfl rfl ?_
  refine WL_v rfl (ov_gtr rfl rfl) ?_
  refine WL_v rfl (ov_pickT rfl rfl) ?_
  refine WL_nil ?_
  refine WT_cond rfl (fun hlt => ?_) (fun hlt => ?_)
  · skip
    first | with_reducible replace hlt := of_decide_eq_true hlt | with_reducible replace hlt := bn_T hlt | with_reducible replace hlt := bb_T hlt | skip
    have hd : decide ((k = 1 ∨ k = 2) ∧ B < A) = true := decide_eq_true ⟨hk, hlt⟩
    rw [hd] at hkey
    refine WT_region ?_
    refine WL_v rfl (ov_field rfl fo_impl_shareKey_2) ?_
    refine WL_v rfl (ov_load rfl one_int (hH8.cb 0 rfl 2)) ?_
    refine WL_v rfl (ov_field rfl fo_impl_shareKey_1) ?_
    refine WL_v rfl (ov_load rfl one_int (hH8.cb 0 rfl 1)) ?_
    refine WL_v rfl (ov_field rfl fo_impl_shareKey_1) ?_
    refine WL_store hH8 rfl rfl (i := 0) (off := 1) rfl rfl (by simp) rfl sz_int ?_; rintro w9 hH9
    refine WL_v rfl (ov_field rfl fo_impl_shareKey_2) ?_
    refine WL_store hH9 rfl rfl (i := 0) (off := 2) rfl rfl (by simp) rfl sz_int ?_; rintro w10 hH10
    refine WL_nil ?_
    refine WT_seq ?_
    refine WT_region ?_
    refine WL_v rfl (ov_loadN [.int .i64 k, .int .i64 B, .int .i64 A, .int .i64 (r.length : Int), .int .i64 p0, .int .i64 p1, .int .i64 p2, .int .i64 p3, .int .i64 p4, .int .i64 p5] rfl agg_impl_shareKey rfl ((fun j v hj => by rw [show Addr.add ⟨g5, 0, none⟩ j = ⟨g5, j, none⟩ by simp [add_of]]; exact (hH10.cb 0 rfl j).trans (by simpa using hj)))) ?_
    refine WL_storeN hH10 rfl rfl (i := 1) rfl rfl rfl (ones_cons rfl (ones_cons rfl (ones_cons rfl (ones_cons rfl (ones_cons rfl (ones_cons rfl (ones_cons rfl (ones_cons rfl (ones_cons rfl (ones_cons rfl ones_nil)))))))))) sz_impl_shareKey ?_; rintro wz hHz
    refine WL_nil ?_
    have hl : (loadVar 115 ⟨g4, 0, none⟩).run Try.prog wz = .ok (.agg [.int .i64 k, .int .i64 B, .int .i64 A, .int .i64 (r.length : Int), .int .i64 p0, .int .i64 p1, .int .i64 p2, .int .i64 p3, .int .i64 p4, .int .i64 p5].toArray) wz :=
      run_loadVarN agg_impl_shareKey rfl fun j v hj => by rw [show Addr.add ⟨g4, 0, none⟩ j = ⟨g4, j, none⟩ by simp [add_of]]; exact (hHz.cb 1 rfl j).trans (by simpa using hj)
    exact WT_retC Try.func103 Try.results103 rfl hl ⟨by rw [hkey]; rfl, hHz.drop.drop.drop⟩
  first | with_reducible replace hlt := of_decide_eq_false hlt | with_reducible replace hlt := bn_F hlt | with_reducible replace hlt := bb_F hlt | skip
  have hd : decide ((k = 1 ∨ k = 2) ∧ B < A) = false := decide_eq_false fun hh => hlt hh.2
  rw [hd] at hkey
  refine WT_skip ?_
  refine WT_seq ?_
  refine WT_region ?_
  refine WL_v rfl (ov_loadN [.int .i64 k, .int .i64 A, .int .i64 B, .int .i64 (r.length : Int), .int .i64 p0, .int .i64 p1, .int .i64 p2, .int .i64 p3, .int .i64 p4, .int .i64 p5] rfl agg_impl_shareKey rfl ((fun j v hj => by rw [show Addr.add ⟨g5, 0, none⟩ j = ⟨g5, j, none⟩ by simp [add_of]]; exact (hH8.cb 0 rfl j).trans (by simpa using hj)))) ?_
  refine WL_storeN hH8 rfl rfl (i := 1) rfl rfl rfl (ones_cons rfl (ones_cons rfl (ones_cons rfl (ones_cons rfl (ones_cons rfl (ones_cons rfl (ones_cons rfl (ones_cons rfl (ones_cons rfl (ones_cons rfl ones_nil)))))))))) sz_impl_shareKey ?_; rintro wz hHz
  refine WL_nil ?_
  have hl : (loadVar 115 ⟨g4, 0, none⟩).run Try.prog wz = .ok (.agg [.int .i64 k, .int .i64 A, .int .i64 B, .int .i64 (r.length : Int), .int .i64 p0, .int .i64 p1, .int .i64 p2, .int .i64 p3, .int .i64 p4, .int .i64 p5].toArray) wz :=
    run_loadVarN agg_impl_shareKey rfl fun j v hj => by rw [show Addr.add ⟨g4, 0, none⟩ j = ⟨g4, j, none⟩ by simp [add_of]]; exact (hHz.cb 1 rfl j).trans (by simpa using hj)
  exact WT_retC Try.func103 Try.results103 rfl hl ⟨by rw [hkey]; rfl, hHz.drop.drop.drop⟩
end
end Go.Proofs.Ytmcedghgincaaaa
