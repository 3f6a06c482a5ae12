/- Walks: the draw of a plan. -/
import Derived.Test.YtmcedghgincaaaaWkN
namespace Go.Proofs.Ytmcedghgincaaaa
open Go.RowKit

section
variable {h : GH} {Ls : List Heaplet} {w : World}

theorem OAt.new {Is : List Heaplet} {xs : List Value} {x : Nd} {fv rv : Value} {F R : Heaplet} {k : Nat} (hF : IRow F 3 fv x.frm) (hR : IRow R 3 rv x.row) (hil : Is.length = 2 * k) (hxl : xs.length = k * 3) : OAt (Is ++ [F, R]) (xs ++ [.int .i64 x.kind, fv, rv]) k x := by
  refine ⟨fv, rv, F, R, fun j u hj => ?_, ?_, ?_, hF, hR⟩
  · rw [List.getElem?_append_right (by omega), hxl, show k * 3 + j - k * 3 = j by omega]; exact hj
  · rw [List.getElem?_append_right (by omega), hil]; simp
  · rw [List.getElem?_append_right (by omega), hil, show 2 * k + 1 - 2 * k = 1 by omega]; rfl

/-- A plan of one's own with one node more. -/
theorem OPlan.snoc {O' : Heaplet} {Is : List Heaplet} {v' : Value} {p : List Nd} {xs : List Value} {x : Nd} {fv rv : Value} {F R : Heaplet} (hil : Is.length = 2 * p.length) (hxl : xs.length = p.length * 3) (hat : ∀ i (hi : i < p.length), OAt Is xs i p[i])
    (hO : Row O' 58 3 v' (p.length + 1) (xs ++ [.int .i64 x.kind, fv, rv])) (hF : IRow F 3 fv x.frm) (hR : IRow R 3 rv x.row) : OPlan O' (Is ++ [F, R]) v' (p ++ [x]) := by
  refine ⟨by simp [hil]; omega, _, by simpa using hO, fun i hi => ?_⟩
  rw [List.getElem_append]
  split
  · rename_i h1
    exact (hat i h1).mono fun j hj => by rw [List.getElem?_append_left (by rw [hxl]; omega)]
  · rename_i h1
    have : i = p.length := by simp at hi; omega
    subst this
    simpa using OAt.new hF hR hil hxl

theorem OAt.ofSet {Is : List Heaplet} {xs : List Value} {x : Nd} {fv rv : Value} {F R : Heaplet} {k : Nat} (hF : IRow F 3 fv x.frm) (hR : IRow R 3 rv x.row) (hil : 2 * k + 1 < Is.length) (hxl : k * 3 + 3 ≤ xs.length) : OAt ((Is.set (2 * k) F).set (2 * k + 1) R) (splice xs (k * 3) [.int .i64 x.kind, fv, rv]) k x := by
  refine ⟨fv, rv, F, R, fun j u hj => ?_, ?_, ?_, hF, hR⟩
  · have : j < 3 := (List.getElem?_eq_some_iff.1 hj).1
    rw [splice_get (by simpa using hxl), if_neg (by omega), if_pos (by simp only [List.length_cons, List.length_nil]; omega), show k * 3 + j - k * 3 = j by omega]
    exact hj
  · rw [List.getElem?_set, if_neg (by omega), List.getElem?_set, if_pos rfl, if_pos (by omega)]
  · rw [List.getElem?_set, if_pos rfl, if_pos (by simp; omega)]
/-- A node of a plan of one's own is replaced. -/
theorem OPlan.set {O' : Heaplet} {Is : List Heaplet} {v : Value} {p : List Nd} {xs : List Value} {x : Nd} {fv rv : Value} {F R : Heaplet} {k : Nat} (hk : k < p.length) (hil : Is.length = 2 * p.length) (hxl : xs.length = p.length * 3) (hat : ∀ i (hi : i < p.length), OAt Is xs i p[i])
    (hO : Row O' 58 3 v p.length (splice xs (k * 3) [.int .i64 x.kind, fv, rv])) (hF : IRow F 3 fv x.frm) (hR : IRow R 3 rv x.row) : OPlan O' ((Is.set (2 * k) F).set (2 * k + 1) R) v (p.set k x) := by
  refine ⟨by simp [hil], _, by simpa using hO, fun i hi => ?_⟩
  have hi' : i < p.length := by simpa using hi
  rw [List.getElem_set]
  split
  · rename_i h1
    subst h1
    exact OAt.ofSet hF hR (by omega) (by omega)
  · rename_i h1
    obtain ⟨fv', rv', F', R', g1, g2, g3, g4, g5⟩ := hat i hi'
    refine ⟨fv', rv', F', R', fun j u hj => ?_, ?_, ?_, g4, g5⟩
    · have : j < 3 := (List.getElem?_eq_some_iff.1 hj).1
      rw [splice_get (by simp only [List.length_cons, List.length_nil]; omega)]
      simp only [List.length_cons, List.length_nil]
      rcases Nat.lt_or_ge i k with h2 | h2
      · rw [if_pos (by omega)]; exact g1 j u hj
      · rw [if_neg (by omega), if_neg (by omega)]; exact g1 j u hj
    · rw [List.getElem?_set, if_neg (by omega), List.getElem?_set, if_neg (by omega)]; exact g2
    · rw [List.getElem?_set, if_neg (by omega), List.getElem?_set, if_neg (by omega)]; exact g3

theorem run_bs_node' (k : Int) (a b : Option Addr) (n c m d : Nat) (W : World) : (Instr.buildSlice 23 1 #[(0, .agg #[.int .i64 k, .slice a n c, .slice b m d])]).run Try.prog W = .ok (.slice (some ⟨W.heap.size, 0, none⟩) 1 1) (W.alloc (.cells [.int .i64 k, .slice a n c, .slice b m d].toArray 58)) := by kernel_rfl
theorem run_bs_node {k : Int} {u v : Value} {n m : Nat} (hu : Sl u n) (hv : Sl v m) (W : World) : (Instr.buildSlice 23 1 #[(0, .agg [.int .i64 k, u, v].toArray)]).run Try.prog W = .ok (.slice (some ⟨W.heap.size, 0, none⟩) 1 1) (W.alloc (.cells [.int .i64 k, u, v].toArray 58)) := by
  obtain ⟨_, _, rfl, _⟩ := hu.form
  obtain ⟨_, _, rfl, _⟩ := hv.form
  exact run_bs_node' k _ _ _ _ _ _ W
theorem run_bs_node0 (W : World) : (Instr.buildSlice 23 0 #[]).run Try.prog W = .ok (.slice (some ⟨W.heap.size, 0, none⟩) 0 0) (W.alloc (.cells ([] : List Value).toArray 58)) := by kernel_rfl
theorem run_build_from' (k : Int) (a : Option Addr) (n c : Nat) (W : World) : (Instr.build 58 #[(0, .int .i64 k), (1, .slice a n c)]).run Try.prog W = .ok (.agg [.int .i64 k, .slice a n c, .slice none 0 0].toArray) W := by kernel_rfl
theorem run_build_from {k : Int} {u : Value} {n : Nat} (hu : Sl u n) (W : World) : (Instr.build 58 #[(0, .int .i64 k), (1, u)]).run Try.prog W = .ok (.agg [.int .i64 k, u, .slice none 0 0].toArray) W := by
  obtain ⟨_, _, rfl, _⟩ := hu.form
  exact run_build_from' k _ _ _ W
theorem run_build_row' (k : Int) (a : Option Addr) (n c : Nat) (W : World) : (Instr.build 58 #[(0, .int .i64 k), (2, .slice a n c)]).run Try.prog W = .ok (.agg [.int .i64 k, .slice none 0 0, .slice a n c].toArray) W := by kernel_rfl
theorem run_build_row {k : Int} {u : Value} {n : Nat} (hu : Sl u n) (W : World) : (Instr.build 58 #[(0, .int .i64 k), (2, u)]).run Try.prog W = .ok (.agg [.int .i64 k, .slice none 0 0, u].toArray) W := by
  obtain ⟨_, _, rfl, _⟩ := hu.form
  exact run_build_row' k _ _ _ W

theorem H.addFR {A F R O : Heaplet} {Is : List Heaplet} (hH : H w h (A :: F :: R :: O :: (Is ++ Ls))) : H w h (A :: O :: ((Is ++ [F, R]) ++ Ls)) := by
  refine hH.perm (.cons _ ?_)
  have h2 : (F :: R :: O :: (Is ++ Ls)).Perm (O :: ([F, R] ++ (Is ++ Ls))) := by
    have : ([F, R] ++ O :: (Is ++ Ls)).Perm (O :: ([F, R] ++ (Is ++ Ls))) := List.perm_middle
    simpa using this
  have h3 : ([F, R] ++ (Is ++ Ls)).Perm ((Is ++ [F, R]) ++ Ls) := by
    rw [← List.append_assoc]
    exact List.perm_append_comm.append_right Ls
  exact h2.trans (.cons _ h3)
/-- Two lists take the places of two others. -/
theorem H.setFR {A F R O : Heaplet} {Is : List Heaplet} {k : Nat} (hH : H w h (F :: R :: A :: O :: (Is ++ Ls))) (hk : 2 * k + 1 < Is.length) : H w h (A :: O :: (((Is.set (2 * k) F).set (2 * k + 1) R) ++ Ls)) := by
  have h1 := hH.inPlace (2 * k + 3) (Y := Is[2 * k]) (by
    rw [show 2 * k + 3 = (2 * k) + 1 + 1 + 1 by omega]
    simp only [List.getElem?_cons_succ]
    rw [List.getElem?_append_left (by omega), List.getElem?_eq_getElem])
  rw [show 2 * k + 3 = (2 * k) + 1 + 1 + 1 by omega] at h1
  simp only [List.set_cons_succ] at h1
  rw [List.set_append_left _ _ (by omega)] at h1
  have h2 := h1.inPlace (2 * k + 3) (Y := Is[2 * k + 1]) (by
    rw [show 2 * k + 3 = (2 * k + 1) + 1 + 1 by omega]
    simp only [List.getElem?_cons_succ]
    rw [List.getElem?_append_left (by simp; omega), List.getElem?_set, if_neg (by omega), List.getElem?_eq_getElem])
  rw [show 2 * k + 3 = (2 * k + 1) + 1 + 1 by omega] at h2
  simp only [List.set_cons_succ] at h2
  rwa [List.set_append_left _ _ (by simp; omega)] at h2

theorem l91Plan_ok {g : Nat} {bv : Value} {p0 : Nat} {bs : List Int} (hH : H w h (rdr g bv p0 :: Ls)) (hB : Bytes h bv bs) (hp : p0 ≤ 100000) :
    Rets Try.prog 61 #[.pointer (some ⟨g, 0, none⟩)] w fun v w' => ∃ p O Is p', OPlan O Is v p ∧ p.length ≤ 11 ∧ p' ≤ p0 + 4000 ∧ H w' h (rdr g bv p' :: O :: (Is ++ Ls)) := by
  refine rets_enter Try.func61 rfl Try.ntmps61 (by simp) ?_
  refine WT_seq ?_
  refine WT_region ?_
  refine WL_v rfl (ov_assign rfl) ?_
  refine WL_nil ?_
  refine WT_seq ?_
  refine WT_region ?_
  refine WL_buildSlice (sz := 3) (parts := []) (vs := []) [] rfl hH rfl run_bs_node0 rfl (by omega) ?_; rintro O0 ov0 w1 hO0 hH1
  refine WL_v rfl (ov_assign rfl) ?_
  refine WL_nil ?_
  refine WT_seq ?_
  refine WT_region ?_
  refine WL_v rfl (ov_move rfl) ?_
  refine WL_call rfl rfl cf_p_spec_l6Rd_pick (pick_ok (hH1.pull 1 rfl) hB (by omega) 4) ?_; rintro _ w2 ⟨wd, rfl, hwd, hH2⟩
  refine WL_v rfl (ov_assign rfl) ?_
  refine WL_nil ?_
  refine WT_seq ?_
  refine WT_region ?_
  refine WL_v rfl (ov_move rfl) ?_
  refine WL_call rfl rfl cf_p_spec_l6Rd_pick (pick_ok hH2 hB (by omega) 8) ?_; rintro _ w3 ⟨r1, rfl, hr1, hH3⟩
  refine WL_v rfl (ov_add rfl rfl (by have := hr1.1 (by omega); omega)) ?_
  refine WL_v rfl (ov_assign rfl) ?_
  refine WL_nil ?_
  refine WT_seq ?_
  refine WT_seq ?_
  refine WT_region ?_
  refine WL_v rfl (ov_move rfl) ?_
  refine WL_call rfl rfl cf_p_spec_l6Rd_pick (pick_ok hH3 hB (by omega) 16) ?_; rintro _ w4 ⟨r2, rfl, hr2, hH4⟩
  refine WL_v rfl (ov_eql rfl rfl) ?_
  refine WL_nil ?_
  have hwd4 := hwd.1 (by omega)
  have hr18 := hr1.1 (by omega)
  refine WT_join (ι := Nat) (fun n => [(0, .pointer (some ⟨g, 0, none⟩)), (3, ov0), (4, .int .i64 (wd : Int)), (5, .int .i64 (n : Int))]) (fun n w => n ≤ 11 ∧ ∃ p', p' ≤ p0 + 10 ∧ H w h (rdr g bv p' :: O0 :: Ls)) (fun joined => ?_) ?_
  · skip
    refine WT_cond rfl (fun h0 => ?_) (fun h0 => ?_)
    · skip
      first | with_reducible replace h0 := of_decide_eq_true h0 | with_reducible replace h0 := bn_T h0 | with_reducible replace h0 := bb_T h0 | skip
      refine WT_region ?_
      refine WL_bsIN [0, 10, 11] rfl hH4 rfl (run_bs_int3 _ _ _) rfl (by omega) ?_; rintro Y yv w5 hY hH5
      refine WL_v rfl (ov_move rfl) ?_
      refine WL_call rfl rfl cf_p_spec_l6Rd_pick (pick_ok (hH5.pull 1 rfl) hB (by omega) 3) ?_; rintro _ w6 ⟨r3, rfl, hr3, hH6⟩
      have hr33 := hr3.1 (by omega)
      obtain ⟨m, hm, hm2⟩ : ∃ m : Nat, m ≤ 11 ∧ ([0, 10, 11] : List Int)[r3]'(by simp only [List.length_cons, List.length_nil]; omega) = (m : Int) := pick_of (P := fun a => ∃ m : Nat, m ≤ 11 ∧ a = (m : Int)) (by simp only [List.length_cons, List.length_nil]; omega) (by
        intro a ha
        simp only [List.mem_cons, List.not_mem_nil, or_false] at ha
        rcases ha with rfl | rfl | rfl
        · exact ⟨0, by omega, rfl⟩
        · exact ⟨10, by omega, rfl⟩
        · exact ⟨11, by omega, rfl⟩)
      refine WL_v rfl (ov_index rfl rfl st_sl_int hY.sl (by simp only [List.length_cons, List.length_nil]; omega)) ?_
      refine WL_v rfl (ov_load rfl one_int (hY.cell hH6 (i := 1) rfl (by simp only [List.length_cons, List.length_nil]; omega))) ?_; rw [hm2]
      refine WL_v rfl (ov_assign rfl) ?_
      refine WL_nil ?_
      exact joined m _ _ (by repeat (first | exact trivial | refine ⟨rfl, ?_⟩)) ⟨hm, _, by omega, hH6.del 1 rfl⟩
    first | with_reducible replace h0 := of_decide_eq_false h0 | with_reducible replace h0 := bn_F h0 | with_reducible replace h0 := bb_F h0 | skip
    refine WT_skip ?_
    exact joined (1 + r1) _ _ ⟨rfl, rfl, rfl, by rw [show ((1 + r1 : Nat) : Int) = 1 + (r1 : Int) by omega]; rfl, trivial⟩ ⟨by omega, _, by omega, hH4⟩
  clear hH hH1 hH2 hH3 hH4
  rintro n w5 ⟨hn, p1, hp1, hH5⟩
  refine WT_seq ?_
  refine WT_seq ?_
  refine WT_region ?_
  refine WL_v rfl (ov_assign rfl) ?_
  refine WL_nil ?_
  refine WT_block ?_
  refine WT_while (fun s : Nat × Value => [(0, .pointer (some ⟨g, 0, none⟩)), (3, s.2), (4, .int .i64 (wd : Int)), (5, .int .i64 (n : Int)), (6, .int .i64 (s.1 : Int))]) (fun s w => s.1 ≤ n ∧ ∃ p O Is p', OPlan O Is s.2 p ∧ p.length = s.1 ∧ p' ≤ p0 + 10 + 200 * s.1 ∧ H w h (rdr g bv p' :: O :: (Is ++ Ls))) (fun s => n - s.1) (0, ov0) (by repeat (first | exact trivial | refine ⟨rfl, ?_⟩)) ⟨by omega, [], O0, [], p1, ⟨rfl, [], hO0, by simp⟩, rfl, by simp only; omega, hH5⟩ ?_
  clear hH5 hO0
  rintro ⟨k, ov⟩ w6 ⟨hk, p, O, Is, p2, hO, hpl, hp2, hH6⟩ again
  simp only at hk hpl hp2 hO
  refine WT_seq ?_
  refine WT_seq ?_
  refine WT_region ?_
  refine WL_v rfl (ov_move rfl) ?_
  refine WL_v rfl (ov_move rfl) ?_
  refine WL_v rfl (ov_lss rfl rfl) ?_
  refine WL_nil ?_
  refine WT_cond rfl (fun hc => ?_) (fun hc => ?_)
  · skip
    first | with_reducible replace hc := of_decide_eq_true hc | with_reducible replace hc := bn_T hc | with_reducible replace hc := bb_T hc | skip
    simp only at hc
    have hkn : k < n := by omega
    obtain ⟨hil, xs, hR3, hat⟩ := hO
    refine WT_skip ?_
    refine WT_seq ?_
    refine WT_block ?_
    refine WT_region ?_
    refine WL_v rfl (ov_move rfl) ?_
    refine WL_v rfl (ov_move rfl) ?_
    refine WL_v rfl (ov_move rfl) ?_
    refine WL_v rfl (ov_move rfl) ?_
    refine WL_call rfl rfl cf_spec_l91Node (l91Node_ok hH6 hB (by omega) k wd (by omega)) ?_; rintro _ w7 ⟨x, F, R, p3, ⟨fv, rv, rfl, hF, hR⟩, hp3, hH7⟩
    refine WL_buildSlice (sz := 3) [.int .i64 x.kind, fv, rv] rfl hH7 rfl (run_bs_node hF.sl hR.sl) rfl (by omega) ?_; rintro Y yv w8 hY hH8
    refine WL_append1 (i := 4) (j := 0) (n := p.length) (m := 1) rfl hH8 rfl rfl st_sl_impl_Node (by omega) rfl hR3 rfl hY (ones_cons rfl (ones_cons hF.sl.one (ones_cons hR.sl.one ones_nil))) (by omega) (by omega) ?_; rintro O2 ov2 w9 hO2 hH9
    refine WL_v rfl (ov_assign rfl) ?_
    refine WL_nil ?_
    refine WT_inBlock ?_
    refine WT_region ?_
    refine WL_v rfl (ov_move rfl) ?_
    refine WL_v rfl (ov_add rfl rfl (by omega)) ?_
    refine WL_v rfl (ov_assign rfl) ?_
    refine WL_nil ?_
    refine again (k + 1, ov2) _ _ (by simp only; omega) (by repeat (first | exact trivial | refine ⟨rfl, ?_⟩)) ⟨by simp only; omega, p ++ [x], O2, Is ++ [F, R], p3, OPlan.snoc hil hR3.len hat hO2 hF hR, by simp [hpl], by simp only; omega, H.addFR hH9.drop⟩
  first | with_reducible replace hc := of_decide_eq_false hc | with_reducible replace hc := bn_F hc | with_reducible replace hc := bb_F hc | skip
  simp only at hc
  obtain rfl : k = n := by omega
  refine WT_exit rfl ?_
  refine WT_seq ?_
  refine WT_seq ?_
  refine WT_region ?_
  refine WL_v rfl (ov_move rfl) ?_
  refine WL_v rfl (ov_gtr rfl rfl) ?_
  refine WL_nil ?_
  refine WT_cond rfl (fun hn1 => ?_) (fun hn1 => ?_)
  · skip
    first | with_reducible replace hn1 := of_decide_eq_true hn1 | with_reducible replace hn1 := bn_T hn1 | with_reducible replace hn1 := bb_T hn1 | skip
    obtain ⟨hil, xs, hR3, hat⟩ := hO
    have hxl := hR3.len
    have ho1 : ∀ {a b c : Value}, (k - 1) * 3 + [a, b, c].length ≤ xs.length := by intro a b c; simp only [List.length_cons, List.length_nil]; omega
    have hkm : ((k - 1 : Nat) : Int) = (k : Int) - 1 := by omega
    refine WT_seq ?_
    refine WT_region ?_
    refine WL_v rfl (ov_move rfl) ?_
    refine WL_call rfl rfl cf_p_spec_l6Rd_pick (pick_ok hH6 hB (by omega) 40) ?_; rintro _ w7 ⟨r3, rfl, hr3, hH7⟩
    refine WL_nil ?_
    refine WT_block ?_
    refine WT_seq ?_
    refine WT_region ?_
    refine WL_v rfl (ov_eql rfl rfl) ?_
    refine WL_v rfl (ov_assign rfl) ?_
    refine WL_nil ?_
    refine WT_cond rfl (fun h0 => ?_) (fun h0 => ?_)
    · skip
      first | with_reducible replace h0 := of_decide_eq_true h0 | with_reducible replace h0 := bn_T h0 | with_reducible replace h0 := bb_T h0 | skip
      refine WT_region ?_
      refine WL_v rfl (ov_move rfl) ?_
      refine WL_v rfl (ov_move rfl) ?_
      refine WL_v rfl (ov_as (ov_sub rfl rfl (by omega)) (congrArg (Value.int .i64) (hkm.symm))) ?_
      refine WL_v rfl (ov_move rfl) ?_
      refine WL_v rfl (ov_as (ov_sub rfl rfl (by omega)) (congrArg (Value.int .i64) (hkm.symm))) ?_
      refine WL_bsI rfl hH7 rfl (run_bs_int _) ?_; rintro F fv w8 hF hH8
      refine WL_v rfl (ov_build rfl (run_build_from hF.sl)) ?_
      refine WL_v rfl (ov_index rfl rfl st_sl_impl_Node hR3.sl (i := k - 1) (by omega)) ?_
      refine WL_storeRowN hH8 rfl rfl (i := 2) rfl hR3 ho1 (by simp) (ones_cons rfl (ones_cons hF.sl.one (ones_cons rfl ones_nil))) sz_impl_Node ?_; rintro O2 w9 hO2 hH9
      refine WL_nil ?_
      refine WT_inBlock ?_
      refine WT_seq ?_
      refine WT_region ?_
      refine WL_v rfl (ov_move rfl) ?_
      refine WL_v rfl (ov_assign rfl) ?_
      refine WL_nil ?_
      exact WT_ret1 Try.func61 Try.results61 rfl ⟨_, O2, _, _, OPlan.set (k := k - 1) (x := ⟨4, [((k - 1 : Nat) : Int)], []⟩) (by omega) hil hxl hat hO2 hF (IRow.nil _), by simp; omega, by omega, H.setFR (hH9.nilIn.swap) (by omega)⟩
    first | with_reducible replace h0 := of_decide_eq_false h0 | with_reducible replace h0 := bn_F h0 | with_reducible replace h0 := bb_F h0 | skip
    refine WT_seq ?_
    refine WT_region ?_
    refine WL_v rfl (ov_eql rfl rfl) ?_
    refine WL_v rfl (ov_assign rfl) ?_
    refine WL_nil ?_
    refine WT_cond rfl (fun h1 => ?_) (fun h1 => ?_)
    · skip
      first | with_reducible replace h1 := of_decide_eq_true h1 | with_reducible replace h1 := bn_T h1 | with_reducible replace h1 := bb_T h1 | skip
      refine WT_region ?_
      refine WL_v rfl (ov_move rfl) ?_
      refine WL_v rfl (ov_move rfl) ?_
      refine WL_v rfl (ov_as (ov_sub rfl rfl (by omega)) (congrArg (Value.int .i64) (hkm.symm))) ?_
      refine WL_v rfl (ov_move rfl) ?_
      refine WL_v rfl (ov_move rfl) ?_
      refine WL_v rfl (ov_as (ov_add rfl rfl (by omega)) (congrArg (Value.int .i64) ((show (wd : Int) + 1 = ((wd + 1 : Nat) : Int) by omega)))) ?_
      refine WL_call rfl rfl cf_spec_l91Row (l91Row_ok hH7 hB (by omega) (wd + 1) (by omega)) ?_; rintro rv w8 ⟨R, r, p3, hR, hrl, hp3, hH8⟩
      refine WL_v rfl (ov_build rfl (run_build_row hR.sl)) ?_
      refine WL_v rfl (ov_index rfl rfl st_sl_impl_Node hR3.sl (i := k - 1) (by omega)) ?_
      refine WL_storeRowN hH8 rfl rfl (i := 2) rfl hR3 ho1 (by simp) (ones_cons rfl (ones_cons rfl (ones_cons hR.sl.one ones_nil))) sz_impl_Node ?_; rintro O2 w9 hO2 hH9
      refine WL_nil ?_
      refine WT_inBlock ?_
      refine WT_seq ?_
      refine WT_region ?_
      refine WL_v rfl (ov_move rfl) ?_
      refine WL_v rfl (ov_assign rfl) ?_
      refine WL_nil ?_
      exact WT_ret1 Try.func61 Try.results61 rfl ⟨_, O2, _, _, OPlan.set (k := k - 1) (x := ⟨0, [], r⟩) (by omega) hil hxl hat hO2 (IRow.nil _) hR, by simp; omega, by omega, H.setFR (hH9.nilIn) (by omega)⟩
    first | with_reducible replace h1 := of_decide_eq_false h1 | with_reducible replace h1 := bn_F h1 | with_reducible replace h1 := bb_F h1 | skip
    refine WT_skip ?_
    refine WT_inBlock ?_
    refine WT_seq ?_
    refine WT_region ?_
    refine WL_v rfl (ov_move rfl) ?_
    refine WL_v rfl (ov_assign rfl) ?_
    refine WL_nil ?_
    exact WT_ret1 Try.func61 Try.results61 rfl ⟨p, O, Is, _, ⟨hil, xs, hR3, hat⟩, by omega, by omega, hH7⟩
  first | with_reducible replace hn1 := of_decide_eq_false hn1 | with_reducible replace hn1 := bn_F hn1 | with_reducible replace hn1 := bb_F hn1 | skip
  refine WT_skip ?_
  refine WT_seq ?_
  refine WT_region ?_
  refine WL_v rfl (ov_move rfl) ?_
  refine WL_v rfl (ov_assign rfl) ?_
  refine WL_nil ?_
  exact WT_ret1 Try.func61 Try.results61 rfl ⟨p, O, Is, p2, hO, by omega, by omega, hH6⟩

/-- A drawn plan, shared. -/
def Drew (h : GH) (Ls : List Heaplet) (v : Value) (w' : World) : Prop := ∃ h' p, h.Le h' ∧ Plan h' v p ∧ p.length ≤ 11 ∧ H w' h' Ls

theorem drew_of {g : Nat} {bv : Value} {p' : Nat} {O : Heaplet} {Is : List Heaplet} {v : Value} {p : List Nd} (hO : OPlan O Is v p) (hl : p.length ≤ 11) (hH : H w h (rdr g bv p' :: O :: (Is ++ Ls))) : Drew h Ls v w := by
  obtain ⟨h', hle, hH2, hP, _⟩ := hO.freeze hH.drop
  exact ⟨h', p, hle, hP, hl, hH2⟩

end
end Go.Proofs.Ytmcedghgincaaaa
