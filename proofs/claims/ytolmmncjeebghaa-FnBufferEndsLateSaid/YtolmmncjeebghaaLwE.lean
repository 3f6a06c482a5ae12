/- The laws on drawn plans: what they cost, until when rows are needed, how many are kept. -/
import Derived.Test.YtolmmncjeebghaaWkO
import Derived.Test.YtolmmncjeebghaaWkP
import Derived.Test.YtolmmncjeebghaaWkI
import Derived.Test.YtolmmncjeebghaaPlF
namespace Go.Proofs.Ytolmmncjeebghaa
open Go.RowKit

section
variable {h : GH} {Ls : List Heaplet} {w : World}

theorem valid_of {p : List Nd} {a : Int} (h : ¬ (if planOk p = true then a else -1) < 0) : planOk p = true := by
  cases hp : planOk p with
  | true => rfl
  | false => rw [hp] at h; exact absurd (by simp) h
theorem valid_of_len {p : List Nd} (h : ¬ ((if planOk p = true then endsTo p p.length else []).length : Int) = 0) : planOk p = true ∧ 0 < p.length := by
  cases hp : planOk p with
  | true =>
    rw [hp, if_pos rfl, endsTo_len] at h
    exact ⟨rfl, by omega⟩
  | false => rw [hp] at h; exact absurd rfl h

/-- A drawn plan, shared. -/
def Drew (h : GH) (Ls : List Heaplet) (v : Value) (w' : World) : Prop := ∃ h' p, h.Le h' ∧ Plan h' v p ∧ p.length ≤ 11 ∧ H w' h' Ls

theorem drew_of {g : Nat} {bv : Value} {p' : Nat} {O : Heaplet} {Is : List Heaplet} {v : Value} {p : List Nd} (hO : OPlan O Is v p) (hl : p.length ≤ 11) (hH : H w h (rdr g bv p' :: O :: (Is ++ Ls))) : Drew h Ls v w := by
  obtain ⟨h', hle, hH2, hP, _⟩ := hO.freeze hH.drop
  exact ⟨h', p, hle, hP, hl, hH2⟩

theorem drawCostAll_ok (hH : H w h Ls) {cv : Value} {bs : List Int} (hB : Bytes h cv bs) : Rets Try.prog 19 #[cv] w (Drew h Ls) := by
  refine rets_enter Try.func19 rfl Try.ntmps19 (by simp) ?_
  refine WT_seq ?_
  refine WT_region ?_
  refine WL_v rfl (ov_assign rfl) ?_
  refine WL_nil ?_
  refine WT_seq ?_
  refine WT_region ?_
  refine WL_v rfl (ov_move rfl) ?_
  refine WL_call rfl rfl cf_spec_l6Open (l6Open_ok hH hB) ?_; rintro _ w1 ⟨g, bv, bs', rfl, hB', hH1⟩
  refine WL_call rfl rfl cf_spec_l91Plan (l91Plan_ok hH1 hB' (by omega)) ?_; rintro _ w2 ⟨p, O, Is, p', hO, hl, hp', hH2⟩
  refine WL_v rfl (ov_assign rfl) ?_
  refine WL_nil ?_
  exact WT_ret1 Try.func19 Try.results19 rfl (drew_of hO hl hH2)
theorem drawBufferEnds_ok (hH : H w h Ls) {cv : Value} {bs : List Int} (hB : Bytes h cv bs) : Rets Try.prog 22 #[cv] w (Drew h Ls) := by
  refine rets_enter Try.func22 rfl Try.ntmps22 (by simp) ?_
  refine WT_seq ?_
  refine WT_region ?_
  refine WL_v rfl (ov_assign rfl) ?_
  refine WL_nil ?_
  refine WT_seq ?_
  refine WT_region ?_
  refine WL_v rfl (ov_move rfl) ?_
  refine WL_call rfl rfl cf_spec_l6Open (l6Open_ok hH hB) ?_; rintro _ w1 ⟨g, bv, bs', rfl, hB', hH1⟩
  refine WL_call rfl rfl cf_spec_l91Plan (l91Plan_ok hH1 hB' (by omega)) ?_; rintro _ w2 ⟨p, O, Is, p', hO, hl, hp', hH2⟩
  refine WL_v rfl (ov_assign rfl) ?_
  refine WL_nil ?_
  exact WT_ret1 Try.func22 Try.results22 rfl (drew_of hO hl hH2)
theorem drawBufferMost_ok (hH : H w h Ls) {cv : Value} {bs : List Int} (hB : Bytes h cv bs) : Rets Try.prog 27 #[cv] w (Drew h Ls) := by
  refine rets_enter Try.func27 rfl Try.ntmps27 (by simp) ?_
  refine WT_seq ?_
  refine WT_region ?_
  refine WL_v rfl (ov_assign rfl) ?_
  refine WL_nil ?_
  refine WT_seq ?_
  refine WT_region ?_
  refine WL_v rfl (ov_move rfl) ?_
  refine WL_call rfl rfl cf_spec_l6Open (l6Open_ok hH hB) ?_; rintro _ w1 ⟨g, bv, bs', rfl, hB', hH1⟩
  refine WL_call rfl rfl cf_spec_l91Plan (l91Plan_ok hH1 hB' (by omega)) ?_; rintro _ w2 ⟨p, O, Is, p', hO, hl, hp', hH2⟩
  refine WL_v rfl (ov_assign rfl) ?_
  refine WL_nil ?_
  exact WT_ret1 Try.func27 Try.results27 rfl (drew_of hO hl hH2)

theorem fnCostAll_walk (hH : H w h Ls) {cv : Value} {bs : List Int} (hB : Bytes h cv bs) : Rets Try.prog 5 #[cv] w fun v w' => v = .bool true ∧ H w' h Ls := by
  refine rets_enter Try.func5 rfl Try.ntmps5 (by simp) ?_
  refine WT_seq ?_
  refine WT_region ?_
  refine WL_v rfl (ov_assign rfl) ?_
  refine WL_nil ?_
  refine WT_seq ?_
  refine WT_seq ?_
  refine WT_region ?_
  refine WL_v rfl (ov_move rfl) ?_
  refine WL_v rfl (ov_len rfl hB.sl st_sl_uint8) ?_
  refine WL_v rfl (ov_gtr rfl rfl) ?_
  refine WL_nil ?_
  refine WT_cond rfl (fun hl => ?_) (fun hl => ?_)
  · skip
    first | with_reducible replace hl := of_decide_eq_true hl | with_reducible replace hl := bn_T hl | with_reducible replace hl := bb_T hl | skip
    refine WT_seq ?_
    refine WT_region ?_
    refine WL_v rfl (ov_assign rfl) ?_
    refine WL_nil ?_
    exact WT_ret1 Try.func5 Try.results5 rfl ⟨rfl, hH⟩
  first | with_reducible replace hl := of_decide_eq_false hl | with_reducible replace hl := bn_F hl | with_reducible replace hl := bb_F hl | skip
  refine WT_skip ?_
  refine WT_seq ?_
  refine WT_region ?_
  refine WL_v rfl (ov_move rfl) ?_
  refine WL_call rfl rfl cf_spec_DrawCostAll (drawCostAll_ok hH hB) ?_; rintro pv w1 ⟨h', p, hle, hP, hpl, hH1⟩
  refine WL_v rfl (ov_assign rfl) ?_
  refine WL_nil ?_
  refine WT_seq ?_
  refine WT_region ?_
  refine WL_v rfl (ov_move rfl) ?_
  refine WL_call rfl rfl cf_impl_CostAll (costAll_ok hH1 hP) ?_; rintro _ w2 ⟨rfl, hH2⟩
  refine WL_v rfl (ov_assign rfl) ?_
  refine WL_nil ?_
  refine WT_seq ?_
  refine WT_region ?_
  refine WL_v rfl (ov_move rfl) ?_
  refine WL_call rfl rfl cf_spec_CostAll (sCostAll_ok hH2 hP (by omega)) ?_; rintro _ w3 ⟨rfl, hH3⟩
  refine WL_v rfl (ov_assign rfl) ?_
  refine WL_nil ?_
  refine WT_seq ?_
  refine WT_seq ?_
  refine WT_region ?_
  refine WL_v rfl (ov_move rfl) ?_
  refine WL_v rfl (ov_move rfl) ?_
  refine WL_v rfl (ov_F (ov_neq rfl rfl) (by first | exact decide_eq_false rfl | exact nb_F rfl | exact mb_F rfl | exact rfl | (simp only [decide_eq_false_iff_not]; omega) | simpa using rfl)) ?_
  refine WL_v rfl (ov_move rfl) ?_
  refine WL_guardOn rfl rfl ?_
  refine WL_v rfl (ov_move rfl) ?_
  refine WL_guardOn rfl rfl ?_
  refine WL_v rfl (ov_lss rfl rfl) ?_
  refine WL_v rfl (ov_pickF rfl rfl) ?_
  refine WL_nil ?_
  refine WT_cond rfl (fun hneg => ?_) (fun hneg => ?_)
  · skip
    first | with_reducible replace hneg := of_decide_eq_true hneg | with_reducible replace hneg := bn_T hneg | with_reducible replace hneg := bb_T hneg | skip
    refine WT_seq ?_
    refine WT_region ?_
    refine WL_v rfl (ov_move rfl) ?_
    refine WL_v rfl (ov_move rfl) ?_
    refine WL_v rfl (ov_T (ov_eql rfl rfl) (by first | exact decide_eq_true rfl | exact nb_T rfl | exact mb_T rfl | exact rfl | (simp only [decide_eq_true_eq]; omega) | simpa using rfl)) ?_
    refine WL_v rfl (ov_assign rfl) ?_
    refine WL_nil ?_
    exact WT_ret1 Try.func5 Try.results5 rfl ⟨rfl, hH3.weak hle⟩
  first | with_reducible replace hneg := of_decide_eq_false hneg | with_reducible replace hneg := bn_F hneg | with_reducible replace hneg := bb_F hneg | skip
  have hv := valid_of hneg
  rw [if_pos hv]
  have hsr := sumTo_rg p p.length
  have hlen := PlanOk.len hv
  refine WT_skip ?_
  refine WT_seq ?_
  refine WT_region ?_
  refine WL_v rfl (ov_assign rfl) ?_
  refine WL_nil ?_
  refine WT_seq ?_
  refine WT_seq ?_
  refine WT_region ?_
  refine WL_v rfl (ov_assign rfl) ?_
  refine WL_nil ?_
  refine WT_block ?_
  refine WT_while (fun s : Nat => [(3, pv), (4, .int .i64 (sumTo p p.length)), (6, .int .i64 (sumTo p s)), (7, .int .i64 (s : Int))]) (fun k w => k ≤ p.length ∧ H w h' Ls) (fun k => p.length - k) 0 (by repeat (first | exact trivial | refine ⟨rfl, ?_⟩)) ⟨by omega, hH3⟩ ?_
  clear hH hH1 hH2 hH3
  rintro k w4 ⟨hk, hH⟩ again
  refine WT_seq ?_
  refine WT_seq ?_
  refine WT_region ?_
  refine WL_v rfl (ov_move rfl) ?_
  refine WL_v rfl (ov_move rfl) ?_
  refine WL_v rfl (ov_len rfl hP.sl st_sl_impl_Node) ?_
  refine WL_v rfl (ov_lss rfl rfl) ?_
  refine WL_nil ?_
  refine WT_cond rfl (fun hc => ?_) (fun hc => ?_)
  · skip
    first | with_reducible replace hc := of_decide_eq_true hc | with_reducible replace hc := bn_T hc | with_reducible replace hc := bb_T hc | skip
    have hkp : k < p.length := by omega
    obtain ⟨fv, rv, hf, hr, hcell⟩ := hP.node hkp
    have hr1 := sumTo_rg p k
    have hr2 := kindCost_rg p[k].kind
    have hkk := costKind_valid (PlanOk.node hv hkp).kind
    refine WT_skip ?_
    refine WT_seq ?_
    refine WT_block ?_
    refine WT_region ?_
    refine WL_v rfl (ov_move rfl) ?_
    refine WL_v rfl (ov_move rfl) ?_
    refine WL_v rfl (ov_move rfl) ?_
    refine WL_v rfl (ov_index rfl rfl st_sl_impl_Node hP.sl hkp) ?_
    refine WL_v rfl (ov_field rfl fo_impl_Node_0) ?_
    refine WL_v rfl (ov_load rfl one_int (hcell _ _ hH 0 _ rfl)) ?_
    refine WL_call rfl rfl cf_impl_CostKind (costKind_ok hH _) ?_; rintro _ w5 ⟨rfl, hH5⟩
    refine WL_v rfl (ov_as (ov_add rfl rfl (by omega)) (congrArg (Value.int .i64) ((by rw [hkk, sumTo, getD_of hkp] : sumTo p k + costKind p[k].kind = sumTo p (k + 1))))) ?_
    refine WL_v rfl (ov_assign rfl) ?_
    refine WL_nil ?_
    refine WT_inBlock ?_
    refine WT_region ?_
    refine WL_v rfl (ov_move rfl) ?_
    refine WL_v rfl (ov_add rfl rfl (by omega)) ?_
    refine WL_v rfl (ov_assign rfl) ?_
    refine WL_nil ?_
    refine again (k + 1) _ _ (by omega) (by repeat (first | exact trivial | refine ⟨rfl, ?_⟩)) ⟨by omega, hH5⟩
  first | with_reducible replace hc := of_decide_eq_false hc | with_reducible replace hc := bn_F hc | with_reducible replace hc := bb_F hc | skip
  obtain rfl : k = p.length := by omega
  refine WT_exit rfl ?_
  refine WT_seq ?_
  refine WT_region ?_
  refine WL_v rfl (ov_move rfl) ?_
  refine WL_v rfl (ov_move rfl) ?_
  refine WL_v rfl (ov_T (ov_eql rfl rfl) (by first | exact decide_eq_true rfl | exact nb_T rfl | exact mb_T rfl | exact rfl | (simp only [decide_eq_true_eq]; omega) | simpa using rfl)) ?_
  refine WL_v rfl (ov_assign rfl) ?_
  refine WL_nil ?_
  exact WT_ret1 Try.func5 Try.results5 rfl ⟨rfl, hH.weak hle⟩

theorem fnBufferEnds_walk (hH : H w h Ls) {cv : Value} {bs : List Int} (hB : Bytes h cv bs) : Rets Try.prog 6 #[cv] w fun v w' => v = .bool true ∧ H w' h Ls := by
  refine rets_enter Try.func6 rfl Try.ntmps6 (by simp) ?_
  refine WT_seq ?_
  refine WT_region ?_
  refine WL_v rfl (ov_assign rfl) ?_
  refine WL_nil ?_
  refine WT_seq ?_
  refine WT_seq ?_
  refine WT_region ?_
  refine WL_v rfl (ov_move rfl) ?_
  refine WL_v rfl (ov_len rfl hB.sl st_sl_uint8) ?_
  refine WL_v rfl (ov_gtr rfl rfl) ?_
  refine WL_nil ?_
  refine WT_cond rfl (fun hl => ?_) (fun hl => ?_)
  · skip
    first | with_reducible replace hl := of_decide_eq_true hl | with_reducible replace hl := bn_T hl | with_reducible replace hl := bb_T hl | skip
    refine WT_seq ?_
    refine WT_region ?_
    refine WL_v rfl (ov_assign rfl) ?_
    refine WL_nil ?_
    exact WT_ret1 Try.func6 Try.results6 rfl ⟨rfl, hH⟩
  first | with_reducible replace hl := of_decide_eq_false hl | with_reducible replace hl := bn_F hl | with_reducible replace hl := bb_F hl | skip
  refine WT_skip ?_
  refine WT_seq ?_
  refine WT_region ?_
  refine WL_v rfl (ov_move rfl) ?_
  refine WL_call rfl rfl cf_spec_DrawBufferEnds (drawBufferEnds_ok hH hB) ?_; rintro pv w1 ⟨h', p, hle, hP, hpl, hH1⟩
  refine WL_v rfl (ov_assign rfl) ?_
  refine WL_nil ?_
  refine WT_seq ?_
  refine WT_region ?_
  refine WL_v rfl (ov_move rfl) ?_
  refine WL_call rfl rfl cf_impl_BufferEnds (bufferEnds_ok hH1 hP) ?_; rintro ov w2 ⟨X, hX, hH2⟩
  refine WL_v rfl (ov_assign rfl) ?_
  refine WL_nil ?_
  refine WT_seq ?_
  refine WT_region ?_
  refine WL_v rfl (ov_move rfl) ?_
  refine WL_call rfl rfl cf_spec_BufferEnds (sBufferEnds_ok hH2 hP (by omega)) ?_; rintro sv w3 ⟨Y, hY, hH3⟩
  refine WL_v rfl (ov_assign rfl) ?_
  refine WL_nil ?_
  refine WT_seq ?_
  refine WT_seq ?_
  refine WT_region ?_
  refine WL_v rfl (ov_move rfl) ?_
  refine WL_v rfl (ov_move rfl) ?_
  refine WL_call rfl rfl cf_laws_sameRow (sameRow_ok hH3 (hX.rdl (i := 1) rfl) (hY.rdl (i := 0) rfl)) ?_; rintro _ w4 ⟨rfl, hH4⟩
  refine WL_v rfl (ov_F (ov_not rfl) (by simp)) ?_
  refine WL_v rfl (ov_move rfl) ?_
  refine WL_guardOn rfl rfl ?_
  refine WL_v rfl (ov_move rfl) ?_
  refine WL_guardOn rfl rfl ?_
  refine WL_v rfl (ov_len rfl hY.sl st_sl_int) ?_
  refine WL_guardOn rfl rfl ?_
  refine WL_v rfl (ov_eql rfl rfl) ?_
  refine WL_v rfl (ov_pickF rfl rfl) ?_
  refine WL_nil ?_
  refine WT_cond rfl (fun h0 => ?_) (fun h0 => ?_)
  · skip
    first | with_reducible replace h0 := of_decide_eq_true h0 | with_reducible replace h0 := bn_T h0 | with_reducible replace h0 := bb_T h0 | skip
    refine WT_seq ?_
    refine WT_region ?_
    refine WL_v rfl (ov_move rfl) ?_
    refine WL_v rfl (ov_move rfl) ?_
    refine WL_call rfl rfl cf_laws_sameRow (sameRow_ok hH4 (hX.rdl (i := 1) rfl) (hY.rdl (i := 0) rfl)) ?_; rintro _ w5 ⟨rfl, hH5⟩
    refine WL_v rfl (ov_assign rfl) ?_
    refine WL_nil ?_
    exact WT_ret1 Try.func6 Try.results6 rfl ⟨by simp, (hH5.weak hle).drop.drop⟩
  first | with_reducible replace h0 := of_decide_eq_false h0 | with_reducible replace h0 := bn_F h0 | with_reducible replace h0 := bb_F h0 | skip
  obtain ⟨hv, hp0⟩ := valid_of_len h0
  have hlen := PlanOk.len hv
  have hel := endsTo_len p p.length
  rw [if_pos hv] at hX hY
  refine WT_skip ?_
  refine WT_seq ?_
  refine WT_seq ?_
  refine WT_region ?_
  refine WL_v rfl (ov_assign rfl) ?_
  refine WL_nil ?_
  refine WT_block ?_
  refine WT_while (fun s : Nat => [(3, pv), (4, ov), (6, .int .i64 (s : Int))]) (fun k w => k ≤ p.length ∧ H w h' (Y :: X :: Ls)) (fun k => p.length - k) 0 (by repeat (first | exact trivial | refine ⟨rfl, ?_⟩)) ⟨by omega, hH4⟩ ?_
  clear hH hH1 hH2 hH3 hH4
  rintro k w4 ⟨hk, hH⟩ again
  refine WT_seq ?_
  refine WT_seq ?_
  refine WT_region ?_
  refine WL_v rfl (ov_move rfl) ?_
  refine WL_v rfl (ov_move rfl) ?_
  refine WL_v rfl (ov_len rfl hP.sl st_sl_impl_Node) ?_
  refine WL_v rfl (ov_lss rfl rfl) ?_
  refine WL_nil ?_
  refine WT_cond rfl (fun hc => ?_) (fun hc => ?_)
  · skip
    first | with_reducible replace hc := of_decide_eq_true hc | with_reducible replace hc := bn_T hc | with_reducible replace hc := bb_T hc | skip
    have hkp : k < p.length := by omega
    have hke : k < (endsTo p p.length).length := by omega
    have hek : (endsTo p p.length)[k] = ((lastOr (usersTo p p.length k) k : Nat) : Int) := by
      have := endsTo_get hv (Nat.le_refl _) hkp
      rw [List.getElem?_eq_getElem hke] at this
      simpa using this
    have hu : usesOf p (k : Int) = toI (usersTo p p.length k) := by unfold usesOf; rw [if_pos ⟨hv, by omega, by omega⟩]; simp
    refine WT_skip ?_
    refine WT_seq ?_
    refine WT_block ?_
    refine WT_seq ?_
    refine WT_region ?_
    refine WL_v rfl (ov_move rfl) ?_
    refine WL_v rfl (ov_move rfl) ?_
    refine WL_call rfl rfl cf_impl_PlanUses (planUses_ok hH hP (k : Int)) ?_; rintro uv w5 ⟨U, hU, hH5⟩
    refine WL_v rfl (ov_assign rfl) ?_
    refine WL_nil ?_
    refine WT_seq ?_
    refine WT_region ?_
    refine WL_v rfl (ov_move rfl) ?_
    refine WL_v rfl (ov_assign rfl) ?_
    refine WL_nil ?_
    refine WT_seq ?_
    refine WT_seq ?_
    refine WT_region ?_
    refine WL_v rfl (ov_move rfl) ?_
    rw [hu] at hU
    have hul := toI_len (usersTo p p.length k)
    have hul2 := usersTo_len p p.length k
    refine WL_v rfl (ov_len rfl hU.sl st_sl_int) ?_
    refine WL_v rfl (ov_gtr rfl rfl) ?_
    refine WL_nil ?_
    refine WT_join (ι := Unit) (fun _ => [(3, pv), (4, ov), (6, .int .i64 (k : Int)), (8, .int .i64 ((lastOr (usersTo p p.length k) k : Nat) : Int))]) (fun _ w => H w h' (U :: Y :: X :: Ls)) (fun joined => ?_) ?_
    · skip
      refine WT_cond rfl (fun h0 => ?_) (fun h0 => ?_)
      · skip
        first | with_reducible replace h0 := of_decide_eq_true h0 | with_reducible replace h0 := bn_T h0 | with_reducible replace h0 := bb_T h0 | skip
        have hne : usersTo p p.length k ≠ [] := fun hh => by
          have h9 : (toI (usersTo p p.length k)).length = 0 := by rw [hul, hh]; rfl
          omega
        have hla : (toI (usersTo p p.length k))[(usersTo p p.length k).length - 1]'(by omega) = ((lastOr (usersTo p p.length k) k : Nat) : Int) := by
          simp only [toI, List.getElem_map, lastOr]
          rw [List.getLast?_eq_some_getLast hne, List.getLast_eq_getElem]; rfl
        refine WT_region ?_
        refine WL_v rfl (ov_move rfl) ?_
        refine WL_v rfl (ov_move rfl) ?_
        refine WL_v rfl (ov_len rfl hU.sl st_sl_int) ?_
        refine WL_v rfl (ov_as (ov_sub rfl rfl (by omega)) (congrArg (Value.int .i64) ((show ((toI (usersTo p p.length k)).length : Int) - 1 = (((usersTo p p.length k).length - 1 : Nat) : Int) by omega)))) ?_
        refine WL_v rfl (ov_index rfl rfl st_sl_int hU.sl (by omega)) ?_
        refine WL_v rfl (ov_load rfl one_int (hU.cell hH5 (i := 0) rfl (by omega))) ?_; rw [hla]
        refine WL_v rfl (ov_assign rfl) ?_
        refine WL_nil ?_
        exact joined () _ _ (by repeat (first | exact trivial | refine ⟨rfl, ?_⟩)) hH5
      first | with_reducible replace h0 := of_decide_eq_false h0 | with_reducible replace h0 := bn_F h0 | with_reducible replace h0 := bb_F h0 | skip
      have hne : usersTo p p.length k = [] := List.eq_nil_of_length_eq_zero (by omega)
      have hla : lastOr (usersTo p p.length k) k = k := by rw [hne]; rfl
      refine WT_skip ?_
      exact joined () _ _ (by rw [hla]; exact (by repeat (first | exact trivial | refine ⟨rfl, ?_⟩))) hH5
    clear hH5
    rintro _ w6 hH6
    refine WT_seq ?_
    refine WT_region ?_
    refine WL_v rfl (ov_move rfl) ?_
    refine WL_v rfl (ov_move rfl) ?_
    refine WL_v rfl (ov_index rfl rfl st_sl_int hX.sl hke) ?_
    refine WL_v rfl (ov_load rfl one_int (hX.cell hH6 (i := 2) rfl hke)) ?_
    refine WL_v rfl (ov_move rfl) ?_
    refine WL_v rfl (ov_F (ov_neq rfl rfl) (by rw [hek]; simp)) ?_
    refine WL_nil ?_
    refine WT_condF rfl ?_
    refine WT_skip ?_
    refine WT_inBlock ?_
    refine WT_region ?_
    refine WL_v rfl (ov_move rfl) ?_
    refine WL_v rfl (ov_add rfl rfl (by omega)) ?_
    refine WL_v rfl (ov_assign rfl) ?_
    refine WL_nil ?_
    refine again (k + 1) _ _ (by omega) (by repeat (first | exact trivial | refine ⟨rfl, ?_⟩)) ⟨by omega, hH6.drop⟩
  first | with_reducible replace hc := of_decide_eq_false hc | with_reducible replace hc := bn_F hc | with_reducible replace hc := bb_F hc | skip
  obtain rfl : k = p.length := by omega
  refine WT_exit rfl ?_
  refine WT_seq ?_
  refine WT_region ?_
  refine WL_v rfl (ov_move rfl) ?_
  refine WL_v rfl (ov_len rfl hX.sl st_sl_int) ?_
  refine WL_v rfl (ov_move rfl) ?_
  refine WL_v rfl (ov_len rfl hP.sl st_sl_impl_Node) ?_
  refine WL_v rfl (ov_T (ov_eql rfl rfl) (by simp [hel])) ?_
  refine WL_v rfl (ov_assign rfl) ?_
  refine WL_nil ?_
  exact WT_ret1 Try.func6 Try.results6 rfl ⟨rfl, (hH.weak hle).drop.drop⟩

theorem reslice_plan {pv : Value} {p : List Nd} (hP : Plan h pv p) {k : Nat} (hk : k ≤ p.length) : Plan h (reslice pv 0 k 3) (p.take k) := by
  have hs := reslice_sl (sz := 3) hP.sl (Nat.zero_le k) hk
  refine ⟨by rw [List.length_take, Nat.min_eq_left hk]; simpa using hs, fun i hi => ?_⟩
  have hik : i < k := by rw [List.length_take] at hi; omega
  obtain ⟨f, r, h1, h2, h3⟩ := hP.at_ i (by omega)
  rw [List.getElem_take]
  refine ⟨f, r, h1, h2, fun j u hj => ?_⟩
  obtain ⟨g1, cs, e, fz, g2, g3⟩ := h3 j u hj
  obtain ⟨a1, a2, a3⟩ := reslice_at (sz := 3) hP.sl (show 0 < k by omega) hk
  refine ⟨a2, cs, e, fz, by rw [a1]; exact g2, ?_⟩
  rw [a3, ← g3]
  congr 1

theorem fnBufferMostPart_walk (hH : H w h Ls) {cv mv : Value} {bs ms : List Int} (hB : Bytes h cv bs) (hM : Bytes h mv ms) : Rets Try.prog 7 #[cv, mv] w fun v w' => v = .bool true ∧ H w' h Ls := by
  refine rets_enter Try.func7 rfl Try.ntmps7 (by simp) ?_
  by_cases hl : (1048576 : Int) < (bs.length : Int)
  · skip
    refine WT_seq ?_
    refine WT_region ?_
    refine WL_v rfl (ov_assign rfl) ?_
    refine WL_nil ?_
    refine WT_seq ?_
    refine WT_seq ?_
    refine WT_region ?_
    refine WL_v rfl (ov_move rfl) ?_
    refine WL_v rfl (ov_len rfl hB.sl st_sl_uint8) ?_
    refine WL_v rfl (ov_T (ov_gtr rfl rfl) (by first | exact decide_eq_true hl | exact nb_T hl | exact mb_T hl | exact hl | (simp only [decide_eq_true_eq]; omega) | simpa using hl)) ?_
    refine WL_v rfl (ov_move rfl) ?_
    refine WL_guardOff rfl rfl rfl rfl ?_
    refine WL_guardOff rfl rfl rfl rfl ?_
    refine WL_guardOff rfl rfl rfl rfl ?_
    refine WL_v rfl (ov_pickT rfl rfl) ?_
    refine WL_nil ?_
    refine WT_condT rfl ?_
    refine WT_seq ?_
    refine WT_region ?_
    refine WL_v rfl (ov_assign rfl) ?_
    refine WL_nil ?_
    exact WT_ret1 Try.func7 Try.results7 rfl ⟨rfl, hH⟩
  refine WT_seq ?_
  refine WT_region ?_
  refine WL_v rfl (ov_assign rfl) ?_
  refine WL_nil ?_
  refine WT_seq ?_
  refine WT_seq ?_
  refine WT_region ?_
  refine WL_v rfl (ov_move rfl) ?_
  refine WL_v rfl (ov_len rfl hB.sl st_sl_uint8) ?_
  refine WL_v rfl (ov_F (ov_gtr rfl rfl) (by first | exact decide_eq_false hl | exact nb_F hl | exact mb_F hl | exact hl | (simp only [decide_eq_false_iff_not]; omega) | simpa using hl)) ?_
  refine WL_v rfl (ov_move rfl) ?_
  refine WL_guardOn rfl rfl ?_
  refine WL_v rfl (ov_move rfl) ?_
  refine WL_guardOn rfl rfl ?_
  refine WL_v rfl (ov_len rfl hM.sl st_sl_uint8) ?_
  refine WL_guardOn rfl rfl ?_
  refine WL_v rfl (ov_gtr rfl rfl) ?_
  refine WL_v rfl (ov_pickF rfl rfl) ?_
  refine WL_nil ?_
  refine WT_cond rfl (fun hl2 => ?_) (fun hl2 => ?_)
  · skip
    first | with_reducible replace hl2 := of_decide_eq_true hl2 | with_reducible replace hl2 := bn_T hl2 | with_reducible replace hl2 := bb_T hl2 | skip
    refine WT_seq ?_
    refine WT_region ?_
    refine WL_v rfl (ov_assign rfl) ?_
    refine WL_nil ?_
    exact WT_ret1 Try.func7 Try.results7 rfl ⟨rfl, hH⟩
  first | with_reducible replace hl2 := of_decide_eq_false hl2 | with_reducible replace hl2 := bn_F hl2 | with_reducible replace hl2 := bb_F hl2 | skip
  refine WT_skip ?_
  refine WT_seq ?_
  refine WT_region ?_
  refine WL_v rfl (ov_move rfl) ?_
  refine WL_call rfl rfl cf_spec_DrawBufferMost (drawBufferMost_ok hH hB) ?_; rintro pv w1 ⟨h', p, hle, hP, hpl, hH1⟩
  refine WL_v rfl (ov_assign rfl) ?_
  refine WL_nil ?_
  refine WT_seq ?_
  refine WT_region ?_
  refine WL_v rfl (ov_move rfl) ?_
  refine WL_call rfl rfl cf_impl_BufferMost (bufferMost_ok hH1 hP) ?_; rintro _ w2 ⟨rfl, hH2⟩
  refine WL_v rfl (ov_assign rfl) ?_
  refine WL_nil ?_
  refine WT_seq ?_
  refine WT_region ?_
  refine WL_v rfl (ov_move rfl) ?_
  refine WL_call rfl rfl cf_spec_BufferMost (sBufferMost_ok hH2 hP (by omega)) ?_; rintro _ w3 ⟨rfl, hH3⟩
  refine WL_v rfl (ov_assign rfl) ?_
  refine WL_nil ?_
  refine WT_seq ?_
  refine WT_seq ?_
  refine WT_region ?_
  refine WL_v rfl (ov_move rfl) ?_
  refine WL_v rfl (ov_move rfl) ?_
  refine WL_v rfl (ov_F (ov_neq rfl rfl) (by first | exact decide_eq_false rfl | exact nb_F rfl | exact mb_F rfl | exact rfl | (simp only [decide_eq_false_iff_not]; omega) | simpa using rfl)) ?_
  refine WL_v rfl (ov_move rfl) ?_
  refine WL_guardOn rfl rfl ?_
  refine WL_v rfl (ov_move rfl) ?_
  refine WL_guardOn rfl rfl ?_
  refine WL_v rfl (ov_lss rfl rfl) ?_
  refine WL_v rfl (ov_pickF rfl rfl) ?_
  refine WL_nil ?_
  refine WT_cond rfl (fun hneg => ?_) (fun hneg => ?_)
  · skip
    first | with_reducible replace hneg := of_decide_eq_true hneg | with_reducible replace hneg := bn_T hneg | with_reducible replace hneg := bb_T hneg | skip
    refine WT_seq ?_
    refine WT_region ?_
    refine WL_v rfl (ov_move rfl) ?_
    refine WL_v rfl (ov_move rfl) ?_
    refine WL_v rfl (ov_T (ov_eql rfl rfl) (by first | exact decide_eq_true rfl | exact nb_T rfl | exact mb_T rfl | exact rfl | (simp only [decide_eq_true_eq]; omega) | simpa using rfl)) ?_
    refine WL_v rfl (ov_assign rfl) ?_
    refine WL_nil ?_
    exact WT_ret1 Try.func7 Try.results7 rfl ⟨rfl, hH3.weak hle⟩
  first | with_reducible replace hneg := of_decide_eq_false hneg | with_reducible replace hneg := bn_F hneg | with_reducible replace hneg := bb_F hneg | skip
  have hv := valid_of hneg
  rw [if_pos hv]
  have hsr := rowsTo_rg (endsTo p p.length) p.length
  have hlen := PlanOk.len hv
  obtain ⟨k, hk, hkp⟩ : ∃ k, ms.length % (p.length + 1) = k ∧ k ≤ p.length := ⟨_, rfl, by have := Nat.mod_lt ms.length (show 0 < p.length + 1 by omega); omega⟩
  have hmod : (ms.length : Int) % ((p.length : Int) + 1) = (k : Int) := by rw [← hk]; rfl
  have hvk := planOk_take hv k
  have hr1 := rowsTo_rg (endsTo (p.take k) k) k
  have hr2 := rowsTo_take hv hkp
  have htl : (p.take k).length = k := by rw [List.length_take]; omega
  refine WT_skip ?_
  refine WT_seq ?_
  refine WT_region ?_
  refine WL_v rfl (ov_move rfl) ?_
  refine WL_v rfl (ov_move rfl) ?_
  refine WL_v rfl (ov_len rfl hM.sl st_sl_uint8) ?_
  refine WL_v rfl (ov_move rfl) ?_
  refine WL_v rfl (ov_len rfl hP.sl st_sl_impl_Node) ?_
  refine WL_v rfl (ov_add rfl rfl (by omega)) ?_
  refine WL_v rfl (ov_as (ov_rem rfl rfl (by omega) (by omega)) (congrArg (Value.int .i64) hmod)) ?_
  refine WL_v rfl (ov_sliceHi rfl rfl st_sl_impl_Node hP.sl hkp) ?_
  refine WL_call rfl rfl cf_impl_BufferMost (bufferMost_ok hH3 (reslice_plan hP hkp)) ?_; rintro _ w4 ⟨rfl, hH4⟩
  refine WL_v rfl (ov_assign rfl) ?_
  refine WL_nil ?_
  refine WT_seq ?_
  refine WT_region ?_
  refine WL_v rfl (ov_move rfl) ?_
  refine WL_v rfl (ov_T (ov_geq rfl rfl) (decide_eq_true (by rw [if_pos hvk, htl]; omega))) ?_
  refine WL_v rfl (ov_move rfl) ?_
  refine WL_guardOn rfl rfl ?_
  refine WL_v rfl (ov_move rfl) ?_
  refine WL_guardOn rfl rfl ?_
  refine WL_v rfl (ov_move rfl) ?_
  refine WL_guardOn rfl rfl ?_
  refine WL_v rfl (ov_T (ov_leq rfl rfl) (decide_eq_true (by rw [if_pos hvk, htl]; omega))) ?_
  refine WL_v rfl (ov_pickT rfl rfl) ?_
  refine WL_v rfl (ov_assign rfl) ?_
  refine WL_nil ?_
  exact WT_ret1 Try.func7 Try.results7 rfl ⟨rfl, hH4.weak hle⟩

theorem fnBufferEndsLate_walk (hH : H w h Ls) {cv : Value} {bs : List Int} (hB : Bytes h cv bs) : Rets Try.prog 8 #[cv] w fun v w' => v = .bool true ∧ H w' h Ls := by
  refine rets_enter Try.func8 rfl Try.ntmps8 (by simp) ?_
  refine WT_seq ?_
  refine WT_region ?_
  refine WL_v rfl (ov_assign rfl) ?_
  refine WL_nil ?_
  refine WT_seq ?_
  refine WT_seq ?_
  refine WT_region ?_
  refine WL_v rfl (ov_move rfl) ?_
  refine WL_v rfl (ov_len rfl hB.sl st_sl_uint8) ?_
  refine WL_v rfl (ov_gtr rfl rfl) ?_
  refine WL_nil ?_
  refine WT_cond rfl (fun hl => ?_) (fun hl => ?_)
  · skip
    first | with_reducible replace hl := of_decide_eq_true hl | with_reducible replace hl := bn_T hl | with_reducible replace hl := bb_T hl | skip
    refine WT_seq ?_
    refine WT_region ?_
    refine WL_v rfl (ov_assign rfl) ?_
    refine WL_nil ?_
    exact WT_ret1 Try.func8 Try.results8 rfl ⟨rfl, hH⟩
  first | with_reducible replace hl := of_decide_eq_false hl | with_reducible replace hl := bn_F hl | with_reducible replace hl := bb_F hl | skip
  refine WT_skip ?_
  refine WT_seq ?_
  refine WT_region ?_
  refine WL_v rfl (ov_move rfl) ?_
  refine WL_call rfl rfl cf_spec_DrawBufferEnds (drawBufferEnds_ok hH hB) ?_; rintro pv w1 ⟨h', p, hle, hP, hpl, hH1⟩
  refine WL_v rfl (ov_assign rfl) ?_
  refine WL_nil ?_
  refine WT_seq ?_
  refine WT_region ?_
  refine WL_v rfl (ov_move rfl) ?_
  refine WL_call rfl rfl cf_impl_BufferEnds (bufferEnds_ok hH1 hP) ?_; rintro ov w2 ⟨X, hX, hH2⟩
  refine WL_v rfl (ov_assign rfl) ?_
  refine WL_nil ?_
  refine WT_seq ?_
  refine WT_region ?_
  refine WL_v rfl (ov_move rfl) ?_
  refine WL_call rfl rfl cf_spec_BufferEnds (sBufferEnds_ok hH2 hP (by omega)) ?_; rintro sv w3 ⟨Y, hY, hH3⟩
  refine WL_v rfl (ov_assign rfl) ?_
  refine WL_nil ?_
  refine WT_seq ?_
  refine WT_seq ?_
  refine WT_region ?_
  refine WL_v rfl (ov_move rfl) ?_
  refine WL_v rfl (ov_move rfl) ?_
  refine WL_call rfl rfl cf_laws_sameRow (sameRow_ok hH3 (hX.rdl (i := 1) rfl) (hY.rdl (i := 0) rfl)) ?_; rintro _ w4 ⟨rfl, hH4⟩
  refine WL_v rfl (ov_F (ov_not rfl) (by simp)) ?_
  refine WL_v rfl (ov_move rfl) ?_
  refine WL_guardOn rfl rfl ?_
  refine WL_v rfl (ov_move rfl) ?_
  refine WL_guardOn rfl rfl ?_
  refine WL_v rfl (ov_len rfl hY.sl st_sl_int) ?_
  refine WL_guardOn rfl rfl ?_
  refine WL_v rfl (ov_eql rfl rfl) ?_
  refine WL_v rfl (ov_pickF rfl rfl) ?_
  refine WL_nil ?_
  refine WT_cond rfl (fun h0 => ?_) (fun h0 => ?_)
  · skip
    first | with_reducible replace h0 := of_decide_eq_true h0 | with_reducible replace h0 := bn_T h0 | with_reducible replace h0 := bb_T h0 | skip
    refine WT_seq ?_
    refine WT_region ?_
    refine WL_v rfl (ov_move rfl) ?_
    refine WL_v rfl (ov_move rfl) ?_
    refine WL_call rfl rfl cf_laws_sameRow (sameRow_ok hH4 (hX.rdl (i := 1) rfl) (hY.rdl (i := 0) rfl)) ?_; rintro _ w5 ⟨rfl, hH5⟩
    refine WL_v rfl (ov_assign rfl) ?_
    refine WL_nil ?_
    exact WT_ret1 Try.func8 Try.results8 rfl ⟨by simp, (hH5.weak hle).drop.drop⟩
  first | with_reducible replace h0 := of_decide_eq_false h0 | with_reducible replace h0 := bn_F h0 | with_reducible replace h0 := bb_F h0 | skip
  obtain ⟨hv, hp0⟩ := valid_of_len h0
  have hlen := PlanOk.len hv
  have hel := endsTo_len p p.length
  rw [if_pos hv] at hX hY
  refine WT_skip ?_
  refine WT_seq ?_
  refine WT_region ?_
  refine WL_v rfl (ov_move rfl) ?_
  refine WL_call rfl rfl cf_impl_PlanEnds (planEnds_ok hH4 hP) ?_; rintro ev w5 ⟨E, hE, hH5⟩
  refine WL_v rfl (ov_assign rfl) ?_
  refine WL_nil ?_
  refine WT_seq ?_
  refine WT_seq ?_
  refine WT_region ?_
  refine WL_v rfl (ov_assign rfl) ?_
  refine WL_nil ?_
  refine WT_block ?_
  refine WT_while (fun s : Nat => [(4, ov), (6, ev), (7, .int .i64 (s : Int))]) (fun k w => k ≤ p.length ∧ H w h' (E :: Y :: X :: Ls)) (fun k => p.length - k) 0 (by repeat (first | exact trivial | refine ⟨rfl, ?_⟩)) ⟨by omega, hH5⟩ ?_
  clear hH hH1 hH2 hH3 hH4 hH5
  rintro k w4 ⟨hk, hH⟩ again
  refine WT_seq ?_
  refine WT_seq ?_
  refine WT_region ?_
  refine WL_v rfl (ov_move rfl) ?_
  refine WL_v rfl (ov_move rfl) ?_
  refine WL_v rfl (ov_len rfl hX.sl st_sl_int) ?_
  refine WL_v rfl (ov_lss rfl rfl) ?_
  refine WL_nil ?_
  refine WT_cond rfl (fun hc => ?_) (fun hc => ?_)
  · skip
    first | with_reducible replace hc := of_decide_eq_true hc | with_reducible replace hc := bn_T hc | with_reducible replace hc := bb_T hc | skip
    have hkp : k < p.length := by omega
    have hke : k < (endsTo p p.length).length := by omega
    have hek : (endsTo p p.length)[k] = ((lastOr (usersTo p p.length k) k : Nat) : Int) := by
      have := endsTo_get hv (Nat.le_refl _) hkp
      rw [List.getElem?_eq_getElem hke] at this
      simpa using this
    have hlr := lastOr_rg hv (Nat.le_refl _) hkp
    have hiff : decide ((endsTo p p.length)[k] = (k : Int)) = decide ((k : Int) ∈ endsOf p) := by
      refine decide_eq_decide.2 ?_
      rw [hek]
      unfold endsOf
      rw [if_pos hv, mem_toI_nat]
      simp only [endsL, List.mem_filter, List.mem_range, decide_eq_true_eq]
      rw [← hlr.2.2]
      omega
    refine WT_skip ?_
    refine WT_seq ?_
    refine WT_block ?_
    refine WT_seq ?_
    refine WT_quiet mixed (by kernel_rfl) hH ?_
    clear hH
    refine WQ_v rfl (fun _ _ => ov_move rfl) ?_
    refine WQ_v rfl (fun _ _ => ov_move rfl) ?_
    refine WQ_v rfl (fun _ _ => ov_index rfl rfl st_sl_int hX.sl hke) ?_
    refine WQ_v rfl (fun _ hH => ov_load rfl one_int (hX.cell hH (i := 2) rfl hke)) ?_
    refine WQ_v rfl (fun _ _ => ov_move rfl) ?_
    refine WQ_v rfl (fun _ _ => ov_F (ov_lss rfl rfl) (decide_eq_false (by rw [hek]; omega))) ?_
    refine WQ_v rfl (fun _ _ => ov_move rfl) ?_
    refine WQ_guardOn rfl rfl ?_
    refine WQ_v rfl (fun _ _ => ov_move rfl) ?_
    refine WQ_guardOn rfl rfl ?_
    refine WQ_v rfl (fun _ _ => ov_move rfl) ?_
    refine WQ_guardOn rfl rfl ?_
    refine WQ_v rfl (fun _ _ => ov_index rfl rfl st_sl_int hX.sl hke) ?_
    refine WQ_guardOn rfl rfl ?_
    refine WQ_v rfl (fun _ hH => ov_load rfl one_int (hX.cell hH (i := 2) rfl hke)) ?_
    refine WQ_guardOn rfl rfl ?_
    refine WQ_v rfl (fun _ _ => ov_move rfl) ?_
    refine WQ_guardOn rfl rfl ?_
    refine WQ_v rfl (fun _ _ => ov_eql rfl rfl) ?_
    refine WQ_guardOn rfl rfl ?_
    refine WQ_v rfl (fun _ _ => ov_move rfl) ?_
    refine WQ_guardOn rfl rfl ?_
    refine WQ_v rfl (fun _ _ => ov_move rfl) ?_
    refine WQ_guardOn rfl rfl ?_
    refine WQ_call rfl rfl cf_laws_hasInt (fun _ hH => hasInt_ok hH (hE.rdl (i := 0) rfl) _) ?_
    refine WQ_guardOn rfl rfl ?_
    refine WQ_v rfl (fun _ _ => ov_F (ov_neqB rfl rfl Try.underlying4) (by rw [hiff]; simp)) ?_
    refine WQ_v rfl (fun _ _ => ov_pickF rfl rfl) ?_
    refine WQ_nil ?_
    intro w5 hH
    refine WT_condF rfl ?_
    refine WT_skip ?_
    refine WT_inBlock ?_
    refine WT_region ?_
    refine WL_v rfl (ov_move rfl) ?_
    refine WL_v rfl (ov_add rfl rfl (by omega)) ?_
    refine WL_v rfl (ov_assign rfl) ?_
    refine WL_nil ?_
    refine again (k + 1) _ _ (by omega) (by repeat (first | exact trivial | refine ⟨rfl, ?_⟩)) ⟨by omega, hH⟩
  first | with_reducible replace hc := of_decide_eq_false hc | with_reducible replace hc := bn_F hc | with_reducible replace hc := bb_F hc | skip
  refine WT_exit rfl ?_
  refine WT_seq ?_
  refine WT_region ?_
  refine WL_v rfl (ov_assign rfl) ?_
  refine WL_nil ?_
  exact WT_ret1 Try.func8 Try.results8 rfl ⟨rfl, (hH.weak hle).drop.drop.drop⟩
end
end Go.Proofs.Ytolmmncjeebghaa
