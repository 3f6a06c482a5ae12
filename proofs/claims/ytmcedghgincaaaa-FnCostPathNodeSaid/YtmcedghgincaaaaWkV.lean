/- Walks: the draw of a plan and a node. -/
import Derived.Test.YtmcedghgincaaaaWkO
namespace Go.Proofs.Ytmcedghgincaaaa
open Go.RowKit

section
variable {h : GH} {Ls : List Heaplet} {w : World}

theorem l91At_ok {g : Nat} {bv : Value} {p0 : Nat} {bs : List Int} (hH : H w h (rdr g bv p0 :: Ls)) (hB : Bytes h bv bs) (hp : p0 ≤ 100000) :
    Rets Try.prog 90 #[.pointer (some ⟨g, 0, none⟩)] w fun v w' => ∃ pv p O Is p' a, v = .tuple #[pv, .int .i64 a] ∧ -1 ≤ a ∧ a ≤ 11 ∧ OPlan O Is pv p ∧ p.length ≤ 11 ∧ p' ≤ p0 + 5000 ∧ H w' h (rdr g bv p' :: O :: (Is ++ Ls)) := by
  refine rets_enter Try.func90 rfl Try.ntmps90 (by simp) ?_
  refine WT_seq ?_
  refine WT_region ?_
  refine WL_v rfl (ov_assign rfl) ?_
  refine WL_v rfl (ov_assign rfl) ?_
  refine WL_nil ?_
  refine WT_seq ?_
  refine WT_region ?_
  refine WL_v rfl (ov_move rfl) ?_
  refine WL_call rfl rfl cf_spec_l91Plan (l91Plan_ok hH hB hp) ?_; rintro pv w2 ⟨p, O, Is, p', hO, hl, hp', hH2⟩
  refine WL_v rfl (ov_assign rfl) ?_
  refine WL_nil ?_
  refine WT_seq ?_
  refine WT_region ?_
  refine WL_v rfl (ov_move rfl) ?_
  refine WL_v rfl (ov_move rfl) ?_
  refine WL_v rfl (ov_move rfl) ?_
  refine WL_v rfl (ov_len rfl hO.ex.choose_spec.1.sl st_sl_impl_Node) ?_
  refine WL_v rfl (ov_as (ov_add rfl rfl (by omega)) (congrArg (Value.int .i64) ((show (p.length : Int) + 1 = ((p.length + 1 : Nat) : Int) by omega)))) ?_
  refine WL_call rfl rfl cf_p_spec_l6Rd_pick (pick_ok hH2 hB (by omega) ((p.length + 1 : Nat) : Int)) ?_; rintro _ w3 ⟨r1, rfl, hr1, hH3⟩
  refine WL_v rfl (ov_move rfl) ?_
  refine WL_call rfl rfl cf_p_spec_l6Rd_pick (pick_ok hH3 hB (by omega) 20) ?_; rintro _ w4 ⟨r2, rfl, hr2, hH4⟩
  have hr14 := hr1.1 (by omega)
  have hr24 := hr2.1 (by omega)
  refine WL_v rfl (ov_quo rfl rfl (by omega) (by omega) (by omega)) ?_
  refine WL_v rfl (ov_sub rfl rfl (by omega)) ?_
  refine WL_v rfl (ov_assign rfl) ?_
  refine WL_v rfl (ov_assign rfl) ?_
  refine WL_nil ?_
  exact WT_ret2 Try.func90 Try.results90 rfl rfl ⟨pv, p, O, Is, _, _, rfl, by omega, by omega, hO, hl, by omega, hH4⟩

/-- A drawn plan and a number, shared. -/
def DrewAt (h : GH) (Ls : List Heaplet) (v : Value) (w' : World) : Prop := ∃ pv a, v = .tuple #[pv, .int .i64 a] ∧ -1 ≤ a ∧ a ≤ 11 ∧ Drew h Ls pv w'
end
end Go.Proofs.Ytmcedghgincaaaa
