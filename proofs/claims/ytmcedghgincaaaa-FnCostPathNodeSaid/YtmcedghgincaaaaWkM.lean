/- Walks: the queue of nodes. -/
import Derived.Test.YtmcedghgincaaaaWkG
import Derived.Test.YtmcedghgincaaaaPlE
namespace Go.Proofs.Ytmcedghgincaaaa
open Go.RowKit

section
variable {h : GH} {Ls : List Heaplet} {w : World}

/-- The variable of a queue. -/
abbrev qbox (q : Nat) (qv : Value) : Heaplet := [(q, .cells #[qv] 121 (0, 0))]
/-- Nodes in a queue. -/
def QRow (Q : Heaplet) (g : Nat → Nat) (qv : Value) (l : List Nat) : Prop := Row Q 102 1 qv l.length (l.map fun j => ptr (g j))

theorem put_ok {q : Nat} {qv : Value} {Q : Heaplet} {g : Nat → Nat} {l : List Nat} (hH : H w h (qbox q qv :: Q :: Ls)) (hQ : QRow Q g qv l) (hl : l.length ≤ 1000000) (a : Nat) :
    Rets Try.prog 104 #[ptr q, ptr (g a)] w fun v w' => v = .tuple #[] ∧ ∃ qv' Q', QRow Q' g qv' (l ++ [a]) ∧ H w' h (qbox q qv' :: Q' :: Ls) := by
  refine rets_enter Try.func104 rfl Try.ntmps104 (by simp) ?_
  refine WT_region ?_
  refine WL_v rfl (ov_move rfl) ?_
  refine WL_v rfl (ov_move rfl) ?_
  refine WL_v rfl (ov_nilCheck rfl) ?_
  refine WL_v rfl (ov_field rfl fo_impl_nodeQueue_0) ?_
  refine WL_v rfl (ov_load rfl one_sl_p_impl_planNode (hH.cb 0 rfl 0)) ?_
  refine WL_v rfl (ov_move rfl) ?_
  refine WL_buildSlice (sz := 1) [ptr (g a)] rfl hH rfl (run_bs_ptr _) rfl (by omega) ?_; rintro Y yv w2 hY hH2
  refine WL_append1 (i := 2) (j := 0) (n := l.length) (m := 1) rfl hH2 rfl rfl st_sl_p_impl_planNode (by omega) rfl hQ rfl hY (ones_cons rfl ones_nil) (by omega) (by omega) ?_; rintro Q2 qv2 w3 hQ2 hH3
  refine WL_v rfl (ov_nilCheck rfl) ?_
  refine WL_v rfl (ov_field rfl fo_impl_nodeQueue_0) ?_
  refine WL_store hH3 rfl rfl (i := 1) (off := 0) rfl rfl (by simp) hQ2.sl.one sz_sl_p_impl_planNode ?_; rintro w4 hH4
  refine WL_nil ?_
  exact WT_end0 Try.func104 Try.results104 ⟨rfl, qv2, Q2, by unfold QRow; simpa using hQ2, hH4.drop⟩

theorem take_ok {q : Nat} {qv : Value} {Q : Heaplet} {g : Nat → Nat} {x : Nat} {l : List Nat} (hH : H w h (qbox q qv :: Q :: Ls)) (hQ : QRow Q g qv (x :: l)) :
    Rets Try.prog 105 #[ptr q] w fun v w' => v = ptr (g x) ∧ ∃ qv', QRow Q g qv' l ∧ H w' h (qbox q qv' :: Q :: Ls) := by
  have hcell : w.cell? ((slA qv).add (0 * 1)) = some (ptr (g x)) := hQ.cell hH (i := 1) rfl rfl
  have hr := Row.reslice hQ (lo := 1) (hi := l.length + 1) (by omega) (by simp)
  refine rets_enter Try.func105 rfl Try.ntmps105 (by simp) ?_
  refine WT_seq ?_
  refine WT_region ?_
  refine WL_v rfl (ov_assign rfl) ?_
  refine WL_nil ?_
  refine WT_seq ?_
  refine WT_region ?_
  refine WL_v rfl (ov_move rfl) ?_
  refine WL_v rfl (ov_nilCheck rfl) ?_
  refine WL_v rfl (ov_field rfl fo_impl_nodeQueue_0) ?_
  refine WL_v rfl (ov_load rfl one_sl_p_impl_planNode (hH.cb 0 rfl 0)) ?_
  refine WL_v rfl (ov_index (i := 0) rfl rfl st_sl_p_impl_planNode (Row.sl hQ) (by simp)) ?_
  refine WL_v rfl (ov_load rfl one_p_impl_planNode (hcell)) ?_
  refine WL_v rfl (ov_assign rfl) ?_
  refine WL_nil ?_
  refine WT_seq ?_
  refine WT_region ?_
  refine WL_v rfl (ov_move rfl) ?_
  refine WL_v rfl (ov_move rfl) ?_
  refine WL_v rfl (ov_nilCheck rfl) ?_
  refine WL_v rfl (ov_field rfl fo_impl_nodeQueue_0) ?_
  refine WL_v rfl (ov_load rfl one_sl_p_impl_planNode (hH.cb 0 rfl 0)) ?_
  refine WL_v rfl (ov_sliceLo rfl rfl st_sl_p_impl_planNode (Row.sl hQ) (by simp)) ?_
  refine WL_v rfl (ov_nilCheck rfl) ?_
  refine WL_v rfl (ov_field rfl fo_impl_nodeQueue_0) ?_
  refine WL_store hH rfl rfl (i := 0) (off := 0) rfl rfl (by simp) hr.sl.one sz_sl_p_impl_planNode ?_; rintro w4 hH4
  refine WL_nil ?_
  refine WT_seq ?_
  refine WT_region ?_
  refine WL_v rfl (ov_move rfl) ?_
  refine WL_v rfl (ov_assign rfl) ?_
  refine WL_nil ?_
  exact WT_ret1 Try.func105 Try.results105 rfl ⟨rfl, _, by unfold QRow; simpa [List.take_of_length_le] using hr, hH4⟩
end
end Go.Proofs.Ytmcedghgincaaaa
