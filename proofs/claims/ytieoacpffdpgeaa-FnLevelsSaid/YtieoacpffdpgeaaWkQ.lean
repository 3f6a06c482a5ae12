/- Walks: the laws' marks: all of a list or a plan is written over, and read again. -/
import Derived.Test.YtieoacpffdpgeaaWkX
import Derived.Test.YtieoacpffdpgeaaWkY
namespace Go.Proofs.Ytieoacpffdpgeaa
open Go.RowKit

/-- Numbers from one on. -/
def marks (k : Int) (n : Nat) : List Int := (List.range n).map fun (j : Nat) => k + (j : Int)
theorem marks_len (k : Int) (n : Nat) : (marks k n).length = n := by simp [marks]
theorem marks_succ (k : Int) (n : Nat) : marks k (n + 1) = marks k n ++ [k + (n : Int)] := by simp [marks, List.range_succ]
theorem marks_get {k : Int} {n j : Nat} (h : j < (marks k n).length) : (marks k n)[j] = k + (j : Int) := by simp [marks]

section
variable {h : GH} {Ls : List Heaplet} {w : World}

/-- A node of a plan of one's own, whatever is in it. -/
def OAtW (Is : List Heaplet) (xs : List Value) (i : Nat) : Prop :=
  ∃ (kv fv rv : Value) (F R : Heaplet) (f r : List Int), xs[i * 3]? = some kv ∧ xs[i * 3 + 1]? = some fv ∧ xs[i * 3 + 2]? = some rv ∧ Is[2 * i]? = some F ∧ Is[2 * i + 1]? = some R ∧ IRow F 3 fv f ∧ IRow R 3 rv r ∧ f.length ≤ 1048576 ∧ r.length ≤ 1048576
theorem OAt.weak {Is : List Heaplet} {xs : List Value} {i : Nat} {x : Nd} (h : OAt Is xs i x) (h1 : x.frm.length ≤ 1048576) (h2 : x.row.length ≤ 1048576) : OAtW Is xs i := by
  obtain ⟨fv, rv, F, R, g1, g2, g3, g4, g5⟩ := h
  exact ⟨_, fv, rv, F, R, _, _, by simpa using g1 0 _ rfl, g1 1 _ rfl, g1 2 _ rfl, g2, g3, g4, g5, h1, h2⟩

end
end Go.Proofs.Ytieoacpffdpgeaa
