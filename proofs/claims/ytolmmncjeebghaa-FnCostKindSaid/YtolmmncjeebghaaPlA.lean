/- Plain definitions: kinds, nodes, plans. No program in sight. -/
import Derived.Test.YtolmmncjeebghaaSlD
namespace Go.Proofs.Ytolmmncjeebghaa

def kindOk (k : Int) : Bool := decide (0 ≤ k ∧ k ≤ 5)
/-- How many rows a kind needs. -/
def kindNeeds (k : Int) : Int := if k = 0 then 0 else if k = 1 ∨ k = 2 then 2 else if k = 3 ∨ k = 4 ∨ k = 5 then 1 else -1
/-- What a kind costs, if there is such a kind. -/
def kindCost (k : Int) : Int := if k = 0 ∨ k = 5 then 1 else if k = 4 then 4 else 2
def costKind (k : Int) : Int := if kindOk k then kindCost k else -1

theorem kindOk_iff (k : Int) : kindOk k = true ↔ (k = 0 ∨ k = 1 ∨ k = 2 ∨ k = 3 ∨ k = 4 ∨ k = 5) := by
  simp only [kindOk, decide_eq_true_eq]; omega
theorem kindCases (k : Int) : k = 0 ∨ k = 1 ∨ k = 2 ∨ k = 3 ∨ k = 4 ∨ k = 5 ∨ kindOk k = false := by
  by_cases h : kindOk k = true
  · have := (kindOk_iff k).1 h; omega
  · simp at h; exact .inr (.inr (.inr (.inr (.inr (.inr h)))))

end Go.Proofs.Ytolmmncjeebghaa
