/- Plain definitions: kinds, nodes, plans. No program in sight. -/
import Derived.Test.YtmcedghgincaaaaSlD
namespace Go.Proofs.Ytmcedghgincaaaa

def kindOk (k : Int) : Bool := decide (0 ≤ k ∧ k ≤ 5)
/-- How many rows a kind needs. -/
def kindNeeds (k : Int) : Int := if k = 0 then 0 else if k = 1 ∨ k = 2 then 2 else if k = 3 ∨ k = 4 ∨ k = 5 then 1 else -1
/-- What a kind costs, if there is such a kind. -/
def kindCost (k : Int) : Int := if k = 0 ∨ k = 5 then 1 else if k = 4 then 4 else 2
def costKind (k : Int) : Int := if kindOk k then kindCost k else -1

theorem kindOk_iff (k : Int) : kindOk k = true ↔ (k = 0 ∨ k = 1 ∨ k = 2 ∨ k = 3 ∨ k = 4 ∨ k = 5) := by
  simp only [kindOk, decide_eq_true_eq]; omega
theorem kindCases (k : Int) : k = 0 ∨ k = 1 ∨ k = 2 ∨ k = 3 ∨ k = 4 ∨ k = 5 ∨ kindOk k = false := by
  by_cases h : kindOk k = true
  · have := (kindOk_iff k).1 h; omega
  · simp at h; exact .inr (.inr (.inr (.inr (.inr (.inr h)))))

/-- A row has few enough values, all in range. -/
def rowOk (r : List Int) : Bool := r.all (fun x => decide (0 ≤ x ∧ x ≤ 1008)) && decide (r.length ≤ 6)
/-- How many values the first given row has, or 0. -/
def wideOf : List Nd → Nat
  | [] => 0
  | x :: r => if x.kind = 0 then x.row.length else wideOf r
/-- A node fits at a place: its kind, what it needs, its row. -/
def nodeOk (x : Nd) (i wide : Nat) : Bool :=
  decide (kindNeeds x.kind = (x.frm.length : Int)) && rowOk x.row && x.frm.all (fun f => decide (0 ≤ f ∧ f ≤ (i : Int) - 1)) && (if x.kind = 0 then decide (x.row.length = wide) else decide (x.row.length = 0))
instance : Inhabited Nd := ⟨⟨0, [], []⟩⟩
/-- A plan is valid. -/
def planOk (p : List Nd) : Bool := (List.range p.length).all (fun i => nodeOk (p.getD i default) i (wideOf p)) && decide (p.length ≤ 10)

theorem getD_of {p : List Nd} {i : Nat} (h : i < p.length) : p.getD i default = p[i] := by simp [List.getD_eq_getElem?_getD, List.getElem?_eq_getElem h]
theorem planOk_iff (p : List Nd) : planOk p = true ↔ p.length ≤ 10 ∧ ∀ i (h : i < p.length), nodeOk p[i] i (wideOf p) = true := by
  simp only [planOk, Bool.and_eq_true, List.all_eq_true, List.mem_range, decide_eq_true_eq]
  constructor
  · rintro ⟨h1, h2⟩
    exact ⟨h2, fun i h => by rw [← getD_of h]; exact h1 i h⟩
  · rintro ⟨h1, h2⟩
    exact ⟨fun i h => by rw [getD_of h]; exact h2 i h, h1⟩
theorem planOk_bad {p : List Nd} {i : Nat} (h : i < p.length) (hb : nodeOk p[i] i (wideOf p) = false) : planOk p = false := by
  cases hp : planOk p with
  | false => rfl
  | true => rw [((planOk_iff p).1 hp).2 i h] at hb; cases hb

structure NodeOk (x : Nd) (i wide : Nat) : Prop where
  kind : kindOk x.kind = true
  len : (x.frm.length : Int) = kindNeeds x.kind
  row : rowOk x.row = true
  frm : ∀ f ∈ x.frm, 0 ≤ f ∧ f < (i : Int)
  wide : x.kind = 0 → x.row.length = wide
  none_ : x.kind ≠ 0 → x.row = []
theorem nodeOk_spec {x : Nd} {i wide : Nat} (h : nodeOk x i wide = true) : NodeOk x i wide := by
  simp only [nodeOk, Bool.and_eq_true, decide_eq_true_eq, List.all_eq_true] at h
  obtain ⟨⟨⟨h1, h2⟩, h3⟩, h4⟩ := h
  refine ⟨?_, h1.symm, h2, fun f hf => by have := h3 f hf; omega, fun hk => ?_, fun hk => ?_⟩
  · cases hk : kindOk x.kind with
    | true => rfl
    | false =>
      have : kindNeeds x.kind = -1 := by
        have : ¬ (0 ≤ x.kind ∧ x.kind ≤ 5) := by simpa [kindOk] using hk
        unfold kindNeeds
        rw [if_neg (by omega), if_neg (by omega), if_neg (by omega)]
      omega
  · rw [if_pos hk] at h4; simpa using h4
  · rw [if_neg hk] at h4
    exact List.eq_nil_of_length_eq_zero (by simpa using h4)
/-- What validity gives of each node. -/
theorem PlanOk.node {p : List Nd} (hp : planOk p = true) {i : Nat} (h : i < p.length) : NodeOk p[i] i (wideOf p) := nodeOk_spec (((planOk_iff p).1 hp).2 i h)
theorem PlanOk.len {p : List Nd} (hp : planOk p = true) : p.length ≤ 10 := ((planOk_iff p).1 hp).1
theorem kindNeeds_le (k : Int) : kindNeeds k ≤ 2 := by unfold kindNeeds; split; · omega
                                                       split; · omega
                                                       split <;> omega
theorem NodeOk.len2 {x : Nd} {i wide : Nat} (h : NodeOk x i wide) : x.frm.length ≤ 2 := by
  have := kindNeeds_le x.kind
  have := h.len
  omega

end Go.Proofs.Ytmcedghgincaaaa
