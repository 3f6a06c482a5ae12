/- Plain laws: until when a row is needed, how many are kept, places. -/
import Derived.Test.YtmcedghgincaaaaPlA
namespace Go.Proofs.Ytmcedghgincaaaa

/-- A number written at several places. -/
def setAll (ys : List Int) (a : Int) (l : List Int) : List Int := l.foldl (fun y f => y.set f.toNat a) ys
theorem setAll_len (a : Int) : ∀ (l ys : List Int), (setAll ys a l).length = ys.length
  | [], _ => rfl
  | f :: l, ys => by simp only [setAll, List.foldl_cons]; exact (setAll_len a l (ys.set f.toNat a)).trans (by simp)
theorem setAll_snoc (ys : List Int) (a : Int) (l : List Int) (f : Int) : setAll ys a (l ++ [f]) = (setAll ys a l).set f.toNat a := by simp [setAll]
theorem setAll_get (a : Int) : ∀ (l ys : List Int) (i : Nat), (∀ f ∈ l, 0 ≤ f) → (setAll ys a l)[i]? = if (i : Int) ∈ l ∧ i < ys.length then some a else ys[i]?
  | [], ys, i, _ => by simp [setAll]
  | f :: l, ys, i, h => by
    simp only [List.mem_cons, forall_eq_or_imp] at h
    have := setAll_get a l (ys.set f.toNat a) i h.2
    simp only [setAll, List.foldl_cons] at this ⊢
    rw [this, List.length_set, List.getElem?_set]
    by_cases h3 : (i : Int) = f
    · have h4 : f.toNat = i := by omega
      rw [if_pos h4, h4]
      by_cases h2 : i < ys.length
      · simp [h2, h3]
      · have : ys[i]? = none := List.getElem?_eq_none (by omega)
        simp [h2]
    · have h4 : f.toNat ≠ i := by omega
      simp [h3, h4]

/-- For each node the last one that needs it, or itself, after some nodes. -/
def endsTo (p : List Nd) : Nat → List Int
  | 0 => []
  | k + 1 => setAll (endsTo p k ++ [(k : Int)]) k (p.getD k default).frm
theorem endsTo_len (p : List Nd) : ∀ k, (endsTo p k).length = k
  | 0 => rfl
  | k + 1 => by simp [endsTo, setAll_len, endsTo_len p k]

/-- How many of the first nodes are still needed at one. -/
def live (E : List Int) (i : Nat) : Nat → Int
  | 0 => 0
  | j + 1 => live E i j + (if (i : Int) ≤ E.getD j 0 then 1 else 0)
theorem live_rg (E : List Int) (i : Nat) : ∀ j : Nat, 0 ≤ live E i j ∧ live E i j ≤ j
  | 0 => by simp [live]
  | j + 1 => by
    have := live_rg E i j
    simp only [live]
    split <;> omega
/-- How many rows are kept at once at most. -/
def rowsTo (E : List Int) : Nat → Int
  | 0 => 0
  | i + 1 => max (rowsTo E i) (1 + live E i i)
theorem rowsTo_rg (E : List Int) : ∀ i : Nat, 0 ≤ rowsTo E i ∧ rowsTo E i ≤ i
  | 0 => by simp [rowsTo]
  | i + 1 => by
    have := rowsTo_rg E i
    have := live_rg E i i
    simp only [rowsTo]
    omega

/-- Two nodes may not have one place. -/
def clash (E pl : List Int) (i k : Nat) : Prop := (i : Int) ≤ E.getD k 0 ∧ pl.getD k 0 = pl.getD i 0
instance (E pl : List Int) (i k : Nat) : Decidable (clash E pl i k) := by unfold clash; infer_instance
def placeOk (E pl : List Int) (i : Nat) : Prop := 0 ≤ pl.getD i 0 ∧ ∀ k, k < i → ¬ clash E pl i k
instance (E pl : List Int) (i : Nat) : Decidable (placeOk E pl i) := by unfold placeOk; infer_instance
def fitsPl (p : List Nd) (pl : List Int) : Bool := planOk p && decide (pl.length = p.length ∧ ∀ i, i < p.length → placeOk (endsTo p p.length) pl i)
theorem fitsPl_bad {p : List Nd} {pl : List Int} {i : Nat} (hi : i < p.length) (h : ¬ placeOk (endsTo p p.length) pl i) : fitsPl p pl = false := by
  unfold fitsPl
  rw [decide_eq_false (fun h2 => h (h2.2 i hi)), Bool.and_false]
theorem getD_elem {l : List Int} {i : Nat} (h : i < l.length) : l.getD i 0 = l[i] := by simp [List.getD_eq_getElem?_getD, List.getElem?_eq_getElem h]
end Go.Proofs.Ytmcedghgincaaaa
