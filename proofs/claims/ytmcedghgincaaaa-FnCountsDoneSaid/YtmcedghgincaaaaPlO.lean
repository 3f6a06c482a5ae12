/- Plain laws: who is told, in order; sums of counts. -/
import Derived.Test.YtmcedghgincaaaaPlN
namespace Go.Proofs.Ytmcedghgincaaaa

/-- Of the first nodes, who is told. -/
def toldTo (p : List Nd) (c : List Int) (a : Int) (k : Nat) : List Nat := (List.range k).filter fun i => decide (a ∈ (p.getD i default).frm) && decide (c.getD i 0 = 1)
theorem toldTo_succ (p : List Nd) (c : List Int) (a : Int) (k : Nat) : toldTo p c a (k + 1) = toldTo p c a k ++ (if a ∈ (p.getD k default).frm ∧ c.getD k 0 = 1 then [k] else []) := by
  unfold toldTo
  rw [List.range_succ, List.filter_append, List.filter_cons, List.filter_nil]
  by_cases h1 : a ∈ (p.getD k default).frm <;> by_cases h2 : c.getD k 0 = 1 <;> simp [h1, h2]
theorem toldTo_prefix (p : List Nd) (c : List Int) (a : Int) {k n : Nat} (h : k ≤ n) : ∃ r, toldTo p c a n = toldTo p c a k ++ r := by
  induction n with
  | zero => exact ⟨[], by rw [show k = 0 by omega]; simp⟩
  | succ n ih =>
    rcases Nat.lt_or_ge k (n + 1) with h1 | h1
    · obtain ⟨r, hr⟩ := ih (by omega)
      exact ⟨r ++ _, by rw [toldTo_succ, hr, List.append_assoc]⟩
    · exact ⟨[], by rw [show k = n + 1 by omega]; simp⟩
/-- Who is told next. -/
theorem toldTo_at {p : List Nd} {c : List Int} {a : Int} {k : Nat} (hk : k < p.length) (h : a ∈ (p.getD k default).frm ∧ c.getD k 0 = 1) : ∃ hl : (toldTo p c a k).length < (doneR p c a).length, (doneR p c a)[(toldTo p c a k).length] = k := by
  obtain ⟨r, hr⟩ := toldTo_prefix p c a (k := k + 1) (n := p.length) (by omega)
  have hd : doneR p c a = toldTo p c a k ++ (k :: r) := by
    show toldTo p c a p.length = _
    rw [hr, toldTo_succ, if_pos h]; simp
  have hl : (toldTo p c a k).length < (doneR p c a).length := by rw [hd]; simp
  refine ⟨hl, ?_⟩
  simp only [hd]
  rw [List.getElem_append_right (Nat.le_refl _)]
  simp
theorem doneR_len_le (p : List Nd) (c : List Int) (a : Nat) : (doneR p c (a : Int)).length ≤ (usersTo p p.length a).length := by
  rw [← doneR_eq]
  exact List.length_filter_le _ _
/-- How many of the first nodes need it. -/
theorem sum_users (p : List Nd) (a : Nat) : ∀ k, ((usersTo p (k + 1) a).length : Int) = (usersTo p k a).length + (if (a : Int) ∈ (p.getD k default).frm then 1 else 0) := fun k => by
  rw [usersTo_succ']
  split <;> simp
end Go.Proofs.Ytmcedghgincaaaa
