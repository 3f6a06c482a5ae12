/- Plain laws: a queue of nodes in whose order all that a node needs is behind it; its levels. -/
import Derived.Test.YtmcedghgincaaaaPlB
import Derived.Test.YtmcedghgincaaaaPlC
namespace Go.Proofs.Ytmcedghgincaaaa

/-- The greatest value of some nodes, one more, or 0. -/
structure Top (S : Nat → Prop) (v : Nat → Int) (m : Int) : Prop where
  is : m = 0 ∨ ∃ f, S f ∧ m = v f + 1
  nn : 0 ≤ m
  ge : ∀ f, S f → v f + 1 ≤ m
theorem Top.uniq {S : Nat → Prop} {v : Nat → Int} {m n : Int} (hv : ∀ f, S f → 0 ≤ v f) (hm : Top S v m) (hn : Top S v n) : m = n := by
  have h1 := hm.nn
  have h2 := hn.nn
  rcases hm.is with h3 | ⟨f, hf, h3⟩
  · rcases hn.is with h4 | ⟨f, hf, h4⟩
    · omega
    · have := hm.ge f hf
      have := hv f hf
      omega
  · have h5 := hn.ge f hf
    rcases hn.is with h4 | ⟨f', hf', h4⟩
    · have := hv f hf
      omega
    · have := hm.ge f' hf'
      omega
theorem Top.none {S : Nat → Prop} {v : Nat → Int} (h : ∀ f, ¬ S f) : Top S v 0 := ⟨.inl rfl, by omega, fun f hf => absurd hf (h f)⟩
theorem Top.congr {S S' : Nat → Prop} {v : Nat → Int} {m : Int} (hm : Top S v m) (h : ∀ f, S f ↔ S' f) : Top S' v m :=
  ⟨hm.is.imp id fun ⟨f, hf, e⟩ => ⟨f, (h f).1 hf, e⟩, hm.nn, fun f hf => hm.ge f ((h f).2 hf)⟩
theorem Top.add {S : Nat → Prop} {v : Nat → Int} {m : Int} (hm : Top S v m) (x : Nat) (hx : 0 ≤ v x) : Top (fun f => S f ∨ f = x) v (max m (v x + 1)) := by
  have := hm.nn
  refine ⟨?_, by omega, fun f hf => ?_⟩
  · rcases Int.le_total (v x + 1) m with h | h
    · rw [Int.max_eq_left h]
      exact hm.is.imp id fun ⟨f, hf, e⟩ => ⟨f, .inl hf, e⟩
    · rw [Int.max_eq_right h]
      exact .inr ⟨x, .inr rfl, rfl⟩
  · rcases hf with hf | rfl
    · have := hm.ge f hf; omega
    · omega
/-- The level of a node is such a greatest value. -/
theorem top_upOf (ps : List Int) (l : List Int) (h0 : ∀ f ∈ l, 0 ≤ f) : Top (fun f => (f : Int) ∈ l) (fun f => ps.getD f 0) (upOf 1 ps l) := by
  refine ⟨?_, upOf_nonneg _ _ _, fun f hf => ?_⟩
  · rcases foldl_max_eq (fun f : Int => ps.getD f.toNat 0 + 1) l 0 with h | ⟨f, hf, h⟩
    · exact .inl h
    · have := h0 f hf
      exact .inr ⟨f.toNat, by rw [show (f.toNat : Int) = f by omega]; exact hf, h⟩
  · have := le_upOf (c := 1) (ps := ps) hf
    simpa using this
end Go.Proofs.Ytmcedghgincaaaa
