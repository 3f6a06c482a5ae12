/- Plain laws: what a node needs, directly or not. -/
import Derived.Test.YtmcedghgincaaaaPlI
import Derived.Test.YtmcedghgincaaaaPlJ
namespace Go.Proofs.Ytmcedghgincaaaa

/-- A node needs another one, directly or not. -/
inductive Rch (p : List Nd) : Nat → Nat → Prop
  | one {i f : Nat} : f ∈ needTo (p.getD i default).frm → Rch p i f
  | step {i f g : Nat} : f ∈ needTo (p.getD i default).frm → Rch p f g → Rch p i g
theorem need_lt {p : List Nd} (hv : planOk p = true) {i f : Nat} (h : f ∈ needTo (p.getD i default).frm) : f < i ∧ i < p.length := by
  rcases Nat.lt_or_ge i p.length with hi | hi
  · have := (mem_users_needs hv hi).2 h
    exact ⟨usersTo_gt hv (Nat.le_refl _) this, hi⟩
  · rw [getD_default_of hi] at h
    simp [needTo, default] at h
theorem Rch.lt {p : List Nd} (hv : planOk p = true) {i g : Nat} (h : Rch p i g) : g < i ∧ i < p.length := by
  induction h with
  | one h => exact need_lt hv h
  | step h _ ih => have := need_lt hv h; omega
theorem Rch.trans {p : List Nd} {i f g : Nat} (h : Rch p i f) (h2 : Rch p f g) : Rch p i g := by
  induction h with
  | one h => exact .step h h2
  | step h _ ih => exact .step h (ih h2)
theorem need_lev {p : List Nd} (hv : planOk p = true) {i f : Nat} (h : f ∈ needTo (p.getD i default).frm) : lev p f < lev p i := by
  have h1 := need_lt hv h
  have hf := frm_pos hv h1.2
  have hm := (mem_needTo' fun f h => (hf f h).1).1 h
  have h2 := le_upOf (c := 1) (ps := levelsTo p i) hm
  have h3 : lev p i = upOf 1 (levelsTo p i) (p.getD i default).frm := levelsTo_getD h1.2
  have h4 : (levelsTo p i).getD f 0 = lev p f := progTo_same h1.1 (by omega)
  rw [Int.toNat_natCast, h4] at h2
  omega
theorem Rch.lev {p : List Nd} (hv : planOk p = true) {i g : Nat} (h : Rch p i g) : lev p g < lev p i := by
  induction h with
  | one h => exact need_lev hv h
  | step h _ ih => have := need_lev hv h; omega
/-- At least as many are needed as the level says. -/
theorem rch_many {p : List Nd} (hv : planOk p = true) : ∀ i, i < p.length → ∃ L : List Nat, L.Nodup ∧ (∀ a ∈ L, Rch p i a) ∧ (L.length : Int) = Go.Proofs.Ytmcedghgincaaaa.lev p i := by
  intro i
  induction i using Nat.strongRecOn with
  | _ i ih =>
    intro hi
    rcases Int.lt_or_le 0 (Go.Proofs.Ytmcedghgincaaaa.lev p i) with h0 | h0
    · obtain ⟨f, hf, hm, hl⟩ := lev_down hv hi h0
      obtain ⟨L, h1, h2, h3⟩ := ih f hf (by omega)
      have hfm : f ∈ needTo (p.getD i default).frm := (mem_needTo' fun f h => (frm_pos hv hi f h).1).2 hm
      refine ⟨f :: L, List.nodup_cons.2 ⟨fun h => ?_, h1⟩, fun a ha => ?_, by simp only [List.length_cons]; omega⟩
      · have := (h2 f h).lt hv; omega
      · rcases List.mem_cons.1 ha with rfl | ha
        · exact .one hfm
        · exact .step hfm (h2 a ha)
    · exact ⟨[], by simp, by simp, by have := lev_nonneg p i; simp; omega⟩

open Classical in
/-- All that a node needs, in order. -/
noncomputable def needsL (p : List Nd) (i : Nat) : List Nat := (List.range p.length).filter fun a => decide (Rch p i a)
open Classical in
noncomputable def rchB (p : List Nd) (i a : Nat) : Bool := decide (Rch p i a)
theorem rchB_iff {p : List Nd} {i a : Nat} : rchB p i a = true ↔ Rch p i a := by simp [rchB]
theorem mem_needsL {p : List Nd} (hv : planOk p = true) {i a : Nat} : a ∈ needsL p i ↔ Rch p i a := by
  simp only [needsL, List.mem_filter, List.mem_range, decide_eq_true_eq]
  exact ⟨fun h => h.2, fun h => ⟨by have := h.lt hv; omega, h⟩⟩
theorem needsL_len (p : List Nd) (i : Nat) : (needsL p i).length ≤ p.length := by
  have := List.length_filter_le (fun a => @decide (Rch p i a) (Classical.propDecidable _)) (List.range p.length)
  simpa [needsL] using this
theorem needsL_many {p : List Nd} (hv : planOk p = true) {i : Nat} (hi : i < p.length) : lev p i ≤ (needsL p i).length := by
  obtain ⟨L, h1, h2, h3⟩ := rch_many hv i hi
  have := h1.length_le_of_subset (l₂ := needsL p i) fun a ha => (mem_needsL hv).2 (h2 a ha)
  omega
/-- The same among ten places. -/
theorem needsL_ten {p : List Nd} (hv : planOk p = true) (i : Nat) {S : Nat → Bool} (hS : ∀ a, S a = true ↔ Rch p i a) : (List.range 10).filter S = needsL p i := by
  have hlen := PlanOk.len hv
  have he : (fun a => @decide (Rch p i a) (Classical.propDecidable _)) = S := by
    funext a
    cases h : S a with
    | true => exact @decide_eq_true _ (Classical.propDecidable _) ((hS a).1 h)
    | false => exact @decide_eq_false _ (Classical.propDecidable _) fun hr => by rw [(hS a).2 hr] at h; cases h
  unfold needsL
  rw [he]
  have key : ∀ m, p.length ≤ m → (List.range m).filter S = (List.range p.length).filter S := by
    intro m
    induction m with
    | zero => intro h; rw [show p.length = 0 by omega]
    | succ m ih =>
      intro h
      rcases Nat.lt_or_ge m p.length with h1 | h1
      · rw [show p.length = m + 1 by omega]
      · rw [List.range_succ, List.filter_append, ih h1, List.filter_cons, if_neg (fun hh => by have := ((hS m).1 hh).lt hv; omega), List.filter_nil, List.append_nil]
  exact key 10 hlen

/-- What a search marks: closed below the node that is searched. -/
structure Marked (p : List Nd) (i : Nat) (S S' : Nat → Bool) : Prop where
  mono : ∀ a, S a = true → S' a = true
  new : ∀ a, S' a = true → S a = true ∨ Rch p i a
  shut : ∀ a, S' a = true → a < i → ∀ f ∈ needTo (p.getD a default).frm, S' f = true
theorem Marked.one {p : List Nd} (hv : planOk p = true) {i : Nat} {S S' : Nat → Bool} (hM : Marked p i S S') (h0 : ∀ a, S a = false) (hn : ∀ f ∈ needTo (p.getD i default).frm, S' f = true) : ∀ a, S' a = true ↔ Rch p i a := fun a => by
  constructor
  · intro h
    rcases hM.new a h with h1 | h1
    · rw [h0] at h1; cases h1
    · exact h1
  · intro h
    have key : ∀ {b a : Nat}, Rch p b a → (b = i ∨ (S' b = true ∧ b < i)) → S' a = true := by
      intro b a h
      induction h with
      | one hm =>
        rintro (he | ⟨h1, h2⟩)
        · rw [he] at hm; exact hn _ hm
        · exact hM.shut _ h1 h2 _ hm
      | step hm _ ih =>
        have hlt := need_lt hv hm
        rintro (he | ⟨h1, h2⟩)
        · rw [he] at hm hlt; exact ih (.inr ⟨hn _ hm, hlt.1⟩)
        · exact ih (.inr ⟨hM.shut _ h1 h2 _ hm, by omega⟩)
    exact key h (.inl rfl)
end Go.Proofs.Ytmcedghgincaaaa
