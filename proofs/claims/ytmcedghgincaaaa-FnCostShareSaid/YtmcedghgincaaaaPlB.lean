/- Plain: who needs whom. -/
import Derived.Test.YtmcedghgincaaaaPlA
namespace Go.Proofs.Ytmcedghgincaaaa

def addN (acc : List Nat) (f : Nat) : List Nat := if f ∈ acc then acc else acc ++ [f]
/-- What a node needs itself, each once, in the order of the first time. -/
def needTo (l : List Int) : List Nat := l.foldl (fun a f => addN a f.toNat) []
theorem needTo_snoc (l : List Int) (f : Int) : needTo (l ++ [f]) = addN (needTo l) f.toNat := by simp [needTo]
theorem mem_addN {a f : Nat} {l : List Nat} : a ∈ addN l f ↔ a ∈ l ∨ a = f := by
  unfold addN
  split
  · rename_i h
    constructor
    · exact .inl
    · rintro (h1 | rfl)
      · exact h1
      · exact h
  · simp
theorem mem_foldl_addN {a : Nat} : ∀ (l : List Int) (acc : List Nat), a ∈ l.foldl (fun a f => addN a f.toNat) acc ↔ a ∈ acc ∨ ∃ f ∈ l, a = f.toNat
  | [], acc => by simp
  | f :: l, acc => by
    rw [List.foldl_cons, mem_foldl_addN l]
    rw [mem_addN]
    constructor
    · rintro ((h | h) | ⟨g, hg, h⟩)
      · exact .inl h
      · exact .inr ⟨f, by simp, h⟩
      · exact .inr ⟨g, by simp [hg], h⟩
    · rintro (h | ⟨g, hg, h⟩)
      · exact .inl (.inl h)
      · rcases List.mem_cons.1 hg with rfl | hg
        · exact .inl (.inr h)
        · exact .inr ⟨g, hg, h⟩
theorem mem_needTo {a : Nat} {l : List Int} : a ∈ needTo l ↔ ∃ f ∈ l, a = f.toNat := by
  unfold needTo
  rw [mem_foldl_addN]
  simp
theorem mem_needTo' {a : Nat} {l : List Int} (hl : ∀ f ∈ l, 0 ≤ f) : a ∈ needTo l ↔ (a : Int) ∈ l := by
  rw [mem_needTo]
  constructor
  · rintro ⟨f, hf, rfl⟩
    rw [Int.toNat_of_nonneg (hl f hf)]; exact hf
  · intro h
    exact ⟨_, h, by simp⟩
theorem addN_len (l : List Nat) (f : Nat) : (addN l f).length ≤ l.length + 1 := by unfold addN; split <;> simp
theorem needTo_len (l : List Int) : (needTo l).length ≤ l.length := by
  have key : ∀ (l : List Int) (acc : List Nat), (l.foldl (fun a f => addN a f.toNat) acc).length ≤ acc.length + l.length := by
    intro l
    induction l with
    | nil => intro acc; simp
    | cons f l ih =>
      intro acc
      rw [List.foldl_cons]
      have h1 := ih (addN acc f.toNat)
      have h2 := addN_len acc f.toNat
      simp only [List.length_cons]
      omega
  simpa [needTo] using key l []

/-- All of the first k nodes that need node i, in order. -/
def usersTo (p : List Nd) (k i : Nat) : List Nat := (List.range k).filter fun j => decide ((i : Int) ∈ (p.getD j default).frm)
theorem usersTo_len (p : List Nd) (k i : Nat) : (usersTo p k i).length ≤ k := by
  have := List.length_filter_le (fun j => decide ((i : Int) ∈ (p.getD j default).frm)) (List.range k)
  simpa [usersTo] using this
theorem usersTo_succ {p : List Nd} {k : Nat} (hk : k < p.length) (hn : ∀ f ∈ p[k].frm, 0 ≤ f) (i : Nat) :
    usersTo p (k + 1) i = usersTo p k i ++ (if i ∈ needTo p[k].frm then [k] else []) := by
  have h2 : decide ((i : Int) ∈ (p.getD k default).frm) = decide (i ∈ needTo p[k].frm) := by rw [getD_of hk]; exact decide_eq_decide.2 (mem_needTo' hn).symm
  simp only [usersTo, List.range_succ, List.filter_append, List.filter_cons, List.filter_nil, h2]
  by_cases h : i ∈ needTo p[k].frm <;> simp [h]
theorem mem_usersTo {p : List Nd} {k i j : Nat} : j ∈ usersTo p k i ↔ j < k ∧ (i : Int) ∈ (p.getD j default).frm := by simp [usersTo]

end Go.Proofs.Ytmcedghgincaaaa
