/- Plain laws: lists that grow node by node; sums, paths, levels. -/
import Derived.Test.YtmcedghgincaaaaPlA
namespace Go.Proofs.Ytmcedghgincaaaa

theorem kindCost_rg (k : Int) : 1 ≤ kindCost k ∧ kindCost k ≤ 4 := by
  unfold kindCost
  split
  · omega
  · split <;> omega

/-- What the first nodes cost. -/
def sumTo (p : List Nd) : Nat → Int
  | 0 => 0
  | k + 1 => sumTo p k + kindCost (p.getD k default).kind
theorem sumTo_rg (p : List Nd) : ∀ k : Nat, (k : Int) ≤ sumTo p k ∧ sumTo p k ≤ 4 * k
  | 0 => by simp [sumTo]
  | k + 1 => by
    have := sumTo_rg p k
    have := kindCost_rg (p.getD k default).kind
    simp only [sumTo]
    omega

/-- A list that grows node by node. -/
def progTo (g : List Int → Nd → Int) (p : List Nd) : Nat → List Int
  | 0 => []
  | k + 1 => progTo g p k ++ [g (progTo g p k) (p.getD k default)]
theorem progTo_len (g : List Int → Nd → Int) (p : List Nd) : ∀ k, (progTo g p k).length = k
  | 0 => rfl
  | k + 1 => by simp [progTo, progTo_len g p k]
theorem progTo_get {g : List Int → Nd → Int} {p : List Nd} {i : Nat} : ∀ {k : Nat}, i < k → (progTo g p k)[i]? = some (g (progTo g p i) (p.getD i default))
  | k + 1, h => by
    simp only [progTo]
    rcases Nat.lt_or_ge i k with h1 | h1
    · rw [List.getElem?_append_left (by rw [progTo_len]; exact h1), progTo_get h1]
    · obtain rfl : i = k := by omega
      rw [List.getElem?_append_right (by rw [progTo_len]; omega), progTo_len]
      simp
theorem progTo_getD {g : List Int → Nd → Int} {p : List Nd} {i k : Nat} (h : i < k) : (progTo g p k).getD i 0 = g (progTo g p i) (p.getD i default) := by
  rw [List.getD_eq_getElem?_getD, progTo_get h]; rfl
theorem progTo_same {g : List Int → Nd → Int} {p : List Nd} {i j k : Nat} (h : i < k) (h2 : i < j) : (progTo g p k).getD i 0 = (progTo g p j).getD i 0 := by
  rw [progTo_getD h, progTo_getD h2]

/-- The most of what is behind: c more than each. -/
def upOf (c : Int) (ps : List Int) (l : List Int) : Int := l.foldl (fun n f => max n (ps.getD f.toNat 0 + c)) 0
theorem upOf_snoc (c : Int) (ps l : List Int) (f : Int) : upOf c ps (l ++ [f]) = max (upOf c ps l) (ps.getD f.toNat 0 + c) := by simp [upOf]
theorem le_foldl_max {α : Type} (g : α → Int) : ∀ (l : List α) (m : Int), m ≤ l.foldl (fun n f => max n (g f)) m ∧ (∀ f ∈ l, g f ≤ l.foldl (fun n f => max n (g f)) m)
  | [], m => by simp
  | x :: r, m => by
    have := le_foldl_max g r (max m (g x))
    simp only [List.foldl_cons, List.mem_cons, forall_eq_or_imp]
    refine ⟨by omega, by omega, this.2⟩
theorem foldl_max_le {α : Type} (g : α → Int) (b : Int) : ∀ (l : List α) (m : Int), m ≤ b → (∀ f ∈ l, g f ≤ b) → l.foldl (fun n f => max n (g f)) m ≤ b
  | [], m, h, _ => h
  | x :: r, m, h, hl => by
    simp only [List.mem_cons, forall_eq_or_imp] at hl
    exact foldl_max_le g b r (max m (g x)) (by omega) hl.2
theorem foldl_max_eq {α : Type} (g : α → Int) : ∀ (l : List α) (m : Int), l.foldl (fun n f => max n (g f)) m = m ∨ ∃ f ∈ l, l.foldl (fun n f => max n (g f)) m = g f
  | [], m => .inl rfl
  | x :: r, m => by
    simp only [List.foldl_cons, List.mem_cons, exists_eq_or_imp]
    rcases foldl_max_eq g r (max m (g x)) with h | ⟨f, hf, h⟩
    · rw [h]
      rcases Int.le_total m (g x) with h1 | h1
      · exact .inr (.inl (by omega))
      · exact .inl (by omega)
    · exact .inr (.inr ⟨f, hf, h⟩)
theorem upOf_nonneg (c : Int) (ps l : List Int) : 0 ≤ upOf c ps l := (le_foldl_max _ l 0).1
theorem upOf_le {c b : Int} {ps l : List Int} (hb : 0 ≤ b) (h : ∀ f ∈ l, ps.getD f.toNat 0 + c ≤ b) : upOf c ps l ≤ b := foldl_max_le _ b l 0 hb h
theorem le_upOf {c : Int} {ps l : List Int} {f : Int} (h : f ∈ l) : ps.getD f.toNat 0 + c ≤ upOf c ps l := (le_foldl_max _ l 0).2 f h

/-- What a path to each node costs; levels. -/
def pathsTo (p : List Nd) (k : Nat) : List Int := progTo (fun ps x => upOf 0 ps x.frm + kindCost x.kind) p k
def levelsTo (p : List Nd) (k : Nat) : List Int := progTo (fun ps x => upOf 1 ps x.frm) p k
def mostOf (l : List Int) : Int := l.foldl (fun n f => max n f) 0
theorem mostOf_snoc (l : List Int) (a : Int) : mostOf (l ++ [a]) = max (mostOf l) a := by simp [mostOf]

theorem getD_mem_or (l : List Int) (i : Nat) : l.getD i 0 = 0 ∨ l.getD i 0 ∈ l := by
  rw [List.getD_eq_getElem?_getD]
  cases h : l[i]? with
  | none => exact .inl rfl
  | some a => exact .inr (List.mem_of_getElem? h)
theorem pathsTo_rg (p : List Nd) : ∀ k, ∀ a ∈ pathsTo p k, 1 ≤ a ∧ a ≤ 4 * k
  | 0 => by simp [pathsTo, progTo]
  | k + 1 => by
    intro a ha
    simp only [pathsTo, progTo, List.mem_append, List.mem_singleton] at ha
    rcases ha with ha | rfl
    · have := pathsTo_rg p k a ha; omega
    · have h1 := kindCost_rg (p.getD k default).kind
      have h2 := upOf_nonneg 0 (pathsTo p k) (p.getD k default).frm
      have h3 : upOf 0 (pathsTo p k) (p.getD k default).frm ≤ 4 * (k : Int) := upOf_le (by omega) fun f _ => by
        rcases getD_mem_or (pathsTo p k) f.toNat with h | h
        · rw [h]; omega
        · have := pathsTo_rg p k _ h; omega
      simp only [pathsTo] at h2 h3
      omega
theorem levelsTo_rg (p : List Nd) : ∀ k, ∀ a ∈ levelsTo p k, 0 ≤ a ∧ a ≤ k
  | 0 => by simp [levelsTo, progTo]
  | k + 1 => by
    intro a ha
    simp only [levelsTo, progTo, List.mem_append, List.mem_singleton] at ha
    rcases ha with ha | rfl
    · have := levelsTo_rg p k a ha; omega
    · have h2 := upOf_nonneg 1 (levelsTo p k) (p.getD k default).frm
      have h3 : upOf 1 (levelsTo p k) (p.getD k default).frm ≤ (k + 1 : Int) := upOf_le (by omega) fun f _ => by
        rcases getD_mem_or (levelsTo p k) f.toNat with h | h
        · rw [h]; omega
        · have := levelsTo_rg p k _ h; omega
      simp only [levelsTo] at h2 h3
      omega
end Go.Proofs.Ytmcedghgincaaaa
