/- Plain laws: nodes that do the same. -/
import Derived.Test.YtmcedghgincaaaaPlQ
namespace Go.Proofs.Ytmcedghgincaaaa

/-- A row of six, or its front and noughts. -/
def padRow (r : List Int) : List Int := (r ++ List.replicate 6 0).take 6
theorem padRow_len (r : List Int) : (padRow r).length = 6 := by simp [padRow]
/-- The firsts of what a node needs. -/
def keyA (x : Nd) (fs : List Int) : Int := match x.frm with | f :: _ => fs.getD f.toNat 0 | [] => -1
def keyB (x : Nd) (fs : List Int) : Int := match x.frm with | _ :: g :: _ => fs.getD g.toNat 0 | _ => -1
def swapB (x : Nd) (fs : List Int) : Bool := decide ((x.kind = 1 ∨ x.kind = 2) ∧ keyB x fs < keyA x fs)
/-- What is the same for two nodes that do the same. -/
def keyL (x : Nd) (fs : List Int) : List Int := x.kind :: (if swapB x fs = true then keyB x fs else keyA x fs) :: (if swapB x fs = true then keyA x fs else keyB x fs) :: (x.row.length : Int) :: padRow x.row
theorem keyL_len (x : Nd) (fs : List Int) : (keyL x fs).length = 10 := by simp [keyL, padRow_len]
theorem keyL_congr {x : Nd} {fs gs : List Int} (h : ∀ f ∈ x.frm, fs.getD f.toNat 0 = gs.getD f.toNat 0) : keyL x fs = keyL x gs := by
  have hA : keyA x fs = keyA x gs := by
    unfold keyA
    cases hx : x.frm with
    | nil => rfl
    | cons f r => exact h f (by rw [hx]; simp)
  have hB : keyB x fs = keyB x gs := by
    unfold keyB
    cases hx : x.frm with
    | nil => rfl
    | cons f r =>
      cases r with
      | nil => rfl
      | cons g r => exact h g (by rw [hx]; simp)
  unfold keyL swapB
  rw [hA, hB]

/-- The firsts of the first nodes, and the keys that were found with them. -/
structure Shr (p : List Nd) (n : Nat) (fs : List Int) (L : List (List Int × Int)) : Prop where
  len : fs.length = n
  key : ∀ q ∈ L, ∃ j : Nat, j < n ∧ q = (keyL (p.getD j default) fs, (j : Int)) ∧ fs.getD j 0 = (j : Int)
  fst : ∀ i, i < n → (keyL (p.getD i default) fs, fs.getD i 0) ∈ L
  nd : (L.map (·.1)).Nodup
  le : ∀ i, i < n → fs.getD i 0 ≤ (i : Int)
theorem Shr.nil (p : List Nd) : Shr p 0 [] [] := ⟨rfl, by simp, by omega, by simp, by omega⟩
theorem getD_snocL {l : List Int} {a : Int} {i : Nat} (h : i < l.length) : (l ++ [a]).getD i 0 = l.getD i 0 := by
  rw [List.getD_eq_getElem?_getD, List.getD_eq_getElem?_getD, List.getElem?_append_left h]
theorem getD_snocE {l : List Int} {a : Int} : (l ++ [a]).getD l.length 0 = a := by
  rw [List.getD_eq_getElem?_getD, List.getElem?_append_right (Nat.le_refl _), Nat.sub_self]; rfl
theorem Shr.keyS {p : List Nd} (hv : planOk p = true) {n : Nat} {fs : List Int} {a : Int} (hl : fs.length = n) {i : Nat} (hi : i ≤ n) (hip : i < p.length) : keyL (p.getD i default) (fs ++ [a]) = keyL (p.getD i default) fs :=
  keyL_congr fun f hf => getD_snocL (by have := frm_pos hv hip f hf; omega)
theorem Shr.old {p : List Nd} (hv : planOk p = true) {n : Nat} {fs : List Int} {L : List (List Int × Int)} (h : Shr p n fs L) (hn : n < p.length) {j : Nat} {u : Int} (hj : L[j]? = some (keyL (p.getD n default) fs, u)) : Shr p (n + 1) (fs ++ [u]) L := by
  have hu : (fs ++ [u]).getD n 0 = u := by have := getD_snocE (l := fs) (a := u); rw [h.len] at this; exact this
  have hun : u ≤ (n : Int) := by
    obtain ⟨j, h1, h2, _⟩ := h.key _ (List.mem_of_getElem? hj)
    injection h2 with _ h5
    omega
  refine ⟨by rw [List.length_append, h.len]; rfl, fun q hq => ?_, fun i hi => ?_, h.nd, fun i hi => ?_⟩
  · obtain ⟨j, h1, h2, h3⟩ := h.key q hq
    exact ⟨j, by omega, by rw [Shr.keyS hv h.len (by omega) (by omega)]; exact h2, by rw [getD_snocL (by rw [h.len]; exact h1)]; exact h3⟩
  · rw [Shr.keyS hv h.len (by omega) (by omega)]
    rcases Nat.lt_or_ge i n with h1 | h1
    · rw [getD_snocL (by rw [h.len]; exact h1)]; exact h.fst i h1
    · obtain rfl : i = n := by omega
      rw [show (fs ++ [u]).getD i 0 = u by have := getD_snocE (l := fs) (a := u); rw [h.len] at this; exact this]
      exact List.mem_of_getElem? hj
  · rcases Nat.lt_or_ge i n with h1 | h1
    · rw [getD_snocL (by rw [h.len]; exact h1)]; exact h.le i h1
    · obtain rfl : i = n := by omega
      rw [hu]; exact hun
theorem Shr.new {p : List Nd} (hv : planOk p = true) {n : Nat} {fs : List Int} {L : List (List Int × Int)} (h : Shr p n fs L) (hn : n < p.length) (hno : ∀ q ∈ L, q.1 ≠ keyL (p.getD n default) fs) : Shr p (n + 1) (fs ++ [(n : Int)]) (L ++ [(keyL (p.getD n default) fs, (n : Int))]) := by
  have he : (fs ++ [(n : Int)]).getD n 0 = (n : Int) := by have := getD_snocE (l := fs) (a := (n : Int)); rw [h.len] at this; exact this
  refine ⟨by rw [List.length_append, h.len]; rfl, fun q hq => ?_, fun i hi => ?_, ?_, fun i hi => ?_⟩
  · rcases List.mem_append.1 hq with hq | hq
    · obtain ⟨j, h1, h2, h3⟩ := h.key q hq
      exact ⟨j, by omega, by rw [Shr.keyS hv h.len (by omega) (by omega)]; exact h2, by rw [getD_snocL (by rw [h.len]; exact h1)]; exact h3⟩
    · obtain rfl := List.mem_singleton.1 hq
      exact ⟨n, by omega, by rw [Shr.keyS hv h.len (Nat.le_refl _) hn], he⟩
  · rw [Shr.keyS hv h.len (by omega) (by omega)]
    rcases Nat.lt_or_ge i n with h1 | h1
    · rw [getD_snocL (by rw [h.len]; exact h1)]; exact List.mem_append_left _ (h.fst i h1)
    · obtain rfl : i = n := by omega
      rw [he]; exact List.mem_append_right _ (List.mem_singleton.2 rfl)
  · rw [List.map_append, List.nodup_append]
    refine ⟨h.nd, by simp, fun a ha b hb hab => ?_⟩
    obtain ⟨q, hq, rfl⟩ := List.mem_map.1 ha
    obtain rfl := List.mem_singleton.1 hb
    exact hno q hq hab
  · rcases Nat.lt_or_ge i n with h1 | h1
    · rw [getD_snocL (by rw [h.len]; exact h1)]; exact h.le i h1
    · obtain rfl : i = n := by omega
      rw [he]; exact Int.le_refl _
/-- The first of a node: not behind it, its own first, with the same key. -/
theorem Shr.first {p : List Nd} {n : Nat} {fs : List Int} {L : List (List Int × Int)} (h : Shr p n fs L) {i : Nat} (hi : i < n) : ∃ j : Nat, fs.getD i 0 = (j : Int) ∧ j ≤ i ∧ fs.getD j 0 = (j : Int) ∧ keyL (p.getD i default) fs = keyL (p.getD j default) fs := by
  obtain ⟨j, h1, h2, h3⟩ := h.key _ (h.fst i hi)
  injection h2 with h4 h5
  exact ⟨j, h5, by have := h.le i hi; omega, h3, h4⟩
end Go.Proofs.Ytmcedghgincaaaa
