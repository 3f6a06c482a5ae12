/- Plain laws: a path costs at most all, at least each node, and is as long as there are levels; what workers need at least. -/
import Derived.Test.YtmcedghgincaaaaPlC
import Derived.Test.YtmcedghgincaaaaPlF
namespace Go.Proofs.Ytmcedghgincaaaa

theorem mostOf_le {l : List Int} {b : Int} (hb : 0 ≤ b) (h : ∀ a ∈ l, a ≤ b) : mostOf l ≤ b := foldl_max_le (fun a => a) b l 0 hb h
theorem le_mostOf {l : List Int} {a : Int} (h : a ∈ l) : a ≤ mostOf l := (le_foldl_max (fun a => a) l 0).2 a h
theorem mostOf_nonneg (l : List Int) : 0 ≤ mostOf l := (le_foldl_max (fun a => a) l 0).1
theorem mostOf_eq (l : List Int) : mostOf l = 0 ∨ mostOf l ∈ l := by
  rcases foldl_max_eq (fun a : Int => a) l 0 with h | ⟨a, ha, h⟩
  · exact .inl h
  · exact .inr (by unfold mostOf; rw [h]; exact ha)
theorem pathsTo_len (p : List Nd) (k : Nat) : (pathsTo p k).length = k := progTo_len _ _ _
theorem levelsTo_len (p : List Nd) (k : Nat) : (levelsTo p k).length = k := progTo_len _ _ _

theorem pathsTo_le_sum (p : List Nd) : ∀ k, ∀ a ∈ pathsTo p k, a ≤ sumTo p k
  | 0 => by simp [pathsTo, progTo]
  | k + 1 => by
    intro a ha
    have h1 := kindCost_rg (p.getD k default).kind
    have h0 := sumTo_rg p k
    simp only [pathsTo, progTo, List.mem_append, List.mem_singleton] at ha
    simp only [sumTo]
    rcases ha with ha | rfl
    · have := pathsTo_le_sum p k a ha; omega
    · have h3 : upOf 0 (pathsTo p k) (p.getD k default).frm ≤ sumTo p k := upOf_le (by omega) fun f _ => by
        rcases getD_mem_or (pathsTo p k) f.toNat with h | h
        · rw [h]; omega
        · have := pathsTo_le_sum p k _ h; omega
      simp only [pathsTo] at h3
      omega
theorem path_le_all (p : List Nd) : mostOf (pathsTo p p.length) ≤ sumTo p p.length := mostOf_le (by have := sumTo_rg p p.length; omega) (pathsTo_le_sum p _)
theorem pathsTo_getD {p : List Nd} {i k : Nat} (h : i < k) : (pathsTo p k).getD i 0 = upOf 0 (pathsTo p i) (p.getD i default).frm + kindCost (p.getD i default).kind := progTo_getD h
theorem levelsTo_getD {p : List Nd} {i k : Nat} (h : i < k) : (levelsTo p k).getD i 0 = upOf 1 (levelsTo p i) (p.getD i default).frm := progTo_getD h
theorem getD_mem {l : List Int} {i : Nat} (h : i < l.length) : l.getD i 0 ∈ l := by rw [getD_elem h]; exact List.getElem_mem h
theorem cost_le_path {p : List Nd} {i : Nat} (h : i < p.length) : kindCost p[i].kind ≤ mostOf (pathsTo p p.length) := by
  have h1 := pathsTo_getD (p := p) h
  have h2 := upOf_nonneg 0 (pathsTo p i) (p.getD i default).frm
  have h3 := le_mostOf (getD_mem (l := pathsTo p p.length) (i := i) (by rw [pathsTo_len]; exact h))
  rw [getD_of h] at h1 h2
  omega
/-- A level is less than the path to it. -/
theorem level_lt_path {p : List Nd} (hv : planOk p = true) : ∀ i, i < p.length → (levelsTo p p.length).getD i 0 + 1 ≤ (pathsTo p p.length).getD i 0 := by
  intro i
  induction i using Nat.strongRecOn with
  | _ i ih =>
    intro hi
    rw [levelsTo_getD hi, pathsTo_getD hi]
    have hc := kindCost_rg (p.getD i default).kind
    have hn := upOf_nonneg 0 (pathsTo p i) (p.getD i default).frm
    have : upOf 1 (levelsTo p i) (p.getD i default).frm ≤ upOf 0 (pathsTo p i) (p.getD i default).frm := upOf_le hn fun f hf => by
      have h1 := frm_pos hv hi f hf
      have h2 := le_upOf (c := 0) (ps := pathsTo p i) hf
      have h3 := ih f.toNat (by omega) (by omega)
      have h4 : (levelsTo p i).getD f.toNat 0 = (levelsTo p p.length).getD f.toNat 0 := progTo_same (by omega) (by omega)
      have h5 : (pathsTo p i).getD f.toNat 0 = (pathsTo p p.length).getD f.toNat 0 := progTo_same (by omega) (by omega)
      omega
    omega
/-- How many levels there are. -/
def levCount (p : List Nd) : Int := mostOf ((levelsTo p p.length).map (· + 1))
theorem levCount_le_path {p : List Nd} (hv : planOk p = true) : levCount p ≤ mostOf (pathsTo p p.length) := by
  refine mostOf_le (mostOf_nonneg _) fun a ha => ?_
  obtain ⟨b, hb, rfl⟩ := List.mem_map.1 ha
  obtain ⟨i, hi, rfl⟩ := List.mem_iff_getElem.1 hb
  rw [levelsTo_len] at hi
  have h1 := level_lt_path hv i hi
  have h2 := le_mostOf (getD_mem (l := pathsTo p p.length) (i := i) (by rw [pathsTo_len]; exact hi))
  rw [getD_elem (by rw [levelsTo_len]; exact hi)] at h1
  omega

/-- What workers need at least. -/
def leastOf (p : List Nd) (m : Int) : Int := max (mostOf (pathsTo p p.length)) ((sumTo p p.length + m - 1) / m)
def costLeast (p : List Nd) (m : Int) : Int := if planOk p = true ∧ 1 ≤ m ∧ m ≤ 4 then leastOf p m else -1
theorem leastOf_rg (p : List Nd) {m : Int} (h1 : 1 ≤ m) (h4 : m ≤ 4) : 0 ≤ leastOf p m ∧ leastOf p m ≤ 4 * p.length ∧ mostOf (pathsTo p p.length) ≤ leastOf p m ∧ sumTo p p.length ≤ leastOf p m * m ∧ (leastOf p m = mostOf (pathsTo p p.length) ∨ (leastOf p m - 1) * m < sumTo p p.length) := by
  have ha := sumTo_rg p p.length
  have hb := path_le_all p
  have hc := mostOf_nonneg (pathsTo p p.length)
  unfold leastOf
  have hm : m = 1 ∨ m = 2 ∨ m = 3 ∨ m = 4 := by omega
  rcases hm with rfl | rfl | rfl | rfl <;> omega
theorem leastOf_one (p : List Nd) : leastOf p 1 = sumTo p p.length := by
  have hb := path_le_all p
  unfold leastOf
  omega
theorem leastOf_more (p : List Nd) {m : Int} (h1 : 1 ≤ m) (h4 : m ≤ 3) : leastOf p (m + 1) ≤ leastOf p m := by
  have ha := sumTo_rg p p.length
  unfold leastOf
  have hm : m = 1 ∨ m = 2 ∨ m = 3 := by omega
  rcases hm with rfl | rfl | rfl <;> omega
end Go.Proofs.Ytmcedghgincaaaa
