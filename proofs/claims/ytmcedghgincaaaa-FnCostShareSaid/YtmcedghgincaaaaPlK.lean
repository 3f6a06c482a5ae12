/- Plain laws: how many different nodes a node needs; rows kept. -/
import Derived.Test.YtmcedghgincaaaaPlH
import Derived.Test.YtmcedghgincaaaaPlI
namespace Go.Proofs.Ytmcedghgincaaaa

theorem lastOr_ge {l : List Nat} (h : l.Pairwise (· < ·)) {a : Nat} (ha : a ∈ l) (d : Nat) : a ≤ lastOr l d := by
  have hne : l ≠ [] := List.ne_nil_of_mem ha
  unfold lastOr
  rw [List.getLast?_eq_some_getLast hne, Option.getD_some]
  obtain ⟨i, hi, rfl⟩ := List.mem_iff_getElem.1 ha
  rw [List.getLast_eq_getElem]
  rcases Nat.lt_or_ge i (l.length - 1) with h1 | h1
  · exact Nat.le_of_lt (List.pairwise_iff_getElem.1 h i (l.length - 1) hi (by omega) h1)
  · have : i = l.length - 1 := by omega
    subst this
    exact Nat.le_refl _
theorem usersTo_asc (p : List Nd) (k i : Nat) : (usersTo p k i).Pairwise (· < ·) := List.pairwise_lt_range.filter _
theorem live_eq (E : List Int) (i : Nat) : ∀ j, live E i j = (((List.range j).filter fun a => decide ((i : Int) ≤ E.getD a 0)).length : Int)
  | 0 => rfl
  | j + 1 => by
    rw [live, live_eq E i j, List.range_succ, List.filter_append, List.length_append, List.filter_cons, List.filter_nil]
    by_cases h : (i : Int) ≤ E.getD j 0
    · rw [if_pos h, if_pos (by simpa using h)]; simp
    · rw [if_neg h, if_neg (by simpa using h)]; simp
/-- All that a node needs is still there when it is done. -/
theorem needs_live {p : List Nd} (hv : planOk p = true) {i : Nat} (hi : i < p.length) : ((needTo (p.getD i default).frm).length : Int) ≤ live (endsTo p p.length) i i := by
  rw [live_eq]
  have := (needTo_nodup (p.getD i default).frm).length_le_of_subset (l₂ := (List.range i).filter fun a => decide ((i : Int) ≤ (endsTo p p.length).getD a 0)) fun f hf => by
    have hm := (mem_users_needs hv (x := f) hi).2 hf
    have h1 := usersTo_gt hv (Nat.le_refl _) hm
    rw [List.mem_filter, List.mem_range, decide_eq_true_eq, endsTo_getD hv (Nat.le_refl _) (by omega)]
    have := lastOr_ge (usersTo_asc p p.length f) hm f
    omega
  omega
theorem needs_rows {p : List Nd} (hv : planOk p = true) {i : Nat} (hi : i < p.length) : ((needTo (p.getD i default).frm).length : Int) < rowsTo (endsTo p p.length) p.length := by
  have h1 := needs_live hv hi
  have h2 := le_rowsTo (E := endsTo p p.length) hi
  omega

/-- What of the needs is ahead of a node. -/
def cntK (p : List Nd) (k u : Nat) : Nat := ((needTo (p.getD u default).frm).filter fun f => decide (f < k)).length
theorem cntK_zero (p : List Nd) (u : Nat) : cntK p 0 u = 0 := by
  unfold cntK
  rw [List.filter_eq_nil_iff.2 (by simp)]; rfl
theorem filter_lt_succ {k : Nat} : ∀ {l : List Nat}, l.Nodup → (l.filter fun f => decide (f < k + 1)).length = (l.filter fun f => decide (f < k)).length + (if k ∈ l then 1 else 0)
  | [], _ => by simp
  | a :: l, hn => by
    rw [List.nodup_cons] at hn
    have ih := filter_lt_succ (k := k) hn.2
    simp only [List.filter_cons]
    by_cases ha : a = k
    · subst ha
      rw [if_neg hn.1] at ih
      rw [if_pos (by simp), if_neg (by simp), if_pos (by simp)]
      simp only [List.length_cons]; omega
    · have hm : (k ∈ a :: l) ↔ k ∈ l := by simp [Ne.symm ha]
      simp only [hm]
      by_cases h1 : a < k
      · rw [if_pos (by simp; omega), if_pos (by simpa using h1)]
        simp only [List.length_cons]; omega
      · rw [if_neg (by simp; omega), if_neg (by simpa using h1)]
        exact ih
theorem cntK_succ {p : List Nd} (k u : Nat) : cntK p (k + 1) u = cntK p k u + (if k ∈ needTo (p.getD u default).frm then 1 else 0) := filter_lt_succ (needTo_nodup _)
theorem cntK_all {p : List Nd} (hv : planOk p = true) (u : Nat) : cntK p p.length u = (needTo (p.getD u default).frm).length := by
  unfold cntK
  rw [List.filter_eq_self.2 fun f hf => ?_]
  rcases Nat.lt_or_ge u p.length with hu | hu
  · have := frm_pos hv hu
    have h1 := (mem_needTo' fun f h => (this f h).1).1 hf
    have := (this _ h1).2
    simp; omega
  · rw [getD_default_of hu] at hf
    simp [needTo, default, instInhabitedNd] at hf
theorem cntK_le (p : List Nd) (k u : Nat) : cntK p k u ≤ (needTo (p.getD u default).frm).length := List.length_filter_le _ _
theorem usersTo_lt' {p : List Nd} {k i j : Nat} (h : j ∈ usersTo p k i) : j < k := (mem_usersTo.1 h).1
/-- The table while users are told. -/
def tabK (p : List Nd) (k : Nat) (l : List Nat) : List Int := (List.range 10).map fun (u : Nat) => ((cntK p k u + (if u ∈ l then 1 else 0) : Nat) : Int)
theorem tabK_len (p : List Nd) (k : Nat) (l : List Nat) : (tabK p k l).length = 10 := by simp [tabK]
theorem tabK_get {p : List Nd} {k : Nat} {l : List Nat} {u : Nat} (h : u < (tabK p k l).length) : (tabK p k l)[u] = ((cntK p k u + (if u ∈ l then 1 else 0) : Nat) : Int) := by simp [tabK]
theorem tabK_zero (p : List Nd) : tabK p 0 [] = List.replicate 10 0 := by
  refine List.ext_getElem (by simp [tabK]) fun i h1 h2 => ?_
  rw [tabK_get, cntK_zero, List.getElem_replicate]
  simp
theorem tabK_snoc {p : List Nd} {k : Nat} {l : List Nat} {u : Nat} (hu : u < 10) (hl : u ∉ l) : (tabK p k l).set u ((cntK p k u : Int) + 1) = tabK p k (l ++ [u]) := by
  refine List.ext_getElem (by simp [tabK]) fun i h1 h2 => ?_
  rw [List.getElem_set, tabK_get, tabK_get]
  by_cases h : u = i
  · subst h
    simp
  · rw [if_neg h]
    simp [Ne.symm h]
theorem tabK_next {p : List Nd} (hv : planOk p = true) {k : Nat} (hk : k < p.length) : tabK p k (usersTo p p.length k) = tabK p (k + 1) [] := by
  refine List.ext_getElem (by simp [tabK]) fun i h1 h2 => ?_
  rw [tabK_get, tabK_get, cntK_succ]
  have hm : i ∈ usersTo p p.length k ↔ k ∈ needTo (p.getD i default).frm := by
    rcases Nat.lt_or_ge i p.length with hi | hi
    · exact mem_users_needs hv hi
    · rw [getD_default_of hi]
      constructor
      · intro h; have := usersTo_lt' h; omega
      · intro h; simp [needTo, default, instInhabitedNd] at h
  simp [hm]
/-- The counts of a valid plan. -/
theorem tabK_take {p : List Nd} (hv : planOk p = true) : (tabK p p.length []).take p.length = (List.range p.length).map fun (u : Nat) => ((needTo (p.getD u default).frm).length : Int) := by
  have hlen := PlanOk.len hv
  refine List.ext_getElem (by simp [tabK]; omega) fun i h1 h2 => ?_
  rw [List.getElem_take, tabK_get, cntK_all hv, List.getElem_map, List.getElem_range]
  simp
end Go.Proofs.Ytmcedghgincaaaa
