/- Plain laws: a plan of some nodes alone. -/
import Derived.Test.YtmcedghgincaaaaPlL
import Derived.Test.YtmcedghgincaaaaPlG
namespace Go.Proofs.Ytmcedghgincaaaa

/-- Of the first nodes, how many are kept. -/
def numK (K : Nat → Bool) (i : Nat) : Nat := ((List.range i).filter K).length
theorem numK_zero (K : Nat → Bool) : numK K 0 = 0 := rfl
theorem numK_succ (K : Nat → Bool) (i : Nat) : numK K (i + 1) = numK K i + if K i = true then 1 else 0 := by
  unfold numK
  rw [List.range_succ, List.filter_append, List.length_append, List.filter_cons]
  by_cases h : K i = true <;> simp [h]
theorem numK_mono {K : Nat → Bool} {i j : Nat} (h : i ≤ j) : numK K i ≤ numK K j := by
  induction j with
  | zero => rw [show i = 0 by omega]; exact Nat.le_refl _
  | succ j ih =>
    rcases Nat.lt_or_ge i (j + 1) with h1 | h1
    · have := ih (by omega); rw [numK_succ]; omega
    · rw [show i = j + 1 by omega]; exact Nat.le_refl _
theorem numK_lt {K : Nat → Bool} {i j : Nat} (h : i < j) (hi : K i = true) : numK K i < numK K j := by
  have h1 := numK_mono (K := K) (i := i + 1) (j := j) h
  rw [numK_succ, if_pos hi] at h1
  omega
theorem numK_le (K : Nat → Bool) (i : Nat) : numK K i ≤ i := by
  have := List.length_filter_le K (List.range i)
  simpa [numK] using this
/-- One more is kept. -/
theorem numK_add {K : Nat → Bool} {a : Nat} (h : K a = false) : ∀ n, numK (fun b => K b || decide (b = a)) n = numK K n + if a < n then 1 else 0
  | 0 => rfl
  | n + 1 => by
    rw [numK_succ, numK_succ, numK_add h n]
    by_cases h1 : n = a
    · subst h1
      rw [h]
      simp
    · have h2 : (if a < n then 1 else 0) = (if a < n + 1 then 1 else 0) := by
        by_cases h3 : a < n
        · rw [if_pos h3, if_pos (by omega)]
        · rw [if_neg h3, if_neg (by omega)]
      simp only [h1, decide_false, Bool.or_false]
      omega
theorem filter_ten {N : Nat} (hN : N ≤ 10) {S : Nat → Bool} (hS : ∀ a, S a = true → a < N) : (List.range 10).filter S = (List.range N).filter S := by
  rw [show 10 = N + (10 - N) by omega, List.range_add, List.filter_append]
  have h : List.filter S (List.map (fun x => N + x) (List.range (10 - N))) = [] := List.filter_eq_nil_iff.2 fun a ha hs => by
    obtain ⟨b, _, rfl⟩ := List.mem_map.1 ha
    have := hS _ hs
    omega
  rw [h, List.append_nil]

/-- A node with the numbers of those that it needs. -/
def cutNode (K : Nat → Bool) (x : Nd) : Nd := ⟨x.kind, x.frm.map fun f => ((numK K f.toNat : Nat) : Int), x.row⟩
/-- The first nodes' plan of those that are kept. -/
def cutTo (p : List Nd) (K : Nat → Bool) (n : Nat) : List Nd := ((List.range n).filter K).map fun i => cutNode K (p.getD i default)
/-- The numbers, or -1. -/
def numsTo (K : Nat → Bool) (n : Nat) : List Int := (List.range n).map fun i => if K i = true then ((numK K i : Nat) : Int) else -1
theorem cutTo_succ (p : List Nd) (K : Nat → Bool) (n : Nat) : cutTo p K (n + 1) = cutTo p K n ++ if K n = true then [cutNode K (p.getD n default)] else [] := by
  unfold cutTo
  rw [List.range_succ, List.filter_append, List.map_append, List.filter_cons]
  by_cases h : K n = true <;> simp [h]
theorem cutTo_len (p : List Nd) (K : Nat → Bool) (n : Nat) : (cutTo p K n).length = numK K n := by simp [cutTo, numK]
theorem cutTo_getD {p : List Nd} {K : Nat → Bool} {i : Nat} (hi : K i = true) : ∀ {n : Nat}, i < n → (cutTo p K n).getD (numK K i) default = cutNode K (p.getD i default)
  | n + 1, h => by
    rw [cutTo_succ, List.getD_eq_getElem?_getD]
    rcases Nat.lt_or_ge i n with h1 | h1
    · rw [List.getElem?_append_left (by rw [cutTo_len]; exact numK_lt h1 hi), ← List.getD_eq_getElem?_getD]
      exact cutTo_getD hi h1
    · obtain rfl : i = n := by omega
      rw [List.getElem?_append_right (by rw [cutTo_len]; exact Nat.le_refl _), cutTo_len, if_pos hi, Nat.sub_self]
      rfl
theorem cut_at {K : Nat → Bool} {j : Nat} : ∀ {n : Nat}, j < numK K n → ∃ i, i < n ∧ K i = true ∧ numK K i = j
  | n + 1, h => by
    rw [numK_succ] at h
    rcases Nat.lt_or_ge j (numK K n) with h1 | h1
    · obtain ⟨i, h2, h3, h4⟩ := cut_at h1
      exact ⟨i, by omega, h3, h4⟩
    · by_cases h2 : K n = true
      · rw [if_pos h2] at h
        exact ⟨n, by omega, h2, by omega⟩
      · rw [if_neg h2] at h; omega
theorem wideOf_eq {W : Nat} : ∀ {l : List Nd}, (∀ x ∈ l, x.kind = 0 → x.row.length = W) → (∃ x ∈ l, x.kind = 0) → wideOf l = W
  | [], _, h => by obtain ⟨x, hx, _⟩ := h; simp at hx
  | x :: r, h1, h2 => by
    unfold wideOf
    by_cases h : x.kind = 0
    · rw [if_pos h]; exact h1 x (by simp) h
    · rw [if_neg h]
      refine wideOf_eq (fun y hy => h1 y (by simp [hy])) ?_
      obtain ⟨y, hy, hk⟩ := h2
      rcases List.mem_cons.1 hy with rfl | hy
      · exact absurd hk h
      · exact ⟨y, hy, hk⟩

/-- What is needed is kept. -/
def ClK (p : List Nd) (K : Nat → Bool) : Prop := ∀ i, i < p.length → K i = true → ∀ f ∈ (p.getD i default).frm, K f.toNat = true

theorem nodeOk_of {x : Nd} {i wide : Nat} (h1 : (x.frm.length : Int) = kindNeeds x.kind) (h2 : rowOk x.row = true) (h3 : ∀ f ∈ x.frm, 0 ≤ f ∧ f < (i : Int)) (h4 : x.kind = 0 → x.row.length = wide) (h5 : x.kind ≠ 0 → x.row = []) : nodeOk x i wide = true := by
  unfold nodeOk
  simp only [Bool.and_eq_true, decide_eq_true_eq, List.all_eq_true]
  refine ⟨⟨⟨h1.symm, h2⟩, fun f hf => by have := h3 f hf; omega⟩, ?_⟩
  by_cases h0 : x.kind = 0
  · rw [if_pos h0, decide_eq_true_eq]; exact h4 h0
  · rw [if_neg h0, decide_eq_true_eq, h5 h0]; rfl
theorem cut_ok {p : List Nd} (hv : planOk p = true) {K : Nat → Bool} (hK : ClK p K) : planOk (cutTo p K p.length) = true := by
  refine (planOk_iff _).2 ⟨by have := PlanOk.len hv; have := numK_le K p.length; rw [cutTo_len]; omega, fun j hj => ?_⟩
  have hj' := hj
  rw [cutTo_len] at hj'
  obtain ⟨i, hi, hk, he⟩ := cut_at hj'
  have hx : (cutTo p K p.length)[j] = cutNode K (p.getD i default) := by rw [← getD_of hj, ← he]; exact cutTo_getD hk hi
  rw [hx, getD_of hi]
  have hN := PlanOk.node hv hi
  have hfr := frm_pos hv hi
  rw [getD_of hi] at hfr
  have hcl := hK i hi hk
  rw [getD_of hi] at hcl
  refine nodeOk_of (by simpa [cutNode] using hN.len) hN.row (fun g hg => ?_) (fun h0 => ?_) hN.none_
  · obtain ⟨f, hf, rfl⟩ := List.mem_map.1 hg
    have h1 := hfr f hf
    have h2 := numK_lt (K := K) (i := f.toNat) (j := i) (by omega) (hcl f hf)
    omega
  · refine (hN.wide h0).trans (wideOf_eq (W := wideOf p) (fun x hx => ?_) ⟨(cutTo p K p.length)[j], List.getElem_mem hj, ?_⟩).symm
    · obtain ⟨i2, hi2, rfl⟩ := List.mem_map.1 hx
      have hi3 := List.mem_range.1 (List.mem_filter.1 hi2).1
      intro hk2
      have := (PlanOk.node hv hi3).wide
      rw [← getD_of hi3] at this
      exact this hk2
    · rw [hx, getD_of hi]; exact h0

theorem upOf_map (c : Int) (ps : List Int) (g : Int → Int) (l : List Int) : upOf c ps (l.map g) = l.foldl (fun n f => max n (ps.getD (g f).toNat 0 + c)) 0 := by
  unfold upOf
  rw [List.foldl_map]
theorem foldl_max_congr {α : Type} (g g' : α → Int) : ∀ (l : List α) (m : Int), (∀ f ∈ l, g f = g' f) → l.foldl (fun n f => max n (g f)) m = l.foldl (fun n f => max n (g' f)) m
  | [], _, _ => rfl
  | x :: r, m, h => by
    simp only [List.foldl_cons]
    rw [h x (by simp)]
    exact foldl_max_congr g g' r _ fun f hf => h f (by simp [hf])
/-- A path to a kept node costs what it does in the whole plan. -/
theorem cut_path {p : List Nd} (hv : planOk p = true) {K : Nat → Bool} (hK : ClK p K) : ∀ i, i < p.length → K i = true → (pathsTo (cutTo p K p.length) (cutTo p K p.length).length).getD (numK K i) 0 = (pathsTo p p.length).getD i 0 := by
  intro i
  induction i using Nat.strongRecOn with
  | _ i ih =>
    intro hi hk
    have hfr := frm_pos hv hi
    have hcl := hK i hi hk
    have hj : numK K i < (cutTo p K p.length).length := by rw [cutTo_len]; exact numK_lt hi hk
    rw [pathsTo_getD hj, pathsTo_getD hi, cutTo_getD hk hi]
    show upOf 0 _ ((p.getD i default).frm.map fun f => ((numK K f.toNat : Nat) : Int)) + _ = _
    rw [upOf_map]
    congr 1
    refine foldl_max_congr _ _ _ _ fun f hf => ?_
    have h1 := hfr f hf
    have h2 := ih f.toNat (by omega) (by omega) (hcl f hf)
    have h3 := numK_lt (K := K) (i := f.toNat) (j := i) (by omega) (hcl f hf)
    rw [Int.toNat_natCast]
    have h4 : (pathsTo (cutTo p K p.length) (numK K i)).getD (numK K f.toNat) 0 = (pathsTo (cutTo p K p.length) (cutTo p K p.length).length).getD (numK K f.toNat) 0 := progTo_same h3 (by omega)
    have h5 : (pathsTo p i).getD f.toNat 0 = (pathsTo p p.length).getD f.toNat 0 := progTo_same (by omega) (by omega)
    rw [h4, h5, h2]
theorem cut_most_le {p : List Nd} (hv : planOk p = true) {K : Nat → Bool} (hK : ClK p K) {b : Int} (hb : 0 ≤ b) (h : ∀ i, i < p.length → K i = true → (pathsTo p p.length).getD i 0 ≤ b) : mostOf (pathsTo (cutTo p K p.length) (cutTo p K p.length).length) ≤ b := by
  refine mostOf_le hb fun a ha => ?_
  obtain ⟨j, hj, rfl⟩ := List.mem_iff_getElem.1 ha
  have hj' := hj
  rw [pathsTo_len, cutTo_len] at hj'
  obtain ⟨i, hi, hk, he⟩ := cut_at hj'
  rw [← getD_elem hj, ← he, cut_path hv hK i hi hk]
  exact h i hi hk
theorem le_cut_most {p : List Nd} (hv : planOk p = true) {K : Nat → Bool} (hK : ClK p K) {i : Nat} (hi : i < p.length) (hk : K i = true) : (pathsTo p p.length).getD i 0 ≤ mostOf (pathsTo (cutTo p K p.length) (cutTo p K p.length).length) := by
  rw [← cut_path hv hK i hi hk]
  exact le_mostOf (getD_mem (by rw [pathsTo_len, cutTo_len]; exact numK_lt hi hk))
theorem path_pos (p : List Nd) {i : Nat} (hi : i < p.length) : 0 ≤ (pathsTo p p.length).getD i 0 := by
  rw [pathsTo_getD hi]
  have := kindCost_rg (p.getD i default).kind
  have := upOf_nonneg 0 (pathsTo p i) (p.getD i default).frm
  omega
theorem path_up {p : List Nd} (hv : planOk p = true) {i : Nat} (hi : i < p.length) {f : Int} (hf : f ∈ (p.getD i default).frm) : (pathsTo p p.length).getD f.toNat 0 ≤ upOf 0 (pathsTo p i) (p.getD i default).frm := by
  have h1 := frm_pos hv hi f hf
  have h2 := le_upOf (c := 0) (ps := pathsTo p i) hf
  have h5 : (pathsTo p i).getD f.toNat 0 = (pathsTo p p.length).getD f.toNat 0 := progTo_same (by omega) (by omega)
  omega
theorem Rch.frm {p : List Nd} (hv : planOk p = true) {i g : Nat} (h : Rch p i g) : ∃ f ∈ (p.getD i default).frm, f.toNat = g ∨ Rch p f.toNat g := by
  have hi := h.lt hv
  have hn := fun f h => (frm_pos hv hi.2 f h).1
  cases h with
  | one hf =>
    refine ⟨(g : Int), (mem_needTo' hn).1 hf, .inl (by omega)⟩
  | step hf hr => exact ⟨_, (mem_needTo' hn).1 hf, .inr (by rw [Int.toNat_natCast]; exact hr)⟩
theorem Rch.path {p : List Nd} (hv : planOk p = true) {i g : Nat} (h : Rch p i g) : (pathsTo p p.length).getD g 0 ≤ upOf 0 (pathsTo p i) (p.getD i default).frm := by
  induction i using Nat.strongRecOn with
  | _ i ih =>
    have hi := h.lt hv
    obtain ⟨f, hf, h1⟩ := h.frm hv
    have h2 := path_up hv hi.2 hf
    have h3 := frm_pos hv hi.2 f hf
    rcases h1 with h1 | h1
    · rw [← h1]; exact h2
    · have h4 := ih f.toNat (by omega) h1
      have h5 := pathsTo_getD (p := p) (i := f.toNat) (k := p.length) (by omega)
      have h6 := kindCost_rg (p.getD f.toNat default).kind
      omega

/-- Kept are some nodes and what they need. -/
def Keep (p : List Nd) (L : List Int) (a : Nat) : Prop := ∃ s ∈ L, s.toNat = a ∨ Rch p s.toNat a
theorem Keep.need {p : List Nd} (hv : planOk p = true) {L : List Int} {a : Nat} (h : Keep p L a) (ha : a < p.length) {f : Int} (hf : f ∈ (p.getD a default).frm) : Keep p L f.toNat := by
  have h1 : f.toNat ∈ needTo (p.getD a default).frm := (mem_needTo' fun f h => (frm_pos hv ha f h).1).2 (by have := frm_pos hv ha f hf; rw [show (f.toNat : Int) = f by omega]; exact hf)
  obtain ⟨s, hs, h2⟩ := h
  refine ⟨s, hs, .inr ?_⟩
  rcases h2 with rfl | h2
  · exact .one h1
  · exact h2.trans (.one h1)
theorem Keep.clK {p : List Nd} (hv : planOk p = true) {L : List Int} {K : Nat → Bool} (hK : ∀ a, K a = true ↔ Keep p L a) : ClK p K := fun _ hi hk _ hf => (hK _).2 (((hK _).1 hk).need hv hi hf)
/-- What is closed and has all of a list keeps them all. -/
theorem Keep.sub {p : List Nd} (hv : planOk p = true) {L : List Int} {K : Nat → Bool} (hL : ∀ s ∈ L, 0 ≤ s ∧ s < (p.length : Int)) (hcl : ClK p K) (h : ∀ s ∈ L, K s.toNat = true) {a : Nat} (ha : Keep p L a) : K a = true := by
  obtain ⟨s, hs, h2⟩ := ha
  rcases h2 with rfl | h2
  · exact h s hs
  · have : ∀ i, i < p.length → K i = true → Rch p i a → K a = true := by
      intro i
      induction i using Nat.strongRecOn with
      | _ i ih =>
        intro hi hk hr
        obtain ⟨f, hf, h3⟩ := hr.frm hv
        have h4 := hcl i hi hk f hf
        have h5 := frm_pos hv hi f hf
        rcases h3 with h3 | h3
        · rw [← h3]; exact h4
        · exact ih f.toNat (by omega) (by omega) h4 h3
    exact this s.toNat (by have := hL s hs; omega) (h s hs) h2
/-- A node comes behind what it needs. -/
theorem cut_node {p : List Nd} (hv : planOk p = true) {a : Nat} (ha : a < p.length) {K1 K2 : Nat → Bool} (h1 : ∀ i, K1 i = true ↔ Keep p [(a : Int)] i) (h2 : ∀ i, K2 i = true ↔ Keep p ((needsL p a).map fun (j : Nat) => (j : Int)) i) :
    mostOf (pathsTo (cutTo p K1 p.length) (cutTo p K1 p.length).length) = mostOf (pathsTo (cutTo p K2 p.length) (cutTo p K2 p.length).length) + kindCost (p.getD a default).kind := by
  have hc1 := Keep.clK hv h1
  have hc2 := Keep.clK hv h2
  have hk1 : ∀ i, K1 i = true ↔ i = a ∨ Rch p a i := fun i => by
    rw [h1]
    constructor
    · rintro ⟨s, hs, h⟩
      obtain rfl := List.mem_singleton.1 hs
      rw [Int.toNat_natCast] at h
      exact h.imp (fun h => h.symm) id
    · intro h
      exact ⟨_, List.mem_singleton.2 rfl, by rw [Int.toNat_natCast]; exact h.imp (fun h => h.symm) id⟩
  have hk2 : ∀ i, K2 i = true ↔ Rch p a i := fun i => by
    rw [h2]
    constructor
    · rintro ⟨s, hs, h⟩
      obtain ⟨j, hj, rfl⟩ := List.mem_map.1 hs
      have hr := (mem_needsL hv).1 hj
      rw [Int.toNat_natCast] at h
      rcases h with rfl | h
      · exact hr
      · exact hr.trans h
    · intro h
      exact ⟨(i : Int), List.mem_map.2 ⟨i, (mem_needsL hv).2 h, rfl⟩, .inl (by omega)⟩
  have hpa := pathsTo_getD (p := p) ha
  have hkc := kindCost_rg (p.getD a default).kind
  have hup := upOf_nonneg 0 (pathsTo p a) (p.getD a default).frm
  have e1 : mostOf (pathsTo (cutTo p K1 p.length) (cutTo p K1 p.length).length) = (pathsTo p p.length).getD a 0 := by
    apply Int.le_antisymm
    · refine cut_most_le hv hc1 (path_pos p ha) fun i hi hk => ?_
      rcases (hk1 i).1 hk with rfl | hr
      · exact Int.le_refl _
      · have := hr.path hv; omega
    · exact le_cut_most hv hc1 ha ((hk1 a).2 (.inl rfl))
  have e2 : mostOf (pathsTo (cutTo p K2 p.length) (cutTo p K2 p.length).length) = upOf 0 (pathsTo p a) (p.getD a default).frm := by
    apply Int.le_antisymm
    · exact cut_most_le hv hc2 hup fun i hi hk => ((hk2 i).1 hk).path hv
    · refine upOf_le (mostOf_nonneg _) fun f hf => ?_
      have h3 := frm_pos hv ha f hf
      have h4 : f.toNat ∈ needTo (p.getD a default).frm := (mem_needTo' fun f h => (frm_pos hv ha f h).1).2 (by rw [show (f.toNat : Int) = f by omega]; exact hf)
      have h5 := le_cut_most hv hc2 (i := f.toNat) (by omega) ((hk2 _).2 (.one h4))
      have h6 : (pathsTo p a).getD f.toNat 0 = (pathsTo p p.length).getD f.toNat 0 := progTo_same (by omega) (by omega)
      omega
  rw [e1, e2, hpa]
end Go.Proofs.Ytmcedghgincaaaa
