/- Plain laws: a plan of some nodes alone. -/
import Derived.Test.YtafljegjdanldaaBl2
import Derived.Test.YtafljegjdanldaaSlJ
namespace Go.Proofs.Ytafljegjdanldaa

/-- Of the first nodes, how many are kept. -/
def numK (K : Nat → Bool) (i : Nat) : Nat := ((List.range i).filter K).length
theorem numK_zero (K : Nat → Bool) : numK K 0 = 0 := rfl
theorem numK_succ (K : Nat → Bool) (i : Nat) : numK K (i + 1) = numK K i + if K i = true then 1 else 0 := by
  unfold numK
  rw [List.range_succ, List.filter_append, List.length_append, List.filter_cons]
  by_cases h : K i = true <;> simp [h]
theorem numK_mono {K : Nat → Bool} {i j : Nat} (h : i ≤ j) : numK K i ≤ numK K j := by
  induction j with
  | zero => rw [show i = 0 by omega]; exact Nat.le_refl _
  | succ j ih =>
    rcases Nat.lt_or_ge i (j + 1) with h1 | h1
    · have := ih (by omega); rw [numK_succ]; omega
    · rw [show i = j + 1 by omega]; exact Nat.le_refl _
theorem numK_lt {K : Nat → Bool} {i j : Nat} (h : i < j) (hi : K i = true) : numK K i < numK K j := by
  have h1 := numK_mono (K := K) (i := i + 1) (j := j) h
  rw [numK_succ, if_pos hi] at h1
  omega
theorem numK_le (K : Nat → Bool) (i : Nat) : numK K i ≤ i := by
  have := List.length_filter_le K (List.range i)
  simpa [numK] using this
/-- One more is kept. -/
theorem numK_add {K : Nat → Bool} {a : Nat} (h : K a = false) : ∀ n, numK (fun b => K b || decide (b = a)) n = numK K n + if a < n then 1 else 0
  | 0 => rfl
  | n + 1 => by
    rw [numK_succ, numK_succ, numK_add h n]
    by_cases h1 : n = a
    · subst h1
      rw [h]
      simp
    · have h2 : (if a < n then 1 else 0) = (if a < n + 1 then 1 else 0) := by
        by_cases h3 : a < n
        · rw [if_pos h3, if_pos (by omega)]
        · rw [if_neg h3, if_neg (by omega)]
      simp only [h1, decide_false, Bool.or_false]
      omega
theorem filter_ten {N : Nat} (hN : N ≤ 10) {S : Nat → Bool} (hS : ∀ a, S a = true → a < N) : (List.range 10).filter S = (List.range N).filter S := by
  rw [show 10 = N + (10 - N) by omega, List.range_add, List.filter_append]
  have h : List.filter S (List.map (fun x => N + x) (List.range (10 - N))) = [] := List.filter_eq_nil_iff.2 fun a ha hs => by
    obtain ⟨b, _, rfl⟩ := List.mem_map.1 ha
    have := hS _ hs
    omega
  rw [h, List.append_nil]

/-- A node with the numbers of those that it needs. -/
def cutNode (K : Nat → Bool) (x : Nd) : Nd := ⟨x.kind, x.frm.map fun f => ((numK K f.toNat : Nat) : Int), x.row⟩
/-- The first nodes' plan of those that are kept. -/
def cutTo (p : List Nd) (K : Nat → Bool) (n : Nat) : List Nd := ((List.range n).filter K).map fun i => cutNode K (p.getD i default)
/-- The numbers, or -1. -/
def numsTo (K : Nat → Bool) (n : Nat) : List Int := (List.range n).map fun i => if K i = true then ((numK K i : Nat) : Int) else -1
theorem cutTo_succ (p : List Nd) (K : Nat → Bool) (n : Nat) : cutTo p K (n + 1) = cutTo p K n ++ if K n = true then [cutNode K (p.getD n default)] else [] := by
  unfold cutTo
  rw [List.range_succ, List.filter_append, List.map_append, List.filter_cons]
  by_cases h : K n = true <;> simp [h]
theorem cutTo_len (p : List Nd) (K : Nat → Bool) (n : Nat) : (cutTo p K n).length = numK K n := by simp [cutTo, numK]
theorem cutTo_getD {p : List Nd} {K : Nat → Bool} {i : Nat} (hi : K i = true) : ∀ {n : Nat}, i < n → (cutTo p K n).getD (numK K i) default = cutNode K (p.getD i default)
  | n + 1, h => by
    rw [cutTo_succ, List.getD_eq_getElem?_getD]
    rcases Nat.lt_or_ge i n with h1 | h1
    · rw [List.getElem?_append_left (by rw [cutTo_len]; exact numK_lt h1 hi), ← List.getD_eq_getElem?_getD]
      exact cutTo_getD hi h1
    · obtain rfl : i = n := by omega
      rw [List.getElem?_append_right (by rw [cutTo_len]; exact Nat.le_refl _), cutTo_len, if_pos hi, Nat.sub_self]
      rfl
theorem cut_at {K : Nat → Bool} {j : Nat} : ∀ {n : Nat}, j < numK K n → ∃ i, i < n ∧ K i = true ∧ numK K i = j
  | n + 1, h => by
    rw [numK_succ] at h
    rcases Nat.lt_or_ge j (numK K n) with h1 | h1
    · obtain ⟨i, h2, h3, h4⟩ := cut_at h1
      exact ⟨i, by omega, h3, h4⟩
    · by_cases h2 : K n = true
      · rw [if_pos h2] at h
        exact ⟨n, by omega, h2, by omega⟩
      · rw [if_neg h2] at h; omega
theorem wideOf_eq {W : Nat} : ∀ {l : List Nd}, (∀ x ∈ l, x.kind = 0 → x.row.length = W) → (∃ x ∈ l, x.kind = 0) → wideOf l = W
  | [], _, h => by obtain ⟨x, hx, _⟩ := h; simp at hx
  | x :: r, h1, h2 => by
    unfold wideOf
    by_cases h : x.kind = 0
    · rw [if_pos h]; exact h1 x (by simp) h
    · rw [if_neg h]
      refine wideOf_eq (fun y hy => h1 y (by simp [hy])) ?_
      obtain ⟨y, hy, hk⟩ := h2
      rcases List.mem_cons.1 hy with rfl | hy
      · exact absurd hk h
      · exact ⟨y, hy, hk⟩

/-- What is needed is kept. -/
def ClK (p : List Nd) (K : Nat → Bool) : Prop := ∀ i, i < p.length → K i = true → ∀ f ∈ (p.getD i default).frm, K f.toNat = true

theorem nodeOk_of {x : Nd} {i wide : Nat} (h1 : (x.frm.length : Int) = kindNeeds x.kind) (h2 : rowOk x.row = true) (h3 : ∀ f ∈ x.frm, 0 ≤ f ∧ f < (i : Int)) (h4 : x.kind = 0 → x.row.length = wide) (h5 : x.kind ≠ 0 → x.row = []) : nodeOk x i wide = true := by
  unfold nodeOk
  simp only [Bool.and_eq_true, decide_eq_true_eq, List.all_eq_true]
  refine ⟨⟨⟨h1.symm, h2⟩, fun f hf => by have := h3 f hf; omega⟩, ?_⟩
  by_cases h0 : x.kind = 0
  · rw [if_pos h0, decide_eq_true_eq]; exact h4 h0
  · rw [if_neg h0, decide_eq_true_eq, h5 h0]; rfl
theorem cut_ok {p : List Nd} (hv : planOk p = true) {K : Nat → Bool} (hK : ClK p K) : planOk (cutTo p K p.length) = true := by
  refine (planOk_iff _).2 ⟨by have := PlanOk.len hv; have := numK_le K p.length; rw [cutTo_len]; omega, fun j hj => ?_⟩
  have hj' := hj
  rw [cutTo_len] at hj'
  obtain ⟨i, hi, hk, he⟩ := cut_at hj'
  have hx : (cutTo p K p.length)[j] = cutNode K (p.getD i default) := by rw [← getD_of hj, ← he]; exact cutTo_getD hk hi
  rw [hx, getD_of hi]
  have hN := PlanOk.node hv hi
  have hfr := frm_pos hv hi
  rw [getD_of hi] at hfr
  have hcl := hK i hi hk
  rw [getD_of hi] at hcl
  refine nodeOk_of (by simpa [cutNode] using hN.len) hN.row (fun g hg => ?_) (fun h0 => ?_) hN.none_
  · obtain ⟨f, hf, rfl⟩ := List.mem_map.1 hg
    have h1 := hfr f hf
    have h2 := numK_lt (K := K) (i := f.toNat) (j := i) (by omega) (hcl f hf)
    omega
  · refine (hN.wide h0).trans (wideOf_eq (W := wideOf p) (fun x hx => ?_) ⟨(cutTo p K p.length)[j], List.getElem_mem hj, ?_⟩).symm
    · obtain ⟨i2, hi2, rfl⟩ := List.mem_map.1 hx
      have hi3 := List.mem_range.1 (List.mem_filter.1 hi2).1
      intro hk2
      have := (PlanOk.node hv hi3).wide
      rw [← getD_of hi3] at this
      exact this hk2
    · rw [hx, getD_of hi]; exact h0

theorem upOf_map (c : Int) (ps : List Int) (g : Int → Int) (l : List Int) : upOf c ps (l.map g) = l.foldl (fun n f => max n (ps.getD (g f).toNat 0 + c)) 0 := by
  unfold upOf
  rw [List.foldl_map]
theorem foldl_max_congr {α : Type} (g g' : α → Int) : ∀ (l : List α) (m : Int), (∀ f ∈ l, g f = g' f) → l.foldl (fun n f => max n (g f)) m = l.foldl (fun n f => max n (g' f)) m
  | [], _, _ => rfl
  | x :: r, m, h => by
    simp only [List.foldl_cons]
    rw [h x (by simp)]
    exact foldl_max_congr g g' r _ fun f hf => h f (by simp [hf])
/-- A path to a kept node costs what it does in the whole plan. -/
theorem cut_path {p : List Nd} (hv : planOk p = true) {K : Nat → Bool} (hK : ClK p K) : ∀ i, i < p.length → K i = true → (pathsTo (cutTo p K p.length) (cutTo p K p.length).length).getD (numK K i) 0 = (pathsTo p p.length).getD i 0 := by
  intro i
  induction i using Nat.strongRecOn with
  | _ i ih =>
    intro hi hk
    have hfr := frm_pos hv hi
    have hcl := hK i hi hk
    have hj : numK K i < (cutTo p K p.length).length := by rw [cutTo_len]; exact numK_lt hi hk
    rw [pathsTo_getD hj, pathsTo_getD hi, cutTo_getD hk hi]
    show upOf 0 _ ((p.getD i default).frm.map fun f => ((numK K f.toNat : Nat) : Int)) + _ = _
    rw [upOf_map]
    congr 1
    refine foldl_max_congr _ _ _ _ fun f hf => ?_
    have h1 := hfr f hf
    have h2 := ih f.toNat (by omega) (by omega) (hcl f hf)
    have h3 := numK_lt (K := K) (i := f.toNat) (j := i) (by omega) (hcl f hf)
    rw [Int.toNat_natCast]
    have h4 : (pathsTo (cutTo p K p.length) (numK K i)).getD (numK K f.toNat) 0 = (pathsTo (cutTo p K p.length) (cutTo p K p.length).length).getD (numK K f.toNat) 0 := progTo_same h3 (by omega)
    have h5 : (pathsTo p i).getD f.toNat 0 = (pathsTo p p.length).getD f.toNat 0 := progTo_same (by omega) (by omega)
    rw [h4, h5, h2]
theorem cut_most_le {p : List Nd} (hv : planOk p = true) {K : Nat → Bool} (hK : ClK p K) {b : Int} (hb : 0 ≤ b) (h : ∀ i, i < p.length → K i = true → (pathsTo p p.length).getD i 0 ≤ b) : mostOf (pathsTo (cutTo p K p.length) (cutTo p K p.length).length) ≤ b := by
  refine mostOf_le hb fun a ha => ?_
  obtain ⟨j, hj, rfl⟩ := List.mem_iff_getElem.1 ha
  have hj' := hj
  rw [pathsTo_len, cutTo_len] at hj'
  obtain ⟨i, hi, hk, he⟩ := cut_at hj'
  rw [← getD_elem hj, ← he, cut_path hv hK i hi hk]
  exact h i hi hk
theorem le_cut_most {p : List Nd} (hv : planOk p = true) {K : Nat → Bool} (hK : ClK p K) {i : Nat} (hi : i < p.length) (hk : K i = true) : (pathsTo p p.length).getD i 0 ≤ mostOf (pathsTo (cutTo p K p.length) (cutTo p K p.length).length) := by
  rw [← cut_path hv hK i hi hk]
  exact le_mostOf (getD_mem (by rw [pathsTo_len, cutTo_len]; exact numK_lt hi hk))
theorem path_pos (p : List Nd) {i : Nat} (hi : i < p.length) : 0 ≤ (pathsTo p p.length).getD i 0 := by
  rw [pathsTo_getD hi]
  have := kindCost_rg (p.getD i default).kind
  have := upOf_nonneg 0 (pathsTo p i) (p.getD i default).frm
  omega
theorem path_up {p : List Nd} (hv : planOk p = true) {i : Nat} (hi : i < p.length) {f : Int} (hf : f ∈ (p.getD i default).frm) : (pathsTo p p.length).getD f.toNat 0 ≤ upOf 0 (pathsTo p i) (p.getD i default).frm := by
  have h1 := frm_pos hv hi f hf
  have h2 := le_upOf (c := 0) (ps := pathsTo p i) hf
  have h5 : (pathsTo p i).getD f.toNat 0 = (pathsTo p p.length).getD f.toNat 0 := progTo_same (by omega) (by omega)
  omega
theorem Rch.frm {p : List Nd} (hv : planOk p = true) {i g : Nat} (h : Rch p i g) : ∃ f ∈ (p.getD i default).frm, f.toNat = g ∨ Rch p f.toNat g := by
  have hi := h.lt hv
  have hn := fun f h => (frm_pos hv hi.2 f h).1
  cases h with
  | one hf =>
    refine ⟨(g : Int), (mem_needTo' hn).1 hf, .inl (by omega)⟩
  | step hf hr => exact ⟨_, (mem_needTo' hn).1 hf, .inr (by rw [Int.toNat_natCast]; exact hr)⟩
theorem Rch.path {p : List Nd} (hv : planOk p = true) {i g : Nat} (h : Rch p i g) : (pathsTo p p.length).getD g 0 ≤ upOf 0 (pathsTo p i) (p.getD i default).frm := by
  induction i using Nat.strongRecOn with
  | _ i ih =>
    have hi := h.lt hv
    obtain ⟨f, hf, h1⟩ := h.frm hv
    have h2 := path_up hv hi.2 hf
    have h3 := frm_pos hv hi.2 f hf
    rcases h1 with h1 | h1
    · rw [← h1]; exact h2
    · have h4 := ih f.toNat (by omega) h1
      have h5 := pathsTo_getD (p := p) (i := f.toNat) (k := p.length) (by omega)
      have h6 := kindCost_rg (p.getD f.toNat default).kind
      omega

/-- Kept are some nodes and what they need. -/
def Keep (p : List Nd) (L : List Int) (a : Nat) : Prop := ∃ s ∈ L, s.toNat = a ∨ Rch p s.toNat a
theorem Keep.need {p : List Nd} (hv : planOk p = true) {L : List Int} {a : Nat} (h : Keep p L a) (ha : a < p.length) {f : Int} (hf : f ∈ (p.getD a default).frm) : Keep p L f.toNat := by
  have h1 : f.toNat ∈ needTo (p.getD a default).frm := (mem_needTo' fun f h => (frm_pos hv ha f h).1).2 (by have := frm_pos hv ha f hf; rw [show (f.toNat : Int) = f by omega]; exact hf)
  obtain ⟨s, hs, h2⟩ := h
  refine ⟨s, hs, .inr ?_⟩
  rcases h2 with rfl | h2
  · exact .one h1
  · exact h2.trans (.one h1)
theorem Keep.clK {p : List Nd} (hv : planOk p = true) {L : List Int} {K : Nat → Bool} (hK : ∀ a, K a = true ↔ Keep p L a) : ClK p K := fun _ hi hk _ hf => (hK _).2 (((hK _).1 hk).need hv hi hf)
/-- What is closed and has all of a list keeps them all. -/
theorem Keep.sub {p : List Nd} (hv : planOk p = true) {L : List Int} {K : Nat → Bool} (hL : ∀ s ∈ L, 0 ≤ s ∧ s < (p.length : Int)) (hcl : ClK p K) (h : ∀ s ∈ L, K s.toNat = true) {a : Nat} (ha : Keep p L a) : K a = true := by
  obtain ⟨s, hs, h2⟩ := ha
  rcases h2 with rfl | h2
  · exact h s hs
  · have : ∀ i, i < p.length → K i = true → Rch p i a → K a = true := by
      intro i
      induction i using Nat.strongRecOn with
      | _ i ih =>
        intro hi hk hr
        obtain ⟨f, hf, h3⟩ := hr.frm hv
        have h4 := hcl i hi hk f hf
        have h5 := frm_pos hv hi f hf
        rcases h3 with h3 | h3
        · rw [← h3]; exact h4
        · exact ih f.toNat (by omega) (by omega) h4 h3
    exact this s.toNat (by have := hL s hs; omega) (h s hs) h2
/-- A node comes behind what it needs. -/
theorem cut_node {p : List Nd} (hv : planOk p = true) {a : Nat} (ha : a < p.length) {K1 K2 : Nat → Bool} (h1 : ∀ i, K1 i = true ↔ Keep p [(a : Int)] i) (h2 : ∀ i, K2 i = true ↔ Keep p ((needsL p a).map fun (j : Nat) => (j : Int)) i) :
    mostOf (pathsTo (cutTo p K1 p.length) (cutTo p K1 p.length).length) = mostOf (pathsTo (cutTo p K2 p.length) (cutTo p K2 p.length).length) + kindCost (p.getD a default).kind := by
  have hc1 := Keep.clK hv h1
  have hc2 := Keep.clK hv h2
  have hk1 : ∀ i, K1 i = true ↔ i = a ∨ Rch p a i := fun i => by
    rw [h1]
    constructor
    · rintro ⟨s, hs, h⟩
      obtain rfl := List.mem_singleton.1 hs
      rw [Int.toNat_natCast] at h
      exact h.imp (fun h => h.symm) id
    · intro h
      exact ⟨_, List.mem_singleton.2 rfl, by rw [Int.toNat_natCast]; exact h.imp (fun h => h.symm) id⟩
  have hk2 : ∀ i, K2 i = true ↔ Rch p a i := fun i => by
    rw [h2]
    constructor
    · rintro ⟨s, hs, h⟩
      obtain ⟨j, hj, rfl⟩ := List.mem_map.1 hs
      have hr := (mem_needsL hv).1 hj
      rw [Int.toNat_natCast] at h
      rcases h with rfl | h
      · exact hr
      · exact hr.trans h
    · intro h
      exact ⟨(i : Int), List.mem_map.2 ⟨i, (mem_needsL hv).2 h, rfl⟩, .inl (by omega)⟩
  have hpa := pathsTo_getD (p := p) ha
  have hkc := kindCost_rg (p.getD a default).kind
  have hup := upOf_nonneg 0 (pathsTo p a) (p.getD a default).frm
  have e1 : mostOf (pathsTo (cutTo p K1 p.length) (cutTo p K1 p.length).length) = (pathsTo p p.length).getD a 0 := by
    apply Int.le_antisymm
    · refine cut_most_le hv hc1 (path_pos p ha) fun i hi hk => ?_
      rcases (hk1 i).1 hk with rfl | hr
      · exact Int.le_refl _
      · have := hr.path hv; omega
    · exact le_cut_most hv hc1 ha ((hk1 a).2 (.inl rfl))
  have e2 : mostOf (pathsTo (cutTo p K2 p.length) (cutTo p K2 p.length).length) = upOf 0 (pathsTo p a) (p.getD a default).frm := by
    apply Int.le_antisymm
    · exact cut_most_le hv hc2 hup fun i hi hk => ((hk2 i).1 hk).path hv
    · refine upOf_le (mostOf_nonneg _) fun f hf => ?_
      have h3 := frm_pos hv ha f hf
      have h4 : f.toNat ∈ needTo (p.getD a default).frm := (mem_needTo' fun f h => (frm_pos hv ha f h).1).2 (by rw [show (f.toNat : Int) = f by omega]; exact hf)
      have h5 := le_cut_most hv hc2 (i := f.toNat) (by omega) ((hk2 _).2 (.one h4))
      have h6 : (pathsTo p a).getD f.toNat 0 = (pathsTo p p.length).getD f.toNat 0 := progTo_same (by omega) (by omega)
      omega
  rw [e1, e2, hpa]
end Go.Proofs.Ytafljegjdanldaa

/- Walks: sets of nodes as bits; what some nodes need. -/
namespace Go.Proofs.Ytafljegjdanldaa
open Go.RowKit

section
variable {h : GH} {Ls : List Heaplet} {w : World}

theorem has_ok (hH : H w h Ls) {m a : Nat} (hm : m < 65536) (ha : a ≤ 16) : Rets Try.prog 79 #[.int .u16 (m : Int), .int .i64 (a : Int)] w fun v w' => v = .bool (m.testBit a) ∧ H w' h Ls := by
  have hd : m / 2 ^ a < 65536 := Nat.lt_of_le_of_lt (Nat.div_le_self _ _) hm
  refine rets_enter Try.func79 rfl Try.ntmps79 (by simp) ?_
  refine WT_seq ?_
  refine WT_region ?_
  refine WL_v rfl (ov_assign rfl) ?_
  refine WL_nil ?_
  refine WT_seq ?_
  refine WT_region ?_
  refine WL_v rfl (ov_move rfl) ?_
  refine WL_v rfl (ov_move rfl) ?_
  refine WL_v rfl (ov_shr16 rfl rfl ha) ?_
  refine WL_v rfl (ov_and16 (n := 1) rfl rfl hd (by decide)) ?_
  refine WL_v rfl (ov_neq rfl rfl) ?_
  refine WL_v rfl (ov_assign rfl) ?_
  refine WL_nil ?_
  exact WT_ret1 Try.func79 Try.results79 rfl ⟨congrArg Value.bool (bit_has m a), hH⟩

theorem with_ok (hH : H w h Ls) {m a : Nat} (hm : m < 1024) (ha : a < 10) : Rets Try.prog 80 #[.int .u16 (m : Int), .int .i64 (a : Int)] w fun v w' => v = .int .u16 ((m ||| 2 ^ a : Nat) : Int) ∧ H w' h Ls := by
  refine rets_enter Try.func80 rfl Try.ntmps80 (by simp) ?_
  refine WT_seq ?_
  refine WT_region ?_
  refine WL_v rfl (ov_assign rfl) ?_
  refine WL_nil ?_
  refine WT_seq ?_
  refine WT_region ?_
  refine WL_v rfl (ov_move rfl) ?_
  refine WL_v rfl (ov_move rfl) ?_
  refine WL_v rfl (ov_shl16 (m := 1) rfl rfl (by omega) (pow_lt16 ha)) ?_
  refine WL_v rfl (ov_or16 rfl rfl (by omega) (pow_lt16 ha)) ?_
  refine WL_v rfl (ov_assign rfl) ?_
  refine WL_nil ?_
  exact WT_ret1 Try.func80 Try.results80 rfl ⟨by rw [Nat.one_mul], hH⟩

theorem setList_ok (hH : H w h Ls) {m : Nat} (hm : m < 1024) : Rets Try.prog 91 #[.int .u16 (m : Int)] w fun v w' => ∃ X, IRow X 3 v (toI ((List.range 10).filter m.testBit)) ∧ H w' h (X :: Ls) := by
  refine rets_enter Try.func91 rfl Try.ntmps91 (by simp) ?_
  refine WT_seq ?_
  refine WT_region ?_
  refine WL_v rfl (ov_assign rfl) ?_
  refine WL_nil ?_
  refine WT_seq ?_
  refine WT_region ?_
  refine WL_v rfl (ov_assign rfl) ?_
  refine WL_nil ?_
  refine WT_seq ?_
  refine WT_seq ?_
  refine WT_region ?_
  refine WL_v rfl (ov_move rfl) ?_
  refine WL_nil ?_
  refine WT_block ?_
  refine WT_while (fun s : Nat × Value => [(0, .int .u16 (m : Int)), (3, s.2), (5, .int .i64 (s.1 : Int))]) (fun s w => s.1 ≤ 10 ∧ ∃ X, IRow X 3 s.2 (toI ((List.range s.1).filter m.testBit)) ∧ H w h (X :: Ls)) (fun s => 10 - s.1) (0, .slice none 0 0) (by repeat (first | exact trivial | refine ⟨rfl, ?_⟩)) ⟨by omega, [], IRow.nil _, hH.nilIn⟩ ?_
  clear hH
  rintro ⟨k, sv⟩ w1 ⟨hk, X, hX, hH⟩ again
  simp only at hk hX
  have hfl := List.length_filter_le m.testBit (List.range k)
  rw [List.length_range] at hfl
  refine WT_seq ?_
  refine WT_region ?_
  refine WL_v rfl (ov_lss rfl rfl) ?_
  refine WL_nil ?_
  refine WT_seq ?_
  refine WT_cond rfl (fun hc => ?_) (fun hc => ?_)
  · skip
    first | with_reducible replace hc := of_decide_eq_true hc | with_reducible replace hc := bn_T hc | with_reducible replace hc := bb_T hc | skip
    have hk10 : k < 10 := by simp only at hc; omega
    refine WT_skip ?_
    refine WT_seq ?_
    refine WT_block ?_
    refine WT_seq ?_
    refine WT_region ?_
    refine WL_v rfl (ov_move rfl) ?_
    refine WL_v rfl (ov_assign rfl) ?_
    refine WL_nil ?_
    refine WT_seq ?_
    refine WT_region ?_
    refine WL_v rfl (ov_move rfl) ?_
    refine WL_v rfl (ov_move rfl) ?_
    refine WL_call rfl rfl cf_impl_nodeSet_has (has_ok hH (by omega) (a := k) (by omega)) ?_; rintro _ w2 ⟨rfl, hH2⟩
    refine WL_nil ?_
    refine WT_cond rfl (fun hb => ?_) (fun hb => ?_)
    · skip
      first | with_reducible replace hb := of_decide_eq_true hb | with_reducible replace hb := bn_T hb | with_reducible replace hb := bb_T hb | skip
      refine WT_region ?_
      refine WL_v rfl (ov_move rfl) ?_
      refine WL_v rfl (ov_move rfl) ?_
      refine WL_bsI rfl hH2 rfl (run_bs_int _) ?_; rintro Y yv w3 hY hH3
      refine WL_appI (i := 1) (j := 0) rfl hH3 rfl rfl st_sl_int rfl hX rfl hY (by simp only [toI_len, List.length_cons, List.length_nil]; omega) (by simp only [toI_len, List.length_cons, List.length_nil]; omega) ?_; rintro X2 sv2 w4 hX2 hH4
      refine WL_v rfl (ov_assign rfl) ?_
      refine WL_nil ?_
      refine WT_inBlock ?_
      refine WT_region ?_
      refine WL_v rfl (ov_add rfl rfl (by omega)) ?_
      refine WL_v rfl (ov_move rfl) ?_
      refine WL_nil ?_
      refine again (k + 1, sv2) _ _ (by simp only; omega) (by repeat (first | exact trivial | refine ⟨rfl, ?_⟩)) ⟨by simp only; omega, X2, by rw [List.range_succ, List.filter_append, List.filter_cons, if_pos hb, List.filter_nil, toI_snoc]; exact hX2, hH4.drop⟩
    first | with_reducible replace hb := of_decide_eq_false hb | with_reducible replace hb := bn_F hb | with_reducible replace hb := bb_F hb | skip
    refine WT_skip ?_
    refine WT_inBlock ?_
    refine WT_region ?_
    refine WL_v rfl (ov_add rfl rfl (by omega)) ?_
    refine WL_v rfl (ov_move rfl) ?_
    refine WL_nil ?_
    refine again (k + 1, sv) _ _ (by simp only; omega) (by repeat (first | exact trivial | refine ⟨rfl, ?_⟩)) ⟨by simp only; omega, X, by rw [List.range_succ, List.filter_append, List.filter_cons, if_neg (by rw [hb]; simp), List.filter_nil, List.append_nil]; exact hX, hH2⟩
  first | with_reducible replace hc := of_decide_eq_false hc | with_reducible replace hc := bn_F hc | with_reducible replace hc := bb_F hc | skip
  have hk10 : k = 10 := by simp only at hc; omega
  subst hk10
  refine WT_exit rfl ?_
  refine WT_seq ?_
  refine WT_region ?_
  refine WL_v rfl (ov_move rfl) ?_
  refine WL_v rfl (ov_assign rfl) ?_
  refine WL_nil ?_
  exact WT_ret1 Try.func91 Try.results91 rfl ⟨X, hX, hH⟩

theorem allNodes_ok (hH : H w h Ls) {pv lv : Value} {p : List Nd} {L : List Int} (hP : Plan h pv p) (hL : RdL h Ls lv L) : Rets Try.prog 89 #[pv, lv] w fun v w' => v = .bool (L.all fun x => decide (0 ≤ x ∧ x < (p.length : Int))) ∧ H w' h Ls := by
  have hll := hL.sl.lim
  refine rets_enter Try.func89 rfl Try.ntmps89 (by simp) ?_
  refine WT_seq ?_
  refine WT_region ?_
  refine WL_v rfl (ov_assign rfl) ?_
  refine WL_nil ?_
  refine WT_seq ?_
  refine WT_seq ?_
  refine WT_region ?_
  refine WL_v rfl (ov_move rfl) ?_
  refine WL_v rfl (ov_len rfl hL.sl st_sl_int) ?_
  refine WL_v rfl (ov_move rfl) ?_
  refine WL_nil ?_
  refine WT_block ?_
  refine WT_while (fun k : Nat => [(0, pv), (7, lv), (8, .int .i64 (L.length : Int)), (9, .int .i64 (k : Int))]) (fun k w => k ≤ L.length ∧ (∀ j (_ : j < k) (h1 : j < L.length), 0 ≤ L[j] ∧ L[j] < (p.length : Int)) ∧ H w h Ls) (fun k => L.length - k) 0 (by repeat (first | exact trivial | refine ⟨rfl, ?_⟩)) ⟨by omega, by omega, hH⟩ ?_
  clear hH
  rintro k w1 ⟨hk, hall, hH⟩ again
  refine WT_seq ?_
  refine WT_region ?_
  refine WL_v rfl (ov_lss rfl rfl) ?_
  refine WL_nil ?_
  refine WT_seq ?_
  refine WT_cond rfl (fun hc => ?_) (fun hc => ?_)
  · skip
    first | with_reducible replace hc := of_decide_eq_true hc | with_reducible replace hc := bn_T hc | with_reducible replace hc := bb_T hc | skip
    have hkl : k < L.length := by omega
    refine WT_skip ?_
    refine WT_seq ?_
    refine WT_block ?_
    refine WT_seq ?_
    refine WT_region ?_
    refine WL_v rfl (ov_index rfl rfl st_sl_int hL.sl hkl) ?_
    refine WL_v rfl (ov_load rfl one_int (hL.cell hH hkl)) ?_
    refine WL_v rfl (ov_assign rfl) ?_
    refine WL_nil ?_
    refine WT_seq ?_
    refine WT_region ?_
    refine WL_v rfl (ov_move rfl) ?_
    refine WL_v rfl (ov_move rfl) ?_
    refine WL_call rfl rfl cf_impl_isNode (isNode_ok hH hP.sl _) ?_; rintro _ w2 ⟨rfl, hH2⟩
    refine WL_v rfl (ov_not rfl) ?_
    refine WL_nil ?_
    refine WT_cond rfl (fun hn => ?_) (fun hn => ?_)
    · skip
      first | with_reducible replace hn := of_decide_eq_true hn | with_reducible replace hn := bn_T hn | with_reducible replace hn := bb_T hn | skip
      have hn' : ¬ (0 ≤ L[k] ∧ L[k] < (p.length : Int)) := by simpa using hn
      refine WT_seq ?_
      refine WT_region ?_
      refine WL_v rfl (ov_assign rfl) ?_
      refine WL_nil ?_
      exact WT_ret1 Try.func89 Try.results89 rfl ⟨congrArg Value.bool (List.all_eq_false.2 ⟨_, List.getElem_mem hkl, by simpa using hn'⟩).symm, hH2⟩
    first | with_reducible replace hn := of_decide_eq_false hn | with_reducible replace hn := bn_F hn | with_reducible replace hn := bb_F hn | skip
    have hn' : 0 ≤ L[k] ∧ L[k] < (p.length : Int) := by simpa using hn
    refine WT_skip ?_
    refine WT_inBlock ?_
    refine WT_region ?_
    refine WL_v rfl (ov_add rfl rfl (by omega)) ?_
    refine WL_v rfl (ov_move rfl) ?_
    refine WL_nil ?_
    refine again (k + 1) _ _ (by omega) (by repeat (first | exact trivial | refine ⟨rfl, ?_⟩)) ⟨by omega, fun j hj h1 => ?_, hH2⟩
    rcases Nat.lt_or_ge j k with h3 | h3
    · exact hall j h3 h1
    · obtain rfl : j = k := by omega
      exact hn'
  first | with_reducible replace hc := of_decide_eq_false hc | with_reducible replace hc := bn_F hc | with_reducible replace hc := bb_F hc | skip
  obtain rfl : k = L.length := by omega
  refine WT_exit rfl ?_
  refine WT_seq ?_
  refine WT_region ?_
  refine WL_v rfl (ov_assign rfl) ?_
  refine WL_nil ?_
  exact WT_ret1 Try.func89 Try.results89 rfl ⟨congrArg Value.bool (List.all_eq_true.2 fun x hx => by obtain ⟨j, hj, rfl⟩ := List.mem_iff_getElem.1 hx; exact decide_eq_true (hall j hj hj)).symm, hH⟩

/-- What is kept, and what is waiting. -/
structure Kept (p : List Nd) (L : List Int) (k : Nat) (m : Nat) (S : List Int) : Prop where
  lt : m < 1024
  kp : ∀ a, m.testBit a = true → a < p.length ∧ Keep p L a
  st : ∀ s ∈ S, (0 ≤ s ∧ s < (p.length : Int)) ∧ Keep p L s.toNat
  cl : ∀ a, m.testBit a = true → ∀ f ∈ (p.getD a default).frm, m.testBit f.toNat = true ∨ f ∈ S
  ls : ∀ j (_ : j < k) (h1 : j < L.length), m.testBit L[j].toNat = true ∨ L[j] ∈ S
theorem keep_self {p : List Nd} {L : List Int} {s : Int} (h : s ∈ L) : Keep p L s.toNat := ⟨s, h, .inl rfl⟩

theorem Kept.push {p : List Nd} {L : List Int} {k m : Nat} (hr : ∀ x ∈ L, 0 ≤ x ∧ x < (p.length : Int)) (h : Kept p L k m []) (hk : k < L.length) : Kept p L (k + 1) m [L[k]] := by
  refine ⟨h.lt, h.kp, fun s hs => ?_, fun a ha f hf => ?_, fun j hj h1 => ?_⟩
  · obtain rfl := List.mem_singleton.1 hs
    exact ⟨hr _ (List.getElem_mem hk), keep_self (List.getElem_mem hk)⟩
  · exact (h.cl a ha f hf).imp id (fun hn => by simp at hn)
  · rcases Nat.lt_or_ge j k with h3 | h3
    · exact (h.ls j h3 h1).imp id (fun hn => by simp at hn)
    · obtain rfl : j = k := by omega
      exact .inr (List.mem_singleton.2 rfl)
theorem Kept.pop {p : List Nd} {L : List Int} {k m : Nat} {S : List Int} {s : Int} (h : Kept p L k m (S ++ [s])) (hb : m.testBit s.toNat = true) : Kept p L k m S := by
  refine ⟨h.lt, h.kp, fun t ht => h.st t (List.mem_append_left _ ht), fun a ha f hf => ?_, fun j hj h1 => ?_⟩
  · rcases h.cl a ha f hf with h2 | h2
    · exact .inl h2
    · rcases List.mem_append.1 h2 with h3 | h3
      · exact .inr h3
      · obtain rfl := List.mem_singleton.1 h3; exact .inl hb
  · rcases h.ls j hj h1 with h2 | h2
    · exact .inl h2
    · rcases List.mem_append.1 h2 with h3 | h3
      · exact .inr h3
      · rw [List.mem_singleton.1 h3]; exact .inl hb
theorem Kept.mark {p : List Nd} (hv : planOk p = true) {L : List Int} {k m : Nat} {S : List Int} {s : Int} (h : Kept p L k m (S ++ [s])) : Kept p L k (m ||| 2 ^ s.toNat) (S ++ (p.getD s.toNat default).frm) := by
  have hlen := PlanOk.len hv
  obtain ⟨⟨h0, h9⟩, hks⟩ := h.st s (by simp)
  have hsn : s.toNat < p.length := by omega
  have hbit : ∀ b, (m ||| 2 ^ s.toNat).testBit b = true ↔ m.testBit b = true ∨ b = s.toNat := fun b => by rw [bit_with]; simp
  refine ⟨bit_lt h.lt (by omega), fun a ha => ?_, fun t ht => ?_, fun a ha f hf => ?_, fun j hj h1 => ?_⟩
  · rcases (hbit a).1 ha with ha | rfl
    · exact h.kp a ha
    · exact ⟨hsn, hks⟩
  · rcases List.mem_append.1 ht with ht | ht
    · exact h.st t (List.mem_append_left _ ht)
    · have := frm_pos hv hsn t ht
      exact ⟨by omega, hks.need hv hsn ht⟩
  · rcases (hbit a).1 ha with ha | rfl
    · rcases h.cl a ha f hf with h2 | h2
      · exact .inl ((hbit _).2 (.inl h2))
      · rcases List.mem_append.1 h2 with h3 | h3
        · exact .inr (List.mem_append_left _ h3)
        · obtain rfl := List.mem_singleton.1 h3; exact .inl ((hbit _).2 (.inr rfl))
    · exact .inr (List.mem_append_right _ hf)
  · rcases h.ls j hj h1 with h2 | h2
    · exact .inl ((hbit _).2 (.inl h2))
    · rcases List.mem_append.1 h2 with h3 | h3
      · exact .inr (List.mem_append_left _ h3)
      · rw [List.mem_singleton.1 h3]; exact .inl ((hbit _).2 (.inr rfl))
theorem Kept.done {p : List Nd} (hv : planOk p = true) {L : List Int} {m : Nat} (hr : ∀ x ∈ L, 0 ≤ x ∧ x < (p.length : Int)) (h : Kept p L L.length m []) : ∀ a, m.testBit a = true ↔ Keep p L a := fun a =>
  ⟨fun ha => (h.kp a ha).2, fun ha => Keep.sub hv hr (fun i _ hk f hf => (h.cl i hk f hf).resolve_right (by simp)) (fun s hs => by
    obtain ⟨j, hj, rfl⟩ := List.mem_iff_getElem.1 hs
    exact (h.ls j hj hj).resolve_right (by simp)) ha⟩
theorem card_mark {m a : Nat} (h : m.testBit a = false) (ha : a < 10) : numK (m ||| 2 ^ a).testBit 10 = numK m.testBit 10 + 1 := by
  have h1 : (m ||| 2 ^ a).testBit = fun b => m.testBit b || decide (b = a) := funext fun b => bit_with m a b
  rw [h1, numK_add h, if_pos ha]

theorem neededBy_ok (hH : H w h Ls) {pv lv : Value} {p : List Nd} {L : List Int} (hP : Plan h pv p) (hv : planOk p = true) (hL : RdL h Ls lv L) (hr : ∀ x ∈ L, 0 ≤ x ∧ x < (p.length : Int)) : Rets Try.prog 90 #[pv, lv] w fun v w' => ∃ m : Nat, v = .int .u16 (m : Int) ∧ m < 1024 ∧ (∀ a, m.testBit a = true → a < p.length) ∧ (∀ a, m.testBit a = true ↔ Keep p L a) ∧ H w' h Ls := by
  have hll := hL.sl.lim
  have hlen := PlanOk.len hv
  have hLX : ∀ {X}, RdL h (X :: Ls) lv L := ⟨hL.sl, fun hH _ hj => hL.cell hH.drop hj⟩
  refine rets_enter Try.func90 rfl Try.ntmps90 (by simp) ?_
  refine WT_seq ?_
  refine WT_region ?_
  refine WL_v rfl (ov_assign rfl) ?_
  refine WL_nil ?_
  refine WT_seq ?_
  refine WT_region ?_
  refine WL_v rfl (ov_assign rfl) ?_
  refine WL_nil ?_
  refine WT_seq ?_
  refine WT_region ?_
  refine WL_v rfl (ov_assign rfl) ?_
  refine WL_nil ?_
  refine WT_seq ?_
  refine WT_seq ?_
  refine WT_region ?_
  refine WL_v rfl (ov_move rfl) ?_
  refine WL_v rfl (ov_len rfl hL.sl st_sl_int) ?_
  refine WL_v rfl (ov_move rfl) ?_
  refine WL_nil ?_
  refine WT_block ?_
  refine WT_while (fun s : Nat × Nat × Value => [(0, pv), (5, .int .u16 (s.2.1 : Int)), (6, s.2.2), (10, lv), (11, .int .i64 (L.length : Int)), (12, .int .i64 (s.1 : Int))]) (fun s w => s.1 ≤ L.length ∧ Kept p L s.1 s.2.1 [] ∧ ∃ X, IRow X 3 s.2.2 [] ∧ H w h (X :: Ls)) (fun s => L.length - s.1) (0, 0, .slice none 0 0) (by repeat (first | exact trivial | refine ⟨rfl, ?_⟩)) ⟨by simp only; omega, ⟨by simp only; omega, by simp, by simp, by simp, fun j hj => absurd hj (Nat.not_lt_zero _)⟩, [], IRow.nil _, hH.nilIn⟩ ?_
  clear hH
  rintro ⟨k, m0, sv⟩ w1 ⟨hk, hK, X, hX, hH⟩ again
  simp only at hk hX hK
  refine WT_seq ?_
  refine WT_region ?_
  refine WL_v rfl (ov_lss rfl rfl) ?_
  refine WL_nil ?_
  refine WT_seq ?_
  refine WT_cond rfl (fun hc => ?_) (fun hc => ?_)
  · skip
    first | with_reducible replace hc := of_decide_eq_true hc | with_reducible replace hc := bn_T hc | with_reducible replace hc := bb_T hc | skip
    have hkl : k < L.length := by simp only at hc; omega
    refine WT_skip ?_
    refine WT_seq ?_
    refine WT_block ?_
    refine WT_seq ?_
    refine WT_region ?_
    refine WL_v rfl (ov_index rfl rfl st_sl_int hL.sl hkl) ?_
    refine WL_v rfl (ov_load rfl one_int (hL.cell hH.drop hkl)) ?_
    refine WL_v rfl (ov_assign rfl) ?_
    refine WL_nil ?_
    refine WT_seq ?_
    refine WT_region ?_
    refine WL_v rfl (ov_move rfl) ?_
    refine WL_v rfl (ov_move rfl) ?_
    refine WL_bsI rfl hH rfl (run_bs_int _) ?_; rintro Y yv w2 hY hH2
    refine WL_appI (i := 1) (j := 0) rfl hH2 rfl rfl st_sl_int rfl hX rfl hY (by simp) (by simp) ?_; rintro X2 sv2 w3 hX2 hH3
    refine WL_v rfl (ov_assign rfl) ?_
    refine WL_nil ?_
    refine WT_block ?_
    refine WT_while (fun s : Nat × Value × List Int => [(0, pv), (5, .int .u16 (s.1 : Int)), (6, s.2.1), (10, lv), (11, .int .i64 (L.length : Int)), (12, .int .i64 (k : Int))]) (fun s w => Kept p L (k + 1) s.1 s.2.2 ∧ 3 * (10 - numK s.1.testBit 10) + s.2.2.length ≤ 31 ∧ ∃ X, IRow X 3 s.2.1 s.2.2 ∧ H w h (X :: Ls)) (fun s => 3 * (10 - numK s.1.testBit 10) + s.2.2.length) (m0, sv2, [L[k]]) (by repeat (first | exact trivial | refine ⟨rfl, ?_⟩)) ⟨hK.push hr hkl, by simp only [List.length_cons, List.length_nil]; omega, X2, hX2, hH3.drop⟩ ?_
    clear hH hH2 hH3 hX hX2 hK hY X
    rintro ⟨m, sw, S⟩ w4 ⟨hK, hms, X, hX, hH⟩ again2
    simp only at hK hms hX
    refine WT_seq ?_
    refine WT_seq ?_
    refine WT_region ?_
    refine WL_v rfl (ov_move rfl) ?_
    refine WL_v rfl (ov_len rfl hX.sl st_sl_int) ?_
    refine WL_v rfl (ov_gtr rfl rfl) ?_
    refine WL_nil ?_
    refine WT_cond rfl (fun hc2 => ?_) (fun hc2 => ?_)
    · skip
      first | with_reducible replace hc2 := of_decide_eq_true hc2 | with_reducible replace hc2 := bn_T hc2 | with_reducible replace hc2 := bb_T hc2 | skip
      have hS0 : 0 < S.length := by omega
      obtain ⟨S1, s, rfl⟩ : ∃ S1 s, S = S1 ++ [s] := ⟨S.dropLast, S.getLast (List.length_pos_iff.1 hS0), (List.dropLast_concat_getLast _).symm⟩
      have hl1 : (S1 ++ [s]).length = S1.length + 1 := by simp
      have hs := (hK.st s (by simp)).1
      obtain ⟨a, rfl⟩ := Int.eq_ofNat_of_zero_le hs.1
      have hap : a < p.length := by omega
      have hlx : S1.length < (S1 ++ [(a : Int)]).length := by omega
      have hge : (S1 ++ [(a : Int)])[S1.length] = (a : Int) := by simp
      have hX1 : IRow X 3 (reslice sw 0 S1.length 1) S1 := by
        have := hX.front (n := S1.length) (by omega)
        simpa using this
      have hnk := numK_le m.testBit 10
      have hlt := hK.lt
      refine WT_skip ?_
      refine WT_block ?_
      refine WT_seq ?_
      refine WT_region ?_
      refine WL_v rfl (ov_move rfl) ?_
      refine WL_v rfl (ov_move rfl) ?_
      refine WL_v rfl (ov_len rfl hX.sl st_sl_int) ?_
      refine WL_v rfl (ov_as (ov_sub rfl rfl (by omega)) (congrArg (Value.int .i64) ((show ((S1 ++ [(a : Int)]).length : Int) - 1 = (S1.length : Int) by omega)))) ?_
      refine WL_v rfl (ov_index rfl rfl st_sl_int hX.sl hlx) ?_
      refine WL_v rfl (ov_load rfl one_int (hX.cell hH (i := 0) rfl hlx)) ?_; rw [hge]
      refine WL_v rfl (ov_assign rfl) ?_
      refine WL_nil ?_
      refine WT_seq ?_
      refine WT_region ?_
      refine WL_v rfl (ov_move rfl) ?_
      refine WL_v rfl (ov_move rfl) ?_
      refine WL_v rfl (ov_len rfl hX.sl st_sl_int) ?_
      refine WL_v rfl (ov_as (ov_sub rfl rfl (by omega)) (congrArg (Value.int .i64) ((show ((S1 ++ [(a : Int)]).length : Int) - 1 = (S1.length : Int) by omega)))) ?_
      refine WL_v rfl (ov_sliceHi rfl rfl st_sl_int hX.sl (by omega)) ?_
      refine WL_v rfl (ov_assign rfl) ?_
      refine WL_nil ?_
      refine WT_seq ?_
      refine WT_seq ?_
      refine WT_region ?_
      refine WL_v rfl (ov_move rfl) ?_
      refine WL_v rfl (ov_move rfl) ?_
      refine WL_call rfl rfl cf_impl_nodeSet_has (has_ok hH (by omega) (a := a) (by omega)) ?_; rintro _ w5 ⟨rfl, hH5⟩
      refine WL_nil ?_
      refine WT_cond rfl (fun hb => ?_) (fun hb => ?_)
      · skip
        first | with_reducible replace hb := of_decide_eq_true hb | with_reducible replace hb := bn_T hb | with_reducible replace hb := bb_T hb | skip
        refine WT_exit rfl ?_
        refine again2 (m, _, S1) _ _ (by simp only; omega) (by repeat (first | exact trivial | refine ⟨rfl, ?_⟩)) ⟨hK.pop hb, by simp only; omega, X, hX1, hH5⟩
      first | with_reducible replace hb := of_decide_eq_false hb | with_reducible replace hb := bn_F hb | with_reducible replace hb := bb_F hb | skip
      obtain ⟨fv, rv, hf, hrr, hcell⟩ := hP.node hap
      have hN := PlanOk.node hv hap
      have hf2 := NodeOk.len2 hN
      have hmk := hK.mark hv
      rw [Int.toNat_natCast, getD_of hap] at hmk
      have hb2 : m.testBit a = false := hb
      have hcm := card_mark hb2 (by omega)
      have hnk2 := numK_le (m ||| 2 ^ a).testBit 10
      have hfl := hf2
      have key1 : 3 * (10 - numK (m ||| 2 ^ a).testBit 10) + (S1 ++ p[a].frm).length < 3 * (10 - numK m.testBit 10) + (S1 ++ [(a : Int)]).length := by
        rw [hcm] at hnk2 ⊢
        rw [List.length_append, hl1]; omega
      have key2 : 3 * (10 - numK (m ||| 2 ^ a).testBit 10) + (S1 ++ p[a].frm).length ≤ 31 := by omega
      refine WT_skip ?_
      refine WT_seq ?_
      refine WT_region ?_
      refine WL_v rfl (ov_move rfl) ?_
      refine WL_v rfl (ov_move rfl) ?_
      refine WL_call rfl rfl cf_impl_nodeSet_with (with_ok hH5 hlt (a := a) (by omega)) ?_; rintro _ w6 ⟨rfl, hH6⟩
      refine WL_v rfl (ov_assign rfl) ?_
      refine WL_nil ?_
      refine WT_region ?_
      refine WL_v rfl (ov_move rfl) ?_
      refine WL_v rfl (ov_move rfl) ?_
      refine WL_v rfl (ov_move rfl) ?_
      refine WL_v rfl (ov_index rfl rfl st_sl_impl_Node hP.sl hap) ?_
      refine WL_v rfl (ov_field rfl fo_impl_Node_1) ?_
      refine WL_v rfl (ov_load rfl one_sl_int (hcell _ _ hH6 1 _ rfl)) ?_
      refine WL_appR (i := 0) rfl hH6 rfl rfl st_sl_int rfl hX1 hf.sl (fun hj => hf.cell hH6 hj) (by omega) (by omega) ?_; rintro X3 sv3 w7 hX3 hH7
      refine WL_v rfl (ov_assign rfl) ?_
      refine WL_nil ?_
      refine WT_inBlock ?_
      refine again2 (m ||| 2 ^ a, sv3, _) _ _ key1 (by repeat (first | exact trivial | refine ⟨rfl, ?_⟩)) ⟨hmk, key2, X3, hX3, hH7⟩
    first | with_reducible replace hc2 := of_decide_eq_false hc2 | with_reducible replace hc2 := bn_F hc2 | with_reducible replace hc2 := bb_F hc2 | skip
    have hS0 : S = [] := List.eq_nil_of_length_eq_zero (by omega)
    subst hS0
    refine WT_exit rfl ?_
    refine WT_inBlock ?_
    refine WT_region ?_
    refine WL_v rfl (ov_add rfl rfl (by omega)) ?_
    refine WL_v rfl (ov_move rfl) ?_
    refine WL_nil ?_
    refine again (k + 1, m, sw) _ _ (by simp only; omega) (by repeat (first | exact trivial | refine ⟨rfl, ?_⟩)) ⟨by simp only; omega, hK, X, hX, hH⟩
  first | with_reducible replace hc := of_decide_eq_false hc | with_reducible replace hc := bn_F hc | with_reducible replace hc := bb_F hc | skip
  have hkl : k = L.length := by simp only at hc; omega
  subst hkl
  refine WT_exit rfl ?_
  refine WT_seq ?_
  refine WT_region ?_
  refine WL_v rfl (ov_move rfl) ?_
  refine WL_v rfl (ov_assign rfl) ?_
  refine WL_nil ?_
  exact WT_ret1 Try.func90 Try.results90 rfl ⟨m0, rfl, hK.lt, fun a ha => (hK.kp a ha).1, hK.done hv hr, hH.drop⟩

/-- Some nodes may be kept. -/
def cutOk (p : List Nd) (L : List Int) : Bool := planOk p && L.all fun x => decide (0 ≤ x ∧ x < (p.length : Int))
theorem cutKeep_no (hH : H w h Ls) {pv lv : Value} {p : List Nd} {L : List Int} (hP : Plan h pv p) (hL : RdL h Ls lv L) (hok : cutOk p L = false) : Rets Try.prog 58 #[pv, lv] w fun v w' => v = .tuple #[.slice none 0 0, .bool false] ∧ H w' h Ls := by
  refine rets_enter Try.func58 rfl Try.ntmps58 (by simp) ?_
  by_cases hv : planOk p = true
  case neg =>
    have hv' : planOk p = false := by simpa using hv
    refine WT_seq ?_
    refine WT_region ?_
    refine WL_v rfl (ov_assign rfl) ?_
    refine WL_v rfl (ov_assign rfl) ?_
    refine WL_nil ?_
    refine WT_seq ?_
    refine WT_seq ?_
    refine WT_region ?_
    refine WL_v rfl (ov_move rfl) ?_
    refine WL_call rfl rfl cf_impl_PlanValid (planValid_ok hH hP) ?_; rintro _ w1 ⟨rfl, hH1⟩
    refine WL_v rfl (ov_T (ov_not rfl) (by first | exact decide_eq_true hv' | exact nb_T hv' | exact mb_T hv' | exact hv' | (simp only [decide_eq_true_eq]; omega) | simpa using hv')) ?_
    refine WL_v rfl (ov_move rfl) ?_
    refine WL_guardOff rfl rfl rfl rfl ?_
    refine WL_guardOff rfl rfl rfl rfl ?_
    refine WL_guardOff rfl rfl rfl rfl ?_
    refine WL_guardOff rfl rfl rfl rfl ?_
    refine WL_v rfl (ov_pickT rfl rfl) ?_
    refine WL_nil ?_
    refine WT_condT rfl ?_
    refine WT_seq ?_
    refine WT_region ?_
    refine WL_v rfl (ov_assign rfl) ?_
    refine WL_v rfl (ov_assign rfl) ?_
    refine WL_nil ?_
    exact WT_ret2 Try.func58 Try.results58 rfl rfl ⟨rfl, hH1⟩
  unfold cutOk at hok
  rw [hv, Bool.true_and] at hok
  refine WT_seq ?_
  refine WT_region ?_
  refine WL_v rfl (ov_assign rfl) ?_
  refine WL_v rfl (ov_assign rfl) ?_
  refine WL_nil ?_
  refine WT_seq ?_
  refine WT_seq ?_
  refine WT_region ?_
  refine WL_v rfl (ov_move rfl) ?_
  refine WL_call rfl rfl cf_impl_PlanValid (planValid_ok hH hP) ?_; rintro _ w1 ⟨rfl, hH1⟩
  refine WL_v rfl (ov_F (ov_not rfl) (by first | exact decide_eq_false hv | exact nb_F hv | exact mb_F hv | exact hv | (simp only [decide_eq_false_iff_not]; omega) | simpa using hv)) ?_
  refine WL_v rfl (ov_move rfl) ?_
  refine WL_guardOn rfl rfl ?_
  refine WL_v rfl (ov_move rfl) ?_
  refine WL_guardOn rfl rfl ?_
  refine WL_v rfl (ov_move rfl) ?_
  refine WL_guardOn rfl rfl ?_
  refine WL_call rfl rfl cf_impl_allNodes (allNodes_ok hH1 hP hL) ?_; rintro _ w2 ⟨rfl, hH2⟩
  refine WL_guardOn rfl rfl ?_
  refine WL_v rfl (ov_not rfl) ?_
  refine WL_v rfl (ov_pickF rfl rfl) ?_
  refine WL_nil ?_
  refine WT_cond rfl (fun hn => ?_) (fun hn => ?_)
  · skip
    first | with_reducible replace hn := of_decide_eq_true hn | with_reducible replace hn := bn_T hn | with_reducible replace hn := bb_T hn | skip
    refine WT_seq ?_
    refine WT_region ?_
    refine WL_v rfl (ov_assign rfl) ?_
    refine WL_v rfl (ov_assign rfl) ?_
    refine WL_nil ?_
    exact WT_ret2 Try.func58 Try.results58 rfl rfl ⟨rfl, hH2⟩
  first | with_reducible replace hn := of_decide_eq_false hn | with_reducible replace hn := bn_F hn | with_reducible replace hn := bb_F hn | skip
  rw [hok] at hn; cases hn

theorem cutKeep_yes (hH : H w h Ls) {pv lv : Value} {p : List Nd} {L : List Int} (hP : Plan h pv p) (hL : RdL h Ls lv L) (hok : cutOk p L = true) : Rets Try.prog 58 #[pv, lv] w fun v w' => ∃ (K : Nat → Bool) (X : Heaplet) (kv : Value), v = .tuple #[kv, .bool true] ∧ (∀ a, K a = true ↔ Keep p L a) ∧ (∀ a, K a = true → a < p.length) ∧ IRow X 3 kv (toI ((List.range p.length).filter K)) ∧ H w' h (X :: Ls) := by
  have hok2 := hok
  unfold cutOk at hok2
  rw [Bool.and_eq_true] at hok2
  obtain ⟨hv, hall⟩ := hok2
  have hr : ∀ x ∈ L, 0 ≤ x ∧ x < (p.length : Int) := fun x hx => of_decide_eq_true (List.all_eq_true.1 hall x hx)
  have hlen := PlanOk.len hv
  refine rets_enter Try.func58 rfl Try.ntmps58 (by simp) ?_
  refine WT_seq ?_
  refine WT_region ?_
  refine WL_v rfl (ov_assign rfl) ?_
  refine WL_v rfl (ov_assign rfl) ?_
  refine WL_nil ?_
  refine WT_seq ?_
  refine WT_seq ?_
  refine WT_region ?_
  refine WL_v rfl (ov_move rfl) ?_
  refine WL_call rfl rfl cf_impl_PlanValid (planValid_ok hH hP) ?_; rintro _ w1 ⟨rfl, hH1⟩
  refine WL_v rfl (ov_F (ov_not rfl) (by first | exact decide_eq_false hv | exact nb_F hv | exact mb_F hv | exact hv | (simp only [decide_eq_false_iff_not]; omega) | simpa using hv)) ?_
  refine WL_v rfl (ov_move rfl) ?_
  refine WL_guardOn rfl rfl ?_
  refine WL_v rfl (ov_move rfl) ?_
  refine WL_guardOn rfl rfl ?_
  refine WL_v rfl (ov_move rfl) ?_
  refine WL_guardOn rfl rfl ?_
  refine WL_call rfl rfl cf_impl_allNodes (allNodes_ok hH1 hP hL) ?_; rintro _ w2 ⟨rfl, hH2⟩
  refine WL_guardOn rfl rfl ?_
  refine WL_v rfl (ov_not rfl) ?_
  refine WL_v rfl (ov_pickF rfl rfl) ?_
  refine WL_nil ?_
  refine WT_cond rfl (fun hn => ?_) (fun hn => ?_)
  · skip
    first | with_reducible replace hn := of_decide_eq_true hn | with_reducible replace hn := bn_T hn | with_reducible replace hn := bb_T hn | skip
    rw [hall] at hn; cases hn
  first | with_reducible replace hn := of_decide_eq_false hn | with_reducible replace hn := bn_F hn | with_reducible replace hn := bb_F hn | skip
  refine WT_skip ?_
  refine WT_seq ?_
  refine WT_region ?_
  refine WL_v rfl (ov_move rfl) ?_
  refine WL_v rfl (ov_move rfl) ?_
  refine WL_call rfl rfl cf_impl_neededBy (neededBy_ok hH2 hP hv hL hr) ?_; rintro _ w3 ⟨m, rfl, hm, hmp, hmk, hH3⟩
  refine WL_call rfl rfl cf_impl_nodeSet_list (setList_ok hH3 hm) ?_; rintro kv w4 ⟨X, hX, hH4⟩
  refine WL_v rfl (ov_assign rfl) ?_
  refine WL_v rfl (ov_assign rfl) ?_
  refine WL_nil ?_
  exact WT_ret2 Try.func58 Try.results58 rfl rfl ⟨m.testBit, X, kv, rfl, hmk, hmp, by rw [← filter_ten hlen hmp]; exact hX, hH4⟩
end
end Go.Proofs.Ytafljegjdanldaa

/- Walks: what some nodes need, by the reference. -/
namespace Go.Proofs.Ytafljegjdanldaa
open Go.RowKit

theorem st_sl_bool : SlT Try.prog 62 4 1 1 [.bool false] := SlT_of (.bool false) (by kernel_rfl) (by kernel_rfl) rfl rfl

/-- Marks of the first nodes. -/
def bmL (S : Nat → Bool) (n : Nat) : List Value := (List.range n).map fun i => .bool (S i)
theorem bmL_len (S : Nat → Bool) (n : Nat) : (bmL S n).length = n := by simp [bmL]
theorem bmL_get {S : Nat → Bool} {n j : Nat} (h : j < n) : (bmL S n)[j]? = some (.bool (S j)) := by
  rw [bmL, List.getElem?_map, List.getElem?_range h]; rfl
def putB (S : Nat → Bool) (j : Nat) : Nat → Bool := fun i => S i || decide (i = j)
theorem bmL_set (S : Nat → Bool) (n j : Nat) : (bmL S n).set j (.bool true) = bmL (putB S j) n := by
  apply List.ext_getElem?
  intro i
  rw [List.getElem?_set]
  by_cases hi : i < n
  · rw [bmL_get hi, bmL_get hi, bmL_len]
    by_cases hij : j = i
    · subst hij
      rw [if_pos rfl, if_pos hi]
      simp [putB]
    · rw [if_neg hij]
      simp [putB, Ne.symm hij]
  · have h1 : (bmL (putB S j) n)[i]? = none := List.getElem?_eq_none (by rw [bmL_len]; omega)
    have h2 : (bmL S n)[i]? = none := List.getElem?_eq_none (by rw [bmL_len]; omega)
    rw [h1, h2, bmL_len]
    split
    · split
      · omega
      · rfl
    · rfl
theorem bmL_nil (n : Nat) : (List.replicate n [Value.bool false]).flatten = bmL (fun _ => false) n := by
  unfold bmL
  induction n with
  | zero => rfl
  | succ n ih => rw [List.replicate_succ', List.flatten_append, ih, List.range_succ, List.map_append]; rfl
theorem putB_true {S : Nat → Bool} {j i : Nat} : putB S j i = true ↔ S i = true ∨ i = j := by simp [putB]

theorem readB {n : Nat} {S : Nat → Bool} {j : Nat} (h : j < n) : (bmL S n)[j]? = some (.bool (S j)) := bmL_get h

section
variable {h : GH} {Ls : List Heaplet} {w : World}

set_option maxHeartbeats 1000000 in
theorem l3Needs_ok (hH : H w h Ls) {pv lv : Value} {p : List Nd} {L : List Int} (hP : Plan h pv p) (hv : planOk p = true) (hL : RdL h Ls lv L) (hr : ∀ x ∈ L, 0 ≤ x ∧ x < (p.length : Int)) :
    Rets Try.prog 92 #[pv, lv] w fun v w' => ∃ (K : Nat → Bool) (X : Heaplet), (∀ a, K a = true ↔ Keep p L a) ∧ (∀ a, K a = true → a < p.length) ∧ IRow X 3 v (toI ((List.range p.length).filter K)) ∧ H w' h (X :: Ls) := by
  have hlen := PlanOk.len hv
  have hll := hL.sl.lim
  refine rets_enter Try.func92 rfl Try.ntmps92 (by simp) ?_
  refine WT_seq ?_
  refine WT_region ?_
  refine WL_v rfl (ov_assign rfl) ?_
  refine WL_nil ?_
  refine WT_seq ?_
  refine WT_region ?_
  refine WL_v rfl (ov_move rfl) ?_
  refine WL_v rfl (ov_len rfl hP.sl st_sl_impl_Node) ?_
  refine WL_make (sz := 1) (n := p.length) (c := p.length) rfl hH rfl rfl st_sl_bool (by omega) (by omega) (by omega) (by omega) ?_; rintro B0 bv w1 hB0 hH1; rw [bmL_nil] at hB0
  refine WL_v rfl (ov_assign rfl) ?_
  refine WL_nil ?_
  refine WT_seq ?_
  refine WT_seq ?_
  refine WT_region ?_
  refine WL_v rfl (ov_assign rfl) ?_
  refine WL_nil ?_
  refine WT_block ?_
  refine WT_while (fun s : Nat => [(0, pv), (1, lv), (5, bv), (6, .int .i64 (s : Int))]) (fun k w => k ≤ L.length ∧ ∃ B S, Row B 4 1 bv p.length (bmL S p.length) ∧ (∀ a, S a = true ↔ ∃ s ∈ L.take k, s.toNat = a) ∧ H w h (B :: Ls)) (fun k => L.length - k) 0 (by repeat (first | exact trivial | refine ⟨rfl, ?_⟩)) ⟨by omega, B0, fun _ => false, hB0, by simp, hH1⟩ ?_
  clear hH hH1 hB0
  rintro k w2 ⟨hk, B, S, hB, hS, hH⟩ again
  refine WT_seq ?_
  refine WT_seq ?_
  refine WT_region ?_
  refine WL_v rfl (ov_move rfl) ?_
  refine WL_v rfl (ov_move rfl) ?_
  refine WL_v rfl (ov_len rfl hL.sl st_sl_int) ?_
  refine WL_v rfl (ov_lss rfl rfl) ?_
  refine WL_nil ?_
  refine WT_cond rfl (fun hc => ?_) (fun hc => ?_)
  · skip
    first | with_reducible replace hc := of_decide_eq_true hc | with_reducible replace hc := bn_T hc | with_reducible replace hc := bb_T hc | skip
    have hkl : k < L.length := by omega
    have hx := hr _ (List.getElem_mem hkl)
    obtain ⟨a, ha⟩ := Int.eq_ofNat_of_zero_le hx.1
    have hap : a < p.length := by omega
    refine WT_skip ?_
    refine WT_seq ?_
    refine WT_block ?_
    refine WT_region ?_
    refine WL_v rfl (ov_move rfl) ?_
    refine WL_v rfl (ov_move rfl) ?_
    refine WL_v rfl (ov_move rfl) ?_
    refine WL_v rfl (ov_index rfl rfl st_sl_int hL.sl hkl) ?_
    refine WL_v rfl (ov_load rfl one_int (hL.cell hH.drop hkl)) ?_; rw [ha]
    refine WL_v rfl (ov_index rfl rfl st_sl_bool hB.sl hap) ?_
    refine WL_storeRow (j := a * 1) hH rfl rfl (i := 0) rfl hB (by rw [bmL_len]; omega) rfl sz_bool ?_; rintro B2 w3 hB2 hH3; rw [Nat.mul_one, bmL_set] at hB2
    refine WL_nil ?_
    refine WT_inBlock ?_
    refine WT_region ?_
    refine WL_v rfl (ov_move rfl) ?_
    refine WL_v rfl (ov_add rfl rfl (by omega)) ?_
    refine WL_v rfl (ov_assign rfl) ?_
    refine WL_nil ?_
    refine again (k + 1) _ _ (by omega) (by repeat (first | exact trivial | refine ⟨rfl, ?_⟩)) ⟨by omega, B2, _, hB2, fun b => ?_, hH3⟩
    rw [putB_true, hS, List.take_succ_eq_append_getElem hkl, ha]
    constructor
    · rintro (⟨s, h1, h2⟩ | rfl)
      · exact ⟨s, List.mem_append_left _ h1, h2⟩
      · exact ⟨(b : Int), List.mem_append_right _ (List.mem_singleton.2 rfl), by omega⟩
    · rintro ⟨s, h1, h2⟩
      rcases List.mem_append.1 h1 with h1 | h1
      · exact .inl ⟨s, h1, h2⟩
      · rw [List.mem_singleton] at h1
        exact .inr (by omega)
  first | with_reducible replace hc := of_decide_eq_false hc | with_reducible replace hc := bn_F hc | with_reducible replace hc := bb_F hc | skip
  obtain rfl : k = L.length := by omega
  rw [List.take_length] at hS
  clear again hc
  refine WT_exit rfl ?_
  refine WT_seq ?_
  refine WT_seq ?_
  refine WT_region ?_
  refine WL_v rfl (ov_move rfl) ?_
  refine WL_v rfl (ov_len rfl hP.sl st_sl_impl_Node) ?_
  refine WL_v rfl (ov_sub rfl rfl (by omega)) ?_
  refine WL_v rfl (ov_assign rfl) ?_
  refine WL_nil ?_
  refine WT_block ?_
  refine WT_while (fun m : Nat => [(0, pv), (5, bv), (7, .int .i64 ((m : Int) - 1))]) (fun m w => m ≤ p.length ∧ ∃ B S, Row B 4 1 bv p.length (bmL S p.length) ∧ (∀ a, S a = true → Keep p L a ∧ a < p.length) ∧ (∀ s ∈ L, S s.toNat = true) ∧ (∀ a, m ≤ a → a < p.length → S a = true → ∀ f ∈ (p.getD a default).frm, S f.toNat = true) ∧ H w h (B :: Ls)) (fun m => m) p.length (by repeat (first | exact trivial | refine ⟨rfl, ?_⟩)) ⟨by omega, B, S, hB, fun a ha => ?_, fun s hs => (hS _).2 ⟨s, hs, rfl⟩, fun a h1 h2 => by omega, hH⟩ ?_
  · obtain ⟨s, h1, h2⟩ := (hS a).1 ha
    have := hr s h1
    exact ⟨⟨s, h1, .inl h2⟩, by omega⟩
  clear hH hB hS B S
  rintro m w3 ⟨hm, B, S, hB, hK, hSL, hcl, hH⟩ again
  refine WT_seq ?_
  refine WT_seq ?_
  refine WT_region ?_
  refine WL_v rfl (ov_move rfl) ?_
  refine WL_v rfl (ov_geq rfl rfl) ?_
  refine WL_nil ?_
  refine WT_cond rfl (fun hc => ?_) (fun hc => ?_)
  · skip
    first | with_reducible replace hc := of_decide_eq_true hc | with_reducible replace hc := bn_T hc | with_reducible replace hc := bb_T hc | skip
    obtain ⟨i, rfl⟩ : ∃ i, m = i + 1 := ⟨m - 1, by omega⟩
    have him : ((i + 1 : Nat) : Int) - 1 = (i : Int) := by omega
    rw [him]
    have hip : i < p.length := by omega
    obtain ⟨fv, rv, hf, hrr, hcell⟩ := hP.node hip
    have hN := PlanOk.node hv hip
    have hfr := frm_pos hv hip
    have hgp : p.getD i default = p[i] := getD_of hip
    rw [hgp] at hfr
    have hfl := hf.sl.lim
    refine WT_skip ?_
    refine WT_seq ?_
    refine WT_block ?_
    refine WT_seq ?_
    refine WT_region ?_
    refine WL_v rfl (ov_assign rfl) ?_
    refine WL_nil ?_
    refine WT_block ?_
    refine WT_while (fun s : Nat => [(0, pv), (5, bv), (7, .int .i64 (i : Int)), (8, .int .i64 (s : Int))]) (fun j w => j ≤ p[i].frm.length ∧ ∃ B S', Row B 4 1 bv p.length (bmL S' p.length) ∧ (∀ a, S' a = true → Keep p L a ∧ a < p.length) ∧ (∀ a, S a = true → S' a = true) ∧ (∀ a, i ≤ a → S' a = S a) ∧ (∀ t (_ : t < j) (ht : t < p[i].frm.length), S' (p[i].frm[t]).toNat = true) ∧ H w h (B :: Ls)) (fun j => p[i].frm.length - j) 0 (by repeat (first | exact trivial | refine ⟨rfl, ?_⟩)) ⟨by omega, B, S, hB, hK, fun a h => h, fun a _ => rfl, fun t h => by omega, hH⟩ ?_
    clear hH hB B
    rintro j w4 ⟨hj, B, S', hB, hK', hSS, hSa, hdone, hH⟩ again2
    have hfin : ∀ {w : World}, H w h (B :: Ls) → (S' i = true → ∀ f ∈ p[i].frm, S' f.toNat = true) → ∃ B S, Row B 4 1 bv p.length (bmL S p.length) ∧ (∀ a, S a = true → Keep p L a ∧ a < p.length) ∧ (∀ s ∈ L, S s.toNat = true) ∧ (∀ a, i ≤ a → a < p.length → S a = true → ∀ f ∈ (p.getD a default).frm, S f.toNat = true) ∧ H w h (B :: Ls) := fun hH hi => ⟨B, S', hB, hK', fun s hs => hSS _ (hSL s hs), fun a h1 h2 h3 f hmf => by
      rcases Nat.lt_or_ge i a with h4 | h4
      · exact hSS _ (hcl a (by omega) h2 (by rw [← hSa a h1]; exact h3) f hmf)
      · obtain rfl : a = i := by omega
        exact hi h3 f (by rw [← hgp]; exact hmf), hH⟩
    by_cases hjl : j < p[i].frm.length
    · have hfm := List.getElem_mem hjl
      have hfp := hfr _ hfm
      obtain ⟨u, hu⟩ := Int.eq_ofNat_of_zero_le hfp.1
      have hup : u < p.length := by omega
      refine WT_seq ?_
      refine WT_seq ?_
      refine WT_region ?_
      refine WL_v rfl (ov_move rfl) ?_
      refine WL_v rfl (ov_move rfl) ?_
      refine WL_v rfl (ov_move rfl) ?_
      refine WL_v rfl (ov_index rfl rfl st_sl_impl_Node hP.sl hip) ?_
      refine WL_v rfl (ov_field rfl fo_impl_Node_1) ?_
      refine WL_v rfl (ov_load rfl one_sl_int (hcell _ _ hH 1 _ rfl)) ?_
      refine WL_v rfl (ov_len rfl hf.sl st_sl_int) ?_
      refine WL_v rfl (ov_T (ov_lss rfl rfl) (decide_eq_true (by omega))) ?_
      refine WL_v rfl (ov_move rfl) ?_
      refine WL_guardOn rfl rfl ?_
      refine WL_v rfl (ov_move rfl) ?_
      refine WL_guardOn rfl rfl ?_
      refine WL_v rfl (ov_move rfl) ?_
      refine WL_guardOn rfl rfl ?_
      refine WL_v rfl (ov_index rfl rfl st_sl_bool hB.sl hip) ?_
      refine WL_guardOn rfl rfl ?_
      refine WL_v rfl (ov_load rfl one_bool (by rw [Nat.mul_one]; exact hB.cell hH (i := 0) rfl (bmL_get hip))) ?_
      refine WL_v rfl (ov_pickT rfl rfl) ?_
      refine WL_nil ?_
      refine WT_cond rfl (fun hSi => ?_) (fun hSi => ?_)
      · skip
        first | with_reducible replace hSi := of_decide_eq_true hSi | with_reducible replace hSi := bn_T hSi | with_reducible replace hSi := bb_T hSi | skip
        refine WT_skip ?_
        refine WT_seq ?_
        refine WT_block ?_
        refine WT_region ?_
        refine WL_v rfl (ov_move rfl) ?_
        refine WL_v rfl (ov_move rfl) ?_
        refine WL_v rfl (ov_move rfl) ?_
        refine WL_v rfl (ov_index rfl rfl st_sl_impl_Node hP.sl hip) ?_
        refine WL_v rfl (ov_field rfl fo_impl_Node_1) ?_
        refine WL_v rfl (ov_load rfl one_sl_int (hcell _ _ hH 1 _ rfl)) ?_
        refine WL_v rfl (ov_move rfl) ?_
        refine WL_v rfl (ov_index rfl rfl st_sl_int hf.sl hjl) ?_
        refine WL_v rfl (ov_load rfl one_int (hf.cell hH hjl)) ?_; rw [hu]
        refine WL_v rfl (ov_index rfl rfl st_sl_bool hB.sl hup) ?_
        refine WL_storeRow (j := u * 1) hH rfl rfl (i := 0) rfl hB (by rw [bmL_len]; omega) rfl sz_bool ?_; rintro B2 w5 hB2 hH5; rw [Nat.mul_one, bmL_set] at hB2
        refine WL_nil ?_
        refine WT_inBlock ?_
        refine WT_region ?_
        refine WL_v rfl (ov_move rfl) ?_
        refine WL_v rfl (ov_add rfl rfl (by omega)) ?_
        refine WL_v rfl (ov_assign rfl) ?_
        refine WL_nil ?_
        refine again2 (j + 1) _ _ (by omega) (by repeat (first | exact trivial | refine ⟨rfl, ?_⟩)) ⟨by omega, B2, _, hB2, fun a ha => ?_, fun a ha => putB_true.2 (.inl (hSS a ha)), fun a ha => ?_, fun t ht htl => ?_, hH5⟩
        · rcases putB_true.1 ha with h1 | rfl
          · exact hK' a h1
          · have h2 := (hK' i hSi).1.need hv hip (f := p[i].frm[j]) (by rw [hgp]; exact hfm)
            rw [hu, Int.toNat_natCast] at h2
            exact ⟨h2, hup⟩
        · rw [← hSa a ha]
          have : ¬ a = u := by omega
          simp [putB, this]
        · rw [putB_true]
          rcases Nat.lt_or_ge t j with h3 | h3
          · exact .inl (hdone t h3 htl)
          · obtain rfl : t = j := by omega
            exact .inr (by rw [hu, Int.toNat_natCast])
      first | with_reducible replace hSi := of_decide_eq_false hSi | with_reducible replace hSi := bn_F hSi | with_reducible replace hSi := bb_F hSi | skip
      refine WT_exit rfl ?_
      refine WT_inBlock ?_
      refine WT_region ?_
      refine WL_v rfl (ov_move rfl) ?_
      refine WL_v rfl (ov_sub rfl rfl (by omega)) ?_
      refine WL_v rfl (ov_assign rfl) ?_
      refine WL_nil ?_
      refine again i _ _ (by omega) (by repeat (first | exact trivial | refine ⟨rfl, ?_⟩)) ⟨by omega, hfin hH fun h1 => by rw [hSi] at h1; cases h1⟩
    · skip
      refine WT_seq ?_
      refine WT_seq ?_
      refine WT_region ?_
      refine WL_v rfl (ov_move rfl) ?_
      refine WL_v rfl (ov_move rfl) ?_
      refine WL_v rfl (ov_move rfl) ?_
      refine WL_v rfl (ov_index rfl rfl st_sl_impl_Node hP.sl hip) ?_
      refine WL_v rfl (ov_field rfl fo_impl_Node_1) ?_
      refine WL_v rfl (ov_load rfl one_sl_int (hcell _ _ hH 1 _ rfl)) ?_
      refine WL_v rfl (ov_len rfl hf.sl st_sl_int) ?_
      refine WL_v rfl (ov_F (ov_lss rfl rfl) (decide_eq_false (by omega))) ?_
      refine WL_v rfl (ov_move rfl) ?_
      refine WL_guardOff rfl rfl rfl rfl ?_
      refine WL_guardOff rfl rfl rfl rfl ?_
      refine WL_guardOff rfl rfl rfl rfl ?_
      refine WL_guardOff rfl rfl rfl rfl ?_
      refine WL_v rfl (ov_pickF rfl rfl) ?_
      refine WL_nil ?_
      refine WT_condF rfl ?_
      refine WT_exit rfl ?_
      refine WT_inBlock ?_
      refine WT_region ?_
      refine WL_v rfl (ov_move rfl) ?_
      refine WL_v rfl (ov_sub rfl rfl (by omega)) ?_
      refine WL_v rfl (ov_assign rfl) ?_
      refine WL_nil ?_
      refine again i _ _ (by omega) (by repeat (first | exact trivial | refine ⟨rfl, ?_⟩)) ⟨by omega, hfin hH fun _ f hf => ?_⟩
      obtain ⟨t, ht, rfl⟩ := List.getElem_of_mem hf
      exact hdone t (by omega) ht
  first | with_reducible replace hc := of_decide_eq_false hc | with_reducible replace hc := bn_F hc | with_reducible replace hc := bb_F hc | skip
  have hm0 : m = 0 := by omega
  subst hm0
  have hKK : ∀ a, S a = true ↔ Keep p L a := fun a => ⟨fun h1 => (hK a h1).1, fun h1 => Keep.sub hv hr (fun i hi h2 f hf => hcl i (by omega) hi h2 f hf) hSL h1⟩
  clear again hc
  refine WT_exit rfl ?_
  refine WT_seq ?_
  refine WT_region ?_
  refine WL_bsI0 rfl hH run_bs_int0 ?_; rintro X0 xv0 w4 hX0 hH4
  refine WL_v rfl (ov_assign rfl) ?_
  refine WL_nil ?_
  refine WT_seq ?_
  refine WT_seq ?_
  refine WT_region ?_
  refine WL_v rfl (ov_assign rfl) ?_
  refine WL_nil ?_
  refine WT_block ?_
  refine WT_while (fun s : Nat × Value => [(0, pv), (5, bv), (9, s.2), (10, .int .i64 (s.1 : Int))]) (fun s w => s.1 ≤ p.length ∧ ∃ X, IRow X 3 s.2 (toI ((List.range s.1).filter S)) ∧ H w h (X :: B :: Ls)) (fun s => p.length - s.1) (0, xv0) (by repeat (first | exact trivial | refine ⟨rfl, ?_⟩)) ⟨by omega, X0, hX0, hH4⟩ ?_
  clear hH hH4 hX0
  rintro ⟨k, xv⟩ w5 ⟨hk, X, hX, hH⟩ again
  simp only at hk hX
  refine WT_seq ?_
  refine WT_seq ?_
  refine WT_region ?_
  refine WL_v rfl (ov_move rfl) ?_
  refine WL_v rfl (ov_move rfl) ?_
  refine WL_v rfl (ov_len rfl hP.sl st_sl_impl_Node) ?_
  refine WL_v rfl (ov_lss rfl rfl) ?_
  refine WL_nil ?_
  refine WT_cond rfl (fun hc => ?_) (fun hc => ?_)
  · skip
    first | with_reducible replace hc := of_decide_eq_true hc | with_reducible replace hc := bn_T hc | with_reducible replace hc := bb_T hc | skip
    have hkp : k < p.length := by simp only at hc; omega
    have hxl : (toI ((List.range k).filter S)).length ≤ k := by rw [toI_len]; exact Nat.le_trans (List.length_filter_le _ _) (by simp)
    refine WT_skip ?_
    refine WT_seq ?_
    refine WT_block ?_
    refine WT_seq ?_
    refine WT_region ?_
    refine WL_v rfl (ov_move rfl) ?_
    refine WL_v rfl (ov_move rfl) ?_
    refine WL_v rfl (ov_index rfl rfl st_sl_bool hB.sl hkp) ?_
    refine WL_v rfl (ov_load rfl one_bool (by rw [Nat.mul_one]; exact hB.cell hH (i := 1) rfl (bmL_get hkp))) ?_
    refine WL_nil ?_
    refine WT_cond rfl (fun hSk => ?_) (fun hSk => ?_)
    · skip
      first | with_reducible replace hSk := of_decide_eq_true hSk | with_reducible replace hSk := bn_T hSk | with_reducible replace hSk := bb_T hSk | skip
      refine WT_region ?_
      refine WL_v rfl (ov_move rfl) ?_
      refine WL_v rfl (ov_move rfl) ?_
      refine WL_bsI rfl hH rfl (run_bs_int _) ?_; rintro Y yv w6 hY hH6
      refine WL_appI (i := 1) (j := 0) rfl hH6 rfl rfl st_sl_int rfl hX rfl hY (by simp; omega) (by simp; omega) ?_; rintro X2 xv2 w7 hX2 hH7
      refine WL_v rfl (ov_assign rfl) ?_
      refine WL_nil ?_
      refine WT_inBlock ?_
      refine WT_region ?_
      refine WL_v rfl (ov_move rfl) ?_
      refine WL_v rfl (ov_add rfl rfl (by omega)) ?_
      refine WL_v rfl (ov_assign rfl) ?_
      refine WL_nil ?_
      refine again (k + 1, xv2) _ _ (by simp only; omega) (by repeat (first | exact trivial | refine ⟨rfl, ?_⟩)) ⟨by simp only; omega, X2, ?_, hH7.drop⟩
      show IRow X2 _ _ (toI ((List.range (k + 1)).filter S))
      rw [List.range_succ, List.filter_append, List.filter_cons, if_pos hSk, List.filter_nil, toI_snoc]
      exact hX2
    first | with_reducible replace hSk := of_decide_eq_false hSk | with_reducible replace hSk := bn_F hSk | with_reducible replace hSk := bb_F hSk | skip
    refine WT_skip ?_
    refine WT_inBlock ?_
    refine WT_region ?_
    refine WL_v rfl (ov_move rfl) ?_
    refine WL_v rfl (ov_add rfl rfl (by omega)) ?_
    refine WL_v rfl (ov_assign rfl) ?_
    refine WL_nil ?_
    refine again (k + 1, xv) _ _ (by simp only; omega) (by repeat (first | exact trivial | refine ⟨rfl, ?_⟩)) ⟨by simp only; omega, X, ?_, hH⟩
    show IRow X _ _ (toI ((List.range (k + 1)).filter S))
    rw [List.range_succ, List.filter_append, List.filter_cons, if_neg (by rw [hSk]; simp), List.filter_nil, List.append_nil]
    exact hX
  first | with_reducible replace hc := of_decide_eq_false hc | with_reducible replace hc := bn_F hc | with_reducible replace hc := bb_F hc | skip
  have hkl : k = p.length := by simp only at hc; omega
  subst hkl
  refine WT_exit rfl ?_
  refine WT_seq ?_
  refine WT_region ?_
  refine WL_v rfl (ov_move rfl) ?_
  refine WL_v rfl (ov_assign rfl) ?_
  refine WL_nil ?_
  exact WT_ret1 Try.func92 Try.results92 rfl ⟨S, X, hKK, fun a h1 => (hK a h1).2, hX, hH.swap.drop⟩

theorem sCutKeep_yes (hH : H w h Ls) {pv lv : Value} {p : List Nd} {L : List Int} (hP : Plan h pv p) (hL : RdL h Ls lv L) (hok : cutOk p L = true) : Rets Try.prog 60 #[pv, lv] w fun v w' => ∃ (K : Nat → Bool) (X : Heaplet) (kv : Value), v = .tuple #[kv, .bool true] ∧ (∀ a, K a = true ↔ Keep p L a) ∧ (∀ a, K a = true → a < p.length) ∧ IRow X 3 kv (toI ((List.range p.length).filter K)) ∧ H w' h (X :: Ls) := by
  have hok2 := hok
  unfold cutOk at hok2
  rw [Bool.and_eq_true] at hok2
  obtain ⟨hv, hall⟩ := hok2
  have hr : ∀ x ∈ L, 0 ≤ x ∧ x < (p.length : Int) := fun x hx => of_decide_eq_true (List.all_eq_true.1 hall x hx)
  have hlen := PlanOk.len hv
  have hll := hL.sl.lim
  have hsv := fun {w : World} (hH : H w h Ls) => sPlanValid_ok hH hP (by omega)
  rw [hv] at hsv
  refine rets_enter Try.func60 rfl Try.ntmps60 (by simp) ?_
  refine WT_seq ?_
  refine WT_region ?_
  refine WL_v rfl (ov_assign rfl) ?_
  refine WL_v rfl (ov_assign rfl) ?_
  refine WL_nil ?_
  refine WT_seq ?_
  refine WT_seq ?_
  refine WT_region ?_
  refine WL_v rfl (ov_move rfl) ?_
  refine WL_call rfl rfl cf_spec_PlanValid (hsv hH) ?_; rintro _ w1 ⟨rfl, hH1⟩
  refine WL_v rfl (ov_F (ov_not rfl) (by first | exact decide_eq_false rfl | exact nb_F rfl | exact mb_F rfl | exact rfl | (simp only [decide_eq_false_iff_not]; omega) | simpa using rfl)) ?_
  refine WL_nil ?_
  refine WT_condF rfl ?_
  refine WT_skip ?_
  refine WT_seq ?_
  refine WT_seq ?_
  refine WT_region ?_
  refine WL_v rfl (ov_assign rfl) ?_
  refine WL_nil ?_
  refine WT_block ?_
  refine WT_while (fun s : Nat => [(0, pv), (1, lv), (6, .int .i64 (s : Int))]) (fun k w => k ≤ L.length ∧ H w h Ls) (fun k => L.length - k) 0 (by repeat (first | exact trivial | refine ⟨rfl, ?_⟩)) ⟨by omega, hH1⟩ ?_
  clear hH hH1
  rintro k w2 ⟨hk, hH⟩ again
  refine WT_seq ?_
  refine WT_seq ?_
  refine WT_region ?_
  refine WL_v rfl (ov_move rfl) ?_
  refine WL_v rfl (ov_move rfl) ?_
  refine WL_v rfl (ov_len rfl hL.sl st_sl_int) ?_
  refine WL_v rfl (ov_lss rfl rfl) ?_
  refine WL_nil ?_
  refine WT_cond rfl (fun hc => ?_) (fun hc => ?_)
  · skip
    first | with_reducible replace hc := of_decide_eq_true hc | with_reducible replace hc := bn_T hc | with_reducible replace hc := bb_T hc | skip
    have hkl : k < L.length := by omega
    have hx := hr _ (List.getElem_mem hkl)
    refine WT_skip ?_
    refine WT_seq ?_
    refine WT_block ?_
    refine WT_seq ?_
    refine WT_region ?_
    refine WL_v rfl (ov_move rfl) ?_
    refine WL_v rfl (ov_move rfl) ?_
    refine WL_v rfl (ov_index rfl rfl st_sl_int hL.sl hkl) ?_
    refine WL_v rfl (ov_load rfl one_int (hL.cell hH hkl)) ?_
    refine WL_v rfl (ov_move rfl) ?_
    refine WL_v rfl (ov_len rfl hP.sl st_sl_impl_Node) ?_
    refine WL_v rfl (ov_sub rfl rfl (by omega)) ?_
    refine WL_call rfl rfl cf_spec_l6In (l6In_ok hH _ _ _) ?_; rintro _ w3 ⟨rfl, hH3⟩
    refine WL_v rfl (ov_F (ov_not rfl) (by rw [decide_eq_true (by omega)]; rfl)) ?_
    refine WL_nil ?_
    refine WT_condF rfl ?_
    refine WT_skip ?_
    refine WT_inBlock ?_
    refine WT_region ?_
    refine WL_v rfl (ov_move rfl) ?_
    refine WL_v rfl (ov_add rfl rfl (by omega)) ?_
    refine WL_v rfl (ov_assign rfl) ?_
    refine WL_nil ?_
    exact again (k + 1) _ _ (by omega) (by repeat (first | exact trivial | refine ⟨rfl, ?_⟩)) ⟨by omega, hH3⟩
  first | with_reducible replace hc := of_decide_eq_false hc | with_reducible replace hc := bn_F hc | with_reducible replace hc := bb_F hc | skip
  refine WT_exit rfl ?_
  refine WT_seq ?_
  refine WT_region ?_
  refine WL_v rfl (ov_move rfl) ?_
  refine WL_v rfl (ov_move rfl) ?_
  refine WL_call rfl rfl cf_spec_l3Needs (l3Needs_ok hH hP hv hL hr) ?_; rintro kv w4 ⟨K, X, hK, hKp, hX, hH4⟩
  refine WL_v rfl (ov_assign rfl) ?_
  refine WL_v rfl (ov_assign rfl) ?_
  refine WL_nil ?_
  exact WT_ret2 Try.func60 Try.results60 rfl rfl ⟨K, X, kv, rfl, hK, hKp, hX, hH4⟩

theorem sCutKeep_no (hH : H w h Ls) {pv lv : Value} {p : List Nd} {L : List Int} (hP : Plan h pv p) (hpl : p.length ≤ 1000000) (hL : RdL h Ls lv L) (hb : ∀ x ∈ L, -1000 ≤ x ∧ x ≤ 1000) (hok : cutOk p L = false) : Rets Try.prog 60 #[pv, lv] w fun v w' => ∃ (X : Heaplet) (kv : Value), v = .tuple #[kv, .bool false] ∧ IRow X 3 kv [] ∧ H w' h (X :: Ls) := by
  have hll := hL.sl.lim
  have hsv := fun {w : World} (hH : H w h Ls) => sPlanValid_ok hH hP (by omega)
  refine rets_enter Try.func60 rfl Try.ntmps60 (by simp) ?_
  by_cases hv : planOk p = true
  · rw [hv] at hsv
    have hno : ¬ ∀ x ∈ L, 0 ≤ x ∧ x < (p.length : Int) := fun hh => by
      unfold cutOk at hok
      rw [hv, Bool.true_and, List.all_eq_false] at hok
      obtain ⟨x, hx, h1⟩ := hok
      exact h1 (decide_eq_true (hh x hx))
    refine WT_seq ?_
    refine WT_region ?_
    refine WL_v rfl (ov_assign rfl) ?_
    refine WL_v rfl (ov_assign rfl) ?_
    refine WL_nil ?_
    refine WT_seq ?_
    refine WT_seq ?_
    refine WT_region ?_
    refine WL_v rfl (ov_move rfl) ?_
    refine WL_call rfl rfl cf_spec_PlanValid (hsv hH) ?_; rintro _ w1 ⟨rfl, hH1⟩
    refine WL_v rfl (ov_F (ov_not rfl) (by first | exact decide_eq_false rfl | exact nb_F rfl | exact mb_F rfl | exact rfl | (simp only [decide_eq_false_iff_not]; omega) | simpa using rfl)) ?_
    refine WL_nil ?_
    refine WT_condF rfl ?_
    refine WT_skip ?_
    refine WT_seq ?_
    refine WT_seq ?_
    refine WT_region ?_
    refine WL_v rfl (ov_assign rfl) ?_
    refine WL_nil ?_
    refine WT_block ?_
    refine WT_while (fun s : Nat => [(0, pv), (1, lv), (6, .int .i64 (s : Int))]) (fun k w => k ≤ L.length ∧ (∀ t (_ : t < k) (ht : t < L.length), 0 ≤ L[t] ∧ L[t] < (p.length : Int)) ∧ H w h Ls) (fun k => L.length - k) 0 (by repeat (first | exact trivial | refine ⟨rfl, ?_⟩)) ⟨by omega, fun t h => by omega, hH1⟩ ?_
    clear hH hH1
    rintro k w2 ⟨hk, hall, hH⟩ again
    refine WT_seq ?_
    refine WT_seq ?_
    refine WT_region ?_
    refine WL_v rfl (ov_move rfl) ?_
    refine WL_v rfl (ov_move rfl) ?_
    refine WL_v rfl (ov_len rfl hL.sl st_sl_int) ?_
    refine WL_v rfl (ov_lss rfl rfl) ?_
    refine WL_nil ?_
    refine WT_cond rfl (fun hc => ?_) (fun hc => ?_)
    · skip
      first | with_reducible replace hc := of_decide_eq_true hc | with_reducible replace hc := bn_T hc | with_reducible replace hc := bb_T hc | skip
      have hkl : k < L.length := by omega
      have hx := hb _ (List.getElem_mem hkl)
      refine WT_skip ?_
      refine WT_seq ?_
      refine WT_block ?_
      refine WT_seq ?_
      refine WT_region ?_
      refine WL_v rfl (ov_move rfl) ?_
      refine WL_v rfl (ov_move rfl) ?_
      refine WL_v rfl (ov_index rfl rfl st_sl_int hL.sl hkl) ?_
      refine WL_v rfl (ov_load rfl one_int (hL.cell hH hkl)) ?_
      refine WL_v rfl (ov_move rfl) ?_
      refine WL_v rfl (ov_len rfl hP.sl st_sl_impl_Node) ?_
      refine WL_v rfl (ov_sub rfl rfl (by omega)) ?_
      refine WL_call rfl rfl cf_spec_l6In (l6In_ok hH _ _ _) ?_; rintro _ w3 ⟨rfl, hH3⟩
      refine WL_v rfl (ov_not rfl) ?_
      refine WL_nil ?_
      refine WT_cond rfl (fun hin => ?_) (fun hin => ?_)
      · skip
        first | with_reducible replace hin := of_decide_eq_true hin | with_reducible replace hin := bn_T hin | with_reducible replace hin := bb_T hin | skip
        refine WT_seq ?_
        refine WT_region ?_
        refine WL_bsI0 rfl hH3 run_bs_int0 ?_; rintro X xv w4 hX hH4
        refine WL_v rfl (ov_assign rfl) ?_
        refine WL_v rfl (ov_assign rfl) ?_
        refine WL_nil ?_
        exact WT_ret2 Try.func60 Try.results60 rfl rfl ⟨X, xv, rfl, hX, hH4⟩
      first | with_reducible replace hin := of_decide_eq_false hin | with_reducible replace hin := bn_F hin | with_reducible replace hin := bb_F hin | skip
      have hin2 : 0 ≤ L[k] ∧ L[k] ≤ (p.length : Int) - 1 := by simpa using hin
      refine WT_skip ?_
      refine WT_inBlock ?_
      refine WT_region ?_
      refine WL_v rfl (ov_move rfl) ?_
      refine WL_v rfl (ov_add rfl rfl (by omega)) ?_
      refine WL_v rfl (ov_assign rfl) ?_
      refine WL_nil ?_
      refine again (k + 1) _ _ (by omega) (by repeat (first | exact trivial | refine ⟨rfl, ?_⟩)) ⟨by omega, fun t ht htl => ?_, hH3⟩
      rcases Nat.lt_or_ge t k with h3 | h3
      · exact hall t h3 htl
      · obtain rfl : t = k := by omega
        omega
    first | with_reducible replace hc := of_decide_eq_false hc | with_reducible replace hc := bn_F hc | with_reducible replace hc := bb_F hc | skip
    exfalso
    refine hno fun x hx => ?_
    obtain ⟨t, ht, rfl⟩ := List.getElem_of_mem hx
    exact hall t (by omega) ht
  · rw [show planOk p = false by simpa using hv] at hsv
    refine WT_seq ?_
    refine WT_region ?_
    refine WL_v rfl (ov_assign rfl) ?_
    refine WL_v rfl (ov_assign rfl) ?_
    refine WL_nil ?_
    refine WT_seq ?_
    refine WT_seq ?_
    refine WT_region ?_
    refine WL_v rfl (ov_move rfl) ?_
    refine WL_call rfl rfl cf_spec_PlanValid (hsv hH) ?_; rintro _ w1 ⟨rfl, hH1⟩
    refine WL_v rfl (ov_T (ov_not rfl) (by first | exact decide_eq_true rfl | exact nb_T rfl | exact mb_T rfl | exact rfl | (simp only [decide_eq_true_eq]; omega) | simpa using rfl)) ?_
    refine WL_nil ?_
    refine WT_condT rfl ?_
    refine WT_seq ?_
    refine WT_region ?_
    refine WL_bsI0 rfl hH1 run_bs_int0 ?_; rintro X xv w4 hX hH4
    refine WL_v rfl (ov_assign rfl) ?_
    refine WL_v rfl (ov_assign rfl) ?_
    refine WL_nil ?_
    exact WT_ret2 Try.func60 Try.results60 rfl rfl ⟨X, xv, rfl, hX, hH4⟩
end
end Go.Proofs.Ytafljegjdanldaa

/- Walks: all that a node needs. -/
namespace Go.Proofs.Ytafljegjdanldaa
open Go.RowKit

/-- The variable of ten truths. -/
def sbox (g : Nat) (S : Nat → Bool) : Heaplet := [(g, .cells ((List.range 10).map fun u => Value.bool (S u)).toArray 55 (0, 0))]
theorem sbox_get {S : Nat → Bool} {u : Nat} (hu : u < 10) : (((List.range 10).map fun u => Value.bool (S u)).toArray)[0 + u]? = some (.bool (S u)) := by
  rw [Nat.zero_add, List.getElem?_toArray, List.getElem?_map, List.getElem?_range hu]; rfl
theorem sbox_set {S : Nat → Bool} {u : Nat} (b : Bool) : ((List.range 10).map fun u => Value.bool (S u)).toArray.setIfInBounds (0 + u) (.bool b) = ((List.range 10).map fun a => Value.bool (if a = u then b else S a)).toArray := by
  rw [Nat.zero_add, List.setIfInBounds_toArray]
  congr 1
  refine List.ext_getElem (by simp) fun i h1 h2 => ?_
  rw [List.getElem_set, List.getElem_map, List.getElem_map, List.getElem_range]
  by_cases h : u = i
  · rw [if_pos h, if_pos h.symm]
  · rw [if_neg h, if_neg (fun e => h e.symm)]

section
variable {h : GH} {Ls : List Heaplet}

/-- All that a node needs. -/
noncomputable def needsOf (p : List Nd) (a : Int) : List Int := if planOk p = true ∧ 0 ≤ a ∧ a < (p.length : Int) then toI (needsL p a.toNat) else []

end
end Go.Proofs.Ytafljegjdanldaa

/- Walks: what is ready behind some. -/
namespace Go.Proofs.Ytafljegjdanldaa
open Go.RowKit

def readyOf (p : List Nd) (D : List Int) : List Int := if planOk p = true then toI (readyL p D) else []

section
variable {h : GH} {Ls : List Heaplet} {w : World}

theorem l3HasR_ok (hH : H w h Ls) {av : Value} {xs : List Int} (hA : RdL h Ls av xs) (n : Int) : Rets Try.prog 62 #[av, .int .i64 n] w fun v w' => v = .bool (decide (n ∈ xs)) ∧ H w' h Ls := by
  have hal := hA.sl.lim
  refine rets_enter Try.func62 rfl Try.ntmps62 (by simp) ?_
  refine WT_seq ?_
  refine WT_region ?_
  refine WL_v rfl (ov_assign rfl) ?_
  refine WL_nil ?_
  refine WT_seq ?_
  refine WT_seq ?_
  refine WT_region ?_
  refine WL_v rfl (ov_assign rfl) ?_
  refine WL_nil ?_
  refine WT_block ?_
  refine WT_while (fun s : Nat => [(0, av), (1, .int .i64 n), (5, .int .i64 (s : Int))]) (fun k w => k ≤ xs.length ∧ (∀ j (_ : j < k) (h1 : j < xs.length), xs[j] ≠ n) ∧ H w h Ls) (fun k => xs.length - k) 0 (by repeat (first | exact trivial | refine ⟨rfl, ?_⟩)) ⟨by omega, by omega, hH⟩ ?_
  clear hH
  rintro k w2 ⟨hk, hall, hH1⟩ again
  refine WT_seq ?_
  refine WT_seq ?_
  refine WT_region ?_
  refine WL_v rfl (ov_move rfl) ?_
  refine WL_v rfl (ov_move rfl) ?_
  refine WL_v rfl (ov_len rfl hA.sl st_sl_int) ?_
  refine WL_v rfl (ov_lss rfl rfl) ?_
  refine WL_nil ?_
  refine WT_cond rfl (fun hc => ?_) (fun hc => ?_)
  · skip
    first | with_reducible replace hc := of_decide_eq_true hc | with_reducible replace hc := bn_T hc | with_reducible replace hc := bb_T hc | skip
    have hkx : k < xs.length := by omega
    refine WT_skip ?_
    refine WT_seq ?_
    refine WT_block ?_
    refine WT_seq ?_
    refine WT_region ?_
    refine WL_v rfl (ov_move rfl) ?_
    refine WL_v rfl (ov_move rfl) ?_
    refine WL_v rfl (ov_index rfl rfl st_sl_int hA.sl hkx) ?_
    refine WL_v rfl (ov_load rfl one_int (hA.cell hH1 hkx)) ?_
    refine WL_v rfl (ov_move rfl) ?_
    refine WL_v rfl (ov_eql rfl rfl) ?_
    refine WL_nil ?_
    refine WT_cond rfl (fun heq => ?_) (fun heq => ?_)
    · skip
      first | with_reducible replace heq := of_decide_eq_true heq | with_reducible replace heq := bn_T heq | with_reducible replace heq := bb_T heq | skip
      refine WT_seq ?_
      refine WT_region ?_
      refine WL_v rfl (ov_assign rfl) ?_
      refine WL_nil ?_
      exact WT_ret1 Try.func62 Try.results62 rfl ⟨congrArg Value.bool (decide_eq_true (heq ▸ List.getElem_mem hkx)).symm, hH1⟩
    first | with_reducible replace heq := of_decide_eq_false heq | with_reducible replace heq := bn_F heq | with_reducible replace heq := bb_F heq | skip
    refine WT_skip ?_
    refine WT_inBlock ?_
    refine WT_region ?_
    refine WL_v rfl (ov_move rfl) ?_
    refine WL_v rfl (ov_add rfl rfl (by omega)) ?_
    refine WL_v rfl (ov_assign rfl) ?_
    refine WL_nil ?_
    refine again (k + 1) _ _ (by omega) (by repeat (first | exact trivial | refine ⟨rfl, ?_⟩)) ⟨by omega, fun j hj h1 => ?_, hH1⟩
    rcases Nat.lt_or_ge j k with h3 | h3
    · exact hall j h3 h1
    · obtain rfl : j = k := by omega
      exact heq
  first | with_reducible replace hc := of_decide_eq_false hc | with_reducible replace hc := bn_F hc | with_reducible replace hc := bb_F hc | skip
  obtain rfl : k = xs.length := by omega
  refine WT_exit rfl ?_
  refine WT_seq ?_
  refine WT_region ?_
  refine WL_v rfl (ov_assign rfl) ?_
  refine WL_nil ?_
  exact WT_ret1 Try.func62 Try.results62 rfl ⟨congrArg Value.bool (decide_eq_false fun hm => by obtain ⟨j, hj, he⟩ := List.mem_iff_getElem.1 hm; exact hall j hj hj he).symm, hH1⟩

theorem l5All_ok (hH : H w h Ls) {av bv : Value} {xs ys : List Int} (hA : RdL h Ls av xs) (hB : RdL h Ls bv ys) : Rets Try.prog 111 #[av, bv] w fun v w' => v = .bool (ys.all fun f => decide (f ∈ xs)) ∧ H w' h Ls := by
  have hbl := hB.sl.lim
  refine rets_enter Try.func111 rfl Try.ntmps111 (by simp) ?_
  refine WT_seq ?_
  refine WT_region ?_
  refine WL_v rfl (ov_assign rfl) ?_
  refine WL_nil ?_
  refine WT_seq ?_
  refine WT_seq ?_
  refine WT_region ?_
  refine WL_v rfl (ov_assign rfl) ?_
  refine WL_nil ?_
  refine WT_block ?_
  refine WT_while (fun s : Nat => [(0, av), (1, bv), (5, .int .i64 (s : Int))]) (fun k w => k ≤ ys.length ∧ (∀ j (_ : j < k) (h1 : j < ys.length), ys[j] ∈ xs) ∧ H w h Ls) (fun k => ys.length - k) 0 (by repeat (first | exact trivial | refine ⟨rfl, ?_⟩)) ⟨by omega, by omega, hH⟩ ?_
  clear hH
  rintro k w2 ⟨hk, hall, hH1⟩ again
  refine WT_seq ?_
  refine WT_seq ?_
  refine WT_region ?_
  refine WL_v rfl (ov_move rfl) ?_
  refine WL_v rfl (ov_move rfl) ?_
  refine WL_v rfl (ov_len rfl hB.sl st_sl_int) ?_
  refine WL_v rfl (ov_lss rfl rfl) ?_
  refine WL_nil ?_
  refine WT_cond rfl (fun hc => ?_) (fun hc => ?_)
  · skip
    first | with_reducible replace hc := of_decide_eq_true hc | with_reducible replace hc := bn_T hc | with_reducible replace hc := bb_T hc | skip
    have hky : k < ys.length := by omega
    refine WT_skip ?_
    refine WT_seq ?_
    refine WT_block ?_
    refine WT_seq ?_
    refine WT_region ?_
    refine WL_v rfl (ov_move rfl) ?_
    refine WL_v rfl (ov_move rfl) ?_
    refine WL_v rfl (ov_move rfl) ?_
    refine WL_v rfl (ov_index rfl rfl st_sl_int hB.sl hky) ?_
    refine WL_v rfl (ov_load rfl one_int (hB.cell hH1 hky)) ?_
    refine WL_call rfl rfl cf_spec_l3Has (l3HasR_ok hH1 hA _) ?_; rintro _ w3 ⟨rfl, hH3⟩
    refine WL_v rfl (ov_not rfl) ?_
    refine WL_nil ?_
    refine WT_cond rfl (fun hin => ?_) (fun hin => ?_)
    · skip
      first | with_reducible replace hin := of_decide_eq_true hin | with_reducible replace hin := bn_T hin | with_reducible replace hin := bb_T hin | skip
      have hin' : ys[k] ∉ xs := by simpa using hin
      refine WT_seq ?_
      refine WT_region ?_
      refine WL_v rfl (ov_assign rfl) ?_
      refine WL_nil ?_
      exact WT_ret1 Try.func111 Try.results111 rfl ⟨congrArg Value.bool (List.all_eq_false.2 ⟨_, List.getElem_mem hky, by simpa using hin'⟩).symm, hH3⟩
    first | with_reducible replace hin := of_decide_eq_false hin | with_reducible replace hin := bn_F hin | with_reducible replace hin := bb_F hin | skip
    have hin' : ys[k] ∈ xs := by simpa using hin
    refine WT_skip ?_
    refine WT_inBlock ?_
    refine WT_region ?_
    refine WL_v rfl (ov_move rfl) ?_
    refine WL_v rfl (ov_add rfl rfl (by omega)) ?_
    refine WL_v rfl (ov_assign rfl) ?_
    refine WL_nil ?_
    refine again (k + 1) _ _ (by omega) (by repeat (first | exact trivial | refine ⟨rfl, ?_⟩)) ⟨by omega, fun j hj h1 => ?_, hH3⟩
    rcases Nat.lt_or_ge j k with h3 | h3
    · exact hall j h3 h1
    · obtain rfl : j = k := by omega
      exact hin'
  first | with_reducible replace hc := of_decide_eq_false hc | with_reducible replace hc := bn_F hc | with_reducible replace hc := bb_F hc | skip
  obtain rfl : k = ys.length := by omega
  refine WT_exit rfl ?_
  refine WT_seq ?_
  refine WT_region ?_
  refine WL_v rfl (ov_assign rfl) ?_
  refine WL_nil ?_
  exact WT_ret1 Try.func111 Try.results111 rfl ⟨congrArg Value.bool (List.all_eq_true.2 fun x hx => by obtain ⟨j, hj, rfl⟩ := List.mem_iff_getElem.1 hx; exact decide_eq_true (hall j hj hj)).symm, hH1⟩

theorem allIn_ok (hH : H w h Ls) {av : Value} {xs : List Int} {i s : Nat} {S : Nat → Bool} (hA : RdL h Ls av xs) (hi : Ls[i]? = some (sbox s S)) (hr : ∀ x ∈ xs, 0 ≤ x ∧ x < 10) : Rets Try.prog 108 #[av, ptr s] w fun v w' => v = .bool (xs.all fun f => S f.toNat) ∧ H w' h Ls := by
  have hal := hA.sl.lim
  refine rets_enter Try.func108 rfl Try.ntmps108 (by simp) ?_
  refine WT_seq ?_
  refine WT_region ?_
  refine WL_v rfl (ov_assign rfl) ?_
  refine WL_nil ?_
  refine WT_seq ?_
  refine WT_seq ?_
  refine WT_region ?_
  refine WL_v rfl (ov_move rfl) ?_
  refine WL_v rfl (ov_len rfl hA.sl st_sl_int) ?_
  refine WL_v rfl (ov_move rfl) ?_
  refine WL_nil ?_
  refine WT_block ?_
  refine WT_while (fun k : Nat => [(1, ptr s), (7, av), (8, .int .i64 (xs.length : Int)), (9, .int .i64 (k : Int))]) (fun k w => k ≤ xs.length ∧ (∀ j (_ : j < k) (h1 : j < xs.length), S xs[j].toNat = true) ∧ H w h Ls) (fun k => xs.length - k) 0 (by repeat (first | exact trivial | refine ⟨rfl, ?_⟩)) ⟨by omega, by omega, hH⟩ ?_
  clear hH
  rintro k w2 ⟨hk, hall, hH⟩ again
  refine WT_seq ?_
  refine WT_region ?_
  refine WL_v rfl (ov_lss rfl rfl) ?_
  refine WL_nil ?_
  refine WT_seq ?_
  refine WT_cond rfl (fun hc => ?_) (fun hc => ?_)
  · skip
    first | with_reducible replace hc := of_decide_eq_true hc | with_reducible replace hc := bn_T hc | with_reducible replace hc := bb_T hc | skip
    have hkx : k < xs.length := by omega
    have hx := hr _ (List.getElem_mem hkx)
    obtain ⟨u, hu⟩ := Int.eq_ofNat_of_zero_le hx.1
    have hcell : ∀ {w}, H w h Ls → w.cell? ((⟨s, 0, none⟩ : Addr).add (u * 1)) = some (.bool (S u)) := fun {w} hH => by
      rw [hH.cbA i hi 0 u, sbox_get (by omega)]
    refine WT_skip ?_
    refine WT_seq ?_
    refine WT_block ?_
    refine WT_seq ?_
    refine WT_region ?_
    refine WL_v rfl (ov_index rfl rfl st_sl_int hA.sl hkx) ?_
    refine WL_v rfl (ov_load rfl one_int (hA.cell hH hkx)) ?_; rw [hu]
    refine WL_v rfl (ov_assign rfl) ?_
    refine WL_nil ?_
    refine WT_seq ?_
    refine WT_region ?_
    refine WL_v rfl (ov_move rfl) ?_
    refine WL_v rfl (ov_move rfl) ?_
    refine WL_v rfl (ov_nilCheck rfl) ?_
    refine WL_v rfl (ov_idxA rfl rfl arr_10bool (by omega)) ?_
    refine WL_v rfl (ov_load rfl one_bool (hcell hH)) ?_
    refine WL_v rfl (ov_not rfl) ?_
    refine WL_nil ?_
    refine WT_cond rfl (fun hs => ?_) (fun hs => ?_)
    · skip
      first | with_reducible replace hs := of_decide_eq_true hs | with_reducible replace hs := bn_T hs | with_reducible replace hs := bb_T hs | skip
      have hs' : S u = false := by simpa using hs
      refine WT_seq ?_
      refine WT_region ?_
      refine WL_v rfl (ov_assign rfl) ?_
      refine WL_nil ?_
      exact WT_ret1 Try.func108 Try.results108 rfl ⟨congrArg Value.bool (List.all_eq_false.2 ⟨_, List.getElem_mem hkx, by rw [hu, Int.toNat_natCast, hs']; simp⟩).symm, hH⟩
    first | with_reducible replace hs := of_decide_eq_false hs | with_reducible replace hs := bn_F hs | with_reducible replace hs := bb_F hs | skip
    have hs' : S u = true := by simpa using hs
    refine WT_skip ?_
    refine WT_inBlock ?_
    refine WT_region ?_
    refine WL_v rfl (ov_add rfl rfl (by omega)) ?_
    refine WL_v rfl (ov_move rfl) ?_
    refine WL_nil ?_
    refine again (k + 1) _ _ (by omega) (by repeat (first | exact trivial | refine ⟨rfl, ?_⟩)) ⟨by omega, fun j hj h1 => ?_, hH⟩
    rcases Nat.lt_or_ge j k with h3 | h3
    · exact hall j h3 h1
    · obtain rfl : j = k := by omega
      rw [hu, Int.toNat_natCast]; exact hs'
  first | with_reducible replace hc := of_decide_eq_false hc | with_reducible replace hc := bn_F hc | with_reducible replace hc := bb_F hc | skip
  obtain rfl : k = xs.length := by omega
  refine WT_exit rfl ?_
  refine WT_seq ?_
  refine WT_region ?_
  refine WL_v rfl (ov_assign rfl) ?_
  refine WL_nil ?_
  exact WT_ret1 Try.func108 Try.results108 rfl ⟨congrArg Value.bool (List.all_eq_true.2 fun x hx => by obtain ⟨j, hj, rfl⟩ := List.mem_iff_getElem.1 hx; exact hall j hj hj).symm, hH⟩

theorem sbox_zero (s : Nat) : sbox s (fun _ => false) = [(s, .cells #[.bool false, .bool false, .bool false, .bool false, .bool false, .bool false, .bool false, .bool false, .bool false, .bool false] 55 (0, 0))] := rfl

theorem readyOf_ok (hH : H w h Ls) {pv dv : Value} {p : List Nd} {D : List Int} (hP : Plan h pv p) (hD : RdL h Ls dv D) (hdl : D.length ≤ 1000000000) : Rets Try.prog 78 #[pv, dv] w fun v w' => ∃ X, IRow X 3 v (readyOf p D) ∧ H w' h (X :: Ls) := by
  refine rets_enter Try.func78 rfl Try.ntmps78 (by simp) ?_
  refine WT_seq ?_
  refine WT_region ?_
  refine WL_v rfl (ov_assign rfl) ?_
  refine WL_nil ?_
  refine WT_seq ?_
  refine WT_seq ?_
  refine WT_region ?_
  refine WL_v rfl (ov_move rfl) ?_
  refine WL_call rfl rfl cf_impl_PlanValid (planValid_ok hH hP) ?_; rintro _ w1 ⟨rfl, hH1⟩
  refine WL_v rfl (ov_not rfl) ?_
  refine WL_nil ?_
  refine WT_cond rfl (fun hv => ?_) (fun hv => ?_)
  · skip
    first | with_reducible replace hv := of_decide_eq_true hv | with_reducible replace hv := bn_T hv | with_reducible replace hv := bb_T hv | skip
    refine WT_seq ?_
    refine WT_region ?_
    refine WL_v rfl (ov_assign rfl) ?_
    refine WL_nil ?_
    exact WT_ret1 Try.func78 Try.results78 rfl ⟨[], by unfold readyOf; rw [hv]; exact IRow.nil _, hH1.nilIn⟩
  first | with_reducible replace hv := of_decide_eq_false hv | with_reducible replace hv := bn_F hv | with_reducible replace hv := bb_F hv | skip
  have hlen := PlanOk.len hv
  have hDc : ∀ {w X}, H w h (X :: Ls) → ∀ {j} (hj : j < D.length), w.cell? ((slA dv).add (j * 1)) = some (.int .i64 D[j]) := fun hH _ hj => hD.cell hH.drop hj
  refine WT_skip ?_
  refine WT_seq ?_
  refine WT_region ?_
  refine WL_alloc #[.bool false, .bool false, .bool false, .bool false, .bool false, .bool false, .bool false, .bool false, .bool false, .bool false] rfl hH1 zero_10bool rfl ?_; rintro s w2 hH2
  refine WL_nil ?_
  refine WT_seq ?_
  refine WT_seq ?_
  refine WT_region ?_
  refine WL_v rfl (ov_move rfl) ?_
  refine WL_v rfl (ov_len rfl hD.sl st_sl_int) ?_
  refine WL_v rfl (ov_move rfl) ?_
  refine WL_nil ?_
  refine WT_block ?_
  rw [← sbox_zero] at hH2
  refine WT_while (fun k : Nat => [(0, pv), (5, ptr s), (14, dv), (15, .int .i64 (D.length : Int)), (16, .int .i64 (k : Int))]) (fun k w => k ≤ D.length ∧ ∃ S : Nat → Bool, (∀ u, S u = true ↔ u < p.length ∧ (u : Int) ∈ D.take k) ∧ H w h (sbox s S :: Ls)) (fun k => D.length - k) 0 (by repeat (first | exact trivial | refine ⟨rfl, ?_⟩)) ⟨by omega, _, by simp, hH2⟩ ?_
  clear hH hH1 hH2
  rintro k w3 ⟨hk, S, hS, hH⟩ again
  refine WT_seq ?_
  refine WT_region ?_
  refine WL_v rfl (ov_lss rfl rfl) ?_
  refine WL_nil ?_
  refine WT_seq ?_
  refine WT_cond rfl (fun hc => ?_) (fun hc => ?_)
  · skip
    first | with_reducible replace hc := of_decide_eq_true hc | with_reducible replace hc := bn_T hc | with_reducible replace hc := bb_T hc | skip
    have hkd : k < D.length := by omega
    refine WT_skip ?_
    refine WT_seq ?_
    refine WT_block ?_
    refine WT_seq ?_
    refine WT_region ?_
    refine WL_v rfl (ov_index rfl rfl st_sl_int hD.sl hkd) ?_
    refine WL_v rfl (ov_load rfl one_int (hDc hH hkd)) ?_
    refine WL_v rfl (ov_assign rfl) ?_
    refine WL_nil ?_
    refine WT_seq ?_
    refine WT_region ?_
    refine WL_v rfl (ov_move rfl) ?_
    refine WL_v rfl (ov_move rfl) ?_
    refine WL_call rfl rfl cf_impl_isNode (isNode_ok hH hP.sl _) ?_; rintro _ w4 ⟨rfl, hH4⟩
    refine WL_nil ?_
    refine WT_cond rfl (fun hn => ?_) (fun hn => ?_)
    · skip
      first | with_reducible replace hn := of_decide_eq_true hn | with_reducible replace hn := bn_T hn | with_reducible replace hn := bb_T hn | skip
      obtain ⟨u, hu⟩ := Int.eq_ofNat_of_zero_le hn.1
      rw [hu]
      refine WT_region ?_
      refine WL_v rfl (ov_move rfl) ?_
      refine WL_v rfl (ov_idxA rfl rfl arr_10bool (by omega)) ?_
      refine WL_store hH4 rfl rfl (i := 0) (off := 0 + u) rfl (addA s 0 u) (by simp; omega) rfl sz_bool ?_; rintro w5 hH5
      refine WL_nil ?_
      refine WT_inBlock ?_
      refine WT_region ?_
      refine WL_v rfl (ov_add rfl rfl (by omega)) ?_
      refine WL_v rfl (ov_move rfl) ?_
      refine WL_nil ?_
      rw [sbox_set] at hH5
      refine again (k + 1) _ _ (by omega) (by repeat (first | exact trivial | refine ⟨rfl, ?_⟩)) ⟨by omega, _, fun a => ?_, hH5⟩
      rw [List.take_succ_eq_append_getElem hkd, hu, List.mem_append, List.mem_singleton]
      by_cases ha : a = u
      · subst ha
        simp; omega
      · rw [if_neg ha, hS]
        constructor
        · rintro ⟨h1, h2⟩; exact ⟨h1, .inl h2⟩
        · rintro ⟨h1, h2 | h2⟩
          · exact ⟨h1, h2⟩
          · omega
    first | with_reducible replace hn := of_decide_eq_false hn | with_reducible replace hn := bn_F hn | with_reducible replace hn := bb_F hn | skip
    refine WT_skip ?_
    refine WT_inBlock ?_
    refine WT_region ?_
    refine WL_v rfl (ov_add rfl rfl (by omega)) ?_
    refine WL_v rfl (ov_move rfl) ?_
    refine WL_nil ?_
    refine again (k + 1) _ _ (by omega) (by repeat (first | exact trivial | refine ⟨rfl, ?_⟩)) ⟨by omega, S, fun a => ?_, hH4⟩
    rw [List.take_succ_eq_append_getElem hkd, List.mem_append, List.mem_singleton, hS]
    constructor
    · rintro ⟨h1, h2⟩; exact ⟨h1, .inl h2⟩
    · rintro ⟨h1, h2 | h2⟩
      · exact ⟨h1, h2⟩
      · exact absurd ⟨by omega, by omega⟩ hn
  first | with_reducible replace hc := of_decide_eq_false hc | with_reducible replace hc := bn_F hc | with_reducible replace hc := bb_F hc | skip
  obtain rfl : k = D.length := by omega
  rw [List.take_length] at hS
  refine WT_exit rfl ?_
  refine WT_seq ?_
  refine WT_region ?_
  refine WL_v rfl (ov_assign rfl) ?_
  refine WL_nil ?_
  refine WT_seq ?_
  refine WT_seq ?_
  refine WT_region ?_
  refine WL_v rfl (ov_move rfl) ?_
  refine WL_v rfl (ov_len rfl hP.sl st_sl_impl_Node) ?_
  refine WL_v rfl (ov_move rfl) ?_
  refine WL_nil ?_
  refine WT_block ?_
  refine WT_while (fun k : Nat × Value => [(5, ptr s), (8, k.2), (26, pv), (27, .int .i64 (p.length : Int)), (28, .int .i64 (k.1 : Int))]) (fun k w => k.1 ≤ p.length ∧ ∃ X, IRow X 3 k.2 (toI ((List.range k.1).filter (readyB p D))) ∧ H w h (X :: sbox s S :: Ls)) (fun k => p.length - k.1) (0, .slice none 0 0) (by repeat (first | exact trivial | refine ⟨rfl, ?_⟩)) ⟨by omega, [], IRow.nil _, hH.nilIn⟩ ?_
  clear hH
  rintro ⟨k, sv⟩ w4 ⟨hk, X, hX, hH⟩ again
  simp only at hk hX
  have hfl := List.length_filter_le (readyB p D) (List.range k)
  rw [List.length_range] at hfl
  refine WT_seq ?_
  refine WT_region ?_
  refine WL_v rfl (ov_lss rfl rfl) ?_
  refine WL_nil ?_
  refine WT_seq ?_
  refine WT_cond rfl (fun hc => ?_) (fun hc => ?_)
  · skip
    first | with_reducible replace hc := of_decide_eq_true hc | with_reducible replace hc := bn_T hc | with_reducible replace hc := bb_T hc | skip
    simp only at hc
    have hkp : k < p.length := by omega
    obtain ⟨fv, rv, hf, hr, hcell⟩ := hP.node hkp
    have hN := PlanOk.node hv hkp
    have hfr : ∀ x ∈ p[k].frm, 0 ≤ x ∧ x < 10 := fun x hx => by have := hN.frm x hx; omega
    have hall : (p[k].frm.all fun f => S f.toNat) = (p.getD k default).frm.all fun f => decide (f ∈ D) := by
      rw [getD_of hkp, Bool.eq_iff_iff, List.all_eq_true, List.all_eq_true]
      refine forall_congr' fun f => forall_congr' fun hf => ?_
      have := hN.frm f hf
      rw [hS, show (f.toNat : Int) = f by omega]
      simp only [decide_eq_true_eq]
      exact ⟨fun h => h.2, fun h => ⟨by omega, h⟩⟩
    have hSk : S k = decide ((k : Int) ∈ D) := by
      rw [Bool.eq_iff_iff, hS, decide_eq_true_eq]
      exact ⟨fun h => h.2, fun h => ⟨hkp, h⟩⟩
    have hscell : ∀ {w A B}, H w h (A :: B :: sbox s S :: Ls) → w.cell? ((⟨s, 0, none⟩ : Addr).add (k * 1)) = some (.bool (S k)) := fun {w A B} hH => by
      rw [hH.cbA 2 rfl 0 k, sbox_get (by omega)]
    have hrd : readyB p D k = (!S k && p[k].frm.all fun f => S f.toNat) := by
      unfold readyB
      rw [hall, hSk]
      by_cases h9 : (k : Int) ∈ D <;> simp [h9]
    refine WT_skip ?_
    refine WT_seq ?_
    refine WT_block ?_
    refine WT_seq ?_
    refine WT_region ?_
    refine WL_v rfl (ov_move rfl) ?_
    refine WL_v rfl (ov_index rfl rfl st_sl_impl_Node hP.sl hkp) ?_
    refine WL_v rfl (ov_loadN [.int .i64 p[k].kind, fv, rv] rfl agg_impl_Node rfl ((hcell _ _ hH))) ?_
    refine WL_alloc _ rfl hH zero_impl_Node rfl ?_; rintro g w5 hH5
    refine WL_v rfl (ov_assign rfl) ?_
    refine WL_storeN hH5 rfl rfl (i := 0) rfl rfl rfl (ones_cons rfl (ones_cons hf.sl.one (ones_cons hr.sl.one ones_nil))) sz_impl_Node ?_; rintro w6 hH6
    refine WL_nil ?_
    refine WT_seq ?_
    refine WT_region ?_
    refine WL_v rfl (ov_move rfl) ?_
    by_cases hs : S k = true
    · skip
      refine WL_v rfl (ov_idxA rfl rfl arr_10bool (by omega)) ?_
      refine WL_v rfl (ov_load rfl one_bool (hscell hH6)) ?_
      refine WL_v rfl (ov_F (ov_not rfl) (by rw [hs]; rfl)) ?_
      refine WL_v rfl (ov_move rfl) ?_
      refine WL_guardOff rfl rfl rfl rfl ?_
      refine WL_guardOff rfl rfl rfl rfl ?_
      refine WL_guardOff rfl rfl rfl rfl ?_
      refine WL_v rfl (ov_pickF rfl rfl) ?_
      refine WL_nil ?_
      refine WT_condF rfl ?_
      refine WT_skip ?_
      refine WT_inBlock ?_
      refine WT_region ?_
      refine WL_v rfl (ov_add rfl rfl (by omega)) ?_
      refine WL_v rfl (ov_move rfl) ?_
      refine WL_nil ?_
      refine again (k + 1, sv) _ _ (by simp only; omega) (by repeat (first | exact trivial | refine ⟨rfl, ?_⟩)) ⟨by simp only; omega, X, by rw [List.range_succ, List.filter_append, List.filter_cons, if_neg (by rw [hrd, hs]; simp), List.filter_nil, List.append_nil]; exact hX, hH6.drop⟩
    have hs' : S k = false := by simpa using hs
    refine WL_v rfl (ov_idxA rfl rfl arr_10bool (by omega)) ?_
    refine WL_v rfl (ov_load rfl one_bool (hscell hH6)) ?_
    refine WL_v rfl (ov_T (ov_not rfl) (by rw [hs']; rfl)) ?_
    refine WL_v rfl (ov_move rfl) ?_
    refine WL_guardOn rfl rfl ?_
    refine WL_v rfl (ov_field rfl fo_impl_Node_1) ?_
    refine WL_guardOn rfl rfl ?_
    refine WL_v rfl (ov_load rfl one_sl_int (hH6.cb 0 rfl 1)) ?_
    refine WL_guardOn rfl rfl ?_
    refine WL_call rfl rfl cf_impl_allIn (allIn_ok hH6 (hf.rdl _) (i := 2) rfl hfr) ?_; rintro _ w7 ⟨rfl, hH7⟩
    refine WL_v rfl (ov_pickT rfl rfl) ?_
    refine WL_nil ?_
    refine WT_cond rfl (fun ha => ?_) (fun ha => ?_)
    · skip
      first | with_reducible replace ha := of_decide_eq_true ha | with_reducible replace ha := bn_T ha | with_reducible replace ha := bb_T ha | skip
      refine WT_region ?_
      refine WL_v rfl (ov_move rfl) ?_
      refine WL_v rfl (ov_move rfl) ?_
      refine WL_bsI rfl hH7 rfl (run_bs_int _) ?_; rintro Y yv w8 hY hH8
      refine WL_appI (i := 2) (j := 0) rfl hH8 rfl rfl st_sl_int rfl hX rfl hY (by simp only [toI_len, List.length_cons, List.length_nil]; omega) (by simp only [toI_len, List.length_cons, List.length_nil]; omega) ?_; rintro X2 sv2 w9 hX2 hH9
      refine WL_v rfl (ov_assign rfl) ?_
      refine WL_nil ?_
      refine WT_inBlock ?_
      refine WT_region ?_
      refine WL_v rfl (ov_add rfl rfl (by omega)) ?_
      refine WL_v rfl (ov_move rfl) ?_
      refine WL_nil ?_
      refine again (k + 1, sv2) _ _ (by simp only; omega) (by repeat (first | exact trivial | refine ⟨rfl, ?_⟩)) ⟨by simp only; omega, X2, by rw [List.range_succ, List.filter_append, List.filter_cons, if_pos (by rw [hrd, hs', ha]; rfl), List.filter_nil, toI_snoc]; exact hX2, hH9.drop.drop⟩
    first | with_reducible replace ha := of_decide_eq_false ha | with_reducible replace ha := bn_F ha | with_reducible replace ha := bb_F ha | skip
    refine WT_skip ?_
    refine WT_inBlock ?_
    refine WT_region ?_
    refine WL_v rfl (ov_add rfl rfl (by omega)) ?_
    refine WL_v rfl (ov_move rfl) ?_
    refine WL_nil ?_
    refine again (k + 1, sv) _ _ (by simp only; omega) (by repeat (first | exact trivial | refine ⟨rfl, ?_⟩)) ⟨by simp only; omega, X, by rw [List.range_succ, List.filter_append, List.filter_cons, if_neg (by rw [hrd, ha]; simp), List.filter_nil, List.append_nil]; exact hX, hH7.drop⟩
  first | with_reducible replace hc := of_decide_eq_false hc | with_reducible replace hc := bn_F hc | with_reducible replace hc := bb_F hc | skip
  simp only at hc
  obtain rfl : k = p.length := by omega
  refine WT_exit rfl ?_
  refine WT_seq ?_
  refine WT_region ?_
  refine WL_v rfl (ov_move rfl) ?_
  refine WL_v rfl (ov_assign rfl) ?_
  refine WL_nil ?_
  exact WT_ret1 Try.func78 Try.results78 rfl ⟨X, by unfold readyOf; rw [if_pos hv]; exact hX, hH.del 1 rfl⟩

theorem sReadyOf_ok (hH : H w h Ls) {pv dv : Value} {p : List Nd} {D : List Int} (hP : Plan h pv p) (hD : RdL h Ls dv D) (hl : p.length ≤ 1000000000) : Rets Try.prog 83 #[pv, dv] w fun v w' => ∃ X, IRow X 3 v (readyOf p D) ∧ H w' h (X :: Ls) := by
  have hDX : ∀ {X}, RdL h (X :: Ls) dv D := ⟨hD.sl, fun hH _ hj => hD.cell hH.drop hj⟩
  refine rets_enter Try.func83 rfl Try.ntmps83 (by simp) ?_
  refine WT_seq ?_
  refine WT_region ?_
  refine WL_v rfl (ov_assign rfl) ?_
  refine WL_nil ?_
  refine WT_seq ?_
  refine WT_region ?_
  refine WL_bsI0 rfl hH run_bs_int0 ?_; rintro X0 sv0 w1 hX0 hH1
  refine WL_v rfl (ov_assign rfl) ?_
  refine WL_nil ?_
  refine WT_seq ?_
  refine WT_seq ?_
  refine WT_region ?_
  refine WL_v rfl (ov_assign rfl) ?_
  refine WL_nil ?_
  refine WT_block ?_
  refine WT_while (fun s : Nat × Value => [(0, pv), (1, dv), (5, s.2), (6, .int .i64 (s.1 : Int))]) (fun s w => s.1 ≤ p.length ∧ (planOk p = true ∨ s.1 = 0) ∧ ∃ X, IRow X 3 s.2 (toI ((List.range s.1).filter (readyB p D))) ∧ H w h (X :: Ls)) (fun s => p.length - s.1) (0, sv0) (by repeat (first | exact trivial | refine ⟨rfl, ?_⟩)) ⟨by omega, .inr rfl, X0, hX0, hH1⟩ ?_
  clear hH hH1 hX0
  rintro ⟨k, sv⟩ w2 ⟨hk, hvk, X, hX, hH⟩ again
  simp only at hk hX hvk
  have hfl := List.length_filter_le (readyB p D) (List.range k)
  rw [List.length_range] at hfl
  by_cases hkp : k < p.length
  case neg =>
    have hkn : k = p.length := by omega
    subst hkn
    refine WT_seq ?_
    refine WT_seq ?_
    refine WT_region ?_
    refine WL_v rfl (ov_move rfl) ?_
    refine WL_v rfl (ov_move rfl) ?_
    refine WL_v rfl (ov_len rfl hP.sl st_sl_impl_Node) ?_
    refine WL_v rfl (ov_F (ov_lss rfl rfl) (decide_eq_false (by simp only; omega))) ?_
    refine WL_v rfl (ov_move rfl) ?_
    refine WL_guardOff rfl rfl rfl rfl ?_
    refine WL_guardOff rfl rfl rfl rfl ?_
    refine WL_v rfl (ov_pickF rfl rfl) ?_
    refine WL_nil ?_
    refine WT_condF rfl ?_
    refine WT_exit rfl ?_
    refine WT_seq ?_
    refine WT_region ?_
    refine WL_v rfl (ov_move rfl) ?_
    refine WL_v rfl (ov_assign rfl) ?_
    refine WL_nil ?_
    exact WT_ret1 Try.func83 Try.results83 rfl ⟨X, by
      unfold readyOf
      rcases hvk with hv | h0
      · rw [if_pos hv]; exact hX
      · rw [h0] at hX
        have : p = [] := List.eq_nil_of_length_eq_zero h0
        subst this
        split <;> exact hX, hH⟩
  refine WT_seq ?_
  refine WT_seq ?_
  refine WT_region ?_
  refine WL_v rfl (ov_move rfl) ?_
  refine WL_v rfl (ov_move rfl) ?_
  refine WL_v rfl (ov_len rfl hP.sl st_sl_impl_Node) ?_
  refine WL_v rfl (ov_T (ov_lss rfl rfl) (decide_eq_true (by simp only; omega))) ?_
  refine WL_v rfl (ov_move rfl) ?_
  refine WL_guardOn rfl rfl ?_
  refine WL_v rfl (ov_move rfl) ?_
  refine WL_guardOn rfl rfl ?_
  refine WL_call rfl rfl cf_spec_PlanValid (sPlanValid_ok hH hP hl) ?_; rintro _ w3 ⟨rfl, hH3⟩
  refine WL_v rfl (ov_pickT rfl rfl) ?_
  refine WL_nil ?_
  refine WT_cond rfl (fun hv => ?_) (fun hv => ?_)
  · skip
    first | with_reducible replace hv := of_decide_eq_true hv | with_reducible replace hv := bn_T hv | with_reducible replace hv := bb_T hv | skip
    have hlen := PlanOk.len hv
    obtain ⟨fv, rv, hf, hr, hcell⟩ := hP.node hkp
    have hrd : readyB p D k = (!decide ((k : Int) ∈ D) && p[k].frm.all fun f => decide (f ∈ D)) := by
      unfold readyB
      rw [getD_of hkp]
      by_cases h9 : (k : Int) ∈ D <;> simp [h9]
    by_cases hs : (k : Int) ∈ D
    · skip
      refine WT_skip ?_
      refine WT_seq ?_
      refine WT_block ?_
      refine WT_seq ?_
      refine WT_region ?_
      refine WL_v rfl (ov_move rfl) ?_
      refine WL_v rfl (ov_move rfl) ?_
      refine WL_call rfl rfl cf_spec_l3Has (l3HasR_ok hH3 hDX _) ?_; rintro _ w4 ⟨rfl, hH4⟩
      refine WL_v rfl (ov_F (ov_not rfl) (by rw [decide_eq_true hs]; rfl)) ?_
      refine WL_v rfl (ov_move rfl) ?_
      refine WL_guardOff rfl rfl rfl rfl ?_
      refine WL_guardOff rfl rfl rfl rfl ?_
      refine WL_guardOff rfl rfl rfl rfl ?_
      refine WL_guardOff rfl rfl rfl rfl ?_
      refine WL_guardOff rfl rfl rfl rfl ?_
      refine WL_guardOff rfl rfl rfl rfl ?_
      refine WL_guardOff rfl rfl rfl rfl ?_
      refine WL_v rfl (ov_pickF rfl rfl) ?_
      refine WL_nil ?_
      refine WT_condF rfl ?_
      refine WT_skip ?_
      refine WT_inBlock ?_
      refine WT_region ?_
      refine WL_v rfl (ov_move rfl) ?_
      refine WL_v rfl (ov_add rfl rfl (by omega)) ?_
      refine WL_v rfl (ov_assign rfl) ?_
      refine WL_nil ?_
      refine again (k + 1, sv) _ _ (by simp only; omega) (by repeat (first | exact trivial | refine ⟨rfl, ?_⟩)) ⟨by simp only; omega, .inl hv, X, by rw [List.range_succ, List.filter_append, List.filter_cons, if_neg (by rw [hrd, decide_eq_true hs]; simp), List.filter_nil, List.append_nil]; exact hX, hH4⟩
    refine WT_skip ?_
    refine WT_seq ?_
    refine WT_block ?_
    refine WT_seq ?_
    refine WT_region ?_
    refine WL_v rfl (ov_move rfl) ?_
    refine WL_v rfl (ov_move rfl) ?_
    refine WL_call rfl rfl cf_spec_l3Has (l3HasR_ok hH3 hDX _) ?_; rintro _ w4 ⟨rfl, hH4⟩
    refine WL_v rfl (ov_T (ov_not rfl) (by rw [decide_eq_false hs]; rfl)) ?_
    refine WL_v rfl (ov_move rfl) ?_
    refine WL_guardOn rfl rfl ?_
    refine WL_v rfl (ov_move rfl) ?_
    refine WL_guardOn rfl rfl ?_
    refine WL_v rfl (ov_move rfl) ?_
    refine WL_guardOn rfl rfl ?_
    refine WL_v rfl (ov_move rfl) ?_
    refine WL_guardOn rfl rfl ?_
    refine WL_v rfl (ov_index rfl rfl st_sl_impl_Node hP.sl hkp) ?_
    refine WL_guardOn rfl rfl ?_
    refine WL_v rfl (ov_field rfl fo_impl_Node_1) ?_
    refine WL_guardOn rfl rfl ?_
    refine WL_v rfl (ov_load rfl one_sl_int (hcell _ _ hH4 1 _ rfl)) ?_
    refine WL_guardOn rfl rfl ?_
    refine WL_call rfl rfl cf_spec_l5All (l5All_ok hH4 hDX (hf.rdl _)) ?_; rintro _ w5 ⟨rfl, hH5⟩
    refine WL_v rfl (ov_pickT rfl rfl) ?_
    refine WL_nil ?_
    refine WT_cond rfl (fun ha => ?_) (fun ha => ?_)
    · skip
      first | with_reducible replace ha := of_decide_eq_true ha | with_reducible replace ha := bn_T ha | with_reducible replace ha := bb_T ha | skip
      refine WT_region ?_
      refine WL_v rfl (ov_move rfl) ?_
      refine WL_v rfl (ov_move rfl) ?_
      refine WL_bsI rfl hH5 rfl (run_bs_int _) ?_; rintro Y yv w6 hY hH6
      refine WL_appI (i := 1) (j := 0) rfl hH6 rfl rfl st_sl_int rfl hX rfl hY (by simp only [toI_len, List.length_cons, List.length_nil]; omega) (by simp only [toI_len, List.length_cons, List.length_nil]; omega) ?_; rintro X2 sv2 w7 hX2 hH7
      refine WL_v rfl (ov_assign rfl) ?_
      refine WL_nil ?_
      refine WT_inBlock ?_
      refine WT_region ?_
      refine WL_v rfl (ov_move rfl) ?_
      refine WL_v rfl (ov_add rfl rfl (by omega)) ?_
      refine WL_v rfl (ov_assign rfl) ?_
      refine WL_nil ?_
      refine again (k + 1, sv2) _ _ (by simp only; omega) (by repeat (first | exact trivial | refine ⟨rfl, ?_⟩)) ⟨by simp only; omega, .inl hv, X2, by rw [List.range_succ, List.filter_append, List.filter_cons, if_pos (by rw [hrd, decide_eq_false hs, ha]; rfl), List.filter_nil, toI_snoc]; exact hX2, hH7.drop⟩
    first | with_reducible replace ha := of_decide_eq_false ha | with_reducible replace ha := bn_F ha | with_reducible replace ha := bb_F ha | skip
    refine WT_skip ?_
    refine WT_inBlock ?_
    refine WT_region ?_
    refine WL_v rfl (ov_move rfl) ?_
    refine WL_v rfl (ov_add rfl rfl (by omega)) ?_
    refine WL_v rfl (ov_assign rfl) ?_
    refine WL_nil ?_
    refine again (k + 1, sv) _ _ (by simp only; omega) (by repeat (first | exact trivial | refine ⟨rfl, ?_⟩)) ⟨by simp only; omega, .inl hv, X, by rw [List.range_succ, List.filter_append, List.filter_cons, if_neg (by rw [hrd, ha]; simp), List.filter_nil, List.append_nil]; exact hX, hH5⟩
  first | with_reducible replace hv := of_decide_eq_false hv | with_reducible replace hv := bn_F hv | with_reducible replace hv := bb_F hv | skip
  have hk0 : k = 0 := by
    rcases hvk with h9 | h9
    · rw [h9] at hv; cases hv
    · exact h9
  subst hk0
  refine WT_exit rfl ?_
  refine WT_seq ?_
  refine WT_region ?_
  refine WL_v rfl (ov_move rfl) ?_
  refine WL_v rfl (ov_assign rfl) ?_
  refine WL_nil ?_
  exact WT_ret1 Try.func83 Try.results83 rfl ⟨X, by unfold readyOf; rw [if_neg (by rw [hv]; simp)]; exact hX, hH3⟩
end
end Go.Proofs.Ytafljegjdanldaa

/- Walks: the draws' reader. -/
namespace Go.Proofs.Ytafljegjdanldaa
open Go.RowKit

/-- The reader of a code: its bytes and how far it is. -/
def rdr (g : Nat) (bv : Value) (p : Nat) : Heaplet := [(g, .cells #[bv, .int .i64 (p : Int)] 94 (0, 0))]

section
variable {h : GH} {Ls : List Heaplet} {w : World}

theorem run_build_rd (a : Option Addr) (n c : Nat) (W : World) : (Instr.build 94 #[(0, .slice a n c)]).run Try.prog W = .ok (.agg #[.slice a n c, .int .i64 0]) W := by kernel_rfl
theorem run_build_rd' {v : Value} {n : Nat} (hv : Sl v n) (W : World) : (Instr.build 94 #[(0, v)]).run Try.prog W = .ok (.agg #[v, .int .i64 0]) W := by
  obtain ⟨A, c, rfl, _⟩ := hv.form
  exact run_build_rd A n c W

theorem l6Open_ok (hH : H w h Ls) {cv : Value} {bs : List Int} (hB : Bytes h cv bs) : Rets Try.prog 35 #[cv] w fun v w' => ∃ g bv bs', v = .pointer (some ⟨g, 0, none⟩) ∧ Bytes h bv bs' ∧ H w' h (rdr g bv 0 :: Ls) := by
  refine rets_enter Try.func35 rfl Try.ntmps35 (by simp) ?_
  refine WT_seq ?_
  refine WT_region ?_
  refine WL_v rfl (ov_assign rfl) ?_
  refine WL_nil ?_
  refine WT_seq ?_
  refine WT_seq ?_
  refine WT_region ?_
  refine WL_v rfl (ov_move rfl) ?_
  refine WL_v rfl (ov_len rfl hB.sl st_sl_uint8) ?_
  refine WL_v rfl (ov_gtr rfl rfl) ?_
  refine WL_nil ?_
  refine WT_join (ι := Value × List Int) (fun s => [(0, s.1)]) (fun s w => Bytes h s.1 s.2 ∧ H w h Ls) (fun joined => ?_) ?_
  · skip
    refine WT_cond rfl (fun hc => ?_) (fun hc => ?_)
    · skip
      first | with_reducible replace hc := of_decide_eq_true hc | with_reducible replace hc := bn_T hc | with_reducible replace hc := bb_T hc | skip
      refine WT_region ?_
      refine WL_v rfl (ov_move rfl) ?_
      refine WL_v rfl (ov_sliceHi rfl rfl st_sl_uint8 (hi := 2000) hB.sl (by omega)) ?_
      refine WL_v rfl (ov_assign rfl) ?_
      refine WL_nil ?_
      exact joined (_, _) _ _ (by repeat (first | exact trivial | refine ⟨rfl, ?_⟩)) ⟨hB.reslice (Nat.zero_le 2000) (by omega), hH⟩
    first | with_reducible replace hc := of_decide_eq_false hc | with_reducible replace hc := bn_F hc | with_reducible replace hc := bb_F hc | skip
    refine WT_skip ?_
    exact joined (cv, bs) _ _ (by repeat (first | exact trivial | refine ⟨rfl, ?_⟩)) ⟨hB, hH⟩
  rintro ⟨bv, bs'⟩ w1 ⟨hB', hH1⟩
  refine WT_seq ?_
  refine WT_region ?_
  refine WL_v rfl (ov_move rfl) ?_
  refine WL_v rfl (ov_build rfl (run_build_rd' hB'.sl)) ?_
  refine WL_box _ rfl hH1 rfl rfl ?_; rintro g w2 hH2
  refine WL_v rfl (ov_assign rfl) ?_
  refine WL_nil ?_
  exact WT_ret1 Try.func35 Try.results35 rfl ⟨g, bv, bs', rfl, hB', hH2⟩

/-- A number that the reader gives. -/
def Picked (n : Int) (r : Nat) : Prop := (1 ≤ n → (r : Int) < n) ∧ (n < 1 → r = 0)
theorem u8wrap {x : Int} (h : 0 ≤ x ∧ x < 256) : IntKind.i64.wrap x = x := wrap_in ⟨by omega, by omega⟩

set_option maxHeartbeats 1000000 in
theorem pick_ok {g : Nat} {bv : Value} {p : Nat} {bs : List Int} (hH : H w h (rdr g bv p :: Ls)) (hB : Bytes h bv bs) (hp : p ≤ 1000000000) (n : Int) :
    Rets Try.prog 38 #[.pointer (some ⟨g, 0, none⟩), .int .i64 n] w fun v w' => ∃ r : Nat, v = .int .i64 (r : Int) ∧ Picked n r ∧ H w' h (rdr g bv (p + 1) :: Ls) := by
  refine rets_enter Try.func38 rfl Try.ntmps38 (by simp) ?_
  by_cases hn : n < 1
  · skip
    refine WT_seq ?_
    refine WT_region ?_
    refine WL_v rfl (ov_assign rfl) ?_
    refine WL_nil ?_
    refine WT_seq ?_
    refine WT_region ?_
    refine WL_v rfl (ov_move rfl) ?_
    refine WL_v rfl (ov_move rfl) ?_
    refine WL_v rfl (ov_nilCheck rfl) ?_
    refine WL_v rfl (ov_field rfl fo_spec_l6Rd_1) ?_
    refine WL_v rfl (ov_load rfl one_int (hH.cb 0 rfl 1)) ?_
    refine WL_v rfl (ov_add rfl rfl (by omega)) ?_
    refine WL_v rfl (ov_nilCheck rfl) ?_
    refine WL_v rfl (ov_field rfl fo_spec_l6Rd_1) ?_
    refine WL_store hH rfl rfl (i := 0) (off := 1) rfl rfl (by simp) rfl sz_int ?_; rintro w1 hH1
    refine WL_nil ?_
    refine WT_seq ?_
    refine WT_seq ?_
    refine WT_region ?_
    refine WL_v rfl (ov_move rfl) ?_
    refine WL_v rfl (ov_T (ov_lss rfl rfl) (by first | exact decide_eq_true hn | exact nb_T hn | exact mb_T hn | exact hn | (simp only [decide_eq_true_eq]; omega) | simpa using hn)) ?_
    refine WL_v rfl (ov_move rfl) ?_
    refine WL_guardOff rfl rfl rfl rfl ?_
    refine WL_guardOff rfl rfl rfl rfl ?_
    refine WL_guardOff rfl rfl rfl rfl ?_
    refine WL_guardOff rfl rfl rfl rfl ?_
    refine WL_guardOff rfl rfl rfl rfl ?_
    refine WL_guardOff rfl rfl rfl rfl ?_
    refine WL_v rfl (ov_pickT rfl rfl) ?_
    refine WL_nil ?_
    refine WT_condT rfl ?_
    refine WT_seq ?_
    refine WT_region ?_
    refine WL_v rfl (ov_assign rfl) ?_
    refine WL_nil ?_
    exact WT_ret1 Try.func38 Try.results38 rfl ⟨0, rfl, ⟨by omega, fun _ => rfl⟩, hH1⟩
  refine WT_seq ?_
  refine WT_region ?_
  refine WL_v rfl (ov_assign rfl) ?_
  refine WL_nil ?_
  refine WT_seq ?_
  refine WT_region ?_
  refine WL_v rfl (ov_move rfl) ?_
  refine WL_v rfl (ov_move rfl) ?_
  refine WL_v rfl (ov_nilCheck rfl) ?_
  refine WL_v rfl (ov_field rfl fo_spec_l6Rd_1) ?_
  refine WL_v rfl (ov_load rfl one_int (hH.cb 0 rfl 1)) ?_
  refine WL_v rfl (ov_add rfl rfl (by omega)) ?_
  refine WL_v rfl (ov_nilCheck rfl) ?_
  refine WL_v rfl (ov_field rfl fo_spec_l6Rd_1) ?_
  refine WL_store hH rfl rfl (i := 0) (off := 1) rfl rfl (by simp) rfl sz_int ?_; rintro w1 hH1
  refine WL_nil ?_
  refine WT_seq ?_
  refine WT_seq ?_
  refine WT_region ?_
  refine WL_v rfl (ov_move rfl) ?_
  refine WL_v rfl (ov_F (ov_lss rfl rfl) (by first | exact decide_eq_false hn | exact nb_F hn | exact mb_F hn | exact hn | (simp only [decide_eq_false_iff_not]; omega) | simpa using hn)) ?_
  refine WL_v rfl (ov_move rfl) ?_
  refine WL_guardOn rfl rfl ?_
  refine WL_v rfl (ov_move rfl) ?_
  refine WL_guardOn rfl rfl ?_
  refine WL_v rfl (ov_nilCheck rfl) ?_
  refine WL_guardOn rfl rfl ?_
  refine WL_v rfl (ov_field rfl fo_spec_l6Rd_0) ?_
  refine WL_guardOn rfl rfl ?_
  refine WL_v rfl (ov_load rfl one_sl_uint8 (hH1.cb 0 rfl 0)) ?_
  refine WL_guardOn rfl rfl ?_
  refine WL_v rfl (ov_len rfl hB.sl st_sl_uint8) ?_
  refine WL_guardOn rfl rfl ?_
  refine WL_v rfl (ov_eql rfl rfl) ?_
  refine WL_v rfl (ov_pickF rfl rfl) ?_
  refine WL_nil ?_
  clear hH
  refine WT_cond rfl (fun hl => ?_) (fun hl => ?_)
  · skip
    first | with_reducible replace hl := of_decide_eq_true hl | with_reducible replace hl := bn_T hl | with_reducible replace hl := bb_T hl | skip
    refine WT_seq ?_
    refine WT_region ?_
    refine WL_v rfl (ov_assign rfl) ?_
    refine WL_nil ?_
    exact WT_ret1 Try.func38 Try.results38 rfl ⟨0, rfl, ⟨by omega, fun _ => rfl⟩, hH1⟩
  first | with_reducible replace hl := of_decide_eq_false hl | with_reducible replace hl := bn_F hl | with_reducible replace hl := bb_F hl | skip
  have hbl := hB.sl.lim
  have hb0 : 0 < bs.length := by omega
  refine WT_skip ?_
  refine WT_seq ?_
  refine WT_region ?_
  refine WL_v rfl (ov_move rfl) ?_
  refine WL_v rfl (ov_nilCheck rfl) ?_
  refine WL_v rfl (ov_field rfl fo_spec_l6Rd_1) ?_
  refine WL_v rfl (ov_load rfl one_int (hH1.cb 0 rfl 1)) ?_
  refine WL_v rfl (ov_as (ov_sub rfl rfl (by omega)) (congrArg (Value.int .i64) (show (p : Int) + 1 - 1 = (p : Int) by omega))) ?_
  refine WL_v rfl (ov_assign rfl) ?_
  refine WL_nil ?_
  refine WT_seq ?_
  refine WT_seq ?_
  refine WT_region ?_
  refine WL_v rfl (ov_move rfl) ?_
  refine WL_v rfl (ov_move rfl) ?_
  refine WL_v rfl (ov_nilCheck rfl) ?_
  refine WL_v rfl (ov_field rfl fo_spec_l6Rd_0) ?_
  refine WL_v rfl (ov_load rfl one_sl_uint8 (hH1.cb 0 rfl 0)) ?_
  refine WL_v rfl (ov_len rfl hB.sl st_sl_uint8) ?_
  refine WL_v rfl (ov_lss rfl rfl) ?_
  refine WL_nil ?_
  refine WT_cond rfl (fun hk => ?_) (fun hk => ?_)
  · skip
    first | with_reducible replace hk := of_decide_eq_true hk | with_reducible replace hk := bn_T hk | with_reducible replace hk := bb_T hk | skip
    have hkl : p < bs.length := by omega
    have hb := hB.rg bs[p] (List.getElem_mem hkl)
    refine WT_seq ?_
    refine WT_region ?_
    refine WL_v rfl (ov_move rfl) ?_
    refine WL_v rfl (ov_nilCheck rfl) ?_
    refine WL_v rfl (ov_field rfl fo_spec_l6Rd_0) ?_
    refine WL_v rfl (ov_load rfl one_sl_uint8 (hH1.cb 0 rfl 0)) ?_
    refine WL_v rfl (ov_move rfl) ?_
    refine WL_v rfl (ov_index rfl rfl st_sl_uint8 hB.sl hkl) ?_
    refine WL_v rfl (ov_load rfl one_uint8 (hB.cell hH1 hkl)) ?_
    refine WL_v rfl (ov_as (ov_convert rfl (by kernel_rfl) Try.underlying3) (congrArg (Value.int .i64) (u8wrap hb))) ?_
    refine WL_v rfl (ov_move rfl) ?_
    refine WL_v rfl (ov_rem rfl rfl (by omega) (by omega)) ?_
    refine WL_v rfl (ov_assign rfl) ?_
    refine WL_nil ?_
    exact WT_ret1 Try.func38 Try.results38 rfl ⟨(bs[p] % n).toNat, by rw [Int.toNat_of_nonneg (Int.emod_nonneg _ (by omega))], ⟨fun _ => by rw [Int.toNat_of_nonneg (Int.emod_nonneg _ (by omega))]; exact Int.emod_lt_of_pos _ (by omega), by omega⟩, hH1⟩
  first | with_reducible replace hk := of_decide_eq_false hk | with_reducible replace hk := bn_F hk | with_reducible replace hk := bb_F hk | skip
  have hi1 : p % bs.length < bs.length := Nat.mod_lt _ hb0
  have hi2 : (p * 7 + 3) % bs.length < bs.length := Nat.mod_lt _ hb0
  have hb1 := hB.rg bs[p % bs.length] (List.getElem_mem hi1)
  have hb2 := hB.rg bs[(p * 7 + 3) % bs.length] (List.getElem_mem hi2)
  obtain ⟨q, hq, hqp⟩ : ∃ q, p / bs.length = q ∧ q ≤ p := ⟨_, rfl, Nat.div_le_self _ _⟩
  obtain ⟨x1, hx1⟩ := Int.eq_ofNat_of_zero_le hb1.1
  obtain ⟨x2, hx2⟩ := Int.eq_ofNat_of_zero_le hb2.1
  refine WT_skip ?_
  refine WT_seq ?_
  refine WT_quiet mixed (by kernel_rfl) hH1 ?_
  clear hH1
  refine WQ_v rfl (fun _ _ => ov_move rfl) ?_
  refine WQ_v rfl (fun _ _ => ov_nilCheck rfl) ?_
  refine WQ_v rfl (fun _ _ => ov_field rfl fo_spec_l6Rd_0) ?_
  refine WQ_v rfl (fun _ hH => ov_load rfl one_sl_uint8 (hH.cb 0 rfl 0)) ?_
  refine WQ_v rfl (fun _ _ => ov_move rfl) ?_
  refine WQ_v rfl (fun _ _ => ov_move rfl) ?_
  refine WQ_v rfl (fun _ _ => ov_nilCheck rfl) ?_
  refine WQ_v rfl (fun _ _ => ov_field rfl fo_spec_l6Rd_0) ?_
  refine WQ_v rfl (fun _ hH => ov_load rfl one_sl_uint8 (hH.cb 0 rfl 0)) ?_
  refine WQ_v rfl (fun _ _ => ov_len rfl hB.sl st_sl_uint8) ?_
  refine WQ_v rfl (fun _ _ => ov_as (ov_rem rfl rfl (by omega) (by omega)) (congrArg (Value.int .i64) (show (p : Int) % (bs.length : Int) = ((p % bs.length : Nat) : Int) from rfl))) ?_
  refine WQ_v rfl (fun _ _ => ov_index rfl rfl st_sl_uint8 hB.sl hi1) ?_
  refine WQ_v rfl (fun _ hH => ov_load rfl one_uint8 (hB.cell hH hi1)) ?_
  refine WQ_v rfl (fun _ _ => ov_as (ov_convert rfl (by kernel_rfl) Try.underlying3) (congrArg (Value.int .i64) ((u8wrap hb1).trans hx1))) ?_
  refine WQ_v rfl (fun _ _ => ov_mul rfl rfl (by omega)) ?_
  refine WQ_v rfl (fun _ _ => ov_move rfl) ?_
  refine WQ_v rfl (fun _ _ => ov_nilCheck rfl) ?_
  refine WQ_v rfl (fun _ _ => ov_field rfl fo_spec_l6Rd_0) ?_
  refine WQ_v rfl (fun _ hH => ov_load rfl one_sl_uint8 (hH.cb 0 rfl 0)) ?_
  refine WQ_v rfl (fun _ _ => ov_move rfl) ?_
  refine WQ_v rfl (fun _ _ => ov_mul rfl rfl (by omega)) ?_
  refine WQ_v rfl (fun _ _ => ov_add rfl rfl (by omega)) ?_
  refine WQ_v rfl (fun _ _ => ov_move rfl) ?_
  refine WQ_v rfl (fun _ _ => ov_nilCheck rfl) ?_
  refine WQ_v rfl (fun _ _ => ov_field rfl fo_spec_l6Rd_0) ?_
  refine WQ_v rfl (fun _ hH => ov_load rfl one_sl_uint8 (hH.cb 0 rfl 0)) ?_
  refine WQ_v rfl (fun _ _ => ov_len rfl hB.sl st_sl_uint8) ?_
  refine WQ_v rfl (fun _ _ => ov_as (ov_rem rfl rfl (by omega) (by omega)) (congrArg (Value.int .i64) (show ((p : Int) * 7 + 3) % (bs.length : Int) = (((p * 7 + 3) % bs.length : Nat) : Int) from rfl))) ?_
  refine WQ_v rfl (fun _ _ => ov_index rfl rfl st_sl_uint8 hB.sl hi2) ?_
  refine WQ_v rfl (fun _ hH => ov_load rfl one_uint8 (hB.cell hH hi2)) ?_
  refine WQ_v rfl (fun _ _ => ov_as (ov_convert rfl (by kernel_rfl) Try.underlying3) (congrArg (Value.int .i64) ((u8wrap hb2).trans hx2))) ?_
  refine WQ_v rfl (fun _ _ => ov_mul rfl rfl (by omega)) ?_
  refine WQ_v rfl (fun _ _ => ov_add rfl rfl (by omega)) ?_
  refine WQ_v rfl (fun _ _ => ov_move rfl) ?_
  refine WQ_v rfl (fun _ _ => ov_mul rfl rfl (by omega)) ?_
  refine WQ_v rfl (fun _ _ => ov_add rfl rfl (by omega)) ?_
  refine WQ_v rfl (fun _ _ => ov_move rfl) ?_
  refine WQ_v rfl (fun _ _ => ov_move rfl) ?_
  refine WQ_v rfl (fun _ _ => ov_nilCheck rfl) ?_
  refine WQ_v rfl (fun _ _ => ov_field rfl fo_spec_l6Rd_0) ?_
  refine WQ_v rfl (fun _ hH => ov_load rfl one_sl_uint8 (hH.cb 0 rfl 0)) ?_
  refine WQ_v rfl (fun _ _ => ov_len rfl hB.sl st_sl_uint8) ?_
  refine WQ_v rfl (fun _ _ => ov_as (ov_quo rfl rfl (by omega) (by omega) (by omega)) (congrArg (Value.int .i64) (show (p : Int) / (bs.length : Int) = (q : Int) from hq ▸ rfl))) ?_
  refine WQ_v rfl (fun _ _ => ov_mul rfl rfl (by omega)) ?_
  refine WQ_v rfl (fun _ _ => ov_as (ov_add rfl rfl (by omega)) (congrArg (Value.int .i64) (show (x1 : Int) * 131 + (x2 : Int) * 1117 + (p : Int) * 29 + (q : Int) * 53 = ((x1 * 131 + x2 * 1117 + p * 29 + q * 53 : Nat) : Int) by omega))) ?_
  refine WQ_v rfl (fun _ _ => ov_assign rfl) ?_
  refine WQ_nil ?_
  intro w2 hH1
  refine WT_seq ?_
  refine WT_region ?_
  refine WL_v rfl (ov_move rfl) ?_
  refine WL_v rfl (ov_move rfl) ?_
  generalize hX : x1 * 131 + x2 * 1117 + p * 29 + q * 53 = X
  have hXb : X < 4611686018427387904 := by omega
  refine WL_v rfl (ov_as (ov_quo rfl rfl (by omega) (by omega) (by omega)) (congrArg (Value.int .i64) (show (X : Int) / 64 = ((X / 64 : Nat) : Int) from rfl))) ?_
  refine WL_v rfl (ov_xor rfl rfl hXb (by omega)) ?_
  refine WL_v rfl (ov_assign rfl) ?_
  refine WL_nil ?_
  refine WT_seq ?_
  refine WT_region ?_
  refine WL_v rfl (ov_move rfl) ?_
  refine WL_v rfl (ov_move rfl) ?_
  refine WL_v rfl (ov_rem rfl rfl (by omega) (by omega)) ?_
  refine WL_v rfl (ov_assign rfl) ?_
  refine WL_nil ?_
  exact WT_ret1 Try.func38 Try.results38 rfl ⟨(((X ^^^ X / 64 : Nat) : Int) % n).toNat, by rw [Int.toNat_of_nonneg (Int.emod_nonneg _ (by omega))], ⟨fun _ => by rw [Int.toNat_of_nonneg (Int.emod_nonneg _ (by omega))]; exact Int.emod_lt_of_pos _ (by omega), by omega⟩, hH1⟩
end
end Go.Proofs.Ytafljegjdanldaa

/- Walks: a plan copied by the laws, as memory of one's own. -/
namespace Go.Proofs.Ytafljegjdanldaa
open Go.RowKit

/-- One node of a plan of one's own. -/
def OAt (Is : List Heaplet) (xs : List Value) (i : Nat) (x : Nd) : Prop :=
  ∃ fv rv F R, (∀ j u, [Value.int .i64 x.kind, fv, rv][j]? = some u → xs[i * 3 + j]? = some u) ∧ Is[2 * i]? = some F ∧ Is[2 * i + 1]? = some R ∧ IRow F 3 fv x.frm ∧ IRow R 3 rv x.row
/-- A plan of one's own: the nodes, and two lists for each. -/
structure OPlan (O : Heaplet) (Is : List Heaplet) (v : Value) (p : List Nd) : Prop where
  len : Is.length = 2 * p.length
  ex : ∃ xs, Row O 32 3 v p.length xs ∧ ∀ i (hi : i < p.length), OAt Is xs i p[i]

section
variable {h : GH} {Ls : List Heaplet} {w : World}

/-- It can be shared. -/
theorem OPlan.plan {O : Heaplet} {Is : List Heaplet} {v : Value} {p : List Nd} (hO : OPlan O Is v p) {h' : GH} (hX : ∀ q ∈ (O :: Is).flatten, h'.blk q.1 = some q.2) : Plan h' v p := by
  obtain ⟨xs, hR, hat⟩ := hO.ex
  have hin : ∀ {X : Heaplet} {i : Nat}, Is[i]? = some X → ∀ q ∈ X, h'.blk q.1 = some q.2 := fun hi q hq => hX q (by
    simp only [List.flatten_cons]
    exact List.mem_append_right _ (List.mem_flatten.2 ⟨_, List.mem_of_getElem? hi, hq⟩))
  have hrd := hR.rd (fun q hq => hX q (by simp [hq]))
  refine ⟨hR.sl, fun i hi => ?_⟩
  obtain ⟨fv, rv, F, R, h1, h2, h3, h4, h5⟩ := hat i hi
  exact ⟨fv, rv, h4.ints (hin h2), h5.ints (hin h3), fun j u hj => hrd _ u (h1 j u hj)⟩
theorem OPlan.freeze {O : Heaplet} {Is : List Heaplet} {v : Value} {p : List Nd} (hO : OPlan O Is v p) (hH : H w h (O :: (Is ++ Ls))) :
    ∃ h', h.Le h' ∧ H w h' Ls ∧ Plan h' v p ∧ ∀ {w2 Ls2}, H w2 h' Ls2 → H w2 h (O :: (Is ++ Ls2)) := by
  have hH' : H w h ((O :: Is).flatten :: Ls) := by simpa [H] using hH
  obtain ⟨h', hle, hH2, hX2, hnd, _⟩ := hH'.freeze
  exact ⟨h', hle, hH2, hO.plan fun q hq => (hX2 q hq).1, fun hH3 => by simpa [H] using hH3.unfreeze hle hX2 hnd⟩

theorem zeroNode (W : World) : (zeroValue 32).run Try.prog W = .ok (.agg #[.int .i64 0, .slice none 0 0, .slice none 0 0]) W := zero_impl_Node W

theorem toNode_ok (hH : H w h Ls) {xv : Value} {x : Nd} (hx : NdV h xv x) (h1 : x.frm.length ≤ 1048576) (h2 : x.row.length ≤ 1048576) : Rets Try.prog 55 #[xv] w fun v w' => ∃ fv rv F R, v = .agg [.int .i64 x.kind, fv, rv].toArray ∧ IRow F 3 fv x.frm ∧ IRow R 3 rv x.row ∧ H w' h (R :: F :: Ls) := by
  obtain ⟨fv, rv, rfl, hf, hr⟩ := hx
  refine rets_enter Try.func55 rfl Try.ntmps55 (by simp) ?_
  refine WT_seq ?_
  refine WT_region ?_
  refine WL_box #[.int .i64 x.kind, fv, rv] rfl hH rfl rfl ?_; rintro g1 w1 hH1
  refine WL_alloc #[.int .i64 0, .slice none 0 0, .slice none 0 0] rfl hH1 zero_impl_Node rfl ?_; rintro g2 w2 hH2
  refine WL_nil ?_
  refine WT_seq ?_
  refine WT_region ?_
  refine WL_alloc #[.int .i64 0, .slice none 0 0, .slice none 0 0] rfl hH2 zero_impl_Node rfl ?_; rintro g3 w3 hH3
  refine WL_nil ?_
  refine WT_seq ?_
  refine WT_region ?_
  refine WL_v rfl (ov_field rfl fo_laws_Node_0) ?_
  refine WL_v rfl (ov_load rfl one_int (hH3.cb 2 rfl 0)) ?_
  refine WL_v rfl (ov_field rfl fo_impl_Node_0) ?_
  refine WL_store hH3 rfl rfl (i := 0) (off := 0) rfl rfl (by simp) rfl sz_int ?_; rintro w4 hH4
  refine WL_nil ?_
  refine WT_seq ?_
  refine WT_region ?_
  refine WL_v rfl (ov_field rfl fo_laws_Node_1) ?_
  refine WL_v rfl (ov_load rfl one_sl_int (hH4.cb 2 rfl 1)) ?_
  refine WL_call rfl rfl cf_laws_toIntS (toIntS_ok hH4 hf h1) ?_; rintro fv2 w5 ⟨F, hF, hH5⟩
  refine WL_v rfl (ov_field rfl fo_impl_Node_1) ?_
  refine WL_store hH5 rfl rfl (i := 1) (off := 1) rfl rfl (by simp) hF.sl.one sz_sl_int ?_; rintro w6 hH6
  refine WL_nil ?_
  refine WT_seq ?_
  refine WT_region ?_
  refine WL_v rfl (ov_field rfl fo_laws_Node_2) ?_
  refine WL_v rfl (ov_load rfl one_sl_int (hH6.cb 3 rfl 2)) ?_
  refine WL_call rfl rfl cf_laws_toIntS (toIntS_ok hH6 hr h2) ?_; rintro rv2 w7 ⟨R, hR, hH7⟩
  refine WL_v rfl (ov_field rfl fo_impl_Node_2) ?_
  refine WL_store hH7 rfl rfl (i := 2) (off := 2) rfl rfl (by simp) hR.sl.one sz_sl_int ?_; rintro w8 hH8
  refine WL_nil ?_
  refine WT_seq ?_
  refine WT_region ?_
  refine WL_v rfl (ov_loadN [.int .i64 x.kind, fv2, rv2] rfl agg_impl_Node rfl ((fun j v hj => by rw [show Addr.add ⟨g3, 0, none⟩ j = ⟨g3, j, none⟩ by simp [add_of]]; exact (hH8.cb 2 rfl j).trans (by simpa using hj)))) ?_
  refine WL_storeN hH8 rfl rfl (i := 3) rfl rfl rfl (ones_cons rfl (ones_cons hF.sl.one (ones_cons hR.sl.one ones_nil))) sz_impl_Node ?_; rintro w9 hH9
  refine WL_nil ?_
  have hl : (loadVar 32 ⟨g2, 0, none⟩).run Try.prog w9 = .ok (.agg [.int .i64 x.kind, fv2, rv2].toArray) w9 :=
    run_loadVarN agg_impl_Node rfl fun j v hj => by rw [show Addr.add ⟨g2, 0, none⟩ j = ⟨g2, j, none⟩ by simp [add_of]]; exact (hH9.cb 3 rfl j).trans (by simpa using hj)
  exact WT_retC Try.func55 Try.results55 rfl hl ⟨fv2, rv2, F, R, rfl, hF, hR, by simpa [H] using ((hH9.dropI (i := 2) rfl).dropI (i := 3) rfl).dropI (i := 4) rfl⟩

theorem OAt.mono {Is : List Heaplet} {xs ys : List Value} {Js : List Heaplet} {i : Nat} {x : Nd} (hO : OAt Is xs i x) (hx : ∀ j, j < 3 → ys[i * 3 + j]? = xs[i * 3 + j]?) : OAt (Is ++ Js) ys i x := by
  obtain ⟨fv, rv, F, R, h1, h2, h3, h4, h5⟩ := hO
  refine ⟨fv, rv, F, R, fun j u hj => ?_, ?_, ?_, h4, h5⟩
  · have : j < 3 := (List.getElem?_eq_some_iff.1 hj).1
    rw [hx j this]; exact h1 j u hj
  · rw [List.getElem?_append_left (List.getElem?_eq_some_iff.1 h2).1]; exact h2
  · rw [List.getElem?_append_left (List.getElem?_eq_some_iff.1 h3).1]; exact h3

theorem H.addRF {R F O : Heaplet} {Is : List Heaplet} (hH : H w h (R :: F :: O :: (Is ++ Ls))) : H w h (O :: ((Is ++ [F, R]) ++ Ls)) := by
  refine hH.perm ?_
  have h1 : (R :: F :: O :: (Is ++ Ls)).Perm (F :: R :: O :: (Is ++ Ls)) := .swap _ _ _
  have h2 : (F :: R :: O :: (Is ++ Ls)).Perm (O :: ([F, R] ++ (Is ++ Ls))) := by
    have : ([F, R] ++ O :: (Is ++ Ls)).Perm (O :: ([F, R] ++ (Is ++ Ls))) := List.perm_middle
    simpa using this
  have h3 : ([F, R] ++ (Is ++ Ls)).Perm ((Is ++ [F, R]) ++ Ls) := by
    rw [← List.append_assoc]
    exact List.perm_append_comm.append_right Ls
  exact (h1.trans h2).trans (.cons _ h3)

theorem toNodeS_ok (hH : H w h Ls) {pv : Value} {p : List Nd} (hP : Plan h pv p) (h0 : p.length ≤ 1048576) (h1 : ∀ i (hi : i < p.length), p[i].frm.length ≤ 1048576 ∧ p[i].row.length ≤ 1048576) :
    Rets Try.prog 21 #[pv] w fun v w' => ∃ O Is, OPlan O Is v p ∧ H w' h (O :: (Is ++ Ls)) := by
  refine rets_enter Try.func21 rfl Try.ntmps21 (by simp) ?_
  refine WT_seq ?_
  refine WT_region ?_
  refine WL_v rfl (ov_assign rfl) ?_
  refine WL_nil ?_
  refine WT_seq ?_
  refine WT_region ?_
  refine WL_v rfl (ov_move rfl) ?_
  refine WL_v rfl (ov_len rfl hP.sl st_sl_laws_Node) ?_
  refine WL_make (n := p.length) (c := p.length) rfl hH rfl rfl st_sl_impl_Node (by omega) (by omega) (by omega) (by omega) ?_; rintro O0 ov w1 hO0 hH1
  refine WL_v rfl (ov_assign rfl) ?_
  refine WL_nil ?_
  refine WT_seq ?_
  refine WT_seq ?_
  refine WT_region ?_
  refine WL_v rfl (ov_assign rfl) ?_
  refine WL_nil ?_
  refine WT_block ?_
  refine WT_while (fun s : Nat => [(0, pv), (3, ov), (4, .int .i64 (s : Int))]) (fun k w => k ≤ p.length ∧ ∃ O Is xs, Is.length = 2 * k ∧ Row O 32 3 ov p.length xs ∧ (∀ i (_ : i < k) (hi : i < p.length), OAt Is xs i p[i]) ∧ H w h (O :: (Is ++ Ls))) (fun k => p.length - k) 0 (by repeat (first | exact trivial | refine ⟨rfl, ?_⟩)) ⟨by omega, O0, [], _, rfl, hO0, by omega, hH1⟩ ?_
  clear hH hH1 hO0
  rintro k w2 ⟨hk, O, Is, xs, hil, hO, hall, hH⟩ again
  refine WT_seq ?_
  refine WT_seq ?_
  refine WT_region ?_
  refine WL_v rfl (ov_move rfl) ?_
  refine WL_v rfl (ov_move rfl) ?_
  refine WL_v rfl (ov_len rfl hP.sl st_sl_laws_Node) ?_
  refine WL_v rfl (ov_lss rfl rfl) ?_
  refine WL_nil ?_
  refine WT_cond rfl (fun hc => ?_) (fun hc => ?_)
  · skip
    first | with_reducible replace hc := of_decide_eq_true hc | with_reducible replace hc := bn_T hc | with_reducible replace hc := bb_T hc | skip
    have hkp : k < p.length := by omega
    obtain ⟨fv, rv, hx, hcell⟩ := hP.ndV' hkp
    have hxl := hO.len
    refine WT_skip ?_
    refine WT_seq ?_
    refine WT_block ?_
    refine WT_region ?_
    refine WL_v rfl (ov_move rfl) ?_
    refine WL_v rfl (ov_move rfl) ?_
    refine WL_v rfl (ov_move rfl) ?_
    refine WL_v rfl (ov_move rfl) ?_
    refine WL_v rfl (ov_index rfl rfl st_sl_laws_Node hP.sl hkp) ?_
    refine WL_v rfl (ov_loadN [.int .i64 p[k].kind, fv, rv] rfl agg_laws_Node rfl ((hcell _ _ hH))) ?_
    refine WL_call rfl rfl cf_laws_toNode (toNode_ok hH hx (h1 k hkp).1 (h1 k hkp).2) ?_; rintro _ w3 ⟨fv2, rv2, F, R, rfl, hF, hR, hH3⟩
    have ho : k * 3 + [Value.int .i64 p[k].kind, fv2, rv2].length ≤ xs.length := by rw [hxl]; simp only [List.length_cons, List.length_nil]; omega
    refine WL_v rfl (ov_index rfl rfl st_sl_impl_Node hO.sl hkp) ?_
    refine WL_storeRowN hH3 rfl rfl (i := 2) rfl hO ho (by simp) (ones_cons rfl (ones_cons hF.sl.one (ones_cons hR.sl.one ones_nil))) sz_impl_Node ?_; rintro O2 w4 hO2 hH4
    refine WL_nil ?_
    refine WT_inBlock ?_
    refine WT_region ?_
    refine WL_v rfl (ov_move rfl) ?_
    refine WL_v rfl (ov_add rfl rfl (by omega)) ?_
    refine WL_v rfl (ov_assign rfl) ?_
    refine WL_nil ?_
    refine again (k + 1) _ _ (by omega) (by repeat (first | exact trivial | refine ⟨rfl, ?_⟩)) ⟨by omega, O2, Is ++ [F, R], _, by simp [hil]; omega, hO2, fun i hi hil2 => ?_, H.addRF hH4⟩
    rcases Nat.lt_or_ge i k with h3 | h3
    · exact (hall i h3 hil2).mono fun j hj => by rw [splice_get ho, if_pos (by omega)]
    · obtain rfl : i = k := by omega
      refine ⟨fv2, rv2, F, R, fun j u hj => ?_, ?_, ?_, hF, hR⟩
      · have : j < 3 := (List.getElem?_eq_some_iff.1 hj).1
        rw [splice_get ho, if_neg (by omega), if_pos (by simp only [List.length_cons, List.length_nil]; omega), show i * 3 + j - i * 3 = j by omega]
        exact hj
      · rw [List.getElem?_append_right (by omega), hil]; simp
      · rw [List.getElem?_append_right (by omega), hil, show 2 * i + 1 - 2 * i = 1 by omega]; rfl
  first | with_reducible replace hc := of_decide_eq_false hc | with_reducible replace hc := bn_F hc | with_reducible replace hc := bb_F hc | skip
  obtain rfl : k = p.length := by omega
  refine WT_exit rfl ?_
  refine WT_seq ?_
  refine WT_region ?_
  refine WL_v rfl (ov_move rfl) ?_
  refine WL_v rfl (ov_assign rfl) ?_
  refine WL_nil ?_
  exact WT_ret1 Try.func21 Try.results21 rfl ⟨O, Is, ⟨hil, xs, hO, fun i hi => hall i hi hi⟩, hH⟩
end
end Go.Proofs.Ytafljegjdanldaa

/- Walks: the draws of rows, nodes and plans. -/
namespace Go.Proofs.Ytafljegjdanldaa
open Go.RowKit

section
variable {h : GH} {Ls : List Heaplet} {w : World}

theorem l91Row_ok {g : Nat} {bv : Value} {p : Nat} {bs : List Int} (hH : H w h (rdr g bv p :: Ls)) (hB : Bytes h bv bs) (hp : p ≤ 1000000) (n : Nat) (hn : n ≤ 12) :
    Rets Try.prog 72 #[.pointer (some ⟨g, 0, none⟩), .int .i64 (n : Int)] w fun v w' => ∃ X r p', IRow X 3 v r ∧ r.length = n ∧ p' ≤ p + 100 ∧ H w' h (X :: rdr g bv p' :: Ls) := by
  refine rets_enter Try.func72 rfl Try.ntmps72 (by simp) ?_
  refine WT_seq ?_
  refine WT_region ?_
  refine WL_v rfl (ov_assign rfl) ?_
  refine WL_nil ?_
  refine WT_seq ?_
  refine WT_region ?_
  refine WL_bsI0 rfl hH run_bs_int0 ?_; rintro X0 ev0 w2 hX0 hH2
  refine WL_v rfl (ov_assign rfl) ?_
  refine WL_nil ?_
  refine WT_seq ?_
  refine WT_seq ?_
  refine WT_region ?_
  refine WL_v rfl (ov_assign rfl) ?_
  refine WL_nil ?_
  refine WT_block ?_
  refine WT_while (fun s : Nat × Value => [(0, .pointer (some ⟨g, 0, none⟩)), (1, .int .i64 (n : Int)), (5, s.2), (6, .int .i64 (s.1 : Int))]) (fun s w => s.1 ≤ n ∧ ∃ X r p', IRow X 3 s.2 r ∧ r.length = s.1 ∧ p' ≤ p + 3 * s.1 ∧ H w h (X :: rdr g bv p' :: Ls)) (fun s => n - s.1) (0, ev0) (by repeat (first | exact trivial | refine ⟨rfl, ?_⟩)) ⟨by omega, X0, [], p, hX0, rfl, by simp only; omega, hH2⟩ ?_
  clear hH hH2 hX0
  rintro ⟨k, sv⟩ w3 ⟨hk, X, r, p', hX, hr, hp', hH⟩ again
  simp only at hk hX hr hp'
  refine WT_seq ?_
  refine WT_seq ?_
  refine WT_region ?_
  refine WL_v rfl (ov_move rfl) ?_
  refine WL_v rfl (ov_move rfl) ?_
  refine WL_v rfl (ov_lss rfl rfl) ?_
  refine WL_nil ?_
  refine WT_cond rfl (fun hc => ?_) (fun hc => ?_)
  · skip
    first | with_reducible replace hc := of_decide_eq_true hc | with_reducible replace hc := bn_T hc | with_reducible replace hc := bb_T hc | skip
    simp only at hc
    have hkn : k < n := by omega
    refine WT_skip ?_
    refine WT_seq ?_
    refine WT_block ?_
    refine WT_region ?_
    refine WL_v rfl (ov_move rfl) ?_
    refine WL_v rfl (ov_move rfl) ?_
    refine WL_call rfl rfl cf_p_spec_l6Rd_pick (pick_ok (hH.pull 1 rfl) hB (by omega) 5) ?_; rintro _ w4 ⟨r1, rfl, hr1, hH4⟩
    refine WL_v rfl (ov_move rfl) ?_
    refine WL_call rfl rfl cf_p_spec_l6Rd_pick (pick_ok hH4 hB (by omega) 1009) ?_; rintro _ w5 ⟨r2, rfl, hr2, hH5⟩
    refine WL_bsIN [(r1 : Int), (r2 : Int)] rfl hH5 rfl (run_bs_int2 _ _) rfl (by omega) ?_; rintro Y yv w6 hY hH6
    refine WL_v rfl (ov_move rfl) ?_
    refine WL_call rfl rfl cf_p_spec_l6Rd_pick (pick_ok (hH6.pull 1 rfl) hB (by omega) 2) ?_; rintro _ w7 ⟨r3, rfl, hr3, hH7⟩
    refine WL_v rfl (ov_index rfl rfl st_sl_int hY.sl (by have := hr3.1 (by omega); simp only [List.length_cons, List.length_nil]; omega)) ?_
    refine WL_v rfl (ov_load rfl one_int (hY.cell hH7 (i := 1) rfl (by have := hr3.1 (by omega); simp only [List.length_cons, List.length_nil]; omega))) ?_
    refine WL_bsI rfl hH7 rfl (run_bs_int _) ?_; rintro Z zv w8 hZ hH8
    refine WL_appI (i := 3) (j := 0) rfl hH8 rfl rfl st_sl_int rfl hX rfl hZ (by simp; omega) (by simp; omega) ?_; rintro X2 sv2 w9 hX2 hH9
    refine WL_v rfl (ov_assign rfl) ?_
    refine WL_nil ?_
    refine WT_inBlock ?_
    refine WT_region ?_
    refine WL_v rfl (ov_move rfl) ?_
    refine WL_v rfl (ov_add rfl rfl (by omega)) ?_
    refine WL_v rfl (ov_assign rfl) ?_
    refine WL_nil ?_
    refine again (k + 1, sv2) _ _ (by simp only; omega) (by repeat (first | exact trivial | refine ⟨rfl, ?_⟩)) ⟨by simp only; omega, X2, _, p' + 1 + 1 + 1, hX2, by simp [hr], by simp only; omega, (hH9.drop.pull 2 rfl).del 2 rfl⟩
  first | with_reducible replace hc := of_decide_eq_false hc | with_reducible replace hc := bn_F hc | with_reducible replace hc := bb_F hc | skip
  simp only at hc
  obtain rfl : k = n := by omega
  by_cases h0 : 0 < k
  case neg =>
    refine WT_exit rfl ?_
    refine WT_seq ?_
    refine WT_seq ?_
    refine WT_region ?_
    refine WL_v rfl (ov_move rfl) ?_
    refine WL_v rfl (ov_F (ov_gtr rfl rfl) (by first | exact decide_eq_false h0 | exact nb_F h0 | exact mb_F h0 | exact h0 | (simp only [decide_eq_false_iff_not]; omega) | simpa using h0)) ?_
    refine WL_v rfl (ov_move rfl) ?_
    refine WL_guardOff rfl rfl rfl rfl ?_
    refine WL_guardOff rfl rfl rfl rfl ?_
    refine WL_guardOff rfl rfl rfl rfl ?_
    refine WL_v rfl (ov_pickF rfl rfl) ?_
    refine WL_nil ?_
    refine WT_condF rfl ?_
    refine WT_skip ?_
    refine WT_seq ?_
    refine WT_region ?_
    refine WL_v rfl (ov_move rfl) ?_
    refine WL_v rfl (ov_assign rfl) ?_
    refine WL_nil ?_
    exact WT_ret1 Try.func72 Try.results72 rfl ⟨X, r, p', hX, hr, by omega, hH⟩
  refine WT_exit rfl ?_
  refine WT_seq ?_
  refine WT_seq ?_
  refine WT_region ?_
  refine WL_v rfl (ov_move rfl) ?_
  refine WL_v rfl (ov_T (ov_gtr rfl rfl) (by first | exact decide_eq_true h0 | exact nb_T h0 | exact mb_T h0 | exact h0 | (simp only [decide_eq_true_eq]; omega) | simpa using h0)) ?_
  refine WL_v rfl (ov_move rfl) ?_
  refine WL_guardOn rfl rfl ?_
  refine WL_v rfl (ov_move rfl) ?_
  refine WL_guardOn rfl rfl ?_
  refine WL_call rfl rfl cf_p_spec_l6Rd_pick (pick_ok (hH.pull 1 rfl) hB (by omega) 50) ?_; rintro _ w4 ⟨r1, rfl, hr1, hH4⟩
  refine WL_guardOn rfl rfl ?_
  refine WL_v rfl (ov_eql rfl rfl) ?_
  refine WL_v rfl (ov_pickT rfl rfl) ?_
  refine WL_nil ?_
  refine WT_cond rfl (fun h1 => ?_) (fun h1 => ?_)
  · skip
    first | with_reducible replace h1 := of_decide_eq_true h1 | with_reducible replace h1 := bn_T h1 | with_reducible replace h1 := bb_T h1 | skip
    refine WT_region ?_
    refine WL_v rfl (ov_move rfl) ?_
    refine WL_v rfl (ov_move rfl) ?_
    refine WL_v rfl (ov_move rfl) ?_
    refine WL_call rfl rfl cf_p_spec_l6Rd_pick (pick_ok hH4 hB (by omega) k) ?_; rintro _ w5 ⟨r2, rfl, hr2, hH5⟩
    refine WL_bsIN [-1, 1008, 1009] rfl hH5 rfl (run_bs_int3 _ _ _) rfl (by omega) ?_; rintro Y yv w6 hY hH6
    refine WL_v rfl (ov_move rfl) ?_
    refine WL_call rfl rfl cf_p_spec_l6Rd_pick (pick_ok (hH6.pull 1 rfl) hB (by omega) 3) ?_; rintro _ w7 ⟨r3, rfl, hr3, hH7⟩
    refine WL_v rfl (ov_index rfl rfl st_sl_int hY.sl (by have := hr3.1 (by omega); simp only [List.length_cons, List.length_nil]; omega)) ?_
    refine WL_v rfl (ov_load rfl one_int (hY.cell hH7 (i := 1) rfl (by have := hr3.1 (by omega); simp only [List.length_cons, List.length_nil]; omega))) ?_
    refine WL_v rfl (ov_index rfl rfl st_sl_int hX.sl (by have := hr2.1 (by omega); omega)) ?_
    refine WL_storeI hH7 rfl rfl (i := 2) rfl hX (by have := hr2.1 (by omega); omega) sz_int ?_; rintro X2 w8 hX2 hH8
    refine WL_nil ?_
    refine WT_seq ?_
    refine WT_region ?_
    refine WL_v rfl (ov_move rfl) ?_
    refine WL_v rfl (ov_assign rfl) ?_
    refine WL_nil ?_
    exact WT_ret1 Try.func72 Try.results72 rfl ⟨X2, _, p' + 1 + 1 + 1, hX2, by simp [hr], by omega, (hH8.pull 2 rfl).del 2 rfl⟩
  first | with_reducible replace h1 := of_decide_eq_false h1 | with_reducible replace h1 := bn_F h1 | with_reducible replace h1 := bb_F h1 | skip
  refine WT_skip ?_
  refine WT_seq ?_
  refine WT_region ?_
  refine WL_v rfl (ov_move rfl) ?_
  refine WL_v rfl (ov_assign rfl) ?_
  refine WL_nil ?_
  exact WT_ret1 Try.func72 Try.results72 rfl ⟨X, r, p' + 1, hX, hr, by omega, hH4.swap⟩

/-- A node that was drawn, as a value of one's own. -/
def ONd (v : Value) (x : Nd) (F R : Heaplet) : Prop := ∃ fv rv, v = .agg [.int .i64 x.kind, fv, rv].toArray ∧ IRow F 3 fv x.frm ∧ IRow R 3 rv x.row

theorem run_build_node' (k : Int) (a b : Option Addr) (n c m d : Nat) (W : World) : (Instr.build 32 #[(0, .int .i64 k), (1, .slice a n c), (2, .slice b m d)]).run Try.prog W = .ok (.agg #[.int .i64 k, .slice a n c, .slice b m d]) W := by kernel_rfl
theorem run_build_node {k : Int} {u v : Value} {n m : Nat} (hu : Sl u n) (hv : Sl v m) (W : World) : (Instr.build 32 #[(0, .int .i64 k), (1, u), (2, v)]).run Try.prog W = .ok (.agg #[.int .i64 k, u, v]) W := by
  obtain ⟨_, _, rfl, _⟩ := hu.form
  obtain ⟨_, _, rfl, _⟩ := hv.form
  exact run_build_node' k _ _ _ _ _ _ W

theorem l91Node_ok {g : Nat} {bv : Value} {p : Nat} {bs : List Int} (hH : H w h (rdr g bv p :: Ls)) (hB : Bytes h bv bs) (hp : p ≤ 900000) (i n : Nat) (hn : n ≤ 11) :
    Rets Try.prog 71 #[.pointer (some ⟨g, 0, none⟩), .int .i64 (i : Int), .int .i64 (n : Int)] w fun v w' => ∃ x F R p', ONd v x F R ∧ p' ≤ p + 200 ∧ H w' h (rdr g bv p' :: F :: R :: Ls) := by
  refine rets_enter Try.func71 rfl Try.ntmps71 (by simp) ?_
  refine WT_seq ?_
  refine WT_region ?_
  refine WL_alloc #[.int .i64 0, .slice none 0 0, .slice none 0 0] rfl hH zero_impl_Node rfl ?_; rintro ga w1 hH1
  refine WL_nil ?_
  refine WT_seq ?_
  refine WT_region ?_
  refine WL_v rfl (ov_move rfl) ?_
  refine WL_call rfl rfl cf_p_spec_l6Rd_pick (pick_ok (hH1.pull 1 rfl) hB (by omega) 6) ?_; rintro _ w2 ⟨r1, rfl, hr1, hH2⟩
  refine WL_bsI0 rfl hH2 run_bs_int0 ?_; rintro X1 xv1 w3 hX1 hH3
  refine WL_bsI0 rfl hH3 run_bs_int0 ?_; rintro X2 xv2 w4 hX2 hH4
  refine WL_v rfl (ov_build rfl (run_build_node hX1.sl hX2.sl)) ?_
  refine WL_alloc #[.int .i64 0, .slice none 0 0, .slice none 0 0] rfl hH4 zero_impl_Node rfl ?_; rintro gb w5 hH5
  refine WL_storeN hH5 rfl rfl (i := 0) rfl rfl rfl (ones_cons rfl (ones_cons hX1.sl.one (ones_cons hX2.sl.one ones_nil))) sz_impl_Node ?_; rintro w6 hH6
  refine WL_nil ?_
  refine WT_seq ?_
  refine WT_seq ?_
  refine WT_region ?_
  refine WL_v rfl (ov_move rfl) ?_
  refine WL_v rfl (ov_eql rfl rfl) ?_
  refine WL_nil ?_
  replace hH6 := (hH6.pull 3 rfl)
  refine WT_join (ι := Int) (fun _ => [(0, .pointer (some ⟨g, 0, none⟩)), (1, .int .i64 (i : Int)), (2, .int .i64 (n : Int)), (6, .pointer (some ⟨ga, 0, none⟩)), (7, .pointer (some ⟨gb, 0, none⟩))]) (fun k w => H w h (rdr g bv (p + 1) :: [(gb, .cells #[.int .i64 k, xv1, xv2] 32 (0, 0))] :: X2 :: X1 :: [(ga, .cells #[.int .i64 0, .slice none 0 0, .slice none 0 0] 32 (0, 0))] :: Ls)) (fun joined => ?_) ?_
  · skip
    refine WT_cond rfl (fun h0 => ?_) (fun h0 => ?_)
    · skip
      first | with_reducible replace h0 := of_decide_eq_true h0 | with_reducible replace h0 := bn_T h0 | with_reducible replace h0 := bb_T h0 | skip
      refine WT_region ?_
      refine WL_v rfl (ov_field rfl fo_impl_Node_0) ?_
      refine WL_store hH6 rfl rfl (i := 1) (off := 0) rfl rfl (by simp) rfl sz_int ?_; rintro w7 hH7
      refine WL_nil ?_
      exact joined _ _ _ (by repeat (first | exact trivial | refine ⟨rfl, ?_⟩)) hH7
    first | with_reducible replace h0 := of_decide_eq_false h0 | with_reducible replace h0 := bn_F h0 | with_reducible replace h0 := bb_F h0 | skip
    refine WT_skip ?_
    exact joined _ _ _ (by repeat (first | exact trivial | refine ⟨rfl, ?_⟩)) hH6
  clear hH hH1 hH2 hH3 hH4 hH5 hH6
  rintro k w7 hH7
  refine WT_seq ?_
  refine WT_seq ?_
  refine WT_region ?_
  refine WL_v rfl (ov_field rfl fo_impl_Node_0) ?_
  refine WL_v rfl (ov_load rfl one_int (hH7.cb 1 rfl 0)) ?_
  refine WL_v rfl (ov_eql rfl rfl) ?_
  refine WL_nil ?_
  refine WT_join (ι := Value) (fun _ => [(0, .pointer (some ⟨g, 0, none⟩)), (1, .int .i64 (i : Int)), (6, .pointer (some ⟨ga, 0, none⟩)), (7, .pointer (some ⟨gb, 0, none⟩))]) (fun rv w => ∃ R r p', IRow R 3 rv r ∧ p' ≤ p + 1 + 100 ∧ H w h (rdr g bv p' :: [(gb, .cells #[.int .i64 k, xv1, rv] 32 (0, 0))] :: R :: X1 :: [(ga, .cells #[.int .i64 0, .slice none 0 0, .slice none 0 0] 32 (0, 0))] :: Ls)) (fun joined => ?_) ?_
  · skip
    refine WT_cond rfl (fun h0 => ?_) (fun h0 => ?_)
    · skip
      first | with_reducible replace h0 := of_decide_eq_true h0 | with_reducible replace h0 := bn_T h0 | with_reducible replace h0 := bb_T h0 | skip
      refine WT_region ?_
      refine WL_v rfl (ov_move rfl) ?_
      refine WL_v rfl (ov_move rfl) ?_
      refine WL_call rfl rfl cf_spec_l91Row (l91Row_ok hH7 hB (by omega) n (by omega)) ?_; rintro rv w8 ⟨R, r, p', hR, hrl, hp', hH8⟩
      refine WL_v rfl (ov_field rfl fo_impl_Node_2) ?_
      refine WL_store hH8 rfl rfl (i := 2) (off := 2) rfl rfl (by simp) hR.sl.one sz_sl_int ?_; rintro w9 hH9
      refine WL_nil ?_
      exact joined rv _ _ (by repeat (first | exact trivial | refine ⟨rfl, ?_⟩)) ⟨R, r, p', hR, hp', ((hH9.del 3 rfl).pull 2 rfl).pull 2 rfl⟩
    first | with_reducible replace h0 := of_decide_eq_false h0 | with_reducible replace h0 := bn_F h0 | with_reducible replace h0 := bb_F h0 | skip
    refine WT_skip ?_
    exact joined xv2 _ _ (by repeat (first | exact trivial | refine ⟨rfl, ?_⟩)) ⟨X2, [], p + 1, hX2, by omega, hH7⟩
  clear hH7 hX2
  rintro rv w8 ⟨R, r, p1, hR, hp1, hH8⟩
  refine WT_seq ?_
  refine WT_seq ?_
  refine WT_region ?_
  refine WL_v rfl (ov_assign rfl) ?_
  refine WL_nil ?_
  refine WT_block ?_
  refine WT_while (fun s : Nat × Value => [(0, .pointer (some ⟨g, 0, none⟩)), (1, .int .i64 (i : Int)), (6, .pointer (some ⟨ga, 0, none⟩)), (7, .pointer (some ⟨gb, 0, none⟩)), (8, .int .i64 (s.1 : Int))]) (fun s w => s.1 ≤ 2 ∧ ∃ X f p', IRow X 3 s.2 f ∧ f.length = s.1 ∧ p' ≤ p + 1 + 100 + s.1 ∧ H w h (rdr g bv p' :: [(gb, .cells #[.int .i64 k, s.2, rv] 32 (0, 0))] :: R :: X :: [(ga, .cells #[.int .i64 0, .slice none 0 0, .slice none 0 0] 32 (0, 0))] :: Ls)) (fun s => 2 - s.1) (0, xv1) (by repeat (first | exact trivial | refine ⟨rfl, ?_⟩)) ⟨by omega, X1, [], p1, hX1, rfl, by simp only; omega, hH8⟩ ?_
  clear hH8 hX1
  rintro ⟨j, fv⟩ w9 ⟨hj, X, f, p2, hX, hfl, hp2, hH9⟩ again
  simp only at hj hX hfl hp2
  have hkn := kindNeeds_le k
  refine WT_seq ?_
  refine WT_seq ?_
  refine WT_region ?_
  refine WL_v rfl (ov_move rfl) ?_
  refine WL_v rfl (ov_field rfl fo_impl_Node_0) ?_
  refine WL_v rfl (ov_load rfl one_int (hH9.cb 1 rfl 0)) ?_
  refine WL_call rfl rfl cf_spec_KindNeeds (sKindNeeds_ok hH9 k) ?_; rintro _ w10 ⟨rfl, hH10⟩
  refine WL_v rfl (ov_lss rfl rfl) ?_
  refine WL_nil ?_
  refine WT_cond rfl (fun hc => ?_) (fun hc => ?_)
  · skip
    first | with_reducible replace hc := of_decide_eq_true hc | with_reducible replace hc := bn_T hc | with_reducible replace hc := bb_T hc | skip
    simp only at hc
    refine WT_skip ?_
    refine WT_seq ?_
    refine WT_block ?_
    refine WT_mixO (i := 1) [(0, 0), (1, 0), (2, 0), (3, 0), (4, 2), (5, 2), (6, 2), (7, 0), (8, 3)] mixed (by kernel_rfl) hH10 rfl ?_
    clear hH10
    intro w11 hH10 hC
    refine WM_v rfl rfl hC (fun _ _ => ov_field rfl fo_impl_Node_1) ?_
    refine WM_v rfl rfl hC (fun _ ⟨_, hH⟩ => ov_load rfl one_sl_int (hH.cb 1 rfl 1)) ?_
    refine WM_v rfl rfl hC (fun _ _ => ov_move rfl) ?_
    refine WM_v rfl rfl hC (fun _ _ => ov_move rfl) ?_
    refine WM_e rfl ?_
    refine WL_call rfl rfl cf_p_spec_l6Rd_pick (pick_ok hH10 hB (by omega) i) ?_; rintro _ w12 ⟨r1, rfl, hr1, hH12⟩
    replace hC : Cl _ _ _ := Cl.one hH12 (i := 1) rfl
    refine WL_mix (fun _ => hC) ?_
    refine WM_e rfl ?_
    refine WL_bsI rfl hH12 rfl (run_bs_int _) ?_; rintro Y yv w13 hY hH13
    replace hC : Cl _ _ _ := Cl.one hH13 (i := 2) rfl
    refine WL_mix (fun _ => hC) ?_
    refine WM_e rfl ?_
    refine WL_appI (i := 4) (j := 0) rfl hH13 rfl rfl st_sl_int rfl hX rfl hY (by simp; omega) (by simp; omega) ?_; rintro X2 fv2 w14 hX2 hH14
    replace hC : Cl _ _ _ := Cl.one hH14 (i := 2) rfl
    refine WL_mix (fun _ => hC) ?_
    refine WM_v rfl rfl hC (fun _ _ => ov_field rfl fo_impl_Node_1) ?_
    refine WM_e rfl ?_
    refine WL_store hH14 rfl rfl (i := 2) (off := 1) rfl rfl (by simp) hX2.sl.one sz_sl_int ?_; rintro w15 hH15
    refine WL_mix (fun h => absurd rfl h) ?_
    refine WM_nil ?_
    refine WT_inBlock ?_
    refine WT_region ?_
    refine WL_v rfl (ov_move rfl) ?_
    refine WL_v rfl (ov_add rfl rfl (by omega)) ?_
    refine WL_v rfl (ov_assign rfl) ?_
    refine WL_nil ?_
    refine again (j + 1, fv2) _ _ (by simp only; omega) (by repeat (first | exact trivial | refine ⟨rfl, ?_⟩)) ⟨by simp only; omega, X2, _, p2 + 1, hX2, by simp [hfl], by simp only; omega, hH15.drop⟩
  first | with_reducible replace hc := of_decide_eq_false hc | with_reducible replace hc := bn_F hc | with_reducible replace hc := bb_F hc | skip
  refine WT_exit rfl ?_
  refine WT_seq ?_
  refine WT_region ?_
  refine WL_v rfl (ov_loadN [.int .i64 k, fv, rv] rfl agg_impl_Node rfl ((fun j v hj => by rw [show Addr.add ⟨gb, 0, none⟩ j = ⟨gb, j, none⟩ by simp [add_of]]; exact (hH10.cb 1 rfl j).trans (by simpa using hj)))) ?_
  refine WL_storeN hH10 rfl rfl (i := 4) rfl rfl rfl (ones_cons rfl (ones_cons hX.sl.one (ones_cons hR.sl.one ones_nil))) sz_impl_Node ?_; rintro w11 hH11
  refine WL_nil ?_
  have hl : (loadVar 32 ⟨ga, 0, none⟩).run Try.prog w11 = .ok (.agg [.int .i64 k, fv, rv].toArray) w11 :=
    run_loadVarN agg_impl_Node rfl fun j v hj => by rw [show Addr.add ⟨ga, 0, none⟩ j = ⟨ga, j, none⟩ by simp [add_of]]; exact (hH11.cb 4 rfl j).trans (by simpa using hj)
  exact WT_retC Try.func71 Try.results71 rfl hl ⟨⟨k, f, r⟩, X, R, p2, ⟨fv, rv, rfl, hX, hR⟩, by omega, (((hH11.del 4 rfl).del 1 rfl).pull 2 rfl).swap⟩
end
end Go.Proofs.Ytafljegjdanldaa

/- Walks: the draw of a plan. -/
namespace Go.Proofs.Ytafljegjdanldaa
open Go.RowKit

section
variable {h : GH} {Ls : List Heaplet} {w : World}

theorem OAt.new {Is : List Heaplet} {xs : List Value} {x : Nd} {fv rv : Value} {F R : Heaplet} {k : Nat} (hF : IRow F 3 fv x.frm) (hR : IRow R 3 rv x.row) (hil : Is.length = 2 * k) (hxl : xs.length = k * 3) : OAt (Is ++ [F, R]) (xs ++ [.int .i64 x.kind, fv, rv]) k x := by
  refine ⟨fv, rv, F, R, fun j u hj => ?_, ?_, ?_, hF, hR⟩
  · rw [List.getElem?_append_right (by omega), hxl, show k * 3 + j - k * 3 = j by omega]; exact hj
  · rw [List.getElem?_append_right (by omega), hil]; simp
  · rw [List.getElem?_append_right (by omega), hil, show 2 * k + 1 - 2 * k = 1 by omega]; rfl

/-- A plan of one's own with one node more. -/
theorem OPlan.snoc {O' : Heaplet} {Is : List Heaplet} {v' : Value} {p : List Nd} {xs : List Value} {x : Nd} {fv rv : Value} {F R : Heaplet} (hil : Is.length = 2 * p.length) (hxl : xs.length = p.length * 3) (hat : ∀ i (hi : i < p.length), OAt Is xs i p[i])
    (hO : Row O' 32 3 v' (p.length + 1) (xs ++ [.int .i64 x.kind, fv, rv])) (hF : IRow F 3 fv x.frm) (hR : IRow R 3 rv x.row) : OPlan O' (Is ++ [F, R]) v' (p ++ [x]) := by
  refine ⟨by simp [hil]; omega, _, by simpa using hO, fun i hi => ?_⟩
  rw [List.getElem_append]
  split
  · rename_i h1
    exact (hat i h1).mono fun j hj => by rw [List.getElem?_append_left (by rw [hxl]; omega)]
  · rename_i h1
    have : i = p.length := by simp at hi; omega
    subst this
    simpa using OAt.new hF hR hil hxl

theorem OAt.ofSet {Is : List Heaplet} {xs : List Value} {x : Nd} {fv rv : Value} {F R : Heaplet} {k : Nat} (hF : IRow F 3 fv x.frm) (hR : IRow R 3 rv x.row) (hil : 2 * k + 1 < Is.length) (hxl : k * 3 + 3 ≤ xs.length) : OAt ((Is.set (2 * k) F).set (2 * k + 1) R) (splice xs (k * 3) [.int .i64 x.kind, fv, rv]) k x := by
  refine ⟨fv, rv, F, R, fun j u hj => ?_, ?_, ?_, hF, hR⟩
  · have : j < 3 := (List.getElem?_eq_some_iff.1 hj).1
    rw [splice_get (by simpa using hxl), if_neg (by omega), if_pos (by simp only [List.length_cons, List.length_nil]; omega), show k * 3 + j - k * 3 = j by omega]
    exact hj
  · rw [List.getElem?_set, if_neg (by omega), List.getElem?_set, if_pos rfl, if_pos (by omega)]
  · rw [List.getElem?_set, if_pos rfl, if_pos (by simp; omega)]
/-- A node of a plan of one's own is replaced. -/
theorem OPlan.set {O' : Heaplet} {Is : List Heaplet} {v : Value} {p : List Nd} {xs : List Value} {x : Nd} {fv rv : Value} {F R : Heaplet} {k : Nat} (hk : k < p.length) (hil : Is.length = 2 * p.length) (hxl : xs.length = p.length * 3) (hat : ∀ i (hi : i < p.length), OAt Is xs i p[i])
    (hO : Row O' 32 3 v p.length (splice xs (k * 3) [.int .i64 x.kind, fv, rv])) (hF : IRow F 3 fv x.frm) (hR : IRow R 3 rv x.row) : OPlan O' ((Is.set (2 * k) F).set (2 * k + 1) R) v (p.set k x) := by
  refine ⟨by simp [hil], _, by simpa using hO, fun i hi => ?_⟩
  have hi' : i < p.length := by simpa using hi
  rw [List.getElem_set]
  split
  · rename_i h1
    subst h1
    exact OAt.ofSet hF hR (by omega) (by omega)
  · rename_i h1
    obtain ⟨fv', rv', F', R', g1, g2, g3, g4, g5⟩ := hat i hi'
    refine ⟨fv', rv', F', R', fun j u hj => ?_, ?_, ?_, g4, g5⟩
    · have : j < 3 := (List.getElem?_eq_some_iff.1 hj).1
      rw [splice_get (by simp only [List.length_cons, List.length_nil]; omega)]
      simp only [List.length_cons, List.length_nil]
      rcases Nat.lt_or_ge i k with h2 | h2
      · rw [if_pos (by omega)]; exact g1 j u hj
      · rw [if_neg (by omega), if_neg (by omega)]; exact g1 j u hj
    · rw [List.getElem?_set, if_neg (by omega), List.getElem?_set, if_neg (by omega)]; exact g2
    · rw [List.getElem?_set, if_neg (by omega), List.getElem?_set, if_neg (by omega)]; exact g3

theorem run_bs_node' (k : Int) (a b : Option Addr) (n c m d : Nat) (W : World) : (Instr.buildSlice 23 1 #[(0, .agg #[.int .i64 k, .slice a n c, .slice b m d])]).run Try.prog W = .ok (.slice (some ⟨W.heap.size, 0, none⟩) 1 1) (W.alloc (.cells [.int .i64 k, .slice a n c, .slice b m d].toArray 32)) := by kernel_rfl
theorem run_bs_node {k : Int} {u v : Value} {n m : Nat} (hu : Sl u n) (hv : Sl v m) (W : World) : (Instr.buildSlice 23 1 #[(0, .agg [.int .i64 k, u, v].toArray)]).run Try.prog W = .ok (.slice (some ⟨W.heap.size, 0, none⟩) 1 1) (W.alloc (.cells [.int .i64 k, u, v].toArray 32)) := by
  obtain ⟨_, _, rfl, _⟩ := hu.form
  obtain ⟨_, _, rfl, _⟩ := hv.form
  exact run_bs_node' k _ _ _ _ _ _ W
theorem run_bs_node0 (W : World) : (Instr.buildSlice 23 0 #[]).run Try.prog W = .ok (.slice (some ⟨W.heap.size, 0, none⟩) 0 0) (W.alloc (.cells ([] : List Value).toArray 32)) := by kernel_rfl
theorem run_build_from' (k : Int) (a : Option Addr) (n c : Nat) (W : World) : (Instr.build 32 #[(0, .int .i64 k), (1, .slice a n c)]).run Try.prog W = .ok (.agg [.int .i64 k, .slice a n c, .slice none 0 0].toArray) W := by kernel_rfl
theorem run_build_from {k : Int} {u : Value} {n : Nat} (hu : Sl u n) (W : World) : (Instr.build 32 #[(0, .int .i64 k), (1, u)]).run Try.prog W = .ok (.agg [.int .i64 k, u, .slice none 0 0].toArray) W := by
  obtain ⟨_, _, rfl, _⟩ := hu.form
  exact run_build_from' k _ _ _ W
theorem run_build_row' (k : Int) (a : Option Addr) (n c : Nat) (W : World) : (Instr.build 32 #[(0, .int .i64 k), (2, .slice a n c)]).run Try.prog W = .ok (.agg [.int .i64 k, .slice none 0 0, .slice a n c].toArray) W := by kernel_rfl
theorem run_build_row {k : Int} {u : Value} {n : Nat} (hu : Sl u n) (W : World) : (Instr.build 32 #[(0, .int .i64 k), (2, u)]).run Try.prog W = .ok (.agg [.int .i64 k, .slice none 0 0, u].toArray) W := by
  obtain ⟨_, _, rfl, _⟩ := hu.form
  exact run_build_row' k _ _ _ W

theorem H.addFR {A F R O : Heaplet} {Is : List Heaplet} (hH : H w h (A :: F :: R :: O :: (Is ++ Ls))) : H w h (A :: O :: ((Is ++ [F, R]) ++ Ls)) := by
  refine hH.perm (.cons _ ?_)
  have h2 : (F :: R :: O :: (Is ++ Ls)).Perm (O :: ([F, R] ++ (Is ++ Ls))) := by
    have : ([F, R] ++ O :: (Is ++ Ls)).Perm (O :: ([F, R] ++ (Is ++ Ls))) := List.perm_middle
    simpa using this
  have h3 : ([F, R] ++ (Is ++ Ls)).Perm ((Is ++ [F, R]) ++ Ls) := by
    rw [← List.append_assoc]
    exact List.perm_append_comm.append_right Ls
  exact h2.trans (.cons _ h3)
/-- Two lists take the places of two others. -/
theorem H.setFR {A F R O : Heaplet} {Is : List Heaplet} {k : Nat} (hH : H w h (F :: R :: A :: O :: (Is ++ Ls))) (hk : 2 * k + 1 < Is.length) : H w h (A :: O :: (((Is.set (2 * k) F).set (2 * k + 1) R) ++ Ls)) := by
  have h1 := hH.inPlace (2 * k + 3) (Y := Is[2 * k]) (by
    rw [show 2 * k + 3 = (2 * k) + 1 + 1 + 1 by omega]
    simp only [List.getElem?_cons_succ]
    rw [List.getElem?_append_left (by omega), List.getElem?_eq_getElem])
  rw [show 2 * k + 3 = (2 * k) + 1 + 1 + 1 by omega] at h1
  simp only [List.set_cons_succ] at h1
  rw [List.set_append_left _ _ (by omega)] at h1
  have h2 := h1.inPlace (2 * k + 3) (Y := Is[2 * k + 1]) (by
    rw [show 2 * k + 3 = (2 * k + 1) + 1 + 1 by omega]
    simp only [List.getElem?_cons_succ]
    rw [List.getElem?_append_left (by simp; omega), List.getElem?_set, if_neg (by omega), List.getElem?_eq_getElem])
  rw [show 2 * k + 3 = (2 * k + 1) + 1 + 1 by omega] at h2
  simp only [List.set_cons_succ] at h2
  rwa [List.set_append_left _ _ (by simp; omega)] at h2

theorem l91Plan_ok {g : Nat} {bv : Value} {p0 : Nat} {bs : List Int} (hH : H w h (rdr g bv p0 :: Ls)) (hB : Bytes h bv bs) (hp : p0 ≤ 100000) :
    Rets Try.prog 36 #[.pointer (some ⟨g, 0, none⟩)] w fun v w' => ∃ p O Is p', OPlan O Is v p ∧ p.length ≤ 11 ∧ p' ≤ p0 + 4000 ∧ H w' h (rdr g bv p' :: O :: (Is ++ Ls)) := by
  refine rets_enter Try.func36 rfl Try.ntmps36 (by simp) ?_
  refine WT_seq ?_
  refine WT_region ?_
  refine WL_v rfl (ov_assign rfl) ?_
  refine WL_nil ?_
  refine WT_seq ?_
  refine WT_region ?_
  refine WL_buildSlice (sz := 3) (parts := []) (vs := []) [] rfl hH rfl run_bs_node0 rfl (by omega) ?_; rintro O0 ov0 w1 hO0 hH1
  refine WL_v rfl (ov_assign rfl) ?_
  refine WL_nil ?_
  refine WT_seq ?_
  refine WT_region ?_
  refine WL_v rfl (ov_move rfl) ?_
  refine WL_call rfl rfl cf_p_spec_l6Rd_pick (pick_ok (hH1.pull 1 rfl) hB (by omega) 4) ?_; rintro _ w2 ⟨wd, rfl, hwd, hH2⟩
  refine WL_v rfl (ov_assign rfl) ?_
  refine WL_nil ?_
  refine WT_seq ?_
  refine WT_region ?_
  refine WL_v rfl (ov_move rfl) ?_
  refine WL_call rfl rfl cf_p_spec_l6Rd_pick (pick_ok hH2 hB (by omega) 8) ?_; rintro _ w3 ⟨r1, rfl, hr1, hH3⟩
  refine WL_v rfl (ov_add rfl rfl (by have := hr1.1 (by omega); omega)) ?_
  refine WL_v rfl (ov_assign rfl) ?_
  refine WL_nil ?_
  refine WT_seq ?_
  refine WT_seq ?_
  refine WT_region ?_
  refine WL_v rfl (ov_move rfl) ?_
  refine WL_call rfl rfl cf_p_spec_l6Rd_pick (pick_ok hH3 hB (by omega) 16) ?_; rintro _ w4 ⟨r2, rfl, hr2, hH4⟩
  refine WL_v rfl (ov_eql rfl rfl) ?_
  refine WL_nil ?_
  have hwd4 := hwd.1 (by omega)
  have hr18 := hr1.1 (by omega)
  refine WT_join (ι := Nat) (fun n => [(0, .pointer (some ⟨g, 0, none⟩)), (3, ov0), (4, .int .i64 (wd : Int)), (5, .int .i64 (n : Int))]) (fun n w => n ≤ 11 ∧ ∃ p', p' ≤ p0 + 10 ∧ H w h (rdr g bv p' :: O0 :: Ls)) (fun joined => ?_) ?_
  · skip
    refine WT_cond rfl (fun h0 => ?_) (fun h0 => ?_)
    · skip
      first | with_reducible replace h0 := of_decide_eq_true h0 | with_reducible replace h0 := bn_T h0 | with_reducible replace h0 := bb_T h0 | skip
      refine WT_region ?_
      refine WL_bsIN [0, 10, 11] rfl hH4 rfl (run_bs_int3 _ _ _) rfl (by omega) ?_; rintro Y yv w5 hY hH5
      refine WL_v rfl (ov_move rfl) ?_
      refine WL_call rfl rfl cf_p_spec_l6Rd_pick (pick_ok (hH5.pull 1 rfl) hB (by omega) 3) ?_; rintro _ w6 ⟨r3, rfl, hr3, hH6⟩
      have hr33 := hr3.1 (by omega)
      obtain ⟨m, hm, hm2⟩ : ∃ m : Nat, m ≤ 11 ∧ ([0, 10, 11] : List Int)[r3]'(by simp only [List.length_cons, List.length_nil]; omega) = (m : Int) := pick_of (P := fun a => ∃ m : Nat, m ≤ 11 ∧ a = (m : Int)) (by simp only [List.length_cons, List.length_nil]; omega) (by
        intro a ha
        simp only [List.mem_cons, List.not_mem_nil, or_false] at ha
        rcases ha with rfl | rfl | rfl
        · exact ⟨0, by omega, rfl⟩
        · exact ⟨10, by omega, rfl⟩
        · exact ⟨11, by omega, rfl⟩)
      refine WL_v rfl (ov_index rfl rfl st_sl_int hY.sl (by simp only [List.length_cons, List.length_nil]; omega)) ?_
      refine WL_v rfl (ov_load rfl one_int (hY.cell hH6 (i := 1) rfl (by simp only [List.length_cons, List.length_nil]; omega))) ?_; rw [hm2]
      refine WL_v rfl (ov_assign rfl) ?_
      refine WL_nil ?_
      exact joined m _ _ (by repeat (first | exact trivial | refine ⟨rfl, ?_⟩)) ⟨hm, _, by omega, hH6.del 1 rfl⟩
    first | with_reducible replace h0 := of_decide_eq_false h0 | with_reducible replace h0 := bn_F h0 | with_reducible replace h0 := bb_F h0 | skip
    refine WT_skip ?_
    exact joined (1 + r1) _ _ ⟨rfl, rfl, rfl, by rw [show ((1 + r1 : Nat) : Int) = 1 + (r1 : Int) by omega]; rfl, trivial⟩ ⟨by omega, _, by omega, hH4⟩
  clear hH hH1 hH2 hH3 hH4
  rintro n w5 ⟨hn, p1, hp1, hH5⟩
  refine WT_seq ?_
  refine WT_seq ?_
  refine WT_region ?_
  refine WL_v rfl (ov_assign rfl) ?_
  refine WL_nil ?_
  refine WT_block ?_
  refine WT_while (fun s : Nat × Value => [(0, .pointer (some ⟨g, 0, none⟩)), (3, s.2), (4, .int .i64 (wd : Int)), (5, .int .i64 (n : Int)), (6, .int .i64 (s.1 : Int))]) (fun s w => s.1 ≤ n ∧ ∃ p O Is p', OPlan O Is s.2 p ∧ p.length = s.1 ∧ p' ≤ p0 + 10 + 200 * s.1 ∧ H w h (rdr g bv p' :: O :: (Is ++ Ls))) (fun s => n - s.1) (0, ov0) (by repeat (first | exact trivial | refine ⟨rfl, ?_⟩)) ⟨by omega, [], O0, [], p1, ⟨rfl, [], hO0, by simp⟩, rfl, by simp only; omega, hH5⟩ ?_
  clear hH5 hO0
  rintro ⟨k, ov⟩ w6 ⟨hk, p, O, Is, p2, hO, hpl, hp2, hH6⟩ again
  simp only at hk hpl hp2 hO
  refine WT_seq ?_
  refine WT_seq ?_
  refine WT_region ?_
  refine WL_v rfl (ov_move rfl) ?_
  refine WL_v rfl (ov_move rfl) ?_
  refine WL_v rfl (ov_lss rfl rfl) ?_
  refine WL_nil ?_
  refine WT_cond rfl (fun hc => ?_) (fun hc => ?_)
  · skip
    first | with_reducible replace hc := of_decide_eq_true hc | with_reducible replace hc := bn_T hc | with_reducible replace hc := bb_T hc | skip
    simp only at hc
    have hkn : k < n := by omega
    obtain ⟨hil, xs, hR3, hat⟩ := hO
    refine WT_skip ?_
    refine WT_seq ?_
    refine WT_block ?_
    refine WT_region ?_
    refine WL_v rfl (ov_move rfl) ?_
    refine WL_v rfl (ov_move rfl) ?_
    refine WL_v rfl (ov_move rfl) ?_
    refine WL_v rfl (ov_move rfl) ?_
    refine WL_call rfl rfl cf_spec_l91Node (l91Node_ok hH6 hB (by omega) k wd (by omega)) ?_; rintro _ w7 ⟨x, F, R, p3, ⟨fv, rv, rfl, hF, hR⟩, hp3, hH7⟩
    refine WL_buildSlice (sz := 3) [.int .i64 x.kind, fv, rv] rfl hH7 rfl (run_bs_node hF.sl hR.sl) rfl (by omega) ?_; rintro Y yv w8 hY hH8
    refine WL_append1 (i := 4) (j := 0) (n := p.length) (m := 1) rfl hH8 rfl rfl st_sl_impl_Node (by omega) rfl hR3 rfl hY (ones_cons rfl (ones_cons hF.sl.one (ones_cons hR.sl.one ones_nil))) (by omega) (by omega) ?_; rintro O2 ov2 w9 hO2 hH9
    refine WL_v rfl (ov_assign rfl) ?_
    refine WL_nil ?_
    refine WT_inBlock ?_
    refine WT_region ?_
    refine WL_v rfl (ov_move rfl) ?_
    refine WL_v rfl (ov_add rfl rfl (by omega)) ?_
    refine WL_v rfl (ov_assign rfl) ?_
    refine WL_nil ?_
    refine again (k + 1, ov2) _ _ (by simp only; omega) (by repeat (first | exact trivial | refine ⟨rfl, ?_⟩)) ⟨by simp only; omega, p ++ [x], O2, Is ++ [F, R], p3, OPlan.snoc hil hR3.len hat hO2 hF hR, by simp [hpl], by simp only; omega, H.addFR hH9.drop⟩
  first | with_reducible replace hc := of_decide_eq_false hc | with_reducible replace hc := bn_F hc | with_reducible replace hc := bb_F hc | skip
  simp only at hc
  obtain rfl : k = n := by omega
  refine WT_exit rfl ?_
  refine WT_seq ?_
  refine WT_seq ?_
  refine WT_region ?_
  refine WL_v rfl (ov_move rfl) ?_
  refine WL_v rfl (ov_gtr rfl rfl) ?_
  refine WL_nil ?_
  refine WT_cond rfl (fun hn1 => ?_) (fun hn1 => ?_)
  · skip
    first | with_reducible replace hn1 := of_decide_eq_true hn1 | with_reducible replace hn1 := bn_T hn1 | with_reducible replace hn1 := bb_T hn1 | skip
    obtain ⟨hil, xs, hR3, hat⟩ := hO
    have hxl := hR3.len
    have ho1 : ∀ {a b c : Value}, (k - 1) * 3 + [a, b, c].length ≤ xs.length := by intro a b c; simp only [List.length_cons, List.length_nil]; omega
    have hkm : ((k - 1 : Nat) : Int) = (k : Int) - 1 := by omega
    refine WT_seq ?_
    refine WT_region ?_
    refine WL_v rfl (ov_move rfl) ?_
    refine WL_call rfl rfl cf_p_spec_l6Rd_pick (pick_ok hH6 hB (by omega) 40) ?_; rintro _ w7 ⟨r3, rfl, hr3, hH7⟩
    refine WL_nil ?_
    refine WT_block ?_
    refine WT_seq ?_
    refine WT_region ?_
    refine WL_v rfl (ov_eql rfl rfl) ?_
    refine WL_v rfl (ov_assign rfl) ?_
    refine WL_nil ?_
    refine WT_cond rfl (fun h0 => ?_) (fun h0 => ?_)
    · skip
      first | with_reducible replace h0 := of_decide_eq_true h0 | with_reducible replace h0 := bn_T h0 | with_reducible replace h0 := bb_T h0 | skip
      refine WT_region ?_
      refine WL_v rfl (ov_move rfl) ?_
      refine WL_v rfl (ov_move rfl) ?_
      refine WL_v rfl (ov_as (ov_sub rfl rfl (by omega)) (congrArg (Value.int .i64) (hkm.symm))) ?_
      refine WL_v rfl (ov_move rfl) ?_
      refine WL_v rfl (ov_as (ov_sub rfl rfl (by omega)) (congrArg (Value.int .i64) (hkm.symm))) ?_
      refine WL_bsI rfl hH7 rfl (run_bs_int _) ?_; rintro F fv w8 hF hH8
      refine WL_v rfl (ov_build rfl (run_build_from hF.sl)) ?_
      refine WL_v rfl (ov_index rfl rfl st_sl_impl_Node hR3.sl (i := k - 1) (by omega)) ?_
      refine WL_storeRowN hH8 rfl rfl (i := 2) rfl hR3 ho1 (by simp) (ones_cons rfl (ones_cons hF.sl.one (ones_cons rfl ones_nil))) sz_impl_Node ?_; rintro O2 w9 hO2 hH9
      refine WL_nil ?_
      refine WT_inBlock ?_
      refine WT_seq ?_
      refine WT_region ?_
      refine WL_v rfl (ov_move rfl) ?_
      refine WL_v rfl (ov_assign rfl) ?_
      refine WL_nil ?_
      exact WT_ret1 Try.func36 Try.results36 rfl ⟨_, O2, _, _, OPlan.set (k := k - 1) (x := ⟨4, [((k - 1 : Nat) : Int)], []⟩) (by omega) hil hxl hat hO2 hF (IRow.nil _), by simp; omega, by omega, H.setFR (hH9.nilIn.swap) (by omega)⟩
    first | with_reducible replace h0 := of_decide_eq_false h0 | with_reducible replace h0 := bn_F h0 | with_reducible replace h0 := bb_F h0 | skip
    refine WT_seq ?_
    refine WT_region ?_
    refine WL_v rfl (ov_eql rfl rfl) ?_
    refine WL_v rfl (ov_assign rfl) ?_
    refine WL_nil ?_
    refine WT_cond rfl (fun h1 => ?_) (fun h1 => ?_)
    · skip
      first | with_reducible replace h1 := of_decide_eq_true h1 | with_reducible replace h1 := bn_T h1 | with_reducible replace h1 := bb_T h1 | skip
      refine WT_region ?_
      refine WL_v rfl (ov_move rfl) ?_
      refine WL_v rfl (ov_move rfl) ?_
      refine WL_v rfl (ov_as (ov_sub rfl rfl (by omega)) (congrArg (Value.int .i64) (hkm.symm))) ?_
      refine WL_v rfl (ov_move rfl) ?_
      refine WL_v rfl (ov_move rfl) ?_
      refine WL_v rfl (ov_as (ov_add rfl rfl (by omega)) (congrArg (Value.int .i64) ((show (wd : Int) + 1 = ((wd + 1 : Nat) : Int) by omega)))) ?_
      refine WL_call rfl rfl cf_spec_l91Row (l91Row_ok hH7 hB (by omega) (wd + 1) (by omega)) ?_; rintro rv w8 ⟨R, r, p3, hR, hrl, hp3, hH8⟩
      refine WL_v rfl (ov_build rfl (run_build_row hR.sl)) ?_
      refine WL_v rfl (ov_index rfl rfl st_sl_impl_Node hR3.sl (i := k - 1) (by omega)) ?_
      refine WL_storeRowN hH8 rfl rfl (i := 2) rfl hR3 ho1 (by simp) (ones_cons rfl (ones_cons rfl (ones_cons hR.sl.one ones_nil))) sz_impl_Node ?_; rintro O2 w9 hO2 hH9
      refine WL_nil ?_
      refine WT_inBlock ?_
      refine WT_seq ?_
      refine WT_region ?_
      refine WL_v rfl (ov_move rfl) ?_
      refine WL_v rfl (ov_assign rfl) ?_
      refine WL_nil ?_
      exact WT_ret1 Try.func36 Try.results36 rfl ⟨_, O2, _, _, OPlan.set (k := k - 1) (x := ⟨0, [], r⟩) (by omega) hil hxl hat hO2 (IRow.nil _) hR, by simp; omega, by omega, H.setFR (hH9.nilIn) (by omega)⟩
    first | with_reducible replace h1 := of_decide_eq_false h1 | with_reducible replace h1 := bn_F h1 | with_reducible replace h1 := bb_F h1 | skip
    refine WT_skip ?_
    refine WT_inBlock ?_
    refine WT_seq ?_
    refine WT_region ?_
    refine WL_v rfl (ov_move rfl) ?_
    refine WL_v rfl (ov_assign rfl) ?_
    refine WL_nil ?_
    exact WT_ret1 Try.func36 Try.results36 rfl ⟨p, O, Is, _, ⟨hil, xs, hR3, hat⟩, by omega, by omega, hH7⟩
  first | with_reducible replace hn1 := of_decide_eq_false hn1 | with_reducible replace hn1 := bn_F hn1 | with_reducible replace hn1 := bb_F hn1 | skip
  refine WT_skip ?_
  refine WT_seq ?_
  refine WT_region ?_
  refine WL_v rfl (ov_move rfl) ?_
  refine WL_v rfl (ov_assign rfl) ?_
  refine WL_nil ?_
  exact WT_ret1 Try.func36 Try.results36 rfl ⟨p, O, Is, p2, hO, by omega, by omega, hH6⟩

/-- A drawn plan, shared. -/
def Drew (h : GH) (Ls : List Heaplet) (v : Value) (w' : World) : Prop := ∃ h' p, h.Le h' ∧ Plan h' v p ∧ p.length ≤ 11 ∧ H w' h' Ls

theorem drew_of {g : Nat} {bv : Value} {p' : Nat} {O : Heaplet} {Is : List Heaplet} {v : Value} {p : List Nd} (hO : OPlan O Is v p) (hl : p.length ≤ 11) (hH : H w h (rdr g bv p' :: O :: (Is ++ Ls))) : Drew h Ls v w := by
  obtain ⟨h', hle, hH2, hP, _⟩ := hO.freeze hH.drop
  exact ⟨h', p, hle, hP, hl, hH2⟩

end
end Go.Proofs.Ytafljegjdanldaa

/- Walks: the reference's most expensive path. -/
namespace Go.Proofs.Ytafljegjdanldaa
open Go.RowKit

section
variable {h : GH} {Ls : List Heaplet} {w : World}

end
end Go.Proofs.Ytafljegjdanldaa
