/- Plain definitions: kinds, nodes, plans. No program in sight. -/
import Derived.Test.YtafljegjdanldaaSlD
import Derived.Test.YtafljegjdanldaaSlO
import Derived.Test.YtafljegjdanldaaSlM
import Derived.Test.YtafljegjdanldaaSlT
namespace Go.Proofs.Ytafljegjdanldaa

def kindOk (k : Int) : Bool := decide (0 ≤ k ∧ k ≤ 5)
/-- How many rows a kind needs. -/
def kindNeeds (k : Int) : Int := if k = 0 then 0 else if k = 1 ∨ k = 2 then 2 else if k = 3 ∨ k = 4 ∨ k = 5 then 1 else -1
/-- What a kind costs, if there is such a kind. -/
def kindCost (k : Int) : Int := if k = 0 ∨ k = 5 then 1 else if k = 4 then 4 else 2
def costKind (k : Int) : Int := if kindOk k then kindCost k else -1

theorem kindOk_iff (k : Int) : kindOk k = true ↔ (k = 0 ∨ k = 1 ∨ k = 2 ∨ k = 3 ∨ k = 4 ∨ k = 5) := by
  simp only [kindOk, decide_eq_true_eq]; omega
theorem kindCases (k : Int) : k = 0 ∨ k = 1 ∨ k = 2 ∨ k = 3 ∨ k = 4 ∨ k = 5 ∨ kindOk k = false := by
  by_cases h : kindOk k = true
  · have := (kindOk_iff k).1 h; omega
  · simp at h; exact .inr (.inr (.inr (.inr (.inr (.inr h)))))

/-- A row has few enough values, all in range. -/
def rowOk (r : List Int) : Bool := r.all (fun x => decide (0 ≤ x ∧ x ≤ 1008)) && decide (r.length ≤ 6)
/-- How many values the first given row has, or 0. -/
def wideOf : List Nd → Nat
  | [] => 0
  | x :: r => if x.kind = 0 then x.row.length else wideOf r
/-- A node fits at a place: its kind, what it needs, its row. -/
def nodeOk (x : Nd) (i wide : Nat) : Bool :=
  decide (kindNeeds x.kind = (x.frm.length : Int)) && rowOk x.row && x.frm.all (fun f => decide (0 ≤ f ∧ f ≤ (i : Int) - 1)) && (if x.kind = 0 then decide (x.row.length = wide) else decide (x.row.length = 0))
instance : Inhabited Nd := ⟨⟨0, [], []⟩⟩
/-- A plan is valid. -/
def planOk (p : List Nd) : Bool := (List.range p.length).all (fun i => nodeOk (p.getD i default) i (wideOf p)) && decide (p.length ≤ 10)

theorem getD_of {p : List Nd} {i : Nat} (h : i < p.length) : p.getD i default = p[i] := by simp [List.getD_eq_getElem?_getD, List.getElem?_eq_getElem h]
theorem planOk_iff (p : List Nd) : planOk p = true ↔ p.length ≤ 10 ∧ ∀ i (h : i < p.length), nodeOk p[i] i (wideOf p) = true := by
  simp only [planOk, Bool.and_eq_true, List.all_eq_true, List.mem_range, decide_eq_true_eq]
  constructor
  · rintro ⟨h1, h2⟩
    exact ⟨h2, fun i h => by rw [← getD_of h]; exact h1 i h⟩
  · rintro ⟨h1, h2⟩
    exact ⟨fun i h => by rw [getD_of h]; exact h2 i h, h1⟩
theorem planOk_bad {p : List Nd} {i : Nat} (h : i < p.length) (hb : nodeOk p[i] i (wideOf p) = false) : planOk p = false := by
  cases hp : planOk p with
  | false => rfl
  | true => rw [((planOk_iff p).1 hp).2 i h] at hb; cases hb

structure NodeOk (x : Nd) (i wide : Nat) : Prop where
  kind : kindOk x.kind = true
  len : (x.frm.length : Int) = kindNeeds x.kind
  row : rowOk x.row = true
  frm : ∀ f ∈ x.frm, 0 ≤ f ∧ f < (i : Int)
  wide : x.kind = 0 → x.row.length = wide
  none_ : x.kind ≠ 0 → x.row = []
theorem nodeOk_spec {x : Nd} {i wide : Nat} (h : nodeOk x i wide = true) : NodeOk x i wide := by
  simp only [nodeOk, Bool.and_eq_true, decide_eq_true_eq, List.all_eq_true] at h
  obtain ⟨⟨⟨h1, h2⟩, h3⟩, h4⟩ := h
  refine ⟨?_, h1.symm, h2, fun f hf => by have := h3 f hf; omega, fun hk => ?_, fun hk => ?_⟩
  · cases hk : kindOk x.kind with
    | true => rfl
    | false =>
      have : kindNeeds x.kind = -1 := by
        have : ¬ (0 ≤ x.kind ∧ x.kind ≤ 5) := by simpa [kindOk] using hk
        unfold kindNeeds
        rw [if_neg (by omega), if_neg (by omega), if_neg (by omega)]
      omega
  · rw [if_pos hk] at h4; simpa using h4
  · rw [if_neg hk] at h4
    exact List.eq_nil_of_length_eq_zero (by simpa using h4)
/-- What validity gives of each node. -/
theorem PlanOk.node {p : List Nd} (hp : planOk p = true) {i : Nat} (h : i < p.length) : NodeOk p[i] i (wideOf p) := nodeOk_spec (((planOk_iff p).1 hp).2 i h)
theorem PlanOk.len {p : List Nd} (hp : planOk p = true) : p.length ≤ 10 := ((planOk_iff p).1 hp).1
theorem kindNeeds_le (k : Int) : kindNeeds k ≤ 2 := by unfold kindNeeds; split; · omega
                                                       split; · omega
                                                       split <;> omega
theorem NodeOk.len2 {x : Nd} {i wide : Nat} (h : NodeOk x i wide) : x.frm.length ≤ 2 := by
  have := kindNeeds_le x.kind
  have := h.len
  omega

end Go.Proofs.Ytafljegjdanldaa

/- Plain laws: lists that grow node by node; sums, paths, levels. -/
namespace Go.Proofs.Ytafljegjdanldaa

theorem kindCost_rg (k : Int) : 1 ≤ kindCost k ∧ kindCost k ≤ 4 := by
  unfold kindCost
  split
  · omega
  · split <;> omega

/-- What the first nodes cost. -/
def sumTo (p : List Nd) : Nat → Int
  | 0 => 0
  | k + 1 => sumTo p k + kindCost (p.getD k default).kind
theorem sumTo_rg (p : List Nd) : ∀ k : Nat, (k : Int) ≤ sumTo p k ∧ sumTo p k ≤ 4 * k
  | 0 => by simp [sumTo]
  | k + 1 => by
    have := sumTo_rg p k
    have := kindCost_rg (p.getD k default).kind
    simp only [sumTo]
    omega

/-- A list that grows node by node. -/
def progTo (g : List Int → Nd → Int) (p : List Nd) : Nat → List Int
  | 0 => []
  | k + 1 => progTo g p k ++ [g (progTo g p k) (p.getD k default)]
theorem progTo_len (g : List Int → Nd → Int) (p : List Nd) : ∀ k, (progTo g p k).length = k
  | 0 => rfl
  | k + 1 => by simp [progTo, progTo_len g p k]
theorem progTo_get {g : List Int → Nd → Int} {p : List Nd} {i : Nat} : ∀ {k : Nat}, i < k → (progTo g p k)[i]? = some (g (progTo g p i) (p.getD i default))
  | k + 1, h => by
    simp only [progTo]
    rcases Nat.lt_or_ge i k with h1 | h1
    · rw [List.getElem?_append_left (by rw [progTo_len]; exact h1), progTo_get h1]
    · obtain rfl : i = k := by omega
      rw [List.getElem?_append_right (by rw [progTo_len]; omega), progTo_len]
      simp
theorem progTo_getD {g : List Int → Nd → Int} {p : List Nd} {i k : Nat} (h : i < k) : (progTo g p k).getD i 0 = g (progTo g p i) (p.getD i default) := by
  rw [List.getD_eq_getElem?_getD, progTo_get h]; rfl
theorem progTo_same {g : List Int → Nd → Int} {p : List Nd} {i j k : Nat} (h : i < k) (h2 : i < j) : (progTo g p k).getD i 0 = (progTo g p j).getD i 0 := by
  rw [progTo_getD h, progTo_getD h2]

/-- The most of what is behind: c more than each. -/
def upOf (c : Int) (ps : List Int) (l : List Int) : Int := l.foldl (fun n f => max n (ps.getD f.toNat 0 + c)) 0
theorem upOf_snoc (c : Int) (ps l : List Int) (f : Int) : upOf c ps (l ++ [f]) = max (upOf c ps l) (ps.getD f.toNat 0 + c) := by simp [upOf]
theorem le_foldl_max {α : Type} (g : α → Int) : ∀ (l : List α) (m : Int), m ≤ l.foldl (fun n f => max n (g f)) m ∧ (∀ f ∈ l, g f ≤ l.foldl (fun n f => max n (g f)) m)
  | [], m => by simp
  | x :: r, m => by
    have := le_foldl_max g r (max m (g x))
    simp only [List.foldl_cons, List.mem_cons, forall_eq_or_imp]
    refine ⟨by omega, by omega, this.2⟩
theorem foldl_max_le {α : Type} (g : α → Int) (b : Int) : ∀ (l : List α) (m : Int), m ≤ b → (∀ f ∈ l, g f ≤ b) → l.foldl (fun n f => max n (g f)) m ≤ b
  | [], m, h, _ => h
  | x :: r, m, h, hl => by
    simp only [List.mem_cons, forall_eq_or_imp] at hl
    exact foldl_max_le g b r (max m (g x)) (by omega) hl.2
theorem foldl_max_eq {α : Type} (g : α → Int) : ∀ (l : List α) (m : Int), l.foldl (fun n f => max n (g f)) m = m ∨ ∃ f ∈ l, l.foldl (fun n f => max n (g f)) m = g f
  | [], m => .inl rfl
  | x :: r, m => by
    simp only [List.foldl_cons, List.mem_cons, exists_eq_or_imp]
    rcases foldl_max_eq g r (max m (g x)) with h | ⟨f, hf, h⟩
    · rw [h]
      rcases Int.le_total m (g x) with h1 | h1
      · exact .inr (.inl (by omega))
      · exact .inl (by omega)
    · exact .inr (.inr ⟨f, hf, h⟩)
theorem upOf_nonneg (c : Int) (ps l : List Int) : 0 ≤ upOf c ps l := (le_foldl_max _ l 0).1
theorem upOf_le {c b : Int} {ps l : List Int} (hb : 0 ≤ b) (h : ∀ f ∈ l, ps.getD f.toNat 0 + c ≤ b) : upOf c ps l ≤ b := foldl_max_le _ b l 0 hb h
theorem le_upOf {c : Int} {ps l : List Int} {f : Int} (h : f ∈ l) : ps.getD f.toNat 0 + c ≤ upOf c ps l := (le_foldl_max _ l 0).2 f h

/-- What a path to each node costs; levels. -/
def pathsTo (p : List Nd) (k : Nat) : List Int := progTo (fun ps x => upOf 0 ps x.frm + kindCost x.kind) p k
def levelsTo (p : List Nd) (k : Nat) : List Int := progTo (fun ps x => upOf 1 ps x.frm) p k
def mostOf (l : List Int) : Int := l.foldl (fun n f => max n f) 0
theorem mostOf_snoc (l : List Int) (a : Int) : mostOf (l ++ [a]) = max (mostOf l) a := by simp [mostOf]

theorem getD_mem_or (l : List Int) (i : Nat) : l.getD i 0 = 0 ∨ l.getD i 0 ∈ l := by
  rw [List.getD_eq_getElem?_getD]
  cases h : l[i]? with
  | none => exact .inl rfl
  | some a => exact .inr (List.mem_of_getElem? h)
theorem pathsTo_rg (p : List Nd) : ∀ k, ∀ a ∈ pathsTo p k, 1 ≤ a ∧ a ≤ 4 * k
  | 0 => by simp [pathsTo, progTo]
  | k + 1 => by
    intro a ha
    simp only [pathsTo, progTo, List.mem_append, List.mem_singleton] at ha
    rcases ha with ha | rfl
    · have := pathsTo_rg p k a ha; omega
    · have h1 := kindCost_rg (p.getD k default).kind
      have h2 := upOf_nonneg 0 (pathsTo p k) (p.getD k default).frm
      have h3 : upOf 0 (pathsTo p k) (p.getD k default).frm ≤ 4 * (k : Int) := upOf_le (by omega) fun f _ => by
        rcases getD_mem_or (pathsTo p k) f.toNat with h | h
        · rw [h]; omega
        · have := pathsTo_rg p k _ h; omega
      simp only [pathsTo] at h2 h3
      omega
theorem levelsTo_rg (p : List Nd) : ∀ k, ∀ a ∈ levelsTo p k, 0 ≤ a ∧ a ≤ k
  | 0 => by simp [levelsTo, progTo]
  | k + 1 => by
    intro a ha
    simp only [levelsTo, progTo, List.mem_append, List.mem_singleton] at ha
    rcases ha with ha | rfl
    · have := levelsTo_rg p k a ha; omega
    · have h2 := upOf_nonneg 1 (levelsTo p k) (p.getD k default).frm
      have h3 : upOf 1 (levelsTo p k) (p.getD k default).frm ≤ (k + 1 : Int) := upOf_le (by omega) fun f _ => by
        rcases getD_mem_or (levelsTo p k) f.toNat with h | h
        · rw [h]; omega
        · have := levelsTo_rg p k _ h; omega
      simp only [levelsTo] at h2 h3
      omega
end Go.Proofs.Ytafljegjdanldaa

/- Plain: who needs whom. -/
namespace Go.Proofs.Ytafljegjdanldaa

def addN (acc : List Nat) (f : Nat) : List Nat := if f ∈ acc then acc else acc ++ [f]
/-- What a node needs itself, each once, in the order of the first time. -/
def needTo (l : List Int) : List Nat := l.foldl (fun a f => addN a f.toNat) []
theorem needTo_snoc (l : List Int) (f : Int) : needTo (l ++ [f]) = addN (needTo l) f.toNat := by simp [needTo]
theorem mem_addN {a f : Nat} {l : List Nat} : a ∈ addN l f ↔ a ∈ l ∨ a = f := by
  unfold addN
  split
  · rename_i h
    constructor
    · exact .inl
    · rintro (h1 | rfl)
      · exact h1
      · exact h
  · simp
theorem mem_foldl_addN {a : Nat} : ∀ (l : List Int) (acc : List Nat), a ∈ l.foldl (fun a f => addN a f.toNat) acc ↔ a ∈ acc ∨ ∃ f ∈ l, a = f.toNat
  | [], acc => by simp
  | f :: l, acc => by
    rw [List.foldl_cons, mem_foldl_addN l]
    rw [mem_addN]
    constructor
    · rintro ((h | h) | ⟨g, hg, h⟩)
      · exact .inl h
      · exact .inr ⟨f, by simp, h⟩
      · exact .inr ⟨g, by simp [hg], h⟩
    · rintro (h | ⟨g, hg, h⟩)
      · exact .inl (.inl h)
      · rcases List.mem_cons.1 hg with rfl | hg
        · exact .inl (.inr h)
        · exact .inr ⟨g, hg, h⟩
theorem mem_needTo {a : Nat} {l : List Int} : a ∈ needTo l ↔ ∃ f ∈ l, a = f.toNat := by
  unfold needTo
  rw [mem_foldl_addN]
  simp
theorem mem_needTo' {a : Nat} {l : List Int} (hl : ∀ f ∈ l, 0 ≤ f) : a ∈ needTo l ↔ (a : Int) ∈ l := by
  rw [mem_needTo]
  constructor
  · rintro ⟨f, hf, rfl⟩
    rw [Int.toNat_of_nonneg (hl f hf)]; exact hf
  · intro h
    exact ⟨_, h, by simp⟩
theorem addN_len (l : List Nat) (f : Nat) : (addN l f).length ≤ l.length + 1 := by unfold addN; split <;> simp
theorem needTo_len (l : List Int) : (needTo l).length ≤ l.length := by
  have key : ∀ (l : List Int) (acc : List Nat), (l.foldl (fun a f => addN a f.toNat) acc).length ≤ acc.length + l.length := by
    intro l
    induction l with
    | nil => intro acc; simp
    | cons f l ih =>
      intro acc
      rw [List.foldl_cons]
      have h1 := ih (addN acc f.toNat)
      have h2 := addN_len acc f.toNat
      simp only [List.length_cons]
      omega
  simpa [needTo] using key l []

/-- All of the first k nodes that need node i, in order. -/
def usersTo (p : List Nd) (k i : Nat) : List Nat := (List.range k).filter fun j => decide ((i : Int) ∈ (p.getD j default).frm)
theorem usersTo_len (p : List Nd) (k i : Nat) : (usersTo p k i).length ≤ k := by
  have := List.length_filter_le (fun j => decide ((i : Int) ∈ (p.getD j default).frm)) (List.range k)
  simpa [usersTo] using this
theorem usersTo_succ {p : List Nd} {k : Nat} (hk : k < p.length) (hn : ∀ f ∈ p[k].frm, 0 ≤ f) (i : Nat) :
    usersTo p (k + 1) i = usersTo p k i ++ (if i ∈ needTo p[k].frm then [k] else []) := by
  have h2 : decide ((i : Int) ∈ (p.getD k default).frm) = decide (i ∈ needTo p[k].frm) := by rw [getD_of hk]; exact decide_eq_decide.2 (mem_needTo' hn).symm
  simp only [usersTo, List.range_succ, List.filter_append, List.filter_cons, List.filter_nil, h2]
  by_cases h : i ∈ needTo p[k].frm <;> simp [h]
theorem mem_usersTo {p : List Nd} {k i j : Nat} : j ∈ usersTo p k i ↔ j < k ∧ (i : Int) ∈ (p.getD j default).frm := by simp [usersTo]

end Go.Proofs.Ytafljegjdanldaa

/- Plain laws: until when a row is needed, how many are kept, places. -/
namespace Go.Proofs.Ytafljegjdanldaa

/-- A number written at several places. -/
def setAll (ys : List Int) (a : Int) (l : List Int) : List Int := l.foldl (fun y f => y.set f.toNat a) ys
theorem setAll_len (a : Int) : ∀ (l ys : List Int), (setAll ys a l).length = ys.length
  | [], _ => rfl
  | f :: l, ys => by simp only [setAll, List.foldl_cons]; exact (setAll_len a l (ys.set f.toNat a)).trans (by simp)
theorem setAll_snoc (ys : List Int) (a : Int) (l : List Int) (f : Int) : setAll ys a (l ++ [f]) = (setAll ys a l).set f.toNat a := by simp [setAll]
theorem setAll_get (a : Int) : ∀ (l ys : List Int) (i : Nat), (∀ f ∈ l, 0 ≤ f) → (setAll ys a l)[i]? = if (i : Int) ∈ l ∧ i < ys.length then some a else ys[i]?
  | [], ys, i, _ => by simp [setAll]
  | f :: l, ys, i, h => by
    simp only [List.mem_cons, forall_eq_or_imp] at h
    have := setAll_get a l (ys.set f.toNat a) i h.2
    simp only [setAll, List.foldl_cons] at this ⊢
    rw [this, List.length_set, List.getElem?_set]
    by_cases h3 : (i : Int) = f
    · have h4 : f.toNat = i := by omega
      rw [if_pos h4, h4]
      by_cases h2 : i < ys.length
      · simp [h2, h3]
      · have : ys[i]? = none := List.getElem?_eq_none (by omega)
        simp [h2]
    · have h4 : f.toNat ≠ i := by omega
      simp [h3, h4]

/-- For each node the last one that needs it, or itself, after some nodes. -/
def endsTo (p : List Nd) : Nat → List Int
  | 0 => []
  | k + 1 => setAll (endsTo p k ++ [(k : Int)]) k (p.getD k default).frm
theorem endsTo_len (p : List Nd) : ∀ k, (endsTo p k).length = k
  | 0 => rfl
  | k + 1 => by simp [endsTo, setAll_len, endsTo_len p k]

/-- How many of the first nodes are still needed at one. -/
def live (E : List Int) (i : Nat) : Nat → Int
  | 0 => 0
  | j + 1 => live E i j + (if (i : Int) ≤ E.getD j 0 then 1 else 0)
theorem live_rg (E : List Int) (i : Nat) : ∀ j : Nat, 0 ≤ live E i j ∧ live E i j ≤ j
  | 0 => by simp [live]
  | j + 1 => by
    have := live_rg E i j
    simp only [live]
    split <;> omega
/-- How many rows are kept at once at most. -/
def rowsTo (E : List Int) : Nat → Int
  | 0 => 0
  | i + 1 => max (rowsTo E i) (1 + live E i i)
theorem rowsTo_rg (E : List Int) : ∀ i : Nat, 0 ≤ rowsTo E i ∧ rowsTo E i ≤ i
  | 0 => by simp [rowsTo]
  | i + 1 => by
    have := rowsTo_rg E i
    have := live_rg E i i
    simp only [rowsTo]
    omega

/-- Two nodes may not have one place. -/
def clash (E pl : List Int) (i k : Nat) : Prop := (i : Int) ≤ E.getD k 0 ∧ pl.getD k 0 = pl.getD i 0
instance (E pl : List Int) (i k : Nat) : Decidable (clash E pl i k) := by unfold clash; infer_instance
def placeOk (E pl : List Int) (i : Nat) : Prop := 0 ≤ pl.getD i 0 ∧ ∀ k, k < i → ¬ clash E pl i k
instance (E pl : List Int) (i : Nat) : Decidable (placeOk E pl i) := by unfold placeOk; infer_instance
def fitsPl (p : List Nd) (pl : List Int) : Bool := planOk p && decide (pl.length = p.length ∧ ∀ i, i < p.length → placeOk (endsTo p p.length) pl i)
theorem fitsPl_bad {p : List Nd} {pl : List Int} {i : Nat} (hi : i < p.length) (h : ¬ placeOk (endsTo p p.length) pl i) : fitsPl p pl = false := by
  unfold fitsPl
  rw [decide_eq_false (fun h2 => h (h2.2 i hi)), Bool.and_false]
theorem getD_elem {l : List Int} {i : Nat} (h : i < l.length) : l.getD i 0 = l[i] := by simp [List.getD_eq_getElem?_getD, List.getElem?_eq_getElem h]
end Go.Proofs.Ytafljegjdanldaa

/- Plain laws: until when rows are needed and who needs them; the first nodes alone. -/
namespace Go.Proofs.Ytafljegjdanldaa

theorem getD_default_of {p : List Nd} {i : Nat} (h : p.length ≤ i) : p.getD i default = default := by simp [List.getD_eq_getElem?_getD, List.getElem?_eq_none h]
theorem frm_pos {p : List Nd} (hv : planOk p = true) {k : Nat} (hk : k < p.length) : ∀ f ∈ (p.getD k default).frm, 0 ≤ f ∧ f < (k : Int) := by
  rw [getD_of hk]; exact (PlanOk.node hv hk).frm
theorem usersTo_gt {p : List Nd} (hv : planOk p = true) {k i j : Nat} (hk : k ≤ p.length) (h : j ∈ usersTo p k i) : i < j := by
  obtain ⟨h1, h2⟩ := mem_usersTo.1 h
  have := (frm_pos hv (show j < p.length by omega) _ h2).2
  omega
/-- The last one, or another one if there is none. -/
def lastOr (l : List Nat) (d : Nat) : Nat := l.getLast?.getD d
theorem lastOr_snoc (l : List Nat) (a d : Nat) : lastOr (l ++ [a]) d = a := by simp [lastOr]
theorem lastOr_nil (d : Nat) : lastOr [] d = d := rfl
theorem lastOr_mem {l : List Nat} (d : Nat) (h : l ≠ []) : lastOr l d ∈ l := by
  unfold lastOr
  rw [List.getLast?_eq_some_getLast h]
  exact List.getLast_mem h
theorem usersTo_succ' (p : List Nd) (k i : Nat) : usersTo p (k + 1) i = usersTo p k i ++ (if (i : Int) ∈ (p.getD k default).frm then [k] else []) := by
  simp only [usersTo, List.range_succ, List.filter_append, List.filter_cons, List.filter_nil]
  by_cases (i : Int) ∈ (p.getD k default).frm <;> simp

theorem endsTo_get {p : List Nd} (hv : planOk p = true) : ∀ {k : Nat}, k ≤ p.length → ∀ {i : Nat}, i < k → (endsTo p k)[i]? = some ((lastOr (usersTo p k i) i : Nat) : Int)
  | k + 1, hk, i, hi => by
    have hf : ∀ f ∈ (p.getD k default).frm, 0 ≤ f := fun f h => (frm_pos hv (by omega) f h).1
    have hel := endsTo_len p k
    rw [endsTo, setAll_get _ _ _ _ hf, usersTo_succ']
    by_cases hm : (i : Int) ∈ (p.getD k default).frm
    · rw [if_pos ⟨hm, by simp [hel]; omega⟩, if_pos hm, lastOr_snoc]
    · rw [if_neg (fun h => hm h.1), if_neg hm, List.append_nil]
      rcases Nat.lt_or_ge i k with h1 | h1
      · rw [List.getElem?_append_left (by omega)]
        exact endsTo_get hv (by omega) h1
      · obtain rfl : i = k := by omega
        rw [List.getElem?_append_right (by omega), hel]
        have : usersTo p i i = [] := by
          apply List.eq_nil_iff_forall_not_mem.2
          intro j hj
          have h2 := usersTo_gt hv (by omega) hj
          have h3 := (mem_usersTo.1 hj).1
          omega
        rw [this, lastOr_nil]
        simp
theorem endsTo_getD {p : List Nd} (hv : planOk p = true) {k i : Nat} (hk : k ≤ p.length) (hi : i < k) : (endsTo p k).getD i 0 = ((lastOr (usersTo p k i) i : Nat) : Int) := by
  rw [List.getD_eq_getElem?_getD, endsTo_get hv hk hi]; rfl
theorem lastOr_rg {p : List Nd} (hv : planOk p = true) {k i : Nat} (hk : k ≤ p.length) (hi : i < k) : i ≤ lastOr (usersTo p k i) i ∧ lastOr (usersTo p k i) i < k ∧ (lastOr (usersTo p k i) i = i ↔ usersTo p k i = []) := by
  by_cases h0 : usersTo p k i = []
  · rw [h0, lastOr_nil]; exact ⟨by omega, hi, by simp⟩
  · have h1 := lastOr_mem i h0
    have h2 := usersTo_gt hv hk h1
    have h3 := (mem_usersTo.1 h1).1
    exact ⟨by omega, h3, ⟨fun h => by omega, fun h => absurd h h0⟩⟩
theorem endsTo_mono {p : List Nd} (hv : planOk p = true) {k i : Nat} (hk : k + 1 ≤ p.length) (hi : i < k) : (endsTo p k).getD i 0 ≤ (endsTo p (k + 1)).getD i 0 := by
  rw [endsTo_getD hv (by omega) hi, endsTo_getD hv hk (by omega), usersTo_succ']
  have := lastOr_rg hv (show k ≤ p.length by omega) hi
  split
  · rw [lastOr_snoc]; omega
  · rw [List.append_nil]; omega
theorem endsTo_mono' {p : List Nd} (hv : planOk p = true) {k i : Nat} (hi : i < k) : ∀ m, k + m ≤ p.length → (endsTo p k).getD i 0 ≤ (endsTo p (k + m)).getD i 0
  | 0, _ => by simp
  | m + 1, h => by
    have h1 := endsTo_mono' hv hi m (by omega)
    have h2 := endsTo_mono hv (k := k + m) (i := i) (by omega) (by omega)
    rw [show k + (m + 1) = k + m + 1 by omega]
    omega

/-! the first nodes -/
theorem getD_takeN {p : List Nd} {k i : Nat} (h : i < k) : (p.take k).getD i default = p.getD i default := by
  simp [List.getD_eq_getElem?_getD, h]
theorem endsTo_take (p : List Nd) (k : Nat) : ∀ j, j ≤ k → endsTo (p.take k) j = endsTo p j
  | 0, _ => rfl
  | j + 1, h => by rw [endsTo, endsTo, endsTo_take p k j (by omega), getD_takeN (by omega)]
theorem wideOf_take : ∀ (p : List Nd) (k : Nat) (x : Nd), x ∈ p.take k → x.kind = 0 → wideOf (p.take k) = wideOf p
  | [], k, x, h, _ => by simp at h
  | y :: p, 0, x, h, _ => by simp at h
  | y :: p, k + 1, x, h, h0 => by
    simp only [List.take_succ_cons, wideOf]
    by_cases hy : y.kind = 0
    · rw [if_pos hy, if_pos hy]
    · rw [if_neg hy, if_neg hy]
      rw [List.take_succ_cons] at h
      rcases List.mem_cons.1 h with rfl | h
      · exact absurd h0 hy
      · exact wideOf_take p k x h h0
theorem nodeOk_congr {x : Nd} {i a b : Nat} (h : x.kind = 0 → a = b) : nodeOk x i a = nodeOk x i b := by
  unfold nodeOk
  by_cases h0 : x.kind = 0
  · rw [h h0]
  · simp only [if_neg h0]
theorem planOk_take {p : List Nd} (hv : planOk p = true) (k : Nat) : planOk (p.take k) = true := by
  refine (planOk_iff _).2 ⟨by have := PlanOk.len hv; rw [List.length_take]; omega, fun i h => ?_⟩
  have h1 : i < p.length := by rw [List.length_take] at h; omega
  have := ((planOk_iff p).1 hv).2 i h1
  rw [List.getElem_take]
  rw [nodeOk_congr (b := wideOf p) (fun h0 => wideOf_take p k p[i] (by rw [← List.getElem_take (h := h)]; exact List.getElem_mem h) h0)]
  exact this
theorem live_mono {E E' : List Int} {i : Nat} : ∀ j : Nat, (∀ a, a < j → (i : Int) ≤ E.getD a 0 → (i : Int) ≤ E'.getD a 0) → live E i j ≤ live E' i j
  | 0, _ => by simp [live]
  | j + 1, h => by
    have h1 := live_mono j fun a ha => h a (by omega)
    have h2 := h j (by omega)
    simp only [live]
    by_cases h3 : (i : Int) ≤ E.getD j 0
    · rw [if_pos h3, if_pos (h2 h3)]; omega
    · rw [if_neg h3]; split <;> omega
theorem rowsTo_mono {E E' : List Int} : ∀ i : Nat, (∀ b, b < i → ∀ a, a < b → (b : Int) ≤ E.getD a 0 → (b : Int) ≤ E'.getD a 0) → rowsTo E i ≤ rowsTo E' i
  | 0, _ => by simp [rowsTo]
  | i + 1, h => by
    have h1 := rowsTo_mono i fun b hb => h b (by omega)
    have h2 := live_mono (E := E) (E' := E') (i := i) i (h i (by omega))
    simp only [rowsTo]
    omega
theorem rowsTo_le (E : List Int) (i : Nat) : ∀ m, rowsTo E i ≤ rowsTo E (i + m)
  | 0 => by simp
  | m + 1 => by
    have := rowsTo_le E i m
    rw [show i + (m + 1) = i + m + 1 by omega, rowsTo]
    omega
/-- The first nodes need no more places. -/
theorem rowsTo_take {p : List Nd} (hv : planOk p = true) {k : Nat} (hk : k ≤ p.length) : rowsTo (endsTo (p.take k) k) k ≤ rowsTo (endsTo p p.length) p.length := by
  rw [endsTo_take p k k (by omega)]
  have h1 := rowsTo_mono (E := endsTo p k) (E' := endsTo p p.length) k fun b hb a ha h => by
    have := endsTo_mono' hv (k := k) (i := a) (by omega) (p.length - k) (by omega)
    rw [show k + (p.length - k) = p.length by omega] at this
    omega
  have h2 := rowsTo_le (endsTo p p.length) k (p.length - k)
  rw [show k + (p.length - k) = p.length by omega] at h2
  omega
end Go.Proofs.Ytafljegjdanldaa

/- Plain laws: a path costs at most all, at least each node, and is as long as there are levels; what workers need at least. -/
namespace Go.Proofs.Ytafljegjdanldaa

theorem mostOf_le {l : List Int} {b : Int} (hb : 0 ≤ b) (h : ∀ a ∈ l, a ≤ b) : mostOf l ≤ b := foldl_max_le (fun a => a) b l 0 hb h
theorem le_mostOf {l : List Int} {a : Int} (h : a ∈ l) : a ≤ mostOf l := (le_foldl_max (fun a => a) l 0).2 a h
theorem mostOf_nonneg (l : List Int) : 0 ≤ mostOf l := (le_foldl_max (fun a => a) l 0).1
theorem mostOf_eq (l : List Int) : mostOf l = 0 ∨ mostOf l ∈ l := by
  rcases foldl_max_eq (fun a : Int => a) l 0 with h | ⟨a, ha, h⟩
  · exact .inl h
  · exact .inr (by unfold mostOf; rw [h]; exact ha)
theorem pathsTo_len (p : List Nd) (k : Nat) : (pathsTo p k).length = k := progTo_len _ _ _
theorem levelsTo_len (p : List Nd) (k : Nat) : (levelsTo p k).length = k := progTo_len _ _ _

theorem pathsTo_le_sum (p : List Nd) : ∀ k, ∀ a ∈ pathsTo p k, a ≤ sumTo p k
  | 0 => by simp [pathsTo, progTo]
  | k + 1 => by
    intro a ha
    have h1 := kindCost_rg (p.getD k default).kind
    have h0 := sumTo_rg p k
    simp only [pathsTo, progTo, List.mem_append, List.mem_singleton] at ha
    simp only [sumTo]
    rcases ha with ha | rfl
    · have := pathsTo_le_sum p k a ha; omega
    · have h3 : upOf 0 (pathsTo p k) (p.getD k default).frm ≤ sumTo p k := upOf_le (by omega) fun f _ => by
        rcases getD_mem_or (pathsTo p k) f.toNat with h | h
        · rw [h]; omega
        · have := pathsTo_le_sum p k _ h; omega
      simp only [pathsTo] at h3
      omega
theorem path_le_all (p : List Nd) : mostOf (pathsTo p p.length) ≤ sumTo p p.length := mostOf_le (by have := sumTo_rg p p.length; omega) (pathsTo_le_sum p _)
theorem pathsTo_getD {p : List Nd} {i k : Nat} (h : i < k) : (pathsTo p k).getD i 0 = upOf 0 (pathsTo p i) (p.getD i default).frm + kindCost (p.getD i default).kind := progTo_getD h
theorem levelsTo_getD {p : List Nd} {i k : Nat} (h : i < k) : (levelsTo p k).getD i 0 = upOf 1 (levelsTo p i) (p.getD i default).frm := progTo_getD h
theorem getD_mem {l : List Int} {i : Nat} (h : i < l.length) : l.getD i 0 ∈ l := by rw [getD_elem h]; exact List.getElem_mem h
theorem cost_le_path {p : List Nd} {i : Nat} (h : i < p.length) : kindCost p[i].kind ≤ mostOf (pathsTo p p.length) := by
  have h1 := pathsTo_getD (p := p) h
  have h2 := upOf_nonneg 0 (pathsTo p i) (p.getD i default).frm
  have h3 := le_mostOf (getD_mem (l := pathsTo p p.length) (i := i) (by rw [pathsTo_len]; exact h))
  rw [getD_of h] at h1 h2
  omega
/-- A level is less than the path to it. -/
theorem level_lt_path {p : List Nd} (hv : planOk p = true) : ∀ i, i < p.length → (levelsTo p p.length).getD i 0 + 1 ≤ (pathsTo p p.length).getD i 0 := by
  intro i
  induction i using Nat.strongRecOn with
  | _ i ih =>
    intro hi
    rw [levelsTo_getD hi, pathsTo_getD hi]
    have hc := kindCost_rg (p.getD i default).kind
    have hn := upOf_nonneg 0 (pathsTo p i) (p.getD i default).frm
    have : upOf 1 (levelsTo p i) (p.getD i default).frm ≤ upOf 0 (pathsTo p i) (p.getD i default).frm := upOf_le hn fun f hf => by
      have h1 := frm_pos hv hi f hf
      have h2 := le_upOf (c := 0) (ps := pathsTo p i) hf
      have h3 := ih f.toNat (by omega) (by omega)
      have h4 : (levelsTo p i).getD f.toNat 0 = (levelsTo p p.length).getD f.toNat 0 := progTo_same (by omega) (by omega)
      have h5 : (pathsTo p i).getD f.toNat 0 = (pathsTo p p.length).getD f.toNat 0 := progTo_same (by omega) (by omega)
      omega
    omega
/-- How many levels there are. -/
def levCount (p : List Nd) : Int := mostOf ((levelsTo p p.length).map (· + 1))
theorem levCount_le_path {p : List Nd} (hv : planOk p = true) : levCount p ≤ mostOf (pathsTo p p.length) := by
  refine mostOf_le (mostOf_nonneg _) fun a ha => ?_
  obtain ⟨b, hb, rfl⟩ := List.mem_map.1 ha
  obtain ⟨i, hi, rfl⟩ := List.mem_iff_getElem.1 hb
  rw [levelsTo_len] at hi
  have h1 := level_lt_path hv i hi
  have h2 := le_mostOf (getD_mem (l := pathsTo p p.length) (i := i) (by rw [pathsTo_len]; exact hi))
  rw [getD_elem (by rw [levelsTo_len]; exact hi)] at h1
  omega

/-- What workers need at least. -/
def leastOf (p : List Nd) (m : Int) : Int := max (mostOf (pathsTo p p.length)) ((sumTo p p.length + m - 1) / m)
def costLeast (p : List Nd) (m : Int) : Int := if planOk p = true ∧ 1 ≤ m ∧ m ≤ 4 then leastOf p m else -1
theorem leastOf_rg (p : List Nd) {m : Int} (h1 : 1 ≤ m) (h4 : m ≤ 4) : 0 ≤ leastOf p m ∧ leastOf p m ≤ 4 * p.length ∧ mostOf (pathsTo p p.length) ≤ leastOf p m ∧ sumTo p p.length ≤ leastOf p m * m ∧ (leastOf p m = mostOf (pathsTo p p.length) ∨ (leastOf p m - 1) * m < sumTo p p.length) := by
  have ha := sumTo_rg p p.length
  have hb := path_le_all p
  have hc := mostOf_nonneg (pathsTo p p.length)
  unfold leastOf
  have hm : m = 1 ∨ m = 2 ∨ m = 3 ∨ m = 4 := by omega
  rcases hm with rfl | rfl | rfl | rfl <;> omega
theorem leastOf_one (p : List Nd) : leastOf p 1 = sumTo p p.length := by
  have hb := path_le_all p
  unfold leastOf
  omega
theorem leastOf_more (p : List Nd) {m : Int} (h1 : 1 ≤ m) (h4 : m ≤ 3) : leastOf p (m + 1) ≤ leastOf p m := by
  have ha := sumTo_rg p p.length
  unfold leastOf
  have hm : m = 1 ∨ m = 2 ∨ m = 3 := by omega
  rcases hm with rfl | rfl | rfl <;> omega
end Go.Proofs.Ytafljegjdanldaa

/- Plain laws: places: each node gets the least one that is not held. -/
namespace Go.Proofs.Ytafljegjdanldaa

/-- The least number that is not in a list. -/
def IsLeast (l : List Int) (n : Nat) : Prop := (n : Int) ∉ l ∧ ∀ m, m < n → (m : Int) ∈ l
theorem IsLeast.uniq {l : List Int} {n m : Nat} (hn : IsLeast l n) (hm : IsLeast l m) : n = m := by
  rcases Nat.lt_trichotomy n m with h | h | h
  · exact absurd (hm.2 n h) hn.1
  · exact h
  · exact absurd (hn.2 m h) hm.1
theorem leFree_len {l : List Int} {n : Nat} (h : ∀ m, m < n → (m : Int) ∈ l) : n ≤ l.length := by
  have h1 : ((List.range n).map fun (m : Nat) => (m : Int)).Nodup := by
    rw [List.nodup_iff_pairwise_ne, List.pairwise_map]
    exact (List.nodup_iff_pairwise_ne.1 List.nodup_range).imp fun h he => h (by omega)
  have h2 := h1.length_le_of_subset (l₂ := l) fun a ha => by
    obtain ⟨m, hm, rfl⟩ := List.mem_map.1 ha
    exact h m (List.mem_range.1 hm)
  simpa using h2
/-- It is reckoned by going up. -/
def leastFree (l : List Int) : Nat := ((List.range (l.length + 1)).find? fun (n : Nat) => decide ((n : Int) ∉ l)).getD 0
theorem leastFree_spec (l : List Int) : IsLeast l (leastFree l) := by
  unfold leastFree
  cases h : (List.range (l.length + 1)).find? fun (n : Nat) => decide ((n : Int) ∉ l) with
  | none =>
    have := List.find?_eq_none.1 h
    have h2 := leFree_len (l := l) (n := l.length + 1) fun m hm => by simpa using this m (List.mem_range.2 hm)
    omega
  | some n =>
    rw [List.find?_range_eq_some] at h
    obtain ⟨h1, h2, h3⟩ := h
    refine ⟨by simpa using h1, fun m hm => by simpa using h3 m hm⟩
theorem leastFree_le (l : List Int) : leastFree l ≤ l.length := leFree_len (leastFree_spec l).2

/-- The places held at a node by the first nodes. -/
def takenTo (E out : List Int) (i : Nat) : Nat → List Int
  | 0 => []
  | j + 1 => takenTo E out i j ++ (if (i : Int) ≤ E.getD j 0 then [out.getD j 0] else [])
theorem mem_takenTo {E out : List Int} {i : Nat} {a : Int} : ∀ {j : Nat}, a ∈ takenTo E out i j ↔ ∃ k, k < j ∧ (i : Int) ≤ E.getD k 0 ∧ out.getD k 0 = a
  | 0 => by simp [takenTo]
  | j + 1 => by
    rw [takenTo, List.mem_append, mem_takenTo]
    constructor
    · rintro (⟨k, h1, h2, h3⟩ | h)
      · exact ⟨k, by omega, h2, h3⟩
      · split at h
        · rename_i h2
          exact ⟨j, by omega, h2, (List.mem_singleton.1 h).symm⟩
        · simp at h
    · rintro ⟨k, h1, h2, h3⟩
      rcases Nat.lt_or_ge k j with h4 | h4
      · exact .inl ⟨k, h4, h2, h3⟩
      · obtain rfl : k = j := by omega
        rw [if_pos h2, h3]
        exact .inr (List.mem_singleton.2 rfl)
theorem takenTo_len (E out : List Int) (i : Nat) : ∀ j, ((takenTo E out i j).length : Int) = live E i j
  | 0 => by simp [takenTo, live]
  | j + 1 => by
    rw [takenTo, List.length_append, live, ← takenTo_len E out i j]
    split <;> simp
/-- The places of the first nodes. -/
def giveTo (E : List Int) : Nat → List Int
  | 0 => []
  | k + 1 => giveTo E k ++ [((leastFree (takenTo E (giveTo E k) k k) : Nat) : Int)]
theorem giveTo_len (E : List Int) : ∀ k, (giveTo E k).length = k
  | 0 => rfl
  | k + 1 => by simp [giveTo, giveTo_len E k]
theorem giveTo_get {E : List Int} {i : Nat} : ∀ {k : Nat}, i < k → (giveTo E k).getD i 0 = ((leastFree (takenTo E (giveTo E i) i i) : Nat) : Int)
  | k + 1, h => by
    rw [giveTo, List.getD_eq_getElem?_getD]
    rcases Nat.lt_or_ge i k with h1 | h1
    · rw [List.getElem?_append_left (by rw [giveTo_len]; exact h1), ← List.getD_eq_getElem?_getD]
      exact giveTo_get h1
    · obtain rfl : i = k := by omega
      rw [List.getElem?_append_right (by rw [giveTo_len]; omega), giveTo_len]
      simp
theorem giveTo_same {E : List Int} {i k j : Nat} (h : i < k) (h2 : i < j) : (giveTo E k).getD i 0 = (giveTo E j).getD i 0 := by rw [giveTo_get h, giveTo_get h2]
/-- Whose row is still needed has another place. -/
theorem giveTo_apart {E : List Int} {j i k : Nat} (hji : j < i) (hik : i < k) (hE : (i : Int) ≤ E.getD j 0) : (giveTo E k).getD j 0 ≠ (giveTo E k).getD i 0 := by
  intro he
  have h1 := (leastFree_spec (takenTo E (giveTo E i) i i)).1
  rw [← giveTo_get hik] at h1
  exact h1 (mem_takenTo.2 ⟨j, hji, hE, by rw [giveTo_same hji (show j < k by omega)]; exact he⟩)
theorem giveTo_nonneg {E : List Int} {i k : Nat} (h : i < k) : 0 ≤ (giveTo E k).getD i 0 := by rw [giveTo_get h]; omega
theorem giveTo_le {E : List Int} {i k : Nat} (h : i < k) : (giveTo E k).getD i 0 ≤ live E i i := by
  rw [giveTo_get h, ← takenTo_len E (giveTo E i) i i]
  have := leastFree_le (takenTo E (giveTo E i) i i)
  omega
theorem takenTo_nodup {E : List Int} {i : Nat} : ∀ j, j ≤ i → (takenTo E (giveTo E i) i j).Nodup
  | 0, _ => by simp [takenTo]
  | j + 1, h => by
    rw [takenTo]
    split
    · rename_i hE
      rw [List.nodup_append]
      refine ⟨takenTo_nodup j (by omega), by simp, fun a ha b hb => ?_⟩
      rw [List.mem_singleton] at hb
      subst hb
      obtain ⟨k, h1, h2, rfl⟩ := mem_takenTo.1 ha
      exact giveTo_apart h1 (by omega) (by omega)
    · simpa using takenTo_nodup j (by omega)

theorem rowsTo_arg (E : List Int) : ∀ n : Nat, rowsTo E n = 0 ∨ ∃ i, i < n ∧ rowsTo E n = 1 + live E i i
  | 0 => .inl rfl
  | n + 1 => by
    rw [rowsTo]
    rcases Int.le_total (rowsTo E n) (1 + live E n n) with h | h
    · exact .inr ⟨n, by omega, by omega⟩
    · rcases rowsTo_arg E n with h1 | ⟨i, h1, h2⟩
      · have := live_rg E n n; omega
      · exact .inr ⟨i, by omega, by omega⟩
theorem le_rowsTo {E : List Int} {i : Nat} : ∀ {n : Nat}, i < n → 1 + live E i i ≤ rowsTo E n
  | n + 1, h => by
    rw [rowsTo]
    rcases Nat.lt_or_ge i n with h1 | h1
    · have := le_rowsTo (E := E) h1; omega
    · obtain rfl : i = n := by omega
      omega
/-- As many places are used as must be. -/
theorem give_most (E : List Int) {n : Nat} (hn : 0 < n) (m : Int) (hm : m = 0 ∨ m ∈ giveTo E n) (hle : ∀ a ∈ giveTo E n, a ≤ m) : m + 1 = rowsTo E n := by
  have hup : m + 1 ≤ rowsTo E n := by
    rcases hm with rfl | hm
    · have := le_rowsTo (E := E) hn; have := live_rg E 0 0; omega
    · obtain ⟨i, hi, rfl⟩ := List.mem_iff_getElem.1 hm
      rw [giveTo_len] at hi
      have h1 := giveTo_le (E := E) hi
      rw [List.getD_eq_getElem?_getD, List.getElem?_eq_getElem (by rw [giveTo_len]; exact hi)] at h1
      have h2 := le_rowsTo (E := E) hi
      simp only [Option.getD_some] at h1
      omega
  rcases rowsTo_arg E n with h0 | ⟨i, hi, hr⟩
  · have h1 := le_rowsTo (E := E) hn; have := live_rg E 0 0; omega
  · have hnd := takenTo_nodup (E := E) (i := i) i (Nat.le_refl _)
    have hl := takenTo_len E (giveTo E i) i i
    have h0 := (leastFree_spec (takenTo E (giveTo E i) i i)).1
    have hmem : ∀ k, k < n → (giveTo E n).getD k 0 ∈ giveTo E n := fun k hk => by
      rw [List.getD_eq_getElem?_getD, List.getElem?_eq_getElem (by rw [giveTo_len]; exact hk)]
      exact List.getElem_mem _
    have hall : ∀ a ∈ ((leastFree (takenTo E (giveTo E i) i i) : Nat) : Int) :: takenTo E (giveTo E i) i i, 0 ≤ a ∧ a ≤ m := by
      intro a ha
      rcases List.mem_cons.1 ha with rfl | ha
      · rw [← giveTo_get hi]
        exact ⟨giveTo_nonneg hi, hle _ (hmem i hi)⟩
      · obtain ⟨k, h1, h2, rfl⟩ := mem_takenTo.1 ha
        rw [giveTo_same h1 (show k < n by omega)]
        exact ⟨giveTo_nonneg (by omega), hle _ (hmem k (by omega))⟩
    have hnd2 : (((leastFree (takenTo E (giveTo E i) i i) : Nat) : Int) :: takenTo E (giveTo E i) i i).Nodup := List.nodup_cons.2 ⟨h0, hnd⟩
    have hm0 : 0 ≤ m := by have := hall _ (List.mem_cons_self ..); omega
    have := hnd2.length_le_of_subset (l₂ := (List.range (m.toNat + 1)).map fun (m : Nat) => (m : Int)) fun a ha => by
      have := hall a ha
      exact List.mem_map.2 ⟨a.toNat, List.mem_range.2 (by omega), by omega⟩
    simp at this
    omega

/-- Places of a plan. -/
def giveOf (p : List Nd) : List Int := if planOk p = true then giveTo (endsTo p p.length) p.length else []
theorem give_fits {p : List Nd} (hv : planOk p = true) : fitsPl p (giveOf p) = true := by
  unfold fitsPl giveOf
  rw [hv, if_pos rfl, Bool.true_and, decide_eq_true_eq]
  refine ⟨giveTo_len _ _, fun i hi => ⟨giveTo_nonneg hi, fun k hk hc => ?_⟩⟩
  exact giveTo_apart hk hi hc.1 hc.2
theorem all_fits {p : List Nd} (hv : planOk p = true) : fitsPl p ((List.range p.length).map fun (i : Nat) => (i : Int)) = true := by
  have hg : ∀ i, i < p.length → (((List.range p.length).map fun (i : Nat) => (i : Int))).getD i 0 = (i : Int) := fun i hi => by
    rw [List.getD_eq_getElem?_getD, List.getElem?_map, List.getElem?_range hi]; rfl
  unfold fitsPl
  rw [hv, Bool.true_and, decide_eq_true_eq]
  refine ⟨by simp, fun i hi => ⟨by rw [hg i hi]; omega, fun k hk hc => ?_⟩⟩
  have := hc.2
  rw [hg i hi, hg k (by omega)] at this
  omega

/-! a list of free places, and how many there are -/

/-- What is free: those made that are not held (at a later time than the bound says). -/
def Held (E out : List Int) (i : Nat) (b : Int) (j : Nat) (n : Nat) : Prop := ∃ k, k < i ∧ out.getD k 0 = (n : Int) ∧ (b + 1 ≤ E.getD k 0 ∨ (E.getD k 0 = b ∧ j ≤ k))
structure FreeAt (E out : List Int) (i : Nat) (b : Int) (j : Nat) (m : Nat) (ps : List Nat) : Prop where
  mem : ∀ n, n ∈ ps ↔ n < m ∧ ¬ Held E out i b j n
  asc : ps.Pairwise (· < ·)
  lt : ∀ k, k < i → out.getD k 0 < (m : Int)
theorem FreeAt.zero (E : List Int) : FreeAt E [] 0 (-1) 0 0 [] := ⟨fun n => by simp, by simp, by simp⟩
/-- A place that nobody holds any more is put in order. -/
def insAsc (a : Nat) (ps : List Nat) : List Nat := ps.takeWhile (fun x => decide (x < a)) ++ a :: ps.dropWhile (fun x => decide (x < a))
theorem mem_insAsc {a b : Nat} {ps : List Nat} : b ∈ insAsc a ps ↔ b = a ∨ b ∈ ps := by
  unfold insAsc
  have h : ps.takeWhile (fun x => decide (x < a)) ++ ps.dropWhile (fun x => decide (x < a)) = ps := List.takeWhile_append_dropWhile
  constructor
  · intro hb
    rcases List.mem_append.1 hb with hb | hb
    · exact .inr (by rw [← h]; exact List.mem_append_left _ hb)
    · rcases List.mem_cons.1 hb with rfl | hb
      · exact .inl rfl
      · exact .inr (by rw [← h]; exact List.mem_append_right _ hb)
  · rintro (rfl | hb)
    · simp
    · rw [← h] at hb
      rcases List.mem_append.1 hb with hb | hb
      · exact List.mem_append_left _ hb
      · exact List.mem_append_right _ (List.mem_cons_of_mem _ hb)
theorem insAsc_asc {a : Nat} : ∀ {ps : List Nat}, ps.Pairwise (· < ·) → a ∉ ps → (insAsc a ps).Pairwise (· < ·)
  | [], _, _ => by simp [insAsc]
  | x :: ps, h, ha => by
    simp only [List.mem_cons, not_or] at ha
    rw [List.pairwise_cons] at h
    by_cases hx : x < a
    · have : insAsc a (x :: ps) = x :: insAsc a ps := by simp [insAsc, hx]
      rw [this, List.pairwise_cons]
      refine ⟨fun b hb => ?_, insAsc_asc h.2 ha.2⟩
      rcases mem_insAsc.1 hb with rfl | hb
      · exact hx
      · exact h.1 b hb
    · have : insAsc a (x :: ps) = a :: x :: ps := by simp [insAsc, hx]
      rw [this, List.pairwise_cons]
      refine ⟨fun b hb => ?_, List.pairwise_cons.2 h⟩
      rcases List.mem_cons.1 hb with rfl | hb
      · omega
      · have := h.1 b hb; omega
theorem insAsc_len (a : Nat) (ps : List Nat) : (insAsc a ps).length = ps.length + 1 := by
  unfold insAsc
  have h : (ps.takeWhile (fun x => decide (x < a)) ++ ps.dropWhile (fun x => decide (x < a))).length = ps.length := by rw [List.takeWhile_append_dropWhile]
  simp only [List.length_append, List.length_cons] at h ⊢
  omega

/-- Places held by two are the same one's. -/
theorem held_inj {E : List Int} {i : Nat} {b : Int} (hb : (i : Int) ≤ b + 1) {k l : Nat} (hk : k < i) (hl : l < i) (h1 : b ≤ E.getD k 0) (h2 : b ≤ E.getD l 0) (he : (giveTo E i).getD k 0 = (giveTo E i).getD l 0) : k = l := by
  rcases Nat.lt_trichotomy k l with h | h | h
  · exact absurd he (giveTo_apart h hl (by omega))
  · exact h
  · exact absurd he.symm (giveTo_apart h hk (by omega))
/-- One step of giving back. -/
theorem FreeAt.give {E : List Int} {i : Nat} {b : Int} {j m : Nat} {ps : List Nat} {n : Nat} (hF : FreeAt E (giveTo E i) i b j m ps) (hb : (i : Int) ≤ b + 1) (hj : j < i) (hE : E.getD j 0 = b) (hn : (giveTo E i).getD j 0 = (n : Int)) :
    FreeAt E (giveTo E i) i b (j + 1) m (insAsc n ps) := by
  have hnh : Held E (giveTo E i) i b j n := ⟨j, hj, hn, .inr ⟨hE, Nat.le_refl _⟩⟩
  have hnot : n ∉ ps := fun h => ((hF.mem n).1 h).2 hnh
  have hnm : n < m := by have := hF.lt j hj; omega
  refine ⟨fun a => ?_, insAsc_asc hF.asc hnot, hF.lt⟩
  rw [mem_insAsc, hF.mem]
  constructor
  · rintro (rfl | ⟨h1, h2⟩)
    · refine ⟨hnm, fun ⟨k, h1, h2, h3⟩ => ?_⟩
      have hkj := held_inj hb h1 hj (by omega) (by omega) (h2.trans hn.symm)
      subst hkj
      omega
    · refine ⟨h1, fun ⟨k, g1, g2, g3⟩ => h2 ⟨k, g1, g2, by omega⟩⟩
  · rintro ⟨h1, h2⟩
    by_cases han : a = n
    · exact .inl han
    · refine .inr ⟨h1, fun ⟨k, g1, g2, g3⟩ => h2 ⟨k, g1, g2, ?_⟩⟩
      rcases g3 with g3 | ⟨g3, g4⟩
      · exact .inl g3
      · refine .inr ⟨g3, ?_⟩
        rcases Nat.lt_or_ge j k with h5 | h5
        · exact h5
        · obtain rfl : k = j := by omega
          omega
theorem FreeAt.skip {E out : List Int} {i : Nat} {b : Int} {j m : Nat} {ps : List Nat} (hF : FreeAt E out i b j m ps) (hE : E.getD j 0 ≠ b) : FreeAt E out i b (j + 1) m ps := by
  refine ⟨fun n => ?_, hF.asc, hF.lt⟩
  rw [hF.mem]
  refine and_congr_right fun _ => not_congr ?_
  constructor
  · rintro ⟨k, g1, g2, g3⟩
    refine ⟨k, g1, g2, g3.imp id fun ⟨g4, g5⟩ => ⟨g4, ?_⟩⟩
    rcases Nat.lt_or_ge j k with h5 | h5
    · exact h5
    · obtain rfl : k = j := by omega
      exact absurd g4 hE
  · rintro ⟨k, g1, g2, g3⟩
    exact ⟨k, g1, g2, by omega⟩
theorem FreeAt.held {E : List Int} {i m : Nat} {ps : List Nat} (hF : FreeAt E (giveTo E i) i ((i : Int) - 1) i m ps) (n : Nat) : n ∈ ps ↔ n < m ∧ (n : Int) ∉ takenTo E (giveTo E i) i i := by
  rw [hF.mem, mem_takenTo]
  refine and_congr_right fun _ => not_congr ?_
  constructor
  · rintro ⟨k, g1, g2, g3⟩
    exact ⟨k, g1, by omega, g2⟩
  · rintro ⟨k, g1, g2, g3⟩
    exact ⟨k, g1, g3, .inl (by omega)⟩
theorem taken_lt {E out : List Int} {i : Nat} {b : Int} {j m : Nat} {ps : List Nat} (hF : FreeAt E out i b j m ps) {a : Int} (h : a ∈ takenTo E out i i) : a < (m : Int) := by
  obtain ⟨k, g1, g2, rfl⟩ := mem_takenTo.1 h
  exact hF.lt k g1
/-- No place is free: a new one. -/
theorem FreeAt.makes {E : List Int} {i m : Nat} (hF : FreeAt E (giveTo E i) i ((i : Int) - 1) i m []) (hE : (i : Int) ≤ E.getD i 0) :
    m = leastFree (takenTo E (giveTo E i) i i) ∧ FreeAt E (giveTo E (i + 1)) (i + 1) (i : Int) 0 (m + 1) [] := by
  have h1 : IsLeast (takenTo E (giveTo E i) i i) m := ⟨fun h => by have := taken_lt hF h; omega, fun n hn => by
    have h2 := hF.held n
    by_cases h3 : (n : Int) ∈ takenTo E (giveTo E i) i i
    · exact h3
    · exact absurd (h2.2 ⟨hn, h3⟩) (by simp)⟩
  have he := h1.uniq (leastFree_spec _)
  have hgi : (giveTo E (i + 1)).getD i 0 = (m : Int) := by rw [giveTo_get (by omega), ← he]
  refine ⟨he, fun n => ?_, by simp, fun k hk => ?_⟩
  · simp only [List.not_mem_nil, false_iff, not_and, Classical.not_not]
    intro hn
    rcases Nat.lt_or_ge n m with h3 | h3
    · obtain ⟨k, g1, g2, g3⟩ := mem_takenTo.1 (h1.2 n h3)
      exact ⟨k, by omega, by rw [giveTo_same (show k < i + 1 by omega) g1]; exact g3, by omega⟩
    · obtain rfl : n = m := by omega
      exact ⟨i, by omega, hgi, by omega⟩
  · rcases Nat.lt_or_ge k i with h3 | h3
    · rw [giveTo_same hk h3]; have := hF.lt k h3; omega
    · obtain rfl : k = i := by omega
      rw [hgi]; omega
/-- The first free place is taken. -/
theorem FreeAt.takes {E : List Int} {i m a : Nat} {ps : List Nat} (hF : FreeAt E (giveTo E i) i ((i : Int) - 1) i m (a :: ps)) (hE : (i : Int) ≤ E.getD i 0) :
    a = leastFree (takenTo E (giveTo E i) i i) ∧ FreeAt E (giveTo E (i + 1)) (i + 1) (i : Int) 0 m ps := by
  have hasc := List.pairwise_cons.1 hF.asc
  have ha := (hF.held a).1 (List.mem_cons_self ..)
  have h1 : IsLeast (takenTo E (giveTo E i) i i) a := ⟨ha.2, fun n hn => by
    have h2 := hF.held n
    by_cases h3 : (n : Int) ∈ takenTo E (giveTo E i) i i
    · exact h3
    · have := h2.2 ⟨by omega, h3⟩
      rcases List.mem_cons.1 this with h4 | h4
      · omega
      · have := hasc.1 n h4; omega⟩
  have he := h1.uniq (leastFree_spec _)
  have hgi : (giveTo E (i + 1)).getD i 0 = (a : Int) := by rw [giveTo_get (by omega), ← he]
  refine ⟨he, fun n => ?_, hasc.2, fun k hk => ?_⟩
  · have h2 := hF.held n
    constructor
    · intro hn
      have h3 := h2.1 (List.mem_cons_of_mem _ hn)
      have h4 := hasc.1 n hn
      refine ⟨h3.1, fun ⟨k, g1, g2, g3⟩ => ?_⟩
      rcases Nat.lt_or_ge k i with h5 | h5
      · exact h3.2 (mem_takenTo.2 ⟨k, h5, by omega, by rw [giveTo_same h5 (show k < i + 1 by omega)]; exact g2⟩)
      · obtain rfl : k = i := by omega
        rw [hgi] at g2; omega
    · rintro ⟨h3, h4⟩
      have h5 : (n : Int) ∉ takenTo E (giveTo E i) i i := fun h => by
        obtain ⟨k, g1, g2, g3⟩ := mem_takenTo.1 h
        exact h4 ⟨k, by omega, by rw [giveTo_same (show k < i + 1 by omega) g1]; exact g3, by omega⟩
      rcases List.mem_cons.1 (h2.2 ⟨h3, h5⟩) with h6 | h6
      · exact absurd ⟨i, by omega, by rw [hgi, h6], by omega⟩ h4
      · exact h6
  · rcases Nat.lt_or_ge k i with h3 | h3
    · rw [giveTo_same hk h3]; exact hF.lt k h3
    · obtain rfl : k = i := by omega
      rw [hgi]; omega
end Go.Proofs.Ytafljegjdanldaa

/- Plain laws: a queue of nodes in whose order all that a node needs is behind it; its levels. -/
namespace Go.Proofs.Ytafljegjdanldaa

/-- The greatest value of some nodes, one more, or 0. -/
structure Top (S : Nat → Prop) (v : Nat → Int) (m : Int) : Prop where
  is : m = 0 ∨ ∃ f, S f ∧ m = v f + 1
  nn : 0 ≤ m
  ge : ∀ f, S f → v f + 1 ≤ m
theorem Top.uniq {S : Nat → Prop} {v : Nat → Int} {m n : Int} (hv : ∀ f, S f → 0 ≤ v f) (hm : Top S v m) (hn : Top S v n) : m = n := by
  have h1 := hm.nn
  have h2 := hn.nn
  rcases hm.is with h3 | ⟨f, hf, h3⟩
  · rcases hn.is with h4 | ⟨f, hf, h4⟩
    · omega
    · have := hm.ge f hf
      have := hv f hf
      omega
  · have h5 := hn.ge f hf
    rcases hn.is with h4 | ⟨f', hf', h4⟩
    · have := hv f hf
      omega
    · have := hm.ge f' hf'
      omega
theorem Top.none {S : Nat → Prop} {v : Nat → Int} (h : ∀ f, ¬ S f) : Top S v 0 := ⟨.inl rfl, by omega, fun f hf => absurd hf (h f)⟩
theorem Top.congr {S S' : Nat → Prop} {v : Nat → Int} {m : Int} (hm : Top S v m) (h : ∀ f, S f ↔ S' f) : Top S' v m :=
  ⟨hm.is.imp id fun ⟨f, hf, e⟩ => ⟨f, (h f).1 hf, e⟩, hm.nn, fun f hf => hm.ge f ((h f).2 hf)⟩
theorem Top.add {S : Nat → Prop} {v : Nat → Int} {m : Int} (hm : Top S v m) (x : Nat) (hx : 0 ≤ v x) : Top (fun f => S f ∨ f = x) v (max m (v x + 1)) := by
  have := hm.nn
  refine ⟨?_, by omega, fun f hf => ?_⟩
  · rcases Int.le_total (v x + 1) m with h | h
    · rw [Int.max_eq_left h]
      exact hm.is.imp id fun ⟨f, hf, e⟩ => ⟨f, .inl hf, e⟩
    · rw [Int.max_eq_right h]
      exact .inr ⟨x, .inr rfl, rfl⟩
  · rcases hf with hf | rfl
    · have := hm.ge f hf; omega
    · omega
/-- The level of a node is such a greatest value. -/
theorem top_upOf (ps : List Int) (l : List Int) (h0 : ∀ f ∈ l, 0 ≤ f) : Top (fun f => (f : Int) ∈ l) (fun f => ps.getD f 0) (upOf 1 ps l) := by
  refine ⟨?_, upOf_nonneg _ _ _, fun f hf => ?_⟩
  · rcases foldl_max_eq (fun f : Int => ps.getD f.toNat 0 + 1) l 0 with h | ⟨f, hf, h⟩
    · exact .inl h
    · have := h0 f hf
      exact .inr ⟨f.toNat, by rw [show (f.toNat : Int) = f by omega]; exact hf, h⟩
  · have := le_upOf (c := 1) (ps := ps) hf
    simpa using this
end Go.Proofs.Ytafljegjdanldaa

/- Plain laws: levels found by a queue: who needs nothing any more is put at its end. -/
namespace Go.Proofs.Ytafljegjdanldaa

theorem addN_nodup {l : List Nat} {f : Nat} (h : l.Nodup) : (addN l f).Nodup := by
  unfold addN
  split
  · exact h
  · rename_i hf
    rw [List.nodup_append]
    exact ⟨h, by simp, fun a ha b hb he => hf (by rw [List.mem_singleton] at hb; rw [← hb, ← he]; exact ha)⟩
theorem needTo_nodup (l : List Int) : (needTo l).Nodup := by
  have key : ∀ (l : List Int) (acc : List Nat), acc.Nodup → (l.foldl (fun a f => addN a f.toNat) acc).Nodup := by
    intro l
    induction l with
    | nil => intro acc h; exact h
    | cons f l ih => intro acc h; exact ih _ (addN_nodup h)
  exact key l [] (by simp)

/-- How many of what a node needs is not done. -/
def cntN (p : List Nd) (D : List Nat) (u : Nat) : Nat := ((needTo (p.getD u default).frm).filter fun f => decide (f ∉ D)).length
theorem filter_less {D : List Nat} {x : Nat} (hx : x ∉ D) : ∀ {l : List Nat}, l.Nodup → x ∈ l → (l.filter fun f => decide (f ∉ D ++ [x])).length + 1 = (l.filter fun f => decide (f ∉ D)).length
  | [], _, h => by simp at h
  | y :: l, hn, h => by
    rw [List.nodup_cons] at hn
    by_cases hy : y = x
    · subst hy
      have h1 : ∀ l : List Nat, y ∉ l → (l.filter fun f => decide (f ∉ D ++ [y])) = l.filter fun f => decide (f ∉ D) := fun l hl => List.filter_congr fun z hz => by
        have : z ≠ y := fun he => hl (he ▸ hz)
        simp [this]
      rw [List.filter_cons, List.filter_cons, if_neg (by simp), if_pos (by simpa using hx), h1 l hn.1]
      simp
    · have hl : x ∈ l := by
        rcases List.mem_cons.1 h with h | h
        · exact absurd h.symm hy
        · exact h
      have ih := filter_less hx hn.2 hl
      by_cases hyD : y ∈ D
      · rw [List.filter_cons, List.filter_cons, if_neg (by simp [hyD]), if_neg (by simp [hyD])]
        exact ih
      · rw [List.filter_cons, List.filter_cons, if_pos (by simp [hyD, hy]), if_pos (by simp [hyD])]
        simp only [List.length_cons]
        omega
theorem cntN_less {p : List Nd} {D : List Nat} {u x : Nat} (hx : x ∉ D) (h : x ∈ needTo (p.getD u default).frm) : cntN p (D ++ [x]) u + 1 = cntN p D u := filter_less hx (needTo_nodup _) h
theorem cntN_same {p : List Nd} {D : List Nat} {u x : Nat} (h : x ∉ needTo (p.getD u default).frm) : cntN p (D ++ [x]) u = cntN p D u := by
  unfold cntN
  congr 1
  refine List.filter_congr fun z hz => ?_
  have : z ≠ x := fun he => h (he ▸ hz)
  simp [this]
theorem cntN_zero {p : List Nd} {D : List Nat} {u : Nat} : cntN p D u = 0 ↔ ∀ f ∈ needTo (p.getD u default).frm, f ∈ D := by
  unfold cntN
  rw [List.length_eq_zero_iff, List.filter_eq_nil_iff]
  simp
theorem cntN_nil (p : List Nd) (u : Nat) : cntN p [] u = (needTo (p.getD u default).frm).length := by simp [cntN]

structure Kahn (p : List Nd) (Df : Nat → List Nat) (Dn : List Nat) (lv lf : List Int) (Q : List Nat) : Prop where
  lvl : lv.length = p.length
  lfl : lf.length = p.length
  cnt : ∀ u, u < p.length → lf.getD u 0 = (cntN p (Df u) u : Int)
  top : ∀ u, u < p.length → Top (fun f => f ∈ needTo (p.getD u default).frm ∧ f ∈ Df u) (fun f => (levelsTo p p.length).getD f 0) (lv.getD u 0)
  mem : ∀ q, q ∈ Q ↔ q < p.length ∧ q ∉ Dn ∧ cntN p (Df q) q = 0
  nodup : Q.Nodup

theorem levelsTo_getD_nonneg (p : List Nd) (k i : Nat) : 0 ≤ (levelsTo p k).getD i 0 := by
  rcases getD_mem_or (levelsTo p k) i with h | h
  · omega
  · exact (levelsTo_rg p k _ h).1
/-- All that a node needs is done: its level is known. -/
theorem Kahn.level {p : List Nd} (hv : planOk p = true) {Df : Nat → List Nat} {Dn : List Nat} {lv lf : List Int} {Q : List Nat} (hK : Kahn p Df Dn lv lf Q) {u : Nat} (hu : u < p.length) (h0 : cntN p (Df u) u = 0) : lv.getD u 0 = (levelsTo p p.length).getD u 0 := by
  have hf := frm_pos hv hu
  have h1 := (hK.top u hu).congr (S' := fun f => (f : Int) ∈ (p.getD u default).frm) fun f => by
    constructor
    · intro h; exact (mem_needTo' fun f h => (hf f h).1).1 h.1
    · intro h
      have := (mem_needTo' fun f h => (hf f h).1).2 h
      exact ⟨this, cntN_zero.1 h0 f this⟩
  have h2 := top_upOf (levelsTo p u) (p.getD u default).frm fun f h => (hf f h).1
  have h3 : Top (fun f => (f : Int) ∈ (p.getD u default).frm) (fun f => (levelsTo p p.length).getD f 0) (upOf 1 (levelsTo p u) (p.getD u default).frm) := by
    have he : ∀ f : Nat, (f : Int) ∈ (p.getD u default).frm → (levelsTo p u).getD f 0 = (levelsTo p p.length).getD f 0 := fun f hm => by
      have := hf _ hm
      exact progTo_same (by omega) (by omega)
    refine ⟨?_, h2.nn, fun f hm => by rw [← he f hm]; exact h2.ge f hm⟩
    rcases h2.is with h | ⟨f, hm, h⟩
    · exact .inl h
    · exact .inr ⟨f, hm, by rw [← he f hm]; exact h⟩
  rw [levelsTo_getD hu]
  exact h1.uniq (fun f _ => levelsTo_getD_nonneg p _ f) h3
theorem Kahn.congr {p : List Nd} {Df Df' : Nat → List Nat} {Dn : List Nat} {lv lf : List Int} {Q : List Nat} (hK : Kahn p Df Dn lv lf Q)
    (h1 : ∀ u, u < p.length → cntN p (Df' u) u = cntN p (Df u) u) (h2 : ∀ u, u < p.length → ∀ f ∈ needTo (p.getD u default).frm, (f ∈ Df u ↔ f ∈ Df' u)) : Kahn p Df' Dn lv lf Q :=
  ⟨hK.lvl, hK.lfl, fun u hu => by rw [h1 u hu]; exact hK.cnt u hu, fun u hu => (hK.top u hu).congr fun f => and_congr_right fun hf => h2 u hu f hf,
    fun q => by
      rw [hK.mem]
      refine and_congr_right fun hq => and_congr_right fun _ => ?_
      rw [h1 q hq], hK.nodup⟩
theorem Kahn.take {p : List Nd} {Df : Nat → List Nat} {D : List Nat} {lv lf : List Int} {x : Nat} {Q : List Nat} (hK : Kahn p Df D lv lf (x :: Q)) : Kahn p Df (D ++ [x]) lv lf Q := by
  have hn := List.nodup_cons.1 hK.nodup
  refine ⟨hK.lvl, hK.lfl, hK.cnt, hK.top, fun q => ?_, hn.2⟩
  have := hK.mem q
  rw [List.mem_cons] at this
  rw [List.mem_append, List.mem_singleton]
  constructor
  · intro h
    have h2 := this.1 (.inr h)
    exact ⟨h2.1, fun h3 => h3.elim h2.2.1 fun h4 => hn.1 (h4 ▸ h), h2.2.2⟩
  · rintro ⟨g1, g2, g3⟩
    rcases this.2 ⟨g1, fun h => g2 (.inl h), g3⟩ with h | h
    · exact absurd (.inr h) g2
    · exact h
theorem getD_setI {l : List Int} {i j : Nat} {a : Int} (hi : i < l.length) : (l.set i a).getD j 0 = if i = j then a else l.getD j 0 := by
  rw [List.getD_eq_getElem?_getD, List.getElem?_set]
  by_cases h : i = j
  · simp [h, h ▸ hi]
  · simp [h, List.getD_eq_getElem?_getD]
/-- A user of the node that was taken. -/
theorem Kahn.step {p : List Nd} {Df : Nat → List Nat} {Dn D : List Nat} {lv lf : List Int} {Q : List Nat} {x u : Nat} (hK : Kahn p Df Dn lv lf Q) (hu : u < p.length) (hDf : Df u = D) (hxD : x ∉ D) (hux : x ∈ needTo (p.getD u default).frm) (hDn : u ∉ Dn) :
    Kahn p (fun a => if a = u then D ++ [x] else Df a) Dn (lv.set u (max (lv.getD u 0) ((levelsTo p p.length).getD x 0 + 1))) (lf.set u (lf.getD u 0 - 1)) (if cntN p (D ++ [x]) u = 0 then Q ++ [u] else Q) := by
  have hl := hK.lvl
  have hf := hK.lfl
  have hc := cntN_less (p := p) (u := u) hxD hux
  refine ⟨by simp [hl], by simp [hf], fun a ha => ?_, fun a ha => ?_, fun q => ?_, ?_⟩
  · rw [getD_setI (by omega)]
    by_cases hau : a = u
    · subst hau
      rw [if_pos rfl, if_pos rfl, hK.cnt a ha, hDf]; omega
    · rw [if_neg (fun h => hau h.symm), if_neg hau]; exact hK.cnt a ha
  · rw [getD_setI (by omega)]
    by_cases hau : a = u
    · subst hau
      rw [if_pos rfl]
      simp only [if_true]
      refine ((hK.top a ha).add x (levelsTo_getD_nonneg p _ x)).congr fun f => ?_
      rw [hDf, List.mem_append, List.mem_singleton]
      constructor
      · rintro (⟨h1, h2⟩ | rfl)
        · exact ⟨h1, .inl h2⟩
        · exact ⟨hux, .inr rfl⟩
      · rintro ⟨h1, h2 | h2⟩
        · exact .inl ⟨h1, h2⟩
        · exact .inr h2
    · rw [if_neg (show ¬ u = a from fun h => hau h.symm)]
      simp only [if_neg hau]
      exact hK.top a ha
  · have hm := hK.mem q
    by_cases hqu : q = u
    · subst hqu
      simp only [if_true]
      have hnq : q ∉ Q := fun h => by
        have := (hm.1 h).2.2
        rw [hDf] at this
        omega
      split
      · rename_i h0
        simp only [List.mem_append, List.mem_singleton, or_true, true_iff]
        exact ⟨hu, hDn, h0⟩
      · rename_i h0
        constructor
        · exact fun h => absurd h hnq
        · exact fun h => absurd h.2.2 h0
    · simp only [if_neg hqu]
      rw [← hm]
      split <;> simp [hqu]
  · split
    · rw [List.nodup_append]
      refine ⟨hK.nodup, by simp, fun a ha b hb he => ?_⟩
      rw [List.mem_singleton] at hb
      subst hb
      subst he
      have := ((hK.mem a).1 ha).2.2
      rw [hDf] at this
      omega
    · exact hK.nodup
/-- At first. -/
theorem Kahn.start {p : List Nd} {lf : List Int} {Q : List Nat} (hlf : lf = (List.range p.length).map fun (u : Nat) => ((needTo (p.getD u default).frm).length : Int)) (hQ : Q = (List.range p.length).filter fun u => decide ((needTo (p.getD u default).frm).length = 0)) :
    Kahn p (fun _ => []) [] (List.replicate p.length 0) lf Q := by
  subst hlf
  subst hQ
  refine ⟨by simp, by simp, fun u hu => ?_, fun u hu => ?_, fun q => ?_, List.nodup_range.filter _⟩
  · rw [cntN_nil, List.getD_eq_getElem?_getD, List.getElem?_map, List.getElem?_range hu]; rfl
  · rw [show (List.replicate p.length (0 : Int)).getD u 0 = 0 by rw [List.getD_eq_getElem?_getD, List.getElem?_replicate, if_pos hu]; rfl]
    exact Top.none fun f h => by simp at h
  · simp only [List.mem_filter, List.mem_range, decide_eq_true_eq, cntN_nil, List.not_mem_nil, not_false_eq_true, true_and]
/-- At last. -/
theorem Kahn.all {p : List Nd} (hv : planOk p = true) {D : List Nat} {lv lf : List Int} (hK : Kahn p (fun _ => D) D lv lf []) : ∀ u, u < p.length → u ∈ D := by
  intro u
  induction u using Nat.strongRecOn with
  | _ u ih =>
    intro hu
    have hf := frm_pos hv hu
    by_cases h : u ∈ D
    · exact h
    · have := (hK.mem u).2 ⟨hu, h, cntN_zero.2 fun f hm => by
        have h1 := hf _ ((mem_needTo' fun f h => (hf f h).1).1 hm)
        exact ih f (by omega) (by omega)⟩
      simp at this
theorem Kahn.done {p : List Nd} (hv : planOk p = true) {D : List Nat} {lv lf : List Int} (hK : Kahn p (fun _ => D) D lv lf []) (hD : ∀ d ∈ D, d < p.length ∧ cntN p D d = 0) : lv = levelsTo p p.length := by
  have hl := hK.lvl
  refine List.ext_getElem (by rw [hl, levelsTo_len]) fun i h1 h2 => ?_
  have hi : i < p.length := by omega
  have := hK.level hv hi (hD i (hK.all hv i hi)).2
  rw [getD_elem h1, getD_elem h2] at this
  exact this
theorem mem_users_needs {p : List Nd} (hv : planOk p = true) {x u : Nat} (hu : u < p.length) : u ∈ usersTo p p.length x ↔ x ∈ needTo (p.getD u default).frm := by
  rw [mem_usersTo, mem_needTo' fun f h => (frm_pos hv hu f h).1]
  exact ⟨fun h => h.2, fun h => ⟨hu, h⟩⟩
end Go.Proofs.Ytafljegjdanldaa

/- Plain laws: how many different nodes a node needs; rows kept. -/
namespace Go.Proofs.Ytafljegjdanldaa

theorem lastOr_ge {l : List Nat} (h : l.Pairwise (· < ·)) {a : Nat} (ha : a ∈ l) (d : Nat) : a ≤ lastOr l d := by
  have hne : l ≠ [] := List.ne_nil_of_mem ha
  unfold lastOr
  rw [List.getLast?_eq_some_getLast hne, Option.getD_some]
  obtain ⟨i, hi, rfl⟩ := List.mem_iff_getElem.1 ha
  rw [List.getLast_eq_getElem]
  rcases Nat.lt_or_ge i (l.length - 1) with h1 | h1
  · exact Nat.le_of_lt (List.pairwise_iff_getElem.1 h i (l.length - 1) hi (by omega) h1)
  · have : i = l.length - 1 := by omega
    subst this
    exact Nat.le_refl _
theorem usersTo_asc (p : List Nd) (k i : Nat) : (usersTo p k i).Pairwise (· < ·) := List.pairwise_lt_range.filter _
theorem live_eq (E : List Int) (i : Nat) : ∀ j, live E i j = (((List.range j).filter fun a => decide ((i : Int) ≤ E.getD a 0)).length : Int)
  | 0 => rfl
  | j + 1 => by
    rw [live, live_eq E i j, List.range_succ, List.filter_append, List.length_append, List.filter_cons, List.filter_nil]
    by_cases h : (i : Int) ≤ E.getD j 0
    · rw [if_pos h, if_pos (by simpa using h)]; simp
    · rw [if_neg h, if_neg (by simpa using h)]; simp
/-- All that a node needs is still there when it is done. -/
theorem needs_live {p : List Nd} (hv : planOk p = true) {i : Nat} (hi : i < p.length) : ((needTo (p.getD i default).frm).length : Int) ≤ live (endsTo p p.length) i i := by
  rw [live_eq]
  have := (needTo_nodup (p.getD i default).frm).length_le_of_subset (l₂ := (List.range i).filter fun a => decide ((i : Int) ≤ (endsTo p p.length).getD a 0)) fun f hf => by
    have hm := (mem_users_needs hv (x := f) hi).2 hf
    have h1 := usersTo_gt hv (Nat.le_refl _) hm
    rw [List.mem_filter, List.mem_range, decide_eq_true_eq, endsTo_getD hv (Nat.le_refl _) (by omega)]
    have := lastOr_ge (usersTo_asc p p.length f) hm f
    omega
  omega
theorem needs_rows {p : List Nd} (hv : planOk p = true) {i : Nat} (hi : i < p.length) : ((needTo (p.getD i default).frm).length : Int) < rowsTo (endsTo p p.length) p.length := by
  have h1 := needs_live hv hi
  have h2 := le_rowsTo (E := endsTo p p.length) hi
  omega

/-- What of the needs is ahead of a node. -/
def cntK (p : List Nd) (k u : Nat) : Nat := ((needTo (p.getD u default).frm).filter fun f => decide (f < k)).length
theorem cntK_zero (p : List Nd) (u : Nat) : cntK p 0 u = 0 := by
  unfold cntK
  rw [List.filter_eq_nil_iff.2 (by simp)]; rfl
theorem filter_lt_succ {k : Nat} : ∀ {l : List Nat}, l.Nodup → (l.filter fun f => decide (f < k + 1)).length = (l.filter fun f => decide (f < k)).length + (if k ∈ l then 1 else 0)
  | [], _ => by simp
  | a :: l, hn => by
    rw [List.nodup_cons] at hn
    have ih := filter_lt_succ (k := k) hn.2
    simp only [List.filter_cons]
    by_cases ha : a = k
    · subst ha
      rw [if_neg hn.1] at ih
      rw [if_pos (by simp), if_neg (by simp), if_pos (by simp)]
      simp only [List.length_cons]; omega
    · have hm : (k ∈ a :: l) ↔ k ∈ l := by simp [Ne.symm ha]
      simp only [hm]
      by_cases h1 : a < k
      · rw [if_pos (by simp; omega), if_pos (by simpa using h1)]
        simp only [List.length_cons]; omega
      · rw [if_neg (by simp; omega), if_neg (by simpa using h1)]
        exact ih
theorem cntK_succ {p : List Nd} (k u : Nat) : cntK p (k + 1) u = cntK p k u + (if k ∈ needTo (p.getD u default).frm then 1 else 0) := filter_lt_succ (needTo_nodup _)
theorem cntK_all {p : List Nd} (hv : planOk p = true) (u : Nat) : cntK p p.length u = (needTo (p.getD u default).frm).length := by
  unfold cntK
  rw [List.filter_eq_self.2 fun f hf => ?_]
  rcases Nat.lt_or_ge u p.length with hu | hu
  · have := frm_pos hv hu
    have h1 := (mem_needTo' fun f h => (this f h).1).1 hf
    have := (this _ h1).2
    simp; omega
  · rw [getD_default_of hu] at hf
    simp [needTo, default] at hf
theorem cntK_le (p : List Nd) (k u : Nat) : cntK p k u ≤ (needTo (p.getD u default).frm).length := List.length_filter_le _ _
theorem usersTo_lt' {p : List Nd} {k i j : Nat} (h : j ∈ usersTo p k i) : j < k := (mem_usersTo.1 h).1
/-- The table while users are told. -/
def tabK (p : List Nd) (k : Nat) (l : List Nat) : List Int := (List.range 10).map fun (u : Nat) => ((cntK p k u + (if u ∈ l then 1 else 0) : Nat) : Int)
theorem tabK_len (p : List Nd) (k : Nat) (l : List Nat) : (tabK p k l).length = 10 := by simp [tabK]
theorem tabK_get {p : List Nd} {k : Nat} {l : List Nat} {u : Nat} (h : u < (tabK p k l).length) : (tabK p k l)[u] = ((cntK p k u + (if u ∈ l then 1 else 0) : Nat) : Int) := by simp [tabK]
theorem tabK_zero (p : List Nd) : tabK p 0 [] = List.replicate 10 0 := by
  refine List.ext_getElem (by simp [tabK]) fun i h1 h2 => ?_
  rw [tabK_get, cntK_zero, List.getElem_replicate]
  simp
theorem tabK_snoc {p : List Nd} {k : Nat} {l : List Nat} {u : Nat} (_hu : u < 10) (_hl : u ∉ l) : (tabK p k l).set u ((cntK p k u : Int) + 1) = tabK p k (l ++ [u]) := by
  refine List.ext_getElem (by simp [tabK]) fun i h1 h2 => ?_
  rw [List.getElem_set, tabK_get, tabK_get]
  by_cases h : u = i
  · subst h
    simp
  · rw [if_neg h]
    simp [Ne.symm h]
theorem tabK_next {p : List Nd} (hv : planOk p = true) {k : Nat} (_hk : k < p.length) : tabK p k (usersTo p p.length k) = tabK p (k + 1) [] := by
  refine List.ext_getElem (by simp [tabK]) fun i h1 h2 => ?_
  rw [tabK_get, tabK_get, cntK_succ]
  have hm : i ∈ usersTo p p.length k ↔ k ∈ needTo (p.getD i default).frm := by
    rcases Nat.lt_or_ge i p.length with hi | hi
    · exact mem_users_needs hv hi
    · rw [getD_default_of hi]
      constructor
      · intro h; have := usersTo_lt' h; omega
      · intro h; simp [needTo, default] at h
  simp [hm]
/-- The counts of a valid plan. -/
theorem tabK_take {p : List Nd} (hv : planOk p = true) : (tabK p p.length []).take p.length = (List.range p.length).map fun (u : Nat) => ((needTo (p.getD u default).frm).length : Int) := by
  have hlen := PlanOk.len hv
  refine List.ext_getElem (by simp [tabK]; omega) fun i h1 h2 => ?_
  rw [List.getElem_take, tabK_get, cntK_all hv, List.getElem_map, List.getElem_range]
  simp
end Go.Proofs.Ytafljegjdanldaa

/- Plain laws: the nodes of each level. -/
namespace Go.Proofs.Ytafljegjdanldaa

/-- The level of a node of a valid plan. -/
def lev (p : List Nd) (i : Nat) : Int := (levelsTo p p.length).getD i 0
theorem lev_nonneg (p : List Nd) (i : Nat) : 0 ≤ lev p i := by
  unfold lev
  rcases getD_mem_or (levelsTo p p.length) i with h | h
  · omega
  · exact (levelsTo_rg p _ _ h).1
theorem lev_le {p : List Nd} (hv : planOk p = true) : ∀ i, i < p.length → lev p i ≤ i := by
  intro i
  induction i using Nat.strongRecOn with
  | _ i ih =>
    intro hi
    unfold lev
    rw [levelsTo_getD hi]
    refine upOf_le (by omega) fun f hf => ?_
    have h1 := frm_pos hv hi f hf
    have h2 := ih f.toNat (by omega) (by omega)
    have h3 : (levelsTo p i).getD f.toNat 0 = lev p f.toNat := progTo_same (by omega) (by omega)
    omega
theorem lev_lt_count {p : List Nd} {i : Nat} (hi : i < p.length) : lev p i < levCount p := by
  have := le_mostOf (l := (levelsTo p p.length).map (· + 1)) (a := lev p i + 1) (List.mem_map.2 ⟨_, getD_mem (by rw [levelsTo_len]; exact hi), rfl⟩)
  unfold levCount
  omega
theorem levCount_rg {p : List Nd} (hv : planOk p = true) : 0 ≤ levCount p ∧ levCount p ≤ p.length := by
  refine ⟨mostOf_nonneg _, mostOf_le (by omega) fun a ha => ?_⟩
  obtain ⟨b, hb, rfl⟩ := List.mem_map.1 ha
  obtain ⟨i, hi, rfl⟩ := List.mem_iff_getElem.1 hb
  rw [levelsTo_len] at hi
  have := lev_le hv i hi
  unfold lev at this
  rw [getD_elem (by rw [levelsTo_len]; exact hi)] at this
  omega
/-- Who is not at the bottom needs one just below. -/
theorem lev_down {p : List Nd} (hv : planOk p = true) {i : Nat} (hi : i < p.length) (h0 : 0 < lev p i) : ∃ f, f < i ∧ (f : Int) ∈ (p.getD i default).frm ∧ lev p f + 1 = lev p i := by
  have h1 : lev p i = upOf 1 (levelsTo p i) (p.getD i default).frm := levelsTo_getD hi
  unfold upOf at h1
  rcases foldl_max_eq (fun f : Int => (levelsTo p i).getD f.toNat 0 + 1) (p.getD i default).frm 0 with h | ⟨f, hf, h⟩
  · rw [h] at h1; omega
  · have h2 := frm_pos hv hi f hf
    have h3 : (levelsTo p i).getD f.toNat 0 = lev p f.toNat := progTo_same (by omega) (by omega)
    refine ⟨f.toNat, by omega, by rw [show (f.toNat : Int) = f by omega]; exact hf, ?_⟩
    rw [h] at h1
    omega
theorem lev_some {p : List Nd} (hv : planOk p = true) : ∀ (d : Nat) (m : Int), 0 ≤ m → m + 1 + d = levCount p → ∃ i, i < p.length ∧ lev p i = m
  | 0, m, hm, h => by
    rcases mostOf_eq ((levelsTo p p.length).map (· + 1)) with h1 | h1
    · unfold levCount at h; omega
    · obtain ⟨b, hb, h2⟩ := List.mem_map.1 h1
      obtain ⟨i, hi, rfl⟩ := List.mem_iff_getElem.1 hb
      have hi' : i < p.length := by rw [levelsTo_len] at hi; exact hi
      refine ⟨i, hi', ?_⟩
      unfold lev
      rw [getD_elem hi]
      unfold levCount at h
      omega
  | d + 1, m, hm, h => by
    obtain ⟨i, hi, h1⟩ := lev_some hv d (m + 1) (by omega) (by omega)
    obtain ⟨f, hf, _, h2⟩ := lev_down hv hi (by omega)
    exact ⟨f, by omega, by omega⟩

/-- The nodes of a level. -/
def levRow (p : List Nd) (n : Nat) : List Nat := (List.range p.length).filter fun i => decide (lev p i = (n : Int))
theorem mem_levRow {p : List Nd} {n i : Nat} : i ∈ levRow p n ↔ i < p.length ∧ lev p i = (n : Int) := by simp [levRow]
theorem levRow_ne {p : List Nd} (hv : planOk p = true) {n : Nat} (h : (n : Int) < levCount p) : levRow p n ≠ [] := by
  obtain ⟨i, hi, h1⟩ := lev_some hv (levCount p - 1 - n).toNat n (by omega) (by omega)
  exact List.ne_nil_of_mem (mem_levRow.2 ⟨hi, h1⟩)
theorem levRow_nil {p : List Nd} {n : Nat} (h : levCount p ≤ (n : Int)) : levRow p n = [] := by
  apply List.eq_nil_iff_forall_not_mem.2
  intro i hi
  have := mem_levRow.1 hi
  have := lev_lt_count this.1
  omega
theorem levRow_asc (p : List Nd) (n : Nat) : (levRow p n).Pairwise (· < ·) := List.pairwise_lt_range.filter _
/-- All levels together have all nodes. -/
def rowsLen (p : List Nd) : Nat → Nat
  | 0 => 0
  | n + 1 => rowsLen p n + (levRow p n).length
theorem rowsLen_eq (p : List Nd) : ∀ n : Nat, rowsLen p n = ((List.range p.length).filter fun i => decide (lev p i < (n : Int))).length
  | 0 => by
    have : ((List.range p.length).filter fun i => decide (lev p i < ((0 : Nat) : Int))) = [] := List.filter_eq_nil_iff.2 fun i _ => by have := lev_nonneg p i; simp; omega
    rw [this]; rfl
  | n + 1 => by
    rw [rowsLen, rowsLen_eq p n, levRow]
    generalize List.range p.length = l
    induction l with
    | nil => rfl
    | cons a l ih =>
      simp only [List.filter_cons]
      by_cases h1 : lev p a < (n : Int)
      · rw [if_pos (by simpa using h1), if_neg (by simp; omega), if_pos (by simp; omega)]
        simp only [List.length_cons]; omega
      · by_cases h2 : lev p a = (n : Int)
        · rw [if_neg (by simpa using h1), if_pos (by simpa using h2), if_pos (by simp; omega)]
          simp only [List.length_cons]; omega
        · rw [if_neg (by simpa using h1), if_neg (by simpa using h2), if_neg (by simp; omega)]
          exact ih
theorem rowsLen_all {p : List Nd} (hv : planOk p = true) : rowsLen p (levCount p).toNat = p.length := by
  have hr := levCount_rg hv
  rw [rowsLen_eq, List.filter_eq_self.2 fun i hi => by have := lev_lt_count (List.mem_range.1 hi); simp; omega, List.length_range]
end Go.Proofs.Ytafljegjdanldaa

/- Plain laws: what is ready; counts behind a node. -/
namespace Go.Proofs.Ytafljegjdanldaa

/-- Who is ready behind some. -/
def readyB (p : List Nd) (D : List Int) (i : Nat) : Bool := decide ((i : Int) ∉ D) && (p.getD i default).frm.all fun f => decide (f ∈ D)
def readyL (p : List Nd) (D : List Int) : List Nat := (List.range p.length).filter (readyB p D)
theorem mem_readyL {p : List Nd} {D : List Int} {i : Nat} : i ∈ readyL p D ↔ i < p.length ∧ (i : Int) ∉ D ∧ ∀ f ∈ (p.getD i default).frm, f ∈ D := by
  simp [readyL, readyB]
theorem readyL_len (p : List Nd) (D : List Int) : (readyL p D).length ≤ p.length := by
  have := List.length_filter_le (readyB p D) (List.range p.length)
  simpa [readyL] using this
theorem readyL_nodup (p : List Nd) (D : List Int) : (readyL p D).Nodup := List.nodup_range.filter _
theorem readyL_congr {p : List Nd} {D E : List Int} (hv : planOk p = true) (h : ∀ i : Nat, i < p.length → ((i : Int) ∈ D ↔ (i : Int) ∈ E)) : readyL p D = readyL p E := by
  refine List.filter_congr fun i hi => ?_
  have hip := List.mem_range.1 hi
  unfold readyB
  have h1 : decide ((i : Int) ∉ D) = decide ((i : Int) ∉ E) := decide_eq_decide.2 (not_congr (h i hip))
  rw [h1]
  congr 1
  rw [Bool.eq_iff_iff, List.all_eq_true, List.all_eq_true]
  refine forall_congr' fun f => forall_congr' fun hf => ?_
  have := frm_pos hv hip f hf
  have h2 := h f.toNat (by omega)
  rw [show (f.toNat : Int) = f by omega] at h2
  simp only [decide_eq_true_eq, h2]

theorem toI_inj {a b : List Nat} (h : (a.map fun (j : Nat) => (j : Int)) = b.map fun (j : Nat) => (j : Int)) : a = b := by
  have := congrArg (List.map Int.toNat) h
  simpa [List.map_map, Function.comp_def] using this
/-- The first level is what is ready at first. -/
theorem ready_first {p : List Nd} (_hv : planOk p = true) : readyL p [] = levRow p 0 := by
  refine List.filter_congr fun i hi => ?_
  have hip := List.mem_range.1 hi
  have h1 : lev p i = upOf 1 (levelsTo p i) (p.getD i default).frm := levelsTo_getD hip
  unfold readyB
  rw [Bool.eq_iff_iff]
  simp only [List.not_mem_nil, not_false_eq_true, decide_true, Bool.true_and, List.all_eq_true, decide_eq_true_eq, decide_false, Bool.false_eq_true]
  constructor
  · intro h
    have : (p.getD i default).frm = [] := List.eq_nil_iff_forall_not_mem.2 fun f hf => h f hf
    rw [h1, this]; rfl
  · intro h f hf
    have h2 := le_upOf (c := 1) (ps := levelsTo p i) hf
    have h3 : 0 ≤ (levelsTo p i).getD f.toNat 0 := levelsTo_getD_nonneg p i f.toNat
    rw [h1] at h
    have : upOf 1 (levelsTo p i) (p.getD i default).frm = 0 := h
    omega
/-- Behind it the second one is ready. -/
theorem ready_second {p : List Nd} (hv : planOk p = true) : readyL p ((levRow p 0).map fun (j : Nat) => (j : Int)) = levRow p 1 := by
  refine List.filter_congr fun i hi => ?_
  have hip := List.mem_range.1 hi
  have h1 : lev p i = upOf 1 (levelsTo p i) (p.getD i default).frm := levelsTo_getD hip
  have hmem : ∀ f : Int, f ∈ ((levRow p 0).map fun (j : Nat) => (j : Int)) ↔ 0 ≤ f ∧ f.toNat < p.length ∧ lev p f.toNat = 0 := fun f => by
    simp only [List.mem_map]
    constructor
    · rintro ⟨j, hj, rfl⟩
      have := mem_levRow.1 hj
      refine ⟨by omega, by simpa using this.1, by simpa using this.2⟩
    · rintro ⟨h2, h3, h4⟩
      exact ⟨f.toNat, mem_levRow.2 ⟨h3, by simpa using h4⟩, by omega⟩
  unfold readyB
  rw [Bool.eq_iff_iff]
  simp only [Bool.and_eq_true, List.all_eq_true, decide_eq_true_eq, hmem]
  have hup : ∀ f ∈ (p.getD i default).frm, lev p f.toNat + 1 ≤ lev p i := fun f hf => by
    have h2 := le_upOf (c := 1) (ps := levelsTo p i) hf
    have h3 := frm_pos hv hip f hf
    have h4 : (levelsTo p i).getD f.toNat 0 = lev p f.toNat := progTo_same (by omega) (by omega)
    omega
  constructor
  · rintro ⟨h2, h3⟩
    have hne : lev p i ≠ 0 := fun h0 => h2 ⟨by omega, by simpa using hip, by simpa using h0⟩
    have := lev_nonneg p i
    obtain ⟨f, hf1, hf2, hf3⟩ := lev_down hv hip (by omega)
    have := (h3 _ hf2).2.2
    simp only [Int.toNat_natCast] at this
    show lev p i = 1
    omega
  · intro h2
    have h2' : lev p i = 1 := h2
    refine ⟨fun h3 => by have := h3.2.2; simp only [Int.toNat_natCast] at this; omega, fun f hf => ?_⟩
    have h3 := frm_pos hv hip f hf
    have h4 := hup f hf
    have h5 := lev_nonneg p f.toNat
    exact ⟨h3.1, by omega, by omega⟩

/-! counts -/
/-- A node may be taken out of counts. -/
def doneOk (p : List Nd) (c : List Int) (a : Int) : Bool :=
  planOk p && decide (0 ≤ a ∧ a < (p.length : Int)) && decide (c.length = p.length) && (List.range p.length).all fun i => decide (0 ≤ c.getD i 0 ∧ c.getD i 0 ≤ ((needTo (p.getD i default).frm).length : Int)) && !(decide (a ∈ (p.getD i default).frm) && decide (c.getD i 0 = 0))
/-- The counts behind a node. -/
def doneC (p : List Nd) (c : List Int) (a : Int) : List Int := (List.range p.length).map fun i => c.getD i 0 - (if a ∈ (p.getD i default).frm then 1 else 0)
/-- Who is told. -/
def doneR (p : List Nd) (c : List Int) (a : Int) : List Nat := (List.range p.length).filter fun i => decide (a ∈ (p.getD i default).frm) && decide (c.getD i 0 = 1)
theorem doneC_len (p : List Nd) (c : List Int) (a : Int) : (doneC p c a).length = p.length := by simp [doneC]
theorem doneC_get {p : List Nd} {c : List Int} {a : Int} {i : Nat} (h : i < (doneC p c a).length) : (doneC p c a)[i] = c.getD i 0 - (if a ∈ (p.getD i default).frm then 1 else 0) := by simp [doneC]
theorem doneOk_spec {p : List Nd} {c : List Int} {a : Int} (h : doneOk p c a = true) : planOk p = true ∧ (0 ≤ a ∧ a < (p.length : Int)) ∧ c.length = p.length ∧ ∀ i, i < p.length → (0 ≤ c.getD i 0 ∧ c.getD i 0 ≤ ((needTo (p.getD i default).frm).length : Int)) ∧ (a ∈ (p.getD i default).frm → c.getD i 0 ≠ 0) := by
  simp only [doneOk, Bool.and_eq_true, decide_eq_true_eq, List.all_eq_true, List.mem_range, Bool.not_eq_true', Bool.and_eq_false_iff, decide_eq_false_iff_not] at h
  obtain ⟨⟨⟨h1, h2⟩, h3⟩, h4⟩ := h
  refine ⟨h1, h2, h3, fun i hi => ⟨(h4 i hi).1, fun hm h0 => ?_⟩⟩
  rcases (h4 i hi).2 with h5 | h5
  · exact h5 hm
  · exact h5 h0
theorem doneOk_of {p : List Nd} {c : List Int} {a : Int} (h1 : planOk p = true) (h2 : 0 ≤ a ∧ a < (p.length : Int)) (h3 : c.length = p.length) (h4 : ∀ i, i < p.length → (0 ≤ c.getD i 0 ∧ c.getD i 0 ≤ ((needTo (p.getD i default).frm).length : Int)) ∧ (a ∈ (p.getD i default).frm → c.getD i 0 ≠ 0)) : doneOk p c a = true := by
  simp only [doneOk, Bool.and_eq_true, decide_eq_true_eq, List.all_eq_true, List.mem_range, Bool.not_eq_true', Bool.and_eq_false_iff, decide_eq_false_iff_not]
  refine ⟨⟨⟨h1, h2⟩, h3⟩, fun i hi => ⟨(h4 i hi).1, ?_⟩⟩
  by_cases hm : a ∈ (p.getD i default).frm
  · exact .inr ((h4 i hi).2 hm)
  · exact .inl hm
theorem doneOk_bad {p : List Nd} {c : List Int} {a : Int} (h : ¬ (planOk p = true ∧ (0 ≤ a ∧ a < (p.length : Int)) ∧ c.length = p.length ∧ ∀ i, i < p.length → (0 ≤ c.getD i 0 ∧ c.getD i 0 ≤ ((needTo (p.getD i default).frm).length : Int)) ∧ (a ∈ (p.getD i default).frm → c.getD i 0 ≠ 0))) : doneOk p c a = false := by
  cases hd : doneOk p c a with
  | false => rfl
  | true => exact absurd (doneOk_spec hd) h
/-- Counts when the first nodes are done. -/
def leftK (p : List Nd) (k : Nat) : List Int := (List.range p.length).map fun (u : Nat) => ((needTo (p.getD u default).frm).length : Int) - (cntK p k u : Int)
theorem leftK_len (p : List Nd) (k : Nat) : (leftK p k).length = p.length := by simp [leftK]
theorem leftK_getD {p : List Nd} {k u : Nat} (h : u < p.length) : (leftK p k).getD u 0 = ((needTo (p.getD u default).frm).length : Int) - (cntK p k u : Int) := by
  rw [leftK, List.getD_eq_getElem?_getD, List.getElem?_map, List.getElem?_range h]; rfl
theorem leftK_zero (p : List Nd) : leftK p 0 = (List.range p.length).map fun (u : Nat) => ((needTo (p.getD u default).frm).length : Int) := by
  refine List.map_congr_left fun u _ => ?_
  rw [cntK_zero]; simp
theorem leftK_ok {p : List Nd} (hv : planOk p = true) {k : Nat} (hk : k < p.length) : doneOk p (leftK p k) (k : Int) = true ∧ doneC p (leftK p k) (k : Int) = leftK p (k + 1) ∧ (leftK p k).getD k 0 = 0 := by
  refine ⟨doneOk_of hv ⟨by omega, by omega⟩ (leftK_len _ _) fun i hi => ?_, ?_, ?_⟩
  · rw [leftK_getD hi]
    have h1 := cntK_le p k i
    refine ⟨by omega, fun hm => ?_⟩
    have h2 := (mem_needTo' fun f h => (frm_pos hv hi f h).1).2 hm
    have h3 := cntK_succ (p := p) k i
    rw [if_pos h2] at h3
    have h4 := cntK_le p (k + 1) i
    omega
  · refine List.map_congr_left fun i hi => ?_
    have hi' := List.mem_range.1 hi
    rw [leftK_getD hi', cntK_succ]
    by_cases hm : (k : Int) ∈ (p.getD i default).frm
    · have h2 := (mem_needTo' fun f h => (frm_pos hv hi' f h).1).2 hm
      rw [if_pos hm, if_pos h2]; omega
    · have h2 : k ∉ needTo (p.getD i default).frm := fun h => hm ((mem_needTo' fun f h => (frm_pos hv hi' f h).1).1 h)
      rw [if_neg hm, if_neg h2]; omega
  · rw [leftK_getD hk]
    have : cntK p k k = (needTo (p.getD k default).frm).length := by
      unfold cntK
      rw [List.filter_eq_self.2 fun f hf => ?_]
      have h1 := frm_pos hv hk
      have h2 := (h1 _ ((mem_needTo' fun f h => (h1 f h).1).1 hf)).2
      simp; omega
    omega
theorem leftK_all {p : List Nd} (hv : planOk p = true) : leftK p p.length = List.replicate p.length 0 := by
  refine List.ext_getElem (by simp [leftK]) fun i h1 h2 => ?_
  rw [List.getElem_replicate]
  have := leftK_getD (p := p) (k := p.length) (u := i) (by simpa [leftK] using h1)
  rw [getD_elem h1, cntK_all hv] at this
  omega
end Go.Proofs.Ytafljegjdanldaa

/- Plain laws: rounds of workers over what is ready. -/
namespace Go.Proofs.Ytafljegjdanldaa

/-- Different nodes, each with all that it needs. -/
structure Closed (p : List Nd) (D : List Int) : Prop where
  nd : D.Nodup
  rg : ∀ d ∈ D, 0 ≤ d ∧ d < (p.length : Int)
  cl : ∀ d ∈ D, ∀ f ∈ (p.getD d.toNat default).frm, f ∈ D
/-- What is done behind some rounds. -/
def roundAt (p : List Nd) (k : Nat) : Nat → List Int
  | 0 => []
  | n + 1 => roundAt p k n ++ ((readyL p (roundAt p k n)).map fun (j : Nat) => (j : Int)).take k
theorem Closed.nil (p : List Nd) : Closed p [] := ⟨by simp, by simp, by simp⟩
theorem Closed.next {p : List Nd} {D : List Int} (h : Closed p D) (k : Nat) : Closed p (D ++ ((readyL p D).map fun (j : Nat) => (j : Int)).take k) := by
  have hm : ∀ d ∈ ((readyL p D).map fun (j : Nat) => (j : Int)).take k, ∃ i : Nat, d = (i : Int) ∧ i < p.length ∧ (i : Int) ∉ D ∧ ∀ f ∈ (p.getD i default).frm, f ∈ D := fun d hd => by
    obtain ⟨i, hi, rfl⟩ := List.mem_map.1 (List.mem_of_mem_take hd)
    exact ⟨i, rfl, mem_readyL.1 hi⟩
  refine ⟨List.nodup_append.2 ⟨h.nd, ?_, ?_⟩, fun d hd => ?_, fun d hd f hf => ?_⟩
  · have h1 : ((readyL p D).map fun (j : Nat) => (j : Int)).Nodup := List.Pairwise.map _ (fun a b (hab : a ≠ b) => show (a : Int) ≠ (b : Int) by omega) (readyL_nodup p D)
    exact h1.sublist (List.take_sublist _ _)
  · intro a ha b hb hab
    obtain ⟨i, rfl, _, h3, _⟩ := hm b hb
    exact h3 (hab ▸ ha)
  · rcases List.mem_append.1 hd with hd | hd
    · exact h.rg d hd
    · obtain ⟨i, rfl, h1, _⟩ := hm d hd; omega
  · rcases List.mem_append.1 hd with hd | hd
    · exact List.mem_append_left _ (h.cl d hd f hf)
    · obtain ⟨i, rfl, _, _, h4⟩ := hm d hd
      exact List.mem_append_left _ (h4 f hf)
theorem Closed.round (p : List Nd) (k n : Nat) : Closed p (roundAt p k n) := by
  induction n with
  | zero => exact Closed.nil p
  | succ n ih => exact ih.next k
theorem Closed.nats {p : List Nd} {D : List Int} (h : Closed p D) : (D.map Int.toNat).Nodup := List.pairwise_map.2 (h.nd.imp_of_mem fun ha hb hab he => hab (by have := h.rg _ ha; have := h.rg _ hb; omega))
theorem Closed.len {p : List Nd} {D : List Int} (h : Closed p D) : D.length ≤ p.length := by
  have := h.nats.length_le_of_subset (l₂ := List.range p.length) fun q hq => by
    obtain ⟨d, hd, rfl⟩ := List.mem_map.1 hq
    have := h.rg d hd
    exact List.mem_range.2 (by omega)
  simpa using this
theorem Closed.all {p : List Nd} {D : List Int} (h : Closed p D) (hl : p.length ≤ D.length) {i : Nat} (hi : i < p.length) : (i : Int) ∈ D := by
  rcases Classical.em ((i : Int) ∈ D) with h1 | h1
  · exact h1
  · exfalso
    have h2 : ((i :: D.map Int.toNat) : List Nat).Nodup := List.nodup_cons.2 ⟨fun hm => by
      obtain ⟨d, hd, he⟩ := List.mem_map.1 hm
      have := h.rg d hd
      exact h1 (by rw [show (i : Int) = d by omega]; exact hd), h.nats⟩
    have h3 := h2.length_le_of_subset (l₂ := List.range p.length) fun q hq => by
      rcases List.mem_cons.1 hq with rfl | hq
      · exact List.mem_range.2 hi
      · obtain ⟨d, hd, rfl⟩ := List.mem_map.1 hq
        have := h.rg d hd
        exact List.mem_range.2 (by omega)
    simp at h3
    omega
/-- Someone is ready while not all are done. -/
theorem Closed.some {p : List Nd} (hv : planOk p = true) {D : List Int} (_h : Closed p D) (hl : D.length < p.length) : readyL p D ≠ [] := by
  have h1 : ∃ i, i < p.length ∧ (i : Int) ∉ D := by
    rcases Classical.em (∃ i, i < p.length ∧ (i : Int) ∉ D) with h1 | h1
    · exact h1
    · exfalso
      have h2 := (List.nodup_range (n := p.length)).length_le_of_subset (l₂ := D.map Int.toNat) fun q hq => by
        have hq' := List.mem_range.1 hq
        rcases Classical.em ((q : Int) ∈ D) with h3 | h3
        · exact List.mem_map.2 ⟨_, h3, by omega⟩
        · exact absurd ⟨q, hq', h3⟩ h1
      simp at h2
      omega
  obtain ⟨i, hi, hiD⟩ := h1
  induction i using Nat.strongRecOn with
  | _ i ih =>
    rcases Classical.em (∀ f ∈ (p.getD i default).frm, f ∈ D) with h2 | h2
    · exact List.ne_nil_of_mem (mem_readyL.2 ⟨hi, hiD, h2⟩)
    · obtain ⟨f, h3⟩ := Classical.not_forall.1 h2
      obtain ⟨hf, h4⟩ := Classical.not_imp.1 h3
      have h5 := frm_pos hv hi f hf
      exact ih f.toNat (by omega) (by omega) (by rw [show (f.toNat : Int) = f by omega]; exact h4)
theorem roundAt_lt {p : List Nd} (hv : planOk p = true) {k n : Nat} (hk : 1 ≤ k) (hl : (roundAt p k n).length < p.length) : (roundAt p k n).length < (roundAt p k (n + 1)).length := by
  have h1 := (Closed.round p k n).some hv hl
  have h2 : 0 < (readyL p (roundAt p k n)).length := List.length_pos_iff.2 h1
  rw [roundAt, List.length_append, List.length_take, List.length_map]
  omega
theorem roundAt_le (p : List Nd) (k n : Nat) : (roundAt p k n).length ≤ n * k := by
  induction n with
  | zero => simp [roundAt]
  | succ n ih =>
    rw [roundAt, List.length_append, List.length_take, Nat.succ_mul]
    omega
/-- Each done node's level is less than the rounds. -/
theorem roundAt_lev {p : List Nd} (hv : planOk p = true) (k n : Nat) : ∀ d ∈ roundAt p k n, lev p d.toNat < (n : Int) := by
  induction n with
  | zero => intro d hd; simp [roundAt] at hd
  | succ n ih =>
    intro d hd
    rcases List.mem_append.1 hd with hd | hd
    · have := ih d hd; omega
    · obtain ⟨i, hi, rfl⟩ := List.mem_map.1 (List.mem_of_mem_take hd)
      obtain ⟨h1, h2, h3⟩ := mem_readyL.1 hi
      rw [Int.toNat_natCast]
      rcases (show 0 < lev p i ∨ lev p i ≤ 0 by omega) with h4 | h4
      · obtain ⟨f, _, hf, he⟩ := lev_down hv h1 h4
        have := ih _ (h3 _ hf)
        rw [Int.toNat_natCast] at this
        omega
      · omega
/-- All are done in a number of rounds, and not earlier. -/
def Rounds (p : List Nd) (k n : Nat) : Prop := p.length ≤ (roundAt p k n).length ∧ ∀ j, j < n → (roundAt p k j).length < p.length
theorem Rounds.uniq {p : List Nd} {k n m : Nat} (h1 : Rounds p k n) (h2 : Rounds p k m) : n = m := by
  rcases Nat.lt_trichotomy n m with h | h | h
  · have := h2.2 n h; have := h1.1; omega
  · exact h
  · have := h1.2 m h; have := h2.1; omega
theorem Rounds.le {p : List Nd} (hv : planOk p = true) {k n : Nat} (hk : 1 ≤ k) (h : Rounds p k n) : n ≤ p.length := by
  have h1 : ∀ j, j ≤ n → j ≤ (roundAt p k j).length := by
    intro j
    induction j with
    | zero => intro _; omega
    | succ j ih =>
      intro hj
      have h2 := ih (by omega)
      have h3 := roundAt_lt hv hk (h.2 j (by omega))
      omega
  have := h1 n (Nat.le_refl _)
  have := (Closed.round p k n).len
  omega
theorem Rounds.mul {p : List Nd} {k n : Nat} (h : Rounds p k n) : p.length ≤ n * k := Nat.le_trans h.1 (roundAt_le p k n)
theorem Rounds.lev {p : List Nd} (hv : planOk p = true) {k n : Nat} (h : Rounds p k n) : levCount p ≤ (n : Int) := by
  rcases (show 0 < levCount p ∨ levCount p ≤ 0 by omega) with h1 | h1
  · obtain ⟨i, hi, he⟩ := lev_some hv 0 (levCount p - 1) (by omega) (by omega)
    have h2 := (Closed.round p k n).all h.1 hi
    have := roundAt_lev hv k n _ h2
    rw [Int.toNat_natCast] at this
    omega
  · omega
end Go.Proofs.Ytafljegjdanldaa

/- Plain: what kinds do with rows, and the rows of a plan. No program in sight. -/
namespace Go.Proofs.Ytafljegjdanldaa

def bothOk (a b : List Int) : Bool := rowOk a && rowOk b && decide (a.length = b.length)
def pairL (f : Int → Int → Int) (a b : List Int) : List Int := if bothOk a b then List.zipWith (fun x y => f x y % 1009) a b else []
def sumsFrom : Int → List Int → List Int
  | _, [] => []
  | s, x :: r => ((s + x) % 1009) :: sumsFrom ((s + x) % 1009) r
def sumsL (r : List Int) : List Int := if rowOk r then sumsFrom 0 r else []
/-- A number is put into a list: ahead of the first greater one. -/
def putL (n : Int) : List Int → List Int
  | [] => [n]
  | x :: r => if n < x then n :: x :: r else x :: putL n r
def isortL (r : List Int) : List Int := r.foldl (fun acc n => putL n acc) []
def sortL (r : List Int) : List Int := if rowOk r then isortL r else []
def turnL (r : List Int) : List Int := if rowOk r then r.reverse else []
def one1 (f : List Int → List Int) : List (List Int) → List Int
  | [a] => f a
  | _ => []
def two2 (f : List Int → List Int → List Int) : List (List Int) → List Int
  | [a, b] => f a b
  | _ => []
def kindRow (k : Int) (rows : List (List Int)) : List Int :=
  if k = 1 then two2 (pairL (· + ·)) rows else if k = 2 then two2 (pairL (· * ·)) rows else if k = 3 then one1 sumsL rows else if k = 4 then one1 sortL rows else if k = 5 then one1 turnL rows else []
/-- The row of a node from the rows of the ones ahead. -/
def stepL (x : Nd) (rows : List (List Int)) : List Int := if x.kind = 0 then x.row else kindRow x.kind (x.frm.map fun f => rows.getD f.toNat [])
def valsTo (p : List Nd) : Nat → List (List Int)
  | 0 => []
  | n + 1 => valsTo p n ++ [stepL (p.getD n default) (valsTo p n)]
/-- The rows of a plan. -/
abbrev valsL (p : List Nd) : List (List Int) := valsTo p p.length

theorem rowOk_iff (r : List Int) : rowOk r = true ↔ (∀ x ∈ r, 0 ≤ x ∧ x ≤ 1008) ∧ r.length ≤ 6 := by
  simp only [rowOk, Bool.and_eq_true, List.all_eq_true, decide_eq_true_eq]
theorem rowOk_nil : rowOk [] = true := rfl
theorem bothOk_iff (a b : List Int) : bothOk a b = true ↔ rowOk a = true ∧ rowOk b = true ∧ a.length = b.length := by
  simp only [bothOk, Bool.and_eq_true, decide_eq_true_eq, and_assoc]

theorem pairL_len {f : Int → Int → Int} {a b : List Int} (h : bothOk a b = true) : (pairL f a b).length = a.length := by
  have := ((bothOk_iff a b).1 h).2.2
  simp [pairL, h, this]
theorem pairL_ok (f : Int → Int → Int) (a b : List Int) : rowOk (pairL f a b) = true := by
  by_cases h : bothOk a b = true
  · have hl := pairL_len (f := f) h
    have h6 := ((rowOk_iff a).1 ((bothOk_iff a b).1 h).1).2
    refine (rowOk_iff _).2 ⟨fun x hx => ?_, by omega⟩
    rw [pairL, if_pos h] at hx
    obtain ⟨i, hi, rfl⟩ := List.getElem_of_mem hx
    rw [List.getElem_zipWith]
    omega
  · rw [pairL, if_neg h]; rfl
theorem sumsFrom_len : ∀ (s : Int) (r : List Int), (sumsFrom s r).length = r.length
  | _, [] => rfl
  | s, x :: r => by simp [sumsFrom, sumsFrom_len]
theorem sumsFrom_mem : ∀ (s : Int) (r : List Int), ∀ x ∈ sumsFrom s r, 0 ≤ x ∧ x ≤ 1008
  | _, [], x, h => by simp [sumsFrom] at h
  | s, y :: r, x, h => by
    simp only [sumsFrom, List.mem_cons] at h
    rcases h with rfl | h
    · omega
    · exact sumsFrom_mem _ r x h
theorem sumsL_ok (r : List Int) : rowOk (sumsL r) = true := by
  by_cases h : rowOk r = true
  · rw [sumsL, if_pos h]
    exact (rowOk_iff _).2 ⟨sumsFrom_mem 0 r, by rw [sumsFrom_len]; exact ((rowOk_iff r).1 h).2⟩
  · rw [sumsL, if_neg h]; rfl
theorem putL_len (n : Int) : ∀ l : List Int, (putL n l).length = l.length + 1
  | [] => rfl
  | x :: r => by
    unfold putL
    split
    · rfl
    · simp [putL_len n r]
theorem putL_mem (n : Int) : ∀ (l : List Int) (x : Int), x ∈ putL n l ↔ x = n ∨ x ∈ l
  | [], x => by simp [putL]
  | y :: r, x => by
    unfold putL
    split
    · simp
    · rw [List.mem_cons, putL_mem n r, List.mem_cons]
      constructor
      · rintro (h | h | h) <;> simp [h]
      · rintro (h | h | h) <;> simp [h]
theorem putL_sorted (n : Int) : ∀ (l : List Int), l.Pairwise (· ≤ ·) → (putL n l).Pairwise (· ≤ ·)
  | [], _ => by simp [putL]
  | y :: r, h => by
    rw [List.pairwise_cons] at h
    unfold putL
    split
    · rename_i hlt
      refine List.pairwise_cons.2 ⟨fun z hz => ?_, List.pairwise_cons.2 h⟩
      rcases List.mem_cons.1 hz with rfl | hz
      · omega
      · have := h.1 z hz; omega
    · rename_i hlt
      refine List.pairwise_cons.2 ⟨fun z hz => ?_, putL_sorted n r h.2⟩
      rcases (putL_mem n r z).1 hz with rfl | hz
      · omega
      · exact h.1 z hz
theorem putL_perm (n : Int) : ∀ (l : List Int), (putL n l).Perm (n :: l)
  | [] => .refl _
  | y :: r => by
    unfold putL
    split
    · exact .refl _
    · exact ((putL_perm n r).cons y).trans (List.Perm.swap n y r)
/-- Where a number is put that comes behind some and ahead of all others. -/
theorem putL_mid (n : Int) : ∀ (a b : List Int), (∀ x ∈ a, x ≤ n) → (∀ x, b.head? = some x → n < x) → putL n (a ++ b) = a ++ n :: b
  | [], [], _, _ => rfl
  | [], y :: r, _, h => by
    have := h y rfl
    simp [putL, this]
  | x :: a, b, h1, h2 => by
    have := h1 x (by simp)
    rw [List.cons_append, putL, if_neg (by omega), putL_mid n a b (fun y hy => h1 y (by simp [hy])) h2, List.cons_append]
theorem isort_fold : ∀ (r acc : List Int), acc.Pairwise (· ≤ ·) → (r.foldl (fun acc n => putL n acc) acc).Pairwise (· ≤ ·) ∧ (r.foldl (fun acc n => putL n acc) acc).Perm (acc ++ r)
  | [], acc, h => ⟨h, by simp⟩
  | x :: r, acc, h => by
    obtain ⟨h1, h2⟩ := isort_fold r (putL x acc) (putL_sorted x acc h)
    refine ⟨h1, h2.trans ?_⟩
    exact ((putL_perm x acc).append_right r).trans (List.perm_middle.symm)
theorem isort_sorted (r : List Int) : (isortL r).Pairwise (· ≤ ·) := (isort_fold r [] List.Pairwise.nil).1
theorem isort_perm (r : List Int) : (isortL r).Perm r := (isort_fold r [] List.Pairwise.nil).2
theorem isort_len (r : List Int) : (isortL r).length = r.length := (isort_perm r).length_eq
theorem isort_snoc (r : List Int) (x : Int) : isortL (r ++ [x]) = putL x (isortL r) := by simp [isortL, List.foldl_append]
theorem sortL_ok (r : List Int) : rowOk (sortL r) = true := by
  by_cases h : rowOk r = true
  · rw [sortL, if_pos h]
    obtain ⟨h1, h2⟩ := (rowOk_iff r).1 h
    exact (rowOk_iff _).2 ⟨fun x hx => h1 x ((isort_perm r).mem_iff.1 hx), by rw [isort_len]; exact h2⟩
  · rw [sortL, if_neg h]; rfl
theorem turnL_ok (r : List Int) : rowOk (turnL r) = true := by
  by_cases h : rowOk r = true
  · rw [turnL, if_pos h]
    obtain ⟨h1, h2⟩ := (rowOk_iff r).1 h
    exact (rowOk_iff _).2 ⟨fun x hx => h1 x (List.mem_reverse.1 hx), by simpa using h2⟩
  · rw [turnL, if_neg h]; rfl
theorem one1_ok {f : List Int → List Int} (hf : ∀ r, rowOk (f r) = true) (rows : List (List Int)) : rowOk (one1 f rows) = true := by
  unfold one1
  split
  · exact hf _
  · rfl
theorem two2_ok {f : List Int → List Int → List Int} (hf : ∀ a b, rowOk (f a b) = true) (rows : List (List Int)) : rowOk (two2 f rows) = true := by
  unfold two2
  split
  · exact hf _ _
  · rfl
theorem kindRow_ok (k : Int) (rows : List (List Int)) : rowOk (kindRow k rows) = true := by
  unfold kindRow
  split; · exact two2_ok (pairL_ok _) _
  split; · exact two2_ok (pairL_ok _) _
  split; · exact one1_ok sumsL_ok _
  split; · exact one1_ok sortL_ok _
  split; · exact one1_ok turnL_ok _
  rfl
theorem stepL_ok {x : Nd} (h : rowOk x.row = true) (rows : List (List Int)) : rowOk (stepL x rows) = true := by
  unfold stepL
  split
  · exact h
  · exact kindRow_ok _ _

theorem valsTo_len (p : List Nd) : ∀ n, (valsTo p n).length = n
  | 0 => rfl
  | n + 1 => by simp [valsTo, valsTo_len p n]
theorem valsTo_last (p : List Nd) (n : Nat) : (valsTo p (n + 1)).getD n [] = stepL (p.getD n default) (valsTo p n) := by
  have := valsTo_len p n
  rw [valsTo, List.getD_eq_getElem?_getD, List.getElem?_append_right (by omega)]
  simp [this]
theorem valsTo_keep (p : List Nd) {i n : Nat} (hi : i < n) : ∀ {m : Nat}, n ≤ m → (valsTo p m).getD i [] = (valsTo p n).getD i [] := by
  intro m hm
  induction m with
  | zero => omega
  | succ m ih =>
    rcases Nat.lt_or_ge m n with h | h
    · obtain rfl : n = m + 1 := by omega
      rfl
    · rw [← ih h, valsTo, List.getD_eq_getElem?_getD, List.getElem?_append_left (by rw [valsTo_len]; omega), ← List.getD_eq_getElem?_getD]
/-- The row of a node. -/
theorem vals_step (p : List Nd) {i : Nat} (hi : i < p.length) : (valsL p).getD i [] = stepL (p.getD i default) (valsTo p i) := by
  rw [valsTo_keep p (Nat.lt_succ_self i) hi, valsTo_last]
theorem vals_ok {p : List Nd} (hp : planOk p = true) {i : Nat} : rowOk ((valsL p).getD i []) = true := by
  rcases Nat.lt_or_ge i p.length with h | h
  · rw [vals_step p h, getD_of h]
    exact stepL_ok (PlanOk.node hp h).row _
  · rw [List.getD_eq_getElem?_getD, List.getElem?_eq_none (by rw [valsTo_len]; exact h)]
    rfl

end Go.Proofs.Ytafljegjdanldaa

/- Plain: crews that are valid. No program in sight. -/
namespace Go.Proofs.Ytafljegjdanldaa

/-- Workers: deques, counts, what is done, rows. -/
structure Cr where
  dq : List (List Int)
  ct : List Int
  dn : List Int
  rw : List (List Int)

/-- A node comes behind all that it needs, once. -/
def ordAt (p : List Nd) (dn : List Int) (i : Nat) : Bool :=
  decide (0 ≤ dn.getD i 0 ∧ dn.getD i 0 < (p.length : Int)) && decide (dn.getD i 0 ∉ dn.take i) && (p.getD (dn.getD i 0).toNat default).frm.all fun f => decide (f ∈ dn.take i)
def orderB (p : List Nd) (dn : List Int) : Bool := (List.range dn.length).all (ordAt p dn)
/-- How many of what a node needs are not done. -/
def cntB (p : List Nd) (D : List Int) (u : Nat) : Nat := ((needTo (p.getD u default).frm).filter fun (f : Nat) => decide ((f : Int) ∉ D)).length
def cntL (p : List Nd) (D : List Int) : List Int := (List.range p.length).map fun u => ((cntB p D u : Nat) : Int)
/-- The numbers as they stand in rows. -/
def readyI (p : List Nd) (D : List Int) : List Int := (readyL p D).map fun (j : Nat) => (j : Int)
def dequesB (p : List Nd) (c : Cr) : Bool := decide (isortL c.dq.flatten = readyI p c.dn)
def rowWant (p : List Nd) (D : List Int) (i : Nat) : List Int := if (i : Int) ∈ D then (valsL p).getD i [] else []
def rowsB (p : List Nd) (c : Cr) : Bool := (List.range p.length).all fun i => decide (rowWant p c.dn i = c.rw.getD i [])
def crewOk (p : List Nd) (c : Cr) : Bool :=
  planOk p && decide (1 ≤ c.dq.length ∧ c.dq.length ≤ 4) && orderB p c.dn && decide (cntL p c.dn = c.ct) && decide (c.rw.length = p.length) && dequesB p c && rowsB p c
structure CrewOk (p : List Nd) (c : Cr) : Prop where
  plan : planOk p = true
  dq : 1 ≤ c.dq.length ∧ c.dq.length ≤ 4
  ord : orderB p c.dn = true
  ct : cntL p c.dn = c.ct
  rl : c.rw.length = p.length
  deq : isortL c.dq.flatten = readyI p c.dn
  rows : ∀ i, i < p.length → rowWant p c.dn i = c.rw.getD i []
theorem crewOk_iff (p : List Nd) (c : Cr) : crewOk p c = true ↔ CrewOk p c := by
  simp only [crewOk, dequesB, rowsB, Bool.and_eq_true, decide_eq_true_eq, List.all_eq_true, List.mem_range]
  constructor
  · rintro ⟨⟨⟨⟨⟨⟨h1, h2⟩, h3⟩, h4⟩, h5⟩, h6⟩, h7⟩
    exact ⟨h1, h2, h3, h4, h5, h6, h7⟩
  · rintro ⟨h1, h2, h3, h4, h5, h6, h7⟩
    exact ⟨⟨⟨⟨⟨⟨h1, h2⟩, h3⟩, h4⟩, h5⟩, h6⟩, h7⟩
theorem crewOk_not {p : List Nd} {c : Cr} (h : ¬ CrewOk p c) : crewOk p c = false := by
  cases hc : crewOk p c with
  | false => rfl
  | true => exact absurd ((crewOk_iff p c).1 hc) h

/-! orders -/
theorem ordAt_iff (p : List Nd) (dn : List Int) (i : Nat) : ordAt p dn i = true ↔ (0 ≤ dn.getD i 0 ∧ dn.getD i 0 < (p.length : Int)) ∧ dn.getD i 0 ∉ dn.take i ∧ ∀ f ∈ (p.getD (dn.getD i 0).toNat default).frm, f ∈ dn.take i := by
  simp only [ordAt, Bool.and_eq_true, decide_eq_true_eq, List.all_eq_true, and_assoc]
theorem orderB_iff (p : List Nd) (dn : List Int) : orderB p dn = true ↔ ∀ i, i < dn.length → ordAt p dn i = true := by
  simp only [orderB, List.all_eq_true, List.mem_range]
theorem getDI' {xs : List Int} {t : Nat} (h : t < xs.length) : xs.getD t 0 = xs[t] := by simp [List.getD_eq_getElem?_getD, List.getElem?_eq_getElem h]
theorem order_mem {p : List Nd} {dn : List Int} (h : orderB p dn = true) {a : Int} (ha : a ∈ dn) : 0 ≤ a ∧ a < (p.length : Int) := by
  obtain ⟨i, hi, rfl⟩ := List.getElem_of_mem ha
  have := ((ordAt_iff p dn i).1 ((orderB_iff p dn).1 h i hi)).1
  rw [getDI' hi] at this
  exact this
theorem order_needs {p : List Nd} {dn : List Int} (h : orderB p dn = true) {a : Int} (ha : a ∈ dn) : ∀ f ∈ (p.getD a.toNat default).frm, f ∈ dn := by
  obtain ⟨i, hi, rfl⟩ := List.getElem_of_mem ha
  have := ((ordAt_iff p dn i).1 ((orderB_iff p dn).1 h i hi)).2.2
  rw [getDI' hi] at this
  exact fun f hf => List.mem_of_mem_take (this f hf)
theorem order_nodup {p : List Nd} {dn : List Int} (h : orderB p dn = true) : dn.Nodup := by
  refine List.pairwise_iff_getElem.2 fun i j hi hj hij he => ?_
  have := ((ordAt_iff p dn j).1 ((orderB_iff p dn).1 h j hj)).2.1
  rw [getDI' hj] at this
  refine this (List.mem_of_getElem? (i := i) ?_)
  rw [List.getElem?_take_of_lt hij, List.getElem?_eq_getElem hi, he]
theorem nodup_lenI {D : List Int} {n : Nat} (hn : D.Nodup) (h : ∀ a ∈ D, 0 ≤ a ∧ a < (n : Int)) : D.length ≤ n := by
  have := hn.length_le_of_subset (l₂ := (List.range n).map fun (j : Nat) => (j : Int)) fun a ha => by
    have := h a ha
    exact List.mem_map.2 ⟨a.toNat, List.mem_range.2 (by omega), by omega⟩
  simpa using this

/-! counts -/
theorem filter_more {D : List Int} {a : Nat} (ha : (a : Int) ∉ D) : ∀ {l : List Nat}, l.Nodup →
    (l.filter fun (f : Nat) => decide ((f : Int) ∉ D)).length = (l.filter fun (f : Nat) => decide ((f : Int) ∉ D ++ [(a : Int)])).length + (if a ∈ l then 1 else 0)
  | [], _ => rfl
  | x :: l, hn => by
    rw [List.nodup_cons] at hn
    have ih := filter_more ha hn.2
    by_cases hx : x = a
    · subst hx
      rw [List.filter_cons, if_pos (by simpa using ha), List.filter_cons, if_neg (by simp), if_pos (by simp), List.length_cons, ih, if_neg hn.1]
    · have hm : (a ∈ x :: l) = (a ∈ l) := by simp [Ne.symm hx]
      have he : decide ((x : Int) ∉ D ++ [(a : Int)]) = decide ((x : Int) ∉ D) := decide_eq_decide.2 (by
        rw [List.mem_append, List.mem_singleton]
        have : ¬ (x : Int) = (a : Int) := by omega
        simp [this])
      rw [List.filter_cons, List.filter_cons, he]
      simp only [hm]
      split
      · rw [List.length_cons, List.length_cons, ih]; omega
      · exact ih
theorem cntB_snoc {p : List Nd} {D : List Int} {a u : Nat} (ha : (a : Int) ∉ D) : cntB p D u = cntB p (D ++ [(a : Int)]) u + (if a ∈ needTo (p.getD u default).frm then 1 else 0) := filter_more ha (needTo_nodup _)
theorem cntB_le (p : List Nd) (D : List Int) (u : Nat) : cntB p D u ≤ (needTo (p.getD u default).frm).length := List.length_filter_le _ _
theorem cntB_nil (p : List Nd) (u : Nat) : cntB p [] u = (needTo (p.getD u default).frm).length := by simp [cntB]
theorem cntL_len (p : List Nd) (D : List Int) : (cntL p D).length = p.length := by simp [cntL]
theorem cntL_getD {p : List Nd} {D : List Int} {u : Nat} (h : u < p.length) : (cntL p D).getD u 0 = ((cntB p D u : Nat) : Int) := by
  rw [cntL, List.getD_eq_getElem?_getD, List.getElem?_map, List.getElem?_range h]; rfl
theorem cntL_get {p : List Nd} {D : List Int} {u : Nat} (h : u < (cntL p D).length) : (cntL p D)[u] = ((cntB p D u : Nat) : Int) := by simp [cntL]
theorem cntB_zero {p : List Nd} (hv : planOk p = true) {D : List Int} {u : Nat} (hu : u < p.length) : cntB p D u = 0 ↔ ∀ f ∈ (p.getD u default).frm, f ∈ D := by
  have hp := frm_pos hv hu
  rw [cntB, List.length_eq_zero_iff, List.filter_eq_nil_iff]
  constructor
  · intro h f hf
    have h1 := hp f hf
    have := h f.toNat ((mem_needTo' fun f h => (hp f h).1).2 (by rw [Int.toNat_of_nonneg h1.1]; exact hf))
    rw [Int.toNat_of_nonneg h1.1] at this
    simpa using this
  · intro h x hx
    have := h _ ((mem_needTo' fun f h => (hp f h).1).1 hx)
    simpa using this
/-- What is done next may be taken out of the counts. -/
theorem ord_step {p : List Nd} (hv : planOk p = true) {dn : List Int} {k : Nat} (hk : k < dn.length) (ho : ordAt p dn k = true) :
    doneOk p (cntL p (dn.take k)) dn[k] = true ∧ doneC p (cntL p (dn.take k)) dn[k] = cntL p (dn.take (k + 1)) := by
  obtain ⟨h1, h2, _⟩ := (ordAt_iff p dn k).1 ho
  rw [getDI' hk] at h1 h2
  obtain ⟨a, ha⟩ := Int.eq_ofNat_of_zero_le h1.1
  rw [ha] at h1 h2 ⊢
  have htk : dn.take (k + 1) = dn.take k ++ [(a : Int)] := by rw [List.take_succ_eq_append_getElem hk, ha]
  refine ⟨doneOk_of hv h1 (cntL_len _ _) fun i hi => ?_, ?_⟩
  · rw [cntL_getD hi]
    have h3 := cntB_le p (dn.take k) i
    refine ⟨by omega, fun hm => ?_⟩
    have h4 := cntB_snoc (p := p) (u := i) h2
    rw [if_pos ((mem_needTo' fun f h => (frm_pos hv hi f h).1).2 hm)] at h4
    omega
  · refine List.map_congr_left fun i hi => ?_
    have hi' := List.mem_range.1 hi
    rw [cntL_getD hi', htk]
    have h4 := cntB_snoc (p := p) (u := i) h2
    by_cases hm : (a : Int) ∈ (p.getD i default).frm
    · rw [if_pos ((mem_needTo' fun f h => (frm_pos hv hi' f h).1).2 hm)] at h4
      rw [if_pos hm]; omega
    · rw [if_neg (fun h => hm ((mem_needTo' fun f h => (frm_pos hv hi' f h).1).1 h))] at h4
      rw [if_neg hm]; omega

/-! deques -/
theorem readyI_asc (p : List Nd) (D : List Int) : (readyI p D).Pairwise (· < ·) := by
  have h : (readyL p D).Pairwise (· < ·) := List.pairwise_lt_range.filter _
  exact List.pairwise_map.2 (h.imp fun hab => by omega)
theorem readyI_nodup (p : List Nd) (D : List Int) : (readyI p D).Nodup := (readyI_asc p D).imp fun h => by omega
theorem readyI_len (p : List Nd) (D : List Int) : (readyI p D).length = (readyL p D).length := by simp [readyI]
theorem readyI_len_le (p : List Nd) (D : List Int) : (readyI p D).length ≤ p.length := by rw [readyI_len]; exact readyL_len p D
theorem mem_readyI {p : List Nd} {D : List Int} {a : Int} : a ∈ readyI p D ↔ (0 ≤ a ∧ a < (p.length : Int)) ∧ a ∉ D ∧ ∀ f ∈ (p.getD a.toNat default).frm, f ∈ D := by
  unfold readyI
  constructor
  · intro h
    obtain ⟨i, hi, rfl⟩ := List.mem_map.1 h
    have := mem_readyL.1 hi
    exact ⟨by omega, this.2.1, by simpa using this.2.2⟩
  · rintro ⟨h1, h2, h3⟩
    exact List.mem_map.2 ⟨a.toNat, mem_readyL.2 ⟨by omega, by rw [Int.toNat_of_nonneg h1.1]; exact h2, h3⟩, by omega⟩
theorem nodup_perm {A B : List Int} (hA : A.Nodup) (hs : ∀ a ∈ A, a ∈ B) (hl : B.length ≤ A.length) : A.Perm B := by
  induction A generalizing B with
  | nil => rw [List.eq_nil_of_length_eq_zero (Nat.le_zero.1 hl)]
  | cons a A ih =>
    rw [List.nodup_cons] at hA
    have ha := hs a (by simp)
    have hp := List.perm_cons_erase ha
    refine .trans (.cons a (ih hA.2 (fun x hx => ?_) ?_)) hp.symm
    · have hxa : x ≠ a := fun h => hA.1 (h ▸ hx)
      exact (List.mem_erase_of_ne hxa).2 (hs x (by simp [hx]))
    · have := hp.length_eq
      simp at this hl
      omega
theorem isort_eq {A R : List Int} (hR : R.Pairwise (· ≤ ·)) : isortL A = R ↔ A.Perm R := by
  constructor
  · rintro rfl; exact (isort_perm A).symm
  · intro h
    exact List.Perm.eq_of_pairwise (le := fun a b => a ≤ b) (fun a b _ _ h1 h2 => Int.le_antisymm h1 h2) (isort_sorted A) hR ((isort_perm A).trans h)
theorem readyI_le (p : List Nd) (D : List Int) : (readyI p D).Pairwise (· ≤ ·) := (readyI_asc p D).imp fun h => by omega
/-- The reference counts each ready node. -/
theorem deques_eq (p : List Nd) (c : Cr) : dequesB p c = ((readyI p c.dn).all (fun a => decide (c.dq.flatten.count a = 1)) && decide (c.dq.flatten.length = (readyI p c.dn).length)) := by
  have hiff : isortL c.dq.flatten = readyI p c.dn ↔ (∀ a ∈ readyI p c.dn, c.dq.flatten.count a = 1) ∧ c.dq.flatten.length = (readyI p c.dn).length := by
    rw [isort_eq (readyI_le p c.dn)]
    constructor
    · intro h
      refine ⟨fun a ha => ?_, h.length_eq⟩
      rw [h.count_eq, (readyI_nodup p c.dn).count, if_pos ha]
    · rintro ⟨h1, h2⟩
      exact (nodup_perm (readyI_nodup p c.dn) (fun a ha => List.count_pos_iff.1 (by rw [h1 a ha]; exact Nat.one_pos)) (by omega)).symm
  unfold dequesB
  by_cases h : isortL c.dq.flatten = readyI p c.dn
  · rw [decide_eq_true h]
    obtain ⟨h1, h2⟩ := hiff.1 h
    rw [List.all_eq_true.2 (fun a ha => decide_eq_true (h1 a ha)), decide_eq_true h2]; rfl
  · rw [decide_eq_false h]
    by_cases h1 : ∀ a ∈ readyI p c.dn, c.dq.flatten.count a = 1
    · rw [decide_eq_false (fun h2 => h (hiff.2 ⟨h1, h2⟩)), Bool.and_false]
    · have : (readyI p c.dn).all (fun a => decide (c.dq.flatten.count a = 1)) = false := by
        cases hb : (readyI p c.dn).all (fun a => decide (c.dq.flatten.count a = 1)) with
        | false => rfl
        | true => exact absurd (fun a ha => of_decide_eq_true (List.all_eq_true.1 hb a ha)) h1
      rw [this, Bool.false_and]
theorem CrewOk.perm {p : List Nd} {c : Cr} (h : CrewOk p c) : c.dq.flatten.Perm (readyI p c.dn) := (isort_eq (readyI_le p c.dn)).1 h.deq
theorem CrewOk.nodup {p : List Nd} {c : Cr} (h : CrewOk p c) : c.dq.flatten.Nodup := h.perm.symm.nodup (readyI_nodup p c.dn)
theorem CrewOk.mem {p : List Nd} {c : Cr} (h : CrewOk p c) {a : Int} : a ∈ c.dq.flatten ↔ a ∈ readyI p c.dn := h.perm.mem_iff
theorem CrewOk.size {p : List Nd} {c : Cr} (h : CrewOk p c) : c.dq.flatten.length = (readyI p c.dn).length := h.perm.length_eq

/-! who has a node -/
/-- The last worker that has a node. -/
def lastW (dq : List (List Int)) (a : Int) : Nat → Int
  | 0 => -1
  | w + 1 => if a ∈ dq.getD w [] then (w : Int) else lastW dq a w
/-- The first worker that has a node, from the k-th one on. -/
def firstW (dq : List (List Int)) (a : Int) : Int := match (List.range dq.length).find? (fun w => decide (a ∈ dq.getD w [])) with
  | some w => (w : Int)
  | none => -1
theorem lastW_no {dq : List (List Int)} {a : Int} : ∀ {n : Nat}, (∀ w, w < n → a ∉ dq.getD w []) → lastW dq a n = -1
  | 0, _ => rfl
  | n + 1, h => by rw [lastW, if_neg (h n (by omega))]; exact lastW_no fun w hw => h w (by omega)
theorem lastW_at {dq : List (List Int)} {a : Int} {k : Nat} (hk : a ∈ dq.getD k []) : ∀ {n : Nat}, k < n → (∀ w, k < w → w < n → a ∉ dq.getD w []) → lastW dq a n = (k : Int)
  | 0, h, _ => by omega
  | n + 1, h, hn => by
    rw [lastW]
    by_cases hkn : k = n
    · subst hkn; rw [if_pos hk]
    · rw [if_neg (hn n (by omega) (by omega))]
      exact lastW_at hk (by omega) fun w h1 h2 => hn w h1 (by omega)
theorem getLDV {rows : List (List Int)} {t : Nat} (h : t < rows.length) : rows.getD t [] = rows[t] := by simp [List.getD_eq_getElem?_getD, List.getElem?_eq_getElem h]
/-- No node is with two workers. -/
theorem flat_once : ∀ {dq : List (List Int)} {a : Int} {i j : Nat}, dq.flatten.Nodup → a ∈ dq.getD i [] → a ∈ dq.getD j [] → i = j
  | [], _, i, _, _, h, _ => by simp at h
  | d :: dq, a, 0, 0, _, _, _ => rfl
  | d :: dq, a, 0, j + 1, hn, hi, hj => by
    rw [List.flatten_cons, List.nodup_append] at hn
    have h1 : a ∈ dq.flatten := by
      have hj' : a ∈ dq.getD j [] := by simpa using hj
      rcases Nat.lt_or_ge j dq.length with h | h
      · rw [getLDV h] at hj'
        exact List.mem_flatten.2 ⟨_, List.getElem_mem h, hj'⟩
      · rw [List.getD_eq_getElem?_getD, List.getElem?_eq_none h] at hj'; simp at hj'
    exact absurd rfl (hn.2.2 a (by simpa using hi) a h1)
  | d :: dq, a, i + 1, 0, hn, hi, hj => by
    rw [List.flatten_cons, List.nodup_append] at hn
    have h1 : a ∈ dq.flatten := by
      have hi' : a ∈ dq.getD i [] := by simpa using hi
      rcases Nat.lt_or_ge i dq.length with h | h
      · rw [getLDV h] at hi'
        exact List.mem_flatten.2 ⟨_, List.getElem_mem h, hi'⟩
      · rw [List.getD_eq_getElem?_getD, List.getElem?_eq_none h] at hi'; simp at hi'
    exact absurd rfl (hn.2.2 a (by simpa using hj) a h1)
  | d :: dq, a, i + 1, j + 1, hn, hi, hj => by
    rw [List.flatten_cons, List.nodup_append] at hn
    have := flat_once hn.2.1 (show a ∈ dq.getD i [] by simpa using hi) (show a ∈ dq.getD j [] by simpa using hj)
    omega
theorem mem_flatD {dq : List (List Int)} {a : Int} : a ∈ dq.flatten ↔ ∃ w, w < dq.length ∧ a ∈ dq.getD w [] := by
  constructor
  · intro h
    obtain ⟨l, hl, ha⟩ := List.mem_flatten.1 h
    obtain ⟨w, hw, rfl⟩ := List.getElem_of_mem hl
    exact ⟨w, hw, by rw [getLDV hw]; exact ha⟩
  · rintro ⟨w, hw, ha⟩
    rw [getLDV hw] at ha
    exact List.mem_flatten.2 ⟨_, List.getElem_mem hw, ha⟩
/-- From which deque a worker takes. -/
def fromW (dq : List (List Int)) (w : Nat) : Int := match (List.range dq.length).find? (fun s => decide (dq.getD ((w + s) % dq.length) [] ≠ [])) with
  | some s => (((w + s) % dq.length : Nat) : Int)
  | none => -1
end Go.Proofs.Ytafljegjdanldaa

/- Plain: workers that take nodes whenever they have none. No program in sight. -/
namespace Go.Proofs.Ytafljegjdanldaa

/-- A time, what each worker has and until when, what is begun and what is done. -/
structure Gs where
  t : Nat
  has : List Int
  unt : List Int
  bg : List Int
  dn : List Int

def costN (p : List Nd) (a : Int) : Int := kindCost (p.getD a.toNat default).kind
def nextN (p : List Nd) (bg dn : List Int) : Option Int := (readyI p dn).find? fun a => decide (a ∉ bg)
/-- A worker without a node takes the next one. -/
def takeW (p : List Nd) (s : Gs) (w : Nat) : Gs :=
  if s.has.getD w 0 < 0 then
    match nextN p s.bg s.dn with
    | some a => ⟨s.t, s.has.set w a, s.unt.set w ((s.t : Int) + costN p a), s.bg ++ [a], s.dn⟩
    | none => s
  else s
def takeTo (p : List Nd) (s : Gs) : Nat → Gs
  | 0 => s
  | k + 1 => takeW p (takeTo p s k) k
/-- A worker whose time has come is done. -/
def finW (s : Gs) (w : Nat) : Gs := if 0 ≤ s.has.getD w 0 ∧ s.unt.getD w 0 = (s.t : Int) then ⟨s.t, s.has.set w (-1), s.unt, s.bg, s.dn ++ [s.has.getD w 0]⟩ else s
def finTo (s : Gs) : Nat → Gs
  | 0 => s
  | k + 1 => finW (finTo s k) k
def Gs.at (s : Gs) (t : Nat) : Gs := ⟨t, s.has, s.unt, s.bg, s.dn⟩
def tickG (p : List Nd) (wk : Nat) (s : Gs) : Gs := finTo ((takeTo p s wk).at (s.t + 1)) wk
def stN (p : List Nd) (wk : Nat) : Nat → Gs
  | 0 => ⟨0, List.replicate wk (-1), List.replicate wk 0, [], []⟩
  | k + 1 => tickG p wk (stN p wk k)

/-! sums -/
def sumR (f : Nat → Int) : Nat → Int
  | 0 => 0
  | k + 1 => sumR f k + f k
theorem sumR_congr {f g : Nat → Int} : ∀ {k : Nat}, (∀ i, i < k → f i = g i) → sumR f k = sumR g k
  | 0, _ => rfl
  | k + 1, h => by
    simp only [sumR]
    rw [sumR_congr fun i hi => h i (by omega), h k (by omega)]
theorem sumR_upd {f g : Nat → Int} {v : Nat} : ∀ {k : Nat}, v < k → (∀ i, i < k → i ≠ v → f i = g i) → sumR f k = sumR g k + (f v - g v)
  | k + 1, hv, h => by
    simp only [sumR]
    rcases Nat.lt_or_ge v k with h1 | h1
    · rw [sumR_upd h1 fun i hi => h i (by omega), h k (by omega) (by omega)]; omega
    · obtain rfl : v = k := by omega
      rw [sumR_congr fun i hi => h i (by omega) (by omega)]; omega
theorem sumR_add {f g e : Nat → Int} : ∀ {k : Nat}, (∀ i, i < k → f i = g i + e i) → sumR f k = sumR g k + sumR e k
  | 0, _ => rfl
  | k + 1, h => by
    simp only [sumR]
    rw [sumR_add fun i hi => h i (by omega), h k (by omega)]; omega
theorem sumR_nonneg {f : Nat → Int} : ∀ {k : Nat}, (∀ i, i < k → 0 ≤ f i) → 0 ≤ sumR f k
  | 0, _ => Int.le_refl _
  | k + 1, h => by
    have h1 := sumR_nonneg (k := k) fun i hi => h i (by omega)
    have h2 := h k (by omega)
    simp only [sumR]
    omega
theorem sumR_le {f : Nat → Int} : ∀ {k : Nat}, (∀ i, i < k → f i ≤ 1) → sumR f k ≤ k
  | 0, _ => Int.le_refl _
  | k + 1, h => by
    have h1 := sumR_le (k := k) fun i hi => h i (by omega)
    have h2 := h k (by omega)
    simp only [sumR]
    omega
theorem sumR_one {f : Nat → Int} {c : Int} : ∀ {k : Nat}, (∀ i, i < k → f i = c) → sumR f k = c * k
  | 0, _ => by simp [sumR]
  | k + 1, h => by
    have h1 := sumR_one (k := k) fun i hi => h i (by omega)
    have h2 := h k (by omega)
    simp only [sumR]
    rw [h1, h2, Int.natCast_add, Int.mul_add]
    simp
theorem sumR_pos {f : Nat → Int} {v : Nat} {k : Nat} (hv : v < k) (h : ∀ i, i < k → 0 ≤ f i) : f v ≤ sumR f k := by
  have h1 := sumR_upd (f := f) (g := fun i => if i = v then 0 else f i) hv (fun i _ hne => by simp [hne])
  have h2 := sumR_nonneg (f := fun i => if i = v then 0 else f i) (k := k) fun i hi => by
    split
    · omega
    · exact h i hi
  simp at h1
  omega

/-! what is next -/
theorem nextN_some {p : List Nd} {bg dn : List Int} {a : Int} (h : nextN p bg dn = some a) : a ∈ readyI p dn ∧ a ∉ bg := by
  refine ⟨List.mem_of_find?_eq_some h, ?_⟩
  have := List.find?_some h
  simpa using this
theorem nextN_none {p : List Nd} {bg dn : List Int} (h : nextN p bg dn = none) : ∀ a ∈ readyI p dn, a ∈ bg := fun a ha => by
  have := List.find?_eq_none.1 h a ha
  simpa using this

/-- What holds of workers, of the places up to 'e' behind the time. -/
structure GI (p : List Nd) (wk : Nat) (e : Nat → Int) (s : Gs) : Prop where
  hl : s.has.length = wk
  ul : s.unt.length = wk
  cl : Closed p s.dn
  bd : ∀ a ∈ s.dn, a ∈ s.bg
  bh : ∀ w, w < wk → 0 ≤ s.has.getD w 0 → s.has.getD w 0 ∈ s.bg
  bb : ∀ a ∈ s.bg, a ∈ s.dn ∨ ∃ w, w < wk ∧ s.has.getD w 0 = a
  br : ∀ a ∈ s.bg, 0 ≤ a ∧ a < (p.length : Int)
  bn : s.bg.Nodup
  rn : ∀ w, w < wk → 0 ≤ s.has.getD w 0 → s.has.getD w 0 ∉ s.dn ∧ (∀ f ∈ (p.getD (s.has.getD w 0).toNat default).frm, f ∈ s.dn) ∧ (s.t : Int) + e w ≤ s.unt.getD w 0
  inj : ∀ v w, v < wk → w < wk → 0 ≤ s.has.getD v 0 → s.has.getD v 0 = s.has.getD w 0 → v = w

theorem costN_pos (p : List Nd) (a : Int) : 1 ≤ costN p a ∧ costN p a ≤ 4 := kindCost_rg _
theorem GI.start (p : List Nd) (wk : Nat) (e : Nat → Int) : GI p wk e (stN p wk 0) := by
  have h : ∀ w, w < wk → (List.replicate wk (-1 : Int)).getD w 0 = -1 := fun w hw => by
    rw [List.getD_eq_getElem?_getD, List.getElem?_replicate, if_pos hw]; rfl
  refine ⟨by simp [stN], by simp [stN], Closed.nil p, by simp [stN], fun w hw h1 => ?_, by simp [stN], by simp [stN], by simp [stN], fun w hw h1 => ?_, fun v w hv hw h1 => ?_⟩
  all_goals
    simp only [stN] at h1
    rw [h _ (by assumption)] at h1
    omega
theorem GI.weak {p : List Nd} {wk : Nat} {e e' : Nat → Int} {s : Gs} (h : GI p wk e s) (he : ∀ w, w < wk → e' w ≤ e w) : GI p wk e' s :=
  ⟨h.hl, h.ul, h.cl, h.bd, h.bh, h.bb, h.br, h.bn, fun w hw h1 => ⟨(h.rn w hw h1).1, (h.rn w hw h1).2.1, by have := (h.rn w hw h1).2.2; have := he w hw; omega⟩, h.inj⟩
theorem GI.take {p : List Nd} {wk : Nat} {s : Gs} (h : GI p wk (fun _ => 1) s) {w : Nat} (hw : w < wk) : GI p wk (fun _ => 1) (takeW p s w) := by
  unfold takeW
  split
  · rename_i hneg
    split
    · rename_i a hn
      obtain ⟨h1, h2⟩ := nextN_some hn
      obtain ⟨h3, h4, h5⟩ := mem_readyI.1 h1
      have hc := costN_pos p a
      have hg : ∀ v, (s.has.set w a).getD v 0 = if w = v then a else s.has.getD v 0 := fun v => getD_setI (by rw [h.hl]; exact hw)
      have hu : ∀ v, (s.unt.set w ((s.t : Int) + costN p a)).getD v 0 = if w = v then (s.t : Int) + costN p a else s.unt.getD v 0 := fun v => getD_setI (by rw [h.ul]; exact hw)
      refine ⟨by simp [h.hl], by simp [h.ul], h.cl, fun b hb => List.mem_append_left _ (h.bd b hb), fun v hv h6 => ?_, fun b hb => ?_, fun b hb => ?_, ?_, fun v hv h6 => ?_, fun u v hu' hv h6 h7 => ?_⟩
      · simp only [hg] at h6 ⊢
        split
        · simp
        · rename_i hne
          rw [if_neg hne] at h6
          exact List.mem_append_left _ (h.bh v hv h6)
      · simp only [List.mem_append, List.mem_singleton] at hb
        rcases hb with hb | rfl
        · rcases h.bb b hb with h6 | ⟨v, hv, h6⟩
          · exact .inl h6
          · have hb2 := h.br b hb
            exact .inr ⟨v, hv, by simp only [hg]; rw [if_neg (fun he => by subst he; omega)]; exact h6⟩
        · exact .inr ⟨w, hw, by simp only [hg, if_true]⟩
      · simp only [List.mem_append, List.mem_singleton] at hb
        rcases hb with hb | rfl
        · exact h.br b hb
        · exact h3
      · refine List.nodup_append.2 ⟨h.bn, by simp, fun x hx y hy => ?_⟩
        simp only [List.mem_singleton] at hy
        subst hy
        exact fun he => h2 (he ▸ hx)
      · simp only [hg, hu] at h6 ⊢
        split
        · exact ⟨h4, h5, by omega⟩
        · rename_i hne
          rw [if_neg hne] at h6
          exact h.rn v hv h6
      · simp only [hg] at h6 h7
        by_cases e1 : w = u
        · by_cases e2 : w = v
          · omega
          · rw [if_pos e1, if_neg e2] at h7
            rw [if_pos e1] at h6
            exact absurd (h7 ▸ h.bh v hv (by omega)) h2
        · rw [if_neg e1] at h6 h7
          by_cases e2 : w = v
          · rw [if_pos e2] at h7
            exact absurd (h7 ▸ h.bh u hu' h6) h2
          · rw [if_neg e2] at h7
            exact h.inj u v hu' hv h6 h7
    · exact h
  · exact h
theorem takeW_t (p : List Nd) (s : Gs) (w : Nat) : (takeW p s w).t = s.t ∧ (takeW p s w).dn = s.dn := by
  unfold takeW
  split
  · split <;> exact ⟨rfl, rfl⟩
  · exact ⟨rfl, rfl⟩
theorem takeTo_t (p : List Nd) (s : Gs) : ∀ k, (takeTo p s k).t = s.t ∧ (takeTo p s k).dn = s.dn
  | 0 => ⟨rfl, rfl⟩
  | k + 1 => by
    have h1 := takeTo_t p s k
    have h2 := takeW_t p (takeTo p s k) k
    exact ⟨h2.1.trans h1.1, h2.2.trans h1.2⟩
theorem GI.takes {p : List Nd} {wk : Nat} {s : Gs} (h : GI p wk (fun _ => 1) s) : ∀ k, k ≤ wk → GI p wk (fun _ => 1) (takeTo p s k)
  | 0, _ => h
  | k + 1, hk => (h.takes k (by omega)).take (by omega)
/-- Nobody waits while a node is ready. -/
def Calm (p : List Nd) (s : Gs) (k : Nat) : Prop := ∀ w, w < k → s.has.getD w 0 < 0 → nextN p s.bg s.dn = none
theorem calm_takes {p : List Nd} {wk : Nat} {s : Gs} (h : GI p wk (fun _ => 1) s) : ∀ k, k ≤ wk → Calm p (takeTo p s k) k
  | 0, _ => fun w hw => by omega
  | k + 1, hk => by
    have ih := calm_takes h k (by omega)
    have hI := h.takes k (by omega)
    intro w hw hn
    simp only [takeTo] at hn ⊢
    unfold takeW at hn ⊢
    split
    · rename_i hneg
      rw [if_pos hneg] at hn
      split
      · rename_i a he
        rw [he] at hn
        simp only at hn
        rw [getD_setI (by rw [hI.hl]; omega)] at hn
        have ha := nextN_some he
        have h3 := (mem_readyI.1 ha.1).1
        by_cases hkw : k = w
        · rw [if_pos hkw] at hn; omega
        · rw [if_neg hkw] at hn
          rw [ih w (by omega) hn] at he
          cases he
      · rename_i he; exact he
    · rename_i hneg
      rw [if_neg hneg] at hn
      by_cases hkw : k = w
      · subst hkw; exact absurd hn hneg
      · exact ih w (by omega) hn
/-- Who is calm takes nothing. -/
theorem takeTo_calm {p : List Nd} {s : Gs} {k : Nat} : ∀ j, j ≤ k → Calm p s k → takeTo p s j = s
  | 0, _, _ => rfl
  | j + 1, hj, h => by
    simp only [takeTo]
    rw [takeTo_calm j (by omega) h]
    unfold takeW
    split
    · rename_i hn
      rw [h j (by omega) hn]
    · rfl

/-! the end of a step -/
theorem finW_t (s : Gs) (w : Nat) : (finW s w).t = s.t ∧ (finW s w).bg = s.bg := by
  unfold finW
  split <;> exact ⟨rfl, rfl⟩
theorem finTo_t (s : Gs) : ∀ k, (finTo s k).t = s.t ∧ (finTo s k).bg = s.bg
  | 0 => ⟨rfl, rfl⟩
  | k + 1 => by
    have h1 := finTo_t s k
    have h2 := finW_t (finTo s k) k
    exact ⟨h2.1.trans h1.1, h2.2.trans h1.2⟩
theorem Closed.snoc {p : List Nd} {D : List Int} (h : Closed p D) {a : Int} (ha : 0 ≤ a ∧ a < (p.length : Int)) (hn : a ∉ D) (hf : ∀ f ∈ (p.getD a.toNat default).frm, f ∈ D) : Closed p (D ++ [a]) := by
  refine ⟨List.nodup_append.2 ⟨h.nd, by simp, fun x hx y hy => ?_⟩, fun d hd => ?_, fun d hd f hm => ?_⟩
  · simp only [List.mem_singleton] at hy
    subst hy
    exact fun he => hn (he ▸ hx)
  · simp only [List.mem_append, List.mem_singleton] at hd
    rcases hd with hd | rfl
    · exact h.rg d hd
    · exact ha
  · simp only [List.mem_append, List.mem_singleton] at hd
    rcases hd with hd | rfl
    · exact List.mem_append_left _ (h.cl d hd f hm)
    · exact List.mem_append_left _ (hf f hm)
abbrev eAt (k : Nat) : Nat → Int := fun w => if w < k then 1 else 0
theorem GI.fin {p : List Nd} {wk : Nat} {s : Gs} {k : Nat} (h : GI p wk (eAt k) s) (hk : k < wk) : GI p wk (eAt (k + 1)) (finW s k) := by
  unfold finW
  split
  · rename_i hc
    obtain ⟨h1, h2⟩ := hc
    obtain ⟨h3, h4, h5⟩ := h.rn k hk h1
    have h6 := h.br _ (h.bh k hk h1)
    have hg : ∀ v, (s.has.set k (-1)).getD v 0 = if k = v then -1 else s.has.getD v 0 := fun v => getD_setI (by rw [h.hl]; exact hk)
    refine ⟨by simp [h.hl], h.ul, h.cl.snoc h6 h3 h4, fun b hb => ?_, fun v hv h7 => ?_, fun b hb => ?_, h.br, h.bn, fun v hv h7 => ?_, fun u v hu hv h7 h8 => ?_⟩
    · simp only [List.mem_append, List.mem_singleton] at hb
      rcases hb with hb | rfl
      · exact h.bd b hb
      · exact h.bh k hk h1
    · simp only [hg] at h7 ⊢
      split
      · rename_i he; rw [if_pos he] at h7; omega
      · rename_i hne; rw [if_neg hne] at h7; exact h.bh v hv h7
    · rcases h.bb b hb with h7 | ⟨v, hv, h7⟩
      · exact .inl (List.mem_append_left _ h7)
      · by_cases hkv : k = v
        · subst hkv
          exact .inl (List.mem_append_right _ (List.mem_singleton.2 h7.symm))
        · exact .inr ⟨v, hv, by simp only [hg]; rw [if_neg hkv]; exact h7⟩
    · simp only [hg] at h7 ⊢
      by_cases hkv : k = v
      · rw [if_pos hkv] at h7; omega
      · rw [if_neg hkv] at h7 ⊢
        obtain ⟨h8, h9, h10⟩ := h.rn v hv h7
        refine ⟨?_, fun f hf => List.mem_append_left _ (h9 f hf), ?_⟩
        · simp only [List.mem_append, List.mem_singleton, not_or]
          exact ⟨h8, fun he => hkv (h.inj v k hv hk h7 he).symm⟩
        · simp only [eAt] at h10 ⊢
          split at h10
          · rw [if_pos (by omega)]; exact h10
          · rw [if_neg (by omega)]; exact h10
    · simp only [hg] at h7 h8
      by_cases e1 : k = u
      · rw [if_pos e1] at h7; omega
      · rw [if_neg e1] at h7 h8
        by_cases e2 : k = v
        · rw [if_pos e2] at h8; omega
        · rw [if_neg e2] at h8
          exact h.inj u v hu hv h7 h8
  · rename_i hc
    refine ⟨h.hl, h.ul, h.cl, h.bd, h.bh, h.bb, h.br, h.bn, fun v hv h7 => ?_, h.inj⟩
    obtain ⟨h8, h9, h10⟩ := h.rn v hv h7
    refine ⟨h8, h9, ?_⟩
    simp only [eAt] at h10 ⊢
    by_cases hkv : v = k
    · subst hkv
      rw [if_neg (by omega)] at h10
      rw [if_pos (by omega)]
      have : ¬ s.unt.getD v 0 = (s.t : Int) := fun he => hc ⟨h7, he⟩
      omega
    · split at h10
      · rw [if_pos (by omega)]; exact h10
      · rw [if_neg (by omega)]; exact h10
theorem GI.fins {p : List Nd} {wk : Nat} {s : Gs} (h : GI p wk (fun _ => 0) s) : ∀ k, k ≤ wk → GI p wk (eAt k) (finTo s k)
  | 0, _ => h.weak fun w _ => by simp [eAt]
  | k + 1, hk => (h.fins k (by omega)).fin (by omega)
theorem GI.clock {p : List Nd} {wk : Nat} {s : Gs} (h : GI p wk (fun _ => 1) s) {t : Nat} (ht : ∀ w, w < wk → 0 ≤ s.has.getD w 0 → (t : Int) ≤ s.unt.getD w 0) : GI p wk (fun _ => 0) (s.at t) :=
  ⟨h.hl, h.ul, h.cl, h.bd, h.bh, h.bb, h.br, h.bn, fun w hw h1 => ⟨(h.rn w hw h1).1, (h.rn w hw h1).2.1, by have := ht w hw h1; show (t : Int) + 0 ≤ s.unt.getD w 0; omega⟩, h.inj⟩
theorem GI.all1 {p : List Nd} {wk : Nat} {s : Gs} (h : GI p wk (eAt wk) s) : GI p wk (fun _ => 1) s := h.weak fun w hw => by simp [eAt, hw]
theorem GI.tick {p : List Nd} {wk : Nat} {s : Gs} (h : GI p wk (fun _ => 1) s) : GI p wk (fun _ => 1) (tickG p wk s) := by
  have h1 := h.takes wk (Nat.le_refl _)
  have h2 := takeTo_t p s wk
  have h3 : GI p wk (fun _ => 0) ((takeTo p s wk).at (s.t + 1)) := h1.clock fun w hw h4 => by
    have := (h1.rn w hw h4).2.2
    rw [h2.1] at this
    omega
  exact (h3.fins wk (Nat.le_refl _)).all1
theorem GI.st (p : List Nd) (wk : Nat) : ∀ k, GI p wk (fun _ => 1) (stN p wk k)
  | 0 => GI.start p wk _
  | k + 1 => (GI.st p wk k).tick
theorem stN_t (p : List Nd) (wk : Nat) : ∀ k, (stN p wk k).t = k
  | 0 => rfl
  | k + 1 => by
    show (finTo ((takeTo p (stN p wk k) wk).at ((stN p wk k).t + 1)) wk).t = k + 1
    rw [(finTo_t _ wk).1]
    show (stN p wk k).t + 1 = k + 1
    rw [stN_t p wk k]
/-- Someone has a node while not all are done. -/
theorem GI.busy {p : List Nd} (hv : planOk p = true) {wk : Nat} (hw : 0 < wk) {s : Gs} (h : GI p wk (fun _ => 1) s) (hc : Calm p s wk) (hl : s.dn.length < p.length) : ∃ w, w < wk ∧ 0 ≤ s.has.getD w 0 := by
  rcases Int.lt_or_le (s.has.getD 0 0) 0 with h1 | h1
  · have h2 := nextN_none (hc 0 hw h1)
    have h3 := Closed.some hv h.cl hl
    obtain ⟨i, hi⟩ := List.exists_mem_of_ne_nil _ h3
    have h4 : (i : Int) ∈ readyI p s.dn := List.mem_map_of_mem hi
    rcases h.bb _ (h2 _ h4) with h5 | ⟨w, hw2, h5⟩
    · exact absurd h5 (mem_readyL.1 hi).2.1
    · exact ⟨w, hw2, by omega⟩
  · exact ⟨0, hw, h1⟩
end Go.Proofs.Ytafljegjdanldaa

/- Plain laws: how long workers need that never wait while a node is ready. -/
namespace Go.Proofs.Ytafljegjdanldaa

/-- What the most expensive path to a node costs, and that to what it needs. -/
def PT (p : List Nd) (a : Int) : Int := (pathsTo p p.length).getD a.toNat 0
def UP (p : List Nd) (a : Int) : Int := upOf 0 (pathsTo p a.toNat) (p.getD a.toNat default).frm
theorem PT_eq {p : List Nd} {a : Int} (h : 0 ≤ a ∧ a < (p.length : Int)) : PT p a = UP p a + costN p a := pathsTo_getD (by omega)
theorem PT_le_UP {p : List Nd} (hv : planOk p = true) {a f : Int} (h : 0 ≤ a ∧ a < (p.length : Int)) (hf : f ∈ (p.getD a.toNat default).frm) : PT p f ≤ UP p a := by
  have h1 := frm_pos hv (show a.toNat < p.length by omega) f hf
  have h2 := le_upOf (c := 0) (ps := pathsTo p a.toNat) hf
  have h3 : (pathsTo p a.toNat).getD f.toNat 0 = (pathsTo p p.length).getD f.toNat 0 := progTo_same (by omega) (by omega)
  unfold PT UP
  omega
theorem UP_le {p : List Nd} (hv : planOk p = true) {a b : Int} (h : 0 ≤ a ∧ a < (p.length : Int)) (hb : 0 ≤ b) (hf : ∀ f ∈ (p.getD a.toNat default).frm, PT p f ≤ b) : UP p a ≤ b := upOf_le hb fun f hm => by
  have h1 := frm_pos hv (show a.toNat < p.length by omega) f hm
  have h3 : (pathsTo p a.toNat).getD f.toNat 0 = (pathsTo p p.length).getD f.toNat 0 := progTo_same (by omega) (by omega)
  have := hf f hm
  unfold PT at this
  omega
theorem PT_le_most {p : List Nd} {a : Int} (h : 0 ≤ a ∧ a < (p.length : Int)) : PT p a ≤ mostOf (pathsTo p p.length) := le_mostOf (getD_mem (by rw [pathsTo_len]; omega))

def rem1 (s : Gs) (w : Nat) : Int := if 0 ≤ s.has.getD w 0 then s.unt.getD w 0 - (s.t : Int) else 0
def busy1 (s : Gs) (w : Nat) : Int := if 0 ≤ s.has.getD w 0 then 1 else 0
def unb1 (p : List Nd) (bg : List Int) (i : Nat) : Int := if (i : Int) ∈ bg then 0 else kindCost (p.getD i default).kind

/-- Work and waiting so far. -/
structure GP (p : List Nd) (wk : Nat) (I W : Int) (s : Gs) : Prop where
  run : ∀ w, w < wk → 0 ≤ s.has.getD w 0 → I + (s.unt.getD w 0 - (s.t : Int)) ≤ PT p (s.has.getD w 0) ∧ PT p (s.has.getD w 0) ≤ s.unt.getD w 0
  rdy : ∀ a ∈ readyI p s.dn, a ∉ s.bg → I ≤ UP p a
  dnp : ∀ a ∈ s.dn, PT p a ≤ (s.t : Int)
  wrk : W + sumR (rem1 s) wk + sumR (unb1 p s.bg) p.length = sumTo p p.length

theorem sumTo_sumR (p : List Nd) : ∀ k, sumTo p k = sumR (fun i => kindCost (p.getD i default).kind) k
  | 0 => rfl
  | k + 1 => by simp only [sumTo, sumR]; rw [sumTo_sumR p k]
theorem GP.start (p : List Nd) (wk : Nat) : GP p wk 0 0 (stN p wk 0) := by
  have h : ∀ w, w < wk → (List.replicate wk (-1 : Int)).getD w 0 = -1 := fun w hw => by
    rw [List.getD_eq_getElem?_getD, List.getElem?_replicate, if_pos hw]; rfl
  refine ⟨fun w hw h1 => ?_, fun a _ _ => upOf_nonneg _ _ _, by simp [stN], ?_⟩
  · simp only [stN] at h1
    rw [h w hw] at h1
    omega
  · rw [sumTo_sumR, sumR_congr (f := rem1 (stN p wk 0)) (g := fun _ => 0) fun i hi => by
      have h3 : ¬ 0 ≤ (stN p wk 0).has.getD i 0 := by
        have := h i hi
        show ¬ 0 ≤ (List.replicate wk (-1 : Int)).getD i 0
        omega
      unfold rem1
      rw [if_neg h3], sumR_one (c := 0) fun _ _ => rfl, sumR_congr (f := unb1 p (stN p wk 0).bg) (g := fun i => kindCost (p.getD i default).kind) fun i hi => by simp [unb1, stN]]
    omega
theorem GP.take {p : List Nd} (hv : planOk p = true) {wk : Nat} {I W : Int} {s : Gs} (hI : GI p wk (fun _ => 1) s) (h : GP p wk I W s) {w : Nat} (hw : w < wk) : GP p wk I W (takeW p s w) := by
  unfold takeW
  split
  · rename_i hneg
    split
    · rename_i a hn
      obtain ⟨h1, h2⟩ := nextN_some hn
      obtain ⟨h3, h4, h5⟩ := mem_readyI.1 h1
      have hc := costN_pos p a
      have hg : ∀ v, (s.has.set w a).getD v 0 = if w = v then a else s.has.getD v 0 := fun v => getD_setI (by rw [hI.hl]; exact hw)
      have hu : ∀ v, (s.unt.set w ((s.t : Int) + costN p a)).getD v 0 = if w = v then (s.t : Int) + costN p a else s.unt.getD v 0 := fun v => getD_setI (by rw [hI.ul]; exact hw)
      have e1 := PT_eq h3
      have e2 := h.rdy a h1 h2
      have e3 := UP_le hv h3 (Int.natCast_nonneg s.t) fun f hf => h.dnp f (h5 f hf)
      refine ⟨fun v hv h6 => ?_, fun b hb hnb => h.rdy b hb fun hm => hnb (List.mem_append_left _ hm), h.dnp, ?_⟩
      · simp only [hg, hu] at h6 ⊢
        by_cases hwv : w = v
        · simp only [hwv, if_true] at h6 ⊢
          omega
        · simp only [hwv, if_false] at h6 ⊢
          exact h.run v hv h6
      · have e4 := h.wrk
        have e5 := sumR_upd (f := rem1 ⟨s.t, s.has.set w a, s.unt.set w ((s.t : Int) + costN p a), s.bg ++ [a], s.dn⟩) (g := rem1 s) hw fun i _ hne => by
          unfold rem1
          simp only [hg, hu]
          rw [if_neg (show ¬ w = i from fun he => hne he.symm), if_neg (show ¬ w = i from fun he => hne he.symm)]
        have e6 : rem1 ⟨s.t, s.has.set w a, s.unt.set w ((s.t : Int) + costN p a), s.bg ++ [a], s.dn⟩ w = costN p a := by
          unfold rem1
          simp only [hg, hu, if_true]
          rw [if_pos h3.1]; omega
        have e7 : rem1 s w = 0 := by unfold rem1; rw [if_neg (by omega)]
        have e8 := sumR_upd (f := unb1 p (s.bg ++ [a])) (g := unb1 p s.bg) (v := a.toNat) (k := p.length) (by omega) fun i _ hne => by
          unfold unb1
          have : (i : Int) ∈ s.bg ++ [a] ↔ (i : Int) ∈ s.bg := by
            rw [List.mem_append, List.mem_singleton]
            exact ⟨fun hx => hx.resolve_right (by omega), .inl⟩
          simp only [this]
        have e9 : unb1 p (s.bg ++ [a]) a.toNat = 0 := by
          unfold unb1
          rw [if_pos (by rw [Int.toNat_of_nonneg h3.1]; simp)]
        have e10 : unb1 p s.bg a.toNat = costN p a := by
          unfold unb1
          rw [if_neg (by rw [Int.toNat_of_nonneg h3.1]; exact h2)]; rfl
        simp only
        omega
    · exact h
  · exact h
theorem GP.takes {p : List Nd} (hv : planOk p = true) {wk : Nat} {I W : Int} {s : Gs} (hI : GI p wk (fun _ => 1) s) (h : GP p wk I W s) : ∀ k, k ≤ wk → GP p wk I W (takeTo p s k)
  | 0, _ => h
  | k + 1, hk => (GP.takes hv hI h k (by omega)).take hv (hI.takes k (by omega)) (by omega)
theorem GP.fin {p : List Nd} (hv : planOk p = true) {wk : Nat} {I W : Int} {s : Gs} {k : Nat} (hI : GI p wk (eAt k) s) (h : GP p wk I W s) (hk : k < wk) : GP p wk I W (finW s k) := by
  unfold finW
  split
  · rename_i hc
    obtain ⟨h1, h2⟩ := hc
    have hg : ∀ v, (s.has.set k (-1)).getD v 0 = if k = v then -1 else s.has.getD v 0 := fun v => getD_setI (by rw [hI.hl]; exact hk)
    have h3 := h.run k hk h1
    refine ⟨fun v hv2 h6 => ?_, fun b hb hnb => ?_, fun b hb => ?_, ?_⟩
    · simp only [hg] at h6 ⊢
      by_cases hkv : k = v
      · simp only [hkv, if_true] at h6; omega
      · simp only [hkv, if_false] at h6 ⊢
        exact h.run v hv2 h6
    · obtain ⟨h4, h5, h6⟩ := mem_readyI.1 hb
      by_cases hm : s.has.getD k 0 ∈ (p.getD b.toNat default).frm
      · have := PT_le_UP hv h4 hm
        omega
      · refine h.rdy b (mem_readyI.2 ⟨h4, fun hx => h5 (List.mem_append_left _ hx), fun f hf => ?_⟩) hnb
        rcases List.mem_append.1 (h6 f hf) with h7 | h7
        · exact h7
        · rw [List.mem_singleton] at h7
          exact absurd (h7 ▸ hf) hm
    · rcases List.mem_append.1 hb with h4 | h4
      · exact h.dnp b h4
      · rw [List.mem_singleton] at h4
        subst h4
        show PT p _ ≤ (s.t : Int)
        omega
    · have e4 := h.wrk
      have e5 := sumR_congr (f := rem1 ⟨s.t, s.has.set k (-1), s.unt, s.bg, s.dn ++ [s.has.getD k 0]⟩) (g := rem1 s) (k := wk) fun i _ => by
        unfold rem1
        simp only [hg]
        by_cases hki : k = i
        · subst hki
          rw [if_pos rfl, if_neg (by omega), if_pos h1]; omega
        · rw [if_neg hki]
      simp only
      omega
  · exact h
theorem GP.fins {p : List Nd} (hv : planOk p = true) {wk : Nat} {I W : Int} {s : Gs} (hI : GI p wk (fun _ => 0) s) (h : GP p wk I W s) : ∀ k, k ≤ wk → GP p wk I W (finTo s k)
  | 0, _ => h
  | k + 1, hk => (GP.fins hv hI h k (by omega)).fin hv (hI.fins k (by omega)) (by omega)
theorem rem_clock {wk : Nat} {s : Gs} : sumR (rem1 (s.at (s.t + 1))) wk = sumR (rem1 s) wk - sumR (busy1 s) wk := by
  have := sumR_add (f := rem1 s) (g := rem1 (s.at (s.t + 1))) (e := busy1 s) (k := wk) fun i _ => by
    unfold rem1 busy1 Gs.at
    simp only
    split <;> omega
  omega
theorem GP.clock {p : List Nd} {wk : Nat} {I W : Int} {s : Gs} (h : GP p wk I W s) : GP p wk I (W + sumR (busy1 s) wk) (s.at (s.t + 1)) := by
  refine ⟨fun w hw h1 => ?_, h.rdy, fun a ha => ?_, ?_⟩
  · have := h.run w hw h1
    simp only [Gs.at]
    omega
  · have := h.dnp a ha
    simp only [Gs.at]
    omega
  · have := h.wrk
    rw [rem_clock]
    simp only [Gs.at]
    omega
theorem GP.clockIdle {p : List Nd} {wk : Nat} {I W : Int} {s : Gs} (h : GP p wk I W s) (hn : nextN p s.bg s.dn = none) : GP p wk (I + 1) (W + sumR (busy1 s) wk) (s.at (s.t + 1)) := by
  refine ⟨fun w hw h1 => ?_, fun a ha hna => absurd (nextN_none hn a ha) hna, fun a ha => ?_, ?_⟩
  · have := h.run w hw h1
    simp only [Gs.at]
    omega
  · have := h.dnp a ha
    simp only [Gs.at]
    omega
  · have := h.wrk
    rw [rem_clock]
    simp only [Gs.at]
    omega
/-- One step: who works, and who waits. -/
theorem GP.tick {p : List Nd} (hv : planOk p = true) {wk : Nat} (hw : 0 < wk) {I W : Int} {s : Gs} (hI : GI p wk (fun _ => 1) s) (h : GP p wk I W s) (hl : s.dn.length < p.length) :
    ∃ I' b, GP p wk I' (W + b) (tickG p wk s) ∧ 1 ≤ b ∧ b ≤ (wk : Int) ∧ ((I' = I ∧ b = wk) ∨ (I' = I + 1 ∧ I' ≤ mostOf (pathsTo p p.length))) := by
  have h1 := hI.takes wk (Nat.le_refl _)
  have h2 := takeTo_t p s wk
  have h3 : GI p wk (fun _ => 0) ((takeTo p s wk).at (s.t + 1)) := h1.clock fun w hw h4 => by
    have := (h1.rn w hw h4).2.2
    rw [h2.1] at this
    omega
  have hP := GP.takes hv hI h wk (Nat.le_refl _)
  have hc := calm_takes hI wk (Nat.le_refl _)
  obtain ⟨w, hww, hb⟩ := h1.busy hv hw hc (by rw [h2.2]; exact hl)
  have hb0 : ∀ i, i < wk → 0 ≤ busy1 (takeTo p s wk) i := fun i _ => by unfold busy1; split <;> omega
  have hb1 := sumR_pos hww hb0
  have hb2 : sumR (busy1 (takeTo p s wk)) wk ≤ wk := sumR_le fun i _ => by unfold busy1; split <;> omega
  have hbw : busy1 (takeTo p s wk) w = 1 := by unfold busy1; rw [if_pos hb]
  rcases Classical.em (∃ v, v < wk ∧ (takeTo p s wk).has.getD v 0 < 0) with ⟨v, hvw, hv0⟩ | hno
  · have h4 := hP.clockIdle (hc v hvw hv0)
    rw [h2.1] at h4
    have h5 := (h4.run w hww hb).1
    have h6 := (h1.rn w hww hb).2.2
    have h7 := PT_le_most (h1.br _ (h1.bh w hww hb))
    rw [h2.1] at h6
    have h8 : I + 1 + ((takeTo p s wk).unt.getD w 0 - ((s.t + 1 : Nat) : Int)) ≤ PT p ((takeTo p s wk).has.getD w 0) := h5
    exact ⟨_, _, GP.fins hv h3 h4 wk (Nat.le_refl _), by omega, hb2, .inr ⟨rfl, by omega⟩⟩
  · have h4 := hP.clock
    rw [h2.1] at h4
    refine ⟨_, _, GP.fins hv h3 h4 wk (Nat.le_refl _), by omega, hb2, .inl ⟨rfl, ?_⟩⟩
    have := sumR_one (f := busy1 (takeTo p s wk)) (c := 1) (k := wk) fun i hi => by
      unfold busy1
      rcases Int.lt_or_le ((takeTo p s wk).has.getD i 0) 0 with h9 | h9
      · exact absurd ⟨i, hi, h9⟩ hno
      · rw [if_pos h9]
    omega
theorem GP.st {p : List Nd} (hv : planOk p = true) {wk : Nat} (hw : 0 < wk) : ∀ k : Nat, (∀ j, j < k → (stN p wk j).dn.length < p.length) →
    ∃ I W, GP p wk I W (stN p wk k) ∧ 0 ≤ I ∧ I ≤ mostOf (pathsTo p p.length) ∧ (wk : Int) * k - ((wk : Int) - 1) * I ≤ W ∧ W ≤ (wk : Int) * k ∧ (k : Int) ≤ W
  | 0, _ => ⟨0, 0, GP.start p wk, Int.le_refl _, mostOf_nonneg _, by simp, by simp, by simp⟩
  | k + 1, hk => by
    obtain ⟨I, W, h, h1, h2, h3, h4, h5⟩ := GP.st hv hw k fun j hj => hk j (by omega)
    obtain ⟨I', b, h6, h7, h8, h9⟩ := h.tick hv hw (GI.st p wk k) (hk k (by omega))
    have e1 : (wk : Int) * ((k + 1 : Nat) : Int) = (wk : Int) * k + wk := by rw [Int.natCast_add, Int.mul_add]; simp
    refine ⟨I', W + b, h6, ?_, ?_, ?_, by omega, by omega⟩
    · rcases h9 with ⟨rfl, _⟩ | ⟨rfl, _⟩ <;> omega
    · rcases h9 with ⟨rfl, _⟩ | ⟨_, h9⟩ <;> omega
    · rcases h9 with ⟨rfl, rfl⟩ | ⟨rfl, _⟩
      · omega
      · have e2 : ((wk : Int) - 1) * (I + 1) = ((wk : Int) - 1) * I + ((wk : Int) - 1) := by rw [Int.mul_add]; simp
        omega

/-- The first time at which all is done. -/
def IsEnd (p : List Nd) (wk T : Nat) : Prop := p.length ≤ (stN p wk T).dn.length ∧ ∀ j, j < T → (stN p wk j).dn.length < p.length
theorem IsEnd.uniq {p : List Nd} {wk T T' : Nat} (h : IsEnd p wk T) (h' : IsEnd p wk T') : T = T' := by
  rcases Nat.lt_trichotomy T T' with h1 | h1 | h1
  · have := h'.2 T h1; have := h.1; omega
  · exact h1
  · have := h.2 T' h1; have := h'.1; omega
/-- It is not too long before that. -/
theorem st_le {p : List Nd} (hv : planOk p = true) {wk : Nat} (hw : 0 < wk) {k : Nat} (hk : ∀ j, j < k → (stN p wk j).dn.length < p.length) : (k : Int) ≤ sumTo p p.length := by
  obtain ⟨I, W, h, h1, h2, h3, h4, h5⟩ := GP.st hv hw k hk
  have hI := GI.st p wk k
  have := h.wrk
  have e1 := sumR_nonneg (f := rem1 (stN p wk k)) (k := wk) fun i hi => by
    unfold rem1
    split
    · have := (hI.rn i hi (by assumption)).2.2
      omega
    · omega
  have e2 := sumR_nonneg (f := unb1 p (stN p wk k).bg) (k := p.length) fun i _ => by
    unfold unb1
    have := kindCost_rg (p.getD i default).kind
    split <;> omega
  omega
/-- The laws of the end. -/
theorem end_laws {p : List Nd} (hv : planOk p = true) {wk T : Nat} (hw : 0 < wk) (h : IsEnd p wk T) :
    (T : Int) ≤ sumTo p p.length ∧ sumTo p p.length ≤ (wk : Int) * T ∧ mostOf (pathsTo p p.length) ≤ T ∧ (wk : Int) * T ≤ sumTo p p.length + ((wk : Int) - 1) * mostOf (pathsTo p p.length) := by
  obtain ⟨I, W, hP, h1, h2, h3, h4, h5⟩ := GP.st hv hw T h.2
  have hI := GI.st p wk T
  have ht := stN_t p wk T
  have hall : ∀ i, i < p.length → (i : Int) ∈ (stN p wk T).dn := fun i hi => hI.cl.all h.1 hi
  have e1 : sumR (rem1 (stN p wk T)) wk = 0 := by
    rw [sumR_congr (g := fun _ => 0) fun i hi => ?_, sumR_one (c := 0) fun _ _ => rfl]
    · simp
    · unfold rem1
      split
      · rename_i h6
        have h7 := hI.br _ (hI.bh i hi h6)
        have h8 := hall ((stN p wk T).has.getD i 0).toNat (by omega)
        rw [Int.toNat_of_nonneg h7.1] at h8
        exact absurd h8 (hI.rn i hi h6).1
      · rfl
  have e2 : sumR (unb1 p (stN p wk T).bg) p.length = 0 := by
    rw [sumR_congr (g := fun _ => 0) fun i hi => ?_, sumR_one (c := 0) fun _ _ => rfl]
    · simp
    · unfold unb1
      rw [if_pos (hI.bd _ (hall i hi))]
  have e3 := hP.wrk
  have e4 : mostOf (pathsTo p p.length) ≤ T := mostOf_le (by omega) fun a ha => by
    obtain ⟨i, hi, rfl⟩ := List.getElem_of_mem ha
    rw [pathsTo_len] at hi
    have h6 := hP.dnp _ (hall i hi)
    rw [ht] at h6
    unfold PT at h6
    rw [show ((i : Nat) : Int).toNat = i by omega, getD_elem (by rw [pathsTo_len]; exact hi)] at h6
    exact h6
  have e5 : ((wk : Int) - 1) * I ≤ ((wk : Int) - 1) * mostOf (pathsTo p p.length) := Int.mul_le_mul_of_nonneg_left h2 (by omega)
  exact ⟨by omega, by omega, e4, by omega⟩
end Go.Proofs.Ytafljegjdanldaa

/- Plain: a heap of what will be done, the earliest on top. No program in sight. -/
namespace Go.Proofs.Ytafljegjdanldaa

/-- A time, a worker, a node. -/
structure Ft where
  t : Int
  w : Int
  n : Int
instance : Inhabited Ft := ⟨⟨0, 0, 0⟩⟩
def keyF (f : Ft) : Int := 8 * f.t + f.w
def kyT (T : List Ft) (j : Nat) : Int := keyF (T.getD j default)
def swp (T : List Ft) (i j : Nat) : List Ft := (T.set i (T.getD j default)).set j (T.getD i default)
theorem swp_len (T : List Ft) (i j : Nat) : (swp T i j).length = T.length := by simp [swp]
theorem getD_ft {T : List Ft} {j : Nat} (h : j < T.length) : T.getD j default = T[j] := by simp [List.getD_eq_getElem?_getD, List.getElem?_eq_getElem h]
theorem getD_setF {T : List Ft} {i j : Nat} {a : Ft} (hi : i < T.length) : (T.set i a).getD j default = if i = j then a else T.getD j default := by
  rw [List.getD_eq_getElem?_getD, List.getElem?_set]
  split
  · rename_i h
    subst h
    rfl
  · rw [← List.getD_eq_getElem?_getD]
theorem swp_getD {T : List Ft} {i j : Nat} (hi : i < T.length) (hj : j < T.length) (k : Nat) : (swp T i j).getD k default = if k = j then T.getD i default else if k = i then T.getD j default else T.getD k default := by
  unfold swp
  rw [getD_setF (by simpa using hj), getD_setF hi]
  by_cases h1 : k = j
  · rw [if_pos h1.symm, if_pos h1]
  · rw [if_neg (fun h => h1 h.symm), if_neg h1]
    by_cases h2 : k = i
    · rw [if_pos h2.symm, if_pos h2]
    · rw [if_neg (fun h => h2 h.symm), if_neg h2]
theorem swp_ky {T : List Ft} {i j : Nat} (hi : i < T.length) (hj : j < T.length) (k : Nat) : kyT (swp T i j) k = if k = j then kyT T i else if k = i then kyT T j else kyT T k := by
  unfold kyT
  rw [swp_getD hi hj]
  split
  · rfl
  · split <;> rfl
theorem swp_perm {T : List Ft} {i j : Nat} (hi : i < T.length) (hj : j < T.length) : (swp T i j).Perm T := by
  unfold swp
  rw [getD_ft hi, getD_ft hj]
  exact List.set_set_perm hi hj

/-- The first n are a heap. -/
def Hp (T : List Ft) (n : Nat) : Prop := ∀ k, 0 < k → k < n → kyT T ((k - 1) / 2) ≤ kyT T k
theorem Hp.min {T : List Ft} {n : Nat} (h : Hp T n) : ∀ k, k < n → kyT T 0 ≤ kyT T k := by
  intro k
  induction k using Nat.strongRecOn with
  | _ k ih =>
    intro hk
    rcases Nat.eq_zero_or_pos k with h0 | h0
    · subst h0; exact Int.le_refl _
    · have h1 := h k h0 hk
      have h2 := ih ((k - 1) / 2) (by omega) (by omega)
      omega
/-- A heap but for one place, which may be too small. -/
structure UpOk (T : List Ft) (j n : Nat) : Prop where
  a : ∀ k, 0 < k → k < n → k ≠ j → kyT T ((k - 1) / 2) ≤ kyT T k
  b : ∀ k, 0 < k → k < n → (k - 1) / 2 = j → 0 < j → kyT T ((j - 1) / 2) ≤ kyT T k
theorem UpOk.done {T : List Ft} {j n : Nat} (h : UpOk T j n) (hj : j = 0 ∨ kyT T ((j - 1) / 2) ≤ kyT T j) : Hp T n := fun k h0 hk => by
  by_cases hkj : k = j
  · subst hkj
    rcases hj with h1 | h1
    · omega
    · exact h1
  · exact h.a k h0 hk hkj
theorem UpOk.step {T : List Ft} {i j n : Nat} (h : UpOk T j n) (hn : n ≤ T.length) (hj : j < n) (hj0 : 0 < j) (hi : i = (j - 1) / 2) (hlt : kyT T j < kyT T i) : UpOk (swp T i j) i n := by
  have hil : i < T.length := by omega
  have hjl : j < T.length := by omega
  have hk := swp_ky hil hjl
  refine ⟨fun k h0 hkn hki => ?_, fun k h0 hkn hpk hi0 => ?_⟩
  · rw [hk, hk]
    by_cases e1 : k = j
    · subst e1
      rw [if_neg (by omega), if_pos (by omega), if_pos rfl]
      omega
    · rw [if_neg e1, if_neg hki]
      by_cases e2 : (k - 1) / 2 = j
      · rw [if_pos e2]
        have := h.b k h0 hkn e2 hj0
        rw [← hi] at this
        exact this
      · rw [if_neg e2]
        have h3 := h.a k h0 hkn e1
        by_cases e3 : (k - 1) / 2 = i
        · rw [if_pos e3]
          rw [e3] at h3
          omega
        · rw [if_neg e3]
          exact h3
  · rw [hk, hk]
    rw [if_neg (show ¬ (i - 1) / 2 = j by omega), if_neg (show ¬ (i - 1) / 2 = i by omega)]
    have h4 := h.a i hi0 (by omega) (by omega)
    by_cases e1 : k = j
    · rw [if_pos e1]; exact h4
    · rw [if_neg e1, if_neg (by omega)]
      have h5 := h.a k h0 hkn e1
      rw [hpk] at h5
      omega
/-- A heap but for one place, which may be too great. -/
structure DnOk (T : List Ft) (i n : Nat) : Prop where
  a : ∀ k, 0 < k → k < n → (k - 1) / 2 ≠ i → kyT T ((k - 1) / 2) ≤ kyT T k
  b : ∀ k, 0 < k → k < n → (k - 1) / 2 = i → 0 < i → kyT T ((i - 1) / 2) ≤ kyT T k
theorem DnOk.done {T : List Ft} {i n : Nat} (h : DnOk T i n) (hi : ∀ k, 0 < k → k < n → (k - 1) / 2 = i → kyT T i ≤ kyT T k) : Hp T n := fun k h0 hk => by
  by_cases hp : (k - 1) / 2 = i
  · rw [hp]; exact hi k h0 hk hp
  · exact h.a k h0 hk hp
theorem DnOk.step {T : List Ft} {i j n : Nat} (h : DnOk T i n) (hn : n ≤ T.length) (hj : j < n) (hj0 : 0 < j) (hi : (j - 1) / 2 = i) (hlt : kyT T j < kyT T i) (hmin : ∀ k, 0 < k → k < n → (k - 1) / 2 = i → kyT T j ≤ kyT T k) : DnOk (swp T i j) j n := by
  have hil : i < T.length := by omega
  have hjl : j < T.length := by omega
  have hk := swp_ky hil hjl
  refine ⟨fun k h0 hkn hpk => ?_, fun k h0 hkn hpk _ => ?_⟩
  · rw [hk, hk, if_neg hpk]
    by_cases e1 : (k - 1) / 2 = i
    · rw [if_pos e1]
      by_cases e2 : k = j
      · rw [if_pos e2]; omega
      · rw [if_neg e2, if_neg (by omega)]
        exact hmin k h0 hkn e1
    · rw [if_neg e1]
      have h3 := h.a k h0 hkn e1
      by_cases e2 : k = j
      · omega
      · rw [if_neg e2]
        by_cases e3 : k = i
        · rw [if_pos e3]
          have := h.b j hj0 hj hi (by omega)
          rw [e3]
          exact this
        · rw [if_neg e3]; exact h3
  · rw [hk, hk, hi, if_neg (by omega), if_pos rfl, if_neg (by omega), if_neg (by omega)]
    have := h.a k h0 hkn (by omega)
    rw [hpk] at this
    exact this
/-- The top goes to the end. -/
theorem DnOk.start {T : List Ft} {n : Nat} (h : Hp T (n + 1)) (hl : T.length = n + 1) : DnOk (swp T 0 n) 0 n := by
  have hk := swp_ky (T := T) (i := 0) (j := n) (by omega) (by omega)
  refine ⟨fun k h0 hkn hpk => ?_, fun k h0 hkn hpk h1 => by omega⟩
  rw [hk, hk, if_neg (by omega), if_neg hpk, if_neg (by omega), if_neg (by omega)]
  exact h k h0 (by omega)
theorem UpOk.start {T : List Ft} {f : Ft} (h : Hp T T.length) : UpOk (T ++ [f]) T.length (T.length + 1) := by
  have hk : ∀ k, k < T.length → kyT (T ++ [f]) k = kyT T k := fun k hk => by
    unfold kyT
    rw [List.getD_eq_getElem?_getD, List.getElem?_append_left hk, ← List.getD_eq_getElem?_getD]
  refine ⟨fun k h0 hkn hkj => ?_, fun k h0 hkn hpk _ => by omega⟩
  rw [hk _ (by omega), hk _ (by omega)]
  exact h k h0 (by omega)
theorem Hp.take {T : List Ft} {n : Nat} (h : Hp T n) (hn : n ≤ T.length) : Hp (T.take n) (T.take n).length := by
  have hl : (T.take n).length = n := by rw [List.length_take]; omega
  have hk : ∀ k, k < n → kyT (T.take n) k = kyT T k := fun k hk => by
    unfold kyT
    rw [List.getD_eq_getElem?_getD, List.getElem?_take_of_lt hk, ← List.getD_eq_getElem?_getD]
  intro k h0 hk1
  rw [hl] at hk1
  rw [hk _ (by omega), hk _ (by omega)]
  exact h k h0 hk1
end Go.Proofs.Ytafljegjdanldaa

/- Parts moved: nothing of a program. -/
namespace Go.Proofs.Ytafljegjdanldaa
open Go.RowKit

section
variable {h : GH} {Ls : List Heaplet} {w : World}

theorem Cl.manyM : ∀ (A : List Heaplet) {Ls : List Heaplet}, H w h (A ++ Ls) → Cl h Ls w := fun A Ls hH => ⟨A.flatten, by simpa [H] using hH⟩
theorem Cl.subM (A S B : List Heaplet) (hH : H w h (A ++ (S ++ B))) : Cl h S w := Cl.manyM (A ++ B) (by
  rw [List.append_assoc]
  exact hH.perm (List.Perm.append_left A List.perm_append_comm))
theorem H.bh {O X : Heaplet} {Is Ms : List Heaplet} (hH : H w h (O :: (Is ++ X :: Ms))) : H w h (X :: O :: (Is ++ Ms)) := by
  refine hH.perm ?_
  have : (X :: ((O :: Is) ++ Ms)).Perm ((O :: Is) ++ X :: Ms) := List.perm_middle.symm
  simpa using this.symm
theorem H.bh2 {O X Y : Heaplet} {Is Ms : List Heaplet} (hH : H w h (O :: (Is ++ X :: Y :: Ms))) : H w h (X :: Y :: O :: (Is ++ Ms)) := by
  have h1 := hH.bh
  have h2 : H w h ((X :: O :: Is) ++ Y :: Ms) := by simpa using h1
  have h3 := h2.perm (List.perm_middle (a := Y) (l₁ := X :: O :: Is) (l₂ := Ms))
  exact h3.swap
/-- A part and its own go behind two others. -/
theorem H.ub2 {O X Y : Heaplet} {Is Ms : List Heaplet} (hH : H w h (X :: Y :: O :: (Is ++ Ms))) : H w h (O :: (Is ++ X :: Y :: Ms)) := by
  refine hH.perm ?_
  have : (([X, Y] ++ (O :: Is)) ++ Ms).Perm (((O :: Is) ++ [X, Y]) ++ Ms) := List.perm_append_comm.append_right Ms
  simpa using this
theorem H.flipM (A : List Heaplet) {B Ms : List Heaplet} (hH : H w h (A ++ (B ++ Ms))) : H w h (B ++ (A ++ Ms)) := by
  refine hH.perm ?_
  have : ((A ++ B) ++ Ms).Perm ((B ++ A) ++ Ms) := List.perm_append_comm.append_right Ms
  simpa using this
end
end Go.Proofs.Ytafljegjdanldaa

/- Walks: the heap of what will be done: its methods, and the library's heap over them. -/
namespace Go.Proofs.Ytafljegjdanldaa
open Go.RowKit

section
variable {F : Fx} {env : Env} {w : World} {k : Kon} {ops : Array Oper} {rest : List Oper} {d : Nat} {ty : TypeId} {pos : String} {aft : Array Edge}
/-- A method called on an interface value, in this world. -/
theorem WL_invokeW {f : FuncId} {x : Operand} {name : String} {xs : List Operand} {ats : Array TypeId} {u : Value} {vs ws : List Value} {R : Value → World → Prop} (hd : Nat.blt d F.n = true)
    (hu : ev env x = some u) (hx : evs env xs = some vs) (hf : (callMethod u name vs.toArray).run F.P w = .ok (.enter f ws.toArray) w)
    (hc : Rets F.P f ws.toArray w R) (h : ∀ v w', R v w' → WL F ops rest k ((d, v) :: env) w') :
    WL F ops (⟨some d, .call { callee := .invoke x name, args := xs.toArray, argTypes := ats }, ty, pos, aft, none⟩ :: rest) k env w := fun T hT => by
  refine wpList_plain rfl fun K hK => ?_
  have hm : (xs.toArray.map (Act.mk T []).eval : Array Value) = vs.toArray := by
    simp [hT.evals hx]
  have h1 : ((#[u] ++ vs.toArray : Array Value)).extract 1 ((#[u] ++ vs.toArray : Array Value)).size = vs.toArray := by
    apply Array.ext'
    simp
  have h2 : ((#[u] ++ vs.toArray : Array Value))[0]? = some u := by simp
  have hrun : (execOp (Act.mk T []).eval ⟨some d, .call { callee := .invoke x name, args := xs.toArray, argTypes := ats }, ty, pos, aft, none⟩).run F.P w = .ok (.enter f ws.toArray) w := by
    simp only [execOp, resolve, hT.eval hu, hm, Sem.run_bind, Sem.run_pure, Result.andThen_ok, invoke, h2, h1]
    exact hf
  show Oper.upon _ _ _ _ _ _
  rw [hrun]
  refine Calls.mono hc ?_
  rintro e w' ⟨v, rfl, hR⟩
  exact hK _ _ (h v w' hR _ (hT.put (blt_lt hd) v))
theorem ov_ta2 {P : Program} {x : Operand} {v r : Value} {t at' : TypeId} {b : Bool} (hx : ev env x = some v) (hr : ∀ W, (Instr.typeAssert v t at' b).run P W = .ok r W) : OpV P env w (.typeAssert x t at' b) ty r :=
  fun _ _ _ ρ hρ => by simp [execOp, hρ.1 x _ hx, hr]
/-- Half of minus one. -/
theorem ov_quoM {P : Program} {x y : Operand} {t t' : TypeId} (hx : ev env x = some (.int .i64 (-1))) (hy : ev env y = some (.int .i64 2)) : OpV P env w (.binOp .quo t x y t') ty (.int .i64 0) :=
  fun _ _ _ ρ hρ => (run_bin (hρ.1 x _ hx) (hρ.1 y _ hy) (by decide) (by simp [Op.intDiv]; rfl))
end

theorem st_impl_finishHeap : SlT Try.prog 66 114 3 24 [.int .i64 0, .int .i64 0, .int .i64 0] := SlT_of (.agg #[.int .i64 0, .int .i64 0, .int .i64 0]) (by kernel_rfl) (by kernel_rfl) rfl rfl
theorem zero_impl_finish (W : World) : (zeroValue 114).run Try.prog W = .ok (.agg #[.int .i64 0, .int .i64 0, .int .i64 0]) W := by kernel_rfl
theorem run_bs_fin (a b c : Int) (W : World) : (Instr.buildSlice 66 1 #[(0, .agg [.int .i64 a, .int .i64 b, .int .i64 c].toArray)]).run Try.prog W = .ok (.slice (some ⟨W.heap.size, 0, none⟩) 1 1) (W.alloc (.cells [.int .i64 a, .int .i64 b, .int .i64 c].toArray 114)) := by kernel_rfl
theorem mi_fin (u : Value) (W : World) : (Instr.makeInterface 114 u).run Try.prog W = .ok (.iface 114 u) W := by kernel_rfl
theorem mi_hp (u : Value) (W : World) : (Instr.makeInterface 112 u).run Try.prog W = .ok (.iface 112 u) W := by kernel_rfl
theorem ta_fin (v : Value) (W : World) : (Instr.typeAssert (.iface 114 v) 20 114 false).run Try.prog W = .ok v W := by kernel_rfl

/-- The heap as an interface value. -/
abbrev hpV (g : Nat) : Value := .iface 112 (.pointer (some ⟨g, 5, none⟩))
theorem one_fh : OneT Try.prog 66 := OneT_of (by kernel_rfl)
theorem cf_fhLen (vs : Array Value) (W : World) : (callFunc 171 vs).run Try.prog W = .ok (.enter 171 vs) W := by kernel_rfl
theorem cf_fhLess (vs : Array Value) (W : World) : (callFunc 172 vs).run Try.prog W = .ok (.enter 172 vs) W := by kernel_rfl
theorem cf_fhSwap (vs : Array Value) (W : World) : (callFunc 173 vs).run Try.prog W = .ok (.enter 173 vs) W := by kernel_rfl
theorem und_hp (W : World) : (underlying 112).run Try.prog W = .ok (.pointer 66) W := by kernel_rfl
theorem wrap_nil (a : Addr) (nm : String) (W : World) : (Builtin.ssaWrapNilChk_ #[112] 112 #[.pointer (some a), strVal "", strVal nm]).run Try.prog W = .ok (.pointer (some a)) W := by kernel_rfl
theorem as_addr (a : Addr) (W : World) : (asAddr (.pointer (some a))).run Try.prog W = .ok a W := by kernel_rfl
theorem run_recv (a : Addr) (nm : String) (W : World) : (receiverAt 112 (.val (.pointer (some a))) false (some nm)).run Try.prog W = ((loadVar 66 a).run Try.prog W) := by
  unfold receiverAt
  rw [Sem.run_bind, und_hp]
  simp only [Place.get, Sem.run_bind, Sem.run_pure, Result.andThen_ok, wrap_nil, as_addr]
theorem run_method {n : Nat} {a : Addr} {nm : String} {f : FuncId} {tI : TypeInfo} (W : World) (hi : ∀ W, (typeInfo 112).run Try.prog W = .ok tI W)
    (hm : (tI.methods.find? (·.name == nm)).map (fun m => (m.path, m.func)) = some (#[], some (f, false))) :
    (method (n + 1) 112 (.pointer (some a)) nm).run Try.prog W = ((loadVar 66 a).run Try.prog W).andThen fun v W' => .ok (f, v) W' := by
  obtain ⟨m, h1, h2⟩ := Option.map_eq_some_iff.1 hm
  simp only [Prod.mk.injEq] at h2
  unfold method
  rw [Sem.run_bind, hi]
  simp only [Result.andThen_ok, h1, h2.1, h2.2, follow, Sem.run_bind, Sem.run_pure, Array.isEmpty]
  simp [run_recv, follow]
theorem run_prog (W : World) : (program).run Try.prog W = .ok Try.prog W := rfl
theorem cm_gen {nm : String} {f : FuncId} {g : Nat} {tv : Value} {w : World} (hc : w.cell? ⟨g, 5, none⟩ = some tv) (vs : List Value)
    (hm : (Try.prog.info? 112).bind (fun tI => (tI.methods.find? (·.name == nm)).map (fun m => (m.path, m.func))) = some (#[], some (f, false)))
    (hcf : ∀ (us : Array Value) (W : World), (callFunc f us).run Try.prog W = .ok (.enter f us) W) :
    (callMethod (.iface 112 (.pointer (some ⟨g, 5, none⟩))) nm vs.toArray).run Try.prog w = .ok (.enter f (tv :: vs).toArray) w := by
  obtain ⟨tI, h1, h2⟩ := Option.bind_eq_some_iff.1 hm
  have hi : ∀ W, (typeInfo 112).run Try.prog W = .ok tI W := fun W => by
    unfold typeInfo
    rw [Sem.run_bind, run_prog]
    simp only [Result.andThen_ok, h1, Sem.run_pure]
  unfold callMethod
  simp only [Sem.run_bind, run_prog, Result.andThen_ok]
  have hd : ∀ x : Nat, x + Made.depth = (x + 99) + 1 := fun x => rfl
  rw [hd, run_method w hi h2, run_loadVar1 (OneT_of (by kernel_rfl)) hc]
  simp only [Result.andThen_ok, hcf]
  simp
theorem cm_push (g : Nat) (v : Value) (W : World) : (callMethod (hpV g) "Push" [v].toArray).run Try.prog W = .ok (.enter 175 [.pointer (some ⟨g, 5, none⟩), v].toArray) W := by kernel_rfl
theorem cm_pop (g : Nat) (W : World) : (callMethod (hpV g) "Pop" [].toArray).run Try.prog W = .ok (.enter 174 [.pointer (some ⟨g, 5, none⟩)].toArray) W := by kernel_rfl
theorem cm_len {g : Nat} {tv : Value} {w : World} (hc : w.cell? ⟨g, 5, none⟩ = some tv) : (callMethod (hpV g) "Len" [].toArray).run Try.prog w = .ok (.enter 171 [tv].toArray) w := cm_gen hc [] (by kernel_rfl) cf_fhLen
theorem cm_less {g : Nat} {tv a b : Value} {w : World} (hc : w.cell? ⟨g, 5, none⟩ = some tv) : (callMethod (hpV g) "Less" [a, b].toArray).run Try.prog w = .ok (.enter 172 [tv, a, b].toArray) w := cm_gen hc [a, b] (by kernel_rfl) cf_fhLess
theorem cm_swap {g : Nat} {tv a b : Value} {w : World} (hc : w.cell? ⟨g, 5, none⟩ = some tv) : (callMethod (hpV g) "Swap" [a, b].toArray).run Try.prog w = .ok (.enter 173 [tv, a, b].toArray) w := cm_gen hc [a, b] (by kernel_rfl) cf_fhSwap

/-! rows of what will be done -/
def triF (f : Ft) : List Value := [.int .i64 f.t, .int .i64 f.w, .int .i64 f.n]
def finL : List Ft → List Value
  | [] => []
  | f :: T => .int .i64 f.t :: .int .i64 f.w :: .int .i64 f.n :: finL T
theorem finL_len : ∀ T : List Ft, (finL T).length = T.length * 3
  | [] => rfl
  | f :: T => by simp only [finL, List.length_cons]; rw [finL_len T]; omega
theorem finL_get : ∀ {T : List Ft} {j : Nat}, j < T.length → ∀ {i : Nat}, i < 3 → (finL T)[j * 3 + i]? = (triF (T.getD j default))[i]?
  | f :: T, 0, _, 0, _ => rfl
  | f :: T, 0, _, 1, _ => rfl
  | f :: T, 0, _, 2, _ => rfl
  | f :: T, j + 1, hj, i, hi => by
    rw [show (j + 1) * 3 + i = (j * 3 + i) + 1 + 1 + 1 by omega]
    simp only [finL, List.getElem?_cons_succ]
    rw [finL_get (by simpa using hj) hi]
    simp
theorem finL_set : ∀ {T : List Ft} {j : Nat} (f : Ft), j < T.length → splice (finL T) (j * 3) (triF f) = finL (T.set j f)
  | x :: T, 0, f, _ => by simp [splice, triF, finL]
  | x :: T, j + 1, f, hj => by
    have ih := finL_set (T := T) (j := j) f (by simpa using hj)
    have h3 : (triF f).length = 3 := rfl
    unfold splice at ih ⊢
    rw [show (j + 1) * 3 + (triF f).length = (j * 3 + (triF f).length) + 1 + 1 + 1 by omega, show (j + 1) * 3 = j * 3 + 1 + 1 + 1 by omega]
    simp only [finL, List.take_succ_cons, List.drop_succ_cons, List.set_cons_succ, List.cons_append]
    rw [ih]
theorem finL_append : ∀ (T S : List Ft), finL (T ++ S) = finL T ++ finL S
  | [], S => rfl
  | f :: T, S => by simp only [List.cons_append, finL]; rw [finL_append T S]
theorem finL_take : ∀ (T : List Ft) (n : Nat), (finL T).take (n * 3) = finL (T.take n)
  | [], n => by simp [finL]
  | f :: T, 0 => by simp [finL]
  | f :: T, n + 1 => by
    rw [show (n + 1) * 3 = n * 3 + 1 + 1 + 1 by omega]
    simp only [finL, List.take_succ_cons]
    rw [finL_take T n]
theorem finL_one : ∀ (T : List Ft), ∀ u ∈ finL T, u.oneCell' = true
  | [], u, hu => by simp [finL] at hu
  | f :: T, u, hu => by
    simp only [finL, List.mem_cons] at hu
    rcases hu with rfl | rfl | rfl | hu
    · rfl
    · rfl
    · rfl
    · exact finL_one T u hu
def FRow (X : Heaplet) (v : Value) (T : List Ft) : Prop := Row X 114 3 v T.length (finL T)
theorem FRow.sl {X : Heaplet} {v : Value} {T : List Ft} (h : FRow X v T) : Sl v T.length := Row.sl h

abbrev rbx (g : Nat) (pv : Value) (t : Int) (bv : Value) (tk : Int) (dv tv : Value) : Heaplet := [(g, .cells #[pv, .int .i64 t, bv, .int .u16 tk, dv, tv] 68 (0, 0))]

section
variable {h : GH} {Ls : List Heaplet} {w : World}

theorem FRow.cell {X : Heaplet} {v : Value} {T : List Ft} (hX : FRow X v T) {m : Nat} (hi : Ls[m]? = some X) {j : Nat} (hj : j < T.length) (hH : H w h Ls) : ∀ i u, (triF (T.getD j default))[i]? = some u → w.cell? (((slA v).add (j * 3)).add i) = some u := fun i u hu => by
  have h3 : i < 3 := (List.getElem?_eq_some_iff.1 hu).1
  rw [add_add]
  exact Row.cell hX hH hi (by rw [finL_get hj h3]; exact hu)

theorem fhLen_ok (hH : H w h Ls) {v : Value} {n : Nat} (hs : Sl v n) : Rets Try.prog 171 [v].toArray w fun u w' => u = .int .i64 (n : Int) ∧ H w' h Ls := by
  refine rets_enter Try.func171 rfl Try.ntmps171 (by simp) ?_
  refine WT_seq ?_
  refine WT_region ?_
  refine WL_v rfl (ov_assign rfl) ?_
  refine WL_nil ?_
  refine WT_seq ?_
  refine WT_region ?_
  refine WL_v rfl (ov_move rfl) ?_
  refine WL_v rfl (ov_len rfl hs st_impl_finishHeap) ?_
  refine WL_v rfl (ov_assign rfl) ?_
  refine WL_nil ?_
  exact WT_ret1 Try.func171 Try.results171 rfl ⟨rfl, hH⟩

/-- Workers are few. -/
def WB (T : List Ft) : Prop := ∀ f ∈ T, 0 ≤ f.w ∧ f.w < 8
theorem WB.at_ {T : List Ft} (h : WB T) {j : Nat} (hj : j < T.length) : 0 ≤ (T.getD j default).w ∧ (T.getD j default).w < 8 := by
  rw [getD_ft hj]
  exact h _ (List.getElem_mem hj)
theorem WB.perm {T S : List Ft} (h : WB T) (hp : S.Perm T) : WB S := fun f hf => h f (hp.mem_iff.1 hf)

theorem fhLess_ok (hH : H w h Ls) {m : Nat} {X : Heaplet} (hm : Ls[m]? = some X) {v : Value} {T : List Ft} (hX : FRow X v T) (hw : WB T) {i j : Nat} (hi : i < T.length) (hj : j < T.length) :
    Rets Try.prog 172 [v, .int .i64 (i : Int), .int .i64 (j : Int)].toArray w fun u w' => u = .bool (decide (kyT T i < kyT T j)) ∧ H w' h Ls := by
  have c1 := fun {w : World} (hH : H w h Ls) => hX.cell hm hi hH
  have c2 := fun {w : World} (hH : H w h Ls) => hX.cell hm hj hH
  have b1 := hw.at_ hi
  have b2 := hw.at_ hj
  have hs := hX.sl
  have hkd : (decide (kyT T i < kyT T j)) = decide (8 * (T.getD i default).t + (T.getD i default).w < 8 * (T.getD j default).t + (T.getD j default).w) := rfl
  rw [hkd]
  generalize T.getD i default = a at c1 b1
  generalize T.getD j default = b at c2 b2
  refine rets_enter Try.func172 rfl Try.ntmps172 (by simp) ?_
  refine WT_seq ?_
  refine WT_region ?_
  refine WL_v rfl (ov_assign rfl) ?_
  refine WL_nil ?_
  refine WT_seq ?_
  refine WT_seq ?_
  refine WT_quiet mixed (by kernel_rfl) hH ?_
  clear hH
  refine WQ_v rfl (fun _ _ => ov_move rfl) ?_
  refine WQ_v rfl (fun _ _ => ov_move rfl) ?_
  refine WQ_v rfl (fun _ _ => ov_index rfl rfl st_impl_finishHeap hs hi) ?_
  refine WQ_v rfl (fun _ _ => ov_field rfl fo_impl_finish_0) ?_
  refine WQ_v rfl (fun _ hH => ov_load rfl one_int (c1 hH 0 _ rfl)) ?_
  refine WQ_v rfl (fun _ _ => ov_move rfl) ?_
  refine WQ_v rfl (fun _ _ => ov_move rfl) ?_
  refine WQ_v rfl (fun _ _ => ov_index rfl rfl st_impl_finishHeap hs hj) ?_
  refine WQ_v rfl (fun _ _ => ov_field rfl fo_impl_finish_0) ?_
  refine WQ_v rfl (fun _ hH => ov_load rfl one_int (c2 hH 0 _ rfl)) ?_
  refine WQ_v rfl (fun _ _ => ov_neq rfl rfl) ?_
  refine WQ_nil ?_
  intro w1 hH
  refine WT_cond rfl (fun hne => ?_) (fun hne => ?_)
  · skip
    first | with_reducible replace hne := of_decide_eq_true hne | with_reducible replace hne := bn_T hne | with_reducible replace hne := bb_T hne | skip
    refine WT_seq ?_
    refine WT_quiet mixed (by kernel_rfl) hH ?_
    clear hH
    refine WQ_v rfl (fun _ _ => ov_move rfl) ?_
    refine WQ_v rfl (fun _ _ => ov_move rfl) ?_
    refine WQ_v rfl (fun _ _ => ov_index rfl rfl st_impl_finishHeap hs hi) ?_
    refine WQ_v rfl (fun _ _ => ov_field rfl fo_impl_finish_0) ?_
    refine WQ_v rfl (fun _ hH => ov_load rfl one_int (c1 hH 0 _ rfl)) ?_
    refine WQ_v rfl (fun _ _ => ov_move rfl) ?_
    refine WQ_v rfl (fun _ _ => ov_move rfl) ?_
    refine WQ_v rfl (fun _ _ => ov_index rfl rfl st_impl_finishHeap hs hj) ?_
    refine WQ_v rfl (fun _ _ => ov_field rfl fo_impl_finish_0) ?_
    refine WQ_v rfl (fun _ hH => ov_load rfl one_int (c2 hH 0 _ rfl)) ?_
    refine WQ_v rfl (fun _ _ => ov_lss rfl rfl) ?_
    refine WQ_v rfl (fun _ _ => ov_assign rfl) ?_
    refine WQ_nil ?_
    intro w1 hH
    exact WT_ret1 Try.func172 Try.results172 rfl ⟨congrArg Value.bool (decide_eq_decide.2 (by omega)), hH⟩
  first | with_reducible replace hne := of_decide_eq_false hne | with_reducible replace hne := bn_F hne | with_reducible replace hne := bb_F hne | skip
  refine WT_skip ?_
  refine WT_seq ?_
  refine WT_quiet mixed (by kernel_rfl) hH ?_
  clear hH
  refine WQ_v rfl (fun _ _ => ov_move rfl) ?_
  refine WQ_v rfl (fun _ _ => ov_move rfl) ?_
  refine WQ_v rfl (fun _ _ => ov_index rfl rfl st_impl_finishHeap hs hi) ?_
  refine WQ_v rfl (fun _ _ => ov_field rfl fo_impl_finish_1) ?_
  refine WQ_v rfl (fun _ hH => ov_load rfl one_int (c1 hH 1 _ rfl)) ?_
  refine WQ_v rfl (fun _ _ => ov_move rfl) ?_
  refine WQ_v rfl (fun _ _ => ov_move rfl) ?_
  refine WQ_v rfl (fun _ _ => ov_index rfl rfl st_impl_finishHeap hs hj) ?_
  refine WQ_v rfl (fun _ _ => ov_field rfl fo_impl_finish_1) ?_
  refine WQ_v rfl (fun _ hH => ov_load rfl one_int (c2 hH 1 _ rfl)) ?_
  refine WQ_v rfl (fun _ _ => ov_lss rfl rfl) ?_
  refine WQ_v rfl (fun _ _ => ov_assign rfl) ?_
  refine WQ_nil ?_
  intro w1 hH
  exact WT_ret1 Try.func172 Try.results172 rfl ⟨congrArg Value.bool (decide_eq_decide.2 (by omega)), hH⟩

theorem fhSwap_ok {B X : Heaplet} (hH : H w h (B :: X :: Ls)) {v : Value} {T : List Ft} (hX : FRow X v T) {i j : Nat} (hi : i < T.length) (hj : j < T.length) :
    Rets Try.prog 173 [v, .int .i64 (i : Int), .int .i64 (j : Int)].toArray w fun _ w' => ∃ X', FRow X' v (swp T i j) ∧ H w' h (B :: X' :: Ls) := by
  have c1 := fun {w : World} {Ms : List Heaplet} {m : Nat} (hm : Ms[m]? = some X) (hH : H w h Ms) => hX.cell hm hi hH
  have c2 := fun {w : World} {Ms : List Heaplet} {m : Nat} (hm : Ms[m]? = some X) (hH : H w h Ms) => hX.cell hm hj hH
  have hs := hX.sl
  have hfl := finL_len T
  have ho1 : ∀ {a b c : Value}, i * 3 + [a, b, c].length ≤ (finL T).length := by intro a b c; simp only [List.length_cons, List.length_nil]; omega
  have hR : Row X 114 3 v T.length (finL T) := hX
  refine rets_enter Try.func173 rfl Try.ntmps173 (by simp) ?_
  refine WT_mixL [(0, 1), (1, 1), (2, 1), (3, 1), (4, 1), (5, 1), (6, 1), (7, 0), (8, 1), (9, 1), (10, 1), (11, 0), (12, 1), (13, 3), (14, 1), (15, 3)] mixed (by kernel_rfl) hH ?_
  clear hH
  intro w1 hH hC
  refine WM_p rfl rfl (fun _ => ov_move rfl) ?_
  refine WM_p rfl rfl (fun _ => ov_move rfl) ?_
  refine WM_p rfl rfl (fun _ => ov_move rfl) ?_
  refine WM_p rfl rfl (fun _ => ov_move rfl) ?_
  refine WM_p rfl rfl (fun _ => ov_move rfl) ?_
  refine WM_p rfl rfl (fun _ => ov_move rfl) ?_
  refine WM_p rfl rfl (fun _ => ov_index rfl rfl st_impl_finishHeap hs hj) ?_
  refine WM_v rfl rfl hC (fun _ ⟨_, hH⟩ => ov_loadN [.int .i64 (T.getD j default).t, .int .i64 (T.getD j default).w, .int .i64 (T.getD j default).n] rfl agg_impl_finish rfl ((c2 (m := 2) rfl hH))) ?_
  refine WM_p rfl rfl (fun _ => ov_move rfl) ?_
  refine WM_p rfl rfl (fun _ => ov_move rfl) ?_
  refine WM_p rfl rfl (fun _ => ov_index rfl rfl st_impl_finishHeap hs hi) ?_
  refine WM_v rfl rfl hC (fun _ ⟨_, hH⟩ => ov_loadN [.int .i64 (T.getD i default).t, .int .i64 (T.getD i default).w, .int .i64 (T.getD i default).n] rfl agg_impl_finish rfl ((c1 (m := 2) rfl hH))) ?_
  refine WM_p rfl rfl (fun _ => ov_index rfl rfl st_impl_finishHeap hs hi) ?_
  refine WM_e rfl ?_
  refine WL_storeRowN hH rfl rfl (i := 1) rfl hR ho1 (by simp) (ones_cons rfl (ones_cons rfl (ones_cons rfl ones_nil))) sz_impl_finish ?_; rintro X2 w2 hX2 hH2
  refine WL_mix (fun h => absurd rfl h) ?_
  have hX2' : Row X2 114 3 v T.length (finL (T.set i (T.getD j default))) := by rw [← finL_set _ hi]; exact hX2
  have hfl2 := finL_len (T.set i (T.getD j default))
  rw [List.length_set] at hfl2
  have ho2 : ∀ {a b c : Value}, j * 3 + [a, b, c].length ≤ (finL (T.set i (T.getD j default))).length := by intro a b c; simp only [List.length_cons, List.length_nil]; omega
  refine WM_p rfl rfl (fun _ => ov_index rfl rfl st_impl_finishHeap hs hj) ?_
  refine WM_e rfl ?_
  refine WL_storeRowN hH2 rfl rfl (i := 1) rfl hX2' ho2 (by simp) (ones_cons rfl (ones_cons rfl (ones_cons rfl ones_nil))) sz_impl_finish ?_; rintro X3 w3 hX3 hH3
  refine WL_mix (fun h => absurd rfl h) ?_
  refine WM_nil ?_
  exact WT_end0 Try.func173 Try.results173 ⟨X3, by
    unfold FRow
    rw [swp_len]
    unfold swp
    rw [← finL_set _ (by simpa using hj)]
    exact hX3, hH3⟩

theorem fhPush_ok {g : Nat} {pv bv dv tv : Value} {t tk : Int} {X : Heaplet} {T : List Ft} (hH : H w h (rbx g pv t bv tk dv tv :: X :: Ls)) (hX : FRow X tv T) (hl : T.length ≤ 1000) (f : Ft) :
    Rets Try.prog 175 [.pointer (some ⟨g, 5, none⟩), .iface 114 (.agg (triF f).toArray)].toArray w fun _ w' => ∃ tv' X', FRow X' tv' (T ++ [f]) ∧ H w' h (rbx g pv t bv tk dv tv' :: X' :: Ls) := by
  have hfl := finL_len T
  have hR : Row X 114 3 tv T.length (finL T) := hX
  refine rets_enter Try.func175 rfl Try.ntmps175 (by simp) ?_
  refine WT_mixL [(0, 1), (1, 1), (2, 1), (3, 0), (4, 1), (5, 1), (6, 2), (7, 3), (8, 1), (9, 3)] mixed (by kernel_rfl) hH ?_
  clear hH
  intro w1 hH hC
  refine WM_p rfl rfl (fun _ => ov_move rfl) ?_
  refine WM_p rfl rfl (fun _ => ov_move rfl) ?_
  refine WM_p rfl rfl (fun _ => ov_nilCheck rfl) ?_
  refine WM_v rfl rfl hC (fun _ ⟨_, hH⟩ => ov_load rfl one_fh (hH.cb 1 rfl 5)) ?_
  refine WM_p rfl rfl (fun _ => ov_move rfl) ?_
  refine WM_p rfl rfl (fun _ => ov_ta2 rfl (ta_fin _)) ?_
  refine WM_e rfl ?_
  refine WL_buildSlice (sz := 3) [.int .i64 f.t, .int .i64 f.w, .int .i64 f.n] rfl hH rfl (run_bs_fin _ _ _) rfl (by omega) ?_; rintro Z zv w2 hZ hH2
  replace hC : Cl _ _ _ := Cl.manyM [Z] hH2
  refine WL_mix (fun _ => hC) ?_
  refine WM_e rfl ?_
  refine WL_append1 (i := 2) (j := 0) (n := T.length) (m := 1) rfl hH2 rfl rfl st_impl_finishHeap (by omega) rfl hR rfl hZ (ones_cons rfl (ones_cons rfl (ones_cons rfl ones_nil))) (by omega) (by omega) ?_; rintro X2 tv2 w3 hX2 hH3
  refine WL_mix (fun h => absurd rfl h) ?_
  refine WM_p rfl rfl (fun _ => ov_nilCheck rfl) ?_
  refine WM_e rfl ?_
  refine WL_store hH3 rfl rfl (i := 1) (off := 5) rfl rfl (by simp) hX2.sl.one sz_impl_finishHeap ?_; rintro w4 hH4
  refine WL_mix (fun h => absurd rfl h) ?_
  refine WM_nil ?_
  exact WT_end0 Try.func175 Try.results175 ⟨tv2, X2, by
    unfold FRow
    rw [List.length_append, finL_append]
    exact hX2, hH4.drop⟩

theorem fhPop_ok {g : Nat} {pv bv dv tv : Value} {t tk : Int} {X : Heaplet} {T : List Ft} {n : Nat} (hH : H w h (rbx g pv t bv tk dv tv :: X :: Ls)) (hX : FRow X tv T) (hn : T.length = n + 1) :
    Rets Try.prog 174 [.pointer (some ⟨g, 5, none⟩)].toArray w fun u w' => u = .iface 114 (.agg (triF (T.getD n default)).toArray) ∧ ∃ tv' X', FRow X' tv' (T.take n) ∧ H w' h (rbx g pv t bv tk dv tv' :: X' :: Ls) := by
  have hs := hX.sl
  have hlim := hs.lim
  have hfl := finL_len T
  have hR : Row X 114 3 tv T.length (finL T) := hX
  have hR2 := Row.reslice hR (lo := 0) (hi := n) (by omega) (by omega)
  have hR3 : Row X 114 3 (reslice tv 0 n 3) n (finL (T.take n)) := by
    rw [← finL_take]
    simpa using hR2
  have hnn : (T.length : Int) - 1 = (n : Int) := by omega
  have htl : (T.take n).length = n := by rw [List.length_take]; omega
  refine rets_enter Try.func174 rfl Try.ntmps174 (by simp) ?_
  refine WT_seq ?_
  refine WT_region ?_
  refine WL_v rfl (ov_assign rfl) ?_
  refine WL_nil ?_
  refine WT_seq ?_
  refine WT_region ?_
  refine WL_v rfl (ov_move rfl) ?_
  refine WL_v rfl (ov_nilCheck rfl) ?_
  refine WL_v rfl (ov_load rfl one_fh (hH.cb 0 rfl 5)) ?_
  refine WL_v rfl (ov_len rfl hs st_impl_finishHeap) ?_
  refine WL_v rfl (ov_as (ov_sub rfl rfl (by omega)) (congrArg (Value.int .i64) (hnn))) ?_
  refine WL_v rfl (ov_assign rfl) ?_
  refine WL_nil ?_
  refine WT_seq ?_
  refine WT_region ?_
  refine WL_v rfl (ov_move rfl) ?_
  refine WL_v rfl (ov_nilCheck rfl) ?_
  refine WL_v rfl (ov_load rfl one_fh (hH.cb 0 rfl 5)) ?_
  refine WL_v rfl (ov_move rfl) ?_
  refine WL_v rfl (ov_index rfl rfl st_impl_finishHeap hs (show n < T.length by omega)) ?_
  refine WL_v rfl (ov_loadN [.int .i64 (T.getD n default).t, .int .i64 (T.getD n default).w, .int .i64 (T.getD n default).n] rfl agg_impl_finish rfl ((hX.cell (m := 1) rfl (by omega) hH))) ?_
  refine WL_alloc _ rfl hH zero_impl_finish rfl ?_; rintro b w1 hH1
  refine WL_storeN hH1 rfl rfl (i := 0) rfl rfl rfl (ones_cons rfl (ones_cons rfl (ones_cons rfl ones_nil))) sz_impl_finish ?_; rintro w2 hH2
  refine WL_nil ?_
  refine WT_seq ?_
  refine WT_region ?_
  refine WL_v rfl (ov_move rfl) ?_
  refine WL_v rfl (ov_move rfl) ?_
  refine WL_v rfl (ov_nilCheck rfl) ?_
  refine WL_v rfl (ov_load rfl one_fh (hH2.cb 1 rfl 5)) ?_
  refine WL_v rfl (ov_move rfl) ?_
  refine WL_v rfl (ov_sliceHi rfl rfl st_impl_finishHeap hs (by omega)) ?_
  refine WL_v rfl (ov_nilCheck rfl) ?_
  refine WL_store hH2 rfl rfl (i := 1) (off := 5) rfl rfl (by simp) hR3.sl.one sz_impl_finishHeap ?_; rintro w3 hH3
  refine WL_nil ?_
  refine WT_seq ?_
  refine WT_region ?_
  refine WL_v rfl (ov_loadN [.int .i64 (T.getD n default).t, .int .i64 (T.getD n default).w, .int .i64 (T.getD n default).n] rfl agg_impl_finish rfl ((fun j v hj => by rw [show Addr.add ⟨b, 0, none⟩ j = ⟨b, j, none⟩ by simp [add_of]]; exact (hH3.cb 0 rfl j).trans (by simpa using hj)))) ?_
  refine WL_v rfl (ov_iface rfl mi_fin) ?_
  refine WL_v rfl (ov_assign rfl) ?_
  refine WL_nil ?_
  exact WT_ret1 Try.func174 Try.results174 rfl ⟨rfl, _, X, by unfold FRow; rw [htl]; exact hR3, hH3.drop⟩

set_option maxHeartbeats 1000000 in
theorem up_ok {g : Nat} {pv bv dv tv : Value} {t tk : Int} {X : Heaplet} {T : List Ft} {j : Nat} (hH : H w h (rbx g pv t bv tk dv tv :: X :: Ls)) (hX : FRow X tv T) (hw : WB T) (hj : j < T.length) (hU : UpOk T j T.length) :
    Rets Try.prog 109 [hpV g, .int .i64 (j : Int)].toArray w fun _ w' => ∃ X' T', FRow X' tv T' ∧ T'.Perm T ∧ Hp T' T'.length ∧ H w' h (rbx g pv t bv tk dv tv :: X' :: Ls) := by
  have hlim := hX.sl.lim
  refine rets_enter Try.func109 rfl Try.ntmps109 (by simp) ?_
  refine WT_block ?_
  refine WT_while (fun j : Nat => [(0, hpV g), (1, .int .i64 (j : Int))]) (fun j w => ∃ X' T', FRow X' tv T' ∧ T'.Perm T ∧ j < T'.length ∧ UpOk T' j T'.length ∧ H w h (rbx g pv t bv tk dv tv :: X' :: Ls)) (fun j => j) j (by repeat (first | exact trivial | refine ⟨rfl, ?_⟩)) ⟨X, T, hX, .refl _, hj, hU, hH⟩ ?_
  clear hH hX hU hj X
  rintro j w1 ⟨X, T', hX, hp, hj, hU, hH⟩ again
  have hw' := hw.perm hp
  have hpl := hp.length_eq
  rcases Nat.eq_zero_or_pos j with h0 | h0
  · subst h0
    refine WT_block ?_
    refine WT_seq ?_
    refine WT_region ?_
    refine WL_v rfl (ov_move rfl) ?_
    refine WL_v rfl (ov_sub rfl rfl (by omega)) ?_
    refine WL_v rfl (ov_quoM rfl rfl) ?_
    refine WL_v rfl (ov_assign rfl) ?_
    refine WL_nil ?_
    refine WT_seq ?_
    refine WT_seq ?_
    refine WT_region ?_
    refine WL_v rfl (ov_move rfl) ?_
    refine WL_v rfl (ov_move rfl) ?_
    refine WL_v rfl (ov_T (ov_eql rfl rfl) (by first | exact decide_eq_true rfl | exact nb_T rfl | exact mb_T rfl | exact rfl | (simp only [decide_eq_true_eq]; omega) | simpa using rfl)) ?_
    refine WL_v rfl (ov_move rfl) ?_
    refine WL_guardOff rfl rfl rfl rfl ?_
    refine WL_guardOff rfl rfl rfl rfl ?_
    refine WL_guardOff rfl rfl rfl rfl ?_
    refine WL_guardOff rfl rfl rfl rfl ?_
    refine WL_guardOff rfl rfl rfl rfl ?_
    refine WL_v rfl (ov_pickT rfl rfl) ?_
    refine WL_nil ?_
    refine WT_condT rfl ?_
    refine WT_exit rfl ?_
    exact WT_end0 Try.func109 Try.results109 ⟨X, T', hX, hp, hU.done (.inl rfl), hH⟩
  · obtain ⟨i, hi⟩ : ∃ i, i = (j - 1) / 2 := ⟨_, rfl⟩
    have hij : i < j := by omega
    have hq : ((j : Int) - 1) / 2 = (i : Int) := by omega
    have hless := fun {w : World} (hH : H w h (rbx g pv t bv tk dv tv :: X :: Ls)) => fhLess_ok hH (m := 1) rfl hX hw' hj (show i < T'.length by omega)
    refine WT_block ?_
    refine WT_seq ?_
    refine WT_region ?_
    refine WL_v rfl (ov_move rfl) ?_
    refine WL_v rfl (ov_sub rfl rfl (by omega)) ?_
    refine WL_v rfl (ov_as (ov_quo rfl rfl (by omega) (by omega) (by omega)) (congrArg (Value.int .i64) hq)) ?_
    refine WL_v rfl (ov_assign rfl) ?_
    refine WL_nil ?_
    refine WT_seq ?_
    refine WT_seq ?_
    refine WT_region ?_
    refine WL_v rfl (ov_move rfl) ?_
    refine WL_v rfl (ov_move rfl) ?_
    refine WL_v rfl (ov_F (ov_eql rfl rfl) (decide_eq_false (by omega))) ?_
    refine WL_v rfl (ov_move rfl) ?_
    refine WL_guardOn rfl rfl ?_
    refine WL_v rfl (ov_move rfl) ?_
    refine WL_guardOn rfl rfl ?_
    refine WL_v rfl (ov_move rfl) ?_
    refine WL_guardOn rfl rfl ?_
    refine WL_v rfl (ov_move rfl) ?_
    refine WL_guardOn rfl rfl ?_
    refine WL_invokeW rfl rfl rfl (cm_less (hH.cb 0 rfl 5)) (hless hH) ?_; rintro _ w2 ⟨rfl, hH2⟩
    refine WL_guardOn rfl rfl ?_
    refine WL_v rfl (ov_not rfl) ?_
    refine WL_v rfl (ov_pickF rfl rfl) ?_
    refine WL_nil ?_
    refine WT_cond rfl (fun hl => ?_) (fun hl => ?_)
    · skip
      first | with_reducible replace hl := of_decide_eq_true hl | with_reducible replace hl := bn_T hl | with_reducible replace hl := bb_T hl | skip
      have hle : kyT T' ((j - 1) / 2) ≤ kyT T' j := by
        rw [← hi]
        have : ¬ kyT T' j < kyT T' i := by simpa using hl
        omega
      refine WT_exit rfl ?_
      exact WT_end0 Try.func109 Try.results109 ⟨X, T', hX, hp, hU.done (.inr hle), hH2⟩
    first | with_reducible replace hl := of_decide_eq_false hl | with_reducible replace hl := bn_F hl | with_reducible replace hl := bb_F hl | skip
    have hlt : kyT T' j < kyT T' i := by simpa using hl
    refine WT_skip ?_
    refine WT_seq ?_
    refine WT_region ?_
    refine WL_v rfl (ov_move rfl) ?_
    refine WL_v rfl (ov_move rfl) ?_
    refine WL_v rfl (ov_move rfl) ?_
    refine WL_invokeW rfl rfl rfl (cm_swap (hH2.cb 0 rfl 5)) (fhSwap_ok hH2 hX (show i < T'.length by omega) hj) ?_; rintro _ w3 ⟨X2, hX2, hH3⟩
    refine WL_nil ?_
    refine WT_region ?_
    refine WL_v rfl (ov_move rfl) ?_
    refine WL_v rfl (ov_assign rfl) ?_
    refine WL_nil ?_
    refine WT_inBlock ?_
    refine again i _ _ hij (by repeat (first | exact trivial | refine ⟨rfl, ?_⟩)) ⟨X2, swp T' i j, hX2, (swp_perm (by omega) hj).trans hp, by rw [swp_len]; omega, ?_, hH3⟩
    rw [swp_len]
    exact hU.step (Nat.le_refl _) hj h0 hi hlt

set_option maxHeartbeats 2000000 in
theorem down_ok {g : Nat} {pv bv dv tv : Value} {t tk : Int} {X : Heaplet} {T : List Ft} {n : Nat} (hH : H w h (rbx g pv t bv tk dv tv :: X :: Ls)) (hX : FRow X tv T) (hw : WB T) (hn : n < T.length) (hl : T.length ≤ 1000) (hD : DnOk T 0 n) :
    Rets Try.prog 110 [hpV g, .int .i64 0, .int .i64 (n : Int)].toArray w fun _ w' => ∃ X' T', FRow X' tv T' ∧ T'.Perm T ∧ Hp T' n ∧ T'.getD n default = T.getD n default ∧ H w' h (rbx g pv t bv tk dv tv :: X' :: Ls) := by
  refine rets_enter Try.func110 rfl Try.ntmps110 (by simp) ?_
  refine WT_seq ?_
  refine WT_region ?_
  refine WL_v rfl (ov_assign rfl) ?_
  refine WL_nil ?_
  refine WT_seq ?_
  refine WT_region ?_
  refine WL_v rfl (ov_move rfl) ?_
  refine WL_v rfl (ov_assign rfl) ?_
  refine WL_nil ?_
  refine WT_seq ?_
  refine WT_block ?_
  refine WT_while (fun i : Nat => [(0, hpV g), (1, .int .i64 0), (2, .int .i64 (n : Int)), (7, .int .i64 (i : Int))]) (fun i w => i ≤ n ∧ ∃ X' T', FRow X' tv T' ∧ T'.Perm T ∧ T'.getD n default = T.getD n default ∧ DnOk T' i n ∧ H w h (rbx g pv t bv tk dv tv :: X' :: Ls)) (fun i => n - i) 0 (by repeat (first | exact trivial | refine ⟨rfl, ?_⟩)) ⟨by omega, X, T, hX, .refl _, rfl, hD, hH⟩ ?_
  clear hH hX hD X
  rintro i w1 ⟨hin, X, T', hX, hp, hlast, hD, hH⟩ again
  have hw' := hw.perm hp
  have hpl := hp.length_eq
  rcases Nat.lt_or_ge (2 * i + 1) n with h1 | h1
  · have hless := fun {w : World} {a b : Nat} (ha : a < T'.length) (hb : b < T'.length) (hH : H w h (rbx g pv t bv tk dv tv :: X :: Ls)) => fhLess_ok hH (m := 1) rfl hX hw' ha hb
    refine WT_block ?_
    refine WT_seq ?_
    refine WT_region ?_
    refine WL_v rfl (ov_move rfl) ?_
    refine WL_v rfl (ov_as (ov_mul rfl rfl (by omega)) (congrArg (Value.int .i64) ((show 2 * (i : Int) = ((2 * i : Nat) : Int) by omega)))) ?_
    refine WL_v rfl (ov_as (ov_add rfl rfl (by omega)) (congrArg (Value.int .i64) ((show ((2 * i : Nat) : Int) + 1 = ((2 * i + 1 : Nat) : Int) by omega)))) ?_
    refine WL_v rfl (ov_assign rfl) ?_
    refine WL_nil ?_
    refine WT_seq ?_
    refine WT_seq ?_
    refine WT_region ?_
    refine WL_v rfl (ov_move rfl) ?_
    refine WL_v rfl (ov_move rfl) ?_
    refine WL_v rfl (ov_F (ov_geq rfl rfl) (decide_eq_false (by omega))) ?_
    refine WL_v rfl (ov_move rfl) ?_
    refine WL_guardOn rfl rfl ?_
    refine WL_v rfl (ov_move rfl) ?_
    refine WL_guardOn rfl rfl ?_
    refine WL_v rfl (ov_F (ov_lss rfl rfl) (decide_eq_false (by omega))) ?_
    refine WL_v rfl (ov_pickF rfl rfl) ?_
    refine WL_nil ?_
    refine WT_condF rfl ?_
    refine WT_skip ?_
    refine WT_seq ?_
    refine WT_region ?_
    refine WL_v rfl (ov_move rfl) ?_
    refine WL_v rfl (ov_assign rfl) ?_
    refine WL_nil ?_
    refine WT_seq ?_
    refine WT_seq ?_
    refine WT_region ?_
    refine WL_v rfl (ov_move rfl) ?_
    refine WL_v rfl (ov_as (ov_add rfl rfl (by omega)) (congrArg (Value.int .i64) ((show ((2 * i + 1 : Nat) : Int) + 1 = ((2 * i + 2 : Nat) : Int) by omega)))) ?_
    refine WL_v rfl (ov_assign rfl) ?_
    refine WL_nil ?_
    refine WT_seq ?_
    refine WT_join2 (ι := Nat) (fun c => [(0, hpV g), (1, .int .i64 0), (2, .int .i64 (n : Int)), (7, .int .i64 (i : Int)), (9, .int .i64 (c : Int))]) (fun c w => c < n ∧ 0 < c ∧ (c - 1) / 2 = i ∧ (∀ k, 0 < k → k < n → (k - 1) / 2 = i → kyT T' c ≤ kyT T' k) ∧ H w h (rbx g pv t bv tk dv tv :: X :: Ls)) (fun joined => ?_) ?_
    · skip
      rcases Nat.lt_or_ge (2 * i + 2) n with h2 | h2
      · skip
        refine WT_region ?_
        refine WL_v rfl (ov_move rfl) ?_
        refine WL_v rfl (ov_move rfl) ?_
        refine WL_v rfl (ov_T (ov_lss rfl rfl) (decide_eq_true (by omega))) ?_
        refine WL_v rfl (ov_move rfl) ?_
        refine WL_guardOn rfl rfl ?_
        refine WL_v rfl (ov_move rfl) ?_
        refine WL_guardOn rfl rfl ?_
        refine WL_v rfl (ov_move rfl) ?_
        refine WL_guardOn rfl rfl ?_
        refine WL_v rfl (ov_move rfl) ?_
        refine WL_guardOn rfl rfl ?_
        refine WL_invokeW rfl rfl rfl (cm_less (hH.cb 0 rfl 5)) (hless (show 2 * i + 2 < T'.length by omega) (show 2 * i + 1 < T'.length by omega) hH) ?_; rintro _ w2 ⟨rfl, hH2⟩
        refine WL_v rfl (ov_pickT rfl rfl) ?_
        refine WL_nil ?_
        refine WT_cond rfl (fun hc => ?_) (fun hc => ?_)
        · skip
          first | with_reducible replace hc := of_decide_eq_true hc | with_reducible replace hc := bn_T hc | with_reducible replace hc := bb_T hc | skip
          have hlt : kyT T' (2 * i + 2) < kyT T' (2 * i + 1) := by simpa using hc
          refine WT_region ?_
          refine WL_v rfl (ov_move rfl) ?_
          refine WL_v rfl (ov_assign rfl) ?_
          refine WL_nil ?_
          refine joined (2 * i + 2) _ _ (by repeat (first | exact trivial | refine ⟨rfl, ?_⟩)) ⟨h2, by omega, by omega, fun k k0 kn hk => ?_, hH2⟩
          have : k = 2 * i + 1 ∨ k = 2 * i + 2 := by omega
          rcases this with rfl | rfl <;> omega
        first | with_reducible replace hc := of_decide_eq_false hc | with_reducible replace hc := bn_F hc | with_reducible replace hc := bb_F hc | skip
        have hge : ¬ kyT T' (2 * i + 2) < kyT T' (2 * i + 1) := by simpa using hc
        refine WT_skip ?_
        refine joined (2 * i + 1) _ _ (by repeat (first | exact trivial | refine ⟨rfl, ?_⟩)) ⟨h1, by omega, by omega, fun k k0 kn hk => ?_, hH2⟩
        have : k = 2 * i + 1 ∨ k = 2 * i + 2 := by omega
        rcases this with rfl | rfl <;> omega
      · skip
        refine WT_region ?_
        refine WL_v rfl (ov_move rfl) ?_
        refine WL_v rfl (ov_move rfl) ?_
        refine WL_v rfl (ov_F (ov_lss rfl rfl) (decide_eq_false (by omega))) ?_
        refine WL_v rfl (ov_move rfl) ?_
        refine WL_guardOff rfl rfl rfl rfl ?_
        refine WL_guardOff rfl rfl rfl rfl ?_
        refine WL_guardOff rfl rfl rfl rfl ?_
        refine WL_guardOff rfl rfl rfl rfl ?_
        refine WL_v rfl (ov_pickF rfl rfl) ?_
        refine WL_nil ?_
        refine WT_condF rfl ?_
        refine WT_skip ?_
        refine joined (2 * i + 1) _ _ (by repeat (first | exact trivial | refine ⟨rfl, ?_⟩)) ⟨h1, by omega, by omega, fun k k0 kn hk => ?_, hH⟩
        obtain rfl : k = 2 * i + 1 := by omega
        omega
    clear hH
    rintro c w2 ⟨hcn, hc0, hci, hmin, hH⟩
    refine WT_seq ?_
    refine WT_seq ?_
    refine WT_region ?_
    refine WL_v rfl (ov_move rfl) ?_
    refine WL_v rfl (ov_move rfl) ?_
    refine WL_v rfl (ov_move rfl) ?_
    refine WL_invokeW rfl rfl rfl (cm_less (hH.cb 0 rfl 5)) (hless (show c < T'.length by omega) (show i < T'.length by omega) hH) ?_; rintro _ w3 ⟨rfl, hH3⟩
    refine WL_v rfl (ov_not rfl) ?_
    refine WL_nil ?_
    refine WT_cond rfl (fun hc => ?_) (fun hc => ?_)
    · skip
      first | with_reducible replace hc := of_decide_eq_true hc | with_reducible replace hc := bn_T hc | with_reducible replace hc := bb_T hc | skip
      have hle : kyT T' i ≤ kyT T' c := by
        have : ¬ kyT T' c < kyT T' i := by simpa using hc
        omega
      refine WT_exit rfl ?_
      refine WT_seq ?_
      refine WT_region ?_
      refine WL_v rfl (ov_move rfl) ?_
      refine WL_v rfl (ov_move rfl) ?_
      refine WL_v rfl (ov_gtr rfl rfl) ?_
      refine WL_v rfl (ov_assign rfl) ?_
      refine WL_nil ?_
      exact WT_ret1 Try.func110 Try.results110 rfl ⟨X, T', hX, hp, hD.done fun k k0 kn hk => by have := hmin k k0 kn hk; omega, hlast, hH3⟩
    first | with_reducible replace hc := of_decide_eq_false hc | with_reducible replace hc := bn_F hc | with_reducible replace hc := bb_F hc | skip
    have hlt : kyT T' c < kyT T' i := by simpa using hc
    refine WT_skip ?_
    refine WT_seq ?_
    refine WT_region ?_
    refine WL_v rfl (ov_move rfl) ?_
    refine WL_v rfl (ov_move rfl) ?_
    refine WL_v rfl (ov_move rfl) ?_
    refine WL_invokeW rfl rfl rfl (cm_swap (hH3.cb 0 rfl 5)) (fhSwap_ok hH3 hX (show i < T'.length by omega) (show c < T'.length by omega)) ?_; rintro _ w4 ⟨X2, hX2, hH4⟩
    refine WL_nil ?_
    refine WT_region ?_
    refine WL_v rfl (ov_move rfl) ?_
    refine WL_v rfl (ov_assign rfl) ?_
    refine WL_nil ?_
    refine WT_inBlock ?_
    refine again c _ _ (by omega) (by repeat (first | exact trivial | refine ⟨rfl, ?_⟩)) ⟨by omega, X2, swp T' i c, hX2, (swp_perm (by omega) (by omega)).trans hp, ?_, hD.step (by omega) hcn hc0 hci hlt hmin, hH4⟩
    rw [swp_getD (by omega) (by omega), if_neg (by omega), if_neg (by omega)]
    exact hlast
  · skip
    refine WT_block ?_
    refine WT_seq ?_
    refine WT_region ?_
    refine WL_v rfl (ov_move rfl) ?_
    refine WL_v rfl (ov_as (ov_mul rfl rfl (by omega)) (congrArg (Value.int .i64) ((show 2 * (i : Int) = ((2 * i : Nat) : Int) by omega)))) ?_
    refine WL_v rfl (ov_as (ov_add rfl rfl (by omega)) (congrArg (Value.int .i64) ((show ((2 * i : Nat) : Int) + 1 = ((2 * i + 1 : Nat) : Int) by omega)))) ?_
    refine WL_v rfl (ov_assign rfl) ?_
    refine WL_nil ?_
    refine WT_seq ?_
    refine WT_seq ?_
    refine WT_region ?_
    refine WL_v rfl (ov_move rfl) ?_
    refine WL_v rfl (ov_move rfl) ?_
    refine WL_v rfl (ov_T (ov_geq rfl rfl) (decide_eq_true (by omega))) ?_
    refine WL_v rfl (ov_move rfl) ?_
    refine WL_guardOff rfl rfl rfl rfl ?_
    refine WL_guardOff rfl rfl rfl rfl ?_
    refine WL_v rfl (ov_pickT rfl rfl) ?_
    refine WL_nil ?_
    refine WT_condT rfl ?_
    refine WT_exit rfl ?_
    refine WT_seq ?_
    refine WT_region ?_
    refine WL_v rfl (ov_move rfl) ?_
    refine WL_v rfl (ov_move rfl) ?_
    refine WL_v rfl (ov_gtr rfl rfl) ?_
    refine WL_v rfl (ov_assign rfl) ?_
    refine WL_nil ?_
    exact WT_ret1 Try.func110 Try.results110 rfl ⟨X, T', hX, hp, hD.done fun k k0 kn hk => by omega, hlast, hH⟩

theorem heapPush_ok {g : Nat} {pv bv dv tv : Value} {t tk : Int} {X : Heaplet} {T : List Ft} (hH : H w h (rbx g pv t bv tk dv tv :: X :: Ls)) (hX : FRow X tv T) (hw : WB T) (hl : T.length ≤ 900) (hh : Hp T T.length) (f : Ft) (hf : 0 ≤ f.w ∧ f.w < 8) :
    Rets Try.prog 81 [hpV g, .iface 114 (.agg (triF f).toArray)].toArray w fun _ w' => ∃ tv' X' T', FRow X' tv' T' ∧ T'.Perm (T ++ [f]) ∧ Hp T' T'.length ∧ H w' h (rbx g pv t bv tk dv tv' :: X' :: Ls) := by
  have hwf : WB (T ++ [f]) := fun x hx => by
    rcases List.mem_append.1 hx with h1 | h1
    · exact hw x h1
    · rw [List.mem_singleton] at h1; subst h1; exact hf
  have hal : (T ++ [f]).length = T.length + 1 := by simp
  have hu := UpOk.start (f := f) hh
  rw [← hal] at hu
  refine rets_enter Try.func81 rfl Try.ntmps81 (by simp) ?_
  refine WT_seq ?_
  refine WT_region ?_
  refine WL_v rfl (ov_move rfl) ?_
  refine WL_v rfl (ov_move rfl) ?_
  refine WL_invokeW rfl rfl rfl (cm_push g _ _) (fhPush_ok hH hX (by omega) f) ?_; rintro _ w1 ⟨tv1, X1, hX1, hH1⟩
  refine WL_nil ?_
  refine WT_region ?_
  refine WL_v rfl (ov_move rfl) ?_
  refine WL_v rfl (ov_move rfl) ?_
  refine WL_invokeW rfl rfl rfl (cm_len (hH1.cb 0 rfl 5)) (fhLen_ok hH1 hX1.sl) ?_; rintro _ w2 ⟨rfl, hH2⟩
  refine WL_v rfl (ov_as (ov_sub rfl rfl (by omega)) (congrArg (Value.int .i64) ((show (((T ++ [f]).length : Nat) : Int) - 1 = (T.length : Int) by omega)))) ?_
  refine WL_call rfl rfl cf_container_heap_up (up_ok hH2 hX1 hwf (j := T.length) (by omega) hu) ?_; rintro _ w3 ⟨X2, T2, hX2, hp, hh2, hH3⟩
  refine WL_nil ?_
  exact WT_end0 Try.func81 Try.results81 ⟨tv1, X2, T2, hX2, hp, hh2, hH3⟩

theorem heapPop_ok {g : Nat} {pv bv dv tv : Value} {t tk : Int} {X : Heaplet} {T : List Ft} {n : Nat} (hH : H w h (rbx g pv t bv tk dv tv :: X :: Ls)) (hX : FRow X tv T) (hw : WB T) (hn : T.length = n + 1) (hl : T.length ≤ 900) (hh : Hp T T.length) :
    Rets Try.prog 82 [hpV g].toArray w fun u w' => u = .iface 114 (.agg (triF (T.getD 0 default)).toArray) ∧ ∃ tv' X' T', FRow X' tv' T' ∧ (T' ++ [T.getD 0 default]).Perm T ∧ Hp T' T'.length ∧ H w' h (rbx g pv t bv tk dv tv' :: X' :: Ls) := by
  have h0 : 0 < T.length := by omega
  have hsl := swp_len T 0 n
  have hd := DnOk.start (T := T) (n := n) (hn ▸ hh) hn
  have hsp := swp_perm (T := T) (i := 0) (j := n) h0 (by omega)
  have hlast : (swp T 0 n).getD n default = T.getD 0 default := by rw [swp_getD h0 (by omega), if_pos rfl]
  refine rets_enter Try.func82 rfl Try.ntmps82 (by simp) ?_
  refine WT_seq ?_
  refine WT_region ?_
  refine WL_v rfl (ov_assign rfl) ?_
  refine WL_nil ?_
  refine WT_seq ?_
  refine WT_region ?_
  refine WL_v rfl (ov_move rfl) ?_
  refine WL_invokeW rfl rfl rfl (cm_len (hH.cb 0 rfl 5)) (fhLen_ok hH hX.sl) ?_; rintro _ w1 ⟨rfl, hH1⟩
  refine WL_v rfl (ov_as (ov_sub rfl rfl (by omega)) (congrArg (Value.int .i64) ((show ((T.length : Nat) : Int) - 1 = (n : Int) by omega)))) ?_
  refine WL_v rfl (ov_assign rfl) ?_
  refine WL_nil ?_
  refine WT_seq ?_
  refine WT_region ?_
  refine WL_v rfl (ov_move rfl) ?_
  refine WL_v rfl (ov_move rfl) ?_
  refine WL_invokeW rfl rfl rfl (cm_swap (hH1.cb 0 rfl 5)) (fhSwap_ok (i := 0) (j := n) hH1 hX h0 (show n < T.length by omega)) ?_; rintro _ w2 ⟨X1, hX1, hH2⟩
  refine WL_nil ?_
  refine WT_seq ?_
  refine WT_region ?_
  refine WL_v rfl (ov_move rfl) ?_
  refine WL_v rfl (ov_move rfl) ?_
  refine WL_call rfl rfl cf_container_heap_down (down_ok hH2 hX1 (hw.perm hsp) (n := n) (by omega) (by omega) hd) ?_; rintro _ w3 ⟨X2, T2, hX2, hp, hh2, hl2, hH3⟩; have hpl := hp.length_eq
  refine WL_nil ?_
  refine WT_seq ?_
  refine WT_region ?_
  refine WL_v rfl (ov_move rfl) ?_
  refine WL_invokeW rfl rfl rfl (cm_pop g _) (fhPop_ok (n := n) hH3 hX2 (by omega)) ?_; rintro _ w4 ⟨rfl, tv3, X3, hX3, hH4⟩
  refine WL_v rfl (ov_assign rfl) ?_
  refine WL_nil ?_
  have hget : T2.getD n default = T.getD 0 default := hl2.trans hlast
  have hT2 : T2.take n ++ [T.getD 0 default] = T2 := by
    rw [← hget, getD_ft (by omega), List.take_append_getElem, List.take_of_length_le (by omega)]
  exact WT_ret1 Try.func82 Try.results82 rfl ⟨by rw [hget], tv3, X3, T2.take n, hX3, by rw [hT2]; exact hp.trans hsp, hh2.take (by omega), hH4⟩
end
end Go.Proofs.Ytafljegjdanldaa
