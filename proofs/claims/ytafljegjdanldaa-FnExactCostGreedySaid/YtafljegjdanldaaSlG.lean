/- own rule: a region that draws its order, whose readers commute with a chain of effects -/
import Derived.Test.YtafljegjdanldaaSlD
namespace Go.Proofs.Ytafljegjdanldaa
open Go.RowKit

section
variable {P : Program} {ops : Array Oper} {C : World → Prop} {Q : Exit → Act → World → Prop}

/-- In every world of the class the operation reads this, and leaves the world as it is. -/
def Reads (P : Program) (ops : Array Oper) (C : World → Prop) (o : Oper) (v : Value) (a : Act) : Prop :=
  (Region.wanted o (yielded ops a.tmps) = true ∧ ∀ w, C w → (execOp a.eval o).run P w = .ok (.value v) w) ∨ (Region.wanted o (yielded ops a.tmps) = false ∧ v = undef)

theorem Reads.wpOp {i : Nat} {o : Oper} {v : Value} {a : Act} (hi : ops[i]? = some o) (hy : Reads P ops C o v a) {K : Act → World → Prop} {w : World} (hw : C w) (h : K (a.put o.dst v) w) : wpOp P ops Q i K a w := by
  unfold Go.wpOp
  simp only [hi]
  rcases hy with ⟨h1, h2⟩ | ⟨h1, rfl⟩
  · simp only [h1, if_true, Oper.wp, h2 w hw, Oper.upon]; exact .inl h
  · simp only [h1, Bool.false_eq_true, if_false]; exact h

theorem Reads.same {o : Oper} {v : Value} {a a' : Act} (hy : Reads P ops C o v a) (he : execOp a'.eval o = execOp a.eval o)
    (hw : Region.wanted o (yielded ops a'.tmps) = Region.wanted o (yielded ops a.tmps)) : Reads P ops C o v a' := by
  unfold Reads at *
  rwa [he, hw]

/-- Another operation goes past one that reads. -/
theorem wpOp_past {j : Nat} {oi oj : Oper} {v : Value} (hj : ops[j]? = some oj) (hap : oi.apart ops oj = true) (hsi : ∀ cs b, oi.op ≠ .select cs b) (hsj : ∀ cs b, oj.op ≠ .select cs b)
    (hQ : ∀ c a w, ¬ Q (.panic c) a w) {K : Act → World → Prop} {a : Act} {w : World} (hy : Reads P ops C oi v a) (h : wpOp P ops Q j K (a.put oi.dst v) w) :
    wpOp P ops Q j (fun a' w' => Reads P ops C oi v a' ∧ K (a'.put oi.dst v) w') a w := by
  obtain ⟨h1, h2, h3⟩ := Oper.apart_spec hap
  have keep : ∀ b : Act, Reads P ops C oi v b → ∀ u, Reads P ops C oi v (b.put oj.dst u) := fun b hb u => hb.same (execOp_put oi hsi b oj.dst u h3) (wanted_put oi b oj.dst u h3)
  have turn : ∀ (b : Act) u, K ((b.put oi.dst v).put oj.dst u) = K ((b.put oj.dst u).put oi.dst v) := fun b u => by rw [Act.put_comm b v u h2]
  unfold wpOp at h ⊢
  rw [hj] at h ⊢
  simp only at h ⊢
  rw [wanted_put oj a oi.dst v h1] at h
  by_cases hw : Region.wanted oj (yielded ops a.tmps) = true
  · rw [if_pos hw] at h ⊢
    unfold Oper.wp Oper.asks at *
    rw [execOp_put oj hsj a oi.dst v h1] at h
    refine h.imp (fun h => ?_) id
    revert h
    cases (execOp a.eval oj).run P w with
    | ok n w' =>
      cases n with
      | value u => exact fun h => ⟨keep a hy u, turn a u ▸ h⟩
      | skip => exact fun h => ⟨keep a hy undef, turn a undef ▸ h⟩
      | defer d =>
        intro h
        refine ⟨keep { a with defers := d :: a.defers } (hy.same rfl rfl) undef, ?_⟩
        have h' : K (({ a.put oi.dst v with defers := d :: (a.put oi.dst v).defers } : Act).put oj.dst undef) w' := h
        rw [Act.put_defers] at h'
        rwa [turn] at h'
      | enter f args =>
        intro h
        refine Calls.mono h fun e w'' he => ?_
        cases e with
        | returned u => exact ⟨keep a hy u, turn a u ▸ he⟩
        | panicked c => exact absurd he (hQ _ _ _)
        | outgrown => exact he
      | row r args => exact fun h => Rows.mono h fun u w'' he => ⟨keep a hy u, turn a u ▸ he⟩
      | _ => exact id
    | halt x w' =>
      cases x with
      | panic u => exact fun h => absurd h (hQ _ _ _)
      | _ => exact id
  · rw [if_neg hw] at h ⊢
    exact ⟨keep a hy undef, turn a undef ▸ h⟩

/-- An operation waits for another one, itself or by others. -/
def waitsB (ops : Array Oper) : Nat → Nat → Nat → Bool
  | 0, _, _ => false
  | f + 1, j, i => match ops[j]? with
    | some o => (o.after.any fun e => Region.binds .any e && e.on == i) || (o.after.any fun e => Region.binds .any e && waitsB ops f e.on i)
    | none => false
/-- What is listed is so with all that it waits for. -/
def Dc (ops : Array Oper) (listed : Array Bool) : Prop := ∀ (x : Nat) (o : Oper), ops[x]? = some o → listed.getD x false = true → ∀ e ∈ o.after, Region.binds .any e = true → listed.getD e.on false = true
theorem waits_listed {listed : Array Bool} {i : Nat} (hdc : Dc ops listed) : ∀ (f j : Nat) (o : Oper), ops[j]? = some o → (∀ e ∈ o.after, Region.binds .any e = true → listed.getD e.on false = true) → waitsB ops f j i = true → listed.getD i false = true
  | 0, _, _, _, _, h => by cases h
  | f + 1, j, o, ho, hall, h => by
    simp only [waitsB, ho, Bool.or_eq_true, Array.any_eq_true] at h
    rcases h with ⟨x, hx, h⟩ | ⟨x, hx, h⟩
    · simp only [Bool.and_eq_true, beq_iff_eq] at h
      have := hall _ (Array.getElem_mem hx) h.1
      rwa [h.2] at this
    · simp only [Bool.and_eq_true] at h
      have h1 := hall _ (Array.getElem_mem hx) h.1
      have h2 := h.2
      cases ho2 : ops[(o.after[x]).on]? with
      | none =>
        cases f with
        | zero => cases h2
        | succ f => simp only [waitsB, ho2] at h2; cases h2
      | some o2 => exact waits_listed hdc f _ o2 ho2 (hdc _ o2 ho2 h1) h2
theorem Dc.start (ops : Array Oper) (n : Nat) : Dc ops (Array.replicate n false) := fun x o _ h => by
  rw [Array.getD_eq_getD_getElem?, Array.getElem?_replicate] at h
  split at h <;> simp at h
theorem Dc.next {listed : Array Bool} {j : Nat} (hdc : Dc ops listed) (hj : j ∈ Region.ready .any ops listed) : Dc ops (listed.setIfInBounds j true) := fun x o ho h e he hb => by
  obtain ⟨_, oj, hoj, hall⟩ := mem_ready.1 hj
  by_cases hx : j = x
  · subst hx
    rw [hoj] at ho
    simp only [Option.some.injEq] at ho
    subst ho
    exact getD_set_true (hall e he hb)
  · rw [getD_set_ne false hx] at h
    exact getD_set_true (hdc x o ho h e he hb)
/-- Every sink waits for every reader of memory. -/
def sinkB (ops : Array Oper) (tg : Nat → Nat) : Bool :=
  (List.range ops.size).all fun j => !(tg j == 3) || (List.range ops.size).all fun i => !(tg i == 0) || waitsB ops 4 j i

/-- Any order from here on: readers (0), what reads no memory (1), effects that stay in the class (2), effects behind all readers (3). -/
def wpMix (P : Program) (ops : Array Oper) (C : World → Prop) (Q : Exit → Act → World → Prop) (tg : Nat → Nat) : Nat → Array Bool → Act → World → Prop
  | 0, listed, a, w => Region.ready .any ops listed = [] ∧ Q .normal a w
  | fuel + 1, listed, a, w => (Region.ready .any ops listed = [] → Q .normal a w) ∧
    ∀ i ∈ Region.ready .any ops listed, wpOp P ops Q i (fun a' w' => (C w ∧ tg i ≠ 3 → C w') ∧ wpMix P ops C Q tg fuel (listed.setIfInBounds i true) a' w') a w

theorem wpAny_of_mix {tg : Nat → Nat} : ∀ (fuel : Nat) (listed : Array Bool) (a : Act) (w : World), wpMix P ops C Q tg fuel listed a w → wpAny P .any ops Q fuel listed a w
  | 0, _, _, _, h => h
  | fuel + 1, _, _, _, h => ⟨h.1, fun i hi => wpOp_mono (fun a' w' h' => wpAny_of_mix fuel _ a' w' h'.2) (h.2 i hi)⟩

/-- An operation that reads may be taken first. -/
theorem wpMix_first {tg : Nat → Nat} {i : Nat} {oi : Oper} {v : Value} (hi : ops[i]? = some oi) (hti : tg i = 0) (hs : sinkB ops tg = true) (hsel : ∀ (j : Nat) (o : Oper) cs b, ops[j]? = some o → o.op ≠ .select cs b)
    (hQ : ∀ c a w, ¬ Q (.panic c) a w) : ∀ (fuel : Nat) (listed : Array Bool) (a : Act) (w : World), Dc ops listed → C w →
      (∀ j oj, ops[j]? = some oj → j ≠ i → listed.getD j true = false → (∀ e ∈ oj.after, Region.binds .any e = true → e.on ≠ i) → oi.apart ops oj = true) →
      i ∈ Region.ready .any ops listed → Reads P ops C oi v a →
      wpMix P ops C Q tg fuel (listed.setIfInBounds i true) (a.put oi.dst v) w → wpMix P ops C Q tg (fuel + 1) listed a w := by
  intro fuel
  induction fuel with
  | zero =>
    intro listed a w _ hC _ hr hy H
    refine ⟨fun h => absurd hr (by simp [h]), fun j hj => ?_⟩
    by_cases hji : j = i
    · subst hji; exact hy.wpOp hi hC ⟨fun _ => hC, H⟩
    · exact absurd (ready_mono hj hji) (by simp [H.1])
  | succ fuel ih =>
    intro listed a w hdc hC hfree hr hy H
    refine ⟨fun h => absurd hr (by simp [h]), fun j hj => ?_⟩
    by_cases hji : j = i
    · subst hji; exact hy.wpOp hi hC ⟨fun _ => hC, H⟩
    · obtain ⟨hjun, oj, hoj, hall⟩ := mem_ready.1 hj
      have hiun := (mem_ready.1 hr).1
      have hnot : ∀ e ∈ oj.after, Region.binds .any e = true → e.on ≠ i := fun e he hb heq => by
        have h1 := hall e he hb
        rw [heq] at h1
        rcases Nat.lt_or_ge i listed.size with h' | h'
        · simp [h'] at hiun h1; rw [hiun] at h1; cases h1
        · simp [Array.getElem?_eq_none h'] at h1
      have ht2 : tg j ≠ 3 := fun h2 => by
        have hlt : ∀ {n : Nat} {o : Oper}, ops[n]? = some o → n < ops.size := fun h => (Array.getElem?_eq_some_iff.1 h).1
        have h3 := List.all_eq_true.1 hs j (List.mem_range.2 (hlt hoj))
        rw [h2, beq_self_eq_true, Bool.not_true, Bool.false_or] at h3
        have h4 := List.all_eq_true.1 h3 i (List.mem_range.2 (hlt hi))
        rw [hti, beq_self_eq_true, Bool.not_true, Bool.false_or] at h4
        have h5 := waits_listed hdc 4 j oj hoj hall h4
        rcases Nat.lt_or_ge i listed.size with h' | h'
        · simp [h'] at hiun h5; rw [hiun] at h5; cases h5
        · simp [Array.getElem?_eq_none h'] at h5
      refine wpOp_mono (fun a' w' h3 => ?_) (wpOp_past hoj (hfree j oj hoj hji hjun hnot) (fun cs b => hsel i oi cs b hi) (fun cs b => hsel j oj cs b hoj) hQ hy (H.2 j (ready_mono hj hji)))
      obtain ⟨h4, h5, h6⟩ := h3
      rw [Array.setIfInBounds_comm _ _ (Ne.symm hji)] at h6
      exact ⟨fun _ => h5 ⟨hC, ht2⟩, ih _ a' w' (hdc.next hj) (h5 ⟨hC, ht2⟩) (fun k ok hk hki hun hno => hfree k ok hk hki (by
        by_cases hjk : j = k
        · subst hjk; exact hjun
        · rwa [getD_set_ne true hjk] at hun) hno) (ready_mono hr (Ne.symm hji)) h4 h6⟩

/-- An operation that reads no memory may be taken first. -/
theorem wpMix_pure {tg : Nat → Nat} {i : Nat} {oi : Oper} {v : Value} (hi : ops[i]? = some oi) (hsel : ∀ (j : Nat) (o : Oper) cs b, ops[j]? = some o → o.op ≠ .select cs b)
    (hQ : ∀ c a w, ¬ Q (.panic c) a w) : ∀ (fuel : Nat) (listed : Array Bool) (a : Act) (w : World),
      (∀ j oj, ops[j]? = some oj → j ≠ i → listed.getD j true = false → (∀ e ∈ oj.after, Region.binds .any e = true → e.on ≠ i) → oi.apart ops oj = true) →
      i ∈ Region.ready .any ops listed → Reads P ops (fun _ => True) oi v a →
      wpMix P ops C Q tg fuel (listed.setIfInBounds i true) (a.put oi.dst v) w → wpMix P ops C Q tg (fuel + 1) listed a w := by
  intro fuel
  induction fuel with
  | zero =>
    intro listed a w _ hr hy H
    refine ⟨fun h => absurd hr (by simp [h]), fun j hj => ?_⟩
    by_cases hji : j = i
    · subst hji; exact hy.wpOp hi trivial ⟨fun h => h.1, H⟩
    · exact absurd (ready_mono hj hji) (by simp [H.1])
  | succ fuel ih =>
    intro listed a w hfree hr hy H
    refine ⟨fun h => absurd hr (by simp [h]), fun j hj => ?_⟩
    by_cases hji : j = i
    · subst hji; exact hy.wpOp hi trivial ⟨fun h => h.1, H⟩
    · obtain ⟨hjun, oj, hoj, hall⟩ := mem_ready.1 hj
      have hiun := (mem_ready.1 hr).1
      have hnot : ∀ e ∈ oj.after, Region.binds .any e = true → e.on ≠ i := fun e he hb heq => by
        have h1 := hall e he hb
        rw [heq] at h1
        rcases Nat.lt_or_ge i listed.size with h' | h'
        · simp [h'] at hiun h1; rw [hiun] at h1; cases h1
        · simp [Array.getElem?_eq_none h'] at h1
      refine wpOp_mono (fun a' w' h3 => ?_) (wpOp_past hoj (hfree j oj hoj hji hjun hnot) (fun cs b => hsel i oi cs b hi) (fun cs b => hsel j oj cs b hoj) hQ hy (H.2 j (ready_mono hj hji)))
      obtain ⟨h4, h5, h6⟩ := h3
      rw [Array.setIfInBounds_comm _ _ (Ne.symm hji)] at h6
      exact ⟨h5, ih _ a' w' (fun k ok hk hki hun hno => hfree k ok hk hki (by
        by_cases hjk : j = k
        · subst hjk; exact hjun
        · rwa [getD_set_ne true hjk] at hun) hno) (ready_mono hr (Ne.symm hji)) h4 h6⟩

/-- One walk: readers as early as they can be, an effect when nothing else can be. -/
def wpWalk (P : Program) (ops : Array Oper) (C : World → Prop) (Q : Exit → Act → World → Prop) : List (Nat × Nat) → Act → World → Prop
  | [], a, w => Q .normal a w
  | (i, 0) :: r, a, w => C w ∧ ∃ o v, ops[i]? = some o ∧ Reads P ops C o v a ∧ wpWalk P ops C Q r (a.put o.dst v) w
  | (i, 1) :: r, a, w => ∃ o v, ops[i]? = some o ∧ Reads P ops (fun _ => True) o v a ∧ wpWalk P ops C Q r (a.put o.dst v) w
  | (i, t + 2) :: r, a, w => wpOp P ops Q i (fun a' w' => (t + 2 ≠ 3 → C w') ∧ wpWalk P ops C Q r a' w') a w

def walkB (ops : Array Oper) (tg : Nat → Nat) : List (Nat × Nat) → Array Bool → Bool
  | [], listed => (Region.ready .any ops listed).isEmpty
  | (i, t) :: r, listed => tg i == t && (if t < 2 then (Region.ready .any ops listed).contains i && Region.free .any ops listed i else Region.ready .any ops listed == [i]) && walkB ops tg r (listed.setIfInBounds i true)

theorem wpMix_walk {tg : Nat → Nat} (hs : sinkB ops tg = true) (hn : Region.noSelect ops = true) (hQ : ∀ c a w, ¬ Q (.panic c) a w) : ∀ (π : List (Nat × Nat)) (listed : Array Bool) (a : Act) (w : World),
    Dc ops listed → walkB ops tg π listed = true → wpWalk P ops C Q π a w → wpMix P ops C Q tg π.length listed a w
  | [], _, _, _, _, hB, h => ⟨by simpa [walkB] using hB, h⟩
  | (i, 0) :: r, listed, a, w, hdc, hB, h => by
    simp only [walkB, Nat.zero_lt_succ, if_true, Bool.and_eq_true, beq_iff_eq] at hB
    obtain ⟨⟨ht, hr, hf⟩, hB'⟩ := hB
    obtain ⟨hC, o, v, ho, hy, hw⟩ := h
    have hr' : i ∈ Region.ready .any ops listed := by simpa using hr
    exact wpMix_first ho ht hs (Region.noSelect_spec hn) hQ r.length listed a w hdc hC (Region.free_spec ho hf) hr' hy (wpMix_walk hs hn hQ r _ _ _ (hdc.next hr') hB' hw)
  | (i, 1) :: r, listed, a, w, hdc, hB, h => by
    simp only [walkB, Nat.one_lt_two, if_true, Bool.and_eq_true, beq_iff_eq] at hB
    obtain ⟨⟨ht, hr, hf⟩, hB'⟩ := hB
    obtain ⟨o, v, ho, hy, hw⟩ := h
    have hr' : i ∈ Region.ready .any ops listed := by simpa using hr
    exact wpMix_pure ho (Region.noSelect_spec hn) hQ r.length listed a w (Region.free_spec ho hf) hr' hy (wpMix_walk hs hn hQ r _ _ _ (hdc.next hr') hB' hw)
  | (i, t + 2) :: r, listed, a, w, hdc, hB, h => by
    have h2 : ¬ t + 2 < 2 := by omega
    simp only [walkB, Bool.and_eq_true, beq_iff_eq, h2, if_false] at hB
    obtain ⟨⟨ht, hr⟩, hB'⟩ := hB
    refine ⟨fun h0 => by simp [hr] at h0, fun j hj => ?_⟩
    obtain rfl : j = i := by simpa [hr] using hj
    exact wpOp_mono (fun a' w' h' => ⟨fun hh => h'.1 (ht ▸ hh.2), wpMix_walk hs hn hQ r _ _ _ (hdc.next hj) hB' h'.2⟩) h

end

section
variable {F : Fx} {env : Env} {w : World} {k : List Item} {ops : Array Oper} {C : World → Prop}

/-- The walk of a region whose readers commute with its effects. -/
def WMK (F : Fx) (ops : Array Oper) (C : World → Prop) (π : List (Nat × Nat)) (κ : Kon) (env : Env) (w : World) : Prop :=
  ∀ T, Sim F.n T env → wpWalk F.P ops C (WLpost κ) π ⟨T, []⟩ w
abbrev WM (F : Fx) (ops : Array Oper) (C : World → Prop) (π : List (Nat × Nat)) (k : List Item) (env : Env) (w : World) : Prop := WMK F ops C π (It F k) env w

def tagOf (π : List (Nat × Nat)) (i : Nat) : Nat := (π.lookup i).getD 9

theorem WT_mix {id : Nat} {l : List Oper} (π : List (Nat × Nat)) (C : World → Prop) {h : GH} {Ls : List Heaplet} (hm : F.P.follows .mixedOrders = true)
    (hB : (Region.noSelect l.toArray && sinkB l.toArray (tagOf π) && π.length == l.length && walkB l.toArray (tagOf π) π (Array.replicate l.length false)) = true)
    (hH : H w h Ls) (hk : ∀ w', H w' h Ls → WM F l.toArray C π k env w') : WT F (.code (.region id l.toArray true) :: k) env w := fun T hT => by
  simp only [Bool.and_eq_true, beq_iff_eq] at hB
  obtain ⟨⟨⟨h1, h2⟩, h3⟩, h4⟩ := hB
  refine WA_of_wp (wp_region_any hm (wpAny_of_mix (C := C) (tg := tagOf π) _ _ _ _ ?_))
  have := wpMix_walk (P := F.P) (C := C) (Q := WLpost (It F k)) h2 h1 (fun c a w h => by cases h.1) π (Array.replicate l.length false) ⟨T, []⟩ _ (Dc.start _ _) h4 (hk _ (hH.drew (w.drawn + 1)) T hT)
  simpa [h3] using this

/-- What the readers lean on: the own parts as they are, whatever else has been made. -/
abbrev Cl (h : GH) (Ls : List Heaplet) : World → Prop := fun w => ∃ L, H w h (L :: Ls)
theorem Cl.of {h : GH} {Ls : List Heaplet} (hH : H w h Ls) : Cl h Ls w := ⟨[], hH.nilIn⟩
theorem WT_mixL {id : Nat} {l : List Oper} (π : List (Nat × Nat)) {h : GH} {Ls : List Heaplet} (hm : F.P.follows .mixedOrders = true)
    (hB : (Region.noSelect l.toArray && sinkB l.toArray (tagOf π) && π.length == l.length && walkB l.toArray (tagOf π) π (Array.replicate l.length false)) = true)
    (hH : H w h Ls) (hk : ∀ w', H w' h Ls → Cl h Ls w' → WM F l.toArray (Cl h Ls) π k env w') : WT F (.code (.region id l.toArray true) :: k) env w :=
  WT_mix π (Cl h Ls) hm hB hH fun w' hw => hk w' hw (Cl.of hw)

theorem WM_nil (h : WT F k env w) : WM F ops C [] k env w := fun T hT => ⟨rfl, rfl, h T hT⟩

variable {i d : Nat} {op : Op} {ty : TypeId} {pos : String} {aft : Array Edge} {r : List (Nat × Nat)} {κ : Kon}
theorem WM_v {v : Value} (hi : ops[i]? = some ⟨some d, op, ty, pos, aft, none⟩) (hd : Nat.blt d F.n = true) (hC : C w) (ho : ∀ w, C w → OpV F.P env w op ty v) (hk : WMK F ops C r κ ((d, v) :: env) w) :
    WMK F ops C ((i, 0) :: r) κ env w := fun T hT =>
  ⟨hC, _, v, hi, .inl ⟨by simp [Region.wanted], fun w hw => ho w hw (some d) pos aft _ hT.evR⟩, hk _ (hT.put (blt_lt hd) v)⟩
theorem WM_vOn {v : Value} {j g : Nat} {want : Bool} (hi : ops[i]? = some ⟨some d, op, ty, pos, aft, some (j, want)⟩) (hj : (ops[j]?).bind (·.dst) = some g) (hv : lk env g = some (.bool want))
    (hd : Nat.blt d F.n = true) (hC : C w) (ho : ∀ w, C w → OpV F.P env w op ty v) (hk : WMK F ops C r κ ((d, v) :: env) w) :
    WMK F ops C ((i, 0) :: r) κ env w := fun T hT =>
  ⟨hC, _, v, hi, .inl ⟨by simp [Region.wanted, hT.yielded hj hv], fun w hw => by
    have := ho w hw (some d) pos aft _ hT.evR
    exact this⟩, hk _ (hT.put (blt_lt hd) v)⟩
theorem WM_off {j g : Nat} {want b : Bool} (hi : ops[i]? = some ⟨some d, op, ty, pos, aft, some (j, want)⟩) (hj : (ops[j]?).bind (·.dst) = some g) (hv : lk env g = some (.bool b)) (hne : (b == want) = false)
    (hd : Nat.blt d F.n = true) (hC : C w) (hk : WMK F ops C r κ ((d, undef) :: env) w) : WMK F ops C ((i, 0) :: r) κ env w := fun T hT =>
  ⟨hC, _, undef, hi, .inr ⟨by simp [Region.wanted, hT.yielded hj hv]; simpa using hne, rfl⟩, hk _ (hT.put (blt_lt hd) undef)⟩

theorem WM_p {v : Value} (hi : ops[i]? = some ⟨some d, op, ty, pos, aft, none⟩) (hd : Nat.blt d F.n = true) (ho : ∀ w, OpV F.P env w op ty v) (hk : WMK F ops C r κ ((d, v) :: env) w) :
    WMK F ops C ((i, 1) :: r) κ env w := fun T hT =>
  ⟨_, v, hi, .inl ⟨by simp [Region.wanted], fun w _ => ho w (some d) pos aft _ hT.evR⟩, hk _ (hT.put (blt_lt hd) v)⟩
theorem WM_pOn {v : Value} {j g : Nat} {want : Bool} (hi : ops[i]? = some ⟨some d, op, ty, pos, aft, some (j, want)⟩) (hj : (ops[j]?).bind (·.dst) = some g) (hv : lk env g = some (.bool want))
    (hd : Nat.blt d F.n = true) (ho : ∀ w, OpV F.P env w op ty v) (hk : WMK F ops C r κ ((d, v) :: env) w) :
    WMK F ops C ((i, 1) :: r) κ env w := fun T hT =>
  ⟨_, v, hi, .inl ⟨by simp [Region.wanted, hT.yielded hj hv], fun w _ => by
    have := ho w (some d) pos aft _ hT.evR
    exact this⟩, hk _ (hT.put (blt_lt hd) v)⟩
theorem WM_pOff {j g : Nat} {want b : Bool} (hi : ops[i]? = some ⟨some d, op, ty, pos, aft, some (j, want)⟩) (hj : (ops[j]?).bind (·.dst) = some g) (hv : lk env g = some (.bool b)) (hne : (b == want) = false)
    (hd : Nat.blt d F.n = true) (hk : WMK F ops C r κ ((d, undef) :: env) w) : WMK F ops C ((i, 1) :: r) κ env w := fun T hT =>
  ⟨_, undef, hi, .inr ⟨by simp [Region.wanted, hT.yielded hj hv]; simpa using hne, rfl⟩, hk _ (hT.put (blt_lt hd) undef)⟩

/-- What follows an effect. -/
def KoK (F : Fx) (ops : Array Oper) (C : World → Prop) (t : Nat) (r : List (Nat × Nat)) (κ : Kon) : Kon := fun a w => (t + 2 ≠ 3 → C w) ∧ wpWalk F.P ops C (WLpost κ) r a w
abbrev Ko (F : Fx) (ops : Array Oper) (C : World → Prop) (t : Nat) (r : List (Nat × Nat)) (k : List Item) : Kon := KoK F ops C t r (It F k)

/-- Posts of this form never differ in what they say of ends that are not normal. -/
theorem wpOp_post {P : Program} {κ κ' : Kon} {K : Act → World → Prop} {a : Act} (h : wpOp P ops (WLpost κ) i K a w) : wpOp P ops (WLpost κ') i K a w := by
  unfold wpOp at h ⊢
  cases ho : ops[i]? with
  | none => rw [ho] at h; exact h
  | some o =>
    rw [ho] at h
    simp only at h ⊢
    have hno : ∀ {κ : Kon}, ¬ LetsOut (WLpost κ) := fun h => by obtain ⟨_, _, h, _⟩ := h; cases h
    by_cases hw : Region.wanted o (yielded ops a.tmps) = true
    · rw [if_pos hw] at h ⊢
      rcases h with h | h
      · refine .inl ?_
        unfold Oper.wp at h ⊢
        revert h
        cases (execOp a.eval o).run P w with
        | ok n w' =>
          cases n with
          | enter f args =>
            intro h
            refine Calls.mono h fun e w'' he => ?_
            cases e with
            | returned u => exact he
            | panicked c => cases he.1
            | outgrown => exact absurd he hno
          | row r args => exact fun h => Rows.mono h fun u w'' he => he
          | value u => exact fun h => h
          | skip => exact fun h => h
          | defer d => exact fun h => h
          | _ => exact fun h => h
        | halt x w' =>
          cases x with
          | panic u => exact fun h => by cases h.1
          | _ => exact fun h => h
      · exact absurd h.2 hno
    · rw [if_neg hw] at h ⊢
      exact h
theorem WM_e {o : Oper} {t : Nat} (hi : ops[i]? = some o) (hk : WL F ops [o] (KoK F ops C t r κ) env w) : WMK F ops C ((i, t + 2) :: r) κ env w := fun T hT => by
  have h := hk T hT
  show wpOp _ _ _ _ _ _ _
  unfold wpOp
  rw [hi]
  unfold wpList at h
  simp only
  have hno : ∀ {κ : Kon}, ¬ LetsOut (WLpost κ) := fun h => by obtain ⟨_, _, h, _⟩ := h; cases h
  by_cases hw : Region.wanted o (yielded ops (Act.mk T []).tmps) = true
  · rw [if_pos hw] at h ⊢
    rcases h with h | h
    · refine .inl ?_
      unfold Oper.wp at h ⊢
      revert h
      cases (execOp (Act.mk T []).eval o).run F.P w with
      | ok n w' =>
        cases n with
        | enter f args =>
          intro h
          refine Calls.mono h fun e w'' he => ?_
          cases e with
          | returned u => exact he.2
          | panicked c => cases he.1
          | outgrown => exact absurd he hno
        | row r args => exact fun h => Rows.mono h fun u w'' he => he.2
        | value u => exact fun h => h.2
        | skip => exact fun h => h.2
        | defer d => exact fun h => h.2
        | _ => exact fun h => h
      | halt x w' =>
        cases x with
        | panic u => exact fun h => by cases h.1
        | _ => exact fun h => h
    · exact absurd h.2 hno
  · rw [if_neg hw] at h ⊢
    exact h.2
theorem WL_mix {t : Nat} (hC : t + 2 ≠ 3 → C w) (h : WMK F ops C r κ env w) : WL F ops [] (KoK F ops C t r κ) env w := fun T hT => wpList_nil ⟨rfl, hC, h T hT⟩

/-! Where several effects may come next: a walk of its own for each of them. -/
/-- What is still to be done when these operations are listed. -/
def Xk (F : Fx) (ops : Array Oper) (C : World → Prop) (tg : List (Nat × Nat)) (n : Nat) (listed : Array Bool) (k : List Item) : Kon := fun a w => Dc ops listed → wpMix F.P ops C (WLpost (It F k)) (tagOf tg) n listed a w
/-- The operations behind a part of a walk. -/
def walkL (ops : Array Oper) (tg : Nat → Nat) : List (Nat × Nat) → Array Bool → Option (Array Bool)
  | [], listed => some listed
  | (i, t) :: r, listed => if tg i == t && (if t < 2 then (Region.ready .any ops listed).contains i && Region.free .any ops listed i else Region.ready .any ops listed == [i]) then walkL ops tg r (listed.setIfInBounds i true) else none

theorem wpMix_walkL {P : Program} {tg : Nat → Nat} {κ κ' : Kon} {n : Nat} {l2 : Array Bool} (hs : sinkB ops tg = true) (hn : Region.noSelect ops = true)
    (hκ : ∀ a w, κ' a w → Dc ops l2 → wpMix P ops C (WLpost κ) tg n l2 a w) : ∀ (π : List (Nat × Nat)) (listed : Array Bool) (a : Act) (w : World),
    Dc ops listed → walkL ops tg π listed = some l2 → wpWalk P ops C (WLpost κ') π a w → wpMix P ops C (WLpost κ) tg (n + π.length) listed a w
  | [], _, _, _, hdc, hB, h => by
    simp only [walkL, Option.some.injEq] at hB
    subst hB
    exact hκ _ _ h.2 hdc
  | (i, 0) :: r, listed, a, w, hdc, hB, h => by
    simp only [walkL, Nat.zero_lt_succ, if_true] at hB
    split at hB
    · rename_i hc
      simp only [Bool.and_eq_true, beq_iff_eq] at hc
      obtain ⟨ht, hr, hf⟩ := hc
      obtain ⟨hC, o, v, ho, hy, hw⟩ := h
      have hr' : i ∈ Region.ready .any ops listed := by simpa using hr
      exact wpMix_first ho ht hs (Region.noSelect_spec hn) (fun c a w h => by cases h.1) (n + r.length) listed a w hdc hC (Region.free_spec ho hf) hr' hy (wpMix_walkL hs hn hκ r _ _ _ (hdc.next hr') hB hw)
    · cases hB
  | (i, 1) :: r, listed, a, w, hdc, hB, h => by
    simp only [walkL, Nat.one_lt_two, if_true] at hB
    split at hB
    · rename_i hc
      simp only [Bool.and_eq_true, beq_iff_eq] at hc
      obtain ⟨ht, hr, hf⟩ := hc
      obtain ⟨o, v, ho, hy, hw⟩ := h
      have hr' : i ∈ Region.ready .any ops listed := by simpa using hr
      exact wpMix_pure ho (Region.noSelect_spec hn) (fun c a w h => by cases h.1) (n + r.length) listed a w (Region.free_spec ho hf) hr' hy (wpMix_walkL hs hn hκ r _ _ _ (hdc.next hr') hB hw)
    · cases hB
  | (i, t + 2) :: r, listed, a, w, hdc, hB, h => by
    have h2 : ¬ t + 2 < 2 := by omega
    simp only [walkL, h2, if_false] at hB
    split at hB
    · rename_i hc
      simp only [Bool.and_eq_true, beq_iff_eq] at hc
      obtain ⟨ht, hr⟩ := hc
      refine ⟨fun h0 => by simp [hr] at h0, fun j hj => ?_⟩
      obtain rfl : j = i := by simpa [hr] using hj
      exact wpOp_post (wpOp_mono (fun a' w' h' => ⟨fun hh => h'.1 (ht ▸ hh.2), wpMix_walkL hs hn hκ r _ _ _ (hdc.next hj) hB h'.2⟩) h)
    · cases hB

theorem WT_mixX {id : Nat} {l : List Oper} (tg : List (Nat × Nat)) (π : List (Nat × Nat)) (n : Nat) (l2 : Array Bool) {h : GH} {Ls : List Heaplet} (hm : F.P.follows .mixedOrders = true)
    (hB : (Region.noSelect l.toArray && sinkB l.toArray (tagOf tg) && n + π.length == l.length && walkL l.toArray (tagOf tg) π (Array.replicate l.length false) == some l2) = true)
    (hH : H w h Ls) (hk : ∀ w', H w' h Ls → Cl h Ls w' → WMK F l.toArray (Cl h Ls) π (Xk F l.toArray (Cl h Ls) tg n l2 k) env w') : WT F (.code (.region id l.toArray true) :: k) env w := fun T hT => by
  simp only [Bool.and_eq_true, beq_iff_eq] at hB
  obtain ⟨⟨⟨h1, h2⟩, h3⟩, h4⟩ := hB
  refine WA_of_wp (wp_region_any hm (wpAny_of_mix (C := Cl h Ls) (tg := tagOf tg) _ _ _ _ ?_))
  have := wpMix_walkL (P := F.P) (C := Cl h Ls) (κ := It F k) (n := n) h2 h1 (fun a w h => h) π (Array.replicate l.length false) ⟨T, []⟩ _ (Dc.start _ _) h4 (hk _ (hH.drew (w.drawn + 1)) (Cl.of (hH.drew _)) T hT)
  simpa [h3] using this
/-- Two effects are ready: each may come first. -/
theorem WM_fork {tg : List (Nat × Nat)} {n : Nat} {listed : Array Bool} (i j ti tj : Nat) (ri rj : List (Nat × Nat)) (ni nj : Nat) (li lj : Array Bool)
    (hB : (Region.noSelect ops && sinkB ops (tagOf tg) && (tagOf tg i == ti + 2 && tagOf tg j == tj + 2) && (ni + ri.length + 1 == n && nj + rj.length + 1 == n) && Region.ready .any ops listed == [i, j]
      && walkL ops (tagOf tg) ri (listed.setIfInBounds i true) == some li && walkL ops (tagOf tg) rj (listed.setIfInBounds j true) == some lj) = true)
    (hi : WMK F ops C ((i, ti + 2) :: ri) (Xk F ops C tg ni li k) env w) (hj : WMK F ops C ((j, tj + 2) :: rj) (Xk F ops C tg nj lj k) env w) : WMK F ops C [] (Xk F ops C tg n listed k) env w := fun T hT => by
  simp only [Bool.and_eq_true, beq_iff_eq] at hB
  obtain ⟨⟨⟨⟨⟨⟨h1, h2⟩, hti, htj⟩, hni, hnj⟩, hr⟩, hwi⟩, hwj⟩ := hB
  refine ⟨rfl, fun hdc => ?_⟩
  obtain ⟨m, rfl⟩ : ∃ m, n = m + 1 := ⟨_, hni.symm⟩
  refine ⟨fun h0 => by simp [hr] at h0, fun x hx => ?_⟩
  have hx' : x = i ∨ x = j := by simpa [hr] using hx
  rcases hx' with rfl | rfl
  · obtain rfl : ni + ri.length = m := by omega
    have hh := hi T hT
    exact wpOp_post (wpOp_mono (fun a' w' h' => ⟨fun hh => h'.1 (hti ▸ hh.2), wpMix_walkL h2 h1 (fun a w h => h) ri _ _ _ (hdc.next hx) hwi h'.2⟩) hh)
  · obtain rfl : nj + rj.length = m := by omega
    have hh := hj T hT
    exact wpOp_post (wpOp_mono (fun a' w' h' => ⟨fun hh => h'.1 (htj ▸ hh.2), wpMix_walkL h2 h1 (fun a w h => h) rj _ _ _ (hdc.next hx) hwj h'.2⟩) hh)
theorem WM_fin {tg : List (Nat × Nat)} {listed : Array Bool} (hr : (Region.ready .any ops listed).isEmpty = true) (h : WT F k env w) : WMK F ops C [] (Xk F ops C tg 0 listed k) env w := fun T hT =>
  ⟨rfl, fun _ => ⟨by simpa using hr, rfl, rfl, h T hT⟩⟩
end

section
variable {F : Fx} {env : Env} {w : World} {k : Kon} {ops : Array Oper} {rest : List Oper} {d : Nat} {ty : TypeId} {pos : String} {aft : Array Edge} {h : GH} {Ls : List Heaplet}
/-- A list of one number, of none, of zeros; one number more. -/
theorem WL_bsI {t e : TypeId} {x : Operand} {a : Int} (hd : Nat.blt d F.n = true) (hH : H w h Ls) (hp : evp env [(0, x)] = some [(0, .int .i64 a)])
    (hrun : ∀ W, (Instr.buildSlice t 1 #[(0, .int .i64 a)]).run F.P W = .ok (.slice (some ⟨W.heap.size, 0, none⟩) 1 1) (W.alloc (.cells [Value.int .i64 a].toArray e)))
    (hk : ∀ Y v w', IRow Y e v [a] → H w' h (Y :: Ls) → WL F ops rest k ((d, v) :: env) w') : WL F ops (⟨some d, .buildSlice t 1 #[(0, x)], ty, pos, aft, none⟩ :: rest) k env w :=
  WL_buildSlice (sz := 1) [.int .i64 a] hd hH hp hrun rfl (by omega) hk
theorem WL_bsI0 {t e : TypeId} (hd : Nat.blt d F.n = true) (hH : H w h Ls)
    (hrun : ∀ W, (Instr.buildSlice t 0 #[]).run F.P W = .ok (.slice (some ⟨W.heap.size, 0, none⟩) 0 0) (W.alloc (.cells ([] : List Value).toArray e)))
    (hk : ∀ Y v w', IRow Y e v [] → H w' h (Y :: Ls) → WL F ops rest k ((d, v) :: env) w') : WL F ops (⟨some d, .buildSlice t 0 #[], ty, pos, aft, none⟩ :: rest) k env w :=
  WL_buildSlice (sz := 1) (parts := []) (vs := []) [] hd hH rfl hrun rfl (by omega) hk
theorem WL_appI {t e : TypeId} {bts : Nat} {z : List Value} {x y : Operand} {i j : Nat} {X Y : Heaplet} {v sv : Value} {xs ys : List Int} (hd : Nat.blt d F.n = true) (hH : H w h Ls) (hx : ev env x = some v) (hy : ev env y = some sv)
    (ht : SlT F.P t e 1 bts z) (hi : Ls[i]? = some X) (hR : IRow X e v xs) (hj : Ls[j]? = some Y) (hY : IRow Y e sv ys) (hb : (xs.length + ys.length) * bts ≤ 140737488355328) (h63 : xs.length + ys.length ≤ 9223372036854775807)
    (hk : ∀ X' v' w', IRow X' e v' (xs ++ ys) → H w' h (Ls.set i X') → WL F ops rest k ((d, v') :: env) w') :
    WL F ops (⟨some d, .call { callee := .builtin .append, args := #[x, y], argTypes := #[t, t] }, ty, pos, aft, none⟩ :: rest) k env w :=
  WL_append1 hd hH hx hy ht (by omega) hi hR hj hY (fun u hu => by obtain ⟨a, _, rfl⟩ := List.mem_map.1 hu; rfl) hb h63 fun X' v' w' hX => hk X' v' w' (by unfold IRow; simpa using hX)
theorem WL_makeI {t e : TypeId} {bts n : Nat} {x y : Operand} {kx ky : IntKind} (hd : Nat.blt d F.n = true) (hH : H w h Ls) (hx : ev env x = some (.int kx (n : Int))) (hy : ev env y = some (.int ky (n : Int))) (ht : SlT F.P t e 1 bts [.int .i64 0])
    (hb : bts * n ≤ 281474976710656) (h63 : n ≤ 9223372036854775807)
    (hk : ∀ X v w', IRow X e v (List.replicate n 0) → H w' h (X :: Ls) → WL F ops rest k ((d, v) :: env) w') : WL F ops (⟨some d, .makeSlice t x y, ty, pos, aft, none⟩ :: rest) k env w :=
  WL_make hd hH hx hy ht (by omega) (Nat.le_refl n) hb h63 fun X v w' hX => hk X v w' (by
    unfold IRow
    simpa using hX)
theorem WL_storeI {x y : Operand} {t : TypeId} {X : Heaplet} {e : TypeId} {v : Value} {xs : List Int} {a : Int} {i j : Nat} (hH : H w h Ls) (hx : ev env x = some (.pointer (some ((slA v).add (j * 1))))) (hy : ev env y = some (.int .i64 a))
    (hi : Ls[i]? = some X) (hR : IRow X e v xs) (hj : j < xs.length) (ht : SizeT F.P t 1)
    (hk : ∀ X' w', IRow X' e v (xs.set j a) → H w' h (Ls.set i X') → WL F ops rest k env w') : WL F ops (⟨none, .store t x y, ty, pos, aft, none⟩ :: rest) k env w :=
  WL_storeRow (j := j * 1) hH hx hy hi hR (by simpa using hj) rfl ht fun X' w' hX => hk X' w' (by
    unfold IRow
    simpa [List.map_set] using hX)
end

section
variable {F : Fx} {env : Env} {w : World} {k : List Item}
/-- A result that lies in a variable of its own. -/
theorem results_cellA {fn : Func} {p : Tmp} {ty : TypeId} (hr : fn.results = #[.cell p ty]) {T : Array Value} {P : Program} {a : Addr} {v : Value} (hv : T.getD p undef = .pointer (some a)) (hl : (loadVar ty a).run P w = .ok v w) : (results fn T).run P w = .ok v w := by
  simp only [Array.getD_eq_getD_getElem?] at hv
  simp [results, hr, hv, asAddr, hl]
theorem WT_retC {fn : Func} {p : Tmp} {ty : TypeId} {a : Addr} {v : Value} (hf : F.P.funcs[F.f]? = some fn) (hr : fn.results = #[.cell p ty]) (hv : lk env p = some (.pointer (some a))) (hl : (loadVar ty a).run F.P w = .ok v w) (hR : F.R v w) : WT F (.code .ret :: k) env w :=
  WT_retG hf (fun _ hT => results_cellA hr (hT.getD hv) hl) hR
theorem WT_endC {fn : Func} {p : Tmp} {ty : TypeId} {a : Addr} {v : Value} (hf : F.P.funcs[F.f]? = some fn) (hr : fn.results = #[.cell p ty]) (hv : lk env p = some (.pointer (some a))) (hl : (loadVar ty a).run F.P w = .ok v w) (hR : F.R v w) : WT F [] env w :=
  WT_endG hf (fun _ hT => results_cellA hr (hT.getD hv) hl) hR
end

/-- A part of a list written over. -/
def splice (xs : List Value) (o : Nat) (vs : List Value) : List Value := xs.take o ++ vs ++ xs.drop (o + vs.length)
theorem splice_len {xs vs : List Value} {o : Nat} (h : o + vs.length ≤ xs.length) : (splice xs o vs).length = xs.length := by
  simp [splice]; omega
theorem splice_get {xs vs : List Value} {o : Nat} (h : o + vs.length ≤ xs.length) (j : Nat) : (splice xs o vs)[j]? = if j < o then xs[j]? else if j < o + vs.length then vs[j - o]? else xs[j]? := by
  unfold splice
  have h1 : (xs.take o).length = o := by rw [List.length_take]; omega
  by_cases h2 : j < o
  · rw [if_pos h2, List.append_assoc, List.getElem?_append_left (by omega), List.getElem?_take_of_lt h2]
  · rw [if_neg h2, List.append_assoc, List.getElem?_append_right (by omega), h1]
    by_cases h3 : j < o + vs.length
    · rw [if_pos h3, List.getElem?_append_left (by omega)]
    · rw [if_neg h3, List.getElem?_append_right (by omega), List.getElem?_drop]
      congr 1
      omega

section
variable {F : Fx} {env : Env} {w : World} {k : Kon} {ops : Array Oper} {rest : List Oper} {d : Nat} {ty : TypeId} {pos : String} {aft : Array Edge} {h : GH} {Ls : List Heaplet}
/-- A struct is written into a slice of one's own. -/
theorem WL_storeRowN {x y : Operand} {t : TypeId} {X : Heaplet} {e : TypeId} {sz : Nat} {v : Value} {n : Nat} {xs vs : List Value} {i o : Nat} (hH : H w h Ls) (hx : ev env x = some (.pointer (some ((slA v).add o)))) (hy : ev env y = some (.agg vs.toArray))
    (hi : Ls[i]? = some X) (hR : Row X e sz v n xs) (ho : o + vs.length ≤ xs.length) (h0 : 0 < vs.length) (hu : ∀ u ∈ vs, u.oneCell' = true) (ht : SizeT F.P t vs.length)
    (hk : ∀ X' w', Row X' e sz v n (splice xs o vs) → H w' h (Ls.set i X') → WL F ops rest k env w') : WL F ops (⟨none, .store t x y, ty, pos, aft, none⟩ :: rest) k env w := by
  have hlen := hR.len
  rcases hR.form with ⟨_, rfl, _⟩ | ⟨g, off, cap, cs, rfl, hv, hc, hs, hcs⟩
  · rw [hlen] at ho; omega
  · have hle : off + xs.length ≤ cs.size := by
      have : n * sz ≤ cap * sz := Nat.mul_le_mul_right sz hc
      rw [hlen]; omega
    have hg := hH.mem hi (p := (g, .cells cs e (0, 0))) (by simp)
    have hst := run_storeCells_at F.P g (off + o) e vs 0 cs w hg (by omega) hu
    have hz : (cs.toList.take (off + o + 0) ++ vs ++ cs.toList.drop (off + o + 0 + vs.length)).toArray = (splice cs.toList (off + o) vs).toArray := rfl
    rw [hz] at hst
    have hsl : (splice cs.toList (off + o) vs).length = cs.toList.length := splice_len (by simp; omega)
    refine WL_unit (w' := w.setRow g (splice cs.toList (off + o) vs).toArray) (fun ρ hρ => ?_) (hk [(g, .cells (splice cs.toList (off + o) vs).toArray e (0, 0))] _ ⟨by rw [splice_len ho, hlen], hR.lim, .inr ⟨g, off, cap, _, rfl, hv, hc, by simp [hsl]; omega, fun j u hj => ?_⟩⟩
      (hH.act hi rfl rfl rfl (by simp) (fun k hk hne => setRow_other w g k _ (fun he => hne (g, .cells cs e (0, 0)) (by simp) he.symm)) (fun p hp => ?_) (by simp) (fun p hp => .inl ⟨(g, .cells cs e (0, 0)), by simp, ?_⟩)))
    · obtain ⟨i, h1, h2⟩ := ht
      rw [hv] at hx
      simp only [slA, Addr.add_lit] at hx
      simp [execOp, hρ.1 x _ hx, hρ.1 y _ hy, Instr.storeAt, Instr.sureAddr, storeVar, Value.cells, sizeOf, typeInfo, h1, h2, hst]
    · rw [List.getElem?_toArray, splice_get (by simp; omega)]
      rw [splice_get ho] at hj
      by_cases h1 : j < o
      · rw [if_pos h1] at hj
        rw [if_pos (by omega), Array.getElem?_toList]
        exact hcs j u hj
      · rw [if_neg h1] at hj
        rw [if_neg (by omega)]
        by_cases h2 : j < o + vs.length
        · rw [if_pos h2] at hj
          rw [if_pos (by omega), ← hj]
          congr 1
          omega
        · rw [if_neg h2] at hj
          rw [if_neg (by omega), Array.getElem?_toList]
          exact hcs j u hj
    · simp only [List.mem_singleton] at hp
      subst hp
      exact setRow_heap w g cs _ e (0, 0) hg
    · simp only [List.mem_singleton] at hp
      subst hp; rfl
end
end Go.Proofs.Ytafljegjdanldaa
