/- Plain rules for stepping through a function: frames known by an association list of slots. No program is named here. -/
import Derived.Tactics
import Derived.Deep.Quiet
namespace Go.Proofs.Ytafljegjdanldaa

/-- Slots that are known. The first entry for a slot counts. -/
abbrev Env := List (Nat × Value)

def lk : Env → Nat → Option Value
  | [], _ => none
  | (k, v) :: r, t => bif Nat.beq k t then some v else lk r t

def ev (env : Env) : Operand → Option Value
  | .tmp t => lk env t
  | .const v => some v
  | .global g => some (.pointer (some ⟨g, 0, none⟩))
  | .func f => some (.func (.func f) #[] #[])

def evs (env : Env) : List Operand → Option (List Value)
  | [] => some []
  | x :: r => match ev env x, evs env r with
    | some v, some vs => some (v :: vs)
    | _, _ => none

def Sim (n : Nat) (T : Array Value) (env : Env) : Prop := T.size = n ∧ ∀ t v, lk env t = some v → T[t]? = some v

theorem blt_lt {a b : Nat} (h : Nat.blt a b = true) : a < b := Nat.le_of_ble_eq_true h
theorem lk_cons_eq (d : Nat) (v : Value) (env : Env) : lk ((d, v) :: env) d = some v := by simp [lk]
theorem lk_cons_ne {d t : Nat} (v : Value) (env : Env) (h : d ≠ t) : lk ((d, v) :: env) t = lk env t := by
  have : Nat.beq d t = false := by
    cases hb : Nat.beq d t
    · rfl
    · exact absurd (Nat.eq_of_beq_eq_true hb) h
  simp [lk, this]

theorem Sim.eval {n : Nat} {T : Array Value} {env : Env} (h : Sim n T env) {ds : List Deferred} {x : Operand} {v : Value} (hx : ev env x = some v) : (Act.mk T ds).eval x = v := by
  cases x with
  | tmp t =>
    have := h.2 t v hx
    simp [Act.eval, Array.getD_eq_getD_getElem?, this]
  | const u => simpa [ev, Act.eval] using hx
  | global g => simpa [ev, Act.eval] using hx
  | func f => simpa [ev, Act.eval] using hx

theorem Sim.evals {n : Nat} {T : Array Value} {env : Env} (h : Sim n T env) {ds : List Deferred} : ∀ {xs : List Operand} {vs : List Value}, evs env xs = some vs → xs.map (Act.mk T ds).eval = vs
  | [], vs, hx => by simpa [evs] using hx
  | x :: r, vs, hx => by
    simp only [evs] at hx
    split at hx
    · rename_i v vs' h1 h2
      have := h.eval (ds := ds) h1
      have h3 := Sim.evals h (ds := ds) h2
      simp only [Option.some.injEq] at hx
      subst hx
      simp [this, h3]
    · cases hx

theorem Sim.put {n : Nat} {T : Array Value} {env : Env} (h : Sim n T env) {d : Nat} (hd : d < n) (v : Value) : Sim n (T.setIfInBounds d v) ((d, v) :: env) := by
  refine ⟨by simp [h.1], fun t u ht => ?_⟩
  by_cases hdt : d = t
  · subst hdt
    rw [lk_cons_eq] at ht
    simp only [Option.some.injEq] at ht
    subst ht
    simp [h.1, hd]
  · rw [lk_cons_ne v env hdt] at ht
    have := h.2 t u ht
    rw [Array.getElem?_setIfInBounds, if_neg hdt]
    exact this

/-- Every entry of the first is so in the second. -/
def Sub : Env → Env → Prop
  | [], _ => True
  | (k, v) :: r, e => lk e k = some v ∧ Sub r e

theorem Sub.lk {e : Env} : ∀ {e' : Env}, Sub e' e → ∀ {t v}, lk e' t = some v → lk e t = some v
  | [], _, t, v, h => by simp [Go.Proofs.Ytafljegjdanldaa.lk] at h
  | (p1, p2) :: r, hs, t, v, h => by
    by_cases hp : p1 = t
    · subst hp
      rw [lk_cons_eq] at h
      rw [← h]; exact hs.1
    · rw [lk_cons_ne _ _ hp] at h
      exact Sub.lk hs.2 h

theorem Sim.sub {n : Nat} {T : Array Value} {e e' : Env} (h : Sim n T e) (hs : Sub e' e) : Sim n T e' :=
  ⟨h.1, fun t v ht => h.2 t v (hs.lk ht)⟩

/-- What a walk goes by: the program, the function's number, how many slots, what is to hold of the result. -/
structure Fx where
  P : Program
  f : FuncId
  n : Nat
  R : Value → World → Prop

/-- From these slots and this world on, with this to do, the function returns, and R holds. -/
def WA (F : Fx) (todo : List Item) (T : Array Value) (w : World) : Prop :=
  ∀ b : Frame, b.fn = F.f → b.kind = .normal → ∀ cs, ∃ v w' fr, F.R v w' ∧ Steps F.P (lone (b.at ⟨T, []⟩ todo) cs w) (lone fr cs w') ∧ fr.fn = F.f ∧ fr.leaving F.P w' (.returned v)

def WT (F : Fx) (todo : List Item) (env : Env) (w : World) : Prop := ∀ T, Sim F.n T env → WA F todo T w

/-- The call returns, and R holds of what it returns. -/
def Rets (P : Program) (f : FuncId) (args : Array Value) (w : World) (R : Value → World → Prop) : Prop :=
  Calls P f args w fun e w' => ∃ v, e = .returned v ∧ R v w'

theorem Rets.mono {P : Program} {f : FuncId} {args : Array Value} {w : World} {R R' : Value → World → Prop} (h : Rets P f args w R) (hr : ∀ v w', R v w' → R' v w') : Rets P f args w R' :=
  Calls.mono h fun _ _ ⟨v, he, hv⟩ => ⟨v, he, hr _ _ hv⟩

def argEnv : Nat → List Value → Env
  | _, [] => []
  | i, v :: r => (i, v) :: argEnv (i + 1) r

theorem lk_argEnv : ∀ (l : List Value) (i t : Nat) (v : Value), lk (argEnv i l) t = some v → i ≤ t ∧ l[t - i]? = some v
  | [], _, _, _, h => by simp [argEnv, lk] at h
  | u :: r, i, t, v, h => by
    simp only [argEnv] at h
    by_cases hit : i = t
    · subst hit
      rw [lk_cons_eq] at h
      exact ⟨Nat.le_refl _, by simpa using h⟩
    · rw [lk_cons_ne _ _ hit] at h
      obtain ⟨h1, h2⟩ := lk_argEnv r (i + 1) t v h
      refine ⟨by omega, ?_⟩
      rw [show t - i = (t - (i + 1)) + 1 by omega]
      simpa using h2

theorem rets_enter {P : Program} {f : FuncId} {fn : Func} {c : Code} {args : List Value} {w : World} {R : Value → World → Prop} {n : Nat}
    (hf : P.funcs[f]? = some fn) (hb : fn.body = some c) (hn : fn.ntmps = n) (ha : args.length ≤ n)
    (h : WT ⟨P, f, n, R⟩ [.code c] (argEnv 0 args) w) : Rets P f args.toArray w R := by
  intro cs
  let b : Frame := { (default : Frame) with fn := f, kind := .normal }
  have henter : Frame.enter P f args.toArray .normal = b.at { tmps := args.toArray ++ Array.replicate (fn.ntmps - args.toArray.size) undef, defers := [] } [.code c] := by
    simp [Frame.enter, Frame.at, hf, hb, b]
  have hsim : Sim n (args.toArray ++ Array.replicate (fn.ntmps - args.toArray.size) undef) (argEnv 0 args) := by
    refine ⟨by simp; omega, fun t v ht => ?_⟩
    obtain ⟨_, h2⟩ := lk_argEnv args 0 t v ht
    have hlt : t < args.length := by
      rcases Nat.lt_or_ge t args.length with h | h
      · exact h
      · rw [List.getElem?_eq_none (by omega)] at h2; cases h2
    rw [Array.getElem?_append_left (by simpa using hlt)]
    simpa using h2
  obtain ⟨v, w', fr, hR, hs, hfn, hl⟩ := h _ hsim b rfl rfl cs
  exact ⟨.returned v, w', fr, ⟨v, rfl, hR⟩, by rw [henter]; exact hs, hfn, hl⟩

section
variable {F : Fx} {env : Env} {w : World} {k : List Item}

theorem WT.sub {todo : List Item} {e e' : Env} (h : WT F todo e' w) (hs : Sub e' e) : WT F todo e w := fun T hT => h T (hT.sub hs)

theorem WA_steps {todo todo' : List Item} {T T' : Array Value} {w w' : World} (h : WA F todo' T' w')
    (hs : ∀ (b : Frame) (cs : List Frame), step F.P (lone (b.at ⟨T, []⟩ todo) cs w) = .next (lone (b.at ⟨T', []⟩ todo') cs w')) : WA F todo T w := fun b hb hk cs => by
  obtain ⟨v, w'', fr, hR, hst, hrest⟩ := h b hb hk cs
  exact ⟨v, w'', fr, hR, .head (hs b cs) hst, hrest⟩

theorem WT_seq {x y : Code} (h : WT F (.code x :: .code y :: k) env w) : WT F (.code (.seq x y) :: k) env w := fun T hT => WA_steps (h T hT) fun _ _ => step_seq
theorem WT_skip (h : WT F k env w) : WT F (.code .skip :: k) env w := fun T hT => WA_steps (h T hT) fun _ _ => step_skip
theorem WT_label {l : Nat} (h : WT F k env w) : WT F (.code (.label l) :: k) env w := fun T hT => WA_steps (h T hT) fun _ _ => step_label
theorem WT_inBlock {id : Nat} (h : WT F k env w) : WT F (.inBlock id :: k) env w := fun T hT => WA_steps (h T hT) fun _ _ => step_inBlock
theorem WT_block {id : Nat} {c : Code} (h : WT F (.code c :: .inBlock id :: k) env w) : WT F (.code (.block id c) :: k) env w := fun T hT => WA_steps (h T hT) fun _ _ => step_block
theorem WT_loop {c : Code} (h : WT F (.code c :: .inLoop c :: k) env w) : WT F (.code (.loop c) :: k) env w := fun T hT => WA_steps (h T hT) fun _ _ => step_loop
theorem WT_inLoop {c : Code} (h : WT F (.code c :: .inLoop c :: k) env w) : WT F (.inLoop c :: k) env w := fun T hT => WA_steps (h T hT) fun _ _ => step_inLoop
theorem WT_exit {id : Nat} {k' : List Item} (hx : exitTo id k = some k') (h : WT F k' env w) : WT F (.code (.exit id) :: k) env w := fun T hT => WA_steps (h T hT) fun _ _ => step_exit hx
theorem WT_cond {c : Operand} {x y : Code} {t : Bool} (hc : ev env c = some (.bool t)) (ht : t = true → WT F (.code x :: k) env w) (hf : t = false → WT F (.code y :: k) env w) : WT F (.code (.cond c x y) :: k) env w := fun T hT => by
  have he : (Act.mk T []).eval c = .bool t := hT.eval hc
  cases t with
  | true => exact WA_steps (ht rfl T hT) fun _ _ => step_cond (t := true) he
  | false => exact WA_steps (hf rfl T hT) fun _ _ => step_cond (t := false) he
theorem WT_condT {c : Operand} {x y : Code} (hc : ev env c = some (.bool true)) (h : WT F (.code x :: k) env w) : WT F (.code (.cond c x y) :: k) env w := WT_cond hc (fun _ => h) (fun h => by cases h)
theorem WT_condF {c : Operand} {x y : Code} (hc : ev env c = some (.bool false)) (h : WT F (.code y :: k) env w) : WT F (.code (.cond c x y) :: k) env w := WT_cond hc (fun h => by cases h) (fun _ => h)

theorem WA_leave {fn : Func} {T : Array Value} {todo : List Item} {v : Value} (hf : F.P.funcs[F.f]? = some fn) (hr : (results fn T).run F.P w = .ok v w) (hR : F.R v w)
    (hs : ∀ (b : Frame) (cs : List Frame), ∃ todo', step F.P (lone (b.at ⟨T, []⟩ todo) cs w) = .next (lone { b.at ⟨T, []⟩ todo' with mode := .returning } cs w)) : WA F todo T w := fun b hb hk cs => by
  obtain ⟨todo', h⟩ := hs b cs
  exact ⟨v, w, _, hR, .one h, hb, rfl, rfl, hk, fn, by rw [← hb] at hf; exact hf, hr⟩

theorem WT_retG {fn : Func} {v : Value} (hf : F.P.funcs[F.f]? = some fn) (hr : ∀ T, Sim F.n T env → (results fn T).run F.P w = .ok v w) (hR : F.R v w) : WT F (.code .ret :: k) env w :=
  fun T hT => WA_leave hf (hr T hT) hR fun _ _ => ⟨_, step_ret⟩
theorem WT_endG {fn : Func} {v : Value} (hf : F.P.funcs[F.f]? = some fn) (hr : ∀ T, Sim F.n T env → (results fn T).run F.P w = .ok v w) (hR : F.R v w) : WT F [] env w :=
  fun T hT => WA_leave hf (hr T hT) hR fun _ _ => ⟨_, step_end⟩

theorem Sim.getD {n : Nat} {T : Array Value} {env : Env} (h : Sim n T env) {t : Nat} {v : Value} (hx : lk env t = some v) : T.getD t undef = v := h.eval (ds := []) (x := .tmp t) hx

theorem WT_ret0 {fn : Func} (hf : F.P.funcs[F.f]? = some fn) (hr : fn.results = #[]) (hR : F.R (.tuple #[]) w) : WT F (.code .ret :: k) env w :=
  WT_retG hf (fun T _ => results_none hr T F.P w) hR
theorem WT_end0 {fn : Func} (hf : F.P.funcs[F.f]? = some fn) (hr : fn.results = #[]) (hR : F.R (.tuple #[]) w) : WT F [] env w :=
  WT_endG hf (fun T _ => results_none hr T F.P w) hR
theorem WT_ret1 {fn : Func} {t : Tmp} {v : Value} (hf : F.P.funcs[F.f]? = some fn) (hr : fn.results = #[.tmp t]) (hv : lk env t = some v) (hR : F.R v w) : WT F (.code .ret :: k) env w :=
  WT_retG hf (fun T hT => by rw [results_tmp hr, hT.getD hv]) hR
theorem WT_ret2 {fn : Func} {t u : Tmp} {v x : Value} (hf : F.P.funcs[F.f]? = some fn) (hr : fn.results = #[.tmp t, .tmp u]) (hv : lk env t = some v) (hx : lk env u = some x) (hR : F.R (.tuple #[v, x]) w) : WT F (.code .ret :: k) env w :=
  WT_retG hf (fun T hT => by rw [results_tmp2 hr, hT.getD hv, hT.getD hx]) hR
theorem WT_ret3 {fn : Func} {t u s : Tmp} {v x y : Value} (hf : F.P.funcs[F.f]? = some fn) (hr : fn.results = #[.tmp t, .tmp u, .tmp s]) (hv : lk env t = some v) (hx : lk env u = some x) (hy : lk env s = some y) (hR : F.R (.tuple #[v, x, y]) w) : WT F (.code .ret :: k) env w :=
  WT_retG hf (fun T hT => by
    have h1 := hT.getD hv
    have h2 := hT.getD hx
    have h3 := hT.getD hy
    simp only [Array.getD_eq_getD_getElem?] at h1 h2 h3
    simp [results, hr, h1, h2, h3]) hR

/-- A loop: 'J i' at the head of each round with the slots 'E i'; the measure goes down. -/
theorem WT_while {ι : Type} {c : Code} (E : ι → Env) (J : ι → World → Prop) (μ : ι → Nat) (i₀ : ι) (hS : Sub (E i₀) env) (hJ : J i₀ w)
    (body : ∀ i w, J i w → (∀ j env' w', μ j < μ i → Sub (E j) env' → J j w' → WT F (.inLoop c :: k) env' w') → WT F (.code c :: .inLoop c :: k) (E i) w) : WT F (.code (.loop c) :: k) env w := by
  have key : ∀ m i w, μ i = m → J i w → WT F (.code c :: .inLoop c :: k) (E i) w := by
    intro m
    induction m using Nat.strongRecOn with
    | _ m ih =>
      intro i w hm hJ
      refine body i w hJ fun j env' w' hlt hs hj => ?_
      exact WT_inLoop ((ih (μ j) (hm ▸ hlt) j w' rfl hj).sub hs)
  exact WT_loop ((key _ i₀ w rfl hJ).sub hS)

/-- Where ways meet again: what holds there is said once. -/
theorem WT_join {ι : Type} {x : Item} (E : ι → Env) (J : ι → World → Prop) (h : (∀ i env' w', Sub (E i) env' → J i w' → WT F k env' w') → WT F (x :: k) env w)
    (hk : ∀ i w', J i w' → WT F k (E i) w') : WT F (x :: k) env w :=
  h fun i _ w' hs hj => (hk i w' hj).sub hs
theorem WT_join2 {ι : Type} {x y : Item} (E : ι → Env) (J : ι → World → Prop) (h : (∀ i env' w', Sub (E i) env' → J i w' → WT F k env' w') → WT F (x :: y :: k) env w)
    (hk : ∀ i w', J i w' → WT F k (E i) w') : WT F (x :: y :: k) env w :=
  h fun i _ w' hs hj => (hk i w' hj).sub hs

/-! ### Regions -/

/-- What is to be shown behind a region: of the frame and the world, whatever it is. -/
abbrev Kon := Act → World → Prop
def WLpost (κ : Kon) : Exit → Act → World → Prop := fun e a w => e = .normal ∧ κ a w
/-- The rest of the function. -/
def It (F : Fx) (k : List Item) : Kon := fun a w => a.defers = [] ∧ WA F k a.tmps w

def WL (F : Fx) (ops : Array Oper) (l : List Oper) (κ : Kon) (env : Env) (w : World) : Prop :=
  ∀ T, Sim F.n T env → wpList F.P ops (WLpost κ) l ⟨T, []⟩ w

theorem WA_of_wp {c : Code} {T : Array Value} (h : c.wp F.P (WLpost (It F k)) ⟨T, []⟩ w) : WA F (.code c :: k) T w := fun b hb hk cs => by
  obtain ⟨e, a', w', ⟨rfl, hd, hWA⟩, harr⟩ := h b k cs
  obtain ⟨v, w'', fr, hR, hst, hrest⟩ := hWA b hb hk cs
  obtain ⟨T', ds⟩ := a'
  simp only at hd
  subst hd
  exact ⟨v, w'', fr, hR, Steps.trans harr hst, hrest⟩

theorem WT_region {id : Nat} {l : List Oper} (h : WL F l.toArray l (It F k) env w) : WT F (.code (.region id l.toArray false) :: k) env w :=
  fun T hT => WA_of_wp (wp_region_lit (h T hT))

theorem WL_nil {ops : Array Oper} (h : WT F k env w) : WL F ops [] (It F k) env w := fun T hT => wpList_nil ⟨rfl, rfl, h T hT⟩

section ops
variable {ops : Array Oper} {rest : List Oper} {d : Nat} {op : Op} {ty : TypeId} {pos : String} {aft : Array Edge} {k : Kon}

/-- How operands read. -/
def EvR (ρ : Operand → Value) (env : Env) : Prop := (∀ x v, ev env x = some v → ρ x = v) ∧ (∀ xs vs, evs env xs = some vs → xs.map ρ = vs)
theorem Sim.evR {n : Nat} {T : Array Value} {env : Env} (h : Sim n T env) : EvR (Act.mk T []).eval env := ⟨fun _ _ hx => h.eval hx, fun _ _ hx => h.evals hx⟩

theorem WL_val {v : Value} {w' : World} (hd : Nat.blt d F.n = true)
    (hrun : ∀ ρ, EvR ρ env → (execOp ρ ⟨some d, op, ty, pos, aft, none⟩).run F.P w = .ok (.value v) w')
    (h : WL F ops rest k ((d, v) :: env) w') : WL F ops (⟨some d, op, ty, pos, aft, none⟩ :: rest) k env w := fun T hT => by
  refine wpList_plain rfl fun K hK => ?_
  show Oper.upon _ _ _ _ _ _
  rw [hrun _ hT.evR]
  exact hK _ _ (h _ (hT.put (blt_lt hd) v))

theorem WL_unit {w' : World}
    (hrun : ∀ ρ, EvR ρ env → (execOp ρ ⟨none, op, ty, pos, aft, none⟩).run F.P w = .ok .skip w')
    (h : WL F ops rest k env w') : WL F ops (⟨none, op, ty, pos, aft, none⟩ :: rest) k env w := fun T hT => by
  refine wpList_plain rfl fun K hK => ?_
  show Oper.upon _ _ _ _ _ _
  rw [hrun _ hT.evR]
  exact hK _ _ (h _ hT)

/-- A guarded operation that is wanted goes as one without a guard. -/
theorem wpList_guard {dst : Option Tmp} {j : Nat} {want : Bool} {Q : Exit → Act → World → Prop} {P : Program} {a : Act} (hy : yielded ops a.tmps j = some want)
    (h : wpList P ops Q (⟨dst, op, ty, pos, aft, none⟩ :: rest) a w) : wpList P ops Q (⟨dst, op, ty, pos, aft, some (j, want)⟩ :: rest) a w := by
  unfold wpList at h ⊢
  rw [if_pos (by simp [Region.wanted])] at h
  rw [if_pos (by simp [Region.wanted, hy])]
  exact h

theorem Sim.yielded {n : Nat} {T : Array Value} {env : Env} (h : Sim n T env) {j g : Nat} {b : Bool} (hj : (ops[j]?).bind (·.dst) = some g) (hv : lk env g = some (.bool b)) : Go.yielded ops T j = some b := by
  simp [Go.yielded, hj, h.2 g _ hv]

theorem WL_guardOn {dst : Option Tmp} {j g : Nat} {want : Bool} (hj : (ops[j]?).bind (·.dst) = some g) (hv : lk env g = some (.bool want))
    (h : WL F ops (⟨dst, op, ty, pos, aft, none⟩ :: rest) k env w) : WL F ops (⟨dst, op, ty, pos, aft, some (j, want)⟩ :: rest) k env w :=
  fun T hT => wpList_guard (hT.yielded hj hv) (h T hT)

theorem WL_guardOff {j g : Nat} {want b : Bool} (hd : Nat.blt d F.n = true) (hj : (ops[j]?).bind (·.dst) = some g) (hv : lk env g = some (.bool b)) (hne : (b == want) = false)
    (h : WL F ops rest k ((d, undef) :: env) w) : WL F ops (⟨some d, op, ty, pos, aft, some (j, want)⟩ :: rest) k env w := fun T hT => by
  unfold wpList
  rw [if_neg (by simp [Region.wanted, hT.yielded hj hv]; simpa using hne)]
  exact h _ (hT.put (blt_lt hd) undef)

/-- A call of a named function by its contract. -/
theorem WL_call {f : FuncId} {xs : List Operand} {ats : Array TypeId} {vs : List Value} {R : Value → World → Prop} (hd : Nat.blt d F.n = true)
    (hx : evs env xs = some vs) (hf : ∀ (as : Array Value) (W : World), (callFunc f as).run F.P W = .ok (.enter f as) W)
    (hc : Rets F.P f vs.toArray w R) (h : ∀ v w', R v w' → WL F ops rest k ((d, v) :: env) w') :
    WL F ops (⟨some d, .call { callee := .value (.func f), args := xs.toArray, argTypes := ats }, ty, pos, aft, none⟩ :: rest) k env w := fun T hT => by
  refine wpList_plain rfl fun K hK => ?_
  show Oper.upon _ _ _ _ _ ((callFunc f (#[] ++ xs.toArray.map (Act.mk T []).eval ++ #[])).run F.P w)
  have hm : (#[] ++ xs.toArray.map (Act.mk T []).eval ++ #[] : Array Value) = vs.toArray := by
    simp [hT.evals hx]
  rw [hm, hf]
  refine Calls.mono hc ?_
  rintro e w' ⟨v, rfl, hR⟩
  exact hK _ _ (h v w' hR _ (hT.put (blt_lt hd) v))
/-- A method called on an interface value whose dynamic type is known. -/
theorem WL_invoke {f : FuncId} {x : Operand} {name : String} {xs : List Operand} {ats : Array TypeId} {u : Value} {vs ws : List Value} {R : Value → World → Prop} (hd : Nat.blt d F.n = true)
    (hu : ev env x = some u) (hx : evs env xs = some vs) (hf : ∀ (W : World), (callMethod u name vs.toArray).run F.P W = .ok (.enter f ws.toArray) W)
    (hc : Rets F.P f ws.toArray w R) (h : ∀ v w', R v w' → WL F ops rest k ((d, v) :: env) w') :
    WL F ops (⟨some d, .call { callee := .invoke x name, args := xs.toArray, argTypes := ats }, ty, pos, aft, none⟩ :: rest) k env w := fun T hT => by
  refine wpList_plain rfl fun K hK => ?_
  have hm : (xs.toArray.map (Act.mk T []).eval : Array Value) = vs.toArray := by
    simp [hT.evals hx]
  have h1 : ((#[u] ++ vs.toArray : Array Value)).extract 1 ((#[u] ++ vs.toArray : Array Value)).size = vs.toArray := by
    apply Array.ext'
    simp
  have h2 : ((#[u] ++ vs.toArray : Array Value))[0]? = some u := by simp
  have hrun : (execOp (Act.mk T []).eval ⟨some d, .call { callee := .invoke x name, args := xs.toArray, argTypes := ats }, ty, pos, aft, none⟩).run F.P w = .ok (.enter f ws.toArray) w := by
    simp only [execOp, resolve, hT.eval hu, hm, Sem.run_bind, Sem.run_pure, Result.andThen_ok, invoke, h2, h1]
    exact hf w
  show Oper.upon _ _ _ _ _ _
  rw [hrun]
  refine Calls.mono hc ?_
  rintro e w' ⟨v, rfl, hR⟩
  exact hK _ _ (h v w' hR _ (hT.put (blt_lt hd) v))
/-- A call of a function value that is known. -/
theorem WL_callV {f : FuncId} {x : Operand} {xs : List Operand} {ats : Array TypeId} {fs cs : Array Value} {vs ws : List Value} {R : Value → World → Prop} (hd : Nat.blt d F.n = true)
    (hu : ev env x = some (.func (.func f) fs cs)) (hx : evs env xs = some vs) (hw : fs ++ vs.toArray ++ cs = ws.toArray) (hf : ∀ (as : Array Value) (W : World), (callFunc f as).run F.P W = .ok (.enter f as) W)
    (hc : Rets F.P f ws.toArray w R) (h : ∀ v w', R v w' → WL F ops rest k ((d, v) :: env) w') :
    WL F ops (⟨some d, .call { callee := .value x, args := xs.toArray, argTypes := ats }, ty, pos, aft, none⟩ :: rest) k env w := fun T hT => by
  refine wpList_plain rfl fun K hK => ?_
  have hrun : (execOp (Act.mk T []).eval ⟨some d, .call { callee := .value x, args := xs.toArray, argTypes := ats }, ty, pos, aft, none⟩).run F.P w = .ok (.enter f ws.toArray) w := by
    have hm : (xs.toArray.map (Act.mk T []).eval : Array Value) = vs.toArray := by
      simp [hT.evals hx]
    simp only [execOp, resolve, hT.eval hu, hm, Deferred.ofValue, Sem.run_bind]
    rw [← hw, ← hf]
    rfl
  show Oper.upon _ _ _ _ _ _
  rw [hrun]
  refine Calls.mono hc ?_
  rintro e w' ⟨v, rfl, hR⟩
  exact hK _ _ (h v w' hR _ (hT.put (blt_lt hd) v))
theorem WL_call0 {f : FuncId} {xs : List Operand} {ats : Array TypeId} {vs : List Value} {R : Value → World → Prop}
    (hx : evs env xs = some vs) (hf : ∀ (as : Array Value) (W : World), (callFunc f as).run F.P W = .ok (.enter f as) W)
    (hc : Rets F.P f vs.toArray w R) (h : ∀ v w', R v w' → WL F ops rest k env w') :
    WL F ops (⟨none, .call { callee := .value (.func f), args := xs.toArray, argTypes := ats }, ty, pos, aft, none⟩ :: rest) k env w := fun T hT => by
  refine wpList_plain rfl fun K hK => ?_
  show Oper.upon _ _ _ _ _ ((callFunc f (#[] ++ xs.toArray.map (Act.mk T []).eval ++ #[])).run F.P w)
  have hm : (#[] ++ xs.toArray.map (Act.mk T []).eval ++ #[] : Array Value) = vs.toArray := by
    simp [hT.evals hx]
  rw [hm, hf]
  refine Calls.mono hc ?_
  rintro e w' ⟨v, rfl, hR⟩
  exact hK _ _ (h v w' hR _ hT)
end ops
end
end Go.Proofs.Ytafljegjdanldaa
