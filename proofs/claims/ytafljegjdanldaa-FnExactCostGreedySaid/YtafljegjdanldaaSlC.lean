/- One rule for each kind of operation that leaves memory alone. No program is named here. -/
import Derived.Test.YtafljegjdanldaaSlB
import Derived.LaidEqlPtr
namespace Go.Proofs.Ytafljegjdanldaa
open Go.RowKit

theorem bn_T {p : Prop} [Decidable p] (h : (!decide p) = true) : ¬ p := by simpa using h
theorem bn_F {p : Prop} [Decidable p] (h : (!decide p) = false) : p := by simpa using h
theorem bb_T {b : Bool} (h : (!b) = true) : b = false := by simpa using h
theorem bb_F {b : Bool} (h : (!b) = false) : b = true := by simpa using h
theorem nb_T {p : Prop} [Decidable p] (h : ¬ p) : (!decide p) = true := by simpa using h
theorem nb_F {p : Prop} [Decidable p] (h : p) : (!decide p) = false := by simpa using h
theorem mb_T {b : Bool} (h : b = false) : (!b) = true := by simpa using h
theorem mb_F {b : Bool} (h : b = true) : (!b) = false := by simpa using h
theorem wrap_in {n : Int} (h : -9223372036854775808 ≤ n ∧ n ≤ 9223372036854775807) : IntKind.i64.wrap n = n := IntWalk.i64_in n h

def evp (env : Env) : List (Nat × Operand) → Option (List (Nat × Value))
  | [] => some []
  | (i, x) :: r => match ev env x, evp env r with
    | some v, some vs => some ((i, v) :: vs)
    | _, _ => none
theorem evp_of {ρ : Operand → Value} {env : Env} (hρ : EvR ρ env) : ∀ {parts : List (Nat × Operand)} {vs : List (Nat × Value)}, evp env parts = some vs → parts.map (fun (i, x) => (i, ρ x)) = vs
  | [], vs, h => by simpa [evp] using h
  | (i, x) :: r, vs, h => by
    simp only [evp] at h
    split at h
    · rename_i v vs' h1 h2
      simp only [Option.some.injEq] at h
      subst h
      simp [hρ.1 x v h1, evp_of hρ h2]
    · cases h
/-- The operation yields v and leaves the world as it is. -/
def OpV (P : Program) (env : Env) (w : World) (op : Op) (ty : TypeId) (v : Value) : Prop :=
  ∀ (d : Option Tmp) (pos : String) (aft : Array Edge) (ρ : Operand → Value), EvR ρ env → (execOp ρ ⟨d, op, ty, pos, aft, none⟩).run P w = .ok (.value v) w

section
variable {F : Fx} {env : Env} {w : World} {k : List Item} {ops : Array Oper} {rest : List Oper} {d : Nat} {op : Op} {ty : TypeId} {pos : String} {aft : Array Edge} {h : GH} {Ls : List Heaplet}
theorem WL_v {k : Kon} {v : Value} (hd : Nat.blt d F.n = true) (ho : OpV F.P env w op ty v) (hk : WL F ops rest k ((d, v) :: env) w) : WL F ops (⟨some d, op, ty, pos, aft, none⟩ :: rest) k env w :=
  WL_val hd (fun ρ hρ => ho _ _ _ ρ hρ) hk

/-! A region that draws its order and whose operations only read: one walk in the text's order. -/
def WQ (F : Fx) (ops : Array Oper) (h : GH) (Ls : List Heaplet) (l : List Oper) (k : List Item) (env : Env) : Prop :=
  ∀ T, Sim F.n T env → wpQuiet F.P ops (fun w => H w h Ls) (fun a => ∀ w, H w h Ls → WLpost (It F k) .normal a w) l ⟨T, []⟩

theorem WT_quiet {id : Nat} {l : List Oper} (hm : F.P.follows .mixedOrders = true) (hB : Region.lexB .any l.toArray = true) (hH : H w h Ls) (hq : WQ F l.toArray h Ls l k env) : WT F (.code (.region id l.toArray true) :: k) env w :=
  fun T hT => WA_of_wp (wp_region_quiet (C := fun w => H w h Ls) hm hB (hH.drew _) (by simpa using hq T hT))
theorem WQ_nil (hk : ∀ w, H w h Ls → WT F k env w) : WQ F ops h Ls [] k env := fun T hT => wpQuiet_nil fun w hw => ⟨rfl, rfl, hk w hw T hT⟩
theorem WQ_v {v : Value} (hd : Nat.blt d F.n = true) (ho : ∀ w, H w h Ls → OpV F.P env w op ty v) (hk : WQ F ops h Ls rest k ((d, v) :: env)) : WQ F ops h Ls (⟨some d, op, ty, pos, aft, none⟩ :: rest) k env := fun T hT => by
  refine wpQuiet_step fun K hK => ?_
  rw [if_pos (by simp [Region.wanted])]
  refine ⟨v, fun w hw => ?_, hK _ (hk _ (hT.put (blt_lt hd) v))⟩
  unfold Oper.quietAt
  rw [ho w hw (some d) pos aft _ hT.evR]
  exact ⟨rfl, rfl⟩
theorem WQ_call {f : FuncId} {xs : List Operand} {ats : Array TypeId} {vs : List Value} {v : Value} (hd : Nat.blt d F.n = true)
    (hx : evs env xs = some vs) (hf : ∀ (as : Array Value) (W : World), (callFunc f as).run F.P W = .ok (.enter f as) W)
    (hc : ∀ w, H w h Ls → Rets F.P f vs.toArray w fun u w' => u = v ∧ H w' h Ls) (hk : WQ F ops h Ls rest k ((d, v) :: env)) :
    WQ F ops h Ls (⟨some d, .call { callee := .value (.func f), args := xs.toArray, argTypes := ats }, ty, pos, aft, none⟩ :: rest) k env := fun T hT => by
  refine wpQuiet_step fun K hK => ?_
  rw [if_pos (by simp [Region.wanted])]
  refine ⟨v, fun w hw => ?_, hK _ (hk _ (hT.put (blt_lt hd) v))⟩
  have hm : (#[] ++ xs.toArray.map (Act.mk T []).eval ++ #[] : Array Value) = vs.toArray := by
    simp [hT.evals hx]
  show Oper.quietUpon _ _ _ _ ((callFunc f (#[] ++ xs.toArray.map (Act.mk T []).eval ++ #[])).run F.P w)
  rw [hm, hf]
  exact ⟨rfl, Calls.mono (hc w hw) fun e w' ⟨u, he, hu, hH⟩ => ⟨by rw [he, hu], hH⟩⟩
theorem WQ_guardOn {dst : Option Tmp} {j g : Nat} {want : Bool} (hj : (ops[j]?).bind (·.dst) = some g) (hv : lk env g = some (.bool want))
    (hk : WQ F ops h Ls (⟨dst, op, ty, pos, aft, none⟩ :: rest) k env) : WQ F ops h Ls (⟨dst, op, ty, pos, aft, some (j, want)⟩ :: rest) k env := fun T hT => by
  have h1 := hk T hT
  unfold wpQuiet at h1 ⊢
  rw [if_pos (by simp [Region.wanted])] at h1
  rw [if_pos (by simp [Region.wanted, hT.yielded hj hv])]
  exact h1
theorem WQ_guardOff {j g : Nat} {want b : Bool} (hd : Nat.blt d F.n = true) (hj : (ops[j]?).bind (·.dst) = some g) (hv : lk env g = some (.bool b)) (hne : (b == want) = false)
    (hk : WQ F ops h Ls rest k ((d, undef) :: env)) : WQ F ops h Ls (⟨some d, op, ty, pos, aft, some (j, want)⟩ :: rest) k env := fun T hT => by
  unfold wpQuiet
  rw [if_neg (by simp [Region.wanted, hT.yielded hj hv]; simpa using hne)]
  exact hk _ (hT.put (blt_lt hd) undef)
end

section
variable {P : Program} {env : Env} {w : World} {ty : TypeId}

/-- a truth that is known -/
theorem ov_T {op : Op} {b : Bool} (h : OpV P env w op ty (.bool b)) (hb : b = true) : OpV P env w op ty (.bool true) := by rw [← hb]; exact h
theorem ov_F {op : Op} {b : Bool} (h : OpV P env w op ty (.bool b)) (hb : b = false) : OpV P env w op ty (.bool false) := by rw [← hb]; exact h
theorem ov_as {op : Op} {v u : Value} (h : OpV P env w op ty v) (hv : v = u) : OpV P env w op ty u := by rw [← hv]; exact h
theorem ov_move {x : Operand} {v : Value} (hx : ev env x = some v) : OpV P env w (.move x) ty (v) :=
  fun _ _ _ ρ hρ => ( by simp [execOp, hρ.1 x v hx])

theorem ov_assign {x : Operand} {v : Value} (hx : ev env x = some v) : OpV P env w (.assign x) ty (v) :=
  fun _ _ _ ρ hρ => ( by simp [execOp, hρ.1 x v hx])

theorem ov_pickT {c x y : Operand} {v : Value} (hc : ev env c = some (.bool true)) (hx : ev env x = some v) : OpV P env w (.pick c x y) ty (v) :=
  fun _ _ _ ρ hρ => ( by simp [execOp, hρ.1 c _ hc, hρ.1 x v hx, asBool])

theorem ov_pickF {c x y : Operand} {v : Value} (hc : ev env c = some (.bool false)) (hx : ev env y = some v) : OpV P env w (.pick c x y) ty (v) :=
  fun _ _ _ ρ hρ => ( by simp [execOp, hρ.1 c _ hc, hρ.1 y v hx, asBool])

theorem ov_not {x : Operand} {b : Bool} {t : TypeId} (hx : ev env x = some (.bool b)) : OpV P env w (.unOp .not t x) ty (.bool (!b)) :=
  fun _ _ _ ρ hρ => ( by simp [execOp, hρ.1 x _ hx, Op.unary])

theorem ov_nilCheck {x : Operand} {a : Addr} (hx : ev env x = some (.pointer (some a))) : OpV P env w (.nilCheck x) ty (.pointer (some a)) :=
  fun _ _ _ ρ hρ => ( by simp [execOp, hρ.1 x _ hx])

theorem ov_extract {x : Operand} {vs : Array Value} {i : Nat} {v : Value} (hx : ev env x = some (.tuple vs)) (hv : vs[i]? = some v) : OpV P env w (.extract x i) ty (v) :=
  fun _ _ _ ρ hρ => ( by simp [execOp, hρ.1 x _ hx, Instr.extract, hv])

theorem ov_makeFunc {fn : Fn} {a b : List Operand} {va vb : List Value} (ha : evs env a = some va) (hb : evs env b = some vb) : OpV P env w (.makeFunc fn a.toArray b.toArray) ty (.func fn va.toArray vb.toArray) :=
  fun _ _ _ ρ hρ => ( by simp [execOp, Instr.makeFunc, hρ.2 _ _ ha, hρ.2 _ _ hb])

theorem ov_iface {x : Operand} {t : TypeId} {v : Value} (hx : ev env x = some v) (ht : ∀ u W, (Instr.makeInterface t u).run P W = .ok (.iface t u) W) : OpV P env w (.makeInterface t x) ty (.iface t v) :=
  fun _ _ _ ρ hρ => ( by simp [execOp, hρ.1 x _ hx, ht])

/-! numbers -/
section
variable {x y : Operand} {kx ky : IntKind} {t t' : TypeId} {a b : Int}

theorem run_bin {ρ : Operand → Value} {op : BinOp} (hx : ρ x = .int kx a) (hy : ρ y = .int kx b) (hop : op ≠ .shl ∧ op ≠ .shr) {v : Value} {d : Option Tmp} {pos : String} {aft : Array Edge}
    (hrun : (match op with
      | .add | .sub | .mul => Op.intArith op kx a b
      | .quo | .rem => Op.intDiv op kx a b
      | .and | .or | .xor | .andNot => Op.intBits op kx a b
      | _ => Op.intCmp op a b).run P w = .ok v w) :
    (execOp ρ ⟨d, .binOp op t x y t', ty, pos, aft, none⟩).run P w = .ok (.value v) w := by
  obtain ⟨h1, h2⟩ := hop
  have he : (eqGuard op t x y (ρ x) (ρ y)).run P w = .ok () w := by
    rw [hx, hy]
    cases op <;> simp [eqGuard]
  have hb : (binOp op t (ρ x) (ρ y)).run P w = .ok v w := by
    rw [hx, hy]
    cases op <;> simp_all [binOp]
  simp [execOp, he, hb]

theorem ov_add (hx : ev env x = some (.int .i64 a)) (hy : ev env y = some (.int .i64 b)) (hr : -9223372036854775808 ≤ a + b ∧ a + b ≤ 9223372036854775807) : OpV P env w (.binOp .add t x y t') ty (.int .i64 (a + b)) :=
  fun _ _ _ ρ hρ => ( run_bin (hρ.1 x _ hx) (hρ.1 y _ hy) (by decide) (by simp [Op.intArith, wrap_in hr]))

theorem ov_sub (hx : ev env x = some (.int .i64 a)) (hy : ev env y = some (.int .i64 b)) (hr : -9223372036854775808 ≤ a - b ∧ a - b ≤ 9223372036854775807) : OpV P env w (.binOp .sub t x y t') ty (.int .i64 (a - b)) :=
  fun _ _ _ ρ hρ => ( run_bin (hρ.1 x _ hx) (hρ.1 y _ hy) (by decide) (by simp [Op.intArith, wrap_in hr]))

theorem ov_mul (hx : ev env x = some (.int .i64 a)) (hy : ev env y = some (.int .i64 b)) (hr : -9223372036854775808 ≤ a * b ∧ a * b ≤ 9223372036854775807) : OpV P env w (.binOp .mul t x y t') ty (.int .i64 (a * b)) :=
  fun _ _ _ ρ hρ => ( run_bin (hρ.1 x _ hx) (hρ.1 y _ hy) (by decide) (by simp [Op.intArith, wrap_in hr]))

theorem ov_rem (hx : ev env x = some (.int .i64 a)) (hy : ev env y = some (.int .i64 b)) (ha : 0 ≤ a) (hb : 0 < b) : OpV P env w (.binOp .rem t x y t') ty (.int .i64 (a % b)) :=
  fun _ _ _ ρ hρ => ( run_bin (hρ.1 x _ hx) (hρ.1 y _ hy) (by decide) (by simp [Op.intDiv, show ¬ b = 0 by omega, Int.tmod_eq_emod_of_nonneg ha]))

theorem ov_quo (hx : ev env x = some (.int .i64 a)) (hy : ev env y = some (.int .i64 b)) (ha : 0 ≤ a) (hb : 0 < b) (hm : a ≤ 9223372036854775807) : OpV P env w (.binOp .quo t x y t') ty (.int .i64 (a / b)) :=
  fun _ _ _ ρ hρ => ( run_bin (hρ.1 x _ hx) (hρ.1 y _ hy) (by decide) (by
    have h1 : 0 ≤ a / b := Int.ediv_nonneg ha (by omega)
    have h2 : a / b ≤ a := Int.ediv_le_self b ha
    simp [Op.intDiv, show ¬ b = 0 by omega, Int.tdiv_eq_ediv_of_nonneg ha, wrap_in (n := a / b) ⟨by omega, by omega⟩]))

theorem ov_lss (hx : ev env x = some (.int kx a)) (hy : ev env y = some (.int kx b)) : OpV P env w (.binOp .lss t x y t') ty (.bool (decide (a < b))) :=
  fun _ _ _ ρ hρ => ( run_bin (hρ.1 x _ hx) (hρ.1 y _ hy) (by decide) (by simp [Op.intCmp]))

theorem ov_leq (hx : ev env x = some (.int kx a)) (hy : ev env y = some (.int kx b)) : OpV P env w (.binOp .leq t x y t') ty (.bool (decide (a ≤ b))) :=
  fun _ _ _ ρ hρ => ( run_bin (hρ.1 x _ hx) (hρ.1 y _ hy) (by decide) (by simp [Op.intCmp]))

theorem ov_gtr (hx : ev env x = some (.int kx a)) (hy : ev env y = some (.int kx b)) : OpV P env w (.binOp .gtr t x y t') ty (.bool (decide (b < a))) :=
  fun _ _ _ ρ hρ => ( run_bin (hρ.1 x _ hx) (hρ.1 y _ hy) (by decide) (by simp [Op.intCmp]))

theorem ov_geq (hx : ev env x = some (.int kx a)) (hy : ev env y = some (.int kx b)) : OpV P env w (.binOp .geq t x y t') ty (.bool (decide (b ≤ a))) :=
  fun _ _ _ ρ hρ => ( run_bin (hρ.1 x _ hx) (hρ.1 y _ hy) (by decide) (by simp [Op.intCmp]))

theorem ov_eql (hx : ev env x = some (.int kx a)) (hy : ev env y = some (.int kx b)) : OpV P env w (.binOp .eql t x y t') ty (.bool (decide (a = b))) :=
  fun _ _ _ ρ hρ => ( run_bin (hρ.1 x _ hx) (hρ.1 y _ hy) (by decide) (by simp only [Op.intCmp, Sem.run_pure]; rfl))

theorem ov_neq (hx : ev env x = some (.int kx a)) (hy : ev env y = some (.int kx b)) : OpV P env w (.binOp .neq t x y t') ty (.bool (!decide (a = b))) :=
  fun _ _ _ ρ hρ => ( run_bin (hρ.1 x _ hx) (hρ.1 y _ hy) (by decide) (by simp only [Op.intCmp, Sem.run_pure]; rfl))

/-- whatever the operation's run is known to be -/
theorem ov_bin {op : BinOp} {u v z : Value} (hx : ev env x = some u) (hy : ev env y = some v)
    (hrun : ∀ ρ, EvR ρ env → ((do eqGuard op t x y u v; binOp op t u v) : Sem Value).run P w = .ok z w) : OpV P env w (.binOp op t x y t') ty (z) :=
  fun _ _ _ ρ hρ => ( by
    have := hrun ρ hρ
    rw [← hρ.1 x _ hx, ← hρ.1 y _ hy] at this
    simp only [execOp, Sem.run_bind, Sem.run_pure] at this ⊢
    rw [this]; rfl)

/-- two truths compared -/
theorem run_equal_bool {P : Program} {p q : Bool} (ht : P.underlying t = some .bool) (n : Nat) : (Op.equalIn (n + 1) t (.bool p) (.bool q)).run P w = .ok (p == q) w := by
  simp [Op.equalIn, run_underlying ht]
theorem ov_eqlB {p q : Bool} (hx : ev env x = some (.bool p)) (hy : ev env y = some (.bool q)) (ht : P.underlying t = some .bool) : OpV P env w (.binOp .eql t x y t') ty (.bool (p == q)) :=
  ov_bin hx hy (fun ρ _ => by
    have h1 : (Op.equal t (.bool p) (.bool q)).run P w = .ok (p == q) w := run_equal_bool ht 9999
    simp [eqGuard, binOp, h1])

theorem ov_neqB {p q : Bool} (hx : ev env x = some (.bool p)) (hy : ev env y = some (.bool q)) (ht : P.underlying t = some .bool) : OpV P env w (.binOp .neq t x y t') ty (.bool (!(p == q))) :=
  ov_bin hx hy (fun ρ _ => by
    have h1 : (Op.equal t (.bool p) (.bool q)).run P w = .ok (p == q) w := run_equal_bool ht 9999
    simp [eqGuard, binOp, h1])

/-- an interface value against nil -/
theorem run_equal_nilI {P : Program} {ms : Array (String × TypeId)} {v : Value} (ht : P.underlying t = some (.interface ms)) (b : Bool) (hv : (b = true ∧ v = .nilIface) ∨ (b = false ∧ ∃ u z, v = .iface u z)) (n : Nat) : (Op.equalIn (n + 1) t v .nilIface).run P w = .ok b w := by
  rcases hv with ⟨rfl, rfl⟩ | ⟨rfl, u, z, rfl⟩ <;> simp [Op.equalIn, run_underlying ht]
theorem ov_eqlNil {v c : Value} {ms : Array (String × TypeId)} {b : Bool} (hx : ev env x = some v) (hc : c = .nilIface) (ht : P.underlying t = some (.interface ms)) (hv : (b = true ∧ v = .nilIface) ∨ (b = false ∧ ∃ u z, v = .iface u z)) :
    OpV P env w (.binOp .eql t x (.const c) t') ty (.bool b) := ov_bin hx rfl (fun ρ _ => by
  have h1 : (Op.equal t v .nilIface).run P w = .ok b w := run_equal_nilI ht b hv 9999
  subst hc
  rcases hv with ⟨rfl, rfl⟩ | ⟨rfl, u, z, rfl⟩ <;> simp [eqGuard, binOp, h1])
theorem ov_neqNil {v c : Value} {ms : Array (String × TypeId)} {b : Bool} (hx : ev env x = some v) (hc : c = .nilIface) (ht : P.underlying t = some (.interface ms)) (hv : (b = true ∧ v = .nilIface) ∨ (b = false ∧ ∃ u z, v = .iface u z)) :
    OpV P env w (.binOp .neq t x (.const c) t') ty (.bool (!b)) := ov_bin hx rfl (fun ρ _ => by
  have h1 : (Op.equal t v .nilIface).run P w = .ok b w := run_equal_nilI ht b hv 9999
  subst hc
  rcases hv with ⟨rfl, rfl⟩ | ⟨rfl, u, z, rfl⟩ <;> simp [eqGuard, binOp, h1])

/-- A pointer type whose pointee takes room. -/
def PtrT (P : Program) (t : TypeId) : Prop := ∃ te j, P.underlying t = some (.pointer te) ∧ P.info? te = some j ∧ j.size ≠ 0
theorem ov_eqlPtr {p q : Addr} {ca cb : Array Value} {ta tb : TypeId} (hx : ev env x = some (.pointer (some p))) (hy : ev env y = some (.pointer (some q))) (ht : PtrT P t) (ha : w.heap[p.block]? = some (.cells ca ta (0, 0))) (hb : w.heap[q.block]? = some (.cells cb tb (0, 0))) :
    OpV P env w (.binOp .eql t x y t') ty (.bool (decide (p = q))) := ov_bin hx hy (fun ρ _ => by
  obtain ⟨te, j, h1, h2, h3⟩ := ht
  by_cases hpq : p = q
  · subst hpq
    simp [eqGuard, run_eql_ptr_same w p h1 h2]
  · simp [eqGuard, run_eql_ptr_other w h1 h2 h3 hpq ha hb, hpq])

theorem ov_convert {src dst : TypeId} {k2 : IntKind} (hx : ev env x = some (.int kx a)) (hs : (P.underlying src).isSome = true) (ht : P.underlying dst = some (.int k2)) : OpV P env w (.convert src dst x) ty (.int k2 (k2.wrap a)) :=
  fun _ _ _ ρ hρ => ( by
    obtain ⟨s, hs'⟩ := Option.isSome_iff_exists.1 hs
    simp [execOp, hρ.1 x _ hx, convert, run_underlying hs', run_underlying ht, Conv.intToInt])

/-- exclusive or of two numbers that are not negative -/
theorem ov_xor {a b : Nat} (hx : ev env x = some (.int .i64 (a : Int))) (hy : ev env y = some (.int .i64 (b : Int))) (ha : a < 4611686018427387904) (hb : b < 4611686018427387904) :
    OpV P env w (.binOp .xor t x y t') ty (.int .i64 ((a ^^^ b : Nat) : Int)) :=
  fun _ _ _ ρ hρ => run_bin (hρ.1 x _ hx) (hρ.1 y _ hy) (by decide) (by
    have h1 : a ^^^ b < 4611686018427387904 := Nat.xor_lt_two_pow (n := 62) ha hb
    have h2 : (BitVec.ofInt 64 (a : Int) ^^^ BitVec.ofInt 64 (b : Int)).toNat = a ^^^ b := by
      rw [BitVec.ofInt_natCast, BitVec.ofInt_natCast, BitVec.toNat_xor, BitVec.toNat_ofNat, BitVec.toNat_ofNat, Nat.mod_eq_of_lt (by omega), Nat.mod_eq_of_lt (by omega)]
    simp only [Op.intBits, Sem.run_pure]
    show Result.ok (Value.int .i64 (IntKind.i64.wrap (((BitVec.ofInt 64 (a : Int) ^^^ BitVec.ofInt 64 (b : Int)).toNat : Nat) : Int))) w = _
    rw [h2, wrap_in ⟨by omega, by omega⟩])

/-- max of two, min of two -/
theorem ov_max {ats : Array TypeId} (hx : ev env x = some (.int .i64 a)) (hy : ev env y = some (.int .i64 b)) : OpV P env w (.call { callee := .builtin .max, args := #[x, y], argTypes := ats }) ty (.int .i64 (max a b)) :=
  fun _ _ _ ρ hρ => ( by
    have e : (if b > a then b else a) = max a b := by rw [Int.max_def]; split <;> split <;> omega
    simp [execOp, resolve, invoke, builtin, Builtin.max_, Builtin.max2, hρ.1 x _ hx, hρ.1 y _ hy, e])

theorem ov_min {ats : Array TypeId} (hx : ev env x = some (.int .i64 a)) (hy : ev env y = some (.int .i64 b)) : OpV P env w (.call { callee := .builtin .min, args := #[x, y], argTypes := ats }) ty (.int .i64 (min a b)) :=
  fun _ _ _ ρ hρ => ( by
    have e : (if b < a then b else a) = min a b := by rw [Int.min_def]; split <;> split <;> omega
    simp [execOp, resolve, invoke, builtin, Builtin.min_, Builtin.min2, hρ.1 x _ hx, hρ.1 y _ hy, e])

end

/-! slices, addresses -/

/-- The length of a slice. -/
def lenV : Value → Nat | .slice _ n _ => n | _ => 0
/-- Where a slice's array begins. -/
def slA : Value → Addr | .slice (some a) _ _ => a | _ => ⟨0, 0, none⟩
/-- A slice of n elements; it has an array if there is an element. -/
structure Sl (v : Value) (n : Nat) : Prop where
  lim : n ≤ 9223372036854775807
  form : ∃ A c, v = .slice A n c ∧ n ≤ c ∧ (0 < n → A.isSome = true) ∧ (0 < n → ∀ a, A = some a → a.spot = none)

theorem Sl.some {v : Value} {n : Nat} (h : Sl v n) (hn : 0 < n) : ∃ c, v = .slice (some (slA v)) n c ∧ n ≤ c ∧ (slA v).spot = none := by
  obtain ⟨A, c, rfl, hc, hA, hsp⟩ := h.form
  obtain ⟨a, rfl⟩ := Option.isSome_iff_exists.1 (hA hn)
  exact ⟨c, rfl, hc, hsp hn a rfl⟩

/-- A slice type: its elements' type, how many cells and bytes an element takes, its zero. -/
structure SlT (P : Program) (t e : TypeId) (sz bts : Nat) (z : List Value) : Prop where
  und : P.underlying t = some (.slice e)
  inf : ∃ i zv, P.info? e = some i ∧ i.zero = some zv ∧ i.size = sz ∧ i.bytes = bts ∧ zv.cells = z.toArray ∧ z.length = sz

theorem ov_len {x : Operand} {v : Value} {n : Nat} {t e : TypeId} {sz bts : Nat} {z : List Value} (hx : ev env x = some v) (hv : Sl v n) (ht : SlT P t e sz bts z) : OpV P env w (.call { callee := .builtin .len, args := #[x], argTypes := #[t] }) ty (.int .i64 (n : Int)) :=
  fun _ _ _ ρ hρ => ( by
    obtain ⟨A, c, rfl, _⟩ := hv.form
    simp [execOp, resolve, invoke, builtin, Builtin.len_, run_underlying ht.und, hρ.1 x _ hx, goInt])

theorem ov_index {x ix : Operand} {v : Value} {n i : Nat} {t e : TypeId} {sz bts : Nat} {z : List Value} (hx : ev env x = some v) (hi : ev env ix = some (.int .i64 (i : Int))) (ht : SlT P t e sz bts z) (hv : Sl v n) (hin : i < n) : OpV P env w (.indexAddr t x ix) ty (.pointer (some ((slA v).add (i * sz)))) :=
  fun _ _ _ ρ hρ => ( by
    obtain ⟨c, hv', _, _⟩ := hv.some (by omega)
    obtain ⟨inf, zv, he, _, hsz, _⟩ := ht.inf
    have hx' := hρ.1 x _ hx
    rw [hv'] at hx'
    have h1 : (i : Int) < (n : Int) := by omega
    simp [execOp, Instr.indexAt, hx', hρ.1 ix _ hi, asIntOf, run_underlying ht.und, sizeOf, typeInfo, he, hsz, show ¬ n ≤ i by omega])

/-- x[lo:hi] -/
def reslice (v : Value) (lo hi sz : Nat) : Value := match v with
  | .slice a _ cap => .slice (if cap = lo then a else a.map (·.add (lo * sz))) (hi - lo) (cap - lo)
  | v => v
theorem reslice_sl {v : Value} {n lo hi sz : Nat} (h : Sl v n) (h1 : lo ≤ hi) (h2 : hi ≤ n) : Sl (reslice v lo hi sz) (hi - lo) := by
  obtain ⟨A, c, rfl, hc, hA, hsp⟩ := h.form
  have hl := h.lim
  refine ⟨by omega, _, _, rfl, by omega, fun hn => ?_, fun hn a ha => ?_⟩
  · obtain ⟨a, rfl⟩ := Option.isSome_iff_exists.1 (hA (by omega))
    split <;> rfl
  · split at ha
    · exact hsp (by omega) a ha
    · obtain ⟨b, rfl, rfl⟩ := Option.map_eq_some_iff.1 ha
      have := hsp (by omega) b rfl
      obtain ⟨b1, b2, b3⟩ := b
      simp only at this
      subst this
      rw [Addr.add_lit]
theorem reslice_at {v : Value} {n lo hi sz : Nat} (h : Sl v n) (h1 : lo < hi) (h2 : hi ≤ n) : (slA (reslice v lo hi sz)).block = (slA v).block ∧ (slA (reslice v lo hi sz)).spot = none ∧ (slA (reslice v lo hi sz)).off = (slA v).off + lo * sz := by
  obtain ⟨A, c, rfl, hc, hA, hsp⟩ := h.form
  obtain ⟨a, rfl⟩ := Option.isSome_iff_exists.1 (hA (by omega))
  have := hsp (by omega) a rfl
  obtain ⟨b1, b2, b3⟩ := a
  simp only at this
  subst this
  simp only [reslice, slA]
  rw [if_neg (by omega)]
  simp [Addr.add_lit]
theorem run_slice {v : Value} {n lo hi : Nat} {t e : TypeId} {sz bts : Nat} {z : List Value} {l hh : Option Value} (ht : SlT P t e sz bts z) (h : Sl v n) (h1 : lo ≤ hi) (h2 : hi ≤ n)
    (hl : (l = none ∧ lo = 0) ∨ ∃ k, l = some (.int k (lo : Int))) (hh' : (hh = none ∧ hi = n) ∨ ∃ k, hh = some (.int k (hi : Int))) :
    (Instr.sliceAt t v l hh none).run P w = .ok (reslice v lo hi sz) w := by
  obtain ⟨A, c, rfl, hc, hA, hsp⟩ := h.form
  obtain ⟨inf, zv, he, _, hsz, _⟩ := ht.inf
  have h4 : ¬ hi < lo := by omega
  rcases hl with ⟨rfl, rfl⟩ | ⟨k, rfl⟩ <;> rcases hh' with ⟨rfl, rfl⟩ | ⟨k', rfl⟩ <;>
    simp [Instr.sliceAt, Instr.slice, run_underlying ht.und, Instr.sliceBounds, Instr.sliceBound, asIntOf, sizeOf, typeInfo, he, hsz, reslice, h4, Nat.le_trans h2 hc]
theorem ov_slice {x : Operand} {v : Value} {n lo hi : Nat} {t e : TypeId} {sz bts : Nat} {z : List Value} {l hh : Operand} {k k' : IntKind} (hx : ev env x = some v) (hl : ev env l = some (.int k (lo : Int))) (hh' : ev env hh = some (.int k' (hi : Int))) (ht : SlT P t e sz bts z) (h : Sl v n) (h1 : lo ≤ hi) (h2 : hi ≤ n) :
    OpV P env w (.slice t x (some l) (some hh) none) ty (reslice v lo hi sz) :=
  fun _ _ _ ρ hρ => by simp [execOp, hρ.1 x _ hx, hρ.1 l _ hl, hρ.1 hh _ hh', run_slice (P := P) (w := w) ht h h1 h2 (.inr ⟨k, rfl⟩) (.inr ⟨k', rfl⟩)]
theorem ov_sliceLo {x : Operand} {v : Value} {n lo : Nat} {t e : TypeId} {sz bts : Nat} {z : List Value} {l : Operand} {k : IntKind} (hx : ev env x = some v) (hl : ev env l = some (.int k (lo : Int))) (ht : SlT P t e sz bts z) (h : Sl v n) (h1 : lo ≤ n) :
    OpV P env w (.slice t x (some l) none none) ty (reslice v lo n sz) :=
  fun _ _ _ ρ hρ => by simp [execOp, hρ.1 x _ hx, hρ.1 l _ hl, run_slice (P := P) (w := w) ht h h1 (Nat.le_refl _) (.inr ⟨k, rfl⟩) (.inl ⟨rfl, rfl⟩)]
theorem ov_sliceHi {x : Operand} {v : Value} {n hi : Nat} {t e : TypeId} {sz bts : Nat} {z : List Value} {hh : Operand} {k' : IntKind} (hx : ev env x = some v) (hh' : ev env hh = some (.int k' (hi : Int))) (ht : SlT P t e sz bts z) (h : Sl v n) (h2 : hi ≤ n) :
    OpV P env w (.slice t x none (some hh) none) ty (reslice v 0 hi sz) :=
  fun _ _ _ ρ hρ => by simp [execOp, hρ.1 x _ hx, hρ.1 hh _ hh', run_slice (P := P) (w := w) ht h (Nat.zero_le _) h2 (.inl ⟨rfl, rfl⟩) (.inr ⟨k', rfl⟩)]

/-- An element of an array behind a pointer. -/
theorem ov_indexArr {x ix : Operand} {a : Addr} {n i : Nat} {t e : TypeId} {inf : TypeInfo} {sz : Nat} (hx : ev env x = some (.pointer (some a))) (hi : ev env ix = some (.int .i64 (i : Int))) (hin : i < n)
    (ht : P.underlying t = some (.array n e)) (he : P.info? e = some inf) (hsz : inf.size = sz) : OpV P env w (.indexAddr t x ix) ty (.pointer (some (a.add (i * sz)))) :=
  fun _ _ _ ρ hρ => ( by
    have h1 : (i : Int) < (n : Int) := by omega
    simp [execOp, Instr.indexAt, hρ.1 x _ hx, hρ.1 ix _ hi, asIntOf, run_underlying ht, Instr.sureAddr, sizeOf, typeInfo, he, hsz, show ¬ n ≤ i by omega])

/-- Where a field of a struct lies. -/
def FieldOff (P : Program) (s : TypeId) (f off : Nat) : Prop := ∃ fs fd i, P.underlying s = some (.struct fs) ∧ fs[f]? = some fd ∧ P.info? fd.type = some i ∧ i.size ≠ 0 ∧ fd.offset = off

theorem ov_field {x : Operand} {a : Addr} {s : TypeId} {f off : Nat} (hx : ev env x = some (.pointer (some a))) (hf : FieldOff P s f off) : OpV P env w (.fieldAddr s x f) ty (.pointer (some (a.add off))) :=
  fun _ _ _ ρ hρ => ( by
    obtain ⟨fs, fd, i, h1, h2, h3, h4, rfl⟩ := hf
    simp [execOp, Instr.fieldAt, hρ.1 x _ hx, run_underlying h1, h2, Instr.sureAddr, fieldPlace, sizeOf, typeInfo, h3, h4])

/-- A type whose values take one cell. -/
def OneT (P : Program) (t : TypeId) : Prop := ∃ u, P.underlying t = some u ∧ (match u with | .struct _ | .array _ _ => False | _ => True)
/-- A struct or array type of m cells. -/
def AggT (P : Program) (t : TypeId) (m : Nat) : Prop := ∃ u i, P.underlying t = some u ∧ P.info? t = some i ∧ i.size = m ∧ (match u with | .struct _ | .array _ _ => True | _ => False)

theorem run_loadVar1 {P : Program} {t : TypeId} (ht : OneT P t) {a : Addr} {v : Value} (hc : w.cell? a = some v) : (loadVar t a).run P w = .ok v w := by
  obtain ⟨u, h1, h2⟩ := ht
  cases u <;> simp_all [loadVar, isAgg, run_underlying h1]
theorem run_loadVarN {P : Program} {t : TypeId} {m : Nat} (ht : AggT P t m) {a : Addr} {cs : List Value} (hl : cs.length = m) (hc : ∀ j v, cs[j]? = some v → w.cell? (a.add j) = some v) : (loadVar t a).run P w = .ok (.agg cs.toArray) w := by
  obtain ⟨u, i, h1, hi, hs, h2⟩ := ht
  have := run_loadCells_list (P := P) w a cs hc
  rw [hl] at this
  cases u <;> simp_all [loadVar, isAgg, run_underlying h1, sizeOf, typeInfo]

theorem ov_load {x : Operand} {a : Addr} {t : TypeId} {v : Value} (hx : ev env x = some (.pointer (some a))) (ht : OneT P t) (hc : w.cell? a = some v) : OpV P env w (.load t x) ty (v) :=
  fun _ _ _ ρ hρ => ( by simp [execOp, Instr.loadAt, hρ.1 x _ hx, Instr.sureAddr, run_loadVar1 ht hc])

theorem ov_loadN {x : Operand} {a : Addr} {t : TypeId} {m : Nat} (cs : List Value) (hx : ev env x = some (.pointer (some a))) (ht : AggT P t m) (hl : cs.length = m) (hc : ∀ j v, cs[j]? = some v → w.cell? (a.add j) = some v) : OpV P env w (.load t x) ty (.agg cs.toArray) :=
  fun _ _ _ ρ hρ => ( by simp [execOp, Instr.loadAt, hρ.1 x _ hx, Instr.sureAddr, run_loadVarN ht hl hc])

/-- A field of a struct that is a value. -/
theorem ov_fieldV {x : Operand} {t : TypeId} {f : Nat} {u v : Value} (hx : ev env x = some u) (hrun : (Instr.field t u f).run P w = .ok v w) : OpV P env w (.field t x f) ty (v) :=
  fun _ _ _ ρ hρ => ( by simp [execOp, hρ.1 x _ hx, hrun])

/-- A struct or array is put together. -/
theorem ov_build {t : TypeId} {parts : List (Nat × Operand)} {vs : List (Nat × Value)} {v : Value}
    (hp : evp env parts = some vs) (hrun : ∀ W, (Instr.build t vs.toArray).run P W = .ok v W) : OpV P env w (.build t parts.toArray) ty v :=
  fun _ _ _ ρ hρ => by
    have := evp_of hρ hp
    simp only [execOp, Sem.run_bind, List.map_toArray, this, hrun]; rfl
end
end Go.Proofs.Ytafljegjdanldaa
