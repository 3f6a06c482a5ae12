/- Own rules: parts of memory taken to the front and put back; lists of several numbers; one struct more. No program is named here. -/
import Derived.Test.YtafljegjdanldaaSlG
namespace Go.Proofs.Ytafljegjdanldaa
open Go.RowKit

theorem perm_pull {α : Type} : ∀ {l : List α} {i : Nat} {x : α}, l[i]? = some x → l.Perm (x :: l.eraseIdx i)
  | [], _, _, h => by simp at h
  | a :: l, 0, x, h => by simp only [List.getElem?_cons_zero, Option.some.injEq] at h; subst h; exact .refl _
  | a :: l, i + 1, x, h => by
    simp only [List.getElem?_cons_succ] at h
    exact (List.Perm.cons a (perm_pull h)).trans (.swap _ _ _)
theorem perm_set {α : Type} : ∀ {l : List α} {i : Nat} {x y : α}, l[i]? = some y → (x :: l).Perm (y :: l.set i x)
  | [], _, _, _, h => by simp at h
  | a :: l, 0, x, y, h => by simp only [List.getElem?_cons_zero, Option.some.injEq] at h; subst h; exact .swap _ _ _
  | a :: l, i + 1, x, y, h => by
    simp only [List.getElem?_cons_succ] at h
    exact ((List.Perm.swap a x l).trans (.cons a (perm_set h))).trans (.swap _ _ _)
theorem H.pull {w : World} {h : GH} {Ls : List Heaplet} {X : Heaplet} (hH : H w h Ls) (i : Nat) (hi : Ls[i]? = some X) : H w h (X :: Ls.eraseIdx i) := hH.perm (perm_pull hi)
theorem H.del {w : World} {h : GH} {Ls : List Heaplet} {X : Heaplet} (hH : H w h Ls) (i : Nat) (hi : Ls[i]? = some X) : H w h (Ls.eraseIdx i) := (hH.pull i hi).drop
/-- The first part takes the place of another one, which is dropped. -/
theorem H.inPlace {w : World} {h : GH} {Ls : List Heaplet} {X Y : Heaplet} (hH : H w h (X :: Ls)) (i : Nat) (hi : Ls[i]? = some Y) : H w h (Ls.set i X) := (hH.perm (perm_set hi)).drop

section
variable {F : Fx} {env : Env} {w : World} {k : Kon} {ops : Array Oper} {rest : List Oper} {d : Nat} {ty : TypeId} {pos : String} {aft : Array Edge} {h : GH} {Ls : List Heaplet}
theorem WL_bsIN {t e : TypeId} {n : Nat} {parts : List (Nat × Operand)} {vs : List (Nat × Value)} (as : List Int) (hd : Nat.blt d F.n = true) (hH : H w h Ls) (hp : evp env parts = some vs)
    (hrun : ∀ W, (Instr.buildSlice t n vs.toArray).run F.P W = .ok (.slice (some ⟨W.heap.size, 0, none⟩) n n) (W.alloc (.cells (as.map (Value.int .i64)).toArray e))) (hl : as.length = n) (hlim : n ≤ 9223372036854775807)
    (hk : ∀ Y v w', IRow Y e v as → H w' h (Y :: Ls) → WL F ops rest k ((d, v) :: env) w') : WL F ops (⟨some d, .buildSlice t n parts.toArray, ty, pos, aft, none⟩ :: rest) k env w :=
  WL_buildSlice (sz := 1) (as.map (Value.int .i64)) hd hH hp hrun (by simp [hl]) hlim fun Y v w' hY => hk Y v w' (by unfold IRow; rw [hl]; exact hY)
end

theorem H.one {w : World} {h : GH} {Ls : List Heaplet} {X : Heaplet} {i : Nat} (hH : H w h Ls) (hi : Ls[i]? = some X) : H w h [(Ls.eraseIdx i).flatten, X] := by
  have h1 := hH.pull i hi
  have h2 : H w h [X, (Ls.eraseIdx i).flatten] := by simpa [H] using h1
  exact h2.swap
theorem Cl.one {w : World} {h : GH} {Ls : List Heaplet} {X : Heaplet} {i : Nat} (hH : H w h Ls) (hi : Ls[i]? = some X) : Cl h [X] w := ⟨_, hH.one hi⟩
section
variable {F : Fx} {env : Env} {w : World} {k : List Item}
/-- A mixed region whose readers lean on one part alone. -/
theorem WT_mixO {id : Nat} {l : List Oper} {i : Nat} {X : Heaplet} (π : List (Nat × Nat)) {h : GH} {Ls : List Heaplet} (hm : F.P.follows .mixedOrders = true)
    (hB : (Region.noSelect l.toArray && sinkB l.toArray (tagOf π) && π.length == l.length && walkB l.toArray (tagOf π) π (Array.replicate l.length false)) = true)
    (hH : H w h Ls) (hi : Ls[i]? = some X) (hk : ∀ w', H w' h Ls → Cl h [X] w' → WM F l.toArray (Cl h [X]) π k env w') : WT F (.code (.region id l.toArray true) :: k) env w :=
  WT_mix π (Cl h [X]) hm hB hH fun w' hw => hk w' hw (.one hw hi)
end

section
variable {F : Fx} {env : Env} {w : World} {k : List Item} {ops : Array Oper} {rest : List Oper} {d : Nat} {op : Op} {ty : TypeId} {pos : String} {aft : Array Edge} {h : GH} {Ls : List Heaplet}
theorem WQ_guardOffU {j g : Nat} {want : Bool} (hd : Nat.blt d F.n = true) (hj : (ops[j]?).bind (·.dst) = some g) (hv : lk env g = some undef)
    (hk : WQ F ops h Ls rest k ((d, undef) :: env)) : WQ F ops h Ls (⟨some d, op, ty, pos, aft, some (j, want)⟩ :: rest) k env := fun T hT => by
  have hy : Go.yielded ops T j = none := by
    have := hT.2 g _ hv
    simp [Go.yielded, hj, this, undef]
  unfold wpQuiet
  rw [if_neg (by simp [Region.wanted, hy])]
  exact hk _ (hT.put (blt_lt hd) undef)
end
/-! a pointer against nil -/
theorem run_equalIn_ptr_nil {P : Program} {t te : TypeId} {w : World} (ht : P.underlying t = some (.pointer te)) (a : Option Addr) (n : Nat) : (Op.equalIn (n + 1) t (.pointer a) (.pointer none)).run P w = .ok a.isNone w := by
  cases a <;> simp [Op.equalIn, run_underlying ht]
theorem ov_eqlPN {P : Program} {env : Env} {w : World} {ty t t' te : TypeId} {x : Operand} {a : Option Addr} (hx : ev env x = some (.pointer a)) (ht : P.underlying t = some (.pointer te)) :
    OpV P env w (.binOp .eql t x (.const (.pointer none)) t') ty (.bool a.isNone) := ov_bin hx rfl (fun ρ _ => by
  have h1 : (Op.equal t (.pointer a) (.pointer none)).run P w = .ok a.isNone w := run_equalIn_ptr_nil ht a 9999
  cases a <;> simp [eqGuard, binOp, h1])
theorem ov_neqPN {P : Program} {env : Env} {w : World} {ty t t' te : TypeId} {x : Operand} {a : Option Addr} (hx : ev env x = some (.pointer a)) (ht : P.underlying t = some (.pointer te)) :
    OpV P env w (.binOp .neq t x (.const (.pointer none)) t') ty (.bool (!a.isNone)) := ov_bin hx rfl (fun ρ _ => by
  have h1 : (Op.equal t (.pointer a) (.pointer none)).run P w = .ok a.isNone w := run_equalIn_ptr_nil ht a 9999
  cases a <;> simp [eqGuard, binOp, h1])
section
variable {F : Fx} {env : Env} {w : World} {k : Kon} {ops : Array Oper} {rest : List Oper} {d : Nat} {op : Op} {ty : TypeId} {pos : String} {aft : Array Edge}
/-- A guard on an operation that was itself not wanted. -/
theorem WL_guardOffU {j g : Nat} {want : Bool} (hd : Nat.blt d F.n = true) (hj : (ops[j]?).bind (·.dst) = some g) (hv : lk env g = some undef)
    (h : WL F ops rest k ((d, undef) :: env) w) : WL F ops (⟨some d, op, ty, pos, aft, some (j, want)⟩ :: rest) k env w := fun T hT => by
  have hy : Go.yielded ops T j = none := by
    have := hT.2 g _ hv
    simp [Go.yielded, hj, this, undef]
  unfold wpList
  rw [if_neg (by simp [Region.wanted, hy])]
  exact h _ (hT.put (blt_lt hd) undef)
end

/-- A number of some list, chosen. -/
theorem pick_of {P : Int → Prop} {l : List Int} {r : Nat} (hr : r < l.length) (h : ∀ a ∈ l, P a) : P l[r] := h _ (List.getElem_mem hr)
end Go.Proofs.Ytafljegjdanldaa
