/- Own rules: arrays in variables of one's own; a list put behind one's own. No program is named here. -/
import Derived.Test.YtafljegjdanldaaSlH
namespace Go.Proofs.Ytafljegjdanldaa
open Go.RowKit

/-- An array type: how many elements, of which type, of how many cells. -/
structure ArrT (P : Program) (t e : TypeId) (n sz : Nat) : Prop where
  und : P.underlying t = some (.array n e)
  inf : ∃ i, P.info? e = some i ∧ i.size = sz
theorem ArrT_of {P : Program} {t e : TypeId} {n sz : Nat} (h1 : P.underlying t = some (.array n e)) (h2 : (P.info? e).map (·.size) = some sz) : ArrT P t e n sz := by
  obtain ⟨i, hi, h5⟩ := Option.map_eq_some_iff.1 h2
  exact ⟨h1, i, hi, h5⟩

section
variable {P : Program} {env : Env} {w : World} {ty : TypeId}
theorem ov_idxA {x ix : Operand} {a : Addr} {n i : Nat} {t e : TypeId} {sz : Nat} (hx : ev env x = some (.pointer (some a))) (hi : ev env ix = some (.int .i64 (i : Int))) (ht : ArrT P t e n sz) (hin : i < n) : OpV P env w (.indexAddr t x ix) ty (.pointer (some (a.add (i * sz)))) := by
  obtain ⟨inf, h1, h2⟩ := ht.inf
  exact ov_indexArr hx hi hin ht.und h1 h2
theorem ov_sliceA {x hh : Operand} {a : Addr} {n hi : Nat} {t e : TypeId} {sz : Nat} {k : IntKind} (hx : ev env x = some (.pointer (some a))) (hh' : ev env hh = some (.int k (hi : Int))) (ht : ArrT P t e n sz) (h : hi ≤ n) :
    OpV P env w (.slice t x none (some hh) none) ty (.slice (some a) hi n) :=
  fun _ _ _ ρ hρ => by
    obtain ⟨inf, h1, h2⟩ := ht.inf
    have h0 : (if n = 0 then a else a.add (0 * inf.size)) = a := by split <;> simp [Addr.add]
    simp [execOp, hρ.1 x _ hx, hρ.1 hh _ hh', Instr.sliceAt, run_underlying ht.und, Instr.sureAddr, Instr.sliceBounds, Instr.sliceBound, asIntOf, sizeOf, typeInfo, h1, h]
    exact fun _ => by simp [Addr.add]
theorem run_part1 {e : TypeId} (h : OneT P e) {cs : Array Value} {o : Nat} {v : Value} (hv : cs[o]? = some v) : (part e cs o).run P w = .ok v w := by
  obtain ⟨u, h3, h4⟩ := h
  have ha : (isAgg e).run P w = .ok false w := by
    cases u <;> simp_all [isAgg, run_underlying h3]
  simp [part, ha, hv]
theorem ov_sliceAll {x : Operand} {a : Addr} {n : Nat} {t e : TypeId} {sz : Nat} (hx : ev env x = some (.pointer (some a))) (ht : ArrT P t e n sz) :
    OpV P env w (.slice t x none none none) ty (.slice (some a) n n) :=
  fun _ _ _ ρ hρ => by
    obtain ⟨inf, h1, h2⟩ := ht.inf
    simp [execOp, hρ.1 x _ hx, Instr.sliceAt, run_underlying ht.und, Instr.sureAddr, Instr.sliceBounds, sizeOf, typeInfo, h1]
    exact fun _ => by simp [Addr.add]
/-- An element of an array that is a value. -/
theorem ov_indexV {x ix : Operand} {cs : List Value} {n i : Nat} {t e : TypeId} {v : Value} (hx : ev env x = some (.agg cs.toArray)) (hi : ev env ix = some (.int .i64 (i : Int))) (ht : ArrT P t e n 1) (hone : OneT P e) (hin : i < n) (hv : cs[i]? = some v) :
    OpV P env w (.index t x ix) ty v :=
  fun _ _ _ ρ hρ => by
    obtain ⟨inf, h1, h2⟩ := ht.inf
    have h5 : (i : Int) < (n : Int) := by omega
    have hp : (part e cs.toArray i).run P w = .ok v w := run_part1 hone (by simpa using hv)
    simp [execOp, Instr.index, hρ.1 x _ hx, hρ.1 ix _ hi, asIntOf, run_underlying ht.und, sizeOf, typeInfo, h1, h2, show i < n from hin, hp]
end

theorem H.cbA {w : World} {h : GH} {Ls : List Heaplet} (hH : H w h Ls) (i : Nat) {g : Nat} {cs : Array Value} {e : TypeId} {fz : Nat × Nat} (hi : Ls[i]? = some [(g, .cells cs e fz)]) (o j : Nat) : w.cell? ((⟨g, o, none⟩ : Addr).add (j * 1)) = cs[o + j]? := by
  rw [Addr.add_lit, Nat.mul_one]
  exact hH.cb i hi (o + j)
theorem addA (g o j : Nat) : (⟨g, o, none⟩ : Addr).add (j * 1) = ⟨g, o + j, none⟩ := by rw [Addr.add_lit, Nat.mul_one]

section
variable {F : Fx} {env : Env} {w : World} {k : Kon} {ops : Array Oper} {rest : List Oper} {d : Nat} {ty : TypeId} {pos : String} {aft : Array Edge} {h : GH} {Ls : List Heaplet}
theorem WL_appR {t e : TypeId} {bts : Nat} {z : List Value} {x y : Operand} {i : Nat} {X : Heaplet} {v sv : Value} {xs ys : List Int} (hd : Nat.blt d F.n = true) (hH : H w h Ls) (hx : ev env x = some v) (hy : ev env y = some sv)
    (ht : SlT F.P t e 1 bts z) (hi : Ls[i]? = some X) (hR : IRow X e v xs) (hsl : Sl sv ys.length) (hc : ∀ {j} (hj : j < ys.length), w.cell? ((slA sv).add (j * 1)) = some (.int .i64 ys[j])) (hb : (xs.length + ys.length) * bts ≤ 140737488355328) (h63 : xs.length + ys.length ≤ 9223372036854775807)
    (hk : ∀ X' v' w', IRow X' e v' (xs ++ ys) → H w' h (Ls.set i X') → WL F ops rest k ((d, v') :: env) w') :
    WL F ops (⟨some d, .call { callee := .builtin .append, args := #[x, y], argTypes := #[t, t] }, ty, pos, aft, none⟩ :: rest) k env w :=
  WL_append hd hH hx hy ht (by omega) hi hR hsl (ys := ys.map (Value.int .i64)) (by simp) (fun j u hj => by
    rw [List.getElem?_map] at hj
    cases hz : ys[j]? with
    | none => rw [hz] at hj; cases hj
    | some a =>
      rw [hz] at hj
      simp only [Option.map_some, Option.some.injEq] at hj
      obtain ⟨h1, h2⟩ := List.getElem?_eq_some_iff.1 hz
      have := hc h1
      rw [Nat.mul_one] at this
      rw [this, ← hj, h2]) (fun u hu => by obtain ⟨a, _, rfl⟩ := List.mem_map.1 hu; rfl) hb h63 fun X' v' w' hX => hk X' v' w' (by unfold IRow; simpa using hX)

/-- copy: the beginning of what is one's own is written over by a list. -/
theorem WL_copyI {t e e' : TypeId} {bts : Nat} {z : List Value} {x y : Operand} {i g off len cap : Nat} {cs : Array Value} {sv : Value} {ys : List Int} (hd : Nat.blt d F.n = true) (hH : H w h Ls) (hx : ev env x = some (.slice (some ⟨g, off, none⟩) len cap)) (hy : ev env y = some sv)
    (ht : SlT F.P t e 1 bts z) (hi : Ls[i]? = some [(g, .cells cs e' (0, 0))]) (hsl : Sl sv ys.length) (hc : ∀ {j} (hj : j < ys.length), w.cell? ((slA sv).add (j * 1)) = some (.int .i64 ys[j])) (hle : ys.length ≤ len) (hfit : off + ys.length ≤ cs.size)
    (hk : ∀ w', H w' h (Ls.set i [(g, .cells (splice cs.toList off (ys.map (Value.int .i64))).toArray e' (0, 0))]) → WL F ops rest k ((d, .int .i64 (ys.length : Int)) :: env) w') :
    WL F ops (⟨some d, .call { callee := .builtin .copy, args := #[x, y], argTypes := #[t, t] }, ty, pos, aft, none⟩ :: rest) k env w := by
  obtain ⟨inf, zv, he, hz, hsz, hby, hzc, hzl⟩ := ht.inf
  have hg := hH.mem hi (p := (g, .cells cs e' (0, 0))) (by simp)
  have hu := ht.und
  have hys : ∀ j u, (ys.map (Value.int .i64))[j]? = some u → w.cell? ((slA sv).add j) = some u := fun j u hj => by
    rw [List.getElem?_map] at hj
    cases hz : ys[j]? with
    | none => rw [hz] at hj; cases hj
    | some a =>
      rw [hz] at hj
      simp only [Option.map_some, Option.some.injEq] at hj
      obtain ⟨h1, h2⟩ := List.getElem?_eq_some_iff.1 hz
      have := hc h1
      rw [Nat.mul_one] at this
      rw [this, ← hj, h2]
  have h1 : ∀ u ∈ ys.map (Value.int .i64), u.oneCell' = true := fun u hu => by obtain ⟨a, _, rfl⟩ := List.mem_map.1 hu; rfl
  have hst := run_storeCells_at F.P g off e' (ys.map (Value.int .i64)) 0 cs w hg (by simpa using hfit) h1
  have hzz : (cs.toList.take (off + 0) ++ ys.map (Value.int .i64) ++ cs.toList.drop (off + 0 + (ys.map (Value.int .i64)).length)).toArray = (splice cs.toList off (ys.map (Value.int .i64))).toArray := rfl
  rw [hzz] at hst
  have hmin : Nat.min ys.length len = ys.length := Nat.min_eq_left hle
  have hf : (Builtin.firstCells inf.size ys.length sv).run F.P w = .ok (ys.map (Value.int .i64)).toArray w := by
    rcases Nat.eq_zero_or_pos ys.length with h0 | h0
    · have : ys = [] := List.eq_nil_of_length_eq_zero h0
      subst this
      obtain ⟨A, c, rfl, _⟩ := hsl.form
      cases A <;> simp [Builtin.firstCells, loadCells, loadCellsFrom]
    · obtain ⟨c, hsv, _, _⟩ := hsl.some h0
      have := run_firstCells_some (P := F.P) w inf.size ys.length (slA sv) ys.length c (ys.map (Value.int .i64)) (by rw [hsz]; simp) hys
      rw [hsv]
      exact this
  have hlen : (Builtin.lenOf sv).run F.P w = .ok ys.length w := by
    obtain ⟨A, c, rfl, _⟩ := hsl.form
    simp [Builtin.lenOf]
  refine WL_val (w' := w.setRow g (splice cs.toList off (ys.map (Value.int .i64))).toArray) hd (fun ρ hρ => ?_) (hk _ (hH.act hi rfl rfl rfl (by simp) (fun k hk hne => setRow_other w g k _ (fun he => hne (g, .cells cs e' (0, 0)) (by simp) he.symm)) (fun p hp => ?_) (by simp) (fun p hp => .inl ⟨(g, .cells cs e' (0, 0)), by simp, ?_⟩)))
  · simp [execOp, resolve, invoke, builtin, hρ.1 x _ hx, hρ.1 y _ hy, Builtin.copy_, run_underlying hu, sizeOf, typeInfo, he, hlen, hmin, hf, hst, goInt]
  · simp only [List.mem_singleton] at hp
    subst hp
    exact setRow_heap w g cs _ e' (0, 0) hg
  · simp only [List.mem_singleton] at hp
    subst hp; rfl
end
end Go.Proofs.Ytafljegjdanldaa
