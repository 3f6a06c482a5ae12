/- Lists in memory, shared or one's own, and one rule for each kind of operation that turns memory. No program is named here. -/
import Derived.Test.YtafljegjdanldaaSlC
namespace Go.Proofs.Ytafljegjdanldaa
open Go.RowKit

theorem add_of {a : Addr} (h : a.spot = none) (j : Nat) : a.add j = ⟨a.block, a.off + j, none⟩ := by
  obtain ⟨b, o, s⟩ := a
  simp only at h
  subst h
  exact Addr.add_lit b o j

/-- The cells of a slice, in the part that is shared. -/
def Rd (h : GH) (v : Value) (xs : List Value) : Prop :=
  ∀ j u, xs[j]? = some u → (slA v).spot = none ∧ ∃ cs e fz, h.blk (slA v).block = some (.cells cs e fz) ∧ cs[(slA v).off + j]? = some u

theorem Rd.mono {h h' : GH} {v : Value} {xs : List Value} (hR : Rd h v xs) (hle : h.Le h') : Rd h' v xs := fun j u hj => by
  obtain ⟨h1, cs, e, fz, h2, h3⟩ := hR j u hj
  exact ⟨h1, cs, e, fz, hle.blk _ _ h2, h3⟩
theorem Rd.cell {w : World} {h : GH} {Ls : List Heaplet} {v : Value} {xs : List Value} {j : Nat} {u : Value} (hR : Rd h v xs) (hH : H w h Ls) (hj : xs[j]? = some u) : w.cell? ((slA v).add j) = some u := by
  obtain ⟨h1, cs, e, fz, h2, h3⟩ := hR j u hj
  rw [add_of h1, cell_of_heap (hH.rd _ _ h2)]
  exact h3

/-- A slice of one's own: part X of memory is its block. -/
structure Row (X : Heaplet) (e : TypeId) (sz : Nat) (v : Value) (n : Nat) (xs : List Value) : Prop where
  len : xs.length = n * sz
  lim : n ≤ 9223372036854775807
  form : (X = [] ∧ n = 0 ∧ v = .slice none 0 0) ∨ ∃ g off cap cs, X = [(g, .cells cs e (0, 0))] ∧ v = .slice (some ⟨g, off, none⟩) n cap ∧ n ≤ cap ∧ off + cap * sz ≤ cs.size ∧ ∀ j u, xs[j]? = some u → cs[off + j]? = some u

theorem Row.nil (e : TypeId) (sz : Nat) : Row [] e sz (.slice none 0 0) 0 [] := ⟨by simp, by omega, .inl ⟨rfl, rfl, rfl⟩⟩
theorem Row.sl {X : Heaplet} {e : TypeId} {sz : Nat} {v : Value} {n : Nat} {xs : List Value} (h : Row X e sz v n xs) : Sl v n := by
  rcases h.form with ⟨_, rfl, rfl⟩ | ⟨g, off, cap, cs, _, rfl, hc, _⟩
  · exact ⟨by omega, none, 0, rfl, by omega, by omega, by simp⟩
  · exact ⟨h.lim, some _, cap, rfl, hc, fun _ => rfl, fun _ a ha => by cases ha; rfl⟩
theorem Row.blk {X : Heaplet} {e : TypeId} {sz : Nat} {v : Value} {n : Nat} {xs : List Value} (h : Row X e sz v n xs) {j : Nat} {u : Value} (hj : xs[j]? = some u) :
    ∃ g off cs, X = [(g, .cells cs e (0, 0))] ∧ slA v = ⟨g, off, none⟩ ∧ off + j < cs.size ∧ cs[off + j]? = some u := by
  rcases h.form with ⟨_, rfl, rfl⟩ | ⟨g, off, cap, cs, hX, rfl, hc, hs, hcs⟩
  · have := h.len
    simp at this
    subst this
    simp at hj
  · have := hcs j u hj
    have hlt := (Array.getElem?_eq_some_iff.1 this).1
    exact ⟨g, off, cs, hX, rfl, hlt, this⟩
theorem Row.cell {w : World} {h : GH} {Ls : List Heaplet} {i : Nat} {X : Heaplet} {e : TypeId} {sz : Nat} {v : Value} {n : Nat} {xs : List Value} {j : Nat} {u : Value} (hR : Row X e sz v n xs) (hH : H w h Ls) (hi : Ls[i]? = some X) (hj : xs[j]? = some u) :
    w.cell? ((slA v).add j) = some u := by
  obtain ⟨g, off, cs, rfl, hv, _, hc⟩ := hR.blk hj
  rw [hv, Addr.add_lit, cell_of_heap (hH.mem hi (p := (g, .cells cs e (0, 0))) (by simp))]
  exact hc
/-- Behind a sharing of its block a slice reads as it did. -/
theorem Row.rd {X : Heaplet} {e : TypeId} {sz : Nat} {v : Value} {n : Nat} {xs : List Value} {h' : GH} (hR : Row X e sz v n xs) (hX : ∀ p ∈ X, h'.blk p.1 = some p.2) : Rd h' v xs := fun j u hj => by
  obtain ⟨g, off, cs, rfl, hv, _, hc⟩ := hR.blk hj
  rw [hv]
  exact ⟨rfl, cs, e, (0, 0), hX (g, .cells cs e (0, 0)) (by simp), hc⟩

/-- A part of a shared slice. -/
theorem Rd.reslice {h : GH} {v : Value} {xs : List Value} {n lo hi sz : Nat} (hR : Rd h v xs) (hs : Sl v n) (_h1 : lo ≤ hi) (h2 : hi ≤ n) (_hl : xs.length = n * sz) : Rd h (Go.Proofs.Ytafljegjdanldaa.reslice v lo hi sz) ((xs.drop (lo * sz)).take ((hi - lo) * sz)) := fun j u hj => by
  have hjl : j < (hi - lo) * sz := by
    have := (List.getElem?_eq_some_iff.1 hj).1
    simp at this; omega
  have hlt : lo < hi := by
    rcases Nat.lt_or_ge lo hi with h | h
    · exact h
    · rw [Nat.sub_eq_zero_of_le h, Nat.zero_mul] at hjl; omega
  rw [List.getElem?_take_of_lt hjl, List.getElem?_drop] at hj
  obtain ⟨g1, cs, e, fz, g2, g3⟩ := hR _ u hj
  obtain ⟨a1, a2, a3⟩ := reslice_at (sz := sz) hs hlt h2
  refine ⟨a2, cs, e, fz, by rw [a1]; exact g2, ?_⟩
  rw [a3, ← g3]
  congr 1
  omega
/-- A part of a slice of one's own. -/
theorem Row.reslice {X : Heaplet} {e : TypeId} {sz : Nat} {v : Value} {n : Nat} {xs : List Value} {lo hi : Nat} (hR : Row X e sz v n xs) (h1 : lo ≤ hi) (h2 : hi ≤ n) : Row X e sz (Go.Proofs.Ytafljegjdanldaa.reslice v lo hi sz) (hi - lo) ((xs.drop (lo * sz)).take ((hi - lo) * sz)) := by
  have hlim := hR.lim
  have hl := hR.len
  refine ⟨?_, by omega, ?_⟩
  · rw [List.length_take, List.length_drop, hl, ← Nat.sub_mul]
    exact Nat.min_eq_left (Nat.mul_le_mul_right _ (by omega))
  · rcases hR.form with ⟨hX, rfl, rfl⟩ | ⟨g, off, cap, cs, hX, rfl, hc, hfit, hcs⟩
    · have : hi = 0 := by omega
      subst this
      have : lo = 0 := by omega
      subst this
      exact .inl ⟨hX, rfl, rfl⟩
    · by_cases hcl : cap = lo
      · have : hi = lo := by omega
        subst this
        refine .inr ⟨g, off, cap - hi, cs, hX, by simp [Go.Proofs.Ytafljegjdanldaa.reslice, hcl], by omega, ?_, fun j u hj => by simp at hj⟩
        have : (cap - hi) * sz ≤ cap * sz := Nat.mul_le_mul_right _ (by omega)
        omega
      · refine .inr ⟨g, off + lo * sz, cap - lo, cs, hX, by simp [Go.Proofs.Ytafljegjdanldaa.reslice, hcl, Addr.add_lit], by omega, ?_, fun j u hj => ?_⟩
        · rw [Nat.add_assoc, ← Nat.add_mul]
          rw [show lo + (cap - lo) = cap by omega]
          exact hfit
        · have hjl : j < (hi - lo) * sz := by
            have := (List.getElem?_eq_some_iff.1 hj).1
            simp at this; omega
          rw [List.getElem?_take_of_lt hjl, List.getElem?_drop] at hj
          rw [Nat.add_assoc]
          exact hcs _ u hj

section
variable {F : Fx} {env : Env} {w : World} {k : Kon} {ops : Array Oper} {rest : List Oper} {d : Nat} {ty : TypeId} {pos : String} {aft : Array Edge} {h : GH} {Ls : List Heaplet}

/-- How many cells a type's values take. -/
def SizeT (P : Program) (t : TypeId) (m : Nat) : Prop := ∃ i, P.info? t = some i ∧ i.size = m

theorem ones_nil : ∀ u ∈ ([] : List Value), u.oneCell' = true := by simp
theorem ones_cons {v : Value} {r : List Value} (hv : v.oneCell' = true) (hr : ∀ u ∈ r, u.oneCell' = true) : ∀ u ∈ v :: r, u.oneCell' = true := by
  intro u hu
  rcases List.mem_cons.1 hu with rfl | hu
  · exact hv
  · exact hr u hu
theorem cells_one {u : Value} (hu : u.oneCell' = true) : u.cells = #[u] := by cases u <;> simp_all [Value.cells, Value.oneCell']

theorem run_store1 {P : Program} {t : TypeId} {g off : Nat} {cs : Array Value} {e : TypeId} {u : Value} (ht : SizeT P t 1) (hg : w.heap[g]? = some (.cells cs e (0, 0))) (ho : off < cs.size) (hu : u.oneCell' = true) :
    (storeVar t ⟨g, off, none⟩ u).run P w = .ok () (w.setCell ⟨g, off, none⟩ u) := by
  obtain ⟨i, h1, h2⟩ := ht
  have hc : w.cell? ⟨g, off, none⟩ = some cs[off] := by rw [cell_of_heap hg]; exact Array.getElem?_eq_getElem ho
  have hf : w.frozen? ⟨g, off, none⟩ = false := frozen_of_heap hg off
  have ha : (⟨g, off, none⟩ : Addr).add 0 = ⟨g, off, none⟩ := by rw [Addr.add_lit]; rfl
  have hst := run_store P w ⟨g, off, none⟩ u .plain hu
  rw [hc] at hst
  simp only [hf, Bool.false_eq_true, if_false] at hst
  simp [storeVar, cells_one hu, sizeOf, typeInfo, h1, h2, storeCells, ha, hst]

/-- A cell of a block of one's own is written through a pointer. -/
theorem WL_store {x y : Operand} {t : TypeId} {a : Addr} {g off : Nat} {cs : Array Value} {e : TypeId} {u : Value} {i : Nat} (hH : H w h Ls) (hx : ev env x = some (.pointer (some a))) (hy : ev env y = some u)
    (hi : Ls[i]? = some [(g, .cells cs e (0, 0))]) (ha : a = ⟨g, off, none⟩) (ho : off < cs.size) (hu : u.oneCell' = true) (ht : SizeT F.P t 1)
    (hk : ∀ w', H w' h (Ls.set i [(g, .cells (cs.setIfInBounds off u) e (0, 0))]) → WL F ops rest k env w') : WL F ops (⟨none, .store t x y, ty, pos, aft, none⟩ :: rest) k env w :=
  WL_unit (w' := w.setCell ⟨g, off, none⟩ u) (fun ρ hρ => by
    subst ha
    have hg := hH.mem hi (p := (g, .cells cs e (0, 0))) (by simp)
    simp [execOp, hρ.1 x _ hx, hρ.1 y _ hy, Instr.storeAt, Instr.sureAddr, run_store1 ht hg ho hu]) (hk _ (hH.set hi off u))

/-- A struct is written whole into a box of one's own. -/
theorem WL_storeN {x y : Operand} {t : TypeId} {a : Addr} {g : Nat} {cs vs : Array Value} {e : TypeId} {i : Nat} (hH : H w h Ls) (hx : ev env x = some (.pointer (some a))) (hy : ev env y = some (.agg vs))
    (hi : Ls[i]? = some [(g, .cells cs e (0, 0))]) (ha : a = ⟨g, 0, none⟩) (ho : vs.size = cs.size) (hu : ∀ u ∈ vs.toList, u.oneCell' = true) (ht : SizeT F.P t vs.size)
    (hk : ∀ w', H w' h (Ls.set i [(g, .cells vs e (0, 0))]) → WL F ops rest k env w') : WL F ops (⟨none, .store t x y, ty, pos, aft, none⟩ :: rest) k env w := by
  have hg := hH.mem hi (p := (g, .cells cs e (0, 0))) (by simp)
  have hst := run_storeCells_at F.P g 0 e vs.toList 0 cs w hg (by simp [ho]) hu
  have hz : (cs.toList.take (0 + 0) ++ vs.toList ++ cs.toList.drop (0 + 0 + vs.toList.length)).toArray = vs := by
    have : cs.toList.drop vs.size = [] := List.drop_eq_nil_of_le (by simp [ho])
    simp [this]
  rw [hz] at hst
  refine WL_unit (w' := w.setRow g vs) (fun ρ hρ => ?_) (hk _ (hH.act hi rfl rfl rfl (by simp) (fun k hk hne => setRow_other w g k vs (fun he => hne (g, .cells cs e (0, 0)) (by simp) he.symm)) (fun p hp => ?_) (by simp) (fun p hp => .inl ⟨(g, .cells cs e (0, 0)), by simp, ?_⟩)))
  · subst ha
    obtain ⟨i, h1, h2⟩ := ht
    simp [execOp, hρ.1 x _ hx, hρ.1 y _ hy, Instr.storeAt, Instr.sureAddr, storeVar, Value.cells, sizeOf, typeInfo, h1, h2, hst]
  · simp only [List.mem_singleton] at hp
    subst hp
    exact setRow_heap w g cs vs e (0, 0) hg
  · simp only [List.mem_singleton] at hp
    subst hp; rfl

/-- An element of a slice of one's own is written. -/
theorem WL_storeRow {x y : Operand} {t : TypeId} {X : Heaplet} {e : TypeId} {sz : Nat} {v : Value} {n : Nat} {xs : List Value} {u : Value} {i j : Nat} (hH : H w h Ls) (hx : ev env x = some (.pointer (some ((slA v).add j)))) (hy : ev env y = some u)
    (hi : Ls[i]? = some X) (hR : Row X e sz v n xs) (hj : j < xs.length) (hu : u.oneCell' = true) (ht : SizeT F.P t 1)
    (hk : ∀ X' w', Row X' e sz v n (xs.set j u) → H w' h (Ls.set i X') → WL F ops rest k env w') : WL F ops (⟨none, .store t x y, ty, pos, aft, none⟩ :: rest) k env w := by
  obtain ⟨g, off, cs, rfl, hv, ho, hc⟩ := hR.blk (List.getElem?_eq_getElem hj)
  refine WL_store hH hx hy hi (by rw [hv, Addr.add_lit]) ho hu ht fun w' hH' => hk _ w' ⟨by simpa using hR.len, hR.lim, .inr ?_⟩ hH'
  rcases hR.form with ⟨hX, _⟩ | ⟨g', off', cap, cs', hX, hv', hc', hs, hcs⟩
  · cases hX
  · simp only [List.cons.injEq, Prod.mk.injEq, Obj.cells.injEq, and_true] at hX
    obtain ⟨rfl, rfl⟩ := hX
    have : off = off' := by
      rw [hv'] at hv
      simp only [slA, Addr.mk.injEq, and_true] at hv
      exact hv.2.symm
    subst this
    refine ⟨g, off, cap, _, rfl, hv', hc', by simpa using hs, fun l z hl => ?_⟩
    rw [List.getElem?_set] at hl
    rw [Array.getElem?_setIfInBounds]
    by_cases hjl : j = l
    · subst hjl
      simp only [if_true, hj] at hl
      simp only [if_true, ho]
      exact hl
    · rw [if_neg hjl] at hl
      rw [if_neg (by omega)]
      exact hcs l z hl

theorem WL_alloc {t : TypeId} {z : Value} (cs : Array Value) (hd : Nat.blt d F.n = true) (hH : H w h Ls) (hz : ∀ W, (zeroValue t).run F.P W = .ok z W) (hcs : z.cells = cs)
    (hk : ∀ g w', H w' h ([(g, .cells cs t (0, 0))] :: Ls) → WL F ops rest k ((d, .pointer (some ⟨g, 0, none⟩)) :: env) w') : WL F ops (⟨some d, .alloc t, ty, pos, aft, none⟩ :: rest) k env w :=
  WL_val (w' := w.alloc (.cells cs t)) hd (fun ρ hρ => by
    simp [execOp, Instr.alloc, hz, newVar, newRow, hcs]) (hk _ _ (hH.new _))
theorem WL_box {t : TypeId} {x : Operand} {v : Value} (cs : Array Value) (hd : Nat.blt d F.n = true) (hH : H w h Ls) (hx : ev env x = some v) (hcs : v.cells = cs)
    (hk : ∀ g w', H w' h ([(g, .cells cs t (0, 0))] :: Ls) → WL F ops rest k ((d, .pointer (some ⟨g, 0, none⟩)) :: env) w') : WL F ops (⟨some d, .box t x, ty, pos, aft, none⟩ :: rest) k env w :=
  WL_val (w' := w.alloc (.cells cs t)) hd (fun ρ hρ => by
    simp [execOp, Instr.box, hρ.1 x _ hx, newVar, newRow, hcs]) (hk _ _ (hH.new _))

/-- A slice literal. -/
theorem WL_buildSlice {t e : TypeId} {sz n : Nat} {parts : List (Nat × Operand)} {vs : List (Nat × Value)} (cs : List Value) (hd : Nat.blt d F.n = true) (hH : H w h Ls) (hp : evp env parts = some vs)
    (hrun : ∀ W, (Instr.buildSlice t n vs.toArray).run F.P W = .ok (.slice (some ⟨W.heap.size, 0, none⟩) n n) (W.alloc (.cells cs.toArray e))) (hl : cs.length = n * sz) (hlim : n ≤ 9223372036854775807)
    (hk : ∀ X v w', Row X e sz v n cs → H w' h (X :: Ls) → WL F ops rest k ((d, v) :: env) w') : WL F ops (⟨some d, .buildSlice t n parts.toArray, ty, pos, aft, none⟩ :: rest) k env w :=
  WL_val (w' := w.alloc (.cells cs.toArray e)) hd (fun ρ hρ => by
    have := evp_of hρ hp
    simp only [execOp, Sem.run_bind, List.map_toArray, this, hrun]; rfl) (hk _ _ _ ⟨hl, hlim, .inr ⟨w.heap.size, 0, n, cs.toArray, rfl, rfl, Nat.le_refl _, by simp [hl], fun j u hj => by simpa using hj⟩⟩ (hH.new _))

theorem getElem_made {z : List Value} {sz m : Nat} (hz : z.length = sz) (hs : 0 < sz) {j : Nat} (hj : j < m) : (madeCells z.toArray m)[j]? = z[j % sz]? := by
  have h1 : j % sz < z.length := by rw [hz]; exact Nat.mod_lt _ hs
  simp [madeCells, hj, hz, List.getElem?_eq_getElem h1, getElem!_def]

theorem WL_make {t e : TypeId} {sz bts n c : Nat} {z : List Value} {x y : Operand} {kx ky : IntKind} (hd : Nat.blt d F.n = true) (hH : H w h Ls) (hx : ev env x = some (.int kx (n : Int))) (hy : ev env y = some (.int ky (c : Int))) (ht : SlT F.P t e sz bts z) (hs : 0 < sz)
    (hnc : n ≤ c) (hb : bts * c ≤ 281474976710656) (h63 : c ≤ 9223372036854775807)
    (hk : ∀ X v w', Row X e sz v n ((List.replicate n z).flatten) → H w' h (X :: Ls) → WL F ops rest k ((d, v) :: env) w') : WL F ops (⟨some d, .makeSlice t x y, ty, pos, aft, none⟩ :: rest) k env w := by
  obtain ⟨i, zv, he, hz, hsz, hby, hzc, hzl⟩ := ht.inf
  have hb' : (i.bytes : Int) * (c : Int) ≤ 281474976710656 := by
    have : ((bts * c : Nat) : Int) ≤ 281474976710656 := by omega
    rw [hby]; rwa [Int.natCast_mul] at this
  have hr := run_make (P := F.P) w t e i zv ht.und he hz kx ky (n : Int) (c : Int) (by omega) (by omega) hb' (by omega)
  simp only [Int.toNat_natCast] at hr
  refine WL_val (w' := w.alloc (.cells (madeCells zv.cells (c * i.size)) e)) hd (fun ρ hρ => ?_) (hk _ _ _ ⟨by simp [hzl], by omega, .inr ⟨w.heap.size, 0, c, _, rfl, rfl, hnc, by simp [size_madeCells, hsz], fun j u hj => ?_⟩⟩ (hH.new _))
  · simp only [execOp, hρ.1 x _ hx, hρ.1 y _ hy, Sem.run_bind, hr]; rfl
  · have hjl : j < n * sz := by
      have := (List.getElem?_eq_some_iff.1 hj).1
      simpa [hzl] using this
    have hjc : j < c * sz := Nat.lt_of_lt_of_le hjl (Nat.mul_le_mul_right _ hnc)
    rw [hzc, Nat.zero_add, hsz, getElem_made hzl hs hjc, ← hj]
    have key : ∀ (n j : Nat), j < n * sz → (List.replicate n z).flatten[j]? = z[j % sz]? := by
      intro n
      induction n with
      | zero => intro j hj; omega
      | succ n ih =>
        intro j hj
        rw [List.replicate_succ, List.flatten_cons, List.getElem?_append]
        split
        · rename_i hlt
          rw [Nat.mod_eq_of_lt (by omega)]
        · rename_i hge
          rw [hzl] at hge ⊢
          rw [ih (j - sz) (by rw [Nat.succ_mul] at hj; omega)]
          rw [← Nat.mod_eq_sub_mod (by omega)]
    exact (key n j hjl).symm

/-- append: what is one's own grows by what is read. -/
theorem run_append_row {P : Program} {t e ty : TypeId} {sz bts : Nat} {z : List Value} (ht : SlT P t e sz bts z) (_hs : 0 < sz) {i : Nat} {X : Heaplet} {v : Value} {n : Nat} {xs : List Value} (hH : H w h Ls) (hi : Ls[i]? = some X) (hR : Row X e sz v n xs)
    {sv : Value} {m : Nat} {ys : List Value} (hsl : Sl sv m) (hyl : ys.length = m * sz) (hys : ∀ j u, ys[j]? = some u → w.cell? ((slA sv).add j) = some u) (h1 : ∀ u ∈ ys, u.oneCell' = true)
    (hb : (n + m) * bts ≤ 140737488355328) (h63 : n + m ≤ 9223372036854775807) :
    ∃ X' v' w', (Builtin.append_ #[t, t] ty #[v, sv]).run P w = .ok v' w' ∧ Row X' e sz v' (n + m) (xs ++ ys) ∧ H w' h (Ls.set i X') := by
  obtain ⟨inf, zv, he, hz, hsz, hby, hzc, hzl⟩ := ht.inf
  have hu := ht.und
  have hlen : (xs ++ ys).length = (n + m) * sz := by rw [List.length_append, hR.len, hyl, Nat.add_mul]
  have hzs : zv.cells.size = sz := by rw [hzc]; simpa using hzl
  rcases Nat.eq_zero_or_pos m with hm | hm
  · -- nothing comes
    subst hm
    have hy0 : ys = [] := List.eq_nil_of_length_eq_zero (by simpa using hyl)
    subst hy0
    refine ⟨X, v, w, ?_, by simpa using hR, ?_⟩
    · obtain ⟨A, c, rfl, _⟩ := hsl.form
      rcases hR.form with ⟨_, rfl, rfl⟩ | ⟨g, off, cap, cs, rfl, rfl, hc, _⟩
      · cases A <;> simp [Builtin.append_, run_underlying hu, sizeOf, typeInfo, he, Builtin.lenOf, Builtin.firstCells, loadCells, loadCellsFrom]
      · cases A <;> simp [Builtin.append_, run_underlying hu, sizeOf, typeInfo, he, Builtin.lenOf, Builtin.firstCells, loadCells, loadCellsFrom, hc, storeCells]
    · have : Ls.set i X = Ls := by
        apply List.ext_getElem?
        intro j
        rw [List.getElem?_set]
        split
        · rename_i hij; subst hij; split <;> simp_all
        · rfl
      rw [this]; exact hH
  obtain ⟨c, hsv, _, _⟩ := hsl.some hm
  rw [hsv]
  -- a new block
  have grown : ∀ (old : Nat), old < n + m →
      Row [(w.heap.size, .cells (xs.toArray ++ ys.toArray ++ Builtin.zeroCells zv.cells (grownCap w (n + m) old e - (n + m))) e (0, 0))] e sz (.slice (some ⟨w.heap.size, 0, none⟩) (n + m) (grownCap w (n + m) old e)) (n + m) (xs ++ ys) ∧
      H (w.drew.alloc (.cells (xs.toArray ++ ys.toArray ++ Builtin.zeroCells zv.cells (grownCap w (n + m) old e - (n + m))) e)) h (Ls.set i [(w.heap.size, .cells (xs.toArray ++ ys.toArray ++ Builtin.zeroCells zv.cells (grownCap w (n + m) old e - (n + m))) e (0, 0))]) := by
    intro old _
    have hge := grownCap_ge w (n + m) old e
    refine ⟨⟨hlen, h63, .inr ⟨_, 0, _, _, rfl, rfl, hge, ?_, fun j u hj => ?_⟩⟩, ?_⟩
    · simp only [Array.size_append, List.size_toArray, size_zeroCells, hzs, hR.len, hyl, ← Nat.add_mul]
      rw [Nat.zero_add]
      exact Nat.mul_le_mul_right _ (by omega)
    · rw [Nat.zero_add, Array.getElem?_append_left (by simpa using (List.getElem?_eq_some_iff.1 hj).1)]
      simpa using hj
    · refine hH.act hi rfl rfl rfl (by simp) (fun k hk _ => heap_alloc_old w.drew _ hk) (fun p hp => ?_) (by simp) (fun p hp => .inr ?_)
      · simp only [List.mem_singleton] at hp
        subst hp
        exact heap_alloc_new w.drew _
      · simp only [List.mem_singleton] at hp
        subst hp; exact Nat.le_refl _
  have hyl' : ys.length = m * inf.size := by rw [hsz]; exact hyl
  rcases hR.form with ⟨rfl, rfl, rfl⟩ | ⟨g, off, cap, cs, rfl, rfl, hnc, hfit, hcs⟩
  · have hx0 : xs = [] := List.eq_nil_of_length_eq_zero (by simpa using hR.len)
    subst hx0
    have hr := run_append_nil (P := P) w t ty e inf zv hu he hz (slA sv) m c ys hyl' hys hm (by omega) (by rw [hby]; rw [Nat.zero_add] at hb; omega)
    have hgr := grown 0 (by omega)
    simp only [Nat.zero_add, List.nil_append, Array.empty_append] at hgr ⊢
    exact ⟨_, _, _, hr, hgr.1, hgr.2⟩
  · have hg := hH.mem hi (p := (g, .cells cs e (0, 0))) (by simp)
    simp only at hg
    by_cases hroom : n + m ≤ cap
    · have hfit' : off + n * sz + ys.length ≤ cs.size := by
        have : (n + m) * sz ≤ cap * sz := Nat.mul_le_mul_right _ hroom
        rw [Nat.add_mul] at this
        omega
      have hf := run_firstCells_some (P := P) w inf.size m (slA sv) m c ys hyl' hys
      rw [hsz] at hf
      have hst := run_storeCells_at P g (off + n * sz) e ys 0 cs w hg (by simpa using hfit') h1
      simp only [Nat.add_zero] at hst
      generalize hcs' : (cs.toList.take (off + n * sz) ++ ys ++ cs.toList.drop (off + n * sz + ys.length)).toArray = cs' at hst
      refine ⟨[(g, .cells cs' e (0, 0))], .slice (some ⟨g, off, none⟩) (n + m) cap, w.setRow g cs', ?_, ⟨hlen, h63, .inr ⟨g, off, cap, _, rfl, rfl, hroom, ?_, fun j u hj => ?_⟩⟩, hH.act (w' := w.setRow g cs') hi rfl rfl rfl (by simp) (fun k hk hne => setRow_other w g k cs' (fun he => hne (g, .cells cs e (0, 0)) (by simp) he.symm)) (fun p hp => ?_) (by simp) (fun p hp => .inl ⟨(g, .cells cs e (0, 0)), by simp, ?_⟩)⟩
      · simp [Builtin.append_, run_underlying hu, sizeOf, typeInfo, he, Builtin.lenOf, hroom, hf, Addr.add_lit, hsz, hst]
      · subst hcs'
        simp only [List.size_toArray, List.length_append, List.length_take, List.length_drop, Array.length_toList]
        omega
      · subst hcs'
        have hoff : off + n * sz ≤ cs.toList.length := by simp; omega
        simp only [List.getElem?_toArray]
        rw [List.append_assoc]
        rw [List.getElem?_append] at hj
        split at hj
        · rename_i hlt
          rw [hR.len] at hlt
          rw [List.getElem?_append_left (by rw [List.length_take]; omega), List.getElem?_take_of_lt (by omega)]
          simpa using hcs j u hj
        · rename_i hge
          rw [hR.len] at hge hj
          rw [List.getElem?_append_right (by rw [List.length_take]; omega), List.length_take, Nat.min_eq_left hoff]
          have hjl : j - n * sz < ys.length := (List.getElem?_eq_some_iff.1 hj).1
          rw [List.getElem?_append_left (by omega)]
          rw [show off + j - (off + n * sz) = j - n * sz by omega]
          exact hj
      · simp only [List.mem_singleton] at hp
        subst hp
        exact setRow_heap w g cs _ e (0, 0) hg
      · simp only [List.mem_singleton] at hp
        subst hp; rfl
    · have holds : ∀ j u, xs[j]? = some u → w.cell? ((⟨g, off, none⟩ : Addr).add j) = some u := fun j u hj => by
        rw [Addr.add_lit, cell_of_heap hg]; exact hcs j u hj
      have hr := run_append_grow (P := P) w t ty e inf zv hu he hz ⟨g, off, none⟩ n cap xs (by rw [hsz]; exact hR.len) holds (slA sv) m c ys hyl' hys (by omega) (by omega) (growslice_fits (by omega) (by rw [hby]; exact hb))
      have hgr := grown cap (by omega)
      exact ⟨_, _, _, hr, hgr.1, hgr.2⟩

theorem WL_append {t e : TypeId} {sz bts : Nat} {z : List Value} {x y : Operand} {i : Nat} {X : Heaplet} {v sv : Value} {n m : Nat} {xs ys : List Value} (hd : Nat.blt d F.n = true) (hH : H w h Ls) (hx : ev env x = some v) (hy : ev env y = some sv)
    (ht : SlT F.P t e sz bts z) (hs : 0 < sz) (hi : Ls[i]? = some X) (hR : Row X e sz v n xs) (hsl : Sl sv m) (hyl : ys.length = m * sz) (hys : ∀ j u, ys[j]? = some u → w.cell? ((slA sv).add j) = some u) (h1 : ∀ u ∈ ys, u.oneCell' = true)
    (hb : (n + m) * bts ≤ 140737488355328) (h63 : n + m ≤ 9223372036854775807)
    (hk : ∀ X' v' w', Row X' e sz v' (n + m) (xs ++ ys) → H w' h (Ls.set i X') → WL F ops rest k ((d, v') :: env) w') :
    WL F ops (⟨some d, .call { callee := .builtin .append, args := #[x, y], argTypes := #[t, t] }, ty, pos, aft, none⟩ :: rest) k env w := by
  obtain ⟨X', v', w', hr, h2, h3⟩ := run_append_row (ty := ty) ht hs hH hi hR hsl hyl hys h1 hb h63
  exact WL_val hd (fun ρ hρ => by simp [execOp, resolve, invoke, builtin, hρ.1 x _ hx, hρ.1 y _ hy, hr]) (hk X' v' w' h2 h3)

/-- append of one element (its own little slice is made ahead of it, and is dropped). -/
theorem WL_append1 {t e : TypeId} {sz bts : Nat} {z : List Value} {x y : Operand} {i j : Nat} {X Y : Heaplet} {v sv : Value} {n m : Nat} {xs ys : List Value} (hd : Nat.blt d F.n = true) (hH : H w h Ls) (hx : ev env x = some v) (hy : ev env y = some sv)
    (ht : SlT F.P t e sz bts z) (hs : 0 < sz) (hi : Ls[i]? = some X) (hR : Row X e sz v n xs) (hj : Ls[j]? = some Y) (hY : Row Y e sz sv m ys) (h1 : ∀ u ∈ ys, u.oneCell' = true)
    (hb : (n + m) * bts ≤ 140737488355328) (h63 : n + m ≤ 9223372036854775807)
    (hk : ∀ X' v' w', Row X' e sz v' (n + m) (xs ++ ys) → H w' h (Ls.set i X') → WL F ops rest k ((d, v') :: env) w') :
    WL F ops (⟨some d, .call { callee := .builtin .append, args := #[x, y], argTypes := #[t, t] }, ty, pos, aft, none⟩ :: rest) k env w :=
  WL_append hd hH hx hy ht hs hi hR hY.sl hY.len (fun _ _ hu => hY.cell hH hj hu) h1 hb h63 hk
end

/-! ### Lists of numbers, of lists, plans -/

/-- A slice of numbers in the shared part. -/
structure Ints (h : GH) (v : Value) (xs : List Int) : Prop where
  sl : Sl v xs.length
  rd : Rd h v (xs.map (Value.int .i64))
theorem Ints.mono {h h' : GH} {v : Value} {xs : List Int} (hI : Ints h v xs) (hle : h.Le h') : Ints h' v xs := ⟨hI.sl, hI.rd.mono hle⟩
theorem Ints.nil (h : GH) : Ints h (.slice none 0 0) [] := ⟨⟨by simp, none, 0, rfl, by simp, by simp, by simp⟩, fun j u hj => by simp at hj⟩
theorem Ints.cell {w : World} {h : GH} {Ls : List Heaplet} {v : Value} {xs : List Int} {j : Nat} (hI : Ints h v xs) (hH : H w h Ls) (hj : j < xs.length) : w.cell? ((slA v).add (j * 1)) = some (.int .i64 xs[j]) := by
  rw [Nat.mul_one]
  exact hI.rd.cell hH (by simp [hj])

theorem Ints.reslice {h : GH} {v : Value} {xs : List Int} {lo hi : Nat} (hI : Ints h v xs) (h1 : lo ≤ hi) (h2 : hi ≤ xs.length) : Ints h (Go.Proofs.Ytafljegjdanldaa.reslice v lo hi 1) ((xs.drop lo).take (hi - lo)) := by
  refine ⟨?_, ?_⟩
  · have := reslice_sl (sz := 1) hI.sl h1 h2
    rwa [show ((xs.drop lo).take (hi - lo)).length = hi - lo by simp; omega]
  · have := hI.rd.reslice (sz := 1) hI.sl h1 h2 (by simp)
    simpa [List.map_take, List.map_drop] using this

/-- A slice of bytes in the shared part. -/
structure Bytes (h : GH) (v : Value) (bs : List Int) : Prop where
  sl : Sl v bs.length
  rd : Rd h v (bs.map (Value.int .u8))
  rg : ∀ b ∈ bs, 0 ≤ b ∧ b < 256
theorem Bytes.mono {h h' : GH} {v : Value} {xs : List Int} (hI : Bytes h v xs) (hle : h.Le h') : Bytes h' v xs := ⟨hI.sl, hI.rd.mono hle, hI.rg⟩
theorem Bytes.cell {w : World} {h : GH} {Ls : List Heaplet} {v : Value} {xs : List Int} {j : Nat} (hI : Bytes h v xs) (hH : H w h Ls) (hj : j < xs.length) : w.cell? ((slA v).add (j * 1)) = some (.int .u8 xs[j]) := by
  rw [Nat.mul_one]
  exact hI.rd.cell hH (by simp [hj])
theorem Bytes.reslice {h : GH} {v : Value} {xs : List Int} {lo hi : Nat} (hI : Bytes h v xs) (h1 : lo ≤ hi) (h2 : hi ≤ xs.length) : Bytes h (Go.Proofs.Ytafljegjdanldaa.reslice v lo hi 1) ((xs.drop lo).take (hi - lo)) := by
  refine ⟨?_, ?_, fun b hb => hI.rg b (List.mem_of_mem_drop (List.mem_of_mem_take hb))⟩
  · have := reslice_sl (sz := 1) hI.sl h1 h2
    rwa [show ((xs.drop lo).take (hi - lo)).length = hi - lo by simp; omega]
  · have := hI.rd.reslice (sz := 1) hI.sl h1 h2 (by simp)
    simpa [List.map_take, List.map_drop] using this

/-- A slice of numbers of one's own. -/
def IRow (X : Heaplet) (e : TypeId) (v : Value) (xs : List Int) : Prop := Row X e 1 v xs.length (xs.map (Value.int .i64))
theorem IRow.nil (e : TypeId) : IRow [] e (.slice none 0 0) [] := Row.nil e 1
theorem IRow.sl {X : Heaplet} {e : TypeId} {v : Value} {xs : List Int} (hI : IRow X e v xs) : Sl v xs.length := Row.sl hI
theorem IRow.ints {X : Heaplet} {e : TypeId} {v : Value} {xs : List Int} {h' : GH} (hI : IRow X e v xs) (hX : ∀ p ∈ X, h'.blk p.1 = some p.2) : Ints h' v xs := ⟨hI.sl, Row.rd hI hX⟩
theorem IRow.cell {w : World} {h : GH} {Ls : List Heaplet} {i : Nat} {X : Heaplet} {e : TypeId} {v : Value} {xs : List Int} {j : Nat} (hI : IRow X e v xs) (hH : H w h Ls) (hi : Ls[i]? = some X) (hj : j < xs.length) : w.cell? ((slA v).add (j * 1)) = some (.int .i64 xs[j]) := by
  rw [Nat.mul_one]
  exact Row.cell hI hH hi (by simp [hj])

/-- A node of a plan. -/
structure Nd where
  kind : Int
  frm : List Int
  row : List Int
deriving DecidableEq

/-- A struct of a kind and two slices of numbers, as cells. -/
structure NdAt (h : GH) (cs : List Value) (x : Nd) : Prop where
  form : ∃ f r, cs = [.int .i64 x.kind, f, r] ∧ Ints h f x.frm ∧ Ints h r x.row

theorem Sl.one {v : Value} {n : Nat} (h : Sl v n) : v.oneCell' = true := by obtain ⟨_, _, rfl, _⟩ := h.form; rfl

/-- A plan in the shared part. -/
structure Plan (h : GH) (v : Value) (p : List Nd) : Prop where
  sl : Sl v p.length
  at_ : ∀ i (hi : i < p.length), ∃ f r, Ints h f p[i].frm ∧ Ints h r p[i].row ∧ ∀ j u, [Value.int .i64 p[i].kind, f, r][j]? = some u → (slA v).spot = none ∧ ∃ cs e fz, h.blk (slA v).block = some (.cells cs e fz) ∧ cs[(slA v).off + (i * 3 + j)]? = some u
theorem Plan.mono {h h' : GH} {v : Value} {p : List Nd} (hP : Plan h v p) (hle : h.Le h') : Plan h' v p := ⟨hP.sl, fun i hi => by
  obtain ⟨f, r, h1, h2, h3⟩ := hP.at_ i hi
  refine ⟨f, r, h1.mono hle, h2.mono hle, fun j u hj => ?_⟩
  obtain ⟨g1, cs, e, fz, g2, g3⟩ := h3 j u hj
  exact ⟨g1, cs, e, fz, hle.blk _ _ g2, g3⟩⟩
theorem add_add (a : Addr) (i j : Nat) : (a.add i).add j = a.add (i + j) := by
  unfold Addr.add
  by_cases hi : i = 0 <;> by_cases hj : j = 0 <;> simp [hi, hj, Nat.add_assoc]
/-- The cells of a node of a plan. -/
theorem Plan.node {h : GH} {v : Value} {p : List Nd} (hP : Plan h v p) {i : Nat} (hi : i < p.length) :
    ∃ f r, Ints h f p[i].frm ∧ Ints h r p[i].row ∧ ∀ w Ls, H w h Ls → ∀ j u, [Value.int .i64 p[i].kind, f, r][j]? = some u → w.cell? (((slA v).add (i * 3)).add j) = some u := by
  obtain ⟨f, r, h1, h2, h3⟩ := hP.at_ i hi
  refine ⟨f, r, h1, h2, fun w Ls hH j u hj => ?_⟩
  obtain ⟨g1, cs, e, fz, g2, g3⟩ := h3 j u hj
  rw [add_add, add_of g1, cell_of_heap (hH.rd _ _ g2)]
  exact g3

end Go.Proofs.Ytafljegjdanldaa
