/- Rules: append in its place, slices up to the room, clear. No program is named here. -/
import Derived.Test.YtafljegjdanldaaSlD
namespace Go.Proofs.Ytafljegjdanldaa
open Go.RowKit

section
variable {P : Program} {env : List (Nat × Value)} {w : World} {ty : TypeId}

/-- x[lo:hi:mx] -/
theorem ov_slice3 {x : Operand} {a : Addr} {n cap lo hi mx : Nat} {t e : TypeId} {sz bts : Nat} {z : List Value} {l hh mm : Operand} {k k' k'' : IntKind} (hx : ev env x = some (.slice (some a) n cap)) (hl : ev env l = some (.int k (lo : Int))) (hh' : ev env hh = some (.int k' (hi : Int))) (hm : ev env mm = some (.int k'' (mx : Int))) (ht : SlT P t e sz bts z) (h1 : lo ≤ hi) (h2 : hi ≤ mx) (h3 : mx ≤ cap) :
    OpV P env w (.slice t x (some l) (some hh) (some mm)) ty (.slice (if mx = lo then some a else some (a.add (lo * sz))) (hi - lo) (mx - lo)) :=
  fun _ _ _ ρ hρ => by
    obtain ⟨inf, zv, he, _, hsz, _⟩ := ht.inf
    have h4 : ¬ hi < lo := by omega
    have h5 : ¬ mx < hi := by omega
    simp [execOp, hρ.1 x _ hx, hρ.1 l _ hl, hρ.1 hh _ hh', hρ.1 mm _ hm, Instr.sliceAt, Instr.slice, run_underlying ht.und, Instr.sliceBounds, Instr.sliceBound, asIntOf, sizeOf, typeInfo, he, hsz, h1, h2, h3]
/-- x[lo:hi], up to the room. -/
theorem ov_sliceUp {x : Operand} {a : Addr} {n cap lo hi : Nat} {t e : TypeId} {sz bts : Nat} {z : List Value} {l hh : Operand} {k k' : IntKind} (hx : ev env x = some (.slice (some a) n cap)) (hl : ev env l = some (.int k (lo : Int))) (hh' : ev env hh = some (.int k' (hi : Int))) (ht : SlT P t e sz bts z) (h1 : lo ≤ hi) (h3 : hi ≤ cap) (h4 : lo < cap) :
    OpV P env w (.slice t x (some l) (some hh) none) ty (.slice (some (a.add (lo * sz))) (hi - lo) (cap - lo)) :=
  fun _ _ _ ρ hρ => by
    obtain ⟨inf, zv, he, _, hsz, _⟩ := ht.inf
    have h5 : ¬ cap = lo := by omega
    simp [execOp, hρ.1 x _ hx, hρ.1 l _ hl, hρ.1 hh _ hh', Instr.sliceAt, Instr.slice, run_underlying ht.und, Instr.sliceBounds, Instr.sliceBound, asIntOf, sizeOf, typeInfo, he, hsz, h1, h3, h5]
end

section
variable {F : Fx} {env : Env} {w : World} {k : Kon} {ops : Array Oper} {rest : List Oper} {d : Nat} {ty : TypeId} {pos : String} {aft : Array Edge} {h : GH} {Ls : List Heaplet} {op : Op}

theorem WL_unitV {v : Value} {w' : World}
    (hrun : ∀ ρ, EvR ρ env → (execOp ρ ⟨none, op, ty, pos, aft, none⟩).run F.P w = .ok (.value v) w')
    (h : WL F ops rest k env w') : WL F ops (⟨none, op, ty, pos, aft, none⟩ :: rest) k env w := fun T hT => by
  refine wpList_plain rfl fun K hK => ?_
  show Oper.upon _ _ _ _ _ _
  rw [hrun _ hT.evR]
  exact hK _ _ (h _ hT)

/-- append where there is room: in its place (elements of one cell). -/
theorem WL_appendIn {t e : TypeId} {bts : Nat} {z : List Value} {x y : Operand} {i g off n m cap : Nat} {cs : Array Value} {sv : Value} {ys : List Value} (hd : Nat.blt d F.n = true) (hH : H w h Ls) (hx : ev env x = some (.slice (some ⟨g, off, none⟩) n cap)) (hy : ev env y = some sv)
    (ht : SlT F.P t e 1 bts z) (hi : Ls[i]? = some [(g, .cells cs e (0, 0))]) (hsl : Sl sv m) (hyl : ys.length = m) (hys : ∀ j u, ys[j]? = some u → w.cell? ((slA sv).add j) = some u) (h1 : ∀ u ∈ ys, u.oneCell' = true) (hroom : n + m ≤ cap) (hfit : off + cap ≤ cs.size)
    (hk : ∀ w', H w' h (Ls.set i [(g, .cells (cs.toList.take (off + n) ++ ys ++ cs.toList.drop (off + n + ys.length)).toArray e (0, 0))]) → WL F ops rest k ((d, .slice (some ⟨g, off, none⟩) (n + m) cap) :: env) w') :
    WL F ops (⟨some d, .call { callee := .builtin .append, args := #[x, y], argTypes := #[t, t] }, ty, pos, aft, none⟩ :: rest) k env w := by
  obtain ⟨inf, zv, he, hz, hsz, hby, hzc, hzl⟩ := ht.inf
  have hu := ht.und
  have hg := hH.mem hi (p := (g, .cells cs e (0, 0))) (by simp)
  simp only at hg
  rcases Nat.eq_zero_or_pos m with hm | hm
  · subst hm
    have hy0 : ys = [] := List.eq_nil_of_length_eq_zero hyl
    subst hy0
    have e1 : (cs.toList.take (off + n) ++ [] ++ cs.toList.drop (off + n + ([] : List Value).length)).toArray = cs := by simp
    rw [e1] at hk
    have e2 : Ls.set i [(g, .cells cs e (0, 0))] = Ls := by
      apply List.ext_getElem?
      intro j
      rw [List.getElem?_set]
      split
      · rename_i hij; subst hij; split <;> simp_all
      · rfl
    rw [e2] at hk
    refine WL_val hd (fun ρ hρ => ?_) (hk w hH)
    obtain ⟨A, c, rfl, _⟩ := hsl.form
    have hroom' : n ≤ cap := by omega
    cases A <;> simp [execOp, resolve, invoke, builtin, hρ.1 x _ hx, hρ.1 y _ hy, Builtin.append_, run_underlying hu, sizeOf, typeInfo, he, Builtin.lenOf, Builtin.firstCells, loadCells, loadCellsFrom, hroom', storeCells]
  obtain ⟨c, hsv, _, _⟩ := hsl.some hm
  have hyl' : ys.length = m * inf.size := by rw [hsz, Nat.mul_one]; exact hyl
  have hf := run_firstCells_some (P := F.P) w inf.size m (slA sv) m c ys hyl' hys
  rw [hsz] at hf
  have hst := run_storeCells_at F.P g (off + n * 1) e ys 0 cs w hg (by rw [Nat.mul_one, Nat.add_zero]; omega) h1
  simp only [Nat.add_zero, Nat.mul_one] at hst
  generalize hcs' : (cs.toList.take (off + n) ++ ys ++ cs.toList.drop (off + n + ys.length)).toArray = cs' at hst hk
  refine WL_val hd (fun ρ hρ => ?_) (hk (w.setRow g cs') (hH.act (w' := w.setRow g cs') hi rfl rfl rfl (by simp) (fun k hk hne => setRow_other w g k cs' (fun he => hne (g, .cells cs e (0, 0)) (by simp) he.symm)) (fun p hp => ?_) (by simp) (fun p hp => .inl ⟨(g, .cells cs e (0, 0)), by simp, ?_⟩)))
  · have hy' := hρ.1 y _ hy
    rw [hsv] at hy'
    simp [execOp, resolve, invoke, builtin, hρ.1 x _ hx, hy', Builtin.append_, run_underlying hu, sizeOf, typeInfo, he, Builtin.lenOf, hroom, hf, Addr.add_lit, hsz, hst]
  · simp only [List.mem_singleton] at hp
    subst hp
    exact setRow_heap w g cs cs' e (0, 0) hg
  · simp only [List.mem_singleton] at hp
    subst hp; rfl

/-- clear of a part of one's own block (elements of one cell). -/
theorem WL_clear {t e : TypeId} {bts : Nat} {z0 : Value} {x : Operand} {i g off n cap : Nat} {cs : Array Value} (hH : H w h Ls) (hx : ev env x = some (.slice (some ⟨g, off, none⟩) n cap))
    (ht : SlT F.P t e 1 bts [z0]) (h0 : ∀ W, (zeroValue e).run F.P W = .ok z0 W) (hzc : z0.cells = #[z0]) (hz1 : z0.oneCell' = true) (hi : Ls[i]? = some [(g, .cells cs e (0, 0))]) (hn : 0 < n) (hfit : off + n ≤ cs.size)
    (hk : ∀ w', H w' h (Ls.set i [(g, .cells (cs.toList.take off ++ List.replicate n z0 ++ cs.toList.drop (off + n)).toArray e (0, 0))]) → WL F ops rest k env w') :
    WL F ops (⟨none, .call { callee := .builtin .clear, args := #[x], argTypes := #[t] }, ty, pos, aft, none⟩ :: rest) k env w := by
  have hu := ht.und
  have hg := hH.mem hi (p := (g, .cells cs e (0, 0))) (by simp)
  simp only at hg
  have hzs : (Builtin.zeroCells z0.cells n).toList = List.replicate n z0 := by
    rw [hzc]
    simp [Builtin.zeroCells]
    apply List.ext_getElem
    · simp
    · intro i h1 h2
      simp [Nat.mod_one]
  have hst := run_storeCells_at F.P g off e (List.replicate n z0) 0 cs w hg (by rw [List.length_replicate, Nat.add_zero]; exact hfit) (fun u hu => by rw [List.eq_of_mem_replicate hu]; exact hz1)
  simp only [Nat.add_zero, List.length_replicate] at hst
  generalize hcs' : (cs.toList.take off ++ List.replicate n z0 ++ cs.toList.drop (off + n)).toArray = cs' at hst hk
  refine WL_unitV (v := .tuple #[]) (fun ρ hρ => ?_) (hk (w.setRow g cs') (hH.act (w' := w.setRow g cs') hi rfl rfl rfl (by simp) (fun k hk hne => setRow_other w g k cs' (fun he => hne (g, .cells cs e (0, 0)) (by simp) he.symm)) (fun p hp => ?_) (by simp) (fun p hp => .inl ⟨(g, .cells cs e (0, 0)), by simp, ?_⟩)))
  · obtain ⟨q, rfl⟩ : ∃ q, n = q + 1 := ⟨n - 1, by omega⟩
    simp [execOp, resolve, invoke, builtin, hρ.1 x _ hx, Builtin.clear_, run_underlying hu, h0, hzs, hst]
  · simp only [List.mem_singleton] at hp
    subst hp
    exact setRow_heap w g cs cs' e (0, 0) hg
  · simp only [List.mem_singleton] at hp
    subst hp; rfl
end
end Go.Proofs.Ytafljegjdanldaa
