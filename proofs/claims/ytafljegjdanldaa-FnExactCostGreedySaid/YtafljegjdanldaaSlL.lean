/- Rules: room is made in a list that is nil. -/
import Derived.Test.YtafljegjdanldaaSlJ
import Derived.Lib.AppendZeros
namespace Go.Proofs.Ytafljegjdanldaa
open Go.RowKit

theorem ov_cap0 {P : Program} {env : Env} {w : World} {ty t e : TypeId} {sz bts : Nat} {z : List Value} {x : Operand} (hx : ev env x = some (.slice none 0 0)) (ht : SlT P t e sz bts z) : OpV P env w (.call { callee := .builtin .cap, args := #[x], argTypes := #[t] }) ty (.int .i64 0) :=
  fun _ _ _ ρ hρ => by simp [execOp, resolve, invoke, builtin, Builtin.cap_, run_underlying ht.und, hρ.1 x _ hx, goInt]

section
variable {F : Fx} {env : Env} {w : World} {k : Kon} {ops : Array Oper} {rest : List Oper} {d : Nat} {ty : TypeId} {pos : String} {aft : Array Edge} {h : GH} {Ls : List Heaplet}
theorem WL_growNil {t tn e : TypeId} {bts n : Nat} {x y : Operand} {kx kn : IntKind} (hd : Nat.blt d F.n = true) (hH : H w h Ls) (hx : ev env x = some (.slice none 0 0)) (hy : ev env y = some (.int kx (n : Int))) (ht : SlT F.P t e 1 bts [.int .i64 0]) (htn : F.P.underlying tn = some (.int kn))
    (h0 : 0 < n) (hb : n * bts ≤ 281474976710656) (h63 : n ≤ 9223372036854775807)
    (hk : ∀ X v w', IRow X e v (List.replicate n 0) → H w' h (X :: Ls) → WL F ops rest k ((d, v) :: env) w') :
    WL F ops (⟨some d, .call { callee := .builtin .append, args := #[x, y], argTypes := #[t, tn] }, ty, pos, aft, none⟩ :: rest) k env w := by
  obtain ⟨i, zv, he, hz, hsz, hby, hzc, hzl⟩ := ht.inf
  have hr := Go.Lib.run_append_nil_zeros (P := F.P) w t tn ty e i zv kx kn ht.und htn he hz n h0 (by omega) (by omega) (by rw [hby]; exact hb)
  have hge := grownCap_ge w n 0 e
  refine WL_val (v := .slice (some ⟨w.heap.size, 0, none⟩) n (grownCap w n 0 e)) (w' := w.drew.alloc (.cells (Builtin.zeroCells zv.cells n ++ Builtin.zeroCells zv.cells (grownCap w n 0 e - n)) e)) hd (fun ρ hρ => by simp [execOp, resolve, invoke, builtin, hρ.1 x _ hx, hρ.1 y _ hy, hr]) (hk [(w.heap.size, .cells (Builtin.zeroCells zv.cells n ++ Builtin.zeroCells zv.cells (grownCap w n 0 e - n)) e (0, 0))] _ _ ?_ ?_)
  · refine ⟨by simp, by simpa using h63, .inr ⟨w.heap.size, 0, grownCap w n 0 e, _, rfl, by simp, by simpa using hge, ?_, fun j u hj => ?_⟩⟩
    · simp [size_zeroCells, hzc]
      omega
    · have hjn : j < n := by simpa using (List.getElem?_eq_some_iff.1 hj).1
      rw [Nat.zero_add, Array.getElem?_append_left (by rw [size_zeroCells, hzc]; simpa using hjn)]
      have hu : u = .int .i64 0 := by
        have := List.mem_of_getElem? hj
        simp at this
        exact this.2
      subst hu
      rw [hzc]
      simp [Builtin.zeroCells, hjn, Nat.mod_one]
  · exact (hH.drew _).new _
end
end Go.Proofs.Ytafljegjdanldaa
