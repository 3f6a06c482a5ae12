/- Arguments that come in, opened. No program is named here. -/
import Derived.Test.YtolmmncjeebghaaSlD
import Derived.ProofKit
import Derived.OpenShut
import Derived.ChangeOld
import Derived.Deep.Slices
import Derived.Deep.Fields
import Derived.ChangeSame
namespace Go.Proofs.Ytolmmncjeebghaa
open Go.ChangeShapes Go.WideShapes Go.ChangeAt Go.RowKit Go.Deep

theorem full_of_cell {w : World} {a : Addr} {u : Value} (h : w.cell? a = some u) : a.spot = none ∧ ∃ cs e fz, (GH.full w).blk a.block = some (.cells cs e fz) ∧ cs[a.off]? = some u := by
  unfold World.cell? at h
  split at h
  · rename_i c e fz hg
    split at h
    · cases h
    · rename_i hs
      exact ⟨by simpa using hs, c, e, fz, hg, h⟩
  · cases h

/-- A row of cells that is there reads so in all that is there. -/
theorem rd_full {w : World} {a : Addr} {n c : Nat} {xs : List Value} (h : ∀ j u, xs[j]? = some u → w.cell? (a.add j) = some u) (h0 : a.spot = none) : Rd (GH.full w) (.slice (some a) n c) xs := fun j u hj => by
  have h1 := h j u hj
  rw [add_of h0] at h1
  obtain ⟨_, cs, e, fz, h2, h3⟩ := full_of_cell h1
  exact ⟨h0, cs, e, fz, h2, h3⟩

theorem spot_of {w : World} {a : Addr} {j : Nat} {u : Value} (h : w.cell? (a.add j) = some u) (hj : j = 0) : a.spot = none := by
  subst hj
  have : a.add 0 = a := by simp [Addr.add]
  rw [this] at h
  exact (full_of_cell h).1

section
variable {H0 : Type} {enc : TypeId × Value → H0} {P : Program} {W : World} {base : Nat}

theorem getD_take {zs : List Int} {len j : Nat} {k : IntKind} {u : Value} (h : ((zs.take len).map (Value.int k))[j]? = some u) : j < len ∧ j < zs.length ∧ u = .int k (zs.getD j 0) := by
  rw [List.getElem?_map] at h
  cases hz : (zs.take len)[j]? with
  | none => rw [hz] at h; cases h
  | some y =>
    rw [hz] at h
    have h1 := (List.getElem?_eq_some_iff.1 hz).1
    rw [List.length_take] at h1
    have h2 : j < len := by omega
    rw [List.getElem?_take_of_lt h2] at hz
    simp only [Option.map_some, Option.some.injEq] at h
    exact ⟨h2, by omega, by rw [← h]; simp [List.getD_eq_getElem?_getD, hz]⟩

/-- A slice of integers that came in. -/
theorem open_num {k : IntKind} {t e : TypeId} {fuel : Nat} {v : Value} {x : DataW H0 × List MemPlace} (ht : P.underlying t = some (.slice e)) (he : P.underlying e = some (.int k)) (hc : P.cellsOf e = 1)
    (h : DataW.trod enc P W 0 (fun _ => true) true fuel t [v] = some x) : ∃ zs : List Int, Sl v zs.length ∧ Rd (GH.full W) v (zs.map (Value.int k)) ∧ ∀ n ∈ zs, (Lit.int k n).wf = true := by
  rcases open_ints ht he hc h with ⟨hcs, _⟩ | ⟨a, len, cap, zs, hcs, _, hl, hm, hz, _, hcell, hwz⟩
  · simp only [List.cons.injEq, and_true] at hcs
    subst hcs
    exact ⟨[], ⟨by simp, none, 0, rfl, by simp, by simp, by simp⟩, fun j u hj => by simp at hj, by simp⟩
  · simp only [List.cons.injEq, and_true] at hcs
    subst hcs
    simp only [if_true] at hz
    have hlen : (zs.take len).length = len := by simp; omega
    have hm' : cap ≤ 9223372036854775807 := by unfold maxLen at hm; omega
    have hsp : 0 < cap → a.spot = none := fun h0 => spot_of (hcell 0 (by omega)) rfl
    refine ⟨zs.take len, ⟨by omega, some a, cap, by rw [hlen], by omega, fun _ => rfl, fun h0 b hb => by cases hb; exact hsp (by omega)⟩, fun j u hj => ?_, fun n hn => hwz n (List.mem_of_mem_take hn)⟩
    obtain ⟨h1, h2, rfl⟩ := getD_take hj
    exact rd_full (n := len) (c := cap) (xs := zs.map (Value.int k)) (fun j u hj => by
      rw [List.getElem?_map] at hj
      cases hzj : zs[j]? with
      | none => rw [hzj] at hj; cases hj
      | some y =>
        rw [hzj] at hj
        simp only [Option.map_some, Option.some.injEq] at hj
        rw [hcell j (List.getElem?_eq_some_iff.1 hzj).1, ← hj]
        simp [List.getD_eq_getElem?_getD, hzj]) (hsp (by omega)) j _ (by simp [List.getD_eq_getElem?_getD, List.getElem?_eq_getElem h2])

theorem open_bytes {t e : TypeId} {v : Value} {d : DataW H0} {p : List MemPlace} (ht : P.underlying t = some (.slice e)) (he : P.underlying e = some (.int .u8)) (hc : P.cellsOf e = 1)
    (hv : v.cells = #[v]) (h : DataW.Trod enc P W 0 (fun _ => true) true t v d p) : ∃ bs, Bytes (GH.full W) v bs := by
  obtain ⟨fuel, hf⟩ := h
  rw [hv] at hf
  obtain ⟨zs, h1, h2, h3⟩ := open_num ht he hc hf
  refine ⟨zs, h1, h2, fun b hb => ?_⟩
  have := h3 b hb
  simp [Lit.wf, IntKind.min, IntKind.max, IntKind.signed, IntKind.bits] at this
  omega
theorem open_slint {t e : TypeId} {v : Value} {d : DataW H0} {p : List MemPlace} (ht : P.underlying t = some (.slice e)) (he : P.underlying e = some (.int .i64)) (hc : P.cellsOf e = 1)
    (hv : v.cells = #[v]) (h : DataW.Trod enc P W 0 (fun _ => true) true t v d p) : ∃ zs, Ints (GH.full W) v zs := by
  obtain ⟨fuel, hf⟩ := h
  rw [hv] at hf
  obtain ⟨zs, h1, h2, _⟩ := open_num ht he hc hf
  exact ⟨zs, h1, h2⟩
end
end Go.Proofs.Ytolmmncjeebghaa
