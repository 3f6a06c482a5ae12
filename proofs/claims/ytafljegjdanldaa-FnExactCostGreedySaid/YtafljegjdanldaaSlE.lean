/- Arguments that come in, opened. No program is named here. -/
import Derived.Test.YtafljegjdanldaaSlD
import Derived.ProofKit
import Derived.OpenShut
import Derived.ChangeOld
import Derived.Deep.Slices
import Derived.Deep.Fields
import Derived.ChangeSame
namespace Go.Proofs.Ytafljegjdanldaa
open Go.ChangeShapes Go.WideShapes Go.ChangeAt Go.RowKit Go.Deep

theorem full_of_cell {w : World} {a : Addr} {u : Value} (h : w.cell? a = some u) : a.spot = none ∧ ∃ cs e fz, (GH.full w).blk a.block = some (.cells cs e fz) ∧ cs[a.off]? = some u := by
  unfold World.cell? at h
  split at h
  · rename_i c e fz hg
    split at h
    · cases h
    · rename_i hs
      exact ⟨by simpa using hs, c, e, fz, hg, h⟩
  · cases h

/-- A row of cells that is there reads so in all that is there. -/
theorem rd_full {w : World} {a : Addr} {n c : Nat} {xs : List Value} (h : ∀ j u, xs[j]? = some u → w.cell? (a.add j) = some u) (h0 : a.spot = none) : Rd (GH.full w) (.slice (some a) n c) xs := fun j u hj => by
  have h1 := h j u hj
  rw [add_of h0] at h1
  obtain ⟨_, cs, e, fz, h2, h3⟩ := full_of_cell h1
  exact ⟨h0, cs, e, fz, h2, h3⟩

theorem spot_of {w : World} {a : Addr} {j : Nat} {u : Value} (h : w.cell? (a.add j) = some u) (hj : j = 0) : a.spot = none := by
  subst hj
  have : a.add 0 = a := by simp [Addr.add]
  rw [this] at h
  exact (full_of_cell h).1

section
variable {H0 : Type} {enc : TypeId × Value → H0} {P : Program} {W : World} {base : Nat}

theorem getD_take {zs : List Int} {len j : Nat} {k : IntKind} {u : Value} (h : ((zs.take len).map (Value.int k))[j]? = some u) : j < len ∧ j < zs.length ∧ u = .int k (zs.getD j 0) := by
  rw [List.getElem?_map] at h
  cases hz : (zs.take len)[j]? with
  | none => rw [hz] at h; cases h
  | some y =>
    rw [hz] at h
    have h1 := (List.getElem?_eq_some_iff.1 hz).1
    rw [List.length_take] at h1
    have h2 : j < len := by omega
    rw [List.getElem?_take_of_lt h2] at hz
    simp only [Option.map_some, Option.some.injEq] at h
    exact ⟨h2, by omega, by rw [← h]; simp [List.getD_eq_getElem?_getD, hz]⟩

/-- A slice of integers that came in. -/
theorem open_num {k : IntKind} {t e : TypeId} {fuel : Nat} {v : Value} {x : DataW H0 × List MemPlace} (ht : P.underlying t = some (.slice e)) (he : P.underlying e = some (.int k)) (hc : P.cellsOf e = 1)
    (h : DataW.trod enc P W 0 (fun _ => true) true fuel t [v] = some x) : ∃ zs : List Int, Sl v zs.length ∧ Rd (GH.full W) v (zs.map (Value.int k)) ∧ ∀ n ∈ zs, (Lit.int k n).wf = true := by
  rcases open_ints ht he hc h with ⟨hcs, _⟩ | ⟨a, len, cap, zs, hcs, _, hl, hm, hz, _, hcell, hwz⟩
  · simp only [List.cons.injEq, and_true] at hcs
    subst hcs
    exact ⟨[], ⟨by simp, none, 0, rfl, by simp, by simp, by simp⟩, fun j u hj => by simp at hj, by simp⟩
  · simp only [List.cons.injEq, and_true] at hcs
    subst hcs
    simp only [if_true] at hz
    have hlen : (zs.take len).length = len := by simp; omega
    have hm' : cap ≤ 9223372036854775807 := by unfold maxLen at hm; omega
    have hsp : 0 < cap → a.spot = none := fun h0 => spot_of (hcell 0 (by omega)) rfl
    refine ⟨zs.take len, ⟨by omega, some a, cap, by rw [hlen], by omega, fun _ => rfl, fun h0 b hb => by cases hb; exact hsp (by omega)⟩, fun j u hj => ?_, fun n hn => hwz n (List.mem_of_mem_take hn)⟩
    obtain ⟨h1, h2, rfl⟩ := getD_take hj
    exact rd_full (n := len) (c := cap) (xs := zs.map (Value.int k)) (fun j u hj => by
      rw [List.getElem?_map] at hj
      cases hzj : zs[j]? with
      | none => rw [hzj] at hj; cases hj
      | some y =>
        rw [hzj] at hj
        simp only [Option.map_some, Option.some.injEq] at hj
        rw [hcell j (List.getElem?_eq_some_iff.1 hzj).1, ← hj]
        simp [List.getD_eq_getElem?_getD, hzj]) (hsp (by omega)) j _ (by simp [List.getD_eq_getElem?_getD, List.getElem?_eq_getElem h2])

theorem open_bytes {t e : TypeId} {v : Value} {d : DataW H0} {p : List MemPlace} (ht : P.underlying t = some (.slice e)) (he : P.underlying e = some (.int .u8)) (hc : P.cellsOf e = 1)
    (hv : v.cells = #[v]) (h : DataW.Trod enc P W 0 (fun _ => true) true t v d p) : ∃ bs, Bytes (GH.full W) v bs := by
  obtain ⟨fuel, hf⟩ := h
  rw [hv] at hf
  obtain ⟨zs, h1, h2, h3⟩ := open_num ht he hc hf
  refine ⟨zs, h1, h2, fun b hb => ?_⟩
  have := h3 b hb
  simp [Lit.wf, IntKind.min, IntKind.max, IntKind.signed, IntKind.bits] at this
  omega
theorem open_slint {t e : TypeId} {v : Value} {d : DataW H0} {p : List MemPlace} (ht : P.underlying t = some (.slice e)) (he : P.underlying e = some (.int .i64)) (hc : P.cellsOf e = 1)
    (hv : v.cells = #[v]) (h : DataW.Trod enc P W 0 (fun _ => true) true t v d p) : ∃ zs, Ints (GH.full W) v zs := by
  obtain ⟨fuel, hf⟩ := h
  rw [hv] at hf
  obtain ⟨zs, h1, h2, _⟩ := open_num ht he hc hf
  exact ⟨zs, h1, h2⟩
/-- A slice of structs of a number and two slices of numbers that came in: a plan. -/
theorem open_plan {t e tI : TypeId} {f0 f1 f2 : Field} {v : Value} {d : DataW H0} {p : List MemPlace} (ht : P.underlying t = some (.slice e)) (he : P.underlying e = some (.struct #[f0, f1, f2])) (hone : oneCellFields P #[f0, f1, f2] = true) (hC : P.cellsOf e = 3)
    (h0 : P.underlying f0.type = some (.int .i64)) (h1 : P.underlying f1.type = some (.slice tI)) (h2 : P.underlying f2.type = some (.slice tI)) (hI : P.underlying tI = some (.int .i64)) (hc : P.cellsOf tI = 1)
    (hv : v.cells = #[v]) (h : DataW.Trod enc P W 0 (fun _ => true) true t v d p) : ∃ ns, Plan (GH.full W) v ns := by
  obtain ⟨fuel, hf⟩ := h
  rw [hv] at hf
  rcases open_slice ht hf with ⟨hcs, _⟩ | ⟨a, len, cap, m, n, D, Pl, hcs, _, hl, hm, hmm, _, hi⟩
  · simp only [List.cons.injEq, and_true] at hcs
    subst hcs
    exact ⟨[], ⟨by simp, none, 0, rfl, by simp, by simp, by simp⟩, fun i hi => by simp at hi⟩
  · simp only [List.cons.injEq, and_true] at hcs
    subst hcs
    simp only [if_true] at hmm
    subst hmm
    rw [hC] at hi
    have hm' : m ≤ 9223372036854775807 := by unfold maxLen at hm; omega
    have key : ∀ i, i < m → ∃ (x : Nd) (f r : Value), Ints (GH.full W) f x.frm ∧ Ints (GH.full W) r x.row ∧ ∀ j u, [Value.int .i64 x.kind, f, r][j]? = some u → W.cell? (a.add (i * 3 + j)) = some u := fun i him => by
      obtain ⟨cs', hcell, htr⟩ := hi i him
      obtain ⟨_, hlen, hat⟩ := World.cells?_some hcell
      obtain ⟨ys, n', _, _, _, hyl, hfd⟩ := DataW.trod_struct he htr
      match cs', hlen with
      | [c0, c1, c2], _ =>
        match ys, hyl with
        | [y0, y1, y2], _ =>
          obtain ⟨o0, k0⟩ := hone_of hone 0 f0 rfl
          obtain ⟨o1, k1⟩ := hone_of hone 1 f1 rfl
          obtain ⟨o2, k2⟩ := hone_of hone 2 f2 rfl
          have g0 := hfd 0 f0 rfl
          have g1 := hfd 1 f1 rfl
          have g2 := hfd 2 f2 rfl
          rw [o0, k0] at g0
          rw [o1, k1] at g1
          rw [o2, k2] at g2
          obtain ⟨kk, hk, _⟩ := DataW.trod_int h0 g0
          obtain ⟨fs, hf1, hf2, _⟩ := open_num (v := c1) h1 hI hc g1
          obtain ⟨rs, hr1, hr2, _⟩ := open_num (v := c2) h2 hI hc g2
          have hk' : c0 = .int .i64 kk := by simpa using hk
          refine ⟨⟨kk, fs, rs⟩, c1, c2, ⟨hf1, hf2⟩, ⟨hr1, hr2⟩, fun j u hj => ?_⟩
          have hj3 : j < 3 := (List.getElem?_eq_some_iff.1 hj).1
          rw [← add_add, hat j hj3, hk']
          exact hj
    have hg : ∃ g : Nat → Nd, ∀ i, i < m → ∃ (f r : Value), Ints (GH.full W) f (g i).frm ∧ Ints (GH.full W) r (g i).row ∧ ∀ j u, [Value.int .i64 (g i).kind, f, r][j]? = some u → W.cell? (a.add (i * 3 + j)) = some u :=
      ⟨fun i => if him : i < m then Classical.choose (key i him) else ⟨0, [], []⟩, fun i him => by simp only [dif_pos him]; exact Classical.choose_spec (key i him)⟩
    obtain ⟨g, hg⟩ := hg
    have hsp : 0 < m → a.spot = none := fun h0 => by
      obtain ⟨_, _, _, _, h3⟩ := hg 0 h0
      exact spot_of (h3 0 _ rfl) rfl
    refine ⟨(List.range len).map g, ⟨by simp; omega, some a, m, by simp, by simpa using hl, fun _ => rfl, fun h0 b hb => by cases hb; exact hsp (by simp at h0; omega)⟩, fun i hil => ?_⟩
    have hil' : i < len := by simpa using hil
    obtain ⟨f, r, h3, h4, h5⟩ := hg i (by omega)
    have hgi : ((List.range len).map g)[i] = g i := by simp
    rw [hgi]
    refine ⟨f, r, h3, h4, fun j u hj => ?_⟩
    have h6 := h5 j u hj
    have h7 := hsp (by omega)
    rw [add_of h7] at h6
    obtain ⟨_, cs, e', fz, h8, h9⟩ := full_of_cell h6
    exact ⟨h7, cs, e', fz, h8, h9⟩
end
end Go.Proofs.Ytafljegjdanldaa
