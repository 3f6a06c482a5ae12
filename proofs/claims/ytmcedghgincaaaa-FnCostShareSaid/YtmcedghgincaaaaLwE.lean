/- The laws on drawn plans: what they cost, until when rows are needed, how many are kept. -/
import Derived.Test.YtmcedghgincaaaaWkO
import Derived.Test.YtmcedghgincaaaaWkP
import Derived.Test.YtmcedghgincaaaaWkI
import Derived.Test.YtmcedghgincaaaaPlF
namespace Go.Proofs.Ytmcedghgincaaaa
open Go.RowKit

section
variable {h : GH} {Ls : List Heaplet} {w : World}

theorem valid_of {p : List Nd} {a : Int} (h : ¬ (if planOk p = true then a else -1) < 0) : planOk p = true := by
  cases hp : planOk p with
  | true => rfl
  | false => rw [hp] at h; exact absurd (by simp) h
theorem valid_of_len {p : List Nd} (h : ¬ ((if planOk p = true then endsTo p p.length else []).length : Int) = 0) : planOk p = true ∧ 0 < p.length := by
  cases hp : planOk p with
  | true =>
    rw [hp, if_pos rfl, endsTo_len] at h
    exact ⟨rfl, by omega⟩
  | false => rw [hp] at h; exact absurd rfl h

theorem reslice_plan {pv : Value} {p : List Nd} (hP : Plan h pv p) {k : Nat} (hk : k ≤ p.length) : Plan h (reslice pv 0 k 3) (p.take k) := by
  have hs := reslice_sl (sz := 3) hP.sl (Nat.zero_le k) hk
  refine ⟨by rw [List.length_take, Nat.min_eq_left hk]; simpa using hs, fun i hi => ?_⟩
  have hik : i < k := by rw [List.length_take] at hi; omega
  obtain ⟨f, r, h1, h2, h3⟩ := hP.at_ i (by omega)
  rw [List.getElem_take]
  refine ⟨f, r, h1, h2, fun j u hj => ?_⟩
  obtain ⟨g1, cs, e, fz, g2, g3⟩ := h3 j u hj
  obtain ⟨a1, a2, a3⟩ := reslice_at (sz := 3) hP.sl (show 0 < k by omega) hk
  refine ⟨a2, cs, e, fz, by rw [a1]; exact g2, ?_⟩
  rw [a3, ← g3]
  congr 1

end
end Go.Proofs.Ytmcedghgincaaaa
