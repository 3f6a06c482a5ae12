/- Walks: sharing. -/
import Derived.Test.YtmcedghgincaaaaSlK
import Derived.Test.YtmcedghgincaaaaWkHH
namespace Go.Proofs.Ytmcedghgincaaaa
open Go.RowKit

/-- A type of whole numbers alone, to some depth. -/
def intsB (P : Program) : Nat → TypeId → Bool
  | 0, _ => false
  | d + 1, t =>
    match P.underlying t with
    | some (.int q) => q == .i64 && P.cellsOf t == 1
    | some (.array n e) => P.cellsOf t == n * P.cellsOf e && intsB P d e
    | some (.struct fs) => fs.all fun f => f.name != "_" && decide (f.offset + P.cellsOf f.type ≤ P.cellsOf t) && intsB P d f.type
    | _ => false
theorem mapM_some {α β : Type} {f : α → Option β} : ∀ {l : List α}, (∀ x ∈ l, ∃ y, f x = some y) → ∃ ys, l.mapM f = some ys
  | [], _ => ⟨[], rfl⟩
  | x :: r, h => by
    obtain ⟨y, hy⟩ := h x (by simp)
    obtain ⟨ys, hys⟩ := mapM_some (l := r) fun z hz => h z (by simp [hz])
    exact ⟨y :: ys, by simp [List.mapM_cons, hy, hys]⟩
theorem keyLits_ints {P : Program} : ∀ (d : Nat) (t : TypeId) (cs : List Value), intsB P d t = true → cs.length = P.cellsOf t → (∀ c ∈ cs, ∃ n, c = .int .i64 n ∧ (Lit.int .i64 n).wf = true) → ∃ ls, P.keyLits d t cs = some ls
  | 0, _, _, h, _, _ => by simp [intsB] at h
  | d + 1, t, cs, h, hl, hc => by
    unfold intsB at h
    unfold Program.keyLits
    cases hu : P.underlying t with
    | none => rw [hu] at h; simp at h
    | some td =>
      rw [hu] at h
      cases td with
      | int q =>
        simp only [Bool.and_eq_true, beq_iff_eq] at h
        obtain ⟨rfl, h1⟩ := h
        obtain ⟨c, rfl⟩ : ∃ c, cs = [c] := List.length_eq_one_iff.1 (by omega)
        obtain ⟨n, rfl, hw⟩ := hc c (by simp)
        exact ⟨_, if_pos ⟨rfl, hw⟩⟩
      | array n e =>
        simp only [Bool.and_eq_true, beq_iff_eq] at h
        obtain ⟨h1, h2⟩ := h
        obtain ⟨ys, hys⟩ := mapM_some (f := fun i => P.keyLits d e ((cs.drop (i * P.cellsOf e)).take (P.cellsOf e))) (l := List.range n) fun i hi => by
          have hi' := List.mem_range.1 hi
          have h3 : (i + 1) * P.cellsOf e ≤ n * P.cellsOf e := Nat.mul_le_mul_right _ hi'
          rw [Nat.succ_mul] at h3
          exact keyLits_ints d e _ h2 (by rw [List.length_take, List.length_drop]; omega) fun c hcm => hc c (List.mem_of_mem_drop (List.mem_of_mem_take hcm))
        exact ⟨_, by simp only [if_pos hl, hys]; rfl⟩
      | struct fs =>
        simp only [Array.all_eq_true_iff_forall_mem, Bool.and_eq_true, decide_eq_true_eq] at h
        obtain ⟨ys, hys⟩ := mapM_some (f := fun (f : _) => P.keyLits d f.type ((cs.drop f.offset).take (P.cellsOf f.type))) (l := fs.toList) fun f hf => by
          obtain ⟨⟨_, h3⟩, h4⟩ := h f (by simpa using hf)
          exact keyLits_ints d f.type _ h4 (by rw [List.length_take, List.length_drop]; omega) fun c hcm => hc c (List.mem_of_mem_drop (List.mem_of_mem_take hcm))
        have hn : fs.all (·.name != "_") = true := by
          rw [Array.all_eq_true_iff_forall_mem]
          exact fun f hf => (h f hf).1.1
        exact ⟨_, by simp only [if_pos (And.intro hl hn), hys]; rfl⟩
      | _ => simp at h

/-- What the keys of the map are. -/
def shG (v : Value) : Prop := ∃ l, keyOf Try.prog 115 v = some l
theorem shLaid : laidOutB Try.prog = true := by kernel_rfl
theorem shKT : Try.prog.keyType 115 = true := by kernel_rfl
theorem shK : MLaw Try.prog 115 shG := MLaw.deep (deep_law_gate shLaid (Nat.le_of_ble_eq_true (by kernel_rfl)) (Nat.le_of_ble_eq_true (by kernel_rfl)) shKT (by kernel_rfl))
theorem i64_wf {n : Int} (h : -9223372036854775808 ≤ n ∧ n ≤ 9223372036854775807) : (Lit.int .i64 n).wf = true := by
  simp [Lit.wf, IntKind.min, IntKind.max, IntKind.signed, IntKind.bits]; omega
theorem shInts : intsB Try.prog (Try.prog.types.size + 1) 115 = true := by kernel_rfl
theorem shCells : Try.prog.cellsOf 115 = 10 := by kernel_rfl
theorem shStruct : (match Try.prog.underlying 115 with | some (.struct _) => true | _ => false) = true := by kernel_rfl
theorem keyOf_struct {P : Program} {k : TypeId} {cs : Array Value} (hs : (match P.underlying k with | some (.struct _) => true | _ => false) = true) (hk : P.keyType k = true) (hf : cs.size = P.cellsOf k) {ls : List Lit} (hls : P.keyLits (P.types.size + 1) k cs.toList = some ls) : ∃ l, keyOf P k (.agg cs) = some l := by
  cases hu : P.underlying k with
  | none => rw [hu] at hs; simp at hs
  | some td =>
    cases td with
    | struct fs =>
      have h1 : (Value.agg cs).formed P k = true := by simp [Value.formed, hu, hf]
      refine ⟨.string (keyBytes ls), ?_⟩
      simp only [keyOf, hu, hk, h1, Bool.and_self, if_true, Value.cells, hls]
      rfl
    | _ => rw [hu] at hs; simp at hs
/-- Ten whole numbers are a key. -/
theorem sh_key {l : List Int} (hl : l.length = 10) (h : ∀ n ∈ l, -9223372036854775808 ≤ n ∧ n ≤ 9223372036854775807) : shG (.agg (l.map (Value.int .i64)).toArray) := by
  obtain ⟨ls, hls⟩ := keyLits_ints (P := Try.prog) (Try.prog.types.size + 1) 115 (l.map (Value.int .i64)) shInts (by rw [shCells]; simpa using hl) fun c hc => by
    obtain ⟨n, hn, rfl⟩ := List.mem_map.1 hc
    exact ⟨n, rfl, i64_wf (h n hn)⟩
  exact keyOf_struct shStruct shKT (by rw [shCells]; simpa using hl) (by simpa using hls)
end Go.Proofs.Ytmcedghgincaaaa
