/- Closed facts of this translation: types, callees. -/
import Derived.Test.YtolmmncjeebghaaSlD
import Derived.Test.YtolmmncjeebghaaProg
import Derived.KernelRfl
namespace Go.Proofs.Ytolmmncjeebghaa
open Go.RowKit

theorem SlT_of {P : Program} {t e : TypeId} {sz bts : Nat} {z : List Value} (zv : Value) (h1 : P.underlying t = some (.slice e)) (h2 : (P.info? e).map (fun i => (i.zero, i.size, i.bytes)) = some (some zv, sz, bts)) (h3 : zv.cells = z.toArray) (h4 : z.length = sz) : SlT P t e sz bts z := by
  refine ⟨h1, ?_⟩
  obtain ⟨i, hi, h5⟩ := Option.map_eq_some_iff.1 h2
  simp only [Prod.mk.injEq] at h5
  exact ⟨i, zv, hi, h5.1, h5.2.1, h5.2.2, h3, h4⟩
theorem SizeT_of {P : Program} {t : TypeId} {m : Nat} (h : (P.info? t).map (·.size) = some m) : SizeT P t m := by
  obtain ⟨i, hi, h5⟩ := Option.map_eq_some_iff.1 h
  exact ⟨i, hi, h5⟩
theorem OneT_of {P : Program} {t : TypeId} (h : (P.underlying t).map (fun u => match u with | .struct _ | .array _ _ => false | _ => true) = some true) : OneT P t := by
  obtain ⟨u, hu, h5⟩ := Option.map_eq_some_iff.1 h
  exact ⟨u, hu, by cases u <;> simp_all⟩
theorem AggT_of {P : Program} {t : TypeId} {m : Nat} (h : (P.underlying t).map (fun u => match u with | .struct _ | .array _ _ => true | _ => false) = some true) (h2 : (P.info? t).map (·.size) = some m) : AggT P t m := by
  obtain ⟨u, hu, h5⟩ := Option.map_eq_some_iff.1 h
  obtain ⟨i, hi, h6⟩ := Option.map_eq_some_iff.1 h2
  exact ⟨u, i, hu, hi, h6, by cases u <;> simp_all⟩
/-- Where a field lies, reckoned. -/
def fieldAtR (P : Program) (s : TypeId) (f : Nat) : Option (Bool × Nat) :=
  match P.underlying s with
  | some (.struct fs) => (fs[f]?).bind fun fd => (P.info? fd.type).map fun i => (i.size != 0, fd.offset)
  | _ => none
theorem FieldOff_of {P : Program} {s : TypeId} {f off : Nat} (h : fieldAtR P s f = some (true, off)) : FieldOff P s f off := by
  unfold fieldAtR at h
  split at h
  · rename_i fs hfs
    obtain ⟨fd, hfd, h2⟩ := Option.bind_eq_some_iff.1 h
    obtain ⟨i, hi, h3⟩ := Option.map_eq_some_iff.1 h2
    simp only [Prod.mk.injEq] at h3
    exact ⟨fs, fd, i, hfs, hfd, hi, by simpa using h3.1, h3.2⟩
  · cases h

theorem mixed : Try.prog.follows .mixedOrders = true := by kernel_rfl
theorem st_sl_int : SlT Try.prog 30 3 1 8 [.int .i64 0] := SlT_of (.int .i64 0) (by kernel_rfl) (by kernel_rfl) rfl rfl
theorem st_sl_uint8 : SlT Try.prog 24 5 1 1 [.int .u8 0] := SlT_of (.int .u8 0) (by kernel_rfl) (by kernel_rfl) rfl rfl
theorem st_sl_impl_Node : SlT Try.prog 27 32 3 56 [.int .i64 0, .slice none 0 0, .slice none 0 0] := SlT_of (.agg #[.int .i64 0, .slice none 0 0, .slice none 0 0]) (by kernel_rfl) (by kernel_rfl) rfl rfl
theorem zero_impl_Node (W : World) : (zeroValue 32).run Try.prog W = .ok (.agg #[.int .i64 0, .slice none 0 0, .slice none 0 0]) W := by kernel_rfl

theorem one_sl_int : OneT Try.prog 30 := OneT_of (by kernel_rfl)
theorem one_int : OneT Try.prog 3 := OneT_of (by kernel_rfl)
theorem one_bool : OneT Try.prog 4 := OneT_of (by kernel_rfl)
theorem one_uint8 : OneT Try.prog 5 := OneT_of (by kernel_rfl)
theorem one_sl_uint8 : OneT Try.prog 24 := OneT_of (by kernel_rfl)
theorem sz_impl_Node : SizeT Try.prog 32 3 := SizeT_of (by kernel_rfl)
theorem sz_int : SizeT Try.prog 3 1 := SizeT_of (by kernel_rfl)
theorem sz_bool : SizeT Try.prog 4 1 := SizeT_of (by kernel_rfl)
theorem sz_sl_int : SizeT Try.prog 30 1 := SizeT_of (by kernel_rfl)
theorem sz_uint8 : SizeT Try.prog 5 1 := SizeT_of (by kernel_rfl)
theorem agg_impl_Node : AggT Try.prog 32 3 := AggT_of (by kernel_rfl) (by kernel_rfl)
theorem fo_impl_Node_1 : FieldOff Try.prog 32 1 1 := FieldOff_of (by kernel_rfl)
theorem fo_spec_l6Rd_1 : FieldOff Try.prog 73 1 1 := FieldOff_of (by kernel_rfl)
theorem fo_spec_l6Rd_0 : FieldOff Try.prog 73 0 0 := FieldOff_of (by kernel_rfl)
theorem cf_impl_PlanValid (vs : Array Value) (W : World) : (callFunc 53 vs).run Try.prog W = .ok (.enter 53 vs) W := by kernel_rfl
theorem cf_impl_workOf (vs : Array Value) (W : World) : (callFunc 51 vs).run Try.prog W = .ok (.enter 51 vs) W := by kernel_rfl
theorem cf_impl_KindValid (vs : Array Value) (W : World) : (callFunc 18 vs).run Try.prog W = .ok (.enter 18 vs) W := by kernel_rfl
theorem cf_spec_l6In (vs : Array Value) (W : World) : (callFunc 63 vs).run Try.prog W = .ok (.enter 63 vs) W := by kernel_rfl
theorem cf_spec_KindValid (vs : Array Value) (W : World) : (callFunc 47 vs).run Try.prog W = .ok (.enter 47 vs) W := by kernel_rfl
theorem cf_spec_l31Cost (vs : Array Value) (W : World) : (callFunc 48 vs).run Try.prog W = .ok (.enter 48 vs) W := by kernel_rfl
theorem cf_spec_l6Open (vs : Array Value) (W : World) : (callFunc 49 vs).run Try.prog W = .ok (.enter 49 vs) W := by kernel_rfl
theorem cf_p_spec_l6Rd_pick (vs : Array Value) (W : World) : (callFunc 50 vs).run Try.prog W = .ok (.enter 50 vs) W := by kernel_rfl
theorem cf_spec_CostKind (vs : Array Value) (W : World) : (callFunc 15 vs).run Try.prog W = .ok (.enter 15 vs) W := by kernel_rfl
theorem cf_impl_CostKind (vs : Array Value) (W : World) : (callFunc 16 vs).run Try.prog W = .ok (.enter 16 vs) W := by kernel_rfl
theorem cf_spec_DrawCostKind (vs : Array Value) (W : World) : (callFunc 17 vs).run Try.prog W = .ok (.enter 17 vs) W := by kernel_rfl
end Go.Proofs.Ytolmmncjeebghaa
