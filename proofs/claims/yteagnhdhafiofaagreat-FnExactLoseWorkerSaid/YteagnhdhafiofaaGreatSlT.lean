/- Closed facts of this translation: types, callees. -/
import Derived.Test.YteagnhdhafiofaaGreatSlI
import Derived.Test.YteagnhdhafiofaaGreatProg
import Derived.KernelRfl
namespace Go.Proofs.YteagnhdhafiofaaGreat
open Go.RowKit

theorem SlT_of {P : Program} {t e : TypeId} {sz bts : Nat} {z : List Value} (zv : Value) (h1 : P.underlying t = some (.slice e)) (h2 : (P.info? e).map (fun i => (i.zero, i.size, i.bytes)) = some (some zv, sz, bts)) (h3 : zv.cells = z.toArray) (h4 : z.length = sz) : SlT P t e sz bts z := by
  refine ⟨h1, ?_⟩
  obtain ⟨i, hi, h5⟩ := Option.map_eq_some_iff.1 h2
  simp only [Prod.mk.injEq] at h5
  exact ⟨i, zv, hi, h5.1, h5.2.1, h5.2.2, h3, h4⟩
theorem SizeT_of {P : Program} {t : TypeId} {m : Nat} (h : (P.info? t).map (·.size) = some m) : SizeT P t m := by
  obtain ⟨i, hi, h5⟩ := Option.map_eq_some_iff.1 h
  exact ⟨i, hi, h5⟩
theorem OneT_of {P : Program} {t : TypeId} (h : (P.underlying t).map (fun u => match u with | .struct _ | .array _ _ => false | _ => true) = some true) : OneT P t := by
  obtain ⟨u, hu, h5⟩ := Option.map_eq_some_iff.1 h
  exact ⟨u, hu, by cases u <;> simp_all⟩
theorem AggT_of {P : Program} {t : TypeId} {m : Nat} (h : (P.underlying t).map (fun u => match u with | .struct _ | .array _ _ => true | _ => false) = some true) (h2 : (P.info? t).map (·.size) = some m) : AggT P t m := by
  obtain ⟨u, hu, h5⟩ := Option.map_eq_some_iff.1 h
  obtain ⟨i, hi, h6⟩ := Option.map_eq_some_iff.1 h2
  exact ⟨u, i, hu, hi, h6, by cases u <;> simp_all⟩
theorem PtrT_of {P : Program} {t : TypeId} (te : TypeId) (h : P.underlying t = some (.pointer te)) (h2 : (P.info? te).map (fun i => i.size != 0) = some true) : PtrT P t := by
  obtain ⟨i, hi, h6⟩ := Option.map_eq_some_iff.1 h2
  exact ⟨te, i, h, hi, by simpa using h6⟩
/-- Where a field lies, reckoned. -/
def fieldAtR (P : Program) (s : TypeId) (f : Nat) : Option (Bool × Nat) :=
  match P.underlying s with
  | some (.struct fs) => (fs[f]?).bind fun fd => (P.info? fd.type).map fun i => (i.size != 0, fd.offset)
  | _ => none
theorem FieldOff_of {P : Program} {s : TypeId} {f off : Nat} (h : fieldAtR P s f = some (true, off)) : FieldOff P s f off := by
  unfold fieldAtR at h
  split at h
  · rename_i fs hfs
    obtain ⟨fd, hfd, h2⟩ := Option.bind_eq_some_iff.1 h
    obtain ⟨i, hi, h3⟩ := Option.map_eq_some_iff.1 h2
    simp only [Prod.mk.injEq] at h3
    exact ⟨fs, fd, i, hfs, hfd, hi, by simpa using h3.1, h3.2⟩
  · cases h

theorem mixed : Tryz.prog.follows .mixedOrders = true := by kernel_rfl
theorem st_sl_int : SlT Tryz.prog 25 3 1 8 [.int .i64 0] := SlT_of (.int .i64 0) (by kernel_rfl) (by kernel_rfl) rfl rfl
theorem st_sl_uint8 : SlT Tryz.prog 22 5 1 1 [.int .u8 0] := SlT_of (.int .u8 0) (by kernel_rfl) (by kernel_rfl) rfl rfl
theorem st_impl_rowValues : SlT Tryz.prog 160 3 1 8 [.int .i64 0] := SlT_of (.int .i64 0) (by kernel_rfl) (by kernel_rfl) rfl rfl
theorem st_sl_p_impl_planNode : SlT Tryz.prog 108 134 1 8 [.pointer none] := SlT_of (.pointer none) (by kernel_rfl) (by kernel_rfl) rfl rfl
theorem st_sl_impl_Node : SlT Tryz.prog 23 74 3 56 [.int .i64 0, .slice none 0 0, .slice none 0 0] := SlT_of (.agg #[.int .i64 0, .slice none 0 0, .slice none 0 0]) (by kernel_rfl) (by kernel_rfl) rfl rfl
theorem zero_impl_Node (W : World) : (zeroValue 74).run Tryz.prog W = .ok (.agg #[.int .i64 0, .slice none 0 0, .slice none 0 0]) W := by kernel_rfl
theorem ptr_planNode : PtrT Tryz.prog 134 := PtrT_of 136 (by kernel_rfl) (by kernel_rfl)
theorem run_bs_int (a : Int) (W : World) : (Instr.buildSlice 25 1 #[(0, .int .i64 a)]).run Tryz.prog W = .ok (.slice (some ⟨W.heap.size, 0, none⟩) 1 1) (W.alloc (.cells [Value.int .i64 a].toArray 3)) := by kernel_rfl
theorem run_bs_int0 (W : World) : (Instr.buildSlice 25 0 #[]).run Tryz.prog W = .ok (.slice (some ⟨W.heap.size, 0, none⟩) 0 0) (W.alloc (.cells ([] : List Value).toArray 3)) := by kernel_rfl
theorem st_sl_laws_Node : SlT Tryz.prog 37 71 3 56 [.int .i64 0, .slice none 0 0, .slice none 0 0] := SlT_of (.agg #[.int .i64 0, .slice none 0 0, .slice none 0 0]) (by kernel_rfl) (by kernel_rfl) rfl rfl
theorem run_bs_int2 (a b : Int) (W : World) : (Instr.buildSlice 25 2 #[(0, .int .i64 a), (1, .int .i64 b)]).run Tryz.prog W = .ok (.slice (some ⟨W.heap.size, 0, none⟩) 2 2) (W.alloc (.cells ([a, b].map (Value.int .i64)).toArray 3)) := by kernel_rfl
theorem run_bs_int3 (a b c : Int) (W : World) : (Instr.buildSlice 25 3 #[(0, .int .i64 a), (1, .int .i64 b), (2, .int .i64 c)]).run Tryz.prog W = .ok (.slice (some ⟨W.heap.size, 0, none⟩) 3 3) (W.alloc (.cells ([a, b, c].map (Value.int .i64)).toArray 3)) := by kernel_rfl
theorem st_sl_sl_int : SlT Tryz.prog 24 25 1 24 [.slice none 0 0] := SlT_of (.slice none 0 0) (by kernel_rfl) (by kernel_rfl) rfl rfl
theorem run_bs_sl0 (W : World) : (Instr.buildSlice 24 0 #[]).run Tryz.prog W = .ok (.slice (some ⟨W.heap.size, 0, none⟩) 0 0) (W.alloc (.cells ([] : List Value).toArray 25)) := by kernel_rfl
theorem run_bs_sl1 (a : Option Addr) (n c : Nat) (W : World) : (Instr.buildSlice 24 1 #[(0, .slice a n c)]).run Tryz.prog W = .ok (.slice (some ⟨W.heap.size, 0, none⟩) 1 1) (W.alloc (.cells [Value.slice a n c].toArray 25)) := by kernel_rfl
theorem arr_10int : ArrT Tryz.prog 140 3 10 1 := ArrT_of (by kernel_rfl) (by kernel_rfl)
theorem arr_10bool : ArrT Tryz.prog 88 4 10 1 := ArrT_of (by kernel_rfl) (by kernel_rfl)
theorem zero_10bool (W : World) : (zeroValue 88).run Tryz.prog W = .ok (.agg #[.bool false, .bool false, .bool false, .bool false, .bool false, .bool false, .bool false, .bool false, .bool false, .bool false]) W := by kernel_rfl
theorem agg_10_bool : AggT Tryz.prog 88 10 := AggT_of (by kernel_rfl) (by kernel_rfl)

theorem one_sl_int : OneT Tryz.prog 25 := OneT_of (by kernel_rfl)
theorem one_int : OneT Tryz.prog 3 := OneT_of (by kernel_rfl)
theorem one_bool : OneT Tryz.prog 4 := OneT_of (by kernel_rfl)
theorem one_uint8 : OneT Tryz.prog 5 := OneT_of (by kernel_rfl)
theorem one_sl_uint8 : OneT Tryz.prog 22 := OneT_of (by kernel_rfl)
theorem one_sl_p_impl_planNode : OneT Tryz.prog 108 := OneT_of (by kernel_rfl)
theorem one_p_impl_planNode : OneT Tryz.prog 134 := OneT_of (by kernel_rfl)
theorem one_func_sl_int_sl_int_sl_int_bool : OneT Tryz.prog 114 := OneT_of (by kernel_rfl)
theorem one_func_sl_int_sl_int_bool : OneT Tryz.prog 118 := OneT_of (by kernel_rfl)
theorem one_sl_sl_int : OneT Tryz.prog 24 := OneT_of (by kernel_rfl)
theorem one_func_int_sl_int : OneT Tryz.prog 92 := OneT_of (by kernel_rfl)
theorem one_sl_impl_Node : OneT Tryz.prog 23 := OneT_of (by kernel_rfl)
theorem one_func_sl_int_sl_sl_int : OneT Tryz.prog 89 := OneT_of (by kernel_rfl)
theorem sz_impl_Node : SizeT Tryz.prog 74 3 := SizeT_of (by kernel_rfl)
theorem sz_int : SizeT Tryz.prog 3 1 := SizeT_of (by kernel_rfl)
theorem sz_bool : SizeT Tryz.prog 4 1 := SizeT_of (by kernel_rfl)
theorem sz_sl_int : SizeT Tryz.prog 25 1 := SizeT_of (by kernel_rfl)
theorem sz_uint8 : SizeT Tryz.prog 5 1 := SizeT_of (by kernel_rfl)
theorem sz_sl_p_impl_planNode : SizeT Tryz.prog 108 1 := SizeT_of (by kernel_rfl)
theorem sz_impl_pairWork : SizeT Tryz.prog 116 1 := SizeT_of (by kernel_rfl)
theorem sz_impl_loneWork : SizeT Tryz.prog 120 1 := SizeT_of (by kernel_rfl)
theorem sz_sl_sl_int : SizeT Tryz.prog 24 1 := SizeT_of (by kernel_rfl)
theorem sz_func_int_sl_int : SizeT Tryz.prog 92 1 := SizeT_of (by kernel_rfl)
theorem sz_func_sl_int_sl_sl_int : SizeT Tryz.prog 89 1 := SizeT_of (by kernel_rfl)
theorem sz_impl_plannedCrew : SizeT Tryz.prog 67 6 := SizeT_of (by kernel_rfl)
theorem sz_impl_Crew : SizeT Tryz.prog 27 4 := SizeT_of (by kernel_rfl)
theorem agg_impl_Node : AggT Tryz.prog 74 3 := AggT_of (by kernel_rfl) (by kernel_rfl)
theorem agg_laws_Node : AggT Tryz.prog 71 3 := AggT_of (by kernel_rfl) (by kernel_rfl)
theorem agg_impl_pairWork : AggT Tryz.prog 116 1 := AggT_of (by kernel_rfl) (by kernel_rfl)
theorem agg_impl_loneWork : AggT Tryz.prog 120 1 := AggT_of (by kernel_rfl) (by kernel_rfl)
theorem agg_impl_plannedCrew : AggT Tryz.prog 67 6 := AggT_of (by kernel_rfl) (by kernel_rfl)
theorem agg_impl_Crew : AggT Tryz.prog 27 4 := AggT_of (by kernel_rfl) (by kernel_rfl)
theorem agg_laws_Crew : AggT Tryz.prog 38 4 := AggT_of (by kernel_rfl) (by kernel_rfl)
theorem fo_impl_Node_1 : FieldOff Tryz.prog 74 1 1 := FieldOff_of (by kernel_rfl)
theorem fo_spec_l6Rd_1 : FieldOff Tryz.prog 87 1 1 := FieldOff_of (by kernel_rfl)
theorem fo_spec_l6Rd_0 : FieldOff Tryz.prog 87 0 0 := FieldOff_of (by kernel_rfl)
theorem fo_impl_Node_0 : FieldOff Tryz.prog 74 0 0 := FieldOff_of (by kernel_rfl)
theorem fo_impl_Node_2 : FieldOff Tryz.prog 74 2 2 := FieldOff_of (by kernel_rfl)
theorem fo_impl_planNode_1 : FieldOff Tryz.prog 136 1 1 := FieldOff_of (by kernel_rfl)
theorem fo_impl_planNode_2 : FieldOff Tryz.prog 136 2 2 := FieldOff_of (by kernel_rfl)
theorem fo_laws_Node_1 : FieldOff Tryz.prog 71 1 1 := FieldOff_of (by kernel_rfl)
theorem fo_laws_Node_2 : FieldOff Tryz.prog 71 2 2 := FieldOff_of (by kernel_rfl)
theorem fo_laws_Node_0 : FieldOff Tryz.prog 71 0 0 := FieldOff_of (by kernel_rfl)
theorem fo_impl_planNode_0 : FieldOff Tryz.prog 136 0 0 := FieldOff_of (by kernel_rfl)
theorem fo_impl_countTable_0 : FieldOff Tryz.prog 142 0 0 := FieldOff_of (by kernel_rfl)
theorem fo_impl_countTable_1 : FieldOff Tryz.prog 142 1 10 := FieldOff_of (by kernel_rfl)
theorem fo_impl_pairWork_0 : FieldOff Tryz.prog 116 0 0 := FieldOff_of (by kernel_rfl)
theorem fo_impl_loneWork_0 : FieldOff Tryz.prog 120 0 0 := FieldOff_of (by kernel_rfl)
theorem fo_impl_plannedCrew_0 : FieldOff Tryz.prog 67 0 0 := FieldOff_of (by kernel_rfl)
theorem fo_impl_crewPlan_0 : FieldOff Tryz.prog 65 0 0 := FieldOff_of (by kernel_rfl)
theorem fo_impl_plannedCrew_1 : FieldOff Tryz.prog 67 1 2 := FieldOff_of (by kernel_rfl)
theorem fo_impl_Crew_2 : FieldOff Tryz.prog 27 2 2 := FieldOff_of (by kernel_rfl)
theorem fo_impl_Crew_1 : FieldOff Tryz.prog 27 1 1 := FieldOff_of (by kernel_rfl)
theorem fo_impl_Crew_0 : FieldOff Tryz.prog 27 0 0 := FieldOff_of (by kernel_rfl)
theorem fo_impl_Crew_3 : FieldOff Tryz.prog 27 3 3 := FieldOff_of (by kernel_rfl)
theorem fo_impl_crewPlan_1 : FieldOff Tryz.prog 65 1 1 := FieldOff_of (by kernel_rfl)
theorem fo_laws_Crew_0 : FieldOff Tryz.prog 38 0 0 := FieldOff_of (by kernel_rfl)
theorem fo_laws_Crew_1 : FieldOff Tryz.prog 38 1 1 := FieldOff_of (by kernel_rfl)
theorem fo_laws_Crew_2 : FieldOff Tryz.prog 38 2 2 := FieldOff_of (by kernel_rfl)
theorem fo_laws_Crew_3 : FieldOff Tryz.prog 38 3 3 := FieldOff_of (by kernel_rfl)
theorem cf_impl_PlanValid (vs : Array Value) (W : World) : (callFunc 74 vs).run Tryz.prog W = .ok (.enter 74 vs) W := by kernel_rfl
theorem cf_impl_workOf (vs : Array Value) (W : World) : (callFunc 98 vs).run Tryz.prog W = .ok (.enter 98 vs) W := by kernel_rfl
theorem cf_impl_KindValid (vs : Array Value) (W : World) : (callFunc 144 vs).run Tryz.prog W = .ok (.enter 144 vs) W := by kernel_rfl
theorem cf_spec_l6In (vs : Array Value) (W : World) : (callFunc 41 vs).run Tryz.prog W = .ok (.enter 41 vs) W := by kernel_rfl
theorem cf_spec_KindValid (vs : Array Value) (W : World) : (callFunc 135 vs).run Tryz.prog W = .ok (.enter 135 vs) W := by kernel_rfl
theorem cf_spec_l6Open (vs : Array Value) (W : World) : (callFunc 36 vs).run Tryz.prog W = .ok (.enter 36 vs) W := by kernel_rfl
theorem cf_p_spec_l6Rd_pick (vs : Array Value) (W : World) : (callFunc 72 vs).run Tryz.prog W = .ok (.enter 72 vs) W := by kernel_rfl
theorem cf_spec_KindNeeds (vs : Array Value) (W : World) : (callFunc 109 vs).run Tryz.prog W = .ok (.enter 109 vs) W := by kernel_rfl
theorem cf_spec_RowValid (vs : Array Value) (W : World) : (callFunc 110 vs).run Tryz.prog W = .ok (.enter 110 vs) W := by kernel_rfl
theorem cf_spec_l3Wide (vs : Array Value) (W : World) : (callFunc 88 vs).run Tryz.prog W = .ok (.enter 88 vs) W := by kernel_rfl
theorem cf_spec_l3Node (vs : Array Value) (W : World) : (callFunc 87 vs).run Tryz.prog W = .ok (.enter 87 vs) W := by kernel_rfl
theorem cf_impl_rowValues_valid (vs : Array Value) (W : World) : (callFunc 151 vs).run Tryz.prog W = .ok (.enter 151 vs) W := by kernel_rfl
theorem cf_impl_KindNeeds (vs : Array Value) (W : World) : (callFunc 145 vs).run Tryz.prog W = .ok (.enter 145 vs) W := by kernel_rfl
theorem cf_impl_RowValid (vs : Array Value) (W : World) : (callFunc 146 vs).run Tryz.prog W = .ok (.enter 146 vs) W := by kernel_rfl
theorem cf_p_impl_planNode_needsAlready (vs : Array Value) (W : World) : (callFunc 147 vs).run Tryz.prog W = .ok (.enter 147 vs) W := by kernel_rfl
theorem cf_impl_nodeFits (vs : Array Value) (W : World) : (callFunc 117 vs).run Tryz.prog W = .ok (.enter 117 vs) W := by kernel_rfl
theorem cf_p_impl_planNode_link (vs : Array Value) (W : World) : (callFunc 118 vs).run Tryz.prog W = .ok (.enter 118 vs) W := by kernel_rfl
theorem cf_impl_graphOf (vs : Array Value) (W : World) : (callFunc 97 vs).run Tryz.prog W = .ok (.enter 97 vs) W := by kernel_rfl
theorem cf_spec_PlanValid (vs : Array Value) (W : World) : (callFunc 62 vs).run Tryz.prog W = .ok (.enter 62 vs) W := by kernel_rfl
theorem cf_laws_szIntS (vs : Array Value) (W : World) : (callFunc 51 vs).run Tryz.prog W = .ok (.enter 51 vs) W := by kernel_rfl
theorem cf_laws_szNode (vs : Array Value) (W : World) : (callFunc 49 vs).run Tryz.prog W = .ok (.enter 49 vs) W := by kernel_rfl
theorem cf_laws_eqIntS (vs : Array Value) (W : World) : (callFunc 56 vs).run Tryz.prog W = .ok (.enter 56 vs) W := by kernel_rfl
theorem cf_laws_eqNode (vs : Array Value) (W : World) : (callFunc 57 vs).run Tryz.prog W = .ok (.enter 57 vs) W := by kernel_rfl
theorem cf_laws_toIntS (vs : Array Value) (W : World) : (callFunc 54 vs).run Tryz.prog W = .ok (.enter 54 vs) W := by kernel_rfl
theorem cf_laws_toNode (vs : Array Value) (W : World) : (callFunc 52 vs).run Tryz.prog W = .ok (.enter 52 vs) W := by kernel_rfl
theorem cf_laws_szNodeS (vs : Array Value) (W : World) : (callFunc 18 vs).run Tryz.prog W = .ok (.enter 18 vs) W := by kernel_rfl
theorem cf_laws_toNodeS (vs : Array Value) (W : World) : (callFunc 20 vs).run Tryz.prog W = .ok (.enter 20 vs) W := by kernel_rfl
theorem cf_laws_eqNodeS (vs : Array Value) (W : World) : (callFunc 23 vs).run Tryz.prog W = .ok (.enter 23 vs) W := by kernel_rfl
theorem cf_spec_l91Row (vs : Array Value) (W : World) : (callFunc 113 vs).run Tryz.prog W = .ok (.enter 113 vs) W := by kernel_rfl
theorem cf_spec_l91Node (vs : Array Value) (W : World) : (callFunc 112 vs).run Tryz.prog W = .ok (.enter 112 vs) W := by kernel_rfl
theorem cf_impl_isNode (vs : Array Value) (W : World) : (callFunc 78 vs).run Tryz.prog W = .ok (.enter 78 vs) W := by kernel_rfl
theorem cf_spec_l91Plan (vs : Array Value) (W : World) : (callFunc 94 vs).run Tryz.prog W = .ok (.enter 94 vs) W := by kernel_rfl
theorem cf_laws_sameRow (vs : Array Value) (W : World) : (callFunc 16 vs).run Tryz.prog W = .ok (.enter 16 vs) W := by kernel_rfl
theorem cf_impl_PlanUses (vs : Array Value) (W : World) : (callFunc 105 vs).run Tryz.prog W = .ok (.enter 105 vs) W := by kernel_rfl
theorem cf_impl_workersFit (vs : Array Value) (W : World) : (callFunc 44 vs).run Tryz.prog W = .ok (.enter 44 vs) W := by kernel_rfl
theorem cf_spec_l3Has (vs : Array Value) (W : World) : (callFunc 68 vs).run Tryz.prog W = .ok (.enter 68 vs) W := by kernel_rfl
theorem cf_laws_markIntS (vs : Array Value) (W : World) : (callFunc 58 vs).run Tryz.prog W = .ok (.enter 58 vs) W := by kernel_rfl
theorem cf_laws_markNodeS (vs : Array Value) (W : World) : (callFunc 24 vs).run Tryz.prog W = .ok (.enter 24 vs) W := by kernel_rfl
theorem cf_laws_heldIntS (vs : Array Value) (W : World) : (callFunc 61 vs).run Tryz.prog W = .ok (.enter 61 vs) W := by kernel_rfl
theorem cf_laws_sameRows (vs : Array Value) (W : World) : (callFunc 17 vs).run Tryz.prog W = .ok (.enter 17 vs) W := by kernel_rfl
theorem cf_impl_copyInts (vs : Array Value) (W : World) : (callFunc 39 vs).run Tryz.prog W = .ok (.enter 39 vs) W := by kernel_rfl
theorem cf_impl_countTableOf (vs : Array Value) (W : World) : (callFunc 101 vs).run Tryz.prog W = .ok (.enter 101 vs) W := by kernel_rfl
theorem cf_p_impl_countTable_list (vs : Array Value) (W : World) : (callFunc 102 vs).run Tryz.prog W = .ok (.enter 102 vs) W := by kernel_rfl
theorem cf_impl_CountsOf (vs : Array Value) (W : World) : (callFunc 80 vs).run Tryz.prog W = .ok (.enter 80 vs) W := by kernel_rfl
theorem cf_impl_allIn (vs : Array Value) (W : World) : (callFunc 79 vs).run Tryz.prog W = .ok (.enter 79 vs) W := by kernel_rfl
theorem cf_spec_l5All (vs : Array Value) (W : World) : (callFunc 89 vs).run Tryz.prog W = .ok (.enter 89 vs) W := by kernel_rfl
theorem cf_p_impl_countTable_set (vs : Array Value) (W : World) : (callFunc 103 vs).run Tryz.prog W = .ok (.enter 103 vs) W := by kernel_rfl
theorem cf_p_impl_countTable_take (vs : Array Value) (W : World) : (callFunc 104 vs).run Tryz.prog W = .ok (.enter 104 vs) W := by kernel_rfl
theorem cf_spec_l11Counts (vs : Array Value) (W : World) : (callFunc 90 vs).run Tryz.prog W = .ok (.enter 90 vs) W := by kernel_rfl
theorem cf_spec_l11Done (vs : Array Value) (W : World) : (callFunc 91 vs).run Tryz.prog W = .ok (.enter 91 vs) W := by kernel_rfl
theorem cf_impl_CountsDone (vs : Array Value) (W : World) : (callFunc 81 vs).run Tryz.prog W = .ok (.enter 81 vs) W := by kernel_rfl
theorem cf_laws_eqIntSS (vs : Array Value) (W : World) : (callFunc 55 vs).run Tryz.prog W = .ok (.enter 55 vs) W := by kernel_rfl
theorem cf_laws_markIntSS (vs : Array Value) (W : World) : (callFunc 59 vs).run Tryz.prog W = .ok (.enter 59 vs) W := by kernel_rfl
theorem cf_laws_heldIntSS (vs : Array Value) (W : World) : (callFunc 60 vs).run Tryz.prog W = .ok (.enter 60 vs) W := by kernel_rfl
theorem cf_impl_ReadyOf (vs : Array Value) (W : World) : (callFunc 83 vs).run Tryz.prog W = .ok (.enter 83 vs) W := by kernel_rfl
theorem cf_spec_ReadyOf (vs : Array Value) (W : World) : (callFunc 65 vs).run Tryz.prog W = .ok (.enter 65 vs) W := by kernel_rfl
theorem cf_impl_rowValues_join (vs : Array Value) (W : World) : (callFunc 148 vs).run Tryz.prog W = .ok (.enter 148 vs) W := by kernel_rfl
theorem cf_impl_rowValues_sums (vs : Array Value) (W : World) : (callFunc 152 vs).run Tryz.prog W = .ok (.enter 152 vs) W := by kernel_rfl
theorem cf_cmp_isNaN_int (vs : Array Value) (W : World) : (callFunc 160 vs).run Tryz.prog W = .ok (.enter 160 vs) W := by kernel_rfl
theorem cf_cmp_Less_int (vs : Array Value) (W : World) : (callFunc 130 vs).run Tryz.prog W = .ok (.enter 130 vs) W := by kernel_rfl
theorem cf_math_bits_Len64 (vs : Array Value) (W : World) : (callFunc 134 vs).run Tryz.prog W = .ok (.enter 134 vs) W := by kernel_rfl
theorem cf_slices_insertionSortOrdered_int (vs : Array Value) (W : World) : (callFunc 124 vs).run Tryz.prog W = .ok (.enter 124 vs) W := by kernel_rfl
theorem cf_math_bits_Len (vs : Array Value) (W : World) : (callFunc 108 vs).run Tryz.prog W = .ok (.enter 108 vs) W := by kernel_rfl
theorem cf_slices_pdqsortOrdered_int (vs : Array Value) (W : World) : (callFunc 107 vs).run Tryz.prog W = .ok (.enter 107 vs) W := by kernel_rfl
theorem cf_slices_Sort_impl_rowValues_int (vs : Array Value) (W : World) : (callFunc 164 vs).run Tryz.prog W = .ok (.enter 164 vs) W := by kernel_rfl
theorem cf_impl_rowValues_sorted (vs : Array Value) (W : World) : (callFunc 153 vs).run Tryz.prog W = .ok (.enter 153 vs) W := by kernel_rfl
theorem cf_slices_Reverse_impl_rowValues_int (vs : Array Value) (W : World) : (callFunc 165 vs).run Tryz.prog W = .ok (.enter 165 vs) W := by kernel_rfl
theorem cf_impl_rowValues_turned (vs : Array Value) (W : World) : (callFunc 154 vs).run Tryz.prog W = .ok (.enter 154 vs) W := by kernel_rfl
theorem cf_impl_pairWork_needs (vs : Array Value) (W : World) : (callFunc 99 vs).run Tryz.prog W = .ok (.enter 99 vs) W := by kernel_rfl
theorem cf_impl_loneWork_needs (vs : Array Value) (W : World) : (callFunc 100 vs).run Tryz.prog W = .ok (.enter 100 vs) W := by kernel_rfl
theorem cf_spec_l1Both (vs : Array Value) (W : World) : (callFunc 161 vs).run Tryz.prog W = .ok (.enter 161 vs) W := by kernel_rfl
theorem cf_spec_l1Put (vs : Array Value) (W : World) : (callFunc 162 vs).run Tryz.prog W = .ok (.enter 162 vs) W := by kernel_rfl
theorem cf_spec_RowAdd (vs : Array Value) (W : World) : (callFunc 136 vs).run Tryz.prog W = .ok (.enter 136 vs) W := by kernel_rfl
theorem cf_spec_RowTimes (vs : Array Value) (W : World) : (callFunc 137 vs).run Tryz.prog W = .ok (.enter 137 vs) W := by kernel_rfl
theorem cf_spec_RowSums (vs : Array Value) (W : World) : (callFunc 138 vs).run Tryz.prog W = .ok (.enter 138 vs) W := by kernel_rfl
theorem cf_spec_RowSort (vs : Array Value) (W : World) : (callFunc 139 vs).run Tryz.prog W = .ok (.enter 139 vs) W := by kernel_rfl
theorem cf_spec_RowTurn (vs : Array Value) (W : World) : (callFunc 140 vs).run Tryz.prog W = .ok (.enter 140 vs) W := by kernel_rfl
theorem cf_spec_KindRun (vs : Array Value) (W : World) : (callFunc 111 vs).run Tryz.prog W = .ok (.enter 111 vs) W := by kernel_rfl
theorem cf_spec_l4Step (vs : Array Value) (W : World) : (callFunc 92 vs).run Tryz.prog W = .ok (.enter 92 vs) W := by kernel_rfl
theorem cf_impl_KindRun (vs : Array Value) (W : World) : (callFunc 76 vs).run Tryz.prog W = .ok (.enter 76 vs) W := by kernel_rfl
theorem cf_slices_Index_sl_int_int (vs : Array Value) (W : World) : (callFunc 93 vs).run Tryz.prog W = .ok (.enter 93 vs) W := by kernel_rfl
theorem cf_slices_Grow_sl_int_int (vs : Array Value) (W : World) : (callFunc 106 vs).run Tryz.prog W = .ok (.enter 106 vs) W := by kernel_rfl
theorem cf_slices_Equal_sl_int_int (vs : Array Value) (W : World) : (callFunc 82 vs).run Tryz.prog W = .ok (.enter 82 vs) W := by kernel_rfl
theorem cf_slices_Concat_sl_int_int (vs : Array Value) (W : World) : (callFunc 84 vs).run Tryz.prog W = .ok (.enter 84 vs) W := by kernel_rfl
theorem cf_slices_Sort_sl_int_int (vs : Array Value) (W : World) : (callFunc 85 vs).run Tryz.prog W = .ok (.enter 85 vs) W := by kernel_rfl
theorem cf_slices_Contains_sl_int_int (vs : Array Value) (W : World) : (callFunc 70 vs).run Tryz.prog W = .ok (.enter 70 vs) W := by kernel_rfl
theorem cf_impl_plannedCrew_isDone (vs : Array Value) (W : World) : (callFunc 86 vs).run Tryz.prog W = .ok (.enter 86 vs) W := by kernel_rfl
theorem cf_impl_ValuesOf (vs : Array Value) (W : World) : (callFunc 43 vs).run Tryz.prog W = .ok (.enter 43 vs) W := by kernel_rfl
theorem cf_impl_orderBegins (vs : Array Value) (W : World) : (callFunc 45 vs).run Tryz.prog W = .ok (.enter 45 vs) W := by kernel_rfl
theorem cf_impl_plannedCrew_countsFit (vs : Array Value) (W : World) : (callFunc 46 vs).run Tryz.prog W = .ok (.enter 46 vs) W := by kernel_rfl
theorem cf_impl_plannedCrew_dequesFit (vs : Array Value) (W : World) : (callFunc 47 vs).run Tryz.prog W = .ok (.enter 47 vs) W := by kernel_rfl
theorem cf_impl_plannedCrew_rowsFit (vs : Array Value) (W : World) : (callFunc 48 vs).run Tryz.prog W = .ok (.enter 48 vs) W := by kernel_rfl
theorem cf_spec_l13Same (vs : Array Value) (W : World) : (callFunc 69 vs).run Tryz.prog W = .ok (.enter 69 vs) W := by kernel_rfl
theorem cf_spec_l13Order (vs : Array Value) (W : World) : (callFunc 63 vs).run Tryz.prog W = .ok (.enter 63 vs) W := by kernel_rfl
theorem cf_spec_l13Counts (vs : Array Value) (W : World) : (callFunc 64 vs).run Tryz.prog W = .ok (.enter 64 vs) W := by kernel_rfl
theorem cf_spec_l13At (vs : Array Value) (W : World) : (callFunc 66 vs).run Tryz.prog W = .ok (.enter 66 vs) W := by kernel_rfl
theorem cf_spec_l4Values (vs : Array Value) (W : World) : (callFunc 67 vs).run Tryz.prog W = .ok (.enter 67 vs) W := by kernel_rfl
theorem cf_spec_CountsReady (vs : Array Value) (W : World) : (callFunc 114 vs).run Tryz.prog W = .ok (.enter 114 vs) W := by kernel_rfl
theorem cf_spec_DequeValid (vs : Array Value) (W : World) : (callFunc 163 vs).run Tryz.prog W = .ok (.enter 163 vs) W := by kernel_rfl
theorem cf_spec_CrewValid (vs : Array Value) (W : World) : (callFunc 27 vs).run Tryz.prog W = .ok (.enter 27 vs) W := by kernel_rfl
theorem cf_spec_l14Copy (vs : Array Value) (W : World) : (callFunc 42 vs).run Tryz.prog W = .ok (.enter 42 vs) W := by kernel_rfl
theorem cf_spec_DequePop (vs : Array Value) (W : World) : (callFunc 141 vs).run Tryz.prog W = .ok (.enter 141 vs) W := by kernel_rfl
theorem cf_spec_l14Do (vs : Array Value) (W : World) : (callFunc 142 vs).run Tryz.prog W = .ok (.enter 142 vs) W := by kernel_rfl
theorem cf_spec_DequeSteal (vs : Array Value) (W : World) : (callFunc 143 vs).run Tryz.prog W = .ok (.enter 143 vs) W := by kernel_rfl
theorem cf_spec_TurnFrom (vs : Array Value) (W : World) : (callFunc 32 vs).run Tryz.prog W = .ok (.enter 32 vs) W := by kernel_rfl
theorem cf_spec_TurnRun (vs : Array Value) (W : World) : (callFunc 115 vs).run Tryz.prog W = .ok (.enter 115 vs) W := by kernel_rfl
theorem cf_spec_TurnSteal (vs : Array Value) (W : World) : (callFunc 116 vs).run Tryz.prog W = .ok (.enter 116 vs) W := by kernel_rfl
theorem cf_spec_CrewNew (vs : Array Value) (W : World) : (callFunc 95 vs).run Tryz.prog W = .ok (.enter 95 vs) W := by kernel_rfl
theorem cf_spec_TurnNext (vs : Array Value) (W : World) : (callFunc 96 vs).run Tryz.prog W = .ok (.enter 96 vs) W := by kernel_rfl
theorem cf_spec_l92Crew (vs : Array Value) (W : World) : (callFunc 71 vs).run Tryz.prog W = .ok (.enter 71 vs) W := by kernel_rfl
theorem cf_spec_l92Worker (vs : Array Value) (W : World) : (callFunc 35 vs).run Tryz.prog W = .ok (.enter 35 vs) W := by kernel_rfl
theorem cf_impl_CrewValid (vs : Array Value) (W : World) : (callFunc 15 vs).run Tryz.prog W = .ok (.enter 15 vs) W := by kernel_rfl
theorem cf_impl_isWorker (vs : Array Value) (W : World) : (callFunc 37 vs).run Tryz.prog W = .ok (.enter 37 vs) W := by kernel_rfl
theorem cf_spec_DrawCrewValid (vs : Array Value) (W : World) : (callFunc 34 vs).run Tryz.prog W = .ok (.enter 34 vs) W := by kernel_rfl
theorem cf_impl_CrewLeft (vs : Array Value) (W : World) : (callFunc 29 vs).run Tryz.prog W = .ok (.enter 29 vs) W := by kernel_rfl
theorem cf_spec_CrewLeft (vs : Array Value) (W : World) : (callFunc 28 vs).run Tryz.prog W = .ok (.enter 28 vs) W := by kernel_rfl
theorem cf_impl_TurnFrom (vs : Array Value) (W : World) : (callFunc 33 vs).run Tryz.prog W = .ok (.enter 33 vs) W := by kernel_rfl
theorem cf_impl_CrewAt (vs : Array Value) (W : World) : (callFunc 31 vs).run Tryz.prog W = .ok (.enter 31 vs) W := by kernel_rfl
theorem cf_spec_CrewAt (vs : Array Value) (W : World) : (callFunc 30 vs).run Tryz.prog W = .ok (.enter 30 vs) W := by kernel_rfl
theorem cf_laws_szIntSS (vs : Array Value) (W : World) : (callFunc 50 vs).run Tryz.prog W = .ok (.enter 50 vs) W := by kernel_rfl
theorem cf_laws_toIntSS (vs : Array Value) (W : World) : (callFunc 53 vs).run Tryz.prog W = .ok (.enter 53 vs) W := by kernel_rfl
theorem cf_laws_szCrew (vs : Array Value) (W : World) : (callFunc 19 vs).run Tryz.prog W = .ok (.enter 19 vs) W := by kernel_rfl
theorem cf_laws_toCrew (vs : Array Value) (W : World) : (callFunc 21 vs).run Tryz.prog W = .ok (.enter 21 vs) W := by kernel_rfl
theorem cf_laws_eqCrew (vs : Array Value) (W : World) : (callFunc 22 vs).run Tryz.prog W = .ok (.enter 22 vs) W := by kernel_rfl
theorem cf_laws_sameCrew (vs : Array Value) (W : World) : (callFunc 14 vs).run Tryz.prog W = .ok (.enter 14 vs) W := by kernel_rfl
theorem cf_impl_copyLists (vs : Array Value) (W : World) : (callFunc 73 vs).run Tryz.prog W = .ok (.enter 73 vs) W := by kernel_rfl
theorem cf_impl_copyCrew (vs : Array Value) (W : World) : (callFunc 38 vs).run Tryz.prog W = .ok (.enter 38 vs) W := by kernel_rfl
theorem cf_slices_Delete_sl_sl_int_sl_int (vs : Array Value) (W : World) : (callFunc 40 vs).run Tryz.prog W = .ok (.enter 40 vs) W := by kernel_rfl
theorem cf_spec_DrawLoseWorker (vs : Array Value) (W : World) : (callFunc 11 vs).run Tryz.prog W = .ok (.enter 11 vs) W := by kernel_rfl
theorem cf_impl_LoseWorker (vs : Array Value) (W : World) : (callFunc 12 vs).run Tryz.prog W = .ok (.enter 12 vs) W := by kernel_rfl
theorem cf_spec_LoseWorker (vs : Array Value) (W : World) : (callFunc 13 vs).run Tryz.prog W = .ok (.enter 13 vs) W := by kernel_rfl
theorem cf_laws_markCrew (vs : Array Value) (W : World) : (callFunc 25 vs).run Tryz.prog W = .ok (.enter 25 vs) W := by kernel_rfl
theorem cf_laws_heldCrew (vs : Array Value) (W : World) : (callFunc 26 vs).run Tryz.prog W = .ok (.enter 26 vs) W := by kernel_rfl
end Go.Proofs.YteagnhdhafiofaaGreat
