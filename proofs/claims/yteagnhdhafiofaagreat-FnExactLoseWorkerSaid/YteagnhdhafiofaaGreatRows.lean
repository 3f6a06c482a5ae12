/-
  No cell of these rows narrows 'for every input' (looked for: loops, veiled, ifaces, maps, wideKeys, modest, calm, conditions, laid).
  DERIVED. THE GIVEN ROWS OF THIS SEAT. 8 by the template 'for every input the law returns true; each argument reads behind the call as it read before'; 0 by the template 'total and deterministic' (their statements: YteagnhdhafiofaaGreatTotals.lean).
  GIVEN WITH THE SEED: the statements are not yours to turn. If you find one false, say at which input.
  Laid BY PROGRAM, IN A SANDBOX (cutbox-rows.mjs): the forced cells as the released guide's own fill.sh prints them over the translation 53d4c7b684ce3979… (all of the seat's roots in one cut). By AI agents, Wed Nov 11 2026. No macro, syntax, notation, axiom, sorry.
-/
import Derived.Test.YteagnhdhafiofaaGreatChecked
import GoSem.Claim
import GoSem.ClaimJoined
import GoSem.ClaimMapViews
import Derived.JoinedTies
import Derived.KernelRfl
namespace Go.Proofs.YteagnhdhafiofaaGreat
/- THE CELL 'sum', in the pinned program and in every row, IS THE sha256 OF THE DUMP (.gsa) THAT YteagnhdhafiofaaGreatProg.lean LOADS. Nothing in Lean hashes anything: it is a label: what it is worth is what the hold of that sum in a sandbox is worth. -/
noncomputable def Tryz.pinned : Pinned := { name := "yteagnhdhafiofaagreat", sum := "53d4c7b684ce3979ef440c1b9b1a22f087c03b259e748d4631ce80a3957a0327", checked := Tryz.checked }
namespace Rows
def none {H : Type} : Left H := { results := [], args := [] }

/-- 'laws.FnLoseWorker': WHATEVER THE INPUT: true; the input reads as it did. -/
def fnLoseWorkerSpec : ChangeSpec := { name := "fnLoseWorker", fn := fun _ => fun
  | [d] => { results := [.lit (.bool true)], args := [d] }
  | _ => none }
def fnLoseWorkerRow : OpenClaim := { program := "yteagnhdhafiofaagreat", sum := "53d4c7b684ce3979ef440c1b9b1a22f087c03b259e748d4631ce80a3957a0327", func := "loop.example/workplans/laws.FnLoseWorker", spec := "fnLoseWorker", unfollowed := true, recurses := true, apart := false }
def FnLoseWorkerSaid : Prop := fnLoseWorkerRow.holds Tryz.pinned (OpenSpec.ofChange fnLoseWorkerSpec)

/-- ITS FALSE NEIGHBOUR: 'it returns false'. Refute it at one input. -/
def fnLoseWorkerWrong : ChangeSpec := { name := "fnLoseWorker", fn := fun _ => fun
  | [d] => { results := [.lit (.bool false)], args := [d] }
  | _ => none }
def FnLoseWorkerWrongFalsely : Prop := fnLoseWorkerRow.holds Tryz.pinned (OpenSpec.ofChange fnLoseWorkerWrong)

/-- 'laws.FnLoseWorkerNext': WHATEVER THE INPUT: true; the input reads as it did. -/
def fnLoseWorkerNextSpec : ChangeSpec := { name := "fnLoseWorkerNext", fn := fun _ => fun
  | [d] => { results := [.lit (.bool true)], args := [d] }
  | _ => none }
def fnLoseWorkerNextRow : OpenClaim := { program := "yteagnhdhafiofaagreat", sum := "53d4c7b684ce3979ef440c1b9b1a22f087c03b259e748d4631ce80a3957a0327", func := "loop.example/workplans/laws.FnLoseWorkerNext", spec := "fnLoseWorkerNext", unfollowed := true, recurses := true, apart := false }
def FnLoseWorkerNextSaid : Prop := fnLoseWorkerNextRow.holds Tryz.pinned (OpenSpec.ofChange fnLoseWorkerNextSpec)

/-- ITS FALSE NEIGHBOUR: 'it returns false'. Refute it at one input. -/
def fnLoseWorkerNextWrong : ChangeSpec := { name := "fnLoseWorkerNext", fn := fun _ => fun
  | [d] => { results := [.lit (.bool false)], args := [d] }
  | _ => none }
def FnLoseWorkerNextWrongFalsely : Prop := fnLoseWorkerNextRow.holds Tryz.pinned (OpenSpec.ofChange fnLoseWorkerNextWrong)

/-- 'laws.FnExactLoseWorker': WHATEVER THE INPUT: true; the input reads as it did. -/
def fnExactLoseWorkerSpec : ChangeSpec := { name := "fnExactLoseWorker", fn := fun _ => fun
  | [d1, d2, d3] => { results := [.lit (.bool true)], args := [d1, d2, d3] }
  | _ => none }
def fnExactLoseWorkerRow : OpenClaim := { program := "yteagnhdhafiofaagreat", sum := "53d4c7b684ce3979ef440c1b9b1a22f087c03b259e748d4631ce80a3957a0327", func := "loop.example/workplans/laws.FnExactLoseWorker", spec := "fnExactLoseWorker", unfollowed := true, recurses := true, apart := false }
def FnExactLoseWorkerSaid : Prop := fnExactLoseWorkerRow.holds Tryz.pinned (OpenSpec.ofChange fnExactLoseWorkerSpec)

/-- ITS FALSE NEIGHBOUR: 'it returns false'. Refute it at one input. -/
def fnExactLoseWorkerWrong : ChangeSpec := { name := "fnExactLoseWorker", fn := fun _ => fun
  | [d1, d2, d3] => { results := [.lit (.bool false)], args := [d1, d2, d3] }
  | _ => none }
def FnExactLoseWorkerWrongFalsely : Prop := fnExactLoseWorkerRow.holds Tryz.pinned (OpenSpec.ofChange fnExactLoseWorkerWrong)

/-- 'laws.FnExactCrewValid': WHATEVER THE INPUT: true; the input reads as it did. -/
def fnExactCrewValidSpec : ChangeSpec := { name := "fnExactCrewValid", fn := fun _ => fun
  | [d1, d2] => { results := [.lit (.bool true)], args := [d1, d2] }
  | _ => none }
def fnExactCrewValidRow : OpenClaim := { program := "yteagnhdhafiofaagreat", sum := "53d4c7b684ce3979ef440c1b9b1a22f087c03b259e748d4631ce80a3957a0327", func := "loop.example/workplans/laws.FnExactCrewValid", spec := "fnExactCrewValid", unfollowed := true, recurses := true, apart := false }
def FnExactCrewValidSaid : Prop := fnExactCrewValidRow.holds Tryz.pinned (OpenSpec.ofChange fnExactCrewValidSpec)

/-- ITS FALSE NEIGHBOUR: 'it returns false'. Refute it at one input. -/
def fnExactCrewValidWrong : ChangeSpec := { name := "fnExactCrewValid", fn := fun _ => fun
  | [d1, d2] => { results := [.lit (.bool false)], args := [d1, d2] }
  | _ => none }
def FnExactCrewValidWrongFalsely : Prop := fnExactCrewValidRow.holds Tryz.pinned (OpenSpec.ofChange fnExactCrewValidWrong)

/-- 'laws.FnExactCrewLeft': WHATEVER THE INPUT: true; the input reads as it did. -/
def fnExactCrewLeftSpec : ChangeSpec := { name := "fnExactCrewLeft", fn := fun _ => fun
  | [d1, d2] => { results := [.lit (.bool true)], args := [d1, d2] }
  | _ => none }
def fnExactCrewLeftRow : OpenClaim := { program := "yteagnhdhafiofaagreat", sum := "53d4c7b684ce3979ef440c1b9b1a22f087c03b259e748d4631ce80a3957a0327", func := "loop.example/workplans/laws.FnExactCrewLeft", spec := "fnExactCrewLeft", unfollowed := true, recurses := true, apart := false }
def FnExactCrewLeftSaid : Prop := fnExactCrewLeftRow.holds Tryz.pinned (OpenSpec.ofChange fnExactCrewLeftSpec)

/-- ITS FALSE NEIGHBOUR: 'it returns false'. Refute it at one input. -/
def fnExactCrewLeftWrong : ChangeSpec := { name := "fnExactCrewLeft", fn := fun _ => fun
  | [d1, d2] => { results := [.lit (.bool false)], args := [d1, d2] }
  | _ => none }
def FnExactCrewLeftWrongFalsely : Prop := fnExactCrewLeftRow.holds Tryz.pinned (OpenSpec.ofChange fnExactCrewLeftWrong)

/-- 'laws.FnExactCrewAt': WHATEVER THE INPUT: true; the input reads as it did. -/
def fnExactCrewAtSpec : ChangeSpec := { name := "fnExactCrewAt", fn := fun _ => fun
  | [d1, d2, d3] => { results := [.lit (.bool true)], args := [d1, d2, d3] }
  | _ => none }
def fnExactCrewAtRow : OpenClaim := { program := "yteagnhdhafiofaagreat", sum := "53d4c7b684ce3979ef440c1b9b1a22f087c03b259e748d4631ce80a3957a0327", func := "loop.example/workplans/laws.FnExactCrewAt", spec := "fnExactCrewAt", unfollowed := true, recurses := true, apart := false }
def FnExactCrewAtSaid : Prop := fnExactCrewAtRow.holds Tryz.pinned (OpenSpec.ofChange fnExactCrewAtSpec)

/-- ITS FALSE NEIGHBOUR: 'it returns false'. Refute it at one input. -/
def fnExactCrewAtWrong : ChangeSpec := { name := "fnExactCrewAt", fn := fun _ => fun
  | [d1, d2, d3] => { results := [.lit (.bool false)], args := [d1, d2, d3] }
  | _ => none }
def FnExactCrewAtWrongFalsely : Prop := fnExactCrewAtRow.holds Tryz.pinned (OpenSpec.ofChange fnExactCrewAtWrong)

/-- 'laws.FnExactTurnFrom': WHATEVER THE INPUT: true; the input reads as it did. -/
def fnExactTurnFromSpec : ChangeSpec := { name := "fnExactTurnFrom", fn := fun _ => fun
  | [d1, d2, d3] => { results := [.lit (.bool true)], args := [d1, d2, d3] }
  | _ => none }
def fnExactTurnFromRow : OpenClaim := { program := "yteagnhdhafiofaagreat", sum := "53d4c7b684ce3979ef440c1b9b1a22f087c03b259e748d4631ce80a3957a0327", func := "loop.example/workplans/laws.FnExactTurnFrom", spec := "fnExactTurnFrom", unfollowed := true, recurses := true, apart := false }
def FnExactTurnFromSaid : Prop := fnExactTurnFromRow.holds Tryz.pinned (OpenSpec.ofChange fnExactTurnFromSpec)

/-- ITS FALSE NEIGHBOUR: 'it returns false'. Refute it at one input. -/
def fnExactTurnFromWrong : ChangeSpec := { name := "fnExactTurnFrom", fn := fun _ => fun
  | [d1, d2, d3] => { results := [.lit (.bool false)], args := [d1, d2, d3] }
  | _ => none }
def FnExactTurnFromWrongFalsely : Prop := fnExactTurnFromRow.holds Tryz.pinned (OpenSpec.ofChange fnExactTurnFromWrong)

/-- 'laws.FnCrewPart': WHATEVER THE INPUT: true; the input reads as it did. -/
def fnCrewPartSpec : ChangeSpec := { name := "fnCrewPart", fn := fun _ => fun
  | [d] => { results := [.lit (.bool true)], args := [d] }
  | _ => none }
def fnCrewPartRow : OpenClaim := { program := "yteagnhdhafiofaagreat", sum := "53d4c7b684ce3979ef440c1b9b1a22f087c03b259e748d4631ce80a3957a0327", func := "loop.example/workplans/laws.FnCrewPart", spec := "fnCrewPart", unfollowed := true, recurses := true, apart := false }
def FnCrewPartSaid : Prop := fnCrewPartRow.holds Tryz.pinned (OpenSpec.ofChange fnCrewPartSpec)

/-- ITS FALSE NEIGHBOUR: 'it returns false'. Refute it at one input. -/
def fnCrewPartWrong : ChangeSpec := { name := "fnCrewPart", fn := fun _ => fun
  | [d] => { results := [.lit (.bool false)], args := [d] }
  | _ => none }
def FnCrewPartWrongFalsely : Prop := fnCrewPartRow.holds Tryz.pinned (OpenSpec.ofChange fnCrewPartWrong)

/- THE SECOND FORM. 'bulk': how many values and letters a reading holds, each counted each time it is reached (what is shared counts as often as it is met; a slice's spare places count too). A statement '..UptoSaid' is the law's where the arguments, and the package variables that the reading takes, are together of bulk at most 1048576: NARROWER than '..Said'. Prove '..Said' where nothing that the law and all that it calls make is longer than what came in: it says more and counts as full. Else prove '..UptoSaid'. A law counts once. -/
mutual
def uptoBulk {H : Type} : DataW H → Nat
  | .lit (.string bytes) => bytes.length + 1
  | .lit _ => 1
  | .nil => 1
  | .ptr d => uptoBulk d + 1
  | .slice elems spare => uptoBulkAll elems + uptoBulkAll spare + 1
  | .agg parts => uptoBulkAll parts + 1
  | .iface _ d => uptoBulk d + 1
  | .map entries => uptoBulkEntries entries + 1
  | .held _ => 1
def uptoBulkAll {H : Type} : List (DataW H) → Nat
  | [] => 0
  | d :: r => uptoBulk d + uptoBulkAll r
def uptoBulkEntries {H : Type} : List (Lit × DataW H) → Nat
  | [] => 0
  | x :: r => uptoBulkEntry x + uptoBulkEntries r
def uptoBulkEntry {H : Type} : Lit × DataW H → Nat
  | (.string bytes, d) => bytes.length + uptoBulk d + 1
  | (_, d) => uptoBulk d + 1
 end
def uptoSmall : (H : Type) → List (DataW H) → Bool := fun _ ds => decide (uptoBulkAll ds ≤ 1048576)
def OpenSpec.upto (s : _root_.Go.ChangeSpec) : _root_.Go.OpenSpec := { _root_.Go.OpenSpec.ofChange s with cond := some uptoSmall }

/-- 'laws.FnLoseWorker', WHERE WHAT IT READS IS OF BULK AT MOST 1048576: true; the input reads as it did. -/
def fnLoseWorkerUptoRow : OpenClaim := { program := "yteagnhdhafiofaagreat", sum := "53d4c7b684ce3979ef440c1b9b1a22f087c03b259e748d4631ce80a3957a0327", func := "loop.example/workplans/laws.FnLoseWorker", spec := "fnLoseWorker", unfollowed := true, recurses := true, apart := false, narrowed := true }
def FnLoseWorkerUptoSaid : Prop := fnLoseWorkerUptoRow.holds Tryz.pinned (OpenSpec.upto fnLoseWorkerSpec)

/-- 'laws.FnLoseWorkerNext', WHERE WHAT IT READS IS OF BULK AT MOST 1048576: true; the input reads as it did. -/
def fnLoseWorkerNextUptoRow : OpenClaim := { program := "yteagnhdhafiofaagreat", sum := "53d4c7b684ce3979ef440c1b9b1a22f087c03b259e748d4631ce80a3957a0327", func := "loop.example/workplans/laws.FnLoseWorkerNext", spec := "fnLoseWorkerNext", unfollowed := true, recurses := true, apart := false, narrowed := true }
def FnLoseWorkerNextUptoSaid : Prop := fnLoseWorkerNextUptoRow.holds Tryz.pinned (OpenSpec.upto fnLoseWorkerNextSpec)

/-- 'laws.FnExactLoseWorker', WHERE WHAT IT READS IS OF BULK AT MOST 1048576: true; the input reads as it did. -/
def fnExactLoseWorkerUptoRow : OpenClaim := { program := "yteagnhdhafiofaagreat", sum := "53d4c7b684ce3979ef440c1b9b1a22f087c03b259e748d4631ce80a3957a0327", func := "loop.example/workplans/laws.FnExactLoseWorker", spec := "fnExactLoseWorker", unfollowed := true, recurses := true, apart := false, narrowed := true }
def FnExactLoseWorkerUptoSaid : Prop := fnExactLoseWorkerUptoRow.holds Tryz.pinned (OpenSpec.upto fnExactLoseWorkerSpec)

/-- 'laws.FnExactCrewValid', WHERE WHAT IT READS IS OF BULK AT MOST 1048576: true; the input reads as it did. -/
def fnExactCrewValidUptoRow : OpenClaim := { program := "yteagnhdhafiofaagreat", sum := "53d4c7b684ce3979ef440c1b9b1a22f087c03b259e748d4631ce80a3957a0327", func := "loop.example/workplans/laws.FnExactCrewValid", spec := "fnExactCrewValid", unfollowed := true, recurses := true, apart := false, narrowed := true }
def FnExactCrewValidUptoSaid : Prop := fnExactCrewValidUptoRow.holds Tryz.pinned (OpenSpec.upto fnExactCrewValidSpec)

/-- 'laws.FnExactCrewLeft', WHERE WHAT IT READS IS OF BULK AT MOST 1048576: true; the input reads as it did. -/
def fnExactCrewLeftUptoRow : OpenClaim := { program := "yteagnhdhafiofaagreat", sum := "53d4c7b684ce3979ef440c1b9b1a22f087c03b259e748d4631ce80a3957a0327", func := "loop.example/workplans/laws.FnExactCrewLeft", spec := "fnExactCrewLeft", unfollowed := true, recurses := true, apart := false, narrowed := true }
def FnExactCrewLeftUptoSaid : Prop := fnExactCrewLeftUptoRow.holds Tryz.pinned (OpenSpec.upto fnExactCrewLeftSpec)

/-- 'laws.FnExactCrewAt', WHERE WHAT IT READS IS OF BULK AT MOST 1048576: true; the input reads as it did. -/
def fnExactCrewAtUptoRow : OpenClaim := { program := "yteagnhdhafiofaagreat", sum := "53d4c7b684ce3979ef440c1b9b1a22f087c03b259e748d4631ce80a3957a0327", func := "loop.example/workplans/laws.FnExactCrewAt", spec := "fnExactCrewAt", unfollowed := true, recurses := true, apart := false, narrowed := true }
def FnExactCrewAtUptoSaid : Prop := fnExactCrewAtUptoRow.holds Tryz.pinned (OpenSpec.upto fnExactCrewAtSpec)

/-- 'laws.FnExactTurnFrom', WHERE WHAT IT READS IS OF BULK AT MOST 1048576: true; the input reads as it did. -/
def fnExactTurnFromUptoRow : OpenClaim := { program := "yteagnhdhafiofaagreat", sum := "53d4c7b684ce3979ef440c1b9b1a22f087c03b259e748d4631ce80a3957a0327", func := "loop.example/workplans/laws.FnExactTurnFrom", spec := "fnExactTurnFrom", unfollowed := true, recurses := true, apart := false, narrowed := true }
def FnExactTurnFromUptoSaid : Prop := fnExactTurnFromUptoRow.holds Tryz.pinned (OpenSpec.upto fnExactTurnFromSpec)

/-- 'laws.FnCrewPart', WHERE WHAT IT READS IS OF BULK AT MOST 1048576: true; the input reads as it did. -/
def fnCrewPartUptoRow : OpenClaim := { program := "yteagnhdhafiofaagreat", sum := "53d4c7b684ce3979ef440c1b9b1a22f087c03b259e748d4631ce80a3957a0327", func := "loop.example/workplans/laws.FnCrewPart", spec := "fnCrewPart", unfollowed := true, recurses := true, apart := false, narrowed := true }
def FnCrewPartUptoSaid : Prop := fnCrewPartUptoRow.holds Tryz.pinned (OpenSpec.upto fnCrewPartSpec)

end Rows
end Go.Proofs.YteagnhdhafiofaaGreat
