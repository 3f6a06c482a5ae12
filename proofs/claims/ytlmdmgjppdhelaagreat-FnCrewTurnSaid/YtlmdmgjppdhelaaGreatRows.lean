/-
  No cell of these rows narrows 'for every input' (looked for: loops, veiled, ifaces, maps, wideKeys, modest, calm, conditions, laid).
  DERIVED. THE GIVEN ROWS OF THIS SEAT. 10 by the template 'for every input the law returns true; each argument reads behind the call as it read before'; 0 by the template 'total and deterministic' (their statements: YtlmdmgjppdhelaaGreatTotals.lean).
  GIVEN WITH THE SEED: the statements are not yours to turn. If you find one false, say at which input.
  Laid BY PROGRAM, IN A SANDBOX (cutbox-rows.mjs): the forced cells as the released guide's own fill.sh prints them over the translation 72e7cc2c64700d81… (all of the seat's roots in one cut). By AI agents, Wed Nov 11 2026. No macro, syntax, notation, axiom, sorry.
-/
import Derived.Test.YtlmdmgjppdhelaaGreatChecked
import GoSem.Claim
import GoSem.ClaimJoined
import GoSem.ClaimMapViews
import Derived.JoinedTies
import Derived.KernelRfl
namespace Go.Proofs.YtlmdmgjppdhelaaGreat
/- THE CELL 'sum', in the pinned program and in every row, IS THE sha256 OF THE DUMP (.gsa) THAT YtlmdmgjppdhelaaGreatProg.lean LOADS. Nothing in Lean hashes anything: it is a label: what it is worth is what the hold of that sum in a sandbox is worth. -/
noncomputable def Tryz.pinned : Pinned := { name := "ytlmdmgjppdhelaagreat", sum := "72e7cc2c64700d81b4b742719ccacaab621b0b9c34e6d623853279eda1708307", checked := Tryz.checked }
namespace Rows
def none {H : Type} : Left H := { results := [], args := [] }

/-- 'laws.FnCrewTurn': WHATEVER THE INPUT: true; the input reads as it did. -/
def fnCrewTurnSpec : ChangeSpec := { name := "fnCrewTurn", fn := fun _ => fun
  | [d] => { results := [.lit (.bool true)], args := [d] }
  | _ => none }
def fnCrewTurnRow : OpenClaim := { program := "ytlmdmgjppdhelaagreat", sum := "72e7cc2c64700d81b4b742719ccacaab621b0b9c34e6d623853279eda1708307", func := "loop.example/workplans/laws.FnCrewTurn", spec := "fnCrewTurn", unfollowed := true, recurses := true, apart := false }
def FnCrewTurnSaid : Prop := fnCrewTurnRow.holds Tryz.pinned (OpenSpec.ofChange fnCrewTurnSpec)

/-- ITS FALSE NEIGHBOUR: 'it returns false'. Refute it at one input. -/
def fnCrewTurnWrong : ChangeSpec := { name := "fnCrewTurn", fn := fun _ => fun
  | [d] => { results := [.lit (.bool false)], args := [d] }
  | _ => none }
def FnCrewTurnWrongFalsely : Prop := fnCrewTurnRow.holds Tryz.pinned (OpenSpec.ofChange fnCrewTurnWrong)

/-- 'laws.FnCrewLeft': WHATEVER THE INPUT: true; the input reads as it did. -/
def fnCrewLeftSpec : ChangeSpec := { name := "fnCrewLeft", fn := fun _ => fun
  | [d] => { results := [.lit (.bool true)], args := [d] }
  | _ => none }
def fnCrewLeftRow : OpenClaim := { program := "ytlmdmgjppdhelaagreat", sum := "72e7cc2c64700d81b4b742719ccacaab621b0b9c34e6d623853279eda1708307", func := "loop.example/workplans/laws.FnCrewLeft", spec := "fnCrewLeft", unfollowed := true, recurses := true, apart := false }
def FnCrewLeftSaid : Prop := fnCrewLeftRow.holds Tryz.pinned (OpenSpec.ofChange fnCrewLeftSpec)

/-- ITS FALSE NEIGHBOUR: 'it returns false'. Refute it at one input. -/
def fnCrewLeftWrong : ChangeSpec := { name := "fnCrewLeft", fn := fun _ => fun
  | [d] => { results := [.lit (.bool false)], args := [d] }
  | _ => none }
def FnCrewLeftWrongFalsely : Prop := fnCrewLeftRow.holds Tryz.pinned (OpenSpec.ofChange fnCrewLeftWrong)

/-- 'laws.FnTurnFrom': WHATEVER THE INPUT: true; the input reads as it did. -/
def fnTurnFromSpec : ChangeSpec := { name := "fnTurnFrom", fn := fun _ => fun
  | [d] => { results := [.lit (.bool true)], args := [d] }
  | _ => none }
def fnTurnFromRow : OpenClaim := { program := "ytlmdmgjppdhelaagreat", sum := "72e7cc2c64700d81b4b742719ccacaab621b0b9c34e6d623853279eda1708307", func := "loop.example/workplans/laws.FnTurnFrom", spec := "fnTurnFrom", unfollowed := true, recurses := true, apart := false }
def FnTurnFromSaid : Prop := fnTurnFromRow.holds Tryz.pinned (OpenSpec.ofChange fnTurnFromSpec)

/-- ITS FALSE NEIGHBOUR: 'it returns false'. Refute it at one input. -/
def fnTurnFromWrong : ChangeSpec := { name := "fnTurnFrom", fn := fun _ => fun
  | [d] => { results := [.lit (.bool false)], args := [d] }
  | _ => none }
def FnTurnFromWrongFalsely : Prop := fnTurnFromRow.holds Tryz.pinned (OpenSpec.ofChange fnTurnFromWrong)

/-- 'laws.FnTurnFromNext': WHATEVER THE INPUT: true; the input reads as it did. -/
def fnTurnFromNextSpec : ChangeSpec := { name := "fnTurnFromNext", fn := fun _ => fun
  | [d] => { results := [.lit (.bool true)], args := [d] }
  | _ => none }
def fnTurnFromNextRow : OpenClaim := { program := "ytlmdmgjppdhelaagreat", sum := "72e7cc2c64700d81b4b742719ccacaab621b0b9c34e6d623853279eda1708307", func := "loop.example/workplans/laws.FnTurnFromNext", spec := "fnTurnFromNext", unfollowed := true, recurses := true, apart := false }
def FnTurnFromNextSaid : Prop := fnTurnFromNextRow.holds Tryz.pinned (OpenSpec.ofChange fnTurnFromNextSpec)

/-- ITS FALSE NEIGHBOUR: 'it returns false'. Refute it at one input. -/
def fnTurnFromNextWrong : ChangeSpec := { name := "fnTurnFromNext", fn := fun _ => fun
  | [d] => { results := [.lit (.bool false)], args := [d] }
  | _ => none }
def FnTurnFromNextWrongFalsely : Prop := fnTurnFromNextRow.holds Tryz.pinned (OpenSpec.ofChange fnTurnFromNextWrong)

/-- 'laws.FnCrewReady': WHATEVER THE INPUT: true; the input reads as it did. -/
def fnCrewReadySpec : ChangeSpec := { name := "fnCrewReady", fn := fun _ => fun
  | [d] => { results := [.lit (.bool true)], args := [d] }
  | _ => none }
def fnCrewReadyRow : OpenClaim := { program := "ytlmdmgjppdhelaagreat", sum := "72e7cc2c64700d81b4b742719ccacaab621b0b9c34e6d623853279eda1708307", func := "loop.example/workplans/laws.FnCrewReady", spec := "fnCrewReady", unfollowed := true, recurses := true, apart := false }
def FnCrewReadySaid : Prop := fnCrewReadyRow.holds Tryz.pinned (OpenSpec.ofChange fnCrewReadySpec)

/-- ITS FALSE NEIGHBOUR: 'it returns false'. Refute it at one input. -/
def fnCrewReadyWrong : ChangeSpec := { name := "fnCrewReady", fn := fun _ => fun
  | [d] => { results := [.lit (.bool false)], args := [d] }
  | _ => none }
def FnCrewReadyWrongFalsely : Prop := fnCrewReadyRow.holds Tryz.pinned (OpenSpec.ofChange fnCrewReadyWrong)

/-- 'laws.FnTurnFromNone': WHATEVER THE INPUT: true; the input reads as it did. -/
def fnTurnFromNoneSpec : ChangeSpec := { name := "fnTurnFromNone", fn := fun _ => fun
  | [d] => { results := [.lit (.bool true)], args := [d] }
  | _ => none }
def fnTurnFromNoneRow : OpenClaim := { program := "ytlmdmgjppdhelaagreat", sum := "72e7cc2c64700d81b4b742719ccacaab621b0b9c34e6d623853279eda1708307", func := "loop.example/workplans/laws.FnTurnFromNone", spec := "fnTurnFromNone", unfollowed := true, recurses := true, apart := false }
def FnTurnFromNoneSaid : Prop := fnTurnFromNoneRow.holds Tryz.pinned (OpenSpec.ofChange fnTurnFromNoneSpec)

/-- ITS FALSE NEIGHBOUR: 'it returns false'. Refute it at one input. -/
def fnTurnFromNoneWrong : ChangeSpec := { name := "fnTurnFromNone", fn := fun _ => fun
  | [d] => { results := [.lit (.bool false)], args := [d] }
  | _ => none }
def FnTurnFromNoneWrongFalsely : Prop := fnTurnFromNoneRow.holds Tryz.pinned (OpenSpec.ofChange fnTurnFromNoneWrong)

/-- 'laws.FnCrewCounts': WHATEVER THE INPUT: true; the input reads as it did. -/
def fnCrewCountsSpec : ChangeSpec := { name := "fnCrewCounts", fn := fun _ => fun
  | [d] => { results := [.lit (.bool true)], args := [d] }
  | _ => none }
def fnCrewCountsRow : OpenClaim := { program := "ytlmdmgjppdhelaagreat", sum := "72e7cc2c64700d81b4b742719ccacaab621b0b9c34e6d623853279eda1708307", func := "loop.example/workplans/laws.FnCrewCounts", spec := "fnCrewCounts", unfollowed := true, recurses := true, apart := false }
def FnCrewCountsSaid : Prop := fnCrewCountsRow.holds Tryz.pinned (OpenSpec.ofChange fnCrewCountsSpec)

/-- ITS FALSE NEIGHBOUR: 'it returns false'. Refute it at one input. -/
def fnCrewCountsWrong : ChangeSpec := { name := "fnCrewCounts", fn := fun _ => fun
  | [d] => { results := [.lit (.bool false)], args := [d] }
  | _ => none }
def FnCrewCountsWrongFalsely : Prop := fnCrewCountsRow.holds Tryz.pinned (OpenSpec.ofChange fnCrewCountsWrong)

/-- 'laws.FnCrewRows': WHATEVER THE INPUT: true; the input reads as it did. -/
def fnCrewRowsSpec : ChangeSpec := { name := "fnCrewRows", fn := fun _ => fun
  | [d] => { results := [.lit (.bool true)], args := [d] }
  | _ => none }
def fnCrewRowsRow : OpenClaim := { program := "ytlmdmgjppdhelaagreat", sum := "72e7cc2c64700d81b4b742719ccacaab621b0b9c34e6d623853279eda1708307", func := "loop.example/workplans/laws.FnCrewRows", spec := "fnCrewRows", unfollowed := true, recurses := true, apart := false }
def FnCrewRowsSaid : Prop := fnCrewRowsRow.holds Tryz.pinned (OpenSpec.ofChange fnCrewRowsSpec)

/-- ITS FALSE NEIGHBOUR: 'it returns false'. Refute it at one input. -/
def fnCrewRowsWrong : ChangeSpec := { name := "fnCrewRows", fn := fun _ => fun
  | [d] => { results := [.lit (.bool false)], args := [d] }
  | _ => none }
def FnCrewRowsWrongFalsely : Prop := fnCrewRowsRow.holds Tryz.pinned (OpenSpec.ofChange fnCrewRowsWrong)

/-- 'laws.FnCrewAt': WHATEVER THE INPUT: true; the input reads as it did. -/
def fnCrewAtSpec : ChangeSpec := { name := "fnCrewAt", fn := fun _ => fun
  | [d] => { results := [.lit (.bool true)], args := [d] }
  | _ => none }
def fnCrewAtRow : OpenClaim := { program := "ytlmdmgjppdhelaagreat", sum := "72e7cc2c64700d81b4b742719ccacaab621b0b9c34e6d623853279eda1708307", func := "loop.example/workplans/laws.FnCrewAt", spec := "fnCrewAt", unfollowed := true, recurses := true, apart := false }
def FnCrewAtSaid : Prop := fnCrewAtRow.holds Tryz.pinned (OpenSpec.ofChange fnCrewAtSpec)

/-- ITS FALSE NEIGHBOUR: 'it returns false'. Refute it at one input. -/
def fnCrewAtWrong : ChangeSpec := { name := "fnCrewAt", fn := fun _ => fun
  | [d] => { results := [.lit (.bool false)], args := [d] }
  | _ => none }
def FnCrewAtWrongFalsely : Prop := fnCrewAtRow.holds Tryz.pinned (OpenSpec.ofChange fnCrewAtWrong)

/-- 'laws.FnCrewAtNone': WHATEVER THE INPUT: true; the input reads as it did. -/
def fnCrewAtNoneSpec : ChangeSpec := { name := "fnCrewAtNone", fn := fun _ => fun
  | [d] => { results := [.lit (.bool true)], args := [d] }
  | _ => none }
def fnCrewAtNoneRow : OpenClaim := { program := "ytlmdmgjppdhelaagreat", sum := "72e7cc2c64700d81b4b742719ccacaab621b0b9c34e6d623853279eda1708307", func := "loop.example/workplans/laws.FnCrewAtNone", spec := "fnCrewAtNone", unfollowed := true, recurses := true, apart := false }
def FnCrewAtNoneSaid : Prop := fnCrewAtNoneRow.holds Tryz.pinned (OpenSpec.ofChange fnCrewAtNoneSpec)

/-- ITS FALSE NEIGHBOUR: 'it returns false'. Refute it at one input. -/
def fnCrewAtNoneWrong : ChangeSpec := { name := "fnCrewAtNone", fn := fun _ => fun
  | [d] => { results := [.lit (.bool false)], args := [d] }
  | _ => none }
def FnCrewAtNoneWrongFalsely : Prop := fnCrewAtNoneRow.holds Tryz.pinned (OpenSpec.ofChange fnCrewAtNoneWrong)

/- THE SECOND FORM. 'bulk': how many values and letters a reading holds, each counted each time it is reached (what is shared counts as often as it is met; a slice's spare places count too). A statement '..UptoSaid' is the law's where the arguments, and the package variables that the reading takes, are together of bulk at most 1048576: NARROWER than '..Said'. Prove '..Said' where nothing that the law and all that it calls make is longer than what came in: it says more and counts as full. Else prove '..UptoSaid'. A law counts once. -/
mutual
def uptoBulk {H : Type} : DataW H → Nat
  | .lit (.string bytes) => bytes.length + 1
  | .lit _ => 1
  | .nil => 1
  | .ptr d => uptoBulk d + 1
  | .slice elems spare => uptoBulkAll elems + uptoBulkAll spare + 1
  | .agg parts => uptoBulkAll parts + 1
  | .iface _ d => uptoBulk d + 1
  | .map entries => uptoBulkEntries entries + 1
  | .held _ => 1
def uptoBulkAll {H : Type} : List (DataW H) → Nat
  | [] => 0
  | d :: r => uptoBulk d + uptoBulkAll r
def uptoBulkEntries {H : Type} : List (Lit × DataW H) → Nat
  | [] => 0
  | x :: r => uptoBulkEntry x + uptoBulkEntries r
def uptoBulkEntry {H : Type} : Lit × DataW H → Nat
  | (.string bytes, d) => bytes.length + uptoBulk d + 1
  | (_, d) => uptoBulk d + 1
 end
def uptoSmall : (H : Type) → List (DataW H) → Bool := fun _ ds => decide (uptoBulkAll ds ≤ 1048576)
def OpenSpec.upto (s : _root_.Go.ChangeSpec) : _root_.Go.OpenSpec := { _root_.Go.OpenSpec.ofChange s with cond := some uptoSmall }

/-- 'laws.FnCrewTurn', WHERE WHAT IT READS IS OF BULK AT MOST 1048576: true; the input reads as it did. -/
def fnCrewTurnUptoRow : OpenClaim := { program := "ytlmdmgjppdhelaagreat", sum := "72e7cc2c64700d81b4b742719ccacaab621b0b9c34e6d623853279eda1708307", func := "loop.example/workplans/laws.FnCrewTurn", spec := "fnCrewTurn", unfollowed := true, recurses := true, apart := false, narrowed := true }
def FnCrewTurnUptoSaid : Prop := fnCrewTurnUptoRow.holds Tryz.pinned (OpenSpec.upto fnCrewTurnSpec)

/-- 'laws.FnCrewLeft', WHERE WHAT IT READS IS OF BULK AT MOST 1048576: true; the input reads as it did. -/
def fnCrewLeftUptoRow : OpenClaim := { program := "ytlmdmgjppdhelaagreat", sum := "72e7cc2c64700d81b4b742719ccacaab621b0b9c34e6d623853279eda1708307", func := "loop.example/workplans/laws.FnCrewLeft", spec := "fnCrewLeft", unfollowed := true, recurses := true, apart := false, narrowed := true }
def FnCrewLeftUptoSaid : Prop := fnCrewLeftUptoRow.holds Tryz.pinned (OpenSpec.upto fnCrewLeftSpec)

/-- 'laws.FnTurnFrom', WHERE WHAT IT READS IS OF BULK AT MOST 1048576: true; the input reads as it did. -/
def fnTurnFromUptoRow : OpenClaim := { program := "ytlmdmgjppdhelaagreat", sum := "72e7cc2c64700d81b4b742719ccacaab621b0b9c34e6d623853279eda1708307", func := "loop.example/workplans/laws.FnTurnFrom", spec := "fnTurnFrom", unfollowed := true, recurses := true, apart := false, narrowed := true }
def FnTurnFromUptoSaid : Prop := fnTurnFromUptoRow.holds Tryz.pinned (OpenSpec.upto fnTurnFromSpec)

/-- 'laws.FnTurnFromNext', WHERE WHAT IT READS IS OF BULK AT MOST 1048576: true; the input reads as it did. -/
def fnTurnFromNextUptoRow : OpenClaim := { program := "ytlmdmgjppdhelaagreat", sum := "72e7cc2c64700d81b4b742719ccacaab621b0b9c34e6d623853279eda1708307", func := "loop.example/workplans/laws.FnTurnFromNext", spec := "fnTurnFromNext", unfollowed := true, recurses := true, apart := false, narrowed := true }
def FnTurnFromNextUptoSaid : Prop := fnTurnFromNextUptoRow.holds Tryz.pinned (OpenSpec.upto fnTurnFromNextSpec)

/-- 'laws.FnCrewReady', WHERE WHAT IT READS IS OF BULK AT MOST 1048576: true; the input reads as it did. -/
def fnCrewReadyUptoRow : OpenClaim := { program := "ytlmdmgjppdhelaagreat", sum := "72e7cc2c64700d81b4b742719ccacaab621b0b9c34e6d623853279eda1708307", func := "loop.example/workplans/laws.FnCrewReady", spec := "fnCrewReady", unfollowed := true, recurses := true, apart := false, narrowed := true }
def FnCrewReadyUptoSaid : Prop := fnCrewReadyUptoRow.holds Tryz.pinned (OpenSpec.upto fnCrewReadySpec)

/-- 'laws.FnTurnFromNone', WHERE WHAT IT READS IS OF BULK AT MOST 1048576: true; the input reads as it did. -/
def fnTurnFromNoneUptoRow : OpenClaim := { program := "ytlmdmgjppdhelaagreat", sum := "72e7cc2c64700d81b4b742719ccacaab621b0b9c34e6d623853279eda1708307", func := "loop.example/workplans/laws.FnTurnFromNone", spec := "fnTurnFromNone", unfollowed := true, recurses := true, apart := false, narrowed := true }
def FnTurnFromNoneUptoSaid : Prop := fnTurnFromNoneUptoRow.holds Tryz.pinned (OpenSpec.upto fnTurnFromNoneSpec)

/-- 'laws.FnCrewCounts', WHERE WHAT IT READS IS OF BULK AT MOST 1048576: true; the input reads as it did. -/
def fnCrewCountsUptoRow : OpenClaim := { program := "ytlmdmgjppdhelaagreat", sum := "72e7cc2c64700d81b4b742719ccacaab621b0b9c34e6d623853279eda1708307", func := "loop.example/workplans/laws.FnCrewCounts", spec := "fnCrewCounts", unfollowed := true, recurses := true, apart := false, narrowed := true }
def FnCrewCountsUptoSaid : Prop := fnCrewCountsUptoRow.holds Tryz.pinned (OpenSpec.upto fnCrewCountsSpec)

/-- 'laws.FnCrewRows', WHERE WHAT IT READS IS OF BULK AT MOST 1048576: true; the input reads as it did. -/
def fnCrewRowsUptoRow : OpenClaim := { program := "ytlmdmgjppdhelaagreat", sum := "72e7cc2c64700d81b4b742719ccacaab621b0b9c34e6d623853279eda1708307", func := "loop.example/workplans/laws.FnCrewRows", spec := "fnCrewRows", unfollowed := true, recurses := true, apart := false, narrowed := true }
def FnCrewRowsUptoSaid : Prop := fnCrewRowsUptoRow.holds Tryz.pinned (OpenSpec.upto fnCrewRowsSpec)

/-- 'laws.FnCrewAt', WHERE WHAT IT READS IS OF BULK AT MOST 1048576: true; the input reads as it did. -/
def fnCrewAtUptoRow : OpenClaim := { program := "ytlmdmgjppdhelaagreat", sum := "72e7cc2c64700d81b4b742719ccacaab621b0b9c34e6d623853279eda1708307", func := "loop.example/workplans/laws.FnCrewAt", spec := "fnCrewAt", unfollowed := true, recurses := true, apart := false, narrowed := true }
def FnCrewAtUptoSaid : Prop := fnCrewAtUptoRow.holds Tryz.pinned (OpenSpec.upto fnCrewAtSpec)

/-- 'laws.FnCrewAtNone', WHERE WHAT IT READS IS OF BULK AT MOST 1048576: true; the input reads as it did. -/
def fnCrewAtNoneUptoRow : OpenClaim := { program := "ytlmdmgjppdhelaagreat", sum := "72e7cc2c64700d81b4b742719ccacaab621b0b9c34e6d623853279eda1708307", func := "loop.example/workplans/laws.FnCrewAtNone", spec := "fnCrewAtNone", unfollowed := true, recurses := true, apart := false, narrowed := true }
def FnCrewAtNoneUptoSaid : Prop := fnCrewAtNoneUptoRow.holds Tryz.pinned (OpenSpec.upto fnCrewAtNoneSpec)

end Rows
end Go.Proofs.YtlmdmgjppdhelaaGreat
