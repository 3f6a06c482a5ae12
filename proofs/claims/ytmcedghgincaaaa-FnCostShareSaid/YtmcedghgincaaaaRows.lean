/-
  No cell of these rows narrows 'for every input' (looked for: loops, veiled, ifaces, maps, wideKeys, modest, calm, conditions, laid).
  DERIVED. THE GIVEN ROWS OF THIS SEAT. 12 by the template 'for every input the law returns true; each argument reads behind the call as it read before'; 0 by the template 'total and deterministic' (their statements: YtmcedghgincaaaaTotals.lean).
  GIVEN WITH THE SEED: the statements are not yours to turn. If you find one false, say at which input.
  Laid BY PROGRAM, IN A SANDBOX (cutbox-rows.mjs): the forced cells as the released guide's own fill.sh prints them over the translation 6f2e0ae58a73c8df… (all of the seat's roots in one cut). By AI agents, Wed Nov 11 2026. No macro, syntax, notation, axiom, sorry.
-/
import Derived.Test.YtmcedghgincaaaaChecked
import GoSem.Claim
import GoSem.ClaimJoined
import GoSem.ClaimMapViews
import Derived.JoinedTies
import Derived.KernelRfl
namespace Go.Proofs.Ytmcedghgincaaaa
/- THE CELL 'sum', in the pinned program and in every row, IS THE sha256 OF THE DUMP (.gsa) THAT YtmcedghgincaaaaProg.lean LOADS. Nothing in Lean hashes anything: it is a label: what it is worth is what the hold of that sum in a sandbox is worth. -/
noncomputable def Try.pinned : Pinned := { name := "ytmcedghgincaaaa", sum := "6f2e0ae58a73c8df4405fb370fa0995fc0109d1ff44246b027522fa8ef5782b5", checked := Try.checked }
namespace Rows
def none {H : Type} : Left H := { results := [], args := [] }

/-- 'laws.FnCostShare': WHATEVER THE INPUT: true; the input reads as it did. -/
def fnCostShareSpec : ChangeSpec := { name := "fnCostShare", fn := fun _ => fun
  | [d] => { results := [.lit (.bool true)], args := [d] }
  | _ => none }
def fnCostShareRow : OpenClaim := { program := "ytmcedghgincaaaa", sum := "6f2e0ae58a73c8df4405fb370fa0995fc0109d1ff44246b027522fa8ef5782b5", func := "loop.example/workplans/laws.FnCostShare", spec := "fnCostShare", unfollowed := true, recurses := true, plainKeys := false, apart := false }
def FnCostShareSaid : Prop := fnCostShareRow.holds Try.pinned (OpenSpec.ofChange fnCostShareSpec)

/-- ITS FALSE NEIGHBOUR: 'it returns false'. Refute it at one input. -/
def fnCostShareWrong : ChangeSpec := { name := "fnCostShare", fn := fun _ => fun
  | [d] => { results := [.lit (.bool false)], args := [d] }
  | _ => none }
def FnCostShareWrongFalsely : Prop := fnCostShareRow.holds Try.pinned (OpenSpec.ofChange fnCostShareWrong)

/-- 'laws.FnCountsAll': WHATEVER THE INPUT: true; the input reads as it did. -/
def fnCountsAllSpec : ChangeSpec := { name := "fnCountsAll", fn := fun _ => fun
  | [d] => { results := [.lit (.bool true)], args := [d] }
  | _ => none }
def fnCountsAllRow : OpenClaim := { program := "ytmcedghgincaaaa", sum := "6f2e0ae58a73c8df4405fb370fa0995fc0109d1ff44246b027522fa8ef5782b5", func := "loop.example/workplans/laws.FnCountsAll", spec := "fnCountsAll", unfollowed := true, recurses := true, plainKeys := false, apart := false }
def FnCountsAllSaid : Prop := fnCountsAllRow.holds Try.pinned (OpenSpec.ofChange fnCountsAllSpec)

/-- ITS FALSE NEIGHBOUR: 'it returns false'. Refute it at one input. -/
def fnCountsAllWrong : ChangeSpec := { name := "fnCountsAll", fn := fun _ => fun
  | [d] => { results := [.lit (.bool false)], args := [d] }
  | _ => none }
def FnCountsAllWrongFalsely : Prop := fnCountsAllRow.holds Try.pinned (OpenSpec.ofChange fnCountsAllWrong)

/-- 'laws.FnLevelsReady': WHATEVER THE INPUT: true; the input reads as it did. -/
def fnLevelsReadySpec : ChangeSpec := { name := "fnLevelsReady", fn := fun _ => fun
  | [d] => { results := [.lit (.bool true)], args := [d] }
  | _ => none }
def fnLevelsReadyRow : OpenClaim := { program := "ytmcedghgincaaaa", sum := "6f2e0ae58a73c8df4405fb370fa0995fc0109d1ff44246b027522fa8ef5782b5", func := "loop.example/workplans/laws.FnLevelsReady", spec := "fnLevelsReady", unfollowed := true, recurses := true, plainKeys := false, apart := false }
def FnLevelsReadySaid : Prop := fnLevelsReadyRow.holds Try.pinned (OpenSpec.ofChange fnLevelsReadySpec)

/-- ITS FALSE NEIGHBOUR: 'it returns false'. Refute it at one input. -/
def fnLevelsReadyWrong : ChangeSpec := { name := "fnLevelsReady", fn := fun _ => fun
  | [d] => { results := [.lit (.bool false)], args := [d] }
  | _ => none }
def FnLevelsReadyWrongFalsely : Prop := fnLevelsReadyRow.holds Try.pinned (OpenSpec.ofChange fnLevelsReadyWrong)

/-- 'laws.FnExactBufferGive': WHATEVER THE INPUT: true; the input reads as it did. -/
def fnExactBufferGiveSpec : ChangeSpec := { name := "fnExactBufferGive", fn := fun _ => fun
  | [d] => { results := [.lit (.bool true)], args := [d] }
  | _ => none }
def fnExactBufferGiveRow : OpenClaim := { program := "ytmcedghgincaaaa", sum := "6f2e0ae58a73c8df4405fb370fa0995fc0109d1ff44246b027522fa8ef5782b5", func := "loop.example/workplans/laws.FnExactBufferGive", spec := "fnExactBufferGive", unfollowed := true, recurses := true, plainKeys := false, apart := false }
def FnExactBufferGiveSaid : Prop := fnExactBufferGiveRow.holds Try.pinned (OpenSpec.ofChange fnExactBufferGiveSpec)

/-- ITS FALSE NEIGHBOUR: 'it returns false'. Refute it at one input. -/
def fnExactBufferGiveWrong : ChangeSpec := { name := "fnExactBufferGive", fn := fun _ => fun
  | [d] => { results := [.lit (.bool false)], args := [d] }
  | _ => none }
def FnExactBufferGiveWrongFalsely : Prop := fnExactBufferGiveRow.holds Try.pinned (OpenSpec.ofChange fnExactBufferGiveWrong)

/-- 'laws.FnRounds': WHATEVER THE INPUT: true; the input reads as it did. -/
def fnRoundsSpec : ChangeSpec := { name := "fnRounds", fn := fun _ => fun
  | [d] => { results := [.lit (.bool true)], args := [d] }
  | _ => none }
def fnRoundsRow : OpenClaim := { program := "ytmcedghgincaaaa", sum := "6f2e0ae58a73c8df4405fb370fa0995fc0109d1ff44246b027522fa8ef5782b5", func := "loop.example/workplans/laws.FnRounds", spec := "fnRounds", unfollowed := true, recurses := true, plainKeys := false, apart := false }
def FnRoundsSaid : Prop := fnRoundsRow.holds Try.pinned (OpenSpec.ofChange fnRoundsSpec)

/-- ITS FALSE NEIGHBOUR: 'it returns false'. Refute it at one input. -/
def fnRoundsWrong : ChangeSpec := { name := "fnRounds", fn := fun _ => fun
  | [d] => { results := [.lit (.bool false)], args := [d] }
  | _ => none }
def FnRoundsWrongFalsely : Prop := fnRoundsRow.holds Try.pinned (OpenSpec.ofChange fnRoundsWrong)

/-- 'laws.FnCountsNew': WHATEVER THE INPUT: true; the input reads as it did. -/
def fnCountsNewSpec : ChangeSpec := { name := "fnCountsNew", fn := fun _ => fun
  | [d] => { results := [.lit (.bool true)], args := [d] }
  | _ => none }
def fnCountsNewRow : OpenClaim := { program := "ytmcedghgincaaaa", sum := "6f2e0ae58a73c8df4405fb370fa0995fc0109d1ff44246b027522fa8ef5782b5", func := "loop.example/workplans/laws.FnCountsNew", spec := "fnCountsNew", unfollowed := true, recurses := true, plainKeys := false, apart := false }
def FnCountsNewSaid : Prop := fnCountsNewRow.holds Try.pinned (OpenSpec.ofChange fnCountsNewSpec)

/-- ITS FALSE NEIGHBOUR: 'it returns false'. Refute it at one input. -/
def fnCountsNewWrong : ChangeSpec := { name := "fnCountsNew", fn := fun _ => fun
  | [d] => { results := [.lit (.bool false)], args := [d] }
  | _ => none }
def FnCountsNewWrongFalsely : Prop := fnCountsNewRow.holds Try.pinned (OpenSpec.ofChange fnCountsNewWrong)

/-- 'laws.FnCountsSum': WHATEVER THE INPUT: true; the input reads as it did. -/
def fnCountsSumSpec : ChangeSpec := { name := "fnCountsSum", fn := fun _ => fun
  | [d] => { results := [.lit (.bool true)], args := [d] }
  | _ => none }
def fnCountsSumRow : OpenClaim := { program := "ytmcedghgincaaaa", sum := "6f2e0ae58a73c8df4405fb370fa0995fc0109d1ff44246b027522fa8ef5782b5", func := "loop.example/workplans/laws.FnCountsSum", spec := "fnCountsSum", unfollowed := true, recurses := true, plainKeys := false, apart := false }
def FnCountsSumSaid : Prop := fnCountsSumRow.holds Try.pinned (OpenSpec.ofChange fnCountsSumSpec)

/-- ITS FALSE NEIGHBOUR: 'it returns false'. Refute it at one input. -/
def fnCountsSumWrong : ChangeSpec := { name := "fnCountsSum", fn := fun _ => fun
  | [d] => { results := [.lit (.bool false)], args := [d] }
  | _ => none }
def FnCountsSumWrongFalsely : Prop := fnCountsSumRow.holds Try.pinned (OpenSpec.ofChange fnCountsSumWrong)

/-- 'laws.FnExactLevelsOf': WHATEVER THE INPUT: true; the input reads as it did. -/
def fnExactLevelsOfSpec : ChangeSpec := { name := "fnExactLevelsOf", fn := fun _ => fun
  | [d] => { results := [.lit (.bool true)], args := [d] }
  | _ => none }
def fnExactLevelsOfRow : OpenClaim := { program := "ytmcedghgincaaaa", sum := "6f2e0ae58a73c8df4405fb370fa0995fc0109d1ff44246b027522fa8ef5782b5", func := "loop.example/workplans/laws.FnExactLevelsOf", spec := "fnExactLevelsOf", unfollowed := true, recurses := true, plainKeys := false, apart := false }
def FnExactLevelsOfSaid : Prop := fnExactLevelsOfRow.holds Try.pinned (OpenSpec.ofChange fnExactLevelsOfSpec)

/-- ITS FALSE NEIGHBOUR: 'it returns false'. Refute it at one input. -/
def fnExactLevelsOfWrong : ChangeSpec := { name := "fnExactLevelsOf", fn := fun _ => fun
  | [d] => { results := [.lit (.bool false)], args := [d] }
  | _ => none }
def FnExactLevelsOfWrongFalsely : Prop := fnExactLevelsOfRow.holds Try.pinned (OpenSpec.ofChange fnExactLevelsOfWrong)

/-- 'laws.FnCostPathNode': WHATEVER THE INPUT: true; the input reads as it did. -/
def fnCostPathNodeSpec : ChangeSpec := { name := "fnCostPathNode", fn := fun _ => fun
  | [d1, d2] => { results := [.lit (.bool true)], args := [d1, d2] }
  | _ => none }
def fnCostPathNodeRow : OpenClaim := { program := "ytmcedghgincaaaa", sum := "6f2e0ae58a73c8df4405fb370fa0995fc0109d1ff44246b027522fa8ef5782b5", func := "loop.example/workplans/laws.FnCostPathNode", spec := "fnCostPathNode", unfollowed := true, recurses := true, plainKeys := false, apart := false }
def FnCostPathNodeSaid : Prop := fnCostPathNodeRow.holds Try.pinned (OpenSpec.ofChange fnCostPathNodeSpec)

/-- ITS FALSE NEIGHBOUR: 'it returns false'. Refute it at one input. -/
def fnCostPathNodeWrong : ChangeSpec := { name := "fnCostPathNode", fn := fun _ => fun
  | [d1, d2] => { results := [.lit (.bool false)], args := [d1, d2] }
  | _ => none }
def FnCostPathNodeWrongFalsely : Prop := fnCostPathNodeRow.holds Try.pinned (OpenSpec.ofChange fnCostPathNodeWrong)

/-- 'laws.FnCountsDone': WHATEVER THE INPUT: true; the input reads as it did. -/
def fnCountsDoneSpec : ChangeSpec := { name := "fnCountsDone", fn := fun _ => fun
  | [d] => { results := [.lit (.bool true)], args := [d] }
  | _ => none }
def fnCountsDoneRow : OpenClaim := { program := "ytmcedghgincaaaa", sum := "6f2e0ae58a73c8df4405fb370fa0995fc0109d1ff44246b027522fa8ef5782b5", func := "loop.example/workplans/laws.FnCountsDone", spec := "fnCountsDone", unfollowed := true, recurses := true, plainKeys := false, apart := false }
def FnCountsDoneSaid : Prop := fnCountsDoneRow.holds Try.pinned (OpenSpec.ofChange fnCountsDoneSpec)

/-- ITS FALSE NEIGHBOUR: 'it returns false'. Refute it at one input. -/
def fnCountsDoneWrong : ChangeSpec := { name := "fnCountsDone", fn := fun _ => fun
  | [d] => { results := [.lit (.bool false)], args := [d] }
  | _ => none }
def FnCountsDoneWrongFalsely : Prop := fnCountsDoneRow.holds Try.pinned (OpenSpec.ofChange fnCountsDoneWrong)

/-- 'laws.FnBufferRun': WHATEVER THE INPUT: true; the input reads as it did. -/
def fnBufferRunSpec : ChangeSpec := { name := "fnBufferRun", fn := fun _ => fun
  | [d] => { results := [.lit (.bool true)], args := [d] }
  | _ => none }
def fnBufferRunRow : OpenClaim := { program := "ytmcedghgincaaaa", sum := "6f2e0ae58a73c8df4405fb370fa0995fc0109d1ff44246b027522fa8ef5782b5", func := "loop.example/workplans/laws.FnBufferRun", spec := "fnBufferRun", unfollowed := true, recurses := true, plainKeys := false, apart := false }
def FnBufferRunSaid : Prop := fnBufferRunRow.holds Try.pinned (OpenSpec.ofChange fnBufferRunSpec)

/-- ITS FALSE NEIGHBOUR: 'it returns false'. Refute it at one input. -/
def fnBufferRunWrong : ChangeSpec := { name := "fnBufferRun", fn := fun _ => fun
  | [d] => { results := [.lit (.bool false)], args := [d] }
  | _ => none }
def FnBufferRunWrongFalsely : Prop := fnBufferRunRow.holds Try.pinned (OpenSpec.ofChange fnBufferRunWrong)

/-- 'laws.FnExactCountsDone': WHATEVER THE INPUT: true; the input reads as it did. -/
def fnExactCountsDoneSpec : ChangeSpec := { name := "fnExactCountsDone", fn := fun _ => fun
  | [d1, d2, d3] => { results := [.lit (.bool true)], args := [d1, d2, d3] }
  | _ => none }
def fnExactCountsDoneRow : OpenClaim := { program := "ytmcedghgincaaaa", sum := "6f2e0ae58a73c8df4405fb370fa0995fc0109d1ff44246b027522fa8ef5782b5", func := "loop.example/workplans/laws.FnExactCountsDone", spec := "fnExactCountsDone", unfollowed := true, recurses := true, plainKeys := false, apart := false }
def FnExactCountsDoneSaid : Prop := fnExactCountsDoneRow.holds Try.pinned (OpenSpec.ofChange fnExactCountsDoneSpec)

/-- ITS FALSE NEIGHBOUR: 'it returns false'. Refute it at one input. -/
def fnExactCountsDoneWrong : ChangeSpec := { name := "fnExactCountsDone", fn := fun _ => fun
  | [d1, d2, d3] => { results := [.lit (.bool false)], args := [d1, d2, d3] }
  | _ => none }
def FnExactCountsDoneWrongFalsely : Prop := fnExactCountsDoneRow.holds Try.pinned (OpenSpec.ofChange fnExactCountsDoneWrong)

/- THE SECOND FORM. 'bulk': how many values and letters a reading holds, each counted each time it is reached (what is shared counts as often as it is met; a slice's spare places count too). A statement '..UptoSaid' is the law's where the arguments, and the package variables that the reading takes, are together of bulk at most 1048576: NARROWER than '..Said'. Prove '..Said' where nothing that the law and all that it calls make is longer than what came in: it says more and counts as full. Else prove '..UptoSaid'. A law counts once. -/
mutual
def uptoBulk {H : Type} : DataW H → Nat
  | .lit (.string bytes) => bytes.length + 1
  | .lit _ => 1
  | .nil => 1
  | .ptr d => uptoBulk d + 1
  | .slice elems spare => uptoBulkAll elems + uptoBulkAll spare + 1
  | .agg parts => uptoBulkAll parts + 1
  | .iface _ d => uptoBulk d + 1
  | .map entries => uptoBulkEntries entries + 1
  | .held _ => 1
def uptoBulkAll {H : Type} : List (DataW H) → Nat
  | [] => 0
  | d :: r => uptoBulk d + uptoBulkAll r
def uptoBulkEntries {H : Type} : List (Lit × DataW H) → Nat
  | [] => 0
  | x :: r => uptoBulkEntry x + uptoBulkEntries r
def uptoBulkEntry {H : Type} : Lit × DataW H → Nat
  | (.string bytes, d) => bytes.length + uptoBulk d + 1
  | (_, d) => uptoBulk d + 1
 end
def uptoSmall : (H : Type) → List (DataW H) → Bool := fun _ ds => decide (uptoBulkAll ds ≤ 1048576)
def OpenSpec.upto (s : _root_.Go.ChangeSpec) : _root_.Go.OpenSpec := { _root_.Go.OpenSpec.ofChange s with cond := some uptoSmall }

/-- 'laws.FnCostShare', WHERE WHAT IT READS IS OF BULK AT MOST 1048576: true; the input reads as it did. -/
def fnCostShareUptoRow : OpenClaim := { program := "ytmcedghgincaaaa", sum := "6f2e0ae58a73c8df4405fb370fa0995fc0109d1ff44246b027522fa8ef5782b5", func := "loop.example/workplans/laws.FnCostShare", spec := "fnCostShare", unfollowed := true, recurses := true, plainKeys := false, apart := false, narrowed := true }
def FnCostShareUptoSaid : Prop := fnCostShareUptoRow.holds Try.pinned (OpenSpec.upto fnCostShareSpec)

/-- 'laws.FnCountsAll', WHERE WHAT IT READS IS OF BULK AT MOST 1048576: true; the input reads as it did. -/
def fnCountsAllUptoRow : OpenClaim := { program := "ytmcedghgincaaaa", sum := "6f2e0ae58a73c8df4405fb370fa0995fc0109d1ff44246b027522fa8ef5782b5", func := "loop.example/workplans/laws.FnCountsAll", spec := "fnCountsAll", unfollowed := true, recurses := true, plainKeys := false, apart := false, narrowed := true }
def FnCountsAllUptoSaid : Prop := fnCountsAllUptoRow.holds Try.pinned (OpenSpec.upto fnCountsAllSpec)

/-- 'laws.FnLevelsReady', WHERE WHAT IT READS IS OF BULK AT MOST 1048576: true; the input reads as it did. -/
def fnLevelsReadyUptoRow : OpenClaim := { program := "ytmcedghgincaaaa", sum := "6f2e0ae58a73c8df4405fb370fa0995fc0109d1ff44246b027522fa8ef5782b5", func := "loop.example/workplans/laws.FnLevelsReady", spec := "fnLevelsReady", unfollowed := true, recurses := true, plainKeys := false, apart := false, narrowed := true }
def FnLevelsReadyUptoSaid : Prop := fnLevelsReadyUptoRow.holds Try.pinned (OpenSpec.upto fnLevelsReadySpec)

/-- 'laws.FnExactBufferGive', WHERE WHAT IT READS IS OF BULK AT MOST 1048576: true; the input reads as it did. -/
def fnExactBufferGiveUptoRow : OpenClaim := { program := "ytmcedghgincaaaa", sum := "6f2e0ae58a73c8df4405fb370fa0995fc0109d1ff44246b027522fa8ef5782b5", func := "loop.example/workplans/laws.FnExactBufferGive", spec := "fnExactBufferGive", unfollowed := true, recurses := true, plainKeys := false, apart := false, narrowed := true }
def FnExactBufferGiveUptoSaid : Prop := fnExactBufferGiveUptoRow.holds Try.pinned (OpenSpec.upto fnExactBufferGiveSpec)

/-- 'laws.FnRounds', WHERE WHAT IT READS IS OF BULK AT MOST 1048576: true; the input reads as it did. -/
def fnRoundsUptoRow : OpenClaim := { program := "ytmcedghgincaaaa", sum := "6f2e0ae58a73c8df4405fb370fa0995fc0109d1ff44246b027522fa8ef5782b5", func := "loop.example/workplans/laws.FnRounds", spec := "fnRounds", unfollowed := true, recurses := true, plainKeys := false, apart := false, narrowed := true }
def FnRoundsUptoSaid : Prop := fnRoundsUptoRow.holds Try.pinned (OpenSpec.upto fnRoundsSpec)

/-- 'laws.FnCountsNew', WHERE WHAT IT READS IS OF BULK AT MOST 1048576: true; the input reads as it did. -/
def fnCountsNewUptoRow : OpenClaim := { program := "ytmcedghgincaaaa", sum := "6f2e0ae58a73c8df4405fb370fa0995fc0109d1ff44246b027522fa8ef5782b5", func := "loop.example/workplans/laws.FnCountsNew", spec := "fnCountsNew", unfollowed := true, recurses := true, plainKeys := false, apart := false, narrowed := true }
def FnCountsNewUptoSaid : Prop := fnCountsNewUptoRow.holds Try.pinned (OpenSpec.upto fnCountsNewSpec)

/-- 'laws.FnCountsSum', WHERE WHAT IT READS IS OF BULK AT MOST 1048576: true; the input reads as it did. -/
def fnCountsSumUptoRow : OpenClaim := { program := "ytmcedghgincaaaa", sum := "6f2e0ae58a73c8df4405fb370fa0995fc0109d1ff44246b027522fa8ef5782b5", func := "loop.example/workplans/laws.FnCountsSum", spec := "fnCountsSum", unfollowed := true, recurses := true, plainKeys := false, apart := false, narrowed := true }
def FnCountsSumUptoSaid : Prop := fnCountsSumUptoRow.holds Try.pinned (OpenSpec.upto fnCountsSumSpec)

/-- 'laws.FnExactLevelsOf', WHERE WHAT IT READS IS OF BULK AT MOST 1048576: true; the input reads as it did. -/
def fnExactLevelsOfUptoRow : OpenClaim := { program := "ytmcedghgincaaaa", sum := "6f2e0ae58a73c8df4405fb370fa0995fc0109d1ff44246b027522fa8ef5782b5", func := "loop.example/workplans/laws.FnExactLevelsOf", spec := "fnExactLevelsOf", unfollowed := true, recurses := true, plainKeys := false, apart := false, narrowed := true }
def FnExactLevelsOfUptoSaid : Prop := fnExactLevelsOfUptoRow.holds Try.pinned (OpenSpec.upto fnExactLevelsOfSpec)

/-- 'laws.FnCostPathNode', WHERE WHAT IT READS IS OF BULK AT MOST 1048576: true; the input reads as it did. -/
def fnCostPathNodeUptoRow : OpenClaim := { program := "ytmcedghgincaaaa", sum := "6f2e0ae58a73c8df4405fb370fa0995fc0109d1ff44246b027522fa8ef5782b5", func := "loop.example/workplans/laws.FnCostPathNode", spec := "fnCostPathNode", unfollowed := true, recurses := true, plainKeys := false, apart := false, narrowed := true }
def FnCostPathNodeUptoSaid : Prop := fnCostPathNodeUptoRow.holds Try.pinned (OpenSpec.upto fnCostPathNodeSpec)

/-- 'laws.FnCountsDone', WHERE WHAT IT READS IS OF BULK AT MOST 1048576: true; the input reads as it did. -/
def fnCountsDoneUptoRow : OpenClaim := { program := "ytmcedghgincaaaa", sum := "6f2e0ae58a73c8df4405fb370fa0995fc0109d1ff44246b027522fa8ef5782b5", func := "loop.example/workplans/laws.FnCountsDone", spec := "fnCountsDone", unfollowed := true, recurses := true, plainKeys := false, apart := false, narrowed := true }
def FnCountsDoneUptoSaid : Prop := fnCountsDoneUptoRow.holds Try.pinned (OpenSpec.upto fnCountsDoneSpec)

/-- 'laws.FnBufferRun', WHERE WHAT IT READS IS OF BULK AT MOST 1048576: true; the input reads as it did. -/
def fnBufferRunUptoRow : OpenClaim := { program := "ytmcedghgincaaaa", sum := "6f2e0ae58a73c8df4405fb370fa0995fc0109d1ff44246b027522fa8ef5782b5", func := "loop.example/workplans/laws.FnBufferRun", spec := "fnBufferRun", unfollowed := true, recurses := true, plainKeys := false, apart := false, narrowed := true }
def FnBufferRunUptoSaid : Prop := fnBufferRunUptoRow.holds Try.pinned (OpenSpec.upto fnBufferRunSpec)

/-- 'laws.FnExactCountsDone', WHERE WHAT IT READS IS OF BULK AT MOST 1048576: true; the input reads as it did. -/
def fnExactCountsDoneUptoRow : OpenClaim := { program := "ytmcedghgincaaaa", sum := "6f2e0ae58a73c8df4405fb370fa0995fc0109d1ff44246b027522fa8ef5782b5", func := "loop.example/workplans/laws.FnExactCountsDone", spec := "fnExactCountsDone", unfollowed := true, recurses := true, plainKeys := false, apart := false, narrowed := true }
def FnExactCountsDoneUptoSaid : Prop := fnExactCountsDoneUptoRow.holds Try.pinned (OpenSpec.upto fnExactCountsDoneSpec)

end Rows
end Go.Proofs.Ytmcedghgincaaaa
