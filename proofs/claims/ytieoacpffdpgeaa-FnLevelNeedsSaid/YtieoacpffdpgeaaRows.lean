/-
  No cell of these rows narrows 'for every input' (looked for: loops, veiled, ifaces, maps, wideKeys, modest, calm, conditions, laid).
  DERIVED. THE GIVEN ROWS OF THIS SEAT. 12 by the template 'for every input the law returns true; each argument reads behind the call as it read before'; 0 by the template 'total and deterministic' (their statements: YtieoacpffdpgeaaTotals.lean).
  GIVEN WITH THE SEED: the statements are not yours to turn. If you find one false, say at which input.
  Laid BY PROGRAM, IN A SANDBOX (cutbox-rows.mjs): the forced cells as the released guide's own fill.sh prints them over the translation 0b2c5759eed441c7… (all of the seat's roots in one cut). By AI agents, Wed Nov 11 2026. No macro, syntax, notation, axiom, sorry.
-/
import Derived.Test.YtieoacpffdpgeaaChecked
import GoSem.Claim
import GoSem.ClaimJoined
import GoSem.ClaimMapViews
import Derived.JoinedTies
import Derived.KernelRfl
namespace Go.Proofs.Ytieoacpffdpgeaa
/- THE CELL 'sum', in the pinned program and in every row, IS THE sha256 OF THE DUMP (.gsa) THAT YtieoacpffdpgeaaProg.lean LOADS. Nothing in Lean hashes anything: it is a label: what it is worth is what the hold of that sum in a sandbox is worth. -/
noncomputable def Try.pinned : Pinned := { name := "ytieoacpffdpgeaa", sum := "0b2c5759eed441c76be4e9e58a77a6a0a40e00810e215c5dfc5b113d92bcf75c", checked := Try.checked }
namespace Rows
def none {H : Type} : Left H := { results := [], args := [] }

/-- 'laws.FnExactLevelOf': WHATEVER THE INPUT: true; the input reads as it did. -/
def fnExactLevelOfSpec : ChangeSpec := { name := "fnExactLevelOf", fn := fun _ => fun
  | [d1, d2] => { results := [.lit (.bool true)], args := [d1, d2] }
  | _ => none }
def fnExactLevelOfRow : OpenClaim := { program := "ytieoacpffdpgeaa", sum := "0b2c5759eed441c76be4e9e58a77a6a0a40e00810e215c5dfc5b113d92bcf75c", func := "loop.example/workplans/laws.FnExactLevelOf", spec := "fnExactLevelOf", unfollowed := true, recurses := true, apart := false }
def FnExactLevelOfSaid : Prop := fnExactLevelOfRow.holds Try.pinned (OpenSpec.ofChange fnExactLevelOfSpec)

/-- ITS FALSE NEIGHBOUR: 'it returns false'. Refute it at one input. -/
def fnExactLevelOfWrong : ChangeSpec := { name := "fnExactLevelOf", fn := fun _ => fun
  | [d1, d2] => { results := [.lit (.bool false)], args := [d1, d2] }
  | _ => none }
def FnExactLevelOfWrongFalsely : Prop := fnExactLevelOfRow.holds Try.pinned (OpenSpec.ofChange fnExactLevelOfWrong)

/-- 'laws.FnLevelNeeds': WHATEVER THE INPUT: true; the input reads as it did. -/
def fnLevelNeedsSpec : ChangeSpec := { name := "fnLevelNeeds", fn := fun _ => fun
  | [d] => { results := [.lit (.bool true)], args := [d] }
  | _ => none }
def fnLevelNeedsRow : OpenClaim := { program := "ytieoacpffdpgeaa", sum := "0b2c5759eed441c76be4e9e58a77a6a0a40e00810e215c5dfc5b113d92bcf75c", func := "loop.example/workplans/laws.FnLevelNeeds", spec := "fnLevelNeeds", unfollowed := true, recurses := true, apart := false }
def FnLevelNeedsSaid : Prop := fnLevelNeedsRow.holds Try.pinned (OpenSpec.ofChange fnLevelNeedsSpec)

/-- ITS FALSE NEIGHBOUR: 'it returns false'. Refute it at one input. -/
def fnLevelNeedsWrong : ChangeSpec := { name := "fnLevelNeeds", fn := fun _ => fun
  | [d] => { results := [.lit (.bool false)], args := [d] }
  | _ => none }
def FnLevelNeedsWrongFalsely : Prop := fnLevelNeedsRow.holds Try.pinned (OpenSpec.ofChange fnLevelNeedsWrong)

/-- 'laws.FnCostLeast': WHATEVER THE INPUT: true; the input reads as it did. -/
def fnCostLeastSpec : ChangeSpec := { name := "fnCostLeast", fn := fun _ => fun
  | [d] => { results := [.lit (.bool true)], args := [d] }
  | _ => none }
def fnCostLeastRow : OpenClaim := { program := "ytieoacpffdpgeaa", sum := "0b2c5759eed441c76be4e9e58a77a6a0a40e00810e215c5dfc5b113d92bcf75c", func := "loop.example/workplans/laws.FnCostLeast", spec := "fnCostLeast", unfollowed := true, recurses := true, apart := false }
def FnCostLeastSaid : Prop := fnCostLeastRow.holds Try.pinned (OpenSpec.ofChange fnCostLeastSpec)

/-- ITS FALSE NEIGHBOUR: 'it returns false'. Refute it at one input. -/
def fnCostLeastWrong : ChangeSpec := { name := "fnCostLeast", fn := fun _ => fun
  | [d] => { results := [.lit (.bool false)], args := [d] }
  | _ => none }
def FnCostLeastWrongFalsely : Prop := fnCostLeastRow.holds Try.pinned (OpenSpec.ofChange fnCostLeastWrong)

/-- 'laws.FnCostLeastMore': WHATEVER THE INPUT: true; the input reads as it did. -/
def fnCostLeastMoreSpec : ChangeSpec := { name := "fnCostLeastMore", fn := fun _ => fun
  | [d] => { results := [.lit (.bool true)], args := [d] }
  | _ => none }
def fnCostLeastMoreRow : OpenClaim := { program := "ytieoacpffdpgeaa", sum := "0b2c5759eed441c76be4e9e58a77a6a0a40e00810e215c5dfc5b113d92bcf75c", func := "loop.example/workplans/laws.FnCostLeastMore", spec := "fnCostLeastMore", unfollowed := true, recurses := true, apart := false }
def FnCostLeastMoreSaid : Prop := fnCostLeastMoreRow.holds Try.pinned (OpenSpec.ofChange fnCostLeastMoreSpec)

/-- ITS FALSE NEIGHBOUR: 'it returns false'. Refute it at one input. -/
def fnCostLeastMoreWrong : ChangeSpec := { name := "fnCostLeastMore", fn := fun _ => fun
  | [d] => { results := [.lit (.bool false)], args := [d] }
  | _ => none }
def FnCostLeastMoreWrongFalsely : Prop := fnCostLeastMoreRow.holds Try.pinned (OpenSpec.ofChange fnCostLeastMoreWrong)

/-- 'laws.FnBufferMost': WHATEVER THE INPUT: true; the input reads as it did. -/
def fnBufferMostSpec : ChangeSpec := { name := "fnBufferMost", fn := fun _ => fun
  | [d] => { results := [.lit (.bool true)], args := [d] }
  | _ => none }
def fnBufferMostRow : OpenClaim := { program := "ytieoacpffdpgeaa", sum := "0b2c5759eed441c76be4e9e58a77a6a0a40e00810e215c5dfc5b113d92bcf75c", func := "loop.example/workplans/laws.FnBufferMost", spec := "fnBufferMost", unfollowed := true, recurses := true, apart := false }
def FnBufferMostSaid : Prop := fnBufferMostRow.holds Try.pinned (OpenSpec.ofChange fnBufferMostSpec)

/-- ITS FALSE NEIGHBOUR: 'it returns false'. Refute it at one input. -/
def fnBufferMostWrong : ChangeSpec := { name := "fnBufferMost", fn := fun _ => fun
  | [d] => { results := [.lit (.bool false)], args := [d] }
  | _ => none }
def FnBufferMostWrongFalsely : Prop := fnBufferMostRow.holds Try.pinned (OpenSpec.ofChange fnBufferMostWrong)

/-- 'laws.FnBufferFits': WHATEVER THE INPUT: true; the input reads as it did. -/
def fnBufferFitsSpec : ChangeSpec := { name := "fnBufferFits", fn := fun _ => fun
  | [d] => { results := [.lit (.bool true)], args := [d] }
  | _ => none }
def fnBufferFitsRow : OpenClaim := { program := "ytieoacpffdpgeaa", sum := "0b2c5759eed441c76be4e9e58a77a6a0a40e00810e215c5dfc5b113d92bcf75c", func := "loop.example/workplans/laws.FnBufferFits", spec := "fnBufferFits", unfollowed := true, recurses := true, apart := false }
def FnBufferFitsSaid : Prop := fnBufferFitsRow.holds Try.pinned (OpenSpec.ofChange fnBufferFitsSpec)

/-- ITS FALSE NEIGHBOUR: 'it returns false'. Refute it at one input. -/
def fnBufferFitsWrong : ChangeSpec := { name := "fnBufferFits", fn := fun _ => fun
  | [d] => { results := [.lit (.bool false)], args := [d] }
  | _ => none }
def FnBufferFitsWrongFalsely : Prop := fnBufferFitsRow.holds Try.pinned (OpenSpec.ofChange fnBufferFitsWrong)

/-- 'laws.FnLevels': WHATEVER THE INPUT: true; the input reads as it did. -/
def fnLevelsSpec : ChangeSpec := { name := "fnLevels", fn := fun _ => fun
  | [d] => { results := [.lit (.bool true)], args := [d] }
  | _ => none }
def fnLevelsRow : OpenClaim := { program := "ytieoacpffdpgeaa", sum := "0b2c5759eed441c76be4e9e58a77a6a0a40e00810e215c5dfc5b113d92bcf75c", func := "loop.example/workplans/laws.FnLevels", spec := "fnLevels", unfollowed := true, recurses := true, apart := false }
def FnLevelsSaid : Prop := fnLevelsRow.holds Try.pinned (OpenSpec.ofChange fnLevelsSpec)

/-- ITS FALSE NEIGHBOUR: 'it returns false'. Refute it at one input. -/
def fnLevelsWrong : ChangeSpec := { name := "fnLevels", fn := fun _ => fun
  | [d] => { results := [.lit (.bool false)], args := [d] }
  | _ => none }
def FnLevelsWrongFalsely : Prop := fnLevelsRow.holds Try.pinned (OpenSpec.ofChange fnLevelsWrong)

/-- 'laws.FnExactCostLeast': WHATEVER THE INPUT: true; the input reads as it did. -/
def fnExactCostLeastSpec : ChangeSpec := { name := "fnExactCostLeast", fn := fun _ => fun
  | [d1, d2] => { results := [.lit (.bool true)], args := [d1, d2] }
  | _ => none }
def fnExactCostLeastRow : OpenClaim := { program := "ytieoacpffdpgeaa", sum := "0b2c5759eed441c76be4e9e58a77a6a0a40e00810e215c5dfc5b113d92bcf75c", func := "loop.example/workplans/laws.FnExactCostLeast", spec := "fnExactCostLeast", unfollowed := true, recurses := true, apart := false }
def FnExactCostLeastSaid : Prop := fnExactCostLeastRow.holds Try.pinned (OpenSpec.ofChange fnExactCostLeastSpec)

/-- ITS FALSE NEIGHBOUR: 'it returns false'. Refute it at one input. -/
def fnExactCostLeastWrong : ChangeSpec := { name := "fnExactCostLeast", fn := fun _ => fun
  | [d1, d2] => { results := [.lit (.bool false)], args := [d1, d2] }
  | _ => none }
def FnExactCostLeastWrongFalsely : Prop := fnExactCostLeastRow.holds Try.pinned (OpenSpec.ofChange fnExactCostLeastWrong)

/-- 'laws.FnCostPath': WHATEVER THE INPUT: true; the input reads as it did. -/
def fnCostPathSpec : ChangeSpec := { name := "fnCostPath", fn := fun _ => fun
  | [d] => { results := [.lit (.bool true)], args := [d] }
  | _ => none }
def fnCostPathRow : OpenClaim := { program := "ytieoacpffdpgeaa", sum := "0b2c5759eed441c76be4e9e58a77a6a0a40e00810e215c5dfc5b113d92bcf75c", func := "loop.example/workplans/laws.FnCostPath", spec := "fnCostPath", unfollowed := true, recurses := true, apart := false }
def FnCostPathSaid : Prop := fnCostPathRow.holds Try.pinned (OpenSpec.ofChange fnCostPathSpec)

/-- ITS FALSE NEIGHBOUR: 'it returns false'. Refute it at one input. -/
def fnCostPathWrong : ChangeSpec := { name := "fnCostPath", fn := fun _ => fun
  | [d] => { results := [.lit (.bool false)], args := [d] }
  | _ => none }
def FnCostPathWrongFalsely : Prop := fnCostPathRow.holds Try.pinned (OpenSpec.ofChange fnCostPathWrong)

/-- 'laws.FnBufferFitsAll': WHATEVER THE INPUT: true; the input reads as it did. -/
def fnBufferFitsAllSpec : ChangeSpec := { name := "fnBufferFitsAll", fn := fun _ => fun
  | [d] => { results := [.lit (.bool true)], args := [d] }
  | _ => none }
def fnBufferFitsAllRow : OpenClaim := { program := "ytieoacpffdpgeaa", sum := "0b2c5759eed441c76be4e9e58a77a6a0a40e00810e215c5dfc5b113d92bcf75c", func := "loop.example/workplans/laws.FnBufferFitsAll", spec := "fnBufferFitsAll", unfollowed := true, recurses := true, apart := false }
def FnBufferFitsAllSaid : Prop := fnBufferFitsAllRow.holds Try.pinned (OpenSpec.ofChange fnBufferFitsAllSpec)

/-- ITS FALSE NEIGHBOUR: 'it returns false'. Refute it at one input. -/
def fnBufferFitsAllWrong : ChangeSpec := { name := "fnBufferFitsAll", fn := fun _ => fun
  | [d] => { results := [.lit (.bool false)], args := [d] }
  | _ => none }
def FnBufferFitsAllWrongFalsely : Prop := fnBufferFitsAllRow.holds Try.pinned (OpenSpec.ofChange fnBufferFitsAllWrong)

/-- 'laws.FnBufferGive': WHATEVER THE INPUT: true; the input reads as it did. -/
def fnBufferGiveSpec : ChangeSpec := { name := "fnBufferGive", fn := fun _ => fun
  | [d] => { results := [.lit (.bool true)], args := [d] }
  | _ => none }
def fnBufferGiveRow : OpenClaim := { program := "ytieoacpffdpgeaa", sum := "0b2c5759eed441c76be4e9e58a77a6a0a40e00810e215c5dfc5b113d92bcf75c", func := "loop.example/workplans/laws.FnBufferGive", spec := "fnBufferGive", unfollowed := true, recurses := true, apart := false }
def FnBufferGiveSaid : Prop := fnBufferGiveRow.holds Try.pinned (OpenSpec.ofChange fnBufferGiveSpec)

/-- ITS FALSE NEIGHBOUR: 'it returns false'. Refute it at one input. -/
def fnBufferGiveWrong : ChangeSpec := { name := "fnBufferGive", fn := fun _ => fun
  | [d] => { results := [.lit (.bool false)], args := [d] }
  | _ => none }
def FnBufferGiveWrongFalsely : Prop := fnBufferGiveRow.holds Try.pinned (OpenSpec.ofChange fnBufferGiveWrong)

/-- 'laws.FnBufferGiveMost': WHATEVER THE INPUT: true; the input reads as it did. -/
def fnBufferGiveMostSpec : ChangeSpec := { name := "fnBufferGiveMost", fn := fun _ => fun
  | [d] => { results := [.lit (.bool true)], args := [d] }
  | _ => none }
def fnBufferGiveMostRow : OpenClaim := { program := "ytieoacpffdpgeaa", sum := "0b2c5759eed441c76be4e9e58a77a6a0a40e00810e215c5dfc5b113d92bcf75c", func := "loop.example/workplans/laws.FnBufferGiveMost", spec := "fnBufferGiveMost", unfollowed := true, recurses := true, apart := false }
def FnBufferGiveMostSaid : Prop := fnBufferGiveMostRow.holds Try.pinned (OpenSpec.ofChange fnBufferGiveMostSpec)

/-- ITS FALSE NEIGHBOUR: 'it returns false'. Refute it at one input. -/
def fnBufferGiveMostWrong : ChangeSpec := { name := "fnBufferGiveMost", fn := fun _ => fun
  | [d] => { results := [.lit (.bool false)], args := [d] }
  | _ => none }
def FnBufferGiveMostWrongFalsely : Prop := fnBufferGiveMostRow.holds Try.pinned (OpenSpec.ofChange fnBufferGiveMostWrong)

/- THE SECOND FORM. 'bulk': how many values and letters a reading holds, each counted each time it is reached (what is shared counts as often as it is met; a slice's spare places count too). A statement '..UptoSaid' is the law's where the arguments, and the package variables that the reading takes, are together of bulk at most 1048576: NARROWER than '..Said'. Prove '..Said' where nothing that the law and all that it calls make is longer than what came in: it says more and counts as full. Else prove '..UptoSaid'. A law counts once. -/
mutual
def uptoBulk {H : Type} : DataW H → Nat
  | .lit (.string bytes) => bytes.length + 1
  | .lit _ => 1
  | .nil => 1
  | .ptr d => uptoBulk d + 1
  | .slice elems spare => uptoBulkAll elems + uptoBulkAll spare + 1
  | .agg parts => uptoBulkAll parts + 1
  | .iface _ d => uptoBulk d + 1
  | .map entries => uptoBulkEntries entries + 1
  | .held _ => 1
def uptoBulkAll {H : Type} : List (DataW H) → Nat
  | [] => 0
  | d :: r => uptoBulk d + uptoBulkAll r
def uptoBulkEntries {H : Type} : List (Lit × DataW H) → Nat
  | [] => 0
  | x :: r => uptoBulkEntry x + uptoBulkEntries r
def uptoBulkEntry {H : Type} : Lit × DataW H → Nat
  | (.string bytes, d) => bytes.length + uptoBulk d + 1
  | (_, d) => uptoBulk d + 1
 end
def uptoSmall : (H : Type) → List (DataW H) → Bool := fun _ ds => decide (uptoBulkAll ds ≤ 1048576)
def OpenSpec.upto (s : _root_.Go.ChangeSpec) : _root_.Go.OpenSpec := { _root_.Go.OpenSpec.ofChange s with cond := some uptoSmall }

/-- 'laws.FnExactLevelOf', WHERE WHAT IT READS IS OF BULK AT MOST 1048576: true; the input reads as it did. -/
def fnExactLevelOfUptoRow : OpenClaim := { program := "ytieoacpffdpgeaa", sum := "0b2c5759eed441c76be4e9e58a77a6a0a40e00810e215c5dfc5b113d92bcf75c", func := "loop.example/workplans/laws.FnExactLevelOf", spec := "fnExactLevelOf", unfollowed := true, recurses := true, apart := false, narrowed := true }
def FnExactLevelOfUptoSaid : Prop := fnExactLevelOfUptoRow.holds Try.pinned (OpenSpec.upto fnExactLevelOfSpec)

/-- 'laws.FnLevelNeeds', WHERE WHAT IT READS IS OF BULK AT MOST 1048576: true; the input reads as it did. -/
def fnLevelNeedsUptoRow : OpenClaim := { program := "ytieoacpffdpgeaa", sum := "0b2c5759eed441c76be4e9e58a77a6a0a40e00810e215c5dfc5b113d92bcf75c", func := "loop.example/workplans/laws.FnLevelNeeds", spec := "fnLevelNeeds", unfollowed := true, recurses := true, apart := false, narrowed := true }
def FnLevelNeedsUptoSaid : Prop := fnLevelNeedsUptoRow.holds Try.pinned (OpenSpec.upto fnLevelNeedsSpec)

/-- 'laws.FnCostLeast', WHERE WHAT IT READS IS OF BULK AT MOST 1048576: true; the input reads as it did. -/
def fnCostLeastUptoRow : OpenClaim := { program := "ytieoacpffdpgeaa", sum := "0b2c5759eed441c76be4e9e58a77a6a0a40e00810e215c5dfc5b113d92bcf75c", func := "loop.example/workplans/laws.FnCostLeast", spec := "fnCostLeast", unfollowed := true, recurses := true, apart := false, narrowed := true }
def FnCostLeastUptoSaid : Prop := fnCostLeastUptoRow.holds Try.pinned (OpenSpec.upto fnCostLeastSpec)

/-- 'laws.FnCostLeastMore', WHERE WHAT IT READS IS OF BULK AT MOST 1048576: true; the input reads as it did. -/
def fnCostLeastMoreUptoRow : OpenClaim := { program := "ytieoacpffdpgeaa", sum := "0b2c5759eed441c76be4e9e58a77a6a0a40e00810e215c5dfc5b113d92bcf75c", func := "loop.example/workplans/laws.FnCostLeastMore", spec := "fnCostLeastMore", unfollowed := true, recurses := true, apart := false, narrowed := true }
def FnCostLeastMoreUptoSaid : Prop := fnCostLeastMoreUptoRow.holds Try.pinned (OpenSpec.upto fnCostLeastMoreSpec)

/-- 'laws.FnBufferMost', WHERE WHAT IT READS IS OF BULK AT MOST 1048576: true; the input reads as it did. -/
def fnBufferMostUptoRow : OpenClaim := { program := "ytieoacpffdpgeaa", sum := "0b2c5759eed441c76be4e9e58a77a6a0a40e00810e215c5dfc5b113d92bcf75c", func := "loop.example/workplans/laws.FnBufferMost", spec := "fnBufferMost", unfollowed := true, recurses := true, apart := false, narrowed := true }
def FnBufferMostUptoSaid : Prop := fnBufferMostUptoRow.holds Try.pinned (OpenSpec.upto fnBufferMostSpec)

/-- 'laws.FnBufferFits', WHERE WHAT IT READS IS OF BULK AT MOST 1048576: true; the input reads as it did. -/
def fnBufferFitsUptoRow : OpenClaim := { program := "ytieoacpffdpgeaa", sum := "0b2c5759eed441c76be4e9e58a77a6a0a40e00810e215c5dfc5b113d92bcf75c", func := "loop.example/workplans/laws.FnBufferFits", spec := "fnBufferFits", unfollowed := true, recurses := true, apart := false, narrowed := true }
def FnBufferFitsUptoSaid : Prop := fnBufferFitsUptoRow.holds Try.pinned (OpenSpec.upto fnBufferFitsSpec)

/-- 'laws.FnLevels', WHERE WHAT IT READS IS OF BULK AT MOST 1048576: true; the input reads as it did. -/
def fnLevelsUptoRow : OpenClaim := { program := "ytieoacpffdpgeaa", sum := "0b2c5759eed441c76be4e9e58a77a6a0a40e00810e215c5dfc5b113d92bcf75c", func := "loop.example/workplans/laws.FnLevels", spec := "fnLevels", unfollowed := true, recurses := true, apart := false, narrowed := true }
def FnLevelsUptoSaid : Prop := fnLevelsUptoRow.holds Try.pinned (OpenSpec.upto fnLevelsSpec)

/-- 'laws.FnExactCostLeast', WHERE WHAT IT READS IS OF BULK AT MOST 1048576: true; the input reads as it did. -/
def fnExactCostLeastUptoRow : OpenClaim := { program := "ytieoacpffdpgeaa", sum := "0b2c5759eed441c76be4e9e58a77a6a0a40e00810e215c5dfc5b113d92bcf75c", func := "loop.example/workplans/laws.FnExactCostLeast", spec := "fnExactCostLeast", unfollowed := true, recurses := true, apart := false, narrowed := true }
def FnExactCostLeastUptoSaid : Prop := fnExactCostLeastUptoRow.holds Try.pinned (OpenSpec.upto fnExactCostLeastSpec)

/-- 'laws.FnCostPath', WHERE WHAT IT READS IS OF BULK AT MOST 1048576: true; the input reads as it did. -/
def fnCostPathUptoRow : OpenClaim := { program := "ytieoacpffdpgeaa", sum := "0b2c5759eed441c76be4e9e58a77a6a0a40e00810e215c5dfc5b113d92bcf75c", func := "loop.example/workplans/laws.FnCostPath", spec := "fnCostPath", unfollowed := true, recurses := true, apart := false, narrowed := true }
def FnCostPathUptoSaid : Prop := fnCostPathUptoRow.holds Try.pinned (OpenSpec.upto fnCostPathSpec)

/-- 'laws.FnBufferFitsAll', WHERE WHAT IT READS IS OF BULK AT MOST 1048576: true; the input reads as it did. -/
def fnBufferFitsAllUptoRow : OpenClaim := { program := "ytieoacpffdpgeaa", sum := "0b2c5759eed441c76be4e9e58a77a6a0a40e00810e215c5dfc5b113d92bcf75c", func := "loop.example/workplans/laws.FnBufferFitsAll", spec := "fnBufferFitsAll", unfollowed := true, recurses := true, apart := false, narrowed := true }
def FnBufferFitsAllUptoSaid : Prop := fnBufferFitsAllUptoRow.holds Try.pinned (OpenSpec.upto fnBufferFitsAllSpec)

/-- 'laws.FnBufferGive', WHERE WHAT IT READS IS OF BULK AT MOST 1048576: true; the input reads as it did. -/
def fnBufferGiveUptoRow : OpenClaim := { program := "ytieoacpffdpgeaa", sum := "0b2c5759eed441c76be4e9e58a77a6a0a40e00810e215c5dfc5b113d92bcf75c", func := "loop.example/workplans/laws.FnBufferGive", spec := "fnBufferGive", unfollowed := true, recurses := true, apart := false, narrowed := true }
def FnBufferGiveUptoSaid : Prop := fnBufferGiveUptoRow.holds Try.pinned (OpenSpec.upto fnBufferGiveSpec)

/-- 'laws.FnBufferGiveMost', WHERE WHAT IT READS IS OF BULK AT MOST 1048576: true; the input reads as it did. -/
def fnBufferGiveMostUptoRow : OpenClaim := { program := "ytieoacpffdpgeaa", sum := "0b2c5759eed441c76be4e9e58a77a6a0a40e00810e215c5dfc5b113d92bcf75c", func := "loop.example/workplans/laws.FnBufferGiveMost", spec := "fnBufferGiveMost", unfollowed := true, recurses := true, apart := false, narrowed := true }
def FnBufferGiveMostUptoSaid : Prop := fnBufferGiveMostUptoRow.holds Try.pinned (OpenSpec.upto fnBufferGiveMostSpec)

end Rows
end Go.Proofs.Ytieoacpffdpgeaa
