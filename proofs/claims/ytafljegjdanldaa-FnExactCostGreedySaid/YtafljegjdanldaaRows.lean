/-
  No cell of these rows narrows 'for every input' (looked for: loops, veiled, ifaces, maps, wideKeys, modest, calm, conditions, laid).
  DERIVED. THE GIVEN ROWS OF THIS SEAT. 8 by the template 'for every input the law returns true; each argument reads behind the call as it read before'; 0 by the template 'total and deterministic' (their statements: YtafljegjdanldaaTotals.lean).
  GIVEN WITH THE SEED: the statements are not yours to turn. If you find one false, say at which input.
  Laid BY PROGRAM, IN A SANDBOX (cutbox-rows.mjs): the forced cells as the released guide's own fill.sh prints them over the translation 12011fd220353a48… (all of the seat's roots in one cut). By AI agents, Wed Nov 11 2026. No macro, syntax, notation, axiom, sorry.
-/
import Derived.Test.YtafljegjdanldaaChecked
import GoSem.Claim
import GoSem.ClaimJoined
import GoSem.ClaimMapViews
import Derived.JoinedTies
import Derived.KernelRfl
namespace Go.Proofs.Ytafljegjdanldaa
/- THE CELL 'sum', in the pinned program and in every row, IS THE sha256 OF THE DUMP (.gsa) THAT YtafljegjdanldaaProg.lean LOADS. Nothing in Lean hashes anything: it is a label: what it is worth is what the hold of that sum in a sandbox is worth. -/
noncomputable def Try.pinned : Pinned := { name := "ytafljegjdanldaa", sum := "12011fd220353a48ea93516b1a6b4ba77bf5bed76f2358a9f86a5865bcb3a833", checked := Try.checked }
namespace Rows
def none {H : Type} : Left H := { results := [], args := [] }

/-- 'laws.FnBufferRun': WHATEVER THE INPUT: true; the input reads as it did. -/
def fnBufferRunSpec : ChangeSpec := { name := "fnBufferRun", fn := fun _ => fun
  | [d] => { results := [.lit (.bool true)], args := [d] }
  | _ => none }
def fnBufferRunRow : OpenClaim := { program := "ytafljegjdanldaa", sum := "12011fd220353a48ea93516b1a6b4ba77bf5bed76f2358a9f86a5865bcb3a833", func := "loop.example/workplans/laws.FnBufferRun", spec := "fnBufferRun", unfollowed := true, recurses := true, plainKeys := false, apart := false }
def FnBufferRunSaid : Prop := fnBufferRunRow.holds Try.pinned (OpenSpec.ofChange fnBufferRunSpec)

/-- ITS FALSE NEIGHBOUR: 'it returns false'. Refute it at one input. -/
def fnBufferRunWrong : ChangeSpec := { name := "fnBufferRun", fn := fun _ => fun
  | [d] => { results := [.lit (.bool false)], args := [d] }
  | _ => none }
def FnBufferRunWrongFalsely : Prop := fnBufferRunRow.holds Try.pinned (OpenSpec.ofChange fnBufferRunWrong)

/-- 'laws.FnGreedyOne': WHATEVER THE INPUT: true; the input reads as it did. -/
def fnGreedyOneSpec : ChangeSpec := { name := "fnGreedyOne", fn := fun _ => fun
  | [d] => { results := [.lit (.bool true)], args := [d] }
  | _ => none }
def fnGreedyOneRow : OpenClaim := { program := "ytafljegjdanldaa", sum := "12011fd220353a48ea93516b1a6b4ba77bf5bed76f2358a9f86a5865bcb3a833", func := "loop.example/workplans/laws.FnGreedyOne", spec := "fnGreedyOne", unfollowed := true, recurses := true, plainKeys := false, apart := false }
def FnGreedyOneSaid : Prop := fnGreedyOneRow.holds Try.pinned (OpenSpec.ofChange fnGreedyOneSpec)

/-- ITS FALSE NEIGHBOUR: 'it returns false'. Refute it at one input. -/
def fnGreedyOneWrong : ChangeSpec := { name := "fnGreedyOne", fn := fun _ => fun
  | [d] => { results := [.lit (.bool false)], args := [d] }
  | _ => none }
def FnGreedyOneWrongFalsely : Prop := fnGreedyOneRow.holds Try.pinned (OpenSpec.ofChange fnGreedyOneWrong)

/-- 'laws.FnExactCostGreedy': WHATEVER THE INPUT: true; the input reads as it did. -/
def fnExactCostGreedySpec : ChangeSpec := { name := "fnExactCostGreedy", fn := fun _ => fun
  | [d1, d2] => { results := [.lit (.bool true)], args := [d1, d2] }
  | _ => none }
def fnExactCostGreedyRow : OpenClaim := { program := "ytafljegjdanldaa", sum := "12011fd220353a48ea93516b1a6b4ba77bf5bed76f2358a9f86a5865bcb3a833", func := "loop.example/workplans/laws.FnExactCostGreedy", spec := "fnExactCostGreedy", unfollowed := true, recurses := true, plainKeys := false, apart := false }
def FnExactCostGreedySaid : Prop := fnExactCostGreedyRow.holds Try.pinned (OpenSpec.ofChange fnExactCostGreedySpec)

/-- ITS FALSE NEIGHBOUR: 'it returns false'. Refute it at one input. -/
def fnExactCostGreedyWrong : ChangeSpec := { name := "fnExactCostGreedy", fn := fun _ => fun
  | [d1, d2] => { results := [.lit (.bool false)], args := [d1, d2] }
  | _ => none }
def FnExactCostGreedyWrongFalsely : Prop := fnExactCostGreedyRow.holds Try.pinned (OpenSpec.ofChange fnExactCostGreedyWrong)

/-- 'laws.FnCutShare': WHATEVER THE INPUT: true; the input reads as it did. -/
def fnCutShareSpec : ChangeSpec := { name := "fnCutShare", fn := fun _ => fun
  | [d] => { results := [.lit (.bool true)], args := [d] }
  | _ => none }
def fnCutShareRow : OpenClaim := { program := "ytafljegjdanldaa", sum := "12011fd220353a48ea93516b1a6b4ba77bf5bed76f2358a9f86a5865bcb3a833", func := "loop.example/workplans/laws.FnCutShare", spec := "fnCutShare", unfollowed := true, recurses := true, plainKeys := false, apart := false }
def FnCutShareSaid : Prop := fnCutShareRow.holds Try.pinned (OpenSpec.ofChange fnCutShareSpec)

/-- ITS FALSE NEIGHBOUR: 'it returns false'. Refute it at one input. -/
def fnCutShareWrong : ChangeSpec := { name := "fnCutShare", fn := fun _ => fun
  | [d] => { results := [.lit (.bool false)], args := [d] }
  | _ => none }
def FnCutShareWrongFalsely : Prop := fnCutShareRow.holds Try.pinned (OpenSpec.ofChange fnCutShareWrong)

/-- 'laws.FnGreedyMost': WHATEVER THE INPUT: true; the input reads as it did. -/
def fnGreedyMostSpec : ChangeSpec := { name := "fnGreedyMost", fn := fun _ => fun
  | [d] => { results := [.lit (.bool true)], args := [d] }
  | _ => none }
def fnGreedyMostRow : OpenClaim := { program := "ytafljegjdanldaa", sum := "12011fd220353a48ea93516b1a6b4ba77bf5bed76f2358a9f86a5865bcb3a833", func := "loop.example/workplans/laws.FnGreedyMost", spec := "fnGreedyMost", unfollowed := true, recurses := true, plainKeys := false, apart := false }
def FnGreedyMostSaid : Prop := fnGreedyMostRow.holds Try.pinned (OpenSpec.ofChange fnGreedyMostSpec)

/-- ITS FALSE NEIGHBOUR: 'it returns false'. Refute it at one input. -/
def fnGreedyMostWrong : ChangeSpec := { name := "fnGreedyMost", fn := fun _ => fun
  | [d] => { results := [.lit (.bool false)], args := [d] }
  | _ => none }
def FnGreedyMostWrongFalsely : Prop := fnGreedyMostRow.holds Try.pinned (OpenSpec.ofChange fnGreedyMostWrong)

/-- 'laws.FnGreedy': WHATEVER THE INPUT: true; the input reads as it did. -/
def fnGreedySpec : ChangeSpec := { name := "fnGreedy", fn := fun _ => fun
  | [d] => { results := [.lit (.bool true)], args := [d] }
  | _ => none }
def fnGreedyRow : OpenClaim := { program := "ytafljegjdanldaa", sum := "12011fd220353a48ea93516b1a6b4ba77bf5bed76f2358a9f86a5865bcb3a833", func := "loop.example/workplans/laws.FnGreedy", spec := "fnGreedy", unfollowed := true, recurses := true, plainKeys := false, apart := false }
def FnGreedySaid : Prop := fnGreedyRow.holds Try.pinned (OpenSpec.ofChange fnGreedySpec)

/-- ITS FALSE NEIGHBOUR: 'it returns false'. Refute it at one input. -/
def fnGreedyWrong : ChangeSpec := { name := "fnGreedy", fn := fun _ => fun
  | [d] => { results := [.lit (.bool false)], args := [d] }
  | _ => none }
def FnGreedyWrongFalsely : Prop := fnGreedyRow.holds Try.pinned (OpenSpec.ofChange fnGreedyWrong)

/-- 'laws.FnCostFold': WHATEVER THE INPUT: true; the input reads as it did. -/
def fnCostFoldSpec : ChangeSpec := { name := "fnCostFold", fn := fun _ => fun
  | [d] => { results := [.lit (.bool true)], args := [d] }
  | _ => none }
def fnCostFoldRow : OpenClaim := { program := "ytafljegjdanldaa", sum := "12011fd220353a48ea93516b1a6b4ba77bf5bed76f2358a9f86a5865bcb3a833", func := "loop.example/workplans/laws.FnCostFold", spec := "fnCostFold", unfollowed := true, recurses := true, plainKeys := false, apart := false }
def FnCostFoldSaid : Prop := fnCostFoldRow.holds Try.pinned (OpenSpec.ofChange fnCostFoldSpec)

/-- ITS FALSE NEIGHBOUR: 'it returns false'. Refute it at one input. -/
def fnCostFoldWrong : ChangeSpec := { name := "fnCostFold", fn := fun _ => fun
  | [d] => { results := [.lit (.bool false)], args := [d] }
  | _ => none }
def FnCostFoldWrongFalsely : Prop := fnCostFoldRow.holds Try.pinned (OpenSpec.ofChange fnCostFoldWrong)

/-- 'laws.FnFoldEnds': WHATEVER THE INPUT: true; the input reads as it did. -/
def fnFoldEndsSpec : ChangeSpec := { name := "fnFoldEnds", fn := fun _ => fun
  | [d] => { results := [.lit (.bool true)], args := [d] }
  | _ => none }
def fnFoldEndsRow : OpenClaim := { program := "ytafljegjdanldaa", sum := "12011fd220353a48ea93516b1a6b4ba77bf5bed76f2358a9f86a5865bcb3a833", func := "loop.example/workplans/laws.FnFoldEnds", spec := "fnFoldEnds", unfollowed := true, recurses := true, plainKeys := false, apart := false }
def FnFoldEndsSaid : Prop := fnFoldEndsRow.holds Try.pinned (OpenSpec.ofChange fnFoldEndsSpec)

/-- ITS FALSE NEIGHBOUR: 'it returns false'. Refute it at one input. -/
def fnFoldEndsWrong : ChangeSpec := { name := "fnFoldEnds", fn := fun _ => fun
  | [d] => { results := [.lit (.bool false)], args := [d] }
  | _ => none }
def FnFoldEndsWrongFalsely : Prop := fnFoldEndsRow.holds Try.pinned (OpenSpec.ofChange fnFoldEndsWrong)

/- THE SECOND FORM. 'bulk': how many values and letters a reading holds, each counted each time it is reached (what is shared counts as often as it is met; a slice's spare places count too). A statement '..UptoSaid' is the law's where the arguments, and the package variables that the reading takes, are together of bulk at most 1048576: NARROWER than '..Said'. Prove '..Said' where nothing that the law and all that it calls make is longer than what came in: it says more and counts as full. Else prove '..UptoSaid'. A law counts once. -/
mutual
def uptoBulk {H : Type} : DataW H → Nat
  | .lit (.string bytes) => bytes.length + 1
  | .lit _ => 1
  | .nil => 1
  | .ptr d => uptoBulk d + 1
  | .slice elems spare => uptoBulkAll elems + uptoBulkAll spare + 1
  | .agg parts => uptoBulkAll parts + 1
  | .iface _ d => uptoBulk d + 1
  | .map entries => uptoBulkEntries entries + 1
  | .held _ => 1
def uptoBulkAll {H : Type} : List (DataW H) → Nat
  | [] => 0
  | d :: r => uptoBulk d + uptoBulkAll r
def uptoBulkEntries {H : Type} : List (Lit × DataW H) → Nat
  | [] => 0
  | x :: r => uptoBulkEntry x + uptoBulkEntries r
def uptoBulkEntry {H : Type} : Lit × DataW H → Nat
  | (.string bytes, d) => bytes.length + uptoBulk d + 1
  | (_, d) => uptoBulk d + 1
 end
def uptoSmall : (H : Type) → List (DataW H) → Bool := fun _ ds => decide (uptoBulkAll ds ≤ 1048576)
def OpenSpec.upto (s : _root_.Go.ChangeSpec) : _root_.Go.OpenSpec := { _root_.Go.OpenSpec.ofChange s with cond := some uptoSmall }

/-- 'laws.FnBufferRun', WHERE WHAT IT READS IS OF BULK AT MOST 1048576: true; the input reads as it did. -/
def fnBufferRunUptoRow : OpenClaim := { program := "ytafljegjdanldaa", sum := "12011fd220353a48ea93516b1a6b4ba77bf5bed76f2358a9f86a5865bcb3a833", func := "loop.example/workplans/laws.FnBufferRun", spec := "fnBufferRun", unfollowed := true, recurses := true, plainKeys := false, apart := false, narrowed := true }
def FnBufferRunUptoSaid : Prop := fnBufferRunUptoRow.holds Try.pinned (OpenSpec.upto fnBufferRunSpec)

/-- 'laws.FnGreedyOne', WHERE WHAT IT READS IS OF BULK AT MOST 1048576: true; the input reads as it did. -/
def fnGreedyOneUptoRow : OpenClaim := { program := "ytafljegjdanldaa", sum := "12011fd220353a48ea93516b1a6b4ba77bf5bed76f2358a9f86a5865bcb3a833", func := "loop.example/workplans/laws.FnGreedyOne", spec := "fnGreedyOne", unfollowed := true, recurses := true, plainKeys := false, apart := false, narrowed := true }
def FnGreedyOneUptoSaid : Prop := fnGreedyOneUptoRow.holds Try.pinned (OpenSpec.upto fnGreedyOneSpec)

/-- 'laws.FnExactCostGreedy', WHERE WHAT IT READS IS OF BULK AT MOST 1048576: true; the input reads as it did. -/
def fnExactCostGreedyUptoRow : OpenClaim := { program := "ytafljegjdanldaa", sum := "12011fd220353a48ea93516b1a6b4ba77bf5bed76f2358a9f86a5865bcb3a833", func := "loop.example/workplans/laws.FnExactCostGreedy", spec := "fnExactCostGreedy", unfollowed := true, recurses := true, plainKeys := false, apart := false, narrowed := true }
def FnExactCostGreedyUptoSaid : Prop := fnExactCostGreedyUptoRow.holds Try.pinned (OpenSpec.upto fnExactCostGreedySpec)

/-- 'laws.FnCutShare', WHERE WHAT IT READS IS OF BULK AT MOST 1048576: true; the input reads as it did. -/
def fnCutShareUptoRow : OpenClaim := { program := "ytafljegjdanldaa", sum := "12011fd220353a48ea93516b1a6b4ba77bf5bed76f2358a9f86a5865bcb3a833", func := "loop.example/workplans/laws.FnCutShare", spec := "fnCutShare", unfollowed := true, recurses := true, plainKeys := false, apart := false, narrowed := true }
def FnCutShareUptoSaid : Prop := fnCutShareUptoRow.holds Try.pinned (OpenSpec.upto fnCutShareSpec)

/-- 'laws.FnGreedyMost', WHERE WHAT IT READS IS OF BULK AT MOST 1048576: true; the input reads as it did. -/
def fnGreedyMostUptoRow : OpenClaim := { program := "ytafljegjdanldaa", sum := "12011fd220353a48ea93516b1a6b4ba77bf5bed76f2358a9f86a5865bcb3a833", func := "loop.example/workplans/laws.FnGreedyMost", spec := "fnGreedyMost", unfollowed := true, recurses := true, plainKeys := false, apart := false, narrowed := true }
def FnGreedyMostUptoSaid : Prop := fnGreedyMostUptoRow.holds Try.pinned (OpenSpec.upto fnGreedyMostSpec)

/-- 'laws.FnGreedy', WHERE WHAT IT READS IS OF BULK AT MOST 1048576: true; the input reads as it did. -/
def fnGreedyUptoRow : OpenClaim := { program := "ytafljegjdanldaa", sum := "12011fd220353a48ea93516b1a6b4ba77bf5bed76f2358a9f86a5865bcb3a833", func := "loop.example/workplans/laws.FnGreedy", spec := "fnGreedy", unfollowed := true, recurses := true, plainKeys := false, apart := false, narrowed := true }
def FnGreedyUptoSaid : Prop := fnGreedyUptoRow.holds Try.pinned (OpenSpec.upto fnGreedySpec)

/-- 'laws.FnCostFold', WHERE WHAT IT READS IS OF BULK AT MOST 1048576: true; the input reads as it did. -/
def fnCostFoldUptoRow : OpenClaim := { program := "ytafljegjdanldaa", sum := "12011fd220353a48ea93516b1a6b4ba77bf5bed76f2358a9f86a5865bcb3a833", func := "loop.example/workplans/laws.FnCostFold", spec := "fnCostFold", unfollowed := true, recurses := true, plainKeys := false, apart := false, narrowed := true }
def FnCostFoldUptoSaid : Prop := fnCostFoldUptoRow.holds Try.pinned (OpenSpec.upto fnCostFoldSpec)

/-- 'laws.FnFoldEnds', WHERE WHAT IT READS IS OF BULK AT MOST 1048576: true; the input reads as it did. -/
def fnFoldEndsUptoRow : OpenClaim := { program := "ytafljegjdanldaa", sum := "12011fd220353a48ea93516b1a6b4ba77bf5bed76f2358a9f86a5865bcb3a833", func := "loop.example/workplans/laws.FnFoldEnds", spec := "fnFoldEnds", unfollowed := true, recurses := true, plainKeys := false, apart := false, narrowed := true }
def FnFoldEndsUptoSaid : Prop := fnFoldEndsUptoRow.holds Try.pinned (OpenSpec.upto fnFoldEndsSpec)

end Rows
end Go.Proofs.Ytafljegjdanldaa
