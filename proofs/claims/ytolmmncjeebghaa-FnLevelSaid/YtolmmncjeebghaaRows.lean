/-
  No cell of these rows narrows 'for every input' (looked for: loops, veiled, ifaces, maps, wideKeys, modest, calm, conditions, laid).
  DERIVED. THE GIVEN ROWS OF THIS SEAT. 12 by the template 'for every input the law returns true; each argument reads behind the call as it read before'; 0 by the template 'total and deterministic' (their statements: YtolmmncjeebghaaTotals.lean).
  GIVEN WITH THE SEED: the statements are not yours to turn. If you find one false, say at which input.
  Laid BY PROGRAM, IN A SANDBOX (cutbox-rows.mjs): the forced cells as the released guide's own fill.sh prints them over the translation 243ca74a115dafb6… (all of the seat's roots in one cut). By AI agents, Wed Nov 11 2026. No macro, syntax, notation, axiom, sorry.
-/
import Derived.Test.YtolmmncjeebghaaChecked
import GoSem.Claim
import GoSem.ClaimJoined
import GoSem.ClaimMapViews
import Derived.JoinedTies
import Derived.KernelRfl
namespace Go.Proofs.Ytolmmncjeebghaa
/- THE CELL 'sum', in the pinned program and in every row, IS THE sha256 OF THE DUMP (.gsa) THAT YtolmmncjeebghaaProg.lean LOADS. Nothing in Lean hashes anything: it is a label: what it is worth is what the hold of that sum in a sandbox is worth. -/
noncomputable def Try.pinned : Pinned := { name := "ytolmmncjeebghaa", sum := "243ca74a115dafb6d352c9a5d63689f71a1f59837a632f453adf2dcac679ff3a", checked := Try.checked }
namespace Rows
def none {H : Type} : Left H := { results := [], args := [] }

/-- 'laws.FnExactCostKind': WHATEVER THE INPUT: true; the input reads as it did. -/
def fnExactCostKindSpec : ChangeSpec := { name := "fnExactCostKind", fn := fun _ => fun
  | [d] => { results := [.lit (.bool true)], args := [d] }
  | _ => none }
def fnExactCostKindRow : OpenClaim := { program := "ytolmmncjeebghaa", sum := "243ca74a115dafb6d352c9a5d63689f71a1f59837a632f453adf2dcac679ff3a", func := "loop.example/workplans/laws.FnExactCostKind", spec := "fnExactCostKind", unfollowed := true, recurses := true, apart := false }
def FnExactCostKindSaid : Prop := fnExactCostKindRow.holds Try.pinned (OpenSpec.ofChange fnExactCostKindSpec)

/-- ITS FALSE NEIGHBOUR: 'it returns false'. Refute it at one input. -/
def fnExactCostKindWrong : ChangeSpec := { name := "fnExactCostKind", fn := fun _ => fun
  | [d] => { results := [.lit (.bool false)], args := [d] }
  | _ => none }
def FnExactCostKindWrongFalsely : Prop := fnExactCostKindRow.holds Try.pinned (OpenSpec.ofChange fnExactCostKindWrong)

/-- 'laws.FnCostKind': WHATEVER THE INPUT: true; the input reads as it did. -/
def fnCostKindSpec : ChangeSpec := { name := "fnCostKind", fn := fun _ => fun
  | [d] => { results := [.lit (.bool true)], args := [d] }
  | _ => none }
def fnCostKindRow : OpenClaim := { program := "ytolmmncjeebghaa", sum := "243ca74a115dafb6d352c9a5d63689f71a1f59837a632f453adf2dcac679ff3a", func := "loop.example/workplans/laws.FnCostKind", spec := "fnCostKind", unfollowed := true, recurses := true, apart := false }
def FnCostKindSaid : Prop := fnCostKindRow.holds Try.pinned (OpenSpec.ofChange fnCostKindSpec)

/-- ITS FALSE NEIGHBOUR: 'it returns false'. Refute it at one input. -/
def fnCostKindWrong : ChangeSpec := { name := "fnCostKind", fn := fun _ => fun
  | [d] => { results := [.lit (.bool false)], args := [d] }
  | _ => none }
def FnCostKindWrongFalsely : Prop := fnCostKindRow.holds Try.pinned (OpenSpec.ofChange fnCostKindWrong)

/-- 'laws.FnCostAll': WHATEVER THE INPUT: true; the input reads as it did. -/
def fnCostAllSpec : ChangeSpec := { name := "fnCostAll", fn := fun _ => fun
  | [d] => { results := [.lit (.bool true)], args := [d] }
  | _ => none }
def fnCostAllRow : OpenClaim := { program := "ytolmmncjeebghaa", sum := "243ca74a115dafb6d352c9a5d63689f71a1f59837a632f453adf2dcac679ff3a", func := "loop.example/workplans/laws.FnCostAll", spec := "fnCostAll", unfollowed := true, recurses := true, apart := false }
def FnCostAllSaid : Prop := fnCostAllRow.holds Try.pinned (OpenSpec.ofChange fnCostAllSpec)

/-- ITS FALSE NEIGHBOUR: 'it returns false'. Refute it at one input. -/
def fnCostAllWrong : ChangeSpec := { name := "fnCostAll", fn := fun _ => fun
  | [d] => { results := [.lit (.bool false)], args := [d] }
  | _ => none }
def FnCostAllWrongFalsely : Prop := fnCostAllRow.holds Try.pinned (OpenSpec.ofChange fnCostAllWrong)

/-- 'laws.FnBufferEnds': WHATEVER THE INPUT: true; the input reads as it did. -/
def fnBufferEndsSpec : ChangeSpec := { name := "fnBufferEnds", fn := fun _ => fun
  | [d] => { results := [.lit (.bool true)], args := [d] }
  | _ => none }
def fnBufferEndsRow : OpenClaim := { program := "ytolmmncjeebghaa", sum := "243ca74a115dafb6d352c9a5d63689f71a1f59837a632f453adf2dcac679ff3a", func := "loop.example/workplans/laws.FnBufferEnds", spec := "fnBufferEnds", unfollowed := true, recurses := true, apart := false }
def FnBufferEndsSaid : Prop := fnBufferEndsRow.holds Try.pinned (OpenSpec.ofChange fnBufferEndsSpec)

/-- ITS FALSE NEIGHBOUR: 'it returns false'. Refute it at one input. -/
def fnBufferEndsWrong : ChangeSpec := { name := "fnBufferEnds", fn := fun _ => fun
  | [d] => { results := [.lit (.bool false)], args := [d] }
  | _ => none }
def FnBufferEndsWrongFalsely : Prop := fnBufferEndsRow.holds Try.pinned (OpenSpec.ofChange fnBufferEndsWrong)

/-- 'laws.FnBufferMostPart': WHATEVER THE INPUT: true; the input reads as it did. -/
def fnBufferMostPartSpec : ChangeSpec := { name := "fnBufferMostPart", fn := fun _ => fun
  | [d1, d2] => { results := [.lit (.bool true)], args := [d1, d2] }
  | _ => none }
def fnBufferMostPartRow : OpenClaim := { program := "ytolmmncjeebghaa", sum := "243ca74a115dafb6d352c9a5d63689f71a1f59837a632f453adf2dcac679ff3a", func := "loop.example/workplans/laws.FnBufferMostPart", spec := "fnBufferMostPart", unfollowed := true, recurses := true, apart := false }
def FnBufferMostPartSaid : Prop := fnBufferMostPartRow.holds Try.pinned (OpenSpec.ofChange fnBufferMostPartSpec)

/-- ITS FALSE NEIGHBOUR: 'it returns false'. Refute it at one input. -/
def fnBufferMostPartWrong : ChangeSpec := { name := "fnBufferMostPart", fn := fun _ => fun
  | [d1, d2] => { results := [.lit (.bool false)], args := [d1, d2] }
  | _ => none }
def FnBufferMostPartWrongFalsely : Prop := fnBufferMostPartRow.holds Try.pinned (OpenSpec.ofChange fnBufferMostPartWrong)

/-- 'laws.FnBufferEndsLate': WHATEVER THE INPUT: true; the input reads as it did. -/
def fnBufferEndsLateSpec : ChangeSpec := { name := "fnBufferEndsLate", fn := fun _ => fun
  | [d] => { results := [.lit (.bool true)], args := [d] }
  | _ => none }
def fnBufferEndsLateRow : OpenClaim := { program := "ytolmmncjeebghaa", sum := "243ca74a115dafb6d352c9a5d63689f71a1f59837a632f453adf2dcac679ff3a", func := "loop.example/workplans/laws.FnBufferEndsLate", spec := "fnBufferEndsLate", unfollowed := true, recurses := true, apart := false }
def FnBufferEndsLateSaid : Prop := fnBufferEndsLateRow.holds Try.pinned (OpenSpec.ofChange fnBufferEndsLateSpec)

/-- ITS FALSE NEIGHBOUR: 'it returns false'. Refute it at one input. -/
def fnBufferEndsLateWrong : ChangeSpec := { name := "fnBufferEndsLate", fn := fun _ => fun
  | [d] => { results := [.lit (.bool false)], args := [d] }
  | _ => none }
def FnBufferEndsLateWrongFalsely : Prop := fnBufferEndsLateRow.holds Try.pinned (OpenSpec.ofChange fnBufferEndsLateWrong)

/-- 'laws.FnExactCostAll': WHATEVER THE INPUT: true; the input reads as it did. -/
def fnExactCostAllSpec : ChangeSpec := { name := "fnExactCostAll", fn := fun _ => fun
  | [d] => { results := [.lit (.bool true)], args := [d] }
  | _ => none }
def fnExactCostAllRow : OpenClaim := { program := "ytolmmncjeebghaa", sum := "243ca74a115dafb6d352c9a5d63689f71a1f59837a632f453adf2dcac679ff3a", func := "loop.example/workplans/laws.FnExactCostAll", spec := "fnExactCostAll", unfollowed := true, recurses := true, apart := false }
def FnExactCostAllSaid : Prop := fnExactCostAllRow.holds Try.pinned (OpenSpec.ofChange fnExactCostAllSpec)

/-- ITS FALSE NEIGHBOUR: 'it returns false'. Refute it at one input. -/
def fnExactCostAllWrong : ChangeSpec := { name := "fnExactCostAll", fn := fun _ => fun
  | [d] => { results := [.lit (.bool false)], args := [d] }
  | _ => none }
def FnExactCostAllWrongFalsely : Prop := fnExactCostAllRow.holds Try.pinned (OpenSpec.ofChange fnExactCostAllWrong)

/-- 'laws.FnLevel': WHATEVER THE INPUT: true; the input reads as it did. -/
def fnLevelSpec : ChangeSpec := { name := "fnLevel", fn := fun _ => fun
  | [d] => { results := [.lit (.bool true)], args := [d] }
  | _ => none }
def fnLevelRow : OpenClaim := { program := "ytolmmncjeebghaa", sum := "243ca74a115dafb6d352c9a5d63689f71a1f59837a632f453adf2dcac679ff3a", func := "loop.example/workplans/laws.FnLevel", spec := "fnLevel", unfollowed := true, recurses := true, apart := false }
def FnLevelSaid : Prop := fnLevelRow.holds Try.pinned (OpenSpec.ofChange fnLevelSpec)

/-- ITS FALSE NEIGHBOUR: 'it returns false'. Refute it at one input. -/
def fnLevelWrong : ChangeSpec := { name := "fnLevel", fn := fun _ => fun
  | [d] => { results := [.lit (.bool false)], args := [d] }
  | _ => none }
def FnLevelWrongFalsely : Prop := fnLevelRow.holds Try.pinned (OpenSpec.ofChange fnLevelWrong)

/-- 'laws.FnExactCostPath': WHATEVER THE INPUT: true; the input reads as it did. -/
def fnExactCostPathSpec : ChangeSpec := { name := "fnExactCostPath", fn := fun _ => fun
  | [d] => { results := [.lit (.bool true)], args := [d] }
  | _ => none }
def fnExactCostPathRow : OpenClaim := { program := "ytolmmncjeebghaa", sum := "243ca74a115dafb6d352c9a5d63689f71a1f59837a632f453adf2dcac679ff3a", func := "loop.example/workplans/laws.FnExactCostPath", spec := "fnExactCostPath", unfollowed := true, recurses := true, apart := false }
def FnExactCostPathSaid : Prop := fnExactCostPathRow.holds Try.pinned (OpenSpec.ofChange fnExactCostPathSpec)

/-- ITS FALSE NEIGHBOUR: 'it returns false'. Refute it at one input. -/
def fnExactCostPathWrong : ChangeSpec := { name := "fnExactCostPath", fn := fun _ => fun
  | [d] => { results := [.lit (.bool false)], args := [d] }
  | _ => none }
def FnExactCostPathWrongFalsely : Prop := fnExactCostPathRow.holds Try.pinned (OpenSpec.ofChange fnExactCostPathWrong)

/-- 'laws.FnExactBufferEnds': WHATEVER THE INPUT: true; the input reads as it did. -/
def fnExactBufferEndsSpec : ChangeSpec := { name := "fnExactBufferEnds", fn := fun _ => fun
  | [d] => { results := [.lit (.bool true)], args := [d] }
  | _ => none }
def fnExactBufferEndsRow : OpenClaim := { program := "ytolmmncjeebghaa", sum := "243ca74a115dafb6d352c9a5d63689f71a1f59837a632f453adf2dcac679ff3a", func := "loop.example/workplans/laws.FnExactBufferEnds", spec := "fnExactBufferEnds", unfollowed := true, recurses := true, apart := false }
def FnExactBufferEndsSaid : Prop := fnExactBufferEndsRow.holds Try.pinned (OpenSpec.ofChange fnExactBufferEndsSpec)

/-- ITS FALSE NEIGHBOUR: 'it returns false'. Refute it at one input. -/
def fnExactBufferEndsWrong : ChangeSpec := { name := "fnExactBufferEnds", fn := fun _ => fun
  | [d] => { results := [.lit (.bool false)], args := [d] }
  | _ => none }
def FnExactBufferEndsWrongFalsely : Prop := fnExactBufferEndsRow.holds Try.pinned (OpenSpec.ofChange fnExactBufferEndsWrong)

/-- 'laws.FnExactBufferFits': WHATEVER THE INPUT: true; the input reads as it did. -/
def fnExactBufferFitsSpec : ChangeSpec := { name := "fnExactBufferFits", fn := fun _ => fun
  | [d1, d2] => { results := [.lit (.bool true)], args := [d1, d2] }
  | _ => none }
def fnExactBufferFitsRow : OpenClaim := { program := "ytolmmncjeebghaa", sum := "243ca74a115dafb6d352c9a5d63689f71a1f59837a632f453adf2dcac679ff3a", func := "loop.example/workplans/laws.FnExactBufferFits", spec := "fnExactBufferFits", unfollowed := true, recurses := true, apart := false }
def FnExactBufferFitsSaid : Prop := fnExactBufferFitsRow.holds Try.pinned (OpenSpec.ofChange fnExactBufferFitsSpec)

/-- ITS FALSE NEIGHBOUR: 'it returns false'. Refute it at one input. -/
def fnExactBufferFitsWrong : ChangeSpec := { name := "fnExactBufferFits", fn := fun _ => fun
  | [d1, d2] => { results := [.lit (.bool false)], args := [d1, d2] }
  | _ => none }
def FnExactBufferFitsWrongFalsely : Prop := fnExactBufferFitsRow.holds Try.pinned (OpenSpec.ofChange fnExactBufferFitsWrong)

/-- 'laws.FnExactBufferMost': WHATEVER THE INPUT: true; the input reads as it did. -/
def fnExactBufferMostSpec : ChangeSpec := { name := "fnExactBufferMost", fn := fun _ => fun
  | [d] => { results := [.lit (.bool true)], args := [d] }
  | _ => none }
def fnExactBufferMostRow : OpenClaim := { program := "ytolmmncjeebghaa", sum := "243ca74a115dafb6d352c9a5d63689f71a1f59837a632f453adf2dcac679ff3a", func := "loop.example/workplans/laws.FnExactBufferMost", spec := "fnExactBufferMost", unfollowed := true, recurses := true, apart := false }
def FnExactBufferMostSaid : Prop := fnExactBufferMostRow.holds Try.pinned (OpenSpec.ofChange fnExactBufferMostSpec)

/-- ITS FALSE NEIGHBOUR: 'it returns false'. Refute it at one input. -/
def fnExactBufferMostWrong : ChangeSpec := { name := "fnExactBufferMost", fn := fun _ => fun
  | [d] => { results := [.lit (.bool false)], args := [d] }
  | _ => none }
def FnExactBufferMostWrongFalsely : Prop := fnExactBufferMostRow.holds Try.pinned (OpenSpec.ofChange fnExactBufferMostWrong)

/- THE SECOND FORM. 'bulk': how many values and letters a reading holds, each counted each time it is reached (what is shared counts as often as it is met; a slice's spare places count too). A statement '..UptoSaid' is the law's where the arguments, and the package variables that the reading takes, are together of bulk at most 1048576: NARROWER than '..Said'. Prove '..Said' where nothing that the law and all that it calls make is longer than what came in: it says more and counts as full. Else prove '..UptoSaid'. A law counts once. -/
mutual
def uptoBulk {H : Type} : DataW H → Nat
  | .lit (.string bytes) => bytes.length + 1
  | .lit _ => 1
  | .nil => 1
  | .ptr d => uptoBulk d + 1
  | .slice elems spare => uptoBulkAll elems + uptoBulkAll spare + 1
  | .agg parts => uptoBulkAll parts + 1
  | .iface _ d => uptoBulk d + 1
  | .map entries => uptoBulkEntries entries + 1
  | .held _ => 1
def uptoBulkAll {H : Type} : List (DataW H) → Nat
  | [] => 0
  | d :: r => uptoBulk d + uptoBulkAll r
def uptoBulkEntries {H : Type} : List (Lit × DataW H) → Nat
  | [] => 0
  | x :: r => uptoBulkEntry x + uptoBulkEntries r
def uptoBulkEntry {H : Type} : Lit × DataW H → Nat
  | (.string bytes, d) => bytes.length + uptoBulk d + 1
  | (_, d) => uptoBulk d + 1
 end
def uptoSmall : (H : Type) → List (DataW H) → Bool := fun _ ds => decide (uptoBulkAll ds ≤ 1048576)
def OpenSpec.upto (s : _root_.Go.ChangeSpec) : _root_.Go.OpenSpec := { _root_.Go.OpenSpec.ofChange s with cond := some uptoSmall }

/-- 'laws.FnExactCostKind', WHERE WHAT IT READS IS OF BULK AT MOST 1048576: true; the input reads as it did. -/
def fnExactCostKindUptoRow : OpenClaim := { program := "ytolmmncjeebghaa", sum := "243ca74a115dafb6d352c9a5d63689f71a1f59837a632f453adf2dcac679ff3a", func := "loop.example/workplans/laws.FnExactCostKind", spec := "fnExactCostKind", unfollowed := true, recurses := true, apart := false, narrowed := true }
def FnExactCostKindUptoSaid : Prop := fnExactCostKindUptoRow.holds Try.pinned (OpenSpec.upto fnExactCostKindSpec)

/-- 'laws.FnCostKind', WHERE WHAT IT READS IS OF BULK AT MOST 1048576: true; the input reads as it did. -/
def fnCostKindUptoRow : OpenClaim := { program := "ytolmmncjeebghaa", sum := "243ca74a115dafb6d352c9a5d63689f71a1f59837a632f453adf2dcac679ff3a", func := "loop.example/workplans/laws.FnCostKind", spec := "fnCostKind", unfollowed := true, recurses := true, apart := false, narrowed := true }
def FnCostKindUptoSaid : Prop := fnCostKindUptoRow.holds Try.pinned (OpenSpec.upto fnCostKindSpec)

/-- 'laws.FnCostAll', WHERE WHAT IT READS IS OF BULK AT MOST 1048576: true; the input reads as it did. -/
def fnCostAllUptoRow : OpenClaim := { program := "ytolmmncjeebghaa", sum := "243ca74a115dafb6d352c9a5d63689f71a1f59837a632f453adf2dcac679ff3a", func := "loop.example/workplans/laws.FnCostAll", spec := "fnCostAll", unfollowed := true, recurses := true, apart := false, narrowed := true }
def FnCostAllUptoSaid : Prop := fnCostAllUptoRow.holds Try.pinned (OpenSpec.upto fnCostAllSpec)

/-- 'laws.FnBufferEnds', WHERE WHAT IT READS IS OF BULK AT MOST 1048576: true; the input reads as it did. -/
def fnBufferEndsUptoRow : OpenClaim := { program := "ytolmmncjeebghaa", sum := "243ca74a115dafb6d352c9a5d63689f71a1f59837a632f453adf2dcac679ff3a", func := "loop.example/workplans/laws.FnBufferEnds", spec := "fnBufferEnds", unfollowed := true, recurses := true, apart := false, narrowed := true }
def FnBufferEndsUptoSaid : Prop := fnBufferEndsUptoRow.holds Try.pinned (OpenSpec.upto fnBufferEndsSpec)

/-- 'laws.FnBufferMostPart', WHERE WHAT IT READS IS OF BULK AT MOST 1048576: true; the input reads as it did. -/
def fnBufferMostPartUptoRow : OpenClaim := { program := "ytolmmncjeebghaa", sum := "243ca74a115dafb6d352c9a5d63689f71a1f59837a632f453adf2dcac679ff3a", func := "loop.example/workplans/laws.FnBufferMostPart", spec := "fnBufferMostPart", unfollowed := true, recurses := true, apart := false, narrowed := true }
def FnBufferMostPartUptoSaid : Prop := fnBufferMostPartUptoRow.holds Try.pinned (OpenSpec.upto fnBufferMostPartSpec)

/-- 'laws.FnBufferEndsLate', WHERE WHAT IT READS IS OF BULK AT MOST 1048576: true; the input reads as it did. -/
def fnBufferEndsLateUptoRow : OpenClaim := { program := "ytolmmncjeebghaa", sum := "243ca74a115dafb6d352c9a5d63689f71a1f59837a632f453adf2dcac679ff3a", func := "loop.example/workplans/laws.FnBufferEndsLate", spec := "fnBufferEndsLate", unfollowed := true, recurses := true, apart := false, narrowed := true }
def FnBufferEndsLateUptoSaid : Prop := fnBufferEndsLateUptoRow.holds Try.pinned (OpenSpec.upto fnBufferEndsLateSpec)

/-- 'laws.FnExactCostAll', WHERE WHAT IT READS IS OF BULK AT MOST 1048576: true; the input reads as it did. -/
def fnExactCostAllUptoRow : OpenClaim := { program := "ytolmmncjeebghaa", sum := "243ca74a115dafb6d352c9a5d63689f71a1f59837a632f453adf2dcac679ff3a", func := "loop.example/workplans/laws.FnExactCostAll", spec := "fnExactCostAll", unfollowed := true, recurses := true, apart := false, narrowed := true }
def FnExactCostAllUptoSaid : Prop := fnExactCostAllUptoRow.holds Try.pinned (OpenSpec.upto fnExactCostAllSpec)

/-- 'laws.FnLevel', WHERE WHAT IT READS IS OF BULK AT MOST 1048576: true; the input reads as it did. -/
def fnLevelUptoRow : OpenClaim := { program := "ytolmmncjeebghaa", sum := "243ca74a115dafb6d352c9a5d63689f71a1f59837a632f453adf2dcac679ff3a", func := "loop.example/workplans/laws.FnLevel", spec := "fnLevel", unfollowed := true, recurses := true, apart := false, narrowed := true }
def FnLevelUptoSaid : Prop := fnLevelUptoRow.holds Try.pinned (OpenSpec.upto fnLevelSpec)

/-- 'laws.FnExactCostPath', WHERE WHAT IT READS IS OF BULK AT MOST 1048576: true; the input reads as it did. -/
def fnExactCostPathUptoRow : OpenClaim := { program := "ytolmmncjeebghaa", sum := "243ca74a115dafb6d352c9a5d63689f71a1f59837a632f453adf2dcac679ff3a", func := "loop.example/workplans/laws.FnExactCostPath", spec := "fnExactCostPath", unfollowed := true, recurses := true, apart := false, narrowed := true }
def FnExactCostPathUptoSaid : Prop := fnExactCostPathUptoRow.holds Try.pinned (OpenSpec.upto fnExactCostPathSpec)

/-- 'laws.FnExactBufferEnds', WHERE WHAT IT READS IS OF BULK AT MOST 1048576: true; the input reads as it did. -/
def fnExactBufferEndsUptoRow : OpenClaim := { program := "ytolmmncjeebghaa", sum := "243ca74a115dafb6d352c9a5d63689f71a1f59837a632f453adf2dcac679ff3a", func := "loop.example/workplans/laws.FnExactBufferEnds", spec := "fnExactBufferEnds", unfollowed := true, recurses := true, apart := false, narrowed := true }
def FnExactBufferEndsUptoSaid : Prop := fnExactBufferEndsUptoRow.holds Try.pinned (OpenSpec.upto fnExactBufferEndsSpec)

/-- 'laws.FnExactBufferFits', WHERE WHAT IT READS IS OF BULK AT MOST 1048576: true; the input reads as it did. -/
def fnExactBufferFitsUptoRow : OpenClaim := { program := "ytolmmncjeebghaa", sum := "243ca74a115dafb6d352c9a5d63689f71a1f59837a632f453adf2dcac679ff3a", func := "loop.example/workplans/laws.FnExactBufferFits", spec := "fnExactBufferFits", unfollowed := true, recurses := true, apart := false, narrowed := true }
def FnExactBufferFitsUptoSaid : Prop := fnExactBufferFitsUptoRow.holds Try.pinned (OpenSpec.upto fnExactBufferFitsSpec)

/-- 'laws.FnExactBufferMost', WHERE WHAT IT READS IS OF BULK AT MOST 1048576: true; the input reads as it did. -/
def fnExactBufferMostUptoRow : OpenClaim := { program := "ytolmmncjeebghaa", sum := "243ca74a115dafb6d352c9a5d63689f71a1f59837a632f453adf2dcac679ff3a", func := "loop.example/workplans/laws.FnExactBufferMost", spec := "fnExactBufferMost", unfollowed := true, recurses := true, apart := false, narrowed := true }
def FnExactBufferMostUptoSaid : Prop := fnExactBufferMostUptoRow.holds Try.pinned (OpenSpec.upto fnExactBufferMostSpec)

end Rows
end Go.Proofs.Ytolmmncjeebghaa
