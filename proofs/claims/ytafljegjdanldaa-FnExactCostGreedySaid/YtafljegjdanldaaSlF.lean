/- The last bridge: two closed facts of this translation, and numbers that came in. -/
import Derived.Test.YtafljegjdanldaaSlE
import Derived.Test.YtafljegjdanldaaChecked
namespace Go.Proofs.Ytafljegjdanldaa
theorem ownKn : ownKnob Try.prog.godebug = none := by kernel_rfl
theorem laidOutP : laidOutB Try.prog = true := by kernel_rfl
/-- A number of Go's int. -/
def I64 (n : Int) : Prop := -9223372036854775808 ≤ n ∧ n ≤ 9223372036854775807
theorem i64_of_wf {n : Int} (h : (Lit.int .i64 n).wf = true) : I64 n := by
  simp [Lit.wf, IntKind.min, IntKind.max, IntKind.signed, IntKind.bits] at h
  unfold I64
  omega
end Go.Proofs.Ytafljegjdanldaa
