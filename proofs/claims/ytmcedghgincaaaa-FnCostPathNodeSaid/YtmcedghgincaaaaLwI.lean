/- The laws on levels' rows and paths. -/
import Derived.Test.YtmcedghgincaaaaWkW
import Derived.Test.YtmcedghgincaaaaWkH
import Derived.Test.YtmcedghgincaaaaWkV
import Derived.Test.YtmcedghgincaaaaSlF
namespace Go.Proofs.Ytmcedghgincaaaa
open Go.RowKit

section
variable {h : GH} {Ls : List Heaplet} {w : World}

theorem drawLevelsOf_ok (hH : H w h Ls) {cv : Value} {bs : List Int} (hB : Bytes h cv bs) : Rets Try.prog 26 #[cv] w (Drew h Ls) := by
  refine rets_enter Try.func26 rfl Try.ntmps26 (by simp) ?_
  refine WT_seq ?_
  refine WT_region ?_
  refine WL_v rfl (ov_assign rfl) ?_
  refine WL_nil ?_
  refine WT_seq ?_
  refine WT_region ?_
  refine WL_v rfl (ov_move rfl) ?_
  refine WL_call rfl rfl cf_spec_l6Open (l6Open_ok hH hB) ?_; rintro _ w1 ⟨g, bv, bs', rfl, hB', hH1⟩
  refine WL_call rfl rfl cf_spec_l91Plan (l91Plan_ok hH1 hB' (by omega)) ?_; rintro _ w2 ⟨p, O, Is, p', hO, hl, hp', hH2⟩
  refine WL_v rfl (ov_assign rfl) ?_
  refine WL_nil ?_
  exact WT_ret1 Try.func26 Try.results26 rfl (drew_of hO hl hH2)
theorem drawCostPath_ok (hH : H w h Ls) {cv : Value} {bs : List Int} (hB : Bytes h cv bs) : Rets Try.prog 50 #[cv] w (Drew h Ls) := by
  refine rets_enter Try.func50 rfl Try.ntmps50 (by simp) ?_
  refine WT_seq ?_
  refine WT_region ?_
  refine WL_v rfl (ov_assign rfl) ?_
  refine WL_nil ?_
  refine WT_seq ?_
  refine WT_region ?_
  refine WL_v rfl (ov_move rfl) ?_
  refine WL_call rfl rfl cf_spec_l6Open (l6Open_ok hH hB) ?_; rintro _ w1 ⟨g, bv, bs', rfl, hB', hH1⟩
  refine WL_call rfl rfl cf_spec_l91Plan (l91Plan_ok hH1 hB' (by omega)) ?_; rintro _ w2 ⟨p, O, Is, p', hO, hl, hp', hH2⟩
  refine WL_v rfl (ov_assign rfl) ?_
  refine WL_nil ?_
  exact WT_ret1 Try.func50 Try.results50 rfl (drew_of hO hl hH2)

theorem lev_levelOf {p : List Nd} (hv : planOk p = true) {i : Nat} (hi : i < p.length) : levelOf p (i : Int) = lev p i := by
  unfold levelOf lev
  rw [if_pos ⟨hv, by omega, by omega⟩]; rfl
theorem valid_of' {p : List Nd} {a : Int} (h : ¬ (if planOk p = true then a else -1) < 0) : planOk p = true := by
  cases hp : planOk p with
  | true => rfl
  | false => rw [hp] at h; exact absurd (by simp) h

end
end Go.Proofs.Ytmcedghgincaaaa
