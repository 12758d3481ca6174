/- hearthlaw01.TermAlikes returns true for every two terms, and changes nothing: the theorem of terms that are alike. No condition. (And what it stands on.) -/
import Derived.Test.YtlbeglekommoeaaGreatRows
import Derived.Test.YtlbeglekommoeaaGreatWf
import Derived.WalkKit
import Derived.ProofKit
import Derived.OpenShut
set_option linter.unusedSimpArgs false
set_option linter.unusedVariables false

namespace Go.Proofs.YtlbeglekommoeaaGreat.termAlikes
open Go.ChangeShapes Go.WideShapes Go.RowKit
set_option linter.unusedVariables false
theorem own : ownKnob Tryz.prog.godebug = none := by kernel_rfl
set_option maxRecDepth 100000 in
theorem lifted (os : Os) (started : os.Started) (H : Type) (enc : TypeId × Value → H) :
    ReturnsInHanded {} Tryz.checked os 5 .any (Rows.termAlikesSpec.pre6 enc Tryz.prog Tryz.f5 Rows.termAlikesRow.domain false) (Rows.termAlikesSpec.post enc Tryz.prog Tryz.f5 false true false false) := by
  refine returnsInHanded_of_change (C := Tryz.checked) own started (by kernel_rfl) Tryz.func5
    (ChangeSpec.witness6 (enc := enc) (C := Tryz.checked) false ⟨#[], #[.agg #[.int .i64 0, .int .i64 0, .string ⟨#[]⟩, .slice none 0 0, .slice none 0 0], .agg #[.int .i64 0, .int .i64 0, .string ⟨#[]⟩, .slice none 0 0, .slice none 0 0]], []⟩ 8 (by kernel_rfl) (by kernel_rfl) (by kernel_rfl) (by kernel_rfl)) ?_
  intro W base args ds gs before hval hW hcnd _
  obtain ⟨p, q, hA, _⟩ := id hW
  obtain ⟨v1, v3, d1, d3, p1, p3, e1, rfl, hd1, hd3⟩ := Hk.trodAll2 (t := 26) (u := 26) hA
  obtain ⟨args⟩ := args
  simp only at e1
  subst e1
  obtain ⟨n1, hn1⟩ := Hk.Rds.of hd1
  obtain ⟨n3, hn3⟩ := Hk.Rds.of hd3
  obtain ⟨m1, hm1⟩ := Hk.read_term n1 _ hn1
  obtain ⟨m3, hm3⟩ := Hk.read_term n3 _ hn3
  obtain ⟨c1, rfl⟩ := Hk.agg_of Tryz.underlying26 (hval 0 26 v1 rfl rfl)
  obtain ⟨c3, rfl⟩ := Hk.agg_of Tryz.underlying26 (hval 1 26 v3 rfl rfl)
  exact Hk.law_done hW rfl Tryz.func5 (by decide +kernel) rfl rfl Tryz.underlying4 (by kernel_rfl) (by kernel_rfl) rfl (vs := [.agg (Hk.dTmc m1), .agg (Hk.dTmc m3)]) (.mk (Hk.RV.agg hm1) (.mk (Hk.RV.agg hm3) .nil)) (Hk.TermAlikes_pure m1 m3)
theorem over : Rows.termAlikesRow.holds Tryz.pinned (OpenSpec.ofChange Rows.termAlikesSpec) :=
  OpenClaim.holds_of_wide 5 Tryz.f5 rfl rfl rfl rfl rfl rfl rfl ⟨rfl, rfl, rfl, rfl, rfl⟩ rfl rfl rfl rfl rfl (by kernel_rfl) Tryz.func5 (by kernel_rfl)
    (of_decide_eq_true (by kernel_rfl)) (by unfold Func.isWrapper; first | (rw [if_pos (by decide +kernel)]; kernel_rfl) | (rw [if_neg (by decide +kernel)]; exact ⟨rfl, rfl⟩))
    (fun os started H enc _ => lifted os started H enc)
theorem proved : Rows.TermAlikesSaid :=
  over
end Go.Proofs.YtlbeglekommoeaaGreat.termAlikes
