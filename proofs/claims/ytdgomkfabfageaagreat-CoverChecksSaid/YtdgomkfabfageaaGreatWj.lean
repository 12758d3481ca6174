/- hearthlaw04.CoverChecks returns true for every case and value, and changes nothing: which cases are as defined, and which values are of their types. No condition. (And what it stands on.) -/
import Derived.Test.YtdgomkfabfageaaGreatRows
import Derived.Test.YtdgomkfabfageaaGreatWd
import Derived.Test.YtdgomkfabfageaaGreatWi
import Derived.WalkKit
import Derived.ProofKit
import Derived.OpenShut
set_option linter.unusedSimpArgs false
set_option linter.unusedVariables false

namespace Go.Proofs.YtdgomkfabfageaaGreat.coverChecks
open Go.ChangeShapes Go.WideShapes Go.RowKit
set_option linter.unusedVariables false
theorem own : ownKnob Tryz.prog.godebug = none := by kernel_rfl
set_option maxRecDepth 100000 in
theorem lifted (os : Os) (started : os.Started) (H : Type) (enc : TypeId × Value → H) :
    ReturnsInHanded {} Tryz.checked os 5 .any (Rows.coverChecksSpec.pre6 enc Tryz.prog Tryz.f5 Rows.coverChecksRow.domain false) (Rows.coverChecksSpec.post enc Tryz.prog Tryz.f5 false true false false) := by
  refine returnsInHanded_of_change (C := Tryz.checked) own started (by kernel_rfl) Tryz.func5
    (ChangeSpec.witness6 (enc := enc) (C := Tryz.checked) false ⟨#[], #[.agg #[.slice none 0 0, .int .i64 0, .int .i64 0, .string ⟨#[]⟩, .slice none 0 0, .slice none 0 0], .agg #[.int .i64 0, .int .i64 0, .string ⟨#[]⟩, .slice none 0 0]], []⟩ 8 (by kernel_rfl) (by kernel_rfl) (by kernel_rfl) (by kernel_rfl)) ?_
  intro W base args ds gs before hval hW hcnd _
  obtain ⟨p, q, hA, _⟩ := id hW
  obtain ⟨v1, v2, d1, d2, p1, p2, e1, rfl, hd1, hd2⟩ := Hk.trodAll2 (t := 29) (u := 33) hA
  obtain ⟨args⟩ := args
  simp only at e1
  subst e1
  obtain ⟨n1, hn1⟩ := Hk.Rds.of hd1
  obtain ⟨n2, hn2⟩ := Hk.Rds.of hd2
  obtain ⟨m1, hm1⟩ := Hk.read_case n1 _ hn1
  obtain ⟨m2, hm2⟩ := Hk.read_val n2 _ hn2
  obtain ⟨c1, rfl⟩ := Hk.agg_of Tryz.underlying29 (hval 0 29 v1 rfl rfl)
  obtain ⟨c2, rfl⟩ := Hk.agg_of Tryz.underlying33 (hval 1 33 v2 rfl rfl)
  exact Hk.law_done hW rfl Tryz.func5 (by decide +kernel) rfl rfl Tryz.underlying4 (by kernel_rfl) (by kernel_rfl) rfl (vs := [.agg (Hk.dCse m1), .agg (Hk.dTyc m2)]) (.mk (Hk.RV.agg hm1) (.mk (Hk.RV.agg hm2) .nil)) (Hk.CoverChecks_of Go.Gx.Kk.known_pure m1 m2)
theorem over : Rows.coverChecksRow.holds Tryz.pinned (OpenSpec.ofChange Rows.coverChecksSpec) :=
  OpenClaim.holds_of_wide 5 Tryz.f5 rfl rfl rfl rfl rfl rfl rfl ⟨rfl, rfl, rfl, rfl, rfl⟩ rfl rfl rfl rfl rfl (by kernel_rfl) Tryz.func5 (by kernel_rfl)
    (of_decide_eq_true (by kernel_rfl)) (by unfold Func.isWrapper; first | (rw [if_pos (by decide +kernel)]; kernel_rfl) | (rw [if_neg (by decide +kernel)]; exact ⟨rfl, rfl⟩))
    (fun os started H enc _ => lifted os started H enc)
theorem proved : Rows.CoverChecksSaid :=
  over
end Go.Proofs.YtdgomkfabfageaaGreat.coverChecks
