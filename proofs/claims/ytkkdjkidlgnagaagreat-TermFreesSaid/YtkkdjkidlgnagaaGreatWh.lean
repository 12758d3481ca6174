/- hearthlaw01.TermFrees returns true for every term, and changes nothing: which names are free in it. No condition. (And what it stands on.) -/
import Derived.Test.YtkkdjkidlgnagaaGreatRows
import Derived.Test.YtkkdjkidlgnagaaGreatWg
import Derived.WalkKit
import Derived.ProofKit
import Derived.OpenShut
set_option linter.unusedSimpArgs false
set_option linter.unusedVariables false

namespace Go.Proofs.YtkkdjkidlgnagaaGreat.termFrees
open Go.ChangeShapes Go.WideShapes Go.RowKit
set_option linter.unusedVariables false

theorem own : ownKnob Tryz.prog.godebug = none := by kernel_rfl

set_option maxRecDepth 100000 in
theorem lifted (os : Os) (started : os.Started) (H : Type) (enc : TypeId × Value → H) :
    ReturnsInHanded {} Tryz.checked os 3 .any (Rows.termFreesSpec.pre6 enc Tryz.prog Tryz.f3 Rows.termFreesRow.domain false) (Rows.termFreesSpec.post enc Tryz.prog Tryz.f3 false true false false) := by
  refine returnsInHanded_of_change (C := Tryz.checked) own started (by kernel_rfl) Tryz.func3
    (ChangeSpec.witness6 (enc := enc) (C := Tryz.checked) false ⟨#[], #[.agg #[.int .i64 0, .int .i64 0, .string ⟨#[]⟩, .slice none 0 0, .slice none 0 0]], []⟩ 8 (by kernel_rfl) (by kernel_rfl) (by kernel_rfl) (by kernel_rfl)) ?_
  intro W base args ds gs before hval hW hcnd _
  obtain ⟨p, q, hA, _⟩ := id hW
  obtain ⟨v, d, p1, e1, rfl, hd⟩ := Hk.trodAll1 (t := 26) hA
  obtain ⟨args⟩ := args
  simp only at e1
  subst e1
  obtain ⟨n, hn⟩ := Hk.Rds.of hd
  obtain ⟨m, hm⟩ := Hk.read_term n _ hn
  obtain ⟨cs, rfl⟩ := Hk.agg_of Tryz.underlying26 (hval 0 26 v rfl rfl)
  exact Hk.law_done hW rfl Tryz.func3 (by decide +kernel) rfl rfl Tryz.underlying4 (by kernel_rfl) (by kernel_rfl) rfl (vs := [.agg (Hk.dTmc m)]) (.mk (Hk.RV.agg hm) .nil) (Hk.TermFrees_pure m)

theorem over : Rows.termFreesRow.holds Tryz.pinned (OpenSpec.ofChange Rows.termFreesSpec) :=
  OpenClaim.holds_of_wide 3 Tryz.f3 rfl rfl rfl rfl rfl rfl rfl ⟨rfl, rfl, rfl, rfl, rfl⟩ rfl rfl rfl rfl rfl (by kernel_rfl) Tryz.func3 (by kernel_rfl)
    (of_decide_eq_true (by kernel_rfl)) (by unfold Func.isWrapper; first | (rw [if_pos (by decide +kernel)]; kernel_rfl) | (rw [if_neg (by decide +kernel)]; exact ⟨rfl, rfl⟩))
    (fun os started H enc _ => lifted os started H enc)

/-- ████ THE STATEMENT ████ -/
theorem proved : Rows.TermFreesSaid :=
  over
end Go.Proofs.YtkkdjkidlgnagaaGreat.termFrees
