/- hearthlaw01.TermNames returns true for every string and strings, and changes nothing: which strings are names, and the first name that is none of some. No condition. (And what it stands on.) -/
import Derived.Test.YtkkdjkidlgnagaaRows
import Derived.Test.YtkkdjkidlgnagaaWf
import Derived.WalkKit
import Derived.ProofKit
import Derived.OpenShut
set_option linter.unusedSimpArgs false
set_option linter.unusedVariables false

namespace Go.Proofs.Ytkkdjkidlgnagaa.termNames
open Go.ChangeShapes Go.WideShapes Go.RowKit
set_option linter.unusedVariables false

theorem own : ownKnob Try.prog.godebug = none := by kernel_rfl

set_option maxRecDepth 100000 in
theorem lifted (os : Os) (started : os.Started) (H : Type) (enc : TypeId × Value → H) :
    ReturnsInHanded {} Try.checked os 3 .any (Rows.termNamesSpec.pre6 enc Try.prog Try.f3 Rows.termNamesRow.domain false) (Rows.termNamesSpec.post enc Try.prog Try.f3 false true false false) := by
  refine returnsInHanded_of_change (C := Try.checked) own started (by kernel_rfl) Try.func3
    (ChangeSpec.witness6 (enc := enc) (C := Try.checked) false ⟨#[], #[.string ⟨#[]⟩, .slice none 0 0], []⟩ 8 (by kernel_rfl) (by kernel_rfl) (by kernel_rfl) (by kernel_rfl)) ?_
  intro W base args ds gs before hval hW hcnd _
  obtain ⟨p, q, hA, _⟩ := id hW
  obtain ⟨v1, v2, d1, d2, p1, p2, e1, rfl, hd1, hd2⟩ := Hk.trodAll2 (t := 9) (u := 22) hA
  obtain ⟨args⟩ := args
  simp only at e1
  subst e1
  obtain ⟨n1, hn1⟩ := Hk.Rds.of hd1
  obtain ⟨n2, hn2⟩ := Hk.Rds.of hd2
  obtain ⟨s, hs, _⟩ := Hk.rds_str Hk.ttM_ok (t := 9) rfl hn1
  obtain ⟨l, hl⟩ := Hk.rds_slice (d := fun s : Hk.Str => [Hk.V.str s]) Hk.ttM_ok (t := 22) (e := 9) rfl rfl (by decide) (fun _ => rfl) (fun m _ cs h => let ⟨s, h1, _⟩ := Hk.rds_str Hk.ttM_ok rfl h; ⟨s, h1⟩) hn2
  have r1 := Hk.one_of (hval 0 9 v1 rfl rfl) (.inl Try.underlying9) hs
  have r2 := Hk.one_of (hval 1 22 v2 rfl rfl) (.inr ⟨_, Try.underlying22⟩) hl
  exact Hk.law_done hW rfl Try.func3 (by decide +kernel) rfl rfl Try.underlying4 (by kernel_rfl) (by kernel_rfl) rfl (vs := [.str s, .sl (Hk.dStr l)]) (.mk r1 (.mk r2 .nil)) (Hk.TermNames_pure s l)

theorem over : Rows.termNamesRow.holds Try.pinned (OpenSpec.ofChange Rows.termNamesSpec) :=
  OpenClaim.holds_of_wide 3 Try.f3 rfl rfl rfl rfl rfl rfl rfl ⟨rfl, rfl, rfl, rfl, rfl⟩ rfl rfl rfl rfl rfl (by kernel_rfl) Try.func3 (by kernel_rfl)
    (of_decide_eq_true (by kernel_rfl)) (by unfold Func.isWrapper; first | (rw [if_pos (by decide +kernel)]; kernel_rfl) | (rw [if_neg (by decide +kernel)]; exact ⟨rfl, rfl⟩))
    (fun os started H enc _ => lifted os started H enc)

/-- ████ THE STATEMENT ████ -/
theorem proved : Rows.TermNamesSaid :=
  over
end Go.Proofs.Ytkkdjkidlgnagaa.termNames
