/- hearthlaw01.TermPut returns true for every term, path and part, and changes nothing: the theorem of parts. No condition. (And what it stands on.) -/
import Derived.Test.YtkkdjkidlgnagaaGreatRows
import Derived.Test.YtkkdjkidlgnagaaGreatWg
import Derived.WalkKit
import Derived.ProofKit
import Derived.OpenShut
set_option linter.unusedSimpArgs false
set_option linter.unusedVariables false

namespace Go.Proofs.YtkkdjkidlgnagaaGreat.termPut
open Go.ChangeShapes Go.WideShapes Go.RowKit
set_option linter.unusedVariables false

theorem own : ownKnob Tryz.prog.godebug = none := by kernel_rfl

set_option maxRecDepth 100000 in
theorem lifted (os : Os) (started : os.Started) (H : Type) (enc : TypeId × Value → H) :
    ReturnsInHanded {} Tryz.checked os 5 .any (Rows.termPutSpec.pre6 enc Tryz.prog Tryz.f5 Rows.termPutRow.domain false) (Rows.termPutSpec.post enc Tryz.prog Tryz.f5 false true false false) := by
  refine returnsInHanded_of_change (C := Tryz.checked) own started (by kernel_rfl) Tryz.func5
    (ChangeSpec.witness6 (enc := enc) (C := Tryz.checked) false ⟨#[], #[.agg #[.int .i64 0, .int .i64 0, .string ⟨#[]⟩, .slice none 0 0, .slice none 0 0], .slice none 0 0, .agg #[.int .i64 0, .int .i64 0, .string ⟨#[]⟩, .slice none 0 0, .slice none 0 0]], []⟩ 8 (by kernel_rfl) (by kernel_rfl) (by kernel_rfl) (by kernel_rfl)) ?_
  intro W base args ds gs before hval hW hcnd _
  obtain ⟨p, q, hA, _⟩ := id hW
  obtain ⟨v1, v2, v3, d1, d2, d3, p1, p2, p3, e1, rfl, hd1, hd2, hd3⟩ := Hk.trodAll3 (t := 26) (u := 35) (x := 26) hA
  obtain ⟨args⟩ := args
  simp only at e1
  subst e1
  obtain ⟨n1, hn1⟩ := Hk.Rds.of hd1
  obtain ⟨n2, hn2⟩ := Hk.Rds.of hd2
  obtain ⟨n3, hn3⟩ := Hk.Rds.of hd3
  obtain ⟨m1, hm1⟩ := Hk.read_term n1 _ hn1
  obtain ⟨l, hl⟩ := Hk.rds_slice (d := fun x : Int => [Hk.V.int .i64 x]) Hk.ttP2_ok (t := 35) (e := 3) rfl rfl (by decide) (fun _ => rfl) (fun m _ cs h => let ⟨s, h1, _⟩ := Hk.rds_int Hk.ttP2_ok rfl h; ⟨s, h1⟩) hn2
  obtain ⟨m3, hm3⟩ := Hk.read_term n3 _ hn3
  obtain ⟨c1, rfl⟩ := Hk.agg_of Tryz.underlying26 (hval 0 26 v1 rfl rfl)
  have r2 := Hk.one_of (hval 1 35 v2 rfl rfl) (.inr ⟨_, Tryz.underlying35⟩) hl
  obtain ⟨c3, rfl⟩ := Hk.agg_of Tryz.underlying26 (hval 2 26 v3 rfl rfl)
  exact Hk.law_done hW rfl Tryz.func5 (by decide +kernel) rfl rfl Tryz.underlying4 (by kernel_rfl) (by kernel_rfl) rfl (vs := [.agg (Hk.dTmc m1), .sl (Hk.dInts l), .agg (Hk.dTmc m3)]) (.mk (Hk.RV.agg hm1) (.mk r2 (.mk (Hk.RV.agg hm3) .nil))) (Hk.TermPut_pure m1 l m3)

theorem over : Rows.termPutRow.holds Tryz.pinned (OpenSpec.ofChange Rows.termPutSpec) :=
  OpenClaim.holds_of_wide 5 Tryz.f5 rfl rfl rfl rfl rfl rfl rfl ⟨rfl, rfl, rfl, rfl, rfl⟩ rfl rfl rfl rfl rfl (by kernel_rfl) Tryz.func5 (by kernel_rfl)
    (of_decide_eq_true (by kernel_rfl)) (by unfold Func.isWrapper; first | (rw [if_pos (by decide +kernel)]; kernel_rfl) | (rw [if_neg (by decide +kernel)]; exact ⟨rfl, rfl⟩))
    (fun os started H enc _ => lifted os started H enc)

/-- ████ THE STATEMENT ████ -/
theorem proved : Rows.TermPutSaid :=
  over
end Go.Proofs.YtkkdjkidlgnagaaGreat.termPut
