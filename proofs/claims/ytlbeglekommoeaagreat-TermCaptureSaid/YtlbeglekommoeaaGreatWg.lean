/- hearthlaw01.TermCapture returns true for every two terms, two strings and a number, and changes nothing: the theorem of names, of a term with another one in place of a name. No condition. (And what it stands on.) -/
import Derived.Test.YtlbeglekommoeaaGreatRows
import Derived.Test.YtlbeglekommoeaaGreatWf
import Derived.WalkKit
import Derived.ProofKit
import Derived.OpenShut
set_option linter.unusedSimpArgs false
set_option linter.unusedVariables false

namespace Go.Proofs.YtlbeglekommoeaaGreat.termCapture
open Go.ChangeShapes Go.WideShapes Go.RowKit
set_option linter.unusedVariables false
theorem own : ownKnob Tryz.prog.godebug = none := by kernel_rfl
set_option maxRecDepth 100000 in
theorem lifted (os : Os) (started : os.Started) (H : Type) (enc : TypeId × Value → H) :
    ReturnsInHanded {} Tryz.checked os 4 .any (Rows.termCaptureSpec.pre6 enc Tryz.prog Tryz.f4 Rows.termCaptureRow.domain false) (Rows.termCaptureSpec.post enc Tryz.prog Tryz.f4 false true false false) := by
  refine returnsInHanded_of_change (C := Tryz.checked) own started (by kernel_rfl) Tryz.func4
    (ChangeSpec.witness6 (enc := enc) (C := Tryz.checked) false ⟨#[], #[.agg #[.int .i64 0, .int .i64 0, .string ⟨#[]⟩, .slice none 0 0, .slice none 0 0], .string ⟨#[]⟩, .agg #[.int .i64 0, .int .i64 0, .string ⟨#[]⟩, .slice none 0 0, .slice none 0 0], .string ⟨#[]⟩, .int .i64 0], []⟩ 8 (by kernel_rfl) (by kernel_rfl) (by kernel_rfl) (by kernel_rfl)) ?_
  intro W base args ds gs before hval hW hcnd _
  obtain ⟨p, q, hA, _⟩ := id hW
  obtain ⟨v1, w1, d1, f1, p1, q1, e1, rfl, hd1, hB⟩ := Hk.trodAllS (t := 26) (ts := [9, 26, 9, 3]) hA
  obtain ⟨v2, w2, d2, f2, p2, q2, rfl, rfl, hd2, hC⟩ := Hk.trodAllS (t := 9) (ts := [26, 9, 3]) hB
  obtain ⟨v3, v4, v5, d3, d4, d5, p3, p4, p5, rfl, rfl, hd3, hd4, hd5⟩ := Hk.trodAll3 (t := 26) (u := 9) (x := 3) hC
  obtain ⟨args⟩ := args
  simp only at e1
  subst e1
  obtain ⟨n1, hn1⟩ := Hk.Rds.of hd1
  obtain ⟨n2, hn2⟩ := Hk.Rds.of hd2
  obtain ⟨n3, hn3⟩ := Hk.Rds.of hd3
  obtain ⟨n4, hn4⟩ := Hk.Rds.of hd4
  obtain ⟨m1, hm1⟩ := Hk.read_term n1 _ hn1
  obtain ⟨l, hl, _⟩ := Hk.rds_str Hk.ttX_ok (t := 9) rfl hn2
  obtain ⟨m3, hm3⟩ := Hk.read_term n3 _ hn3
  obtain ⟨l4, hl4, _⟩ := Hk.rds_str Hk.ttX_ok (t := 9) rfl hn4
  obtain ⟨c1, rfl⟩ := Hk.agg_of Tryz.underlying26 (hval 0 26 v1 rfl rfl)
  have r2 := Hk.one_of (hval 1 9 v2 rfl rfl) (.inl Tryz.underlying9) hl
  obtain ⟨c3, rfl⟩ := Hk.agg_of Tryz.underlying26 (hval 2 26 v3 rfl rfl)
  have r4 := Hk.one_of (hval 3 9 v4 rfl rfl) (.inl Tryz.underlying9) hl4
  obtain ⟨m5, rfl⟩ := WideShapes.okWide_int Tryz.underlying3 (hval 4 3 v5 rfl rfl)
  have r5 : Hk.RepV (Hk.immW W) (.int .i64 m5) (.int .i64 m5) := .int _ _
  exact Hk.law_done hW rfl Tryz.func4 (by decide +kernel) rfl rfl Tryz.underlying4 (by kernel_rfl) (by kernel_rfl) rfl (vs := [.agg (Hk.dTmc m1), .str l, .agg (Hk.dTmc m3), .str l4, .int .i64 m5]) (.mk (Hk.RV.agg hm1) (.mk r2 (.mk (Hk.RV.agg hm3) (.mk r4 (.mk r5 .nil))))) (Hk.TermCapture_pure m1 l m3 l4 m5)
theorem over : Rows.termCaptureRow.holds Tryz.pinned (OpenSpec.ofChange Rows.termCaptureSpec) :=
  OpenClaim.holds_of_wide 4 Tryz.f4 rfl rfl rfl rfl rfl rfl rfl ⟨rfl, rfl, rfl, rfl, rfl⟩ rfl rfl rfl rfl rfl (by kernel_rfl) Tryz.func4 (by kernel_rfl)
    (of_decide_eq_true (by kernel_rfl)) (by unfold Func.isWrapper; first | (rw [if_pos (by decide +kernel)]; kernel_rfl) | (rw [if_neg (by decide +kernel)]; exact ⟨rfl, rfl⟩))
    (fun os started H enc _ => lifted os started H enc)
theorem proved : Rows.TermCaptureSaid :=
  over
end Go.Proofs.YtlbeglekommoeaaGreat.termCapture
