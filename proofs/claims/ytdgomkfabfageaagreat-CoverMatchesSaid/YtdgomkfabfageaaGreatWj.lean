/- hearthlaw04.CoverMatches returns true for every case, row and value, and changes nothing: what the names of a row mean, and the first row. No condition. (And what it stands on.) -/
import Derived.Test.YtdgomkfabfageaaGreatRows
import Derived.Test.YtdgomkfabfageaaGreatWd
import Derived.Test.YtdgomkfabfageaaGreatWi
import Derived.WalkKit
import Derived.ProofKit
import Derived.OpenShut
set_option linter.unusedSimpArgs false
set_option linter.unusedVariables false

set_option maxRecDepth 100000
namespace Go.Proofs.YtdgomkfabfageaaGreat.coverMatches
open Go.ChangeShapes Go.WideShapes Go.RowKit
set_option linter.unusedVariables false
theorem own : ownKnob Tryz.prog.godebug = none := by kernel_rfl
theorem Zh (os : Os) (started : os.Started) (H : Type) (enc : TypeId × Value → H) :
  ReturnsInHanded {} Tryz.checked os 3 .any (Rows.coverMatchesSpec.pre6 enc Tryz.prog Tryz.f3 Rows.coverMatchesRow.domain false) (Rows.coverMatchesSpec.post enc Tryz.prog Tryz.f3 false true false false) := by
 refine returnsInHanded_of_change (C := Tryz.checked) own started (by kernel_rfl) Tryz.func3
  (ChangeSpec.witness6 (enc := enc) (C := Tryz.checked) false ⟨#[],#[.agg #[.slice none 0 0,.int .i64 0,.int .i64 0,.string ⟨#[]⟩,.slice none 0 0,.slice none 0 0],.int .i64 0,.agg #[.int .i64 0,.int .i64 0,.string ⟨#[]⟩,.slice none 0 0]],[]⟩ 8 (by kernel_rfl) (by kernel_rfl) (by kernel_rfl) (by kernel_rfl)) ?_
 intro W base args ds gs before hval hW hcnd _
 obtain ⟨p,q,hA,_⟩ := id hW
 obtain ⟨v1,v2,v3,d1,d2,d3,p1,p2,p3,e1,rfl,hd1,hd2,hd3⟩ := Hk.trodAll3 (t := 29) (u := 3) (x := 33) hA
 obtain ⟨args⟩ := args
 simp only at e1
 subst e1
 obtain ⟨n1,hn1⟩ := Hk.Rds.of hd1
 obtain ⟨n3,hn3⟩ := Hk.Rds.of hd3
 obtain ⟨m1,hm1⟩ := Hk.read_case n1 _ hn1
 obtain ⟨m3,hm3⟩ := Hk.read_val n3 _ hn3
 obtain ⟨c1,rfl⟩ := Hk.agg_of Tryz.underlying29 (hval 0 29 v1 rfl rfl)
 obtain ⟨m2,rfl⟩ := WideShapes.okWide_int Tryz.underlying3 (hval 1 3 v2 rfl rfl)
 have r2 : Hk.RepV (Hk.immW W) (.int .i64 m2) (.int .i64 m2) := .int _ _
 obtain ⟨c3,rfl⟩ := Hk.agg_of Tryz.underlying33 (hval 2 33 v3 rfl rfl)
 exact Hk.law_done hW rfl Tryz.func3 (by decide +kernel) rfl rfl Tryz.underlying4 (by kernel_rfl) (by kernel_rfl) rfl (vs := [.agg (Hk.dCse m1),.int .i64 m2,.agg (Hk.dTyc m3)]) (.mk (Hk.RV.agg hm1) (.mk r2 (.mk (Hk.RV.agg hm3) .nil))) (Hk.CoverMatches_of Go.Gx.Kk.known_pure m1 m2 m3)
theorem over : Rows.coverMatchesRow.holds Tryz.pinned (OpenSpec.ofChange Rows.coverMatchesSpec) :=
 OpenClaim.holds_of_wide 3 Tryz.f3 rfl rfl rfl rfl rfl rfl rfl ⟨rfl,rfl,rfl,rfl,rfl⟩ rfl rfl rfl rfl rfl (by kernel_rfl) Tryz.func3 (by kernel_rfl)
  (of_decide_eq_true (by kernel_rfl)) (by unfold Func.isWrapper;first | (rw [if_pos (by decide +kernel)];kernel_rfl) | (rw [if_neg (by decide +kernel)];exact ⟨rfl,rfl⟩))
  (fun os started H enc _ => Zh os started H enc)
theorem proved : Rows.CoverMatchesSaid :=
 over
end Go.Proofs.YtdgomkfabfageaaGreat.coverMatches
