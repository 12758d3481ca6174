/- hearthlaw04.CoverNames returns true for every case, row and two values, and changes nothing: names do not matter to what matches, and mean what stands in their places. No condition. (And what it stands on.) -/
import Derived.Test.YtdgomkfabfageaaGreatRows
import Derived.Test.YtdgomkfabfageaaGreatVd
import Derived.Test.YtdgomkfabfageaaGreatVi
import Derived.WalkKit
import Derived.ProofKit
import Derived.OpenShut
set_option linter.unusedSimpArgs false
set_option linter.unusedVariables false

set_option maxRecDepth 100000
namespace Go.Proofs.YtdgomkfabfageaaGreat.coverNames
open Go.ChangeShapes Go.WideShapes Go.RowKit
set_option linter.unusedVariables false
theorem own : ownKnob Tryz.prog.godebug = none:=by kernel_rfl
theorem aD (os : Os) (started : os.Started) (H : Type) (enc : TypeId × Value → H) :
  ReturnsInHanded {} Tryz.checked os 4 .any (Rows.coverNamesSpec.pre6 enc Tryz.prog Tryz.f4 Rows.coverNamesRow.domain false) (Rows.coverNamesSpec.post enc Tryz.prog Tryz.f4 false true false false):=by
 refine returnsInHanded_of_change (C:=Tryz.checked) own started (by kernel_rfl) Tryz.func4
  (ChangeSpec.witness6 (enc:=enc) (C:=Tryz.checked) false ⟨#[],#[.agg #[.slice none 0 0,.int .i64 0,.int .i64 0,.string ⟨#[]⟩,.slice none 0 0,.slice none 0 0],.int .i64 0,.agg #[.int .i64 0,.int .i64 0,.string ⟨#[]⟩,.slice none 0 0],.agg #[.int .i64 0,.int .i64 0,.string ⟨#[]⟩,.slice none 0 0]],[]⟩ 8 (by kernel_rfl) (by kernel_rfl) (by kernel_rfl) (by kernel_rfl)) ?_
 intro W base args ds gs before hval hW hcnd _
 obtain ⟨p,q,hA,_⟩:=id hW
 obtain ⟨v1,w1,d1,f1,p1,q1,e1,rfl,hd1,hB⟩:=Hk.trodAllS (t:=29) (ts:=[3,33,33]) hA
 obtain ⟨v2,v3,v4,d2,d3,d4,p2,p3,p4,rfl,rfl,hd2,hd3,hd4⟩:=Hk.trodAll3 (t:=3) (u:=33) (x:=33) hB
 obtain ⟨args⟩:=args
 simp only at e1
 subst e1
 obtain ⟨n1,hn1⟩:=Hk.Rds.of hd1
 obtain ⟨n3,hn3⟩:=Hk.Rds.of hd3
 obtain ⟨n4,hn4⟩:=Hk.Rds.of hd4
 obtain ⟨m1,hm1⟩:=Hk.read_case n1 _ hn1
 obtain ⟨m3,hm3⟩:=Hk.read_val n3 _ hn3
 obtain ⟨m4,hm4⟩:=Hk.read_val n4 _ hn4
 obtain ⟨c1,rfl⟩:=Hk.agg_of Tryz.underlying29 (hval 0 29 v1 rfl rfl)
 obtain ⟨m2,rfl⟩:=WideShapes.okWide_int Tryz.underlying3 (hval 1 3 v2 rfl rfl)
 have r2 : Hk.RepV (Hk.immW W) (.int .i64 m2) (.int .i64 m2):=.int _ _
 obtain ⟨c3,rfl⟩:=Hk.agg_of Tryz.underlying33 (hval 2 33 v3 rfl rfl)
 obtain ⟨c4,rfl⟩:=Hk.agg_of Tryz.underlying33 (hval 3 33 v4 rfl rfl)
 exact Hk.law_done hW rfl Tryz.func4 (by decide +kernel) rfl rfl Tryz.underlying4 (by kernel_rfl) (by kernel_rfl) rfl (vs:=[.agg (Hk.dCse m1),.int .i64 m2,.agg (Hk.dTyc m3),.agg (Hk.dTyc m4)]) (.mk (Hk.RV.agg hm1) (.mk r2 (.mk (Hk.RV.agg hm3) (.mk (Hk.RV.agg hm4) .nil)))) (Hk.CoverNames_of Go.Gx.Kk.known_pure m1 m2 m3 m4)
theorem over : Rows.coverNamesRow.holds Tryz.pinned (OpenSpec.ofChange Rows.coverNamesSpec) :=
 OpenClaim.holds_of_wide 4 Tryz.f4 rfl rfl rfl rfl rfl rfl rfl ⟨rfl,rfl,rfl,rfl,rfl⟩ rfl rfl rfl rfl rfl (by kernel_rfl) Tryz.func4 (by kernel_rfl)
  (of_decide_eq_true (by kernel_rfl)) (by unfold Func.isWrapper;first | (rw [if_pos (by decide +kernel)];kernel_rfl) | (rw [if_neg (by decide +kernel)];exact ⟨rfl,rfl⟩))
  (fun os started H enc _=>aD os started H enc)
theorem proved : Rows.CoverNamesSaid :=
 over
end Go.Proofs.YtdgomkfabfageaaGreat.coverNames
