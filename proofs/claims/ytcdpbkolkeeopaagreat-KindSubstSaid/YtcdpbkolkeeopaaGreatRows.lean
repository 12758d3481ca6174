/-
  NARROWER THAN 'FOR EVERY INPUT', by the rows' own cells (each row's printed sentence says how): KindUnifies: loops · KindGeneral: loops · KindInfers: loops · KindEffects: loops · KindModules: loops · KindInstances: loops · KindSame: loops · KindSubst: loops.
  DERIVED. THE GIVEN ROWS OF THIS SEAT. 8 by the template 'for every input the law returns true; each argument reads behind the call as it read before'; 0 by the template 'total and deterministic' (their statements: YtcdpbkolkeeopaaGreatTotals.lean).
  GIVEN WITH THE SEED: the statements are not yours to turn. If you find one false, say at which input.
  Laid BY PROGRAM, IN A SANDBOX (cutbox-rows.mjs): the forced cells as the released guide's own fill.sh prints them over the translation efb5dbf6527cc1bd… (all of the seat's roots in one cut). By AI agents, Wed Nov 11 2026. No macro, syntax, notation, axiom, sorry.
-/
import Derived.Test.YtcdpbkolkeeopaaGreatChecked
import GoSem.Claim
import GoSem.ClaimJoined
import GoSem.ClaimMapViews
import Derived.JoinedTies
import Derived.KernelRfl
namespace Go.Proofs.YtcdpbkolkeeopaaGreat
/- THE CELL 'sum', in the pinned program and in every row, IS THE sha256 OF THE DUMP (.gsa) THAT YtcdpbkolkeeopaaGreatProg.lean LOADS. Nothing in Lean hashes anything: it is a label: what it is worth is what the hold of that sum in a sandbox is worth. -/
noncomputable def Tryz.pinned : Pinned := { name := "ytcdpbkolkeeopaagreat", sum := "efb5dbf6527cc1bdc803672a40a4a80e44fd5a9305ee1e86df9e3e76931c886f", checked := Tryz.checked }
namespace Rows
def none {H : Type} : Left H := { results := [], args := [] }

/-- 'hearthlaw03.KindUnifies': WHATEVER THE INPUT: true; the input reads as it did. -/
def kindUnifiesSpec : ChangeSpec := { name := "kindUnifies", fn := fun _ => fun
  | [d1, d2] => { results := [.lit (.bool true)], args := [d1, d2] }
  | _ => none }
def kindUnifiesRow : OpenClaim := { program := "ytcdpbkolkeeopaagreat", sum := "efb5dbf6527cc1bdc803672a40a4a80e44fd5a9305ee1e86df9e3e76931c886f", func := "hearth/hearthlaw03.KindUnifies", spec := "kindUnifies", unfollowed := true, recurses := true, loops := true, apart := false }
def KindUnifiesSaid : Prop := kindUnifiesRow.holds Tryz.pinned (OpenSpec.ofChange kindUnifiesSpec)

/-- ITS FALSE NEIGHBOUR: 'it returns false'. Refute it at one input. -/
def kindUnifiesWrong : ChangeSpec := { name := "kindUnifies", fn := fun _ => fun
  | [d1, d2] => { results := [.lit (.bool false)], args := [d1, d2] }
  | _ => none }
def KindUnifiesWrongFalsely : Prop := kindUnifiesRow.holds Tryz.pinned (OpenSpec.ofChange kindUnifiesWrong)

/-- 'hearthlaw03.KindGeneral': WHATEVER THE INPUT: true; the input reads as it did. -/
def kindGeneralSpec : ChangeSpec := { name := "kindGeneral", fn := fun _ => fun
  | [d1, d2, d3] => { results := [.lit (.bool true)], args := [d1, d2, d3] }
  | _ => none }
def kindGeneralRow : OpenClaim := { program := "ytcdpbkolkeeopaagreat", sum := "efb5dbf6527cc1bdc803672a40a4a80e44fd5a9305ee1e86df9e3e76931c886f", func := "hearth/hearthlaw03.KindGeneral", spec := "kindGeneral", unfollowed := true, recurses := true, loops := true, apart := false }
def KindGeneralSaid : Prop := kindGeneralRow.holds Tryz.pinned (OpenSpec.ofChange kindGeneralSpec)

/-- ITS FALSE NEIGHBOUR: 'it returns false'. Refute it at one input. -/
def kindGeneralWrong : ChangeSpec := { name := "kindGeneral", fn := fun _ => fun
  | [d1, d2, d3] => { results := [.lit (.bool false)], args := [d1, d2, d3] }
  | _ => none }
def KindGeneralWrongFalsely : Prop := kindGeneralRow.holds Tryz.pinned (OpenSpec.ofChange kindGeneralWrong)

/-- 'hearthlaw03.KindInfers': WHATEVER THE INPUT: true; the input reads as it did. -/
def kindInfersSpec : ChangeSpec := { name := "kindInfers", fn := fun _ => fun
  | [d1, d2, d3] => { results := [.lit (.bool true)], args := [d1, d2, d3] }
  | _ => none }
def kindInfersRow : OpenClaim := { program := "ytcdpbkolkeeopaagreat", sum := "efb5dbf6527cc1bdc803672a40a4a80e44fd5a9305ee1e86df9e3e76931c886f", func := "hearth/hearthlaw03.KindInfers", spec := "kindInfers", unfollowed := true, recurses := true, loops := true, apart := false }
def KindInfersSaid : Prop := kindInfersRow.holds Tryz.pinned (OpenSpec.ofChange kindInfersSpec)

/-- ITS FALSE NEIGHBOUR: 'it returns false'. Refute it at one input. -/
def kindInfersWrong : ChangeSpec := { name := "kindInfers", fn := fun _ => fun
  | [d1, d2, d3] => { results := [.lit (.bool false)], args := [d1, d2, d3] }
  | _ => none }
def KindInfersWrongFalsely : Prop := kindInfersRow.holds Tryz.pinned (OpenSpec.ofChange kindInfersWrong)

/-- 'hearthlaw03.KindEffects': WHATEVER THE INPUT: true; the input reads as it did. -/
def kindEffectsSpec : ChangeSpec := { name := "kindEffects", fn := fun _ => fun
  | [d1, d2] => { results := [.lit (.bool true)], args := [d1, d2] }
  | _ => none }
def kindEffectsRow : OpenClaim := { program := "ytcdpbkolkeeopaagreat", sum := "efb5dbf6527cc1bdc803672a40a4a80e44fd5a9305ee1e86df9e3e76931c886f", func := "hearth/hearthlaw03.KindEffects", spec := "kindEffects", unfollowed := true, recurses := true, loops := true, apart := false }
def KindEffectsSaid : Prop := kindEffectsRow.holds Tryz.pinned (OpenSpec.ofChange kindEffectsSpec)

/-- ITS FALSE NEIGHBOUR: 'it returns false'. Refute it at one input. -/
def kindEffectsWrong : ChangeSpec := { name := "kindEffects", fn := fun _ => fun
  | [d1, d2] => { results := [.lit (.bool false)], args := [d1, d2] }
  | _ => none }
def KindEffectsWrongFalsely : Prop := kindEffectsRow.holds Tryz.pinned (OpenSpec.ofChange kindEffectsWrong)

/-- 'hearthlaw03.KindModules': WHATEVER THE INPUT: true; the input reads as it did. -/
def kindModulesSpec : ChangeSpec := { name := "kindModules", fn := fun _ => fun
  | [d] => { results := [.lit (.bool true)], args := [d] }
  | _ => none }
def kindModulesRow : OpenClaim := { program := "ytcdpbkolkeeopaagreat", sum := "efb5dbf6527cc1bdc803672a40a4a80e44fd5a9305ee1e86df9e3e76931c886f", func := "hearth/hearthlaw03.KindModules", spec := "kindModules", unfollowed := true, recurses := true, loops := true, apart := false }
def KindModulesSaid : Prop := kindModulesRow.holds Tryz.pinned (OpenSpec.ofChange kindModulesSpec)

/-- ITS FALSE NEIGHBOUR: 'it returns false'. Refute it at one input. -/
def kindModulesWrong : ChangeSpec := { name := "kindModules", fn := fun _ => fun
  | [d] => { results := [.lit (.bool false)], args := [d] }
  | _ => none }
def KindModulesWrongFalsely : Prop := kindModulesRow.holds Tryz.pinned (OpenSpec.ofChange kindModulesWrong)

/-- 'hearthlaw03.KindInstances': WHATEVER THE INPUT: true; the input reads as it did. -/
def kindInstancesSpec : ChangeSpec := { name := "kindInstances", fn := fun _ => fun
  | [d1, d2, d3, d4, d5] => { results := [.lit (.bool true)], args := [d1, d2, d3, d4, d5] }
  | _ => none }
def kindInstancesRow : OpenClaim := { program := "ytcdpbkolkeeopaagreat", sum := "efb5dbf6527cc1bdc803672a40a4a80e44fd5a9305ee1e86df9e3e76931c886f", func := "hearth/hearthlaw03.KindInstances", spec := "kindInstances", unfollowed := true, recurses := true, loops := true, apart := false }
def KindInstancesSaid : Prop := kindInstancesRow.holds Tryz.pinned (OpenSpec.ofChange kindInstancesSpec)

/-- ITS FALSE NEIGHBOUR: 'it returns false'. Refute it at one input. -/
def kindInstancesWrong : ChangeSpec := { name := "kindInstances", fn := fun _ => fun
  | [d1, d2, d3, d4, d5] => { results := [.lit (.bool false)], args := [d1, d2, d3, d4, d5] }
  | _ => none }
def KindInstancesWrongFalsely : Prop := kindInstancesRow.holds Tryz.pinned (OpenSpec.ofChange kindInstancesWrong)

/-- 'hearthlaw03.KindSame': WHATEVER THE INPUT: true; the input reads as it did. -/
def kindSameSpec : ChangeSpec := { name := "kindSame", fn := fun _ => fun
  | [d1, d2, d3, d4] => { results := [.lit (.bool true)], args := [d1, d2, d3, d4] }
  | _ => none }
def kindSameRow : OpenClaim := { program := "ytcdpbkolkeeopaagreat", sum := "efb5dbf6527cc1bdc803672a40a4a80e44fd5a9305ee1e86df9e3e76931c886f", func := "hearth/hearthlaw03.KindSame", spec := "kindSame", unfollowed := true, recurses := true, loops := true, apart := false }
def KindSameSaid : Prop := kindSameRow.holds Tryz.pinned (OpenSpec.ofChange kindSameSpec)

/-- ITS FALSE NEIGHBOUR: 'it returns false'. Refute it at one input. -/
def kindSameWrong : ChangeSpec := { name := "kindSame", fn := fun _ => fun
  | [d1, d2, d3, d4] => { results := [.lit (.bool false)], args := [d1, d2, d3, d4] }
  | _ => none }
def KindSameWrongFalsely : Prop := kindSameRow.holds Tryz.pinned (OpenSpec.ofChange kindSameWrong)

/-- 'hearthlaw03.KindSubst': WHATEVER THE INPUT: true; the input reads as it did. -/
def kindSubstSpec : ChangeSpec := { name := "kindSubst", fn := fun _ => fun
  | [d1, d2, d3, d4, d5] => { results := [.lit (.bool true)], args := [d1, d2, d3, d4, d5] }
  | _ => none }
def kindSubstRow : OpenClaim := { program := "ytcdpbkolkeeopaagreat", sum := "efb5dbf6527cc1bdc803672a40a4a80e44fd5a9305ee1e86df9e3e76931c886f", func := "hearth/hearthlaw03.KindSubst", spec := "kindSubst", unfollowed := true, recurses := true, loops := true, apart := false }
def KindSubstSaid : Prop := kindSubstRow.holds Tryz.pinned (OpenSpec.ofChange kindSubstSpec)

/-- ITS FALSE NEIGHBOUR: 'it returns false'. Refute it at one input. -/
def kindSubstWrong : ChangeSpec := { name := "kindSubst", fn := fun _ => fun
  | [d1, d2, d3, d4, d5] => { results := [.lit (.bool false)], args := [d1, d2, d3, d4, d5] }
  | _ => none }
def KindSubstWrongFalsely : Prop := kindSubstRow.holds Tryz.pinned (OpenSpec.ofChange kindSubstWrong)

/- THE SECOND FORM. 'bulk': how many values and letters a reading holds, each counted each time it is reached (what is shared counts as often as it is met; a slice's spare places count too). A statement '..UptoSaid' is the law's where the arguments, and the package variables that the reading takes, are together of bulk at most 1048576: NARROWER than '..Said'. Prove '..Said' where nothing that the law and all that it calls make is longer than what came in: it says more and counts as full. Else prove '..UptoSaid'. A law counts once. -/
mutual
def uptoBulk {H : Type} : DataW H → Nat
  | .lit (.string bytes) => bytes.length + 1
  | .lit _ => 1
  | .nil => 1
  | .ptr d => uptoBulk d + 1
  | .slice elems spare => uptoBulkAll elems + uptoBulkAll spare + 1
  | .agg parts => uptoBulkAll parts + 1
  | .iface _ d => uptoBulk d + 1
  | .map entries => uptoBulkEntries entries + 1
  | .held _ => 1
def uptoBulkAll {H : Type} : List (DataW H) → Nat
  | [] => 0
  | d :: r => uptoBulk d + uptoBulkAll r
def uptoBulkEntries {H : Type} : List (Lit × DataW H) → Nat
  | [] => 0
  | x :: r => uptoBulkEntry x + uptoBulkEntries r
def uptoBulkEntry {H : Type} : Lit × DataW H → Nat
  | (.string bytes, d) => bytes.length + uptoBulk d + 1
  | (_, d) => uptoBulk d + 1
 end
def uptoSmall : (H : Type) → List (DataW H) → Bool := fun _ ds => decide (uptoBulkAll ds ≤ 1048576)
def OpenSpec.upto (s : _root_.Go.ChangeSpec) : _root_.Go.OpenSpec := { _root_.Go.OpenSpec.ofChange s with cond := some uptoSmall }

/-- 'hearthlaw03.KindUnifies', WHERE WHAT IT READS IS OF BULK AT MOST 1048576: true; the input reads as it did. -/
def kindUnifiesUptoRow : OpenClaim := { program := "ytcdpbkolkeeopaagreat", sum := "efb5dbf6527cc1bdc803672a40a4a80e44fd5a9305ee1e86df9e3e76931c886f", func := "hearth/hearthlaw03.KindUnifies", spec := "kindUnifies", unfollowed := true, recurses := true, loops := true, apart := false, narrowed := true }
def KindUnifiesUptoSaid : Prop := kindUnifiesUptoRow.holds Tryz.pinned (OpenSpec.upto kindUnifiesSpec)

/-- 'hearthlaw03.KindGeneral', WHERE WHAT IT READS IS OF BULK AT MOST 1048576: true; the input reads as it did. -/
def kindGeneralUptoRow : OpenClaim := { program := "ytcdpbkolkeeopaagreat", sum := "efb5dbf6527cc1bdc803672a40a4a80e44fd5a9305ee1e86df9e3e76931c886f", func := "hearth/hearthlaw03.KindGeneral", spec := "kindGeneral", unfollowed := true, recurses := true, loops := true, apart := false, narrowed := true }
def KindGeneralUptoSaid : Prop := kindGeneralUptoRow.holds Tryz.pinned (OpenSpec.upto kindGeneralSpec)

/-- 'hearthlaw03.KindInfers', WHERE WHAT IT READS IS OF BULK AT MOST 1048576: true; the input reads as it did. -/
def kindInfersUptoRow : OpenClaim := { program := "ytcdpbkolkeeopaagreat", sum := "efb5dbf6527cc1bdc803672a40a4a80e44fd5a9305ee1e86df9e3e76931c886f", func := "hearth/hearthlaw03.KindInfers", spec := "kindInfers", unfollowed := true, recurses := true, loops := true, apart := false, narrowed := true }
def KindInfersUptoSaid : Prop := kindInfersUptoRow.holds Tryz.pinned (OpenSpec.upto kindInfersSpec)

/-- 'hearthlaw03.KindEffects', WHERE WHAT IT READS IS OF BULK AT MOST 1048576: true; the input reads as it did. -/
def kindEffectsUptoRow : OpenClaim := { program := "ytcdpbkolkeeopaagreat", sum := "efb5dbf6527cc1bdc803672a40a4a80e44fd5a9305ee1e86df9e3e76931c886f", func := "hearth/hearthlaw03.KindEffects", spec := "kindEffects", unfollowed := true, recurses := true, loops := true, apart := false, narrowed := true }
def KindEffectsUptoSaid : Prop := kindEffectsUptoRow.holds Tryz.pinned (OpenSpec.upto kindEffectsSpec)

/-- 'hearthlaw03.KindModules', WHERE WHAT IT READS IS OF BULK AT MOST 1048576: true; the input reads as it did. -/
def kindModulesUptoRow : OpenClaim := { program := "ytcdpbkolkeeopaagreat", sum := "efb5dbf6527cc1bdc803672a40a4a80e44fd5a9305ee1e86df9e3e76931c886f", func := "hearth/hearthlaw03.KindModules", spec := "kindModules", unfollowed := true, recurses := true, loops := true, apart := false, narrowed := true }
def KindModulesUptoSaid : Prop := kindModulesUptoRow.holds Tryz.pinned (OpenSpec.upto kindModulesSpec)

/-- 'hearthlaw03.KindInstances', WHERE WHAT IT READS IS OF BULK AT MOST 1048576: true; the input reads as it did. -/
def kindInstancesUptoRow : OpenClaim := { program := "ytcdpbkolkeeopaagreat", sum := "efb5dbf6527cc1bdc803672a40a4a80e44fd5a9305ee1e86df9e3e76931c886f", func := "hearth/hearthlaw03.KindInstances", spec := "kindInstances", unfollowed := true, recurses := true, loops := true, apart := false, narrowed := true }
def KindInstancesUptoSaid : Prop := kindInstancesUptoRow.holds Tryz.pinned (OpenSpec.upto kindInstancesSpec)

/-- 'hearthlaw03.KindSame', WHERE WHAT IT READS IS OF BULK AT MOST 1048576: true; the input reads as it did. -/
def kindSameUptoRow : OpenClaim := { program := "ytcdpbkolkeeopaagreat", sum := "efb5dbf6527cc1bdc803672a40a4a80e44fd5a9305ee1e86df9e3e76931c886f", func := "hearth/hearthlaw03.KindSame", spec := "kindSame", unfollowed := true, recurses := true, loops := true, apart := false, narrowed := true }
def KindSameUptoSaid : Prop := kindSameUptoRow.holds Tryz.pinned (OpenSpec.upto kindSameSpec)

/-- 'hearthlaw03.KindSubst', WHERE WHAT IT READS IS OF BULK AT MOST 1048576: true; the input reads as it did. -/
def kindSubstUptoRow : OpenClaim := { program := "ytcdpbkolkeeopaagreat", sum := "efb5dbf6527cc1bdc803672a40a4a80e44fd5a9305ee1e86df9e3e76931c886f", func := "hearth/hearthlaw03.KindSubst", spec := "kindSubst", unfollowed := true, recurses := true, loops := true, apart := false, narrowed := true }
def KindSubstUptoSaid : Prop := kindSubstUptoRow.holds Tryz.pinned (OpenSpec.upto kindSubstSpec)

end Rows
end Go.Proofs.YtcdpbkolkeeopaaGreat
