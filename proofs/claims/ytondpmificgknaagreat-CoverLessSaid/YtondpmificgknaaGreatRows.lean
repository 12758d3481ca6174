/-
  NARROWER THAN 'FOR EVERY INPUT', by the rows' own cells (each row's printed sentence says how): CoverMisses: loops · CoverSamples: loops · CoverTurned: loops · CoverMade: loops · CoverLess: loops · CoverTotal: loops.
  DERIVED. THE GIVEN ROWS OF THIS SEAT. 6 by the template 'for every input the law returns true; each argument reads behind the call as it read before'; 0 by the template 'total and deterministic' (their statements: YtondpmificgknaaGreatTotals.lean).
  GIVEN WITH THE SEED: the statements are not yours to turn. If you find one false, say at which input.
  Laid BY PROGRAM, IN A SANDBOX (cutbox-rows.mjs): the forced cells as the released guide's own fill.sh prints them over the translation 054931c0bb69a8df… (all of the seat's roots in one cut). By AI agents, Wed Nov 11 2026. No macro, syntax, notation, axiom, sorry.
-/
import Derived.Test.YtondpmificgknaaGreatChecked
import GoSem.Claim
import GoSem.ClaimJoined
import GoSem.ClaimMapViews
import Derived.JoinedTies
import Derived.KernelRfl
namespace Go.Proofs.YtondpmificgknaaGreat
/- THE CELL 'sum', in the pinned program and in every row, IS THE sha256 OF THE DUMP (.gsa) THAT YtondpmificgknaaGreatProg.lean LOADS. Nothing in Lean hashes anything: it is a label: what it is worth is what the hold of that sum in a sandbox is worth. -/
noncomputable def Tryz.pinned : Pinned := { name := "ytondpmificgknaagreat", sum := "054931c0bb69a8df4551ed9a6505fbff4eb7ac2ed95fe0d569655a4b6c2317f4", checked := Tryz.checked }
namespace Rows
def none {H : Type} : Left H := { results := [], args := [] }

/-- 'hearthlaw04.CoverMisses': WHATEVER THE INPUT: true; the input reads as it did. -/
def coverMissesSpec : ChangeSpec := { name := "coverMisses", fn := fun _ => fun
  | [d] => { results := [.lit (.bool true)], args := [d] }
  | _ => none }
def coverMissesRow : OpenClaim := { program := "ytondpmificgknaagreat", sum := "054931c0bb69a8df4551ed9a6505fbff4eb7ac2ed95fe0d569655a4b6c2317f4", func := "hearth/hearthlaw04.CoverMisses", spec := "coverMisses", unfollowed := true, recurses := true, loops := true, apart := false }
def CoverMissesSaid : Prop := coverMissesRow.holds Tryz.pinned (OpenSpec.ofChange coverMissesSpec)

/-- ITS FALSE NEIGHBOUR: 'it returns false'. Refute it at one input. -/
def coverMissesWrong : ChangeSpec := { name := "coverMisses", fn := fun _ => fun
  | [d] => { results := [.lit (.bool false)], args := [d] }
  | _ => none }
def CoverMissesWrongFalsely : Prop := coverMissesRow.holds Tryz.pinned (OpenSpec.ofChange coverMissesWrong)

/-- 'hearthlaw04.CoverSamples': WHATEVER THE INPUT: true; the input reads as it did. -/
def coverSamplesSpec : ChangeSpec := { name := "coverSamples", fn := fun _ => fun
  | [d1, d2, d3] => { results := [.lit (.bool true)], args := [d1, d2, d3] }
  | _ => none }
def coverSamplesRow : OpenClaim := { program := "ytondpmificgknaagreat", sum := "054931c0bb69a8df4551ed9a6505fbff4eb7ac2ed95fe0d569655a4b6c2317f4", func := "hearth/hearthlaw04.CoverSamples", spec := "coverSamples", unfollowed := true, recurses := true, loops := true, apart := false }
def CoverSamplesSaid : Prop := coverSamplesRow.holds Tryz.pinned (OpenSpec.ofChange coverSamplesSpec)

/-- ITS FALSE NEIGHBOUR: 'it returns false'. Refute it at one input. -/
def coverSamplesWrong : ChangeSpec := { name := "coverSamples", fn := fun _ => fun
  | [d1, d2, d3] => { results := [.lit (.bool false)], args := [d1, d2, d3] }
  | _ => none }
def CoverSamplesWrongFalsely : Prop := coverSamplesRow.holds Tryz.pinned (OpenSpec.ofChange coverSamplesWrong)

/-- 'hearthlaw04.CoverTurned': WHATEVER THE INPUT: true; the input reads as it did. -/
def coverTurnedSpec : ChangeSpec := { name := "coverTurned", fn := fun _ => fun
  | [d1, d2, d3] => { results := [.lit (.bool true)], args := [d1, d2, d3] }
  | _ => none }
def coverTurnedRow : OpenClaim := { program := "ytondpmificgknaagreat", sum := "054931c0bb69a8df4551ed9a6505fbff4eb7ac2ed95fe0d569655a4b6c2317f4", func := "hearth/hearthlaw04.CoverTurned", spec := "coverTurned", unfollowed := true, recurses := true, loops := true, apart := false }
def CoverTurnedSaid : Prop := coverTurnedRow.holds Tryz.pinned (OpenSpec.ofChange coverTurnedSpec)

/-- ITS FALSE NEIGHBOUR: 'it returns false'. Refute it at one input. -/
def coverTurnedWrong : ChangeSpec := { name := "coverTurned", fn := fun _ => fun
  | [d1, d2, d3] => { results := [.lit (.bool false)], args := [d1, d2, d3] }
  | _ => none }
def CoverTurnedWrongFalsely : Prop := coverTurnedRow.holds Tryz.pinned (OpenSpec.ofChange coverTurnedWrong)

/-- 'hearthlaw04.CoverMade': WHATEVER THE INPUT: true; the input reads as it did. -/
def coverMadeSpec : ChangeSpec := { name := "coverMade", fn := fun _ => fun
  | [d] => { results := [.lit (.bool true)], args := [d] }
  | _ => none }
def coverMadeRow : OpenClaim := { program := "ytondpmificgknaagreat", sum := "054931c0bb69a8df4551ed9a6505fbff4eb7ac2ed95fe0d569655a4b6c2317f4", func := "hearth/hearthlaw04.CoverMade", spec := "coverMade", unfollowed := true, recurses := true, loops := true, apart := false }
def CoverMadeSaid : Prop := coverMadeRow.holds Tryz.pinned (OpenSpec.ofChange coverMadeSpec)

/-- ITS FALSE NEIGHBOUR: 'it returns false'. Refute it at one input. -/
def coverMadeWrong : ChangeSpec := { name := "coverMade", fn := fun _ => fun
  | [d] => { results := [.lit (.bool false)], args := [d] }
  | _ => none }
def CoverMadeWrongFalsely : Prop := coverMadeRow.holds Tryz.pinned (OpenSpec.ofChange coverMadeWrong)

/-- 'hearthlaw04.CoverLess': WHATEVER THE INPUT: true; the input reads as it did. -/
def coverLessSpec : ChangeSpec := { name := "coverLess", fn := fun _ => fun
  | [d1, d2, d3] => { results := [.lit (.bool true)], args := [d1, d2, d3] }
  | _ => none }
def coverLessRow : OpenClaim := { program := "ytondpmificgknaagreat", sum := "054931c0bb69a8df4551ed9a6505fbff4eb7ac2ed95fe0d569655a4b6c2317f4", func := "hearth/hearthlaw04.CoverLess", spec := "coverLess", unfollowed := true, recurses := true, loops := true, apart := false }
def CoverLessSaid : Prop := coverLessRow.holds Tryz.pinned (OpenSpec.ofChange coverLessSpec)

/-- ITS FALSE NEIGHBOUR: 'it returns false'. Refute it at one input. -/
def coverLessWrong : ChangeSpec := { name := "coverLess", fn := fun _ => fun
  | [d1, d2, d3] => { results := [.lit (.bool false)], args := [d1, d2, d3] }
  | _ => none }
def CoverLessWrongFalsely : Prop := coverLessRow.holds Tryz.pinned (OpenSpec.ofChange coverLessWrong)

/-- 'hearthlaw04.CoverTotal': WHATEVER THE INPUT: true; the input reads as it did. -/
def coverTotalSpec : ChangeSpec := { name := "coverTotal", fn := fun _ => fun
  | [d1, d2] => { results := [.lit (.bool true)], args := [d1, d2] }
  | _ => none }
def coverTotalRow : OpenClaim := { program := "ytondpmificgknaagreat", sum := "054931c0bb69a8df4551ed9a6505fbff4eb7ac2ed95fe0d569655a4b6c2317f4", func := "hearth/hearthlaw04.CoverTotal", spec := "coverTotal", unfollowed := true, recurses := true, loops := true, apart := false }
def CoverTotalSaid : Prop := coverTotalRow.holds Tryz.pinned (OpenSpec.ofChange coverTotalSpec)

/-- ITS FALSE NEIGHBOUR: 'it returns false'. Refute it at one input. -/
def coverTotalWrong : ChangeSpec := { name := "coverTotal", fn := fun _ => fun
  | [d1, d2] => { results := [.lit (.bool false)], args := [d1, d2] }
  | _ => none }
def CoverTotalWrongFalsely : Prop := coverTotalRow.holds Tryz.pinned (OpenSpec.ofChange coverTotalWrong)

/- THE SECOND FORM. 'bulk': how many values and letters a reading holds, each counted each time it is reached (what is shared counts as often as it is met; a slice's spare places count too). A statement '..UptoSaid' is the law's where the arguments, and the package variables that the reading takes, are together of bulk at most 1048576: NARROWER than '..Said'. Prove '..Said' where nothing that the law and all that it calls make is longer than what came in: it says more and counts as full. Else prove '..UptoSaid'. A law counts once. -/
mutual
def uptoBulk {H : Type} : DataW H → Nat
  | .lit (.string bytes) => bytes.length + 1
  | .lit _ => 1
  | .nil => 1
  | .ptr d => uptoBulk d + 1
  | .slice elems spare => uptoBulkAll elems + uptoBulkAll spare + 1
  | .agg parts => uptoBulkAll parts + 1
  | .iface _ d => uptoBulk d + 1
  | .map entries => uptoBulkEntries entries + 1
  | .held _ => 1
def uptoBulkAll {H : Type} : List (DataW H) → Nat
  | [] => 0
  | d :: r => uptoBulk d + uptoBulkAll r
def uptoBulkEntries {H : Type} : List (Lit × DataW H) → Nat
  | [] => 0
  | x :: r => uptoBulkEntry x + uptoBulkEntries r
def uptoBulkEntry {H : Type} : Lit × DataW H → Nat
  | (.string bytes, d) => bytes.length + uptoBulk d + 1
  | (_, d) => uptoBulk d + 1
 end
def uptoSmall : (H : Type) → List (DataW H) → Bool := fun _ ds => decide (uptoBulkAll ds ≤ 1048576)
def OpenSpec.upto (s : _root_.Go.ChangeSpec) : _root_.Go.OpenSpec := { _root_.Go.OpenSpec.ofChange s with cond := some uptoSmall }

/-- 'hearthlaw04.CoverMisses', WHERE WHAT IT READS IS OF BULK AT MOST 1048576: true; the input reads as it did. -/
def coverMissesUptoRow : OpenClaim := { program := "ytondpmificgknaagreat", sum := "054931c0bb69a8df4551ed9a6505fbff4eb7ac2ed95fe0d569655a4b6c2317f4", func := "hearth/hearthlaw04.CoverMisses", spec := "coverMisses", unfollowed := true, recurses := true, loops := true, apart := false, narrowed := true }
def CoverMissesUptoSaid : Prop := coverMissesUptoRow.holds Tryz.pinned (OpenSpec.upto coverMissesSpec)

/-- 'hearthlaw04.CoverSamples', WHERE WHAT IT READS IS OF BULK AT MOST 1048576: true; the input reads as it did. -/
def coverSamplesUptoRow : OpenClaim := { program := "ytondpmificgknaagreat", sum := "054931c0bb69a8df4551ed9a6505fbff4eb7ac2ed95fe0d569655a4b6c2317f4", func := "hearth/hearthlaw04.CoverSamples", spec := "coverSamples", unfollowed := true, recurses := true, loops := true, apart := false, narrowed := true }
def CoverSamplesUptoSaid : Prop := coverSamplesUptoRow.holds Tryz.pinned (OpenSpec.upto coverSamplesSpec)

/-- 'hearthlaw04.CoverTurned', WHERE WHAT IT READS IS OF BULK AT MOST 1048576: true; the input reads as it did. -/
def coverTurnedUptoRow : OpenClaim := { program := "ytondpmificgknaagreat", sum := "054931c0bb69a8df4551ed9a6505fbff4eb7ac2ed95fe0d569655a4b6c2317f4", func := "hearth/hearthlaw04.CoverTurned", spec := "coverTurned", unfollowed := true, recurses := true, loops := true, apart := false, narrowed := true }
def CoverTurnedUptoSaid : Prop := coverTurnedUptoRow.holds Tryz.pinned (OpenSpec.upto coverTurnedSpec)

/-- 'hearthlaw04.CoverMade', WHERE WHAT IT READS IS OF BULK AT MOST 1048576: true; the input reads as it did. -/
def coverMadeUptoRow : OpenClaim := { program := "ytondpmificgknaagreat", sum := "054931c0bb69a8df4551ed9a6505fbff4eb7ac2ed95fe0d569655a4b6c2317f4", func := "hearth/hearthlaw04.CoverMade", spec := "coverMade", unfollowed := true, recurses := true, loops := true, apart := false, narrowed := true }
def CoverMadeUptoSaid : Prop := coverMadeUptoRow.holds Tryz.pinned (OpenSpec.upto coverMadeSpec)

/-- 'hearthlaw04.CoverLess', WHERE WHAT IT READS IS OF BULK AT MOST 1048576: true; the input reads as it did. -/
def coverLessUptoRow : OpenClaim := { program := "ytondpmificgknaagreat", sum := "054931c0bb69a8df4551ed9a6505fbff4eb7ac2ed95fe0d569655a4b6c2317f4", func := "hearth/hearthlaw04.CoverLess", spec := "coverLess", unfollowed := true, recurses := true, loops := true, apart := false, narrowed := true }
def CoverLessUptoSaid : Prop := coverLessUptoRow.holds Tryz.pinned (OpenSpec.upto coverLessSpec)

/-- 'hearthlaw04.CoverTotal', WHERE WHAT IT READS IS OF BULK AT MOST 1048576: true; the input reads as it did. -/
def coverTotalUptoRow : OpenClaim := { program := "ytondpmificgknaagreat", sum := "054931c0bb69a8df4551ed9a6505fbff4eb7ac2ed95fe0d569655a4b6c2317f4", func := "hearth/hearthlaw04.CoverTotal", spec := "coverTotal", unfollowed := true, recurses := true, loops := true, apart := false, narrowed := true }
def CoverTotalUptoSaid : Prop := coverTotalUptoRow.holds Tryz.pinned (OpenSpec.upto coverTotalSpec)

end Rows
end Go.Proofs.YtondpmificgknaaGreat
