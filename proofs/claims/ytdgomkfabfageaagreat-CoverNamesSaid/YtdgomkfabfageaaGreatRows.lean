/-
  NARROWER THAN 'FOR EVERY INPUT', by the rows' own cells (each row's printed sentence says how): CoverMatches: loops · CoverNames: loops · CoverChecks: loops.
  DERIVED. THE GIVEN ROWS OF THIS SEAT. 3 by the template 'for every input the law returns true; each argument reads behind the call as it read before'; 0 by the template 'total and deterministic' (their statements: YtdgomkfabfageaaGreatTotals.lean).
  GIVEN WITH THE SEED: the statements are not yours to turn. If you find one false, say at which input.
  Laid BY PROGRAM, IN A SANDBOX (cutbox-rows.mjs): the forced cells as the released guide's own fill.sh prints them over the translation 72766bfdce8da118… (all of the seat's roots in one cut). By AI agents, Wed Nov 11 2026. No macro, syntax, notation, axiom, sorry.
-/
import Derived.Test.YtdgomkfabfageaaGreatChecked
import GoSem.Claim
import GoSem.ClaimJoined
import GoSem.ClaimMapViews
import Derived.JoinedTies
import Derived.KernelRfl
namespace Go.Proofs.YtdgomkfabfageaaGreat
/- THE CELL 'sum', in the pinned program and in every row, IS THE sha256 OF THE DUMP (.gsa) THAT YtdgomkfabfageaaGreatProg.lean LOADS. Nothing in Lean hashes anything: it is a label: what it is worth is what the hold of that sum in a sandbox is worth. -/
noncomputable def Tryz.pinned : Pinned := { name := "ytdgomkfabfageaagreat", sum := "72766bfdce8da118789f70578460fe739ec242ece0853c364f8a79833cfcbcdc", checked := Tryz.checked }
namespace Rows
def none {H : Type} : Left H := { results := [], args := [] }

/-- 'hearthlaw04.CoverMatches': WHATEVER THE INPUT: true; the input reads as it did. -/
def coverMatchesSpec : ChangeSpec := { name := "coverMatches", fn := fun _ => fun
  | [d1, d2, d3] => { results := [.lit (.bool true)], args := [d1, d2, d3] }
  | _ => none }
def coverMatchesRow : OpenClaim := { program := "ytdgomkfabfageaagreat", sum := "72766bfdce8da118789f70578460fe739ec242ece0853c364f8a79833cfcbcdc", func := "hearth/hearthlaw04.CoverMatches", spec := "coverMatches", unfollowed := true, recurses := true, loops := true, apart := false }
def CoverMatchesSaid : Prop := coverMatchesRow.holds Tryz.pinned (OpenSpec.ofChange coverMatchesSpec)

/-- ITS FALSE NEIGHBOUR: 'it returns false'. Refute it at one input. -/
def coverMatchesWrong : ChangeSpec := { name := "coverMatches", fn := fun _ => fun
  | [d1, d2, d3] => { results := [.lit (.bool false)], args := [d1, d2, d3] }
  | _ => none }
def CoverMatchesWrongFalsely : Prop := coverMatchesRow.holds Tryz.pinned (OpenSpec.ofChange coverMatchesWrong)

/-- 'hearthlaw04.CoverNames': WHATEVER THE INPUT: true; the input reads as it did. -/
def coverNamesSpec : ChangeSpec := { name := "coverNames", fn := fun _ => fun
  | [d1, d2, d3, d4] => { results := [.lit (.bool true)], args := [d1, d2, d3, d4] }
  | _ => none }
def coverNamesRow : OpenClaim := { program := "ytdgomkfabfageaagreat", sum := "72766bfdce8da118789f70578460fe739ec242ece0853c364f8a79833cfcbcdc", func := "hearth/hearthlaw04.CoverNames", spec := "coverNames", unfollowed := true, recurses := true, loops := true, apart := false }
def CoverNamesSaid : Prop := coverNamesRow.holds Tryz.pinned (OpenSpec.ofChange coverNamesSpec)

/-- ITS FALSE NEIGHBOUR: 'it returns false'. Refute it at one input. -/
def coverNamesWrong : ChangeSpec := { name := "coverNames", fn := fun _ => fun
  | [d1, d2, d3, d4] => { results := [.lit (.bool false)], args := [d1, d2, d3, d4] }
  | _ => none }
def CoverNamesWrongFalsely : Prop := coverNamesRow.holds Tryz.pinned (OpenSpec.ofChange coverNamesWrong)

/-- 'hearthlaw04.CoverChecks': WHATEVER THE INPUT: true; the input reads as it did. -/
def coverChecksSpec : ChangeSpec := { name := "coverChecks", fn := fun _ => fun
  | [d1, d2] => { results := [.lit (.bool true)], args := [d1, d2] }
  | _ => none }
def coverChecksRow : OpenClaim := { program := "ytdgomkfabfageaagreat", sum := "72766bfdce8da118789f70578460fe739ec242ece0853c364f8a79833cfcbcdc", func := "hearth/hearthlaw04.CoverChecks", spec := "coverChecks", unfollowed := true, recurses := true, loops := true, apart := false }
def CoverChecksSaid : Prop := coverChecksRow.holds Tryz.pinned (OpenSpec.ofChange coverChecksSpec)

/-- ITS FALSE NEIGHBOUR: 'it returns false'. Refute it at one input. -/
def coverChecksWrong : ChangeSpec := { name := "coverChecks", fn := fun _ => fun
  | [d1, d2] => { results := [.lit (.bool false)], args := [d1, d2] }
  | _ => none }
def CoverChecksWrongFalsely : Prop := coverChecksRow.holds Tryz.pinned (OpenSpec.ofChange coverChecksWrong)

/- THE SECOND FORM. 'bulk': how many values and letters a reading holds, each counted each time it is reached (what is shared counts as often as it is met; a slice's spare places count too). A statement '..UptoSaid' is the law's where the arguments, and the package variables that the reading takes, are together of bulk at most 1048576: NARROWER than '..Said'. Prove '..Said' where nothing that the law and all that it calls make is longer than what came in: it says more and counts as full. Else prove '..UptoSaid'. A law counts once. -/
mutual
def uptoBulk {H : Type} : DataW H → Nat
  | .lit (.string bytes) => bytes.length + 1
  | .lit _ => 1
  | .nil => 1
  | .ptr d => uptoBulk d + 1
  | .slice elems spare => uptoBulkAll elems + uptoBulkAll spare + 1
  | .agg parts => uptoBulkAll parts + 1
  | .iface _ d => uptoBulk d + 1
  | .map entries => uptoBulkEntries entries + 1
  | .held _ => 1
def uptoBulkAll {H : Type} : List (DataW H) → Nat
  | [] => 0
  | d :: r => uptoBulk d + uptoBulkAll r
def uptoBulkEntries {H : Type} : List (Lit × DataW H) → Nat
  | [] => 0
  | x :: r => uptoBulkEntry x + uptoBulkEntries r
def uptoBulkEntry {H : Type} : Lit × DataW H → Nat
  | (.string bytes, d) => bytes.length + uptoBulk d + 1
  | (_, d) => uptoBulk d + 1
 end
def uptoSmall : (H : Type) → List (DataW H) → Bool := fun _ ds => decide (uptoBulkAll ds ≤ 1048576)
def OpenSpec.upto (s : _root_.Go.ChangeSpec) : _root_.Go.OpenSpec := { _root_.Go.OpenSpec.ofChange s with cond := some uptoSmall }

/-- 'hearthlaw04.CoverMatches', WHERE WHAT IT READS IS OF BULK AT MOST 1048576: true; the input reads as it did. -/
def coverMatchesUptoRow : OpenClaim := { program := "ytdgomkfabfageaagreat", sum := "72766bfdce8da118789f70578460fe739ec242ece0853c364f8a79833cfcbcdc", func := "hearth/hearthlaw04.CoverMatches", spec := "coverMatches", unfollowed := true, recurses := true, loops := true, apart := false, narrowed := true }
def CoverMatchesUptoSaid : Prop := coverMatchesUptoRow.holds Tryz.pinned (OpenSpec.upto coverMatchesSpec)

/-- 'hearthlaw04.CoverNames', WHERE WHAT IT READS IS OF BULK AT MOST 1048576: true; the input reads as it did. -/
def coverNamesUptoRow : OpenClaim := { program := "ytdgomkfabfageaagreat", sum := "72766bfdce8da118789f70578460fe739ec242ece0853c364f8a79833cfcbcdc", func := "hearth/hearthlaw04.CoverNames", spec := "coverNames", unfollowed := true, recurses := true, loops := true, apart := false, narrowed := true }
def CoverNamesUptoSaid : Prop := coverNamesUptoRow.holds Tryz.pinned (OpenSpec.upto coverNamesSpec)

/-- 'hearthlaw04.CoverChecks', WHERE WHAT IT READS IS OF BULK AT MOST 1048576: true; the input reads as it did. -/
def coverChecksUptoRow : OpenClaim := { program := "ytdgomkfabfageaagreat", sum := "72766bfdce8da118789f70578460fe739ec242ece0853c364f8a79833cfcbcdc", func := "hearth/hearthlaw04.CoverChecks", spec := "coverChecks", unfollowed := true, recurses := true, loops := true, apart := false, narrowed := true }
def CoverChecksUptoSaid : Prop := coverChecksUptoRow.holds Tryz.pinned (OpenSpec.upto coverChecksSpec)

end Rows
end Go.Proofs.YtdgomkfabfageaaGreat
