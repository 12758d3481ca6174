/-
  NARROWER THAN 'FOR EVERY INPUT', by the rows' own cells (each row's printed sentence says how): TermSubsts: loops · TermCapture: loops · TermAlikes: loops · TermAnew: loops.
  DERIVED. THE GIVEN ROWS OF THIS SEAT. 4 by the template 'for every input the law returns true; each argument reads behind the call as it read before'; 0 by the template 'total and deterministic' (their statements: YtlbeglekommoeaaGreatTotals.lean).
  GIVEN WITH THE SEED: the statements are not yours to turn. If you find one false, say at which input.
  Laid BY PROGRAM, IN A SANDBOX (cutbox-rows.mjs): the forced cells as the released guide's own fill.sh prints them over the translation b7a6ad5eae91c544… (all of the seat's roots in one cut). By AI agents, Wed Nov 11 2026. No macro, syntax, notation, axiom, sorry.
-/
import Derived.Test.YtlbeglekommoeaaGreatChecked
import GoSem.Claim
import GoSem.ClaimJoined
import GoSem.ClaimMapViews
import Derived.JoinedTies
import Derived.KernelRfl
namespace Go.Proofs.YtlbeglekommoeaaGreat
/- THE CELL 'sum', in the pinned program and in every row, IS THE sha256 OF THE DUMP (.gsa) THAT YtlbeglekommoeaaGreatProg.lean LOADS. Nothing in Lean hashes anything: it is a label: what it is worth is what the hold of that sum in a sandbox is worth. -/
noncomputable def Tryz.pinned : Pinned := { name := "ytlbeglekommoeaagreat", sum := "b7a6ad5eae91c544a088598b58d950f5cb74341a4c3620b8b2b94dc23a8a0c88", checked := Tryz.checked }
namespace Rows
def none {H : Type} : Left H := { results := [], args := [] }

/-- 'hearthlaw01.TermSubsts': WHATEVER THE INPUT: true; the input reads as it did. -/
def termSubstsSpec : ChangeSpec := { name := "termSubsts", fn := fun _ => fun
  | [d1, d2, d3] => { results := [.lit (.bool true)], args := [d1, d2, d3] }
  | _ => none }
def termSubstsRow : OpenClaim := { program := "ytlbeglekommoeaagreat", sum := "b7a6ad5eae91c544a088598b58d950f5cb74341a4c3620b8b2b94dc23a8a0c88", func := "hearth/hearthlaw01.TermSubsts", spec := "termSubsts", unfollowed := true, recurses := true, loops := true, apart := false }
def TermSubstsSaid : Prop := termSubstsRow.holds Tryz.pinned (OpenSpec.ofChange termSubstsSpec)

/-- ITS FALSE NEIGHBOUR: 'it returns false'. Refute it at one input. -/
def termSubstsWrong : ChangeSpec := { name := "termSubsts", fn := fun _ => fun
  | [d1, d2, d3] => { results := [.lit (.bool false)], args := [d1, d2, d3] }
  | _ => none }
def TermSubstsWrongFalsely : Prop := termSubstsRow.holds Tryz.pinned (OpenSpec.ofChange termSubstsWrong)

/-- 'hearthlaw01.TermCapture': WHATEVER THE INPUT: true; the input reads as it did. -/
def termCaptureSpec : ChangeSpec := { name := "termCapture", fn := fun _ => fun
  | [d1, d2, d3, d4, d5] => { results := [.lit (.bool true)], args := [d1, d2, d3, d4, d5] }
  | _ => none }
def termCaptureRow : OpenClaim := { program := "ytlbeglekommoeaagreat", sum := "b7a6ad5eae91c544a088598b58d950f5cb74341a4c3620b8b2b94dc23a8a0c88", func := "hearth/hearthlaw01.TermCapture", spec := "termCapture", unfollowed := true, recurses := true, loops := true, apart := false }
def TermCaptureSaid : Prop := termCaptureRow.holds Tryz.pinned (OpenSpec.ofChange termCaptureSpec)

/-- ITS FALSE NEIGHBOUR: 'it returns false'. Refute it at one input. -/
def termCaptureWrong : ChangeSpec := { name := "termCapture", fn := fun _ => fun
  | [d1, d2, d3, d4, d5] => { results := [.lit (.bool false)], args := [d1, d2, d3, d4, d5] }
  | _ => none }
def TermCaptureWrongFalsely : Prop := termCaptureRow.holds Tryz.pinned (OpenSpec.ofChange termCaptureWrong)

/-- 'hearthlaw01.TermAlikes': WHATEVER THE INPUT: true; the input reads as it did. -/
def termAlikesSpec : ChangeSpec := { name := "termAlikes", fn := fun _ => fun
  | [d1, d2] => { results := [.lit (.bool true)], args := [d1, d2] }
  | _ => none }
def termAlikesRow : OpenClaim := { program := "ytlbeglekommoeaagreat", sum := "b7a6ad5eae91c544a088598b58d950f5cb74341a4c3620b8b2b94dc23a8a0c88", func := "hearth/hearthlaw01.TermAlikes", spec := "termAlikes", unfollowed := true, recurses := true, loops := true, apart := false }
def TermAlikesSaid : Prop := termAlikesRow.holds Tryz.pinned (OpenSpec.ofChange termAlikesSpec)

/-- ITS FALSE NEIGHBOUR: 'it returns false'. Refute it at one input. -/
def termAlikesWrong : ChangeSpec := { name := "termAlikes", fn := fun _ => fun
  | [d1, d2] => { results := [.lit (.bool false)], args := [d1, d2] }
  | _ => none }
def TermAlikesWrongFalsely : Prop := termAlikesRow.holds Tryz.pinned (OpenSpec.ofChange termAlikesWrong)

/-- 'hearthlaw01.TermAnew': WHATEVER THE INPUT: true; the input reads as it did. -/
def termAnewSpec : ChangeSpec := { name := "termAnew", fn := fun _ => fun
  | [d1, d2] => { results := [.lit (.bool true)], args := [d1, d2] }
  | _ => none }
def termAnewRow : OpenClaim := { program := "ytlbeglekommoeaagreat", sum := "b7a6ad5eae91c544a088598b58d950f5cb74341a4c3620b8b2b94dc23a8a0c88", func := "hearth/hearthlaw01.TermAnew", spec := "termAnew", unfollowed := true, recurses := true, loops := true, apart := false }
def TermAnewSaid : Prop := termAnewRow.holds Tryz.pinned (OpenSpec.ofChange termAnewSpec)

/-- ITS FALSE NEIGHBOUR: 'it returns false'. Refute it at one input. -/
def termAnewWrong : ChangeSpec := { name := "termAnew", fn := fun _ => fun
  | [d1, d2] => { results := [.lit (.bool false)], args := [d1, d2] }
  | _ => none }
def TermAnewWrongFalsely : Prop := termAnewRow.holds Tryz.pinned (OpenSpec.ofChange termAnewWrong)

/- THE SECOND FORM. 'bulk': how many values and letters a reading holds, each counted each time it is reached (what is shared counts as often as it is met; a slice's spare places count too). A statement '..UptoSaid' is the law's where the arguments, and the package variables that the reading takes, are together of bulk at most 1048576: NARROWER than '..Said'. Prove '..Said' where nothing that the law and all that it calls make is longer than what came in: it says more and counts as full. Else prove '..UptoSaid'. A law counts once. -/
mutual
def uptoBulk {H : Type} : DataW H → Nat
  | .lit (.string bytes) => bytes.length + 1
  | .lit _ => 1
  | .nil => 1
  | .ptr d => uptoBulk d + 1
  | .slice elems spare => uptoBulkAll elems + uptoBulkAll spare + 1
  | .agg parts => uptoBulkAll parts + 1
  | .iface _ d => uptoBulk d + 1
  | .map entries => uptoBulkEntries entries + 1
  | .held _ => 1
def uptoBulkAll {H : Type} : List (DataW H) → Nat
  | [] => 0
  | d :: r => uptoBulk d + uptoBulkAll r
def uptoBulkEntries {H : Type} : List (Lit × DataW H) → Nat
  | [] => 0
  | x :: r => uptoBulkEntry x + uptoBulkEntries r
def uptoBulkEntry {H : Type} : Lit × DataW H → Nat
  | (.string bytes, d) => bytes.length + uptoBulk d + 1
  | (_, d) => uptoBulk d + 1
 end
def uptoSmall : (H : Type) → List (DataW H) → Bool := fun _ ds => decide (uptoBulkAll ds ≤ 1048576)
def OpenSpec.upto (s : _root_.Go.ChangeSpec) : _root_.Go.OpenSpec := { _root_.Go.OpenSpec.ofChange s with cond := some uptoSmall }

/-- 'hearthlaw01.TermSubsts', WHERE WHAT IT READS IS OF BULK AT MOST 1048576: true; the input reads as it did. -/
def termSubstsUptoRow : OpenClaim := { program := "ytlbeglekommoeaagreat", sum := "b7a6ad5eae91c544a088598b58d950f5cb74341a4c3620b8b2b94dc23a8a0c88", func := "hearth/hearthlaw01.TermSubsts", spec := "termSubsts", unfollowed := true, recurses := true, loops := true, apart := false, narrowed := true }
def TermSubstsUptoSaid : Prop := termSubstsUptoRow.holds Tryz.pinned (OpenSpec.upto termSubstsSpec)

/-- 'hearthlaw01.TermCapture', WHERE WHAT IT READS IS OF BULK AT MOST 1048576: true; the input reads as it did. -/
def termCaptureUptoRow : OpenClaim := { program := "ytlbeglekommoeaagreat", sum := "b7a6ad5eae91c544a088598b58d950f5cb74341a4c3620b8b2b94dc23a8a0c88", func := "hearth/hearthlaw01.TermCapture", spec := "termCapture", unfollowed := true, recurses := true, loops := true, apart := false, narrowed := true }
def TermCaptureUptoSaid : Prop := termCaptureUptoRow.holds Tryz.pinned (OpenSpec.upto termCaptureSpec)

/-- 'hearthlaw01.TermAlikes', WHERE WHAT IT READS IS OF BULK AT MOST 1048576: true; the input reads as it did. -/
def termAlikesUptoRow : OpenClaim := { program := "ytlbeglekommoeaagreat", sum := "b7a6ad5eae91c544a088598b58d950f5cb74341a4c3620b8b2b94dc23a8a0c88", func := "hearth/hearthlaw01.TermAlikes", spec := "termAlikes", unfollowed := true, recurses := true, loops := true, apart := false, narrowed := true }
def TermAlikesUptoSaid : Prop := termAlikesUptoRow.holds Tryz.pinned (OpenSpec.upto termAlikesSpec)

/-- 'hearthlaw01.TermAnew', WHERE WHAT IT READS IS OF BULK AT MOST 1048576: true; the input reads as it did. -/
def termAnewUptoRow : OpenClaim := { program := "ytlbeglekommoeaagreat", sum := "b7a6ad5eae91c544a088598b58d950f5cb74341a4c3620b8b2b94dc23a8a0c88", func := "hearth/hearthlaw01.TermAnew", spec := "termAnew", unfollowed := true, recurses := true, loops := true, apart := false, narrowed := true }
def TermAnewUptoSaid : Prop := termAnewUptoRow.holds Tryz.pinned (OpenSpec.upto termAnewSpec)

end Rows
end Go.Proofs.YtlbeglekommoeaaGreat
