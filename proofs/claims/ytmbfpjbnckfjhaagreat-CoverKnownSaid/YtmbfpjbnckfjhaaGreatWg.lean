/- The chapter's examples of layer 4, all computed, answer as stated: CoverKnown returns true, whatever the world; nothing that was there is changed. No condition. (And what it stands on.) -/
import Derived.Test.YtmbfpjbnckfjhaaGreatWf
import Derived.KernelRfl
import Derived.Test.YtmbfpjbnckfjhaaGreatWe
import Derived.Test.YtmbfpjbnckfjhaaGreatWb
import Derived.Below
import Derived.ChangeSame
import Derived.ChangeOld
import Derived.Carry
import Derived.Test.YtmbfpjbnckfjhaaGreatRows
import Derived.WalkKit
import Derived.ProofKit
import Derived.OpenShut

/- The run of hearth/hearthlaw04.known in pieces: written by a program (pieces.py). -/
namespace Go.Gx.Ck
open Go.Proofs
def bodyOf (f : Func) : Code := match f.body with
  | some c => c
  | none => .skip
noncomputable def kB : Code := bodyOf Tryz.f4
noncomputable def kh0 : GH := ⟨0, .e⟩
noncomputable def kl0 : List (Nat × G) := []
def km1 : List Nat := [347]
noncomputable def kl1 : List (Nat × G) := [(0, (.bool false)), (1, (.sl 0 0 1 1 (some 5))), (2, (.int .i64 (.ofNat 0)))]
noncomputable def kh1 : GH := ⟨1, (.n (.cells [(.str 1 120), (.int .i64 (.ofNat 4)), (.int .i64 (.ofNat 0)), (.str 4 1717658956), .nils]) .e .e)⟩
def km2 : List Nat := [0]
noncomputable def kl2 : List (Nat × G) := [(0, (.bool false)), (1, (.sl 0 0 1 1 (some 5))), (2, (.int .i64 (.ofNat 0))), (3, (.int .i64 (.ofNat 2))), (4, (.int .i64 (.ofNat 0)))]
noncomputable def kh2 : GH := ⟨1, (.n (.cells [(.str 1 120), (.int .i64 (.ofNat 4)), (.int .i64 (.ofNat 0)), (.str 4 1717658956), .nils]) .e .e)⟩
def km3 : List Nat := [0, 1067, 1066]
noncomputable def kl3 : List (Nat × G) := [(0, (.bool false)), (1, (.sl 0 0 1 1 (some 5))), (2, (.int .i64 (.ofNat 0))), (3, (.int .i64 (.ofNat 2))), (4, (.int .i64 (.ofNat 0))), (5, (.ptr 1 0)), (6, (.int .i64 (.ofNat 0)))]
noncomputable def kh3 : GH := ⟨3, (.n (.cells [(.str 1 120), (.int .i64 (.ofNat 4)), (.int .i64 (.ofNat 0)), (.str 4 1717658956), .nils]) (.n (.cells [(.int .i64 (.ofNat 4)), (.int .i64 (.ofNat 0)), (.str 4 1701080910), (.sl 2 0 3 3 (some 4))]) .e .e) (.n (.cells [(.int .i64 (.ofNat 4)), (.int .i64 (.ofNat 0)), (.str 4 1717658956), .nils, (.int .i64 (.ofNat 1)), (.int .i64 (.negSucc 0)), (.str 0 0), .nils, (.int .i64 (.ofNat 4)), (.int .i64 (.ofNat 0)), (.str 4 1717658956), .nils]) .e .e))⟩
def km4 : List Nat := [0, 1, 2]
noncomputable def kl4 : List (Nat × G) := [(0, (.bool false)), (1, (.sl 0 0 1 1 (some 5))), (2, (.int .i64 (.ofNat 0))), (3, (.int .i64 (.ofNat 2))), (4, (.int .i64 (.ofNat 0))), (5, (.ptr 1 0)), (6, (.int .i64 (.ofNat 0))), (8, (.int .i64 (.ofNat 5)))]
noncomputable def kh4 : GH := ⟨3, (.n (.cells [(.str 1 120), (.int .i64 (.ofNat 4)), (.int .i64 (.ofNat 0)), (.str 4 1717658956), .nils]) (.n (.cells [(.int .i64 (.ofNat 4)), (.int .i64 (.ofNat 0)), (.str 4 1701080910), (.sl 2 0 3 3 (some 4))]) .e .e) (.n (.cells [(.int .i64 (.ofNat 4)), (.int .i64 (.ofNat 0)), (.str 4 1717658956), .nils, (.int .i64 (.ofNat 1)), (.int .i64 (.negSucc 0)), (.str 0 0), .nils, (.int .i64 (.ofNat 4)), (.int .i64 (.ofNat 0)), (.str 4 1717658956), .nils]) .e .e))⟩
def km5 : List Nat := [0, 1, 500, 2, 499]
noncomputable def kl5 : List (Nat × G) := [(0, (.bool false)), (1, (.sl 0 0 1 1 (some 5))), (2, (.int .i64 (.ofNat 0))), (3, (.int .i64 (.ofNat 2))), (4, (.int .i64 (.ofNat 0))), (5, (.ptr 1 0)), (6, (.int .i64 (.ofNat 0))), (8, (.int .i64 (.ofNat 5))), (9, (.ptr 2 0)), (10, (.int .i64 (.ofNat 0)))]
noncomputable def kh5 : GH := ⟨5, (.n (.cells [(.str 1 120), (.int .i64 (.ofNat 4)), (.int .i64 (.ofNat 0)), (.str 4 1717658956), .nils]) (.n (.cells [(.int .i64 (.ofNat 4)), (.int .i64 (.ofNat 0)), (.str 4 1701080910), (.sl 3 0 3 3 (some 4))]) (.n (.cells [(.int .i64 (.ofNat 4)), (.int .i64 (.ofNat 0)), (.str 4 1717658956), .nils, (.int .i64 (.ofNat 1)), (.int .i64 (.negSucc 0)), (.str 0 0), .nils, (.int .i64 (.ofNat 4)), (.int .i64 (.ofNat 0)), (.str 4 1717658956), .nils]) .e .e) .e) (.n (.cells [(.int .i64 (.ofNat 4)), (.int .i64 (.ofNat 0)), (.str 3 7305044), (.sl 4 0 2 2 (some 4))]) (.n (.cells [(.int .i64 (.ofNat 2)), (.int .i64 (.ofNat 0)), (.str 0 0), .nils, (.int .i64 (.ofNat 2)), (.int .i64 (.ofNat 1)), (.str 0 0), .nils]) .e .e) .e))⟩
def km6 : List Nat := [0, 1, 2, 3, 4]
noncomputable def kl6 : List (Nat × G) := [(0, (.bool false)), (1, (.sl 0 0 1 1 (some 5))), (2, (.int .i64 (.ofNat 0))), (3, (.int .i64 (.ofNat 2))), (4, (.int .i64 (.ofNat 0))), (5, (.ptr 1 0)), (6, (.int .i64 (.ofNat 0))), (8, (.int .i64 (.ofNat 5))), (9, (.ptr 2 0)), (10, (.int .i64 (.ofNat 0))), (12, (.int .i64 (.ofNat 5)))]
noncomputable def kh6 : GH := ⟨5, (.n (.cells [(.str 1 120), (.int .i64 (.ofNat 4)), (.int .i64 (.ofNat 0)), (.str 4 1717658956), .nils]) (.n (.cells [(.int .i64 (.ofNat 4)), (.int .i64 (.ofNat 0)), (.str 4 1701080910), (.sl 3 0 3 3 (some 4))]) (.n (.cells [(.int .i64 (.ofNat 4)), (.int .i64 (.ofNat 0)), (.str 4 1717658956), .nils, (.int .i64 (.ofNat 1)), (.int .i64 (.negSucc 0)), (.str 0 0), .nils, (.int .i64 (.ofNat 4)), (.int .i64 (.ofNat 0)), (.str 4 1717658956), .nils]) .e .e) .e) (.n (.cells [(.int .i64 (.ofNat 4)), (.int .i64 (.ofNat 0)), (.str 3 7305044), (.sl 4 0 2 2 (some 4))]) (.n (.cells [(.int .i64 (.ofNat 2)), (.int .i64 (.ofNat 0)), (.str 0 0), .nils, (.int .i64 (.ofNat 2)), (.int .i64 (.ofNat 1)), (.str 0 0), .nils]) .e .e) .e))⟩
def km7 : List Nat := [0, 1, 2, 1208, 3, 4]
noncomputable def kl7 : List (Nat × G) := [(0, (.bool false)), (1, (.sl 0 0 1 1 (some 5))), (2, (.int .i64 (.ofNat 0))), (3, (.int .i64 (.ofNat 2))), (4, (.int .i64 (.ofNat 0))), (5, (.ptr 1 0)), (6, (.int .i64 (.ofNat 0))), (8, (.int .i64 (.ofNat 5))), (9, (.ptr 2 0)), (10, (.int .i64 (.ofNat 0))), (12, (.int .i64 (.ofNat 5))), (13, (.sl 3 0 1 1 (some 1))), (14, (.int .i64 (.ofNat 0)))]
noncomputable def kh7 : GH := ⟨6, (.n (.cells [(.str 1 120), (.int .i64 (.ofNat 4)), (.int .i64 (.ofNat 0)), (.str 4 1717658956), .nils]) (.n (.cells [(.int .i64 (.ofNat 4)), (.int .i64 (.ofNat 0)), (.str 4 1701080910), (.sl 4 0 3 3 (some 4))]) (.n (.cells [(.int .i64 (.ofNat 3))]) .e .e) (.n (.cells [(.int .i64 (.ofNat 2)), (.int .i64 (.ofNat 0)), (.str 0 0), .nils, (.int .i64 (.ofNat 2)), (.int .i64 (.ofNat 1)), (.str 0 0), .nils]) .e .e)) (.n (.cells [(.int .i64 (.ofNat 4)), (.int .i64 (.ofNat 0)), (.str 3 7305044), (.sl 5 0 2 2 (some 4))]) (.n (.cells [(.int .i64 (.ofNat 4)), (.int .i64 (.ofNat 0)), (.str 4 1717658956), .nils, (.int .i64 (.ofNat 1)), (.int .i64 (.negSucc 0)), (.str 0 0), .nils, (.int .i64 (.ofNat 4)), (.int .i64 (.ofNat 0)), (.str 4 1717658956), .nils]) .e .e) .e))⟩
def km8 : List Nat := [0, 1, 2, 3, 499, 4, 5, 498]
noncomputable def kl8 : List (Nat × G) := [(0, (.bool false)), (1, (.sl 0 0 1 1 (some 5))), (2, (.int .i64 (.ofNat 0))), (3, (.int .i64 (.ofNat 2))), (4, (.int .i64 (.ofNat 0))), (5, (.ptr 1 0)), (6, (.int .i64 (.ofNat 0))), (8, (.int .i64 (.ofNat 5))), (9, (.ptr 2 0)), (10, (.int .i64 (.ofNat 0))), (12, (.int .i64 (.ofNat 5))), (13, (.sl 3 0 1 1 (some 1))), (14, (.int .i64 (.ofNat 0))), (15, (.ptr 4 0)), (16, (.int .i64 (.ofNat 0)))]
noncomputable def kh8 : GH := ⟨8, (.n (.cells [(.str 1 120), (.int .i64 (.ofNat 4)), (.int .i64 (.ofNat 0)), (.str 4 1717658956), .nils]) (.n (.cells [(.int .i64 (.ofNat 4)), (.int .i64 (.ofNat 0)), (.str 4 1701080910), (.sl 5 0 3 3 (some 4))]) (.n (.cells [(.int .i64 (.ofNat 3))]) (.n (.cells [(.int .i64 (.ofNat 2)), (.int .i64 (.ofNat 1)), (.str 0 0), .nils, (.int .i64 (.ofNat 2)), (.int .i64 (.ofNat 1)), (.str 0 0), .nils]) .e .e) .e) (.n (.cells [(.int .i64 (.ofNat 4)), (.int .i64 (.ofNat 0)), (.str 4 1717658956), .nils, (.int .i64 (.ofNat 1)), (.int .i64 (.negSucc 0)), (.str 0 0), .nils, (.int .i64 (.ofNat 4)), (.int .i64 (.ofNat 0)), (.str 4 1717658956), .nils]) .e .e)) (.n (.cells [(.int .i64 (.ofNat 4)), (.int .i64 (.ofNat 0)), (.str 3 7305044), (.sl 6 0 2 2 (some 4))]) (.n (.cells [(.int .i64 (.ofNat 4)), (.int .i64 (.ofNat 0)), (.str 3 7305044), (.sl 7 0 2 2 (some 4))]) .e .e) (.n (.cells [(.int .i64 (.ofNat 2)), (.int .i64 (.ofNat 0)), (.str 0 0), .nils, (.int .i64 (.ofNat 2)), (.int .i64 (.ofNat 1)), (.str 0 0), .nils]) .e .e)))⟩
def km9 : List Nat := [0, 1, 2, 3, 4, 5, 6, 7]
noncomputable def kl9 : List (Nat × G) := [(0, (.bool false)), (1, (.sl 0 0 1 1 (some 5))), (2, (.int .i64 (.ofNat 0))), (3, (.int .i64 (.ofNat 2))), (4, (.int .i64 (.ofNat 0))), (5, (.ptr 1 0)), (6, (.int .i64 (.ofNat 0))), (8, (.int .i64 (.ofNat 5))), (9, (.ptr 2 0)), (10, (.int .i64 (.ofNat 0))), (12, (.int .i64 (.ofNat 5))), (13, (.sl 3 0 1 1 (some 1))), (14, (.int .i64 (.ofNat 0))), (15, (.ptr 4 0)), (16, (.int .i64 (.ofNat 0))), (18, (.int .i64 (.ofNat 5)))]
noncomputable def kh9 : GH := ⟨8, (.n (.cells [(.str 1 120), (.int .i64 (.ofNat 4)), (.int .i64 (.ofNat 0)), (.str 4 1717658956), .nils]) (.n (.cells [(.int .i64 (.ofNat 4)), (.int .i64 (.ofNat 0)), (.str 4 1701080910), (.sl 5 0 3 3 (some 4))]) (.n (.cells [(.int .i64 (.ofNat 3))]) (.n (.cells [(.int .i64 (.ofNat 2)), (.int .i64 (.ofNat 1)), (.str 0 0), .nils, (.int .i64 (.ofNat 2)), (.int .i64 (.ofNat 1)), (.str 0 0), .nils]) .e .e) .e) (.n (.cells [(.int .i64 (.ofNat 4)), (.int .i64 (.ofNat 0)), (.str 4 1717658956), .nils, (.int .i64 (.ofNat 1)), (.int .i64 (.negSucc 0)), (.str 0 0), .nils, (.int .i64 (.ofNat 4)), (.int .i64 (.ofNat 0)), (.str 4 1717658956), .nils]) .e .e)) (.n (.cells [(.int .i64 (.ofNat 4)), (.int .i64 (.ofNat 0)), (.str 3 7305044), (.sl 6 0 2 2 (some 4))]) (.n (.cells [(.int .i64 (.ofNat 4)), (.int .i64 (.ofNat 0)), (.str 3 7305044), (.sl 7 0 2 2 (some 4))]) .e .e) (.n (.cells [(.int .i64 (.ofNat 2)), (.int .i64 (.ofNat 0)), (.str 0 0), .nils, (.int .i64 (.ofNat 2)), (.int .i64 (.ofNat 1)), (.str 0 0), .nils]) .e .e)))⟩
def km10 : List Nat := [0, 1, 2, 3, 4, 246, 5, 6, 7]
noncomputable def kl10 : List (Nat × G) := [(0, (.bool false)), (1, (.sl 0 0 1 1 (some 5))), (2, (.int .i64 (.ofNat 0))), (3, (.int .i64 (.ofNat 2))), (4, (.int .i64 (.ofNat 0))), (5, (.ptr 1 0)), (6, (.int .i64 (.ofNat 0))), (8, (.int .i64 (.ofNat 5))), (9, (.ptr 2 0)), (10, (.int .i64 (.ofNat 0))), (12, (.int .i64 (.ofNat 5))), (13, (.sl 3 0 1 1 (some 1))), (14, (.int .i64 (.ofNat 0))), (15, (.ptr 4 0)), (16, (.int .i64 (.ofNat 0))), (18, (.int .i64 (.ofNat 5))), (19, (.ptr 5 0)), (20, (.int .i64 (.ofNat 7)))]
noncomputable def kh10 : GH := ⟨9, (.n (.cells [(.str 1 120), (.int .i64 (.ofNat 4)), (.int .i64 (.ofNat 0)), (.str 4 1717658956), .nils]) (.n (.cells [(.int .i64 (.ofNat 4)), (.int .i64 (.ofNat 0)), (.str 4 1701080910), (.sl 6 0 3 3 (some 4))]) (.n (.cells [(.int .i64 (.ofNat 3))]) (.n (.cells [(.int .i64 (.ofNat 2)), (.int .i64 (.ofNat 0)), (.str 0 0), .nils, (.int .i64 (.ofNat 2)), (.int .i64 (.ofNat 1)), (.str 0 0), .nils]) .e .e) .e) (.n (.cells [(.int .i64 (.ofNat 2)), (.int .i64 (.ofNat 1)), (.str 0 0), .nils]) .e .e)) (.n (.cells [(.int .i64 (.ofNat 4)), (.int .i64 (.ofNat 0)), (.str 3 7305044), (.sl 7 0 2 2 (some 4))]) (.n (.cells [(.int .i64 (.ofNat 4)), (.int .i64 (.ofNat 0)), (.str 3 7305044), (.sl 8 0 2 2 (some 4))]) (.n (.cells [(.int .i64 (.ofNat 2)), (.int .i64 (.ofNat 1)), (.str 0 0), .nils, (.int .i64 (.ofNat 2)), (.int .i64 (.ofNat 1)), (.str 0 0), .nils]) .e .e) .e) (.n (.cells [(.int .i64 (.ofNat 4)), (.int .i64 (.ofNat 0)), (.str 4 1717658956), .nils, (.int .i64 (.ofNat 1)), (.int .i64 (.negSucc 0)), (.str 0 0), .nils, (.int .i64 (.ofNat 4)), (.int .i64 (.ofNat 0)), (.str 4 1717658956), .nils]) .e .e)))⟩
def km11 : List Nat := [0, 1, 2, 3, 4, 5, 6, 7, 8]
noncomputable def kl11 : List (Nat × G) := [(0, (.bool false)), (1, (.sl 0 0 1 1 (some 5))), (2, (.int .i64 (.ofNat 0))), (3, (.int .i64 (.ofNat 2))), (4, (.int .i64 (.ofNat 0))), (5, (.ptr 1 0)), (6, (.int .i64 (.ofNat 0))), (8, (.int .i64 (.ofNat 5))), (9, (.ptr 2 0)), (10, (.int .i64 (.ofNat 0))), (12, (.int .i64 (.ofNat 5))), (13, (.sl 3 0 1 1 (some 1))), (14, (.int .i64 (.ofNat 0))), (15, (.ptr 4 0)), (16, (.int .i64 (.ofNat 0))), (18, (.int .i64 (.ofNat 5))), (19, (.ptr 5 0)), (20, (.int .i64 (.ofNat 7))), (22, (.int .i64 (.ofNat 0)))]
noncomputable def kh11 : GH := ⟨9, (.n (.cells [(.str 1 120), (.int .i64 (.ofNat 4)), (.int .i64 (.ofNat 0)), (.str 4 1717658956), .nils]) (.n (.cells [(.int .i64 (.ofNat 4)), (.int .i64 (.ofNat 0)), (.str 4 1701080910), (.sl 6 0 3 3 (some 4))]) (.n (.cells [(.int .i64 (.ofNat 3))]) (.n (.cells [(.int .i64 (.ofNat 2)), (.int .i64 (.ofNat 0)), (.str 0 0), .nils, (.int .i64 (.ofNat 2)), (.int .i64 (.ofNat 1)), (.str 0 0), .nils]) .e .e) .e) (.n (.cells [(.int .i64 (.ofNat 2)), (.int .i64 (.ofNat 1)), (.str 0 0), .nils]) .e .e)) (.n (.cells [(.int .i64 (.ofNat 4)), (.int .i64 (.ofNat 0)), (.str 3 7305044), (.sl 7 0 2 2 (some 4))]) (.n (.cells [(.int .i64 (.ofNat 4)), (.int .i64 (.ofNat 0)), (.str 3 7305044), (.sl 8 0 2 2 (some 4))]) (.n (.cells [(.int .i64 (.ofNat 2)), (.int .i64 (.ofNat 1)), (.str 0 0), .nils, (.int .i64 (.ofNat 2)), (.int .i64 (.ofNat 1)), (.str 0 0), .nils]) .e .e) .e) (.n (.cells [(.int .i64 (.ofNat 4)), (.int .i64 (.ofNat 0)), (.str 4 1717658956), .nils, (.int .i64 (.ofNat 1)), (.int .i64 (.negSucc 0)), (.str 0 0), .nils, (.int .i64 (.ofNat 4)), (.int .i64 (.ofNat 0)), (.str 4 1717658956), .nils]) .e .e)))⟩
theorem kp0 : grunC tb (gx tb 200) 195 4 (chkB km1 kl1 kh1) 2 (dropC 0 kB) (sOf kl0) kh0 = true := by kernel_rfl
theorem kp1 : grunC tb (gx tb 200) 195 4 (chkB km2 kl2 kh2) 1 (dropC 2 kB) (sOf kl1) kh1 = true := by kernel_rfl
theorem kp2 : grunC tb (gx tb 200) 195 4 (chkB km3 kl3 kh3) 1 (dropC 3 kB) (sOf kl2) kh2 = true := by kernel_rfl
theorem kp3 : grunC tb (gx tb 200) 195 4 (chkB km4 kl4 kh4) 1 (dropC 4 kB) (sOf kl3) kh3 = true := by kernel_rfl
theorem kp4 : grunC tb (gx tb 200) 195 4 (chkB km5 kl5 kh5) 1 (dropC 5 kB) (sOf kl4) kh4 = true := by kernel_rfl
theorem kp5 : grunC tb (gx tb 200) 195 4 (chkB km6 kl6 kh6) 1 (dropC 6 kB) (sOf kl5) kh5 = true := by kernel_rfl
theorem kp6 : grunC tb (gx tb 200) 195 4 (chkB km7 kl7 kh7) 1 (dropC 7 kB) (sOf kl6) kh6 = true := by kernel_rfl
theorem kp7 : grunC tb (gx tb 200) 195 4 (chkB km8 kl8 kh8) 1 (dropC 8 kB) (sOf kl7) kh7 = true := by kernel_rfl
theorem kp8 : grunC tb (gx tb 200) 195 4 (chkB km9 kl9 kh9) 1 (dropC 9 kB) (sOf kl8) kh8 = true := by kernel_rfl
theorem kp9 : grunC tb (gx tb 200) 195 4 (chkB km10 kl10 kh10) 1 (dropC 10 kB) (sOf kl9) kh9 = true := by kernel_rfl
theorem kp10 : grunC tb (gx tb 200) 195 4 (chkB km11 kl11 kh11) 1 (dropC 11 kB) (sOf kl10) kh10 = true := by kernel_rfl
theorem kp11 : lastB tb Tryz.f4.results.toList (gcode tb (gx tb 200) 195 4 none (dropC 12 kB) (sOf kl11) [] kh11) = true := by kernel_rfl
end Go.Gx.Ck

/- What the ghost machine knows of the program of CoverKnown is so; known() returns true. -/
namespace Go.Gx.Ck
set_option maxRecDepth 100000
open Go.Proofs

theorem meth_ok : ∀ t m f, mlk tb.meth t m = some f → ∀ v w, (method (Tryz.prog.types.size + Made.depth) t v m).run Tryz.prog w = .ok (f, v) w := by
  intro t m f h v w
  have hs : ∃ n, Tryz.prog.types.size + Made.depth = n + 1 := ⟨Tryz.prog.types.size + (Made.depth - 1), by unfold Made.depth; omega⟩
  obtain ⟨n, hn⟩ := hs
  rw [hn]
  have h : mlk [(91, "hearth/cover.pattern", 148), (130, "hearth/cover.pattern", 149)] t m = some f := h
  simp only [mlk] at h
  split at h
  · rename_i h1 h2
    cases h
    have := Nat.eq_of_beq_eq_true h1
    have := of_decide_eq_true h2
    subst_vars
    exact meth_of (by kernel_rfl) n v w
  · split at h
    · rename_i h1 h2
      cases h
      have := Nat.eq_of_beq_eq_true h1
      have := of_decide_eq_true h2
      subst_vars
      exact meth_of (by kernel_rfl) n v w
    · cases h

theorem fn_ok : ∀ f x, tb.fn f = some x → Tryz.prog.funcs[f]? = some x ∧ (x.name == "runtime.NumGoroutine") = false := by
  intro f x h
  have h : nthC chunks f = some x := h
  rw [nthC_eq _ _ chunks_ok.2, chunks_ok.1] at h
  refine ⟨by rw [fns_ok]; simpa using h, ?_⟩
  have hall : fns.all (fun x => !(x.name == "runtime.NumGoroutine")) = true := by kernel_rfl
  have := List.all_eq_true.1 hall x (List.mem_of_getElem? h)
  simpa using this

theorem ctx : Ctx3 Tryz.prog tb where
  c := { ty := tt_ok, tz := zOkB_ok zok, eqs := fun t ht => by
          have ht : t ∈ [100] := ht
          have : t = 100 := by simpa using ht
          subst this; exact eqs_ok, mixed := mixed }
  meth := meth_ok
  fn := fn_ok
  hold := fun f t h => by
    have h : (match Nat.beq 101 f with | true => some 203 | false => none) = some t := h
    split at h
    · rename_i hb
      cases h
      have := Nat.eq_of_beq_eq_true hb
      subst this
      exact hold_ok
    · cases h

theorem known_pure : Hk.PureC Tryz.prog 4 [] (.bool true) := by
  refine pure_at Tryz.func4 (by decide +kernel) rfl (by decide +kernel) fun R Br w0 hR => ?_
  refine at_piece ctx 200 2 km1 kl1 kh1 kp0 ?_
  refine at_piece ctx 200 1 km2 kl2 kh2 kp1 ?_
  refine at_piece ctx 200 1 km3 kl3 kh3 kp2 ?_
  refine at_piece ctx 200 1 km4 kl4 kh4 kp3 ?_
  refine at_piece ctx 200 1 km5 kl5 kh5 kp4 ?_
  refine at_piece ctx 200 1 km6 kl6 kh6 kp5 ?_
  refine at_piece ctx 200 1 km7 kl7 kh7 kp6 ?_
  refine at_piece ctx 200 1 km8 kl8 kh8 kp7 ?_
  refine at_piece ctx 200 1 km9 kl9 kh9 kp8 ?_
  refine at_piece ctx 200 1 km10 kl10 kh10 kp9 ?_
  refine at_piece ctx 200 1 km11 kl11 kh11 kp10 ?_
  exact at_last ctx 200 kp11 hR

end Go.Gx.Ck

/- Small things for walks. -/
namespace Go.Hk
attribute [simp] allP cat

theorem w64 {x : Int} (h0 : -9223372036854775808 ≤ x) (h1 : x ≤ 9223372036854775807) : IntKind.i64.wrap x = x := by
  simp only [IntKind.wrap, IntKind.bits, IntKind.signed]
  simp
  omega

theorem tInt {k : IntKind} {a b : Int} (h : a = b) : told (.imm (.int k a)) (.imm (.int k b)) := by rw [h]; rfl
theorem tV {a b : V} (h : a = b) : told (.imm a) (.imm b) := by rw [h]; rfl

section
variable {P : Program} {n : Nat} {F : List Nat} {Q : DQ} {tt : TT} {env env' : Env} {st st' : St} {ids ids' : List Nat} {k todo todo' : List DI} {I : Imm} {μ : Mu} {w : World} {a : Act} {Pn : V → Prop} {d : D} {cx : Prop} {ob : List Prop}

theorem d_run (htt : TTok P tt) (hm : P.follows .mixedOrders = true) (f : Nat) (path : List Bool)
    (h : run tt n f path todo env st ids [] = .at k env' st' ids' ob) (hob : allP ob) (hd : G P n F Q k env' st' ids') : DGo P n F Q todo env st ids := (g_run htt hm f path h hob hd).go

end
end Go.Hk

/- A row that is owned becomes a slice by value. -/
namespace Go.Hk

mutual
def frzD (id : Nat) (es : List (List V)) : D → D
  | .own i n => bif Nat.beq i id then .imm (.sl es) else .own i n
  | .agg cs => mkAgg (frzL id es cs)
  | .tup cs => .tup (frzL id es cs)
  | .fn f a b => .fn f (frzL id es a) (frzL id es b)
  | .iface t d => match frzD id es d with
    | .imm x => .imm (.iface t x)
    | d' => .iface t d'
  | .guard c w d => .guard c w (frzD id es d)
  | d => d
def frzL (id : Nat) (es : List (List V)) : List D → List D
  | [] => []
  | d :: r => frzD id es d :: frzL id es r
end

def frzE (id : Nat) (es : List (List V)) : Env → Env
  | [] => []
  | (t, d) :: r => (t, frzD id es d) :: frzE id es r

def frzKV (id : Nat) (es : List (List V)) : List (V × D) → List (V × D)
  | [] => []
  | (k, d) :: r => (k, frzD id es d) :: frzKV id es r

def frzB (id : Nat) (es : List (List V)) : Blk → Blk
  | .cells t sz cs => mkBlk t sz (frzL id es cs)
  | .map kv => .map (frzKV id es kv)
  | b => b

def frzS (id : Nat) (es : List (List V)) : St → St
  | [] => []
  | (i, some b) :: r => (i, some (frzB id es b)) :: frzS id es r
  | (i, none) :: r => (i, none) :: frzS id es r

theorem frzL_eq (id : Nat) (es : List (List V)) : ∀ l : List D, frzL id es l = l.map (frzD id es)
  | [] => rfl
  | d :: r => by simp [frzL, frzL_eq id es r]

section
variable {P : Program} {n : Nat} {F : List Nat} {Q : DQ} {tt : TT} {env : Env} {st : St} {ids : List Nat} {todo : List DI} {I J : Imm} {μ : Mu} {w : World} {id : Nat} {es : List (List V)} {g : Value}

theorem RepD.frz {v : Value} {d : D} (h : RepD I μ v d) (hIJ : I.le J) (hg : μ id = some g) (hr : RepV J g (.sl es)) : RepD J μ v (frzD id es d) := by
  have at_ : ∀ {l : List D} {i : Nat} {x : D}, (frzL id es l)[i]? = some x → ∃ y, l[i]? = some y ∧ x = frzD id es y := by
    intro l i x hx
    rw [frzL_eq, List.getElem?_map] at hx
    cases hl : l[i]? with
    | none => rw [hl] at hx; cases hx
    | some y => rw [hl] at hx; cases hx; exact ⟨y, rfl, rfl⟩
  induction h with
  | undef v => exact .undef v
  | imm v x hx => exact .imm v x (hx.mono hIJ)
  | nils => exact .nils
  | ref b id off hm => exact .ref b id off hm
  | ip b o t cs off vs hcell hrep => exact (RepD.ip b o t cs off vs hcell hrep).mono hIJ (Mu.le_refl μ)
  | agg cs ds hl h1 _ ih =>
    have : RepD J μ (.agg cs.toList.toArray) (mkAgg (frzL id es ds)) := mkAgg_rep ⟨by rw [frzL_eq, List.length_map, ← hl]; simp, fun i c x hc hx => by
      obtain ⟨y, hy, rfl⟩ := at_ hx
      exact ih i c y (by simpa using hc) hy⟩ h1
    simpa [frzD] using this
  | tup cs ds hl _ ih =>
    refine .tup cs _ (by rw [frzL_eq, List.length_map, hl]) fun i c x hc hx => ?_
    obtain ⟨y, hy, rfl⟩ := at_ hx
    exact ih i c y hc hy
  | own i len a cap hm =>
    simp only [frzD]
    cases hb : Nat.beq i id with
    | false => exact .own i len a cap hm
    | true =>
      rw [Nat.eq_of_beq_eq_true hb, hg] at hm
      cases hm
      exact .imm _ _ hr
  | elp b id len cap k sz hm hk => exact .elp b id len cap k sz hm hk
  | mapr id b hm => exact .mapr id b hm
  | iter id b hm => exact .iter id b hm
  | fn f first cap df dc hf hc _ _ ih1 ih2 =>
    refine .fn f first cap _ _ (by rw [frzL_eq, List.length_map, hf]) (by rw [frzL_eq, List.length_map, hc]) (fun i c x h1 h2 => ?_) (fun i c x h1 h2 => ?_)
    · obtain ⟨y, hy, rfl⟩ := at_ h2
      exact ih1 i c y h1 hy
    · obtain ⟨y, hy, rfl⟩ := at_ h2
      exact ih2 i c y h1 hy
  | iface t v d _ ih =>
    simp only [frzD]
    split
    · rename_i x hx
      rw [hx] at ih
      exact .imm _ _ (.iface t v x ih.immInv)
    · exact .iface t v _ ih
  | guard c want v d _ ih => exact .guard c want v _ ih
  | clip a len es hr => exact .clip a len es (hr.mono hIJ)
  | slc b id off len cap hm hl hx => exact .slc b id off len cap hm hl hx

theorem BlkRep.frz {gb : Value} {blk : Blk} (h : BlkRep I μ w gb blk) (hIJ : I.le J) (hg : μ id = some g) (hr : RepV J g (.sl es)) : BlkRep J μ w gb (frzB id es blk) := by
  cases blk with
  | cells t sz cs =>
    obtain ⟨hs, b, vs, rfl, h2, h3, h4⟩ := h
    refine mkBlk_rep h2 ⟨by rw [frzL_eq, List.length_map, h3.1], fun i v x hv hx => ?_⟩ h4 (by rw [frzL_eq, List.length_map, hs])
    rw [frzL_eq, List.getElem?_map] at hx
    cases hl : cs[i]? with
    | none => rw [hl] at hx; cases hx
    | some y => rw [hl] at hx; cases hx; exact (h3.2 i v y hv hl).frz hIJ hg hr
  | map kv =>
    obtain ⟨b, ms, clock, h1, h2, h3, h4, h5⟩ := h
    have hlen : ∀ kv : List (V × D), (frzKV id es kv).length = kv.length := fun kv => by
      induction kv with
      | nil => rfl
      | cons p r ih => obtain ⟨k, d⟩ := p; simp [frzKV, ih]
    have hat : ∀ {kv : List (V × D)} {i : Nat} {p : V × D}, (frzKV id es kv)[i]? = some p → ∃ q, kv[i]? = some q ∧ p = (q.1, frzD id es q.2) := by
      intro kv
      induction kv with
      | nil => intro i p h; simp [frzKV] at h
      | cons q r ih =>
        obtain ⟨k, d⟩ := q
        intro i p h
        cases i with
        | zero => simp [frzKV] at h; exact ⟨(k, d), rfl, h.symm⟩
        | succ i => obtain ⟨q, h1, h2⟩ := ih (i := i) (by simpa [frzKV] using h); exact ⟨q, by simpa using h1, h2⟩
    refine ⟨b, ms, clock, h1, h2, by rw [hlen, h3], by rw [hlen]; exact h4, fun i e p he hp => ?_⟩
    obtain ⟨q, hq, rfl⟩ := hat hp
    obtain ⟨r1, r2⟩ := h5 i e q he hq
    exact ⟨r1.mono hIJ, r2.frz hIJ hg hr⟩
  | _ => exact h.mono hIJ (Mu.le_refl μ)

theorem frzS_live {i : Nat} {b : Blk} : ∀ {st : St}, live (frzS id es st) i b → ∃ b0, live st i b0 ∧ b = frzB id es b0
  | [], h => by simp [frzS, live, lk] at h
  | (k, some x) :: r, h => by
    simp only [frzS] at h
    rcases live_cons.1 h with ⟨h1, h2⟩ | ⟨h1, h2⟩
    · exact ⟨x, by unfold live; rw [h1, lk_cons_self], h2⟩
    · obtain ⟨b0, q1, q2⟩ := frzS_live h2
      exact ⟨b0, live_cons.2 (.inr ⟨h1, q1⟩), q2⟩
  | (k, none) :: r, h => by
    simp only [frzS] at h
    obtain ⟨h1, h2⟩ := live_del.1 h
    obtain ⟨b0, q1, q2⟩ := frzS_live h2
    exact ⟨b0, live_del.2 ⟨h1, q1⟩, q2⟩

/-- A row that is owned becomes a slice by value. -/
theorem dgo_freeze (id : Nat) {e : TypeId} {sz : Nat} (hl : lk st id = some (some (.row e sz es))) (h : DGo P n F Q todo (frzE id es env) ((id, none) :: frzS id es st) ids) : DGo P n F Q todo env st ids := by
  intro b cs I μ a w items hd hc
  have hlive : live st id (.row e sz es) := hl
  obtain ⟨g, hg, xs, hown, hrep, hsz, hone, hp⟩ := hc.blk id _ hlive
  -- the immutable part with the row
  obtain ⟨J, hJ, hJr, hJo⟩ : ∃ J : Imm, I.le J ∧ RepV J g (.sl es) ∧ (∀ k o, J k = some o → (I k = some o ∨ (ownB g = some k ∧ w.heap[k]? = some o))) := by
    rcases hown.2 with ⟨rfl, h0⟩ | ⟨gb, cap, cur, rfl, _, hheap, hle, hcm, hcs, htake⟩
    · have : es = [] := List.eq_nil_of_length_eq_zero h0
      subst this
      exact ⟨I, Imm.le_refl I, .slnil, fun k o h => .inl h⟩
    · have hno := (hc.apart id _ _ gb hlive hg rfl).1
      have hle' : I.le (fun k => if k = gb then some (.cells cur e (0, 0)) else I k) := fun k o h => by
        have : k ≠ gb := fun e => by rw [e, hno] at h; cases h
        simp [this, h]
      refine ⟨_, hle', ?_, fun k o h => ?_⟩
      · have hcell : ∀ (i : Nat) (c : List V) (j : Nat) (x : V), es[i]? = some c → c[j]? = some x → ∃ v, xs[i * sz + j]? = some v ∧ cur[i * sz + j]? = some v ∧ RepV I v x ∧ v.oneCell' = true := by
          intro i c j x hi hj
          have h1 := flatten_get hsz i c j x hi hj
          have hlt : i * sz + j < xs.length := by rw [hrep.1]; exact (List.getElem?_eq_some_iff.1 h1).1
          obtain ⟨v, hv⟩ : ∃ v, xs[i * sz + j]? = some v := ⟨_, List.getElem?_eq_getElem hlt⟩
          have hr := hrep.2 _ _ _ hv h1
          refine ⟨v, hv, ?_, hr, ?_⟩
          · rw [← htake, List.getElem?_take] at hv
            split at hv
            · simpa using hv
            · cases hv
          · have := hone c (List.mem_of_getElem? hi) x (List.mem_of_getElem? hj)
            exact hr.one this
        refine .sl gb 0 _ cap sz es (fun i j => (cur[i * sz + j]?).getD undef) rfl hle hcm hsz (fun i c j x hi hj => ?_) (fun i c j x hi hj => ?_)
        · obtain ⟨v, _, h2, _, h4⟩ := hcell i c j x hi hj
          simp [Imm.cell, h2, h4]
        · obtain ⟨v, _, h2, h3, _⟩ := hcell i c j x hi hj
          simp only [h2, Option.getD_some]
          exact h3.mono hle'
      · by_cases hk : k = gb
        · subst hk; simp at h; subst h; exact .inr ⟨rfl, hheap⟩
        · simp [hk] at h; exact .inl h
  have hst : ∀ i bi, live ((id, none) :: frzS id es st) i bi → i ≠ id ∧ ∃ b0, live st i b0 ∧ bi = frzB id es b0 := fun i bi h => by
    obtain ⟨h1, h2⟩ := live_del.1 h
    exact ⟨h1, frzS_live h2⟩
  have hc' : Conc n J μ (frzE id es env) ((id, none) :: frzS id es st) ids a w :=
    { imm := fun k o h => (hJo k o h).elim (fun h => hc.imm k o h) fun h => h.2
      blk := fun i bi hli => by
        obtain ⟨_, b0, h2, rfl⟩ := hst i bi hli
        obtain ⟨gi, hgi, hr⟩ := hc.blk i b0 h2
        exact ⟨gi, hgi, hr.frz hJ hg hJr⟩
      apart := fun i bi gi k hli hgi hk => by
        obtain ⟨h1, b0, h2, rfl⟩ := hst i bi hli
        obtain ⟨q1, q2⟩ := hc.apart i b0 gi k h2 hgi hk
        refine ⟨?_, q2⟩
        cases hJk : J k with
        | none => rfl
        | some o =>
          rcases hJo k o hJk with h | ⟨h, _⟩
          · rw [q1] at h; cases h
          · exact absurd (hc.inj i id b0 _ gi g k h2 hlive hgi hg hk h) h1
      inj := fun i j bi bj gi gj k hi hj hgi hgj hki hkj => by
        obtain ⟨_, b1, h1, rfl⟩ := hst i bi hi
        obtain ⟨_, b2, h2, rfl⟩ := hst j bj hj
        exact hc.inj i j b1 b2 gi gj k h1 h2 hgi hgj hki hkj
      nodup := hc.nodup
      idsFree := hc.idsFree
      size := hc.size
      env := fun t d hlt => by
        have : ∀ {env : Env}, lk (frzE id es env) t = some d → ∃ d0, lk env t = some d0 ∧ d = frzD id es d0 := by
          intro env
          induction env with
          | nil => intro h; simp [frzE, lk] at h
          | cons p r ih =>
            obtain ⟨s, x⟩ := p
            intro h
            simp only [frzE] at h
            by_cases hs : s = t
            · subst hs; rw [lk_cons_self] at h; cases h; exact ⟨x, lk_cons_self _ _ _, rfl⟩
            · rw [lk_cons_ne _ _ hs] at h; rw [lk_cons_ne _ _ hs]; exact ih h
        obtain ⟨d0, h1, rfl⟩ := this hlt
        exact (hc.env t d0 h1).frz hJ hg hJr
      defers := hc.defers }
  refine (h b cs J μ a w items hd hc').mono fun e' a' w' hp => hp.back (.refl _ _) ?_
  exact { imm := hJ, os := rfl, tape := rfl, output := rfl, size := Nat.le_refl _, block := fun _ _ _ => rfl,
          fresh := fun k _ ⟨i, bi, gi, h1, h2, h3⟩ => let ⟨_, b0, q, _⟩ := hst i bi h1; ⟨i, b0, gi, q, h2, h3⟩
          old := fun k _ ho => by
            cases hJk : J k with
            | none =>
              cases hIk : I k with
              | none => rfl
              | some o => rw [hJ k o hIk] at hJk; cases hJk
            | some o =>
              rcases hJo k o hJk with h | ⟨h, _⟩
              · exact h.symm
              · exact absurd ⟨id, _, g, hlive, hg, h⟩ ho }

end
end Go.Hk

/- Calls by contract, as steps. -/
namespace Go.Hk

structure ECall where
  f : FuncId
  das : List D
  ob : List Prop
  dst : Option Nat
  o : Oper
  all : List Oper

/-- A call without a guard: the function and the values that it is given. -/
def ecall (n : Nat) (env : Env) (todo : List DI) : Option ECall :=
  match next1 todo ([], []) with
  | some (all, o, _) => match o.guard, o.op with
    | none, .call { callee := .value (.func f), args := ⟨args⟩, .. } => match evAs True env args, dstOk n o.dst with
      | some (ds, ob), true => some ⟨f, ds, ob, o.dst, o, all⟩
      | _, _ => none
    | none, .call { callee := .value (.tmp t), args := ⟨args⟩, .. } => match lk env t, evAs True env args, dstOk n o.dst with
      | some (.imm (.fn (.func f))), some (ds, ob), true => some ⟨f, ds, ob, o.dst, o, all⟩
      | some (.fn (.func f) df dc), some (ds, ob), true => some ⟨f, df ++ ds ++ dc, ob, o.dst, o, all⟩
      | _, _, _ => none
    | _, _ => none
  | none => none

def sndL : List (Nat × Nat) → List Nat
  | [] => []
  | (_, b) :: r => b :: sndL r
def fstL : List (Nat × Nat) → List Nat
  | [] => []
  | (a, _) :: r => a :: fstL r

def namesB (σ τ1 : List (Nat × Nat)) (das : List D) (st0 : St) (d : D) (st1 : St) (fr : List Nat) : Bool :=
  backOk σ (swapL σ) (nmL das) && backOk σ (swapL σ) (fstL σ) && allIn (sndL σ) (nms st0) && backOk (swapL σ ++ τ1) (σ ++ swapL τ1) (nmD d) && backOk (swapL σ ++ τ1) (σ ++ swapL τ1) (nmSt st1) && allIn (sndL τ1) fr

theorem sndL_eq : ∀ l : List (Nat × Nat), sndL l = l.map (·.2)
  | [] => rfl
  | (a, b) :: r => by simp [sndL, sndL_eq r]
theorem fstL_eq : ∀ l : List (Nat × Nat), fstL l = l.map (·.1)
  | [] => rfl
  | (a, b) :: r => by simp [fstL, fstL_eq r]

section
variable {P : Program} {n : Nat} {F : List Nat} {Q : DQ} {tt : TT} {env : Env} {st st0 st1 : St} {ids ids' fr : List Nat} {k todo todo' : List DI} {I : Imm} {μ : Mu} {w : World} {Pn : V → Prop} {d : D} {σ τ1 : List (Nat × Nat)} {das : List D}

theorem namesB_ok (h : namesB σ τ1 das st0 d st1 fr = true) : NamesOk σ τ1 das st0 d st1 fr := by
  simp only [namesB, Bool.and_eq_true] at h
  obtain ⟨⟨⟨⟨⟨h1, h2⟩, h3⟩, h4⟩, h5⟩, h6⟩ := h
  exact ⟨h1, by rw [← fstL_eq]; exact h2, fun p hp => allIn_spec h3 _ (by rw [sndL_eq]; exact List.mem_map_of_mem hp), h4, h5, fun p hp => allIn_spec h6 _ (by rw [sndL_eq]; exact List.mem_map_of_mem hp)⟩

theorem blksOk_agree (hag : Agree (fstL σ) st st1) : ∀ {st0 : St}, blksOk σ st st0 → blksOk σ st1 st0
  | [], _ => trivial
  | (i, none) :: _, h => h.elim
  | (i, some b) :: r, h => by
    refine ⟨?_, blksOk_agree hag h.2⟩
    have h1 := h.1
    cases ha : lk (swapL σ) i with
    | none => simp [ha] at h1
    | some a =>
      simp only [ha] at h1 ⊢
      refine ⟨h1.1, ?_⟩
      have hm : a ∈ fstL σ := by rw [fstL_eq]; exact List.mem_map.2 ⟨(a, i), lk_swap_mem ha, rfl⟩
      rw [hag a hm]
      exact h1.2

theorem ld_call {all : List Oper} {o : Oper} {f : FuncId} (hg : o.guard = none) (hc : CallsAs P o env f das True) (hE : EffC P f (renL (look σ) das) st0 (.ret d st1)) (hb : blksOk σ st st0) (hn : namesB σ τ1 das st0 d st1 fr = true) :
    LD P Pn all o env st (fstL σ) fr (renSt (swapL σ ++ τ1) st1 ++ delSt (fstL σ)) (renD (look (swapL σ ++ τ1)) d) := by
  intro I μ st2 ids1 a w hag hst hon
  refine ⟨fun _ => ?_, fun hw => by rw [wanted_none hg] at hw; cases hw⟩
  obtain ⟨xs, h1, h2⟩ := hc I μ a w (opsOn_of hon) trivial
  have hb' := blksOk_agree hag hb
  have hN := namesB_ok hn
  obtain ⟨q1, q2, q3⟩ := call_given hst hb' hN.args h1
  rw [h2]
  refine (hE I _ w xs q1 q2).mono (fun u w' hu => ?_) (fun _ _ h => h.elim)
  obtain ⟨I', μ', r1, r2, r3, r4⟩ := hu
  obtain ⟨ν, s1, s2, s3, s4⟩ := call_left hst hb' hN r1 r2 r3 r4 q3
  rw [← fstL_eq] at s1 s4
  exact ⟨I', ν, s1, s2, s3, s4⟩

theorem ecall_as {c : ECall} (h : ecall n env todo = some c) (hob : allP c.ob) : (∀ f, ∃ todo', next1 todo f = some (c.all, c.o, todo')) ∧ c.o.guard = none ∧ CallsAs P c.o env c.f c.das True ∧ dstOk n c.dst = true ∧ (∀ x, c.o.op ≠ .defer x) ∧ c.dst = c.o.dst := by
  unfold ecall at h
  have hnext : ∀ {all : List Oper} {o : Oper} {t : List DI}, next1 todo ([], []) = some (all, o, t) → ∀ f, ∃ todo', next1 todo f = some (all, o, todo') := by
    intro all o t h f
    rcases next1_ops h with ⟨r, k, rfl, _⟩ | ⟨r, fs, k, rfl, _⟩
    · exact ⟨_, rfl⟩
    · exact ⟨_, rfl⟩
  split at h
  · rename_i all o t h1
    split at h
    · rename_i f args ts hg ho
      split at h
      · rename_i ds ob ha hd
        cases h
        exact ⟨hnext h1, hg, callsAs_static ho ha hob, hd, (fun x hx => by rw [ho] at hx; cases hx), rfl⟩
      · cases h
    · rename_i t' args ts hg ho
      split at h
      · rename_i f ds ob ht ha hd
        cases h
        exact ⟨hnext h1, hg, callsAs_closure ho ht ha hob, hd, (fun x hx => by rw [ho] at hx; cases hx), rfl⟩
      · rename_i f df dc ds ob ht ha hd
        cases h
        exact ⟨hnext h1, hg, callsAs_value ho ht ha hob, hd, (fun x hx => by rw [ho] at hx; cases hx), rfl⟩
      · cases h
    · cases h
  · cases h

theorem renSt_names {τ : List (Nat × Nat)} : ∀ s : St, (renSt τ s).map (·.1) = (nms s).map (look τ)
  | [] => rfl
  | (i, some b) :: r => by simp [renSt, nms, renSt_names r]
  | (i, none) :: r => by simp [renSt, nms, renSt_names r]

/-- A call by contract. 'σ': the caller's names and the contract's; 'τ1': the contract's new names and the caller's for them. -/
theorem g_call {c : ECall} (σ τ1 : List (Nat × Nat)) {fr : List Nat} {nm : List Nat} (h : ecall n env todo = some c) (hob : allP c.ob) (hE : EffC P c.f (renL (look σ) c.das) st0 (.ret d st1)) (hb : blksOk σ st st0)
    (hn : namesB σ τ1 c.das st0 d st1 fr = true) (hnm : (renSt (swapL σ ++ τ1) st1 ++ delSt (fstL σ)).map (·.1) = nm) (h1 : next1 todo (fstL σ, nm) = some (c.all, c.o, todo')) (hids : ids = fr ++ ids')
    (hk : G P n F Q todo' (putE c.dst (renD (look (swapL σ ++ τ1)) d) env) (renSt (swapL σ ++ τ1) st1 ++ delSt (fstL σ) ++ st) ids') : G P n F Q todo env st ids := by
  obtain ⟨_, q2, q3, q4, q5, q6⟩ := ecall_as (P := P) h hob
  subst hids
  rw [q6] at q4 hk
  subst hnm
  exact g_step h1 (ld_call q2 q3 hE hb hn) q4 q5 hk

/-- A call that surely panics, in a region whose order is not drawn. -/
theorem dgo_callpan {c : ECall} {x : V} {all rest : List Oper} {o : Oper} (σ : List (Nat × Nat)) (h : ecall n env (.ops all (o :: rest) :: k) = some c) (hob : allP c.ob) (hE : EffC P c.f (renL (look σ) c.das) st0 (.pan x)) (hb : blksOk σ st st0)
    (hn : backOk σ (swapL σ) (nmL c.das) = true) (hq : panQ Q x) : DGo P n F Q (.ops all (o :: rest) :: k) env st ids := by
  obtain ⟨q1, q2, q3, q4, q5, _⟩ := ecall_as (P := P) h hob
  obtain ⟨t, ht⟩ := q1 ([], [])
  simp only [next1, Option.some.injEq, Prod.mk.injEq] at ht
  obtain ⟨_, ho, _⟩ := ht
  subst ho
  intro b cs I μ a w items hd hc
  obtain ⟨j, is, rfl, hr, hk⟩ := den_ops hd
  obtain ⟨hj, _⟩ := get_of_drop hr
  have hon : EnvOn (c.o.looksAt all.toArray) I μ env a := fun t _ d hl => hc.env t d hl
  have hlen : (c.o :: rest).length = rest.length + 1 := rfl
  rw [hlen, List.range'_succ]
  refine reach_op hj (wanted_none q2) q5 ?_
  obtain ⟨xs, h1, h2⟩ := q3 I μ a w (opsOn_of hon) trivial
  obtain ⟨p1, p2, p3⟩ := call_given hc.toStRep hb hn h1
  rw [h2]
  refine valX.upon ((hE I _ w xs p1 p2).mono (fun _ _ h => h.elim) fun chain w' hp => ?_)
  obtain ⟨v, y, I', r1, r2, r3, r4, r5⟩ := hp
  subst r2
  refine ⟨.panic y, [], [], [], I', μ, ⟨v, r1, r3⟩, hq, conc_nil r4 hc.size hc.defers, .refl _ _, ?_⟩
  exact { imm := r5.imm, os := r5.os, tape := r5.tape, output := r5.output, size := r5.size, block := fun b hb ho => r5.block b hb (fun h => ho (p3 b h)), fresh := fun b hb ⟨i, bi, g, h1, _⟩ => by simp [live, lk] at h1, old := fun b hb ho => r5.old b hb (fun h => ho (p3 b h)) }

end
end Go.Hk

/- From a function that returns true and changes nothing that was there to a law's row. -/
namespace Go.Hk
open Go.RowKit Go.WideShapes Go.ChangeShapes

theorem Ext.below {I I' : Imm} {μ μ' : Mu} {w w' : World} {st' : St} (h : Ext I μ [] w I' μ' st' w') : Below w.heap.size w w' :=
  ⟨h.os, h.tape, h.output, h.size, fun k hk => h.block k hk (by rintro ⟨id, blk, g, hl, _⟩; cases hl)⟩

/-- What a law's row asks behind the call, where all that was there is as it was. -/
theorem law_post {H : Type} {enc : TypeId × Value → H} {P : Program} {f : Func} {s : ChangeSpec} {apart fresh handsOn again : Bool} {W W' : World} {args : Array Value} {v : Value} {ds gs : List (DataW H)} {before pa pv : List MemPlace}
    (hW : DataW.Whole enc P f.params.toList s.vars apart W args.toList ds gs before) (hb : Below W.heap.size W W') (hps : before = pa ++ pv)
    (hres : ∀ (b : Nat) (sp : Nat → Bool) (hd : Bool), DataW.TrodAll enc P W' b sp hd f.resultTypes.toList (v.resultList f.resultTypes.size) (s.fn H (ds ++ gs)).results [])
    (hargs : ∀ sp : Nat → Bool, (∀ p ∈ before, sp p.block = true) → DataW.TrodAll enc P W' 0 sp true f.params.toList args.toList (s.fn H (ds ++ gs)).args pa)
    (hvars : ∀ sp : Nat → Bool, (∀ p ∈ before, sp p.block = true) → DataW.TrodVars enc P W' sp s.vars (s.fn H (ds ++ gs)).vars pv)
    (hok : ∀ (j : Nat) (t : TypeId) (r : Value), f.resultTypes[j]? = some t → (v.resultList f.resultTypes.size)[j]? = some r → Value.okWide P W' .any 0 t r) :
    s.post enc P f apart fresh handsOn again W args v W' := by
  have lt : ∀ p ∈ before, decide (p.block < W.heap.size) = true := fun p hp => by simpa using hW.lt p hp
  refine ⟨ds, gs, before, [], pa, pv, hW, hres _ _ _, hargs (fun b => decide (b < W.heap.size)) lt, hvars (fun b => decide (b < W.heap.size)) lt, World.keptBut_mono (fun p hp => ⟨hp, .inr ?_⟩) (hb.frame (· ∈ before)), fun _ => ⟨hok, ?_⟩⟩
  · rw [hps] at hp; exact List.mem_append.1 hp
  · have hlt := hW.lt
    obtain ⟨_, _, _, _, _, hz, hn⟩ := hW
    refine ⟨(s.fn H (ds ++ gs)).results ++ (s.fn H (ds ++ gs)).args, (s.fn H (ds ++ gs)).vars, pa ++ pv, ⟨pa, pv, ?_, hvars _ (fun _ _ => rfl), rfl, fun b off hp => ?_, fun ha => ?_⟩, fun p hp _ => by rw [hps]; exact hp⟩
    · have := trodAll_append (hargs (fun _ => true) fun _ _ => rfl) (hres 0 (fun _ => true) true)
      simpa using this
    · have hin : MemPlace.cell b off ∈ before := by rw [hps]; exact hp
      rw [hb.frozen (hlt _ hin)]
      exact hz b off hin
    · rw [← hps]; exact hn ha

end Go.Hk

namespace Go.Proofs.YtmbfpjbnckfjhaaGreat.coverKnown
open Go.ChangeShapes Go.WideShapes Go.ChangeAt Go.RowKit
set_option linter.unusedVariables false      -- a walk need not use every 'w<i>' (that an integer argument fits its kind)

theorem own : ownKnob Tryz.prog.godebug = none := by kernel_rfl

set_option maxRecDepth 100000 in
theorem known_grown (w : World) : Calls Tryz.prog 4 #[] w fun e w' => e = .returned (.bool true) ∧ Below w.heap.size w w' := by
  have h := Go.Gx.Ck.known_pure (fun _ => none) (fun _ => none) w #[] { imm := fun b o h => (by cases h), blk := fun id blk hl => (by cases hl), apart := fun id blk g b hl => (by cases hl), inj := fun i j bi bj gi gj b hl => (by cases hl), nodup := .nil, idsFree := fun id hi => (by cases hi) } ⟨rfl, fun i v d h => by simp at h⟩
  rw [Go.Hk.run_callFunc_body Tryz.func4 (by decide +kernel) rfl] at h
  refine Calls.mono h fun e w' he => ?_
  cases e with
  | returned v =>
    obtain ⟨I', μ', h1, _, _, h4⟩ := he
    cases h1 with
    | imm v x hx =>
      cases hx
      exact ⟨rfl, h4.below⟩
  | panicked => exact he.elim
  | outgrown => exact he.elim

/-! ### STEP 1: THE WALK: the Go text returns true. 'Grown w w'': the world has at most new blocks (Derived/RowKit3.lean). Part the cases AHEAD of 'go_enter' where a test parts the walk; take each callee by a contract of your own. -/
theorem walk  (w : World) :
    Calls Tryz.prog 3 #[] w fun e w' => e = .returned (.bool true) ∧ Below w.heap.size w w' := by
  go_enter Tryz.func3, Tryz.ntmps3
  go_wp2_with (go_at_call 4; refine (known_grown _).mono ?_; rintro e w' ⟨rfl, hg⟩)
  go_ret
  exact ⟨rfl, hg⟩

/-! ### THE ROW's STEP: WRITTEN OUT: LEAVE IT -/
set_option maxRecDepth 100000 in
theorem lifted (os : Os) (started : os.Started) (H : Type) (enc : TypeId × Value → H) :
    ReturnsInHanded {} Tryz.checked os 3 .any (Rows.coverKnownSpec.pre6 enc Tryz.prog Tryz.f3 Rows.coverKnownRow.domain false) (Rows.coverKnownSpec.post enc Tryz.prog Tryz.f3 false true false false) := by
  refine returnsInHanded_of_change (C := Tryz.checked) own started (by kernel_rfl) Tryz.func3
    (ChangeSpec.witness6 (enc := enc) (C := Tryz.checked) false ⟨#[], #[], []⟩ 8 (by kernel_rfl) (by kernel_rfl) (by kernel_rfl) (by kernel_rfl)) ?_
  intro W base args ds gs before hval0 hW hcnd _
  have hval : ∀ (j : Nat) t v, Tryz.f3.params[j]? = some t → args[j]? = some v → Value.okWide Tryz.prog W .any base t v := hval0
  have hW' := hW
  obtain ⟨p, q, hA0, hV, rfl, hfz, hnd⟩ := hW
  have hA : DataW.TrodAll enc Tryz.prog W 0 (fun _ => true) true Tryz.f3.params.toList args.toList ds p := hA0
  rw [Tryz.params3] at hA hval
  obtain ⟨rfl, rfl, rfl⟩ := trodAll_none hA
  obtain ⟨rfl, rfl⟩ := trodVars_none hV
  clear hA0 hval0
  simp only [List.append_nil] at hW'
  refine (walk  W).mono fun e W' ⟨he, hg⟩ => ?_
  subst he
  exact ⟨_, rfl, Go.Hk.law_post (pa := []) (pv := []) hW' hg rfl (fun _ _ _ => (trodAll_cons_mk (shut_bool Tryz.underlying4 _) trodAll_mk0)) (fun sp _ => rfl) (fun _ _ => rfl)
    (ok_one (by kernel_rfl) rfl (okWide_bool_mk Tryz.underlying4 _))⟩

theorem over : Rows.coverKnownRow.holds Tryz.pinned (OpenSpec.ofChange Rows.coverKnownSpec) :=
  OpenClaim.holds_of_wide 3 Tryz.f3 rfl rfl rfl rfl rfl rfl rfl ⟨rfl, rfl, rfl, rfl, rfl⟩ rfl rfl rfl rfl rfl (by kernel_rfl) Tryz.func3 (by kernel_rfl)
    (of_decide_eq_true (by kernel_rfl)) (by unfold Func.isWrapper; first | (rw [if_pos (by decide +kernel)]; kernel_rfl) | (rw [if_neg (by decide +kernel)]; exact ⟨rfl, rfl⟩))
    (fun os started H enc _ => lifted os started H enc)

/-- ████ THE STATEMENT ████ -/
theorem proved : Rows.CoverKnownSaid :=
  over
end Go.Proofs.YtmbfpjbnckfjhaaGreat.coverKnown
