/- A function that does something and tells whether it gave up: the walks of term.holds and of what it defers. (And what it stands on.) -/
import Derived.Test.YtmbfpjbnckfjhaaGreatProg
import Derived.Test.YtmbfpjbnckfjhaaGreatWd
import Derived.WalkKit
import Derived.RowKit3
import Derived.Laws.NewBlocks
import Derived.Defers
import Derived.Recover

namespace Go.Gx.Ck
open Go.Proofs

theorem hmf : ∀ (fn : Fn) (first cap : Array Value) (w : World), (Instr.makeFunc fn first cap).run Tryz.prog w = .ok (.func fn first cap) w := fun _ _ _ _ => rfl

/-- What is deferred, where nothing was given up with. -/
theorem hcatch_idle (p : Addr) (w : World) :
    CallsD Tryz.prog 121 #[.pointer (some p)] .returning w fun e u' w' => e = .returned (.tuple #[]) ∧ u' = .returning ∧ w' = w := by
  refine callsD_of_wpS Tryz.func121 rfl fun c₀ cs hu => ?_
  apply wpS_seq
  apply wpS_region
  simp [wpOpsS, go_sem, recoverD, hu, Tryz.ntmps121, Exit.thenS]
  apply wpS_seq
  apply wpS_region
  simp [wpOpsS, go_sem, Exit.thenS]
  refine wpS_cond (t := false) (by simp [Act.eval, Array.replicate]) ?_
  simp only [if_false, Bool.false_eq_true]
  refine wpS_of_wp (wp_skip ?_)
  cases c₀
  simp_all [bodyPostS, results, Tryz.results121]

set_option maxRecDepth 100000 in
/-- What is deferred, where a flaw was given up with. -/
theorem hcatch_flaw (pb : Nat) (x : Value) (w : World) (hpb : pb < w.heap.size) (hx : w.cell? ⟨pb, 0, none⟩ = some x) (hz : w.frozen? ⟨pb, 0, none⟩ = false) :
    CallsD Tryz.prog 121 #[.pointer (some ⟨pb, 0, none⟩)] (.panicking [{ v := .iface 203 (.agg #[]), recovered := false }]) w fun e u' w' => e = .returned (.tuple #[]) ∧
      u' = .panicking [{ v := .iface 203 (.agg #[]), recovered := true }] ∧ w' = (w.setCell ⟨pb, 0, none⟩ (.bool false)).alloc (.cells #[] 203) := by
  refine callsD_of_wpS Tryz.func121 rfl fun c₀ cs hu => ?_
  change Code.wpS _ _ _ { tmps := #[.pointer (some ⟨pb, 0, none⟩), undef, undef, undef, undef, undef, undef, undef, undef, undef, undef, undef, undef, undef, undef], defers := [] } _ _
  apply wpS_seq
  apply wpS_region
  simp [wpOpsS, go_sem, recoverD, hu, Tryz.ntmps121, Exit.thenS]
  apply wpS_seq
  apply wpS_region
  simp [wpOpsS, go_sem, Exit.thenS]
  refine wpS_cond (t := true) (by simp [Act.eval, Array.replicate]) ?_
  simp only [if_true]
  refine wpS_of_wp ?_
  clear hu
  have hta : ∀ w : World, (Instr.typeAssert (.iface 203 (.agg #[])) 20 203 true).run Tryz.prog w = .ok (.tuple #[.agg #[], .bool true]) w := fun _ => by kernel_rfl
  have hx' : (w.alloc (.cells #[] 203)).cell? ⟨pb, 0, none⟩ = some x := by rw [World.cell?_alloc_past _ _ _ hpb]; exact hx
  have hz' : (w.alloc (.cells #[] 203)).frozen? ⟨pb, 0, none⟩ = false := by rw [RowKit.frozen?_alloc_cells]; exact hz
  go_wp2
  simp [bodyPostS, results, Tryz.results121]

set_option maxRecDepth 100000 in
theorem holds_calls (g : FuncId) (fi ca : Array Value) (w : World) (K : World → Prop) (Kp : World → Prop)
    (hen : (callFunc g (fi ++ ca)).run Tryz.prog (w.alloc (.cells #[.bool false] 4)) = .ok (.enter g (fi ++ ca)) (w.alloc (.cells #[.bool false] 4)))
    (hcall : Calls Tryz.prog g (fi ++ ca) (w.alloc (.cells #[.bool false] 4)) fun e w' => match e with
      | .returned _ => K w'
      | .panicked chain => chain = [{ v := .iface 203 (.agg #[]), recovered := false }] ∧ Kp w'
      | .outgrown => False)
    (hK : ∀ w', K w' → w'.heap[w.heap.size]? = some (.cells #[.bool false] 4 (0, 0))) (hKp : ∀ w', Kp w' → w'.heap[w.heap.size]? = some (.cells #[.bool false] 4 (0, 0))) :
    Calls Tryz.prog 101 #[.func (.func g) fi ca] w fun e w' => (e = .returned (.bool true) ∧ ∃ w1, K w1 ∧ w' = w1.setCell ⟨w.heap.size, 0, none⟩ (.bool true)) ∨
      (e = .returned (.bool false) ∧ ∃ w1, Kp w1 ∧ w' = (w1.setCell ⟨w.heap.size, 0, none⟩ (.bool false)).alloc (.cells #[] 203)) := by
  go_enter_defers Tryz.func101, Tryz.ntmps101
  have hmf := hmf
  go_wp2_with fail
  clear hen
  refine hcall.mono ?_
  intro e w' he
  cases e with
  | outgrown => exact he.elim
  | returned v =>
    have hc : w'.cell? ⟨w.heap.size, 0, none⟩ = some (.bool false) := by unfold World.cell?; simp [hK w' he]
    have hz : w'.frozen? ⟨w.heap.size, 0, none⟩ = false := by unfold World.frozen?; simp [hK w' he]
    simp only
    go_wp2
    refine leaves_cons (f := 121) (args := #[.pointer (some ⟨w.heap.size, 0, none⟩)]) (by simp) (by simp [go_sem]) ?_
    refine (hcatch_idle ⟨w.heap.size, 0, none⟩ _).mono ?_
    rintro e u' w'' ⟨rfl, rfl, rfl⟩
    simp [Leaves, settle, results, Tryz.results101, go_sem, hc]
    exact ⟨w', he, rfl⟩
  | panicked chain =>
    obtain ⟨rfl, he⟩ := he
    have hc : w'.cell? ⟨w.heap.size, 0, none⟩ = some (.bool false) := by unfold World.cell?; simp [hKp w' he]
    have hz : w'.frozen? ⟨w.heap.size, 0, none⟩ = false := by unfold World.frozen?; simp [hKp w' he]
    have hlt : w.heap.size < w'.heap.size := (Array.getElem?_eq_some_iff.1 (hKp w' he)).1
    refine leaves_cons (f := 121) (args := #[.pointer (some ⟨w.heap.size, 0, none⟩)]) (by simp) (by simp [go_sem]) ?_
    refine (hcatch_flaw w.heap.size _ _ hlt hc hz).mono ?_
    rintro e u' w'' ⟨rfl, rfl, rfl⟩
    have hc2 : ((w'.setCell ⟨w.heap.size, 0, none⟩ (.bool false)).alloc (.cells #[] 203)).cell? ⟨w.heap.size, 0, none⟩ = some (.bool false) := by
      rw [setCell_block (hKp w' he), World.cell?_alloc_past _ _ _ (by simpa using hlt)]
      unfold World.cell?
      simp [hlt]
    simp [Leaves, settle, results, Tryz.results101, go_sem, hc2]
    exact ⟨w', he, rfl⟩

theorem hold_ok : HoldOk Tryz.prog 101 203 :=
  hold_of Tryz.func101 (by decide +kernel) rfl (tb := 4) fun g fi ca w K Kp h1 h2 h3 h4 => holds_calls g fi ca w K Kp h1 h2 h3 h4

end Go.Gx.Ck
