/- The ghost machine: its word for operations that change nothing is sound. (And what it stands on.) -/
import Derived.Test.YtkkdjkidlgnagaaProg
import Derived.Test.YtkkdjkidlgnagaaWb
import Derived.WalkKit
import Derived.RowKit3
import Derived.Laws.NewBlocks
import Derived.Defers
import Derived.Recover
import Derived.AtR
import Derived.Orders
import Derived.KernelRfl
import Derived.Laws.AppendOwn
import Derived.Test.YtkkdjkidlgnagaaWa
import Derived.Laws.StructEq
set_option linter.unusedSimpArgs false
set_option linter.unusedVariables false

/- A function that does something and tells whether it gave up: the walks of term.holds and of what it defers. -/
namespace Go.Hk
open Go.Proofs

theorem hmf : ∀ (fn : Fn) (first cap : Array Value) (w : World), (Instr.makeFunc fn first cap).run Try.prog w = .ok (.func fn first cap) w := fun _ _ _ _ => rfl

/-- What is deferred, where nothing was given up with. -/
theorem hcatch_idle (p : Addr) (w : World) :
    CallsD Try.prog 73 #[.pointer (some p)] .returning w fun e u' w' => e = .returned (.tuple #[]) ∧ u' = .returning ∧ w' = w := by
  refine callsD_of_wpS Try.func73 rfl fun c₀ cs hu => ?_
  apply wpS_seq
  apply wpS_region
  simp [wpOpsS, go_sem, recoverD, hu, Try.ntmps73, Exit.thenS]
  apply wpS_seq
  apply wpS_region
  simp [wpOpsS, go_sem, Exit.thenS]
  refine wpS_cond (t := false) (by simp [Act.eval, Array.replicate]) ?_
  simp only [if_false, Bool.false_eq_true]
  refine wpS_of_wp (wp_skip ?_)
  cases c₀
  simp_all [bodyPostS, results, Try.results73]

set_option maxRecDepth 100000 in
/-- What is deferred, where a flaw was given up with. -/
theorem hcatch_flaw (pb : Nat) (x : Value) (w : World) (hpb : pb < w.heap.size) (hx : w.cell? ⟨pb, 0, none⟩ = some x) (hz : w.frozen? ⟨pb, 0, none⟩ = false) :
    CallsD Try.prog 73 #[.pointer (some ⟨pb, 0, none⟩)] (.panicking [{ v := .iface 120 (.agg #[]), recovered := false }]) w fun e u' w' => e = .returned (.tuple #[]) ∧
      u' = .panicking [{ v := .iface 120 (.agg #[]), recovered := true }] ∧ w' = (w.setCell ⟨pb, 0, none⟩ (.bool false)).alloc (.cells #[] 120) := by
  refine callsD_of_wpS Try.func73 rfl fun c₀ cs hu => ?_
  change Code.wpS _ _ _ { tmps := #[.pointer (some ⟨pb, 0, none⟩), undef, undef, undef, undef, undef, undef, undef, undef, undef, undef, undef, undef, undef, undef], defers := [] } _ _
  apply wpS_seq
  apply wpS_region
  simp [wpOpsS, go_sem, recoverD, hu, Try.ntmps73, Exit.thenS]
  apply wpS_seq
  apply wpS_region
  simp [wpOpsS, go_sem, Exit.thenS]
  refine wpS_cond (t := true) (by simp [Act.eval, Array.replicate]) ?_
  simp only [if_true]
  refine wpS_of_wp ?_
  clear hu
  have hta : ∀ w : World, (Instr.typeAssert (.iface 120 (.agg #[])) 20 120 true).run Try.prog w = .ok (.tuple #[.agg #[], .bool true]) w := fun _ => by kernel_rfl
  have hx' : (w.alloc (.cells #[] 120)).cell? ⟨pb, 0, none⟩ = some x := by rw [World.cell?_alloc_past _ _ _ hpb]; exact hx
  have hz' : (w.alloc (.cells #[] 120)).frozen? ⟨pb, 0, none⟩ = false := by rw [RowKit.frozen?_alloc_cells]; exact hz
  go_wp2
  simp [bodyPostS, results, Try.results73]

set_option maxRecDepth 100000 in
theorem holds_calls (g : FuncId) (fi ca : Array Value) (w : World) (K : World → Prop) (Kp : World → Prop)
    (hen : (callFunc g (fi ++ ca)).run Try.prog (w.alloc (.cells #[.bool false] 4)) = .ok (.enter g (fi ++ ca)) (w.alloc (.cells #[.bool false] 4)))
    (hcall : Calls Try.prog g (fi ++ ca) (w.alloc (.cells #[.bool false] 4)) fun e w' => match e with
      | .returned _ => K w'
      | .panicked chain => chain = [{ v := .iface 120 (.agg #[]), recovered := false }] ∧ Kp w'
      | .outgrown => False)
    (hK : ∀ w', K w' → w'.heap[w.heap.size]? = some (.cells #[.bool false] 4 (0, 0))) (hKp : ∀ w', Kp w' → w'.heap[w.heap.size]? = some (.cells #[.bool false] 4 (0, 0))) :
    Calls Try.prog 64 #[.func (.func g) fi ca] w fun e w' => (e = .returned (.bool true) ∧ ∃ w1, K w1 ∧ w' = w1.setCell ⟨w.heap.size, 0, none⟩ (.bool true)) ∨
      (e = .returned (.bool false) ∧ ∃ w1, Kp w1 ∧ w' = (w1.setCell ⟨w.heap.size, 0, none⟩ (.bool false)).alloc (.cells #[] 120)) := by
  go_enter_defers Try.func64, Try.ntmps64
  have hmf := hmf
  go_wp2_with fail
  clear hen
  refine hcall.mono ?_
  intro e w' he
  cases e with
  | outgrown => exact he.elim
  | returned v =>
    have hc : w'.cell? ⟨w.heap.size, 0, none⟩ = some (.bool false) := by unfold World.cell?; simp [hK w' he]
    have hz : w'.frozen? ⟨w.heap.size, 0, none⟩ = false := by unfold World.frozen?; simp [hK w' he]
    simp only
    go_wp2
    refine leaves_cons (f := 73) (args := #[.pointer (some ⟨w.heap.size, 0, none⟩)]) (by simp) (by simp [go_sem]) ?_
    refine (hcatch_idle ⟨w.heap.size, 0, none⟩ _).mono ?_
    rintro e u' w'' ⟨rfl, rfl, rfl⟩
    simp [Leaves, settle, results, Try.results64, go_sem, hc]
    exact ⟨w', he, rfl⟩
  | panicked chain =>
    obtain ⟨rfl, he⟩ := he
    have hc : w'.cell? ⟨w.heap.size, 0, none⟩ = some (.bool false) := by unfold World.cell?; simp [hKp w' he]
    have hz : w'.frozen? ⟨w.heap.size, 0, none⟩ = false := by unfold World.frozen?; simp [hKp w' he]
    have hlt : w.heap.size < w'.heap.size := (Array.getElem?_eq_some_iff.1 (hKp w' he)).1
    refine leaves_cons (f := 73) (args := #[.pointer (some ⟨w.heap.size, 0, none⟩)]) (by simp) (by simp [go_sem]) ?_
    refine (hcatch_flaw w.heap.size _ _ hlt hc hz).mono ?_
    rintro e u' w'' ⟨rfl, rfl, rfl⟩
    have hc2 : ((w'.setCell ⟨w.heap.size, 0, none⟩ (.bool false)).alloc (.cells #[] 120)).cell? ⟨w.heap.size, 0, none⟩ = some (.bool false) := by
      rw [setCell_block (hKp w' he), World.cell?_alloc_past _ _ _ (by simpa using hlt)]
      unfold World.cell?
      simp [hlt]
    simp [Leaves, settle, results, Try.results64, go_sem, hc2]
    exact ⟨w', he, rfl⟩

theorem holds_spec : HoldsSpec Try.prog 64 120 4 := fun g fi ca w K Kp h1 h2 h3 h4 => holds_calls g fi ca w K Kp h1 h2 h3 h4

end Go.Hk

/- Contracts of term: types that are formed. -/
namespace Go.Hk
open Go.Proofs


set_option maxRecDepth 100000 in
theorem checked1_yes {g : FuncId} {fg : Func} {cg : Code} (hg : Try.prog.funcs[g]? = some fg) (hn : (fg.name == "runtime.NumGoroutine") = false) (hc : fg.body = some cg) {t1 : TypeId} {s1 : Nat} {x1 y1 : List V} (hE : EffC Try.prog g [.ref 1 0] [(1, some (.immb t1 s1 x1))] (.ret unitV [(1, some (.immb t1 s1 y1))])) :
    EffC Try.prog 43 [.fn (.func g) [] [.ref 1 0]] [(1, some (.immb t1 s1 x1))] (.ret (.imm (.int .i64 0)) [(1, some (.immb t1 s1 y1))]) := by
  refine effc_of ttT_ok Try.func43 (by decide +kernel) rfl [2, 3, 4] rfl rfl ?_
  refine tg [] rfl (by simp) ?_
  refine g_call (fr := []) [(1, 1)] [] rfl (by simp) (holds_yes Try.func64 (by decide +kernel) rfl holds_spec hg hn hc hE) ⟨⟨rfl, rfl, rfl⟩, trivial⟩ rfl rfl rfl rfl ?_
  refine tg [.a] rfl (by simp) ?_
  exact dgo_ret ⟨_, rfl, tV rfl, ⟨rfl, trivial⟩⟩

set_option maxRecDepth 100000 in
theorem checked1_no {g : FuncId} {fg : Func} {cg : Code} (hg : Try.prog.funcs[g]? = some fg) (hn : (fg.name == "runtime.NumGoroutine") = false) (hc : fg.body = some cg) {t1 : TypeId} {s1 : Nat} {x1 : List V} (hE : EffC Try.prog g [.ref 1 0] [(1, some (.immb t1 s1 x1))] (.pan flawV)) :
    EffC Try.prog 43 [.fn (.func g) [] [.ref 1 0]] [(1, some (.immb t1 s1 x1))] (.ret (.imm (.int .i64 2)) []) := by
  refine effc_of ttT_ok Try.func43 (by decide +kernel) rfl [2, 3, 4] rfl rfl ?_
  refine tg [] rfl (by simp) ?_
  refine g_call (fr := []) [(1, 1)] [] rfl (by simp) (holds_no Try.func64 (by decide +kernel) rfl holds_spec hg hn hc hE) ⟨⟨rfl, rfl, rfl⟩, trivial⟩ rfl rfl rfl rfl ?_
  refine tg [.a] rfl (by simp) ?_
  exact dgo_ret ⟨_, rfl, tV rfl, trivial⟩

set_option maxRecDepth 100000 in
theorem checked2_yes {g : FuncId} {fg : Func} {cg : Code} (hg : Try.prog.funcs[g]? = some fg) (hn : (fg.name == "runtime.NumGoroutine") = false) (hc : fg.body = some cg) {t1 t2 : TypeId} {s1 s2 : Nat} {x1 x2 y1 y2 : List V} (hE : EffC Try.prog g [.ref 1 0, .ref 2 0] [(1, some (.immb t1 s1 x1)), (2, some (.immb t2 s2 x2))] (.ret unitV [(1, some (.immb t1 s1 y1)), (2, some (.immb t2 s2 y2))])) :
    EffC Try.prog 43 [.fn (.func g) [] [.ref 1 0, .ref 2 0]] [(1, some (.immb t1 s1 x1)), (2, some (.immb t2 s2 x2))] (.ret (.imm (.int .i64 0)) [(1, some (.immb t1 s1 y1)), (2, some (.immb t2 s2 y2))]) := by
  refine effc_of ttT_ok Try.func43 (by decide +kernel) rfl [3, 4, 5] rfl rfl ?_
  refine tg [] rfl (by simp) ?_
  refine g_call (fr := []) [(1, 1), (2, 2)] [] rfl (by simp) (holds_yes Try.func64 (by decide +kernel) rfl holds_spec hg hn hc hE) ⟨⟨rfl, rfl, rfl⟩, ⟨⟨rfl, rfl, rfl⟩, trivial⟩⟩ rfl rfl rfl rfl ?_
  refine tg [.a] rfl (by simp) ?_
  exact dgo_ret ⟨_, rfl, tV rfl, ⟨rfl, ⟨rfl, trivial⟩⟩⟩

set_option maxRecDepth 100000 in
theorem checked2_no {g : FuncId} {fg : Func} {cg : Code} (hg : Try.prog.funcs[g]? = some fg) (hn : (fg.name == "runtime.NumGoroutine") = false) (hc : fg.body = some cg) {t1 t2 : TypeId} {s1 s2 : Nat} {x1 x2 : List V} (hE : EffC Try.prog g [.ref 1 0, .ref 2 0] [(1, some (.immb t1 s1 x1)), (2, some (.immb t2 s2 x2))] (.pan flawV)) :
    EffC Try.prog 43 [.fn (.func g) [] [.ref 1 0, .ref 2 0]] [(1, some (.immb t1 s1 x1)), (2, some (.immb t2 s2 x2))] (.ret (.imm (.int .i64 2)) []) := by
  refine effc_of ttT_ok Try.func43 (by decide +kernel) rfl [3, 4, 5] rfl rfl ?_
  refine tg [] rfl (by simp) ?_
  refine g_call (fr := []) [(1, 1), (2, 2)] [] rfl (by simp) (holds_no Try.func64 (by decide +kernel) rfl holds_spec hg hn hc hE) ⟨⟨rfl, rfl, rfl⟩, ⟨⟨rfl, rfl, rfl⟩, trivial⟩⟩ rfl rfl rfl rfl ?_
  refine tg [.a] rfl (by simp) ?_
  exact dgo_ret ⟨_, rfl, tV rfl, trivial⟩

def errI (b : Bool) : V := .int .i64 (bif b then 0 else 2)
def formedB (holes : Bool) (t : Ty) : Bool := decide (nodesTy t ≤ 12) && sortsTy holes t


end Go.Hk

/- Maps that are owned: made, looked at, changed. -/
namespace Go.Hk
open Go.MapKept

def eqK : V → V → Bool
  | .str a, .str b => a == b
  | .int _ a, .int _ b => a == b
  | .bool a, .bool b => a == b
  | _, _ => false

def lookM : List (V × V) → V → Option V
  | [], _ => none
  | (k, d) :: r, x => if eqK x k then some d else lookM r x

def setM : List (V × V) → V → V → List (V × V)
  | [], x, d => [(x, d)]
  | (k, e) :: r, x, d => if eqK x k then (x, d) :: r else (k, e) :: setM r x d

def descOf : Sh → Option TypeDesc
  | .str => some .string
  | .int k => some (.int k)
  | _ => none

def keyV : Sh → V → Bool
  | .str, .str _ => true
  | .int k, .int k' _ => decide (k' = k)
  | _, _ => false

section
variable {P : Program} {n : Nat} {F : List Nat} {Q : DQ} {tt : TT} {env env' : Env} {st st' : St} {ids ids' : List Nat} {k todo todo' : List DI} {I : Imm} {μ : Mu} {w : World} {a : Act} {Pn : V → Prop} {d : D} {cx : Prop} {ob : List Prop}

theorem descOf_ok {t : TypeId} {sh : Sh} {dd : TypeDesc} (h : descOf sh = some dd) (hs : ShOk P t sh) : P.underlying t = some dd := by
  cases sh <;> simp only [descOf, reduceCtorEq, Option.some.injEq] at h <;> subst h <;> exact hs

theorem isKey_rep {sh : Sh} {dd : TypeDesc} {v : Value} {x : V} (h : descOf sh = some dd) (hk : keyV sh x = true) (hv : RepV I v x) : IsKey dd v := by
  cases sh <;> simp only [descOf, reduceCtorEq, Option.some.injEq] at h <;> subst h <;> cases x <;> simp [keyV] at hk <;> cases hv <;> simp [IsKey, hk]

theorem eqK_rep {sh : Sh} {v u : Value} {x y : V} (hx : keyV sh x = true) (hy : keyV sh y = true) (hv : RepV I v x) (hu : RepV I u y) : eqK x y = true ↔ v = u := by
  cases x with
  | str a =>
    cases y with
    | str b =>
      obtain ⟨s, rfl, rfl⟩ := hv.strInv
      obtain ⟨t, rfl, rfl⟩ := hu.strInv
      simp only [eqK, beq_iff_eq, Value.string.injEq]
      constructor
      · intro h
        obtain ⟨⟨s⟩⟩ := s
        obtain ⟨⟨t⟩⟩ := t
        simp at h
        rw [h]
      · intro h; rw [h]
    | _ => cases sh <;> simp [keyV] at hx hy
  | int k i =>
    cases y with
    | int k' j =>
      obtain rfl := hv.intInv
      obtain rfl := hu.intInv
      cases sh <;> simp [keyV] at hx hy
      subst hx; subst hy
      simp [eqK]
    | _ => cases sh <;> simp [keyV] at hx hy
  | _ => cases sh <;> simp [keyV] at hx

theorem find_rep {sh : Sh} {dd : TypeDesc} {v : Value} {x : V} (hd : descOf sh = some dd) (hk : keyV sh x = true) (hv : RepV I v x) : ∀ (l : List MapEntry) (kv : List (V × V)) (i : Nat), l.length = kv.length →
    (∀ (j : Nat) (e : MapEntry) (p : V × V), l[j]? = some e → kv[j]? = some p → RepV I e.key p.1 ∧ RepV I e.val p.2) → (∀ p ∈ kv, keyV sh p.1 = true) →
    (Instr.findNow dd v l i = some none ∧ lookM kv x = none ∧ (∀ y, setM kv x y = kv ++ [(x, y)]) ∧ ∀ e ∈ l, e.key ≠ v) ∨
      ∃ j e y, Instr.findNow dd v l i = some (some (i + j, e.val)) ∧ l[j]? = some e ∧ e.key = v ∧ lookM kv x = some y ∧ RepV I e.val y ∧ ∀ z, setM kv x z = kv.set j (x, z)
  | [], [], i, _, _, _ => .inl ⟨rfl, rfl, fun _ => rfl, fun _ h => by cases h⟩
  | [], _ :: _, _, h, _, _ => by simp at h
  | _ :: _, [], _, h, _, _ => by simp at h
  | e :: l, p :: kv, i, hl, h, hkv => by
    obtain ⟨h1, h2⟩ := h 0 e p rfl rfl
    obtain ⟨y, dy⟩ := p
    have hky := hkv (y, dy) (by simp)
    obtain ⟨r, hr, hiff⟩ := sameNow_of_keys (isKey_rep hd hk hv) (isKey_rep hd hky h1)
    have he := eqK_rep hk hky hv h1
    cases r with
    | true =>
      have hvy := hiff.1 rfl
      have := he.2 hvy
      exact .inr ⟨0, e, dy, by simp [Instr.findNow, hr], rfl, hvy.symm, by simp [lookM, this], h2, fun z => by simp [setM, this]⟩
    | false =>
      have hne : v ≠ e.key := fun q => by have := hiff.2 q; cases this
      have hf : eqK x y = false := by
        cases hq : eqK x y with
        | false => rfl
        | true => exact absurd (he.1 hq) hne
      rcases find_rep hd hk hv l kv (i + 1) (by simpa using hl) (fun j e' p' a b => h (j + 1) e' p' (by simpa using a) (by simpa using b)) (fun p' hp => hkv p' (by simp [hp])) with ⟨q1, q2, q3, q4⟩ | ⟨j, e', y', q1, q2, q3, q4, q5, q6⟩
      · refine .inl ⟨by simp [Instr.findNow, hr, q1], by simp [lookM, hf, q2], fun z => by simp [setM, hf, q3], fun e' he' => ?_⟩
        rcases List.mem_cons.1 he' with rfl | he'
        · exact fun q => hne q.symm
        · exact q4 e' he'
      · exact .inr ⟨j + 1, e', y', by simp [Instr.findNow, hr, q1]; omega, by simpa using q2, q3, by simp [lookM, hf, q4], q5, fun z => by simp [setM, hf, q6]⟩

/-- A new map. -/
def pmk (n : Nat) (ids : List Nat) (todo : List DI) : Option (Nat × List Nat × Option Nat × List DI) :=
  match opAt todo, ids with
  | some o, id' :: ids' => match o.guard, o.op with
    | none, .makeMap _ none => match dstOk n o.dst, next1 todo ([], [id']) with
      | true, some (_, _, todo') => some (id', ids', o.dst, todo')
      | _, _ => none
    | _, _ => none
  | _, _ => none

theorem g_mkmap {i0 : Nat} {ids0 : List Nat} {d0 : Option Nat} {todo0 : List DI} (h : pmk n ids todo = some (i0, ids0, d0, todo0)) (hk : G P n F Q todo0 (putE d0 (.mapr i0) env) ((i0, some (.map [])) :: st) ids0) : G P n F Q todo env st ids := by
  unfold pmk at h
  split at h
  · rename_i o id' ids' ho
    split at h
    · rename_i t hg hop
      split at h
      · rename_i all o' todo' hd h1
        cases h
        have ho' : o' = o := opAt_next ho h1
        subst ho'
        refine g_step (fr := [i0]) (wr := [(i0, some (.map []))]) (rd := []) h1 ?_ hd (fun c hc => by rw [hop] at hc; cases hc) hk
        intro I μ st1 ids1 a w hag hst hon
        refine ⟨fun _ => ?_, fun hw => by rw [wanted_none hg] at hw; cases hw⟩
        have hrun : (execOp a.eval o').run P w = .ok (.value (.map (some w.heap.size))) (w.alloc (.map #[] 0)) := by
          simp only [execOp, hop, Option.map_none]
          refine ok_of_sem' ?_
          simp only [Instr.makeMap, Sem.run_bind, Result.andThen_ok, Sem.run_pure, run_newObj]
          rfl
        rw [hrun]
        obtain ⟨μ', q1, q2, q3, q4⟩ := hst.allocO (.map #[] 0) (.map (some w.heap.size)) (fun _ h => Eq.symm h) (.map []) (fun μ' _ => ⟨w.heap.size, #[], 0, rfl, heapNew w _, rfl, stamped_empty 0, fun i e p h => by simp at h⟩)
        exact ⟨I, μ', q3, .mapr _ _ q1, q2, q4⟩
      · cases h
    · cases h
  · cases h

theorem map_run {id : Nat} {kv : List (V × V)} {v : Value} (hst : StRep I μ st ids w) (hl : live st id (.map kv)) (hv : RepD I μ v (.mapr id)) :
    ∃ b es clock, v = .map (some b) ∧ μ id = some v ∧ w.heap[b]? = some (.map es clock) ∧ es.size = kv.length ∧ Stamped es clock ∧ ∀ (i : Nat) (e : MapEntry) (p : V × V), es[i]? = some e → kv[i]? = some p → RepV I e.key p.1 ∧ RepV I e.val p.2 := by
  cases hv with
  | mapr _ b hm =>
    obtain ⟨g, hg, b', es, clock, rfl, h1, h2, h3, h4⟩ := hst.blk id _ hl
    rw [hm] at hg; cases hg
    exact ⟨b, es, clock, rfl, hm, h1, h2, h3, h4⟩

/-- An element of a map is set. -/
def pmset (tt : TT) (env : Env) (st : St) (todo : List DI) : Option (Nat × List (V × V) × Sh × V × V × List DI) :=
  match opAt todo with
  | some o => match o.guard, o.op with
    | none, .mapUpdate t m x y => match o.dst, lk tt t, evO env m, evO env x, evO env y with
      | none, some { sh := .map kt _, .. }, some (.mapr id), some (.imm kx), some dy => match lk tt kt, lk st id, next1 todo ([id], [id]), toV dy with
        | some i, some (some (.map kv)), some (_, _, todo'), some vy => some (id, kv, i.sh, kx, vy, todo')
        | _, _, _, _ => none
      | _, _, _, _, _ => none
    | _, _ => none
  | none => none

theorem g_mset (htt : TTok P tt) {i0 : Nat} {kv : List (V × V)} {sh : Sh} {kx : V} {dy : V} {todo0 : List DI} {dd : TypeDesc} (h : pmset tt env st todo = some (i0, kv, sh, kx, dy, todo0)) (hd : descOf sh = some dd) (hk : keyV sh kx = true)
    (hkv : ∀ p ∈ kv, keyV sh p.1 = true) (hg : G P n F Q todo0 env ((i0, some (.map (setM kv kx dy))) :: st) ids) : G P n F Q todo env st ids := by
  unfold pmset at h
  split at h
  · rename_i o ho
    split at h
    · rename_i t m x y hgd hop
      split at h
      · rename_i kt et _ _ _ _ id kx' dy' hdst ht hm hx hy
        split at h
        · rename_i i kv' all o' todo' vy hi hl h1 hng
          cases h
          have ho' : o' = o := opAt_next ho h1
          subst ho'
          have hg : G P n F Q todo0 (putE o'.dst .undef env) ((i0, some (.map (setM kv kx dy))) :: st) ids := by rw [hdst]; exact hg
          refine g_step (fr := []) (wr := [(i0, some (.map (setM kv kx dy)))]) (rd := [i0]) h1 ?_ (by simp [dstOk, hdst]) (fun c hc => by rw [hop] at hc; cases hc) hg
          intro I μ st1 ids1 a w hag hst hon
          refine ⟨fun _ => ?_, fun hw => by rw [wanted_none hgd] at hw; cases hw⟩
          have hops := opsOn_of hon
          rw [hop] at hops
          have hl1 : live st1 i0 (.map kv) := by unfold live; rw [hag i0 (by simp)]; exact hl
          obtain ⟨b, es, clock, e1, hmu, hheap, hlen, hst2, hent⟩ := map_run hst hl1 (hops m (by simp [Op.operands]) _ hm)
          have rx := (hops x (by simp [Op.operands]) _ hx).immInv
          have ry := toV_rep hng (hops y (by simp [Op.operands]) _ hy)
          have hu : P.underlying t = some (.map kt et) := htt.sh ht
          have hkd : P.underlying kt = some dd := descOf_ok hd (htt.sh hi)
          have hik := isKey_rep hd hk rx
          have hbl := lt_of_heap hheap
          have fin : ∀ (es' : Array MapEntry) (c' : Nat), (Instr.mapUpdate t (.map (some b)) (a.eval x) (a.eval y)).run P w = .ok () { w with heap := w.heap.setIfInBounds b (.map es' c') } → es'.size = (setM kv kx dy).length → Stamped es' c' →
              (∀ (i : Nat) (e : MapEntry) (p : V × V), es'[i]? = some e → (setM kv kx dy)[i]? = some p → RepV I e.key p.1 ∧ RepV I e.val p.2) →
              valX P ((execOp a.eval o').run P w) (fun v w' => ∃ I' μ', StRep I' μ' ([(i0, some (.map (setM kv kx dy)))] ++ st1) ids1 w' ∧ RepD I' μ' v .undef ∧ μ.le μ' ∧ Ext I μ st1 w I' μ' ([(i0, some (.map (setM kv kx dy)))] ++ st1) w') (panK (panQ Q) I μ st1 w) := by
            intro es' c' hr h2 h3 h4
            have hrun : (execOp a.eval o').run P w = .ok .skip { w with heap := w.heap.setIfInBounds b (.map es' c') } := by
              simp only [execOp, hop, e1]
              simp [hr]
            rw [hrun]
            obtain ⟨q1, q2⟩ := hst.update (blk' := .map (setM kv kx dy)) (w' := { w with heap := w.heap.setIfInBounds b (.map es' c') }) hl1 hmu (by rw [e1]; rfl) (by simp) rfl rfl rfl
              (fun k hk => Array.getElem?_setIfInBounds_ne (Ne.symm hk)) ⟨b, es', c', e1, by simp [hbl], h2, h3, h4⟩
            exact ⟨I, μ, q1, .undef _, Mu.le_refl μ, q2⟩
          rcases find_rep (I := I) hd hk rx es.toList kv 0 (by simpa using hlen) (fun j e p h1 h2 => hent j e p (by simpa using h1) h2) hkv with ⟨q1, _, q3, q4⟩ | ⟨j, e, y', q1, q2, q3, _, q5, q6⟩
          · refine fin _ _ ?_ (by rw [q3]; simp [hlen]) (stamped_push hst2 (key := a.eval x) (val := a.eval y) q4) fun i e p h1 h2 => ?_
            · simp [Instr.mapUpdate, run_underlying hu, MapKept.run_getObj_map hheap, MapKept.run_checkKey hkd hik, MapKept.run_findKey hkd q1, MapKept.run_setObj_map _ hheap, Result.andThen]
            · rw [q3] at h2
              rw [Array.getElem?_push] at h1
              rw [List.getElem?_append] at h2
              by_cases hi : i = es.size
              · rw [if_pos hi] at h1; cases h1
                rw [if_neg (by omega)] at h2
                rw [show i - kv.length = 0 by omega] at h2
                cases h2
                exact ⟨rx, ry⟩
              · rw [if_neg hi] at h1
                have := (Array.getElem?_eq_some_iff.1 h1).1
                rw [if_pos (by omega)] at h2
                exact hent i e p h1 h2
          · have hj : es[j]? = some e := by simpa using q2
            have hkey : ∀ e', es[j]? = some e' → ({ e' with key := a.eval x, val := a.eval y } : MapEntry).key = e'.key := fun e' he' => by rw [hj] at he'; cases he'; exact q3.symm
            refine fin (es.modify j fun e => { e with key := a.eval x, val := a.eval y }) clock ?_ (by rw [q6]; simp [hlen]) (stamped_modify hst2 _ _ (fun _ _ => rfl) (fun e' _ he' => hkey e' he')) fun i e' p h1 h2 => ?_
            · simp [Instr.mapUpdate, run_underlying hu, MapKept.run_getObj_map hheap, MapKept.run_checkKey hkd hik, MapKept.run_findKey hkd q1, hj, q3, MapKept.run_keyThatStays hik, MapKept.run_setObj_map _ hheap, Result.andThen]
            · rw [q6] at h2
              rw [Array.getElem?_modify] at h1
              rw [List.getElem?_set] at h2
              by_cases hi : j = i
              · subst hi
                rw [if_pos rfl, hj] at h1
                cases h1
                rw [if_pos rfl] at h2
                split at h2
                · cases h2; exact ⟨rx, ry⟩
                · cases h2
              · rw [if_neg hi] at h1 h2
                exact hent i e' p h1 h2
        · cases h
      · cases h
    · cases h
  · cases h

structure PMl where
  kv : List (V × V)
  sh : Sh
  kx : V
  et : TypeId
  two : Bool
  g : Option (Bool × Bool)
  ob : List Prop
  t : Nat
  todo : List DI

/-- An element of a map is looked up. -/
def pmlook (tt : TT) (n : Nat) (env : Env) (st : St) (nm : Nat) (todo : List DI) : Option PMl :=
  match next1 todo ([nm], []) with
  | some (all, o, todo') => match o.op, guardOf all env o with
    | .lookup t m k two, some g => match lk tt t, useD (cxOf g) env m, useD (cxOf g) env k with
      | some { sh := .map kt et, .. }, some (.mapr id, o1), some (.imm kx, o2) => match Nat.beq id nm, lk tt kt, lk st id, dstOk n o.dst with
        | true, some i, some (some (.map kv)), true => match o.dst with
          | some t => some ⟨kv, i.sh, kx, et, two, g, cat o1 o2, t, todo'⟩
          | none => none
        | _, _, _, _ => none
      | _, _, _ => none
    | _, _ => none
  | none => none

theorem run_zeroValue_of {t : TypeId} {z : Value} (h : (P.info? t).bind (·.zero) = some z) : (zeroValue t).run P w = .ok z w := by
  cases hi : P.info? t with
  | none => rw [hi] at h; cases h
  | some inf =>
    rw [hi] at h
    have h : inf.zero = some z := h
    simp [zeroValue, typeInfo, hi, h]

def lookD (two : Bool) (kv : List (V × V)) (x : V) (zd : V) : D :=
  let r := match lookM kv x with
    | some y => (y, true)
    | none => (zd, false)
  if two then .imm (.tup [r.1, .bool r.2]) else .imm r.1

theorem g_mlook (htt : TTok P tt) (nm : Nat) {kv : List (V × V)} {sh : Sh} {kx : V} {et : TypeId} {two : Bool} {g : Option (Bool × Bool)} {ob : List Prop} {t0 : Nat} {todo0 : List DI} {dd : TypeDesc} {z : Value} {zd : V} {dr : D}
    (h : pmlook tt n env st nm todo = some ⟨kv, sh, kx, et, two, g, ob, t0, todo0⟩) (hd : descOf sh = some dd) (hk : keyV sh kx = true) (hkv : ∀ p ∈ kv, keyV sh p.1 = true) (hob : allP ob)
    (hz : (P.info? et).bind (·.zero) = some z) (hzr : ∀ I, RepV I z zd) (hdr : lookD two kv kx zd = dr) (hg : G P n F Q todo0 ((t0, gD g dr) :: env) st ids) : G P n F Q todo env st ids := by
  unfold pmlook at h
  split at h
  · rename_i all o todo' h1
    split at h
    · rename_i t m k two' g' hop hgd
      split at h
      · rename_i kt et' _ _ _ _ id o1 kx' o2 ht hm hx
        split at h
        · rename_i i kv' hid hi hl hdo
          split at h
          · rename_i t' hdst
            cases h
            have hid := Nat.eq_of_beq_eq_true hid
            subst hid
            subst hdr
            have hg : G P n F Q todo0 (putE o.dst (gD g (lookD two kv kx zd)) env) st ids := by rw [hdst]; exact hg
            refine g_step (fr := []) (wr := []) (rd := [id]) h1 (ld_guarded hgd fun I μ st1 ids1 a w hag hst hops hcx => ?_) hdo (fun c hc => by rw [hop] at hc; cases hc) hg
            rw [hop] at hops
            obtain ⟨ho1, ho2⟩ := allP_app hob
            have rm := useD_rep hm ho1 hcx (hops m (by simp [Op.operands]))
            have rx := (useD_rep hx ho2 hcx (hops k (by simp [Op.operands]))).immInv
            have hl1 : live st1 id (.map kv) := by unfold live; rw [hag id (by simp)]; exact hl
            obtain ⟨b, es, clock, e1, hmu, hheap, hlen, hst2, hent⟩ := map_run hst hl1 rm
            have hu : P.underlying t = some (.map kt et) := htt.sh ht
            have hkd : P.underlying kt = some dd := descOf_ok hd (htt.sh hi)
            have hik := isKey_rep hd hk rx
            have fin : ∀ (v : Value) (ok : Bool) (d : V), (Instr.lookup t (.map (some b)) (a.eval k) two).run P w = .ok (if two then .tuple #[v, .bool ok] else v) w → RepV I v d →
                lookD two kv kx zd = (if two then .imm (.tup [d, .bool ok]) else .imm d) →
                valX P ((execOp a.eval o).run P w) (fun u w' => ∃ I' μ', StRep I' μ' st1 ids1 w' ∧ RepD I' μ' u (lookD two kv kx zd) ∧ μ.le μ' ∧ Ext I μ st1 w I' μ' st1 w') (panK (panQ Q) I μ st1 w) := by
              intro v ok d hr hv he
              have hrun : (execOp a.eval o).run P w = .ok (.value (if two then .tuple #[v, .bool ok] else v)) w := by
                simp only [execOp, hop, e1]
                exact ok_of_sem hr
              rw [hrun]
              refine ⟨I, μ, hst, ?_, Mu.le_refl μ, Ext.refl _ _ _ _⟩
              rw [he]
              cases two with
              | false => exact .imm _ _ hv
              | true =>
                refine .imm _ _ (.tup _ _ rfl fun i c x hc hx => ?_)
                match i, hc, hx with
                | 0, hc, hx => cases hc; cases hx; exact hv
                | 1, hc, hx => cases hc; cases hx; exact .bool _
                | i + 2, hc, hx => simp at hx
            rcases find_rep (I := I) hd hk rx es.toList kv 0 (by simpa using hlen) (fun j e p h1 h2 => hent j e p (by simpa using h1) h2) hkv with ⟨q1, q2, _, _⟩ | ⟨j, e, y', q1, q2, q3, q4, q5, q6⟩
            · refine fin z false zd ?_ (hzr I) (by simp [lookD, q2])
              simp [Instr.lookup, run_underlying hu, MapKept.run_getObj_map hheap, MapKept.run_checkKey hkd hik, MapKept.run_findKey hkd q1, run_zeroValue_of hz, Result.andThen]
            · refine fin e.val true y' ?_ q5 (by simp [lookD, q4])
              simp [Instr.lookup, run_underlying hu, MapKept.run_getObj_map hheap, MapKept.run_checkKey hkd hik, MapKept.run_findKey hkd q1, Result.andThen]
          · cases h
        · cases h
      · cases h
    · cases h
  · cases h

end
end Go.Hk

/- Contracts of term: patterns. -/
namespace Go.Hk
open Go.Proofs

def ttP : TT := ttT ++ [
  (53, ⟨.map 9 4, false, 1, 8, [.imm .nilmap]⟩)]
theorem ttP_ok : TTok Try.prog ttP := .of_eq (l := [4, 3, 9, 35, 52, 31, 33, 5, 22, 32, 50, 28, 120, 75, 1, 53]) (by kernel_rfl)

section
variable {n : Nat} {F : List Nat} {Q : DQ} {env env' : Env} {st st' : St} {ids ids' : List Nat} {k todo : List DI} {ob : List Prop}
theorem pd (path : List Pt) (h : run ttP n 300 path todo env st ids [] = .at k env' st' ids' ob) (hob : allP ob) (hd : G Try.prog n F Q k env' st' ids') : DGo Try.prog n F Q todo env st ids := d_run ttP_ok mixed 300 path h hob hd
theorem pg (path : List Pt) (h : run ttP n 300 path todo env st ids [] = .at k env' st' ids' ob) (hob : allP ob) (hd : G Try.prog n F Q k env' st' ids') : G Try.prog n F Q todo env st ids := g_run ttP_ok mixed 300 path h hob hd
theorem pi {es : List (List V)} {m : Int} {sz : Nat} {e : TypeId} {g : Option (Bool × Bool)} {ob : List Prop} {t : Nat} {todo' : List DI} {c : List V} (h : pidx ttP n env todo = some ⟨es, m, sz, e, g, ob, some t, todo'⟩)
    (hc : cxOf g → 0 ≤ m ∧ es[m.toNat]? = some c ∧ c.length = sz) (hob : allP ob) (hk : G Try.prog n F Q todo' ((t, gD g (.ip e c 0)) :: env) st ids) : G Try.prog n F Q todo env st ids := g_index ttP_ok h hc hob hk
end

/-- A set of strings. -/
def setK (l : List Str) : List (V × V) := l.map fun s => (.str s, .bool true)
def setB (l : List Str) : Blk := .map (setK l)

theorem setK_keys (l : List Str) : ∀ p ∈ setK l, keyV .str p.1 = true := by
  intro p hp
  obtain ⟨s, _, rfl⟩ := List.mem_map.1 hp
  rfl
theorem beq_swap (s x : Str) : (s == x) = (x == s) := by
  rw [Bool.eq_iff_iff, beq_iff_eq, beq_iff_eq]; exact ⟨Eq.symm, Eq.symm⟩
theorem setK_find (l : List Str) (s : Str) : lookM (setK l) (.str s) = if hasS l s then some (.bool true) else none := by
  induction l with
  | nil => rfl
  | cons x r ih =>
    simp only [setK, List.map_cons, lookM, eqK, hasS] at ih ⊢
    rw [ih]
    by_cases h : x = s
    · subst h; simp
    · have h1 : (s == x) = false := by simpa using fun e => h e.symm
      have h2 : (x == s) = false := by simpa using h
      simp [h1, h2]
theorem setK_look (l : List Str) (s : Str) : lookD false (setK l) (.str s) (.bool false) = .imm (.bool (hasS l s)) := by
  simp only [lookD, setK_find]
  cases hasS l s <;> rfl
theorem setK_new (l : List Str) (s : Str) (h : hasS l s = false) : setM (setK l) (.str s) (.bool true) = setK (l ++ [s]) := by
  induction l with
  | nil => rfl
  | cons x r ih =>
    simp only [hasS, Bool.or_eq_false_iff] at h
    have h1 : (s == x) = false := by rw [beq_swap]; exact h.1
    simp only [setK, List.map_cons, setM, eqK, h1, List.cons_append] at ih ⊢
    simp [ih h.2]

theorem differGo_append : ∀ (a b p : List Str), differGo p (a ++ b) = (differGo p a && differGo (p ++ a) b)
  | [], b, p => by simp [differGo]
  | x :: r, b, p => by simp [differGo, differGo_append r b (p ++ [x]), Bool.and_assoc]


set_option maxRecDepth 100000 in
theorem tpats_yes : ∀ (t : Ty) (met : List Str), (patsTy t && differGo met (namesTy t)) = true → EffC Try.prog 93 [.imm (.agg (dTyc t)), .mapr 1] [(1, some (setB met))] (.ret unitV [(1, some (setB (met ++ namesTy t)))])
  | .mk s n x ps, met, hy => by
    refine effC_ok 0 rfl fun hok => ?_
    have hv : ps.length ≤ 9223372036854775807 := by
      simp [vOkL, vOk, dTyc, maxLen] at hok
      have := hok.1
      omega
    refine effc_of ttP_ok Try.func93 (by decide +kernel) rfl [2, 3, 4] rfl rfl ?_
    have J : ∀ m0 : List Str, (patsTys ps && differGo m0 (namesTys ps)) = true → m0 ++ namesTys ps = met ++ namesTy (.mk s n x ps) → DGo Try.prog Try.f93.ntmps (nms [(1, some (setB met))]) (RetQ ttP Try.f93.results.toList (.ret unitV [(1, some (setB (met ++ namesTy (.mk s n x ps))))]))
        [.code (tailC Try.f93 2)] [(1, .mapr 1), (2, .ref 2 0)] [(2, some (.immb 52 4 (dTyc (.mk s n x ps)))), (1, some (setB m0))] [3, 4] := by
      intro m0 hy he
      refine pd [] rfl (by simp) ?_
      refine dgo_enter (fun i : Nat => [(113, .imm (.int .i64 i)), (112, .imm (.int .i64 ps.length)), (111, .imm (.sl (dTys ps))), (1, .mapr 1), (2, .ref 2 0)]) (fun i => [(2, some (.immb 52 4 (dTyc (.mk s n x ps)))), (1, some (setB (m0 ++ namesTys (ps.take i))))]) [3, 4] (fun i => ps.length - i)
        (fun i => i ≤ ps.length ∧ (patsTys (ps.drop i) && differGo (m0 ++ namesTys (ps.take i)) (namesTys (ps.drop i))) = true) 0 ⟨Nat.zero_le _, by simpa [namesTys] using hy⟩ ⟨rfl, tInt (by simp), rfl, rfl, rfl, trivial⟩ ⟨rfl, by simp [namesTys]; rfl, trivial⟩ rfl fun i hi ih => ?_
      refine pd [] rfl (by simp) ?_
      have hi2 := hi.2
      refine dgo_cond rfl (fun h => ?_) (fun h => ?_)
      · simp at h
        obtain ⟨t, ht⟩ := has_get h
        have htk : namesTys (ps.take (i + 1)) = namesTys (ps.take i) ++ namesTy t := by rw [get_take ht, namesTys_append]; simp [namesTys]
        rw [get_drop ht] at hi2
        simp only [patsTys, namesTys, differGo_append] at hi2
        refine pd [] rfl (by simp) ?_
        refine pi rfl (c := dTyc t) (fun _ => ⟨by simp, by simpa using dTys_get ht, by simp⟩) (by simp) ?_
        refine pg [] rfl (by simp) ?_
        refine g_call (fr := []) [(1, 1)] [] rfl (by simp) (tpats_yes t (m0 ++ namesTys (ps.take i)) (by simp only [Bool.and_eq_true] at hi2 ⊢; exact ⟨hi2.1.1, hi2.2.1⟩)) ⟨⟨rfl, rfl, rfl⟩, trivial⟩ rfl rfl rfl rfl ?_
        refine pg [] rfl (by simp) ?_
        exact dgo_again (ih (i + 1) (by omega) ⟨by omega, by rw [htk, ← List.append_assoc]; simp only [Bool.and_eq_true] at hi2 ⊢; exact ⟨hi2.1.2, hi2.2.2⟩⟩) ⟨tInt (w64 (by omega) (by omega)), rfl, rfl, rfl, rfl, trivial⟩ ⟨rfl, by rw [htk, ← List.append_assoc]; rfl, trivial⟩ rfl
      · refine pd [] rfl (by simp) ?_
        simp at h
        refine dgo_end ⟨_, rfl, rfl, ⟨?_, trivial⟩⟩
        rw [List.take_of_length_le (by omega), he]
        rfl
    simp only [patsTy, Bool.and_eq_true] at hy
    obtain ⟨⟨hp, hps⟩, hdf⟩ := hy
    by_cases h1 : s = 1
    · subst h1
      simp [patB, inI] at hp
      refine pg [.a, .a] rfl (by simp [cxOf] <;> grind) ?_
      refine g_pcall rfl (fun _ => want_ok _ (by simp [integerB] at hp ⊢; grind)) (by simp) ?_
      refine pg [.s] rfl (by simp) ?_
      exact dgo_again (J met (by simpa [namesTy, hps] using hdf) (by simp [namesTy])) ⟨rfl, rfl, trivial⟩ ⟨rfl, rfl, trivial⟩ rfl
    by_cases h5 : s = 5
    · subst h5
      simp [patB, inI] at hp
      refine pg [.a, .a] rfl (by simp [cxOf] <;> grind) ?_
      refine g_pcall rfl (fun _ => want_ok _ (by simp [integerB] at hp ⊢; grind)) (by simp) ?_
      refine pg [.s] rfl (by simp) ?_
      exact dgo_again (J met (by simpa [namesTy, hps] using hdf) (by simp [namesTy])) ⟨rfl, rfl, trivial⟩ ⟨rfl, rfl, trivial⟩ rfl
    by_cases h3 : s = 3
    · subst h3
      simp [patB, inI] at hp
      refine pg [.a, .a, .a, .a] rfl (by simp [cxOf] <;> grind) ?_
      refine g_pcall rfl (fun _ => integer_ok n) (by simp [cxOf]) ?_
      refine pg [] rfl (by simp [cxOf]) ?_
      refine g_pcall rfl (fun _ => want_ok _ (by simp [integerB] at hp ⊢; grind)) (by simp) ?_
      refine pg [.s] rfl (by simp) ?_
      exact dgo_again (J met (by simpa [namesTy, hps] using hdf) (by simp [namesTy])) ⟨rfl, rfl, trivial⟩ ⟨rfl, rfl, trivial⟩ rfl
    by_cases h4 : s = 4
    · subst h4
      simp [patB, inI] at hp
      refine pg [.a, .a, .a, .a, .a] rfl (by simp [cxOf] <;> grind) ?_
      refine g_pcall rfl (fun _ => want_ok _ (by obtain ⟨⟨rfl, rfl⟩, ha, hb⟩ := hp; have : n = 0 ∨ n = 1 := (by omega); rcases this with rfl | rfl <;> simp)) (by simp) ?_
      refine pg [.s] rfl (by simp) ?_
      exact dgo_again (J met (by simpa [namesTy, hps] using hdf) (by simp [namesTy])) ⟨rfl, rfl, trivial⟩ ⟨rfl, rfl, trivial⟩ rfl
    by_cases h6 : s = 6
    · subst h6
      simp [patB, inI] at hp
      refine pg [.a, .a, .a, .a, .a, .a] rfl (by simp [cxOf] <;> grind) ?_
      refine g_pcall rfl (fun _ => tGreat_ok x) (by simp [cxOf]) ?_
      refine pg [] rfl (by simp [cxOf]) ?_
      refine g_pcall rfl (fun _ => want_ok _ (by simp [integerB] at hp ⊢; grind)) (by simp) ?_
      refine pg [.s] rfl (by simp) ?_
      exact dgo_again (J met (by simpa [namesTy, hps] using hdf) (by simp [namesTy])) ⟨rfl, rfl, trivial⟩ ⟨rfl, rfl, trivial⟩ rfl
    by_cases h2 : s = 2
    · subst h2
      simp [patB, inI] at hp
      refine pg [.a, .a, .a] rfl (by simp [cxOf] <;> grind) ?_
      refine g_pcall rfl (fun _ => tName_ok x) (by simp [cxOf]) ?_
      refine pg [] rfl (by simp [cxOf]) ?_
      have hx : hasS met x = false := by simpa [namesTy, differGo] using hdf
      refine g_mlook ttP_ok 1 rfl rfl rfl (setK_keys met) (by simp [cxOf]) (z := .bool false) rfl (fun _ => .bool _) (setK_look met x) ?_
      refine pg [] rfl (by simp [cxOf]) ?_
      refine g_pcall rfl (fun _ => want_ok _ (by simp at hp ⊢; rw [hx]; grind)) (by simp) ?_
      refine pg [] rfl (by simp) ?_
      refine g_mset ttP_ok rfl rfl rfl (setK_keys met) ?_
      rw [setK_new met x hx]
      have he : ps = [] := by simpa using hp.1.1
      subst he
      refine pg [.s] rfl (by simp) ?_
      exact dgo_again (J (met ++ [x]) (by simp [patsTys, namesTys, differGo]) (by simp [namesTy, namesTys])) ⟨rfl, rfl, trivial⟩ ⟨rfl, rfl, trivial⟩ rfl
    exfalso
    simp [patB, h1, h2, h3, h4, h5, h6] at hp
termination_by t => SizeOf.sizeOf t
decreasing_by
  all_goals
    have := List.sizeOf_lt_of_mem (List.mem_of_getElem? ht)
    simp_wf
    omega

set_option maxRecDepth 100000 in
theorem tpats_no : ∀ (t : Ty) (met : List Str), (patsTy t && differGo met (namesTy t)) = false → EffC Try.prog 93 [.imm (.agg (dTyc t)), .mapr 1] [(1, some (setB met))] (.pan flawV)
  | .mk s n x ps, met, hy => by
    refine effC_ok 0 rfl fun hok => ?_
    have hv : ps.length ≤ 9223372036854775807 := by
      simp [vOkL, vOk, dTyc, maxLen] at hok
      have := hok.1
      omega
    refine effc_of ttP_ok Try.func93 (by decide +kernel) rfl [2, 3, 4] rfl rfl ?_
    have J : ∀ m0 : List Str, (patsTys ps && differGo m0 (namesTys ps)) = false → DGo Try.prog Try.f93.ntmps (nms [(1, some (setB met))]) (RetQ ttP Try.f93.results.toList (.pan flawV))
        [.code (tailC Try.f93 2)] [(1, .mapr 1), (2, .ref 2 0)] [(2, some (.immb 52 4 (dTyc (.mk s n x ps)))), (1, some (setB m0))] [3, 4] := by
      intro m0 hy 
      refine pd [] rfl (by simp) ?_
      refine dgo_enter (fun i : Nat => [(113, .imm (.int .i64 i)), (112, .imm (.int .i64 ps.length)), (111, .imm (.sl (dTys ps))), (1, .mapr 1), (2, .ref 2 0)]) (fun i => [(2, some (.immb 52 4 (dTyc (.mk s n x ps)))), (1, some (setB (m0 ++ namesTys (ps.take i))))]) [3, 4] (fun i => ps.length - i)
        (fun i => i ≤ ps.length ∧ (patsTys (ps.drop i) && differGo (m0 ++ namesTys (ps.take i)) (namesTys (ps.drop i))) = false) 0 ⟨Nat.zero_le _, by simpa [namesTys] using hy⟩ ⟨rfl, tInt (by simp), rfl, rfl, rfl, trivial⟩ ⟨rfl, by simp [namesTys]; rfl, trivial⟩ rfl fun i hi ih => ?_
      refine pd [] rfl (by simp) ?_
      have hi2 := hi.2
      refine dgo_cond rfl (fun h => ?_) (fun h => ?_)
      · simp at h
        obtain ⟨t, ht⟩ := has_get h
        have htk : namesTys (ps.take (i + 1)) = namesTys (ps.take i) ++ namesTy t := by rw [get_take ht, namesTys_append]; simp [namesTys]
        rw [get_drop ht] at hi2
        simp only [patsTys, namesTys, differGo_append] at hi2
        refine pd [] rfl (by simp) ?_
        refine pi rfl (c := dTyc t) (fun _ => ⟨by simp, by simpa using dTys_get ht, by simp⟩) (by simp) ?_
        refine pg [] rfl (by simp) ?_
        by_cases hz : (patsTy t && differGo (m0 ++ namesTys (ps.take i)) (namesTy t)) = true
        · refine g_call (fr := []) [(1, 1)] [] rfl (by simp) (tpats_yes t (m0 ++ namesTys (ps.take i)) hz) ⟨⟨rfl, rfl, rfl⟩, trivial⟩ rfl rfl rfl rfl ?_
          refine pg [] rfl (by simp) ?_
          exact dgo_again (ih (i + 1) (by omega) ⟨by omega, by rw [htk, ← List.append_assoc]; simp only [Bool.and_eq_true] at hz; rw [hz.1, hz.2] at hi2; simpa using hi2⟩) ⟨tInt (w64 (by omega) (by omega)), rfl, rfl, rfl, rfl, trivial⟩ ⟨rfl, by rw [htk, ← List.append_assoc]; rfl, trivial⟩ rfl
        · exact dgo_callpan [(1, 1)] rfl (by simp) (tpats_no t (m0 ++ namesTys (ps.take i)) (by simpa using hz)) ⟨⟨rfl, rfl, rfl⟩, trivial⟩ rfl rfl
      · exfalso
        simp at h
        rw [List.drop_eq_nil_of_le (by omega)] at hi2
        simp [patsTys, namesTys, differGo] at hi2
    by_cases h1 : s = 1
    · subst h1
      refine pg [.a, .a] rfl (by simp [cxOf] <;> grind) ?_
      by_cases hp : patB 1 n x ps.length = true
      · have hps : (patsTys ps && differGo met (namesTys ps)) = false := by simpa [patsTy, hp, namesTy] using hy
        simp [patB, inI] at hp
        refine g_pcall rfl (fun _ => want_ok _ (by simp [integerB] at hp ⊢; grind)) (by simp) ?_
        refine pg [.s] rfl (by simp) ?_
        exact dgo_again (J met hps) ⟨rfl, rfl, trivial⟩ ⟨rfl, rfl, trivial⟩ rfl
      · simp [patB, inI] at hp
        exact dgo_callpan [] rfl (by simp) (want_pan _ (by simp [integerB] at hp ⊢; grind)) trivial rfl rfl
    by_cases h5 : s = 5
    · subst h5
      refine pg [.a, .a] rfl (by simp [cxOf] <;> grind) ?_
      by_cases hp : patB 5 n x ps.length = true
      · have hps : (patsTys ps && differGo met (namesTys ps)) = false := by simpa [patsTy, hp, namesTy] using hy
        simp [patB, inI] at hp
        refine g_pcall rfl (fun _ => want_ok _ (by simp [integerB] at hp ⊢; grind)) (by simp) ?_
        refine pg [.s] rfl (by simp) ?_
        exact dgo_again (J met hps) ⟨rfl, rfl, trivial⟩ ⟨rfl, rfl, trivial⟩ rfl
      · simp [patB, inI] at hp
        exact dgo_callpan [] rfl (by simp) (want_pan _ (by simp [integerB] at hp ⊢; grind)) trivial rfl rfl
    by_cases h3 : s = 3
    · subst h3
      refine pg [.a, .a, .a, .a] rfl (by simp [cxOf] <;> grind) ?_
      refine g_pcall rfl (fun _ => integer_ok n) (by simp [cxOf]) ?_
      refine pg [] rfl (by simp [cxOf]) ?_
      by_cases hp : patB 3 n x ps.length = true
      · have hps : (patsTys ps && differGo met (namesTys ps)) = false := by simpa [patsTy, hp, namesTy] using hy
        simp [patB, inI] at hp
        refine g_pcall rfl (fun _ => want_ok _ (by simp [integerB] at hp ⊢; grind)) (by simp) ?_
        refine pg [.s] rfl (by simp) ?_
        exact dgo_again (J met hps) ⟨rfl, rfl, trivial⟩ ⟨rfl, rfl, trivial⟩ rfl
      · simp [patB, inI] at hp
        exact dgo_callpan [] rfl (by simp) (want_pan _ (by simp [integerB] at hp ⊢; grind)) trivial rfl rfl
    by_cases h4 : s = 4
    · subst h4
      refine pg [.a, .a, .a, .a, .a] rfl (by simp [cxOf] <;> grind) ?_
      by_cases hp : patB 4 n x ps.length = true
      · have hps : (patsTys ps && differGo met (namesTys ps)) = false := by simpa [patsTy, hp, namesTy] using hy
        simp [patB, inI] at hp
        refine g_pcall rfl (fun _ => want_ok _ (by obtain ⟨⟨rfl, rfl⟩, ha, hb⟩ := hp; have : n = 0 ∨ n = 1 := (by omega); rcases this with rfl | rfl <;> simp)) (by simp) ?_
        refine pg [.s] rfl (by simp) ?_
        exact dgo_again (J met hps) ⟨rfl, rfl, trivial⟩ ⟨rfl, rfl, trivial⟩ rfl
      · simp [patB, inI] at hp
        exact dgo_callpan [] rfl (by simp) (want_pan _ (by simp [integerB] at hp ⊢; grind)) trivial rfl rfl
    by_cases h6 : s = 6
    · subst h6
      refine pg [.a, .a, .a, .a, .a, .a] rfl (by simp [cxOf] <;> grind) ?_
      refine g_pcall rfl (fun _ => tGreat_ok x) (by simp [cxOf]) ?_
      refine pg [] rfl (by simp [cxOf]) ?_
      by_cases hp : patB 6 n x ps.length = true
      · have hps : (patsTys ps && differGo met (namesTys ps)) = false := by simpa [patsTy, hp, namesTy] using hy
        simp [patB, inI] at hp
        refine g_pcall rfl (fun _ => want_ok _ (by simp [integerB] at hp ⊢; grind)) (by simp) ?_
        refine pg [.s] rfl (by simp) ?_
        exact dgo_again (J met hps) ⟨rfl, rfl, trivial⟩ ⟨rfl, rfl, trivial⟩ rfl
      · simp [patB, inI] at hp
        exact dgo_callpan [] rfl (by simp) (want_pan _ (by simp [integerB] at hp ⊢; grind)) trivial rfl rfl
    by_cases h2 : s = 2
    · subst h2
      refine pg [.a, .a, .a] rfl (by simp [cxOf] <;> grind) ?_
      refine g_pcall rfl (fun _ => tName_ok x) (by simp [cxOf]) ?_
      refine pg [] rfl (by simp [cxOf]) ?_
      refine g_mlook ttP_ok 1 rfl rfl rfl (setK_keys met) (by simp [cxOf]) (z := .bool false) rfl (fun _ => .bool _) (setK_look met x) ?_
      refine pg [] rfl (by simp [cxOf]) ?_
      refine dgo_callpan [] rfl (by simp) (want_pan _ ?_) trivial rfl rfl
      simp [patsTy, patB, namesTy, differGo] at hy
      cases hm : hasS met x with
      | true => simp
      | false =>
        simp only [hm] at hy
        by_cases hq : ps = []
        · subst hq; simp [patsTys] at hy ⊢; grind
        · simp [hq]
    refine pg [.f, .f, .f, .f, .f, .f] rfl (by simp [h1, h2, h3, h4, h5, h6]) ?_
    exact dgo_callpan [] rfl (by simp) (want_pan _ rfl) trivial rfl rfl
termination_by t => SizeOf.sizeOf t
decreasing_by
  all_goals
    have := List.sizeOf_lt_of_mem (List.mem_of_getElem? ht)
    simp_wf
    omega

def checkPatB (t : Ty) : Bool := decide (nodesTy t ≤ 12) && (patsTy t && differB (namesTy t))

set_option maxRecDepth 100000 in
theorem checkPat1_yes (t : Ty) (h : checkPatB t = true) : EffC Try.prog 91 [.ref 1 0] [(1, some (.immb 52 4 (dTyc t)))] (.ret unitV [(1, some (.immb 52 4 (dTyc t)))]) := by
  simp only [checkPatB, Bool.and_eq_true, decide_eq_true_eq] at h
  refine effc_of ttP_ok Try.func91 (by decide +kernel) rfl [2, 3, 4] rfl rfl ?_
  refine pg [] rfl (by simp) ?_
  refine g_call (fr := []) [(2, 1)] [] rfl (by simp) (gpat_yes t 12 (by omega) (by decide)) ⟨⟨rfl, rfl, rfl⟩, trivial⟩ rfl rfl rfl rfl ?_
  refine pg [] rfl (by simp) ?_
  refine g_mkmap rfl ?_
  refine pg [] rfl (by simp) ?_
  refine g_call (fr := []) [(3, 1)] [] rfl (by simp) (tpats_yes t [] (by simpa [differB] using h.2)) ⟨⟨rfl, rfl, rfl⟩, trivial⟩ rfl rfl rfl rfl ?_
  refine pg [] rfl (by simp) ?_
  exact dgo_end ⟨_, rfl, rfl, ⟨rfl, trivial⟩⟩

set_option maxRecDepth 100000 in
theorem checkPat1_no (t : Ty) (h : checkPatB t = false) : EffC Try.prog 91 [.ref 1 0] [(1, some (.immb 52 4 (dTyc t)))] (.pan flawV) := by
  refine effc_of ttP_ok Try.func91 (by decide +kernel) rfl [2, 3, 4] rfl rfl ?_
  refine pg [] rfl (by simp) ?_
  by_cases h1 : nodesTy t ≤ 12
  · refine g_call (fr := []) [(2, 1)] [] rfl (by simp) (gpat_yes t 12 (by omega) (by decide)) ⟨⟨rfl, rfl, rfl⟩, trivial⟩ rfl rfl rfl rfl ?_
    refine pg [] rfl (by simp) ?_
    refine g_mkmap rfl ?_
    refine pg [] rfl (by simp) ?_
    exact dgo_callpan [(3, 1)] rfl (by simp) (tpats_no t [] (by simpa [checkPatB, h1, differB] using h)) ⟨⟨rfl, rfl, rfl⟩, trivial⟩ rfl rfl
  · exact dgo_callpan [(2, 1)] rfl (by simp) (gpat_no t 12 (by omega) (by decide) (by decide)) ⟨⟨rfl, rfl, rfl⟩, trivial⟩ rfl rfl

set_option maxRecDepth 100000 in
theorem CheckPat_ok (t : Ty) : PureC Try.prog 77 [.agg (dTyc t)] (errI (checkPatB t)) := by
  refine effc_of ttP_ok Try.func77 (by decide +kernel) rfl [1, 2, 3] rfl rfl ?_
  refine pg [] rfl (by simp) ?_
  cases h : checkPatB t with
  | true =>
    refine g_call (fr := []) [(1, 1)] [] rfl (by simp) (checked1_yes Try.func91 (by decide +kernel) rfl (checkPat1_yes t h)) ⟨⟨rfl, rfl, rfl⟩, trivial⟩ rfl rfl rfl rfl ?_
    refine pg [] rfl (by simp) ?_
    exact dgo_ret ⟨_, rfl, tV rfl, trivial⟩
  | false =>
    refine g_call (fr := []) [(1, 1)] [] rfl (by simp) (checked1_no Try.func91 (by decide +kernel) rfl (checkPat1_no t h)) ⟨⟨rfl, rfl, rfl⟩, trivial⟩ rfl rfl rfl rfl ?_
    refine pg [] rfl (by simp) ?_
    exact dgo_ret ⟨_, rfl, tV rfl, trivial⟩

end Go.Hk

/- Ranges over functions in the D-logic: calls of yield by contract; what rounds own is known as a whole (bundles). -/
namespace Go.Hk

/-- What a run does, under names that stay. -/
def EffW (P : Program) (I : Imm) (μ : Mu) (st : St) (w : World) (d : D) (st' : St) (r : Result Next) : Prop :=
  valX P r (fun u w' => ∃ I' μ', RepD I' μ' u d ∧ StRep I' μ' st' [] w' ∧ Pin (nms st) μ μ' ∧ Ext I μ st w I' μ' st' w') (fun _ _ => False)

def yst (j : Nat) (S : Bun) : St := [(0, some .pin), (j, some (.bun 0 S))]

/-- What a call of a loop's yield does. -/
def EffY (P : Program) (ds : List D) (S : Bun) (r : Bool) (S' : Bun) : Prop :=
  ∀ I μ w b (xs : Array Value), μ 0 = some (.func (.yield b) #[] #[]) → StRep I μ (yst 1 S) [] w → RepL I μ xs.toList ds → EffW P I μ (yst 1 S) w (.imm (.bool r)) (yst 2 S') ((Instr.yield b xs).run P w)

section
variable {P : Program} {n : Nat} {F : List Nat} {Q : DQ} {tt : TT} {env E : Env} {st st0 st1 : St} {ids ids' : List Nat} {k todo todo' : List DI} {I : Imm} {μ : Mu} {w : World} {Pn : V → Prop} {d : D} {das : List D} {f : FuncId}

theorem live_nms : ∀ {st : St} {i : Nat} {b : Blk}, live st i b → i ∈ nms st
  | [], i, b, h => by simp [live, lk] at h
  | (s, x) :: r, i, b, h => by
    by_cases hs : s = i
    · subst hs; simp [nms]
    · have : live r i b := by unfold live at h ⊢; rwa [lk_cons_ne _ _ hs] at h
      simp only [nms, List.map_cons, List.mem_cons]
      exact .inr (live_nms this)

theorem live_app {s t : St} {i : Nat} {b : Blk} (h : live (s ++ t) i b) : live s i b ∨ (i ∉ nms s ∧ live t i b) := by
  by_cases hm : i ∈ s.map (·.1)
  · left; unfold live at h ⊢; rwa [lk_app_mem hm] at h
  · right; unfold live at h ⊢; rw [lk_app_ne hm] at h; exact ⟨hm, h⟩
theorem live_appL {s t : St} {i : Nat} {b : Blk} (h : live s i b) : live (s ++ t) i b := by
  have hm : i ∈ s.map (·.1) := live_nms h
  unfold live at h ⊢; rwa [lk_app_mem hm]
theorem live_appR {s t : St} {i : Nat} {b : Blk} (hn : i ∉ nms s) (h : live t i b) : live (s ++ t) i b := by
  unfold live at h ⊢; rwa [lk_app_ne hn]

/-- A step that is passed over. -/
theorem ld_not {all : List Oper} {o : Oper} {g : Option (Bool × Bool)} (hg : guardOf all env o = some g) (hcx : ¬ cxOf g) : LD P Pn all o env st [] [] [] (gD g d) := by
  intro I μ st2 ids1 a w hag hst hon
  have hwant := guard_wanted hg hon
  refine ⟨fun hw => absurd (hwant.1 hw) hcx, fun _ => ⟨rfl, rfl, ?_⟩⟩
  cases g with
  | none => exact absurd trivial hcx
  | some p => exact .guard _ _ _ _ (fun h => absurd h hcx) (fun _ => rfl)

structure YCall where
  id : Nat
  das : List D
  g : Option (Bool × Bool)
  ob : List Prop
  dst : Option Nat
  o : Oper
  all : List Oper

/-- A call of a loop's yield. -/
def ycall (n : Nat) (env : Env) (todo : List DI) : Option YCall :=
  match next1 todo ([], []) with
  | some (all, o, _) => match guardOf all env o, o.op with
    | some g, .call { callee := .value (.tmp t), args := ⟨args⟩, .. } => match lk env t, evAs (cxOf g) env args, dstOk n o.dst with
      | some (.yld id), some (ds, ob), true => some ⟨id, ds, g, ob, o.dst, o, all⟩
      | some (.guard c w (.yld id)), some (ds, ob), true => some ⟨id, ds, g, (cxOf g → c = w) :: ob, o.dst, o, all⟩
      | _, _, _ => none
    | _, _ => none
  | none => none

theorem RepD.yldInv {v : Value} {id : Nat} (h : RepD I μ v (.yld id)) : ∃ b, μ id = some (.func (.yield b) #[] #[]) ∧ v = .func (.yield b) #[] #[] := by
  cases h with
  | yld b _ h => exact ⟨b, h, rfl⟩

theorem yield_run {o : Oper} {t b : Nat} {args : List Operand} {ts : Array TypeId} {a : Act} (ho : o.op = .call { callee := .value (.tmp t), args := ⟨args⟩, argTypes := ts }) (hv : a.eval (.tmp t) = .func (.yield b) #[] #[]) :
    (execOp a.eval o).run P w = (Instr.yield b (args.map a.eval).toArray).run P w := by
  simp only [execOp, ho, resolve, hv, Deferred.ofValue, Sem.run_bind, Sem.run_pure, Result.andThen_ok, invoke]
  congr 2
  simp

theorem ycall_run {c : YCall} (h : ycall n env todo = some c) (hob : allP c.ob) (hcx : cxOf c.g) :
    (∀ f, ∃ todo', next1 todo f = some (c.all, c.o, todo')) ∧ guardOf c.all env c.o = some c.g ∧ dstOk n c.dst = true ∧ c.dst = c.o.dst ∧ (∀ x, c.o.op ≠ .defer x) ∧
    ∀ I μ a, OpsOn I μ env a c.o.op → ∃ b, ∃ xs : Array Value, μ c.id = some (.func (.yield b) #[] #[]) ∧ RepL I μ xs.toList c.das ∧ ∀ w, (execOp a.eval c.o).run P w = (Instr.yield b xs).run P w := by
  unfold ycall at h
  have hnext : ∀ {all : List Oper} {o : Oper} {t : List DI}, next1 todo ([], []) = some (all, o, t) → ∀ f, ∃ todo', next1 todo f = some (all, o, todo') := by
    intro all o t h f
    rcases next1_ops h with ⟨r, k, rfl, _⟩ | ⟨r, fs, k, rfl, _⟩
    · exact ⟨_, rfl⟩
    · exact ⟨_, rfl⟩
  split at h
  · rename_i all o t h1
    split at h
    · rename_i g t' args ts hg ho
      have fin : ∀ {dv : D} {ds : List D} {ob : List Prop} {id : Nat}, lk env t' = some dv → evAs (cxOf g) env args = some (ds, ob) → allP ob → cxOf g → (∀ {I : Imm} {μ : Mu} {v : Value}, RepD I μ v dv → ∃ b, μ id = some (.func (.yield b) #[] #[]) ∧ v = .func (.yield b) #[] #[]) →
          ∀ I μ a, OpsOn I μ env a o.op → ∃ b, ∃ xs : Array Value, μ id = some (.func (.yield b) #[] #[]) ∧ RepL I μ xs.toList ds ∧ ∀ w, (execOp a.eval o).run P w = (Instr.yield b xs).run P w := by
        intro dv ds ob id ht ha hob hcx hyl I μ a hop
        rw [ho] at hop
        have hargs := evAs_rep (I := I) (μ := μ) (a := a) hcx ha hob fun x hx => hop x (by simp [Op.operands, Call.operands, hx])
        obtain ⟨b, q1, q2⟩ := hyl (hop (.tmp t') (by simp [Op.operands, Call.operands]) _ ht)
        exact ⟨b, _, q1, by simpa using hargs, fun w => yield_run ho q2⟩
      split at h
      · rename_i id ds ob ht ha hd
        cases h
        exact ⟨hnext h1, hg, hd, rfl, (fun x hx => by rw [ho] at hx; cases hx), fin ht ha hob hcx (fun h => h.yldInv)⟩
      · rename_i cc ww id ds ob ht ha hd
        cases h
        exact ⟨hnext h1, hg, hd, rfl, (fun x hx => by rw [ho] at hx; cases hx), fin ht ha hob.2 hcx (fun h => (h.guardInv (hob.1 hcx)).yldInv)⟩
      · cases h
    · cases h
  · cases h

/-- A call of yield by contract. 'j': the bundle's name, 'j2': its name afterwards. -/
theorem g_ycall {c : YCall} {j j2 : Nat} {S S' : Bun} {r : Bool} (h : ycall n env todo = some c) (hob : allP c.ob) (hcx : cxOf c.g) (hE : EffY P (renL (look [(c.id, 0), (j, 1)]) c.das) S r S') (hy : lk st c.id = some (some .pin)) (hj : lk st j = some (some (.bun c.id S)))
    (hn : namesB [(c.id, 0), (j, 1)] [(2, j2)] c.das (yst 1 S) (.imm (.bool r)) (yst 2 S') [j2] = true) (h1 : next1 todo ([c.id, j], [c.id, j2, c.id, j]) = some (c.all, c.o, todo')) (hids : ids = j2 :: ids')
    (hk : G P n F Q todo' (putE c.dst (gD c.g (.imm (.bool r))) env) ((c.id, some .pin) :: (j2, some (.bun c.id S')) :: (c.id, none) :: (j, none) :: st) ids') : G P n F Q todo env st ids := by
  obtain ⟨_, q2, q3, q4, q5, q6⟩ := ycall_run (P := P) h hob hcx
  rw [q4] at q3 hk
  subst hids
  have hN := namesB_ok hn
  have hb : blksOk [(c.id, 0), (j, 1)] st (yst 1 S) := by
    have hne : Nat.beq c.id j = false := by
      have := hN.inv
      simp only [List.map_cons, List.map_nil, backOk, swapL] at this
      cases hb : Nat.beq c.id j with
      | false => rfl
      | true =>
        have := Nat.eq_of_beq_eq_true hb
        rw [← this] at hj
        rw [hy] at hj
        cases hj
    have e0 : lk (swapL [(c.id, 0), (j, 1)]) 0 = some c.id := rfl
    have e1 : lk (swapL [(c.id, 0), (j, 1)]) 1 = some j := rfl
    have f0 : lk [(c.id, 0), (j, 1)] c.id = some 0 := lk_cons_self _ _ _
    have f1 : lk [(c.id, 0), (j, 1)] j = some 1 := by
      have : c.id ≠ j := fun e => by rw [e] at hne; simp at hne
      rw [lk_cons_ne _ _ this]; exact lk_cons_self _ _ _
    have g0 : look [(c.id, 0), (j, 1)] c.id = 0 := by simp [look, f0]
    refine ⟨?_, ?_, trivial⟩
    · simp only [e0, f0, hy]
      exact ⟨rfl, rfl, rfl⟩
    · simp only [e1, f1, hj]
      refine ⟨rfl, ?_, ?_⟩
      · simp only [renB, g0]
      · simp only [nmB, backOk, f0, e0]; simp
  have hl : LD P (panQ Q) c.all c.o env st (fstL [(c.id, 0), (j, 1)]) [j2] (renSt (swapL [(c.id, 0), (j, 1)] ++ [(2, j2)]) (yst 2 S') ++ delSt (fstL [(c.id, 0), (j, 1)])) (gD c.g (.imm (.bool r))) := by
    intro I μ st2 ids1 a w hag hst hon
    have hwant := guard_wanted q2 hon
    refine ⟨fun _ => ?_, fun hw => by rw [hwant.2 hcx] at hw; cases hw⟩
    obtain ⟨b, xs, m1, m2, m3⟩ := q6 I μ a (opsOn_of hon)
    have hb' := blksOk_agree hag hb
    obtain ⟨g1, g2, g3⟩ := call_given hst hb' hN.args m2
    rw [m3]
    refine (hE I _ w b xs (by simpa [subMu, swapL, lk] using m1) g1 g2).mono (fun u w' hu => ?_) (fun _ _ h => h.elim)
    obtain ⟨I', μ', r1, r2, r3, r4⟩ := hu
    obtain ⟨ν, s1, s2, s3, s4⟩ := call_left hst hb' hN r1 r2 r3 r4 g3
    rw [← fstL_eq] at s1 s4
    refine ⟨I', ν, s1, ?_, s3, s4⟩
    cases hg : c.g with
    | none => exact s2
    | some p => rw [hg] at hcx; exact .guard _ _ _ _ (fun _ => s2) (fun hn => absurd hcx hn)
  have ew : renSt (swapL [(c.id, 0), (j, 1)] ++ [(2, j2)]) (yst 2 S') ++ delSt (fstL [(c.id, 0), (j, 1)]) = [(c.id, some .pin), (j2, some (.bun c.id S')), (c.id, none), (j, none)] := rfl
  rw [ew] at hl
  exact g_step (fr := [j2]) (wr := [(c.id, some .pin), (j2, some (.bun c.id S')), (c.id, none), (j, none)]) h1 hl q3 q5 hk

structure NCall where
  g : Option (Bool × Bool)
  dst : Option Nat
  todo : List DI

/-- Any call whose guard does not hold. -/
def ncall (n : Nat) (env : Env) (todo : List DI) : Option NCall :=
  match next1 todo ([], []) with
  | some (all, o, todo') => match guardOf all env o, o.op, dstOk n o.dst with
    | some g, .call _, true => some ⟨g, o.dst, todo'⟩
    | _, _, _ => none
  | none => none

/-- A call that is passed over. -/
theorem g_ncall {c : NCall} (d : D) (h : ncall n env todo = some c) (hcx : ¬ cxOf c.g) (hk : G P n F Q c.todo (putE c.dst (gD c.g d) env) st ids) : G P n F Q todo env st ids := by
  unfold ncall at h
  split at h
  · rename_i all o todo' h1
    split at h
    · rename_i g cc hg ho hd
      cases h
      exact g_step (fr := []) (wr := []) h1 (ld_not hg hcx) hd (fun x hx => by rw [ho] at hx; cases hx) hk
    · cases h
  · cases h

end
end Go.Hk

/- Ranges over functions in the D-logic: what a round does, out of a walk through the loop's body; the loop, by the contract of its function. -/
namespace Go.Hk

/-- How a round ends. -/
def BodyQ (pend : Option Code) (stB : St) : DQ := fun x _ st _ => match x, pend with
  | .norm, none => subSt st stB
  | .ret, some .ret => subSt st stB
  | .exit j, some (.exit j') => j = j' ∧ subSt st stB
  | _, _ => False

/-- What a loop is. -/
structure LoopI where
  fn : FuncId
  ps : Array Tmp
  asg : Code
  body : Code
  tmps : Array Value
  E : Env
  F : List Nat
  μ0 : Mu

def PendOk (pend : Option Code) (r : Go.Loop) : Prop := r.state = (match pend with | none => .ready | some _ => .done) ∧ r.pending = pend

def bunP (L : LoopI) (st : St) (pend : Option Code) (I : Imm) (w : World) (b : Nat) (bs : List Nat) : Prop :=
  ∃ (r : Go.Loop) (μ : Mu) (bs0 : List Nat), bs = b :: bs0 ∧ w.heap[b]? = some (.loop r) ∧ PendOk pend r ∧ (r.fn = L.fn ∧ r.params = L.ps ∧ r.assign = L.asg ∧ r.body = L.body ∧ r.tmps = L.tmps) ∧
    (∀ t d, lk L.E t = some d → RepD I μ (L.tmps.getD t undef) d) ∧ (∀ i blk, live st i blk → ∃ g, μ i = some g ∧ BlkRep I μ w g blk) ∧
    (∀ i j bi bj gi gj k, live st i bi → live st j bj → μ i = some gi → μ j = some gj → ownB gi k → ownB gj k → i = j) ∧ (∀ k, k ∈ bs0 ↔ owned μ st k) ∧ b ∉ bs0 ∧ Pin L.F L.μ0 μ

/-- The record of a loop and what its rounds own. -/
def bunOf (L : LoopI) (st : St) (pend : Option Code) : Bun where
  P := bunP L st pend
  mono := fun {I J w b bs} h hp => by
    obtain ⟨r, μ, bs0, h1, h2, h3, h4, h5, h6, h7, h8, h9, h10⟩ := hp
    exact ⟨r, μ, bs0, h1, h2, h3, h4, fun t d hl => (h5 t d hl).mono h (Mu.le_refl μ), fun i blk hl => let ⟨g, q1, q2⟩ := h6 i blk hl; ⟨g, q1, q2.mono h (Mu.le_refl μ)⟩, h7, h8, h9, h10⟩
  loc := fun {I w w' b bs} h hp => by
    obtain ⟨r, μ, bs0, h1, h2, h3, h4, h5, h6, h7, h8, h9, h10⟩ := hp
    subst h1
    exact ⟨r, μ, bs0, rfl, (h b (by simp)).trans h2, h3, h4, h5, fun i blk hl => let ⟨g, q1, q2⟩ := h6 i blk hl; ⟨g, q1, q2.world fun k hk => h k (by simp [(h8 k).2 ⟨i, blk, g, hl, q1, hk⟩])⟩, h7, h8, h9, h10⟩

def blocksV : Value → List Nat
  | .pointer (some a) => [a.block]
  | .slice (some a) _ _ => [a.block]
  | .map (some c) => [c]
  | .agg cs => cs.toList.filterMap fun | .pointer (some a) => some a.block | _ => none
  | _ => []

theorem blocksV_iff {g : Value} {k : Nat} : k ∈ blocksV g ↔ ownB g k := by
  unfold blocksV ownB
  split <;> simp [eq_comm]
  · constructor
    · rintro ⟨a, h1, h2⟩
      split at h2
      · cases h2; exact ⟨_, h1, rfl⟩
      · cases h2
    · rintro ⟨a, h1, h2⟩
      exact ⟨_, h1, by rw [h2]⟩

open Classical in
theorem owned_list (μ : Mu) (st : St) : ∃ l : List Nat, ∀ k, k ∈ l ↔ owned μ st k := by
  refine ⟨(nms st).flatMap fun i => if (∃ b, live st i b) then (match μ i with | some g => blocksV g | none => []) else [], fun k => ?_⟩
  rw [List.mem_flatMap]
  constructor
  · rintro ⟨i, _, h⟩
    split at h
    · rename_i hb
      obtain ⟨b, hb⟩ := hb
      cases hg : μ i with
      | none => rw [hg] at h; cases h
      | some g => rw [hg] at h; exact ⟨i, b, g, hb, hg, blocksV_iff.1 h⟩
    · cases h
  · rintro ⟨i, b, g, h1, h2, h3⟩
    refine ⟨i, live_nms h1, ?_⟩
    rw [if_pos ⟨b, h1⟩, h2]
    exact blocksV_iff.2 h3

/-- Names that the body's walk may make: none that is in use. -/
def freeOf (ids : List Nat) (E : Env) (st : St) (F : List Nat) : Prop := ids.Nodup ∧ ∀ i ∈ ids, i ∉ nmE E ∧ i ∉ nmSt st ∧ i ∉ F

section
variable {P : Program} {n : Nat} {F : List Nat} {Q : DQ} {tt : TT} {env E : Env} {st st0 st1 : St} {ids ids' : List Nat} {k todo todo' : List DI} {I : Imm} {μ : Mu} {w : World} {Pn : V → Prop} {d : D} {das : List D} {f : FuncId}

theorem nms_sub : ∀ {st : St} {i : Nat} {b : Blk}, live st i b → i ∈ nmSt st := fun h => (nmSt_live h).1

/-- What of a bundle's names is in use, with others free. -/
theorem bun_open {L : LoopI} {pend : Option Code} {b : Nat} {bs : List Nat} (h : bunP L st pend I w b bs) (hf : freeOf ids L.E st L.F) (hI : I.ok w) (hbs : ∀ k ∈ bs, I k = none ∧ k < w.heap.size) :
    ∃ (r : Go.Loop) (ν : Mu) (bs0 : List Nat), bs = b :: bs0 ∧ w.heap[b]? = some (.loop r) ∧ PendOk pend r ∧ (r.fn = L.fn ∧ r.params = L.ps ∧ r.assign = L.asg ∧ r.body = L.body ∧ r.tmps = L.tmps) ∧
      (∀ t d, lk L.E t = some d → RepD I ν (L.tmps.getD t undef) d) ∧ StRep I ν st ids w ∧ (∀ k, k ∈ bs0 ↔ owned ν st k) ∧ b ∉ bs0 ∧ Pin L.F L.μ0 ν := by
  obtain ⟨r, μ, bs0, h1, h2, h3, h4, h5, h6, h7, h8, h9, h10⟩ := h
  obtain ⟨hf1, hf2⟩ := hf
  obtain ⟨ν, hν⟩ : ∃ ν : Mu, ν = fun i => if i ∈ ids then none else μ i := ⟨_, rfl⟩
  have hν1 : ∀ i, i ∉ ids → ν i = μ i := fun i hi => by rw [hν]; exact if_neg hi
  have hv1 : ∀ i, i ∈ nmE L.E ∨ i ∈ nmSt st ∨ i ∈ L.F → ν i = μ i := fun i hi => hν1 i fun hm => by
    obtain ⟨q1, q2, q3⟩ := hf2 i hm
    rcases hi with h | h | h
    · exact q1 h
    · exact q2 h
    · exact q3 h
  have hv2 : ∀ {i bi}, live st i bi → ν i = μ i := fun hl => hv1 _ (.inr (.inl (nms_sub hl)))
  have hown : ∀ k, owned ν st k ↔ owned μ st k := fun k => by
    constructor <;> rintro ⟨i, bi, g, q1, q2, q3⟩
    · exact ⟨i, bi, g, q1, by rw [← hv2 q1]; exact q2, q3⟩
    · exact ⟨i, bi, g, q1, by rw [hv2 q1]; exact q2, q3⟩
  refine ⟨r, ν, bs0, h1, h2, h3, h4, fun t d hl => (h5 t d hl).sub fun j hj g hg => by rw [hv1 j (.inl (nmE_lk hl j hj))]; exact hg, ?_, fun k => by rw [hown k]; exact h8 k, h9, fun i hi g hg => by rw [hv1 i (.inr (.inr hi))]; exact h10 i hi g hg⟩
  exact
    { imm := hI
      blk := fun i bi hl => by
        obtain ⟨g, q1, q2⟩ := h6 i bi hl
        exact ⟨g, by rw [hv2 hl]; exact q1, q2.sub fun j hj g hg => by rw [hv1 j (.inr (.inl ((nmSt_live hl).2 j hj)))]; exact hg⟩
      apart := fun i bi g k hl hgi hk => hbs k (by rw [h1]; exact List.mem_cons_of_mem _ ((h8 k).2 ⟨i, bi, g, hl, by rw [← hv2 hl]; exact hgi, hk⟩))
      inj := fun i j bi bj gi gj k hi hj hgi hgj => h7 i j bi bj gi gj k hi hj (by rw [← hv2 hi]; exact hgi) (by rw [← hv2 hj]; exact hgj)
      nodup := hf1
      idsFree := fun i hi => by rw [hν]; exact if_pos hi }

theorem yst_live {j : Nat} {S : Bun} (hj : j ≠ 0) {i : Nat} {bi : Blk} (h : live (yst j S) i bi) : (i = 0 ∧ bi = .pin) ∨ (i = j ∧ bi = .bun 0 S) := by
  rcases live_cons.1 h with h | ⟨_, h⟩
  · exact .inl h
  · rcases live_cons.1 h with h | ⟨_, h⟩
    · exact .inr h
    · simp [live, lk] at h

theorem effy_of {L : LoopI} {p t rid : Nat} {fc : Func} {o : Oper} {d : D} {stB : St} {pend : Option Code} (hf : P.funcs[L.fn]? = some fc) (hps : L.ps = #[p]) (hasg : L.asg = .region rid ⟨[o]⟩ false) (hsz : L.tmps.size = n)
    (hd : nmD d = []) (ho : o.op = .assign (.tmp p)) (hog : o.guard = none) (hod : o.dst = some t) (hp : p < n) (ht : t < n) (hfree : freeOf ids L.E st L.F)
    (h : DGo P n (rmark :: (L.F ++ nmE L.E)) (BodyQ pend stB) [.code L.body] ((t, d) :: (p, d) :: L.E) st ids) : EffY P [d] (bunOf L st none) pend.isNone (bunOf L stB pend) := by
  intro I μ w b xs hμ hst hx
  have hl0 : live (yst 1 (bunOf L st none)) 0 .pin := live_cons.2 (.inl ⟨rfl, rfl⟩)
  have hl1 : live (yst 1 (bunOf L st none)) 1 (.bun 0 (bunOf L st none)) := live_cons.2 (.inr ⟨by simp, live_cons.2 (.inl ⟨rfl, rfl⟩)⟩)
  obtain ⟨g1, hg1, b', bs, hb1, rfl, hP⟩ := hst.blk 1 _ hl1
  rw [hμ] at hb1
  cases hb1
  have hbs : ∀ k ∈ bs, I k = none ∧ k < w.heap.size := fun k hk => hst.apart 1 _ _ k hl1 hg1 (ownB_ptrs.2 hk)
  have hP0 := hP
  obtain ⟨r, ν, bs0, e1, hr1, ⟨hr2, hr3⟩, ⟨hr4, hr5, hr6, hr7, hr8⟩, hE1, hS, hown, hnb, hF⟩ := bun_open hP hfree hst.imm hbs
  subst e1
  obtain ⟨x, rfl⟩ : ∃ x, xs = #[x] := by
    obtain ⟨l⟩ := xs
    have := hx.1
    match l, this with
    | [x], _ => exact ⟨x, rfl⟩
  have hxd0 : RepD I μ x d := hx.2 0 x d rfl rfl
  have hxd1 : RepD I ν x d := hxd0.sub fun j hj => by rw [hd] at hj; cases hj
  have hsz1 : (#[x] : Array Value).size = r.params.size := by rw [hr5, hps]; rfl
  unfold EffW
  rw [run_yield hr1 hsz1]
  refine roundIn_of_reach (fc := fc) (by rw [hr4]; exact hf) fun fb cs hbf hbr => ?_
  rw [hr5, hps, hr6, hasg, hr7, hr8]
  have hfold : ((#[p] : Array Nat).zip #[x]).foldl (fun tmps (t, a) => tmps.setIfInBounds t a) L.tmps = L.tmps.setIfInBounds p x := by simp
  rw [hfold]
  obtain ⟨hIb, hblt⟩ := hbs b (by simp)
  have hnob : ¬ owned ν st b := fun h => hnb ((hown b).2 h)
  obtain ⟨w1, hw1⟩ : ∃ w1 : World, w1 = w.putObj b (.loop { r with state := .busy }) := ⟨_, rfl⟩
  have hput : ∀ (w : World) (o : Obj), (w.putObj b o).heap = w.heap.setIfInBounds b o := fun w o => by
    unfold World.putObj
    by_cases hi : b < w.heap.size <;> simp [hi]
  have hoth : ∀ (w : World) (o : Obj) k, k ≠ b → (w.putObj b o).heap[k]? = w.heap[k]? := fun w o k hk => by rw [hput, Array.getElem?_setIfInBounds_ne (Ne.symm hk)]
  have hbeg := run_beginRound (P := P) hr1 hr2
  -- the assignment
  refine reach_region ?_
  show Reach P fb cs _ (.inRegion #[o] [0] :: [.beginRound, .code L.body]) _ w
  refine reach_op (o := o) rfl (wanted_none hog) (fun c hc => by rw [ho] at hc; cases hc) ?_
  refine valX.upon ?_
  have hex : ∀ a : Act, (execOp a.eval o).run P w = .ok (.value (a.eval (.tmp p))) w := fun a => by simp [execOp, ho]
  rw [hex]
  show Reach P fb cs _ _ _ w
  refine reach_regionEnd (Reach.step (stepR_beginRound hbr hbeg) ?_)
  rw [← hw1]
  have hpx : (Act.eval { tmps := L.tmps.setIfInBounds p x, defers := [] } (.tmp p)) = x := by
    have hlt : p < L.tmps.size := by omega
    simp [Act.eval, hlt]
  rw [hpx, hod]
  obtain ⟨e1, e2, e3⟩ := put_env (n := n) (w := w) (a := { tmps := L.tmps, defers := [] }) (dst := some p) hE1 hsz (fun t ht => by cases ht; exact hp) hxd1
  obtain ⟨c1, c2, c3⟩ := put_env (n := n) (w := w) (dst := some t) e1 e2 (fun t' ht' => by cases ht'; exact ht) hxd1
  have hc : Conc n I ν ((t, d) :: (p, d) :: L.E) st ids ((Act.put { tmps := L.tmps, defers := [] } (some p) x).put (some t) x) w1 :=
    { hS.other (by rw [hw1, hput]; simp) (fun k o hk => by rw [hw1]; exact hoth _ _ k (fun e => by rw [e, hIb] at hk; cases hk)) (fun k hk => by rw [hw1]; exact hoth _ _ k (fun e => hnob (e ▸ hk))) with
      size := c2
      env := c1
      defers := by rw [c3, e3]; exact MarksOk.nil _ _ _ _ }
  have hgo := h ⟨fb, .inl (by simp)⟩ cs I ν _ w1 [.code L.body] ⟨rfl, trivial⟩ hc
  refine Reach.mono (fun e a' w' hpost => ?_) hgo
  obtain ⟨x', env', st', ids2, I', μ', p1, p2, p3, p4, p5, p6⟩ := hpost
  have hb1 : w1.heap[b]? = some (.loop { r with state := .busy }) := by rw [hw1, hput]; simp [hblt]
  have hsz1 : w1.heap.size = w.heap.size := by rw [hw1, hput]; simp
  have hb' : w'.heap[b]? = some (.loop { r with state := .busy }) := by rw [p5.block b (by omega) hnob]; exact hb1
  have hno' : ¬ owned μ' st' b := fun ho => hnob (p5.fresh b (by omega) ho)
  have hI' : I' b = none := by rw [p5.old b (by omega) hnob]; exact hIb
  have hblt' : b < w'.heap.size := (Array.getElem?_eq_some_iff.1 hb').1
  have fin : subSt st' stB → ∃ v w'', (Instr.endRound b pend).run P w' = .ok v w'' ∧ (∃ I2 μ2, RepD I2 μ2 v (.imm (.bool pend.isNone)) ∧ StRep I2 μ2 (yst 2 (bunOf L stB pend)) [] w'' ∧
      Pin (nms (yst 1 (bunOf L st none))) μ μ2 ∧ Ext I μ (yst 1 (bunOf L st none)) w I2 μ2 (yst 2 (bunOf L stB pend)) w'') := by
    intro hsub
    have hSB : StRep I' μ' stB [] w' := p3.toStRep.less (subSt_live hsub) .nil (fun _ h => by simp at h)
    have hownB' : ∀ k, owned μ' stB k → owned μ' st' k := fun k ⟨i, bi, g, q1, q2⟩ => ⟨i, bi, g, subSt_live hsub i bi q1, q2⟩
    have hnoB : ¬ owned μ' stB b := fun h => hno' (hownB' b h)
    obtain ⟨w2, hw2⟩ : ∃ w2 : World, w2 = w'.putObj b (.loop { r with state := if pend.isNone then .ready else .done, pending := pend }) := ⟨_, rfl⟩
    have hend : (Instr.endRound b pend).run P w' = .ok (.bool pend.isNone) w2 := by
      have := run_endRound (P := P) pend hb'
      rw [hw2]; exact this
    have hw2s : w2.heap.size = w'.heap.size := by rw [hw2, hput]; simp
    have hw2o : ∀ k, k ≠ b → w2.heap[k]? = w'.heap[k]? := fun k hk => by rw [hw2]; exact hoth _ _ k hk
    have hSB2 : StRep I' μ' stB [] w2 := hSB.other (by omega) (fun k o hk => hw2o k (fun e => by rw [e, hI'] at hk; cases hk)) (fun k hk => hw2o k (fun e => hnoB (e ▸ hk)))
    obtain ⟨bsN, hbsN⟩ := owned_list μ' stB
    -- the new bundle
    have hPN : (bunOf L stB pend).P I' w2 b (b :: bsN) := by
      refine ⟨{ r with state := if pend.isNone then .ready else .done, pending := pend }, μ', bsN, rfl, by rw [hw2, hput]; simp [hblt'], ⟨by cases pend <;> rfl, rfl⟩, ⟨hr4, hr5, hr6, hr7, hr8⟩, fun t d hl => ?_, hSB2.blk, hSB2.inj, hbsN, fun hm => hnoB ((hbsN b).1 hm), fun i hi => ?_⟩
      · exact ((hE1 t d hl).mono p5.imm (Mu.le_refl ν)).sub fun j hj g hg => p4 j (by simp [nmE_lk hl j hj]) g hg
      · exact fun g hg0 => p4 i (by simp [hi]) g (hF i hi g hg0)
    obtain ⟨μ2, hμ2⟩ : ∃ μ2 : Mu, μ2 = fun i => if i = 2 then some (.agg (ptrs (b :: bsN))) else μ i := ⟨_, rfl⟩
    have hm0 : μ2 0 = some (.func (.yield b) #[] #[]) := by rw [hμ2]; simpa using hμ
    have hm2 : μ2 2 = some (.agg (ptrs (b :: bsN))) := by rw [hμ2]; simp
    have hold : ∀ k, k ∈ b :: bsN → k < w.heap.size → k ∈ b :: bs0 := fun k hk hlt => by
      rcases List.mem_cons.1 hk with rfl | hk
      · simp
      · exact List.mem_cons_of_mem _ ((hown k).2 (p5.fresh k (by omega) (hownB' k ((hbsN k).1 hk))))
    have hnew : ∀ k ∈ b :: bsN, I' k = none ∧ k < w2.heap.size := fun k hk => by
      rcases List.mem_cons.1 hk with rfl | hk
      · exact ⟨hI', by omega⟩
      · obtain ⟨i, bi, g, q1, q2, q3⟩ := (hbsN k).1 hk
        exact hSB2.apart i bi g k q1 q2 q3
    have hownO : ∀ k, owned μ (yst 1 (bunOf L st none)) k ↔ k ∈ b :: bs0 := fun k => by
      constructor
      · rintro ⟨i, bi, g, q1, q2, q3⟩
        rcases yst_live (by simp) q1 with ⟨rfl, rfl⟩ | ⟨rfl, rfl⟩
        · rw [hμ] at q2; cases q2; exact q3.elim
        · rw [hg1] at q2; cases q2; exact ownB_ptrs.1 q3
      · intro hk; exact ⟨1, _, _, hl1, hg1, ownB_ptrs.2 hk⟩
    have hownN : ∀ k, owned μ2 (yst 2 (bunOf L stB pend)) k → k ∈ b :: bsN := fun k => by
      rintro ⟨i, bi, g, q1, q2, q3⟩
      rcases yst_live (by simp) q1 with ⟨rfl, rfl⟩ | ⟨rfl, rfl⟩
      · rw [hm0] at q2; cases q2; exact q3.elim
      · rw [hm2] at q2; cases q2; exact ownB_ptrs.1 q3
    refine ⟨_, w2, hend, I', μ2, .imm _ _ (.bool _), ?_, ?_, ?_⟩
    · refine { imm := hSB2.imm, blk := fun i bi hl => ?_, apart := fun i bi g k hl hgi hk => hnew k (hownN k ⟨i, bi, g, hl, hgi, hk⟩), inj := fun i j bi bj gi gj k hi hj hgi hgj hki hkj => ?_, nodup := .nil, idsFree := fun _ h => by simp at h }
      · rcases yst_live (by simp) hl with ⟨rfl, rfl⟩ | ⟨rfl, rfl⟩
        · exact ⟨_, hm0, b, rfl⟩
        · exact ⟨_, hm2, b, _, hm0, rfl, hPN⟩
      · rcases yst_live (by simp) hi with ⟨rfl, rfl⟩ | ⟨rfl, rfl⟩ <;> rcases yst_live (by simp) hj with ⟨rfl, rfl⟩ | ⟨rfl, rfl⟩
        · rfl
        · rw [hm0] at hgi; cases hgi; exact hki.elim
        · rw [hm0] at hgj; cases hgj; exact hkj.elim
        · rfl
    · intro i hi g hg
      simp only [yst, nms, List.map_cons, List.map_nil, List.mem_cons, List.not_mem_nil, or_false] at hi
      have : i ≠ 2 := by omega
      rw [hμ2]; simp only [if_neg this]; exact hg
    · refine { imm := p5.imm, os := ?_, tape := ?_, output := ?_, size := ?_, block := fun k hk hno => ?_, fresh := fun k hk ho => (hownO k).2 (hold k (hownN k ho) hk), old := fun k hk hno => p5.old k (by omega) (fun h => hno ((hownO k).2 (List.mem_cons_of_mem _ ((hown k).2 h)))) }
      · have := p5.os; rw [hw1] at this; rw [hw2]; unfold World.putObj at this ⊢; exact this
      · have := p5.tape; rw [hw1] at this; rw [hw2]; unfold World.putObj at this ⊢; exact this
      · have := p5.output; rw [hw1] at this; rw [hw2]; unfold World.putObj at this ⊢; exact this
      · have := p5.size; omega
      · have hkb : k ≠ b := fun e => hno ((hownO k).2 (by simp [e]))
        rw [hw2o k hkb, p5.block k (by omega) (fun h => hno ((hownO k).2 (List.mem_cons_of_mem _ ((hown k).2 h)))), hw1, hoth _ _ k hkb]
  cases e with
  | normal =>
    cases x' <;> simp only [XRep] at p1
    cases pend with
    | none => exact fin p2
    | some c => exact p2.elim
  | ret =>
    cases x' <;> simp only [XRep] at p1
    cases pend with
    | none => exact p2.elim
    | some c => cases c <;> first | exact p2.elim | exact fin p2
  | exit j =>
    cases x' <;> simp only [XRep] at p1
    cases pend with
    | none => exact p2.elim
    | some c =>
      cases c <;> first | exact p2.elim | skip
      obtain ⟨q1, q2⟩ := p2
      subst q1; subst p1
      exact fin q2
  | goto l =>
    cases x' <;> simp only [XRep] at p1
    cases pend <;> exact p2.elim
  | panic chain =>
    cases x' <;> simp only [XRep] at p1
    cases pend <;> exact p2.elim
  | outgrown => cases x' <;> simp only [XRep] at p1

def jumpI : Option Code → List DI
  | none => []
  | some c => [.code c]

/-- The loop, by the contract of its function. 'stc': what the function is given beside the bundle; 'stx': what the rounds own; 'E': what is known of the frame, in the rounds and afterwards. -/
theorem dgo_range {g : Operand} {ps : Array Tmp} {asg body c : Code} {f y j j2 : Nat} {fc : Func} {df dc : List D} {stc stc' stx stB : St} {pend : Option Code} (hg : evO env g = some (.fn (.func f) df dc)) (hf : P.funcs[f]? = some fc)
    (hname : (fc.name == "runtime.NumGoroutine") = false) (hb : fc.body = some c) (hF : rmark ∉ F) (hEE : subE env E) (hl : ∀ i b, live (stc ++ stx) i b → live st i b)
    (hE : ∀ L : LoopI, P.funcs[L.fn]?.isSome → L.tmps.size = n → L.ps = ps → L.asg = asg → L.body = body → L.E = E → L.F = F →
      EffC P f (df ++ .yld y :: dc) ((y, some .pin) :: (j, some (.bun y (bunOf L stx none))) :: stc) (.ret d ((y, some .pin) :: (j2, some (.bun y (bunOf L stB pend))) :: stc')))
    (hdis : ∀ i ∈ nms stc, i ∉ nms stx) (hyj : y ≠ j ∧ y ≠ j2 ∧ y ∉ nms stc ∧ j ∉ nms stc) (hcl : ∀ i, i ∈ nmL (df ++ dc) ∨ i ∈ nmSt stc → i ∈ nms stc) (hfree : freeOf ids' E stB F)
    (hk : DGo P n F Q (jumpI pend ++ k) E stB ids') : DGo P n F Q (.code (.rangeFunc g ps asg body) :: k) env st ids := by
  intro b cs I μ a w items hd hc
  obtain ⟨is, rfl, hki⟩ := den_code hd
  rcases b.2 with hb0 | ⟨hb0, fcb, hfb⟩
  · exact absurd hb0 hF
  have he := run_enterLoop_outer (P := P) (w := w) b.1.fn a.tmps ps asg body
  obtain ⟨ro, hro⟩ : ∃ ro, ro = b.1.roundOf := ⟨_, rfl⟩
  have he' : (Instr.enterLoop b.1.fn a.tmps ps asg body ro).run P w = (Instr.enterLoop b.1.fn a.tmps ps asg body none).run P w := by rw [hro, hb0]
  rw [← he', hro] at he
  clear he'
  obtain ⟨L, hL⟩ : ∃ L : LoopI, L = ⟨b.1.fn, ps, asg, body, a.tmps, E, F, μ⟩ := ⟨_, rfl⟩
  obtain ⟨wa, hwa⟩ : ∃ wa : World, wa = w.alloc (.deferred (some [])) := ⟨_, rfl⟩
  rw [← hwa] at he
  have hwas : wa.heap.size = w.heap.size + 1 := by rw [hwa]; simp
  obtain ⟨R, hR⟩ : ∃ R : Go.Loop, R = { state := .ready, pending := none, fn := b.1.fn, tmps := a.tmps, params := ps, assign := asg, body, defers := w.heap.size } := ⟨_, rfl⟩
  rw [← hR, ← hwas] at he
  obtain ⟨w1, hw1⟩ : ∃ w1 : World, w1 = wa.alloc (.loop R) := ⟨_, rfl⟩
  rw [← hw1] at he
  have hw1s : w1.heap.size = w.heap.size + 2 := by rw [hw1]; simp; omega
  have hw1o : ∀ i, i < w.heap.size → w1.heap[i]? = w.heap[i]? := fun i hi => by rw [hw1, heapOld wa _ (by omega), hwa]; exact heapOld w _ hi
  have hw1m : w1.heap[w.heap.size]? = some (.deferred (some [])) := by rw [hw1, heapOld wa _ (by omega), hwa]; exact heapNew w _
  have hw1r : w1.heap[wa.heap.size]? = some (.loop R) := by rw [hw1]; exact heapNew wa _
  have hInew : ∀ k, w.heap.size ≤ k → I k = none := fun k hk => by
    cases hI : I k with
    | none => rfl
    | some o => have := lt_of_heap (hc.imm k o hI); omega
  -- the caller's state in the new world
  have hS1 : StRep I μ st ids w1 := hc.toStRep.other (by omega) (fun i o hi => hw1o i (lt_of_heap (hc.imm i o hi))) (fun i hi => hw1o i (owned_lt hc.toStRep hi))
  have hlx : ∀ i bi, live stx i bi → live st i bi := fun i bi h => hl i bi (live_appR (fun hm => hdis i hm (live_nms h)) h)
  have hlc : ∀ i bi, live stc i bi → live st i bi := fun i bi h => hl i bi (live_appL h)
  obtain ⟨bs0, hbs0⟩ := owned_list μ stx
  have hownx : ∀ k, k ∈ bs0 → owned μ st k := fun k hk => let ⟨i, bi, g, h1, h2⟩ := (hbs0 k).1 hk; ⟨i, bi, g, hlx i bi h1, h2⟩
  have hltx : ∀ k, k ∈ bs0 → k < w.heap.size := fun k hk => owned_lt hc.toStRep (hownx k hk)
  have hEnv : ∀ t d', lk E t = some d' → RepD I μ (a.tmps.getD t undef) d' := fun t d' hl => by
    obtain ⟨d, h1, h2⟩ := subE_spec hEE t d' hl
    exact told_rep h2 (hc.env t d h1)
  have hB1 : (bunOf L stx none).P I w1 wa.heap.size (wa.heap.size :: bs0) := by
    refine ⟨R, μ, bs0, rfl, hw1r, ⟨by rw [hR], by rw [hR]⟩, ?_, ?_, fun i bi h => hS1.blk i bi (hlx i bi h), fun i j bi bj gi gj k hi hj => hS1.inj i j bi bj gi gj k (hlx i bi hi) (hlx j bj hj), hbs0, fun hm => by have := hltx _ hm; omega, ?_⟩
    · rw [hR, hL]; exact ⟨rfl, rfl, rfl, rfl, rfl⟩
    · rw [hL]; exact hEnv
    · rw [hL]; exact .refl _ _
  obtain ⟨μc, hμc⟩ : ∃ μc : Mu, μc = fun i => if i = y then some (.func (.yield wa.heap.size) #[] #[]) else if i = j then some (.agg (ptrs (wa.heap.size :: bs0))) else μ i := ⟨_, rfl⟩
  have hmy : μc y = some (.func (.yield wa.heap.size) #[] #[]) := by rw [hμc]; simp
  have hmj : μc j = some (.agg (ptrs (wa.heap.size :: bs0))) := by rw [hμc]; simp [Ne.symm hyj.1]
  have hmo : ∀ i ∈ nms stc, μc i = μ i := fun i hi => by
    have h1 : i ≠ y := fun e => hyj.2.2.1 (e ▸ hi)
    have h2 : i ≠ j := fun e => hyj.2.2.2 (e ▸ hi)
    rw [hμc]; simp [h1, h2]
  obtain ⟨st0, hst0⟩ : ∃ st0 : St, st0 = (y, some .pin) :: (j, some (.bun y (bunOf L stx none))) :: stc := ⟨_, rfl⟩
  have hl0 : ∀ {i bi}, live st0 i bi → (i = y ∧ bi = .pin) ∨ (i = j ∧ bi = .bun y (bunOf L stx none)) ∨ (i ≠ y ∧ i ≠ j ∧ live stc i bi) := fun {i bi} h => by
    rw [hst0] at h
    rcases live_cons.1 h with h | ⟨h1, h⟩
    · exact .inl h
    · rcases live_cons.1 h with h | ⟨h2, h⟩
      · exact .inr (.inl h)
      · exact .inr (.inr ⟨h1, h2, h⟩)
  have hown0 : ∀ k, owned μc st0 k → k = wa.heap.size ∨ k ∈ bs0 ∨ owned μ stc k := fun k ⟨i, bi, g, h1, h2, h3⟩ => by
    rcases hl0 h1 with ⟨rfl, rfl⟩ | ⟨rfl, rfl⟩ | ⟨_, _, h⟩
    · rw [hmy] at h2; cases h2; exact h3.elim
    · rw [hmj] at h2; cases h2
      rcases List.mem_cons.1 (ownB_ptrs.1 h3) with h | h
      · exact .inl h
      · exact .inr (.inl h)
    · exact .inr (.inr ⟨i, bi, g, h, by rw [← hmo i (live_nms h)]; exact h2, h3⟩)
  have hcx : ∀ {i bi g k}, live stc i bi → μ i = some g → ownB g k → k ∉ bs0 := fun {i bi g k} h1 h2 h3 hm => by
    obtain ⟨i', bi', g', q1, q2, q3⟩ := (hbs0 k).1 hm
    have := hS1.inj i i' bi bi' g g' k (hlc i bi h1) (hlx i' bi' q1) h2 q2 h3 q3
    subst this
    exact hdis i (live_nms h1) (live_nms q1)
  have hS0 : StRep I μc st0 [] w1 := by
    refine { imm := hS1.imm, blk := fun i bi h => ?_, apart := fun i bi g k h hgi hk => ?_, inj := fun i i' bi bj gi gj k hi hj hgi hgj hki hkj => ?_, nodup := .nil, idsFree := fun _ h => by simp at h }
    · rcases hl0 h with ⟨rfl, rfl⟩ | ⟨rfl, rfl⟩ | ⟨_, _, h⟩
      · exact ⟨_, hmy, _, rfl⟩
      · exact ⟨_, hmj, _, _, hmy, rfl, hB1⟩
      · obtain ⟨g, q1, q2⟩ := hS1.blk i bi (hlc i bi h)
        exact ⟨g, by rw [hmo i (live_nms h)]; exact q1, q2.sub fun x hx g hg => by rw [hmo x (hcl x (.inr ((nmSt_live h).2 x hx)))]; exact hg⟩
    · rcases hown0 k ⟨i, bi, g, h, hgi, hk⟩ with h | h | ⟨i', bi', g', q1, q2, q3⟩
      · rw [h]; exact ⟨hInew _ (by omega), by omega⟩
      · obtain ⟨i', bi', g', q1, q2, q3⟩ := hownx k h
        exact hS1.apart i' bi' g' k q1 q2 q3
      · exact hS1.apart i' bi' g' k (hlc i' bi' q1) q2 q3
    · rcases hl0 hi with ⟨rfl, rfl⟩ | ⟨rfl, rfl⟩ | ⟨_, _, hi⟩ <;> rcases hl0 hj with ⟨rfl, rfl⟩ | ⟨rfl, rfl⟩ | ⟨_, _, hj⟩
      · rfl
      · rw [hmy] at hgi; cases hgi; exact hki.elim
      · rw [hmy] at hgi; cases hgi; exact hki.elim
      · rw [hmy] at hgj; cases hgj; exact hkj.elim
      · rfl
      · rw [hmj] at hgi; cases hgi
        have q := hmo i' (live_nms hj)
        rw [hgj] at q
        rcases List.mem_cons.1 (ownB_ptrs.1 hki) with h | h
        · have := (hS1.apart i' bj gj k (hlc _ _ hj) q.symm hkj)
          have hlt := owned_lt hc.toStRep ⟨i', bj, gj, hlc _ _ hj, q.symm, hkj⟩
          omega
        · exact absurd h (hcx hj q.symm hkj)
      · rw [hmy] at hgj; cases hgj; exact hkj.elim
      · rw [hmj] at hgj; cases hgj
        have q := hmo i (live_nms hi)
        rw [hgi] at q
        rcases List.mem_cons.1 (ownB_ptrs.1 hkj) with h | h
        · have hlt := owned_lt hc.toStRep ⟨i, bi, gi, hlc _ _ hi, q.symm, hki⟩
          omega
        · exact absurd h (hcx hi q.symm hki)
      · have q1 := hmo i (live_nms hi)
        have q2 := hmo i' (live_nms hj)
        rw [hgi] at q1
        rw [hgj] at q2
        exact hS1.inj i i' bi bj gi gj k (hlc _ _ hi) (hlc _ _ hj) q1.symm q2.symm hki hkj
  -- the call
  have hvg := evO_rep (I := I) (μ := μ) (a := a) hg fun t _ d hl => hc.env t d hl
  generalize hve : a.eval g = vg at hvg
  cases hvg with
  | fn _ first cap _ _ hl1 hl2 q1 q2 =>
  have hnL : ∀ {l m : List D} {i}, i ∈ nmL l ∨ i ∈ nmL m → i ∈ nmL (l ++ m) := fun {l m i} h => by
    have : ∀ (l m : List D), nmL (l ++ m) = nmL l ++ nmL m := fun l m => by
      induction l with
      | nil => rfl
      | cons x r ih => simp [nmL, ih]
    rw [this]; simpa using h
  have hargs : RepL I μc (first ++ #[Value.func (.yield wa.heap.size) #[] #[]] ++ cap).toList (df ++ .yld y :: dc) := by
    have e : df ++ .yld y :: dc = df ++ [.yld y] ++ dc := by simp
    rw [e, Array.toList_append, Array.toList_append]
    have h1 : RepL I μ first.toList df := ⟨by simpa using hl1, fun i v d p q => q1 i v d (by simpa using p) q⟩
    have h2 : RepL I μ cap.toList dc := ⟨by simpa using hl2, fun i v d p q => q2 i v d (by simpa using p) q⟩
    refine RepL.append (RepL.append (h1.sub fun x hx g hg => ?_) (.mk (.yld _ _ hmy) .nil)) (h2.sub fun x hx g hg => ?_)
    · rw [hmo x (hcl x (.inl (hnL (.inl hx))))]; exact hg
    · rw [hmo x (hcl x (.inl (hnL (.inr hx))))]; exact hg
  have hEL := hE L (by rw [hL]; simp [hfb]) (by rw [hL]; exact hc.size) (by rw [hL]) (by rw [hL]) (by rw [hL]) (by rw [hL]) (by rw [hL])
  rw [← hst0] at hEL
  have hcall := hEL I μc w1 _ hS0 hargs
  rw [run_callFunc_body hf hname hb] at hcall
  have hres : ∃ dd, (resolve a.eval (rangeCall g wa.heap.size) 0).run P w1 = .ok dd w1 ∧ (invoke dd.target dd.args).run P w1 = .ok (.enter f (first ++ #[Value.func (.yield wa.heap.size) #[] #[]] ++ cap)) w1 := by
    refine ⟨⟨.fn (.func f) cap, first ++ #[Value.func (.yield wa.heap.size) #[] #[]]⟩, ?_, ?_⟩
    · have hcv : a.eval (.const (.func (.yield wa.heap.size) #[] #[])) = .func (.yield wa.heap.size) #[] #[] := rfl
      simp [rangeCall, resolve, Deferred.ofValue, hve, hcv]
    · simpa [invoke] using run_callFunc_body (w := w1) hf hname hb (first ++ #[Value.func (.yield wa.heap.size) #[] #[]] ++ cap)
  obtain ⟨dd, hr1, hr2⟩ := hres
  refine reach_rangeFunc he hr1 hr2 (Calls.mono hcall fun en w3 hen => ?_)
  cases en with
  | panicked chain => exact hen.elim
  | outgrown => exact hen.elim
  | returned v =>
    obtain ⟨I', μ', p1, p2, p3, p4⟩ := hen
    have hly : live ((y, some .pin) :: (j2, some (.bun y (bunOf L stB pend))) :: stc') j2 (.bun y (bunOf L stB pend)) := live_cons.2 (.inr ⟨Ne.symm hyj.2.1, live_cons.2 (.inl ⟨rfl, rfl⟩)⟩)
    obtain ⟨g2, hg2, b2, bs2, hb2, rfl, hP2⟩ := p2.blk j2 _ hly
    have hyy : μ' y = some (.func (.yield wa.heap.size) #[] #[]) := p3 y (by rw [hst0]; simp [nms]) _ hmy
    rw [hyy] at hb2
    cases hb2
    have hbs2 : ∀ k ∈ bs2, I' k = none ∧ k < w3.heap.size := fun k hk => p2.apart j2 _ _ k hly hg2 (ownB_ptrs.2 hk)
    obtain ⟨r, ν, bsN, e1, hrr, ⟨hr2', hr3⟩, ⟨hr4, hr5, hr6, hr7, hr8⟩, hE3, hS3, hownN, hnbN, hFN⟩ := bun_open hP2 (ids := ids') (by rw [hL]; exact hfree) p2.imm hbs2
    subst e1
    have hend := run_endLoop (P := P) hrr (by rw [hr2']; cases pend <;> simp)
    obtain ⟨w4, hw4⟩ : ∃ w4 : World, w4 = w3.putObj wa.heap.size (.loop { r with state := .exhausted }) := ⟨_, rfl⟩
    have hend' : (Instr.endLoop wa.heap.size).run P w3 = .ok pend w4 := by rw [hw4, hend, hr3]
    refine ⟨pend, w4, hend', ?_⟩
    have hlb : wa.heap.size < w3.heap.size := lt_of_heap hrr
    have hoth : ∀ i, i ≠ wa.heap.size → w4.heap[i]? = w3.heap[i]? := fun i hi => by
      rw [hw4]; unfold World.putObj
      simp [Array.getElem?_setIfInBounds_ne (Ne.symm hi)]
    have hw4s : w4.heap.size = w3.heap.size := by rw [hw4]; unfold World.putObj; simp
    obtain ⟨hIb, _⟩ := hbs2 _ (List.mem_cons_self ..)
    have hS4 : StRep I' ν stB ids' w4 := hS3.other (by omega) (fun i o hi => hoth i (fun e => by rw [e, hIb] at hi; cases hi)) (fun i hi => hoth i (fun e => hnbN ((hownN _).2 (e ▸ hi))))
    have hsz3 := p4.size
    -- what is not owned stays
    have hno0 : ∀ k, k < w.heap.size → ¬ owned μ st k → ¬ owned μc st0 k := fun k hk hno h => by
      rcases hown0 k h with h | h | ⟨i, bi, g, q1, q2⟩
      · omega
      · exact hno (hownx k h)
      · exact hno ⟨i, bi, g, hlc i bi q1, q2⟩
    have hblk : ∀ k, k < w1.heap.size → k ≠ wa.heap.size → ¬ owned μc st0 k → w4.heap[k]? = w1.heap[k]? := fun k hk hne hno => (hoth k hne).trans (p4.block k hk hno)
    have hfr : ∀ k, k < w1.heap.size → owned ν stB k → owned μc st0 k := fun k hk ho => p4.fresh k hk ⟨j2, _, _, hly, hg2, ownB_ptrs.2 (List.mem_cons_of_mem _ ((hownN k).2 ho))⟩
    have hExt : Ext I μ st w I' ν stB w4 :=
      { imm := p4.imm
        os := by rw [hw4]; unfold World.putObj; exact p4.os.trans (by rw [hw1, hwa]; rfl)
        tape := by rw [hw4]; unfold World.putObj; exact p4.tape.trans (by rw [hw1, hwa]; rfl)
        output := by rw [hw4]; unfold World.putObj; exact p4.output.trans (by rw [hw1, hwa]; rfl)
        size := by omega
        block := fun k hk hno => (hblk k (by omega) (by omega) (hno0 k hk hno)).trans (hw1o k hk)
        fresh := fun k hk ho => by
          rcases hown0 k (hfr k (by omega) ho) with h | h | ⟨i, bi, g, q1, q2⟩
          · omega
          · exact hownx k h
          · exact ⟨i, bi, g, hlc i bi q1, q2⟩
        old := fun k hk hno => p4.old k (by omega) (hno0 k hk hno) }
    have hMk : MarksOk I' ν stB w4 ([{ target := .collected w.heap.size, args := #[] }] ++ a.defers) := by
      obtain ⟨rs, r1, r2, r3⟩ := hc.defers
      refine ⟨w.heap.size :: rs, by rw [r1]; rfl, List.nodup_cons.2 ⟨fun hm => ?_, r2⟩, fun r hr => ?_⟩
      · have := lt_of_heap (r3 _ hm).1; omega
      have hno : ¬ owned μc st0 r ∧ r < w1.heap.size ∧ r ≠ wa.heap.size ∧ w1.heap[r]? = some (.deferred (some [])) ∧ I r = none := by
        rcases List.mem_cons.1 hr with rfl | hr
        · refine ⟨fun h => ?_, by omega, by omega, hw1m, hInew _ (Nat.le_refl _)⟩
          rcases hown0 _ h with h | h | ⟨i, bi, g, q1, q2, q3⟩
          · omega
          · have := hltx _ h; omega
          · have := owned_lt hc.toStRep ⟨i, bi, g, hlc i bi q1, q2, q3⟩; omega
        · obtain ⟨h1, h2, h3⟩ := r3 r hr
          have hlt := lt_of_heap h1
          exact ⟨hno0 r hlt h3, by omega, by omega, (hw1o r hlt).trans h1, h2⟩
      obtain ⟨h1, h2, h3, h4, h5⟩ := hno
      exact ⟨(hblk r h2 h3 h1).trans h4, (p4.old r h2 h1).trans h5, fun ho => h1 (hfr r h2 ho)⟩
    have hC : Conc n I' ν E stB ids' { a with defers := [{ target := .collected w.heap.size, args := #[] }] ++ a.defers } w4 :=
      { hS4 with size := hc.size, env := fun t d hl => by have := hE3 t d (by rw [hL]; exact hl); rw [hL] at this; exact this, defers := hMk }
    have hden : Den (jumpI pend ++ k) ((pend.map Item.code).toList ++ is) := by
      cases pend with
      | none => exact hki
      | some c => exact ⟨rfl, hki⟩
    refine Reach.mono (fun e a' w' hp => ?_) (hk b cs I' ν _ w4 _ hden hC)
    obtain ⟨x', env', st', ids2, I2, μ2, t1, t2, t3, t4, t5, t6⟩ := hp
    have hpin : Pin F μ ν := by rw [hL] at hFN; exact hFN
    refine ⟨x', env', st', ids2, I2, μ2, t1, t2, t3, hpin.trans t4, hExt.trans t5, fun r hr => ?_⟩
    rcases t6 r hr with h | h
    · simp only [List.singleton_append, List.mem_cons] at h
      rcases h with h | h
      · simp only [mkD, Deferred.mk.injEq, Target.collected.injEq, and_true] at h
        exact .inr (by omega)
      · exact .inl h
    · exact .inr (by omega)

end
end Go.Hk

/- A block behind a pointer that nobody writes any more; what a function does that ranges (iterators). -/
namespace Go.Hk

section
variable {P : Program} {n : Nat} {F : List Nat} {Q : DQ} {tt : TT} {env : Env} {st : St} {ids : List Nat} {todo : List DI}

/-- A block that is owned becomes immutable: the pointer to it is one by value. -/
theorem dgo_freezeP (t : Nat) {id off : Nat} {ty : TypeId} {sz : Nat} {xs : List V} (he : lk env t = some (.ref id off)) (hl : lk st id = some (some (.immb ty sz xs))) (h : DGo P n F Q todo ((t, .ip ty xs off) :: env) ((id, none) :: st) ids) :
    DGo P n F Q todo env st ids := by
  intro b cs I μ a w items hd hc
  have hlive : live st id (.immb ty sz xs) := hl
  obtain ⟨g, hg, hlen, gb, vs, rfl, hheap, hrep, hone⟩ := hc.blk id _ hlive
  obtain ⟨hno, hlt⟩ := hc.apart id _ _ gb hlive hg rfl
  obtain ⟨J, hJ⟩ : ∃ J : Imm, J = fun k => if k = gb then some (.cells vs ty (0, 0)) else I k := ⟨_, rfl⟩
  have hle : I.le J := fun k o h => by
    have : k ≠ gb := fun e => by rw [e, hno] at h; cases h
    rw [hJ]; simp [this, h]
  have hJo : ∀ k o, J k = some o → I k = some o ∨ (k = gb ∧ w.heap[k]? = some o) := fun k o h => by
    rw [hJ] at h
    by_cases hk : k = gb
    · subst hk; simp at h; subst h; exact .inr ⟨rfl, hheap⟩
    · simp [hk] at h; exact .inl h
  have hE : Ext I μ st w J μ ((id, none) :: st) w :=
    { imm := hle, os := rfl, tape := rfl, output := rfl, size := Nat.le_refl _
      block := fun _ _ _ => rfl
      fresh := fun k _ ⟨i, bi, gi, h1, h2, h3⟩ => ⟨i, bi, gi, (live_del.1 h1).2, h2, h3⟩
      old := fun k _ ho => by
        have : k ≠ gb := fun e => ho (e ▸ ⟨id, _, _, hlive, hg, rfl⟩)
        rw [hJ]; simp [this] }
  have hv : RepD I μ (a.tmps.getD t undef) (.ref id off) := hc.env t _ he
  have hptr : a.tmps.getD t undef = .pointer (some ⟨gb, off, none⟩) := by
    generalize a.tmps.getD t undef = v at hv
    cases hv with
    | ref b' _ _ hm => rw [hg] at hm; cases hm; rfl
  have hip : RepD J μ (a.tmps.getD t undef) (.ip ty xs off) := by
    rw [hptr]
    have := RepD.ip (I := J) (μ := μ) gb 0 ty xs off (fun j => (vs[j]?).getD undef) (fun j x hx => ?_) (fun j x hx => ?_)
    · simpa using this
    · have hj : j < vs.size := by have := hrep.1; have := (List.getElem?_eq_some_iff.1 hx).1; simp at *; omega
      rw [hJ]
      simp only [Imm.cell, if_true, Nat.zero_add, Array.getElem?_eq_getElem hj, Option.getD_some, true_and]
      exact hone _ (by simp)
    · have hj : j < vs.size := by have := hrep.1; have := (List.getElem?_eq_some_iff.1 hx).1; simp at *; omega
      simp only [Array.getElem?_eq_getElem hj, Option.getD_some]
      exact (hrep.2 j _ x (by simp [hj]) hx).mono hle
  have hc' : Conc n J μ ((t, .ip ty xs off) :: env) ((id, none) :: st) ids a w :=
    { imm := fun k o h => (hJo k o h).elim (fun h => hc.imm k o h) fun h => h.2
      blk := fun i bi hli => by
        obtain ⟨_, h2⟩ := live_del.1 hli
        obtain ⟨gi, hgi, hr⟩ := hc.blk i bi h2
        exact ⟨gi, hgi, hr.mono hle (Mu.le_refl μ)⟩
      apart := fun i bi gi k hli hgi hk => by
        obtain ⟨h1, h2⟩ := live_del.1 hli
        obtain ⟨q1, q2⟩ := hc.apart i bi gi k h2 hgi hk
        refine ⟨?_, q2⟩
        cases hJk : J k with
        | none => rfl
        | some o =>
          rcases hJo k o hJk with h | ⟨h, _⟩
          · rw [q1] at h; cases h
          · exact absurd (hc.inj i id bi _ gi _ k h2 hlive hgi hg hk (by rw [h]; rfl)) h1
      inj := fun i j bi bj gi gj k hi hj hgi hgj hki hkj => hc.inj i j bi bj gi gj k (live_del.1 hi).2 (live_del.1 hj).2 hgi hgj hki hkj
      nodup := hc.nodup
      idsFree := hc.idsFree
      size := hc.size
      env := fun t' d hlt => by
        by_cases ht : t = t'
        · subst ht; rw [lk_cons_self] at hlt; cases hlt; exact hip
        · rw [lk_cons_ne _ _ ht] at hlt; exact (hc.env t' d hlt).mono hle (Mu.le_refl μ)
      defers := hc.defers.ext hE }
  exact (h b cs J μ a w items hd hc').mono fun e' a' w' hp => hp.back (.refl _ _) hE

/-- A block under another name. -/
theorem dgo_alias (i j : Nat) {ids' : List Nat} {blk : Blk} (hl : lk st i = some (some blk)) (hj : (memN ids j && nodupB ids' && allIn ids' ids && !memN ids' j) = true) (h : DGo P n F Q todo env ((j, some blk) :: (i, none) :: st) ids') : DGo P n F Q todo env st ids := by
  intro b cs I μ a w items hd hc
  simp only [Bool.and_eq_true, Bool.not_eq_true'] at hj
  obtain ⟨⟨⟨hj1, hj2⟩, hj3⟩, hj4⟩ := hj
  have hlive : live st i blk := hl
  obtain ⟨g, hg, hr⟩ := hc.blk i _ hlive
  have hjn : μ j = none := hc.idsFree j (memN_iff.1 hj1)
  have hij : i ≠ j := fun e => by rw [e, hjn] at hg; cases hg
  obtain ⟨ν, hν⟩ : ∃ ν : Mu, ν = fun k => if k = j then some g else μ k := ⟨_, rfl⟩
  have hνj : ν j = some g := by rw [hν]; simp
  have hνo : ∀ k, k ≠ j → ν k = μ k := fun k hk => by rw [hν]; simp [hk]
  have hle : μ.le ν := fun k v hk => by
    have : k ≠ j := fun e => by rw [e, hjn] at hk; cases hk
    rw [hνo k this]; exact hk
  have hst : ∀ k bk, live ((j, some blk) :: (i, none) :: st) k bk → (k = j ∧ bk = blk) ∨ (k ≠ j ∧ k ≠ i ∧ live st k bk) := fun k bk h => by
    rcases live_cons.1 h with h | ⟨h1, h⟩
    · exact .inl h
    · obtain ⟨h2, h3⟩ := live_del.1 h
      exact .inr ⟨h1, h2, h3⟩
  have hE : Ext I μ st w I ν ((j, some blk) :: (i, none) :: st) w :=
    { imm := Imm.le_refl I, os := rfl, tape := rfl, output := rfl, size := Nat.le_refl _, block := fun _ _ _ => rfl
      fresh := fun k _ ⟨x, bx, gx, h1, h2, h3⟩ => by
        rcases hst x bx h1 with ⟨rfl, rfl⟩ | ⟨q1, _, q3⟩
        · rw [hνj] at h2; cases h2; exact ⟨i, _, _, hlive, hg, h3⟩
        · exact ⟨x, bx, gx, q3, by rw [← hνo x q1]; exact h2, h3⟩
      old := fun _ _ _ => rfl }
  have hc' : Conc n I ν env ((j, some blk) :: (i, none) :: st) ids' a w :=
    { imm := hc.imm
      blk := fun k bk hk => by
        rcases hst k bk hk with ⟨rfl, rfl⟩ | ⟨q1, _, q3⟩
        · exact ⟨g, hνj, hr.mono (Imm.le_refl I) hle⟩
        · obtain ⟨g', h1, h2⟩ := hc.blk k bk q3
          exact ⟨g', hle _ _ h1, h2.mono (Imm.le_refl I) hle⟩
      apart := fun k bk gk m hk hgk hm => by
        rcases hst k bk hk with ⟨rfl, rfl⟩ | ⟨q1, _, q3⟩
        · rw [hνj] at hgk; cases hgk; exact hc.apart i _ _ m hlive hg hm
        · exact hc.apart k bk gk m q3 (by rw [← hνo k q1]; exact hgk) hm
      inj := fun k k' bk bk' gk gk' m hk hk' hgk hgk' hm hm' => by
        rcases hst k bk hk with ⟨rfl, rfl⟩ | ⟨q1, p1, q3⟩ <;> rcases hst k' bk' hk' with ⟨rfl, rfl⟩ | ⟨q1', p1', q3'⟩
        · rfl
        · rw [hνj] at hgk; cases hgk
          exact absurd (hc.inj k' i bk' _ gk' _ m q3' hlive (by rw [← hνo k' q1']; exact hgk') hg hm' hm) p1'
        · rw [hνj] at hgk'; cases hgk'
          exact absurd (hc.inj k i bk _ gk _ m q3 hlive (by rw [← hνo k q1]; exact hgk) hg hm hm') p1
        · exact hc.inj k k' bk bk' gk gk' m q3 q3' (by rw [← hνo k q1]; exact hgk) (by rw [← hνo k' q1']; exact hgk') hm hm'
      nodup := nodupB_spec hj2
      idsFree := fun k hk => by
        have h1 := hc.idsFree k (allIn_spec hj3 k hk)
        have : k ≠ j := fun e => by rw [← e] at hj4; rw [memN_iff.2 hk] at hj4; cases hj4
        rw [hνo k this]; exact h1
      size := hc.size
      env := fun t d hlt => (hc.env t d hlt).mono (Imm.le_refl I) hle
      defers := hc.defers.ext hE }
  exact (h b cs I ν a w items hd hc').mono fun e' a' w' hp => hp.back (.of_le hle) hE

/-- The calls of yield of an iterator. 'r': whether the last one has said that it goes on. -/
inductive Yields (P : Program) : List D → Bun → Bool → Bun → Prop where
  | nil (S : Bun) : Yields P [] S true S
  | cons {d : D} {l : List D} {S S1 S2 : Bun} {r : Bool} (h : EffY P [d] S true S1) (h1 : Yields P l S1 r S2) : Yields P (d :: l) S r S2
  | stop {d : D} {l : List D} {S S1 : Bun} (h : EffY P [d] S false S1) : Yields P (d :: l) S false S1

theorem Yields.split {l m : List D} {S S2 : Bun} {r : Bool} (h : Yields P (l ++ m) S r S2) : (∃ S1, Yields P l S true S1 ∧ Yields P m S1 r S2) ∨ (r = false ∧ Yields P l S false S2) := by
  induction l generalizing S with
  | nil => exact .inl ⟨S, .nil S, h⟩
  | cons d l ih =>
    cases h with
    | cons h h1 =>
      rcases ih h1 with ⟨S1, q1, q2⟩ | ⟨q1, q2⟩
      · exact .inl ⟨S1, .cons h q1, q2⟩
      · exact .inr ⟨q1, .cons h q2⟩
    | stop h => exact .inr ⟨rfl, .stop h⟩

theorem Yields.nilInv {S S2 : Bun} {r : Bool} (h : Yields P [] S r S2) : r = true ∧ S2 = S := by
  cases h; exact ⟨rfl, rfl⟩

/-- What goes on at every item. -/
theorem Yields.all {l : List D} (S : Nat → Bun) (h : ∀ i d, l[i]? = some d → EffY P [d] (S i) true (S (i + 1))) : Yields P l (S 0) true (S l.length) := by
  have : ∀ (l : List D) (k : Nat), (∀ i d, l[i]? = some d → EffY P [d] (S (k + i)) true (S (k + i + 1))) → Yields P l (S k) true (S (k + l.length)) := by
    intro l
    induction l with
    | nil => intro k _; exact .nil _
    | cons d l ih =>
      intro k h
      have := ih (k + 1) fun i d hi => by
        have := h (i + 1) d (by simpa using hi)
        rwa [show k + 1 + i = k + (i + 1) by omega]
      rw [show k + 1 + l.length = k + (d :: l).length by simp; omega] at this
      exact .cons (h 0 d rfl) this
  have := this l 0 fun i d hi => by simpa using h i d hi
  simpa using this

end
end Go.Hk

/- Contracts of term: all strings of letters, gone through by a function; the first name that is none of some. -/
namespace Go.Hk
open Go.Proofs

def ttL : TT := [
  (3, ⟨.int .i64, false, 1, 8, [.imm (.int .i64 0)]⟩),
  (9, ⟨.str, false, 1, 16, [.imm (.str [])]⟩),
  (4, ⟨.bool, false, 1, 1, [.imm (.bool false)]⟩),
  (53, ⟨.map 9 4, false, 1, 8, [.imm .nilmap]⟩),
  (70, ⟨.func, false, 1, 8, [.imm .nilfn]⟩),
  (2, ⟨.int .i64, false, 1, 8, [.imm (.int .i64 0)]⟩),
  (55, ⟨.func, false, 1, 8, [.imm .nilfn]⟩),
  (25, ⟨.func, false, 1, 8, [.imm .nilfn]⟩),
  (21, ⟨.int .i32, false, 1, 4, [.imm (.int .i32 0)]⟩),
  (22, ⟨.sl 9, false, 1, 24, [.nils]⟩),
  (54, ⟨.func, false, 1, 8, [.imm .nilfn]⟩)]
theorem ttL_ok : TTok Try.prog ttL := .of_eq (l := [3, 9, 4, 53, 70, 2, 55, 25, 21, 22, 54]) (by kernel_rfl)

section
variable {n : Nat} {F : List Nat} {Q : DQ} {env env' : Env} {st st' : St} {ids ids' : List Nat} {k todo : List DI} {ob : List Prop}
theorem ld (path : List Pt) (h : run ttL n 300 path todo env st ids [] = .at k env' st' ids' ob) (hob : allP ob) (hd : G Try.prog n F Q k env' st' ids') : DGo Try.prog n F Q todo env st ids := d_run ttL_ok mixed 300 path h hob hd
theorem lg (path : List Pt) (h : run ttL n 300 path todo env st ids [] = .at k env' st' ids' ob) (hob : allP ob) (hd : G Try.prog n F Q k env' st' ids') : G Try.prog n F Q todo env st ids := g_run ttL_ok mixed 300 path h hob hd
theorem li {es : List (List V)} {m : Int} {sz : Nat} {e : TypeId} {g : Option (Bool × Bool)} {ob : List Prop} {t : Nat} {todo' : List DI} {c : List V} (h : pidx ttL n env todo = some ⟨es, m, sz, e, g, ob, some t, todo'⟩)
    (hc : cxOf g → 0 ≤ m ∧ es[m.toNat]? = some c ∧ c.length = sz) (hob : allP ob) (hk : G Try.prog n F Q todo' ((t, gD g (.ip e c 0)) :: env) st ids) : G Try.prog n F Q todo env st ids := g_index ttL_ok h hc hob hk
end

/-! ### Strings of letters, by their length, and sorted -/
def runK (f : Nat → List Str) : Nat → Nat → List Str
  | _, 0 => []
  | k, n + 1 => f k ++ runK f (k + 1) n
def itemsS : Nat → Str → List Str
  | 0, b => [b]
  | m + 1, b => runK (fun k => itemsS m (b ++ [UInt8.ofNat (97 + k)])) 0 26
def dS (l : List Str) : List D := l.map fun s => .imm (.str s)

def putSt (r : St) : St := (1, some (.cells 25 1 [.yld 3])) :: (2, some (.cells 70 1 [.fn (.func 42) [] [.ref 1 0, .ref 2 0]])) :: r
def putC (b : Str) (m : Int) (r : Bool) (S S' : Bun) : Prop := EffC Try.prog 42 [.imm (.str b), .imm (.int .i64 m), .ref 1 0, .ref 2 0]
  (putSt [(3, some .pin), (4, some (.bun 3 S))]) (.ret (.imm (.bool r)) (putSt [(3, some .pin), (5, some (.bun 3 S'))]))

theorem runK_cons (f : Nat → List Str) (k n : Nat) : runK f k (n + 1) = f k ++ runK f (k + 1) n := rfl
theorem dS_app (a b : List Str) : dS (a ++ b) = dS a ++ dS b := by simp [dS]

set_option maxRecDepth 100000 in
theorem put_ok : ∀ (m : Nat) (b : Str) {r : Bool} {S S' : Bun}, m ≤ 1000 → b.length + m ≤ 1000000 → Yields Try.prog (dS (itemsS m b)) S r S' → putC b m r S S'
  | 0, b, r, S, S', _, hb, hY => by
    refine effc_of ttL_ok Try.func42 (by decide +kernel) rfl [6, 7, 8, 5] rfl rfl ?_
    refine lg [] rfl (by simp [cxOf]) ?_
    refine dgo_cond rfl (fun h => ?_) (fun h => by simp at h)
    refine ld [] rfl (by simp [cxOf]) ?_
    cases hY with
    | cons h h1 =>
      obtain ⟨rfl, rfl⟩ := h1.nilInv
      refine g_ycall (j := 4) (j2 := 6) rfl (by simp [cxOf]) trivial h rfl rfl rfl rfl rfl ?_
      refine lg [] rfl (by simp [cxOf]) ?_
      refine dgo_alias (ids' := []) 6 5 rfl rfl ?_
      exact dgo_ret ⟨_, rfl, tV rfl, rfl, rfl, rfl, rfl, trivial⟩
    | stop h =>
      refine g_ycall (j := 4) (j2 := 6) rfl (by simp [cxOf]) trivial h rfl rfl rfl rfl rfl ?_
      refine lg [] rfl (by simp [cxOf]) ?_
      refine dgo_alias (ids' := []) 6 5 rfl rfl ?_
      exact dgo_ret ⟨_, rfl, tV rfl, rfl, rfl, rfl, rfl, trivial⟩
  | m + 1, b, r, S, S', hm, hb, hY => by
    refine effc_of ttL_ok Try.func42 (by decide +kernel) rfl [6, 7, 8, 5] rfl rfl ?_
    refine lg [] rfl (by simp [cxOf]) ?_
    refine dgo_cond rfl (fun h => by simp at h; omega) (fun h => ?_)
    refine ld [] rfl (by simp [cxOf]) ?_
    refine dgo_alias (ids' := [7, 8, 5]) 4 6 rfl rfl ?_
    refine dgo_enter (fun y : Nat × Bun => [(13, .imm (.int .i64 y.1)), (0, .imm (.str b)), (1, .imm (.int .i64 ((m + 1 : Nat) : Int))), (2, .ref 1 0), (3, .ref 2 0)])
      (fun y => putSt [(3, some .pin), (6, some (.bun 3 y.2))]) [7, 8, 5] (fun y => 26 - y.1)
      (fun y => y.1 ≤ 26 ∧ Yields Try.prog (dS (runK (fun k => itemsS m (b ++ [UInt8.ofNat (97 + k)])) y.1 (26 - y.1))) y.2 r S') (0, S) ⟨Nat.zero_le _, hY⟩ ⟨rfl, rfl, rfl, rfl, rfl, trivial⟩ ⟨rfl, rfl, rfl, rfl, trivial⟩ rfl fun y hi ih => ?_
    obtain ⟨k, S0⟩ := y
    obtain ⟨hi1, hi2⟩ := hi
    simp only at hi1 hi2
    refine ld [] rfl (by simp [cxOf]) ?_
    refine dgo_cond rfl (fun h => ?_) (fun h => ?_)
    · simp at h
      have hk : 26 - k = (26 - (k + 1)) + 1 := by omega
      rw [hk, runK_cons, dS_app] at hi2
      have w1 : IntKind.i64.wrap (97 + (k : Int)) = 97 + k := w64 (by omega) (by omega)
      have w2 : IntKind.i32.wrap (97 + (k : Int)) = 97 + k := by
        simp only [IntKind.wrap, IntKind.bits, IntKind.signed]
        simp
        omega
      have w4 : (97 + (k : Int)).toNat = 97 + k := by omega
      have w3 : IntKind.i64.wrap (((m + 1 : Nat) : Int) - 1) = m := by rw [w64 (by omega) (by omega)]; omega
      refine ld [] rfl (by simp only [w1, w2]; simp [cxOf]; omega) ?_
      have hcall : ∀ (x : Str) (y : Int) (r1 : Bool) (S1 : Bun), x = b ++ [UInt8.ofNat (97 + k)] → y = m → Yields Try.prog (dS (itemsS m (b ++ [UInt8.ofNat (97 + k)]))) S0 r1 S1 → putC x y r1 S0 S1 := fun x y r1 S1 hx hy h => by
        rw [hx, hy]
        exact put_ok m _ (by omega) (by simp; omega) h
      rcases Yields.split hi2 with ⟨S1, q1, q2⟩ | ⟨q1, q2⟩
      · refine g_call (fr := [7]) [(1, 1), (2, 2), (3, 3), (6, 4)] [(5, 7)] rfl (by simp) (hcall _ _ true S1 (by rw [w1, w2, w4]) (by rw [w3]) q1) ⟨⟨rfl, rfl, rfl⟩, ⟨rfl, rfl, rfl⟩, ⟨rfl, rfl, rfl⟩, ⟨rfl, rfl, rfl⟩, trivial⟩ rfl rfl rfl rfl ?_
        refine lg [] rfl (by simp [cxOf]) ?_
        refine dgo_cond rfl (fun h => by simp at h) (fun h => ?_)
        refine ld [] rfl (by simp) ?_
        refine dgo_swap 6 7 rfl ?_
        exact dgo_again (ih (k + 1, S1) (by simp only; omega) ⟨by simp only; omega, q2⟩) ⟨tInt (w64 (by simp only; omega) (by simp only; omega)), rfl, rfl, rfl, rfl, trivial⟩ ⟨rfl, rfl, rfl, rfl, trivial⟩ rfl
      · subst q1
        refine g_call (fr := [7]) [(1, 1), (2, 2), (3, 3), (6, 4)] [(5, 7)] rfl (by simp) (hcall _ _ false S' (by rw [w1, w2, w4]) (by rw [w3]) q2) ⟨⟨rfl, rfl, rfl⟩, ⟨rfl, rfl, rfl⟩, ⟨rfl, rfl, rfl⟩, ⟨rfl, rfl, rfl⟩, trivial⟩ rfl rfl rfl rfl ?_
        refine lg [] rfl (by simp [cxOf]) ?_
        refine dgo_cond rfl (fun h => ?_) (fun h => by simp at h)
        refine ld [] rfl (by simp) ?_
        refine dgo_alias (ids' := []) 7 5 rfl rfl ?_
        exact dgo_ret ⟨_, rfl, tV rfl, rfl, rfl, rfl, rfl, trivial⟩
    · simp at h
      have hk : 26 - k = 0 := by omega
      rw [hk] at hi2
      obtain ⟨rfl, rfl⟩ := hi2.nilInv
      refine dgo_exit rfl ?_
      refine ld [] rfl (by simp) ?_
      refine dgo_alias (ids' := []) 6 5 rfl rfl ?_
      exact dgo_ret ⟨_, rfl, tV rfl, rfl, rfl, rfl, rfl, trivial⟩

set_option maxRecDepth 100000 in
theorem strings1_ok {S S' : Bun} (hY : Yields Try.prog (dS (itemsS 1 [] ++ itemsS 2 [])) S false S') :
    EffC Try.prog 41 [.yld 3] [(3, some .pin), (4, some (.bun 3 S))] (.ret (.tup []) [(3, some .pin), (5, some (.bun 3 S'))]) := by
  refine effc_of ttL_ok Try.func41 (by decide +kernel) rfl [1, 2, 6, 7, 8, 5] rfl rfl ?_
  refine lg [] rfl (by simp [cxOf]) ?_
  refine dgo_alias (ids' := [7, 8, 5]) 4 6 rfl rfl ?_
  refine dgo_enter (fun y : Nat × Bun => [(3, .imm (.int .i64 y.1)), (1, .ref 1 0), (2, .ref 2 0)])
    (fun y => putSt [(3, some .pin), (6, some (.bun 3 y.2))]) [7, 8, 5] (fun y => 3 - y.1)
    (fun y => (y.1 = 1 ∧ Yields Try.prog (dS (itemsS 1 [] ++ itemsS 2 [])) y.2 false S') ∨ (y.1 = 2 ∧ Yields Try.prog (dS (itemsS 2 [])) y.2 false S')) (1, S) (.inl ⟨rfl, hY⟩) ⟨rfl, rfl, rfl, trivial⟩ ⟨rfl, rfl, rfl, rfl, trivial⟩ rfl fun y hi ih => ?_
  obtain ⟨k, S0⟩ := y
  simp only at hi
  refine ld [] rfl (by simp [cxOf]) ?_
  have hcall : ∀ (n : Nat) (y : Int) (r1 : Bool) (S1 : Bun), n ≤ 2 → y = n → Yields Try.prog (dS (itemsS n [])) S0 r1 S1 → putC [] y r1 S0 S1 := fun n y r1 S1 hn hy h => by
    rw [hy]
    exact put_ok n _ (by omega) (by simp; omega) h
  rcases hi with ⟨hk, hi⟩ | ⟨hk, hi⟩
  · rw [dS_app] at hi
    rcases Yields.split hi with ⟨S1, q1, q2⟩ | ⟨_, q2⟩
    · refine g_call (fr := [7]) [(1, 1), (2, 2), (3, 3), (6, 4)] [(5, 7)] rfl (by simp) (hcall 1 _ true S1 (by omega) (by rw [hk]) q1) ⟨⟨rfl, rfl, rfl⟩, ⟨rfl, rfl, rfl⟩, ⟨rfl, rfl, rfl⟩, ⟨rfl, rfl, rfl⟩, trivial⟩ rfl rfl rfl rfl ?_
      refine lg [] rfl (by simp [cxOf]) ?_
      refine dgo_cond rfl (fun h => ?_) (fun h => by simp at h)
      refine ld [] rfl (by simp) ?_
      refine dgo_swap 6 7 rfl ?_
      exact dgo_again (ih (k + 1, S1) (by simp only; omega) (.inr ⟨by simp only; omega, q2⟩)) ⟨tInt (w64 (by simp only; omega) (by simp only; omega)), rfl, rfl, trivial⟩ ⟨rfl, rfl, rfl, rfl, trivial⟩ rfl
    · refine g_call (fr := [7]) [(1, 1), (2, 2), (3, 3), (6, 4)] [(5, 7)] rfl (by simp) (hcall 1 _ false S' (by omega) (by rw [hk]) q2) ⟨⟨rfl, rfl, rfl⟩, ⟨rfl, rfl, rfl⟩, ⟨rfl, rfl, rfl⟩, ⟨rfl, rfl, rfl⟩, trivial⟩ rfl rfl rfl rfl ?_
      refine lg [] rfl (by simp [cxOf]) ?_
      refine dgo_cond rfl (fun h => by simp at h) (fun h => ?_)
      refine dgo_exit rfl ?_
      refine dgo_alias (ids' := []) 7 5 rfl rfl ?_
      exact dgo_end ⟨[], rfl, rfl, rfl, rfl, trivial⟩
  · refine g_call (fr := [7]) [(1, 1), (2, 2), (3, 3), (6, 4)] [(5, 7)] rfl (by simp) (hcall 2 _ false S' (by omega) (by rw [hk]) hi) ⟨⟨rfl, rfl, rfl⟩, ⟨rfl, rfl, rfl⟩, ⟨rfl, rfl, rfl⟩, ⟨rfl, rfl, rfl⟩, trivial⟩ rfl rfl rfl rfl ?_
    refine lg [] rfl (by simp [cxOf]) ?_
    refine dgo_cond rfl (fun h => by simp at h) (fun h => ?_)
    refine dgo_exit rfl ?_
    refine dgo_alias (ids' := []) 7 5 rfl rfl ?_
    exact dgo_end ⟨[], rfl, rfl, rfl, rfl, trivial⟩

set_option maxRecDepth 100000 in
theorem strings_ok : PureC Try.prog 28 [] (.fn (.func 41)) := by
  refine effc_of ttL_ok Try.func28 (by decide +kernel) rfl [] rfl rfl ?_
  refine lg [] rfl (by simp [cxOf]) ?_
  exact dgo_ret ⟨_, rfl, tV rfl, trivial⟩

/-! ### The first name that is none of some -/
def addS (l : List Str) (s : Str) : List Str := if hasS l s then l else l ++ [s]
theorem setK_add (l : List Str) (s : Str) : setM (setK l) (.str s) (.bool true) = setK (addS l s) := by
  unfold addS
  by_cases h : hasS l s = true
  · rw [if_pos h]
    induction l with
    | nil => simp [hasS] at h
    | cons x r ih =>
      simp only [hasS, Bool.or_eq_true] at h
      simp only [setK, List.map_cons, setM, eqK]
      by_cases hx : s = x
      · subst hx; simp
      · have h2 : hasS r s = true := by
          rcases h with h | h
          · exact absurd (by simpa using h) (fun e : x = s => hx e.symm)
          · exact h
        have := ih h2
        simp only [setK] at this
        simp [hx, this]
  · rw [if_neg h]
    exact setK_new l s (by simpa using h)
theorem hasS_app (l m : List Str) (x : Str) : hasS (l ++ m) x = (hasS l x || hasS m x) := by
  induction l with
  | nil => simp [hasS]
  | cons y r ih => simp [hasS, ih, Bool.or_assoc]
theorem hasS_add (l : List Str) (s x : Str) : hasS (addS l s) x = hasS (l ++ [s]) x := by
  unfold addS
  by_cases h : hasS l s = true
  · rw [if_pos h, hasS_app]
    by_cases hx : s = x
    · subst hx; rw [h]; rfl
    · simp [hasS, hx]
  · rw [if_neg h]

theorem dgo_fnD {P : Program} {n : Nat} {F : List Nat} {Q : DQ} {env : Env} {st : St} {ids : List Nat} {todo : List DI} (t : Nat) {f : Fn} (he : lk env t = some (.imm (.fn f))) (h : DGo P n F Q todo ((t, .fn f [] []) :: env) st ids) : DGo P n F Q todo env st ids := by
  intro b cs I μ a w items hd hc
  refine h b cs I μ a w items hd { hc with env := fun t' d hl => ?_ }
  by_cases ht : t = t'
  · subst ht
    rw [lk_cons_self] at hl; cases hl
    rw [(hc.env t _ he).immInv.fnInv]
    exact .fn _ #[] #[] [] [] rfl rfl (fun i v d h => by simp at h) (fun i v d h => by simp at h)
  · rw [lk_cons_ne _ _ ht] at hl; exact hc.env t' d hl

theorem Yields.pre {P : Program} {l : List D} {d : D} {m : List D} {S S' : Bun} (h : ∀ x ∈ l, EffY P [x] S true S) (h1 : EffY P [d] S false S') : Yields P (l ++ d :: m) S false S' := by
  induction l with
  | nil => exact .stop h1
  | cons x r ih => exact .cons (h x (by simp)) (ih fun y hy => h y (by simp [hy]))

def stF (met : List Str) (s : Str) : St := [(1, some (.immb 9 1 [.str s])), (2, some (.map (setK met))), (3, some (.cells 53 1 [.mapr 2]))]


def rfAB2 : Code → Option (Code × Code)
  | .rangeFunc _ _ a b => some (a, b)
  | .seq x y => match rfAB2 x with
    | some r => some r
    | none => rfAB2 y
  | .block _ c => rfAB2 c
  | _ => none
def rfAsg2 (f : Func) : Code := match rfAB2 (tailC f 0) with
  | some (a, _) => a
  | none => .skip
def rfBody2 (f : Func) : Code := match rfAB2 (tailC f 0) with
  | some (_, b) => b
  | none => .skip

/-- Whether a string is what is looked for. -/
def freshB (l : List Str) (s : Str) : Bool := nameS s && !hasS l s

set_option maxRecDepth 100000 in
theorem Fresh_on (met : List Str) (u : Str) (hu : freshB met u = false) {L : LoopI} (h1 : Try.prog.funcs[L.fn]?.isSome) (h2 : L.tmps.size = Try.f10.ntmps) (h3 : L.ps = #[18]) (h4 : L.asg = rfAsg2 Try.f10)
    (h5 : L.body = rfBody2 Try.f10) (h6 : L.E = [(2, .ref 1 0), (3, .ref 3 0)]) (h7 : L.F = []) : EffY Try.prog [.imm (.str u)] (bunOf L (stF met []) none) true (bunOf L (stF met []) none) := by
  obtain ⟨fc, hf⟩ := Option.isSome_iff_exists.1 h1
  refine effy_of (pend := none) (d := .imm (.str u)) (ids := [7, 8]) (t := 6) (p := 18) hf h3 (h4.trans rfl) h2 rfl rfl rfl rfl (by decide) (by decide) ?_ ?_
  · rw [h6, h7]
    refine ⟨by decide, ?_⟩
    simp [stF, nmE, nmD, nmSt, nmB, nmL]
  · rw [h5, h6, h7]
    refine ld [] rfl (by simp [cxOf]) ?_
    refine g_pcall rfl (fun _ => tName_ok u) (by simp [cxOf]) ?_
    refine lg [] rfl (by simp [cxOf]) ?_
    refine g_mlook ttL_ok 2 rfl rfl rfl (setK_keys met) (by simp [cxOf]) (z := .bool false) rfl (fun _ => .bool _) (setK_look met u) ?_
    refine lg [] rfl (by simp [cxOf]) ?_
    have hu' : (nameS u && !hasS met u) = false := hu
    refine dgo_cond rfl (fun h => ?_) (fun h => ?_)
    · exfalso
      cases hn : nameS u <;> cases hh : hasS met u <;> simp [hn, hh] at h hu'
    · refine ld [] rfl (by simp [cxOf]) ?_
      refine dgo_end (?_ : subSt _ (stF met []))
      exact ⟨rfl, rfl, rfl, trivial⟩

set_option maxRecDepth 100000 in
theorem Fresh_stop (met : List Str) (u : Str) (hu : freshB met u = true) {L : LoopI} (h1 : Try.prog.funcs[L.fn]?.isSome) (h2 : L.tmps.size = Try.f10.ntmps) (h3 : L.ps = #[18]) (h4 : L.asg = rfAsg2 Try.f10)
    (h5 : L.body = rfBody2 Try.f10) (h6 : L.E = [(2, .ref 1 0), (3, .ref 3 0)]) (h7 : L.F = []) : EffY Try.prog [.imm (.str u)] (bunOf L (stF met []) none) false (bunOf L (stF met u) (some .ret)) := by
  obtain ⟨fc, hf⟩ := Option.isSome_iff_exists.1 h1
  refine effy_of (pend := some .ret) (d := .imm (.str u)) (ids := [7, 8]) (t := 6) (p := 18) hf h3 (h4.trans rfl) h2 rfl rfl rfl rfl (by decide) (by decide) ?_ ?_
  · rw [h6, h7]
    refine ⟨by decide, ?_⟩
    simp [stF, nmE, nmD, nmSt, nmB, nmL]
  · rw [h5, h6, h7]
    refine ld [] rfl (by simp [cxOf]) ?_
    refine g_pcall rfl (fun _ => tName_ok u) (by simp [cxOf]) ?_
    refine lg [] rfl (by simp [cxOf]) ?_
    refine g_mlook ttL_ok 2 rfl rfl rfl (setK_keys met) (by simp [cxOf]) (z := .bool false) rfl (fun _ => .bool _) (setK_look met u) ?_
    refine lg [] rfl (by simp [cxOf]) ?_
    have hu' : (nameS u && !hasS met u) = true := hu
    refine dgo_cond rfl (fun h => ?_) (fun h => ?_)
    · refine ld [] rfl (by simp [cxOf]) ?_
      refine dgo_ret (?_ : subSt _ (stF met u))
      exact ⟨rfl, rfl, rfl, trivial⟩
    · exfalso
      cases hn : nameS u <;> cases hh : hasS met u <;> simp [hn, hh] at h hu'

set_option maxRecDepth 100000 in
theorem Fresh_ok (l : List Str) (s : Str) (pre post : List Str) (hl : l.length ≤ 1000000) (hsp : itemsS 1 [] ++ itemsS 2 [] = pre ++ s :: post) (hpre : ∀ x ∈ pre, freshB l x = false) (hs : freshB l s = true) :
    PureC Try.prog 10 [.sl (dStr l)] (.str s) := by
  refine effc_of ttL_ok Try.func10 (by decide +kernel) rfl [1, 2, 3, 4, 7, 8] rfl rfl ?_
  refine lg [] rfl (by simp [cxOf]) ?_
  refine g_mkmap rfl ?_
  refine lg [] rfl (by simp [cxOf]) ?_
  refine dgo_enter (fun y : Nat × List Str => [(10, .imm (.int .i64 y.1)), (9, .imm (.int .i64 l.length)), (8, .imm (.sl (dStr l))), (2, .ref 1 0), (3, .ref 3 0)]) (fun y => stF y.2 []) [7, 8] (fun y => l.length - y.1)
    (fun y => y.1 ≤ l.length ∧ ∀ x, hasS y.2 x = hasS (l.take y.1) x) (0, []) ⟨Nat.zero_le _, fun _ => rfl⟩ ⟨rfl, tInt (by simp), rfl, rfl, rfl, trivial⟩ ⟨rfl, rfl, rfl, trivial⟩ rfl fun y hi ih => ?_
  obtain ⟨i, met⟩ := y
  obtain ⟨hi1, hi2⟩ := hi
  simp only at hi1 hi2
  refine ld [] rfl (by simp [cxOf]) ?_
  refine dgo_cond rfl (fun h => ?_) (fun h => ?_)
  · simp at h
    obtain ⟨x, hx⟩ := has_get h
    refine ld [] rfl (by simp) ?_
    refine li rfl (c := [.str x]) (fun _ => ⟨by simp, by simpa using dStr_get hx, rfl⟩) (by simp) ?_
    refine lg [] rfl (by simp) ?_
    refine g_mset ttL_ok rfl rfl rfl (setK_keys met) ?_
    refine lg [] rfl (by simp) ?_
    rw [setK_add]
    exact dgo_again (ih (i + 1, addS met x) (by simp only; omega) ⟨by simp only; omega, fun y => by simp only; rw [hasS_add, hasS_app, hi2 y, get_take hx, hasS_app]⟩) ⟨tInt (w64 (by simp only; omega) (by simp only; omega)), rfl, rfl, rfl, rfl, trivial⟩ ⟨rfl, rfl, rfl, trivial⟩ rfl
  · simp at h
    have hi3 : ∀ x, freshB met x = freshB l x := fun x => by
      have := hi2 x
      rw [List.take_of_length_le (by omega)] at this
      simp only [freshB, this]
    refine dgo_exit rfl ?_
    refine ld [] rfl (by simp) ?_
    refine g_pcall rfl (fun _ => strings_ok) (by simp) ?_
    refine ld [] rfl (by simp) ?_
    refine dgo_fnD 17 rfl ?_
    refine dgo_range (y := 3) (j := 4) (j2 := 5) (stc := []) (stc' := []) (stx := stF met []) (stB := stF met s) (pend := some .ret) (E := [(2, .ref 1 0), (3, .ref 3 0)]) (ids' := [7, 8, 9]) (d := .tup []) rfl Try.func41 (by decide +kernel) rfl (by decide) ⟨rfl, rfl, trivial⟩
      (subSt_live ⟨rfl, rfl, rfl, trivial⟩) (fun L h1 h2 h3 h4 h5 h6 h7 => strings1_ok ?_) ?_ ?_ ?_ ?_ ?_
    · rw [hsp, dS_app]
      refine Yields.pre (fun x hx => ?_) (Fresh_stop met s (by rw [hi3]; exact hs) h1 h2 h3 h4 h5 h6 h7)
      obtain ⟨u, hu, rfl⟩ := List.mem_map.1 hx
      exact Fresh_on met u (by rw [hi3]; exact hpre u hu) h1 h2 h3 h4 h5 h6 h7
    · simp [nms]
    · simp [nms]
    · intro i hi
      have e : nmL (([] : List D) ++ []) = [] := rfl
      rw [e] at hi
      simp [nmSt] at hi
    · refine ⟨by decide, ?_⟩
      simp [stF, nmE, nmD, nmSt, nmB, nmL, nms]
    · exact dgo_ret ⟨_, rfl, tV rfl, trivial⟩

end Go.Hk

/- Contracts of hearthref01: strings of letters by number, the first name that is none of some; of hearthlaw01: short. -/
namespace Go.Hk
open Go.Proofs

def ttM : TT := ttL ++ [
  (5, ⟨.int .u8, false, 1, 1, [.imm (.int .u8 0)]⟩),
  (71, ⟨.sl 5, false, 1, 24, [.nils]⟩)]
theorem ttM_ok : TTok Try.prog ttM := .of_eq (l := [3, 9, 4, 53, 70, 2, 55, 25, 21, 22, 54, 5, 71]) (by kernel_rfl)

section
variable {n : Nat} {F : List Nat} {Q : DQ} {env env' : Env} {st st' : St} {ids ids' : List Nat} {k todo : List DI} {ob : List Prop}
theorem md (path : List Pt) (h : run ttM n 300 path todo env st ids [] = .at k env' st' ids' ob) (hob : allP ob) (hd : G Try.prog n F Q k env' st' ids') : DGo Try.prog n F Q todo env st ids := d_run ttM_ok mixed 300 path h hob hd
theorem mg (path : List Pt) (h : run ttM n 300 path todo env st ids [] = .at k env' st' ids' ob) (hob : allP ob) (hd : G Try.prog n F Q k env' st' ids') : G Try.prog n F Q todo env st ids := g_run ttM_ok mixed 300 path h hob hd
theorem mi {es : List (List V)} {m : Int} {sz : Nat} {e : TypeId} {g : Option (Bool × Bool)} {ob : List Prop} {t : Nat} {todo' : List DI} {c : List V} (h : pidx ttM n env todo = some ⟨es, m, sz, e, g, ob, some t, todo'⟩)
    (hc : cxOf g → 0 ≤ m ∧ es[m.toNat]? = some c ∧ c.length = sz) (hob : allP ob) (hk : G Try.prog n F Q todo' ((t, gD g (.ip e c 0)) :: env) st ids) : G Try.prog n F Q todo env st ids := g_index ttM_ok h hc hob hk
end

/-- The string with a number, below 702. -/
def letN (n : Nat) : Str := if n < 26 then [UInt8.ofNat (97 + n)] else [UInt8.ofNat (97 + (n / 26 - 1)), UInt8.ofNat (97 + n % 26)]

theorem wu8 (n : Nat) (h : n < 256) : IntKind.u8.wrap (n : Int) = n := by
  simp only [IntKind.wrap, IntKind.bits, IntKind.signed]
  simp
  omega

set_option maxRecDepth 100000 in
theorem letters_small (n : Nat) (h : n < 26) : PureC Try.prog 29 [.int .i64 n] (.str [UInt8.ofNat (97 + n)]) := by
  refine effc_of ttM_ok Try.func29 (by decide +kernel) rfl [1, 2] rfl rfl ?_
  refine mg [] rfl (by simp [cxOf]) ?_
  refine dgo_cond rfl (fun hc => ?_) (fun hc => by simp at hc; omega)
  refine md [] rfl (by simp [cxOf]) ?_
  refine dgo_ret ⟨_, rfl, tV (congrArg _ ?_), trivial⟩
  have w1 : IntKind.i64.wrap (97 + (n : Int)) = ((97 + n : Nat) : Int) := by rw [w64 (by omega) (by omega)]; omega
  rw [w1, wu8 _ (by omega)]
  rfl

set_option maxRecDepth 100000 in
theorem letters_big (n : Nat) (h : 26 ≤ n) (h2 : n < 702) : PureC Try.prog 29 [.int .i64 n] (.str [UInt8.ofNat (97 + (n / 26 - 1)), UInt8.ofNat (97 + n % 26)]) := by
  have hL : ∀ y : Int, y = ((n / 26 - 1 : Nat) : Int) → PureC Try.prog 29 [.int .i64 y] (.str [UInt8.ofNat (97 + (n / 26 - 1))]) := fun y hy => by
    rw [hy]; exact letters_small _ (by omega)
  refine effc_of ttM_ok Try.func29 (by decide +kernel) rfl [1, 2] rfl rfl ?_
  refine mg [] rfl (by simp [cxOf]) ?_
  refine dgo_cond rfl (fun hc => by simp at hc; omega) (fun hc => ?_)
  refine md [] rfl (by simp [cxOf]) ?_
  refine g_pcall rfl (fun _ => hL _ ?_) (by simp [cxOf]) ?_
  · have e : ((n : Int)).tdiv 26 = ((n / 26 : Nat) : Int) := rfl
    have w0 : IntKind.i64.wrap ((n / 26 : Nat) : Int) = ((n / 26 : Nat) : Int) := w64 (by omega) (by omega)
    rw [e, w0, w64 (by omega) (by omega)]
    omega
  refine mg [] rfl (by simp [cxOf]; rfl) ?_
  refine dgo_ret ⟨_, rfl, tV (congrArg _ ?_), trivial⟩
  have e : ((n : Int)).tmod 26 = ((n % 26 : Nat) : Int) := rfl
  have w1 : IntKind.i64.wrap (97 + ((n % 26 : Nat) : Int)) = ((97 + n % 26 : Nat) : Int) := by rw [w64 (by omega) (by omega)]; omega
  rw [e, w1, wu8 _ (by omega)]
  rfl

theorem letters_ok (n : Nat) (h : n < 702) : PureC Try.prog 29 [.int .i64 n] (.str (letN n)) := by
  unfold letN
  by_cases h2 : n < 26
  · rw [if_pos h2]; exact letters_small n h2
  · rw [if_neg h2]; exact letters_big n (by omega) h

set_option maxRecDepth 100000 in
/-- The first name with a number below 702 that is none of some. -/
theorem rFresh_ok (l : List Str) (k : Nat) (hk : k < 702) (hpre : ∀ j < k, freshB l (letN j) = false) (hs : freshB l (letN k) = true) : PureC Try.prog 11 [.sl (dStr l)] (.str (letN k)) := by
  refine effc_of ttM_ok Try.func11 (by decide +kernel) rfl [1, 2] rfl rfl ?_
  refine mg [] rfl (by simp [cxOf]) ?_
  refine dgo_enter (fun i : Nat => [(3, .imm (.int .i64 i)), (0, .imm (.sl (dStr l)))]) (fun _ => []) [1] (fun i => k - i) (fun i => i ≤ k) 0
    (Nat.zero_le _) ⟨rfl, rfl, trivial⟩ trivial rfl fun i hi ih => ?_
  refine md [] rfl (by simp [cxOf]) ?_
  refine g_pcall rfl (fun _ => letters_ok i (by omega)) (by simp [cxOf]) ?_
  refine mg [] rfl (by simp [cxOf]) ?_
  refine g_pcall rfl (fun _ => Name_ok (letN i)) (by simp [cxOf]) ?_
  refine mg [] rfl (by simp [cxOf]) ?_
  refine g_pcall rfl (fun _ => letters_ok i (by omega)) (by simp [cxOf]) ?_
  refine mg [] rfl (by simp [cxOf]) ?_
  refine g_pcall rfl (fun _ => Has_ok l (letN i)) (by simp [cxOf]) ?_
  refine mg [] rfl (by simp [cxOf]) ?_
  refine dgo_cond rfl (fun h => ?_) (fun h => ?_)
  · have hik : i < k := by
      by_cases e : i = k
      · subst e
        simp only [freshB, Bool.and_eq_true, Bool.not_eq_true'] at hs
        simp [hs.1, hs.2] at h
      · omega
    refine md [] rfl (by simp) ?_
    refine dgo_again (ih (i + 1) (by omega) (by omega)) ⟨tInt (w64 (by omega) (by omega)), rfl, trivial⟩ trivial rfl
  · have hik : i = k := by
      by_cases e : i < k
      · have := hpre i e
        simp only [freshB] at this
        cases hn : nameS (letN i) <;> cases hh : hasS l (letN i) <;> simp [hn, hh] at h this
      · omega
    subst hik
    refine dgo_exit rfl ?_
    refine md [] rfl (by simp) ?_
    refine g_pcall rfl (fun _ => letters_ok i (by omega)) (by simp) ?_
    refine mg [] rfl (by simp) ?_
    exact dgo_ret ⟨_, rfl, tV rfl, trivial⟩

set_option maxRecDepth 100000 in
theorem short_ok (l : List Str) : PureC Try.prog 4 [.sl (dStr l)] (.bool (decide (l.length ≤ 90) && (l.take 100).all fun s => decide (s.length ≤ 30))) := by
  refine pureC_ok fun hv => ?_
  simp [vOkL, vOk, maxLen] at hv
  refine effc_of ttM_ok Try.func4 (by decide +kernel) rfl [1, 2] rfl rfl ?_
  refine mg [] rfl (by simp [cxOf]) ?_
  refine dgo_enter (fun i : Nat => [(3, .imm (.int .i64 i)), (0, .imm (.sl (dStr l)))]) (fun _ => []) [1] (fun i => l.length - i) (fun i => i ≤ l.length ∧ i ≤ 100 ∧ (l.take i).all (fun s => decide (s.length ≤ 30)) = true) 0
    ⟨Nat.zero_le _, by omega, rfl⟩ ⟨rfl, rfl, trivial⟩ trivial rfl fun i hi ih => ?_
  obtain ⟨hi1, hi2, hi3⟩ := hi
  refine md [] rfl (by simp [cxOf]) ?_
  refine dgo_cond rfl (fun h => ?_) (fun h => ?_)
  · simp at h
    obtain ⟨s, hs⟩ := has_get (l := l) (i := i) (by omega)
    refine md [] rfl (by simp) ?_
    refine mi rfl (c := [.str s]) (fun _ => ⟨by simp, by simpa using dStr_get hs, rfl⟩) (by simp) ?_
    refine mg [] rfl (by simp) ?_
    refine dgo_cond rfl (fun h2 => ?_) (fun h2 => ?_)
    · refine md [] rfl (by simp) ?_
      refine dgo_ret ⟨_, rfl, tV (congrArg _ ?_), trivial⟩
      simp at h2
      symm
      rw [Bool.and_eq_false_iff]
      right
      rw [List.all_eq_false]
      exact ⟨s, List.mem_of_getElem? (i := i) (by rw [List.getElem?_take, if_pos (by omega)]; exact hs), by simp; omega⟩
    · refine md [] rfl (by simp) ?_
      simp at h2
      refine dgo_again (ih (i + 1) (by omega) ⟨by omega, by omega, by rw [get_take hs, List.all_append, hi3]; simp; omega⟩) ⟨tInt (w64 (by omega) (by omega)), rfl, trivial⟩ trivial rfl
  · refine md [] rfl (by simp) ?_
    refine dgo_ret ⟨_, rfl, tV (congrArg _ ?_), trivial⟩
    simp at h
    by_cases h9 : l.length ≤ 90
    · have : i = l.length := by
        by_cases hh : i < l.length
        · have := h (by omega); omega
        · omega
      subst this
      rw [List.take_of_length_le (Nat.le_refl _)] at hi3
      rw [List.take_of_length_le (by omega), hi3]
      simp
      omega
    · simp [h9]; omega

/-! ### The plain law: the first name that is none of some -/
def letAll (n k : Nat) : List Str := (List.range' n k).map letN

set_option maxRecDepth 100000 in
theorem items_let : itemsS 1 [] ++ itemsS 2 [] = (List.range 702).map letN := by decide +kernel

/-- Names among the strings. -/
def namesAt : List Nat := (List.range 702).filter fun n => nameS (letN n)

set_option maxRecDepth 100000 in
theorem names_many : decide (91 ≤ namesAt.length) = true := by decide +kernel

theorem letN_inj {a b : Nat} (ha : a < 702) (hb : b < 702) (h : letN a = letN b) : a = b := by
  have u : ∀ x y : Nat, x < 256 → y < 256 → UInt8.ofNat x = UInt8.ofNat y → x = y := fun x y hx hy e => by
    have := congrArg UInt8.toNat e
    simpa [Nat.mod_eq_of_lt hx, Nat.mod_eq_of_lt hy] using this
  unfold letN at h
  by_cases h1 : a < 26 <;> by_cases h2 : b < 26 <;> simp only [h1, h2, if_true, if_false, List.cons.injEq, and_true, reduceCtorEq, and_false] at h
  · have := u _ _ (by omega) (by omega) h; omega
  · have h3 := u _ _ (by omega) (by omega) h.1
    have h4 := u _ _ (by omega) (by omega) h.2
    omega

theorem hasS_mem {l : List Str} {s : Str} : hasS l s = true ↔ s ∈ l := by
  induction l with
  | nil => simp [hasS]
  | cons x r ih =>
    simp only [hasS, Bool.or_eq_true, beq_iff_eq, List.mem_cons, ih]
    constructor
    · rintro (h | h)
      · exact .inl h.symm
      · exact .inr h
    · rintro (h | h)
      · exact .inl h.symm
      · exact .inr h

theorem len_le_of_sub : ∀ (a : List Nat) (l : List Str), a.Nodup → (∀ n ∈ a, n < 702) → (∀ n ∈ a, letN n ∈ l) → a.length ≤ l.length
  | [], _, _, _, _ => by simp
  | n :: r, l, hn, hb, hm => by
    obtain ⟨h1, h2⟩ := List.nodup_cons.1 hn
    have hmem := hm n (by simp)
    have := len_le_of_sub r (l.erase (letN n)) h2 (fun x hx => hb x (by simp [hx])) fun x hx => by
      have hne : letN x ≠ letN n := fun e => h1 (letN_inj (hb x (by simp [hx])) (hb n (by simp)) e ▸ hx)
      exact (List.mem_erase_of_ne hne).2 (hm x (by simp [hx]))
    rw [List.length_erase_of_mem hmem] at this
    have hpos : 0 < l.length := List.length_pos_of_mem hmem
    simp only [List.length_cons]
    omega

/-- There is a first one. -/
theorem fresh_first (l : List Str) (hl : l.length ≤ 90) : ∃ k, k < 702 ∧ (∀ j < k, freshB l (letN j) = false) ∧ freshB l (letN k) = true := by
  have hex : ∃ k, k < 702 ∧ freshB l (letN k) = true := by
    apply Classical.byContradiction
    intro hno
    have hall : ∀ n ∈ namesAt, letN n ∈ l := fun n hn => by
      simp only [namesAt, List.mem_filter, List.mem_range] at hn
      apply Classical.byContradiction
      intro hm
      refine hno ⟨n, hn.1, ?_⟩
      have : hasS l (letN n) = false := by
        cases hh : hasS l (letN n) with
        | false => rfl
        | true => exact absurd (hasS_mem.1 hh) hm
      simp [freshB, hn.2, this]
    have := len_le_of_sub namesAt l (List.Pairwise.filter _ List.nodup_range) (fun n hn => by simp only [namesAt, List.mem_filter, List.mem_range] at hn; exact hn.1) hall
    have h2 := of_decide_eq_true names_many
    omega
  obtain ⟨k, hk1, hk2⟩ := hex
  induction k using Nat.strongRecOn with
  | _ k ih =>
    by_cases hall : ∀ j < k, freshB l (letN j) = false
    · exact ⟨k, hk1, hall, hk2⟩
    · simp only [Classical.not_forall, Bool.not_eq_false] at hall
      obtain ⟨j, hj1, hj2⟩ := hall
      exact ih j hj1 (by omega) hj2

theorem Fresh_both (l : List Str) (hl : l.length ≤ 90) : ∃ s, PureC Try.prog 10 [.sl (dStr l)] (.str s) ∧ PureC Try.prog 11 [.sl (dStr l)] (.str s) := by
  obtain ⟨k, hk, hpre, hs⟩ := fresh_first l hl
  refine ⟨letN k, Fresh_ok l (letN k) ((List.range k).map letN) ((List.range' (k + 1) (701 - k)).map letN) (by omega) ?_ (fun x hx => ?_) hs, rFresh_ok l k hk hpre hs⟩
  · rw [items_let]
    have : List.range 702 = List.range k ++ k :: List.range' (k + 1) (701 - k) := by
      rw [List.range_eq_range', List.range_eq_range', ← List.range'_succ]
      have h2 := List.range'_append_1 (s := 0) (m := k) (n := 701 - k + 1)
      rw [Nat.zero_add] at h2
      rw [h2]
      congr 1
      omega
    rw [this]; simp
  · obtain ⟨j, hj, rfl⟩ := List.mem_map.1 hx
    exact hpre j (List.mem_range.1 hj)

end Go.Hk

/- Values, blocks and frames of the ghost machine, which computes closed programs; how they stand for those of a world. -/
namespace Go.Gx

inductive G where
  | undef
  | bool (b : Bool)
  | int (k : IntKind) (n : Int)
  | str (len n : Nat)
  | nilp
  | ptr (b o : Nat)
  | nils
  | sl (b o len cap : Nat) (ex : Option Nat)
  | nilm
  | map (b : Nat)
  | nili
  | if_ (t : TypeId) (g : G)
  | nilf
  | fn (f : FuncId) (fi ca : List G)
  | yield (b : Nat)
  | agg (l : List G)
  | tup (l : List G)

/-! ### Strings as numbers -/
def pk : List UInt8 → Nat
  | [] => 0
  | b :: r => b.toNat + 256 * pk r

theorem pk_lt : ∀ l : List UInt8, pk l < 256 ^ l.length
  | [] => by simp [pk]
  | b :: r => by
    have := pk_lt r
    have hb := b.toNat_lt
    simp only [pk, List.length_cons, Nat.pow_succ]
    omega

theorem pk_inj : ∀ {a b : List UInt8}, a.length = b.length → pk a = pk b → a = b
  | [], [], _, _ => rfl
  | x :: a, y :: b, hl, h => by
    have hx := x.toNat_lt
    have hy := y.toNat_lt
    simp only [pk] at h
    have h1 : x.toNat = y.toNat := by omega
    have h2 : pk a = pk b := by omega
    rw [UInt8.toNat_inj.1 h1, pk_inj (by simpa using hl) h2]
  | [], _ :: _, hl, _ => by simp at hl
  | _ :: _, [], hl, _ => by simp at hl

theorem pk_append : ∀ (a b : List UInt8), pk (a ++ b) = pk a + 256 ^ a.length * pk b
  | [], b => by simp [pk]
  | x :: a, b => by
    simp only [List.cons_append, pk, pk_append a b, List.length_cons, Nat.pow_succ]
    rw [Nat.mul_add, Nat.mul_comm (256 ^ a.length) 256, Nat.mul_assoc]
    omega

theorem pk_take_drop (l : List UInt8) (k : Nat) (h : k ≤ l.length) : pk (l.take k) = pk l % 256 ^ k ∧ pk (l.drop k) = pk l / 256 ^ k := by
  have e := pk_append (l.take k) (l.drop k)
  rw [List.take_append_drop, List.length_take, Nat.min_eq_left h] at e
  have hlt := pk_lt (l.take k)
  rw [List.length_take, Nat.min_eq_left h] at hlt
  rw [e]
  constructor
  · rw [Nat.add_mul_mod_self_left, Nat.mod_eq_of_lt hlt]
  · rw [Nat.add_mul_div_left _ _ (Nat.pow_pos (by omega)), Nat.div_eq_of_lt hlt, Nat.zero_add]

theorem pow_256 (k : Nat) : 256 ^ k = 2 ^ (8 * k) := by
  rw [Nat.pow_mul]

/-- The byte at a place. -/
def byteAt (n i : Nat) : Nat := Nat.mod (Nat.shiftRight n (Nat.mul 8 i)) 256

theorem byteAt_pk (l : List UInt8) (i : Nat) (h : i < l.length) : byteAt (pk l) i = (l[i]).toNat := by
  unfold byteAt
  have h1 := (pk_take_drop l i (by omega)).2
  have e : Nat.shiftRight (pk l) (Nat.mul 8 i) = pk l / 256 ^ i := by
    rw [pow_256]
    exact Nat.shiftRight_eq_div_pow _ _
  rw [e, ← h1, List.drop_eq_getElem_cons h]
  have := l[i].toNat_lt
  show (_ + 256 * _) % 256 = _
  omega

/-! ### Blocks and frames -/
abbrev S := Nat → G

def getS (t : Nat) (s : S) : G := s t
noncomputable def setS (t : Nat) (s : S) (v : G) : S := fun u => Bool.rec (motive := fun _ => G) (s u) v (Nat.beq u t)
def S0 : S := fun _ => .undef

theorem getS_setS (t u : Nat) (s : S) (v : G) : getS t (setS u s v) = if t = u then v else getS t s := by
  by_cases h : t = u
  · subst h
    rw [if_pos rfl]
    show Bool.rec (motive := fun _ => G) (s t) v (Nat.beq t t) = v
    rw [Nat.beq_refl]
  · rw [if_neg h]
    have : Nat.beq t u = false := by
      cases hb : Nat.beq t u with
      | false => rfl
      | true => exact absurd (Nat.eq_of_beq_eq_true hb) h
    show Bool.rec (motive := fun _ => G) (s t) v (Nat.beq t u) = s t
    rw [this]

theorem getS_S0 (t : Nat) : getS t S0 = .undef := rfl

end Go.Gx

/- The ghost machine's memory, and how it stands for a world's. -/
namespace Go.Gx

inductive GB where
  | dead
  | cells (l : List G)
  | map (ver : Nat) (kv : List (G × G))
  | siter (len n pos : Nat)
  | miter (m ver : Nat) (cur : Option (G × G)) (rem : List (G × G))
  | minone
  | loop (st : LoopState) (pend : Option Code) (fn : FuncId) (s : S) (n : Nat) (ps : Array Tmp) (asg body : Code) (db : Nat)
  | defd

inductive T where
  | e
  | n (v : GB) (l r : T)

noncomputable def T.get (t : T) : Nat → GB :=
  T.rec (motive := fun _ => Nat → GB) (fun _ => .dead)
    (fun v _ _ ihl ihr k => Nat.rec (motive := fun _ => GB) v (fun m _ => Nat.rec (motive := fun _ => GB) (ihl (Nat.div m 2)) (fun _ _ => ihr (Nat.div m 2)) (Nat.mod m 2)) k) t

noncomputable def T.setK {β : Type} (t : T) : Nat → GB → (T → β) → β → β :=
  T.rec (motive := fun _ => Nat → GB → (T → β) → β → β)
    (fun k x c f => Nat.rec (motive := fun _ => β) (c (.n x .e .e)) (fun _ _ => f) k)
    (fun v l r ihl ihr k x c f => Nat.rec (motive := fun _ => β) (c (.n x l r))
      (fun m _ => Nat.rec (motive := fun _ => β) (ihl (Nat.div m 2) x (fun l' => c (.n v l' r)) f) (fun _ _ => ihr (Nat.div m 2) x (fun r' => c (.n v l r')) f) (Nat.mod m 2)) k) t

noncomputable def T.set? (t : T) (k : Nat) (x : GB) : Option T := t.setK k x some none

theorem T.setK_eq {β : Type} : ∀ (t : T) (k : Nat) (x : GB) (c : T → β) (f : β), t.setK k x c f = match t.set? k x with | some t' => c t' | none => f
  | .e, 0, x, c, f => rfl
  | .e, k + 1, x, c, f => rfl
  | .n v l r, 0, x, c, f => rfl
  | .n v l r, k + 1, x, c, f => by
    have hl := fun c f => T.setK_eq (β := β) l (k / 2) x c f
    have hr := fun c f => T.setK_eq (β := β) r (k / 2) x c f
    have hl' := fun c f => T.setK_eq (β := Option T) l (k / 2) x c f
    have hr' := fun c f => T.setK_eq (β := Option T) r (k / 2) x c f
    have e1 : (T.n v l r).setK (k + 1) x c f = Nat.rec (motive := fun _ => β) (l.setK (k / 2) x (fun l' => c (.n v l' r)) f) (fun _ _ => r.setK (k / 2) x (fun r' => c (.n v l r')) f) (k % 2) := rfl
    have e2 : (T.n v l r).set? (k + 1) x = Nat.rec (motive := fun _ => Option T) (l.setK (k / 2) x (fun l' => some (.n v l' r)) none) (fun _ _ => r.setK (k / 2) x (fun r' => some (.n v l r')) none) (k % 2) := rfl
    rw [e1, e2]
    cases k % 2 with
    | zero =>
      show l.setK (k / 2) x (fun l' => c (.n v l' r)) f = match l.setK (k / 2) x (fun l' => some (T.n v l' r)) none with | some t' => c t' | none => f
      rw [hl, hl']
      cases l.set? (k / 2) x <;> rfl
    | succ n =>
      show r.setK (k / 2) x (fun r' => c (.n v l r')) f = match r.setK (k / 2) x (fun r' => some (T.n v l r')) none with | some t' => c t' | none => f
      rw [hr, hr']
      cases r.set? (k / 2) x <;> rfl

theorem T.get_set : ∀ {t t' : T} {k : Nat} {x : GB}, t.set? k x = some t' → ∀ j, t'.get j = if j = k then x else t.get j
  | .e, t', 0, x, h, j => by
    cases h
    cases j with
    | zero => rfl
    | succ j =>
      rw [if_neg (by simp)]
      show Nat.rec (motive := fun _ => GB) (T.e.get (j / 2)) (fun _ _ => T.e.get (j / 2)) (j % 2) = .dead
      cases j % 2 <;> rfl
  | .e, t', k + 1, x, h, j => by cases h
  | .n v l r, t', 0, x, h, j => by
    cases h
    cases j with
    | zero => rfl
    | succ j => rw [if_neg (by simp)]; rfl
  | .n v l r, t', k + 1, x, h, j => by
    have e2 : (T.n v l r).set? (k + 1) x = Nat.rec (motive := fun _ => Option T) (l.setK (k / 2) x (fun l' => some (.n v l' r)) none) (fun _ _ => r.setK (k / 2) x (fun r' => some (.n v l r')) none) (k % 2) := rfl
    rw [e2] at h
    have hj : ∀ (a b : T) (j : Nat), (T.n v a b).get (j + 1) = Nat.rec (motive := fun _ => GB) (a.get (j / 2)) (fun _ _ => b.get (j / 2)) (j % 2) := fun _ _ _ => rfl
    have hk2 : k % 2 = 0 ∨ k % 2 = 1 := by omega
    rcases hk2 with hk2 | hk2
    · rw [hk2] at h
      have h : l.setK (k / 2) x (fun l' => some (T.n v l' r)) none = some t' := h
      rw [T.setK_eq] at h
      cases hs : l.set? (k / 2) x with
      | none => rw [hs] at h; cases h
      | some l' =>
        rw [hs] at h
        cases h
        cases j with
        | zero => simp; rfl
        | succ j =>
          rw [hj, hj]
          have hj2 : j % 2 = 0 ∨ j % 2 = 1 := by omega
          rcases hj2 with hj2 | hj2
          · rw [hj2]
            show l'.get (j / 2) = if j + 1 = k + 1 then x else l.get (j / 2)
            rw [T.get_set hs]
            have : j / 2 = k / 2 ↔ j + 1 = k + 1 := by omega
            simp only [this]
          · rw [hj2]
            have : j + 1 ≠ k + 1 := by omega
            simp only [this, if_false]
            rfl
    · rw [hk2] at h
      have h : r.setK (k / 2) x (fun r' => some (T.n v l r')) none = some t' := h
      rw [T.setK_eq] at h
      cases hs : r.set? (k / 2) x with
      | none => rw [hs] at h; cases h
      | some r' =>
        rw [hs] at h
        cases h
        cases j with
        | zero => simp; rfl
        | succ j =>
          rw [hj, hj]
          have hj2 : j % 2 = 0 ∨ j % 2 = 1 := by omega
          rcases hj2 with hj2 | hj2
          · rw [hj2]
            have : j + 1 ≠ k + 1 := by omega
            simp only [this, if_false]
            rfl
          · rw [hj2]
            show r'.get (j / 2) = if j + 1 = k + 1 then x else r.get (j / 2)
            rw [T.get_set hs]
            have : j / 2 = k / 2 ↔ j + 1 = k + 1 := by omega
            simp only [this]

structure GH where
  size : Nat
  t : T

noncomputable def GH.get (h : GH) (b : Nat) : GB := h.t.get b

/-! ### What stands for what -/
/-- The world's block that a block of the ghost stands for, and how many cells it has. -/
abbrev Rho := Nat → Option (Nat × Nat)

def Rho.le (ρ ρ' : Rho) : Prop := ∀ b x, ρ b = some x → ρ' b = some x
theorem Rho.le_refl (ρ : Rho) : ρ.le ρ := fun _ _ h => h
theorem Rho.le_trans {a b c : Rho} (h : a.le b) (k : b.le c) : a.le c := fun i x hx => k i x (h i x hx)

inductive RepG (ρ : Rho) : Value → G → Prop where
  | undef (v : Value) : RepG ρ v .undef
  | bool (b : Bool) : RepG ρ (.bool b) (.bool b)
  | int (k : IntKind) (n : Int) : RepG ρ (.int k n) (.int k n)
  | str (s : ByteArray) (len n : Nat) (hl : s.size = len) (hn : pk s.data.toList = n) : RepG ρ (.string s) (.str len n)
  | nilp : RepG ρ (.pointer none) .nilp
  | ptr (b r z o : Nat) (h : ρ b = some (r, z)) : RepG ρ (.pointer (some ⟨r, o, none⟩)) (.ptr b o)
  | nils : RepG ρ (.slice none 0 0) .nils
  | sl (b r z o len cap cap' : Nat) (ex : Option Nat) (h : ρ b = some (r, z)) (hl : len ≤ cap) (hc : cap ≤ cap') (hm : cap' ≤ maxLen)
      (hx : match ex with | none => cap' = cap | some sz => o + cap' * sz = z) : RepG ρ (.slice (some ⟨r, o, none⟩) len cap') (.sl b o len cap ex)
  | sl0 (a : Addr) (b o : Nat) (ex : Option Nat) : RepG ρ (.slice (some a) 0 0) (.sl b o 0 0 ex)
  | nilm : RepG ρ (.map none) .nilm
  | map (b r z : Nat) (h : ρ b = some (r, z)) : RepG ρ (.map (some r)) (.map b)
  | nili : RepG ρ .nilIface .nili
  | if_ (t : TypeId) (v : Value) (g : G) (h : RepG ρ v g) : RepG ρ (.iface t v) (.if_ t g)
  | nilf : RepG ρ .nilFunc .nilf
  | fn (f : FuncId) (first cap : Array Value) (fi ca : List G) (hf : first.size = fi.length) (hc : cap.size = ca.length)
      (h1 : ∀ (i : Nat) (v : Value) (g : G), first[i]? = some v → fi[i]? = some g → RepG ρ v g) (h2 : ∀ (i : Nat) (v : Value) (g : G), cap[i]? = some v → ca[i]? = some g → RepG ρ v g) :
      RepG ρ (.func (.func f) first cap) (.fn f fi ca)
  | yield (b l z : Nat) (h : ρ b = some (l, z)) : RepG ρ (.func (.yield l) #[] #[]) (.yield b)
  | agg (cs : Array Value) (l : List G) (hl : cs.size = l.length) (h1 : ∀ c ∈ cs.toList, c.oneCell' = true) (h : ∀ (i : Nat) (v : Value) (g : G), cs[i]? = some v → l[i]? = some g → RepG ρ v g) : RepG ρ (.agg cs) (.agg l)
  | tup (cs : Array Value) (l : List G) (hl : cs.size = l.length) (h : ∀ (i : Nat) (v : Value) (g : G), cs[i]? = some v → l[i]? = some g → RepG ρ v g) : RepG ρ (.tuple cs) (.tup l)

theorem RepG.mapρ {ρ : Rho} {v : Value} {b : Nat} (h : RepG ρ v (.map b)) : ∃ r z, ρ b = some (r, z) := by cases h with | map _ r z h => exact ⟨r, z, h⟩

theorem RepG.mono {ρ ρ' : Rho} (hρ : ρ.le ρ') {v : Value} {g : G} (h : RepG ρ v g) : RepG ρ' v g := by
  induction h with
  | undef v => exact .undef v
  | bool b => exact .bool b
  | int k n => exact .int k n
  | str s len n hl hn => exact .str s len n hl hn
  | nilp => exact .nilp
  | ptr b r z o h => exact .ptr b r z o (hρ _ _ h)
  | nils => exact .nils
  | sl b r z o len cap cap' ex h hl hc hm hx => exact .sl b r z o len cap cap' ex (hρ _ _ h) hl hc hm hx
  | sl0 a b o ex => exact .sl0 a b o ex
  | nilm => exact .nilm
  | map b r z h => exact .map b r z (hρ _ _ h)
  | nili => exact .nili
  | if_ t v g _ ih => exact .if_ t v g ih
  | nilf => exact .nilf
  | fn f first cap fi ca hf hc _ _ ih1 ih2 => exact .fn f first cap fi ca hf hc ih1 ih2
  | yield b l z h => exact .yield b l z (hρ _ _ h)
  | agg cs l hl h1 _ ih => exact .agg cs l hl h1 ih
  | tup cs l hl _ ih => exact .tup cs l hl ih

/-- Values that take one cell. -/
def G.one : G → Bool
  | .agg _ | .tup _ | .undef => false
  | _ => true
theorem RepG.one {ρ : Rho} {v : Value} {g : G} (h : RepG ρ v g) (hx : g.one = true) : v.oneCell' = true := by
  cases h <;> first | rfl | (simp [G.one] at hx)

def RepGs (ρ : Rho) (vs : List Value) (gs : List G) : Prop := vs.length = gs.length ∧ ∀ (i : Nat) (v : Value) (g : G), vs[i]? = some v → gs[i]? = some g → RepG ρ v g

theorem RepGs.mono {ρ ρ' : Rho} (hρ : ρ.le ρ') {vs : List Value} {gs : List G} (h : RepGs ρ vs gs) : RepGs ρ' vs gs := ⟨h.1, fun i v g a b => (h.2 i v g a b).mono hρ⟩
theorem RepGs.nil {ρ : Rho} : RepGs ρ [] [] := ⟨rfl, fun i v g h => by simp at h⟩
theorem RepGs.mk {ρ : Rho} {v : Value} {vs : List Value} {g : G} {gs : List G} (h : RepG ρ v g) (hs : RepGs ρ vs gs) : RepGs ρ (v :: vs) (g :: gs) :=
  ⟨by simp [hs.1], fun i u y h1 h2 => by
    cases i with
    | zero => simp at h1 h2; subst h1; subst h2; exact h
    | succ i => exact hs.2 i u y (by simpa using h1) (by simpa using h2)⟩
theorem RepGs.cons {ρ : Rho} {v : Value} {vs : List Value} {g : G} {gs : List G} (h : RepGs ρ (v :: vs) (g :: gs)) : RepG ρ v g ∧ RepGs ρ vs gs :=
  ⟨h.2 0 v g rfl rfl, by simpa using h.1, fun i v g h1 h2 => h.2 (i + 1) v g (by simpa using h1) (by simpa using h2)⟩
theorem RepGs.append {ρ : Rho} : ∀ {vs us : List Value} {gs ys : List G}, RepGs ρ vs gs → RepGs ρ us ys → RepGs ρ (vs ++ us) (gs ++ ys)
  | [], _, [], _, _, k => k
  | [], _, _ :: _, _, h, _ => by simp [RepGs] at h
  | _ :: _, _, [], _, h, _ => by simp [RepGs] at h
  | v :: vs, us, g :: gs, ys, h, k => .mk h.cons.1 (RepGs.append h.cons.2 k)
theorem RepGs.take {ρ : Rho} {vs : List Value} {gs : List G} (h : RepGs ρ vs gs) (n : Nat) : RepGs ρ (vs.take n) (gs.take n) :=
  ⟨by simp [h.1], fun i v g a b => by
    rw [List.getElem?_take] at a b
    split at a
    · rw [if_pos (by assumption)] at b; exact h.2 i v g a b
    · cases a⟩
theorem RepGs.drop {ρ : Rho} {vs : List Value} {gs : List G} (h : RepGs ρ vs gs) (n : Nat) : RepGs ρ (vs.drop n) (gs.drop n) :=
  ⟨by simp [h.1], fun i v g a b => by
    rw [List.getElem?_drop] at a b; exact h.2 _ v g a b⟩

/-- The slots of a frame. -/
def SRep (ρ : Rho) (s : S) (tmps : Array Value) : Prop := tmps.size ≤ 256 ∧ ∀ t, RepG ρ (tmps.getD t Go.undef) (getS t s)

theorem SRep.mono {ρ ρ' : Rho} (hρ : ρ.le ρ') {s : S} {tmps : Array Value} (h : SRep ρ s tmps) : SRep ρ' s tmps := ⟨h.1, fun t => (h.2 t).mono hρ⟩

def loopKeep (r : Go.Loop) (st : LoopState) (pend : Option Code) (fn : FuncId) (ps : Array Tmp) (asg body : Code) : Prop :=
  r.state = st ∧ r.pending = pend ∧ r.fn = fn ∧ r.params = ps ∧ r.assign = asg ∧ r.body = body

/-- The entries of a map, in any order. -/
def KvRep (ρ : Rho) (es : List MapEntry) (kv : List (G × G)) : Prop :=
  ∃ l : List MapEntry, l.Perm es ∧ l.length = kv.length ∧ ∀ (i : Nat) (e : MapEntry) (p : G × G), l[i]? = some e → kv[i]? = some p → RepG ρ e.key p.1 ∧ RepG ρ e.val p.2

/-- What an iterator over a map has come to. -/
def CurRep (ρ : Rho) (es : List MapEntry) (seen : Array Nat) : Option (G × G) → Prop
  | none => True
  | some p => ∃ (e : MapEntry) (s0 : Array Nat), e ∈ es ∧ seen = s0.push e.born ∧ RepG ρ e.key p.1 ∧ RepG ρ e.val p.2

def GB.isDead : GB → Bool
  | .dead => true
  | _ => false

def BRep (ρ : Rho) (h : GH) (w : World) (r z : Nat) : GB → Prop
  | .dead => True
  | .cells l => ∃ vs t, w.heap[r]? = some (.cells vs t (0, 0)) ∧ vs.size = z ∧ l.length ≤ z ∧ RepGs ρ (vs.toList.take l.length) l ∧ ∀ v ∈ vs.toList.take l.length, v.oneCell' = true
  | .map _ kv => ∃ es clock, w.heap[r]? = some (.map es clock) ∧ KvRep ρ es.toList kv ∧ (kv.map (·.1)).Nodup ∧ kv.length ≤ maxLen ∧ (∀ e ∈ es.toList, e.born < clock) ∧ (es.toList.map (·.born)).Nodup
  | .siter len n pos => ∃ s : ByteArray, w.heap[r]? = some (.stringIter s pos) ∧ s.size = len ∧ pk s.data.toList = n
  | .miter m ver cur rem => ∃ rm zm since seen stepped, ρ m = some (rm, zm) ∧ w.heap[r]? = some (.mapIter (some rm) since seen stepped) ∧
      (∀ v kv, h.get m = .map v kv → ver ≤ v ∧ (v = ver → ∀ es clock, w.heap[rm]? = some (.map es clock) → since = clock ∧ stepped = clock ∧ KvRep ρ (es.toList.filter fun e => !seen.contains e.born) rem ∧ CurRep ρ es.toList seen cur))
  | .minone => ∃ a b c, w.heap[r]? = some (.mapIter none a b c)
  | .loop st pend fn s n ps asg body db => ∃ rl rd zd, w.heap[r]? = some (.loop rl) ∧ loopKeep rl st pend fn ps asg body ∧ SRep ρ s rl.tmps ∧ rl.tmps.size = n ∧ ρ db = some (rd, zd) ∧ rl.defers = rd
  | .defd => w.heap[r]? = some (.deferred (some []))

/-- What stays as it is: blocks of the world; names of the ghost that stand for nothing yet. -/
structure Bl where
  r : Nat → Prop
  p : Nat → Prop
instance : CoeFun Bl (fun _ => Nat → Prop) := ⟨Bl.r⟩

structure HRep (B : Bl) (ρ : Rho) (h : GH) (w : World) : Prop where
  blk : ∀ b r z, (h.get b).isDead = false → ρ b = some (r, z) → BRep ρ h w r z (h.get b)
  inj : ∀ b b' r z z', (h.get b).isDead = false → (h.get b').isDead = false → ρ b = some (r, z) → ρ b' = some (r, z') → b = b'
  lo : ∀ b r z, ρ b = some (r, z) → ¬ B r ∧ r < w.heap.size
  dom : ∀ b x, ρ b = some x → b < h.size
  top : ∀ r, B r → r < w.heap.size
  pl : ∀ b x, ρ b = some x → ¬ B.p b
  pt : ∀ b, B.p b → b < h.size

/-- What stays as it is: all blocks of B, and what lies outside of memory. -/
structure Kept (B : Bl) (w w' : World) : Prop where
  os : w'.os = w.os
  tape : w'.tape = w.tape
  output : w'.output = w.output
  size : w.heap.size ≤ w'.heap.size
  block : ∀ b, B b → w'.heap[b]? = w.heap[b]?

theorem Kept.refl (B : Bl) (w : World) : Kept B w w := ⟨rfl, rfl, rfl, Nat.le_refl _, fun _ _ => rfl⟩
theorem Kept.trans {B : Bl} {w x y : World} (h : Kept B w x) (k : Kept B x y) : Kept B w y :=
  ⟨k.os.trans h.os, k.tape.trans h.tape, k.output.trans h.output, Nat.le_trans h.size k.size, fun b hb => (k.block b hb).trans (h.block b hb)⟩
theorem Kept.drew (B : Bl) (w : World) : Kept B w { w with drawn := w.drawn + 1 } := ⟨rfl, rfl, rfl, Nat.le_refl _, fun _ _ => rfl⟩

end Go.Gx

/- The ghost machine's operations that change nothing. -/
namespace Go.Gx
open Go.Hk (TT TTok TyI Sh lk TyOk ShOk)

/-! ### Lists, for the kernel -/
noncomputable def gnth (l : List G) : Nat → Option G :=
  List.rec (motive := fun _ => Nat → Option G) (fun _ => none) (fun x _ ih n => Nat.rec (motive := fun _ => Option G) (some x) (fun m _ => ih m) n) l
theorem gnth_eq : ∀ (l : List G) (n : Nat), gnth l n = l[n]?
  | [], n => by simp [gnth]
  | x :: l, 0 => by
    show some x = _
    simp
  | x :: l, n + 1 => by
    show gnth l n = _
    rw [gnth_eq l n]; simp

noncomputable def gdrop (l : List G) : Nat → Option (List G) :=
  List.rec (motive := fun _ => Nat → Option (List G)) (fun o => Nat.rec (motive := fun _ => Option (List G)) (some []) (fun _ _ => none) o)
    (fun x r ih o => Nat.rec (motive := fun _ => Option (List G)) (some (x :: r)) (fun m _ => ih m) o) l
theorem gdrop_eq : ∀ (l : List G) (o : Nat), gdrop l o = if o ≤ l.length then some (l.drop o) else none
  | [], 0 => rfl
  | [], o + 1 => by simp [gdrop]
  | x :: l, 0 => rfl
  | x :: l, o + 1 => by
    show gdrop l o = _
    rw [gdrop_eq l o]; simp

noncomputable def gtake (n : Nat) : List G → Option (List G) :=
  Nat.rec (motive := fun _ => List G → Option (List G)) (fun _ => some [])
    (fun _ ih l => List.rec (motive := fun _ => Option (List G)) none (fun x r _ => Option.rec (motive := fun _ => Option (List G)) none (fun t => some (x :: t)) (ih r)) l) n
theorem gtake_eq : ∀ (n : Nat) (l : List G), gtake n l = if n ≤ l.length then some (l.take n) else none
  | 0, l => by
    show some [] = _
    simp
  | n + 1, [] => by simp [gtake]
  | n + 1, x :: l => by
    show Option.rec (motive := fun _ => Option (List G)) none (fun t => some (x :: t)) (gtake n l) = _
    rw [gtake_eq n l]
    by_cases h : n ≤ l.length <;> simp [h]

noncomputable def gsub (l : List G) (o n : Nat) : Option (List G) := Option.rec (motive := fun _ => Option (List G)) none (gtake n) (gdrop l o)
theorem gsub_eq {l r : List G} {o n : Nat} (h : gsub l o n = some r) : r = (l.drop o).take n ∧ o + n ≤ l.length := by
  unfold gsub at h
  rw [gdrop_eq] at h
  by_cases ho : o ≤ l.length
  · rw [if_pos ho] at h
    have h : gtake n (l.drop o) = some r := h
    rw [gtake_eq] at h
    split at h
    · rename_i hn
      cases h
      simp at hn
      exact ⟨rfl, by omega⟩
    · cases h
  · rw [if_neg ho] at h; cases h

/-- A list with other elements from a place on. -/
noncomputable def gover (ys : List G) : List G → Option (List G) :=
  List.rec (motive := fun _ => List G → Option (List G)) (fun l => some l)
    (fun y _ ih l => List.rec (motive := fun _ => Option (List G)) none (fun _ r _ => Option.rec (motive := fun _ => Option (List G)) none (fun t => some (y :: t)) (ih r)) l) ys
noncomputable def gsplice (l : List G) : Nat → List G → Option (List G) :=
  List.rec (motive := fun _ => Nat → List G → Option (List G)) (fun o ys => Nat.rec (motive := fun _ => Option (List G)) (gover ys []) (fun _ _ => none) o)
    (fun x r ih o ys => Nat.rec (motive := fun _ => Option (List G)) (gover ys (x :: r)) (fun m _ => Option.rec (motive := fun _ => Option (List G)) none (fun t => some (x :: t)) (ih m ys)) o) l
theorem gover_eq : ∀ (ys l : List G), gover ys l = if ys.length ≤ l.length then some (ys ++ l.drop ys.length) else none
  | [], l => by simp [gover]
  | y :: ys, [] => by simp [gover]
  | y :: ys, x :: l => by
    show Option.rec (motive := fun _ => Option (List G)) none (fun t => some (y :: t)) (gover ys l) = _
    rw [gover_eq ys l]
    by_cases h : ys.length ≤ l.length <;> simp [h]
theorem gsplice_eq : ∀ {l : List G} {o : Nat} {ys r : List G}, gsplice l o ys = some r → r = l.take o ++ ys ++ l.drop (o + ys.length) ∧ o + ys.length ≤ l.length
  | [], 0, ys, r, h => by
    have h : gover ys [] = some r := h
    rw [gover_eq] at h
    split at h
    · rename_i hl; cases h; simp at hl; subst hl; simp
    · cases h
  | [], o + 1, ys, r, h => by cases h
  | x :: l, 0, ys, r, h => by
    have h : gover ys (x :: l) = some r := h
    rw [gover_eq] at h
    split at h
    · rename_i hl; cases h; simp; simpa using hl
    · cases h
  | x :: l, o + 1, ys, r, h => by
    have h : Option.rec (motive := fun _ => Option (List G)) none (fun t => some (x :: t)) (gsplice l o ys) = some r := h
    cases hs : gsplice l o ys with
    | none => rw [hs] at h; cases h
    | some t =>
      rw [hs] at h; cases h
      obtain ⟨h1, h2⟩ := gsplice_eq hs
      refine ⟨?_, by simp; omega⟩
      rw [h1, show o + 1 + ys.length = (o + ys.length) + 1 by omega]
      simp

/-! ### Operands -/
def ofValue : Value → Option G
  | .bool b => some (.bool b)
  | .int k n => some (.int k n)
  | .string s => some (.str s.size (pk s.data.toList))
  | .pointer none => some .nilp
  | .slice none 0 0 => some .nils
  | .map none => some .nilm
  | .nilFunc => some .nilf
  | .nilIface => some .nili
  | _ => none

def evA (x : Operand) (s : S) : G := match x with
  | .tmp t => getS t s
  | .const v => match ofValue v with
    | some g => g
    | none => .undef
  | .func f => .fn f [] []
  | .global _ => .undef

theorem ofValue_rep {ρ : Rho} {v : Value} {g : G} (h : ofValue v = some g) : RepG ρ v g := by
  unfold ofValue at h
  split at h <;> first
    | (cases h; exact .bool _)
    | (cases h; exact .int _ _)
    | (cases h; exact .str _ _ _ rfl rfl)
    | (cases h; exact .nilp)
    | (cases h; exact .nils)
    | (cases h; exact .nilm)
    | (cases h; exact .nilf)
    | (cases h; exact .nili)
    | cases h

theorem evA_rep {ρ : Rho} {s : S} {a : Act} (h : SRep ρ s a.tmps) (x : Operand) : RepG ρ (a.eval x) (evA x s) := by
  cases x with
  | tmp t =>
    exact h.2 t
  | const v =>
    show RepG ρ v (match ofValue v with | some g => g | none => .undef)
    cases hv : ofValue v with
    | none => exact .undef _
    | some g => exact ofValue_rep hv
  | func f => exact .fn f #[] #[] [] [] rfl rfl (fun i v g h => by simp at h) (fun i v g h => by simp at h)
  | global g => exact .undef _

end Go.Gx

/- The ghost machine's memory under writes and new blocks. -/
namespace Go.Gx
open Go.Hk (TT TTok TyI Sh lk TyOk ShOk)

theorem getD_set {tmps : Array Value} {d t : Nat} {v : Value} : (tmps.setIfInBounds d v).getD t Go.undef = if d = t ∧ d < tmps.size then v else tmps.getD t Go.undef := by
  simp only [Array.getD_eq_getD_getElem?]
  by_cases h : d = t
  · subst h
    by_cases hd : d < tmps.size
    · simp [hd]
    · simp [hd]
  · rw [Array.getElem?_setIfInBounds_ne h, if_neg (fun hh => h hh.1)]

theorem SRep.set {ρ : Rho} {s : S} {tmps : Array Value} (h : SRep ρ s tmps) {d : Nat} {v : Value} {g : G} (hd : d < tmps.size) (hv : RepG ρ v g) : SRep ρ (setS d s g) (tmps.setIfInBounds d v) := by
  refine ⟨by simpa using h.1, fun t => ?_⟩
  rw [getD_set, getS_setS t d s g]
  by_cases hdt : d = t
  · subst hdt; simpa [hd] using hv
  · rw [if_neg (fun hh => hdt hh.1), if_neg (fun hh => hdt hh.symm)]
    exact h.2 t

theorem SRep.put {ρ : Rho} {s : S} {a : Act} (h : SRep ρ s a.tmps) {d : Nat} {v : Value} {g : G} (hd : d < a.tmps.size) (hv : RepG ρ v g) : SRep ρ (setS d s g) (a.put (some d) v).tmps := h.set hd hv

/-! ### Memory -/
theorem GB.isDead_iff {g : GB} : g.isDead = true ↔ g = .dead := by cases g <;> simp [GB.isDead]

theorem KvRep.mono {ρ ρ' : Rho} (hρ : ρ.le ρ') {es : List MapEntry} {kv : List (G × G)} (h : KvRep ρ es kv) : KvRep ρ' es kv := by
  obtain ⟨l, h1, h2, h3⟩ := h
  exact ⟨l, h1, h2, fun i e p a b => ⟨(h3 i e p a b).1.mono hρ, (h3 i e p a b).2.mono hρ⟩⟩

theorem CurRep.mono {ρ ρ' : Rho} (hρ : ρ.le ρ') {es : List MapEntry} {seen : Array Nat} {cur : Option (G × G)} (h : CurRep ρ es seen cur) : CurRep ρ' es seen cur := by
  cases cur with
  | none => trivial
  | some p =>
    obtain ⟨e, s0, h1, h2, h3, h4⟩ := h
    exact ⟨e, s0, h1, h2, h3.mono hρ, h4.mono hρ⟩

/-- A block is as it was, in a later world. -/
theorem BRep.frame {ρ ρ' : Rho} {h h' : GH} {w w' : World} {r z : Nat} {g : GB} (hr : BRep ρ h w r z g) (hρ : ρ.le ρ') (hw : w'.heap[r]? = w.heap[r]?)
    (hm : ∀ m ver cur rem v kv rm zm, g = .miter m ver cur rem → ρ m = some (rm, zm) → h'.get m = .map v kv → (∃ kv0, h.get m = .map v kv0 ∧ w'.heap[rm]? = w.heap[rm]?) ∨ (∃ v0 kv0, h.get m = .map v0 kv0 ∧ v0 < v)) : BRep ρ' h' w' r z g := by
  cases g with
  | dead => trivial
  | cells l => obtain ⟨vs, t, h1, h2, h3, h4, h5⟩ := hr; exact ⟨vs, t, hw.trans h1, h2, h3, h4.mono hρ, h5⟩
  | map ver kv => obtain ⟨es, clock, h1, h2, h3⟩ := hr; exact ⟨es, clock, hw.trans h1, h2.mono hρ, h3⟩
  | siter len n pos => obtain ⟨s, h1, h2⟩ := hr; exact ⟨s, hw.trans h1, h2⟩
  | miter m ver cur rem =>
    obtain ⟨rm, zm, since, seen, stepped, h1, h2, h3⟩ := hr
    refine ⟨rm, zm, since, seen, stepped, hρ _ _ h1, hw.trans h2, fun v kv hk => ?_⟩
    rcases hm m ver cur rem v kv rm zm rfl h1 hk with ⟨kv0, q1, q2⟩ | ⟨v0, kv0, q1, q2⟩
    · obtain ⟨q3, q4⟩ := h3 v kv0 q1
      refine ⟨q3, fun e es clock he => ?_⟩
      obtain ⟨q5, q6, q7, q8⟩ := q4 e es clock (by rw [← q2]; exact he)
      exact ⟨q5, q6, q7.mono hρ, q8.mono hρ⟩
    · obtain ⟨q3, _⟩ := h3 v0 kv0 q1
      exact ⟨by omega, fun e => by omega⟩
  | minone => obtain ⟨a, b, c, h1⟩ := hr; exact ⟨a, b, c, hw.trans h1⟩
  | loop st pend fn s n ps asg body db =>
    obtain ⟨rl, rd, zd, h1, h2, h3, h4, h5, h6⟩ := hr
    exact ⟨rl, rd, zd, hw.trans h1, h2, h3.mono hρ, h4, hρ _ _ h5, h6⟩
  | defd => exact hw.trans hr

section
variable {B : Bl} {ρ : Rho} {h h' : GH} {w : World}

theorem HRep.atρ (hr : HRep B ρ h w) {b r z : Nat} {g : GB} (hg : h.get b = g) (hd : g.isDead = false) (hρ : ρ b = some (r, z)) : BRep ρ h w r z g := by
  subst hg; exact hr.blk b r z hd hρ

noncomputable def GH.set? (h : GH) (b : Nat) (x : GB) : Option GH := match h.t.set? b x with
  | some t => some ⟨h.size, t⟩
  | none => none

theorem GH.get_set {x : GB} {b : Nat} (hs : h.set? b x = some h') : h'.size = h.size ∧ ∀ j, h'.get j = if j = b then x else h.get j := by
  unfold GH.set? at hs
  split at hs
  · rename_i t ht
    cases hs
    exact ⟨rfl, T.get_set ht⟩
  · cases hs

/-- A live block is written: the world's block holds another object. -/
theorem HRep.write (hr : HRep B ρ h w) {b r z : Nat} {x : GB} {o : Obj} (hs : h.set? b x = some h') (hlive : (h.get b).isDead = false) (hρ : ρ b = some (r, z))
    (hx : BRep ρ h' { w with heap := w.heap.setIfInBounds r o } r z x) (hver : ∀ v kv, x = .map v kv → ∃ v0 kv0, h.get b = .map v0 kv0 ∧ v0 < v) :
    HRep B ρ h' { w with heap := w.heap.setIfInBounds r o } := by
  obtain ⟨hsz, hget⟩ := GH.get_set hs
  have hrlt := (hr.lo b r z hρ).2
  refine { blk := fun j rj zj hj hρj => ?_, inj := fun i j ri zi zj hi hj hρi hρj => ?_, lo := fun j r' z' hj => by simpa using hr.lo j r' z' hj, dom := fun j x hj => by rw [hsz]; exact hr.dom j x hj, top := fun r hb => by simpa using hr.top r hb, pl := hr.pl, pt := fun b hb => by rw [hsz]; exact hr.pt b hb }
  · rw [hget] at hj ⊢
    by_cases hjb : j = b
    · subst hjb
      rw [if_pos rfl]
      rw [hρ] at hρj; cases hρj
      exact hx
    · rw [if_neg hjb] at hj ⊢
      have h2 := hr.blk j rj zj hj hρj
      have hne : rj ≠ r := fun e => by subst e; exact hjb (hr.inj j b rj zj z hj hlive hρj hρ)
      refine h2.frame (Rho.le_refl ρ) (by simp [Array.getElem?_setIfInBounds_ne (Ne.symm hne)]) ?_
      intro m ver cur rem v kv rm zm hg hm hk
      rw [hget] at hk
      by_cases hmb : m = b
      · subst hmb
        rw [if_pos rfl] at hk
        exact .inr (hver v kv hk)
      · rw [if_neg hmb] at hk
        have hmlive : (h.get m).isDead = false := by rw [hk]; rfl
        have hne2 : rm ≠ r := fun e => by subst e; exact hmb (hr.inj m b rm zm z hmlive hlive hm hρ)
        exact .inl ⟨kv, hk, by simp [Array.getElem?_setIfInBounds_ne (Ne.symm hne2)]⟩
  · rw [hget] at hi hj
    have hi' : (h.get i).isDead = false := by
      by_cases e : i = b
      · rw [e]; exact hlive
      · rwa [if_neg e] at hi
    have hj' : (h.get j).isDead = false := by
      by_cases e : j = b
      · rw [e]; exact hlive
      · rwa [if_neg e] at hj
    exact hr.inj i j ri zi zj hi' hj' hρi hρj

/-- The same where the new block is no map. -/
theorem HRep.write1 (hr : HRep B ρ h w) {b r z : Nat} {x : GB} {o : Obj} (hs : h.set? b x = some h') (hlive : (h.get b).isDead = false) (hρ : ρ b = some (r, z))
    (hx : BRep ρ h' { w with heap := w.heap.setIfInBounds r o } r z x) (hn : ∀ ver kv, x ≠ .map ver kv) : HRep B ρ h' { w with heap := w.heap.setIfInBounds r o } :=
  hr.write hs hlive hρ hx (fun v kv hx => absurd hx (hn v kv))

theorem Kept.write {r : Nat} {o : Obj} (hr : ¬ B r) : Kept B w { w with heap := w.heap.setIfInBounds r o } :=
  ⟨rfl, rfl, rfl, by simp, fun b hb => by simp [Array.getElem?_setIfInBounds_ne (show r ≠ b from fun e => hr (e ▸ hb))]⟩

noncomputable def GH.push? (h : GH) (x : GB) : Option GH := match h.t.set? h.size x with
  | some t => some ⟨h.size + 1, t⟩
  | none => none

theorem GH.get_push {x : GB} (hs : h.push? x = some h') : h'.size = h.size + 1 ∧ ∀ j, h'.get j = if j = h.size then x else h.get j := by
  unfold GH.push? at hs
  split at hs
  · rename_i t ht
    cases hs
    exact ⟨rfl, T.get_set ht⟩
  · cases hs

def Rho.add (ρ : Rho) (b : Nat) (x : Nat × Nat) : Rho := fun i => if i = b then some x else ρ i

theorem HRep.fresh (hr : HRep B ρ h w) : ρ h.size = none := by
  cases hx : ρ h.size with
  | none => rfl
  | some x => have := hr.dom _ _ hx; omega

theorem HRep.le_add (hr : HRep B ρ h w) (x : Nat × Nat) : ρ.le (ρ.add h.size x) := by
  intro i y hy
  unfold Rho.add
  rw [if_neg (fun e => by rw [e, hr.fresh] at hy; cases hy)]
  exact hy

/-- A new block. -/
theorem HRep.push (hr : HRep B ρ h w) {x : GB} {o : Obj} {z : Nat} (hs : h.push? x = some h')
    (hx : BRep (ρ.add h.size (w.heap.size, z)) h' { w with heap := w.heap.push o } w.heap.size z x) :
    HRep B (ρ.add h.size (w.heap.size, z)) h' { w with heap := w.heap.push o } := by
  obtain ⟨hsz, hget⟩ := GH.get_push hs
  have hle := hr.le_add (w.heap.size, z)
  have hold : ∀ j r' z', j ≠ h.size → ρ.add h.size (w.heap.size, z) j = some (r', z') → ρ j = some (r', z') := fun j r' z' hj hh => by
    unfold Rho.add at hh; rwa [if_neg hj] at hh
  refine { blk := fun j rj zj hj hρj => ?_, inj := fun i j ri zi zj hi hj hρi hρj => ?_, lo := fun j r' z' hj => ?_, dom := fun j x hj => ?_, top := fun r hb => by have := hr.top r hb; simp; omega, pl := fun j x hj => ?_, pt := fun b hb => by have := hr.pt b hb; omega }
  · rw [hget] at hj ⊢
    by_cases hjb : j = h.size
    · subst hjb
      rw [if_pos rfl]
      unfold Rho.add at hρj; rw [if_pos rfl] at hρj; cases hρj
      exact hx
    · rw [if_neg hjb] at hj ⊢
      have h1 := hold _ _ _ hjb hρj
      have h2 := hr.blk j rj zj hj h1
      have hlt := (hr.lo _ _ _ h1).2
      refine h2.frame hle (by simp [Array.getElem?_push, Nat.ne_of_lt hlt]) ?_
      intro m ver cur rem v kv rm zm hg hm hk
      rw [hget] at hk
      have hmne : m ≠ h.size := fun e => by rw [e, hr.fresh] at hm; cases hm
      rw [if_neg hmne] at hk
      have hlt2 := (hr.lo _ _ _ hm).2
      exact .inl ⟨kv, hk, by simp [Array.getElem?_push, Nat.ne_of_lt hlt2]⟩
  · rw [hget] at hi hj
    by_cases hie : i = h.size
    · by_cases hje : j = h.size
      · rw [hie, hje]
      · have := (hr.lo _ _ _ (hold _ _ _ hje hρj)).2
        unfold Rho.add at hρi; rw [if_pos hie] at hρi; cases hρi; omega
    · by_cases hje : j = h.size
      · have := (hr.lo _ _ _ (hold _ _ _ hie hρi)).2
        unfold Rho.add at hρj; rw [if_pos hje] at hρj; cases hρj; omega
      · rw [if_neg hie] at hi; rw [if_neg hje] at hj
        exact hr.inj i j ri zi zj hi hj (hold _ _ _ hie hρi) (hold _ _ _ hje hρj)
  · by_cases hje : j = h.size
    · unfold Rho.add at hj; rw [if_pos hje] at hj; cases hj
      exact ⟨fun hb => absurd (hr.top _ hb) (Nat.lt_irrefl _), by simp⟩
    · have := hr.lo _ _ _ (hold _ _ _ hje hj)
      exact ⟨this.1, by simp; omega⟩
  · by_cases hje : j = h.size
    · omega
    · cases hx : x with
      | mk r' z' => rw [hx] at hj; have := hr.dom _ _ (hold _ _ _ hje hj); omega
  · by_cases hje : j = h.size
    · exact fun hb => absurd (hr.pt _ hb) (by omega)
    · cases hx : x with
      | mk r' z' => rw [hx] at hj; exact hr.pl _ _ (hold _ _ _ hje hj)

theorem Kept.push {o : Obj} (hB : ∀ r, B r → r < w.heap.size) : Kept B w { w with heap := w.heap.push o } :=
  ⟨rfl, rfl, rfl, by simp, fun b hb => by
    have : b ≠ w.heap.size := Nat.ne_of_lt (hB b hb)
    simp [Array.getElem?_push, this]⟩

theorem HRep.drew (hr : HRep B ρ h w) : HRep B ρ h { w with drawn := w.drawn + 1 } :=
  { blk := fun b r z hb h1 => (hr.blk b r z hb h1).frame (Rho.le_refl ρ) rfl fun _ _ _ _ _ kv _ _ _ _ hk => .inl ⟨kv, hk, rfl⟩,
    inj := hr.inj, lo := hr.lo, dom := hr.dom, top := hr.top, pl := hr.pl, pt := hr.pt }

end
end Go.Gx

/- The ghost machine's operations that change nothing: what they yield. -/
namespace Go.Gx
open Go.Hk (TT TTok TyI Sh lk TyOk ShOk nth nth_eq)

def wrapF (k : IntKind) (n : Int) : Int := match k, n with
  | .i64, .ofNat m => match Nat.ble m 9223372036854775807 with
    | true => .ofNat m
    | false => IntKind.wrap .i64 (.ofNat m)
  | .i64, .negSucc m => match Nat.ble m 9223372036854775807 with
    | true => .negSucc m
    | false => IntKind.wrap .i64 (.negSucc m)
  | k, n => k.wrap n

theorem wrap_same (n : Int) (h1 : -9223372036854775808 ≤ n) (h2 : n ≤ 9223372036854775807) : IntKind.wrap .i64 n = n := by
  simp only [IntKind.wrap, IntKind.bits, IntKind.signed]
  simp
  omega

theorem wrapF_eq (k : IntKind) (n : Int) : wrapF k n = k.wrap n := by
  unfold wrapF
  split
  · rename_i m
    split
    · rename_i h
      rw [Nat.ble_eq] at h
      exact (wrap_same _ (by have : Int.ofNat m = (m : Int) := rfl; omega) (by have : Int.ofNat m = (m : Int) := rfl; omega)).symm
    · rfl
  · rename_i m
    split
    · rename_i h
      rw [Nat.ble_eq] at h
      exact (wrap_same _ (by omega) (by omega)).symm
    · rfl
  · rfl

def intEq (a b : Int) : Bool := match a, b with
  | .ofNat x, .ofNat y => Nat.beq x y
  | .negSucc x, .negSucc y => Nat.beq x y
  | _, _ => false
theorem intEq_eq (a b : Int) : intEq a b = (a == b) := by
  rw [Bool.eq_iff_iff]
  cases a <;> cases b <;> simp [intEq]
  all_goals omega
def intLe (a b : Int) : Bool := match a, b with
  | .ofNat x, .ofNat y => Nat.ble x y
  | .negSucc x, .negSucc y => Nat.ble y x
  | .negSucc _, .ofNat _ => true
  | .ofNat _, .negSucc _ => false
theorem intLe_eq (a b : Int) : intLe a b = decide (a ≤ b) := by
  rw [Bool.eq_iff_iff]
  cases a <;> cases b <;> simp [intLe] <;> omega

def kEq (a b : IntKind) : Bool := decide (a = b)

def ibin (op : BinOp) (k : IntKind) (a b : Int) : Option G := match op with
  | .add => some (.int k (wrapF k (a + b)))
  | .sub => some (.int k (wrapF k (a - b)))
  | .mul => some (.int k (wrapF k (a * b)))
  | .quo => match intEq b 0 with
    | true => none
    | false => some (.int k (wrapF k (a.tdiv b)))
  | .rem => match intEq b 0 with
    | true => none
    | false => some (.int k (a.tmod b))
  | .eql => some (.bool (intEq a b))
  | .neq => some (.bool (!intEq a b))
  | .lss => some (.bool (!intLe b a))
  | .leq => some (.bool (intLe a b))
  | .gtr => some (.bool (!intLe a b))
  | .geq => some (.bool (intLe b a))
  | _ => none

def sbin (op : BinOp) (la a lb b : Nat) : Option G := match op with
  | .add => match Nat.ble (Nat.add la lb) 9223372036854775807 with
    | true => some (.str (Nat.add la lb) (Nat.add a (Nat.mul (Nat.pow 256 la) b)))
    | false => none
  | .eql => some (.bool (Nat.beq la lb && Nat.beq a b))
  | .neq => some (.bool (!(Nat.beq la lb && Nat.beq a b)))
  | _ => none

/-- Where a comparison with nil is made: what it says. -/
def nilEq (x y : G) : Option Bool := match x, y with
  | .ptr .., .nilp => some false
  | .nilp, .ptr .. => some false
  | .nilp, .nilp => some true
  | .if_ .., .nili => some false
  | .nili, .if_ .. => some false
  | .sl .., .nils => some false
  | .nils, .nils => some true
  | _, _ => none

def nilSh (x : G) (sh : Sh) : Bool := match x, sh with
  | .ptr .., .ptr _ => true
  | .nilp, .ptr _ => true
  | .if_ .., .iface => true
  | .nili, .iface => true
  | .sl .., .sl _ => true
  | .nils, .sl _ => true
  | _, _ => false

def evNil (tt : TT) (op : BinOp) (t : TypeId) (x y : G) : Option G := match nilEq x y with
  | some b => match lk tt t with
    | some ti => match nilSh x ti.sh with
      | true => match op with
        | .eql => some (.bool b)
        | .neq => some (.bool (!b))
        | _ => none
      | false => none
    | none => none
  | none => none

def evBin (tt : TT) (op : BinOp) (t : TypeId) (yo : Operand) (x y : G) : Option G := match x with
  | .int k a => match y with
    | .int k' b => match kEq k k' with
      | true => ibin op k a b
      | false => none
    | _ => none
  | .str la a => match y with
    | .str lb b => sbin op la a lb b
    | _ => none
  | .bool a => match y with
    | .bool b => match lk tt t with
      | some { sh := .bool, .. } => match op with
        | .eql => some (.bool (a == b))
        | .neq => some (.bool (!(a == b)))
        | _ => none
      | _ => none
    | _ => none
  | .nili => match y with
    | .nili => match lk tt t, yo with
      | some { sh := .iface, .. }, .const _ => match op with
        | .eql => some (.bool true)
        | .neq => some (.bool false)
        | _ => none
      | _, _ => none
    | y => evNil tt op t .nili y
  | x => evNil tt op t x y

section
variable {P : Program} {w : World} {tt : TT} {ρ : Rho}

theorem RepG.intInv {v : Value} {k : IntKind} {n : Int} (h : RepG ρ v (.int k n)) : v = .int k n := by cases h; rfl
theorem RepG.boolInv {v : Value} {b : Bool} (h : RepG ρ v (.bool b)) : v = .bool b := by cases h; rfl
theorem RepG.strInv {v : Value} {l n : Nat} (h : RepG ρ v (.str l n)) : ∃ s : ByteArray, v = .string s ∧ s.size = l ∧ pk s.data.toList = n := by
  cases h with | str s _ _ h1 h2 => exact ⟨s, rfl, h1, h2⟩

theorem size_length (s : ByteArray) : s.data.toList.length = s.size := by simp

theorem str_eq {s s' : ByteArray} : (Nat.beq s.size s'.size && Nat.beq (pk s.data.toList) (pk s'.data.toList)) = (s.data.toList == s'.data.toList) := by
  rw [Bool.eq_iff_iff]
  simp only [Bool.and_eq_true, Nat.beq_eq, beq_iff_eq]
  constructor
  · rintro ⟨h1, h2⟩
    exact pk_inj (by rw [size_length, size_length, h1]) h2
  · intro h
    exact ⟨by rw [← size_length, ← size_length, h], by rw [h]⟩

theorem bool_step {op : BinOp} {t : TypeId} {xo yo : Operand} {x y r : Value} (h1 : ∀ cs, x ≠ .agg cs) (h2 : x ≠ .nilIface) (h : (binOp op t x y).run P w = .ok r w) :
    (do eqGuard op t xo yo x y; binOp op t x y : Sem Value).run P w = .ok r w := by
  simp only [Sem.run_bind, Hk.eqGuard_ok op t xo yo x y h1 h2, Result.andThen_ok, h]

theorem ibin_ok {op : BinOp} {k : IntKind} {a b : Int} {g : G} (t : TypeId) (xo yo : Operand) (h : ibin op k a b = some g) :
    ∃ v, (do eqGuard op t xo yo (.int k a) (.int k b); binOp op t (.int k a) (.int k b) : Sem Value).run P w = .ok v w ∧ RepG ρ v g := by
  have hle : ∀ x y : Int, (!decide (x ≤ y)) = decide (y < x) := fun x y => by rw [Bool.eq_iff_iff]; simp
  have fin : ∀ (v : Value), (binOp op t (.int k a) (.int k b)).run P w = .ok v w → RepG ρ v g →
      ∃ v, (do eqGuard op t xo yo (.int k a) (.int k b); binOp op t (.int k a) (.int k b) : Sem Value).run P w = .ok v w ∧ RepG ρ v g :=
    fun v h1 h2 => ⟨v, bool_step (by simp) (by simp) h1, h2⟩
  cases op <;> simp only [ibin, Option.some.injEq, reduceCtorEq] at h
  case quo =>
    split at h <;> simp only [Option.some.injEq, reduceCtorEq] at h
    rename_i hz
    rw [intEq_eq] at hz
    have hb : b ≠ 0 := by simpa using hz
    subst h
    exact fin (.int k (k.wrap (a.tdiv b))) (by simp [binOp, Op.intDiv, hb]) (by rw [wrapF_eq]; exact .int _ _)
  case rem =>
    split at h <;> simp only [Option.some.injEq, reduceCtorEq] at h
    rename_i hz
    rw [intEq_eq] at hz
    have hb : b ≠ 0 := by simpa using hz
    subst h
    exact fin (.int k (a.tmod b)) (by simp [binOp, Op.intDiv, hb]) (.int _ _)
  all_goals
    subst h
    simp only [intEq_eq, intLe_eq, wrapF_eq, hle] at fin ⊢
  case add => exact fin _ (by simp [binOp, Op.intArith]) (.int _ _)
  case sub => exact fin _ (by simp [binOp, Op.intArith]) (.int _ _)
  case mul => exact fin _ (by simp [binOp, Op.intArith]) (.int _ _)
  case eql => exact fin (.bool (a == b)) (by simp [binOp, Op.intCmp]) (.bool _)
  case neq => exact fin (.bool (!(a == b))) (by simp [binOp, Op.intCmp, bne]) (.bool _)
  case lss => exact fin (.bool (decide (a < b))) (by simp [binOp, Op.intCmp]) (.bool _)
  case leq => exact fin (.bool (decide (a ≤ b))) (by simp [binOp, Op.intCmp]) (.bool _)
  case gtr => exact fin (.bool (decide (b < a))) (by simp [binOp, Op.intCmp]) (.bool _)
  case geq => exact fin (.bool (decide (b ≤ a))) (by simp [binOp, Op.intCmp]) (.bool _)

theorem sbin_ok {op : BinOp} {s s' : ByteArray} {g : G} (t : TypeId) (xo yo : Operand) (h : sbin op s.size (pk s.data.toList) s'.size (pk s'.data.toList) = some g) :
    ∃ v, (do eqGuard op t xo yo (.string s) (.string s'); binOp op t (.string s) (.string s') : Sem Value).run P w = .ok v w ∧ RepG ρ v g := by
  have fin : ∀ (v : Value), (binOp op t (.string s) (.string s')).run P w = .ok v w → RepG ρ v g →
      ∃ v, (do eqGuard op t xo yo (.string s) (.string s'); binOp op t (.string s) (.string s') : Sem Value).run P w = .ok v w ∧ RepG ρ v g :=
    fun v h1 h2 => ⟨v, bool_step (by simp) (by simp) h1, h2⟩
  cases op <;> simp only [sbin, Option.some.injEq, reduceCtorEq] at h
  case add =>
    split at h <;> simp only [Option.some.injEq, reduceCtorEq] at h
    rename_i hl
    rw [Nat.ble_eq] at hl
    subst h
    have hl : s.size + s'.size ≤ 9223372036854775807 := hl
    refine fin (.string (s ++ s')) ?_ ?_
    · have : ¬ ((s.size + s'.size : Nat) : Int) > IntKind.i64.max := by
        simp only [IntKind.max]
        simp [IntKind.signed, IntKind.bits]
        omega
      simp only [binOp, Op.stringOp, this, if_false, Sem.run_pure]
    · refine .str _ _ _ (by simp) ?_
      have : (s ++ s').data.toList = s.data.toList ++ s'.data.toList := by simp [ByteArray.data_append]
      rw [this, pk_append, size_length]
      rfl
  case eql =>
    subst h
    refine fin (.bool (s.data.toList == s'.data.toList)) ?_ ?_
    · simp only [binOp, Op.stringOp, ByteArray.toList_eq, Sem.run_pure]
    · rw [str_eq]; exact .bool _
  case neq =>
    subst h
    refine fin (.bool (!(s.data.toList == s'.data.toList))) ?_ ?_
    · simp only [binOp, Op.stringOp, ByteArray.toList_eq, Sem.run_pure]
    · rw [str_eq]; exact .bool _

theorem eqIn_ptr_nil (n : Nat) {t e : TypeId} (hu : P.underlying t = some (.pointer e)) (a : Addr) : (Op.equalIn (n + 1) t (.pointer (some a)) (.pointer none)).run P w = .ok false w := by simp [Op.equalIn, run_underlying hu]
theorem eqIn_nil_ptr (n : Nat) {t e : TypeId} (hu : P.underlying t = some (.pointer e)) (a : Addr) : (Op.equalIn (n + 1) t (.pointer none) (.pointer (some a))).run P w = .ok false w := by simp [Op.equalIn, run_underlying hu]
theorem eqIn_nil_nil (n : Nat) {t e : TypeId} (hu : P.underlying t = some (.pointer e)) : (Op.equalIn (n + 1) t (.pointer none) (.pointer none)).run P w = .ok true w := by simp [Op.equalIn, run_underlying hu]
theorem eqIn_if_nil (n : Nat) {t : TypeId} {ms : Array (String × TypeId)} (hu : P.underlying t = some (.interface ms)) (u : TypeId) (v : Value) : (Op.equalIn (n + 1) t (.iface u v) .nilIface).run P w = .ok false w := by simp [Op.equalIn, run_underlying hu]
theorem eqIn_nil_if (n : Nat) {t : TypeId} {ms : Array (String × TypeId)} (hu : P.underlying t = some (.interface ms)) (u : TypeId) (v : Value) : (Op.equalIn (n + 1) t .nilIface (.iface u v)).run P w = .ok false w := by simp [Op.equalIn, run_underlying hu]
theorem eqIn_ni_ni (n : Nat) {t : TypeId} {ms : Array (String × TypeId)} (hu : P.underlying t = some (.interface ms)) : (Op.equalIn (n + 1) t .nilIface .nilIface).run P w = .ok true w := by simp [Op.equalIn, run_underlying hu]
theorem eqIn_sl_nil (n : Nat) {t e : TypeId} (hu : P.underlying t = some (.slice e)) (a : Addr) (l c : Nat) : (Op.equalIn (n + 1) t (.slice (some a) l c) (.slice none 0 0)).run P w = .ok false w := by simp [Op.equalIn, run_underlying hu]
theorem eqIn_sn_nil (n : Nat) {t e : TypeId} (hu : P.underlying t = some (.slice e)) : (Op.equalIn (n + 1) t (.slice none 0 0) (.slice none 0 0)).run P w = .ok true w := by simp [Op.equalIn, run_underlying hu]

theorem nilEq_ok {x y : G} {b : Bool} {t : TypeId} {ti : TyI} {vx vy : Value} (xo yo : Operand) (hx : RepG ρ vx x) (hy : RepG ρ vy y) (h : nilEq x y = some b) (hs : nilSh x ti.sh = true) (ht : ShOk P t ti.sh) :
    (do eqGuard .eql t xo yo vx vy; binOp .eql t vx vy : Sem Value).run P w = .ok (.bool b) w ∧ (do eqGuard .neq t xo yo vx vy; binOp .neq t vx vy : Sem Value).run P w = .ok (.bool !b) w := by
  have fin : ∀ (hne1 : ∀ cs, vx ≠ .agg cs) (hne2 : vx ≠ .nilIface ∨ ∃ t v, vy = .iface t v), (binOp .eql t vx vy = do pure (.bool (← Op.equal t vx vy))) → (binOp .neq t vx vy = do pure (.bool (!(← Op.equal t vx vy)))) →
      (Op.equal t vx vy).run P w = .ok b w →
      (do eqGuard .eql t xo yo vx vy; binOp .eql t vx vy : Sem Value).run P w = .ok (.bool b) w ∧ (do eqGuard .neq t xo yo vx vy; binOp .neq t vx vy : Sem Value).run P w = .ok (.bool !b) w := by
    intro h1 h2 h4 h5 h3
    have hg : ∀ op, (eqGuard op t xo yo vx vy).run P w = .ok () w := by
      intro op
      rcases h2 with h2 | ⟨t', v, rfl⟩
      · exact Hk.eqGuard_ok op t xo yo vx vy h1 h2
      · by_cases hn : vx = .nilIface
        · subst hn
          unfold eqGuard
          cases op <;> simp
        · exact Hk.eqGuard_ok op t xo yo vx _ h1 hn
    simp only [Sem.run_bind, hg, Result.andThen_ok, h4, h5, h3, Sem.run_pure, and_self]
  unfold nilEq at h
  split at h <;> simp only [Option.some.injEq, reduceCtorEq] at h <;> subst h
  all_goals
    cases hx <;> cases hy <;> cases hsh : ti.sh <;> rw [hsh] at hs ht <;> simp only [nilSh, reduceCtorEq] at hs
  all_goals
    refine fin (by simp) (by simp) rfl rfl ?_
  · exact eqIn_ptr_nil 9999 ht _
  · exact eqIn_nil_ptr 9999 ht _
  · exact eqIn_nil_nil 9999 ht
  · obtain ⟨ms, hu⟩ := ht; exact eqIn_if_nil 9999 hu _ _
  · obtain ⟨ms, hu⟩ := ht; exact eqIn_nil_if 9999 hu _ _
  · exact eqIn_sl_nil 9999 ht _ _ _
  · exact eqIn_sl_nil 9999 ht _ _ _
  · exact eqIn_sn_nil 9999 ht

theorem evNil_ok (htt : TTok P tt) {op : BinOp} {t : TypeId} {xo yo : Operand} {x y g : G} {vx vy : Value} (hx : RepG ρ vx x) (hy : RepG ρ vy y) (h : evNil tt op t x y = some g) :
    ∃ v, (do eqGuard op t xo yo vx vy; binOp op t vx vy : Sem Value).run P w = .ok v w ∧ RepG ρ v g := by
  unfold evNil at h
  cases hn : nilEq x y with
  | none => rw [hn] at h; cases h
  | some b =>
    rw [hn] at h
    cases hl : lk tt t with
    | none => rw [hl] at h; cases h
    | some ti =>
      rw [hl] at h
      simp only at h
      cases hs : nilSh x ti.sh with
      | false => rw [hs] at h; cases h
      | true =>
        rw [hs] at h
        have := nilEq_ok (P := P) (w := w) xo yo hx hy hn hs (htt t _ hl).sh
        cases op <;> simp only [Option.some.injEq, reduceCtorEq] at h <;> subst h
        · exact ⟨_, this.1, .bool _⟩
        · exact ⟨_, this.2, .bool _⟩

theorem evBin_ok (htt : TTok P tt) {op : BinOp} {t : TypeId} {xo yo : Operand} {x y g : G} {vx vy : Value} (hx : RepG ρ vx x) (hy : RepG ρ vy y) (h : evBin tt op t yo x y = some g) :
    ∃ v, (do eqGuard op t xo yo vx vy; binOp op t vx vy : Sem Value).run P w = .ok v w ∧ RepG ρ v g := by
  unfold evBin at h
  split at h
  · split at h
    · split at h
      · rename_i hk
        have : _ = _ := of_decide_eq_true hk
        subst this
        obtain rfl := hx.intInv
        obtain rfl := hy.intInv
        exact ibin_ok t xo yo h
      · cases h
    · cases h
  · split at h
    · obtain ⟨s, rfl, rfl, rfl⟩ := hx.strInv
      obtain ⟨s', rfl, rfl, rfl⟩ := hy.strInv
      exact sbin_ok t xo yo h
    · cases h
  · split at h
    · rename_i p _ q
      obtain rfl := hx.boolInv
      obtain rfl := hy.boolInv
      split at h
      · rename_i hl
        have hs : P.underlying t = some .bool := (htt t _ hl).sh
        cases op <;> simp only [Option.some.injEq, reduceCtorEq] at h <;> subst h
        · exact ⟨_, bool_step (by simp) (by simp) (run_eql_bool w t p q hs), .bool _⟩
        · exact ⟨_, bool_step (by simp) (by simp) (run_neq_bool w t p q hs), .bool _⟩
      · cases h
    · cases h
  · split at h
    · cases hx
      cases hy
      split at h
      · rename_i hl
        obtain ⟨ms, hu⟩ : ∃ ms, P.underlying t = some (.interface ms) := (htt t _ hl).sh
        have he : (Op.equal t .nilIface .nilIface).run P w = .ok true w := eqIn_ni_ni 9999 hu
        cases op <;> simp only [Option.some.injEq, reduceCtorEq] at h <;> subst h
        · refine ⟨.bool true, ?_, .bool _⟩
          simp [eqGuard, binOp, he]
        · refine ⟨.bool false, ?_, .bool _⟩
          simp [eqGuard, binOp, he]
      · cases h
    · exact evNil_ok htt hx hy h
  · exact evNil_ok htt hx hy h

end
end Go.Gx

/- The ghost machine's operations that change nothing: loads, parts, composites, looks into maps. -/
namespace Go.Gx
open Go.Hk (TT TTok TyI Sh lk TyOk ShOk nth nth_eq)

/-! ### Zero values -/
def zOf : Hk.D → Option G
  | .imm (.bool b) => some (.bool b)
  | .imm (.int k n) => some (.int k n)
  | .imm (.str []) => some (.str 0 0)
  | .imm .nilp => some .nilp
  | .imm .nilmap => some .nilm
  | .imm .nilfn => some .nilf
  | .imm .niliface => some .nili
  | .nils => some .nils
  | _ => none
def zsOf : List Hk.D → Option (List G)
  | [] => some []
  | d :: r => match zOf d, zsOf r with
    | some g, some gs => some (g :: gs)
    | _, _ => none

def zOkB (P : Program) : TT → Bool
  | [] => true
  | (t, i) :: r => (match P.info? t with
    | some inf => match inf.zero with
      | some (.agg _) => i.agg
      | some z => !i.agg && z.oneCell'
      | none => false
    | none => false) && zOkB P r

def TTz (P : Program) (tt : TT) : Prop := ∀ t i, lk tt t = some i → ∃ inf z, P.info? t = some inf ∧ inf.zero = some z ∧ (i.agg = true → ∃ cs, z = .agg cs) ∧ (i.agg = false → z.oneCell' = true)

theorem zOkB_ok {P : Program} : ∀ {tt : TT}, zOkB P tt = true → TTz P tt
  | [], _, t, i, h => by simp [lk] at h
  | (x, j) :: r, hz, t, i, h => by
    simp only [zOkB, Bool.and_eq_true] at hz
    by_cases hx : x = t
    · subst hx
      rw [Hk.lk_cons_self] at h; cases h
      obtain ⟨h1, _⟩ := hz
      split at h1
      · rename_i inf hinf
        split at h1
        · rename_i cs hc
          exact ⟨inf, _, hinf, hc, fun _ => ⟨cs, rfl⟩, fun hf => (by rw [h1] at hf; cases hf)⟩
        · rename_i z hn hz'
          simp only [Bool.and_eq_true, Bool.not_eq_true'] at h1
          exact ⟨inf, z, hinf, hz', fun ht => (by rw [h1.1] at ht; cases ht), fun _ => h1.2⟩
        · cases h1
      · cases h1
    · rw [Hk.lk_cons_ne _ _ hx] at h
      exact zOkB_ok hz.2 t i h

section
variable {P : Program} {w : World} {tt : TT} {ρ : Rho}

theorem zOf_rep {d : Hk.D} {g : G} {v : Value} (h : zOf d = some g) (hr : Hk.RepD (fun _ => none) (fun _ => none) v d) : RepG ρ v g := by
  unfold zOf at h
  split at h <;> simp only [Option.some.injEq, reduceCtorEq] at h <;> subst h
  · have := hr.immInv; cases this; exact .bool _
  · have := hr.immInv; cases this; exact .int _ _
  · have := hr.immInv
    cases this with
    | str s l hs =>
      refine .str _ _ _ ?_ (by rw [hs]; rfl)
      rw [← size_length, hs]; rfl
  · have := hr.immInv; cases this; exact .nilp
  · have := hr.immInv; cases this; exact .nilm
  · have := hr.immInv; cases this; exact .nilf
  · have := hr.immInv; cases this; exact .nili
  · cases hr; exact .nils

theorem zsOf_rep : ∀ {ds : List Hk.D} {gs : List G} {vs : List Value}, zsOf ds = some gs → Hk.RepL (fun _ => none) (fun _ => none) vs ds → RepGs ρ vs gs
  | [], gs, vs, h, hr => by
    cases h
    have : vs = [] := List.eq_nil_of_length_eq_zero hr.1
    subst this
    exact .nil
  | d :: r, gs, [], h, hr => by simp [Hk.RepL] at hr
  | d :: r, gs, v :: vs, h, hr => by
    simp only [zsOf] at h
    split at h
    · rename_i g gs' h1 h2
      cases h
      exact .mk (zOf_rep h1 hr.cons.1) (zsOf_rep h2 hr.cons.2)
    · cases h

/-- The zero value of a type. -/
def zeroG (i : TyI) : Option G := match zsOf i.zero with
  | some gs => match i.agg with
    | true => some (.agg gs)
    | false => match gs with
      | [g] => some g
      | _ => none
  | none => none

theorem zeroG_ok (htt : TTok P tt) (hz : TTz P tt) {t : TypeId} {i : TyI} {g : G} (hl : lk tt t = some i) (h : zeroG i = some g) :
    ∃ v, (zeroValue t).run P w = .ok v w ∧ RepG ρ v g ∧ ∃ gs, zsOf i.zero = some gs ∧ RepGs ρ v.cells.toList gs ∧ (∀ u ∈ v.cells.toList, u.oneCell' = true) ∧ v.cells.size = gs.length := by
  obtain ⟨inf, z, h1, _, _, h4, h5, h6⟩ := (htt t i hl).info
  obtain ⟨inf', z', k1, k2, k3, k4⟩ := hz t i hl
  rw [h1] at k1; cases k1
  rw [h4] at k2; cases k2
  have hrun : (zeroValue t).run P w = .ok z w := by simp [zeroValue, typeInfo, h1, h4]
  unfold zeroG at h
  split at h
  · rename_i gs hgs
    have hr := zsOf_rep (ρ := ρ) hgs (h5 _ _)
    refine ⟨z, hrun, ?_, gs, hgs, hr, h6, by have := hr.1; simpa using this⟩
    cases ha : i.agg with
    | true =>
      rw [ha] at h; cases h
      obtain ⟨cs, rfl⟩ := k3 ha
      exact .agg _ _ (by have := hr.1; simpa [Value.cells] using this) h6 (fun i v g a b => hr.2 i v g (by simpa [Value.cells] using a) b)
    | false =>
      rw [ha] at h
      have hc := Hk.cells_one (k4 ha)
      rw [hc] at hr
      match gs, h, hr with
      | [g'], h, hr => cases h; exact hr.2 0 _ _ rfl rfl
  · cases h

/-! ### Loads -/
noncomputable def ldG (i : TyI) (l : List G) (off : Nat) : Option G := match i.agg with
  | true => match gsub l off i.size with
    | some r => some (.agg r)
    | none => none
  | false => gnth l off

theorem cell_of {r : Nat} {vs : Array Value} {t : TypeId} {fr : Nat × Nat} (h : w.heap[r]? = some (.cells vs t fr)) (j : Nat) (v : Value) (hv : vs.toList[j]? = some v) : w.cell? ⟨r, j, none⟩ = some v :=
  Hk.cell_of_heap h j v hv

theorem agg_rep {vs : List Value} {gs : List G} (h : RepGs ρ vs gs) (h1 : ∀ v ∈ vs, v.oneCell' = true) : RepG ρ (.agg vs.toArray) (.agg gs) :=
  .agg _ _ (by simpa using h.1) (by simpa using h1) (fun i v g a b => h.2 i v g (by simpa using a) b)

/-- Cells that are known, by place. -/
theorem ldG_ok {t : TypeId} {i : TyI} (hi : TyOk P t i) {r off : Nat} {l : List G} {g : G} {vs : Array Value} {bt : TypeId} (hh : w.heap[r]? = some (.cells vs bt (0, 0))) (hl : l.length ≤ vs.size)
    (hr : RepGs ρ (vs.toList.take l.length) l) (h1 : ∀ v ∈ vs.toList.take l.length, v.oneCell' = true) (h : ldG i l off = some g) :
    ∃ v, (Instr.loadAt t (.pointer (some ⟨r, off, none⟩))).run P w = .ok v w ∧ RepG ρ v g := by
  unfold ldG at h
  have hget : ∀ j, j < l.length → ∃ v, vs.toList[j]? = some v ∧ (vs.toList.take l.length)[j]? = some v := fun j hj => by
    have hlt : j < vs.toList.length := by simp; omega
    exact ⟨_, List.getElem?_eq_getElem hlt, by rw [List.getElem?_take, if_pos hj]; exact List.getElem?_eq_getElem hlt⟩
  cases ha : i.agg with
  | true =>
    rw [ha] at h
    cases hs : gsub l off i.size with
    | none => rw [hs] at h; cases h
    | some q =>
      rw [hs] at h; cases h
      obtain ⟨e, hle⟩ := gsub_eq hs
      have hrun := Hk.loadAt_ok (P := P) (w := w) hi r off (fun j => vs.toList.getD (off + j) Go.undef) (fun j hj => by
        obtain ⟨v, hv, _⟩ := hget (off + j) (by omega)
        rw [cell_of hh _ v hv]
        simp only [List.getD, hv, Option.getD_some]) (fun hf => by rw [ha] at hf; cases hf)
      rw [if_pos ha] at hrun
      refine ⟨_, hrun, ?_⟩
      have e2 : (List.range i.size).map (fun j => vs.toList.getD (off + j) Go.undef) = ((vs.toList.take l.length).drop off).take i.size := by
        apply List.ext_getElem?
        intro j
        by_cases hj : j < i.size
        · obtain ⟨v, hv, hv2⟩ := hget (off + j) (by omega)
          rw [List.getElem?_take, if_pos hj, List.getElem?_drop, hv2, List.getElem?_map, List.getElem?_range hj]
          simp only [Option.map_some, List.getD, hv, Option.getD_some]
        · rw [List.getElem?_eq_none (by simp; omega), List.getElem?_eq_none (by simp; omega)]
      rw [e2, e]
      exact agg_rep ((hr.drop off).take _) (fun v hv => h1 v (List.mem_of_mem_drop (List.mem_of_mem_take hv)))
  | false =>
    rw [ha] at h
    have h : gnth l off = some g := h
    rw [gnth_eq] at h
    have hlt := (List.getElem?_eq_some_iff.1 h).1
    obtain ⟨v, hv, hv2⟩ := hget off hlt
    refine ⟨v, ?_, hr.2 off v g hv2 h⟩
    simp only [Instr.loadAt, Instr.sureAddr, Sem.run_bind, Sem.run_pure, Result.andThen_ok, loadVar, hi.isAgg w, ha]
    simp [run_load, cell_of hh _ v hv]

/-- A part of a value. -/
theorem partG_ok {t : TypeId} {i : TyI} (hi : TyOk P t i) {vs : Array Value} {l : List G} {off : Nat} {g : G} (h1 : ∀ v ∈ vs.toList, v.oneCell' = true) (hr : RepGs ρ vs.toList l) (h : ldG i l off = some g) :
    ∃ v, (Go.part t vs off).run P w = .ok v w ∧ RepG ρ v g := by
  have hlen := hr.1
  unfold ldG at h
  cases ha : i.agg with
  | true =>
    rw [ha] at h
    cases hs : gsub l off i.size with
    | none => rw [hs] at h; cases h
    | some q =>
      rw [hs] at h; cases h
      obtain ⟨e, hle⟩ := gsub_eq hs
      obtain ⟨v, hv, he⟩ := Hk.part_ok (P := P) (w := w) hi (vs := vs) (off := off) (fun hf => by rw [ha] at hf; cases hf)
      refine ⟨v, hv, ?_⟩
      rw [he, if_pos ha, e]
      have e2 : vs.extract off (off + i.size) = ((vs.toList.drop off).take i.size).toArray := by
        apply Array.ext'
        simp [List.extract_eq_take_drop]
      rw [e2]
      exact agg_rep ((hr.drop off).take _) (fun v hv => h1 v (List.mem_of_mem_drop (List.mem_of_mem_take hv)))
  | false =>
    rw [ha] at h
    have h : gnth l off = some g := h
    rw [gnth_eq] at h
    have hlt := (List.getElem?_eq_some_iff.1 h).1
    have hv : vs.toList[off]? = some (vs.toList[off]'(by omega)) := List.getElem?_eq_getElem (by omega)
    have hv' : vs[off]? = some (vs.toList[off]'(by omega)) := by rw [← Array.getElem?_toList]; exact hv
    obtain ⟨v, hv2, he⟩ := Hk.part_ok (P := P) (w := w) hi (vs := vs) (off := off) (fun _ => ⟨_, hv'⟩)
    refine ⟨v, hv2, ?_⟩
    rw [he, ha, hv']
    exact hr.2 _ _ _ hv h

theorem RepG.aggInv {v : Value} {l : List G} (h : RepG ρ v (.agg l)) : ∃ cs : Array Value, v = .agg cs ∧ RepGs ρ cs.toList l ∧ ∀ c ∈ cs.toList, c.oneCell' = true := by
  cases h with
  | agg cs _ hl h1 h => exact ⟨cs, rfl, ⟨by simpa using hl, fun i v g a b => h i v g (by simpa using a) b⟩, h1⟩
theorem RepG.tupInv {v : Value} {l : List G} (h : RepG ρ v (.tup l)) : ∃ cs : Array Value, v = .tuple cs ∧ RepGs ρ cs.toList l := by
  cases h with
  | tup cs _ hl h => exact ⟨cs, rfl, ⟨by simpa using hl, fun i v g a b => h i v g (by simpa using a) b⟩⟩
theorem RepG.ptrInv {v : Value} {b o : Nat} (h : RepG ρ v (.ptr b o)) : ∃ r z, v = .pointer (some ⟨r, o, none⟩) ∧ ρ b = some (r, z) := by
  cases h with | ptr _ r z _ h => exact ⟨r, z, rfl, h⟩

theorem tup_rep {vs : List Value} {gs : List G} (h : RepGs ρ vs gs) : RepG ρ (.tuple vs.toArray) (.tup gs) :=
  .tup _ _ (by simpa using h.1) (fun i v g a b => h.2 i v g (by simpa using a) b)

/-! ### The cells of a value -/
def gcells : G → Option (List G)
  | .agg l => some l
  | .undef => none
  | .tup _ => none
  | g => some [g]

theorem gcells_rep {g : G} {l : List G} {v : Value} (h : gcells g = some l) (hr : RepG ρ v g) : RepGs ρ v.cells.toList l ∧ ∀ u ∈ v.cells.toList, u.oneCell' = true := by
  have one : g.one = true → l = [g] → RepGs ρ v.cells.toList l ∧ ∀ u ∈ v.cells.toList, u.oneCell' = true := by
    rintro h1 rfl
    have hv := hr.one h1
    rw [Hk.cells_one hv]
    exact ⟨.mk hr .nil, by simpa using hv⟩
  cases g <;> simp only [gcells, Option.some.injEq, reduceCtorEq] at h <;> first
    | exact one rfl h.symm
    | (subst h; obtain ⟨cs, rfl, h1, h2⟩ := hr.aggInv; exact ⟨h1, h2⟩)

noncomputable def buildG (tt : TT) (fs : List (Nat × TypeId)) (s : S) : List (Nat × Operand) → List G → Option (List G)
  | [], z => some z
  | (i, x) :: r, z => match nth fs i with
    | some (off, ft) => match lk tt ft, gcells (evA x s) with
      | some ti, some cs => match Nat.beq cs.length ti.size with
        | true => match gsplice z off cs with
          | some z' => buildG tt fs s r z'
          | none => none
        | false => none
      | _, _ => none
    | none => none

theorem splice_rep {vs us : List Value} {gs hs qs : List G} {o : Nat} (h : RepGs ρ vs gs) (k : RepGs ρ us hs) (hq : gsplice gs o hs = some qs) :
    RepGs ρ (vs.take o ++ us ++ vs.drop (o + us.length)) qs ∧ o + us.length ≤ vs.length := by
  obtain ⟨e, hle⟩ := gsplice_eq hq
  rw [e, ← k.1]
  refine ⟨((h.take o).append k).append (h.drop _), by rw [h.1, k.1]; exact hle⟩

theorem fill_ok {place : Nat → Option (Nat × Nat)} {fs : List (Nat × TypeId)} {s : S} {a : Act} (hs : SRep ρ s a.tmps) (htt : TTok P tt)
    (hp : ∀ i off ft ti, nth fs i = some (off, ft) → lk tt ft = some ti → place i = some (off, ti.size)) :
    ∀ (parts : List (Nat × Operand)) (z q : List G) (vs : List Value), buildG tt fs s parts z = some q → RepGs ρ vs z → (∀ v ∈ vs, v.oneCell' = true) →
      ∃ us : List Value, Instr.fill place vs.toArray (parts.map fun p => (p.1, a.eval p.2)) = some us.toArray ∧ RepGs ρ us q ∧ ∀ v ∈ us, v.oneCell' = true
  | [], z, q, vs, h, hz, h1 => by cases h; exact ⟨vs, rfl, hz, h1⟩
  | (i, x) :: r, z, q, vs, h, hz, h1 => by
    simp only [buildG] at h
    split at h
    · rename_i off ft hn
      split at h
      · rename_i ti cs hl hc
        split at h
        · rename_i hb
          split at h
          · rename_i z' hsp
            have hb := Nat.eq_of_beq_eq_true hb
            obtain ⟨c1, c2⟩ := gcells_rep hc (evA_rep hs x)
            have hlen := c1.1
            obtain ⟨s1, s2⟩ := splice_rep hz c1 hsp
            have hstep : (a.eval x).cells.zipIdx.foldl (fun cs (p : Value × Nat) => cs.setIfInBounds (off + p.2) p.1) vs.toArray = (vs.take off ++ (a.eval x).cells.toList ++ vs.drop (off + (a.eval x).cells.toList.length)).toArray := by
              apply Array.ext'
              rw [← Array.foldl_toList, Array.toList_zipIdx]
              have := Hk.foldl_set off (a.eval x).cells.toList 0 vs.toArray (by simpa using s2)
              simp only [Nat.add_zero] at this
              rw [this]
            obtain ⟨us, u1, u2, u3⟩ := fill_ok hs htt hp r z' q _ h s1 (fun v hv => by
              rcases List.mem_append.1 hv with hv | hv
              · rcases List.mem_append.1 hv with hv | hv
                · exact h1 v (List.mem_of_mem_take hv)
                · exact c2 v hv
              · exact h1 v (List.mem_of_mem_drop hv))
            refine ⟨us, ?_, u2, u3⟩
            rw [List.map_cons]
            unfold Instr.fill
            simp only [hp i off ft ti hn hl]
            have hsz : (a.eval x).cells.size = ti.size := by rw [← hb, ← hlen]; simp
            have hle : off + (a.eval x).cells.size ≤ vs.length := by simpa using s2
            rw [if_neg (by simp [hsz]; omega), hstep]
            exact u1
          · cases h
        · cases h
      · cases h
    · cases h

end
end Go.Gx

/- The ghost machine's looks into maps; slice expressions; equality of structs. -/
namespace Go.Gx
open Go.Hk (TT TTok TyI Sh lk TyOk ShOk nth nth_eq)

/-! ### Keys -/
def keyEq (x y : G) : Option Bool := match x with
  | .int k a => match y with
    | .int k' b => match kEq k k' with
      | true => some (intEq a b)
      | false => none
    | _ => none
  | .str la a => match y with
    | .str lb b => some (Nat.beq la lb && Nat.beq a b)
    | _ => none
  | .bool a => match y with
    | .bool b => some (a == b)
    | _ => none
  | _ => none

def keySh (x : G) (sh : Sh) : Bool := match x, sh with
  | .int .., .int _ => true
  | .str .., .str => true
  | .bool .., .bool => true
  | _, _ => false

theorem keyEq_true {x y : G} (h : keyEq x y = some true) : x = y := by
  cases x <;> simp only [keyEq, reduceCtorEq] at h <;> cases y <;> simp only [Option.some.injEq, reduceCtorEq] at h
  · simp only [beq_iff_eq] at h; rw [h]
  · rename_i k a k' b
    cases hk : kEq k k' with
    | false => rw [hk] at h; cases h
    | true =>
      rw [hk] at h
      have hkk : k = k' := of_decide_eq_true hk
      simp only [Option.some.injEq, intEq_eq, beq_iff_eq] at h
      rw [hkk, h]
  · simp only [Bool.and_eq_true, Nat.beq_eq] at h
    rw [h.1, h.2]

/-- The value that a map has for a key; all keys are looked at. -/
def kvFind (k : G) : List (G × G) → Option (Option G)
  | [] => some none
  | (k', v) :: r => match keyEq k k' with
    | none => none
    | some true => match kvFind k r with
      | none => none
      | some _ => some (some v)
    | some false => kvFind k r

section
variable {P : Program} {w : World} {tt : TT} {ρ : Rho}

def descOf (sh : Sh) (d : TypeDesc) : Prop := match sh with
  | .int k => d = .int k
  | .str => d = .string
  | .bool => d = .bool
  | _ => True

theorem sameNow_ok {x y : G} {vx vy : Value} {b : Bool} {d : TypeDesc} {sh : Sh} (hx : RepG ρ vx x) (hy : RepG ρ vy y) (h : keyEq x y = some b) (hs : keySh x sh = true)
    (hd : descOf sh d) : Instr.sameNow d vx vy = some b := by
  cases x <;> simp only [keyEq, reduceCtorEq] at h <;> cases y <;> simp only [Option.some.injEq, reduceCtorEq] at h
  · cases hx; cases hy
    cases sh <;> simp only [keySh, reduceCtorEq] at hs
    have hd : d = _ := hd
    subst hd
    simp [Instr.sameNow, ← h]
  · rename_i k a k' b'
    cases hk : kEq k k' with
    | false => rw [hk] at h; cases h
    | true =>
      rw [hk] at h
      have hkk : k = k' := of_decide_eq_true hk
      subst hkk
      cases hx; cases hy
      cases sh <;> simp only [keySh, reduceCtorEq] at hs
      have hd : d = _ := hd
      subst hd
      simp only [Option.some.injEq, intEq_eq] at h
      simp [Instr.sameNow, ← h]
  · obtain ⟨s, rfl, rfl, rfl⟩ := hx.strInv
    obtain ⟨s', rfl, rfl, rfl⟩ := hy.strInv
    cases sh <;> simp only [keySh, reduceCtorEq] at hs
    have hd : d = _ := hd
    subst hd
    rw [str_eq] at h
    simp only [Instr.sameNow, beq_toListBytes, ByteArray.toList_eq, h]

theorem findNow_spec {d : TypeDesc} {k : Value} : ∀ (es : List MapEntry) (i : Nat), (∀ e ∈ es, ∃ b, Instr.sameNow d k e.key = some b) →
    (Instr.findNow d k es i = some none ∧ ∀ e ∈ es, Instr.sameNow d k e.key = some false) ∨
    ∃ j e, Instr.findNow d k es i = some (some (i + j, e.val)) ∧ es[j]? = some e ∧ Instr.sameNow d k e.key = some true
  | [], i, _ => .inl ⟨rfl, by simp⟩
  | e :: es, i, h => by
    obtain ⟨b, hb⟩ := h e (by simp)
    cases b with
    | true => exact .inr ⟨0, e, by simp [Instr.findNow, hb], rfl, hb⟩
    | false =>
      rcases findNow_spec es (i + 1) (fun e' he' => h e' (by simp [he'])) with ⟨h1, h2⟩ | ⟨j, e', h1, h2, h3⟩
      · exact .inl ⟨by simp [Instr.findNow, hb, h1], fun e' he' => (List.mem_cons.1 he').elim (fun q => q ▸ hb) (h2 e')⟩
      · refine .inr ⟨j + 1, e', ?_, by simpa using h2, h3⟩
        simp only [Instr.findNow, hb, h1]
        rw [show i + 1 + j = i + (j + 1) by omega]

theorem kvFind_all {k : G} : ∀ {kv : List (G × G)} {r : Option G}, kvFind k kv = some r → ∀ p ∈ kv, ∃ b, keyEq k p.1 = some b
  | [], _, _, p, hp => by simp at hp
  | (k', v) :: kv, r, h, p, hp => by
    simp only [kvFind] at h
    cases hk : keyEq k k' with
    | none => rw [hk] at h; cases h
    | some b =>
      rcases List.mem_cons.1 hp with rfl | hp
      · exact ⟨b, hk⟩
      · rw [hk] at h
        cases b with
        | false => exact kvFind_all h p hp
        | true =>
          simp only at h
          cases hr : kvFind k kv with
          | none => rw [hr] at h; cases h
          | some r' => exact kvFind_all hr p hp

theorem kvFind_none {k : G} : ∀ {kv : List (G × G)}, kvFind k kv = some none → ∀ p ∈ kv, keyEq k p.1 = some false
  | [], _, p, hp => by simp at hp
  | (k', v) :: kv, h, p, hp => by
    simp only [kvFind] at h
    cases hk : keyEq k k' with
    | none => rw [hk] at h; cases h
    | some b =>
      rw [hk] at h
      cases b with
      | true =>
        simp only at h
        cases hr : kvFind k kv with
        | none => rw [hr] at h; cases h
        | some r' => rw [hr] at h; cases h
      | false =>
        rcases List.mem_cons.1 hp with rfl | hp
        · exact hk
        · exact kvFind_none h p hp

theorem kvFind_some {k v : G} : ∀ {kv : List (G × G)}, kvFind k kv = some (some v) → (k, v) ∈ kv
  | [], h => by cases h
  | (k', v') :: kv, h => by
    simp only [kvFind] at h
    cases hk : keyEq k k' with
    | none => rw [hk] at h; cases h
    | some b =>
      rw [hk] at h
      cases b with
      | true =>
        simp only at h
        cases hr : kvFind k kv with
        | none => rw [hr] at h; cases h
        | some r' =>
          rw [hr] at h; cases h
          rw [keyEq_true hk]; simp
      | false => exact List.mem_cons_of_mem _ (kvFind_some h)

theorem nodup_key {k v v' : G} : ∀ {kv : List (G × G)}, (kv.map (·.1)).Nodup → (k, v) ∈ kv → (k, v') ∈ kv → v = v'
  | [], _, h, _ => by simp at h
  | (a, b) :: kv, hn, h, h' => by
    simp only [List.map_cons, List.nodup_cons] at hn
    rcases List.mem_cons.1 h with e | e <;> rcases List.mem_cons.1 h' with e' | e'
    · cases e; cases e'; rfl
    · cases e; exact absurd (List.mem_map.2 ⟨_, e', rfl⟩) hn.1
    · cases e'; exact absurd (List.mem_map.2 ⟨_, e, rfl⟩) hn.1
    · exact nodup_key hn.2 e e'

/-- An entry of the real map and the pair that stands for it. -/
theorem KvRep.of_mem {es : List MapEntry} {kv : List (G × G)} (h : KvRep ρ es kv) {e : MapEntry} (he : e ∈ es) : ∃ p ∈ kv, RepG ρ e.key p.1 ∧ RepG ρ e.val p.2 := by
  obtain ⟨l, h1, h2, h3⟩ := h
  obtain ⟨i, hi⟩ := List.getElem?_of_mem (h1.mem_iff.2 he)
  have hlt : i < l.length := (List.getElem?_eq_some_iff.1 hi).1
  have hp : kv[i]? = some (kv[i]'(by omega)) := List.getElem?_eq_getElem (by omega)
  exact ⟨_, List.getElem_mem _, h3 i e _ hi hp⟩
theorem KvRep.of_mem' {es : List MapEntry} {kv : List (G × G)} (h : KvRep ρ es kv) {p : G × G} (hp : p ∈ kv) : ∃ e ∈ es, RepG ρ e.key p.1 ∧ RepG ρ e.val p.2 := by
  obtain ⟨l, h1, h2, h3⟩ := h
  obtain ⟨i, hi⟩ := List.getElem?_of_mem hp
  have hlt : i < kv.length := (List.getElem?_eq_some_iff.1 hi).1
  have he : l[i]? = some (l[i]'(by omega)) := List.getElem?_eq_getElem (by omega)
  exact ⟨_, h1.mem_iff.1 (List.getElem_mem _), h3 i _ p he hi⟩
theorem KvRep.length {es : List MapEntry} {kv : List (G × G)} (h : KvRep ρ es kv) : es.length = kv.length := by
  obtain ⟨l, h1, h2, _⟩ := h
  rw [← h2, h1.length_eq]

/-- What a key leads to in the real map. -/
theorem find_ok {kt : TypeId} {ti : TyI} (hty : TyOk P kt ti) {k : G} {vk : Value} {es : List MapEntry} {kv : List (G × G)} {r : Option G} (hk : RepG ρ vk k) (hs : keySh k ti.sh = true) (hkv : KvRep ρ es kv) (hn : (kv.map (·.1)).Nodup)
    (h : kvFind k kv = some r) :
    (r = none ∧ (Instr.findKey kt vk es).run P w = .ok none w ∧ ∀ p ∈ kv, keyEq k p.1 = some false) ∨
    ∃ g j e, r = some g ∧ (Instr.findKey kt vk es).run P w = .ok (some (j, e.val)) w ∧ es[j]? = some e ∧ RepG ρ e.key k ∧ RepG ρ e.val g ∧ (k, g) ∈ kv := by
  obtain ⟨d, hu, hd⟩ : ∃ d, P.underlying kt = some d ∧ descOf ti.sh d := by
    have := hty.sh
    cases hsh : ti.sh <;> rw [hsh] at hs this <;> cases k <;> simp only [keySh, reduceCtorEq] at hs
    all_goals exact ⟨_, this, rfl⟩
  have hsame : ∀ e ∈ es, ∀ p, RepG ρ e.key p → ∀ b, keyEq k p = some b → Instr.sameNow d vk e.key = some b := fun e _ p hp b hb => sameNow_ok hk hp hb hs hd
  have hall : ∀ e ∈ es, ∃ b, Instr.sameNow d vk e.key = some b := fun e he => by
    obtain ⟨p, hp, h1, _⟩ := hkv.of_mem he
    obtain ⟨b, hb⟩ := kvFind_all h p hp
    exact ⟨b, hsame e he _ h1 b hb⟩
  have hrun : ∀ q, Instr.findNow d vk es 0 = some q → (Instr.findKey kt vk es).run P w = .ok q w := fun q hq => by
    simp [Instr.findKey, run_underlying hu, hq]
  rcases findNow_spec es 0 hall with ⟨h1, h2⟩ | ⟨j, e, h1, h2, h3⟩
  · cases r with
    | none => exact .inl ⟨rfl, hrun _ h1, kvFind_none h⟩
    | some g =>
      obtain ⟨e, he, q1, _⟩ := hkv.of_mem' (kvFind_some h)
      have := hsame e he k q1 true (by
        obtain ⟨b, hb⟩ := kvFind_all h _ (kvFind_some h)
        simp only at hb
        have : b = true := by
          cases k <;> simp only [keyEq, reduceCtorEq] at hb <;> first
            | (rw [show (_ == _) = true from by simp] at hb; cases hb; rfl)
            | (simp [kEq, intEq_eq] at hb; first | exact hb | exact hb.symm)
            | (simp at hb; first | exact hb | exact hb.symm)
        rw [hb, this])
      rw [h2 e he] at this; cases this
  · have he : e ∈ es := List.mem_of_getElem? h2
    obtain ⟨p, hp, q1, q2⟩ := hkv.of_mem he
    obtain ⟨b, hb⟩ := kvFind_all h p hp
    have hb' := hsame e he _ q1 b hb
    rw [h3] at hb'; cases hb'
    have hkp := keyEq_true hb
    cases r with
    | none => rw [kvFind_none h p hp] at hb; cases hb
    | some g =>
      have hg : g = p.2 := nodup_key hn (kvFind_some h) (by rw [hkp]; exact hp)
      rw [Nat.zero_add] at h1
      exact .inr ⟨g, j, e, rfl, hrun _ h1, h2, by rw [hkp]; exact q1, by rw [hg]; exact q2, kvFind_some h⟩

theorem checkKey_ok {kt : TypeId} {ti : TyI} (hty : TyOk P kt ti) {k : G} (hs : keySh k ti.sh = true) (b : Bool) (n : Nat) (v : Value) : (Instr.checkKey b (n + 1) kt v).run P w = .ok () w := by
  have := hty.sh
  cases hsh : ti.sh <;> rw [hsh] at hs this <;> cases k <;> simp only [keySh, reduceCtorEq] at hs
  all_goals
    have hu : P.underlying kt = some _ := this
    simp [Instr.checkKey, run_underlying hu]

def pairG (ok : Bool) (v : G) (b : Bool) : G := match ok with
  | true => .tup [v, .bool b]
  | false => v

def zeroPair (ei : TyI) (ok : Bool) : Option G := match zeroG ei with
  | some z => some (pairG ok z false)
  | none => none

noncomputable def lookG (tt : TT) (h : GH) (m k : G) (kt et : TypeId) (ok : Bool) : Option G := match lk tt kt, lk tt et with
  | some ki, some ei => match keySh k ki.sh with
    | true => match m with
      | .nilm => zeroPair ei ok
      | .map b => match h.get b with
        | .map _ kv => match kvFind k kv with
          | some (some v) => some (pairG ok v true)
          | some none => zeroPair ei ok
          | none => none
        | _ => none
      | _ => none
    | false => none
  | _, _ => none

theorem tup2_rep {v u : Value} {g k : G} (h : RepG ρ v g) (h' : RepG ρ u k) : RepG ρ (.tuple #[v, u]) (.tup [g, k]) := tup_rep (.mk h (.mk h' .nil))

theorem pairG_rep {v : Value} {g : G} {b : Bool} (h : RepG ρ v g) (ok : Bool) : RepG ρ (if ok then .tuple #[v, .bool b] else v) (pairG ok g b) := by
  cases ok with
  | true => exact tup2_rep h (.bool _)
  | false => exact h

theorem zeroPair_ok (htt : TTok P tt) (hz : TTz P tt) {t : TypeId} {i : TyI} {ok : Bool} {g : G} (hl : lk tt t = some i) (h : zeroPair i ok = some g) :
    ∃ v, (zeroValue t).run P w = .ok v w ∧ RepG ρ (if ok then .tuple #[v, .bool false] else v) g := by
  unfold zeroPair at h
  cases hz' : zeroG i with
  | none => rw [hz'] at h; cases h
  | some z =>
    rw [hz'] at h; cases h
    obtain ⟨zv, z1, z2, _⟩ := zeroG_ok (P := P) (w := w) (ρ := ρ) htt hz hl hz'
    exact ⟨zv, z1, pairG_rep z2 ok⟩

theorem lookG_ok (htt : TTok P tt) (hz : TTz P tt) {B : Bl} {h : GH} (hr : HRep B ρ h w) {t kt et : TypeId} (hu : P.underlying t = some (.map kt et)) {m k g : G} {vm vk : Value} {ok : Bool} (hm : RepG ρ vm m) (hk : RepG ρ vk k)
    (hg : lookG tt h m k kt et ok = some g) : ∃ v, (Instr.lookup t vm vk ok).run P w = .ok v w ∧ RepG ρ v g := by
  unfold lookG at hg
  cases hki : lk tt kt with
  | none => rw [hki] at hg; cases hg
  | some ki =>
  cases hei : lk tt et with
  | none => rw [hki, hei] at hg; cases hg
  | some ei =>
  rw [hki, hei] at hg
  simp only at hg
  cases hs : keySh k ki.sh with
  | false => rw [hs] at hg; cases hg
  | true =>
  rw [hs] at hg
  have hck := fun b => checkKey_ok (P := P) (w := w) (htt kt ki hki) hs b 9999 vk
  cases m <;> simp only [reduceCtorEq] at hg
  · cases hm
    obtain ⟨zv, z1, z2⟩ := zeroPair_ok (P := P) (w := w) (ρ := ρ) htt hz hei hg
    have hd : ∃ d, P.underlying kt = some d := by
      have := (htt kt ki hki).sh
      cases hsh : ki.sh <;> rw [hsh] at hs this <;> cases k <;> simp only [keySh, reduceCtorEq] at hs
      all_goals exact ⟨_, this⟩
    obtain ⟨d, hd⟩ := hd
    refine ⟨_, ?_, z2⟩
    simp [Instr.lookup, run_underlying hu, hck, Instr.findKey, run_underlying hd, Instr.findNow, z1]
  · rename_i b
    cases hb : h.get b <;> rw [hb] at hg <;> simp only [reduceCtorEq] at hg
    rename_i ver kv
    obtain ⟨r, z, hρ⟩ := hm.mapρ
    have hrep := hr.atρ hb rfl hρ
    obtain ⟨es, clock, e1, e2, e3, _⟩ := hrep
    cases hm with
    | map _ r' z' hρ' =>
      rw [hρ] at hρ'; cases hρ'
      cases hf : kvFind k kv with
      | none => rw [hf] at hg; cases hg
      | some q =>
        rw [hf] at hg
        rcases find_ok (w := w) (htt kt ki hki) hk hs e2 e3 hf with ⟨rfl, q2, _⟩ | ⟨g', j, e, rfl, q2, q3, q4, q5, _⟩
        · obtain ⟨zv, z1, z2⟩ := zeroPair_ok (P := P) (w := w) (ρ := ρ) htt hz hei hg
          refine ⟨_, ?_, z2⟩
          simp [Instr.lookup, run_underlying hu, getObj, Sem.run, e1, hck, q2, z1]
        · cases hg
          refine ⟨_, ?_, pairG_rep q5 ok⟩
          simp [Instr.lookup, run_underlying hu, getObj, Sem.run, e1, hck, q2]

end
end Go.Gx

/- The ghost machine: equality of structs, slice expressions, indices, lengths. -/
namespace Go.Gx
open Go.Hk (TT TTok TyI Sh lk TyOk ShOk nth nth_eq)

/-! ### Equality of structs -/
/-- A struct whose fields all count and that the model compares field by field. -/
def seqB (P : Program) (t : TypeId) : Bool := (match P.underlying t with
  | some (.struct fs) => fs.toList.all fun f => f.name != "_"
  | _ => false) && !P.stoodInHeld t && !P.eqGuardType P.depth t

def gsEq (tt : TT) : Nat → List (Nat × TypeId) → List G → List G → Option Bool
  | _, [], [], [] => some true
  | i, (off, ft) :: fs, x :: xs, y :: ys => match Nat.beq off i, lk tt ft with
    | true, some ti => match keySh x ti.sh, keyEq x y with
      | true, some b => match gsEq tt (i + 1) fs xs ys with
        | some b' => some (b && b')
        | none => none
      | _, _ => none
    | _, _ => none
  | _, _, _, _ => none

section
variable {P : Program} {w : World} {tt : TT} {ρ : Rho}

theorem notAgg_of_key {t : TypeId} {ti : TyI} (hty : TyOk P t ti) {x : G} (hs : keySh x ti.sh = true) : (Go.isAgg t).run P w = .ok false w := by
  have := hty.sh
  cases hsh : ti.sh <;> rw [hsh] at hs this <;> cases x <;> simp only [keySh, reduceCtorEq] at hs
  all_goals
    have hu : P.underlying t = some _ := this
    simp [Go.isAgg, run_underlying hu]

theorem keyEq_run {x y : G} {vx vy : Value} {b : Bool} {t : TypeId} {ti : TyI} (hty : TyOk P t ti) (n : Nat) (hx : RepG ρ vx x) (hy : RepG ρ vy y) (h : keyEq x y = some b) (hs : keySh x ti.sh = true) :
    (Op.equalIn (n + 1) t vx vy).run P w = .ok b w := by
  have := hty.sh
  cases x <;> simp only [keyEq, reduceCtorEq] at h <;> cases y <;> simp only [Option.some.injEq, reduceCtorEq] at h
  · cases hx; cases hy
    cases hsh : ti.sh <;> rw [hsh] at hs this <;> simp only [keySh, reduceCtorEq] at hs
    rw [run_equalIn_bool' w n t _ _ this, h]
  · rename_i k a k' b'
    cases hk : kEq k k' with
    | false => rw [hk] at h; cases h
    | true =>
      rw [hk] at h
      have hkk : k = k' := of_decide_eq_true hk
      subst hkk
      cases hx; cases hy
      cases hsh : ti.sh <;> rw [hsh] at hs this <;> simp only [keySh, reduceCtorEq] at hs
      simp only [Option.some.injEq, intEq_eq] at h
      rw [run_equalIn_int w n t _ _ _ _ this, h]
  · obtain ⟨s, rfl, rfl, rfl⟩ := hx.strInv
    obtain ⟨s', rfl, rfl, rfl⟩ := hy.strInv
    cases hsh : ti.sh <;> rw [hsh] at hs this <;> simp only [keySh, reduceCtorEq] at hs
    rw [str_eq] at h
    rw [run_equalIn_string w n t _ _ this, ByteArray.toList_eq, ByteArray.toList_eq, h]

theorem eqFields_ok (htt : TTok P tt) {xs ys : Array Value} (n : Nat) : ∀ (fs : List Field) (i : Nat) (gx gy : List G) (b : Bool), (∀ f ∈ fs, f.name ≠ "_") →
    RepGs ρ (xs.toList.drop i) gx → RepGs ρ (ys.toList.drop i) gy → gsEq tt i (fs.map fun f => (f.offset, f.type)) gx gy = some b → (Op.eqFields (n + 1) xs ys fs).run P w = .ok b w
  | [], i, gx, gy, b, _, _, _, h => by
    cases gx <;> cases gy <;> simp only [List.map_nil, gsEq, Option.some.injEq, reduceCtorEq] at h
    simp [Op.eqFields, ← h]
  | f :: fs, i, gx, gy, b, hn, hx, hy, h => by
    cases gx with
    | nil => simp [gsEq] at h
    | cons x gx =>
      cases gy with
      | nil => simp [gsEq] at h
      | cons y gy =>
        simp only [List.map_cons, gsEq] at h
        cases ho : Nat.beq f.offset i with
        | false => rw [ho] at h; cases h
        | true =>
        cases hl : lk tt f.type with
        | none => rw [ho, hl] at h; cases h
        | some ti =>
        rw [ho, hl] at h
        simp only at h
        cases hs : keySh x ti.sh with
        | false => rw [hs] at h; cases h
        | true =>
        cases hk : keyEq x y with
        | none => rw [hs, hk] at h; cases h
        | some b1 =>
        rw [hs, hk] at h
        simp only at h
        cases hr : gsEq tt (i + 1) (fs.map fun f => (f.offset, f.type)) gx gy with
        | none => rw [hr] at h; cases h
        | some b2 =>
        rw [hr] at h
        cases h
        have ho := Nat.eq_of_beq_eq_true ho
        have get : ∀ {vs : Array Value} {g : G} {gs : List G}, RepGs ρ (vs.toList.drop i) (g :: gs) → ∃ v, vs[i]? = some v ∧ RepG ρ v g ∧ RepGs ρ (vs.toList.drop (i + 1)) gs := by
          intro vs g gs hr
          cases hd : vs.toList.drop i with
          | nil => rw [hd] at hr; simp [RepGs] at hr
          | cons v vs' =>
            rw [hd] at hr
            have h0 : vs.toList[i]? = some v := by
              have : (vs.toList.drop i)[0]? = some v := by rw [hd]; rfl
              rw [List.getElem?_drop] at this; simpa using this
            refine ⟨v, by rw [← Array.getElem?_toList]; exact h0, hr.cons.1, ?_⟩
            have : vs.toList.drop (i + 1) = vs' := by
              have := congrArg List.tail hd
              simpa [List.tail_drop] using this
            rw [this]; exact hr.cons.2
        obtain ⟨vx, x1, x2, x3⟩ := get hx
        obtain ⟨vy, y1, y2, y3⟩ := get hy
        have ih := eqFields_ok htt n fs (i + 1) gx gy b2 (fun f hf => hn f (by simp [hf])) x3 y3 hr
        have hagg := notAgg_of_key (w := w) (htt _ _ hl) hs
        have hpart : ∀ (vs : Array Value) (v : Value), vs[i]? = some v → (part f.type vs f.offset).run P w = .ok v w := fun vs v hv => by
          simp [part, hagg, ho, hv]
        have he := keyEq_run (w := w) (htt _ _ hl) n x2 y2 hk hs
        simp only [Op.eqFields, hn f (by simp), ne_eq, not_false_eq_true, if_true, Sem.run_bind, hpart _ _ x1, hpart _ _ y1, Result.andThen_ok, he]
        cases b1 with
        | true => simpa using ih
        | false => simp

noncomputable def evAgg (tt : TT) (eqs : List Nat) (op : BinOp) (t : TypeId) (xs ys : List G) : Option G := match Hk.memN eqs t, lk tt t with
  | true, some { sh := .struct fs, .. } => match gsEq tt 0 fs xs ys with
    | some b => match op with
      | .eql => some (.bool b)
      | .neq => some (.bool (!b))
      | _ => none
    | none => none
  | _, _ => none

theorem evAgg_ok (htt : TTok P tt) {eqs : List Nat} (heq : ∀ t ∈ eqs, seqB P t = true) {op : BinOp} {t : TypeId} {xo yo : Operand} {xs ys : List G} {g : G} {vx vy : Value} (hx : RepG ρ vx (.agg xs)) (hy : RepG ρ vy (.agg ys))
    (h : evAgg tt eqs op t xs ys = some g) : ∃ v, (do eqGuard op t xo yo vx vy; binOp op t vx vy : Sem Value).run P w = .ok v w ∧ RepG ρ v g := by
  unfold evAgg at h
  split at h
  · rename_i fs _ _ _ _ hm hl
    have hs := heq t (Hk.memN_iff.1 hm)
    simp only [seqB, Bool.and_eq_true, Bool.not_eq_true'] at hs
    obtain ⟨⟨h1, h2⟩, h3⟩ := hs
    obtain ⟨fields, hu, hmap, _⟩ : ∃ fields, P.underlying t = some (.struct fields) ∧ fields.toList.map (fun f => (f.offset, f.type)) = fs ∧ ∀ f ∈ fields.toList, 0 < P.cellsOf f.type := (htt t _ hl).sh
    rw [hu] at h1
    simp only [List.all_eq_true, bne_iff_ne] at h1
    obtain ⟨cx, rfl, rx, _⟩ := hx.aggInv
    obtain ⟨cy, rfl, ry, _⟩ := hy.aggInv
    cases hg : gsEq tt 0 fs xs ys with
    | none => rw [hg] at h; cases h
    | some b =>
      rw [hg] at h
      rw [← hmap] at hg
      have hf := eqFields_ok (w := w) htt 9998 fields.toList 0 xs ys b h1 (by simpa using rx) (by simpa using ry) hg
      have hfo : P.fieldsOf t = fields := by simp [Program.fieldsOf, hu]
      have he : (Op.equalIn 10000 t (.agg cx) (.agg cy)).run P w = .ok b w := by
        have := run_equalIn_struct (P := P) w 9999 t cx cy (by rw [hfo]; exact hu) h2
        rw [this, hfo]; exact hf
      cases op <;> simp only [Option.some.injEq, reduceCtorEq] at h <;> subst h
      · exact ⟨_, by simp only [Sem.run_bind, run_eqGuard_agg w _ _ _ _ _ _ h3, Result.andThen_ok, run_eql_struct w, he], .bool _⟩
      · exact ⟨_, by simp only [Sem.run_bind, run_eqGuard_agg w _ _ _ _ _ _ h3, Result.andThen_ok, run_neq_struct w, he], .bool _⟩
  · cases h

/-! ### Slice expressions -/
def natG : G → Option Nat
  | .int _ (.ofNat n) => some n
  | _ => none

theorem natG_rep {g : G} {n : Nat} {v : Value} (h : natG g = some n) (hr : RepG ρ v g) : ∃ k, v = .int k n := by
  cases g <;> simp only [natG, reduceCtorEq] at h
  rename_i k m
  cases m <;> simp only [Option.some.injEq, reduceCtorEq] at h
  cases hr
  exact ⟨k, by rw [← h]; rfl⟩

theorem bound_ok {k : IntKind} {x y : Nat} (c : BoundsCode) (h : x ≤ y) : (Instr.sliceBound (.int k x) y c).run P w = .ok x w := by
  simp [Instr.sliceBound, asIntOf, h]

def optN (s : S) (d : Nat) : Option Operand → Option Nat
  | none => some d
  | some x => natG (evA x s)

/-- Bounds that hold. -/
theorem bounds_ok {isSlice : Bool} {len cap : Nat} {a : Act} {s : S} (hs : SRep ρ s a.tmps) {lo hi : Option Operand} {l h : Nat} (hl : optN s 0 lo = some l) (hh : optN s len hi = some h) (h1 : l ≤ h) (h2 : h ≤ cap) :
    (Instr.sliceBounds isSlice len cap (lo.map a.eval) (hi.map a.eval) none).run P w = .ok (l, h, cap) w := by
  have hlo : ∀ m, l ≤ m → ∀ c, (match lo.map a.eval with | some v => Instr.sliceBound v m c | none => pure 0 : Sem Nat).run P w = .ok l w := by
    intro m hm c
    cases lo with
    | none => simp only [optN, Option.some.injEq] at hl; simp [hl]
    | some x => obtain ⟨k, hk⟩ := natG_rep hl (evA_rep hs x); simp only [Option.map_some, hk]; exact bound_ok c hm
  cases hi with
  | none =>
    simp only [optN, Option.some.injEq] at hh
    subst hh
    have := hlo len h1
    simp only [Instr.sliceBounds, Option.map_none, Sem.run_bind, Sem.run_pure, Result.andThen_ok]
    cases lo with
    | none => simp only [optN, Option.some.injEq] at hl; simp [hl]
    | some x =>
      have := this .sliceB
      simp only [Option.map_some] at this
      simp [this]
  | some y =>
    obtain ⟨k, hk⟩ := natG_rep hh (evA_rep hs y)
    have hb := fun c => bound_ok (P := P) (w := w) (k := k) c h2
    simp only [Instr.sliceBounds, Option.map_none, Option.map_some, Sem.run_bind, Sem.run_pure, Result.andThen_ok, hk, hb]
    cases lo with
    | none => simp only [optN, Option.some.injEq] at hl; simp [hl]
    | some x =>
      have := hlo h h1 .sliceB
      simp only [Option.map_some] at this
      simp [this]

theorem bounds3_ok {len cap : Nat} {a : Act} {s : S} (hs : SRep ρ s a.tmps) {lo : Option Operand} {y m : Operand} {l h n : Nat} (hl : optN s 0 lo = some l) (hh : natG (evA y s) = some h) (hm : natG (evA m s) = some n) (h1 : l ≤ h) (h2 : h ≤ n) (h3 : n ≤ cap) :
    (Instr.sliceBounds true len cap (lo.map a.eval) (some (a.eval y)) (some (a.eval m))).run P w = .ok (l, h, n) w := by
  obtain ⟨k, hk⟩ := natG_rep hh (evA_rep hs y)
  obtain ⟨k', hk'⟩ := natG_rep hm (evA_rep hs m)
  have hb := fun c => bound_ok (P := P) (w := w) (k := k) c h2
  have hb' := fun c => bound_ok (P := P) (w := w) (k := k') c h3
  simp only [Instr.sliceBounds, Sem.run_bind, Sem.run_pure, Result.andThen_ok, hk, hb, hk', hb']
  cases lo with
  | none => simp only [optN, Option.some.injEq] at hl; simp [hl]
  | some x =>
    obtain ⟨k2, hk2⟩ := natG_rep hl (evA_rep hs x)
    have hb2 := fun c => bound_ok (P := P) (w := w) (k := k2) c h1
    simp [hk2, hb2]

noncomputable def sliceG (tt : TT) (t : TypeId) (s : S) (x : G) (lo hi mx : Option Operand) : Option G := match x with
  | .str len n => match lk tt t, optN s 0 lo, optN s len hi, mx with
    | some { sh := .str, .. }, some l, some h, none => match Nat.ble l h, Nat.ble h len with
      | true, true => some (.str (Nat.sub h l) (Nat.mod (Nat.shiftRight n (Nat.mul 8 l)) (Nat.pow 256 (Nat.sub h l))))
      | _, _ => none
    | _, _, _, _ => none
  | .sl b o len cap ex => match lk tt t, optN s 0 lo, mx with
    | some { sh := .sl e, .. }, some l, none => match lk tt e, optN s len hi with
      | some ie, some h => match Nat.ble l h, Nat.ble h cap, ex with
        | true, true, none => some (.sl b (Nat.add o (Nat.mul l ie.size)) (Nat.sub h l) (Nat.sub cap l) none)
        | true, true, some sz => match Nat.beq sz ie.size with
          | true => some (.sl b (Nat.add o (Nat.mul l ie.size)) (Nat.sub h l) (Nat.sub cap l) (some sz))
          | false => none
        | _, _, _ => none
      | _, _ => none
    | some { sh := .sl e, .. }, some l, some m => match lk tt e, hi with
      | some ie, some y => match natG (evA y s), natG (evA m s) with
        | some h, some n => match Nat.ble l h, Nat.ble h n, Nat.ble n cap with
          | true, true, true => some (.sl b (Nat.add o (Nat.mul l ie.size)) (Nat.sub h l) (Nat.sub n l) none)
          | _, _, _ => none
        | _, _ => none
      | _, _ => none
    | _, _, _ => none
  | .nils => match lk tt t, optN s 0 lo, optN s 0 hi with
    | some { sh := .sl e, .. }, some 0, some 0 => match lk tt e with
      | some _ => match mx with
        | none => some .nils
        | some m => match hi, natG (evA m s) with
          | some _, some 0 => some .nils
          | _, _ => none
      | none => none
    | _, _, _ => none
  | _ => none

theorem sliceG_ok (htt : TTok P tt) {t : TypeId} {s : S} {a : Act} (hs : SRep ρ s a.tmps) {x g : G} {vx : Value} {lo hi mx : Option Operand} (hx : RepG ρ vx x) (h : sliceG tt t s x lo hi mx = some g) :
    ∃ v, (Instr.sliceAt t vx (lo.map a.eval) (hi.map a.eval) (mx.map a.eval)).run P w = .ok v w ∧ RepG ρ v g := by
  cases x <;> simp only [sliceG, reduceCtorEq] at h
  · rename_i len n
    split at h
    · rename_i l h' hl ho hh
      split at h
      · rename_i b1 b2
        rw [Nat.ble_eq] at b1 b2
        cases h
        obtain ⟨sb, rfl, e1, e2⟩ := hx.strInv
        have hu : P.underlying t = some .string := (htt t _ hl).sh
        refine ⟨.string (sb.extract l h'), ?_, ?_⟩
        · have := bounds_ok (P := P) (w := w) (isSlice := false) (len := sb.size) (cap := sb.size) hs ho (by rw [e1]; exact hh) b1 (by omega)
          simp [Instr.sliceAt, run_underlying hu, Instr.slice, this]
        · have e3 : (sb.extract l h').data.toList = (sb.data.toList.drop l).take (h' - l) := by
            simp [ByteArray.data_extract, List.extract_eq_take_drop]
          have hlen : sb.data.toList.length = len := by rw [size_length, e1]
          refine .str _ _ _ (by rw [← size_length, e3]; simp; omega) ?_
          rw [e3, (pk_take_drop _ _ (by simp; omega)).1, (pk_take_drop _ _ (by omega)).2, e2]
          show _ = (n >>> (8 * l)) % 256 ^ (h' - l)
          rw [Nat.shiftRight_eq_div_pow, ← pow_256]
      · cases h
    · cases h
  · split at h
    · rename_i e _ _ _ _ hl ho hh
      cases hle : lk tt e with
      | none => rw [hle] at h; cases h
      | some ie =>
        rw [hle] at h
        simp only at h
        have hu : P.underlying t = some (.slice e) := (htt t _ hl).sh
        cases mx with
        | none =>
          cases h
          cases hx
          have := bounds_ok (P := P) (w := w) (isSlice := true) (len := 0) (cap := 0) hs ho hh (Nat.le_refl _) (Nat.le_refl _)
          refine ⟨.slice none 0 0, ?_, .nils⟩
          simp [Instr.sliceAt, run_underlying hu, Instr.slice, this, (htt e _ hle).sizeOf w]
        | some m =>
          simp only at h
          split at h
          · rename_i y hn
            cases h
            cases hx
            have := bounds3_ok (P := P) (w := w) (len := 0) (cap := 0) hs ho hh hn (Nat.le_refl _) (Nat.le_refl _) (Nat.le_refl _)
            refine ⟨.slice none 0 0, ?_, .nils⟩
            simp [Instr.sliceAt, run_underlying hu, Instr.slice, this, (htt e _ hle).sizeOf w]
          · cases h
    · cases h
  · rename_i b o len cap ex
    have key : ∀ {e : TypeId} {ie : TyI} {l h' n : Nat} {ex' : Option Nat} (m' : Nat → Nat), P.underlying t = some (.slice e) → lk tt e = some ie → l ≤ h' → h' ≤ cap →
        (∀ cap', cap ≤ cap' → (ex = none → cap' = cap) → (Instr.sliceBounds true len cap' (lo.map a.eval) (hi.map a.eval) (mx.map a.eval)).run P w = .ok (l, h', m' cap') w) →
        (∀ cap', cap ≤ cap' → h' ≤ m' cap' ∧ n + l ≤ m' cap' ∧ h' ≤ n + l ∧ m' cap' ≤ cap') →
        (∀ cap' z, cap ≤ cap' → (match ex with | none => cap' = cap | some sz => o + cap' * sz = z) → l ≤ m' cap' → (match ex' with | none => m' cap' - l = n | some sz => o + l * ie.size + (m' cap' - l) * sz = z)) →
        ∃ v, (Instr.sliceAt t vx (lo.map a.eval) (hi.map a.eval) (mx.map a.eval)).run P w = .ok v w ∧ RepG ρ v (.sl b (o + l * ie.size) (h' - l) n ex') := by
      intro e ie l h' n ex' m' hu hie h1 h2 hb hm hx'
      cases hx with
      | sl _ r z _ _ _ cap' _ hρ hlen hc hmax hex =>
        have hbb := hb cap' hc (fun e => by subst e; exact hex)
        obtain ⟨m1, m2, m3, m4⟩ := hm cap' hc
        have hrun : (Instr.sliceAt t (.slice (some ⟨r, o, none⟩) len cap') (lo.map a.eval) (hi.map a.eval) (mx.map a.eval)).run P w =
            .ok (.slice (if m' cap' = l then some ⟨r, o, none⟩ else some ((⟨r, o, none⟩ : Addr).add (l * ie.size))) (h' - l) (m' cap' - l)) w := by
          simp [Instr.sliceAt, run_underlying hu, Instr.slice, hbb, (htt e _ hie).sizeOf w]
        refine ⟨_, hrun, ?_⟩
        by_cases hml : m' cap' = l
        · rw [if_pos hml]
          have e1 : h' - l = 0 := by omega
          have e2 : n = 0 := by omega
          have e3 : m' cap' - l = 0 := by omega
          rw [e1, e2, e3]
          exact .sl0 _ _ _ _
        · rw [if_neg hml, Hk.addr_add]
          exact .sl b r z _ _ _ _ _ hρ (by omega) (by omega) (by omega) (hx' cap' z hc hex (by omega))
      | sl0 ad _ _ _ =>
        have hl0 : l = 0 := by omega
        have hh0 : h' = 0 := by omega
        subst hl0; subst hh0
        have hbb := hb 0 (Nat.le_refl _) (fun _ => rfl)
        obtain ⟨m1, m2, m3, m4⟩ := hm 0 (Nat.le_refl _)
        have e0 : m' 0 = 0 := by omega
        have e2 : n = 0 := by omega
        rw [e0] at hbb
        refine ⟨.slice (some ad) 0 0, ?_, by rw [e2]; exact .sl0 _ _ _ _⟩
        simp [Instr.sliceAt, run_underlying hu, Instr.slice, hbb, (htt e _ hie).sizeOf w]
    split at h
    · rename_i e _ _ _ _ l hl ho
      have hu : P.underlying t = some (.slice e) := (htt t _ hl).sh
      split at h
      · rename_i ie h' hie hh
        split at h
        · rename_i b1 b2
          rw [Nat.ble_eq] at b1 b2
          cases h
          show ∃ v, _ ∧ RepG ρ v (.sl b (o + l * ie.size) (h' - l) (cap - l) none)
          refine key (fun c => c) hu hie b1 b2 (fun cap' hc he => ?_) (fun cap' hc => ⟨by omega, by omega, by omega, by omega⟩) (fun cap' z hc he _ => ?_)
          · exact bounds_ok hs ho hh b1 (by omega)
          · have he : cap' = cap := he
            show cap' - l = cap - l
            omega
        · rename_i b1 b2
          split at h
          · rename_i hsz
            rw [Nat.ble_eq] at b1 b2
            have hsz := Nat.eq_of_beq_eq_true hsz
            cases h
            show ∃ v, _ ∧ RepG ρ v (.sl b (o + l * ie.size) (h' - l) (cap - l) (some _))
            refine key (fun c => c) hu hie b1 b2 (fun cap' hc he => ?_) (fun cap' hc => ⟨by omega, by omega, by omega, by omega⟩) (fun cap' z hc he hlm => ?_)
            · exact bounds_ok hs ho hh b1 (by omega)
            · have he : o + cap' * _ = z := he
              show o + l * ie.size + (cap' - l) * _ = z
              rw [← he, hsz, Nat.add_assoc, ← Nat.add_mul]
              congr 2
              omega
          · cases h
        · cases h
      · cases h
    · rename_i e _ _ _ _ l m hl ho
      have hu : P.underlying t = some (.slice e) := (htt t _ hl).sh
      split at h
      · rename_i ie y hie
        split at h
        · rename_i h' n hh hn
          split at h
          · rename_i b1 b2 b3
            rw [Nat.ble_eq] at b1 b2 b3
            cases h
            show ∃ v, _ ∧ RepG ρ v (.sl b (o + l * ie.size) (h' - l) (n - l) none)
            refine key (fun _ => n) hu hie b1 (by omega) (fun cap' hc he => ?_) (fun cap' hc => ⟨by omega, by omega, by omega, by omega⟩) (fun cap' z hc he hlm => ?_)
            · exact bounds3_ok hs ho hh hn b1 b2 (by omega)
            · show n - l = n - l
              rfl
          · cases h
        · cases h
      · cases h
    · cases h

end
end Go.Gx

/- The ghost machine: the operations that change nothing, together. -/
namespace Go.Gx
open Go.Hk (TT TTok TyI Sh lk TyOk ShOk nth nth_eq)

/-- What is known of a program. -/
structure Ctx (P : Program) (tt : TT) (eqs : List Nat) : Prop where
  ty : TTok P tt
  tz : TTz P tt
  eqs : ∀ t ∈ eqs, seqB P t = true
  mixed : P.follows .mixedOrders = true

noncomputable def evBinA (tt : TT) (eqs : List Nat) (op : BinOp) (t : TypeId) (yo : Operand) (x y : G) : Option G := match x with
  | .agg a => match y with
    | .agg b => evAgg tt eqs op t a b
    | _ => none
  | x => evBin tt op t yo x y

noncomputable def indexG (tt : TT) (t : TypeId) (x y : G) : Option G := match natG y with
  | some i => match x with
    | .str len n => match lk tt t, Nat.blt i len with
      | some { sh := .str, .. }, true => some (.int .u8 (.ofNat (byteAt n i)))
      | _, _ => none
    | .agg l => match lk tt t with
      | some { sh := .arr n e, .. } => match lk tt e, Nat.blt i n with
        | some ie, true => ldG ie l (Nat.mul i ie.size)
        | _, _ => none
      | _ => none
    | _ => none
  | none => none

def indexAddrG (tt : TT) (t : TypeId) (x y : G) : Option G := match natG y with
  | some i => match x with
    | .sl b o len _ _ => match lk tt t with
      | some { sh := .sl e, .. } => match lk tt e, Nat.blt i len with
        | some ie, true => some (.ptr b (Nat.add o (Nat.mul i ie.size)))
        | _, _ => none
      | _ => none
    | .ptr b o => match lk tt t with
      | some { sh := .arr n e, .. } => match lk tt e, Nat.blt i n with
        | some ie, true => some (.ptr b (Nat.add o (Nat.mul i ie.size)))
        | _, _ => none
      | _ => none
    | _ => none
  | none => none

noncomputable def lenG (tt : TT) (h : GH) (t : TypeId) (x : G) : Option G := match lk tt t with
  | some ti => match x, ti.sh with
    | .sl _ _ len _ _, .sl _ => some (.int .i64 (.ofNat len))
    | .nils, .sl _ => some (.int .i64 (.ofNat 0))
    | .str len _, .str => some (.int .i64 (.ofNat len))
    | .nilm, .map _ _ => some (.int .i64 (.ofNat 0))
    | .map b, .map _ _ => match h.get b with
      | .map _ kv => some (.int .i64 (.ofNat kv.length))
      | _ => none
    | _, _ => none
  | none => none

def intsG : List Operand → S → Option (IntKind × List Int)
  | [], _ => none
  | [x], s => match evA x s with
    | .int k n => some (k, [n])
    | _ => none
  | x :: r, s => match evA x s, intsG r s with
    | .int k n, some (k', l) => match kEq k k' with
      | true => some (k, n :: l)
      | false => none
    | _, _ => none

def concSh : Sh → Bool
  | .iface => false
  | .other => false
  | _ => true

def assert1 (ti : TyI) (t : TypeId) (x : G) (ok : Bool) : Option G := match x with
  | .if_ u g => match Nat.beq u t with
    | true => some (pairG ok g true)
    | false => match ok with
      | true => zeroPair ti true
      | false => none
  | .nili => match ok with
    | true => zeroPair ti true
    | false => none
  | _ => none

def assertG (tt : TT) (t : TypeId) (x : G) (ok : Bool) : Option G := match lk tt t with
  | some ti => match concSh ti.sh with
    | true => assert1 ti t x ok
    | false => none
  | none => none

def mkIfG (tt : TT) (t : TypeId) (x : G) : Option G := match lk tt t with
  | some ti => match concSh ti.sh with
    | true => some (.if_ t x)
    | false => none
  | none => none

/-- An array's places, as those of a struct's fields. -/
def arrFs (e : TypeId) (sz : Nat) : Nat → Nat → List (Nat × TypeId)
  | 0, _ => []
  | n + 1, off => (off, e) :: arrFs e sz n (off + sz)

theorem arrFs_nth {e : TypeId} {sz : Nat} : ∀ {n off i o : Nat} {ft : TypeId}, nth (arrFs e sz n off) i = some (o, ft) → o = off + i * sz ∧ ft = e
  | 0, _, i, _, _, h => by cases i <;> cases h
  | n + 1, off, 0, o, ft, h => by cases h; exact ⟨by omega, rfl⟩
  | n + 1, off, i + 1, o, ft, h => by
    have h : nth (arrFs e sz n (off + sz)) i = some (o, ft) := h
    obtain ⟨h1, h2⟩ := arrFs_nth h
    exact ⟨by rw [h1, Nat.add_mul, Nat.one_mul]; omega, h2⟩


noncomputable def evQ (tt : TT) (eqs : List Nat) (op : Op) (s : S) (h : GH) : Option G := match op with
  | .move x => some (evA x s)
  | .assign x => some (evA x s)
  | .pick c a b => match evA c s with
    | .bool true => some (evA a s)
    | .bool false => some (evA b s)
    | _ => none
  | .nilCheck x => match evA x s with
    | .ptr b o => some (.ptr b o)
    | .fn f a b => some (.fn f a b)
    | .yield b => some (.yield b)
    | .if_ t g => some (.if_ t g)
    | _ => none
  | .binOp op t x y _ => evBinA tt eqs op t y (evA x s) (evA y s)
  | .unOp op _ x => match op, evA x s with
    | .not, .bool b => some (.bool (!b))
    | .neg, .int k n => some (.int k (wrapF k (0 - n)))
    | _, _ => none
  | .convert a b x => match lk tt a, lk tt b, evA x s with
    | some { sh := .int _, .. }, some { sh := .int k, .. }, .int _ n => some (.int k (wrapF k n))
    | some { sh := .int _, .. }, some { sh := .str, .. }, .int _ n => match n with
      | .ofNat m => match Nat.blt m 128 with
        | true => some (.str 1 m)
        | false => none
      | .negSucc _ => none
    | _, _, _ => none
  | .fieldAddr st x f => match evA x s, lk tt st with
    | .ptr b o, some { sh := .struct fs, .. } => match nth fs f with
      | some (fo, _) => some (.ptr b (Nat.add o fo))
      | none => none
    | _, _ => none
  | .load t x => match evA x s, lk tt t with
    | .ptr b o, some i => match h.get b with
      | .cells l => ldG i l o
      | _ => none
    | _, _ => none
  | .field t x f => match evA x s, lk tt t with
    | .agg l, some { sh := .struct fs, .. } => match nth fs f with
      | some (fo, ft) => match lk tt ft with
        | some i => ldG i l fo
        | none => none
      | none => none
    | _, _ => none
  | .extract x i => match evA x s with
    | .tup l => gnth l i
    | _ => none
  | .index t x y => indexG tt t (evA x s) (evA y s)
  | .indexAddr t x y => indexAddrG tt t (evA x s) (evA y s)
  | .slice t x lo hi mx => sliceG tt t s (evA x s) lo hi mx
  | .build t ⟨ps⟩ => match lk tt t with
    | some { sh := .struct fs, zero := z, .. } => match zsOf z with
      | some zs => match buildG tt fs s ps zs with
        | some l => some (.agg l)
        | none => none
      | none => none
    | some { sh := .arr n e, zero := z, .. } => match zsOf z, lk tt e with
      | some zs, some i => match Nat.blt 0 i.size, buildG tt (arrFs e i.size n 0) s ps zs with
        | true, some l => some (.agg l)
        | _, _ => none
      | _, _ => none
    | _ => none
  | .makeInterface t x => mkIfG tt t (evA x s)
  | .makeFunc (.func f) ⟨a⟩ ⟨b⟩ => some (.fn f (a.map (evA · s)) (b.map (evA · s)))
  | .lookup t m k ok => match lk tt t with
    | some { sh := .map kt et, .. } => lookG tt h (evA m s) (evA k s) kt et ok
    | _ => none
  | .typeAssert x _ t ok => assertG tt t (evA x s) ok
  | .call { callee := .builtin .len, args := ⟨[x]⟩, argTypes := ⟨[t]⟩ } => lenG tt h t (evA x s)
  | .call { callee := .builtin .cap, args := ⟨[x]⟩, argTypes := ⟨[t]⟩ } => match evA x s, lk tt t with
    | .sl _ _ _ cap none, some { sh := .sl _, .. } => some (.int .i64 (.ofNat cap))
    | .nils, some { sh := .sl _, .. } => some (.int .i64 (.ofNat 0))
    | _, _ => none
  | .call { callee := .builtin .max, args := ⟨[x, y]⟩, .. } => match evA x s, evA y s with
    | .int k a, .int k' b => match kEq k k' with
      | true => some (.int k (match intLe b a with | true => a | false => b))
      | false => none
    | _, _ => none
  | .call { callee := .builtin .min, args := ⟨[x, y]⟩, .. } => match evA x s, evA y s with
    | .int k a, .int k' b => match kEq k k' with
      | true => some (.int k (match intLe a b with | true => a | false => b))
      | false => none
    | _, _ => none
  | _ => none

section
variable {P : Program} {w : World} {tt : TT} {eqs : List Nat} {ρ : Rho} {B : Bl} {h : GH} {s : S} {a : Act} {g : G}

/-- What is shown of an operation that changes nothing. -/
def Quiet (P : Program) (ρ : Rho) (w : World) (g : G) (r : Result Next) : Prop := ∃ v, r = .ok (.value v) w ∧ RepG ρ v g

theorem quiet_of {e : Sem Value} {v : Value} (h1 : e.run P w = .ok v w) (h2 : RepG ρ v g) : Quiet P ρ w g ((do pure (.value (← e)) : Sem Next).run P w) :=
  ⟨v, by simp [h1], h2⟩

theorem evBinA_ok (hc : Ctx P tt eqs) {op : BinOp} {t : TypeId} {xo yo : Operand} {x y : G} {vx vy : Value} (hx : RepG ρ vx x) (hy : RepG ρ vy y) (h : evBinA tt eqs op t yo x y = some g) :
    ∃ v, (do eqGuard op t xo yo vx vy; binOp op t vx vy : Sem Value).run P w = .ok v w ∧ RepG ρ v g := by
  unfold evBinA at h
  split at h
  · split at h
    · exact evAgg_ok hc.ty hc.eqs hx hy h
    · cases h
  · exact evBin_ok hc.ty hx hy h

theorem indexG_ok (hc : Ctx P tt eqs) {t : TypeId} {x y : G} {vx vy : Value} (hx : RepG ρ vx x) (hy : RepG ρ vy y) (h : indexG tt t x y = some g) : ∃ v, (Instr.index t vx vy).run P w = .ok v w ∧ RepG ρ v g := by
  unfold indexG at h
  cases hn : natG y with
  | none => rw [hn] at h; cases h
  | some i =>
  rw [hn] at h
  obtain ⟨k, rfl⟩ := natG_rep hn hy
  cases x <;> simp only [reduceCtorEq] at h
  · split at h
    · rename_i hl hb
      cases h
      rw [Nat.blt_eq] at hb
      obtain ⟨sb, rfl, e1, e2⟩ := hx.strInv
      have hu : P.underlying t = some .string := (hc.ty t _ hl).sh
      have hlt : i < sb.size := by omega
      have hg : sb[i]? = some sb[i] := ByteArray.getElem?_lt' sb _ hlt
      refine ⟨.int .u8 sb[i].toNat, ?_, ?_⟩
      · have h0 : (0 : Int) ≤ (i : Int) := by omega
        simp only [Instr.index, Sem.run_bind, asIntOf, Sem.run_pure, Result.andThen_ok, run_underlying hu, h0, if_true, Int.toNat_natCast, hg]
      · have hlt' : i < sb.data.toList.length := by rw [size_length]; exact hlt
        have : byteAt _ i = (sb.data.toList[i]).toNat := e2 ▸ byteAt_pk sb.data.toList i hlt'
        rw [this]
        have e : sb.data.toList[i] = sb[i] := by simp; rfl
        rw [e]
        exact .int _ _
    · cases h
  · split at h
    · rename_i n e _ _ _ _ hl
      split at h
      · rename_i ie hle hb
        rw [Nat.blt_eq] at hb
        obtain ⟨cs, rfl, r1, r2⟩ := hx.aggInv
        have hu : P.underlying t = some (.array n e) := (hc.ty t _ hl).sh
        obtain ⟨v, hv, hr⟩ := partG_ok (P := P) (w := w) (hc.ty e _ hle) r2 r1 h
        refine ⟨v, ?_, hr⟩
        have h0 : (0 : Int) ≤ (i : Int) ∧ (i : Int) < n := by omega
        simp only [Instr.index, Sem.run_bind, asIntOf, Sem.run_pure, Result.andThen_ok, run_underlying hu, h0, and_self, if_true, Int.toNat_natCast, (hc.ty e _ hle).sizeOf w]
        exact hv
      · cases h
    · cases h

theorem indexAddrG_ok (hc : Ctx P tt eqs) {t : TypeId} {x y : G} {vx vy : Value} (hx : RepG ρ vx x) (hy : RepG ρ vy y) (h : indexAddrG tt t x y = some g) : ∃ v, (Instr.indexAt t vx vy).run P w = .ok v w ∧ RepG ρ v g := by
  unfold indexAddrG at h
  cases hn : natG y with
  | none => rw [hn] at h; cases h
  | some i =>
  rw [hn] at h
  obtain ⟨k, rfl⟩ := natG_rep hn hy
  cases x <;> simp only [reduceCtorEq] at h
  · rename_i b o
    split at h
    · rename_i n e _ _ _ _ hl
      split at h
      · rename_i ie hle hb
        rw [Nat.blt_eq] at hb
        cases h
        have hu : P.underlying t = some (.array n e) := (hc.ty t _ hl).sh
        obtain ⟨r, z, rfl, hρ⟩ := hx.ptrInv
        refine ⟨.pointer (some ⟨r, o + i * ie.size, none⟩), ?_, .ptr _ r z _ hρ⟩
        have h0 : (0 : Int) ≤ (i : Int) ∧ (i : Int) < n := by omega
        simp [Instr.indexAt, asIntOf, run_underlying hu, Instr.sureAddr, h0, (hc.ty e _ hle).sizeOf w, Hk.addr_add, hb]
      · cases h
    · cases h
  · rename_i b o len cap ex
    split at h
    · rename_i e _ _ _ _ hl
      split at h
      · rename_i ie hle hb
        rw [Nat.blt_eq] at hb
        cases h
        have hu : P.underlying t = some (.slice e) := (hc.ty t _ hl).sh
        cases hx with
        | sl _ r z _ _ _ cap' _ hρ =>
          refine ⟨.pointer (some ⟨r, o + i * ie.size, none⟩), ?_, .ptr _ r z _ hρ⟩
          have h0 : (0 : Int) ≤ (i : Int) ∧ (i : Int) < len := by omega
          simp [Instr.indexAt, asIntOf, run_underlying hu, (hc.ty e _ hle).sizeOf w, Hk.addr_add, hb]
        | sl0 => omega
      · cases h
    · cases h

theorem lenG_ok (hc : Ctx P tt eqs) (hr : HRep B ρ h w) {t : TypeId} {x : G} {vx : Value} (hx : RepG ρ vx x) (hg : lenG tt h t x = some g) (ty : TypeId) : ∃ v, (Builtin.len_ #[t] ty #[vx]).run P w = .ok v w ∧ RepG ρ v g := by
  unfold lenG at hg
  cases hl : lk tt t with
  | none => rw [hl] at hg; cases hg
  | some ti =>
  rw [hl] at hg
  simp only at hg
  have hsh := (hc.ty t _ hl).sh
  cases hs : ti.sh <;> rw [hs] at hg hsh <;> cases x <;> simp only [Option.some.injEq, reduceCtorEq] at hg
  · have hu : P.underlying t = some .string := hsh
    obtain ⟨sb, rfl, e1, e2⟩ := hx.strInv
    subst hg
    refine ⟨.int .i64 (sb.size : Int), by simp [Builtin.len_, run_underlying hu, goInt], ?_⟩
    rw [e1]; exact .int _ _
  · have hu : P.underlying t = some (.slice _) := hsh
    cases hx
    subst hg
    exact ⟨.int .i64 0, by simp [Builtin.len_, run_underlying hu, goInt], .int _ _⟩
  · have hu : P.underlying t = some (.slice _) := hsh
    subst hg
    cases hx with
    | sl => refine ⟨_, ?_, .int .i64 (Int.ofNat _)⟩; simp [Builtin.len_, run_underlying hu, goInt]
    | sl0 => exact ⟨.int .i64 0, by simp [Builtin.len_, run_underlying hu, goInt], .int _ _⟩
  · have hu : P.underlying t = some (.map _ _) := hsh
    cases hx
    subst hg
    exact ⟨.int .i64 0, by simp [Builtin.len_, run_underlying hu, goInt], .int _ _⟩
  · have hu : P.underlying t = some (.map _ _) := hsh
    rename_i b
    cases hb : h.get b <;> rw [hb] at hg <;> simp only [Option.some.injEq, reduceCtorEq] at hg
    subst hg
    obtain ⟨r, z, hρ⟩ := hx.mapρ
    have hrep := hr.atρ hb rfl hρ
    obtain ⟨es, clock, e1, e2, _⟩ := hrep
    cases hx with
    | map _ r' z' hρ' =>
      rw [hρ] at hρ'; cases hρ'
      have hlen := e2.length
      refine ⟨.int .i64 (es.size : Int), by simp [Builtin.len_, run_underlying hu, goInt, getObj, Sem.run, e1], ?_⟩
      have : es.size = es.toList.length := by simp
      rw [this, hlen]
      exact .int _ _

theorem conc_ne {sh : Sh} (h : concSh sh = true) : sh ≠ .iface ∧ sh ≠ .other := by cases sh <;> simp [concSh] at h ⊢

theorem notIface_run {t : TypeId} {ti : TyI} (hty : TyOk P t ti) (h1 : ti.sh ≠ .iface) (h2 : ti.sh ≠ .other) : ∃ d, P.underlying t = some d ∧ ∀ ms, d ≠ .interface ms := by
  have hs := hty.sh
  cases hsh : ti.sh <;> rw [hsh] at hs <;> first
    | exact absurd hsh h1
    | exact absurd hsh h2
    | (obtain ⟨x, hu, _⟩ := hs; exact ⟨_, hu, by simp⟩)
    | (obtain ⟨x, y, z, hu⟩ := hs; exact ⟨_, hu, by simp⟩)
    | (have hu : P.underlying t = some _ := hs; exact ⟨_, hu, by simp⟩)

theorem assertG_ok (hc : Ctx P tt eqs) {t xt : TypeId} {x : G} {vx : Value} {ok : Bool} (hx : RepG ρ vx x) (h : assertG tt t x ok = some g) : ∃ v, (Instr.typeAssert vx xt t ok).run P w = .ok v w ∧ RepG ρ v g := by
  unfold assertG at h
  cases hl : lk tt t with
  | none => rw [hl] at h; cases h
  | some ti =>
  rw [hl] at h
  simp only at h
  cases hcs : concSh ti.sh with
  | false => rw [hcs] at h; cases h
  | true =>
  rw [hcs] at h
  have h : assert1 ti t x ok = some g := h
  obtain ⟨h1, h2⟩ := conc_ne hcs
  obtain ⟨d, hu, hd⟩ := notIface_run (hc.ty t ti hl) h1 h2
  have fails : zeroPair ti true = some g → ok = true → (∀ v, vx = .iface t v → False) → (vx = .nilIface ∨ ∃ u v, vx = .iface u v) → ∃ v, (Instr.typeAssert vx xt t ok).run P w = .ok v w ∧ RepG ρ v g := by
    rintro hz rfl hne hv
    obtain ⟨zv, z1, z2⟩ := zeroPair_ok (P := P) (w := w) (ρ := ρ) hc.ty hc.tz hl hz
    refine ⟨_, ?_, z2⟩
    rcases hv with rfl | ⟨u, v, rfl⟩
    · cases d <;> first
        | exact absurd rfl (hd _)
        | simp [Instr.typeAssert, run_underlying hu, z1]
    · have hut : ¬ u = t := fun e => hne v (by rw [e])
      cases d <;> first
        | exact absurd rfl (hd _)
        | simp [Instr.typeAssert, run_underlying hu, z1, hut]
  unfold assert1 at h
  cases x <;> simp only [reduceCtorEq] at h
  case nili =>
    cases hx
    cases ok <;> simp only [reduceCtorEq] at h
    exact fails h rfl (by simp) (.inl rfl)
  case if_ u g' _ =>
    cases hx with
    | if_ _ v _ hv =>
      cases hb : Nat.beq u t with
      | true =>
        rw [hb] at h
        cases h
        have := Nat.eq_of_beq_eq_true hb
        subst this
        refine ⟨_, ?_, pairG_rep hv ok⟩
        cases d <;> first
          | exact absurd rfl (hd _)
          | (simp [Instr.typeAssert, run_underlying hu])
      | false =>
        rw [hb] at h
        have hne : u ≠ t := fun e => by rw [e] at hb; simp at hb
        cases ok <;> simp only [reduceCtorEq] at h
        exact fails h rfl (fun v hv => by cases hv; exact hne rfl) (.inr ⟨_, _, rfl⟩)

theorem mkIfG_ok (hc : Ctx P tt eqs) {t : TypeId} {x : G} {vx : Value} (hx : RepG ρ vx x) (h : mkIfG tt t x = some g) : ∃ v, (Instr.makeInterface t vx).run P w = .ok v w ∧ RepG ρ v g := by
  unfold mkIfG at h
  cases hl : lk tt t with
  | none => rw [hl] at h; cases h
  | some ti =>
  rw [hl] at h
  simp only at h
  cases hcs : concSh ti.sh with
  | false => rw [hcs] at h; cases h
  | true =>
  rw [hcs] at h
  cases h
  obtain ⟨h1, h2⟩ := conc_ne hcs
  exact ⟨_, Hk.concrete_of_sh (hc.ty t ti hl) h1 h2 vx, .if_ _ _ _ hx⟩

theorem evAs_rep (hs : SRep ρ s a.tmps) : ∀ l : List Operand, RepGs ρ (l.map a.eval) (l.map (evA · s))
  | [] => .nil
  | x :: l => .mk (evA_rep hs x) (evAs_rep hs l)

end
end Go.Gx

namespace Go.Gx
open Go.Hk (TT TTok TyI Sh lk TyOk ShOk nth nth_eq)

section
variable {P : Program} {w : World} {tt : TT} {eqs : List Nat} {ρ : Rho} {B : Bl} {h : GH} {s : S} {a : Act} {g : G}

theorem build_ok (hc : Ctx P tt eqs) (hs : SRep ρ s a.tmps) {t : TypeId} {fs : List (Nat × TypeId)} {agg : Bool} {sz by_ : Nat} {z : List Hk.D} {ps : List (Nat × Operand)} {zs l : List G} (hl : lk tt t = some ⟨.struct fs, agg, sz, by_, z⟩)
    (hz : zsOf z = some zs) (hb : buildG tt fs s ps zs = some l) : ∃ v, (Instr.build t (ps.toArray.map fun p => (p.1, a.eval p.2))).run P w = .ok v w ∧ RepG ρ v (.agg l) := by
  obtain ⟨inf, zv, h1, _, _, h4, h5, h6⟩ := (hc.ty t _ hl).info
  have hzr := zsOf_rep (ρ := ρ) hz (h5 _ _)
  have hzrun : (zeroValue t).run P w = .ok zv w := by simp [zeroValue, typeInfo, h1, h4]
  obtain ⟨fields, hu, hmap, hpos⟩ : ∃ fields, P.underlying t = some (.struct fields) ∧ fields.toList.map (fun f => (f.offset, f.type)) = fs ∧ ∀ f ∈ fields.toList, 0 < P.cellsOf f.type := (hc.ty t _ hl).sh
  have hsz : ∀ f ∈ fields.toList, (do pure (f.offset, ← sizeOf f.type) : Sem (Nat × Nat)).run P w = .ok (f.offset, P.cellsOf f.type) w := fun f hf => by
    simp only [Sem.run_bind, Hk.sizeOf_of_pos (hpos f hf), Result.andThen_ok, Sem.run_pure]
  have hplaces := Hk.run_mapM_array (P := P) (w := w) (fun f : Field => (do pure (f.offset, ← sizeOf f.type) : Sem (Nat × Nat))) (fun f => (f.offset, P.cellsOf f.type)) fields hsz
  obtain ⟨us, u1, u2, u3⟩ := fill_ok (P := P) (place := fun i => (fields.map fun f => (f.offset, P.cellsOf f.type))[i]?) hs hc.ty (fun i off ft ti hn hti => by
    rw [nth_eq, ← hmap, List.getElem?_map, Option.map_eq_some_iff] at hn
    obtain ⟨f, hf, he⟩ := hn
    simp only [Prod.mk.injEq] at he
    have hf' : fields[i]? = some f := by rw [← Array.getElem?_toList]; exact hf
    simp only [Array.getElem?_map, hf', Option.map_some, he.1, he.2, (hc.ty ft ti hti).cellsOf]) ps zs l zv.cells.toList hb hzr h6
  refine ⟨.agg us.toArray, ?_, agg_rep u2 u3⟩
  simp only [Instr.build, Sem.run_bind, hzrun, Result.andThen_ok, run_underlying hu]
  refine (congrArg (Result.andThen · _) hplaces).trans ?_
  simp only [Result.andThen_ok]
  have : (ps.toArray.map fun p => (p.1, a.eval p.2)).toList = ps.map fun p => (p.1, a.eval p.2) := by simp
  rw [this]
  have u1' : Instr.fill (fun x => (fields.map fun f => (f.offset, P.cellsOf f.type))[x]?) zv.cells (ps.map fun p => (p.1, a.eval p.2)) = some us.toArray := by simpa using u1
  simp only [u1', Sem.run_pure]

theorem buildA_ok (hc : Ctx P tt eqs) (hs : SRep ρ s a.tmps) {t e : TypeId} {n : Nat} {agg : Bool} {sz by_ : Nat} {z : List Hk.D} {ps : List (Nat × Operand)} {zs l : List G} {i : TyI} (hl : lk tt t = some ⟨.arr n e, agg, sz, by_, z⟩)
    (hz : zsOf z = some zs) (hi : lk tt e = some i) (hpos : 0 < i.size) (hb : buildG tt (arrFs e i.size n 0) s ps zs = some l) : ∃ v, (Instr.build t (ps.toArray.map fun p => (p.1, a.eval p.2))).run P w = .ok v w ∧ RepG ρ v (.agg l) := by
  obtain ⟨inf, zv, h1, _, _, h4, h5, h6⟩ := (hc.ty t _ hl).info
  have hzr := zsOf_rep (ρ := ρ) hz (h5 _ _)
  have hzrun : (zeroValue t).run P w = .ok zv w := by simp [zeroValue, typeInfo, h1, h4]
  have hu : P.underlying t = some (.array n e) := (hc.ty t _ hl).sh
  have hce : P.cellsOf e = i.size := (hc.ty e i hi).cellsOf
  obtain ⟨us, u1, u2, u3⟩ := fill_ok (P := P) (place := fun k => some (k * i.size, i.size)) hs hc.ty (fun k off ft ti hn hti => by
    obtain ⟨q1, q2⟩ := arrFs_nth hn
    subst q2
    rw [hi] at hti; cases hti
    rw [q1, Nat.zero_add]) ps zs l zv.cells.toList hb hzr h6
  refine ⟨.agg us.toArray, ?_, agg_rep u2 u3⟩
  have hso := Hk.sizeOf_of_pos (P := P) (w := w) (t := e) (by rw [hce]; exact hpos)
  rw [hce] at hso
  simp only [Instr.build, Sem.run_bind, hzrun, Result.andThen_ok, run_underlying hu, hso]
  have : (ps.toArray.map fun p => (p.1, a.eval p.2)).toList = ps.map fun p => (p.1, a.eval p.2) := by simp
  rw [this]
  have u1' : Instr.fill (fun k => some (k * i.size, i.size)) zv.cells (ps.map fun p => (p.1, a.eval p.2)) = some us.toArray := by simpa using u1
  simp only [u1', Sem.run_pure]

theorem kEq_iff {k k' : IntKind} (h : kEq k k' = true) : k = k' := of_decide_eq_true h

theorem evQ_ok (hc : Ctx P tt eqs) (hr : HRep B ρ h w) (hs : SRep ρ s a.tmps) {o : Oper} (hg : evQ tt eqs o.op s h = some g) : Quiet P ρ w g ((execOp a.eval o).run P w) := by
  have hA := evA_rep hs
  unfold evQ at hg
  split at hg
  · rename_i x ho
    cases hg
    simp only [execOp, ho]
    exact ⟨_, rfl, hA x⟩
  · rename_i x ho
    cases hg
    simp only [execOp, ho]
    exact ⟨_, rfl, hA x⟩
  · rename_i c x y ho
    simp only [execOp, ho]
    have hcr := hA c
    split at hg
    · rename_i hb
      cases hg
      rw [hb] at hcr
      rw [hcr.boolInv]
      exact ⟨a.eval x, by simp [asBool], hA x⟩
    · rename_i hb
      cases hg
      rw [hb] at hcr
      rw [hcr.boolInv]
      exact ⟨a.eval y, by simp [asBool], hA y⟩
    · cases hg
  · rename_i x ho
    simp only [execOp, ho]
    have hxr := hA x
    generalize a.eval x = v at hxr
    split at hg <;> simp only [Option.some.injEq, reduceCtorEq] at hg
    all_goals
      rename_i hx
      rw [hx] at hxr
      subst hg
      have hk := hxr
      cases hxr
      exact ⟨_, rfl, hk⟩
  · rename_i op t x y yt ho
    simp only [execOp, ho]
    obtain ⟨v, hv, hr'⟩ := evBinA_ok (P := P) (w := w) (xo := x) hc (hA x) (hA y) hg
    exact quiet_of hv hr'
  · rename_i op t x ho
    simp only [execOp, ho]
    have hxr := hA x
    split at hg <;> simp only [Option.some.injEq, reduceCtorEq] at hg
    · rename_i hx
      rw [hx] at hxr
      subst hg
      rw [hxr.boolInv]
      exact quiet_of (v := .bool _) (by simp [Op.unary]) (.bool _)
    · rename_i hx
      rw [hx] at hxr
      subst hg
      rw [hxr.intInv, wrapF_eq]
      exact quiet_of (v := .int _ _) (by simp [Op.unary, Op.intArith]) (.int _ _)
  · rename_i t1 t2 x ho
    simp only [execOp, ho]
    have hxr := hA x
    split at hg
    · simp only [Option.some.injEq] at hg
      rename_i h1 h2 hx
      rw [hx] at hxr
      subst hg
      have u1 : P.underlying t1 = some (.int _) := (hc.ty t1 _ h1).sh
      have u2 : P.underlying t2 = some (.int _) := (hc.ty t2 _ h2).sh
      rw [hxr.intInv, wrapF_eq]
      exact quiet_of (v := .int _ _) (by simp [convert, run_underlying u1, run_underlying u2, Conv.intToInt]) (.int _ _)
    · rename_i h1 h2 hx
      rw [hx] at hxr
      split at hg
      · rename_i m
        split at hg
        · rename_i hm
          rw [Nat.blt_eq] at hm
          cases hg
          have u1 : P.underlying t1 = some (.int _) := (hc.ty t1 _ h1).sh
          have u2 : P.underlying t2 = some .string := (hc.ty t2 _ h2).sh
          rw [hxr.intInv]
          have henc : Utf8.encode (Int.ofNat m) = ⟨#[UInt8.ofNat m]⟩ := by
            have hv : Utf8.valid (m : Int) = true := by simp [Utf8.valid]; omega
            simp [Utf8.encode, hv, hm]
          exact quiet_of (v := .string (Utf8.encode (Int.ofNat m))) (by simp [convert, run_underlying u1, run_underlying u2, Conv.intToString]) (.str _ _ _ (by rw [henc]; rfl) (by rw [henc]; simp [pk]; omega))
        · cases hg
      · cases hg
    · cases hg
  · rename_i st x f ho
    simp only [execOp, ho]
    have hxr := hA x
    split at hg
    · rename_i b o' fs _ _ _ _ hx hl
      rw [hx] at hxr
      split at hg <;> simp only [Option.some.injEq, reduceCtorEq] at hg
      rename_i fo ft hn
      subst hg
      obtain ⟨r, z, e1, hρ⟩ := hxr.ptrInv
      rw [e1]
      exact quiet_of (Hk.fieldAt_ok (P := P) (w := w) (hc.ty st _ hl).sh hn r o') (.ptr _ r z _ hρ)
    · cases hg
  · rename_i t x ho
    simp only [execOp, ho]
    have hxr := hA x
    split at hg
    · rename_i b o' i hx hl
      rw [hx] at hxr
      split at hg
      · rename_i l hb
        obtain ⟨r, z, e1, hρ⟩ := hxr.ptrInv
        obtain ⟨vs, bt, q1, q2, q3, q4, q5⟩ := hr.atρ hb rfl hρ
        rw [e1]
        obtain ⟨v, hv, hr'⟩ := ldG_ok (P := P) (hc.ty t i hl) q1 (by omega) q4 q5 hg
        exact quiet_of hv hr'
      · cases hg
    · cases hg
  · rename_i t x f ho
    simp only [execOp, ho]
    have hxr := hA x
    split at hg
    · rename_i l fs _ _ _ _ hx hl
      rw [hx] at hxr
      split at hg
      · rename_i fo ft hn
        split at hg
        · rename_i i hi
          obtain ⟨cs, e1, r1, r2⟩ := hxr.aggInv
          obtain ⟨fields, hu, hmap, _⟩ : ∃ fields, P.underlying t = some (.struct fields) ∧ fields.toList.map (fun f => (f.offset, f.type)) = fs ∧ ∀ f ∈ fields.toList, 0 < P.cellsOf f.type := (hc.ty t _ hl).sh
          rw [nth_eq, ← hmap, List.getElem?_map, Option.map_eq_some_iff] at hn
          obtain ⟨fld, hfl, he⟩ := hn
          simp only [Prod.mk.injEq] at he
          have hfl' : fields[f]? = some fld := by rw [← Array.getElem?_toList]; exact hfl
          obtain ⟨v, hv, hr'⟩ := partG_ok (P := P) (w := w) (hc.ty ft i hi) r2 r1 hg
          rw [e1]
          refine quiet_of ?_ hr'
          simp only [Instr.field, Sem.run_bind, run_underlying hu, Result.andThen_ok, hfl', asAgg, Sem.run_pure, he.1, he.2, hv]
        · cases hg
      · cases hg
    · cases hg
  · rename_i x i ho
    simp only [execOp, ho]
    have hxr := hA x
    split at hg
    · rename_i l hx
      rw [hx] at hxr
      obtain ⟨cs, e1, r1⟩ := hxr.tupInv
      rw [gnth_eq] at hg
      have hlt := (List.getElem?_eq_some_iff.1 hg).1
      have hlen := r1.1
      have hv : cs.toList[i]? = some (cs.toList[i]'(by omega)) := List.getElem?_eq_getElem (by omega)
      have hv' : cs[i]? = some (cs.toList[i]'(by omega)) := by rw [← Array.getElem?_toList]; exact hv
      rw [e1]
      exact quiet_of (v := cs.toList[i]'(by omega)) (by simp only [Instr.extract, hv', Sem.run_pure]) (r1.2 i _ _ hv hg)
    · cases hg
  · rename_i t x y ho
    simp only [execOp, ho]
    obtain ⟨v, hv, hr'⟩ := indexG_ok (P := P) (w := w) hc (hA x) (hA y) hg
    exact quiet_of hv hr'
  · rename_i t x y ho
    simp only [execOp, ho]
    obtain ⟨v, hv, hr'⟩ := indexAddrG_ok (P := P) (w := w) hc (hA x) (hA y) hg
    exact quiet_of hv hr'
  · rename_i t x lo hi mx ho
    simp only [execOp, ho]
    obtain ⟨v, hv, hr'⟩ := sliceG_ok (P := P) (w := w) hc.ty hs (hA x) hg
    exact quiet_of hv hr'
  · rename_i t ps ho
    simp only [execOp, ho]
    split at hg
    · rename_i hl
      split at hg
      · rename_i zs hz
        split at hg
        · rename_i l hb
          cases hg
          obtain ⟨v, hv, hr'⟩ := build_ok (P := P) (w := w) hc hs hl hz hb
          exact quiet_of hv hr'
        · cases hg
      · cases hg
    · rename_i hl
      split at hg
      · rename_i zs i hz hi
        split at hg
        · rename_i l hpos hb
          cases hg
          rw [Nat.blt_eq] at hpos
          obtain ⟨v, hv, hr'⟩ := buildA_ok (P := P) (w := w) hc hs hl hz hi hpos hb
          exact quiet_of hv hr'
        · cases hg
      · cases hg
    · cases hg
  · rename_i t x ho
    simp only [execOp, ho]
    obtain ⟨v, hv, hr'⟩ := mkIfG_ok (P := P) (w := w) hc (hA x) hg
    exact quiet_of hv hr'
  · rename_i f xs ys ho
    cases hg
    simp only [execOp, ho]
    have r1 := evAs_rep hs xs
    have r2 := evAs_rep hs ys
    refine quiet_of (v := .func (.func f) (xs.map a.eval).toArray (ys.map a.eval).toArray) (by simp [Instr.makeFunc]) ?_
    exact .fn f _ _ _ _ (by simp) (by simp) (fun i v g p q => r1.2 i v g (by simpa using p) q) (fun i v g p q => r2.2 i v g (by simpa using p) q)
  · rename_i t m k ok ho
    simp only [execOp, ho]
    split at hg
    · rename_i kt et _ _ _ _ hl
      have hu : P.underlying t = some (.map kt et) := (hc.ty t _ hl).sh
      obtain ⟨v, hv, hr'⟩ := lookG_ok (P := P) hc.ty hc.tz hr hu (hA m) (hA k) hg
      exact quiet_of hv hr'
    · cases hg
  · rename_i x xt t ok ho
    simp only [execOp, ho]
    obtain ⟨v, hv, hr'⟩ := assertG_ok (P := P) (w := w) (xt := xt) hc (hA x) hg
    exact quiet_of hv hr'
  · rename_i x t ho
    simp only [execOp, ho]
    obtain ⟨v, hv, hr'⟩ := lenG_ok (P := P) hc hr (hA x) hg o.type
    exact ⟨v, by simp [resolve, invoke, builtin, hv], hr'⟩
  · rename_i x t ho
    simp only [execOp, ho]
    have hxr := hA x
    generalize hv : a.eval x = v at hxr
    split at hg <;> simp only [Option.some.injEq, reduceCtorEq] at hg
    · rename_i hx hl
      rw [hx] at hxr
      subst hg
      have hu : P.underlying t = some (.slice _) := (hc.ty t _ hl).sh
      cases hxr with
      | sl =>
        rename_i hex
        have hex : _ = _ := hex
        subst hex
        refine ⟨_, ?_, .int .i64 (Int.ofNat _)⟩
        simp [resolve, invoke, builtin, hv, Builtin.cap_, run_underlying hu, goInt]
      | sl0 => exact ⟨.int .i64 0, by simp [resolve, invoke, builtin, hv, Builtin.cap_, run_underlying hu, goInt], .int _ _⟩
    · rename_i hx hl
      rw [hx] at hxr
      subst hg
      have hu : P.underlying t = some (.slice _) := (hc.ty t _ hl).sh
      cases hxr
      exact ⟨.int .i64 0, by simp [resolve, invoke, builtin, hv, Builtin.cap_, run_underlying hu, goInt], .int _ _⟩
  · rename_i x y ts ho
    simp only [execOp, ho]
    have hxr := hA x
    have hyr := hA y
    split at hg
    · rename_i k p k' q hx hy
      split at hg <;> simp only [Option.some.injEq, reduceCtorEq] at hg
      rename_i hk
      have := kEq_iff hk
      subst this
      rw [hx] at hxr; rw [hy] at hyr
      subst hg
      refine ⟨.int k (if q > p then q else p), by simp [resolve, invoke, builtin, hxr.intInv, hyr.intInv, run_max_int2], ?_⟩
      rw [intLe_eq]
      by_cases hle : q ≤ p
      · have : ¬ q > p := by omega
        simp only [hle, decide_true, this, if_false]; exact .int _ _
      · have : q > p := by omega
        simp only [hle, decide_false, this, if_true]; exact .int _ _
    · cases hg
  · rename_i x y ts ho
    simp only [execOp, ho]
    have hxr := hA x
    have hyr := hA y
    split at hg
    · rename_i k p k' q hx hy
      split at hg <;> simp only [Option.some.injEq, reduceCtorEq] at hg
      rename_i hk
      have := kEq_iff hk
      subst this
      rw [hx] at hxr; rw [hy] at hyr
      subst hg
      refine ⟨.int k (if q < p then q else p), by simp [resolve, invoke, builtin, hxr.intInv, hyr.intInv, run_min_int2], ?_⟩
      rw [intLe_eq]
      by_cases hle : p ≤ q
      · have : ¬ q < p := by omega
        simp only [hle, decide_true, this, if_false]; exact .int _ _
      · have : q < p := by omega
        simp only [hle, decide_false, this, if_true]; exact .int _ _
    · cases hg
  · cases hg

end
end Go.Gx
