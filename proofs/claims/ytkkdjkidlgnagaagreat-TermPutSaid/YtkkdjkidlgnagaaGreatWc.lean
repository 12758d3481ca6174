/- Contracts of term and hearthref01: nodes and depth. (And what it stands on.) -/
import Derived.Test.YtkkdjkidlgnagaaGreatWb
import Derived.MapKept
import Derived.Test.YtkkdjkidlgnagaaGreatProg
import Derived.WalkKit
import Derived.RowKit3
import Derived.Laws.NewBlocks
import Derived.Defers
import Derived.Recover
import Derived.Sort.Walk0
set_option linter.unusedSimpArgs false
set_option linter.unusedVariables false

/- Contracts of term: the gauge. -/
namespace Go.Hk
open Go.Proofs

set_option maxRecDepth 100000 in
theorem want_ok (b : Bool) (h : b = true) : PureC Tryz.prog 103 [.bool b] (.tup []) := by subst h; exact want_yes
set_option maxRecDepth 100000 in
theorem want_pan (b : Bool) (h : b = false) : EffC Tryz.prog 103 [.imm (.bool b)] [] (.pan flawV) := by subst h; exact want_no

def gaugeB (a b : Int) : Blk := .immb 101 2 [.int .i64 a, .int .i64 b]

set_option maxRecDepth 100000 in
theorem spend_yes (n d x : Int) (h0 : 1 ≤ n) (h1 : n ≤ 4611686018427387904) (hx : x ≤ d) : EffC Tryz.prog 101 [.ref 1 0, .imm (.int .i64 x)] [(1, some (gaugeB n d))] (.ret (.imm (.tup [])) [(1, some (gaugeB (n - 1) d))]) := by
  have hw : IntKind.i64.wrap (n - 1) = n - 1 := w64 (by omega) (by omega)
  refine effc_of ttT_ok Tryz.func101 (by decide +kernel) rfl [2, 3] rfl rfl ?_
  refine tg [] rfl (by simp) ?_
  refine g_pcall rfl (fun _ => want_ok _ (by simp [hw]; omega)) (by simp) ?_
  refine tg [] rfl (by simp) ?_
  refine dgo_end ⟨_, rfl, rfl, ?_⟩
  simp only [hw]
  exact ⟨rfl, trivial⟩

set_option maxRecDepth 100000 in
theorem spend_no (n d x : Int) (h0 : -1 ≤ n) (h1 : n ≤ 4611686018427387904) (hx : n < 1 ∨ d < x) : EffC Tryz.prog 101 [.ref 1 0, .imm (.int .i64 x)] [(1, some (gaugeB n d))] (.pan flawV) := by
  have hw : IntKind.i64.wrap (n - 1) = n - 1 := w64 (by omega) (by omega)
  refine effc_of ttT_ok Tryz.func101 (by decide +kernel) rfl [2, 3] rfl rfl ?_
  refine tg [] rfl (by simp) ?_
  exact dgo_callpan [] rfl (by simp) (want_pan _ (by simp [hw]; omega)) trivial rfl rfl

theorem nodesTys_drop {ps : List Ty} {i : Nat} {t : Ty} (h : ps[i]? = some t) : nodesTys (ps.drop i) = nodesTy t + nodesTys (ps.drop (i + 1)) := by rw [get_drop h]; rfl

set_option maxRecDepth 100000 in
theorem gpat_yes : ∀ (t : Ty) (n : Int), (nodesTy t : Int) ≤ n → n ≤ 4611686018427387904 → EffC Tryz.prog 71 [.ref 1 0, .imm (.agg (dTyc t))] [(1, some (gaugeB n 0))] (.ret (.imm (.tup [])) [(1, some (gaugeB (n - nodesTy t) 0))])
  | .mk s m x ps, n, h0, h1 => by
    refine effC_ok 1 rfl fun hok => ?_
    have hv : ps.length ≤ 9223372036854775807 := by
      simp [vOkL, vOk, dTyc, maxLen] at hok
      have := hok.1
      omega
    refine effc_of ttT_ok Tryz.func71 (by decide +kernel) rfl [2, 3, 4] rfl rfl ?_
    have hN : (1 : Int) + nodesTys ps ≤ n := by simp only [nodesTy] at h0; omega
    refine tg [] rfl (by simp) ?_
    refine g_call (fr := []) [(1, 1)] [] rfl (by simp) (spend_yes n 0 0 (by omega) h1 (by decide)) ⟨⟨rfl, rfl, rfl⟩, trivial⟩ rfl rfl rfl rfl ?_
    refine tg [] rfl (by simp) ?_
    refine dgo_enter (fun i : Nat => [(11, .imm (.int .i64 i)), (10, .imm (.int .i64 ps.length)), (9, .imm (.sl (dTys ps))), (0, .ref 1 0)]) (fun i => [(1, some (gaugeB (n - 1 - nodesTys (ps.take i)) 0))]) [2, 3, 4] (fun i => ps.length - i)
      (fun i => i ≤ ps.length) 0 (Nat.zero_le _) ⟨rfl, tInt (by simp), rfl, rfl, trivial⟩ ⟨by simp [nodesTys]; rfl, trivial⟩ rfl fun i hi ih => ?_
    refine td [] rfl (by simp) ?_
    refine dgo_cond rfl (fun h => ?_) (fun h => ?_)
    · simp at h
      obtain ⟨t, ht⟩ := has_get h
      have hnt := nodesTys_get ht
      have hnd := nodesTys_drop ht
      have htk : (nodesTys (ps.take (i + 1)) : Int) = nodesTys (ps.take i) + nodesTy t := by rw [get_take ht, nodesTys_append]; simp [nodesTys]
      refine td [] rfl (by simp) ?_
      refine ti rfl (c := dTyc t) (fun _ => ⟨by simp, by simpa using dTys_get ht, by simp⟩) (by simp) ?_
      refine tg [] rfl (by simp) ?_
      refine g_call (fr := []) [(1, 1)] [] rfl (by simp) (gpat_yes t (n - 1 - nodesTys (ps.take i)) (by omega) (by omega)) ⟨⟨rfl, rfl, rfl⟩, trivial⟩ rfl rfl rfl rfl ?_
      refine tg [] rfl (by simp) ?_
      exact dgo_again (ih (i + 1) (by omega) (by omega)) ⟨tInt (w64 (by omega) (by omega)), rfl, rfl, rfl, trivial⟩ ⟨congrArg (fun z => gaugeB z 0) (by omega), trivial⟩ rfl
    · refine td [] rfl (by simp) ?_
      simp at h
      refine dgo_end ⟨_, rfl, rfl, ⟨?_, trivial⟩⟩
      rw [List.take_of_length_le (by omega)]
      simp only [nodesTy]
      exact congrArg (fun z => some (some (gaugeB z 0))) (by omega)
termination_by t => SizeOf.sizeOf t
decreasing_by
  all_goals
    have := List.sizeOf_lt_of_mem (List.mem_of_getElem? ht)
    simp_wf
    omega


set_option maxRecDepth 100000 in
theorem gpat_no : ∀ (t : Ty) (n : Int), n < nodesTy t → -1 ≤ n → n ≤ 4611686018427387904 → EffC Tryz.prog 71 [.ref 1 0, .imm (.agg (dTyc t))] [(1, some (gaugeB n 0))] (.pan flawV)
  | .mk s m x ps, n, h0, hm1, h1 => by
    refine effC_ok 1 rfl fun hok => ?_
    have hv : ps.length ≤ 9223372036854775807 := by
      simp [vOkL, vOk, dTyc, maxLen] at hok
      have := hok.1
      omega
    refine effc_of ttT_ok Tryz.func71 (by decide +kernel) rfl [2, 3, 4] rfl rfl ?_
    have hN : n < (1 : Int) + nodesTys ps := by simp only [nodesTy] at h0; omega
    refine tg [] rfl (by simp) ?_
    by_cases hn : n < 1
    · exact dgo_callpan [(1, 1)] rfl (by simp) (spend_no n 0 0 (by omega) h1 (.inl hn)) ⟨⟨rfl, rfl, rfl⟩, trivial⟩ rfl rfl
    refine g_call (fr := []) [(1, 1)] [] rfl (by simp) (spend_yes n 0 0 (by omega) h1 (by decide)) ⟨⟨rfl, rfl, rfl⟩, trivial⟩ rfl rfl rfl rfl ?_
    refine tg [] rfl (by simp) ?_
    refine dgo_enter (fun i : Nat => [(11, .imm (.int .i64 i)), (10, .imm (.int .i64 ps.length)), (9, .imm (.sl (dTys ps))), (0, .ref 1 0)]) (fun i => [(1, some (gaugeB (n - 1 - nodesTys (ps.take i)) 0))]) [2, 3, 4] (fun i => ps.length - i)
      (fun i => i ≤ ps.length ∧ (nodesTys (ps.take i) : Int) ≤ n - 1 ∧ n - 1 < nodesTys (ps.take i) + nodesTys (ps.drop i)) 0 ⟨Nat.zero_le _, by simp [nodesTys]; omega, by simp [nodesTys]; omega⟩ ⟨rfl, tInt (by simp), rfl, rfl, trivial⟩ ⟨by simp [nodesTys]; rfl, trivial⟩ rfl fun i hi ih => ?_
    refine td [] rfl (by simp) ?_
    refine dgo_cond rfl (fun h => ?_) (fun h => ?_)
    · simp at h
      obtain ⟨t, ht⟩ := has_get h
      have hnt := nodesTys_get ht
      have hnd := nodesTys_drop ht
      have htk : (nodesTys (ps.take (i + 1)) : Int) = nodesTys (ps.take i) + nodesTy t := by rw [get_take ht, nodesTys_append]; simp [nodesTys]
      refine td [] rfl (by simp) ?_
      refine ti rfl (c := dTyc t) (fun _ => ⟨by simp, by simpa using dTys_get ht, by simp⟩) (by simp) ?_
      refine tg [] rfl (by simp) ?_
      by_cases hle : (nodesTy t : Int) ≤ n - 1 - nodesTys (ps.take i)
      · refine g_call (fr := []) [(1, 1)] [] rfl (by simp) (gpat_yes t (n - 1 - nodesTys (ps.take i)) (by omega) (by omega)) ⟨⟨rfl, rfl, rfl⟩, trivial⟩ rfl rfl rfl rfl ?_
        refine tg [] rfl (by simp) ?_
        exact dgo_again (ih (i + 1) (by omega) ⟨by omega, by omega, by omega⟩) ⟨tInt (w64 (by omega) (by omega)), rfl, rfl, rfl, trivial⟩ ⟨congrArg (fun z => gaugeB z 0) (by omega), trivial⟩ rfl
      · exact dgo_callpan [(1, 1)] rfl (by simp) (gpat_no t (n - 1 - nodesTys (ps.take i)) (by omega) (by omega) (by omega)) ⟨⟨rfl, rfl, rfl⟩, trivial⟩ rfl rfl
    · exfalso
      simp at h
      have := hi.2
      rw [List.take_of_length_le (by omega), List.drop_eq_nil_of_le (by omega)] at this
      simp [nodesTys] at this
      omega
termination_by t => SizeOf.sizeOf t
decreasing_by
  all_goals
    have := List.sizeOf_lt_of_mem (List.mem_of_getElem? ht)
    simp_wf
    omega


theorem weighTms_neg : ∀ (ts : List Tm) (l d : Int), l < 0 → weighTms ts l d < 0
  | [], l, d, h => h
  | t :: r, l, d, h => by simp only [weighTms]; rw [if_neg (by omega)]; exact h

set_option maxRecDepth 100000 in
theorem gterm_yes : ∀ (t : Tm) (n dp x : Int), 0 ≤ n → n ≤ 4611686018427387904 → 0 ≤ dp → dp ≤ 1000000 → 0 ≤ x → x ≤ 1000001 → 0 ≤ weighTm t n (dp - x + 1) → EffC Tryz.prog 68 [.ref 1 0, .imm (.agg (dTmc t)), .imm (.int .i64 x)] [(1, some (gaugeB n dp))] (.ret (.imm (.tup [])) [(1, some (gaugeB (weighTm t n (dp - x + 1)) dp))])
  | .mk op nn tx ks ps, n, dp, x, h0, h1, hd0, hd1, hx0, hx1, hw => by
    refine effC_ok 1 rfl fun hok => ?_
    have hv : ks.length ≤ 9223372036854775807 := by
      simp [vOkL, vOk, dTmc, maxLen] at hok
      have := hok.1
      omega
    refine effc_of ttT_ok Tryz.func68 (by decide +kernel) rfl [2, 3, 4] rfl rfl ?_
    have hst : ¬ (n < 1 ∨ dp - x + 1 < 1) → weighTm (.mk op nn tx ks ps) n (dp - x + 1) = weighTms ks (n - 1) (dp - x) := fun h => by
      simp only [weighTm]; rw [if_neg h]; congr 1; omega
    refine tg [] rfl (by simp) ?_
    by_cases hs : n < 1 ∨ dp - x + 1 < 1
    · exfalso
      simp only [weighTm] at hw
      rw [if_pos hs] at hw
      omega
    have hs' : 1 ≤ n ∧ x ≤ dp := by omega
    refine g_call (fr := []) [(1, 1)] [] rfl (by simp) (spend_yes n dp x (by omega) h1 (by omega)) ⟨⟨rfl, rfl, rfl⟩, trivial⟩ rfl rfl rfl rfl ?_
    refine tg [] rfl (by simp) ?_
    refine dgo_enter (fun y : Nat × Int => [(14, .imm (.int .i64 y.1)), (13, .imm (.int .i64 ks.length)), (12, .imm (.sl (dTms ks))), (0, .ref 1 0), (2, .imm (.int .i64 x))]) (fun y => [(1, some (gaugeB y.2 dp))]) [2, 3, 4] (fun y => ks.length - y.1)
      (fun y => y.1 ≤ ks.length ∧ weighTm (.mk op nn tx ks ps) n (dp - x + 1) = weighTms (ks.drop y.1) y.2 (dp - x) ∧ 0 ≤ y.2 ∧ y.2 ≤ n) (0, n - 1) ⟨Nat.zero_le _, by simp only [List.drop_zero]; exact hst hs, by simp only; omega, by simp only; omega⟩ ⟨rfl, tInt (by simp), rfl, rfl, rfl, trivial⟩ ⟨rfl, trivial⟩ rfl fun y hi ih => ?_
    obtain ⟨i, m⟩ := y
    obtain ⟨hi1, hi2, hi3, hi4⟩ := hi
    simp only at hi1 hi2 hi3 hi4
    refine td [] rfl (by simp) ?_
    refine dgo_cond rfl (fun h => ?_) (fun h => ?_)
    · simp at h
      obtain ⟨t, ht⟩ := has_get h
      rw [get_drop ht] at hi2
      simp only [weighTms] at hi2
      rw [if_pos hi3] at hi2
      have hb := weighTm_le t m (dp - x)
      have hx : IntKind.i64.wrap (x + 1) = x + 1 := w64 (by omega) (by omega)
      refine td [] rfl (by simp) ?_
      refine ti rfl (c := dTmc t) (fun _ => ⟨by simp, by simpa using dTms_get ht, by simp⟩) (by simp) ?_
      refine tg [] rfl (by simp) ?_
      have hdx : dp - (x + 1) + 1 = dp - x := by omega
      have hz : 0 ≤ weighTm t m (dp - x) := by
        rw [hi2] at hw
        rcases Int.lt_or_le (weighTm t m (dp - x)) 0 with hl | hl
        · exfalso
          have := weighTms_neg (ks.drop (i + 1)) (weighTm t m (dp - x)) (dp - x) hl
          omega
        · exact hl
      refine g_call (fr := []) [(1, 1)] [] rfl (by simp) (gterm_yes t m dp (IntKind.i64.wrap (x + 1)) hi3 (by omega) hd0 hd1 (by omega) (by omega) (by rw [hx, hdx]; exact hz)) ⟨⟨rfl, rfl, rfl⟩, trivial⟩ rfl rfl rfl rfl ?_
      refine tg [] rfl (by simp) ?_
      exact dgo_again (ih (i + 1, weighTm t m (dp - x)) (by simp only; omega) ⟨by simp only; omega, hi2, by simp only; exact hz, by simp only; omega⟩) ⟨tInt (w64 (by omega) (by omega)), rfl, rfl, rfl, rfl, trivial⟩ ⟨congrArg (fun z => gaugeB z dp) (by simp only [hx, hdx]), trivial⟩ rfl
    · refine td [] rfl (by simp) ?_
      simp at h
      refine dgo_end ⟨_, rfl, rfl, ⟨?_, trivial⟩⟩
      rw [List.drop_eq_nil_of_le (by omega)] at hi2
      simp only [weighTms] at hi2
      rw [hi2]
      rfl
termination_by t => SizeOf.sizeOf t
decreasing_by
  all_goals
    have := List.sizeOf_lt_of_mem (List.mem_of_getElem? ht)
    simp_wf
    omega

set_option maxRecDepth 100000 in
theorem gterm_no : ∀ (t : Tm) (n dp x : Int), 0 ≤ n → n ≤ 4611686018427387904 → 0 ≤ dp → dp ≤ 1000000 → 0 ≤ x → x ≤ 1000001 → weighTm t n (dp - x + 1) < 0 → EffC Tryz.prog 68 [.ref 1 0, .imm (.agg (dTmc t)), .imm (.int .i64 x)] [(1, some (gaugeB n dp))] (.pan flawV)
  | .mk op nn tx ks ps, n, dp, x, h0, h1, hd0, hd1, hx0, hx1, hw => by
    refine effC_ok 1 rfl fun hok => ?_
    have hv : ks.length ≤ 9223372036854775807 := by
      simp [vOkL, vOk, dTmc, maxLen] at hok
      have := hok.1
      omega
    refine effc_of ttT_ok Tryz.func68 (by decide +kernel) rfl [2, 3, 4] rfl rfl ?_
    have hst : ¬ (n < 1 ∨ dp - x + 1 < 1) → weighTm (.mk op nn tx ks ps) n (dp - x + 1) = weighTms ks (n - 1) (dp - x) := fun h => by
      simp only [weighTm]; rw [if_neg h]; congr 1; omega
    refine tg [] rfl (by simp) ?_
    by_cases hs : n < 1 ∨ dp - x + 1 < 1
    · exact dgo_callpan [(1, 1)] rfl (by simp) (spend_no n dp x (by omega) h1 (by omega)) ⟨⟨rfl, rfl, rfl⟩, trivial⟩ rfl rfl
    have hs' : 1 ≤ n ∧ x ≤ dp := by omega
    refine g_call (fr := []) [(1, 1)] [] rfl (by simp) (spend_yes n dp x (by omega) h1 (by omega)) ⟨⟨rfl, rfl, rfl⟩, trivial⟩ rfl rfl rfl rfl ?_
    refine tg [] rfl (by simp) ?_
    refine dgo_enter (fun y : Nat × Int => [(14, .imm (.int .i64 y.1)), (13, .imm (.int .i64 ks.length)), (12, .imm (.sl (dTms ks))), (0, .ref 1 0), (2, .imm (.int .i64 x))]) (fun y => [(1, some (gaugeB y.2 dp))]) [2, 3, 4] (fun y => ks.length - y.1)
      (fun y => y.1 ≤ ks.length ∧ weighTm (.mk op nn tx ks ps) n (dp - x + 1) = weighTms (ks.drop y.1) y.2 (dp - x) ∧ 0 ≤ y.2 ∧ y.2 ≤ n) (0, n - 1) ⟨Nat.zero_le _, by simp only [List.drop_zero]; exact hst hs, by simp only; omega, by simp only; omega⟩ ⟨rfl, tInt (by simp), rfl, rfl, rfl, trivial⟩ ⟨rfl, trivial⟩ rfl fun y hi ih => ?_
    obtain ⟨i, m⟩ := y
    obtain ⟨hi1, hi2, hi3, hi4⟩ := hi
    simp only at hi1 hi2 hi3 hi4
    refine td [] rfl (by simp) ?_
    refine dgo_cond rfl (fun h => ?_) (fun h => ?_)
    · simp at h
      obtain ⟨t, ht⟩ := has_get h
      rw [get_drop ht] at hi2
      simp only [weighTms] at hi2
      rw [if_pos hi3] at hi2
      have hb := weighTm_le t m (dp - x)
      have hx : IntKind.i64.wrap (x + 1) = x + 1 := w64 (by omega) (by omega)
      refine td [] rfl (by simp) ?_
      refine ti rfl (c := dTmc t) (fun _ => ⟨by simp, by simpa using dTms_get ht, by simp⟩) (by simp) ?_
      refine tg [] rfl (by simp) ?_
      have hdx : dp - (x + 1) + 1 = dp - x := by omega
      by_cases hz : 0 ≤ weighTm t m (dp - x)
      · refine g_call (fr := []) [(1, 1)] [] rfl (by simp) (gterm_yes t m dp (IntKind.i64.wrap (x + 1)) hi3 (by omega) hd0 hd1 (by omega) (by omega) (by rw [hx, hdx]; exact hz)) ⟨⟨rfl, rfl, rfl⟩, trivial⟩ rfl rfl rfl rfl ?_
        refine tg [] rfl (by simp) ?_
        exact dgo_again (ih (i + 1, weighTm t m (dp - x)) (by simp only; omega) ⟨by simp only; omega, hi2, by simp only; exact hz, by simp only; omega⟩) ⟨tInt (w64 (by omega) (by omega)), rfl, rfl, rfl, rfl, trivial⟩ ⟨congrArg (fun z => gaugeB z dp) (by simp only [hx, hdx]), trivial⟩ rfl
      · exact dgo_callpan [(1, 1)] rfl (by simp) (gterm_no t m dp (IntKind.i64.wrap (x + 1)) hi3 (by omega) hd0 hd1 (by omega) (by omega) (by rw [hx, hdx]; omega)) ⟨⟨rfl, rfl, rfl⟩, trivial⟩ rfl rfl
    · exfalso
      simp at h
      rw [List.drop_eq_nil_of_le (by omega)] at hi2
      simp only [weighTms] at hi2
      omega
termination_by t => SizeOf.sizeOf t
decreasing_by
  all_goals
    have := List.sizeOf_lt_of_mem (List.mem_of_getElem? ht)
    simp_wf
    omega

end Go.Hk

/- Strings that are gone through, rune by rune; maps that are owned. -/
namespace Go.Hk

structure PRng where
  s : List UInt8
  id' : Nat
  ids' : List Nat
  dst : Option Nat
  todo : List DI

/-- A string is gone through: the iterator. -/
def prng (tt : TT) (n : Nat) (env : Env) (ids : List Nat) (todo : List DI) : Option PRng :=
  match opAt todo, ids with
  | some o, id' :: ids' => match o.guard, o.op with
    | none, .range t x => match lk tt t, evO env x, dstOk n o.dst, next1 todo ([], [id']) with
      | some { sh := .str, .. }, some (.imm (.str s)), true, some (_, _, todo') => some ⟨s, id', ids', o.dst, todo'⟩
      | _, _, _, _ => none
    | _, _ => none
  | _, _ => none

structure PNxt where
  s : List UInt8
  pos : Nat
  id : Nat
  dst : Option Nat
  todo : List DI

def pnxt (n : Nat) (env : Env) (st : St) (wr : Bool) (todo : List DI) : Option PNxt :=
  match opAt todo with
  | some o => match o.guard, o.op with
    | none, .next x true => match evO env x, dstOk n o.dst with
      | some (.iter id), true => match lk st id, next1 todo ([id], bif wr then [id] else []) with
        | some (some (.siter s pos)), some (_, _, todo') => some ⟨s, pos, id, o.dst, todo'⟩
        | _, _ => none
      | _, _ => none
    | _, _ => none
  | none => none

def decodeL (s : List UInt8) (pos : Nat) : Nat × Nat := Utf8.decode ⟨s.toArray⟩ pos

section
variable {P : Program} {n : Nat} {F : List Nat} {Q : DQ} {tt : TT} {env env' : Env} {st st' : St} {ids ids' : List Nat} {k todo todo' : List DI} {I : Imm} {μ : Mu} {w : World} {a : Act} {Pn : V → Prop} {d : D} {cx : Prop} {ob : List Prop}

theorem ok_of_sem' {s : Sem Value} {v : Value} {w' : World} (h : s.run P w = .ok v w') : (do pure (.value (← s)) : Sem Next).run P w = .ok (.value v) w' := by simp [h]

theorem RepD.iterInv {v : Value} {id : Nat} (h : RepD I μ v (.iter id)) : ∃ b, v = .pointer (some ⟨b, 0, none⟩) ∧ μ id = some v := by
  cases h with
  | iter _ b h => exact ⟨b, rfl, h⟩

theorem g_srange (htt : TTok P tt) {s0 : List UInt8} {i0 : Nat} {ids0 : List Nat} {d0 : Option Nat} {todo0 : List DI} (h : prng tt n env ids todo = some ⟨s0, i0, ids0, d0, todo0⟩) (hk : G P n F Q todo0 (putE d0 (.iter i0) env) ((i0, some (.siter s0 0)) :: st) ids0) : G P n F Q todo env st ids := by
  unfold prng at h
  split at h
  · rename_i o id' ids' ho
    split at h
    · rename_i t x hg hop
      split at h
      · rename_i _ _ _ _ s all o' todo' ht hx hd h1
        cases h
        have ho' : o' = o := opAt_next ho h1
        subst ho'
        refine g_step (fr := [i0]) (wr := [(i0, some (.siter s0 0))]) (rd := []) h1 ?_ hd (fun c hc => by rw [hop] at hc; cases hc) hk
        intro I μ st1 ids1 a w hag hst hon
        refine ⟨fun _ => ?_, fun hw => by rw [wanted_none hg] at hw; cases hw⟩
        have hops := opsOn_of hon
        rw [hop] at hops
        obtain ⟨bs, e1, e2⟩ := (hops x (by simp [Op.operands]) _ hx).immInv.strInv
        have hu : P.underlying t = some .string := htt.sh ht
        have hrun : (execOp a.eval o').run P w = .ok (.value (.pointer (some ⟨w.heap.size, 0, none⟩))) (w.alloc (.stringIter bs 0)) := by
          simp only [execOp, hop, e1]
          refine ok_of_sem' ?_
          simp only [Instr.range, Sem.run_bind, run_underlying hu, Result.andThen_ok, Sem.run_pure, run_newObj]
          rfl
        rw [hrun]
        obtain ⟨μ', q1, q2, q3, q4⟩ := hst.allocO (.stringIter bs 0) (.pointer (some ⟨w.heap.size, 0, none⟩)) (fun _ h => Eq.symm h) (.siter s0 0) (fun μ' _ => ⟨w.heap.size, bs, rfl, heapNew w _, e2⟩)
        exact ⟨I, μ', q3, .iter _ _ q1, q2, q4⟩
      · cases h
    · cases h
  · cases h

theorem siter_run {id pos : Nat} {s : List UInt8} {v : Value} (hst : StRep I μ st ids w) (hl : live st id (.siter s pos)) (hv : RepD I μ v (.iter id)) :
    ∃ b, v = .pointer (some ⟨b, 0, none⟩) ∧ μ id = some v ∧ w.heap[b]? = some (.stringIter ⟨s.toArray⟩ pos) := by
  obtain ⟨b, rfl, hm⟩ := hv.iterInv
  obtain ⟨g, hg, b', bs, rfl, hheap, hs⟩ := hst.blk id _ hl
  rw [hm] at hg; cases hg
  refine ⟨b, rfl, hm, ?_⟩
  rw [hheap, ← hs]

theorem g_snext {s0 : List UInt8} {p0 i0 : Nat} {d0 : Option Nat} {todo0 : List DI} (h : pnxt n env st true todo = some ⟨s0, p0, i0, d0, todo0⟩) (hp : p0 < s0.length) {dc : Nat × Nat} (hdc : decodeL s0 p0 = dc)
    (hk : G P n F Q todo0 (putE d0 (.imm (.tup [.bool true, .int .i64 p0, .int .i32 dc.1])) env) ((i0, some (.siter s0 (p0 + dc.2))) :: st) ids) : G P n F Q todo env st ids := by
  subst hdc
  unfold pnxt at h
  split at h
  · rename_i o ho
    split at h
    · rename_i x hg hop
      split at h
      · rename_i id hx hd
        split at h
        · rename_i s pos all o' todo' hl h1
          cases h
          have ho' : o' = o := opAt_next ho h1
          subst ho'
          refine g_step (fr := []) (wr := [(i0, some (.siter s0 (p0 + (decodeL s0 p0).2)))]) (rd := [i0]) h1 ?_ hd (fun c hc => by rw [hop] at hc; cases hc) hk
          intro I μ st1 ids1 a w hag hst hon
          refine ⟨fun _ => ?_, fun hw => by rw [wanted_none hg] at hw; cases hw⟩
          have hops := opsOn_of hon
          rw [hop] at hops
          have hl1 : live st1 i0 (.siter s0 p0) := by unfold live; rw [hag i0 (by simp)]; exact hl
          obtain ⟨b, e1, hm, hheap⟩ := siter_run hst hl1 (hops x (by simp [Op.operands]) _ hx)
          have hget : (getObj b).run P w = .ok (.stringIter ⟨s0.toArray⟩ p0) w := by simp [getObj, Sem.run, hheap]
          have hset : (setObj b (.stringIter ⟨s0.toArray⟩ (p0 + (decodeL s0 p0).2))).run P w = .ok () { w with heap := w.heap.setIfInBounds b (.stringIter ⟨s0.toArray⟩ (p0 + (decodeL s0 p0).2)) } := by simp [setObj, Sem.run, hheap]
          have hlt : p0 < (ByteArray.mk s0.toArray).size := by simpa [ByteArray.size] using hp
          have hrun : (execOp a.eval o').run P w = .ok (.value (.tuple #[.bool true, .int .i64 p0, .int .i32 (decodeL s0 p0).1])) { w with heap := w.heap.setIfInBounds b (.stringIter ⟨s0.toArray⟩ (p0 + (decodeL s0 p0).2)) } := by
            simp only [execOp, hop, e1]
            refine ok_of_sem' ?_
            simp only [Instr.next, Sem.run_bind, hget, Result.andThen_ok, if_pos hlt]
            have : (setObj b (.stringIter ⟨s0.toArray⟩ (p0 + (Utf8.decode ⟨s0.toArray⟩ p0).2))).run P w = _ := hset
            simp only [Sem.run_bind, this, Result.andThen_ok, Sem.run_pure]
            rfl
          rw [hrun]
          have hbl := lt_of_heap hheap
          obtain ⟨q1, q2⟩ := hst.update (blk' := .siter s0 (p0 + (decodeL s0 p0).2)) (w' := { w with heap := w.heap.setIfInBounds b (.stringIter ⟨s0.toArray⟩ (p0 + (decodeL s0 p0).2)) }) hl1 hm (by rw [e1]; rfl) (by simp) rfl rfl rfl
            (fun k hk => Array.getElem?_setIfInBounds_ne (Ne.symm hk)) ⟨b, ⟨s0.toArray⟩, e1, by simp [hbl], rfl⟩
          refine ⟨I, μ, q1, .imm _ _ (.tup _ _ rfl fun i c x hc hx => ?_), Mu.le_refl μ, q2⟩
          match i, hc, hx with
          | 0, hc, hx => cases hc; cases hx; exact .bool _
          | 1, hc, hx => cases hc; cases hx; exact .int _ _
          | 2, hc, hx => cases hc; cases hx; exact .int _ _
          | i + 3, hc, hx => simp at hx
        · cases h
      · cases h
    · cases h
  · cases h

theorem g_sover {s0 : List UInt8} {p0 i0 : Nat} {d0 : Option Nat} {todo0 : List DI} (h : pnxt n env st false todo = some ⟨s0, p0, i0, d0, todo0⟩) (hp : s0.length ≤ p0)
    (hk : G P n F Q todo0 (putE d0 (.imm (.tup [.bool false])) env) st ids) : G P n F Q todo env st ids := by
  unfold pnxt at h
  split at h
  · rename_i o ho
    split at h
    · rename_i x hg hop
      split at h
      · rename_i id hx hd
        split at h
        · rename_i s pos all o' todo' hl h1
          cases h
          have ho' : o' = o := opAt_next ho h1
          subst ho'
          refine g_step (fr := []) (wr := []) (rd := [i0]) h1 ?_ hd (fun c hc => by rw [hop] at hc; cases hc) hk
          intro I μ st1 ids1 a w hag hst hon
          refine ⟨fun _ => ?_, fun hw => by rw [wanted_none hg] at hw; cases hw⟩
          have hops := opsOn_of hon
          rw [hop] at hops
          have hl1 : live st1 i0 (.siter s0 p0) := by unfold live; rw [hag i0 (by simp)]; exact hl
          obtain ⟨b, e1, hm, hheap⟩ := siter_run hst hl1 (hops x (by simp [Op.operands]) _ hx)
          have hget : (getObj b).run P w = .ok (.stringIter ⟨s0.toArray⟩ p0) w := by simp [getObj, Sem.run, hheap]
          have hlt : ¬ p0 < (ByteArray.mk s0.toArray).size := by simpa [ByteArray.size] using hp
          have hrun : (execOp a.eval o').run P w = .ok (.value (.tuple #[.bool false])) w := by
            simp only [execOp, hop, e1]
            refine ok_of_sem' ?_
            simp only [Instr.next, Sem.run_bind, hget, Result.andThen_ok, if_neg hlt, Sem.run_pure]
          rw [hrun]
          refine ⟨I, μ, hst, .imm _ _ (.tup _ _ rfl fun i c x hc hx => ?_), Mu.le_refl μ, Ext.refl _ _ _ _⟩
          match i, hc, hx with
          | 0, hc, hx => cases hc; cases hx; exact .bool _
          | i + 1, hc, hx => simp at hx
        · cases h
      · cases h
    · cases h
  · cases h

end
end Go.Hk

/- Contracts of term: names. -/
namespace Go.Hk
open Go.Proofs

theorem decode_low {s : Str} {pos : Nat} {c : UInt8} (h : s[pos]? = some c) (hc : c.toNat < 128) : decodeL s pos = (c.toNat, 1) := by
  have hg : (ByteArray.mk s.toArray).get! pos = c := by simp [ByteArray.get!, h]
  simp only [decodeL, Utf8.decode, Nat.add_zero, hg]
  rw [if_pos hc]

theorem decode_high {s : Str} {pos : Nat} {c : UInt8} (h : s[pos]? = some c) (hc : 128 ≤ c.toNat) : 128 ≤ (decodeL s pos).1 := by
  have hg : (ByteArray.mk s.toArray).get! pos = c := by simp [ByteArray.get!, h]
  simp only [decodeL, Utf8.decode, Nat.add_zero, hg, Utf8.runeError]
  rw [if_neg (by omega)]
  repeat' split
  all_goals first | (simp only; omega) | decide | (simp only [Bool.and_eq_true, decide_eq_true_eq] at *; omega)

set_option maxRecDepth 100000 in
theorem tsmall_ok (s : Str) : PureC Tryz.prog 84 [.str s] (.bool (smallS s)) := by
  refine effc_of ttT_ok Tryz.func84 (by decide +kernel) rfl [1, 2] rfl rfl ?_
  refine tg [] rfl (by simp) ?_
  refine g_srange ttT_ok rfl ?_
  refine tg [] rfl (by simp) ?_
  refine dgo_enter (fun i : Nat => [(6, .iter 1)]) (fun i => [(1, some (.siter s i))]) [2] (fun i => s.length - i) (fun i => i ≤ s.length ∧ smallS s = smallS (s.drop i)) 0
    ⟨Nat.zero_le _, rfl⟩ ⟨rfl, trivial⟩ ⟨rfl, trivial⟩ rfl fun i hi ih => ?_
  refine td [] rfl (by simp) ?_
  by_cases hl : i < s.length
  · obtain ⟨c, hc⟩ := has_get hl
    have e := hi.2
    rw [smallS_drop hc] at e
    by_cases hlow : c.toNat < 128
    · refine g_snext rfl hl (decode_low hc hlow) ?_
      refine tg [.a] rfl (by simp) ?_
      refine dgo_cond rfl (fun h => ?_) (fun h => ?_)
      · refine td [] rfl (by simp) ?_
        refine dgo_ret ⟨_, rfl, tV (congrArg _ ?_), trivial⟩
        rw [e]; simp at h; simp [UInt8.le_iff_toNat_le]; omega
      · refine td [] rfl (by simp) ?_
        refine dgo_again (ih (i + 1) (by omega) ⟨by omega, ?_⟩) ⟨rfl, trivial⟩ ⟨rfl, trivial⟩ rfl
        rw [e]; simp at h; simp [UInt8.le_iff_toNat_le]; omega
    · refine g_snext (dc := decodeL s i) rfl hl rfl ?_
      have hh := decode_high hc (by omega)
      refine tg [.a] rfl (by simp) ?_
      refine dgo_cond rfl (fun h => ?_) (fun h => ?_)
      · refine td [] rfl (by simp) ?_
        refine dgo_ret ⟨_, rfl, tV (congrArg _ ?_), trivial⟩
        rw [e]; simp [UInt8.le_iff_toNat_le]; omega
      · exfalso
        simp at h
        omega
  · refine g_sover rfl (by omega) ?_
    refine tg [.a] rfl (by simp) ?_
    refine dgo_ret ⟨_, rfl, tV (congrArg _ ?_), trivial⟩
    rw [hi.2, List.drop_eq_nil_of_le (by omega)]; rfl

set_option maxRecDepth 100000 in
theorem keyword_no (s : Str) (h : keyS s = false) : PureC Tryz.prog 85 [.str s] (.bool false) := by
  simp only [keyS, keywordsL, hasS, Bool.or_eq_false_iff] at h
  refine effc_of ttT_ok Tryz.func85 (by decide +kernel) rfl [1, 2] rfl rfl ?_
  refine tg [.f, .f, .f, .f, .f, .f, .f, .f, .f, .f, .f, .f, .f, .f, .f, .f, .f, .f, .f, .f, .f, .f, .f, .f, .f, .f, .f, .f, .f] rfl (by simp at h; simp; grind) ?_
  exact dgo_ret ⟨_, rfl, tV rfl, trivial⟩

set_option maxRecDepth 100000 in
theorem keyword_0 : PureC Tryz.prog 85 [.str [98, 111, 111, 108]] (.bool true) := by
  refine effc_of ttT_ok Tryz.func85 (by decide +kernel) rfl [1, 2] rfl rfl ?_
  refine tg [.a, .a] rfl (by simp) ?_
  exact dgo_ret ⟨_, rfl, tV rfl, trivial⟩

set_option maxRecDepth 100000 in
theorem keyword_1 : PureC Tryz.prog 85 [.str [99, 101, 108, 108]] (.bool true) := by
  refine effc_of ttT_ok Tryz.func85 (by decide +kernel) rfl [1, 2] rfl rfl ?_
  refine tg [.a, .a, .a] rfl (by simp) ?_
  exact dgo_ret ⟨_, rfl, tV rfl, trivial⟩

set_option maxRecDepth 100000 in
theorem keyword_2 : PureC Tryz.prog 85 [.str [99, 104, 97, 110]] (.bool true) := by
  refine effc_of ttT_ok Tryz.func85 (by decide +kernel) rfl [1, 2] rfl rfl ?_
  refine tg [.a, .a, .a, .a] rfl (by simp) ?_
  exact dgo_ret ⟨_, rfl, tV rfl, trivial⟩

set_option maxRecDepth 100000 in
theorem keyword_3 : PureC Tryz.prog 85 [.str [101, 108, 115, 101]] (.bool true) := by
  refine effc_of ttT_ok Tryz.func85 (by decide +kernel) rfl [1, 2] rfl rfl ?_
  refine tg [.a, .a, .a, .a, .a] rfl (by simp) ?_
  exact dgo_ret ⟨_, rfl, tV rfl, trivial⟩

set_option maxRecDepth 100000 in
theorem keyword_4 : PureC Tryz.prog 85 [.str [102, 97, 108, 115, 101]] (.bool true) := by
  refine effc_of ttT_ok Tryz.func85 (by decide +kernel) rfl [1, 2] rfl rfl ?_
  refine tg [.a, .a, .a, .a, .a, .a] rfl (by simp) ?_
  exact dgo_ret ⟨_, rfl, tV rfl, trivial⟩

set_option maxRecDepth 100000 in
theorem keyword_5 : PureC Tryz.prog 85 [.str [102, 117, 110]] (.bool true) := by
  refine effc_of ttT_ok Tryz.func85 (by decide +kernel) rfl [1, 2] rfl rfl ?_
  refine tg [.a, .a, .a, .a, .a, .a, .a] rfl (by simp) ?_
  exact dgo_ret ⟨_, rfl, tV rfl, trivial⟩

set_option maxRecDepth 100000 in
theorem keyword_6 : PureC Tryz.prog 85 [.str [103, 101, 116]] (.bool true) := by
  refine effc_of ttT_ok Tryz.func85 (by decide +kernel) rfl [1, 2] rfl rfl ?_
  refine tg [.a, .a, .a, .a, .a, .a, .a, .a] rfl (by simp) ?_
  exact dgo_ret ⟨_, rfl, tV rfl, trivial⟩

set_option maxRecDepth 100000 in
theorem keyword_7 : PureC Tryz.prog 85 [.str [105, 102]] (.bool true) := by
  refine effc_of ttT_ok Tryz.func85 (by decide +kernel) rfl [1, 2] rfl rfl ?_
  refine tg [.a, .a, .a, .a, .a, .a, .a, .a, .a] rfl (by simp) ?_
  exact dgo_ret ⟨_, rfl, tV rfl, trivial⟩

set_option maxRecDepth 100000 in
theorem keyword_8 : PureC Tryz.prog 85 [.str [105, 110]] (.bool true) := by
  refine effc_of ttT_ok Tryz.func85 (by decide +kernel) rfl [1, 2] rfl rfl ?_
  refine tg [.a, .a, .a, .a, .a, .a, .a, .a, .a, .a] rfl (by simp) ?_
  exact dgo_ret ⟨_, rfl, tV rfl, trivial⟩

set_option maxRecDepth 100000 in
theorem keyword_9 : PureC Tryz.prog 85 [.str [105, 110, 112, 117, 116]] (.bool true) := by
  refine effc_of ttT_ok Tryz.func85 (by decide +kernel) rfl [1, 2] rfl rfl ?_
  refine tg [.a, .a, .a, .a, .a, .a, .a, .a, .a, .a, .a] rfl (by simp) ?_
  exact dgo_ret ⟨_, rfl, tV rfl, trivial⟩

set_option maxRecDepth 100000 in
theorem keyword_10 : PureC Tryz.prog 85 [.str [105, 110, 116]] (.bool true) := by
  refine effc_of ttT_ok Tryz.func85 (by decide +kernel) rfl [1, 2] rfl rfl ?_
  refine tg [.a, .a, .a, .a, .a, .a, .a, .a, .a, .a, .a, .a] rfl (by simp) ?_
  exact dgo_ret ⟨_, rfl, tV rfl, trivial⟩

set_option maxRecDepth 100000 in
theorem keyword_11 : PureC Tryz.prog 85 [.str [106, 111, 105, 110]] (.bool true) := by
  refine effc_of ttT_ok Tryz.func85 (by decide +kernel) rfl [1, 2] rfl rfl ?_
  refine tg [.a, .a, .a, .a, .a, .a, .a, .a, .a, .a, .a, .a, .a] rfl (by simp) ?_
  exact dgo_ret ⟨_, rfl, tV rfl, trivial⟩

set_option maxRecDepth 100000 in
theorem keyword_12 : PureC Tryz.prog 85 [.str [108, 101, 116]] (.bool true) := by
  refine effc_of ttT_ok Tryz.func85 (by decide +kernel) rfl [1, 2] rfl rfl ?_
  refine tg [.a, .a, .a, .a, .a, .a, .a, .a, .a, .a, .a, .a, .a, .a] rfl (by simp) ?_
  exact dgo_ret ⟨_, rfl, tV rfl, trivial⟩

set_option maxRecDepth 100000 in
theorem keyword_13 : PureC Tryz.prog 85 [.str [109, 97, 116, 99, 104]] (.bool true) := by
  refine effc_of ttT_ok Tryz.func85 (by decide +kernel) rfl [1, 2] rfl rfl ?_
  refine tg [.a, .a, .a, .a, .a, .a, .a, .a, .a, .a, .a, .a, .a, .a, .a] rfl (by simp) ?_
  exact dgo_ret ⟨_, rfl, tV rfl, trivial⟩

set_option maxRecDepth 100000 in
theorem keyword_14 : PureC Tryz.prog 85 [.str [109, 111, 100, 117, 108, 101]] (.bool true) := by
  refine effc_of ttT_ok Tryz.func85 (by decide +kernel) rfl [1, 2] rfl rfl ?_
  refine tg [.a, .a, .a, .a, .a, .a, .a, .a, .a, .a, .a, .a, .a, .a, .a, .a] rfl (by simp) ?_
  exact dgo_ret ⟨_, rfl, tV rfl, trivial⟩

set_option maxRecDepth 100000 in
theorem keyword_15 : PureC Tryz.prog 85 [.str [111, 117, 116]] (.bool true) := by
  refine effc_of ttT_ok Tryz.func85 (by decide +kernel) rfl [1, 2] rfl rfl ?_
  refine tg [.a, .a, .a, .a, .a, .a, .a, .a, .a, .a, .a, .a, .a, .a, .a, .a, .a] rfl (by simp) ?_
  exact dgo_ret ⟨_, rfl, tV rfl, trivial⟩

set_option maxRecDepth 100000 in
theorem keyword_16 : PureC Tryz.prog 85 [.str [112, 97, 117, 115, 101]] (.bool true) := by
  refine effc_of ttT_ok Tryz.func85 (by decide +kernel) rfl [1, 2] rfl rfl ?_
  refine tg [.a, .a, .a, .a, .a, .a, .a, .a, .a, .a, .a, .a, .a, .a, .a, .a, .a, .a] rfl (by simp) ?_
  exact dgo_ret ⟨_, rfl, tV rfl, trivial⟩

set_option maxRecDepth 100000 in
theorem keyword_17 : PureC Tryz.prog 85 [.str [112, 117, 116]] (.bool true) := by
  refine effc_of ttT_ok Tryz.func85 (by decide +kernel) rfl [1, 2] rfl rfl ?_
  refine tg [.a, .a, .a, .a, .a, .a, .a, .a, .a, .a, .a, .a, .a, .a, .a, .a, .a, .a, .a] rfl (by simp) ?_
  exact dgo_ret ⟨_, rfl, tV rfl, trivial⟩

set_option maxRecDepth 100000 in
theorem keyword_18 : PureC Tryz.prog 85 [.str [114, 101, 115, 101, 116]] (.bool true) := by
  refine effc_of ttT_ok Tryz.func85 (by decide +kernel) rfl [1, 2] rfl rfl ?_
  refine tg [.a, .a, .a, .a, .a, .a, .a, .a, .a, .a, .a, .a, .a, .a, .a, .a, .a, .a, .a, .a] rfl (by simp) ?_
  exact dgo_ret ⟨_, rfl, tV rfl, trivial⟩

set_option maxRecDepth 100000 in
theorem keyword_19 : PureC Tryz.prog 85 [.str [115, 101, 110, 100]] (.bool true) := by
  refine effc_of ttT_ok Tryz.func85 (by decide +kernel) rfl [1, 2] rfl rfl ?_
  refine tg [.a, .a, .a, .a, .a, .a, .a, .a, .a, .a, .a, .a, .a, .a, .a, .a, .a, .a, .a, .a, .a] rfl (by simp) ?_
  exact dgo_ret ⟨_, rfl, tV rfl, trivial⟩

set_option maxRecDepth 100000 in
theorem keyword_20 : PureC Tryz.prog 85 [.str [115, 104, 105, 102, 116]] (.bool true) := by
  refine effc_of ttT_ok Tryz.func85 (by decide +kernel) rfl [1, 2] rfl rfl ?_
  refine tg [.a, .a, .a, .a, .a, .a, .a, .a, .a, .a, .a, .a, .a, .a, .a, .a, .a, .a, .a, .a, .a, .a] rfl (by simp) ?_
  exact dgo_ret ⟨_, rfl, tV rfl, trivial⟩

set_option maxRecDepth 100000 in
theorem keyword_21 : PureC Tryz.prog 85 [.str [115, 112, 97, 119, 110]] (.bool true) := by
  refine effc_of ttT_ok Tryz.func85 (by decide +kernel) rfl [1, 2] rfl rfl ?_
  refine tg [.a, .a, .a, .a, .a, .a, .a, .a, .a, .a, .a, .a, .a, .a, .a, .a, .a, .a, .a, .a, .a, .a, .a] rfl (by simp) ?_
  exact dgo_ret ⟨_, rfl, tV rfl, trivial⟩

set_option maxRecDepth 100000 in
theorem keyword_22 : PureC Tryz.prog 85 [.str [116, 97, 107, 101]] (.bool true) := by
  refine effc_of ttT_ok Tryz.func85 (by decide +kernel) rfl [1, 2] rfl rfl ?_
  refine tg [.a, .a, .a, .a, .a, .a, .a, .a, .a, .a, .a, .a, .a, .a, .a, .a, .a, .a, .a, .a, .a, .a, .a, .a] rfl (by simp) ?_
  exact dgo_ret ⟨_, rfl, tV rfl, trivial⟩

set_option maxRecDepth 100000 in
theorem keyword_23 : PureC Tryz.prog 85 [.str [116, 97, 115, 107]] (.bool true) := by
  refine effc_of ttT_ok Tryz.func85 (by decide +kernel) rfl [1, 2] rfl rfl ?_
  refine tg [.a, .a, .a, .a, .a, .a, .a, .a, .a, .a, .a, .a, .a, .a, .a, .a, .a, .a, .a, .a, .a, .a, .a, .a, .a] rfl (by simp) ?_
  exact dgo_ret ⟨_, rfl, tV rfl, trivial⟩

set_option maxRecDepth 100000 in
theorem keyword_24 : PureC Tryz.prog 85 [.str [116, 104, 101, 110]] (.bool true) := by
  refine effc_of ttT_ok Tryz.func85 (by decide +kernel) rfl [1, 2] rfl rfl ?_
  refine tg [.a, .a, .a, .a, .a, .a, .a, .a, .a, .a, .a, .a, .a, .a, .a, .a, .a, .a, .a, .a, .a, .a, .a, .a, .a, .a] rfl (by simp) ?_
  exact dgo_ret ⟨_, rfl, tV rfl, trivial⟩

set_option maxRecDepth 100000 in
theorem keyword_25 : PureC Tryz.prog 85 [.str [116, 114, 117, 101]] (.bool true) := by
  refine effc_of ttT_ok Tryz.func85 (by decide +kernel) rfl [1, 2] rfl rfl ?_
  refine tg [.a, .a, .a, .a, .a, .a, .a, .a, .a, .a, .a, .a, .a, .a, .a, .a, .a, .a, .a, .a, .a, .a, .a, .a, .a, .a, .a] rfl (by simp) ?_
  exact dgo_ret ⟨_, rfl, tV rfl, trivial⟩

set_option maxRecDepth 100000 in
theorem keyword_26 : PureC Tryz.prog 85 [.str [116, 121, 112, 101]] (.bool true) := by
  refine effc_of ttT_ok Tryz.func85 (by decide +kernel) rfl [1, 2] rfl rfl ?_
  refine tg [.a, .a, .a, .a, .a, .a, .a, .a, .a, .a, .a, .a, .a, .a, .a, .a, .a, .a, .a, .a, .a, .a, .a, .a, .a, .a, .a, .a] rfl (by simp) ?_
  exact dgo_ret ⟨_, rfl, tV rfl, trivial⟩

set_option maxRecDepth 100000 in
theorem keyword_27 : PureC Tryz.prog 85 [.str [117, 110, 105, 116]] (.bool true) := by
  refine effc_of ttT_ok Tryz.func85 (by decide +kernel) rfl [1, 2] rfl rfl ?_
  refine tg [.a, .a, .a, .a, .a, .a, .a, .a, .a, .a, .a, .a, .a, .a, .a, .a, .a, .a, .a, .a, .a, .a, .a, .a, .a, .a, .a, .a, .a] rfl (by simp) ?_
  exact dgo_ret ⟨_, rfl, tV rfl, trivial⟩

set_option maxRecDepth 100000 in
theorem keyword_ok (s : Str) : PureC Tryz.prog 85 [.str s] (.bool (keyS s)) := by
  cases h : keyS s with
  | false => exact keyword_no s h
  | true =>
    simp only [keyS, keywordsL, hasS, Bool.or_eq_true, beq_iff_eq, Bool.or_false] at h
    rcases h with rfl | rfl | rfl | rfl | rfl | rfl | rfl | rfl | rfl | rfl | rfl | rfl | rfl | rfl | rfl | rfl | rfl | rfl | rfl | rfl | rfl | rfl | rfl | rfl | rfl | rfl | rfl | rfl
    · exact keyword_0
    · exact keyword_1
    · exact keyword_2
    · exact keyword_3
    · exact keyword_4
    · exact keyword_5
    · exact keyword_6
    · exact keyword_7
    · exact keyword_8
    · exact keyword_9
    · exact keyword_10
    · exact keyword_11
    · exact keyword_12
    · exact keyword_13
    · exact keyword_14
    · exact keyword_15
    · exact keyword_16
    · exact keyword_17
    · exact keyword_18
    · exact keyword_19
    · exact keyword_20
    · exact keyword_21
    · exact keyword_22
    · exact keyword_23
    · exact keyword_24
    · exact keyword_25
    · exact keyword_26
    · exact keyword_27

set_option maxRecDepth 100000 in
theorem tName_ok (s : Str) : PureC Tryz.prog 45 [.str s] (.bool (nameS s)) := by
  refine effc_of ttT_ok Tryz.func45 (by decide +kernel) rfl [1, 2] rfl rfl ?_
  refine tg [] rfl (by simp) ?_
  refine g_pcall rfl (v := .bool (smallS s)) (fun h => tsmall_ok s) (by simp [cxOf]) ?_
  refine tg [] rfl (by simp) ?_
  refine g_pcall rfl (v := .bool (keyS s)) (fun h => keyword_ok s) (by simp [cxOf]) ?_
  refine tg [] rfl (by simp) ?_
  refine dgo_ret ⟨_, rfl, tV (congrArg _ ?_), trivial⟩
  cases s with
  | nil => simp [nameS]
  | cons a r => simp [nameS]; norm_cast; simp

set_option maxRecDepth 100000 in
theorem tGreat_ok (s : Str) : PureC Tryz.prog 46 [.str s] (.bool (greatS s)) := by
  refine effc_of ttT_ok Tryz.func46 (by decide +kernel) rfl [1, 2] rfl rfl ?_
  refine tg [] rfl (by cases s with | nil => simp [cxOf] | cons a r => simp [cxOf]; omega) ?_
  refine g_pcall rfl (v := .bool (smallS (s.drop 1))) (fun h => tsmall_ok _) (by simp [cxOf]) ?_
  refine tg [] rfl (by simp) ?_
  refine dgo_ret ⟨_, rfl, tV (congrArg _ ?_), trivial⟩
  cases s with
  | nil => simp [greatS]
  | cons a r => simp [greatS, UInt8.le_iff_toNat_le, Bool.and_assoc]; norm_cast; simp

def integerB (n : Int) : Bool := decide (-1000000000 ≤ n) && decide (n ≤ 1000000000)

set_option maxRecDepth 100000 in
theorem integer_ok (n : Int) : PureC Tryz.prog 104 [.int .i64 n] (.bool (integerB n)) := by
  refine effc_of ttT_ok Tryz.func104 (by decide +kernel) rfl [1, 2] rfl rfl ?_
  refine tg [] rfl (by simp) ?_
  refine dgo_ret ⟨_, rfl, tV (congrArg _ ?_), trivial⟩
  simp [integerB]

end Go.Hk

/- Contracts of term: types. -/
namespace Go.Hk
open Go.Proofs

def unitV : D := .imm (.tup [])

end Go.Hk

/- A function that does something and tells whether it gave up: the walks of term.holds and of what it defers. -/
namespace Go.Hk
open Go.Proofs

theorem hmf : ∀ (fn : Fn) (first cap : Array Value) (w : World), (Instr.makeFunc fn first cap).run Tryz.prog w = .ok (.func fn first cap) w := fun _ _ _ _ => rfl

/-- What is deferred, where nothing was given up with. -/
theorem hcatch_idle (p : Addr) (w : World) :
    CallsD Tryz.prog 129 #[.pointer (some p)] .returning w fun e u' w' => e = .returned (.tuple #[]) ∧ u' = .returning ∧ w' = w := by
  refine callsD_of_wpS Tryz.func129 rfl fun c₀ cs hu => ?_
  apply wpS_seq
  apply wpS_region
  simp [wpOpsS, go_sem, recoverD, hu, Tryz.ntmps129, Exit.thenS]
  apply wpS_seq
  apply wpS_region
  simp [wpOpsS, go_sem, Exit.thenS]
  refine wpS_cond (t := false) (by simp [Act.eval, Array.replicate]) ?_
  simp only [if_false, Bool.false_eq_true]
  refine wpS_of_wp (wp_skip ?_)
  cases c₀
  simp_all [bodyPostS, results, Tryz.results129]

set_option maxRecDepth 100000 in
/-- What is deferred, where a flaw was given up with. -/
theorem hcatch_flaw (pb : Nat) (x : Value) (w : World) (hpb : pb < w.heap.size) (hx : w.cell? ⟨pb, 0, none⟩ = some x) (hz : w.frozen? ⟨pb, 0, none⟩ = false) :
    CallsD Tryz.prog 129 #[.pointer (some ⟨pb, 0, none⟩)] (.panicking [{ v := .iface 173 (.agg #[]), recovered := false }]) w fun e u' w' => e = .returned (.tuple #[]) ∧
      u' = .panicking [{ v := .iface 173 (.agg #[]), recovered := true }] ∧ w' = (w.setCell ⟨pb, 0, none⟩ (.bool false)).alloc (.cells #[] 173) := by
  refine callsD_of_wpS Tryz.func129 rfl fun c₀ cs hu => ?_
  change Code.wpS _ _ _ { tmps := #[.pointer (some ⟨pb, 0, none⟩), undef, undef, undef, undef, undef, undef, undef, undef, undef, undef, undef, undef, undef, undef], defers := [] } _ _
  apply wpS_seq
  apply wpS_region
  simp [wpOpsS, go_sem, recoverD, hu, Tryz.ntmps129, Exit.thenS]
  apply wpS_seq
  apply wpS_region
  simp [wpOpsS, go_sem, Exit.thenS]
  refine wpS_cond (t := true) (by simp [Act.eval, Array.replicate]) ?_
  simp only [if_true]
  refine wpS_of_wp ?_
  clear hu
  have hta : ∀ w : World, (Instr.typeAssert (.iface 173 (.agg #[])) 20 173 true).run Tryz.prog w = .ok (.tuple #[.agg #[], .bool true]) w := fun _ => by kernel_rfl
  have hx' : (w.alloc (.cells #[] 173)).cell? ⟨pb, 0, none⟩ = some x := by rw [World.cell?_alloc_past _ _ _ hpb]; exact hx
  have hz' : (w.alloc (.cells #[] 173)).frozen? ⟨pb, 0, none⟩ = false := by rw [RowKit.frozen?_alloc_cells]; exact hz
  go_wp2
  simp [bodyPostS, results, Tryz.results129]

set_option maxRecDepth 100000 in
theorem holds_calls (g : FuncId) (fi ca : Array Value) (w : World) (K : World → Prop) (Kp : World → Prop)
    (hen : (callFunc g (fi ++ ca)).run Tryz.prog (w.alloc (.cells #[.bool false] 4)) = .ok (.enter g (fi ++ ca)) (w.alloc (.cells #[.bool false] 4)))
    (hcall : Calls Tryz.prog g (fi ++ ca) (w.alloc (.cells #[.bool false] 4)) fun e w' => match e with
      | .returned _ => K w'
      | .panicked chain => chain = [{ v := .iface 173 (.agg #[]), recovered := false }] ∧ Kp w'
      | .outgrown => False)
    (hK : ∀ w', K w' → w'.heap[w.heap.size]? = some (.cells #[.bool false] 4 (0, 0))) (hKp : ∀ w', Kp w' → w'.heap[w.heap.size]? = some (.cells #[.bool false] 4 (0, 0))) :
    Calls Tryz.prog 100 #[.func (.func g) fi ca] w fun e w' => (e = .returned (.bool true) ∧ ∃ w1, K w1 ∧ w' = w1.setCell ⟨w.heap.size, 0, none⟩ (.bool true)) ∨
      (e = .returned (.bool false) ∧ ∃ w1, Kp w1 ∧ w' = (w1.setCell ⟨w.heap.size, 0, none⟩ (.bool false)).alloc (.cells #[] 173)) := by
  go_enter_defers Tryz.func100, Tryz.ntmps100
  have hmf := hmf
  go_wp2_with fail
  clear hen
  refine hcall.mono ?_
  intro e w' he
  cases e with
  | outgrown => exact he.elim
  | returned v =>
    have hc : w'.cell? ⟨w.heap.size, 0, none⟩ = some (.bool false) := by unfold World.cell?; simp [hK w' he]
    have hz : w'.frozen? ⟨w.heap.size, 0, none⟩ = false := by unfold World.frozen?; simp [hK w' he]
    simp only
    go_wp2
    refine leaves_cons (f := 129) (args := #[.pointer (some ⟨w.heap.size, 0, none⟩)]) (by simp) (by simp [go_sem]) ?_
    refine (hcatch_idle ⟨w.heap.size, 0, none⟩ _).mono ?_
    rintro e u' w'' ⟨rfl, rfl, rfl⟩
    simp [Leaves, settle, results, Tryz.results100, go_sem, hc]
    exact ⟨w', he, rfl⟩
  | panicked chain =>
    obtain ⟨rfl, he⟩ := he
    have hc : w'.cell? ⟨w.heap.size, 0, none⟩ = some (.bool false) := by unfold World.cell?; simp [hKp w' he]
    have hz : w'.frozen? ⟨w.heap.size, 0, none⟩ = false := by unfold World.frozen?; simp [hKp w' he]
    have hlt : w.heap.size < w'.heap.size := (Array.getElem?_eq_some_iff.1 (hKp w' he)).1
    refine leaves_cons (f := 129) (args := #[.pointer (some ⟨w.heap.size, 0, none⟩)]) (by simp) (by simp [go_sem]) ?_
    refine (hcatch_flaw w.heap.size _ _ hlt hc hz).mono ?_
    rintro e u' w'' ⟨rfl, rfl, rfl⟩
    have hc2 : ((w'.setCell ⟨w.heap.size, 0, none⟩ (.bool false)).alloc (.cells #[] 173)).cell? ⟨w.heap.size, 0, none⟩ = some (.bool false) := by
      rw [setCell_block (hKp w' he), World.cell?_alloc_past _ _ _ (by simpa using hlt)]
      unfold World.cell?
      simp [hlt]
    simp [Leaves, settle, results, Tryz.results100, go_sem, hc2]
    exact ⟨w', he, rfl⟩

theorem holds_spec : HoldsSpec Tryz.prog 100 173 4 := fun g fi ca w K Kp h1 h2 h3 h4 => holds_calls g fi ca w K Kp h1 h2 h3 h4

end Go.Hk

/- Contracts of term: types that are formed. -/
namespace Go.Hk
open Go.Proofs


set_option maxRecDepth 100000 in
theorem checked1_yes {g : FuncId} {fg : Func} {cg : Code} (hg : Tryz.prog.funcs[g]? = some fg) (hn : (fg.name == "runtime.NumGoroutine") = false) (hc : fg.body = some cg) {t1 : TypeId} {s1 : Nat} {x1 y1 : List V} (hE : EffC Tryz.prog g [.ref 1 0] [(1, some (.immb t1 s1 x1))] (.ret unitV [(1, some (.immb t1 s1 y1))])) :
    EffC Tryz.prog 66 [.fn (.func g) [] [.ref 1 0]] [(1, some (.immb t1 s1 x1))] (.ret (.imm (.int .i64 0)) [(1, some (.immb t1 s1 y1))]) := by
  refine effc_of ttT_ok Tryz.func66 (by decide +kernel) rfl [2, 3, 4] rfl rfl ?_
  refine tg [] rfl (by simp) ?_
  refine g_call (fr := []) [(1, 1)] [] rfl (by simp) (holds_yes Tryz.func100 (by decide +kernel) rfl holds_spec hg hn hc hE) ⟨⟨rfl, rfl, rfl⟩, trivial⟩ rfl rfl rfl rfl ?_
  refine tg [.a] rfl (by simp) ?_
  exact dgo_ret ⟨_, rfl, tV rfl, ⟨rfl, trivial⟩⟩

set_option maxRecDepth 100000 in
theorem checked1_no {g : FuncId} {fg : Func} {cg : Code} (hg : Tryz.prog.funcs[g]? = some fg) (hn : (fg.name == "runtime.NumGoroutine") = false) (hc : fg.body = some cg) {t1 : TypeId} {s1 : Nat} {x1 : List V} (hE : EffC Tryz.prog g [.ref 1 0] [(1, some (.immb t1 s1 x1))] (.pan flawV)) :
    EffC Tryz.prog 66 [.fn (.func g) [] [.ref 1 0]] [(1, some (.immb t1 s1 x1))] (.ret (.imm (.int .i64 2)) []) := by
  refine effc_of ttT_ok Tryz.func66 (by decide +kernel) rfl [2, 3, 4] rfl rfl ?_
  refine tg [] rfl (by simp) ?_
  refine g_call (fr := []) [(1, 1)] [] rfl (by simp) (holds_no Tryz.func100 (by decide +kernel) rfl holds_spec hg hn hc hE) ⟨⟨rfl, rfl, rfl⟩, trivial⟩ rfl rfl rfl rfl ?_
  refine tg [.a] rfl (by simp) ?_
  exact dgo_ret ⟨_, rfl, tV rfl, trivial⟩

def errI (b : Bool) : V := .int .i64 (bif b then 0 else 2)
end Go.Hk

/- Maps that are owned: made, looked at, changed. -/
namespace Go.Hk
open Go.MapKept

def eqK : V → V → Bool
  | .str a, .str b => a == b
  | .int _ a, .int _ b => a == b
  | .bool a, .bool b => a == b
  | _, _ => false

def lookM : List (V × V) → V → Option V
  | [], _ => none
  | (k, d) :: r, x => if eqK x k then some d else lookM r x

def setM : List (V × V) → V → V → List (V × V)
  | [], x, d => [(x, d)]
  | (k, e) :: r, x, d => if eqK x k then (x, d) :: r else (k, e) :: setM r x d

def descOf : Sh → Option TypeDesc
  | .str => some .string
  | .int k => some (.int k)
  | _ => none

def keyV : Sh → V → Bool
  | .str, .str _ => true
  | .int k, .int k' _ => decide (k' = k)
  | _, _ => false

section
variable {P : Program} {n : Nat} {F : List Nat} {Q : DQ} {tt : TT} {env env' : Env} {st st' : St} {ids ids' : List Nat} {k todo todo' : List DI} {I : Imm} {μ : Mu} {w : World} {a : Act} {Pn : V → Prop} {d : D} {cx : Prop} {ob : List Prop}

theorem descOf_ok {t : TypeId} {sh : Sh} {dd : TypeDesc} (h : descOf sh = some dd) (hs : ShOk P t sh) : P.underlying t = some dd := by
  cases sh <;> simp only [descOf, reduceCtorEq, Option.some.injEq] at h <;> subst h <;> exact hs

theorem isKey_rep {sh : Sh} {dd : TypeDesc} {v : Value} {x : V} (h : descOf sh = some dd) (hk : keyV sh x = true) (hv : RepV I v x) : IsKey dd v := by
  cases sh <;> simp only [descOf, reduceCtorEq, Option.some.injEq] at h <;> subst h <;> cases x <;> simp [keyV] at hk <;> cases hv <;> simp [IsKey, hk]

theorem eqK_rep {sh : Sh} {v u : Value} {x y : V} (hx : keyV sh x = true) (hy : keyV sh y = true) (hv : RepV I v x) (hu : RepV I u y) : eqK x y = true ↔ v = u := by
  cases x with
  | str a =>
    cases y with
    | str b =>
      obtain ⟨s, rfl, rfl⟩ := hv.strInv
      obtain ⟨t, rfl, rfl⟩ := hu.strInv
      simp only [eqK, beq_iff_eq, Value.string.injEq]
      constructor
      · intro h
        obtain ⟨⟨s⟩⟩ := s
        obtain ⟨⟨t⟩⟩ := t
        simp at h
        rw [h]
      · intro h; rw [h]
    | _ => cases sh <;> simp [keyV] at hx hy
  | int k i =>
    cases y with
    | int k' j =>
      obtain rfl := hv.intInv
      obtain rfl := hu.intInv
      cases sh <;> simp [keyV] at hx hy
      subst hx; subst hy
      simp [eqK]
    | _ => cases sh <;> simp [keyV] at hx hy
  | _ => cases sh <;> simp [keyV] at hx

theorem find_rep {sh : Sh} {dd : TypeDesc} {v : Value} {x : V} (hd : descOf sh = some dd) (hk : keyV sh x = true) (hv : RepV I v x) : ∀ (l : List MapEntry) (kv : List (V × V)) (i : Nat), l.length = kv.length →
    (∀ (j : Nat) (e : MapEntry) (p : V × V), l[j]? = some e → kv[j]? = some p → RepV I e.key p.1 ∧ RepV I e.val p.2) → (∀ p ∈ kv, keyV sh p.1 = true) →
    (Instr.findNow dd v l i = some none ∧ lookM kv x = none ∧ (∀ y, setM kv x y = kv ++ [(x, y)]) ∧ ∀ e ∈ l, e.key ≠ v) ∨
      ∃ j e y, Instr.findNow dd v l i = some (some (i + j, e.val)) ∧ l[j]? = some e ∧ e.key = v ∧ lookM kv x = some y ∧ RepV I e.val y ∧ ∀ z, setM kv x z = kv.set j (x, z)
  | [], [], i, _, _, _ => .inl ⟨rfl, rfl, fun _ => rfl, fun _ h => by cases h⟩
  | [], _ :: _, _, h, _, _ => by simp at h
  | _ :: _, [], _, h, _, _ => by simp at h
  | e :: l, p :: kv, i, hl, h, hkv => by
    obtain ⟨h1, h2⟩ := h 0 e p rfl rfl
    obtain ⟨y, dy⟩ := p
    have hky := hkv (y, dy) (by simp)
    obtain ⟨r, hr, hiff⟩ := sameNow_of_keys (isKey_rep hd hk hv) (isKey_rep hd hky h1)
    have he := eqK_rep hk hky hv h1
    cases r with
    | true =>
      have hvy := hiff.1 rfl
      have := he.2 hvy
      exact .inr ⟨0, e, dy, by simp [Instr.findNow, hr], rfl, hvy.symm, by simp [lookM, this], h2, fun z => by simp [setM, this]⟩
    | false =>
      have hne : v ≠ e.key := fun q => by have := hiff.2 q; cases this
      have hf : eqK x y = false := by
        cases hq : eqK x y with
        | false => rfl
        | true => exact absurd (he.1 hq) hne
      rcases find_rep hd hk hv l kv (i + 1) (by simpa using hl) (fun j e' p' a b => h (j + 1) e' p' (by simpa using a) (by simpa using b)) (fun p' hp => hkv p' (by simp [hp])) with ⟨q1, q2, q3, q4⟩ | ⟨j, e', y', q1, q2, q3, q4, q5, q6⟩
      · refine .inl ⟨by simp [Instr.findNow, hr, q1], by simp [lookM, hf, q2], fun z => by simp [setM, hf, q3], fun e' he' => ?_⟩
        rcases List.mem_cons.1 he' with rfl | he'
        · exact fun q => hne q.symm
        · exact q4 e' he'
      · exact .inr ⟨j + 1, e', y', by simp [Instr.findNow, hr, q1]; omega, by simpa using q2, q3, by simp [lookM, hf, q4], q5, fun z => by simp [setM, hf, q6]⟩

/-- A new map. -/
def pmk (n : Nat) (ids : List Nat) (todo : List DI) : Option (Nat × List Nat × Option Nat × List DI) :=
  match opAt todo, ids with
  | some o, id' :: ids' => match o.guard, o.op with
    | none, .makeMap _ none => match dstOk n o.dst, next1 todo ([], [id']) with
      | true, some (_, _, todo') => some (id', ids', o.dst, todo')
      | _, _ => none
    | _, _ => none
  | _, _ => none

theorem g_mkmap {i0 : Nat} {ids0 : List Nat} {d0 : Option Nat} {todo0 : List DI} (h : pmk n ids todo = some (i0, ids0, d0, todo0)) (hk : G P n F Q todo0 (putE d0 (.mapr i0) env) ((i0, some (.map [])) :: st) ids0) : G P n F Q todo env st ids := by
  unfold pmk at h
  split at h
  · rename_i o id' ids' ho
    split at h
    · rename_i t hg hop
      split at h
      · rename_i all o' todo' hd h1
        cases h
        have ho' : o' = o := opAt_next ho h1
        subst ho'
        refine g_step (fr := [i0]) (wr := [(i0, some (.map []))]) (rd := []) h1 ?_ hd (fun c hc => by rw [hop] at hc; cases hc) hk
        intro I μ st1 ids1 a w hag hst hon
        refine ⟨fun _ => ?_, fun hw => by rw [wanted_none hg] at hw; cases hw⟩
        have hrun : (execOp a.eval o').run P w = .ok (.value (.map (some w.heap.size))) (w.alloc (.map #[] 0)) := by
          simp only [execOp, hop, Option.map_none]
          refine ok_of_sem' ?_
          simp only [Instr.makeMap, Sem.run_bind, Result.andThen_ok, Sem.run_pure, run_newObj]
          rfl
        rw [hrun]
        obtain ⟨μ', q1, q2, q3, q4⟩ := hst.allocO (.map #[] 0) (.map (some w.heap.size)) (fun _ h => Eq.symm h) (.map []) (fun μ' _ => ⟨w.heap.size, #[], 0, rfl, heapNew w _, rfl, stamped_empty 0, fun i e p h => by simp at h⟩)
        exact ⟨I, μ', q3, .mapr _ _ q1, q2, q4⟩
      · cases h
    · cases h
  · cases h

theorem map_run {id : Nat} {kv : List (V × V)} {v : Value} (hst : StRep I μ st ids w) (hl : live st id (.map kv)) (hv : RepD I μ v (.mapr id)) :
    ∃ b es clock, v = .map (some b) ∧ μ id = some v ∧ w.heap[b]? = some (.map es clock) ∧ es.size = kv.length ∧ Stamped es clock ∧ ∀ (i : Nat) (e : MapEntry) (p : V × V), es[i]? = some e → kv[i]? = some p → RepV I e.key p.1 ∧ RepV I e.val p.2 := by
  cases hv with
  | mapr _ b hm =>
    obtain ⟨g, hg, b', es, clock, rfl, h1, h2, h3, h4⟩ := hst.blk id _ hl
    rw [hm] at hg; cases hg
    exact ⟨b, es, clock, rfl, hm, h1, h2, h3, h4⟩

/-- An element of a map is set. -/
def pmset (tt : TT) (env : Env) (st : St) (todo : List DI) : Option (Nat × List (V × V) × Sh × V × V × List DI) :=
  match opAt todo with
  | some o => match o.guard, o.op with
    | none, .mapUpdate t m x y => match o.dst, lk tt t, evO env m, evO env x, evO env y with
      | none, some { sh := .map kt _, .. }, some (.mapr id), some (.imm kx), some dy => match lk tt kt, lk st id, next1 todo ([id], [id]), toV dy with
        | some i, some (some (.map kv)), some (_, _, todo'), some vy => some (id, kv, i.sh, kx, vy, todo')
        | _, _, _, _ => none
      | _, _, _, _, _ => none
    | _, _ => none
  | none => none

theorem g_mset (htt : TTok P tt) {i0 : Nat} {kv : List (V × V)} {sh : Sh} {kx : V} {dy : V} {todo0 : List DI} {dd : TypeDesc} (h : pmset tt env st todo = some (i0, kv, sh, kx, dy, todo0)) (hd : descOf sh = some dd) (hk : keyV sh kx = true)
    (hkv : ∀ p ∈ kv, keyV sh p.1 = true) (hg : G P n F Q todo0 env ((i0, some (.map (setM kv kx dy))) :: st) ids) : G P n F Q todo env st ids := by
  unfold pmset at h
  split at h
  · rename_i o ho
    split at h
    · rename_i t m x y hgd hop
      split at h
      · rename_i kt et _ _ _ _ id kx' dy' hdst ht hm hx hy
        split at h
        · rename_i i kv' all o' todo' vy hi hl h1 hng
          cases h
          have ho' : o' = o := opAt_next ho h1
          subst ho'
          have hg : G P n F Q todo0 (putE o'.dst .undef env) ((i0, some (.map (setM kv kx dy))) :: st) ids := by rw [hdst]; exact hg
          refine g_step (fr := []) (wr := [(i0, some (.map (setM kv kx dy)))]) (rd := [i0]) h1 ?_ (by simp [dstOk, hdst]) (fun c hc => by rw [hop] at hc; cases hc) hg
          intro I μ st1 ids1 a w hag hst hon
          refine ⟨fun _ => ?_, fun hw => by rw [wanted_none hgd] at hw; cases hw⟩
          have hops := opsOn_of hon
          rw [hop] at hops
          have hl1 : live st1 i0 (.map kv) := by unfold live; rw [hag i0 (by simp)]; exact hl
          obtain ⟨b, es, clock, e1, hmu, hheap, hlen, hst2, hent⟩ := map_run hst hl1 (hops m (by simp [Op.operands]) _ hm)
          have rx := (hops x (by simp [Op.operands]) _ hx).immInv
          have ry := toV_rep hng (hops y (by simp [Op.operands]) _ hy)
          have hu : P.underlying t = some (.map kt et) := htt.sh ht
          have hkd : P.underlying kt = some dd := descOf_ok hd (htt.sh hi)
          have hik := isKey_rep hd hk rx
          have hbl := lt_of_heap hheap
          have fin : ∀ (es' : Array MapEntry) (c' : Nat), (Instr.mapUpdate t (.map (some b)) (a.eval x) (a.eval y)).run P w = .ok () { w with heap := w.heap.setIfInBounds b (.map es' c') } → es'.size = (setM kv kx dy).length → Stamped es' c' →
              (∀ (i : Nat) (e : MapEntry) (p : V × V), es'[i]? = some e → (setM kv kx dy)[i]? = some p → RepV I e.key p.1 ∧ RepV I e.val p.2) →
              valX P ((execOp a.eval o').run P w) (fun v w' => ∃ I' μ', StRep I' μ' ([(i0, some (.map (setM kv kx dy)))] ++ st1) ids1 w' ∧ RepD I' μ' v .undef ∧ μ.le μ' ∧ Ext I μ st1 w I' μ' ([(i0, some (.map (setM kv kx dy)))] ++ st1) w') (panK (panQ Q) I μ st1 w) := by
            intro es' c' hr h2 h3 h4
            have hrun : (execOp a.eval o').run P w = .ok .skip { w with heap := w.heap.setIfInBounds b (.map es' c') } := by
              simp only [execOp, hop, e1]
              simp [hr]
            rw [hrun]
            obtain ⟨q1, q2⟩ := hst.update (blk' := .map (setM kv kx dy)) (w' := { w with heap := w.heap.setIfInBounds b (.map es' c') }) hl1 hmu (by rw [e1]; rfl) (by simp) rfl rfl rfl
              (fun k hk => Array.getElem?_setIfInBounds_ne (Ne.symm hk)) ⟨b, es', c', e1, by simp [hbl], h2, h3, h4⟩
            exact ⟨I, μ, q1, .undef _, Mu.le_refl μ, q2⟩
          rcases find_rep (I := I) hd hk rx es.toList kv 0 (by simpa using hlen) (fun j e p h1 h2 => hent j e p (by simpa using h1) h2) hkv with ⟨q1, _, q3, q4⟩ | ⟨j, e, y', q1, q2, q3, _, q5, q6⟩
          · refine fin _ _ ?_ (by rw [q3]; simp [hlen]) (stamped_push hst2 (key := a.eval x) (val := a.eval y) q4) fun i e p h1 h2 => ?_
            · simp [Instr.mapUpdate, run_underlying hu, MapKept.run_getObj_map hheap, MapKept.run_checkKey hkd hik, MapKept.run_findKey hkd q1, MapKept.run_setObj_map _ hheap, Result.andThen]
            · rw [q3] at h2
              rw [Array.getElem?_push] at h1
              rw [List.getElem?_append] at h2
              by_cases hi : i = es.size
              · rw [if_pos hi] at h1; cases h1
                rw [if_neg (by omega)] at h2
                rw [show i - kv.length = 0 by omega] at h2
                cases h2
                exact ⟨rx, ry⟩
              · rw [if_neg hi] at h1
                have := (Array.getElem?_eq_some_iff.1 h1).1
                rw [if_pos (by omega)] at h2
                exact hent i e p h1 h2
          · have hj : es[j]? = some e := by simpa using q2
            have hkey : ∀ e', es[j]? = some e' → ({ e' with key := a.eval x, val := a.eval y } : MapEntry).key = e'.key := fun e' he' => by rw [hj] at he'; cases he'; exact q3.symm
            refine fin (es.modify j fun e => { e with key := a.eval x, val := a.eval y }) clock ?_ (by rw [q6]; simp [hlen]) (stamped_modify hst2 _ _ (fun _ _ => rfl) (fun e' _ he' => hkey e' he')) fun i e' p h1 h2 => ?_
            · simp [Instr.mapUpdate, run_underlying hu, MapKept.run_getObj_map hheap, MapKept.run_checkKey hkd hik, MapKept.run_findKey hkd q1, hj, q3, MapKept.run_keyThatStays hik, MapKept.run_setObj_map _ hheap, Result.andThen]
            · rw [q6] at h2
              rw [Array.getElem?_modify] at h1
              rw [List.getElem?_set] at h2
              by_cases hi : j = i
              · subst hi
                rw [if_pos rfl, hj] at h1
                cases h1
                rw [if_pos rfl] at h2
                split at h2
                · cases h2; exact ⟨rx, ry⟩
                · cases h2
              · rw [if_neg hi] at h1 h2
                exact hent i e' p h1 h2
        · cases h
      · cases h
    · cases h
  · cases h

structure PMl where
  kv : List (V × V)
  sh : Sh
  kx : V
  et : TypeId
  two : Bool
  g : Option (Bool × Bool)
  ob : List Prop
  t : Nat
  todo : List DI

/-- An element of a map is looked up. -/
def pmlook (tt : TT) (n : Nat) (env : Env) (st : St) (nm : Nat) (todo : List DI) : Option PMl :=
  match next1 todo ([nm], []) with
  | some (all, o, todo') => match o.op, guardOf all env o with
    | .lookup t m k two, some g => match lk tt t, useD (cxOf g) env m, useD (cxOf g) env k with
      | some { sh := .map kt et, .. }, some (.mapr id, o1), some (.imm kx, o2) => match Nat.beq id nm, lk tt kt, lk st id, dstOk n o.dst with
        | true, some i, some (some (.map kv)), true => match o.dst with
          | some t => some ⟨kv, i.sh, kx, et, two, g, cat o1 o2, t, todo'⟩
          | none => none
        | _, _, _, _ => none
      | _, _, _ => none
    | _, _ => none
  | none => none

theorem run_zeroValue_of {t : TypeId} {z : Value} (h : (P.info? t).bind (·.zero) = some z) : (zeroValue t).run P w = .ok z w := by
  cases hi : P.info? t with
  | none => rw [hi] at h; cases h
  | some inf =>
    rw [hi] at h
    have h : inf.zero = some z := h
    simp [zeroValue, typeInfo, hi, h]

def lookD (two : Bool) (kv : List (V × V)) (x : V) (zd : V) : D :=
  let r := match lookM kv x with
    | some y => (y, true)
    | none => (zd, false)
  if two then .imm (.tup [r.1, .bool r.2]) else .imm r.1

theorem g_mlook (htt : TTok P tt) (nm : Nat) {kv : List (V × V)} {sh : Sh} {kx : V} {et : TypeId} {two : Bool} {g : Option (Bool × Bool)} {ob : List Prop} {t0 : Nat} {todo0 : List DI} {dd : TypeDesc} {z : Value} {zd : V} {dr : D}
    (h : pmlook tt n env st nm todo = some ⟨kv, sh, kx, et, two, g, ob, t0, todo0⟩) (hd : descOf sh = some dd) (hk : keyV sh kx = true) (hkv : ∀ p ∈ kv, keyV sh p.1 = true) (hob : allP ob)
    (hz : (P.info? et).bind (·.zero) = some z) (hzr : ∀ I, RepV I z zd) (hdr : lookD two kv kx zd = dr) (hg : G P n F Q todo0 ((t0, gD g dr) :: env) st ids) : G P n F Q todo env st ids := by
  unfold pmlook at h
  split at h
  · rename_i all o todo' h1
    split at h
    · rename_i t m k two' g' hop hgd
      split at h
      · rename_i kt et' _ _ _ _ id o1 kx' o2 ht hm hx
        split at h
        · rename_i i kv' hid hi hl hdo
          split at h
          · rename_i t' hdst
            cases h
            have hid := Nat.eq_of_beq_eq_true hid
            subst hid
            subst hdr
            have hg : G P n F Q todo0 (putE o.dst (gD g (lookD two kv kx zd)) env) st ids := by rw [hdst]; exact hg
            refine g_step (fr := []) (wr := []) (rd := [id]) h1 (ld_guarded hgd fun I μ st1 ids1 a w hag hst hops hcx => ?_) hdo (fun c hc => by rw [hop] at hc; cases hc) hg
            rw [hop] at hops
            obtain ⟨ho1, ho2⟩ := allP_app hob
            have rm := useD_rep hm ho1 hcx (hops m (by simp [Op.operands]))
            have rx := (useD_rep hx ho2 hcx (hops k (by simp [Op.operands]))).immInv
            have hl1 : live st1 id (.map kv) := by unfold live; rw [hag id (by simp)]; exact hl
            obtain ⟨b, es, clock, e1, hmu, hheap, hlen, hst2, hent⟩ := map_run hst hl1 rm
            have hu : P.underlying t = some (.map kt et) := htt.sh ht
            have hkd : P.underlying kt = some dd := descOf_ok hd (htt.sh hi)
            have hik := isKey_rep hd hk rx
            have fin : ∀ (v : Value) (ok : Bool) (d : V), (Instr.lookup t (.map (some b)) (a.eval k) two).run P w = .ok (if two then .tuple #[v, .bool ok] else v) w → RepV I v d →
                lookD two kv kx zd = (if two then .imm (.tup [d, .bool ok]) else .imm d) →
                valX P ((execOp a.eval o).run P w) (fun u w' => ∃ I' μ', StRep I' μ' st1 ids1 w' ∧ RepD I' μ' u (lookD two kv kx zd) ∧ μ.le μ' ∧ Ext I μ st1 w I' μ' st1 w') (panK (panQ Q) I μ st1 w) := by
              intro v ok d hr hv he
              have hrun : (execOp a.eval o).run P w = .ok (.value (if two then .tuple #[v, .bool ok] else v)) w := by
                simp only [execOp, hop, e1]
                exact ok_of_sem hr
              rw [hrun]
              refine ⟨I, μ, hst, ?_, Mu.le_refl μ, Ext.refl _ _ _ _⟩
              rw [he]
              cases two with
              | false => exact .imm _ _ hv
              | true =>
                refine .imm _ _ (.tup _ _ rfl fun i c x hc hx => ?_)
                match i, hc, hx with
                | 0, hc, hx => cases hc; cases hx; exact hv
                | 1, hc, hx => cases hc; cases hx; exact .bool _
                | i + 2, hc, hx => simp at hx
            rcases find_rep (I := I) hd hk rx es.toList kv 0 (by simpa using hlen) (fun j e p h1 h2 => hent j e p (by simpa using h1) h2) hkv with ⟨q1, q2, _, _⟩ | ⟨j, e, y', q1, q2, q3, q4, q5, q6⟩
            · refine fin z false zd ?_ (hzr I) (by simp [lookD, q2])
              simp [Instr.lookup, run_underlying hu, MapKept.run_getObj_map hheap, MapKept.run_checkKey hkd hik, MapKept.run_findKey hkd q1, run_zeroValue_of hz, Result.andThen]
            · refine fin e.val true y' ?_ q5 (by simp [lookD, q4])
              simp [Instr.lookup, run_underlying hu, MapKept.run_getObj_map hheap, MapKept.run_checkKey hkd hik, MapKept.run_findKey hkd q1, Result.andThen]
          · cases h
        · cases h
      · cases h
    · cases h
  · cases h

end
end Go.Hk

/- Contracts of term: patterns. -/
namespace Go.Hk
open Go.Proofs

def ttP : TT := ttT ++ [
  (79, ⟨.map 9 4, false, 1, 8, [.imm .nilmap]⟩)]
theorem ttP_ok : TTok Tryz.prog ttP := .of_eq (l := [4, 3, 9, 26, 53, 49, 22, 24, 5, 51, 50, 29, 23, 47, 113, 66, 150, 63, 64, 111, 109, 30, 173, 101, 1, 79]) (by kernel_rfl)

section
variable {n : Nat} {F : List Nat} {Q : DQ} {env env' : Env} {st st' : St} {ids ids' : List Nat} {k todo : List DI} {ob : List Prop}
theorem pd (path : List Pt) (h : run ttP n 300 path todo env st ids [] = .at k env' st' ids' ob) (hob : allP ob) (hd : G Tryz.prog n F Q k env' st' ids') : DGo Tryz.prog n F Q todo env st ids := d_run ttP_ok mixed 300 path h hob hd
theorem pg (path : List Pt) (h : run ttP n 300 path todo env st ids [] = .at k env' st' ids' ob) (hob : allP ob) (hd : G Tryz.prog n F Q k env' st' ids') : G Tryz.prog n F Q todo env st ids := g_run ttP_ok mixed 300 path h hob hd
theorem pi {es : List (List V)} {m : Int} {sz : Nat} {e : TypeId} {g : Option (Bool × Bool)} {ob : List Prop} {t : Nat} {todo' : List DI} {c : List V} (h : pidx ttP n env todo = some ⟨es, m, sz, e, g, ob, some t, todo'⟩)
    (hc : cxOf g → 0 ≤ m ∧ es[m.toNat]? = some c ∧ c.length = sz) (hob : allP ob) (hk : G Tryz.prog n F Q todo' ((t, gD g (.ip e c 0)) :: env) st ids) : G Tryz.prog n F Q todo env st ids := g_index ttP_ok h hc hob hk
end

/-- A set of strings. -/
def setK (l : List Str) : List (V × V) := l.map fun s => (.str s, .bool true)
def setB (l : List Str) : Blk := .map (setK l)

theorem setK_keys (l : List Str) : ∀ p ∈ setK l, keyV .str p.1 = true := by
  intro p hp
  obtain ⟨s, _, rfl⟩ := List.mem_map.1 hp
  rfl
theorem beq_swap (s x : Str) : (s == x) = (x == s) := by
  rw [Bool.eq_iff_iff, beq_iff_eq, beq_iff_eq]; exact ⟨Eq.symm, Eq.symm⟩
theorem setK_find (l : List Str) (s : Str) : lookM (setK l) (.str s) = if hasS l s then some (.bool true) else none := by
  induction l with
  | nil => rfl
  | cons x r ih =>
    simp only [setK, List.map_cons, lookM, eqK, hasS] at ih ⊢
    rw [ih]
    by_cases h : x = s
    · subst h; simp
    · have h1 : (s == x) = false := by simpa using fun e => h e.symm
      have h2 : (x == s) = false := by simpa using h
      simp [h1, h2]
theorem setK_look (l : List Str) (s : Str) : lookD false (setK l) (.str s) (.bool false) = .imm (.bool (hasS l s)) := by
  simp only [lookD, setK_find]
  cases hasS l s <;> rfl
theorem setK_new (l : List Str) (s : Str) (h : hasS l s = false) : setM (setK l) (.str s) (.bool true) = setK (l ++ [s]) := by
  induction l with
  | nil => rfl
  | cons x r ih =>
    simp only [hasS, Bool.or_eq_false_iff] at h
    have h1 : (s == x) = false := by rw [beq_swap]; exact h.1
    simp only [setK, List.map_cons, setM, eqK, h1, List.cons_append] at ih ⊢
    simp [ih h.2]

theorem differGo_append : ∀ (a b p : List Str), differGo p (a ++ b) = (differGo p a && differGo (p ++ a) b)
  | [], b, p => by simp [differGo]
  | x :: r, b, p => by simp [differGo, differGo_append r b (p ++ [x]), Bool.and_assoc]


set_option maxRecDepth 100000 in
theorem tpats_yes : ∀ (t : Ty) (met : List Str), (patsTy t && differGo met (namesTy t)) = true → EffC Tryz.prog 72 [.imm (.agg (dTyc t)), .mapr 1] [(1, some (setB met))] (.ret unitV [(1, some (setB (met ++ namesTy t)))])
  | .mk s n x ps, met, hy => by
    refine effC_ok 0 rfl fun hok => ?_
    have hv : ps.length ≤ 9223372036854775807 := by
      simp [vOkL, vOk, dTyc, maxLen] at hok
      have := hok.1
      omega
    refine effc_of ttP_ok Tryz.func72 (by decide +kernel) rfl [2, 3, 4] rfl rfl ?_
    have J : ∀ m0 : List Str, (patsTys ps && differGo m0 (namesTys ps)) = true → m0 ++ namesTys ps = met ++ namesTy (.mk s n x ps) → DGo Tryz.prog Tryz.f72.ntmps (nms [(1, some (setB met))]) (RetQ ttP Tryz.f72.results.toList (.ret unitV [(1, some (setB (met ++ namesTy (.mk s n x ps))))]))
        [.code (tailC Tryz.f72 2)] [(1, .mapr 1), (2, .ref 2 0)] [(2, some (.immb 49 4 (dTyc (.mk s n x ps)))), (1, some (setB m0))] [3, 4] := by
      intro m0 hy he
      refine pd [] rfl (by simp) ?_
      refine dgo_enter (fun i : Nat => [(113, .imm (.int .i64 i)), (112, .imm (.int .i64 ps.length)), (111, .imm (.sl (dTys ps))), (1, .mapr 1), (2, .ref 2 0)]) (fun i => [(2, some (.immb 49 4 (dTyc (.mk s n x ps)))), (1, some (setB (m0 ++ namesTys (ps.take i))))]) [3, 4] (fun i => ps.length - i)
        (fun i => i ≤ ps.length ∧ (patsTys (ps.drop i) && differGo (m0 ++ namesTys (ps.take i)) (namesTys (ps.drop i))) = true) 0 ⟨Nat.zero_le _, by simpa [namesTys] using hy⟩ ⟨rfl, tInt (by simp), rfl, rfl, rfl, trivial⟩ ⟨rfl, by simp [namesTys]; rfl, trivial⟩ rfl fun i hi ih => ?_
      refine pd [] rfl (by simp) ?_
      have hi2 := hi.2
      refine dgo_cond rfl (fun h => ?_) (fun h => ?_)
      · simp at h
        obtain ⟨t, ht⟩ := has_get h
        have htk : namesTys (ps.take (i + 1)) = namesTys (ps.take i) ++ namesTy t := by rw [get_take ht, namesTys_append]; simp [namesTys]
        rw [get_drop ht] at hi2
        simp only [patsTys, namesTys, differGo_append] at hi2
        refine pd [] rfl (by simp) ?_
        refine pi rfl (c := dTyc t) (fun _ => ⟨by simp, by simpa using dTys_get ht, by simp⟩) (by simp) ?_
        refine pg [] rfl (by simp) ?_
        refine g_call (fr := []) [(1, 1)] [] rfl (by simp) (tpats_yes t (m0 ++ namesTys (ps.take i)) (by simp only [Bool.and_eq_true] at hi2 ⊢; exact ⟨hi2.1.1, hi2.2.1⟩)) ⟨⟨rfl, rfl, rfl⟩, trivial⟩ rfl rfl rfl rfl ?_
        refine pg [] rfl (by simp) ?_
        exact dgo_again (ih (i + 1) (by omega) ⟨by omega, by rw [htk, ← List.append_assoc]; simp only [Bool.and_eq_true] at hi2 ⊢; exact ⟨hi2.1.2, hi2.2.2⟩⟩) ⟨tInt (w64 (by omega) (by omega)), rfl, rfl, rfl, rfl, trivial⟩ ⟨rfl, by rw [htk, ← List.append_assoc]; rfl, trivial⟩ rfl
      · refine pd [] rfl (by simp) ?_
        simp at h
        refine dgo_end ⟨_, rfl, rfl, ⟨?_, trivial⟩⟩
        rw [List.take_of_length_le (by omega), he]
        rfl
    simp only [patsTy, Bool.and_eq_true] at hy
    obtain ⟨⟨hp, hps⟩, hdf⟩ := hy
    by_cases h1 : s = 1
    · subst h1
      simp [patB, inI] at hp
      refine pg [.a, .a] rfl (by simp [cxOf] <;> grind) ?_
      refine g_pcall rfl (fun _ => want_ok _ (by simp [integerB] at hp ⊢; grind)) (by simp) ?_
      refine pg [.s] rfl (by simp) ?_
      exact dgo_again (J met (by simpa [namesTy, hps] using hdf) (by simp [namesTy])) ⟨rfl, rfl, trivial⟩ ⟨rfl, rfl, trivial⟩ rfl
    by_cases h5 : s = 5
    · subst h5
      simp [patB, inI] at hp
      refine pg [.a, .a] rfl (by simp [cxOf] <;> grind) ?_
      refine g_pcall rfl (fun _ => want_ok _ (by simp [integerB] at hp ⊢; grind)) (by simp) ?_
      refine pg [.s] rfl (by simp) ?_
      exact dgo_again (J met (by simpa [namesTy, hps] using hdf) (by simp [namesTy])) ⟨rfl, rfl, trivial⟩ ⟨rfl, rfl, trivial⟩ rfl
    by_cases h3 : s = 3
    · subst h3
      simp [patB, inI] at hp
      refine pg [.a, .a, .a, .a] rfl (by simp [cxOf] <;> grind) ?_
      refine g_pcall rfl (fun _ => integer_ok n) (by simp [cxOf]) ?_
      refine pg [] rfl (by simp [cxOf]) ?_
      refine g_pcall rfl (fun _ => want_ok _ (by simp [integerB] at hp ⊢; grind)) (by simp) ?_
      refine pg [.s] rfl (by simp) ?_
      exact dgo_again (J met (by simpa [namesTy, hps] using hdf) (by simp [namesTy])) ⟨rfl, rfl, trivial⟩ ⟨rfl, rfl, trivial⟩ rfl
    by_cases h4 : s = 4
    · subst h4
      simp [patB, inI] at hp
      refine pg [.a, .a, .a, .a, .a] rfl (by simp [cxOf] <;> grind) ?_
      refine g_pcall rfl (fun _ => want_ok _ (by obtain ⟨⟨rfl, rfl⟩, ha, hb⟩ := hp; have : n = 0 ∨ n = 1 := (by omega); rcases this with rfl | rfl <;> simp)) (by simp) ?_
      refine pg [.s] rfl (by simp) ?_
      exact dgo_again (J met (by simpa [namesTy, hps] using hdf) (by simp [namesTy])) ⟨rfl, rfl, trivial⟩ ⟨rfl, rfl, trivial⟩ rfl
    by_cases h6 : s = 6
    · subst h6
      simp [patB, inI] at hp
      refine pg [.a, .a, .a, .a, .a, .a] rfl (by simp [cxOf] <;> grind) ?_
      refine g_pcall rfl (fun _ => tGreat_ok x) (by simp [cxOf]) ?_
      refine pg [] rfl (by simp [cxOf]) ?_
      refine g_pcall rfl (fun _ => want_ok _ (by simp [integerB] at hp ⊢; grind)) (by simp) ?_
      refine pg [.s] rfl (by simp) ?_
      exact dgo_again (J met (by simpa [namesTy, hps] using hdf) (by simp [namesTy])) ⟨rfl, rfl, trivial⟩ ⟨rfl, rfl, trivial⟩ rfl
    by_cases h2 : s = 2
    · subst h2
      simp [patB, inI] at hp
      refine pg [.a, .a, .a] rfl (by simp [cxOf] <;> grind) ?_
      refine g_pcall rfl (fun _ => tName_ok x) (by simp [cxOf]) ?_
      refine pg [] rfl (by simp [cxOf]) ?_
      have hx : hasS met x = false := by simpa [namesTy, differGo] using hdf
      refine g_mlook ttP_ok 1 rfl rfl rfl (setK_keys met) (by simp [cxOf]) (z := .bool false) rfl (fun _ => .bool _) (setK_look met x) ?_
      refine pg [] rfl (by simp [cxOf]) ?_
      refine g_pcall rfl (fun _ => want_ok _ (by simp at hp ⊢; rw [hx]; grind)) (by simp) ?_
      refine pg [] rfl (by simp) ?_
      refine g_mset ttP_ok rfl rfl rfl (setK_keys met) ?_
      rw [setK_new met x hx]
      have he : ps = [] := by simpa using hp.1.1
      subst he
      refine pg [.s] rfl (by simp) ?_
      exact dgo_again (J (met ++ [x]) (by simp [patsTys, namesTys, differGo]) (by simp [namesTy, namesTys])) ⟨rfl, rfl, trivial⟩ ⟨rfl, rfl, trivial⟩ rfl
    exfalso
    simp [patB, h1, h2, h3, h4, h5, h6] at hp
termination_by t => SizeOf.sizeOf t
decreasing_by
  all_goals
    have := List.sizeOf_lt_of_mem (List.mem_of_getElem? ht)
    simp_wf
    omega

set_option maxRecDepth 100000 in
theorem tpats_no : ∀ (t : Ty) (met : List Str), (patsTy t && differGo met (namesTy t)) = false → EffC Tryz.prog 72 [.imm (.agg (dTyc t)), .mapr 1] [(1, some (setB met))] (.pan flawV)
  | .mk s n x ps, met, hy => by
    refine effC_ok 0 rfl fun hok => ?_
    have hv : ps.length ≤ 9223372036854775807 := by
      simp [vOkL, vOk, dTyc, maxLen] at hok
      have := hok.1
      omega
    refine effc_of ttP_ok Tryz.func72 (by decide +kernel) rfl [2, 3, 4] rfl rfl ?_
    have J : ∀ m0 : List Str, (patsTys ps && differGo m0 (namesTys ps)) = false → DGo Tryz.prog Tryz.f72.ntmps (nms [(1, some (setB met))]) (RetQ ttP Tryz.f72.results.toList (.pan flawV))
        [.code (tailC Tryz.f72 2)] [(1, .mapr 1), (2, .ref 2 0)] [(2, some (.immb 49 4 (dTyc (.mk s n x ps)))), (1, some (setB m0))] [3, 4] := by
      intro m0 hy 
      refine pd [] rfl (by simp) ?_
      refine dgo_enter (fun i : Nat => [(113, .imm (.int .i64 i)), (112, .imm (.int .i64 ps.length)), (111, .imm (.sl (dTys ps))), (1, .mapr 1), (2, .ref 2 0)]) (fun i => [(2, some (.immb 49 4 (dTyc (.mk s n x ps)))), (1, some (setB (m0 ++ namesTys (ps.take i))))]) [3, 4] (fun i => ps.length - i)
        (fun i => i ≤ ps.length ∧ (patsTys (ps.drop i) && differGo (m0 ++ namesTys (ps.take i)) (namesTys (ps.drop i))) = false) 0 ⟨Nat.zero_le _, by simpa [namesTys] using hy⟩ ⟨rfl, tInt (by simp), rfl, rfl, rfl, trivial⟩ ⟨rfl, by simp [namesTys]; rfl, trivial⟩ rfl fun i hi ih => ?_
      refine pd [] rfl (by simp) ?_
      have hi2 := hi.2
      refine dgo_cond rfl (fun h => ?_) (fun h => ?_)
      · simp at h
        obtain ⟨t, ht⟩ := has_get h
        have htk : namesTys (ps.take (i + 1)) = namesTys (ps.take i) ++ namesTy t := by rw [get_take ht, namesTys_append]; simp [namesTys]
        rw [get_drop ht] at hi2
        simp only [patsTys, namesTys, differGo_append] at hi2
        refine pd [] rfl (by simp) ?_
        refine pi rfl (c := dTyc t) (fun _ => ⟨by simp, by simpa using dTys_get ht, by simp⟩) (by simp) ?_
        refine pg [] rfl (by simp) ?_
        by_cases hz : (patsTy t && differGo (m0 ++ namesTys (ps.take i)) (namesTy t)) = true
        · refine g_call (fr := []) [(1, 1)] [] rfl (by simp) (tpats_yes t (m0 ++ namesTys (ps.take i)) hz) ⟨⟨rfl, rfl, rfl⟩, trivial⟩ rfl rfl rfl rfl ?_
          refine pg [] rfl (by simp) ?_
          exact dgo_again (ih (i + 1) (by omega) ⟨by omega, by rw [htk, ← List.append_assoc]; simp only [Bool.and_eq_true] at hz; rw [hz.1, hz.2] at hi2; simpa using hi2⟩) ⟨tInt (w64 (by omega) (by omega)), rfl, rfl, rfl, rfl, trivial⟩ ⟨rfl, by rw [htk, ← List.append_assoc]; rfl, trivial⟩ rfl
        · exact dgo_callpan [(1, 1)] rfl (by simp) (tpats_no t (m0 ++ namesTys (ps.take i)) (by simpa using hz)) ⟨⟨rfl, rfl, rfl⟩, trivial⟩ rfl rfl
      · exfalso
        simp at h
        rw [List.drop_eq_nil_of_le (by omega)] at hi2
        simp [patsTys, namesTys, differGo] at hi2
    by_cases h1 : s = 1
    · subst h1
      refine pg [.a, .a] rfl (by simp [cxOf] <;> grind) ?_
      by_cases hp : patB 1 n x ps.length = true
      · have hps : (patsTys ps && differGo met (namesTys ps)) = false := by simpa [patsTy, hp, namesTy] using hy
        simp [patB, inI] at hp
        refine g_pcall rfl (fun _ => want_ok _ (by simp [integerB] at hp ⊢; grind)) (by simp) ?_
        refine pg [.s] rfl (by simp) ?_
        exact dgo_again (J met hps) ⟨rfl, rfl, trivial⟩ ⟨rfl, rfl, trivial⟩ rfl
      · simp [patB, inI] at hp
        exact dgo_callpan [] rfl (by simp) (want_pan _ (by simp [integerB] at hp ⊢; grind)) trivial rfl rfl
    by_cases h5 : s = 5
    · subst h5
      refine pg [.a, .a] rfl (by simp [cxOf] <;> grind) ?_
      by_cases hp : patB 5 n x ps.length = true
      · have hps : (patsTys ps && differGo met (namesTys ps)) = false := by simpa [patsTy, hp, namesTy] using hy
        simp [patB, inI] at hp
        refine g_pcall rfl (fun _ => want_ok _ (by simp [integerB] at hp ⊢; grind)) (by simp) ?_
        refine pg [.s] rfl (by simp) ?_
        exact dgo_again (J met hps) ⟨rfl, rfl, trivial⟩ ⟨rfl, rfl, trivial⟩ rfl
      · simp [patB, inI] at hp
        exact dgo_callpan [] rfl (by simp) (want_pan _ (by simp [integerB] at hp ⊢; grind)) trivial rfl rfl
    by_cases h3 : s = 3
    · subst h3
      refine pg [.a, .a, .a, .a] rfl (by simp [cxOf] <;> grind) ?_
      refine g_pcall rfl (fun _ => integer_ok n) (by simp [cxOf]) ?_
      refine pg [] rfl (by simp [cxOf]) ?_
      by_cases hp : patB 3 n x ps.length = true
      · have hps : (patsTys ps && differGo met (namesTys ps)) = false := by simpa [patsTy, hp, namesTy] using hy
        simp [patB, inI] at hp
        refine g_pcall rfl (fun _ => want_ok _ (by simp [integerB] at hp ⊢; grind)) (by simp) ?_
        refine pg [.s] rfl (by simp) ?_
        exact dgo_again (J met hps) ⟨rfl, rfl, trivial⟩ ⟨rfl, rfl, trivial⟩ rfl
      · simp [patB, inI] at hp
        exact dgo_callpan [] rfl (by simp) (want_pan _ (by simp [integerB] at hp ⊢; grind)) trivial rfl rfl
    by_cases h4 : s = 4
    · subst h4
      refine pg [.a, .a, .a, .a, .a] rfl (by simp [cxOf] <;> grind) ?_
      by_cases hp : patB 4 n x ps.length = true
      · have hps : (patsTys ps && differGo met (namesTys ps)) = false := by simpa [patsTy, hp, namesTy] using hy
        simp [patB, inI] at hp
        refine g_pcall rfl (fun _ => want_ok _ (by obtain ⟨⟨rfl, rfl⟩, ha, hb⟩ := hp; have : n = 0 ∨ n = 1 := (by omega); rcases this with rfl | rfl <;> simp)) (by simp) ?_
        refine pg [.s] rfl (by simp) ?_
        exact dgo_again (J met hps) ⟨rfl, rfl, trivial⟩ ⟨rfl, rfl, trivial⟩ rfl
      · simp [patB, inI] at hp
        exact dgo_callpan [] rfl (by simp) (want_pan _ (by simp [integerB] at hp ⊢; grind)) trivial rfl rfl
    by_cases h6 : s = 6
    · subst h6
      refine pg [.a, .a, .a, .a, .a, .a] rfl (by simp [cxOf] <;> grind) ?_
      refine g_pcall rfl (fun _ => tGreat_ok x) (by simp [cxOf]) ?_
      refine pg [] rfl (by simp [cxOf]) ?_
      by_cases hp : patB 6 n x ps.length = true
      · have hps : (patsTys ps && differGo met (namesTys ps)) = false := by simpa [patsTy, hp, namesTy] using hy
        simp [patB, inI] at hp
        refine g_pcall rfl (fun _ => want_ok _ (by simp [integerB] at hp ⊢; grind)) (by simp) ?_
        refine pg [.s] rfl (by simp) ?_
        exact dgo_again (J met hps) ⟨rfl, rfl, trivial⟩ ⟨rfl, rfl, trivial⟩ rfl
      · simp [patB, inI] at hp
        exact dgo_callpan [] rfl (by simp) (want_pan _ (by simp [integerB] at hp ⊢; grind)) trivial rfl rfl
    by_cases h2 : s = 2
    · subst h2
      refine pg [.a, .a, .a] rfl (by simp [cxOf] <;> grind) ?_
      refine g_pcall rfl (fun _ => tName_ok x) (by simp [cxOf]) ?_
      refine pg [] rfl (by simp [cxOf]) ?_
      refine g_mlook ttP_ok 1 rfl rfl rfl (setK_keys met) (by simp [cxOf]) (z := .bool false) rfl (fun _ => .bool _) (setK_look met x) ?_
      refine pg [] rfl (by simp [cxOf]) ?_
      refine dgo_callpan [] rfl (by simp) (want_pan _ ?_) trivial rfl rfl
      simp [patsTy, patB, namesTy, differGo] at hy
      cases hm : hasS met x with
      | true => simp
      | false =>
        simp only [hm] at hy
        by_cases hq : ps = []
        · subst hq; simp [patsTys] at hy ⊢; grind
        · simp [hq]
    refine pg [.f, .f, .f, .f, .f, .f] rfl (by simp [h1, h2, h3, h4, h5, h6]) ?_
    exact dgo_callpan [] rfl (by simp) (want_pan _ rfl) trivial rfl rfl
termination_by t => SizeOf.sizeOf t
decreasing_by
  all_goals
    have := List.sizeOf_lt_of_mem (List.mem_of_getElem? ht)
    simp_wf
    omega

def checkPatB (t : Ty) : Bool := decide (nodesTy t ≤ 12) && (patsTy t && differB (namesTy t))

set_option maxRecDepth 100000 in
theorem checkPat1_yes (t : Ty) (h : checkPatB t = true) : EffC Tryz.prog 70 [.ref 1 0] [(1, some (.immb 49 4 (dTyc t)))] (.ret unitV [(1, some (.immb 49 4 (dTyc t)))]) := by
  simp only [checkPatB, Bool.and_eq_true, decide_eq_true_eq] at h
  refine effc_of ttP_ok Tryz.func70 (by decide +kernel) rfl [2, 3, 4] rfl rfl ?_
  refine pg [] rfl (by simp) ?_
  refine g_call (fr := []) [(2, 1)] [] rfl (by simp) (gpat_yes t 12 (by omega) (by decide)) ⟨⟨rfl, rfl, rfl⟩, trivial⟩ rfl rfl rfl rfl ?_
  refine pg [] rfl (by simp) ?_
  refine g_mkmap rfl ?_
  refine pg [] rfl (by simp) ?_
  refine g_call (fr := []) [(3, 1)] [] rfl (by simp) (tpats_yes t [] (by simpa [differB] using h.2)) ⟨⟨rfl, rfl, rfl⟩, trivial⟩ rfl rfl rfl rfl ?_
  refine pg [] rfl (by simp) ?_
  exact dgo_end ⟨_, rfl, rfl, ⟨rfl, trivial⟩⟩

set_option maxRecDepth 100000 in
theorem checkPat1_no (t : Ty) (h : checkPatB t = false) : EffC Tryz.prog 70 [.ref 1 0] [(1, some (.immb 49 4 (dTyc t)))] (.pan flawV) := by
  refine effc_of ttP_ok Tryz.func70 (by decide +kernel) rfl [2, 3, 4] rfl rfl ?_
  refine pg [] rfl (by simp) ?_
  by_cases h1 : nodesTy t ≤ 12
  · refine g_call (fr := []) [(2, 1)] [] rfl (by simp) (gpat_yes t 12 (by omega) (by decide)) ⟨⟨rfl, rfl, rfl⟩, trivial⟩ rfl rfl rfl rfl ?_
    refine pg [] rfl (by simp) ?_
    refine g_mkmap rfl ?_
    refine pg [] rfl (by simp) ?_
    exact dgo_callpan [(3, 1)] rfl (by simp) (tpats_no t [] (by simpa [checkPatB, h1, differB] using h)) ⟨⟨rfl, rfl, rfl⟩, trivial⟩ rfl rfl
  · exact dgo_callpan [(2, 1)] rfl (by simp) (gpat_no t 12 (by omega) (by decide) (by decide)) ⟨⟨rfl, rfl, rfl⟩, trivial⟩ rfl rfl

set_option maxRecDepth 100000 in
theorem CheckPat_ok (t : Ty) : PureC Tryz.prog 31 [.agg (dTyc t)] (errI (checkPatB t)) := by
  refine effc_of ttP_ok Tryz.func31 (by decide +kernel) rfl [1, 2, 3] rfl rfl ?_
  refine pg [] rfl (by simp) ?_
  cases h : checkPatB t with
  | true =>
    refine g_call (fr := []) [(1, 1)] [] rfl (by simp) (checked1_yes Tryz.func70 (by decide +kernel) rfl (checkPat1_yes t h)) ⟨⟨rfl, rfl, rfl⟩, trivial⟩ rfl rfl rfl rfl ?_
    refine pg [] rfl (by simp) ?_
    exact dgo_ret ⟨_, rfl, tV rfl, trivial⟩
  | false =>
    refine g_call (fr := []) [(1, 1)] [] rfl (by simp) (checked1_no Tryz.func70 (by decide +kernel) rfl (checkPat1_no t h)) ⟨⟨rfl, rfl, rfl⟩, trivial⟩ rfl rfl rfl rfl ?_
    refine pg [] rfl (by simp) ?_
    exact dgo_ret ⟨_, rfl, tV rfl, trivial⟩

end Go.Hk

/- Contracts of term: what nodes have. -/
namespace Go.Hk
open Go.Proofs

def ttS : TT := ttP ++ [
  (176, ⟨.struct [(0, 4), (1, 4), (2, 4), (3, 3)], true, 4, 16, [.imm (.bool false), .imm (.bool false), .imm (.bool false), .imm (.int .i64 0)]⟩)]
theorem ttS_ok : TTok Tryz.prog ttS := .of_eq (l := [4, 3, 9, 26, 53, 49, 22, 24, 5, 51, 50, 29, 23, 47, 113, 66, 150, 63, 64, 111, 109, 30, 173, 101, 1, 79, 176]) (by kernel_rfl)

section
variable {n : Nat} {F : List Nat} {Q : DQ} {env env' : Env} {st st' : St} {ids ids' : List Nat} {k todo : List DI} {ob : List Prop}
theorem sd (path : List Pt) (h : run ttS n 300 path todo env st ids [] = .at k env' st' ids' ob) (hob : allP ob) (hd : G Tryz.prog n F Q k env' st' ids') : DGo Tryz.prog n F Q todo env st ids := d_run ttS_ok mixed 300 path h hob hd
theorem sg (path : List Pt) (h : run ttS n 300 path todo env st ids [] = .at k env' st' ids' ob) (hob : allP ob) (hd : G Tryz.prog n F Q k env' st' ids') : G Tryz.prog n F Q todo env st ids := g_run ttS_ok mixed 300 path h hob hd
theorem si {es : List (List V)} {m : Int} {sz : Nat} {e : TypeId} {g : Option (Bool × Bool)} {ob : List Prop} {t : Nat} {todo' : List DI} {c : List V} (h : pidx ttS n env todo = some ⟨es, m, sz, e, g, ob, some t, todo'⟩)
    (hc : cxOf g → 0 ≤ m ∧ es[m.toNat]? = some c ∧ c.length = sz) (hob : allP ob) (hk : G Tryz.prog n F Q todo' ((t, gD g (.ip e c 0)) :: env) st ids) : G Tryz.prog n F Q todo env st ids := g_index ttS_ok h hc hob hk
end

/-- What a node has: a number, a text, patterns, how many Kids; and whether there is such a node. -/
structure Has where
  n : Bool
  text : Bool
  pats : Bool
  kids : Int
  is : Bool

def shapeH (op : Int) (k p : Nat) : Has :=
  if op = 1 ∨ op = 2 then ⟨true, false, false, 0, true⟩
  else if op = 3 ∨ op = 21 ∨ op = 25 ∨ op = 28 then ⟨false, false, false, 0, true⟩
  else if op = 4 then ⟨false, true, false, 0, true⟩
  else if op = 5 ∨ op = 27 then ⟨false, true, false, 1, true⟩
  else if op = 7 then ⟨false, true, false, 2, true⟩
  else if op = 8 then ⟨false, false, false, 3, true⟩
  else if op = 14 then ⟨false, true, false, (if (3 : Int) < k then 3 else k), true⟩
  else if op = 15 then ⟨false, false, true, (IntKind.i64.wrap (1 + (p : Int))), true⟩
  else if op = 16 ∨ op = 17 ∨ op = 19 ∨ op = 20 ∨ op = 23 ∨ op = 26 then ⟨false, false, false, 1, true⟩
  else if op = 24 then ⟨true, false, false, 1, true⟩
  else if op = 6 ∨ op = 9 ∨ op = 10 ∨ op = 11 ∨ op = 12 ∨ op = 13 ∨ op = 18 ∨ op = 22 then ⟨false, false, false, 2, true⟩
  else ⟨false, false, false, 0, false⟩

def dHas (h : Has) : List V := [.bool h.n, .bool h.text, .bool h.pats, .int .i64 h.kids]

set_option maxRecDepth 100000 in
set_option maxHeartbeats 1000000 in
theorem shape_ok (op n : Int) (x : Str) (ks : List Tm) (ps : List Ty) : PureC Tryz.prog 130 [.agg (dTmc (.mk op n x ks ps))] (.tup [.agg (dHas (shapeH op ks.length ps.length)), .bool (shapeH op ks.length ps.length).is]) := by
  refine pureC_ok fun hv => ?_
  simp [vOkL, vOk, dTmc, maxLen] at hv
  refine effc_of ttS_ok Tryz.func130 (by decide +kernel) rfl [1, 2, 3] rfl rfl ?_
  by_cases h1 : op = 1
  · subst h1
    refine sg [.a, .a] rfl (by simp) ?_
    refine dgo_ret ⟨_, rfl, tV ?_, trivial⟩
    simp [shapeH, dHas]
  by_cases h2 : op = 2
  · subst h2
    refine sg [.a, .a] rfl (by simp) ?_
    refine dgo_ret ⟨_, rfl, tV ?_, trivial⟩
    simp [shapeH, dHas]
  by_cases h3 : op = 3
  · subst h3
    refine sg [.a, .a, .a, .a] rfl (by simp) ?_
    refine dgo_ret ⟨_, rfl, tV ?_, trivial⟩
    simp [shapeH, dHas]
  by_cases h21 : op = 21
  · subst h21
    refine sg [.a, .a, .a, .a, .a] rfl (by simp) ?_
    refine dgo_ret ⟨_, rfl, tV ?_, trivial⟩
    simp [shapeH, dHas]
  by_cases h25 : op = 25
  · subst h25
    refine sg [.a, .a, .a, .a, .a, .a] rfl (by simp) ?_
    refine dgo_ret ⟨_, rfl, tV ?_, trivial⟩
    simp [shapeH, dHas]
  by_cases h28 : op = 28
  · subst h28
    refine sg [.a, .a, .a, .a, .a, .a] rfl (by simp) ?_
    refine dgo_ret ⟨_, rfl, tV ?_, trivial⟩
    simp [shapeH, dHas]
  by_cases h4 : op = 4
  · subst h4
    refine sg [.a, .a, .a, .a, .a, .a, .a] rfl (by simp) ?_
    refine dgo_ret ⟨_, rfl, tV ?_, trivial⟩
    simp [shapeH, dHas]
  by_cases h5 : op = 5
  · subst h5
    refine sg [.a, .a, .a, .a, .a, .a, .a, .a, .a] rfl (by simp) ?_
    refine dgo_ret ⟨_, rfl, tV ?_, trivial⟩
    simp [shapeH, dHas]
  by_cases h27 : op = 27
  · subst h27
    refine sg [.a, .a, .a, .a, .a, .a, .a, .a, .a] rfl (by simp) ?_
    refine dgo_ret ⟨_, rfl, tV ?_, trivial⟩
    simp [shapeH, dHas]
  by_cases h7 : op = 7
  · subst h7
    refine sg [.a, .a, .a, .a, .a, .a, .a, .a, .a, .a] rfl (by simp) ?_
    refine dgo_ret ⟨_, rfl, tV ?_, trivial⟩
    simp [shapeH, dHas]
  by_cases h8 : op = 8
  · subst h8
    refine sg [.a, .a, .a, .a, .a, .a, .a, .a, .a, .a, .a] rfl (by simp) ?_
    refine dgo_ret ⟨_, rfl, tV ?_, trivial⟩
    simp [shapeH, dHas]
  by_cases h14 : op = 14
  · subst h14
    refine sg [.a, .a, .a, .a, .a, .a, .a, .a, .a, .a, .a, .a] rfl (by simp) ?_
    refine dgo_ret ⟨_, rfl, tV ?_, trivial⟩
    simp [shapeH, dHas]
  by_cases h15 : op = 15
  · subst h15
    refine sg [.a, .a, .a, .a, .a, .a, .a, .a, .a, .a, .a, .a, .a] rfl (by simp) ?_
    refine dgo_ret ⟨_, rfl, tV ?_, trivial⟩
    simp [shapeH, dHas]
  by_cases h16 : op = 16
  · subst h16
    refine sg [.a, .a, .a, .a, .a, .a, .a, .a, .a, .a, .a, .a, .a, .a, .a] rfl (by simp) ?_
    refine dgo_ret ⟨_, rfl, tV ?_, trivial⟩
    simp [shapeH, dHas]
  by_cases h17 : op = 17
  · subst h17
    refine sg [.a, .a, .a, .a, .a, .a, .a, .a, .a, .a, .a, .a, .a, .a, .a, .a] rfl (by simp) ?_
    refine dgo_ret ⟨_, rfl, tV ?_, trivial⟩
    simp [shapeH, dHas]
  by_cases h19 : op = 19
  · subst h19
    refine sg [.a, .a, .a, .a, .a, .a, .a, .a, .a, .a, .a, .a, .a, .a, .a, .a, .a] rfl (by simp) ?_
    refine dgo_ret ⟨_, rfl, tV ?_, trivial⟩
    simp [shapeH, dHas]
  by_cases h20 : op = 20
  · subst h20
    refine sg [.a, .a, .a, .a, .a, .a, .a, .a, .a, .a, .a, .a, .a, .a, .a, .a, .a, .a] rfl (by simp) ?_
    refine dgo_ret ⟨_, rfl, tV ?_, trivial⟩
    simp [shapeH, dHas]
  by_cases h23 : op = 23
  · subst h23
    refine sg [.a, .a, .a, .a, .a, .a, .a, .a, .a, .a, .a, .a, .a, .a, .a, .a, .a, .a, .a] rfl (by simp) ?_
    refine dgo_ret ⟨_, rfl, tV ?_, trivial⟩
    simp [shapeH, dHas]
  by_cases h26 : op = 26
  · subst h26
    refine sg [.a, .a, .a, .a, .a, .a, .a, .a, .a, .a, .a, .a, .a, .a, .a, .a, .a, .a, .a] rfl (by simp) ?_
    refine dgo_ret ⟨_, rfl, tV ?_, trivial⟩
    simp [shapeH, dHas]
  by_cases h24 : op = 24
  · subst h24
    refine sg [.a, .a, .a, .a, .a, .a, .a, .a, .a, .a, .a, .a, .a, .a, .a, .a, .a, .a, .a, .a] rfl (by simp) ?_
    refine dgo_ret ⟨_, rfl, tV ?_, trivial⟩
    simp [shapeH, dHas]
  by_cases h6 : op = 6
  · subst h6
    refine sg [.a, .a, .a, .a, .a, .a, .a, .a, .a, .a, .a, .a, .a, .a, .a, .a, .a, .a, .a, .a, .a, .a] rfl (by simp) ?_
    refine dgo_ret ⟨_, rfl, tV ?_, trivial⟩
    simp [shapeH, dHas]
  by_cases h9 : op = 9
  · subst h9
    refine sg [.a, .a, .a, .a, .a, .a, .a, .a, .a, .a, .a, .a, .a, .a, .a, .a, .a, .a, .a, .a, .a, .a, .a] rfl (by simp) ?_
    refine dgo_ret ⟨_, rfl, tV ?_, trivial⟩
    simp [shapeH, dHas]
  by_cases h10 : op = 10
  · subst h10
    refine sg [.a, .a, .a, .a, .a, .a, .a, .a, .a, .a, .a, .a, .a, .a, .a, .a, .a, .a, .a, .a, .a, .a, .a, .a] rfl (by simp) ?_
    refine dgo_ret ⟨_, rfl, tV ?_, trivial⟩
    simp [shapeH, dHas]
  by_cases h11 : op = 11
  · subst h11
    refine sg [.a, .a, .a, .a, .a, .a, .a, .a, .a, .a, .a, .a, .a, .a, .a, .a, .a, .a, .a, .a, .a, .a, .a, .a, .a] rfl (by simp) ?_
    refine dgo_ret ⟨_, rfl, tV ?_, trivial⟩
    simp [shapeH, dHas]
  by_cases h12 : op = 12
  · subst h12
    refine sg [.a, .a, .a, .a, .a, .a, .a, .a, .a, .a, .a, .a, .a, .a, .a, .a, .a, .a, .a, .a, .a, .a, .a, .a, .a, .a] rfl (by simp) ?_
    refine dgo_ret ⟨_, rfl, tV ?_, trivial⟩
    simp [shapeH, dHas]
  by_cases h13 : op = 13
  · subst h13
    refine sg [.a, .a, .a, .a, .a, .a, .a, .a, .a, .a, .a, .a, .a, .a, .a, .a, .a, .a, .a, .a, .a, .a, .a, .a, .a, .a, .a] rfl (by simp) ?_
    refine dgo_ret ⟨_, rfl, tV ?_, trivial⟩
    simp [shapeH, dHas]
  by_cases h18 : op = 18
  · subst h18
    refine sg [.a, .a, .a, .a, .a, .a, .a, .a, .a, .a, .a, .a, .a, .a, .a, .a, .a, .a, .a, .a, .a, .a, .a, .a, .a, .a, .a, .a] rfl (by simp) ?_
    refine dgo_ret ⟨_, rfl, tV ?_, trivial⟩
    simp [shapeH, dHas]
  by_cases h22 : op = 22
  · subst h22
    refine sg [.a, .a, .a, .a, .a, .a, .a, .a, .a, .a, .a, .a, .a, .a, .a, .a, .a, .a, .a, .a, .a, .a, .a, .a, .a, .a, .a, .a] rfl (by simp) ?_
    refine dgo_ret ⟨_, rfl, tV ?_, trivial⟩
    simp [shapeH, dHas]
  refine sg [.f, .f, .f, .f, .f, .f, .f, .f, .f, .f, .f, .f, .f, .f, .f, .f, .f, .f, .f, .f, .f, .f, .f, .f, .f, .f, .f, .f] rfl (by simp [h1, h2, h3, h21, h25, h28, h4, h5, h27, h7, h8, h14, h15, h16, h17, h19, h20, h23, h26, h24, h6, h9, h10, h11, h12, h13, h18, h22]) ?_
  refine dgo_ret ⟨_, rfl, tV ?_, trivial⟩
  simp [shapeH, dHas, h1, h2, h3, h21, h25, h28, h4, h5, h27, h7, h8, h14, h15, h16, h17, h19, h20, h23, h26, h24, h6, h9, h10, h11, h12, h13, h18, h22]

end Go.Hk

/- Contracts of term: nodes. -/
namespace Go.Hk
open Go.Proofs

def headB (op n : Int) (x : Str) (k p : Nat) : Bool := let h := shapeH op k p
  h.is && ((k : Int) == h.kids) && (h.n || n == 0) && (h.text || x == []) && (h.pats || (p : Int) == 0)
def lastB (op : Int) (x : Str) (k p : Nat) : Bool := !((shapeH op k p).text && op != 14) || nameS x


set_option maxRecDepth 100000 in
theorem tnode_last_yes (op n : Int) (x : Str) (ks : List Tm) (ps : List Ty) (hl : lastB op x ks.length ps.length = true) : DGo Tryz.prog Tryz.f102.ntmps (nms []) (RetQ ttS Tryz.f102.results.toList (.ret unitV []))
    [.code (tailC Tryz.f102 4)] [(1, .ref 1 0), (2, .ref 2 0)] [(2, some (.immb 176 4 (dHas (shapeH op ks.length ps.length)))), (1, some (.immb 26 5 (dTmc (.mk op n x ks ps))))] [3, 4] := by
  refine sd [] rfl (by simp [cxOf]) ?_
  refine dgo_cond rfl (fun h => ?_) (fun h => ?_)
  · refine sd [] rfl (by simp) ?_
    refine g_pcall rfl (fun _ => tName_ok x) (by simp [cxOf]) ?_
    refine sg [] rfl (by simp) ?_
    have hx : nameS x = true := by simp [lastB] at hl h; grind
    refine g_pcall rfl (fun _ => want_ok _ hx) (by simp) ?_
    refine sg [] rfl (by simp) ?_
    exact dgo_end ⟨_, rfl, rfl, trivial⟩
  · refine sd [] rfl (by simp) ?_
    exact dgo_end ⟨_, rfl, rfl, trivial⟩

set_option maxRecDepth 100000 in
theorem tnode_last_no (op n : Int) (x : Str) (ks : List Tm) (ps : List Ty) (hl : lastB op x ks.length ps.length = false) : DGo Tryz.prog Tryz.f102.ntmps (nms []) (RetQ ttS Tryz.f102.results.toList (.pan flawV))
    [.code (tailC Tryz.f102 4)] [(1, .ref 1 0), (2, .ref 2 0)] [(2, some (.immb 176 4 (dHas (shapeH op ks.length ps.length)))), (1, some (.immb 26 5 (dTmc (.mk op n x ks ps))))] [3, 4] := by
  refine sd [] rfl (by simp [cxOf]) ?_
  refine dgo_cond rfl (fun h => ?_) (fun h => ?_)
  · refine sd [] rfl (by simp) ?_
    refine g_pcall rfl (fun _ => tName_ok x) (by simp [cxOf]) ?_
    refine sg [] rfl (by simp) ?_
    have hx : nameS x = false := by simp [lastB] at hl h; grind
    exact dgo_callpan [] rfl (by simp) (want_pan _ hx) trivial rfl rfl
  · exfalso
    simp [lastB] at hl h
    grind

def extraB (op n : Int) (x : Str) (ps : List Ty) : Bool :=
  if op = 1 then integerB n
  else if op = 2 then n == 0 || n == 1
  else if op = 24 then decide (0 ≤ n) && decide (n < 4)
  else if op = 14 then greatS x
  else if op = 15 then decide (1 ≤ (ps.length : Int)) && decide ((ps.length : Int) ≤ 5) && ps.all checkPatB
  else true
def nodeT (op n : Int) (x : Str) (k : Nat) (ps : List Ty) : Bool := headB op n x k ps.length && extraB op n x ps && lastB op x k ps.length

set_option maxRecDepth 100000 in
theorem tnode_yes (op n : Int) (x : Str) (ks : List Tm) (ps : List Ty) (hy : nodeT op n x ks.length ps = true) : EffC Tryz.prog 102 [.imm (.agg (dTmc (.mk op n x ks ps)))] [] (.ret unitV []) := by
  simp only [nodeT] at hy
  refine effc_of ttS_ok Tryz.func102 (by decide +kernel) rfl [1, 2, 3, 4] rfl rfl ?_
  refine sg [] rfl (by simp) ?_
  refine g_pcall rfl (fun _ => shape_ok op n x ks ps) (by simp [cxOf]) ?_
  refine sg [] rfl (by simp [cxOf, dHas] <;> grind) ?_
  simp only [Bool.and_eq_true] at hy
  obtain ⟨⟨hh, he⟩, hl⟩ := hy
  refine g_pcall rfl (fun _ => want_ok _ (by simp [headB] at hh ⊢; grind)) (by simp) ?_
  by_cases h1 : op = 1
  · subst h1
    refine sg [.a] rfl (by simp [cxOf]) ?_
    refine g_pcall rfl (fun _ => integer_ok n) (by simp) ?_
    refine sg [] rfl (by simp) ?_
    simp [extraB] at he
    refine g_pcall rfl (fun _ => want_ok _ (by first | exact he | (simp at he ⊢; grind) | (simp; grind) | grind)) (by simp) ?_
    refine sg [.s] rfl (by simp) ?_
    exact dgo_again (tnode_last_yes _ n x ks ps hl) ⟨rfl, rfl, trivial⟩ ⟨rfl, rfl, trivial⟩ rfl
  by_cases h2 : op = 2
  · subst h2
    refine sg [.a, .a] rfl (by simp [cxOf]) ?_
    simp [extraB] at he
    refine g_pcall rfl (fun _ => want_ok _ (by first | exact he | (simp at he ⊢; grind) | (simp; grind) | grind)) (by simp) ?_
    refine sg [.s] rfl (by simp) ?_
    exact dgo_again (tnode_last_yes _ n x ks ps hl) ⟨rfl, rfl, trivial⟩ ⟨rfl, rfl, trivial⟩ rfl
  by_cases h24 : op = 24
  · subst h24
    refine sg [.a, .a, .a] rfl (by simp [cxOf]) ?_
    simp [extraB] at he
    refine g_pcall rfl (fun _ => want_ok _ (by first | exact he | (simp at he ⊢; grind) | (simp; grind) | grind)) (by simp) ?_
    refine sg [.s] rfl (by simp) ?_
    exact dgo_again (tnode_last_yes _ n x ks ps hl) ⟨rfl, rfl, trivial⟩ ⟨rfl, rfl, trivial⟩ rfl
  by_cases h14 : op = 14
  · subst h14
    refine sg [.a, .a, .a, .a] rfl (by simp [cxOf]) ?_
    refine g_pcall rfl (fun _ => tGreat_ok x) (by simp) ?_
    refine sg [] rfl (by simp) ?_
    simp [extraB] at he
    refine g_pcall rfl (fun _ => want_ok _ (by first | exact he | (simp at he ⊢; grind) | (simp; grind) | grind)) (by simp) ?_
    refine sg [.s] rfl (by simp) ?_
    exact dgo_again (tnode_last_yes _ n x ks ps hl) ⟨rfl, rfl, trivial⟩ ⟨rfl, rfl, trivial⟩ rfl
  by_cases h15 : op = 15
  · subst h15
    refine sg [.a, .a, .a, .a, .a] rfl (by simp [cxOf]) ?_
    simp [extraB] at he
    refine g_pcall rfl (fun _ => want_ok _ (by simp; grind)) (by simp) ?_
    refine sg [] rfl (by simp) ?_
    refine dgo_enter (fun i : Nat => [(101, .imm (.int .i64 i)), (100, .imm (.int .i64 ps.length)), (99, .imm (.sl (dTys ps))), (1, .ref 1 0), (2, .ref 2 0)]) (fun _ => [(2, some (.immb 176 4 (dHas (shapeH 15 ks.length ps.length)))), (1, some (.immb 26 5 (dTmc (.mk 15 n x ks ps))))]) [3, 4] (fun i => ps.length - i)
      (fun i => i ≤ ps.length ∧ (ps.drop i).all checkPatB = true) 0 ⟨Nat.zero_le _, by simpa using he.2⟩ ⟨rfl, tInt (by simp), rfl, rfl, rfl, trivial⟩ ⟨rfl, rfl, trivial⟩ rfl fun i hi ih => ?_
    refine sd [] rfl (by simp) ?_
    have hi2 := hi.2
    refine dgo_cond rfl (fun h => ?_) (fun h => ?_)
    · simp at h
      obtain ⟨t, ht⟩ := has_get h
      rw [get_drop ht, List.all_cons] at hi2
      refine sd [] rfl (by simp) ?_
      refine si rfl (c := dTyc t) (fun _ => ⟨by simp, by simpa using dTys_get ht, by simp⟩) (by simp) ?_
      refine sg [] rfl (by simp) ?_
      refine g_pcall rfl (fun _ => CheckPat_ok t) (by simp) ?_
      refine sg [] rfl (by simp) ?_
      simp only [Bool.and_eq_true] at hi2
      have hz := hi2.1
      refine g_pcall rfl (fun _ => want_ok _ (by first | rfl | (rw [hz]; rfl))) (by simp) ?_
      refine sg [] rfl (by simp) ?_
      exact dgo_again (ih (i + 1) (by omega) ⟨by omega, hi2.2⟩) ⟨tInt (w64 (by omega) (by omega)), rfl, rfl, rfl, rfl, trivial⟩ ⟨rfl, rfl, trivial⟩ rfl
    · simp at h
      rw [List.drop_eq_nil_of_le (by omega)] at hi2
      refine sd [.s] rfl (by simp) ?_
      exact dgo_again (tnode_last_yes _ n x ks ps hl) ⟨rfl, rfl, trivial⟩ ⟨rfl, rfl, trivial⟩ rfl
  refine sg [.f, .f, .f, .f, .f, .s] rfl (by simp [h1, h2, h24, h14, h15]) ?_
  exact dgo_again (tnode_last_yes _ n x ks ps hl) ⟨rfl, rfl, trivial⟩ ⟨rfl, rfl, trivial⟩ rfl

set_option maxRecDepth 100000 in
theorem tnode_no (op n : Int) (x : Str) (ks : List Tm) (ps : List Ty) (hy : nodeT op n x ks.length ps = false) : EffC Tryz.prog 102 [.imm (.agg (dTmc (.mk op n x ks ps)))] [] (.pan flawV) := by
  simp only [nodeT] at hy
  refine effc_of ttS_ok Tryz.func102 (by decide +kernel) rfl [1, 2, 3, 4] rfl rfl ?_
  refine sg [] rfl (by simp) ?_
  refine g_pcall rfl (fun _ => shape_ok op n x ks ps) (by simp [cxOf]) ?_
  refine sg [] rfl (by simp [cxOf, dHas] <;> grind) ?_
  by_cases hh : headB op n x ks.length ps.length = true
  rotate_left
  · exact dgo_callpan [] rfl (by simp) (want_pan _ (by simp [headB] at hh ⊢; grind)) trivial rfl rfl
  rw [hh] at hy
  refine g_pcall rfl (fun _ => want_ok _ (by simp [headB] at hh ⊢; grind)) (by simp) ?_
  by_cases h1 : op = 1
  · subst h1
    refine sg [.a] rfl (by simp [cxOf]) ?_
    refine g_pcall rfl (fun _ => integer_ok n) (by simp) ?_
    refine sg [] rfl (by simp) ?_
    by_cases he : extraB 1 n x ps = true
    · have hl : lastB 1 x ks.length ps.length = false := by simpa [he] using hy
      simp [extraB] at he
      refine g_pcall rfl (fun _ => want_ok _ (by first | exact he | (simp at he ⊢; grind) | (simp; grind) | grind)) (by simp) ?_
      refine sg [.s] rfl (by simp) ?_
      exact dgo_again (tnode_last_no _ n x ks ps hl) ⟨rfl, rfl, trivial⟩ ⟨rfl, rfl, trivial⟩ rfl
    · simp [extraB] at he
      exact dgo_callpan [] rfl (by simp) (want_pan _ (by first | exact he | (simp at he ⊢; grind) | (simp; grind) | grind)) trivial rfl rfl
  by_cases h2 : op = 2
  · subst h2
    refine sg [.a, .a] rfl (by simp [cxOf]) ?_
    by_cases he : extraB 2 n x ps = true
    · have hl : lastB 2 x ks.length ps.length = false := by simpa [he] using hy
      simp [extraB] at he
      refine g_pcall rfl (fun _ => want_ok _ (by first | exact he | (simp at he ⊢; grind) | (simp; grind) | grind)) (by simp) ?_
      refine sg [.s] rfl (by simp) ?_
      exact dgo_again (tnode_last_no _ n x ks ps hl) ⟨rfl, rfl, trivial⟩ ⟨rfl, rfl, trivial⟩ rfl
    · simp [extraB] at he
      exact dgo_callpan [] rfl (by simp) (want_pan _ (by first | exact he | (simp at he ⊢; grind) | (simp; grind) | grind)) trivial rfl rfl
  by_cases h24 : op = 24
  · subst h24
    refine sg [.a, .a, .a] rfl (by simp [cxOf]) ?_
    by_cases he : extraB 24 n x ps = true
    · have hl : lastB 24 x ks.length ps.length = false := by simpa [he] using hy
      simp [extraB] at he
      refine g_pcall rfl (fun _ => want_ok _ (by first | exact he | (simp at he ⊢; grind) | (simp; grind) | grind)) (by simp) ?_
      refine sg [.s] rfl (by simp) ?_
      exact dgo_again (tnode_last_no _ n x ks ps hl) ⟨rfl, rfl, trivial⟩ ⟨rfl, rfl, trivial⟩ rfl
    · simp [extraB] at he
      exact dgo_callpan [] rfl (by simp) (want_pan _ (by first | exact he | (simp at he ⊢; grind) | (simp; grind) | grind)) trivial rfl rfl
  by_cases h14 : op = 14
  · subst h14
    refine sg [.a, .a, .a, .a] rfl (by simp [cxOf]) ?_
    refine g_pcall rfl (fun _ => tGreat_ok x) (by simp) ?_
    refine sg [] rfl (by simp) ?_
    by_cases he : extraB 14 n x ps = true
    · have hl : lastB 14 x ks.length ps.length = false := by simpa [he] using hy
      simp [extraB] at he
      refine g_pcall rfl (fun _ => want_ok _ (by first | exact he | (simp at he ⊢; grind) | (simp; grind) | grind)) (by simp) ?_
      refine sg [.s] rfl (by simp) ?_
      exact dgo_again (tnode_last_no _ n x ks ps hl) ⟨rfl, rfl, trivial⟩ ⟨rfl, rfl, trivial⟩ rfl
    · simp [extraB] at he
      exact dgo_callpan [] rfl (by simp) (want_pan _ (by first | exact he | (simp at he ⊢; grind) | (simp; grind) | grind)) trivial rfl rfl
  by_cases h15 : op = 15
  · subst h15
    refine sg [.a, .a, .a, .a, .a] rfl (by simp [cxOf]) ?_
    by_cases he : (decide (1 ≤ (ps.length : Int)) && decide ((ps.length : Int) ≤ 5)) = true
    rotate_left
    · exact dgo_callpan [] rfl (by simp) (want_pan _ (by simp at he ⊢; grind)) trivial rfl rfl
    have he5 : ps.length ≤ 5 := by simp at he; omega
    have hy : ps.all checkPatB = false ∨ lastB 15 x ks.length ps.length = false := by
      have e : extraB 15 n x ps = ((decide (1 ≤ (ps.length : Int)) && decide ((ps.length : Int) ≤ 5)) && ps.all checkPatB) := by simp only [extraB]; rfl
      rw [e, he] at hy
      simpa only [Bool.true_and, Bool.and_eq_false_iff] using hy
    refine g_pcall rfl (fun _ => want_ok _ (by simp at he ⊢; grind)) (by simp) ?_
    refine sg [] rfl (by simp) ?_
    refine dgo_enter (fun i : Nat => [(101, .imm (.int .i64 i)), (100, .imm (.int .i64 ps.length)), (99, .imm (.sl (dTys ps))), (1, .ref 1 0), (2, .ref 2 0)]) (fun _ => [(2, some (.immb 176 4 (dHas (shapeH 15 ks.length ps.length)))), (1, some (.immb 26 5 (dTmc (.mk 15 n x ks ps))))]) [3, 4] (fun i => ps.length - i)
      (fun i => i ≤ ps.length ∧ ((ps.drop i).all checkPatB = false ∨ lastB 15 x ks.length ps.length = false)) 0 ⟨Nat.zero_le _, hy⟩ ⟨rfl, tInt (by simp), rfl, rfl, rfl, trivial⟩ ⟨rfl, rfl, trivial⟩ rfl fun i hi ih => ?_
    refine sd [] rfl (by simp) ?_
    have hi2 := hi.2
    refine dgo_cond rfl (fun h => ?_) (fun h => ?_)
    · simp at h
      obtain ⟨t, ht⟩ := has_get h
      rw [get_drop ht, List.all_cons] at hi2
      refine sd [] rfl (by simp) ?_
      refine si rfl (c := dTyc t) (fun _ => ⟨by simp, by simpa using dTys_get ht, by simp⟩) (by simp) ?_
      refine sg [] rfl (by simp) ?_
      refine g_pcall rfl (fun _ => CheckPat_ok t) (by simp) ?_
      refine sg [] rfl (by simp) ?_
      cases hz : checkPatB t with
      | true =>
        rw [hz, Bool.true_and] at hi2
        refine g_pcall rfl (fun _ => want_ok _ (by first | rfl | (rw [hz]; rfl))) (by simp) ?_
        refine sg [] rfl (by simp) ?_
        exact dgo_again (ih (i + 1) (by omega) ⟨by omega, hi2⟩) ⟨tInt (w64 (by omega) (by omega)), rfl, rfl, rfl, rfl, trivial⟩ ⟨rfl, rfl, trivial⟩ rfl
      | false => exact dgo_callpan [] rfl (by simp) (want_pan _ (by first | rfl | (rw [hz]; rfl))) trivial rfl rfl
    · simp at h
      rw [List.drop_eq_nil_of_le (by omega)] at hi2
      refine sd [.s] rfl (by simp) ?_
      exact dgo_again (tnode_last_no _ n x ks ps (by simpa using hi2)) ⟨rfl, rfl, trivial⟩ ⟨rfl, rfl, trivial⟩ rfl
  refine sg [.f, .f, .f, .f, .f, .s] rfl (by simp [h1, h2, h24, h14, h15]) ?_
  exact dgo_again (tnode_last_no _ n x ks ps (by simpa [extraB, h1, h2, h24, h14, h15] using hy)) ⟨rfl, rfl, trivial⟩ ⟨rfl, rfl, trivial⟩ rfl

end Go.Hk

/- Contracts of term: terms that are formed. -/
namespace Go.Hk
open Go.Proofs

mutual
def nodesTT : Tm → Bool
  | .mk op n x ks ps => nodeT op n x ks.length ps && nodesTTs ks
def nodesTTs : List Tm → Bool
  | [] => true
  | t :: r => nodesTT t && nodesTTs r
end


set_option maxRecDepth 100000 in
theorem tnodes_yes : ∀ (t : Tm), nodesTT t = true → EffC Tryz.prog 69 [.imm (.agg (dTmc t))] [] (.ret unitV [])
  | .mk op n x ks ps, hy => by
    refine effC_ok 0 rfl fun hok => ?_
    have hv : ks.length ≤ 9223372036854775807 := by
      simp [vOkL, vOk, dTmc, maxLen] at hok
      have := hok.1
      omega
    simp only [nodesTT, Bool.and_eq_true_iff] at hy
    refine effc_of ttS_ok Tryz.func69 (by decide +kernel) rfl [1, 2, 3] rfl rfl ?_
    refine sg [] rfl (by simp) ?_
    refine g_call (fr := []) [] [] rfl (by simp) (tnode_yes op n x ks ps hy.1) trivial rfl rfl rfl rfl ?_
    refine sg [] rfl (by simp) ?_
    refine dgo_enter (fun i : Nat => [(9, .imm (.int .i64 i)), (8, .imm (.int .i64 ks.length)), (7, .imm (.sl (dTms ks))), (1, .ref 1 0)]) (fun _ => [(1, some (.immb 26 5 (dTmc (.mk op n x ks ps))))]) [2, 3] (fun i => ks.length - i)
      (fun i => i ≤ ks.length ∧ nodesTTs (ks.drop i) = true) 0 ⟨Nat.zero_le _, hy.2⟩ ⟨rfl, tInt (by simp), rfl, rfl, trivial⟩ ⟨rfl, trivial⟩ rfl fun i hi ih => ?_
    refine sd [] rfl (by simp) ?_
    have hi2 := hi.2
    refine dgo_cond rfl (fun h => ?_) (fun h => ?_)
    · simp at h
      obtain ⟨t, ht⟩ := has_get h
      rw [get_drop ht] at hi2
      simp only [nodesTTs, Bool.and_eq_true_iff] at hi2
      refine sd [] rfl (by simp) ?_
      refine si rfl (c := dTmc t) (fun _ => ⟨by simp, by simpa using dTms_get ht, by simp⟩) (by simp) ?_
      refine sg [] rfl (by simp) ?_
      · refine g_call (fr := []) [] [] rfl (by simp) (tnodes_yes t hi2.1) trivial rfl rfl rfl rfl ?_
        refine sg [] rfl (by simp) ?_
        exact dgo_again (ih (i + 1) (by omega) ⟨by omega, hi2.2⟩) ⟨tInt (w64 (by omega) (by omega)), rfl, rfl, rfl, trivial⟩ ⟨rfl, trivial⟩ rfl
    · refine sd [] rfl (by simp) ?_
      exact dgo_end ⟨_, rfl, rfl, trivial⟩
termination_by t => SizeOf.sizeOf t
decreasing_by
  all_goals
    have := List.sizeOf_lt_of_mem (List.mem_of_getElem? ht)
    simp_wf
    omega

set_option maxRecDepth 100000 in
theorem tnodes_no : ∀ (t : Tm), nodesTT t = false → EffC Tryz.prog 69 [.imm (.agg (dTmc t))] [] (.pan flawV)
  | .mk op n x ks ps, hy => by
    refine effC_ok 0 rfl fun hok => ?_
    have hv : ks.length ≤ 9223372036854775807 := by
      simp [vOkL, vOk, dTmc, maxLen] at hok
      have := hok.1
      omega
    simp only [nodesTT, Bool.and_eq_false_iff] at hy
    refine effc_of ttS_ok Tryz.func69 (by decide +kernel) rfl [1, 2, 3] rfl rfl ?_
    refine sg [] rfl (by simp) ?_
    by_cases hn : nodeT op n x ks.length ps = true
    rotate_left
    · exact dgo_callpan [] rfl (by simp) (tnode_no op n x ks ps (by simpa using hn)) trivial rfl rfl
    rw [hn] at hy
    simp only [Bool.true_eq_false, false_or] at hy
    refine g_call (fr := []) [] [] rfl (by simp) (tnode_yes op n x ks ps hn) trivial rfl rfl rfl rfl ?_
    refine sg [] rfl (by simp) ?_
    refine dgo_enter (fun i : Nat => [(9, .imm (.int .i64 i)), (8, .imm (.int .i64 ks.length)), (7, .imm (.sl (dTms ks))), (1, .ref 1 0)]) (fun _ => [(1, some (.immb 26 5 (dTmc (.mk op n x ks ps))))]) [2, 3] (fun i => ks.length - i)
      (fun i => i ≤ ks.length ∧ nodesTTs (ks.drop i) = false) 0 ⟨Nat.zero_le _, hy⟩ ⟨rfl, tInt (by simp), rfl, rfl, trivial⟩ ⟨rfl, trivial⟩ rfl fun i hi ih => ?_
    refine sd [] rfl (by simp) ?_
    have hi2 := hi.2
    refine dgo_cond rfl (fun h => ?_) (fun h => ?_)
    · simp at h
      obtain ⟨t, ht⟩ := has_get h
      rw [get_drop ht] at hi2
      simp only [nodesTTs, Bool.and_eq_false_iff] at hi2
      refine sd [] rfl (by simp) ?_
      refine si rfl (c := dTmc t) (fun _ => ⟨by simp, by simpa using dTms_get ht, by simp⟩) (by simp) ?_
      refine sg [] rfl (by simp) ?_
      by_cases hz : nodesTT t = true
      · refine g_call (fr := []) [] [] rfl (by simp) (tnodes_yes t hz) trivial rfl rfl rfl rfl ?_
        refine sg [] rfl (by simp) ?_
        exact dgo_again (ih (i + 1) (by omega) ⟨by omega, by rw [hz] at hi2; simpa using hi2⟩) ⟨tInt (w64 (by omega) (by omega)), rfl, rfl, rfl, trivial⟩ ⟨rfl, trivial⟩ rfl
      · exact dgo_callpan [] rfl (by simp) (tnodes_no t (by simpa using hz)) trivial rfl rfl
    · exfalso
      simp at h
      rw [List.drop_eq_nil_of_le (by omega)] at hi2
      simp [nodesTTs] at hi2
termination_by t => SizeOf.sizeOf t
decreasing_by
  all_goals
    have := List.sizeOf_lt_of_mem (List.mem_of_getElem? ht)
    simp_wf
    omega

def checkB (t : Tm) : Bool := decide (0 ≤ weighTm t 60 14) && nodesTT t

set_option maxRecDepth 100000 in
theorem check1_yes (t : Tm) (h : checkB t = true) : EffC Tryz.prog 67 [.ref 1 0] [(1, some (.immb 26 5 (dTmc t)))] (.ret unitV [(1, some (.immb 26 5 (dTmc t)))]) := by
  simp only [checkB, Bool.and_eq_true, decide_eq_true_eq] at h
  refine effc_of ttS_ok Tryz.func67 (by decide +kernel) rfl [2, 3, 4] rfl rfl ?_
  refine sg [] rfl (by simp) ?_
  refine g_call (fr := []) [(2, 1)] [] rfl (by simp) (gterm_yes t 60 14 1 (by decide) (by decide) (by decide) (by decide) (by decide) (by decide) h.1) ⟨⟨rfl, rfl, rfl⟩, trivial⟩ rfl rfl rfl rfl ?_
  refine sg [] rfl (by simp) ?_
  refine g_call (fr := []) [] [] rfl (by simp) (tnodes_yes t h.2) trivial rfl rfl rfl rfl ?_
  refine sg [] rfl (by simp) ?_
  exact dgo_end ⟨_, rfl, rfl, ⟨rfl, trivial⟩⟩

set_option maxRecDepth 100000 in
theorem check1_no (t : Tm) (h : checkB t = false) : EffC Tryz.prog 67 [.ref 1 0] [(1, some (.immb 26 5 (dTmc t)))] (.pan flawV) := by
  refine effc_of ttS_ok Tryz.func67 (by decide +kernel) rfl [2, 3, 4] rfl rfl ?_
  refine sg [] rfl (by simp) ?_
  by_cases h1 : 0 ≤ weighTm t 60 14
  · refine g_call (fr := []) [(2, 1)] [] rfl (by simp) (gterm_yes t 60 14 1 (by decide) (by decide) (by decide) (by decide) (by decide) (by decide) h1) ⟨⟨rfl, rfl, rfl⟩, trivial⟩ rfl rfl rfl rfl ?_
    refine sg [] rfl (by simp) ?_
    exact dgo_callpan [] rfl (by simp) (tnodes_no t (by simpa [checkB, h1] using h)) trivial rfl rfl
  · exact dgo_callpan [(2, 1)] rfl (by simp) (gterm_no t 60 14 1 (by decide) (by decide) (by decide) (by decide) (by decide) (by decide) (by show weighTm t 60 14 < 0; omega)) ⟨⟨rfl, rfl, rfl⟩, trivial⟩ rfl rfl

set_option maxRecDepth 100000 in
theorem Check_ok (t : Tm) : PureC Tryz.prog 30 [.agg (dTmc t)] (errI (checkB t)) := by
  refine effc_of ttS_ok Tryz.func30 (by decide +kernel) rfl [1, 2, 3] rfl rfl ?_
  refine sg [] rfl (by simp) ?_
  cases h : checkB t with
  | true =>
    refine g_call (fr := []) [(1, 1)] [] rfl (by simp) (checked1_yes Tryz.func67 (by decide +kernel) rfl (check1_yes t h)) ⟨⟨rfl, rfl, rfl⟩, trivial⟩ rfl rfl rfl rfl ?_
    refine sg [] rfl (by simp) ?_
    exact dgo_ret ⟨_, rfl, tV rfl, trivial⟩
  | false =>
    refine g_call (fr := []) [(1, 1)] [] rfl (by simp) (checked1_no Tryz.func67 (by decide +kernel) rfl (check1_no t h)) ⟨⟨rfl, rfl, rfl⟩, trivial⟩ rfl rfl rfl rfl ?_
    refine sg [] rfl (by simp) ?_
    exact dgo_ret ⟨_, rfl, tV rfl, trivial⟩

end Go.Hk

/- Contracts of term and of slices: whether something is so for all elements of a list. -/
namespace Go.Hk
open Go.Proofs

def ttA : TT := ttS ++ [
  (121, ⟨.iface, false, 1, 16, [.imm .niliface]⟩),
  (114, ⟨.sl 121, false, 1, 24, [.nils]⟩),
  (116, ⟨.struct [(0, 111)], true, 2, 40, [.imm (.str []), .nils]⟩),
  (118, ⟨.struct [(0, 113)], true, 15, 224, [.imm (.str []), .imm (.str []), .imm (.int .i64 0), .imm (.int .i64 0), .imm (.str []), .nils, .imm (.int .i64 0), .imm (.int .i64 0), .imm (.str []), .nils, .imm (.int .i64 0), .imm (.int .i64 0), .imm (.str []), .nils, .nils]⟩),
  (55, ⟨.func, false, 1, 8, [.imm .nilfn]⟩),
  (153, ⟨.func, false, 1, 8, [.imm .nilfn]⟩),
  (122, ⟨.func, false, 1, 8, [.imm .nilfn]⟩)]
theorem ttA_ok : TTok Tryz.prog ttA := .of_eq (l := [4, 3, 9, 26, 53, 49, 22, 24, 5, 51, 50, 29, 23, 47, 113, 66, 150, 63, 64, 111, 109, 30, 173, 101, 1, 79, 176, 121, 114, 116, 118, 55, 153, 122]) (by kernel_rfl)

section
variable {n : Nat} {F : List Nat} {Q : DQ} {env env' : Env} {st st' : St} {ids ids' : List Nat} {k todo : List DI} {ob : List Prop}
theorem ad (path : List Pt) (h : run ttA n 300 path todo env st ids [] = .at k env' st' ids' ob) (hob : allP ob) (hd : G Tryz.prog n F Q k env' st' ids') : DGo Tryz.prog n F Q todo env st ids := d_run ttA_ok mixed 300 path h hob hd
end
end Go.Hk

/- A value of an interface is asked for its type. -/
namespace Go.Hk

section
variable {P : Program} {n : Nat} {F : List Nat} {Q : DQ} {tt : TT} {env env' : Env} {st st' : St} {ids ids' : List Nat} {k todo todo' : List DI} {I : Imm} {μ : Mu} {w : World} {a : Act} {Pn : V → Prop} {d : D} {cx : Prop} {ob : List Prop}

end
end Go.Hk

/- Contracts of term: modules that are formed. -/
namespace Go.Hk
open Go.Proofs


/-! ### Parts -/
def partD (d : Dt) : V := .iface 116 (.agg (dDtc d))
def partF (f : Fd) : V := .iface 118 (.agg (dFdc f))

inductive Pt2 where
  | d (x : Dt)
  | f (x : Fd)
def dPt : Pt2 → V
  | .d x => partD x
  | .f x => partF x

/-! ### Modules -/
def rowP (l : List Pt2) : List (List V) := l.map fun p => [dPt p]
@[simp] theorem rowP_length (l : List Pt2) : (rowP l).length = l.length := by simp [rowP]

def envP (b : Bool) (k : Nat) : D := match b with
  | false => .nils
  | true => .own 2 k
end Go.Hk

/- Ranges over functions in the D-logic: calls of yield by contract; what rounds own is known as a whole (bundles). -/
namespace Go.Hk

/-- What a run does, under names that stay. -/
def EffW (P : Program) (I : Imm) (μ : Mu) (st : St) (w : World) (d : D) (st' : St) (r : Result Next) : Prop :=
  valX P r (fun u w' => ∃ I' μ', RepD I' μ' u d ∧ StRep I' μ' st' [] w' ∧ Pin (nms st) μ μ' ∧ Ext I μ st w I' μ' st' w') (fun _ _ => False)

def yst (j : Nat) (S : Bun) : St := [(0, some .pin), (j, some (.bun 0 S))]

/-- What a call of a loop's yield does. -/
def EffY (P : Program) (ds : List D) (S : Bun) (r : Bool) (S' : Bun) : Prop :=
  ∀ I μ w b (xs : Array Value), μ 0 = some (.func (.yield b) #[] #[]) → StRep I μ (yst 1 S) [] w → RepL I μ xs.toList ds → EffW P I μ (yst 1 S) w (.imm (.bool r)) (yst 2 S') ((Instr.yield b xs).run P w)

section
variable {P : Program} {n : Nat} {F : List Nat} {Q : DQ} {tt : TT} {env E : Env} {st st0 st1 : St} {ids ids' : List Nat} {k todo todo' : List DI} {I : Imm} {μ : Mu} {w : World} {Pn : V → Prop} {d : D} {das : List D} {f : FuncId}

end
end Go.Hk

/- Ranges over functions in the D-logic: what a round does, out of a walk through the loop's body; the loop, by the contract of its function. -/
namespace Go.Hk

section
variable {P : Program} {n : Nat} {F : List Nat} {Q : DQ} {tt : TT} {env E : Env} {st st0 st1 : St} {ids ids' : List Nat} {k todo todo' : List DI} {I : Imm} {μ : Mu} {w : World} {Pn : V → Prop} {d : D} {das : List D} {f : FuncId}

end
end Go.Hk

/- A block behind a pointer that nobody writes any more; what a function does that ranges (iterators). -/
namespace Go.Hk

section
variable {P : Program} {n : Nat} {F : List Nat} {Q : DQ} {tt : TT} {env : Env} {st : St} {ids : List Nat} {todo : List DI}

/-- The calls of yield of an iterator. 'r': whether the last one has said that it goes on. -/
inductive Yields (P : Program) : List D → Bun → Bool → Bun → Prop where
  | nil (S : Bun) : Yields P [] S true S
  | cons {d : D} {l : List D} {S S1 S2 : Bun} {r : Bool} (h : EffY P [d] S true S1) (h1 : Yields P l S1 r S2) : Yields P (d :: l) S r S2
  | stop {d : D} {l : List D} {S S1 : Bun} (h : EffY P [d] S false S1) : Yields P (d :: l) S false S1

theorem Yields.split {l m : List D} {S S2 : Bun} {r : Bool} (h : Yields P (l ++ m) S r S2) : (∃ S1, Yields P l S true S1 ∧ Yields P m S1 r S2) ∨ (r = false ∧ Yields P l S false S2) := by
  induction l generalizing S with
  | nil => exact .inl ⟨S, .nil S, h⟩
  | cons d l ih =>
    cases h with
    | cons h h1 =>
      rcases ih h1 with ⟨S1, q1, q2⟩ | ⟨q1, q2⟩
      · exact .inl ⟨S1, .cons h q1, q2⟩
      · exact .inr ⟨q1, .cons h q2⟩
    | stop h => exact .inr ⟨rfl, .stop h⟩

/-- What goes on at every item. -/
theorem Yields.all {l : List D} (S : Nat → Bun) (h : ∀ i d, l[i]? = some d → EffY P [d] (S i) true (S (i + 1))) : Yields P l (S 0) true (S l.length) := by
  have : ∀ (l : List D) (k : Nat), (∀ i d, l[i]? = some d → EffY P [d] (S (k + i)) true (S (k + i + 1))) → Yields P l (S k) true (S (k + l.length)) := by
    intro l
    induction l with
    | nil => intro k _; exact .nil _
    | cons d l ih =>
      intro k h
      have := ih (k + 1) fun i d hi => by
        have := h (i + 1) d (by simpa using hi)
        rwa [show k + 1 + i = k + (i + 1) by omega]
      rw [show k + 1 + l.length = k + (d :: l).length by simp; omega] at this
      exact .cons (h 0 d rfl) this
  have := this l 0 fun i d hi => by simpa using h i d hi
  simpa using this

end
end Go.Hk

/- Contracts of term: the names of a pattern, gone through by a function (names), and as a slice (Names). -/
namespace Go.Hk
open Go.Proofs

def ttN : TT := ttA ++ [
  (95, ⟨.ptr 49, false, 1, 8, [.imm .nilp]⟩),
  (96, ⟨.ptr 9, false, 1, 8, [.imm .nilp]⟩),
  (93, ⟨.func, false, 1, 8, [.imm .nilfn]⟩),
  (92, ⟨.func, false, 1, 8, [.imm .nilfn]⟩),
  (141, ⟨.func, false, 1, 8, [.imm .nilfn]⟩),
  (142, ⟨.func, false, 1, 8, [.imm .nilfn]⟩),
  (87, ⟨.ptr 26, false, 1, 8, [.imm .nilp]⟩)]
theorem ttN_ok : TTok Tryz.prog ttN := .of_eq (l := [4, 3, 9, 26, 53, 49, 22, 24, 5, 51, 50, 29, 23, 47, 113, 66, 150, 63, 64, 111, 109, 30, 173, 101, 1, 79, 176, 121, 114, 116, 118, 55, 153, 122, 95, 96, 93, 92, 141, 142, 87]) (by kernel_rfl)

section
variable {n : Nat} {F : List Nat} {Q : DQ} {env env' : Env} {st st' : St} {ids ids' : List Nat} {k todo : List DI} {ob : List Prop}
theorem nd (path : List Pt) (h : run ttN n 300 path todo env st ids [] = .at k env' st' ids' ob) (hob : allP ob) (hd : G Tryz.prog n F Q k env' st' ids') : DGo Tryz.prog n F Q todo env st ids := d_run ttN_ok mixed 300 path h hob hd
end

/-! ### Names of patterns -/

mutual
def pnodes : Ty → List Ty
  | .mk s n x ps => (if s = 2 then [.mk s n x ps] else []) ++ pnodess ps
def pnodess : List Ty → List Ty
  | [] => []
  | t :: r => pnodes t ++ pnodess r
end

def textT : Ty → Str
  | .mk _ _ x _ => x
def pnames (t : Ty) : List Str := (pnodes t).map textT

end Go.Hk

/- Contracts of term: all strings of letters, gone through by a function; the first name that is none of some. -/
namespace Go.Hk
open Go.Proofs

section
variable {n : Nat} {F : List Nat} {Q : DQ} {env env' : Env} {st st' : St} {ids ids' : List Nat} {k todo : List DI} {ob : List Prop}
end

/-! ### Strings of letters, by their length, and sorted -/
/-! ### The first name that is none of some -/
theorem Yields.pre {P : Program} {l : List D} {d : D} {m : List D} {S S' : Bun} (h : ∀ x ∈ l, EffY P [x] S true S) (h1 : EffY P [d] S false S') : Yields P (l ++ d :: m) S false S' := by
  induction l with
  | nil => exact .stop h1
  | cons x r ih => exact .cons (h x (by simp)) (ih fun y hy => h y (by simp [hy]))

end Go.Hk

/- Contracts of term: the names that a term binds in a part (bound, list). -/
namespace Go.Hk
open Go.Proofs

/-- Whether a term binds its own text in a part. -/
def ownB1 (op kid : Int) : Bool := op == 5 || op == 27 || (op == 7 && kid == 1)

/-- Whether a term binds the names of a pattern in a part. -/
def patB1 (op kid : Int) : Bool := op == 15 && decide (0 < kid)

/-! ### What they go through -/
/-! ### list -/
end Go.Hk

/- Contracts of term: scopes (look, with), the names that are free in a term. -/
namespace Go.Hk
open Go.Proofs

def ttF : TT := ttN ++ [
  (128, ⟨.ptr 167, false, 1, 8, [.imm .nilp]⟩),
  (165, ⟨.struct [(0, 9), (1, 9)], true, 2, 32, [.imm (.str []), .imm (.str [])]⟩),
  (167, ⟨.struct [(0, 165), (2, 128)], true, 3, 40, [.imm (.str []), .imm (.str []), .imm .nilp]⟩)]
theorem ttF_ok : TTok Tryz.prog ttF := .of_eq (l := [4, 3, 9, 26, 53, 49, 22, 24, 5, 51, 50, 29, 23, 47, 113, 66, 150, 63, 64, 111, 109, 30, 173, 101, 1, 79, 176, 121, 114, 116, 118, 55, 153, 122, 95, 96, 93, 92, 141, 142, 87, 128, 165, 167]) (by kernel_rfl)

section
variable {n : Nat} {F : List Nat} {Q : DQ} {env env' : Env} {st st' : St} {ids ids' : List Nat} {k todo : List DI} {ob : List Prop}
theorem fd_ (path : List Pt) (h : run ttF n 300 path todo env st ids [] = .at k env' st' ids' ob) (hob : allP ob) (hd : G Tryz.prog n F Q k env' st' ids') : DGo Tryz.prog n F Q todo env st ids := d_run ttF_ok mixed 300 path h hob hd
theorem fg_ (path : List Pt) (h : run ttF n 300 path todo env st ids [] = .at k env' st' ids' ob) (hob : allP ob) (hd : G Tryz.prog n F Q k env' st' ids') : G Tryz.prog n F Q todo env st ids := g_run ttF_ok mixed 300 path h hob hd
end

end Go.Hk

/- Rows that are owned, by index: addresses of elements, loads, stores. -/
namespace Go.Hk

theorem RepVL.splice {I : Imm} {vs ns : List Value} {xs ys : List V} (h : RepVL I vs xs) (k : RepVL I ns ys) (off : Nat) : RepVL I (vs.take off ++ ns ++ vs.drop (off + ns.length)) (xs.take off ++ ys ++ xs.drop (off + ys.length)) := by
  have app : ∀ {a b : List Value} {x y : List V}, RepVL I a x → RepVL I b y → RepVL I (a ++ b) (x ++ y) := fun {a b x y} p q =>
    ⟨by simp [p.1, q.1], fun i v z h1 h2 => by
      rw [List.getElem?_append] at h1 h2
      by_cases hi : i < a.length
      · rw [if_pos hi] at h1; rw [if_pos (by rw [← p.1]; exact hi)] at h2; exact p.2 i v z h1 h2
      · rw [if_neg hi] at h1; rw [if_neg (by rw [← p.1]; exact hi), ← p.1] at h2; exact q.2 _ v z h1 h2⟩
  refine app (app ⟨by simp [h.1], fun i v z h1 h2 => ?_⟩ k) ⟨by simp [h.1, k.1], fun i v z h1 h2 => ?_⟩
  · rw [List.getElem?_take] at h1 h2
    by_cases hi : i < off
    · rw [if_pos hi] at h1 h2; exact h.2 i v z h1 h2
    · rw [if_neg hi] at h1; cases h1
  · rw [List.getElem?_drop] at h1 h2
    rw [k.1] at h1
    exact h.2 _ v z h1 h2

section
variable {P : Program} {n : Nat} {F : List Nat} {Q : DQ} {tt : TT} {env env' : Env} {st st' : St} {ids ids' : List Nat} {k todo todo' : List DI} {I : Imm} {μ : Mu} {w : World} {a : Act} {Pn : V → Prop} {d : D} {cx : Prop} {ob : List Prop}

end
end Go.Hk

/- Owned memory by address: elements, loads and stores through raw pointers. -/
namespace Go.Hk

def noMu : Mu := fun _ => none
theorem noMu_le (μ : Mu) : noMu.le μ := fun _ _ h => by cases h

/-- What stands at an address. -/
def CellsAt (I : Imm) (w : World) (b off : Nat) (ds : List D) : Prop :=
  ∃ vs t k, w.heap[b]? = some (.cells vs t k) ∧ ∀ j d, ds[j]? = some d → ∃ c, vs[off + j]? = some c ∧ c.oneCell' = true ∧ RepD I noMu c d

structure PRi where
  a : Addr
  len : Nat
  m : Int
  sz : Nat
  g : Option (Bool × Bool)
  ob : List Prop
  t : Nat
  todo : List DI

def pridx (tt : TT) (n : Nat) (env : Env) (todo : List DI) : Option PRi :=
  match next1 todo ([], []) with
  | some (all, o, todo') => match o.op, guardOf all env o with
    | .indexAddr t x i, some g => match lk tt t, useD (cxOf g) env x, useD (cxOf g) env i with
      | some { sh := .sl e, .. }, some (.raw (.slice (some a) len _), o1), some (.imm (.int _ m), o2) => match lk tt e, o.dst, dstOk n o.dst with
        | some ti, some t', true => some ⟨a, len, m, ti.size, g, cat o1 o2, t', todo'⟩
        | _, _, _ => none
      | _, _, _ => none
    | _, _ => none
  | none => none

structure PRl where
  b : Nat
  off : Nat
  i : TyI
  g : Option (Bool × Bool)
  ob : List Prop
  t : Nat
  todo : List DI

/-- A load through a raw pointer, out of the block with a name. -/
def prload (tt : TT) (n : Nat) (env : Env) (id : Nat) (todo : List DI) : Option PRl :=
  match next1 todo ([id], []) with
  | some (all, o, todo') => match o.op, guardOf all env o with
    | .load t x, some g => match lk tt t, useD (cxOf g) env x with
      | some i, some (.raw (.pointer (some ⟨b, off, none⟩)), o1) => match o.dst, dstOk n o.dst with
        | some t', true => some ⟨b, off, i, g, o1, t', todo'⟩
        | _, _ => none
      | _, _ => none
    | _, _ => none
  | none => none

section
variable {P : Program} {n : Nat} {F : List Nat} {Q : DQ} {tt : TT} {env env' : Env} {st st' : St} {ids ids' : List Nat} {k todo todo' : List DI} {I : Imm} {μ : Mu} {w : World} {a : Act} {Pn : V → Prop} {d : D} {cx : Prop} {ob : List Prop}

theorem RepD.rawInv {v u : Value} (h : RepD I μ v (.raw u)) : v = u := by cases h; rfl

theorem g_rindex (htt : TTok P tt) {c : PRi} (h : pridx tt n env todo = some c) (hs : c.a.spot = none) (hc : cxOf c.g → 0 ≤ c.m ∧ c.m < c.len) (hob : allP c.ob)
    (hk : G P n F Q c.todo ((c.t, gD c.g (.raw (.pointer (some ⟨c.a.block, c.a.off + c.m.toNat * c.sz, none⟩)))) :: env) st ids) : G P n F Q todo env st ids := by
  unfold pridx at h
  split at h
  · rename_i all o todo' h1
    split at h
    · rename_i t x i g hop hg
      split at h
      · rename_i e _ _ _ _ ad len cap o1 kk m o2 ht hx hi
        split at h
        · rename_i ti t' hti hdst hd
          cases h
          obtain ⟨b, off, spot⟩ := ad
          simp only at hs
          subst hs
          have hk : G P n F Q todo' (putE o.dst (gD g (.raw (.pointer (some ⟨b, off + m.toNat * ti.size, none⟩)))) env) st ids := by rw [hdst]; exact hk
          refine g_step (fr := []) (wr := []) (rd := []) h1 (ld_guarded hg fun I μ st1 ids1 a w _ hst hops hcx => ?_) (by rw [hdst] at hd ⊢; exact hd) (fun c hc => by rw [hop] at hc; cases hc) hk
          rw [hop] at hops
          obtain ⟨ho1, ho2⟩ := allP_app hob
          have rx := (useD_rep hx ho1 hcx (hops x (by simp [Op.operands]))).rawInv
          have ri := (useD_rep hi ho2 hcx (hops i (by simp [Op.operands]))).immInv.intInv
          obtain ⟨c0, c1⟩ := hc hcx
          have hu : P.underlying t = some (.slice e) := htt.sh ht
          simp only [execOp, hop, ri, rx]
          have hr := index_run (w := w) hu (htt e ti hti) (b := b) (off := off) (len := len) (cap := cap) (kk := kk) c0 c1
          have hrun : (do pure (.value (← Instr.indexAt t (.slice (some ⟨b, off, none⟩) len cap) (.int kk m))) : Sem Next).run P w = .ok (.value (.pointer (some ⟨b, off + m.toNat * ti.size, none⟩))) w := ok_of_sem hr
          rw [hrun]
          exact ⟨I, μ, hst, .raw _ rfl, Mu.le_refl μ, Ext.refl _ _ _ _⟩
        · cases h
      · cases h
    · cases h
  · cases h

theorem load_at {t : TypeId} {i : TyI} (hi : TyOk P t i) {b off : Nat} {ds : List D} {d : D} (h : CellsAt I w b off ds) (hl : ds.length = i.size) (hd : loadD i true ds 0 = some d) (μ : Mu) :
    ∃ v, (Instr.loadAt t (.pointer (some ⟨b, off, none⟩))).run P w = .ok v w ∧ RepD I μ v d := by
  obtain ⟨vs, bt, kk, hheap, hcs⟩ := h
  have hcell : ∀ (j : Nat), j < ds.length → ∃ c d, ds[j]? = some d ∧ vs[off + j]? = some c ∧ c.oneCell' = true ∧ RepD I μ c d := fun j hj => by
    obtain ⟨c, h1, h2, h3⟩ := hcs j _ (List.getElem?_eq_getElem hj)
    exact ⟨c, _, List.getElem?_eq_getElem hj, h1, h2, h3.mono (Imm.le_refl I) (noMu_le μ)⟩
  have hw : ∀ j, j < ds.length → w.cell? ⟨b, off + j, none⟩ = some ((vs[off + j]?).getD undef) := fun j hj => by
    obtain ⟨c, d, _, h2, _⟩ := hcell j hj
    rw [cell_of_heap hheap (off + j) c (by simpa using h2)]
    simp [h2]
  cases ha : i.agg with
  | true =>
    simp only [loadD, ha] at hd
    cases hd
    have hr := loadAt_ok hi b off (fun j => (vs[off + j]?).getD undef) (w := w) (fun j hj => hw j (by omega)) (fun hf => by rw [ha] at hf; cases hf)
    rw [ha] at hr
    simp only [if_true] at hr
    refine ⟨_, hr, ?_⟩
    have := mkAgg_rep (I := I) (μ := μ) (vs := (List.range i.size).map fun j => (vs[off + j]?).getD undef) (ds := ds) ⟨by simp [hl], fun j v d hv hd => ?_⟩ (fun c hc => ?_)
    · simpa using this
    · rw [List.getElem?_map] at hv
      obtain ⟨c, d', h1, h2, _, h4⟩ := hcell j (List.getElem?_eq_some_iff.1 hd).1
      rw [h1] at hd; cases hd
      cases hj : (List.range i.size)[j]? with
      | none => rw [hj] at hv; cases hv
      | some q =>
        rw [hj] at hv
        have : q = j := by
          obtain ⟨h6, h7⟩ := List.getElem?_eq_some_iff.1 hj
          simpa using h7.symm
        subst this
        cases hv
        simpa [h2] using h4
    · obtain ⟨j, hj, rfl⟩ := List.mem_map.1 hc
      obtain ⟨c, d', _, h2, h3, _⟩ := hcell j (by rw [hl]; simpa using hj)
      simpa [h2] using h3
  | false =>
    simp only [loadD, ha] at hd
    have hlt : 0 < ds.length := by
      cases ds with
      | nil => simp [nth] at hd
      | cons => simp
    have hr := loadAt_ok hi b off (fun j => (vs[off + j]?).getD undef) (w := w) (fun j hj => hw j (by omega)) (fun _ => hw 0 hlt)
    rw [ha] at hr
    simp only [Bool.false_eq_true, if_false] at hr
    obtain ⟨c, d', h1, h2, _, h4⟩ := hcell 0 hlt
    rw [nth_eq, h1] at hd
    cases hd
    rw [Nat.add_zero] at h2
    exact ⟨_, hr, by simpa [h2] using h4⟩

/-- A load of what is owned. 'ds': what stands there. -/
theorem g_rload (htt : TTok P tt) (id : Nat) {A : Asn} {c : PRl} (ds : List D) {d : D} (h : prload tt n env id todo = some c) (hl : lk st id = some (some (.hp A)))
    (hA : cxOf c.g → ∀ vs I w bs, A.P vs I w bs → CellsAt I w c.b c.off ds) (hlen : ds.length = c.i.size) (hd : loadD c.i true ds 0 = some d) (hob : allP c.ob)
    (hk : G P n F Q c.todo ((c.t, gD c.g d) :: env) st ids) : G P n F Q todo env st ids := by
  unfold prload at h
  split at h
  · rename_i all o todo' h1
    split at h
    · rename_i t x g hop hg
      split at h
      · rename_i i b off o1 ht hx
        split at h
        · rename_i t' hdst hd'
          cases h
          have hk : G P n F Q todo' (putE o.dst (gD g d) env) st ids := by rw [hdst]; exact hk
          refine g_step (fr := []) (wr := []) (rd := [id]) h1 (ld_guarded hg fun I μ st1 ids1 a w hag hst hops hcx => ?_) (by rw [hdst] at hd' ⊢; exact hd') (fun c hc => by rw [hop] at hc; cases hc) hk
          rw [hop] at hops
          have rx := (useD_rep hx hob hcx (hops x (by simp [Op.operands]))).rawInv
          have hl1 : live st1 id (.hp A) := by unfold live; rw [hag id (by simp)]; exact hl
          obtain ⟨gg, hg', us, bs, e1, e2⟩ := hst.blk id _ hl1
          obtain ⟨v, q1, q2⟩ := load_at (P := P) (htt t i ht) (hA hcx us I w bs e2) hlen hd μ
          simp only [execOp, hop, rx]
          have hrun : (do pure (.value (← Instr.loadAt t (.pointer (some ⟨b, off, none⟩)))) : Sem Next).run P w = .ok (.value v) w := ok_of_sem q1
          rw [hrun]
          exact ⟨I, μ, hst, q2, Mu.le_refl μ, Ext.refl _ _ _ _⟩
        · cases h
      · cases h
    · cases h
  · cases h

end
end Go.Hk

/- What is owned, laid anew under other names: blocks by address joined, split, opened, frozen. -/
namespace Go.Hk

def newSt : List (Nat × Value × Blk) → St
  | [] => []
  | (i, _, b) :: r => (i, some b) :: newSt r
def newNm : List (Nat × Value × Blk) → List Nat
  | [] => []
  | (i, _, _) :: r => i :: newNm r
def newMu (new : List (Nat × Value × Blk)) (μ : Mu) : Mu := fun i => match lk new i with
  | some p => some p.1
  | none => μ i

/-- A block that one of some names owns. -/
def ownedBy (R : List Nat) (μ : Mu) (st : St) (b : Nat) : Prop := ∃ r blk g, r ∈ R ∧ live st r blk ∧ μ r = some g ∧ ownB g b

section
variable {P : Program} {n : Nat} {F : List Nat} {Q : DQ} {tt : TT} {env env' : Env} {st st' : St} {ids ids' : List Nat} {todo : List DI} {I J : Imm} {μ : Mu} {w : World} {a : Act} {d : D}

theorem newSt_live {new : List (Nat × Value × Blk)} {i : Nat} {b : Blk} {st : St} : live (newSt new ++ st) i b → (∃ g, (i, g, b) ∈ new ∧ lk new i = some (g, b)) ∨ (lk new i = none ∧ live st i b) := by
  induction new with
  | nil => intro h; exact .inr ⟨rfl, h⟩
  | cons p r ih =>
    obtain ⟨k, g, x⟩ := p
    intro h
    simp only [newSt, List.cons_append] at h
    rcases live_cons.1 h with ⟨rfl, rfl⟩ | ⟨h1, h2⟩
    · exact .inl ⟨g, by simp, lk_cons_self _ _ _⟩
    · rw [lk_cons_ne _ _ (fun e => h1 e.symm)]
      rcases ih h2 with ⟨g', q1, q2⟩ | h
      · exact .inl ⟨g', by simp [q1], q2⟩
      · exact .inr h

theorem newNm_lk {new : List (Nat × Value × Blk)} {i : Nat} : lk new i = none ↔ i ∉ newNm new := by
  induction new with
  | nil => simp [lk, newNm]
  | cons p r ih =>
    obtain ⟨k, g, x⟩ := p
    by_cases h : k = i
    · subst h; rw [lk_cons_self]; simp [newNm]
    · rw [lk_cons_ne _ _ h, ih]; simp [newNm]; exact fun _ e => h e.symm

/-- Owned blocks under other names: 'R': names that are given up, 'new': new ones with what they stand for. -/
theorem StRep.relay {R : List Nat} {new : List (Nat × Value × Blk)} (hst : StRep I μ st (newNm new ++ ids') w)
    (hown : ∀ p ∈ new, ∀ b, ownB p.2.1 b → ownedBy R μ st b) (hdisj : ∀ p ∈ new, ∀ q ∈ new, ∀ b, ownB p.2.1 b → ownB q.2.1 b → p.1 = q.1)
    (hI : I.le J) (hJ : J.ok w) (hold : ∀ b o, J b = some o → I b = some o ∨ (ownedBy R μ st b ∧ ∀ p ∈ new, ¬ ownB p.2.1 b))
    (hrep : μ.le (newMu new μ) → ∀ p ∈ new, BlkRep J (newMu new μ) w p.2.1 p.2.2) :
    μ.le (newMu new μ) ∧ StRep J (newMu new μ) (newSt new ++ (delSt R ++ st)) ids' w ∧ Ext I μ st w J (newMu new μ) (newSt new ++ (delSt R ++ st)) w := by
  have hnd := List.nodup_append.1 hst.nodup
  have hle : μ.le (newMu new μ) := fun i v h => by
    have : i ∉ newNm new := fun hi => by rw [hst.idsFree i (by simp [hi])] at h; cases h
    simp [newMu, newNm_lk.2 this, h]
  have hcase : ∀ {i b}, live (newSt new ++ (delSt R ++ st)) i b → (∃ g, (i, g, b) ∈ new ∧ newMu new μ i = some g) ∨ (i ∉ R ∧ live st i b ∧ newMu new μ i = μ i) := by
    intro i b h
    rcases newSt_live h with ⟨g, q1, q2⟩ | ⟨q1, q2⟩
    · exact .inl ⟨g, q1, by simp [newMu, q2]⟩
    · obtain ⟨h3, h4⟩ := delSt_live q2
      exact .inr ⟨h3, h4, by simp [newMu, q1]⟩
  have hold' : ∀ {b}, owned μ st b → (∀ r ∈ R, ∀ blk g, live st r blk → μ r = some g → ¬ ownB g b) → J b = none := by
    intro b ⟨i, blk, g, q1, q2, q3⟩ hR
    have hI0 := (hst.apart i blk g b q1 q2 q3).1
    cases hJb : J b with
    | none => rfl
    | some o =>
      rcases hold b o hJb with h | ⟨⟨r, blk', g', k1, k2, k3, k4⟩, _⟩
      · rw [hI0] at h; cases h
      · exact absurd k4 (hR r k1 blk' g' k2 k3)
  have hE : Ext I μ st w J (newMu new μ) (newSt new ++ (delSt R ++ st)) w :=
    { imm := hI, os := rfl, tape := rfl, output := rfl, size := Nat.le_refl _, block := fun _ _ _ => rfl
      fresh := fun b _ ⟨i, blk, g, q1, q2, q3⟩ => by
        rcases hcase q1 with ⟨g', k1, k2⟩ | ⟨_, k2, k3⟩
        · rw [k2] at q2; cases q2
          obtain ⟨r, blk', g', _, a2, a3, a4⟩ := hown _ k1 b q3
          exact ⟨r, blk', g', a2, a3, a4⟩
        · exact ⟨i, blk, g, k2, by rw [← k3]; exact q2, q3⟩
      old := fun b _ ho => by
        cases hJb : J b with
        | none =>
          cases hIb : I b with
          | none => rfl
          | some o => rw [hI b o hIb] at hJb; cases hJb
        | some o =>
          rcases hold b o hJb with h | ⟨⟨r, blk, g, _, k2, k3, k4⟩, _⟩
          · exact h.symm
          · exact absurd ⟨r, blk, g, k2, k3, k4⟩ ho }
  refine ⟨hle, { imm := hJ, blk := fun i b hl => ?_, apart := fun i b g k hl hg hk => ?_, inj := fun i j bi bj gi gj k hi hj hgi hgj hki hkj => ?_, nodup := hnd.2.1, idsFree := fun i hi => ?_ }, hE⟩
  · rcases hcase hl with ⟨g, k1, k2⟩ | ⟨_, k2, k3⟩
    · exact ⟨g, k2, hrep hle _ k1⟩
    · obtain ⟨g, q1, q2⟩ := hst.blk i b k2
      exact ⟨g, by rw [k3]; exact q1, q2.mono hI hle⟩
  · rcases hcase hl with ⟨g', k1, k2⟩ | ⟨kR, k2, k3⟩
    · rw [k2] at hg; cases hg
      obtain ⟨r, blk', g', a1, a2, a3, a4⟩ := hown _ k1 k hk
      obtain ⟨z1, z2⟩ := hst.apart r blk' g' k a2 a3 a4
      refine ⟨?_, z2⟩
      cases hJb : J k with
      | none => rfl
      | some o =>
        rcases hold k o hJb with h | ⟨_, h⟩
        · rw [z1] at h; cases h
        · exact absurd hk (h _ k1)
    · rw [k3] at hg
      obtain ⟨z1, z2⟩ := hst.apart i b g k k2 hg hk
      refine ⟨hold' ⟨i, b, g, k2, hg, hk⟩ fun r hr blk' g' h1 h2 h3 => ?_, z2⟩
      exact kR (by rw [hst.inj i r b blk' g g' k k2 h1 hg h2 hk h3]; exact hr)
  · rcases hcase hi with ⟨g1, k1, k2⟩ | ⟨kR, k2, k3⟩
    · rw [k2] at hgi; cases hgi
      rcases hcase hj with ⟨g2, l1, l2⟩ | ⟨lR, l2, l3⟩
      · rw [l2] at hgj; cases hgj
        exact hdisj _ k1 _ l1 k hki hkj
      · rw [l3] at hgj
        obtain ⟨r, blk', g', a1, a2, a3, a4⟩ := hown _ k1 k hki
        exact absurd (by rw [hst.inj j r bj blk' gj g' k l2 a2 hgj a3 hkj a4]; exact a1) lR
    · rw [k3] at hgi
      rcases hcase hj with ⟨g2, l1, l2⟩ | ⟨lR, l2, l3⟩
      · rw [l2] at hgj; cases hgj
        obtain ⟨r, blk', g', a1, a2, a3, a4⟩ := hown _ l1 k hkj
        exact absurd (by rw [hst.inj i r bi blk' gi g' k k2 a2 hgi a3 hki a4]; exact a1) kR
      · rw [l3] at hgj
        exact hst.inj i j bi bj gi gj k k2 l2 hgi hgj hki hkj
  · have : i ∉ newNm new := fun h => hnd.2.2 i h i hi rfl
    simp only [newMu, newNm_lk.2 this]
    exact hst.idsFree i (by simp [hi])

/-- A step that only what is said of the state does. -/
theorem dgo_sem (h : ∀ I μ a w, Conc n I μ env st ids a w → ∃ J ν env' st' ids', StRep J ν st' ids' w ∧ (∀ t d, lk env' t = some d → RepD J ν (a.tmps.getD t undef) d) ∧ Ext I μ st w J ν st' w ∧ Pin F μ ν ∧ DGo P n F Q todo env' st' ids') :
    DGo P n F Q todo env st ids := by
  intro b cs I μ a w items hd hc
  obtain ⟨J, ν, env', st', ids', h1, h2, h3, h4, h5⟩ := h I μ a w hc
  exact (h5 b cs J ν a w items hd { h1 with size := hc.size, env := h2, defers := hc.defers.ext h3 }).mono fun e a' w' hp => hp.back h4 h3

/-- Joined. -/
theorem dgo_hpj {α : Type} (i j id : Nat) {A B : Asn} (C : α → Asn) (hi : lk st i = some (some (.hp A))) (hj : lk st j = some (some (.hp B))) (hne : i ≠ j)
    (hA : ∀ vs us I w b1 b2, A.P vs I w b1 → B.P us I w b2 → (∀ b ∈ b1, b ∉ b2) → ∃ x bs, (∀ b ∈ bs, b ∈ b1 ∨ b ∈ b2) ∧ (C x).P [] I w bs)
    (h : ∀ x, DGo P n F Q todo env ((id, some (.hp (C x))) :: (i, none) :: (j, none) :: st) ids') : DGo P n F Q todo env st (id :: ids') := by
  refine dgo_sem fun I μ a w hc => ?_
  obtain ⟨g1, hg1, vs, b1, rfl, hP1⟩ := hc.blk i _ hi
  obtain ⟨g2, hg2, us, b2, rfl, hP2⟩ := hc.blk j _ hj
  obtain ⟨x, bs, k1, k2⟩ := hA vs us I w b1 b2 hP1 hP2 fun b h1 h2 => hne (hc.inj i j _ _ _ _ b hi hj hg1 hg2 (ownB_hp.2 h1) (ownB_hp.2 h2))
  obtain ⟨q1, q2, q3⟩ := StRep.relay (R := [i, j]) (new := [(id, hpG [] bs, .hp (C x))]) (ids' := ids') hc.toStRep
    (fun p hp b hb => by
      rw [List.mem_singleton.1 hp] at hb
      rcases k1 b (ownB_hp.1 hb) with h | h
      · exact ⟨i, _, _, by simp, hi, hg1, ownB_hp.2 h⟩
      · exact ⟨j, _, _, by simp, hj, hg2, ownB_hp.2 h⟩)
    (fun p hp q hq b _ _ => by rw [List.mem_singleton.1 hp, List.mem_singleton.1 hq]) (Imm.le_refl I) hc.imm (fun b o h => .inl h)
    (fun _ p hp => by rw [List.mem_singleton.1 hp]; exact ⟨[], bs, rfl, k2⟩)
  exact ⟨I, _, env, _, ids', q2, fun t d hd => (hc.env t d hd).mono (Imm.le_refl I) q1, q3, .of_le q1, h x⟩

/-! ### Values that are hidden, or named, in slots and cells -/
mutual
/-- 'vs': the values of the block 'id', named from now on. -/
def opnD (id : Nat) (vs : List Value) : D → D
  | .hv i k => match Nat.beq i id, nth vs k with
    | true, some v => .raw v
    | _, _ => .hv i k
  | .agg cs => .agg (opnL id vs cs)
  | .tup cs => .tup (opnL id vs cs)
  | d => d
def opnL (id : Nat) (vs : List Value) : List D → List D
  | [] => []
  | d :: r => opnD id vs d :: opnL id vs r
end
def opnE (id : Nat) (vs : List Value) : Env → Env
  | [] => []
  | (t, d) :: r => (t, opnD id vs d) :: opnE id vs r
def opnB (id : Nat) (vs : List Value) : Blk → Blk
  | .cells t sz cs => .cells t sz (opnL id vs cs)
  | b => b
def opnS (id : Nat) (vs : List Value) : St → St
  | [] => []
  | (i, some b) :: r => (i, some (opnB id vs b)) :: opnS id vs r
  | (i, none) :: r => (i, none) :: opnS id vs r

theorem opnL_eq (id : Nat) (vs : List Value) : ∀ l : List D, opnL id vs l = l.map (opnD id vs)
  | [] => rfl
  | d :: r => by simp [opnL, opnL_eq id vs r]

theorem RepD.opn {id : Nat} {vs : List Value} {bs : List Nat} (hm : μ id = some (hpG vs bs)) {v : Value} (h : RepD I μ v d) : RepD I μ v (opnD id vs d) := by
  have at_ : ∀ {l : List D} {i : Nat} {x : D}, (opnL id vs l)[i]? = some x → ∃ y, l[i]? = some y ∧ x = opnD id vs y := by
    intro l i x hx
    rw [opnL_eq, List.getElem?_map] at hx
    cases hl : l[i]? with
    | none => rw [hl] at hx; cases hx
    | some y => rw [hl] at hx; cases hx; exact ⟨y, rfl, rfl⟩
  induction h with
  | hv v i k us cs h hi h1 =>
    simp only [opnD]
    split
    · rename_i u he hu
      rw [Nat.eq_of_beq_eq_true he, hm] at h
      have hvs : vs = us ∧ bs = cs := by
        simp only [hpG, Option.some.injEq, Value.tuple.injEq, Array.mk.injEq, List.cons.injEq, Value.agg.injEq, and_true] at h
        refine ⟨by simpa using h.1, ?_⟩
        have h2 := congrArg Array.toList h.2
        simp only [ptrs] at h2
        exact (List.map_inj_right (fun x y e => by simpa using e)).1 h2
      rw [nth_eq, hvs.1, hi] at hu
      cases hu
      exact .raw _ h1
    · exact .hv v i k us cs h hi h1
  | agg cs ds hl h1 _ ih =>
    refine .agg cs _ (by rw [opnL_eq, List.length_map, hl]) h1 fun i c x hc hx => ?_
    obtain ⟨y, hy, rfl⟩ := at_ hx
    exact ih i c y hc hy
  | tup cs ds hl _ ih =>
    refine .tup cs _ (by rw [opnL_eq, List.length_map, hl]) fun i c x hc hx => ?_
    obtain ⟨y, hy, rfl⟩ := at_ hx
    exact ih i c y hc hy
  | undef v => exact .undef v
  | imm v x hx => exact .imm v x hx
  | nils => exact .nils
  | ref b id off hm => exact .ref b id off hm
  | ip b o t cs off vs hcell hrep => exact .ip b o t cs off vs hcell hrep
  | own i len a cap hm => exact .own i len a cap hm
  | elp b i len cap k sz f hm => exact .elp b i len cap k sz f hm
  | mapr i b hm => exact .mapr i b hm
  | iter i b hm => exact .iter i b hm
  | fn f first cap df dc hf hc h1 h2 _ _ => exact .fn f first cap df dc hf hc h1 h2
  | iface t v d h _ => exact .iface t v d h
  | guard c want v d h hu _ => exact .guard c want v d h hu
  | clip a len es hr => exact .clip a len es hr
  | slc b i off len cap hm hl hx => exact .slc b i off len cap hm hl hx
  | yld b i hm => exact .yld b i hm
  | raw v h => exact .raw v h

theorem opnE_lk {id : Nat} {vs : List Value} : ∀ {env : Env} {t : Nat} {d : D}, lk (opnE id vs env) t = some d → ∃ d0, lk env t = some d0 ∧ d = opnD id vs d0
  | [], t, d, h => by simp [opnE, lk] at h
  | (s, x) :: r, t, d, h => by
    simp only [opnE] at h
    by_cases hs : s = t
    · subst hs; rw [lk_cons_self] at h ⊢; cases h; exact ⟨x, rfl, rfl⟩
    · rw [lk_cons_ne _ _ hs] at h ⊢; exact opnE_lk h

theorem opnS_live {id : Nat} {vs : List Value} {i : Nat} {b : Blk} : ∀ {st : St}, live (opnS id vs st) i b → ∃ b0, live st i b0 ∧ b = opnB id vs b0
  | [], h => by simp [opnS, live, lk] at h
  | (k, some x) :: r, h => by
    simp only [opnS] at h
    rcases live_cons.1 h with ⟨h1, h2⟩ | ⟨h1, h2⟩
    · exact ⟨x, by unfold live; rw [h1, lk_cons_self], h2⟩
    · obtain ⟨b0, q1, q2⟩ := opnS_live h2
      exact ⟨b0, live_cons.2 (.inr ⟨h1, q1⟩), q2⟩
  | (k, none) :: r, h => by
    simp only [opnS] at h
    obtain ⟨h1, h2⟩ := live_del.1 h
    obtain ⟨b0, q1, q2⟩ := opnS_live h2
    exact ⟨b0, live_del.2 ⟨h1, q1⟩, q2⟩

/-- Blocks that stand for the same say other things. -/
theorem StRep.retell {st1 : St} (hst : StRep I μ st ids w) (h : ∀ i b, live st1 i b → ∃ b0, live st i b0 ∧ ∀ g, BlkRep I μ w g b0 → BlkRep I μ w g b) : StRep I μ st1 ids w ∧ Ext I μ st w I μ st1 w := by
  refine ⟨{ imm := hst.imm, blk := fun i b hl => ?_, apart := fun i b g k hl hg hk => ?_, inj := fun i j bi bj gi gj k hi hj => ?_, nodup := hst.nodup, idsFree := hst.idsFree }, ?_⟩
  · obtain ⟨b0, h1, h2⟩ := h i b hl
    obtain ⟨g, hg, hr⟩ := hst.blk i b0 h1
    exact ⟨g, hg, h2 g hr⟩
  · obtain ⟨b0, h1, _⟩ := h i b hl
    exact hst.apart i b0 g k h1 hg hk
  · obtain ⟨b0, h1, _⟩ := h i bi hi
    obtain ⟨b1, h2, _⟩ := h j bj hj
    exact hst.inj i j b0 b1 gi gj k h1 h2
  · exact { imm := Imm.le_refl I, os := rfl, tape := rfl, output := rfl, size := Nat.le_refl _, block := fun _ _ _ => rfl, old := fun _ _ _ => rfl
            fresh := fun b _ ⟨i, bi, g, h1, h2⟩ => let ⟨b0, q, _⟩ := h i bi h1; ⟨i, b0, g, q, h2⟩ }

/-- The values of a block are named; the block is 'B x' from then on. -/
theorem dgo_open {α : Type} (id j : Nat) {A : Asn} (val : α → List Value) (B : α → Asn) (hl : lk st id = some (some (.hp A)))
    (hA : ∀ vs I w bs, A.P vs I w bs → ∃ x, vs = val x ∧ (B x).P [] I w bs)
    (h : ∀ x, DGo P n F Q todo (opnE id (val x) env) ((j, some (.hp (B x))) :: (id, none) :: opnS id (val x) st) ids') : DGo P n F Q todo env st (j :: ids') := by
  refine dgo_sem fun I μ a w hc => ?_
  obtain ⟨g, hg, vs, bs, rfl, hP⟩ := hc.blk id _ hl
  obtain ⟨x, rfl, h2⟩ := hA vs I w bs hP
  obtain ⟨p1, p2⟩ := hc.toStRep.retell (st1 := opnS id (val x) st) (fun i b hlb => by
    obtain ⟨b0, q1, rfl⟩ := opnS_live hlb
    refine ⟨b0, q1, fun gb hb => ?_⟩
    cases b0 with
    | cells t sz cs =>
      obtain ⟨hs, b, us, e1, e2, e3, e4⟩ := hb
      exact ⟨by rw [opnL_eq, List.length_map, hs], b, us, e1, e2, ⟨by rw [opnL_eq, List.length_map, e3.1], fun i v y hv hy => by
        rw [opnL_eq, List.getElem?_map] at hy
        cases hc' : cs[i]? with
        | none => rw [hc'] at hy; cases hy
        | some z => rw [hc'] at hy; cases hy; exact (e3.2 i v z hv hc').opn hg⟩, e4⟩
    | _ => exact hb)
  have hl' : live (opnS id (val x) st) id (.hp A) := by
    have : ∀ {st : St}, live st id (.hp A) → live (opnS id (val x) st) id (.hp A) := by
      intro st
      induction st with
      | nil => intro h; simp [live, lk] at h
      | cons p r ih =>
        obtain ⟨k, y⟩ := p
        intro h
        cases y with
        | none => obtain ⟨h1, h2⟩ := live_del.1 h; exact live_del.2 ⟨h1, ih h2⟩
        | some y =>
          rcases live_cons.1 h with ⟨h1, h2⟩ | ⟨h1, h2⟩
          · exact live_cons.2 (.inl ⟨h1, by rw [← h2]; rfl⟩)
          · exact live_cons.2 (.inr ⟨h1, ih h2⟩)
    exact this hl
  obtain ⟨q1, q2, q3⟩ := StRep.relay (R := [id]) (new := [(j, hpG [] bs, .hp (B x))]) (ids' := ids') p1
    (fun p hp b hb => by
      rw [List.mem_singleton.1 hp] at hb
      exact ⟨id, _, _, by simp, hl', hg, ownB_hp.2 (ownB_hp.1 hb)⟩)
    (fun p hp q hq b _ _ => by rw [List.mem_singleton.1 hp, List.mem_singleton.1 hq]) (Imm.le_refl I) hc.imm (fun b o h => .inl h)
    (fun _ p hp => by rw [List.mem_singleton.1 hp]; exact ⟨[], bs, rfl, h2⟩)
  refine ⟨I, _, opnE id (val x) env, _, ids', q2, fun t d hd => ?_, p2.trans q3, .of_le q1, h x⟩
  obtain ⟨d0, h0, rfl⟩ := opnE_lk hd
  exact ((hc.env t d0 h0).opn hg).mono (Imm.le_refl I) q1

/-- Values that are named become values of the block 'j'. -/
def clD (j : Nat) (vs : List Value) (d d' : D) : Prop := d = d' ∨ ∃ k v, d = .raw v ∧ d' = .hv j k ∧ vs[k]? = some v
def clL (j : Nat) (vs : List Value) : List D → List D → Prop
  | [], [] => True
  | d :: r, d' :: r' => clD j vs d d' ∧ clL j vs r r'
  | _, _ => False

theorem clL_spec {j : Nat} {vs : List Value} : ∀ {ds ds' : List D}, clL j vs ds ds' → ds.length = ds'.length ∧ ∀ (i : Nat) (d' : D), ds'[i]? = some d' → ∃ d, ds[i]? = some d ∧ clD j vs d d'
  | [], [], _ => ⟨rfl, fun i d h => by simp at h⟩
  | d :: r, d' :: r', h => by
    obtain ⟨h1, h2⟩ := clL_spec h.2
    refine ⟨by simp [h1], fun i x hx => ?_⟩
    cases i with
    | zero => simp at hx; subst hx; exact ⟨d, rfl, h.1⟩
    | succ i => exact h2 i x (by simpa using hx)
  | [], _ :: _, h => h.elim
  | _ :: _, [], h => h.elim

/-- A block whose values are named becomes one with values of its own; in the cells of the block 'k' they stand as such. -/
theorem dgo_close (id k j : Nat) {B A : Asn} (vs : List Value) {t : TypeId} {sz : Nat} {ds : List D} (ds' : List D) (hl : lk st id = some (some (.hp B))) (hk : lk st k = some (some (.cells t sz ds)))
    (hA : ∀ us I w bs, B.P us I w bs → A.P vs I w bs) (hcl : clL j vs ds ds')
    (h : DGo P n F Q todo env ((k, some (.cells t sz ds')) :: (j, some (.hp A)) :: (id, none) :: st) ids') : DGo P n F Q todo env st (j :: ids') := by
  refine dgo_sem fun I μ a w hc => ?_
  obtain ⟨g, hg, us, bs, rfl, hP⟩ := hc.blk id _ hl
  obtain ⟨gk, hgk, hs, b, xs, rfl, hheap, hrep, hone⟩ := hc.blk k _ hk
  have hjk : j ≠ k := fun e => by rw [← e, hc.idsFree j (by simp)] at hgk; cases hgk
  have hik : id ≠ k := fun e => by subst e; rw [hl] at hk; cases hk
  obtain ⟨q1, q2, q3⟩ := StRep.relay (R := [id]) (new := [(j, hpG vs bs, .hp A)]) (ids' := ids') hc.toStRep
    (fun p hp b hb => by
      rw [List.mem_singleton.1 hp] at hb
      exact ⟨id, _, _, by simp, hl, hg, ownB_hp.2 (ownB_hp.1 hb)⟩)
    (fun p hp q hq b _ _ => by rw [List.mem_singleton.1 hp, List.mem_singleton.1 hq]) (Imm.le_refl I) hc.imm (fun b o h => .inl h)
    (fun _ p hp => by rw [List.mem_singleton.1 hp]; exact ⟨vs, bs, rfl, hA us I w bs hP⟩)
  have hk2 : live ((j, some (.hp A)) :: (id, none) :: st) k (.cells t sz ds) := live_cons.2 (.inr ⟨hjk.symm, live_del.2 ⟨hik.symm, hk⟩⟩)
  have hmj : newMu [(j, hpG vs bs, .hp A)] μ j = some (hpG vs bs) := by simp [newMu, lk]
  obtain ⟨c1, c2⟩ := clL_spec hcl
  obtain ⟨p1, p2⟩ := q2.retell (st1 := (k, some (.cells t sz ds')) :: (j, some (.hp A)) :: (id, none) :: st) (fun i bb hlb => by
    rcases live_cons.1 hlb with ⟨rfl, rfl⟩ | ⟨_, h2⟩
    · refine ⟨_, hk2, fun gb hb => ?_⟩
      obtain ⟨hs, b, us, e1, e2, e3, e4⟩ := hb
      refine ⟨by rw [← c1, hs], b, us, e1, e2, ⟨by rw [← c1, e3.1], fun i v y hv hy => ?_⟩, e4⟩
      obtain ⟨d, y1, y2⟩ := c2 i y hy
      have hr := e3.2 i v d hv y1
      rcases y2 with rfl | ⟨kk, u, rfl, rfl, hu⟩
      · exact hr
      · have := hr.rawInv
        subst this
        exact .hv _ j kk vs bs hmj hu (e4 _ (List.mem_of_getElem? hv))
    · exact ⟨_, h2, fun _ h => h⟩)
  exact ⟨I, _, env, _, ids', p1, fun t d hd => (hc.env t d hd).mono (Imm.le_refl I) q1, q3.trans p2, .of_le q1, h⟩

/-- The immutable part with blocks that were owned. -/
def Imm.plus (I : Imm) (bs : List Nat) (w : World) : Imm := fun b => if memN bs b = true then w.heap[b]? else I b

/-- A block by address becomes immutable: what its values stand for in the cells of the block 'k'. -/
theorem dgo_hpFreeze (id k : Nat) {A : Asn} {t : TypeId} {sz : Nat} {ds : List D} (xs : List V) (hl : lk st id = some (some (.hp A))) (hk : lk st k = some (some (.cells t sz ds)))
    (hA : ∀ vs I J w bs, A.P vs I w bs → I.le J → (∀ b ∈ bs, J b = w.heap[b]?) → ∀ (cs : List Value), RepL J noMu cs ds → RepVL J cs xs) (hnm : nmL ds = [])
    (h : DGo P n F Q todo env ((k, some (.immb t sz xs)) :: (id, none) :: st) ids) : DGo P n F Q todo env st ids := by
  refine dgo_sem fun I μ a w hc => ?_
  obtain ⟨g, hg, vs, bs, rfl, hP⟩ := hc.blk id _ hl
  obtain ⟨gk, hgk, hs, b, us, rfl, hheap, hrep, hone⟩ := hc.blk k _ hk
  have hik : id ≠ k := fun e => by subst e; rw [hl] at hk; cases hk
  have hbs : ∀ b ∈ bs, I b = none ∧ b < w.heap.size := fun b hb => hc.apart id _ _ b hl hg (ownB_hp.2 hb)
  have hle : I.le (I.plus bs w) := fun b o h => by
    have : memN bs b = false := by
      cases hm : memN bs b with
      | false => rfl
      | true => rw [(hbs b (memN_iff.1 hm)).1] at h; cases h
    simp [Imm.plus, this, h]
  have hJb : ∀ b ∈ bs, I.plus bs w b = w.heap[b]? := fun b hb => by simp [Imm.plus, memN_iff.2 hb]
  obtain ⟨q1, q2, q3⟩ := StRep.relay (R := [id]) (new := []) (ids' := ids) (J := I.plus bs w) hc.toStRep (fun p hp => by cases hp) (fun p hp => by cases hp) hle
    (fun b o h => by
      unfold Imm.plus at h
      split at h
      · exact h
      · exact hc.imm b o h)
    (fun b o h => by
      unfold Imm.plus at h
      split at h
      · rename_i hm; exact .inr ⟨⟨id, _, _, by simp, hl, hg, ownB_hp.2 (memN_iff.1 hm)⟩, fun p hp => by cases hp⟩
      · exact .inl h)
    (fun _ p hp => by cases hp)
  have hk2 : live ((id, none) :: st) k (.cells t sz ds) := live_del.2 ⟨hik.symm, hk⟩
  obtain ⟨p1, p2⟩ := q2.retell (st1 := (k, some (.immb t sz xs)) :: (id, none) :: st) (fun i bb hlb => by
    rcases live_cons.1 hlb with ⟨rfl, rfl⟩ | ⟨_, h2⟩
    · refine ⟨_, hk2, fun gb hb => ?_⟩
      obtain ⟨hs', b', us', e1, e2, e3, e4⟩ := hb
      have hmu : newMu ([] : List (Nat × Value × Blk)) μ = μ := by funext i; simp [newMu, lk]
      rw [hmu] at e3
      have e3' : RepL (I.plus bs w) noMu us'.toList ds := e3.sub fun j hj => by rw [hnm] at hj; cases hj
      have hx' := hA vs I (I.plus bs w) w bs hP hle hJb us'.toList e3'
      exact ⟨by rw [← hx'.1, e3.1, hs'], b', us', e1, e2, hx', e4⟩
    · exact ⟨_, h2, fun _ h => h⟩)
  exact ⟨_, _, env, _, ids, p1, fun t d hd => (hc.env t d hd).mono hle q1, q3.trans p2, .of_le q1, h⟩

end
end Go.Hk

/- Rows that are owned, by name and by address. -/
namespace Go.Hk

/-- A row at an address, of elements by value. -/
def RowA (e : TypeId) (sz : Nat) (es : List (List V)) (v : Value) : Asn where
  P := fun _ I w bs => (v = .slice none 0 0 ∧ es = [] ∧ bs = []) ∨ ∃ b cap cur, v = .slice (some ⟨b, 0, none⟩) es.length cap ∧ bs = [b] ∧ w.heap[b]? = some (.cells cur e (0, 0)) ∧ es.length ≤ cap ∧ cap ≤ maxLen ∧
    cur.size = cap * sz ∧ RepVL I (cur.toList.take (es.length * sz)) es.flatten ∧ (∀ c ∈ es, c.length = sz) ∧ (∀ c ∈ es, ∀ x ∈ c, V.one x = true) ∧ 0 < sz
  mono := fun h hp => by
    rcases hp with hp | ⟨b, cap, cur, h1, h2, h3, h4, h5, h6, h7, h8⟩
    · exact .inl hp
    · exact .inr ⟨b, cap, cur, h1, h2, h3, h4, h5, h6, h7.mono h, h8⟩
  loc := fun h hp => by
    rcases hp with hp | ⟨b, cap, cur, h1, h2, h3, h4⟩
    · exact .inl hp
    · exact .inr ⟨b, cap, cur, h1, h2, (h b (by simp [h2])).trans h3, h4⟩

section
variable {P : Program} {n : Nat} {F : List Nat} {Q : DQ} {tt : TT} {env env' : Env} {st st' : St} {ids ids' : List Nat} {todo : List DI} {I J : Imm} {μ : Mu} {w : World} {a : Act} {d : D}

end
end Go.Hk

/- Nothing appended, slices compared with nil; values that are hidden; stores of values that own memory. -/
namespace Go.Hk

structure PA0 where
  dx : D
  dst : Option Nat
  todo : List DI

/-- Appending nothing. -/
def papp0 (tt : TT) (n : Nat) (env : Env) (todo : List DI) : Option PA0 :=
  match next1 todo ([], []) with
  | some (_, o, todo') => match o.guard, o.op with
    | none, .call { callee := .builtin .append, args := ⟨[x, y]⟩, argTypes := ⟨[t, t']⟩ } => match Nat.beq t t', lk tt t, evO env x, evO env y with
      | true, some { sh := .sl e, .. }, some (.clip es), some (.imm (.sl [])) => match lk tt e, dstOk n o.dst with
        | some _, true => some ⟨.clip es, o.dst, todo'⟩
        | _, _ => none
      | true, some { sh := .sl e, .. }, some (.imm (.sl es)), some (.imm (.sl [])) => match lk tt e, dstOk n o.dst with
        | some _, true => some ⟨.imm (.sl es), o.dst, todo'⟩
        | _, _ => none
      | _, _, _, _ => none
    | _, _ => none
  | none => none

structure PEn where
  es : List (List V)
  eq : Bool
  dst : Option Nat
  todo : List DI

/-- A slice by value compared with nil. -/
def peqn (tt : TT) (n : Nat) (env : Env) (todo : List DI) : Option PEn :=
  match next1 todo ([], []) with
  | some (_, o, todo') => match o.guard, o.op with
    | none, .binOp .eql t x y _ => match lk tt t, evO env x, evO env y, dstOk n o.dst with
      | some { sh := .sl _, .. }, some (.imm (.sl es)), some .nils, true => some ⟨es, true, o.dst, todo'⟩
      | _, _, _, _ => none
    | none, .binOp .neq t x y _ => match lk tt t, evO env x, evO env y, dstOk n o.dst with
      | some { sh := .sl _, .. }, some (.imm (.sl es)), some .nils, true => some ⟨es, false, o.dst, todo'⟩
      | _, _, _, _ => none
    | _, _ => none
  | none => none

/-- Something that only stands for a value. -/
def ImmA (x : V) : Asn where
  P := fun vs I _ bs => bs = [] ∧ ∃ v, vs = [v] ∧ RepV I v x ∧ v.oneCell' = true
  mono := fun h ⟨h1, v, h2, h3, h4⟩ => ⟨h1, v, h2, h3.mono h, h4⟩
  loc := fun _ h => h

/-- A row whose slice is hidden. -/
def RowH (e : TypeId) (sz : Nat) (es : List (List V)) : Asn where
  P := fun vs I w bs => ∃ v, vs = [v] ∧ (RowA e sz es v).P [] I w bs
  mono := fun h ⟨v, h1, h2⟩ => ⟨v, h1, (RowA e sz es v).mono h h2⟩
  loc := fun h ⟨v, h1, h2⟩ => ⟨v, h1, (RowA e sz es v).loc h h2⟩

/-- Which values stand for hidden ones of the block 'j'. -/
def hvOk (I : Imm) (j : Nat) (vs : List Value) (c : Value) (d : D) : Prop := match d with
  | .hv i k => i = j ∧ vs[k]? = some c
  | d => RepD I noMu c d

/-- What is asked of a store of a value whose hidden parts are another block's. -/
def StoreAtJ (A B : Asn) (A' : Asn) (j b off : Nat) (ds : List D) : Prop := ∀ us vs I w b1 b2, A.P us I w b1 → B.P vs I w b2 → (∀ b ∈ b1, b ∉ b2) → b ∈ b1 ∧ ∃ cur t, w.heap[b]? = some (.cells cur t (0, 0)) ∧ off + ds.length ≤ cur.size ∧
  ∀ cs : List Value, cs.length = ds.length → (∀ (i : Nat) (c : Value) (d : D), cs[i]? = some c → ds[i]? = some d → hvOk I j vs c d) → (∀ c ∈ cs, c.oneCell' = true) →
    ∃ bs, (∀ b ∈ bs, b ∈ b1 ∨ b ∈ b2) ∧ A'.P [] I (w.setRow b (cur.toList.take off ++ cs ++ cur.toList.drop (off + ds.length)).toArray) bs

def nmOne (j : Nat) : List D → Bool
  | [] => true
  | .hv i _ :: r => Nat.beq i j && nmOne j r
  | d :: r => (match nmD d with | [] => true | _ => false) && nmOne j r

structure PRj where
  b : Nat
  off : Nat
  ds : List D
  todo : List DI

def prstoreJ (tt : TT) (env : Env) (id j id' : Nat) (todo : List DI) : Option PRj :=
  match next1 todo ([id, j], [id', id, j]) with
  | some (_, o, todo') => match o.guard, o.dst, o.op with
    | none, none, .store t p x => match lk tt t, evO env p, evO env x with
      | some i, some (.raw (.pointer (some ⟨b, off, none⟩))), some dx => match toCells dx with
        | some ds => match Nat.beq ds.length i.size, nmOne j ds with
          | true, true => some ⟨b, off, ds, todo'⟩
          | _, _ => none
        | none => none
      | _, _, _ => none
    | _, _, _ => none
  | none => none

section
variable {P : Program} {n : Nat} {F : List Nat} {Q : DQ} {tt : TT} {env env' : Env} {st st' : St} {ids ids' : List Nat} {k todo todo' : List DI} {I J : Imm} {μ : Mu} {w : World} {a : Act} {d : D}

theorem slice_of {v : Value} {es : List (List V)} (h : RepV I v (.sl es)) : ∃ ad len cap, v = .slice ad len cap ∧ len ≤ cap ∧ len = es.length := by
  cases h with
  | slnil => exact ⟨_, _, _, rfl, Nat.le_refl _, rfl⟩
  | sl0 ad => exact ⟨_, _, _, rfl, Nat.le_refl _, rfl⟩
  | sl b o len cap sz _ vs hl hc => exact ⟨_, _, _, rfl, hc, hl⟩

theorem g_append0 (htt : TTok P tt) {c : PA0} (h : papp0 tt n env todo = some c) (hk : G P n F Q c.todo (putE c.dst c.dx env) st ids) : G P n F Q todo env st ids := by
  have key : ∀ {todo' : List DI} {o : Oper} {all : List Oper} {x y : Operand} {t e : TypeId} {dx : D} {es : List (List V)} {ti : TyI}, next1 todo ([], []) = some (all, o, todo') → o.guard = none → o.op = .call { callee := .builtin .append, args := ⟨[x, y]⟩, argTypes := ⟨[t, t]⟩ } →
      P.underlying t = some (.slice e) → lk tt e = some ti → evO env x = some dx → evO env y = some (.imm (.sl [])) → (∀ I μ v, RepD I μ v dx → RepV I v (.sl es)) → dstOk n o.dst = true → G P n F Q todo' (putE o.dst dx env) st ids → G P n F Q todo env st ids := by
    intro todo' o all x y t e dx es ti h1 hg hop hu hi hx hy hd hdst hk
    refine g_step (fr := []) (wr := []) (rd := []) h1 ?_ hdst (fun c hc => by rw [hop] at hc; cases hc) hk
    intro I μ st1 ids1 a w hag hst hon
    refine ⟨fun _ => ?_, fun hw => by rw [wanted_none hg] at hw; cases hw⟩
    have hops := opsOn_of hon
    rw [hop] at hops
    have rx := hops x (by simp [Op.operands, Call.operands]) _ hx
    have ry := (hops y (by simp [Op.operands, Call.operands]) _ hy).immInv
    obtain ⟨ad, len, cap, e1, e2, _⟩ := slice_of (hd _ _ _ rx)
    obtain ⟨ady, ly, capy, e3, e4, e5⟩ := slice_of ry
    obtain ⟨inf, z, z1, z2, z3, z4, z5, z6⟩ := (htt e ti hi).info
    simp only [List.length_nil] at e5
    subst e5
    have hr : (Builtin.append_ #[t, t] o.type #[a.eval x, a.eval y]).run P w = .ok (a.eval x) w := by
      rw [e1, e3]
      cases ad <;> cases ady <;> simp [Builtin.append_, run_underlying hu, sizeOf, typeInfo, z1, Builtin.lenOf, e2, Builtin.firstCells, loadCells, loadCellsFrom, storeCells]
    have hrun : (execOp a.eval o).run P w = .ok (.value (a.eval x)) w := by
      simp only [execOp, hop, resolve, invoke, builtin, Sem.run_bind, Sem.run_pure, Result.andThen_ok, List.map_toArray, List.map_cons, List.map_nil, hr]
    rw [hrun]
    exact ⟨I, μ, hst, rx, Mu.le_refl μ, Ext.refl _ _ _ _⟩
  unfold papp0 at h
  split at h
  · rename_i all o todo' h1
    split at h
    · rename_i x y t t' hg hop
      split at h
      · rename_i e _ _ _ _ es htt' ht hx hy
        have := Nat.eq_of_beq_eq_true htt'
        subst this
        split at h
        · rename_i ti hi hd
          cases h
          exact key h1 hg hop (htt.sh ht) hi hx hy (fun I μ v h => by cases h; assumption) hd hk
        · cases h
      · rename_i e _ _ _ _ es htt' ht hx hy
        have := Nat.eq_of_beq_eq_true htt'
        subst this
        split at h
        · rename_i ti hi hd
          cases h
          exact key h1 hg hop (htt.sh ht) hi hx hy (fun I μ v h => h.immInv) hd hk
        · cases h
      · cases h
    · cases h
  · cases h

/-- An operation whose value the run alone tells. -/
theorem dgo_yx {α : Type} {all rest : List Oper} {o : Oper} (f : α → D) (good : α → Prop) (hnd : ∀ c, o.op ≠ .defer c) (hg : o.guard = none) (hn : ∀ t, o.dst = some t → t < n)
    (hy : ∀ I μ a w, StRep I μ st ids w → OpsOn I μ env a o.op → ∃ x v, good x ∧ (execOp a.eval o).run P w = .ok (.value v) w ∧ RepD I μ v (f x))
    (h : ∀ x, good x → DGo P n F Q (.ops all rest :: k) (putE o.dst (f x) env) st ids) : DGo P n F Q (.ops all (o :: rest) :: k) env st ids := by
  intro b cs I μ a w items hd hc
  obtain ⟨j, is, rfl, hr, hk⟩ := den_ops hd
  obtain ⟨hj, hr'⟩ := get_of_drop hr
  have hon : EnvOn (o.looksAt all.toArray) I μ env a := fun t _ d hl => hc.env t d hl
  obtain ⟨x, v, hx, hrun, hv⟩ := hy I μ a w hc.toStRep (opsOn_of hon)
  obtain ⟨p1, p2, p3⟩ := put_env (n := n) (w := w) (dst := o.dst) (fun t d hl => hc.env t d hl) hc.size hn hv
  have := h x hx b cs I μ (a.put o.dst v) w (.inRegion all.toArray (List.range' (j + 1) rest.length) :: is) ⟨⟨rfl, j + 1, hr', rfl⟩, hk⟩
    { hc.toStRep with size := p2, env := by cases hdst : o.dst <;> simpa [putE, hdst] using p1, defers := by rw [p3]; exact hc.defers }
  rw [p3] at this
  have hlen : (o :: rest).length = rest.length + 1 := rfl
  rw [hlen, List.range'_succ]
  refine reach_op hj (wanted_none hg) hnd ?_
  unfold uponR
  rw [hrun]
  exact this

theorem equalIn_slice (m : Nat) {t e : TypeId} (hs : P.underlying t = some (.slice e)) (ad : Option Addr) (len cap : Nat) : (Op.equalIn (m + 1) t (.slice ad len cap) (.slice none 0 0)).run P w = .ok ad.isNone w := by
  cases ad <;> simp [Op.equalIn, run_underlying hs]
theorem equal_slice {t e : TypeId} (hs : P.underlying t = some (.slice e)) (ad : Option Addr) (len cap : Nat) : (Op.equal t (.slice ad len cap) (.slice none 0 0)).run P w = .ok ad.isNone w := equalIn_slice 9999 hs ad len cap

theorem eql_slice_nil {t e : TypeId} (hs : P.underlying t = some (.slice e)) (x y : Operand) (ad : Option Addr) (len cap : Nat) :
    (do eqGuard .eql t x y (.slice ad len cap) (.slice none 0 0); binOp .eql t (.slice ad len cap) (.slice none 0 0) : Sem Value).run P w = .ok (.bool ad.isNone) w ∧
    (do eqGuard .neq t x y (.slice ad len cap) (.slice none 0 0); binOp .neq t (.slice ad len cap) (.slice none 0 0) : Sem Value).run P w = .ok (.bool (!ad.isNone)) w := by
  constructor
  · simp only [Sem.run_bind, eqGuard_ok .eql t x y (.slice ad len cap) (.slice none 0 0) (by simp) (by simp), Result.andThen_ok, binOp, equal_slice hs, Sem.run_pure]
  · simp only [Sem.run_bind, eqGuard_ok .neq t x y (.slice ad len cap) (.slice none 0 0) (by simp) (by simp), Result.andThen_ok, binOp, equal_slice hs, Sem.run_pure]

theorem dgo_eqnil (htt : TTok P tt) {all rest : List Oper} {o : Oper} {c : PEn} (h : peqn tt n env (.ops all (o :: rest) :: k) = some c) (hk : ∀ b : Bool, (c.es ≠ [] → b = !c.eq) → DGo P n F Q c.todo (putE c.dst (.imm (.bool b)) env) st ids) :
    DGo P n F Q (.ops all (o :: rest) :: k) env st ids := by
  unfold peqn at h
  simp only [next1] at h
  have hnone : ∀ {I : Imm} {v : Value} {es : List (List V)}, RepV I v (.sl es) → ∃ ad len cap, v = .slice ad len cap ∧ (es ≠ [] → ad.isNone = false) := by
    intro I v es h
    cases h with
    | slnil => exact ⟨_, _, _, rfl, fun h => absurd rfl h⟩
    | sl0 ad => exact ⟨_, _, _, rfl, fun _ => rfl⟩
    | sl b o len cap sz _ vs hl hc => exact ⟨_, _, _, rfl, fun _ => rfl⟩
  split at h
  · rename_i t x y t' hg hop
    split at h
    · rename_i e _ _ _ _ es ht hx hy hd
      cases h
      have hn : ∀ t, o.dst = some t → t < n := fun t ht => by
        unfold dstOk at hd; rw [ht] at hd; simpa [Nat.blt_eq] using hd
      refine dgo_yx (fun b => .imm (.bool b)) (fun b => es ≠ [] → b = false) (fun c hc => by rw [hop] at hc; cases hc) hg hn (fun I μ a w hst hops => ?_) fun b hb => hk b hb
      rw [hop] at hops
      obtain ⟨ad, len, cap, e1, e2⟩ := hnone (hops x (by simp [Op.operands]) _ hx).immInv
      have e3 : a.eval y = .slice none 0 0 := by
        have := hops y (by simp [Op.operands]) _ hy
        generalize a.eval y = v at this
        cases this; rfl
      refine ⟨ad.isNone, .bool ad.isNone, e2, ?_, .imm _ _ (.bool _)⟩
      simp only [execOp, hop, e1, e3]
      exact ok_of_sem (eql_slice_nil (htt.sh ht) x y ad len cap).1
    · cases h
  · rename_i t x y t' hg hop
    split at h
    · rename_i e _ _ _ _ es ht hx hy hd
      cases h
      have hn : ∀ t, o.dst = some t → t < n := fun t ht => by
        unfold dstOk at hd; rw [ht] at hd; simpa [Nat.blt_eq] using hd
      refine dgo_yx (fun b => .imm (.bool b)) (fun b => es ≠ [] → b = true) (fun c hc => by rw [hop] at hc; cases hc) hg hn (fun I μ a w hst hops => ?_) fun b hb => hk b hb
      rw [hop] at hops
      obtain ⟨ad, len, cap, e1, e2⟩ := hnone (hops x (by simp [Op.operands]) _ hx).immInv
      have e3 : a.eval y = .slice none 0 0 := by
        have := hops y (by simp [Op.operands]) _ hy
        generalize a.eval y = v at this
        cases this; rfl
      refine ⟨!ad.isNone, .bool (!ad.isNone), fun h => by rw [e2 h]; rfl, ?_, .imm _ _ (.bool _)⟩
      simp only [execOp, hop, e1, e3]
      exact ok_of_sem (eql_slice_nil (htt.sh ht) x y ad len cap).2
    · cases h
  · cases h

/-- A value becomes a hidden one. -/
theorem dgo_hideImm (t j : Nat) {d0 : D} {x : V} (ht : lk env t = some d0) (hd : toV d0 = some x) (hx : V.one x = true) (h : DGo P n F Q todo ((t, .hv j 0) :: env) ((j, some (.hp (ImmA x))) :: st) ids') : DGo P n F Q todo env st (j :: ids') := by
  refine dgo_sem fun I μ a w hc => ?_
  have hr : RepV I (a.tmps.getD t undef) x := toV_rep hd (hc.env t _ ht)
  have h1 := hr.one hx
  obtain ⟨q1, q2, q3⟩ := StRep.relay (R := []) (new := [(j, hpG [a.tmps.getD t undef] [], .hp (ImmA x))]) (ids' := ids') hc.toStRep
    (fun p hp b hb => by rw [List.mem_singleton.1 hp] at hb; cases ownB_hp.1 hb)
    (fun p hp q hq b _ _ => by rw [List.mem_singleton.1 hp, List.mem_singleton.1 hq]) (Imm.le_refl I) hc.imm (fun b o h => .inl h)
    (fun _ p hp => by rw [List.mem_singleton.1 hp]; exact ⟨_, [], rfl, rfl, _, rfl, hr, h1⟩)
  refine ⟨I, _, _, _, ids', q2, fun t' d hd => ?_, q3, .of_le q1, h⟩
  by_cases e : t = t'
  · subst e
    rw [lk_cons_self] at hd; cases hd
    exact .hv _ j 0 [a.tmps.getD t undef] [] (by simp [newMu, lk]) rfl h1
  · rw [lk_cons_ne _ _ e] at hd; exact (hc.env t' d hd).mono (Imm.le_refl I) q1

theorem dgo_hideOwn (t id j : Nat) {len : Nat} {e : TypeId} {sz : Nat} {es : List (List V)} (ht : lk env t = some (.own id len)) (hl : lk st id = some (some (.row e sz es))) (h : DGo P n F Q todo ((t, .hv j 0) :: env) ((j, some (.hp (RowH e sz es))) :: (id, none) :: st) ids') : DGo P n F Q todo env st (j :: ids') := by
  refine dgo_sem fun I μ a w hc => ?_
  obtain ⟨g, hg, xs, ⟨_, hown⟩, hrep, hsz, hone, hp⟩ := hc.blk id _ hl
  have hv : a.tmps.getD t undef = g := by
    have := hc.env t _ ht
    generalize a.tmps.getD t undef = v at this
    cases this with
    | own _ _ ad cap hm => rw [hm] at hg; cases hg; rfl
  have hg1 : g.oneCell' = true := by
    rcases hown with ⟨rfl, _⟩ | ⟨b, cap, cur, rfl, _⟩ <;> rfl
  obtain ⟨bs, hP, hbs⟩ : ∃ bs, (RowA e sz es g).P [] I w bs ∧ ∀ b ∈ bs, ownB g b := by
    rcases hown with ⟨rfl, h0⟩ | ⟨b, cap, cur, rfl, _, h2, h3, h4, h5, h6⟩
    · exact ⟨[], .inl ⟨rfl, List.eq_nil_of_length_eq_zero h0, rfl⟩, fun b hb => by cases hb⟩
    · rw [← h6] at hrep
      exact ⟨[b], .inr ⟨b, cap, cur, rfl, rfl, h2, h3, h4, h5, hrep, hsz, hone, hp⟩, fun b hb => by rw [List.mem_singleton.1 hb]; rfl⟩
  obtain ⟨q1, q2, q3⟩ := StRep.relay (R := [id]) (new := [(j, hpG [g] bs, .hp (RowH e sz es))]) (ids' := ids') hc.toStRep
    (fun p hp b hb => by
      rw [List.mem_singleton.1 hp] at hb
      exact ⟨id, _, _, by simp, hl, hg, hbs b (ownB_hp.1 hb)⟩)
    (fun p hp q hq b _ _ => by rw [List.mem_singleton.1 hp, List.mem_singleton.1 hq]) (Imm.le_refl I) hc.imm (fun b o h => .inl h)
    (fun _ p hp => by rw [List.mem_singleton.1 hp]; exact ⟨_, bs, rfl, _, rfl, hP⟩)
  refine ⟨I, _, _, _, ids', q2, fun t' d hd => ?_, q3, .of_le q1, h⟩
  by_cases e : t = t'
  · subst e
    rw [lk_cons_self] at hd; cases hd
    rw [hv]
    exact .hv _ j 0 [g] bs (by simp [newMu, lk]) rfl hg1
  · rw [lk_cons_ne _ _ e] at hd; exact (hc.env t' d hd).mono (Imm.le_refl I) q1

theorem nmOne_hv {j : Nat} : ∀ {ds : List D} {i : Nat} {d : D}, nmOne j ds = true → ds[i]? = some d → (∃ k, d = .hv j k) ∨ nmD d = []
  | [], i, d, _, h => by simp at h
  | x :: r, i, d, hn, h => by
    cases i with
    | zero =>
      simp at h; subst h
      cases x <;> simp only [nmOne, Bool.and_eq_true] at hn <;> first
        | exact .inl ⟨_, by rw [Nat.eq_of_beq_eq_true hn.1]⟩
        | (right; revert hn; split <;> simp_all)
    | succ i =>
      refine nmOne_hv (ds := r) (i := i) ?_ (by simpa using h)
      cases x <;> simp only [nmOne, Bool.and_eq_true] at hn <;> exact hn.2

/-- A store of a value whose hidden parts own memory. -/
theorem g_rstoreJ (htt : TTok P tt) (id j id' : Nat) {A B : Asn} (A' : Asn) {c : PRj} (h : prstoreJ tt env id j id' todo = some c) (hl : lk st id = some (some (.hp A))) (hlj : lk st j = some (some (.hp B))) (hne : id ≠ j) (hA : StoreAtJ A B A' j c.b c.off c.ds)
    (hk : G P n F Q c.todo env ((id', some (.hp A')) :: (id, none) :: (j, none) :: st) ids') : G P n F Q todo env st (id' :: ids') := by
  unfold prstoreJ at h
  split at h
  · rename_i all o todo' h1
    split at h
    · rename_i t p x hgd hdst hop
      split at h
      · rename_i i b off dx ht hp hx
        split at h
        · rename_i ds hds
          split at h
          · rename_i hsz hnm
            cases h
            simp only at hA hk
            have hk : G P n F Q todo' (putE o.dst .undef env) ([(id', some (.hp A')), (id, none), (j, none)] ++ st) ids' := by rw [hdst]; exact hk
            refine g_step (fr := [id']) (wr := [(id', some (.hp A')), (id, none), (j, none)]) (rd := [id, j]) h1 ?_ (by simp [dstOk, hdst]) (fun c hc => by rw [hop] at hc; cases hc) hk
            intro I μ st1 ids1 a w hag hst hon
            refine ⟨fun _ => ?_, fun hw => by rw [wanted_none hgd] at hw; cases hw⟩
            have hops := opsOn_of hon
            rw [hop] at hops
            have rp := (hops p (by simp [Op.operands]) _ hp).rawInv
            obtain ⟨r1, r2⟩ := toCells_rep hds (hops x (by simp [Op.operands]) _ hx)
            have hl1 : live st1 id (.hp A) := by unfold live; rw [hag id (by simp)]; exact hl
            have hl2 : live st1 j (.hp B) := by unfold live; rw [hag j (by simp)]; exact hlj
            obtain ⟨g1, hg1, us, b1, rfl, hP1⟩ := hst.blk id _ hl1
            obtain ⟨g2, hg2, vs, b2, rfl, hP2⟩ := hst.blk j _ hl2
            obtain ⟨k1, cur, bt, k2, k3, k4⟩ := hA us vs I w b1 b2 hP1 hP2 fun b h1 h2 => hne (hst.inj id j _ _ _ _ b hl1 hl2 hg1 hg2 (ownB_hp.2 h1) (ownB_hp.2 h2))
            have hvl : (a.eval x).cells.toList.length = ds.length := r1.1
            have hs := Nat.eq_of_beq_eq_true hsz
            have hrun : (execOp a.eval o).run P w = .ok .skip (w.setRow b (cur.toList.take off ++ (a.eval x).cells.toList ++ cur.toList.drop (off + (a.eval x).cells.toList.length)).toArray) := by
              simp only [execOp, hop, rp, Sem.run_bind, storeAt_ok (htt t i ht) k2 (by rw [← hs, ← hvl]; simp) r2 (show off + (a.eval x).cells.toList.length ≤ cur.size by rw [hvl]; exact k3), Result.andThen_ok, Sem.run_pure]
            rw [hrun, hvl]
            obtain ⟨bs, z1, z2⟩ := k4 (a.eval x).cells.toList hvl (fun q c d hc hd => by
              have hr := r1.2 q c d hc hd
              rcases nmOne_hv hnm hd with ⟨kk, rfl⟩ | hno
              · cases hr with
                | hv _ _ _ us' bs' hm hi h1 =>
                  rw [hg2] at hm
                  have : vs = us' := by
                    simp only [hpG, Option.some.injEq, Value.tuple.injEq, Array.mk.injEq, List.cons.injEq, Value.agg.injEq, and_true] at hm
                    simpa using hm.1
                  exact ⟨rfl, by rw [this]; exact hi⟩
              · have : RepD I noMu c d := hr.sub fun j hj => by rw [hno] at hj; cases hj
                cases d <;> first | exact this | simp [nmD] at hno) r2
            -- the store, and the names
            obtain ⟨p1, p2⟩ := hst.update (id := id) (blk := .hp A) (blk' := .hp { P := fun _ _ w' bs' => w' = w.setRow b (cur.toList.take off ++ (a.eval x).cells.toList ++ cur.toList.drop (off + ds.length)).toArray ∧ bs' = b1 ∨ True, mono := fun _ h => h, loc := fun _ _ => .inr trivial }) (g := hpG us b1) (b := b) hl1 hg1 (ownB_hp.2 k1) (w' := w.setRow b (cur.toList.take off ++ (a.eval x).cells.toList ++ cur.toList.drop (off + ds.length)).toArray) (setRow_size w b _) rfl rfl rfl (fun k hk => setRow_other w b k _ hk) ⟨us, b1, rfl, .inr trivial⟩
            obtain ⟨q1, q2, q3⟩ := StRep.relay (R := [id, j]) (new := [(id', hpG [] bs, .hp A')]) (ids' := ids1) p1
              (fun p hp b hb => by
                rw [List.mem_singleton.1 hp] at hb
                rcases z1 b (ownB_hp.1 hb) with h | h
                · exact ⟨id, _, _, by simp, live_cons.2 (.inl ⟨rfl, rfl⟩), hg1, ownB_hp.2 h⟩
                · exact ⟨j, _, _, by simp, live_cons.2 (.inr ⟨fun e => hne e.symm, hl2⟩), hg2, ownB_hp.2 h⟩)
              (fun p hp q hq b _ _ => by rw [List.mem_singleton.1 hp, List.mem_singleton.1 hq]) (Imm.le_refl I) p1.imm (fun b o h => .inl h)
              (fun _ p hp => by rw [List.mem_singleton.1 hp]; exact ⟨[], bs, rfl, z2⟩)
            have hsame : ∀ i bb, live ([(id', some (.hp A')), (id, none), (j, none)] ++ st1) i bb → live (newSt [(id', hpG [] bs, Blk.hp A')] ++ (delSt [id, j] ++ (id, some (.hp { P := fun _ _ w' bs' => w' = w.setRow b (cur.toList.take off ++ (a.eval x).cells.toList ++ cur.toList.drop (off + ds.length)).toArray ∧ bs' = b1 ∨ True, mono := fun _ h => h, loc := fun _ _ => .inr trivial })) :: st1)) i bb := by
              intro i bb hlb
              rcases live_cons.1 hlb with ⟨h1, h2⟩ | ⟨h1, h2⟩
              · exact live_cons.2 (.inl ⟨h1, h2⟩)
              · obtain ⟨h3, h4⟩ := live_del.1 h2
                obtain ⟨h5, h6⟩ := live_del.1 h4
                exact live_cons.2 (.inr ⟨h1, live_del.2 ⟨h3, live_del.2 ⟨h5, live_cons.2 (.inr ⟨h3, h6⟩)⟩⟩⟩)
            obtain ⟨y1, y2⟩ := q2.retell (st1 := [(id', some (.hp A')), (id, none), (j, none)] ++ st1) fun i bb hlb => ⟨bb, hsame i bb hlb, fun _ h => h⟩
            exact ⟨I, _, y1, .undef _, q1, (p2.trans q3).trans y2⟩
          · cases h
        · cases h
      · cases h
    · cases h
  · cases h

end
end Go.Hk

/- Trees that are owned: terms and patterns whose rows are known by address. -/
namespace Go.Hk
open Go.Proofs

def sVal (l : Str) : Value := .string ⟨l.toArray⟩

/-- A node and what hangs below it: 's': a term (with a row of terms and one of patterns), or a pattern (with a row of patterns). -/
inductive An where
  | mk (s : Bool) (o n : Int) (x : Str) (v : Value) (ks : List An) (u : Value) (ps : List An)

def tyA : Bool → TypeId
  | true => 26
  | false => 49
def szA : Bool → Nat
  | true => 5
  | false => 4
def sortA : An → Bool
  | .mk s _ _ _ _ _ _ _ => s
def rowsA : An → List Value
  | .mk s _ _ _ v _ u _ => match s with
    | true => [v, u]
    | false => [v]
/-- The cells of a node. -/
def cA : An → List Value
  | .mk s o n x v _ u _ => match s with
    | true => [.int .i64 o, .int .i64 n, sVal x, v, u]
    | false => [.int .i64 o, .int .i64 n, sVal x, v]
mutual
/-- What a node stands for. -/
def vA : An → List V
  | .mk s o n x _ ks _ ps => match s with
    | true => [.int .i64 o, .int .i64 n, .str x, .sl (vAs ks), .sl (vAs ps)]
    | false => [.int .i64 o, .int .i64 n, .str x, .sl (vAs ks)]
def vAs : List An → List (List V)
  | [] => []
  | a :: r => vA a :: vAs r
end
theorem vAs_eq : ∀ l : List An, vAs l = l.map vA
  | [] => rfl
  | a :: r => by simp [vAs, vAs_eq r]
@[simp] theorem vAs_length (l : List An) : (vAs l).length = l.length := by rw [vAs_eq]; simp

theorem vAs_append (a b : List An) : vAs (a ++ b) = vAs a ++ vAs b := by simp [vAs_eq]

def blkOf : Value → Nat
  | .slice (some a) _ _ => a.block
  | _ => 0
def rowBl (v : Value) : Nat → List Nat
  | 0 => []
  | _ + 1 => [blkOf v]

def rowW (w : World) (ty : TypeId) (sz : Nat) (v : Value) (len : Nat) : Prop :=
  (len = 0 ∧ (∃ a c, v = .slice a 0 c) ∧ ∀ I, RepV I v (.sl [])) ∨
  (0 < len ∧ ∃ b cap cur, v = .slice (some ⟨b, 0, none⟩) len cap ∧ w.heap[b]? = some (.cells cur ty (0, 0)) ∧ len ≤ cap ∧ cap ≤ maxLen ∧ cur.size = cap * sz)

/-- Cells at an address. -/
def atW (w : World) (b off : Nat) (cs : List Value) : Prop := ∃ cur ty k, w.heap[b]? = some (.cells cur ty k) ∧ ∀ (j : Nat) (c : Value), cs[j]? = some c → cur[off + j]? = some c

mutual
/-- What hangs below a node lies in memory. -/
def anW (w : World) : An → Prop
  | .mk s _ _ _ v ks u ps => (rowW w (tyA s) (szA s) v ks.length ∧ ansW w s (blkOf v) 0 ks) ∧ (s = true → rowW w (tyA false) (szA false) u ps.length ∧ ansW w false (blkOf u) 0 ps)
def ansW (w : World) (s : Bool) (b : Nat) : Nat → List An → Prop
  | _, [] => True
  | i, a :: r => (sortA a = s ∧ atW w b (i * szA s) (cA a) ∧ anW w a) ∧ ansW w s b (i + 1) r
end
mutual
def anB : An → List Nat
  | .mk s _ _ _ v ks u ps => (rowBl v ks.length ++ ansB ks) ++ match s with
    | true => rowBl u ps.length ++ ansB ps
    | false => []
def ansB : List An → List Nat
  | [] => []
  | a :: r => anB a ++ ansB r
end

theorem ansB_append (a b : List An) : ansB (a ++ b) = ansB a ++ ansB b := by
  induction a with
  | nil => rfl
  | cons x r ih => simp [ansB, ih]

theorem ansW_get {w : World} {s : Bool} {b : Nat} : ∀ {gs : List An} {i j : Nat} {a : An}, ansW w s b i gs → gs[j]? = some a → sortA a = s ∧ atW w b ((i + j) * szA s) (cA a) ∧ anW w a
  | [], i, j, a, _, h => by simp at h
  | x :: r, i, 0, a, hw, h => by
    simp at h; subst h
    simp only [ansW] at hw
    exact hw.1
  | x :: r, i, j + 1, a, hw, h => by
    simp only [ansW] at hw
    have := ansW_get hw.2 (j := j) (by simpa using h)
    rwa [show i + 1 + j = i + (j + 1) by omega] at this

theorem ansW_append {w : World} {s : Bool} {b : Nat} : ∀ {gs bs : List An} {i : Nat}, ansW w s b i (gs ++ bs) ↔ ansW w s b i gs ∧ ansW w s b (i + gs.length) bs
  | [], bs, i => by simp [ansW]
  | x :: r, bs, i => by
    simp only [List.cons_append, ansW, List.length_cons]
    rw [ansW_append, show i + 1 + r.length = i + (r.length + 1) by omega, ← and_assoc]

theorem rowW_loc {w w' : World} {ty : TypeId} {sz : Nat} {v : Value} {len : Nat} (h : ∀ k ∈ rowBl v len, w'.heap[k]? = w.heap[k]?) (hr : rowW w ty sz v len) : rowW w' ty sz v len := by
  rcases hr with hr | ⟨h0, b, cap, cur, rfl, h1, h2⟩
  · exact .inl hr
  · refine .inr ⟨h0, b, cap, cur, rfl, (h b ?_).trans h1, h2⟩
    cases len with
    | zero => omega
    | succ n => simp [rowBl, blkOf]

theorem atW_loc {w w' : World} {b off : Nat} {cs : List Value} (h : w'.heap[b]? = w.heap[b]?) (ha : atW w b off cs) : atW w' b off cs := by
  obtain ⟨cur, ty, k, h1, h2⟩ := ha
  exact ⟨cur, ty, k, h.trans h1, h2⟩

mutual
theorem anW_loc {w w' : World} : ∀ {a : An}, (∀ k ∈ anB a, w'.heap[k]? = w.heap[k]?) → anW w a → anW w' a
  | .mk s o n x v ks u ps, h, ha => by
    simp only [anW] at ha ⊢
    simp only [anB, List.mem_append] at h
    obtain ⟨⟨h1, h2⟩, h3⟩ := ha
    refine ⟨⟨rowW_loc (fun k hk => h k (.inl (.inl hk))) h1, ?_⟩, fun hs => ?_⟩
    · exact ansW_loc (fun hne => h (blkOf v) (.inl (.inl (by cases ks with | nil => exact absurd rfl hne | cons => simp [rowBl])))) (fun k hk => h k (.inl (.inr hk))) h2
    · subst hs
      obtain ⟨h4, h5⟩ := h3 rfl
      simp only [List.mem_append] at h
      exact ⟨rowW_loc (fun k hk => h k (.inr (.inl hk))) h4, ansW_loc (fun hne => h (blkOf u) (.inr (.inl (by cases ps with | nil => exact absurd rfl hne | cons => simp [rowBl])))) (fun k hk => h k (.inr (.inr hk))) h5⟩
theorem ansW_loc {w w' : World} {s : Bool} {b : Nat} : ∀ {gs : List An} {i : Nat}, (gs ≠ [] → w'.heap[b]? = w.heap[b]?) → (∀ k ∈ ansB gs, w'.heap[k]? = w.heap[k]?) → ansW w s b i gs → ansW w' s b i gs
  | [], _, _, _, _ => by simp [ansW]
  | a :: r, i, hb, h, ha => by
    simp only [ansW] at ha ⊢
    simp only [ansB, List.mem_append] at h
    exact ⟨⟨ha.1.1, atW_loc (hb (by simp)) ha.1.2.1, anW_loc (fun k hk => h k (.inl hk)) ha.1.2.2⟩, ansW_loc (fun _ => hb (by simp)) (fun k hk => h k (.inr hk)) ha.2⟩
end

theorem vA_length (a : An) : (vA a).length = szA (sortA a) := by
  obtain ⟨s, o, n, x, v, ks, u, ps⟩ := a
  cases s <;> simp [vA, sortA, szA]
theorem cA_length (a : An) : (cA a).length = szA (sortA a) := by
  obtain ⟨s, o, n, x, v, ks, u, ps⟩ := a
  cases s <;> simp [cA, sortA, szA]
theorem rowW_one {w : World} {ty : TypeId} {sz : Nat} {v : Value} {len : Nat} (h : rowW w ty sz v len) : v.oneCell' = true := by
  rcases h with ⟨_, ⟨a, c, rfl⟩, _⟩ | ⟨_, b, cap, cur, rfl, _⟩ <;> rfl

theorem cA_one {w : World} {a : An} (h : anW w a) : ∀ c ∈ cA a, c.oneCell' = true := by
  obtain ⟨s, o, n, x, v, ks, u, ps⟩ := a
  simp only [anW] at h
  have h1 := rowW_one h.1.1
  intro c hc
  cases s with
  | true =>
    have h2 := rowW_one (h.2 rfl).1
    simp only [cA, List.mem_cons, List.not_mem_nil, or_false] at hc
    rcases hc with rfl | rfl | rfl | rfl | rfl <;> first | rfl | assumption
  | false =>
    simp only [cA, List.mem_cons, List.not_mem_nil, or_false] at hc
    rcases hc with rfl | rfl | rfl | rfl <;> first | rfl | assumption

theorem RepV.encStr (I : Imm) (l : List UInt8) : RepV I (sVal l) (.str l) := .str _ _ (by simp)

/-- Where all blocks are immutable, a tree stands for its data. -/
theorem row_frz {w : World} {J : Imm} {s : Bool} {v : Value} {gs : List An} (hr : rowW w (tyA s) (szA s) v gs.length) (hw : ansW w s (blkOf v) 0 gs) (hJ : ∀ k ∈ rowBl v gs.length, J k = w.heap[k]?)
    (ih : ∀ a ∈ gs, RepVL J (cA a) (vA a)) : RepV J v (.sl (vAs gs)) := by
  rcases hr with ⟨h0, _, h1⟩ | ⟨h0, b, cap, cur, rfl, h1, h2, h3, h4⟩
  · have : gs = [] := List.eq_nil_of_length_eq_zero h0
    subst this
    exact h1 J
  · have hJb : J b = some (.cells cur (tyA s) (0, 0)) := by
      rw [hJ b (by cases gs with | nil => simp at h0 | cons => simp [rowBl, blkOf]), h1]
    have hb : blkOf (.slice (some ⟨b, 0, none⟩) gs.length cap) = b := rfl
    rw [hb] at hw
    have hget : ∀ (i : Nat) (e : List V) (j : Nat) (x : V), (vAs gs)[i]? = some e → e[j]? = some x → ∃ a c, gs[i]? = some a ∧ (cA a)[j]? = some c ∧ cur[i * szA s + j]? = some c ∧ c.oneCell' = true ∧ RepV J c x := by
      intro i e j x hi hj
      rw [vAs_eq, List.getElem?_map] at hi
      cases ha : gs[i]? with
      | none => rw [ha] at hi; cases hi
      | some a =>
        rw [ha] at hi; cases hi
        obtain ⟨g1, g2, g3⟩ := ansW_get hw ha
        have hrep := ih a (List.mem_of_getElem? ha)
        have hlt : j < (cA a).length := by rw [hrep.1]; exact (List.getElem?_eq_some_iff.1 hj).1
        have hc := List.getElem?_eq_getElem hlt
        obtain ⟨cur', ty, k, q1, q2⟩ := g2
        rw [h1] at q1; cases q1
        refine ⟨a, _, rfl, hc, ?_, cA_one g3 _ (List.mem_of_getElem? hc), hrep.2 j _ x hc hj⟩
        have := q2 j _ hc
        rwa [Nat.zero_add] at this
    refine .sl b 0 gs.length cap (szA s) (vAs gs) (fun i j => (cur[i * szA s + j]?).getD undef) (by simp) h2 h3 (fun e he => ?_) (fun i e j x hi hj => ?_) (fun i e j x hi hj => ?_)
    · rw [vAs_eq] at he
      obtain ⟨a, ha, rfl⟩ := List.mem_map.1 he
      obtain ⟨i, hi⟩ := List.getElem?_of_mem ha
      rw [vA_length, (ansW_get hw hi).1]
    · obtain ⟨a, c, k1, k2, k3, k4, k5⟩ := hget i e j x hi hj
      simp [Imm.cell, hJb, k3, k4]
    · obtain ⟨a, c, k1, k2, k3, k4, k5⟩ := hget i e j x hi hj
      simpa [k3] using k5

mutual
theorem an_frz {w : World} {J : Imm} : ∀ {a : An}, anW w a → (∀ k ∈ anB a, J k = w.heap[k]?) → RepVL J (cA a) (vA a)
  | .mk s o n x v ks u ps, h, hJ => by
    simp only [anW] at h
    simp only [anB, List.mem_append] at hJ
    have hv : RepV J v (.sl (vAs ks)) := row_frz h.1.1 h.1.2 (fun k hk => hJ k (.inl (.inl hk))) (ans_frz h.1.2 fun k hk => hJ k (.inl (.inr hk)))
    cases s with
    | true =>
      simp only [List.mem_append] at hJ
      obtain ⟨h4, h5⟩ := h.2 rfl
      have hu : RepV J u (.sl (vAs ps)) := row_frz h4 h5 (fun k hk => hJ k (.inr (.inl hk))) (ans_frz h5 fun k hk => hJ k (.inr (.inr hk)))
      refine ⟨rfl, fun i c y h1 h2 => ?_⟩
      simp only [cA, vA] at h1 h2
      match i with
      | 0 => cases h1; cases h2; exact .int _ _
      | 1 => cases h1; cases h2; exact .int _ _
      | 2 => cases h1; cases h2; exact .encStr _ _
      | 3 => cases h1; cases h2; exact hv
      | 4 => cases h1; cases h2; exact hu
      | i + 5 => simp at h1
    | false =>
      refine ⟨rfl, fun i c y h1 h2 => ?_⟩
      simp only [cA, vA] at h1 h2
      match i with
      | 0 => cases h1; cases h2; exact .int _ _
      | 1 => cases h1; cases h2; exact .int _ _
      | 2 => cases h1; cases h2; exact .encStr _ _
      | 3 => cases h1; cases h2; exact hv
      | i + 4 => simp at h1
theorem ans_frz {w : World} {J : Imm} {s : Bool} {b : Nat} : ∀ {gs : List An} {i : Nat}, ansW w s b i gs → (∀ k ∈ ansB gs, J k = w.heap[k]?) → ∀ a ∈ gs, RepVL J (cA a) (vA a)
  | [], _, _, _ => fun a h => by cases h
  | x :: r, i, hw, hJ => by
    simp only [ansW] at hw
    simp only [ansB, List.mem_append] at hJ
    have h1 := an_frz hw.1.2.2 fun k hk => hJ k (.inl hk)
    have h2 := ans_frz hw.2 (fun k hk => hJ k (.inr hk))
    intro a h
    rcases List.mem_cons.1 h with rfl | h
    · exact h1
    · exact h2 a h
end

/-! ### Cells that are set -/
theorem setRow_at {w : World} {b off : Nat} {cur : Array Value} {ty : TypeId} {k : Nat × Nat} {cs : List Value} (h : w.heap[b]? = some (.cells cur ty k)) :
    (w.setRow b (cur.toList.take off ++ cs ++ cur.toList.drop (off + cs.length)).toArray).heap[b]? = some (.cells (cur.toList.take off ++ cs ++ cur.toList.drop (off + cs.length)).toArray ty k) := setRow_heap w b cur _ ty k h

theorem splice_get {cur : List Value} {off : Nat} {cs : List Value} (hf : off + cs.length ≤ cur.length) (i : Nat) :
    (cur.take off ++ cs ++ cur.drop (off + cs.length))[i]? = if i < off then cur[i]? else if i < off + cs.length then cs[i - off]? else cur[i]? := by
  rw [List.append_assoc, List.getElem?_append, List.length_take, Nat.min_eq_left (by omega)]
  by_cases h : i < off
  · rw [if_pos h, if_pos h, List.getElem?_take, if_pos h]
  · rw [if_neg h, if_neg h, List.getElem?_append]
    by_cases h2 : i < off + cs.length
    · rw [if_pos h2, if_pos (by omega)]
    · rw [if_neg h2, if_neg (by omega), List.getElem?_drop]
      congr 1; omega

theorem atW_hit {w : World} {b off : Nat} {cur : Array Value} {ty : TypeId} {k : Nat × Nat} {cs : List Value} (h : w.heap[b]? = some (.cells cur ty k)) (hf : off + cs.length ≤ cur.size) :
    atW (w.setRow b (cur.toList.take off ++ cs ++ cur.toList.drop (off + cs.length)).toArray) b off cs := by
  refine ⟨_, ty, k, setRow_at h, fun j c hj => ?_⟩
  have hlt := (List.getElem?_eq_some_iff.1 hj).1
  have := splice_get (cur := cur.toList) (off := off) (cs := cs) (by simpa using hf) (off + j)
  rw [if_neg (by omega), if_pos (by omega), Nat.add_sub_cancel_left, hj] at this
  simpa using this

theorem atW_miss {w : World} {b off off1 : Nat} {cur : Array Value} {ty : TypeId} {k : Nat × Nat} {cs cs1 : List Value} (h : w.heap[b]? = some (.cells cur ty k)) (hf : off + cs.length ≤ cur.size) (ha : atW w b off1 cs1) (hd : off1 + cs1.length ≤ off ∨ off + cs.length ≤ off1) :
    atW (w.setRow b (cur.toList.take off ++ cs ++ cur.toList.drop (off + cs.length)).toArray) b off1 cs1 := by
  obtain ⟨cur', ty', k', h1, h2⟩ := ha
  rw [h] at h1; cases h1
  refine ⟨_, ty, k, setRow_at h, fun j c hj => ?_⟩
  have hlt := (List.getElem?_eq_some_iff.1 hj).1
  have h3 := h2 j c hj
  have := splice_get (cur := cur.toList) (off := off) (cs := cs) (by simpa using hf) (off1 + j)
  rcases hd with hd | hd
  · rw [if_pos (by omega)] at this; simpa [h3] using this
  · rw [if_neg (by omega), if_neg (by omega)] at this; simpa [h3] using this

/-! ### What is owned -/
/-- All that hangs below a node. -/
def SubA (a : An) : Asn where
  P := fun _ _ w bs => bs = anB a ∧ bs.Nodup ∧ anW w a
  mono := fun _ h => h
  loc := fun h ⟨h1, h2, h3⟩ => ⟨h1, h2, anW_loc (fun k hk => h k (by rw [h1]; exact hk)) h3⟩

/-- A copy of a node: its slices are hidden. -/
def CopyA (s : Bool) (c : List V) : Asn where
  P := fun vs _ w bs => ∃ a, sortA a = s ∧ vA a = c ∧ vs = rowsA a ∧ (SubA a).P [] (fun _ => none) w bs
  mono := fun _ h => h
  loc := fun h ⟨a, h1, h2, h3, h4⟩ => ⟨a, h1, h2, h3, (SubA a).loc h h4⟩

/-- A row of nodes that are owned, and then some that are not. -/
def MixA (s : Bool) (v : Value) (gs : List An) (rest : List (List V)) : Asn where
  P := fun _ I w bs => rowW w (tyA s) (szA s) v (gs.length + rest.length) ∧ ansW w s (blkOf v) 0 gs ∧
    (∀ (j : Nat) (e : List V), rest[j]? = some e → ∃ cs : List Value, atW w (blkOf v) ((gs.length + j) * szA s) cs ∧ RepVL I cs e ∧ (∀ c ∈ cs, c.oneCell' = true) ∧ e.length = szA s) ∧
    bs = rowBl v (gs.length + rest.length) ++ ansB gs ∧ bs.Nodup
  mono := fun h ⟨h1, h2, h3, h4⟩ => ⟨h1, h2, fun j e hj => let ⟨cs, a, b, c⟩ := h3 j e hj; ⟨cs, a, b.mono h, c⟩, h4⟩
  loc := fun {vs I w w' bs} h ⟨h1, h2, h3, h4, h5⟩ => by
    have hb : gs.length + rest.length ≠ 0 → w'.heap[blkOf v]? = w.heap[blkOf v]? := fun hne => h _ (by
      rw [h4]
      cases hl : gs.length + rest.length with
      | zero => exact absurd hl hne
      | succ n => simp [rowBl])
    refine ⟨rowW_loc (fun k hk => h k (by rw [h4]; simp [hk])) h1, ansW_loc (fun hne => hb (by cases gs with | nil => exact absurd rfl hne | cons => simp)) (fun k hk => h k (by rw [h4]; simp [hk])) h2, fun j e hj => ?_, h4, h5⟩
    obtain ⟨cs, a, b⟩ := h3 j e hj
    exact ⟨cs, atW_loc (hb (by have := (List.getElem?_eq_some_iff.1 hj).1; omega)) a, b⟩

/-- The next one of them is owned, too. -/
def MixE (s : Bool) (v : Value) (gs : List An) (e : List V) (rest : List (List V)) : Asn where
  P := fun _ I w bs => ∃ a, vA a = e ∧ (MixA s v (gs ++ [a]) rest).P [] I w bs
  mono := fun h ⟨a, h1, h2⟩ => ⟨a, h1, (MixA s v (gs ++ [a]) rest).mono h h2⟩
  loc := fun h ⟨a, h1, h2⟩ => ⟨a, h1, (MixA s v (gs ++ [a]) rest).loc h h2⟩

/-- A copied row: its slice is hidden. -/
def CloneA (s : Bool) (es : List (List V)) : Asn where
  P := fun vs I w bs => ∃ v, vs = [v] ∧ (MixA s v [] es).P [] I w bs
  mono := fun h ⟨v, h1, h2⟩ => ⟨v, h1, (MixA s v [] es).mono h h2⟩
  loc := fun h ⟨v, h1, h2⟩ => ⟨v, h1, (MixA s v [] es).loc h h2⟩

theorem clone_imm {I : Imm} {w : World} {vs : List Value} {bs : List Nat} (s : Bool) (h : (ImmA (.sl [])).P vs I w bs) : (CloneA s []).P vs I w bs := by
  obtain ⟨rfl, v, rfl, h1, h2⟩ := h
  refine ⟨v, rfl, .inl ⟨rfl, ?_, ?_⟩, by simp [ansW], fun j e hj => by simp at hj, by simp [rowBl, ansB], .nil⟩
  · obtain ⟨ad, len, cap, rfl, _, rfl⟩ := slice_of h1
    exact ⟨_, _, rfl⟩
  · intro J
    cases h1 with
    | slnil => exact .slnil
    | sl0 a => exact .sl0 a
    | sl b o len cap sz es vs hl hc hm _ _ _ => exact .sl b o len cap sz [] vs hl hc hm (fun e he => by cases he) (fun i e j x hi => by simp at hi) (fun i e j x hi => by simp at hi)

theorem clone_row {I : Imm} {w : World} {vs : List Value} {bs : List Nat} {s : Bool} {es : List (List V)} (hne : es ≠ []) (h : (RowH (tyA s) (szA s) es).P vs I w bs) : (CloneA s es).P vs I w bs := by
  obtain ⟨v, rfl, ⟨_, h0, _⟩ | ⟨b, cap, cur, rfl, rfl, h1, h2, h3, h4, h5, h6, h7, h8⟩⟩ := h
  · exact absurd h0 hne
  have hpos : 0 < es.length := by cases es with | nil => exact absurd rfl hne | cons => simp
  refine ⟨_, rfl, .inr ⟨by simpa using hpos, b, cap, cur, by simp, h1, by simpa using h2, h3, h4⟩, by simp [ansW], fun j e hj => ?_, ?_, by simp⟩
  · have he := h6 e (List.mem_of_getElem? hj)
    have hlt := (List.getElem?_eq_some_iff.1 hj).1
    have hfit : (j + 1) * szA s ≤ es.length * szA s := Nat.mul_le_mul_right _ hlt
    rw [Nat.succ_mul] at hfit
    have hcapz : es.length * szA s ≤ cap * szA s := Nat.mul_le_mul_right _ h2
    have hget : ∀ i, i < szA s → ∃ c x, cur.toList[j * szA s + i]? = some c ∧ e[i]? = some x ∧ RepV I c x ∧ c.oneCell' = true := by
      intro i hi
      obtain ⟨x, hx⟩ : ∃ x, e[i]? = some x := ⟨_, List.getElem?_eq_getElem (by omega)⟩
      have hf := flatten_get h6 j e i x hj hx
      obtain ⟨c, hc⟩ : ∃ c, cur.toList[j * szA s + i]? = some c := ⟨_, List.getElem?_eq_getElem (by simp; omega)⟩
      have hr := h5.2 (j * szA s + i) c x (by rw [List.getElem?_take, if_pos (by omega)]; exact hc) hf
      exact ⟨c, x, hc, hx, hr, hr.one (h7 e (List.mem_of_getElem? hj) x (List.mem_of_getElem? hx))⟩
    refine ⟨(cur.toList.drop (j * szA s)).take (szA s), ⟨cur, _, _, h1, fun i c hc => ?_⟩, ⟨?_, fun i c x hc hx => ?_⟩, fun c hc => ?_, he⟩
    · rw [List.getElem?_take] at hc
      split at hc
      · rw [List.getElem?_drop] at hc
        simpa using hc
      · cases hc
    · rw [List.length_take, List.length_drop, he]; simp; omega
    · rw [List.getElem?_take] at hc
      split at hc
      · rename_i hi
        rw [List.getElem?_drop] at hc
        obtain ⟨c', x', k1, k2, k3, _⟩ := hget i hi
        rw [k1] at hc; cases hc
        rw [k2] at hx; cases hx
        exact k3
      · cases hc
    · obtain ⟨i, hi⟩ := List.getElem?_of_mem hc
      rw [List.getElem?_take] at hi
      split at hi
      · rename_i hl
        rw [List.getElem?_drop] at hi
        obtain ⟨c', x', k1, _, _, k4⟩ := hget i hl
        rw [k1] at hi; cases hi
        exact k4
      · cases hi
  · cases es with
    | nil => exact absurd rfl hne
    | cons => simp [rowBl, blkOf, ansB]

/-- The address of the row. -/
theorem mix_adr {I : Imm} {w : World} {vs : List Value} {bs : List Nat} {s : Bool} {v : Value} {gs : List An} {rest : List (List V)} (h : (MixA s v gs rest).P vs I w bs) : ∃ a cap, v = .slice a (gs.length + rest.length) cap ∧ (0 < gs.length + rest.length → ∃ b, a = some ⟨b, 0, none⟩) := by
  rcases h.1 with ⟨h0, ⟨a, c, rfl⟩, _⟩ | ⟨h0, b, cap, cur, rfl, _⟩
  · exact ⟨a, c, by rw [h0], fun h => by omega⟩
  · exact ⟨_, cap, rfl, fun _ => ⟨b, rfl⟩⟩

/-- The next one of those that are not owned yet. -/
theorem mix_load {I : Imm} {w : World} {vs : List Value} {bs : List Nat} {s : Bool} {v : Value} {gs : List An} {e : List V} {rest : List (List V)} (h : (MixA s v gs (e :: rest)).P vs I w bs) : CellsAt I w (blkOf v) (gs.length * szA s) (e.map .imm) := by
  obtain ⟨cs, ⟨cur, ty, k, h1, h2⟩, h3, h4, h5⟩ := h.2.2.1 0 e rfl
  rw [Nat.add_zero] at h2
  refine ⟨cur, ty, k, h1, fun j d hd => ?_⟩
  rw [List.getElem?_map] at hd
  cases hx : e[j]? with
  | none => rw [hx] at hd; cases hd
  | some x =>
    rw [hx] at hd; cases hd
    have hlt : j < cs.length := by rw [h3.1]; exact (List.getElem?_eq_some_iff.1 hx).1
    have hc := List.getElem?_eq_getElem hlt
    exact ⟨_, h2 j _ hc, h4 _ (List.mem_of_getElem? hc), .imm _ _ (h3.2 j _ x hc hx)⟩

/-- What a node's cells hold, where its slices are hidden ones of the block 'j'. -/
def dsA (j : Nat) : Bool → List V → List D
  | true, [o, n, x, _, _] => [.imm o, .imm n, .imm x, .hv j 0, .hv j 1]
  | false, [o, n, x, _] => [.imm o, .imm n, .imm x, .hv j 0]
  | _, _ => []

theorem RepV.strEq {I : Imm} {v : Value} {l : List UInt8} (h : RepV I v (.str l)) : v = sVal l := by
  cases h with
  | str s _ hs =>
    subst hs
    obtain ⟨⟨l⟩⟩ := s
    rfl

theorem cells_of {I : Imm} {a : An} {j : Nat} {cs : List Value} (hl : cs.length = (dsA j (sortA a) (vA a)).length) (h : ∀ (i : Nat) (c : Value) (d : D), cs[i]? = some c → (dsA j (sortA a) (vA a))[i]? = some d → hvOk I j (rowsA a) c d) : cs = cA a := by
  obtain ⟨s, o, n, x, v, ks, u, ps⟩ := a
  have imm : ∀ {c : Value} {y : V}, hvOk I j (rowsA (.mk s o n x v ks u ps)) c (.imm y) → RepV I c y := fun h => by
    have h : RepD I noMu _ (.imm _) := h
    exact h.immInv
  cases s with
  | true =>
    simp only [sortA, vA, dsA, List.length_cons, List.length_nil] at hl h
    match cs, hl with
    | [c0, c1, c2, c3, c4], _ =>
      have e0 := (imm (h 0 _ _ rfl rfl)).intInv
      have e1 := (imm (h 1 _ _ rfl rfl)).intInv
      have e2 := (imm (h 2 _ _ rfl rfl)).strEq
      have e3 := h 3 _ _ rfl rfl
      have e4 := h 4 _ _ rfl rfl
      simp only [hvOk, rowsA, true_and] at e3 e4
      simp at e3 e4
      rw [e0, e1, e2, ← e3, ← e4]; rfl
  | false =>
    simp only [sortA, vA, dsA, List.length_cons, List.length_nil] at hl h
    match cs, hl with
    | [c0, c1, c2, c3], _ =>
      have e0 := (imm (h 0 _ _ rfl rfl)).intInv
      have e1 := (imm (h 1 _ _ rfl rfl)).intInv
      have e2 := (imm (h 2 _ _ rfl rfl)).strEq
      have e3 := h 3 _ _ rfl rfl
      simp only [hvOk, rowsA, true_and] at e3
      simp at e3
      rw [e0, e1, e2, ← e3]; rfl

theorem dsA_length {j : Nat} {a : An} : (dsA j (sortA a) (vA a)).length = szA (sortA a) := by
  obtain ⟨s, o, n, x, v, ks, u, ps⟩ := a
  cases s <;> simp [sortA, vA, dsA, szA]

/-- The next one of a row becomes a copy. -/
theorem mix_store {s : Bool} {v : Value} {gs : List An} {e : List V} {rest : List (List V)} {j : Nat} : StoreAtJ (MixA s v gs (e :: rest)) (CopyA s e) (MixE s v gs e rest) j (blkOf v) (gs.length * szA s) (dsA j s e) := by
  intro us vs I w b1 b2 ⟨h1, h2, h3, h4, h5⟩ ⟨a, k1, k2, k3, k4, k5, k6⟩ hdis
  subst k1; subst k2; subst k3
  rcases h1 with ⟨h0, _⟩ | ⟨h0, b, cap, cur, rfl, hheap, hcap, hcm, hcs⟩
  · simp at h0
  simp only [blkOf] at h2 h3 ⊢
  have hbs : b ∈ b1 := by
    rw [h4]
    have : gs.length + (vA a :: rest).length = (gs.length + rest.length) + 1 := by simp; omega
    rw [this]; simp [rowBl, blkOf]
  have hfit : gs.length * szA (sortA a) + szA (sortA a) ≤ cur.size := by
    rw [hcs, ← Nat.succ_mul]
    exact Nat.mul_le_mul_right _ (by simp at hcap; omega)
  refine ⟨hbs, cur, _, hheap, by rw [dsA_length]; exact hfit, fun cs hl hcs' hone => ?_⟩
  have hcA := cells_of hl hcs'
  have hcl : cs.length = szA (sortA a) := by rw [hcA, cA_length]
  have hdl : (dsA j (sortA a) (vA a)).length = cs.length := by rw [dsA_length, hcl]
  rw [hdl]
  have hf : gs.length * szA (sortA a) + cs.length ≤ cur.size := by rw [hcl]; exact hfit
  have hlen : (gs ++ [a]).length + rest.length = gs.length + (vA a :: rest).length := by simp; omega
  have hnb : ∀ k ∈ ansB gs, k ≠ b := fun k hk e => by
    subst e
    rw [h4] at h5
    have hd := (List.nodup_append.1 h5).2.2 k (by
      have : gs.length + (vA a :: rest).length = (gs.length + rest.length) + 1 := by simp; omega
      rw [this]; simp [rowBl, blkOf]) k hk
    exact hd rfl
  have hnb2 : ∀ k ∈ anB a, k ≠ b := fun k hk e => by
    subst e
    exact hdis k hbs (by rw [k4]; exact hk)
  refine ⟨rowBl (.slice (some ⟨b, 0, none⟩) (gs.length + (vA a :: rest).length) cap) ((gs ++ [a]).length + rest.length) ++ ansB (gs ++ [a]), fun k hk => ?_, a, rfl, ?_, ?_, ?_, rfl, ?_⟩
  · rw [hlen, ansB_append, ← List.append_assoc, ← h4, List.mem_append] at hk
    rcases hk with hk | hk
    · exact .inl hk
    · right; rw [k4]; simpa [ansB] using hk
  · rw [hlen]
    refine .inr ⟨h0, b, cap, _, rfl, setRow_at hheap, hcap, hcm, ?_⟩
    rw [← hcs]
    have hl2 : cur.toList.length = cur.size := Array.length_toList
    generalize gs.length * szA (sortA a) = off at hf
    show (cur.toList.take off ++ cs ++ cur.toList.drop (off + cs.length)).length = cur.size
    rw [List.length_append, List.length_append, List.length_take, List.length_drop]
    omega
  · rw [ansW_append]
    constructor
    · -- the others
      have : ∀ {gs' : List An} {i : Nat}, (∀ k ∈ ansB gs', k ≠ b) → i + gs'.length ≤ gs.length → ansW w (sortA a) b i gs' → ansW (w.setRow b (cur.toList.take (gs.length * szA (sortA a)) ++ cs ++ cur.toList.drop (gs.length * szA (sortA a) + cs.length)).toArray) (sortA a) b i gs' := by
        intro gs'
        induction gs' with
        | nil => intro i _ _ _; simp [ansW]
        | cons y r ih =>
          intro i hk hi hw
          simp only [ansW] at hw ⊢
          simp only [ansB, List.mem_append] at hk
          simp only [List.length_cons] at hi
          refine ⟨⟨hw.1.1, atW_miss hheap hf hw.1.2.1 (.inl ?_), anW_loc (fun k hk' => setRow_other w b k _ (hk k (.inl hk'))) hw.1.2.2⟩, ih (fun k hk' => hk k (.inr hk')) (by omega) hw.2⟩
          rw [cA_length, hw.1.1, ← Nat.succ_mul]
          exact Nat.mul_le_mul_right _ (by omega)
      exact this hnb (by omega) h2
    · simp only [ansW, and_true, Nat.zero_add]
      refine ⟨trivial, ?_, anW_loc (fun k hk => setRow_other w b k _ (hnb2 k hk)) k6⟩
      rw [← hcA]
      exact atW_hit hheap hf
  · intro i e' he'
    obtain ⟨cs', q1, q2, q3, q4⟩ := h3 (i + 1) e' (by simpa using he')
    refine ⟨cs', ?_, q2, q3, q4⟩
    have e1 : (gs ++ [a]).length + i = gs.length + (i + 1) := by simp; omega
    rw [e1]
    refine atW_miss hheap hf q1 (.inr ?_)
    rw [hcl, ← Nat.succ_mul]
    exact Nat.mul_le_mul_right _ (by omega)
  · rw [hlen, ansB_append, ← List.append_assoc, ← h4]
    refine List.nodup_append.2 ⟨h5, by simpa [ansB, ← k4] using k5, fun k hk k' hk' e => ?_⟩
    subst e
    exact hdis k hk (by rw [k4]; simpa [ansB] using hk')

/-- A row all of whose nodes are owned, below a pattern. -/
theorem mix_sub {I : Imm} {w : World} {vs : List Value} {bs : List Nat} {v : Value} {gs : List An} {o n : Int} {x : Str} (h : (MixA false v gs []).P vs I w bs) : (SubA (.mk false o n x v gs (.bool true) [])).P [] (fun _ => none) w bs := by
  obtain ⟨h1, h2, _, h4, h5⟩ := h
  exact ⟨by rw [h4]; simp [anB], h5, ⟨h1, h2⟩, fun h => by cases h⟩

/-- Two rows below a term. -/
theorem mix_sub2 {I : Imm} {w : World} {vs us : List Value} {b1 b2 : List Nat} {v u : Value} {ks ps : List An} {o n : Int} {x : Str} (h : (MixA true v ks []).P vs I w b1) (k : (MixA false u ps []).P us I w b2) (hd : ∀ b ∈ b1, b ∉ b2) :
    (SubA (.mk true o n x v ks u ps)).P [] (fun _ => none) w (b1 ++ b2) := by
  obtain ⟨h1, h2, _, h4, h5⟩ := h
  obtain ⟨k1, k2, _, k4, k5⟩ := k
  refine ⟨by rw [h4, k4]; simp [anB], List.nodup_append.2 ⟨h5, k5, fun a ha b hb e => hd a ha (e ▸ hb)⟩, ⟨h1, h2⟩, fun _ => ⟨k1, k2⟩⟩

end Go.Hk

/- Blocks by address say other things; a contract of values for one of owned memory. -/
namespace Go.Hk

section
variable {P : Program} {n : Nat} {F : List Nat} {Q : DQ} {tt : TT} {env env' : Env} {st st' : St} {ids ids' : List Nat} {k todo todo' : List DI} {I J : Imm} {μ : Mu} {w : World} {a : Act} {d : D}

/-- A block by address says something else; 'x': what is known of it from then on. -/
theorem dgo_hpx {α : Type} (id : Nat) {A : Asn} (B : α → Asn) (hl : lk st id = some (some (.hp A))) (hA : ∀ vs I w bs, A.P vs I w bs → ∃ x, (B x).P vs I w bs)
    (h : ∀ x, DGo P n F Q todo env ((id, some (.hp (B x))) :: st) ids) : DGo P n F Q todo env st ids := by
  refine dgo_sem fun I μ a w hc => ?_
  obtain ⟨g, hg, vs, bs, rfl, hP⟩ := hc.blk id _ hl
  obtain ⟨x, hx⟩ := hA vs I w bs hP
  have hlive : ∀ i b, live ((id, some (.hp (B x))) :: st) i b → (i = id ∧ b = .hp (B x)) ∨ (i ≠ id ∧ live st i b) := fun i b hl => by
    rcases live_cons.1 hl with ⟨rfl, rfl⟩ | h
    · exact .inl ⟨rfl, rfl⟩
    · exact .inr h
  have hold : ∀ i b, live ((id, some (.hp (B x))) :: st) i b → ∃ b0, live st i b0 := fun i b hl => by
    rcases hlive i b hl with ⟨rfl, _⟩ | ⟨_, h⟩
    · exact ⟨_, ‹lk st i = _›⟩
    · exact ⟨_, h⟩
  refine ⟨I, μ, env, _, ids, { imm := hc.imm, blk := fun i b hlb => ?_, apart := fun i b g k hlb hg' hk => ?_, inj := fun i j bi bj gi gj k hi hj => ?_, nodup := hc.nodup, idsFree := hc.idsFree }, fun t d hd => hc.env t d hd, ?_, Pin.refl _ _, h x⟩
  · rcases hlive i b hlb with ⟨rfl, rfl⟩ | ⟨_, h⟩
    · exact ⟨_, hg, vs, bs, rfl, hx⟩
    · exact hc.blk i b h
  · obtain ⟨b0, h0⟩ := hold i b hlb
    exact hc.apart i b0 g k h0 hg' hk
  · obtain ⟨b0, h0⟩ := hold i bi hi
    obtain ⟨b1, h1⟩ := hold j bj hj
    exact hc.inj i j b0 b1 gi gj k h0 h1
  · exact { imm := Imm.le_refl I, os := rfl, tape := rfl, output := rfl, size := Nat.le_refl _, block := fun _ _ _ => rfl, old := fun _ _ _ => rfl
            fresh := fun b _ ⟨i, bi, g, h1, h2⟩ => let ⟨b0, q⟩ := hold i bi h1; ⟨i, b0, g, q, h2⟩ }

end
end Go.Hk

/- Contracts of slices.Clone and of the copies of patterns and terms: all that comes out is owned. -/
namespace Go.Hk
open Go.Proofs

set_option maxRecDepth 100000 in
theorem ClonePat_ok (es : List (List V)) (hs : ∀ c ∈ es, c.length = 4) (hlen : es.length ≤ 1000000) :
    EffC Tryz.prog 95 [.imm (.sl es)] [] (.ret (.hv 1 0) [(1, some (.hp (CloneA false es)))]) := by
  cases es with
  | nil =>
    refine effc_of ttF_ok Tryz.func95 (by decide +kernel) rfl [1] rfl rfl ?_
    refine fg_ [] rfl (by simp) ?_
    refine dgo_eqnil ttF_ok rfl fun b hb => ?_
    cases b with
    | true =>
      refine fd_ [.a] rfl (by simp) ?_
      refine dgo_hideImm (x := .sl []) 2 1 rfl rfl rfl ?_
      refine dgo_hpx 1 (fun _ : Unit => CloneA false []) rfl (fun vs I w bs h => ⟨(), clone_imm false h⟩) fun _ => ?_
      exact dgo_ret ⟨_, rfl, rfl, rfl, trivial⟩
    | false =>
      refine fd_ [.a] rfl (by simp) ?_
      refine g_append0 ttF_ok rfl ?_
      refine fg_ [] rfl (by simp) ?_
      refine dgo_hideImm (x := .sl []) 2 1 rfl rfl rfl ?_
      refine dgo_hpx 1 (fun _ : Unit => CloneA false []) rfl (fun vs I w bs h => ⟨(), clone_imm false h⟩) fun _ => ?_
      exact dgo_ret ⟨_, rfl, rfl, rfl, trivial⟩
  | cons e r =>
    refine effc_of ttF_ok Tryz.func95 (by decide +kernel) rfl [2, 1] rfl rfl ?_
    refine fg_ [] rfl (by simp) ?_
    refine dgo_eqnil ttF_ok rfl fun b hb => ?_
    have hb : b = false := hb (by simp)
    subst hb
    refine fd_ [.a] rfl (by simp) ?_
    refine g_append ttF_ok rfl ⟨hs, by simp only [maxLen, List.length_nil] at *; omega, by simp only [List.length_nil] at *; omega, fun c hc => by simp at hc, by simp⟩ ?_
    refine fg_ [] rfl (by simp) ?_
    refine dgo_hideOwn 2 2 1 rfl rfl ?_
    refine dgo_hpx 1 (fun _ : Unit => CloneA false (e :: r)) rfl (fun vs I w bs h => ⟨(), clone_row (s := false) (by simp) h⟩) fun _ => ?_
    exact dgo_ret ⟨_, rfl, rfl, rfl, trivial⟩

set_option maxRecDepth 100000 in
theorem CloneTerm_ok (es : List (List V)) (hs : ∀ c ∈ es, c.length = 5) (hlen : es.length ≤ 1000000) :
    EffC Tryz.prog 94 [.imm (.sl es)] [] (.ret (.hv 1 0) [(1, some (.hp (CloneA true es)))]) := by
  cases es with
  | nil =>
    refine effc_of ttF_ok Tryz.func94 (by decide +kernel) rfl [1] rfl rfl ?_
    refine fg_ [] rfl (by simp) ?_
    refine dgo_eqnil ttF_ok rfl fun b hb => ?_
    cases b with
    | true =>
      refine fd_ [.a] rfl (by simp) ?_
      refine dgo_hideImm (x := .sl []) 2 1 rfl rfl rfl ?_
      refine dgo_hpx 1 (fun _ : Unit => CloneA true []) rfl (fun vs I w bs h => ⟨(), clone_imm true h⟩) fun _ => ?_
      exact dgo_ret ⟨_, rfl, rfl, rfl, trivial⟩
    | false =>
      refine fd_ [.a] rfl (by simp) ?_
      refine g_append0 ttF_ok rfl ?_
      refine fg_ [] rfl (by simp) ?_
      refine dgo_hideImm (x := .sl []) 2 1 rfl rfl rfl ?_
      refine dgo_hpx 1 (fun _ : Unit => CloneA true []) rfl (fun vs I w bs h => ⟨(), clone_imm true h⟩) fun _ => ?_
      exact dgo_ret ⟨_, rfl, rfl, rfl, trivial⟩
  | cons e r =>
    refine effc_of ttF_ok Tryz.func94 (by decide +kernel) rfl [2, 1] rfl rfl ?_
    refine fg_ [] rfl (by simp) ?_
    refine dgo_eqnil ttF_ok rfl fun b hb => ?_
    have hb : b = false := hb (by simp)
    subst hb
    refine fd_ [.a] rfl (by simp) ?_
    refine g_append ttF_ok rfl ⟨hs, by simp only [maxLen, List.length_nil] at *; omega, by simp only [List.length_nil] at *; omega, fun c hc => by simp at hc, by simp⟩ ?_
    refine fg_ [] rfl (by simp) ?_
    refine dgo_hideOwn 2 2 1 rfl rfl ?_
    refine dgo_hpx 1 (fun _ : Unit => CloneA true (e :: r)) rfl (fun vs I w bs h => ⟨(), clone_row (s := true) (by simp) h⟩) fun _ => ?_
    exact dgo_ret ⟨_, rfl, rfl, rfl, trivial⟩

/-- What the walk through a copy's row asks: how many there are. -/
theorem clone_open {vs : List Value} {I : Imm} {w : World} {bs : List Nat} {s : Bool} {es : List (List V)} (h : (CloneA s es).P vs I w bs) : ∃ x : Option Addr × Nat, vs = [.slice x.1 es.length x.2] ∧ (MixA s (.slice x.1 es.length x.2) [] es).P [] I w bs := by
  obtain ⟨v, rfl, h⟩ := h
  obtain ⟨a, cap, rfl, _⟩ := mix_adr h
  rw [List.length_nil, Nat.zero_add] at h ⊢
  exact ⟨(a, cap), rfl, h⟩

mutual
/-- How many nodes there are at most in a row. -/
def wideP : Ty → Prop
  | .mk _ _ _ ps => ps.length ≤ 1000000 ∧ widePs ps
def widePs : List Ty → Prop
  | [] => True
  | p :: r => wideP p ∧ widePs r
end
theorem widePs_mem : ∀ {l : List Ty} {t : Ty}, widePs l → t ∈ l → wideP t
  | [], _, _, h => by simp at h
  | p :: r, t, h, hm => by
    rcases List.mem_cons.1 hm with rfl | hm
    · exact h.1
    · exact widePs_mem h.2 hm

set_option maxRecDepth 100000 in
theorem copyPat_ok : ∀ t : Ty, wideP t → EffC Tryz.prog 96 [.imm (.agg (dTyc t))] [] (.ret (.agg (dsA 1 false (dTyc t))) [(1, some (.hp (CopyA false (dTyc t))))])
  | .mk f n x ps, hw => by
    obtain ⟨hw1, hw2⟩ := hw
    refine effc_of ttF_ok Tryz.func96 (by decide +kernel) rfl [2, 3, 4, 5, 1, 6, 7] rfl rfl ?_
    refine fg_ [] rfl (by simp) ?_
    refine g_call (fr := [4]) [] [(1, 4)] rfl (by simp) (ClonePat_ok (dTys ps) (fun c hc => by rw [dTys_eq] at hc; obtain ⟨p, _, rfl⟩ := List.mem_map.1 hc; simp) (by simpa using hw1)) trivial rfl rfl rfl rfl ?_
    refine fg_ [] rfl (by simp <;> rfl) ?_
    refine dgo_open (ids' := [1, 6, 7]) 4 5 (fun x : Option Addr × Nat => [.slice x.1 (dTys ps).length x.2]) (fun x => MixA false (.slice x.1 (dTys ps).length x.2) [] (dTys ps)) rfl (fun vs I w bs h => clone_open h) fun y => ?_
    obtain ⟨ad, cap⟩ := y
    refine fd_ [] rfl (by simp) ?_
    refine dgo_enter (fun y : Nat × List An => [(12, .imm (.int .i64 y.1)), (11, .imm (.int .i64 (dTys ps).length)), (10, .raw (.slice ad (dTys ps).length cap)), (1, .ref 2 0), (2, .ref 3 0)])
      (fun y => [(2, some (.cells 49 4 [.imm (.int .i64 f), .imm (.int .i64 n), .imm (.str x), .raw (.slice ad (dTys ps).length cap)])), (3, some (.cells 49 4 [.imm (.int .i64 0), .imm (.int .i64 0), .imm (.str []), .nils])),
        (5, some (.hp (MixA false (.slice ad (dTys ps).length cap) y.2 (dTys (ps.drop y.1)))))]) [1, 6, 7] (fun y => ps.length - y.1) (fun y => y.1 ≤ ps.length ∧ y.2.length = y.1 ∧ vAs y.2 = dTys (ps.take y.1)) (0, [])
      ⟨Nat.zero_le _, rfl, rfl⟩ ⟨rfl, rfl, rfl, rfl, rfl, trivial⟩ ⟨rfl, rfl, rfl, trivial⟩ rfl fun y hi ih => ?_
    obtain ⟨i, gs⟩ := y
    obtain ⟨hi1, hi2, hi3⟩ := hi
    simp only at hi1 hi2 hi3
    subst hi2
    refine fd_ [] rfl (by simp) ?_
    refine dgo_cond rfl (fun h => ?_) (fun h => ?_)
    · simp at h
      obtain ⟨k, hk⟩ := has_get h
      have hlt : gs.length < (dTys ps).length := by simpa using h
      rw [get_drop hk]
      refine dgo_hpx 5 (fun _ : { b : Nat // ad = some ⟨b, 0, none⟩ } => MixA false (.slice ad (dTys ps).length cap) gs (dTys (k :: ps.drop (gs.length + 1)))) rfl (fun vs I w bs h => ?_) fun z => ?_
      · obtain ⟨a, cap', e1, e2⟩ := mix_adr h
        simp only [Value.slice.injEq] at e1
        obtain ⟨b, hb⟩ := e2 (by simp only [dTys, List.length_cons]; omega)
        exact ⟨⟨b, by rw [e1.1, hb]⟩, h⟩
      obtain ⟨b, rfl⟩ := z
      obtain ⟨kf, kn, kx, kp⟩ := k
      refine fd_ [] rfl (by simp) ?_
      refine g_rindex ttF_ok rfl rfl (fun _ => ⟨by simp, by simpa using h⟩) (by simp) ?_
      refine fg_ [] rfl (by simp) ?_
      refine g_rload ttF_ok 5 ((dTyc (.mk kf kn kx kp)).map .imm) rfl rfl (fun _ vs I w bs h => by have := mix_load h; simpa [szA, blkOf] using this) rfl rfl (by simp) ?_
      refine fg_ [] rfl (by simp) ?_
      refine g_call (fr := [6]) [] [(1, 6)] rfl (by simp) (copyPat_ok (.mk kf kn kx kp) (widePs_mem hw2 (List.mem_of_getElem? hk))) trivial rfl rfl rfl rfl ?_
      refine fg_ [] rfl (by simp) ?_
      refine g_rindex ttF_ok rfl rfl (fun _ => ⟨by simp, by simpa using h⟩) (by simp) ?_
      refine fg_ [] rfl (by simp) ?_
      refine g_rstoreJ ttF_ok 5 6 7 (MixE false (.slice (some ⟨b, 0, none⟩) (dTys ps).length cap) gs (dTyc (.mk kf kn kx kp)) (dTys (ps.drop (gs.length + 1)))) rfl rfl rfl (by decide) (by
        have e : 0 + ((gs.length : Int)).toNat * 4 = gs.length * szA false := by simp [szA]
        show StoreAtJ _ _ _ 6 b (0 + ((gs.length : Int)).toNat * 4) _
        rw [e]
        exact mix_store) ?_
      refine fg_ [] rfl (by simp <;> rfl) ?_
      refine dgo_hpx 7 (fun a : { a : An // vA a = dTyc (.mk kf kn kx kp) } => MixA false (.slice (some ⟨b, 0, none⟩) (dTys ps).length cap) (gs ++ [a.1]) (dTys (ps.drop (gs.length + 1)))) rfl (fun vs I w bs h => ?_) fun z => ?_
      · obtain ⟨a, h1, h2⟩ := h
        exact ⟨⟨a, h1⟩, h2⟩
      obtain ⟨a, ha⟩ := z
      refine dgo_swap 5 7 rfl ?_
      refine dgo_again (ih (gs.length + 1, gs ++ [a]) (by simp only; omega) ⟨by simp only; omega, by simp, ?_⟩) ⟨tInt (w64 (by simp only; omega) (by simp only; omega)), rfl, rfl, rfl, rfl, trivial⟩ ⟨rfl, rfl, rfl, trivial⟩ rfl
      simp only
      rw [get_take hk, dTys_append, vAs_append, hi3]
      simp [vAs, dTys, ha]
    · simp at h
      have hl : gs.length = ps.length := by omega
      rw [List.drop_eq_nil_of_le (by omega)]
      refine dgo_exit rfl ?_
      refine fd_ [] rfl (by simp) ?_
      refine dgo_close 5 3 1 [.slice ad (dTys ps).length cap] (A := CopyA false (dTyc (.mk f n x ps))) (dsA 1 false (dTyc (.mk f n x ps))) rfl rfl (fun us I w bs h => ?_) ⟨.inl rfl, .inl rfl, .inl rfl, .inr ⟨0, _, rfl, rfl, rfl⟩, trivial⟩ ?_
      · refine ⟨.mk false f n x (.slice ad (dTys ps).length cap) gs (.bool true) [], rfl, ?_, rfl, ?_⟩
        · rw [List.take_of_length_le (by omega)] at hi3
          simp [vA, dTyc, hi3]
        · exact mix_sub h
      · exact dgo_ret ⟨_, rfl, rfl, rfl, trivial⟩
termination_by t => SizeOf.sizeOf t
decreasing_by
  all_goals
    have := List.sizeOf_lt_of_mem (List.mem_of_getElem? hk)
    simp_wf
    simp at this
    omega

mutual
def wideT : Tm → Prop
  | .mk _ _ _ ks ps => ks.length ≤ 1000000 ∧ ps.length ≤ 1000000 ∧ (∀ p ∈ ps, wideP p) ∧ wideTs ks
def wideTs : List Tm → Prop
  | [] => True
  | k :: r => wideT k ∧ wideTs r
end
theorem wideTs_mem : ∀ {l : List Tm} {t : Tm}, wideTs l → t ∈ l → wideT t
  | [], _, _, h => by simp at h
  | p :: r, t, h, hm => by
    rcases List.mem_cons.1 hm with rfl | hm
    · exact h.1
    · exact wideTs_mem h.2 hm

set_option maxRecDepth 100000 in
set_option maxHeartbeats 1000000 in
theorem copied_ok : ∀ t : Tm, wideT t → EffC Tryz.prog 56 [.imm (.agg (dTmc t))] [] (.ret (.agg (dsA 1 true (dTmc t))) [(1, some (.hp (CopyA true (dTmc t))))])
  | .mk o n x ks ps, hw => by
    obtain ⟨hw1, hw2, hw3, hw4⟩ := hw
    refine effc_of ttF_ok Tryz.func56 (by decide +kernel) rfl [2, 3, 4, 5, 6, 7, 1, 8, 9, 10] rfl rfl ?_
    refine fg_ [] rfl (by simp) ?_
    refine g_call (fr := [4]) [] [(1, 4)] rfl (by simp) (CloneTerm_ok (dTms ks) (fun c hc => by rw [dTms_eq] at hc; obtain ⟨p, _, rfl⟩ := List.mem_map.1 hc; simp) (by simpa using hw1)) trivial rfl rfl rfl rfl ?_
    refine fg_ [] rfl (by simp) ?_
    refine g_call (fr := [5]) [] [(1, 5)] rfl (by simp) (ClonePat_ok (dTys ps) (fun c hc => by rw [dTys_eq] at hc; obtain ⟨p, _, rfl⟩ := List.mem_map.1 hc; simp) (by simpa using hw2)) trivial rfl rfl rfl rfl ?_
    refine fg_ [] rfl (by simp <;> rfl) ?_
    refine dgo_open (ids' := [7, 1, 8, 9, 10]) 4 6 (fun x : Option Addr × Nat => [.slice x.1 (dTms ks).length x.2]) (fun x => MixA true (.slice x.1 (dTms ks).length x.2) [] (dTms ks)) rfl (fun vs I w bs h => clone_open h) fun y => ?_
    obtain ⟨ad, cap⟩ := y
    refine dgo_open (ids' := [1, 8, 9, 10]) 5 7 (fun x : Option Addr × Nat => [.slice x.1 (dTys ps).length x.2]) (fun x => MixA false (.slice x.1 (dTys ps).length x.2) [] (dTys ps)) rfl (fun vs I w bs h => clone_open h) fun y => ?_
    obtain ⟨ad2, cap2⟩ := y
    refine fd_ [] rfl (by simp) ?_
    refine dgo_enter (fun y : Nat × List An => [(18, .imm (.int .i64 y.1)), (17, .imm (.int .i64 (dTms ks).length)), (16, .raw (.slice ad (dTms ks).length cap)), (1, .ref 2 0), (2, .ref 3 0)])
      (fun y => [(2, some (.cells 26 5 [.imm (.int .i64 o), .imm (.int .i64 n), .imm (.str x), .raw (.slice ad (dTms ks).length cap), .raw (.slice ad2 (dTys ps).length cap2)])), (3, some (.cells 26 5 [.imm (.int .i64 0), .imm (.int .i64 0), .imm (.str []), .nils, .nils])),
        (6, some (.hp (MixA true (.slice ad (dTms ks).length cap) y.2 (dTms (ks.drop y.1))))), (7, some (.hp (MixA false (.slice ad2 (dTys ps).length cap2) [] (dTys ps))))]) [1, 8, 9, 10] (fun y => ks.length - y.1) (fun y => y.1 ≤ ks.length ∧ y.2.length = y.1 ∧ vAs y.2 = dTms (ks.take y.1)) (0, [])
      ⟨Nat.zero_le _, rfl, rfl⟩ ⟨rfl, rfl, rfl, rfl, rfl, trivial⟩ ⟨rfl, rfl, rfl, rfl, trivial⟩ rfl fun y hi ih => ?_
    obtain ⟨i, gs⟩ := y
    obtain ⟨hi1, hi2, hi3⟩ := hi
    simp only at hi1 hi2 hi3
    subst hi2
    refine fd_ [] rfl (by simp) ?_
    refine dgo_cond rfl (fun h => ?_) (fun h => ?_)
    · simp at h
      obtain ⟨k, hk⟩ := has_get h
      rw [get_drop hk]
      refine dgo_hpx 6 (fun _ : { b : Nat // ad = some ⟨b, 0, none⟩ } => MixA true (.slice ad (dTms ks).length cap) gs (dTms (k :: ks.drop (gs.length + 1)))) rfl (fun vs I w bs h => ?_) fun z => ?_
      · obtain ⟨a, cap', e1, e2⟩ := mix_adr h
        simp only [Value.slice.injEq] at e1
        obtain ⟨b, hb⟩ := e2 (by simp only [dTms, List.length_cons]; omega)
        exact ⟨⟨b, by rw [e1.1, hb]⟩, h⟩
      obtain ⟨b, rfl⟩ := z
      obtain ⟨ko, kn, kx, kk, kp⟩ := k
      refine fd_ [] rfl (by simp) ?_
      refine g_rindex ttF_ok rfl rfl (fun _ => ⟨by simp, by simpa using h⟩) (by simp) ?_
      refine fg_ [] rfl (by simp) ?_
      refine g_rload ttF_ok 6 ((dTmc (.mk ko kn kx kk kp)).map .imm) rfl rfl (fun _ vs I w bs h => by have := mix_load h; simpa [szA, blkOf] using this) rfl rfl (by simp) ?_
      refine fg_ [] rfl (by simp) ?_
      refine g_call (fr := [8]) [] [(1, 8)] rfl (by simp) (copied_ok (.mk ko kn kx kk kp) (wideTs_mem hw4 (List.mem_of_getElem? hk))) trivial rfl rfl rfl rfl ?_
      refine fg_ [] rfl (by simp) ?_
      refine g_rindex ttF_ok rfl rfl (fun _ => ⟨by simp, by simpa using h⟩) (by simp) ?_
      refine fg_ [] rfl (by simp) ?_
      refine g_rstoreJ ttF_ok 6 8 9 (MixE true (.slice (some ⟨b, 0, none⟩) (dTms ks).length cap) gs (dTmc (.mk ko kn kx kk kp)) (dTms (ks.drop (gs.length + 1)))) rfl rfl rfl (by decide) (by
        have e : 0 + ((gs.length : Int)).toNat * 5 = gs.length * szA true := by simp [szA]
        show StoreAtJ _ _ _ 8 b (0 + ((gs.length : Int)).toNat * 5) _
        rw [e]
        exact mix_store) ?_
      refine fg_ [] rfl (by simp <;> rfl) ?_
      refine dgo_hpx 9 (fun a : { a : An // vA a = dTmc (.mk ko kn kx kk kp) } => MixA true (.slice (some ⟨b, 0, none⟩) (dTms ks).length cap) (gs ++ [a.1]) (dTms (ks.drop (gs.length + 1)))) rfl (fun vs I w bs h => ?_) fun z => ?_
      · obtain ⟨a, h1, h2⟩ := h
        exact ⟨⟨a, h1⟩, h2⟩
      obtain ⟨a, ha⟩ := z
      refine dgo_swap 6 9 rfl ?_
      refine dgo_again (ih (gs.length + 1, gs ++ [a]) (by simp only; omega) ⟨by simp only; omega, by simp, ?_⟩) ⟨tInt (w64 (by simp only; omega) (by simp only; omega)), rfl, rfl, rfl, rfl, trivial⟩ ⟨rfl, rfl, rfl, rfl, trivial⟩ rfl
      simp only
      rw [get_take hk, dTms_append, vAs_append, hi3]
      simp [vAs, dTms, ha]
    simp at h
    have hl : gs.length = ks.length := by omega
    rw [List.drop_eq_nil_of_le (by omega)]
    rw [List.take_of_length_le (by omega)] at hi3
    clear ih
    refine dgo_exit rfl ?_
    refine fd_ [] rfl (by simp) ?_
    refine dgo_enter (fun y : Nat × List An => [(33, .imm (.int .i64 y.1)), (32, .imm (.int .i64 (dTys ps).length)), (31, .raw (.slice ad2 (dTys ps).length cap2)), (1, .ref 2 0), (2, .ref 3 0)])
      (fun y => [(2, some (.cells 26 5 [.imm (.int .i64 o), .imm (.int .i64 n), .imm (.str x), .raw (.slice ad (dTms ks).length cap), .raw (.slice ad2 (dTys ps).length cap2)])), (3, some (.cells 26 5 [.imm (.int .i64 0), .imm (.int .i64 0), .imm (.str []), .nils, .nils])),
        (6, some (.hp (MixA true (.slice ad (dTms ks).length cap) gs []))), (7, some (.hp (MixA false (.slice ad2 (dTys ps).length cap2) y.2 (dTys (ps.drop y.1)))))]) [8, 1, 9, 10] (fun y => ps.length - y.1) (fun y => y.1 ≤ ps.length ∧ y.2.length = y.1 ∧ vAs y.2 = dTys (ps.take y.1)) (0, [])
      ⟨Nat.zero_le _, rfl, rfl⟩ ⟨rfl, rfl, rfl, rfl, rfl, trivial⟩ ⟨rfl, rfl, rfl, rfl, trivial⟩ rfl fun y hi ih => ?_
    obtain ⟨i, fs⟩ := y
    obtain ⟨hj1, hj2, hj3⟩ := hi
    simp only at hj1 hj2 hj3
    subst hj2
    refine fd_ [] rfl (by simp) ?_
    refine dgo_cond rfl (fun h => ?_) (fun h => ?_)
    · simp at h
      obtain ⟨k, hk⟩ := has_get h
      rw [get_drop hk]
      refine dgo_hpx 7 (fun _ : { b : Nat // ad2 = some ⟨b, 0, none⟩ } => MixA false (.slice ad2 (dTys ps).length cap2) fs (dTys (k :: ps.drop (fs.length + 1)))) rfl (fun vs I w bs h => ?_) fun z => ?_
      · obtain ⟨a, cap', e1, e2⟩ := mix_adr h
        simp only [Value.slice.injEq] at e1
        obtain ⟨b, hb⟩ := e2 (by simp only [dTys, List.length_cons]; omega)
        exact ⟨⟨b, by rw [e1.1, hb]⟩, h⟩
      obtain ⟨b, rfl⟩ := z
      obtain ⟨kf, kn, kx, kp⟩ := k
      refine fd_ [] rfl (by simp) ?_
      refine g_rindex ttF_ok rfl rfl (fun _ => ⟨by simp, by simpa using h⟩) (by simp) ?_
      refine fg_ [] rfl (by simp) ?_
      refine g_rload ttF_ok 7 ((dTyc (.mk kf kn kx kp)).map .imm) rfl rfl (fun _ vs I w bs h => by have := mix_load h; simpa [szA, blkOf] using this) rfl rfl (by simp) ?_
      refine fg_ [] rfl (by simp) ?_
      refine g_call (fr := [1]) [] [(1, 1)] rfl (by simp) (copyPat_ok (.mk kf kn kx kp) (hw3 _ (List.mem_of_getElem? hk))) trivial rfl rfl rfl rfl ?_
      refine fg_ [] rfl (by simp) ?_
      refine g_rindex ttF_ok rfl rfl (fun _ => ⟨by simp, by simpa using h⟩) (by simp) ?_
      refine fg_ [] rfl (by simp) ?_
      refine g_rstoreJ ttF_ok 7 1 9 (MixE false (.slice (some ⟨b, 0, none⟩) (dTys ps).length cap2) fs (dTyc (.mk kf kn kx kp)) (dTys (ps.drop (fs.length + 1)))) rfl rfl rfl (by decide) (by
        have e : 0 + ((fs.length : Int)).toNat * 4 = fs.length * szA false := by simp [szA]
        show StoreAtJ _ _ _ 1 b (0 + ((fs.length : Int)).toNat * 4) _
        rw [e]
        exact mix_store) ?_
      refine fg_ [] rfl (by simp <;> rfl) ?_
      refine dgo_hpx 9 (fun a : { a : An // vA a = dTyc (.mk kf kn kx kp) } => MixA false (.slice (some ⟨b, 0, none⟩) (dTys ps).length cap2) (fs ++ [a.1]) (dTys (ps.drop (fs.length + 1)))) rfl (fun vs I w bs h => ?_) fun z => ?_
      · obtain ⟨a, h1, h2⟩ := h
        exact ⟨⟨a, h1⟩, h2⟩
      obtain ⟨a, ha⟩ := z
      refine dgo_swap 7 9 rfl ?_
      refine dgo_again (ih (fs.length + 1, fs ++ [a]) (by simp only; omega) ⟨by simp only; omega, by simp, ?_⟩) ⟨tInt (w64 (by simp only; omega) (by simp only; omega)), rfl, rfl, rfl, rfl, trivial⟩ ⟨rfl, rfl, rfl, rfl, trivial⟩ rfl
      simp only
      rw [get_take hk, dTys_append, vAs_append, hj3]
      simp [vAs, dTys, ha]
    simp at h
    rw [List.drop_eq_nil_of_le (by omega)]
    rw [List.take_of_length_le (by omega)] at hj3
    refine dgo_exit rfl ?_
    refine fd_ [] rfl (by simp) ?_
    refine dgo_hpj (ids' := [1, 9, 10]) 6 7 8 (fun _ : Unit => SubA (.mk true o n x (.slice ad (dTms ks).length cap) gs (.slice ad2 (dTys ps).length cap2) fs)) rfl rfl (by decide) (fun vs us I w b1 b2 h1 h2 hd => ⟨(), b1 ++ b2, fun b hb => List.mem_append.1 hb, ?_⟩) fun _ => ?_
    · obtain ⟨q1, q2, q3⟩ := mix_sub2 (o := o) (n := n) (x := x) h1 h2 hd
      exact ⟨q1, q2, q3⟩
    refine dgo_close (ids' := [9, 10]) 8 3 1 [.slice ad (dTms ks).length cap, .slice ad2 (dTys ps).length cap2] (A := CopyA true (dTmc (.mk o n x ks ps))) (dsA 1 true (dTmc (.mk o n x ks ps))) rfl rfl (fun us I w bs h => ?_) ⟨.inl rfl, .inl rfl, .inl rfl, .inr ⟨0, _, rfl, rfl, rfl⟩, .inr ⟨1, _, rfl, rfl, rfl⟩, trivial⟩ ?_
    · exact ⟨.mk true o n x (.slice ad (dTms ks).length cap) gs (.slice ad2 (dTys ps).length cap2) fs, rfl, by simp [vA, dTmc, hi3, hj3], rfl, h⟩
    · exact dgo_ret ⟨_, rfl, rfl, rfl, trivial⟩
termination_by t => SizeOf.sizeOf t
decreasing_by
  all_goals
    have := List.sizeOf_lt_of_mem (List.mem_of_getElem? hk)
    simp_wf
    simp at this
    omega

end Go.Hk

/- Contracts of term: the names that are free in a term, added to a set (free). -/
namespace Go.Hk
open Go.Proofs


mutual
/-- Patterns for every part but the first one of a match. -/
def patsOk : Tm → Prop
  | .mk op _ _ ks ps => ks.length ≤ 1000000 ∧ (∀ i : Nat, i < ks.length → ownB1 op i = false → patB1 op i = true → ∃ p, ps[((i : Int) - 1).toNat]? = some p ∧ (pnames p).length ≤ 1000000) ∧ patsOks ks
def patsOks : List Tm → Prop
  | [] => True
  | k :: r => patsOk k ∧ patsOks r
end
end Go.Hk

/- Contracts of hearthref01: the names that a term binds in a part (Binds). -/
namespace Go.Hk
open Go.Proofs

end Go.Hk

/- Contracts of hearthref01: a sorted list with one more (put). -/
namespace Go.Hk
open Go.Proofs

def putS : List Str → Str → List Str
  | [], s => [s]
  | x :: r, s => if Op.bytesLess x s then x :: putS r s else if x == s then x :: r else s :: x :: r

end Go.Hk

/- Contracts of hearthref01: the names that are free in a term (Free). -/
namespace Go.Hk
open Go.Proofs

mutual
def cntT : Tm → Nat
  | .mk _ _ _ ks _ => 1 + cntTs ks
def cntTs : List Tm → Nat
  | [] => 0
  | k :: r => cntT k + cntTs r
end
mutual
def patsOk2 : Tm → Prop
  | .mk op _ _ ks ps => ks.length ≤ 1000000 ∧ (∀ i : Nat, i < ks.length → ownB1 op i = false → patB1 op i = true → ∃ p, ps[((i : Int) - 1).toNat]? = some p ∧ nodesTy p ≤ 1000000) ∧ patsOk2s ks
def patsOk2s : List Tm → Prop
  | [] => True
  | k :: r => patsOk2 k ∧ patsOk2s r
end

end Go.Hk

/- Plain laws of layer 1: what the program asks of types, patterns, terms and modules is what the document asks. -/
namespace Go.Hk

mutual
theorem weighTy_of : ∀ (t : Ty) (l : Int), (nodesTy t : Int) ≤ l → 0 ≤ weighTy t l
  | .mk _ _ _ ps, l, h => by
    simp only [nodesTy] at h
    simp only [weighTy]
    rw [if_neg (by omega)]
    exact weighTys_of ps (l - 1) (by omega)
theorem weighTys_of : ∀ (ts : List Ty) (l : Int), (nodesTys ts : Int) ≤ l → 0 ≤ weighTys ts l
  | [], l, h => by simpa [weighTys, nodesTys] using h
  | t :: r, l, h => by
    simp only [nodesTys] at h
    simp only [weighTys]
    rw [if_pos (by omega)]
    have h1 := weighTy_of t l (by omega)
    have h2 := weighTy_nodes t l h1
    exact weighTys_of r _ (by omega)
end

theorem weigh_iff (t : Ty) (l : Nat) : decide (0 ≤ weighTy t l) = decide (nodesTy t ≤ l) := by
  by_cases h : nodesTy t ≤ l
  · rw [decide_eq_true h, decide_eq_true (weighTy_of t l (by omega))]
  · rw [decide_eq_false h]
    refine decide_eq_false fun h1 => h ?_
    have := weighTy_nodes t l h1
    omega

theorem check_pat (t : Ty) : checkPatB t = patOkB t := by
  simp only [checkPatB, patOkB]; rw [← weigh_iff t 12, Bool.and_assoc]; rfl

theorem wrap_small (p : Nat) (h : p ≤ 1000) : IntKind.i64.wrap (1 + (p : Int)) = 1 + (p : Int) := w64 (by omega) (by omega)

theorem nodeT_eq (op n : Int) (x : Str) (k : Nat) (ps : List Ty) (hp : ps.length ≤ 1000) : nodeT op n x k ps = (nodeB op n x k ps.length && ps.all patOkB) := by
  have hc : checkPatB = patOkB := funext check_pat
  have hw := wrap_small ps.length hp
  by_cases h1 : op = 1
  · subst h1
    cases ps <;> simp [nodeT, headB, extraB, lastB, nodeB, shapeH, spareB, inI, integerB] <;> grind
  by_cases h2 : op = 2
  · subst h2
    cases ps <;> simp [nodeT, headB, extraB, lastB, nodeB, shapeH, spareB, inI, integerB] <;> grind
  by_cases h3 : op = 3
  · subst h3
    cases ps <;> simp [nodeT, headB, extraB, lastB, nodeB, shapeH, spareB, inI, integerB] <;> grind
  by_cases h4 : op = 4
  · subst h4
    cases ps <;> simp [nodeT, headB, extraB, lastB, nodeB, shapeH, spareB, inI, integerB] <;> grind
  by_cases h5 : op = 5
  · subst h5
    cases ps <;> simp [nodeT, headB, extraB, lastB, nodeB, shapeH, spareB, inI, integerB] <;> grind
  by_cases h6 : op = 6
  · subst h6
    cases ps <;> simp [nodeT, headB, extraB, lastB, nodeB, shapeH, spareB, inI, integerB] <;> grind
  by_cases h7 : op = 7
  · subst h7
    cases ps <;> simp [nodeT, headB, extraB, lastB, nodeB, shapeH, spareB, inI, integerB] <;> grind
  by_cases h8 : op = 8
  · subst h8
    cases ps <;> simp [nodeT, headB, extraB, lastB, nodeB, shapeH, spareB, inI, integerB] <;> grind
  by_cases h9 : op = 9
  · subst h9
    cases ps <;> simp [nodeT, headB, extraB, lastB, nodeB, shapeH, spareB, inI, integerB] <;> grind
  by_cases h10 : op = 10
  · subst h10
    cases ps <;> simp [nodeT, headB, extraB, lastB, nodeB, shapeH, spareB, inI, integerB] <;> grind
  by_cases h11 : op = 11
  · subst h11
    cases ps <;> simp [nodeT, headB, extraB, lastB, nodeB, shapeH, spareB, inI, integerB] <;> grind
  by_cases h12 : op = 12
  · subst h12
    cases ps <;> simp [nodeT, headB, extraB, lastB, nodeB, shapeH, spareB, inI, integerB] <;> grind
  by_cases h13 : op = 13
  · subst h13
    cases ps <;> simp [nodeT, headB, extraB, lastB, nodeB, shapeH, spareB, inI, integerB] <;> grind
  by_cases h14 : op = 14
  · subst h14
    have hk : (if (3 : Int) < k then 3 else (k : Int)) = k ↔ (k : Int) ≤ 3 := by split <;> omega
    cases ps <;> simp [nodeT, headB, extraB, lastB, nodeB, shapeH, spareB] <;> grind
  by_cases h15 : op = 15
  · subst h15
    simp only [nodeT, headB, extraB, lastB, nodeB, shapeH, spareB, inI, hc]
    simp [hw]
    grind
  by_cases h16 : op = 16
  · subst h16
    cases ps <;> simp [nodeT, headB, extraB, lastB, nodeB, shapeH, spareB, inI, integerB] <;> grind
  by_cases h17 : op = 17
  · subst h17
    cases ps <;> simp [nodeT, headB, extraB, lastB, nodeB, shapeH, spareB, inI, integerB] <;> grind
  by_cases h18 : op = 18
  · subst h18
    cases ps <;> simp [nodeT, headB, extraB, lastB, nodeB, shapeH, spareB, inI, integerB] <;> grind
  by_cases h19 : op = 19
  · subst h19
    cases ps <;> simp [nodeT, headB, extraB, lastB, nodeB, shapeH, spareB, inI, integerB] <;> grind
  by_cases h20 : op = 20
  · subst h20
    cases ps <;> simp [nodeT, headB, extraB, lastB, nodeB, shapeH, spareB, inI, integerB] <;> grind
  by_cases h21 : op = 21
  · subst h21
    cases ps <;> simp [nodeT, headB, extraB, lastB, nodeB, shapeH, spareB, inI, integerB] <;> grind
  by_cases h22 : op = 22
  · subst h22
    cases ps <;> simp [nodeT, headB, extraB, lastB, nodeB, shapeH, spareB, inI, integerB] <;> grind
  by_cases h23 : op = 23
  · subst h23
    cases ps <;> simp [nodeT, headB, extraB, lastB, nodeB, shapeH, spareB, inI, integerB] <;> grind
  by_cases h24 : op = 24
  · subst h24
    cases ps <;> simp [nodeT, headB, extraB, lastB, nodeB, shapeH, spareB, inI, integerB] <;> grind
  by_cases h25 : op = 25
  · subst h25
    cases ps <;> simp [nodeT, headB, extraB, lastB, nodeB, shapeH, spareB, inI, integerB] <;> grind
  by_cases h26 : op = 26
  · subst h26
    cases ps <;> simp [nodeT, headB, extraB, lastB, nodeB, shapeH, spareB, inI, integerB] <;> grind
  by_cases h27 : op = 27
  · subst h27
    cases ps <;> simp [nodeT, headB, extraB, lastB, nodeB, shapeH, spareB, inI, integerB] <;> grind
  by_cases h28 : op = 28
  · subst h28
    cases ps <;> simp [nodeT, headB, extraB, lastB, nodeB, shapeH, spareB, inI, integerB] <;> grind
  simp [nodeT, headB, nodeB, shapeH, h1, h2, h3, h4, h5, h6, h7, h8, h9, h10, h11, h12, h13, h14, h15, h16, h17, h18, h19, h20, h21, h22, h23, h24, h25, h26, h27, h28]


end Go.Hk

/- Contracts of hearthref01: names that are the same; the plain law of the names of a pattern. -/
namespace Go.Hk
open Go.Proofs

/-! ### The plain law -/
mutual
theorem pnodes_le : ∀ t : Ty, (pnodes t).length ≤ nodesTy t
  | .mk s n x ps => by
    have := pnodess_le ps
    simp only [pnodes, nodesTy, List.length_append]
    split <;> simp <;> omega
theorem pnodess_le : ∀ ts : List Ty, (pnodess ts).length ≤ nodesTys ts
  | [] => by simp [pnodess]
  | t :: r => by
    have h1 := pnodes_le t
    have h2 := pnodess_le r
    simp only [pnodess, nodesTys, List.length_append]; omega
end


end Go.Hk

/- The plain law of free names: what the program's names and the reference's have in common. -/
namespace Go.Hk
open Go.Proofs



mutual
def patsAll : Tm → Prop
  | .mk _ _ _ ks ps => (∀ p ∈ ps, patsTy p = true) ∧ patsAlls ks
def patsAlls : List Tm → Prop
  | [] => True
  | k :: r => patsAll k ∧ patsAlls r
end


end Go.Hk

/- The plain law of free names: order. -/
namespace Go.Hk
open Go.Proofs


end Go.Hk

/- What a formed term has: patterns that are formed. -/
namespace Go.Hk
open Go.Proofs

mutual
theorem nodes_patsAll : ∀ t : Tm, nodesTm t = true → patsAll t
  | .mk op n x ks ps, h => by
    simp only [nodesTm, Bool.and_eq_true] at h
    simp only [patsAll]
    refine ⟨fun p hp => ?_, nodess_patsAll ks h.2⟩
    have h1 : ps.all patOkB = true := by
      first
        | exact h.1.2
        | exact h.1.1
    have h2 := List.all_eq_true.1 h1 p hp
    simp only [patOkB, Bool.and_eq_true] at h2
    exact h2.1.2
theorem nodess_patsAll : ∀ ts : List Tm, nodesTms ts = true → patsAlls ts
  | [], _ => trivial
  | t :: r, h => by
    simp only [nodesTms, Bool.and_eq_true] at h
    exact ⟨nodes_patsAll t h.1, nodess_patsAll r h.2⟩
end

theorem cnt_pos (t : Tm) : 1 ≤ cntT t := by obtain ⟨_, _, _, _, _⟩ := t; simp [cntT]
theorem len_cnt : ∀ ks : List Tm, ks.length ≤ cntTs ks
  | [] => by simp [cntTs]
  | k :: r => by have := len_cnt r; have := cnt_pos k; simp only [List.length_cons, cntTs]; omega

theorem pat_small {p : Ty} (h : patOkB p = true) : nodesTy p ≤ 12 := by
  simp only [patOkB, Bool.and_eq_true, decide_eq_true_eq] at h
  have := weighTy_nodes p 12 h.1.1
  omega

theorem node_match {op n : Int} {x : Str} {k p : Nat} (h : nodeB op n x k p = true) {i : Nat} (hp : patB1 op i = true) (hi : i < k) : ((i : Int) - 1).toNat < p := by
  simp only [patB1, Bool.and_eq_true, beq_iff_eq, decide_eq_true_eq] at hp
  obtain ⟨rfl, h0⟩ := hp
  simp [nodeB] at h
  omega

mutual
theorem nodes_pats2 : ∀ t : Tm, nodesTm t = true → cntT t ≤ 1000000 → patsOk2 t ∧ patsOk t
  | .mk op n x ks ps, h, hc => by
    simp only [nodesTm, Bool.and_eq_true] at h
    obtain ⟨⟨h1, h2⟩, h3⟩ := h
    simp only [cntT] at hc
    have hl := len_cnt ks
    obtain ⟨q1, q2⟩ := nodess_pats2 ks h3 (by omega)
    have get : ∀ i : Nat, i < ks.length → patB1 op i = true → ∃ p, ps[((i : Int) - 1).toNat]? = some p ∧ nodesTy p ≤ 12 := fun i hi hp => by
      have hlt := node_match h1 hp hi
      exact ⟨ps[((i : Int) - 1).toNat], by simp [hlt], pat_small (List.all_eq_true.1 h2 _ (by simp))⟩
    refine ⟨⟨by omega, fun i hi _ hp => ?_, q1⟩, ⟨by omega, fun i hi _ hp => ?_, q2⟩⟩
    · obtain ⟨p, e1, e2⟩ := get i hi hp
      exact ⟨p, e1, by omega⟩
    · obtain ⟨p, e1, e2⟩ := get i hi hp
      have := pnodes_le p
      exact ⟨p, e1, by simp only [pnames, List.length_map]; omega⟩
theorem nodess_pats2 : ∀ ts : List Tm, nodesTms ts = true → cntTs ts ≤ 1000000 → patsOk2s ts ∧ patsOks ts
  | [], _, _ => ⟨trivial, trivial⟩
  | t :: r, h, hc => by
    simp only [nodesTms, Bool.and_eq_true] at h
    simp only [cntTs] at hc
    obtain ⟨a1, a2⟩ := nodes_pats2 t h.1 (by omega)
    obtain ⟨b1, b2⟩ := nodess_pats2 r h.2 (by omega)
    exact ⟨⟨a1, b1⟩, ⟨a2, b2⟩⟩
end

mutual
theorem weigh_cnt : ∀ (t : Tm) (l d : Int), 0 ≤ weighTm t l d → weighTm t l d + cntT t ≤ l
  | .mk _ _ _ ks _, l, d, h => by
    simp only [weighTm] at h ⊢
    by_cases h0 : l < 1 ∨ d < 1
    · rw [if_pos h0] at h; omega
    · rw [if_neg h0] at h ⊢
      have := weighs_cnt ks (l - 1) (d - 1) h
      simp only [cntT]; omega
theorem weighs_cnt : ∀ (ts : List Tm) (l d : Int), 0 ≤ weighTms ts l d → weighTms ts l d + cntTs ts ≤ l
  | [], l, _, h => by simp [weighTms, cntTs]
  | t :: r, l, d, h => by
    simp only [weighTms] at h ⊢
    by_cases h0 : 0 ≤ l
    · rw [if_pos h0] at h ⊢
      have h1 := weighs_cnt r (weighTm t l d) d h
      by_cases h2 : 0 ≤ weighTm t l d
      · have := weigh_cnt t l d h2
        simp only [cntTs]; omega
      · have := (weighTms_le r (weighTm t l d) d (weighTm_le t l d).1).2
        omega
    · rw [if_neg h0] at h; omega
end

theorem termB_all (t : Tm) (h : termB t = true) : patsAll t ∧ patsOk t ∧ patsOk2 t ∧ cntT t ≤ 60 := by
  simp only [termB, Bool.and_eq_true, decide_eq_true_eq] at h
  have hc := weigh_cnt t 60 14 h.1
  have hc2 : cntT t ≤ 60 := by omega
  obtain ⟨a, b⟩ := nodes_pats2 t h.2 (by omega)
  exact ⟨nodes_patsAll t h.2, b, a, hc2⟩

end Go.Hk

/- Arrays of values of one cell: built, indexed behind a pointer and by value. -/
namespace Go.Hk

theorem fill_seq : ∀ (vs pre post : List Value), post.length = vs.length → (∀ v ∈ vs, v.oneCell' = true) →
    Instr.fill (fun i => some (i * 1, 1)) (pre ++ post).toArray (vs.zipIdx pre.length |>.map fun p => (p.2, p.1)) = some (pre ++ vs).toArray
  | [], pre, post, h, _ => by
    have : post = [] := List.eq_nil_of_length_eq_zero h
    subst this; rfl
  | v :: r, pre, post, h, h1 => by
    cases post with
    | nil => simp at h
    | cons p q =>
      have hc := cells_one (h1 v (by simp))
      simp only [List.zipIdx_cons, List.map_cons, Instr.fill, hc]
      rw [if_neg (by simp)]
      have ih := fill_seq r (pre ++ [v]) q (by simpa using h) (fun u hu => h1 u (by simp [hu]))
      simp only [List.length_append, List.length_cons, List.length_nil, List.append_assoc, List.cons_append, List.nil_append] at ih
      rw [← ih]
      congr 1
      simp [Nat.mul_one]

/-- All parts of an array, in order. -/
def partsSeq (env : Env) : Nat → List (Nat × Operand) → Option (List D)
  | _, [] => some []
  | i, (j, x) :: r => match Nat.beq i j, evO env x, partsSeq env (i + 1) r with
    | true, some d, some ds => match d.one with
      | true => some (d :: ds)
      | false => none
    | _, _, _ => none

structure PBa where
  ds : List D
  dst : Option Nat
  todo : List DI

def pbarr (tt : TT) (n : Nat) (env : Env) (todo : List DI) : Option PBa :=
  match next1 todo ([], []) with
  | some (_, o, todo') => match o.guard, o.op with
    | none, .build t ⟨parts⟩ => match lk tt t with
      | some { sh := .arr m e, zero := z, .. } => match lk tt e, partsSeq env 0 parts, dstOk n o.dst with
        | some ti, some ds, true => match Nat.beq ti.size 1, Nat.beq ds.length m, Nat.beq z.length m with
          | true, true, true => some ⟨ds, o.dst, todo'⟩
          | _, _, _ => none
        | _, _, _ => none
      | _ => none
    | _, _ => none
  | none => none

structure PAx where
  id : Nat
  off : Nat
  len : Nat
  m : Int
  sz : Nat
  g : Option (Bool × Bool)
  ob : List Prop
  t : Nat
  todo : List DI

def paidx (tt : TT) (n : Nat) (env : Env) (todo : List DI) : Option PAx :=
  match next1 todo ([], []) with
  | some (all, o, todo') => match o.op, guardOf all env o with
    | .indexAddr t x i, some g => match lk tt t, useD (cxOf g) env x, useD (cxOf g) env i with
      | some { sh := .arr len e, .. }, some (.ref id off, o1), some (.imm (.int _ m), o2) => match lk tt e, o.dst, dstOk n o.dst with
        | some ti, some t', true => some ⟨id, off, len, m, ti.size, g, cat o1 o2, t', todo'⟩
        | _, _, _ => none
      | _, _, _ => none
    | _, _ => none
  | none => none

section
variable {P : Program} {n : Nat} {F : List Nat} {Q : DQ} {tt : TT} {env env' : Env} {st st' : St} {ids ids' : List Nat} {k todo todo' : List DI} {I J : Imm} {μ : Mu} {w : World} {a : Act} {d : D}

theorem partsSeq_ok {a : Act} : ∀ {ps : List (Nat × Operand)} {i : Nat} {ds : List D}, partsSeq env i ps = some ds → (∀ x ∈ ps.map (·.2), ∀ d, evO env x = some d → RepD I μ (a.eval x) d) →
    ps.map (fun p => (p.1, a.eval p.2)) = ((ps.map fun p => a.eval p.2).zipIdx i).map (fun p => (p.2, p.1)) ∧ RepL I μ (ps.map fun p => a.eval p.2) ds ∧ ∀ v ∈ ps.map (fun p => a.eval p.2), v.oneCell' = true
  | [], i, ds, h, _ => by
    simp only [partsSeq, Option.some.injEq] at h
    subst h
    exact ⟨rfl, ⟨rfl, fun i v d h => by simp at h⟩, fun v h => by simp at h⟩
  | (j, x) :: r, i, ds, h, hx => by
    simp only [partsSeq] at h
    split at h
    · rename_i d ds' hj hd hr
      split at h
      · rename_i h1
        cases h
        have hj := Nat.eq_of_beq_eq_true hj
        subst hj
        have hv := hx x (by simp) d hd
        obtain ⟨q1, q2, q3⟩ := partsSeq_ok (a := a) hr (fun y hy => hx y (by simp at hy ⊢; exact .inr hy))
        refine ⟨by simp [q1], ⟨by simp [q2.1], fun k v d' h1 h2 => ?_⟩, fun v hv' => ?_⟩
        · cases k with
          | zero => simp at h1 h2; rw [← h1, ← h2]; exact hv
          | succ k => exact q2.2 k v d' (by simpa using h1) (by simpa using h2)
        · simp only [List.map_cons, List.mem_cons] at hv'
          rcases hv' with rfl | hv'
          · exact hv.one h1
          · exact q3 v hv'
      · cases h
    · cases h

theorem g_barr (htt : TTok P tt) {c : PBa} (h : pbarr tt n env todo = some c) (hk : G P n F Q c.todo (putE c.dst (mkAgg c.ds) env) st ids) : G P n F Q todo env st ids := by
  unfold pbarr at h
  split at h
  · rename_i all o todo' h1
    split at h
    · rename_i t parts hg hop
      split at h
      · rename_i m e _ _ _ z ht
        split at h
        · rename_i ti ds hti hps hd
          split at h
          · rename_i hsz hlen hzlen
            cases h
            refine g_step (fr := []) (wr := []) (rd := []) h1 ?_ hd (fun c hc => by rw [hop] at hc; cases hc) hk
            intro I μ st1 ids1 a w hag hst hon
            refine ⟨fun _ => ?_, fun hw => by rw [wanted_none hg] at hw; cases hw⟩
            have hops := opsOn_of hon
            rw [hop] at hops
            obtain ⟨q1, q2, q3⟩ := partsSeq_ok (a := a) (I := I) (μ := μ) hps (fun x hx => hops x (by simp only [Op.operands]; simpa using hx))
            have hty := htt t _ ht
            obtain ⟨inf, zv, hi1, _, _, hi4, hi5, hi6⟩ := hty.info
            have hu : P.underlying t = some (.array m e) := htt.sh ht
            have hs1 : ti.size = 1 := Nat.eq_of_beq_eq_true hsz
            have hzl : zv.cells.toList.length = m := by
              rw [(hi5 I μ).1]; exact Nat.eq_of_beq_eq_true hzlen
            have hpl : (parts.map fun p => a.eval p.2).length = m := by rw [q2.1]; exact Nat.eq_of_beq_eq_true hlen
            have hfill := fill_seq (parts.map fun p => a.eval p.2) [] zv.cells.toList (by rw [hzl, hpl]) q3
            simp only [List.nil_append, List.length_nil] at hfill
            have hrun : (execOp a.eval o).run P w = .ok (.value (.agg (parts.map fun p => a.eval p.2).toArray)) w := by
              simp only [execOp, hop, Instr.build, Sem.run_bind, zeroValue, typeInfo, run_program, Result.andThen_ok, hi1, hi4, Sem.run_pure, run_underlying hu, (htt e ti hti).sizeOf w, hs1, List.map_toArray, q1]
              rw [show zv.cells = zv.cells.toList.toArray from rfl, hfill]
              rfl
            rw [hrun]
            exact ⟨I, μ, hst, mkAgg_rep q2 q3, Mu.le_refl μ, Ext.refl _ _ _ _⟩
          · cases h
        · cases h
      · cases h
    · cases h
  · cases h

theorem g_aindex (htt : TTok P tt) {c : PAx} (h : paidx tt n env todo = some c) (hc : cxOf c.g → 0 ≤ c.m ∧ c.m < c.len) (hob : allP c.ob)
    (hk : G P n F Q c.todo ((c.t, gD c.g (.ref c.id (c.off + c.m.toNat * c.sz))) :: env) st ids) : G P n F Q todo env st ids := by
  unfold paidx at h
  split at h
  · rename_i all o todo' h1
    split at h
    · rename_i t x i g hop hg
      split at h
      · rename_i len e _ _ _ _ id off o1 kk m o2 ht hx hi
        split at h
        · rename_i ti t' hti hdst hd
          cases h
          have hk : G P n F Q todo' (putE o.dst (gD g (.ref id (off + m.toNat * ti.size))) env) st ids := by rw [hdst]; exact hk
          refine g_step (fr := []) (wr := []) (rd := []) h1 (ld_guarded hg fun I μ st1 ids1 a w _ hst hops hcx => ?_) (by rw [hdst] at hd ⊢; exact hd) (fun c hc => by rw [hop] at hc; cases hc) hk
          rw [hop] at hops
          obtain ⟨ho1, ho2⟩ := allP_app hob
          obtain ⟨b, e1, e2⟩ := (useD_rep hx ho1 hcx (hops x (by simp [Op.operands]))).refInv
          have ri := (useD_rep hi ho2 hcx (hops i (by simp [Op.operands]))).immInv.intInv
          obtain ⟨c0, c1⟩ := hc hcx
          simp only at c0 c1
          have hu : P.underlying t = some (.array len e) := htt.sh ht
          simp only [execOp, hop, ri, e1]
          have hrun : (do pure (.value (← Instr.indexAt t (.pointer (some ⟨b, off, none⟩)) (.int kk m))) : Sem Next).run P w = .ok (.value (.pointer (some ⟨b, off + m.toNat * ti.size, none⟩))) w := by
            apply ok_of_sem
            simp only [Instr.indexAt, Sem.run_bind, asIntOf, Sem.run_pure, Result.andThen_ok, run_underlying hu, Instr.sureAddr]
            simp [c0, c1, (htt e ti hti).sizeOf w, addr_add]
          rw [hrun]
          exact ⟨I, μ, hst, .ref b id _ e2, Mu.le_refl μ, Ext.refl _ _ _ _⟩
        · cases h
      · cases h
    · cases h
  · cases h

end
end Go.Hk

namespace Go.Hk
open Go.Proofs

def ttP2 : TT := ttF ++ [
  (35, ⟨.sl 3, false, 1, 24, [.nils]⟩),
  (135, ⟨.struct [(0, 26)], true, 5, 80, [.imm (.int .i64 0), .imm (.int .i64 0), .imm (.str []), .nils, .nils]⟩),
  (136, ⟨.func, false, 1, 8, [.imm .nilfn]⟩),
  (137, ⟨.arr 2 136, true, 2, 16, [.imm .nilfn, .imm .nilfn]⟩)]
theorem ttP2_ok : TTok Tryz.prog ttP2 := .of_eq (l := [4, 3, 9, 26, 53, 49, 22, 24, 5, 51, 50, 29, 23, 47, 113, 66, 150, 63, 64, 111, 109, 30, 173, 101, 1, 79, 176, 121, 114, 116, 118, 55, 153, 122, 95, 96, 93, 92, 141, 142, 87, 128, 165, 167, 35, 135, 136, 137]) (by kernel_rfl)

section
variable {n : Nat} {F : List Nat} {Q : DQ} {env env' : Env} {st st' : St} {ids ids' : List Nat} {k todo : List DI} {ob : List Prop}
theorem qd (path : List Pt) (h : run ttP2 n 300 path todo env st ids [] = .at k env' st' ids' ob) (hob : allP ob) (hd : G Tryz.prog n F Q k env' st' ids') : DGo Tryz.prog n F Q todo env st ids := d_run ttP2_ok mixed 300 path h hob hd
theorem qg (path : List Pt) (h : run ttP2 n 300 path todo env st ids [] = .at k env' st' ids' ob) (hob : allP ob) (hd : G Tryz.prog n F Q k env' st' ids') : G Tryz.prog n F Q todo env st ids := g_run ttP2_ok mixed 300 path h hob hd
theorem qi_ {es : List (List V)} {m : Int} {sz : Nat} {e : TypeId} {g : Option (Bool × Bool)} {ob : List Prop} {t : Nat} {todo' : List DI} {c : List V} (h : pidx ttP2 n env todo = some ⟨es, m, sz, e, g, ob, some t, todo'⟩)
    (hc : cxOf g → 0 ≤ m ∧ es[m.toNat]? = some c ∧ c.length = sz) (hob : allP ob) (hk : G Tryz.prog n F Q todo' ((t, gD g (.ip e c 0)) :: env) st ids) : G Tryz.prog n F Q todo env st ids := g_index ttP2_ok h hc hob hk
end

mutual
def dpT : Tm → Nat
  | .mk _ _ _ ks _ => dpTs ks 0 + 1
def dpTs : List Tm → Nat → Nat
  | [], m => m
  | k :: r, m => dpTs r (max m (dpT k))
end

theorem cntTs_mem : ∀ {l : List Tm} {t : Tm}, t ∈ l → cntT t ≤ cntTs l
  | k :: r, t, h => by
    simp only [cntTs]
    rcases List.mem_cons.1 h with rfl | h
    · omega
    · have := cntTs_mem h; omega
mutual
theorem dp_cnt : ∀ t : Tm, dpT t ≤ cntT t
  | .mk _ _ _ ks _ => by
    have := dps_cnt ks 0
    simp only [dpT, cntT]; omega
theorem dps_cnt : ∀ (ks : List Tm) (m : Nat), dpTs ks m ≤ m + cntTs ks
  | [], m => by simp [dpTs, cntTs]
  | k :: r, m => by
    have h1 := dp_cnt k
    have h2 := dps_cnt r (max m (dpT k))
    simp only [dpTs, cntTs]
    omega
end
theorem dpTs_le : ∀ (ks : List Tm) (m : Nat), m ≤ dpTs ks m
  | [], m => by simp [dpTs]
  | k :: r, m => by
    have := dpTs_le r (max m (dpT k))
    simp only [dpTs]; omega

set_option maxRecDepth 100000 in
theorem treeNodes_ok : ∀ t : Tm, cntT t ≤ 1000000 → PureC Tryz.prog 92 [.agg (dTmc t)] (.int .i64 (cntT t))
  | .mk o n x ks ps, hc => by
    simp only [cntT] at hc
    have hl := len_cnt ks
    refine effc_of ttP2_ok Tryz.func92 (by decide +kernel) rfl [1, 2] rfl rfl ?_
    refine qg [] rfl (by simp) ?_
    refine dgo_enter (fun y : Nat × Nat => [(10, .imm (.int .i64 y.1)), (9, .imm (.int .i64 ks.length)), (8, .imm (.sl (dTms ks))), (3, .imm (.int .i64 y.2))]) (fun _ => []) [1, 2] (fun y => ks.length - y.1) (fun y => y.1 ≤ ks.length ∧ y.2 + cntTs (ks.drop y.1) = 1 + cntTs ks) (0, 1)
      ⟨Nat.zero_le _, rfl⟩ ⟨rfl, tInt (by simp), rfl, rfl, trivial⟩ trivial rfl fun y hi ih => ?_
    obtain ⟨i, s⟩ := y
    obtain ⟨hi1, hi2⟩ := hi
    simp only at hi1 hi2
    refine qd [] rfl (by simp) ?_
    refine dgo_cond rfl (fun h => ?_) (fun h => ?_)
    · simp at h
      obtain ⟨k, hk⟩ := has_get h
      rw [get_drop hk] at hi2
      simp only [cntTs] at hi2
      have hkc : cntT k ≤ 1000000 := by have := cntTs_mem (List.mem_of_getElem? hk); omega
      have hs := Nat.le_refl (SizeOf.sizeOf k)
      obtain ⟨ko, kn, kx, kk, kp⟩ := k
      refine qd [] rfl (by simp) ?_
      refine qi_ rfl (c := dTmc (.mk ko kn kx kk kp)) (fun _ => ⟨by simp, by simpa using dTms_get hk, by simp⟩) (by simp) ?_
      refine qg [] rfl (by simp) ?_
      refine g_pcall rfl (fun _ => treeNodes_ok (.mk ko kn kx kk kp) hkc) (by simp) ?_
      refine qg [] rfl (by simp) ?_
      exact dgo_again (ih (i + 1, s + cntT (.mk ko kn kx kk kp)) (by simp only; omega) ⟨by simp only; omega, by simp only; omega⟩) ⟨tInt (w64 (by simp only; omega) (by simp only; omega)), rfl, rfl, tInt ((w64 (by simp only; omega) (by simp only; omega)).trans (by simp)), trivial⟩ trivial rfl
    · simp at h
      rw [List.drop_eq_nil_of_le (by omega)] at hi2
      simp only [cntTs] at hi2
      refine dgo_exit rfl ?_
      refine qd [] rfl (by simp) ?_
      refine dgo_ret ⟨_, rfl, tInt ?_, trivial⟩
      simp only [cntT]; omega
termination_by t => SizeOf.sizeOf t
decreasing_by
  all_goals
    have := List.sizeOf_lt_of_mem (List.mem_of_getElem? hk)
    simp_wf
    simp at this
    omega

set_option maxRecDepth 100000 in
theorem treeDepth_ok : ∀ t : Tm, cntT t ≤ 1000000 → PureC Tryz.prog 93 [.agg (dTmc t)] (.int .i64 (dpT t))
  | .mk o n x ks ps, hc => by
    have hd := dp_cnt (.mk o n x ks ps)
    simp only [cntT, dpT] at hc hd
    have hl := len_cnt ks
    refine effc_of ttP2_ok Tryz.func93 (by decide +kernel) rfl [1, 2] rfl rfl ?_
    refine qg [] rfl (by simp) ?_
    refine dgo_enter (fun y : Nat × Nat => [(10, .imm (.int .i64 y.1)), (9, .imm (.int .i64 ks.length)), (8, .imm (.sl (dTms ks))), (3, .imm (.int .i64 y.2))]) (fun _ => []) [1, 2] (fun y => ks.length - y.1) (fun y => y.1 ≤ ks.length ∧ dpTs (ks.drop y.1) y.2 = dpTs ks 0) (0, 0)
      ⟨Nat.zero_le _, rfl⟩ ⟨rfl, tInt (by simp), rfl, rfl, trivial⟩ trivial rfl fun y hi ih => ?_
    obtain ⟨i, s⟩ := y
    obtain ⟨hi1, hi2⟩ := hi
    simp only at hi1 hi2
    refine qd [] rfl (by simp) ?_
    refine dgo_cond rfl (fun h => ?_) (fun h => ?_)
    · simp at h
      obtain ⟨k, hk⟩ := has_get h
      rw [get_drop hk] at hi2
      simp only [dpTs] at hi2
      have hkc : cntT k ≤ 1000000 := by have := cntTs_mem (List.mem_of_getElem? hk); omega
      obtain ⟨ko, kn, kx, kk, kp⟩ := k
      refine qd [] rfl (by simp) ?_
      refine qi_ rfl (c := dTmc (.mk ko kn kx kk kp)) (fun _ => ⟨by simp, by simpa using dTms_get hk, by simp⟩) (by simp) ?_
      refine qg [] rfl (by simp) ?_
      refine g_pcall rfl (fun _ => treeDepth_ok (.mk ko kn kx kk kp) hkc) (by simp) ?_
      refine qg [] rfl (by simp) ?_
      exact dgo_again (ih (i + 1, max s (dpT (.mk ko kn kx kk kp))) (by simp only; omega) ⟨by simp only; omega, hi2⟩) ⟨tInt (w64 (by simp only; omega) (by simp only; omega)), rfl, rfl, tInt (by simp only; split <;> omega), trivial⟩ trivial rfl
    · simp at h
      rw [List.drop_eq_nil_of_le (by omega)] at hi2
      simp only [dpTs] at hi2
      refine dgo_exit rfl ?_
      refine qd [] rfl (by simp) ?_
      refine dgo_ret ⟨_, rfl, tInt ?_, trivial⟩
      simp only [dpT]
      rw [w64 (by omega) (by omega)]; omega
termination_by t => SizeOf.sizeOf t
decreasing_by
  all_goals
    have := List.sizeOf_lt_of_mem (List.mem_of_getElem? hk)
    simp_wf
    simp at this
    omega

set_option maxRecDepth 100000 in
theorem count_ok (t : Tm) (way : Bool) (h : checkB t = termB t) : PureC Tryz.prog 54 [.agg (dTmc t), .int .i64 (bif way then 1 else 0)] (.tup [.int .i64 (bif termB t then (bif way then (dpT t : Int) else cntT t) else 0), .int .i64 (bif termB t then 0 else 2)]) := by
  obtain ⟨o, n, x, ks, ps⟩ := t
  refine effc_of ttP2_ok Tryz.func54 (by decide +kernel) rfl [1, 2, 3] rfl rfl ?_
  refine qg [] rfl (by simp) ?_
  refine g_pcall rfl (fun _ => Check_ok (.mk o n x ks ps)) (by simp) ?_
  rw [h]
  cases ht : termB (.mk o n x ks ps) with
  | false =>
    refine qg [] rfl (by simp) ?_
    refine dgo_cond rfl (fun h => ?_) (fun h => by simp [errI] at h)
    refine qd [] rfl (by simp) ?_
    exact dgo_ret ⟨_, rfl, tV rfl, trivial⟩
  | true =>
    obtain ⟨h1, h2, h3, h4⟩ := termB_all _ ht
    refine qg [] rfl (by simp) ?_
    refine dgo_cond rfl (fun h => by simp [errI] at h) (fun h => ?_)
    refine qd [] rfl (by simp) ?_
    refine g_barr ttP2_ok rfl ?_
    cases way with
    | false =>
      refine qg [] rfl (by simp) ?_
      refine g_aindex ttP2_ok rfl (fun _ => ⟨by decide, by decide⟩) (by simp) ?_
      refine qg [] rfl (by simp) ?_
      refine g_call (fr := []) [] [] rfl (by simp) (treeNodes_ok (.mk o n x ks ps) (by omega)) trivial rfl rfl rfl rfl ?_
      refine qg [] rfl (by simp) ?_
      exact dgo_ret ⟨_, rfl, tV rfl, trivial⟩
    | true =>
      refine qg [] rfl (by simp) ?_
      refine g_aindex ttP2_ok rfl (fun _ => ⟨by decide, by decide⟩) (by simp) ?_
      refine qg [] rfl (by simp) ?_
      refine g_call (fr := []) [] [] rfl (by simp) (treeDepth_ok (.mk o n x ks ps) (by omega)) trivial rfl rfl rfl rfl ?_
      refine qg [] rfl (by simp) ?_
      exact dgo_ret ⟨_, rfl, tV rfl, trivial⟩

set_option maxRecDepth 100000 in
theorem tNodes_ok (t : Tm) (h : checkB t = termB t) : PureC Tryz.prog 14 [.agg (dTmc t)] (.tup [.int .i64 (bif termB t then (cntT t : Int) else 0), .int .i64 (bif termB t then 0 else 2)]) := by
  refine effc_of ttP2_ok Tryz.func14 (by decide +kernel) rfl [1, 2, 3] rfl rfl ?_
  refine qg [] rfl (by simp) ?_
  refine g_pcall rfl (fun _ => count_ok t false h) (by simp) ?_
  refine qg [] rfl (by simp) ?_
  exact dgo_ret ⟨_, rfl, tV rfl, trivial⟩

end Go.Hk
