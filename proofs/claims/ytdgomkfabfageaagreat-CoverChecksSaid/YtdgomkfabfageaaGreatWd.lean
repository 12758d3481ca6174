/- The ghost machine: equality of structs, slice expressions, indices, lengths. (And what it stands on.) -/
import Derived.Test.YtdgomkfabfageaaGreatWc
import Derived.Laws.MakeOwn
import Derived.AtR
import Derived.Orders
import Derived.KernelRfl
import Derived.Laws.AppendOwn
import Derived.Test.YtdgomkfabfageaaGreatWa
import Derived.Test.YtdgomkfabfageaaGreatWb
import Derived.Laws.StructEq
set_option linter.unusedSimpArgs false
set_option linter.unusedVariables false

namespace Go.Hk
open Go.Proofs
def ttA : TT := ttS ++ [
  (219, ⟨.iface, false, 1, 16, [.imm .niliface]⟩),
  (212, ⟨.sl 219, false, 1, 24, [.nils]⟩),
  (214, ⟨.struct [(0, 72)], true, 2, 40, [.imm (.str []), .nils]⟩),
  (216, ⟨.struct [(0, 143)], true, 15, 224, [.imm (.str []), .imm (.str []), .imm (.int .i64 0), .imm (.int .i64 0), .imm (.str []), .nils, .imm (.int .i64 0), .imm (.int .i64 0), .imm (.str []), .nils, .imm (.int .i64 0), .imm (.int .i64 0), .imm (.str []), .nils, .nils]⟩),
  (103, ⟨.func, false, 1, 8, [.imm .nilfn]⟩),
  (236, ⟨.func, false, 1, 8, [.imm .nilfn]⟩),
  (220, ⟨.func, false, 1, 8, [.imm .nilfn]⟩)]
theorem zbv : TTok Tryz.prog ttA := .of_eq (l := [4, 3, 9, 141, 26, 50, 138, 27, 5, 24, 23, 57, 139, 48, 143, 147, 75, 22, 145, 72, 70, 38, 239, 192, 1, 195, 248, 219, 212, 214, 216, 103, 236, 220]) (by kernel_rfl)
section
variable {n : Nat} {F : List Nat} {Q : DQ} {env env' : Env} {st st' : St} {ids ids' : List Nat} {k todo : List DI} {ob : List Prop}
theorem ad (path : List Pt) (h : run ttA n 300 path todo env st ids [] = .at k env' st' ids' ob) (hob : zbh ob) (hd : G Tryz.prog n F Q k env' st' ids') : DGo Tryz.prog n F Q todo env st ids := ztn zbv mixed 300 path h hob hd
theorem ag (path : List Pt) (h : run ttA n 300 path todo env st ids [] = .at k env' st' ids' ob) (hob : zbh ob) (hd : G Tryz.prog n F Q k env' st' ids') : G Tryz.prog n F Q todo env st ids := zq2 zbv mixed 300 path h hob hd
theorem ai {es : List (List V)} {m : Int} {sz : Nat} {e : TypeId} {g : Option (Bool × Bool)} {ob : List Prop} {t : Nat} {todo' : List DI} {c : List V} (h : yd5 ttA n env todo = some ⟨es, m, sz, e, g, ob, some t, todo'⟩)
    (hc : zal g → 0 ≤ m ∧ es[m.toNat]? = some c ∧ c.length = sz) (hob : zbh ob) (hk : G Tryz.prog n F Q todo' ((t, gD g (.ip e c 0)) :: env) st ids) : G Tryz.prog n F Q todo env st ids := zg9 zbv h hc hob hk
end
def zi6 {α : Type} (q : α → Bool) : List α → Nat → Int
  | [], _ => -1
  | e :: r, i => if q e then (i : Int) else zi6 q r (i + 1)
theorem zhw {α : Type} (q : α → Bool) : ∀ (es : List α) (i : Nat), 0 ≤ zi6 q es i ↔ es.any q = true
  | [], i => by simp [zi6]
  | e :: r, i => by
    have ih := zhw q r (i + 1)
    by_cases h : q e = true
    · simp [zi6, h]
    · simp only [zi6, h, List.any_cons]
      simpa using ih
set_option maxRecDepth 100000 in
theorem indexT (g : FuncId) (tf : TypeId) (fv : V) (q : List V → Bool) (es : List (List V)) (hes : ∀ e ∈ es, e.length = 4) (hlen : es.length ≤ 9223372036854775806)
    (hq : ∀ e ∈ es, zcm Tryz.prog g [.imm (.agg e), .ref 1 0] [(1, some (.immb tf 1 [fv]))] (.ret (.imm (.bool (q e))) [(1, some (.immb tf 1 [fv]))])) :
    zcm Tryz.prog 149 [.imm (.sl es), .fn (.func g) [] [.ref 1 0]] [(1, some (.immb tf 1 [fv]))] (.ret (.imm (.int .i64 (zi6 q es 0))) [(1, some (.immb tf 1 [fv]))]) := by
  refine zae zbv Tryz.func149 (by decide +kernel) rfl [2, 3, 4] rfl rfl ?_
  refine ag [] rfl (by simp) ?_
  refine zag (fun i : Nat => [(8, .imm (.int .i64 i)), (7, .imm (.int .i64 es.length)), (0, .imm (.sl es)), (1, .fn (.func g) [] [.ref 1 0])]) (fun _ => [(1, some (.immb tf 1 [fv]))]) [2, 3, 4] (fun i => es.length - i)
    (fun i => i ≤ es.length ∧ zi6 q es 0 = zi6 q (es.drop i) i) 0 ⟨Nat.zero_le _, rfl⟩ ⟨rfl, za2 (by simp), rfl, rfl, trivial⟩ ⟨rfl, trivial⟩ rfl fun i hi ih => ?_
  refine ad [] rfl (by simp) ?_
  have hi2 := hi.2
  refine zaa rfl (fun h => ?_) (fun h => ?_)
  · simp at h
    obtain ⟨e, he⟩ := zah h
    have hm := List.mem_of_getElem? he
    rw [zaj he] at hi2
    refine ad [] rfl (by simp) ?_
    refine ai rfl (c := e) (fun _ => ⟨by simp, by simpa using he, hes e hm⟩) (by simp) ?_
    refine ag [] rfl (by simp [hes e hm]) ?_
    refine zaw (fr := []) [(1, 1)] [] rfl (by simp) (hq e hm) ⟨⟨rfl, rfl, rfl⟩, trivial⟩ rfl rfl rfl rfl ?_
    refine ag [] rfl (by simp) ?_
    refine zaa rfl (fun h => ?_) (fun h => ?_)
    · refine ad [] rfl (by simp) ?_
      exact zab ⟨_, rfl, tV (congrArg _ (by rw [hi2]; simp [zi6, h])), ⟨rfl, trivial⟩⟩
    · refine ad [] rfl (by simp) ?_
      exact zad (ih (i + 1) (by omega) ⟨by omega, by rw [hi2]; simp [zi6, h]⟩) ⟨za2 (w64 (by omega) (by omega)), rfl, rfl, rfl, trivial⟩ ⟨rfl, trivial⟩ rfl
  · refine ad [] rfl (by simp) ?_
    simp at h
    refine zab ⟨_, rfl, tV (congrArg _ ?_), ⟨rfl, trivial⟩⟩
    rw [hi2, List.drop_eq_nil_of_le (by omega)]; rfl
set_option maxRecDepth 100000 in
theorem ydg (g : FuncId) (tf : TypeId) (fv : V) (q : List V → Bool) (es : List (List V)) (hes : ∀ e ∈ es, e.length = 4) (hlen : es.length ≤ 9223372036854775806)
    (hq : ∀ e ∈ es, zcm Tryz.prog g [.imm (.agg e), .ref 1 0] [(1, some (.immb tf 1 [fv]))] (.ret (.imm (.bool (q e))) [(1, some (.immb tf 1 [fv]))])) :
    zcm Tryz.prog 117 [.imm (.sl es), .fn (.func g) [] [.ref 1 0]] [(1, some (.immb tf 1 [fv]))] (.ret (.imm (.bool (es.any q))) [(1, some (.immb tf 1 [fv]))]) := by
  refine zae zbv Tryz.func117 (by decide +kernel) rfl [2, 3, 4] rfl rfl ?_
  refine ag [] rfl (by simp) ?_
  refine zaw (fr := []) [(1, 1)] [] rfl (by simp) (indexT g tf fv q es hes hlen hq) ⟨⟨rfl, rfl, rfl⟩, trivial⟩ rfl rfl rfl rfl ?_
  refine ag [] rfl (by simp) ?_
  refine zab ⟨_, rfl, tV (congrArg _ ?_), ⟨rfl, trivial⟩⟩
  rw [Bool.eq_iff_iff, ← zhw q es 0]
  simp
set_option maxRecDepth 100000 in
theorem all1T (g : FuncId) (e : List V) (hel : e.length = 4) (b : Bool) (hq : PureC Tryz.prog g [.agg e] (.bool b)) :
    zcm Tryz.prog 181 [.imm (.agg e), .ref 1 0] [(1, some (.immb 103 1 [.fn (.func g)]))] (.ret (.imm (.bool (!b))) [(1, some (.immb 103 1 [.fn (.func g)]))]) := by
  refine zae zbv Tryz.func181 (by decide +kernel) rfl [2, 3, 4] rfl rfl ?_
  refine ag [] rfl (by simp [hel]) ?_
  refine zaw (fr := []) [] [] rfl (by simp) hq trivial rfl rfl rfl rfl ?_
  refine ag [] rfl (by simp) ?_
  exact zab ⟨_, rfl, tV rfl, ⟨rfl, trivial⟩⟩
set_option maxRecDepth 100000 in
theorem allT (g : FuncId) (q : List V → Bool) (es : List (List V)) (hes : ∀ e ∈ es, e.length = 4) (hlen : es.length ≤ 9223372036854775806) (hq : ∀ e ∈ es, PureC Tryz.prog g [.agg e] (.bool (q e))) :
    PureC Tryz.prog 172 [.sl es, .fn (.func g)] (.bool (es.all q)) := by
  refine zae zbv Tryz.func172 (by decide +kernel) rfl [1, 2, 3] rfl rfl ?_
  refine ag [] rfl (by simp) ?_
  refine zaw (fr := []) [(1, 1)] [] rfl (by simp) (ydg 181 103 (.fn (.func g)) (fun e => !q e) es hes hlen (fun e he => all1T g e (hes e he) (q e) (hq e he))) ⟨⟨rfl, rfl, rfl⟩, trivial⟩ rfl rfl rfl rfl ?_
  refine ag [] rfl (by simp) ?_
  refine zab ⟨_, rfl, tV (congrArg _ ?_), trivial⟩
  rw [List.any_eq_not_all_not]
  simp
set_option maxRecDepth 100000 in
theorem indexC (g : FuncId) (tf : TypeId) (fv : V) (q : List V → Bool) (es : List (List V)) (hes : ∀ e ∈ es, e.length = 2) (hlen : es.length ≤ 9223372036854775806)
    (hq : ∀ e ∈ es, zcm Tryz.prog g [.imm (.agg e), .ref 1 0] [(1, some (.immb tf 1 [fv]))] (.ret (.imm (.bool (q e))) [(1, some (.immb tf 1 [fv]))])) :
    zcm Tryz.prog 185 [.imm (.sl es), .fn (.func g) [] [.ref 1 0]] [(1, some (.immb tf 1 [fv]))] (.ret (.imm (.int .i64 (zi6 q es 0))) [(1, some (.immb tf 1 [fv]))]) := by
  refine zae zbv Tryz.func185 (by decide +kernel) rfl [2, 3, 4] rfl rfl ?_
  refine ag [] rfl (by simp) ?_
  refine zag (fun i : Nat => [(8, .imm (.int .i64 i)), (7, .imm (.int .i64 es.length)), (0, .imm (.sl es)), (1, .fn (.func g) [] [.ref 1 0])]) (fun _ => [(1, some (.immb tf 1 [fv]))]) [2, 3, 4] (fun i => es.length - i)
    (fun i => i ≤ es.length ∧ zi6 q es 0 = zi6 q (es.drop i) i) 0 ⟨Nat.zero_le _, rfl⟩ ⟨rfl, za2 (by simp), rfl, rfl, trivial⟩ ⟨rfl, trivial⟩ rfl fun i hi ih => ?_
  refine ad [] rfl (by simp) ?_
  have hi2 := hi.2
  refine zaa rfl (fun h => ?_) (fun h => ?_)
  · simp at h
    obtain ⟨e, he⟩ := zah h
    have hm := List.mem_of_getElem? he
    rw [zaj he] at hi2
    refine ad [] rfl (by simp) ?_
    refine ai rfl (c := e) (fun _ => ⟨by simp, by simpa using he, hes e hm⟩) (by simp) ?_
    refine ag [] rfl (by simp [hes e hm]) ?_
    refine zaw (fr := []) [(1, 1)] [] rfl (by simp) (hq e hm) ⟨⟨rfl, rfl, rfl⟩, trivial⟩ rfl rfl rfl rfl ?_
    refine ag [] rfl (by simp) ?_
    refine zaa rfl (fun h => ?_) (fun h => ?_)
    · refine ad [] rfl (by simp) ?_
      exact zab ⟨_, rfl, tV (congrArg _ (by rw [hi2]; simp [zi6, h])), ⟨rfl, trivial⟩⟩
    · refine ad [] rfl (by simp) ?_
      exact zad (ih (i + 1) (by omega) ⟨by omega, by rw [hi2]; simp [zi6, h]⟩) ⟨za2 (w64 (by omega) (by omega)), rfl, rfl, rfl, trivial⟩ ⟨rfl, trivial⟩ rfl
  · refine ad [] rfl (by simp) ?_
    simp at h
    refine zab ⟨_, rfl, tV (congrArg _ ?_), ⟨rfl, trivial⟩⟩
    rw [hi2, List.drop_eq_nil_of_le (by omega)]; rfl
set_option maxRecDepth 100000 in
theorem ydi (g : FuncId) (tf : TypeId) (fv : V) (q : List V → Bool) (es : List (List V)) (hes : ∀ e ∈ es, e.length = 2) (hlen : es.length ≤ 9223372036854775806)
    (hq : ∀ e ∈ es, zcm Tryz.prog g [.imm (.agg e), .ref 1 0] [(1, some (.immb tf 1 [fv]))] (.ret (.imm (.bool (q e))) [(1, some (.immb tf 1 [fv]))])) :
    zcm Tryz.prog 179 [.imm (.sl es), .fn (.func g) [] [.ref 1 0]] [(1, some (.immb tf 1 [fv]))] (.ret (.imm (.bool (es.any q))) [(1, some (.immb tf 1 [fv]))]) := by
  refine zae zbv Tryz.func179 (by decide +kernel) rfl [2, 3, 4] rfl rfl ?_
  refine ag [] rfl (by simp) ?_
  refine zaw (fr := []) [(1, 1)] [] rfl (by simp) (indexC g tf fv q es hes hlen hq) ⟨⟨rfl, rfl, rfl⟩, trivial⟩ rfl rfl rfl rfl ?_
  refine ag [] rfl (by simp) ?_
  refine zab ⟨_, rfl, tV (congrArg _ ?_), ⟨rfl, trivial⟩⟩
  rw [Bool.eq_iff_iff, ← zhw q es 0]
  simp
set_option maxRecDepth 100000 in
theorem all1C (g : FuncId) (e : List V) (hel : e.length = 2) (b : Bool) (hq : PureC Tryz.prog g [.agg e] (.bool b)) :
    zcm Tryz.prog 180 [.imm (.agg e), .ref 1 0] [(1, some (.immb 236 1 [.fn (.func g)]))] (.ret (.imm (.bool (!b))) [(1, some (.immb 236 1 [.fn (.func g)]))]) := by
  refine zae zbv Tryz.func180 (by decide +kernel) rfl [2, 3, 4] rfl rfl ?_
  refine ag [] rfl (by simp [hel]) ?_
  refine zaw (fr := []) [] [] rfl (by simp) hq trivial rfl rfl rfl rfl ?_
  refine ag [] rfl (by simp) ?_
  exact zab ⟨_, rfl, tV rfl, ⟨rfl, trivial⟩⟩
set_option maxRecDepth 100000 in
theorem allC (g : FuncId) (q : List V → Bool) (es : List (List V)) (hes : ∀ e ∈ es, e.length = 2) (hlen : es.length ≤ 9223372036854775806) (hq : ∀ e ∈ es, PureC Tryz.prog g [.agg e] (.bool (q e))) :
    PureC Tryz.prog 170 [.sl es, .fn (.func g)] (.bool (es.all q)) := by
  refine zae zbv Tryz.func170 (by decide +kernel) rfl [1, 2, 3] rfl rfl ?_
  refine ag [] rfl (by simp) ?_
  refine zaw (fr := []) [(1, 1)] [] rfl (by simp) (ydi 180 236 (.fn (.func g)) (fun e => !q e) es hes hlen (fun e he => all1C g e (hes e he) (q e) (hq e he))) ⟨⟨rfl, rfl, rfl⟩, trivial⟩ rfl rfl rfl rfl ?_
  refine ag [] rfl (by simp) ?_
  refine zab ⟨_, rfl, tV (congrArg _ ?_), trivial⟩
  rw [List.any_eq_not_all_not]
  simp
set_option maxRecDepth 100000 in
theorem indexI (g : FuncId) (tf : TypeId) (fv : V) (q : V → Bool) (es : List V) (hlen : es.length ≤ 9223372036854775806)
    (hq : ∀ e ∈ es, zcm Tryz.prog g [.imm e, .ref 1 0] [(1, some (.immb tf 1 [fv]))] (.ret (.imm (.bool (q e))) [(1, some (.immb tf 1 [fv]))])) :
    zcm Tryz.prog 178 [.imm (.sl (es.map fun x => [x])), .fn (.func g) [] [.ref 1 0]] [(1, some (.immb tf 1 [fv]))] (.ret (.imm (.int .i64 (zi6 q es 0))) [(1, some (.immb tf 1 [fv]))]) := by
  refine zae zbv Tryz.func178 (by decide +kernel) rfl [2, 3, 4] rfl rfl ?_
  refine ag [] rfl (by simp) ?_
  refine zag (fun i : Nat => [(8, .imm (.int .i64 i)), (7, .imm (.int .i64 es.length)), (0, .imm (.sl (es.map fun x => [x]))), (1, .fn (.func g) [] [.ref 1 0])]) (fun _ => [(1, some (.immb tf 1 [fv]))]) [2, 3, 4] (fun i => es.length - i)
    (fun i => i ≤ es.length ∧ zi6 q es 0 = zi6 q (es.drop i) i) 0 ⟨Nat.zero_le _, rfl⟩ ⟨rfl, za2 (by simp), rfl, rfl, trivial⟩ ⟨rfl, trivial⟩ rfl fun i hi ih => ?_
  refine ad [] rfl (by simp) ?_
  have hi2 := hi.2
  refine zaa rfl (fun h => ?_) (fun h => ?_)
  · simp at h
    obtain ⟨e, he⟩ := zah h
    have hm := List.mem_of_getElem? he
    rw [zaj he] at hi2
    refine ad [] rfl (by simp) ?_
    refine ai rfl (c := [e]) (fun _ => ⟨by simp, by simp [he], rfl⟩) (by simp) ?_
    refine ag [] rfl (by simp) ?_
    refine zaw (fr := []) [(1, 1)] [] rfl (by simp) (hq e hm) ⟨⟨rfl, rfl, rfl⟩, trivial⟩ rfl rfl rfl rfl ?_
    refine ag [] rfl (by simp) ?_
    refine zaa rfl (fun h => ?_) (fun h => ?_)
    · refine ad [] rfl (by simp) ?_
      exact zab ⟨_, rfl, tV (congrArg _ (by rw [hi2]; simp [zi6, h])), ⟨rfl, trivial⟩⟩
    · refine ad [] rfl (by simp) ?_
      exact zad (ih (i + 1) (by omega) ⟨by omega, by rw [hi2]; simp [zi6, h]⟩) ⟨za2 (w64 (by omega) (by omega)), rfl, rfl, rfl, trivial⟩ ⟨rfl, trivial⟩ rfl
  · refine ad [] rfl (by simp) ?_
    simp at h
    refine zab ⟨_, rfl, tV (congrArg _ ?_), ⟨rfl, trivial⟩⟩
    rw [hi2, List.drop_eq_nil_of_le (by omega)]; rfl
set_option maxRecDepth 100000 in
theorem ydh (g : FuncId) (tf : TypeId) (fv : V) (q : V → Bool) (es : List V) (hlen : es.length ≤ 9223372036854775806)
    (hq : ∀ e ∈ es, zcm Tryz.prog g [.imm e, .ref 1 0] [(1, some (.immb tf 1 [fv]))] (.ret (.imm (.bool (q e))) [(1, some (.immb tf 1 [fv]))])) :
    zcm Tryz.prog 168 [.imm (.sl (es.map fun x => [x])), .fn (.func g) [] [.ref 1 0]] [(1, some (.immb tf 1 [fv]))] (.ret (.imm (.bool (es.any q))) [(1, some (.immb tf 1 [fv]))]) := by
  refine zae zbv Tryz.func168 (by decide +kernel) rfl [2, 3, 4] rfl rfl ?_
  refine ag [] rfl (by simp) ?_
  refine zaw (fr := []) [(1, 1)] [] rfl (by simp) (indexI g tf fv q es hlen hq) ⟨⟨rfl, rfl, rfl⟩, trivial⟩ rfl rfl rfl rfl ?_
  refine ag [] rfl (by simp) ?_
  refine zab ⟨_, rfl, tV (congrArg _ ?_), ⟨rfl, trivial⟩⟩
  rw [Bool.eq_iff_iff, ← zhw q es 0]
  simp
set_option maxRecDepth 100000 in
theorem all1I (g : FuncId) (e : V) (b : Bool) (hq : PureC Tryz.prog g [e] (.bool b)) :
    zcm Tryz.prog 169 [.imm e, .ref 1 0] [(1, some (.immb 220 1 [.fn (.func g)]))] (.ret (.imm (.bool (!b))) [(1, some (.immb 220 1 [.fn (.func g)]))]) := by
  refine zae zbv Tryz.func169 (by decide +kernel) rfl [2, 3, 4] rfl rfl ?_
  refine ag [] rfl (by simp) ?_
  refine zaw (fr := []) [] [] rfl (by simp) hq trivial rfl rfl rfl rfl ?_
  refine ag [] rfl (by simp) ?_
  exact zab ⟨_, rfl, tV rfl, ⟨rfl, trivial⟩⟩
set_option maxRecDepth 100000 in
theorem allI (g : FuncId) (q : V → Bool) (es : List V) (hlen : es.length ≤ 9223372036854775806) (hq : ∀ e ∈ es, PureC Tryz.prog g [e] (.bool (q e))) :
    PureC Tryz.prog 147 [.sl (es.map fun x => [x]), .fn (.func g)] (.bool (es.all q)) := by
  refine zae zbv Tryz.func147 (by decide +kernel) rfl [1, 2, 3] rfl rfl ?_
  refine ag [] rfl (by simp) ?_
  refine zaw (fr := []) [(1, 1)] [] rfl (by simp) (ydh 169 220 (.fn (.func g)) (fun e => !q e) es hlen (fun e he => all1I g e (q e) (hq e he))) ⟨⟨rfl, rfl, rfl⟩, trivial⟩ rfl rfl rfl rfl ?_
  refine ag [] rfl (by simp) ?_
  refine zab ⟨_, rfl, tV (congrArg _ ?_), trivial⟩
  rw [List.any_eq_not_all_not]
  simp
end Go.Hk
namespace Go.Hk
def zrf : Sh → Bool
  | .iface | .other => false
  | _ => true
structure PTa where
  t : TypeId
  v : V
  to_ : TypeId
  dst : Option Nat
  todo : List DI
def pta (tt : TT) (n : Nat) (env : Env) (todo : List DI) : Option PTa :=
  match yfe todo with
  | some o => match o.guard, o.op with
    | none, .typeAssert x _ to_ true => match evO env x, lk tt to_, zel n o.dst, zb3 todo ([], []) with
      | some (.imm (.iface t v)), some i, true, some (_, _, todo') => match zrf i.sh with
        | true => some ⟨t, v, to_, o.dst, todo'⟩
        | false => none
      | _, _, _, _ => none
    | _, _ => none
  | none => none
section
variable {P : Program} {n : Nat} {F : List Nat} {Q : DQ} {tt : TT} {env env' : Env} {st st' : St} {ids ids' : List Nat} {k todo todo' : List DI} {I : Imm} {μ : Mu} {w : World} {a : Act} {Pn : V → Prop} {d : D} {cx : Prop} {ob : List Prop}
theorem zmk {t to_ from_ : TypeId} {i : TyI} {v : Value} (hi : TyOk P to_ i) (hc : zrf i.sh = true) {r : Value} (h : (t = to_ ∧ r = .tuple #[v, .bool true]) ∨ (t ≠ to_ ∧ ∃ z, (P.info? to_).bind (·.zero) = some z ∧ r = .tuple #[z, .bool false])) :
    (Instr.typeAssert (.iface t v) from_ to_ true).run P w = .ok r w := by
  have hu : ∃ dd, P.underlying to_ = some dd ∧ ∀ ms, dd ≠ .interface ms := by
    have := hi.sh
    generalize i.sh = sh at this hc
    cases sh <;> simp only [zrf, Bool.false_eq_true] at hc <;> simp only [zfm] at this
    case struct fs => obtain ⟨f, h1, _⟩ := this; exact ⟨_, h1, fun _ h => by cases h⟩
    case func => obtain ⟨a, b, c, h1⟩ := this; exact ⟨_, h1, fun _ h => by cases h⟩
    all_goals exact ⟨_, this, fun _ h => by cases h⟩
  obtain ⟨dd, hd, hne⟩ := hu
  rcases h with ⟨rfl, rfl⟩ | ⟨hn, z, hz, rfl⟩
  · cases dd <;> first | exact absurd rfl (hne _) | simp [Instr.typeAssert, run_underlying hd]
  · have hz := zdk (w := w) hz
    cases dd <;> first | exact absurd rfl (hne _) | simp [Instr.typeAssert, run_underlying hd, hn, hz]
theorem znl (htt : TTok P tt) {t0 to_ : TypeId} {v0 : V} {d0 : Option Nat} {todo0 : List DI} (h : pta tt n env todo = some ⟨t0, v0, to_, d0, todo0⟩) {r : List V}
    (hr : (t0 = to_ ∧ r = [v0, .bool true]) ∨ (t0 ≠ to_ ∧ ∃ z zd, (P.info? to_).bind (·.zero) = some z ∧ (∀ I, RepV I z zd) ∧ r = [zd, .bool false]))
    (hk : G P n F Q todo0 (zee d0 (.imm (.tup r)) env) st ids) : G P n F Q todo env st ids := by
  unfold pta at h
  split at h
  · rename_i o ho
    split at h
    · rename_i x from_ to' hg hop
      split at h
      · rename_i t v i all o' todo' hx hi hd h1
        split at h
        · rename_i hc
          cases h
          have ho' : o' = o := zdc ho h1
          subst ho'
          refine zcv (fr := []) (wr := []) (rd := []) h1 ?_ hd (fun c hc => by rw [hop] at hc; cases hc) hk
          intro I μ st1 ids1 a w hag hst hon
          refine ⟨fun _ => ?_, fun hw => by rw [wanted_none hg] at hw; cases hw⟩
          have hops := zbr hon
          rw [hop] at hops
          have rx := (hops x (by simp [Op.operands]) _ hx).immInv
          generalize hv : a.eval x = v at rx
          cases rx with
          | iface _ u _ hu =>
            have fin : ∀ (z : Value) (b : Bool) (zd : V), (Instr.typeAssert (.iface t0 u) from_ to_ true).run P w = .ok (.tuple #[z, .bool b]) w → RepV I z zd → r = [zd, .bool b] →
                valX P ((execOp a.eval o').run P w) (fun v w' => ∃ I' μ', StRep I' μ' ([] ++ st1) ids1 w' ∧ RepD I' μ' v (.imm (.tup r)) ∧ μ.le μ' ∧ Ext I μ st1 w I' μ' ([] ++ st1) w') (zyi (yd6 Q) I μ st1 w) := by
              intro z b zd h1 h2 h3
              have hrun : (execOp a.eval o').run P w = .ok (.value (.tuple #[z, .bool b])) w := by
                simp only [execOp, hop, hv]
                exact zak h1
              rw [hrun, h3]
              refine ⟨I, μ, hst, .imm _ _ (.tup _ _ rfl fun i c x hc hx => ?_), Mu.le_refl μ, Ext.refl _ _ _ _⟩
              match i, hc, hx with
              | 0, hc, hx => cases hc; cases hx; exact h2
              | 1, hc, hx => cases hc; cases hx; exact .bool _
              | i + 2, hc, hx => simp at hx
            rcases hr with ⟨e1, e2⟩ | ⟨e1, z, zd, e2, e3, e4⟩
            · exact fin u true v0 (zmk (htt _ _ hi) hc (.inl ⟨e1, rfl⟩)) hu e2
            · exact fin z false zd (zmk (htt _ _ hi) hc (.inr ⟨e1, z, e2, rfl⟩)) (e3 I) e4
        · cases h
      · cases h
    · cases h
  · cases h
end
end Go.Hk
namespace Go.Hk
open Go.Proofs
mutual
theorem zgb : ∀ {a b : Ty}, dTyc a = dTyc b → a = b
  | .mk s n x ps, .mk s' n' x' ps', h => by
    simp only [dTyc, List.cons.injEq, V.int.injEq, V.str.injEq, V.sl.injEq, and_true, true_and] at h
    obtain ⟨h1, h2, h3, h4⟩ := h
    subst h1; subst h2; subst h3
    rw [zga h4]
theorem zga : ∀ {a b : List Ty}, zez a = zez b → a = b
  | [], [], _ => rfl
  | [], _ :: _, h => by simp [zez] at h
  | _ :: _, [], h => by simp [zez] at h
  | x :: r, y :: t, h => by
    simp only [zez, List.cons.injEq] at h
    rw [zgb h.1, zga h.2]
end
theorem zrd {a b : Cd} (h : zh2 a = zh2 b) : a = b := by
  obtain ⟨a1, a2⟩ := a
  obtain ⟨b1, b2⟩ := b
  simp only [zh2, List.cons.injEq, V.str.injEq, V.sl.injEq, and_true] at h
  rw [h.1, zga h.2]
open Classical in
noncomputable def qOf {α β : Type} (d : α → β) (f : α → Bool) (e : β) : Bool := decide (∃ t, d t = e ∧ f t = true)
open Classical in
theorem zk3 {α β : Type} {d : α → β} (hd : ∀ {a b}, d a = d b → a = b) (f : α → Bool) (t : α) : qOf d f (d t) = f t := by
  unfold qOf
  by_cases h : f t = true
  · rw [h]; exact decide_eq_true ⟨t, rfl, h⟩
  · simp only [Bool.not_eq_true] at h
    rw [h]
    refine decide_eq_false fun ⟨u, h1, h2⟩ => ?_
    rw [hd h1, h] at h2
    cases h2
theorem zuj {α β : Type} {d : α → β} (hd : ∀ {a b}, d a = d b → a = b) (f : α → Bool) (l : List α) : (l.map d).all (qOf d f) = l.all f := by
  rw [List.all_map]
  congr 1
  funext t
  exact zk3 hd f t
def zrh (c : Cd) : Bool := zct c.name && decide ((c.args.length : Int) ≤ 3) && c.args.all (zbp false)
def zgg (d : Dt) : Bool := zct d.name && decide ((1 : Int) ≤ d.cons.length) && decide ((d.cons.length : Int) ≤ 5) && d.cons.all zrh
def zq5 (f : Fd) : Bool := zfg f.name && zfg f.param && zbp false f.from_ && zbp false f.to_ && zn5 f.body
set_option maxRecDepth 100000 in
theorem yg1 (ts : List Ty) (h : ts.length ≤ 9223372036854775806) : PureC Tryz.prog 172 [.sl (zez ts), .fn (.func 173)] (.bool (ts.all (zbp false))) := by
  have := allT 173 (qOf dTyc (zbp false)) (zez ts) (fun e he => by rw [zcl] at he; obtain ⟨t, _, rfl⟩ := List.mem_map.1 he; simp) (by simpa using h) (fun e he => by
    rw [zcl] at he
    obtain ⟨t, _, rfl⟩ := List.mem_map.1 he
    rw [zk3 zgb]
    exact zp7 t)
  rw [zcl, zuj zgb] at this
  rw [zcl]
  exact this
set_option maxRecDepth 100000 in
theorem yas (c : Cd) : PureC Tryz.prog 171 [.agg (zh2 c)] (.bool (zrh c)) := by
  obtain ⟨nm, ts⟩ := c
  refine zav fun hv => ?_
  simp [zdi, vOk, zh2, maxLen] at hv
  refine zae zbv Tryz.func171 (by decide +kernel) rfl [1, 2, 3] rfl rfl ?_
  refine ag [] rfl (by simp [zal]) ?_
  refine zac rfl (fun _ => zch nm) (by simp [zal]) ?_
  refine ag [] rfl (by simp [zal]) ?_
  refine zac rfl (fun hg => yg1 ts (by simp [zal] at hg; omega)) (by simp [zal]) ?_
  refine ag [] rfl (by simp [zal] <;> grind) ?_
  refine zab ⟨_, rfl, tV (congrArg _ ?_), trivial⟩
  simp [zrh] <;> grind
set_option maxRecDepth 100000 in
theorem yjl (cs : List Cd) (h : cs.length ≤ 9223372036854775806) : PureC Tryz.prog 170 [.sl (cs.map zh2), .fn (.func 171)] (.bool (cs.all zrh)) := by
  have := allC 171 (qOf zh2 zrh) (cs.map zh2) (fun e he => by obtain ⟨t, _, rfl⟩ := List.mem_map.1 he; rfl) (by simpa using h) (fun e he => by
    obtain ⟨t, _, rfl⟩ := List.mem_map.1 he
    rw [zk3 zrd]
    exact yas t)
  rw [zuj zrd] at this
  exact this
def zqn (d : Dt) : V := .iface 214 (.agg (zep d))
def zmz (f : Fd) : V := .iface 216 (.agg (zz4 f))
set_option maxRecDepth 100000 in
theorem zrx : ∃ z, (Tryz.prog.info? 214).bind (·.zero) = some z ∧ ∀ I, RepV I z (.agg [.str [], .sl []]) := by
  refine ⟨.agg #[.string ⟨#[]⟩, .slice none 0 0], by kernel_rfl, fun I => .agg _ _ rfl (by decide) fun i c x hc hx => ?_⟩
  match i, hc, hx with
  | 0, hc, hx => cases hc; cases hx; exact .str _ _ rfl
  | 1, hc, hx => cases hc; cases hx; exact .slnil
  | i + 2, hc, hx => simp at hx
set_option maxRecDepth 100000 in
theorem zye (d : Dt) : PureC Tryz.prog 148 [zqn d] (.bool (zgg d)) := by
  obtain ⟨nm, cs⟩ := d
  refine zav fun hv => ?_
  simp [zdi, vOk, zqn, zep, maxLen] at hv
  refine zae zbv Tryz.func148 (by decide +kernel) rfl [1, 2, 3, 4] rfl rfl ?_
  refine ag [] rfl (by simp [zal]) ?_
  refine znl zbv rfl (.inl ⟨rfl, rfl⟩) ?_
  refine ag [.a] rfl (by simp [zal]) ?_
  refine zac rfl (fun _ => zch nm) (by simp [zal]) ?_
  refine ag [] rfl (by simp [zal]) ?_
  refine zac rfl (fun hg => yjl cs (by simp [zal] at hg; omega)) (by simp [zal]) ?_
  refine ag [] rfl (by simp [zal] <;> grind) ?_
  refine zab ⟨_, rfl, tV (congrArg _ ?_), trivial⟩
  simp [zgg] <;> grind
set_option maxRecDepth 100000 in
theorem yar (f : Fd) : PureC Tryz.prog 148 [zmz f] (.bool (zq5 f)) := by
  obtain ⟨nm, pm, ⟨s1, n1, x1, p1⟩, ⟨s2, n2, x2, p2⟩, ⟨o3, n3, x3, k3, p3⟩⟩ := f
  obtain ⟨z, hz, hzr⟩ := zrx
  refine zav fun hv => ?_
  refine zae zbv Tryz.func148 (by decide +kernel) rfl [1, 2, 3, 4] rfl rfl ?_
  refine ag [] rfl (by simp [zal]) ?_
  refine znl zbv rfl (.inr ⟨by decide, z, _, hz, hzr, rfl⟩) ?_
  refine ag [.a] rfl (by simp [zal]) ?_
  refine znl zbv rfl (.inl ⟨rfl, rfl⟩) ?_
  refine ag [.a] rfl (by simp [zal]) ?_
  refine zac rfl (fun _ => zfp nm) (by simp [zal]) ?_
  refine ag [] rfl (by simp [zal]) ?_
  refine zac rfl (fun _ => zfp pm) (by simp [zal]) ?_
  refine ag [] rfl (by simp [zal]) ?_
  refine zac rfl (fun _ => zp7 (.mk s1 n1 x1 p1)) (by simp [zal]) ?_
  refine ag [] rfl (by simp [zal]) ?_
  refine zac rfl (fun _ => zp7 (.mk s2 n2 x2 p2)) (by simp [zal]) ?_
  refine ag [] rfl (by simp [zal]) ?_
  refine zac rfl (fun _ => yg8 (.mk o3 n3 x3 k3 p3)) (by simp [zal]) ?_
  refine ag [] rfl (by simp [zal] <;> grind) ?_
  refine zab ⟨_, rfl, tV (congrArg _ ?_), trivial⟩
  simp [zq5, zth] <;> grind
inductive Pt2 where
  | d (x : Dt)
  | f (x : Fd)
def dPt : Pt2 → V
  | .d x => zqn x
  | .f x => zmz x
def ybb : Pt2 → Bool
  | .d x => zgg x
  | .f x => zq5 x
set_option maxRecDepth 100000 in
theorem ye0 (p : Pt2) : PureC Tryz.prog 148 [dPt p] (.bool (ybb p)) := by
  cases p with
  | d x => exact zye x
  | f x => exact yar x
mutual
theorem ygr : ∀ {a b : Tm}, zd8 a = zd8 b → a = b
  | .mk s n x ks ps, .mk s' n' x' ks' ps', h => by
    simp only [zd8, List.cons.injEq, V.int.injEq, V.str.injEq, V.sl.injEq, and_true, true_and] at h
    obtain ⟨h1, h2, h3, h4, h5⟩ := h
    subst h1; subst h2; subst h3
    rw [zrb h4, zga h5]
theorem zrb : ∀ {a b : List Tm}, zvu a = zvu b → a = b
  | [], [], _ => rfl
  | [], _ :: _, h => by simp [zvu] at h
  | _ :: _, [], h => by simp [zvu] at h
  | x :: r, y :: t, h => by
    simp only [zvu, List.cons.injEq] at h
    rw [ygr h.1, zrb h.2]
end
theorem zk7 : ∀ {a b : List Cd}, a.map zh2 = b.map zh2 → a = b
  | [], [], _ => rfl
  | [], _ :: _, h => by simp at h
  | _ :: _, [], h => by simp at h
  | x :: r, y :: t, h => by
    simp only [List.map_cons, List.cons.injEq] at h
    rw [zrd h.1, zk7 h.2]
set_option maxRecDepth 100000 in
theorem yde {a b : Pt2} (h : dPt a = dPt b) : a = b := by
  cases a with
  | d x => cases b with
    | d y =>
      obtain ⟨x1, x2⟩ := x
      obtain ⟨y1, y2⟩ := y
      simp only [dPt, zqn, zep, V.iface.injEq, V.agg.injEq, List.cons.injEq, V.str.injEq, V.sl.injEq, true_and, and_true] at h
      rw [h.1, zk7 h.2]
    | f y => simp [dPt, zqn, zmz] at h
  | f x => cases b with
    | d y => simp [dPt, zqn, zmz] at h
    | f y =>
      obtain ⟨nm, pm, ⟨s1, n1, x1, p1⟩, ⟨s2, n2, x2, p2⟩, ⟨o3, n3, x3, k3, p3⟩⟩ := x
      obtain ⟨nm', pm', ⟨s1', n1', x1', p1'⟩, ⟨s2', n2', x2', p2'⟩, ⟨o3', n3', x3', k3', p3'⟩⟩ := y
      simp only [dPt, zmz, zz4, dTyc, zd8, V.iface.injEq, V.agg.injEq, List.cons_append, List.nil_append, List.cons.injEq, V.str.injEq, V.int.injEq, V.sl.injEq, true_and, and_true] at h
      obtain ⟨h1, h2, h3, h4, h5, h6, h7, h8, h9, h10, h11, h12, h13, h14, h15⟩ := h
      rw [h1, h2, h3, h4, h5, zga h6, h7, h8, h9, zga h10, h11, h12, h13, zrb h14, zga h15]
set_option maxRecDepth 100000 in
theorem zx5 (ps : List Pt2) (h : ps.length ≤ 9223372036854775806) : PureC Tryz.prog 147 [.sl (ps.map fun p => [dPt p]), .fn (.func 148)] (.bool (ps.all ybb)) := by
  have := allI 148 (qOf dPt ybb) (ps.map dPt) (by simpa using h) (fun e he => by
    obtain ⟨t, _, rfl⟩ := List.mem_map.1 he
    rw [zk3 yde]
    exact ye0 t)
  rw [zuj yde, List.map_map] at this
  exact this
def zlo (m : Md) : Bool := zfg m.name && decide ((m.datas.length : Int) ≤ 4) && decide ((1 : Int) ≤ m.funs.length) && decide ((m.funs.length : Int) ≤ 5) && m.datas.all zgg && m.funs.all zq5
def zt5 (l : List Pt2) : List (List V) := l.map fun p => [dPt p]
@[simp] theorem rowP_length (l : List Pt2) : (zt5 l).length = l.length := by simp [zt5]
def envP (b : Bool) (k : Nat) : D := match b with
  | false => .nils
  | true => .own 2 k
def stP (b : Bool) (m : Md) (es : List (List V)) : St := match b with
  | false => [(1, some (.immb 147 3 (ygs m)))]
  | true => [(2, some (.row 219 1 es)), (1, some (.immb 147 3 (ygs m)))]
theorem zqf (a b : List Pt2) : zt5 (a ++ b) = zt5 a ++ zt5 b := by simp [zt5]
set_option maxRecDepth 100000 in
theorem ydk (m : Md) (b : Bool) (es0 : List (List V)) (hb : b = false → es0 = []) (he0 : es0 = zt5 (m.datas.map .d)) (hd : (m.datas.length : Int) ≤ 4) (hf1 : (1 : Int) ≤ m.funs.length) (hf : (m.funs.length : Int) ≤ 5) :
    DGo Tryz.prog Tryz.f116.ntmps (nms []) (yed ttA Tryz.f116.results.toList (.ret (.imm (zth (m.datas.all zgg && m.funs.all zq5))) []))
      [.code (zol Tryz.f116 4)] [(3, envP b es0.length), (1, .ref 1 0)] (stP b m es0) [3, 4] := by
  cases b with
  | false =>
    have := hb rfl
    subst this
    refine ad [] rfl (by simp) ?_
    refine zag (fun y : Nat × Bool × List (List V) => [(47, .imm (.int .i64 y.1)), (46, .imm (.int .i64 m.funs.length)), (45, .imm (.sl (m.funs.map zz4))), (3, envP y.2.1 y.2.2.length), (1, .ref 1 0)])
      (fun y => stP y.2.1 m y.2.2) [3, 4] (fun y => m.funs.length - y.1)
      (fun y => y.1 ≤ m.funs.length ∧ y.2.2 = zt5 (m.datas.map .d ++ (m.funs.take y.1).map .f) ∧ (y.2.1 = false → y.2.2 = [])) (0, false, []) ⟨Nat.zero_le _, by simpa using he0, fun _ => rfl⟩ ⟨rfl, za2 (by simp), rfl, rfl, rfl, trivial⟩ ⟨rfl, trivial⟩ rfl fun y hi ih => ?_
    obtain ⟨i, b, es⟩ := y
    obtain ⟨hi1, hi2, hi3⟩ := hi
    simp only at hi1 hi2 hi3
    have hlen : es.length ≤ 9 := by
      have := congrArg List.length hi2
      simp at this
      omega
    have hnext : ∀ f, m.funs[i]? = some f → es ++ [[zmz f]] = zt5 (m.datas.map .d ++ (m.funs.take (i + 1)).map .f) := fun f hf => by
      rw [zbe hf, List.map_append, ← List.append_assoc, zqf, ← hi2]; rfl
    have hend : ¬ i < m.funs.length → es = zt5 (m.datas.map .d ++ m.funs.map .f) := fun h => by
      rw [hi2, List.take_of_length_le (by omega)]
    cases b with
    | false =>
      have hi3 := hi3 rfl
      subst hi3
      refine ad [] rfl (by simp) ?_
      refine zaa rfl (fun h => ?_) (fun h => ?_)
      · simp at h
        obtain ⟨f, hf⟩ := zah h
        refine ad [] rfl (by simp) ?_
        refine ai rfl (c := zz4 f) (fun _ => ⟨by simp, by simpa using za6 hf, by simp⟩) (by simp) ?_
        refine ag [] rfl (by simp) ?_
        refine zc7 zbv rfl ⟨by simp, by simp [maxLen], by simp, trivial⟩ ?_
        refine ag [] rfl (by simp) ?_
        refine zc9 2 4 rfl ?_
        exact zad (ih (i + 1, true, [] ++ [[zmz f]]) (by simp only; omega) ⟨by simp only; omega, hnext f hf, fun h => by cases h⟩) ⟨za2 (w64 (by simp only; omega) (by simp only; omega)), rfl, rfl, rfl, rfl, trivial⟩ ⟨rfl, rfl, trivial⟩ rfl
      · simp at h
        have := congrArg List.length (hend (by omega))
        simp at this
        omega
    | true =>
      refine ad [] rfl (by simp) ?_
      refine zaa rfl (fun h => ?_) (fun h => ?_)
      · simp at h
        obtain ⟨f, hf⟩ := zah h
        refine ad [] rfl (by simp) ?_
        refine ai rfl (c := zz4 f) (fun _ => ⟨by simp, by simpa using za6 hf, by simp⟩) (by simp) ?_
        refine ag [] rfl (by simp) ?_
        refine zc7 zbv rfl ⟨by simp, by simp [maxLen]; omega, by simp; omega, trivial⟩ ?_
        refine ag [] rfl (by simp) ?_
        refine zc9 2 4 rfl ?_
        exact zad (ih (i + 1, true, es ++ [[zmz f]]) (by simp only; omega) ⟨by simp only; omega, hnext f hf, fun h => by cases h⟩) ⟨za2 (w64 (by simp only; omega) (by simp only; omega)), rfl, rfl, rfl, rfl, trivial⟩ ⟨rfl, rfl, trivial⟩ rfl
      · simp at h
        refine zar rfl ?_
        refine zd7 2 rfl ?_
        refine ad [] rfl (by simp) ?_
        refine zac rfl (fun _ => by rw [hend (by omega)]; exact zx5 _ (by simp; omega)) (by simp) ?_
        refine ag [] rfl (by simp) ?_
        have hall : (m.datas.map Pt2.d ++ m.funs.map Pt2.f).all ybb = (m.datas.all zgg && m.funs.all zq5) := by
          rw [List.all_append, List.all_map, List.all_map]; rfl
        rw [hall]
        refine zaa rfl (fun h => ?_) (fun h => ?_)
        · refine ad [] rfl (by simp) ?_
          refine zab ⟨_, rfl, tV ?_, trivial⟩
          simp only [Bool.not_eq_true'] at h
          rw [h]; rfl
        · refine ad [] rfl (by simp) ?_
          refine zab ⟨_, rfl, tV ?_, trivial⟩
          simp only [Bool.not_eq_false'] at h
          rw [h]; rfl
  | true =>
    refine ad [] rfl (by simp) ?_
    refine zag (fun y : Nat × Bool × List (List V) => [(47, .imm (.int .i64 y.1)), (46, .imm (.int .i64 m.funs.length)), (45, .imm (.sl (m.funs.map zz4))), (3, envP y.2.1 y.2.2.length), (1, .ref 1 0)])
      (fun y => stP y.2.1 m y.2.2) [3, 4] (fun y => m.funs.length - y.1)
      (fun y => y.1 ≤ m.funs.length ∧ y.2.2 = zt5 (m.datas.map .d ++ (m.funs.take y.1).map .f) ∧ (y.2.1 = false → y.2.2 = [])) (0, true, es0) ⟨Nat.zero_le _, by simpa using he0, fun h => by cases h⟩ ⟨rfl, za2 (by simp), rfl, rfl, rfl, trivial⟩ ⟨rfl, rfl, trivial⟩ rfl fun y hi ih => ?_
    obtain ⟨i, b, es⟩ := y
    obtain ⟨hi1, hi2, hi3⟩ := hi
    simp only at hi1 hi2 hi3
    have hlen : es.length ≤ 9 := by
      have := congrArg List.length hi2
      simp at this
      omega
    have hnext : ∀ f, m.funs[i]? = some f → es ++ [[zmz f]] = zt5 (m.datas.map .d ++ (m.funs.take (i + 1)).map .f) := fun f hf => by
      rw [zbe hf, List.map_append, ← List.append_assoc, zqf, ← hi2]; rfl
    have hend : ¬ i < m.funs.length → es = zt5 (m.datas.map .d ++ m.funs.map .f) := fun h => by
      rw [hi2, List.take_of_length_le (by omega)]
    cases b with
    | false =>
      have hi3 := hi3 rfl
      subst hi3
      refine ad [] rfl (by simp) ?_
      refine zaa rfl (fun h => ?_) (fun h => ?_)
      · simp at h
        obtain ⟨f, hf⟩ := zah h
        refine ad [] rfl (by simp) ?_
        refine ai rfl (c := zz4 f) (fun _ => ⟨by simp, by simpa using za6 hf, by simp⟩) (by simp) ?_
        refine ag [] rfl (by simp) ?_
        refine zc7 zbv rfl ⟨by simp, by simp [maxLen], by simp, trivial⟩ ?_
        refine ag [] rfl (by simp) ?_
        refine zc9 2 4 rfl ?_
        exact zad (ih (i + 1, true, [] ++ [[zmz f]]) (by simp only; omega) ⟨by simp only; omega, hnext f hf, fun h => by cases h⟩) ⟨za2 (w64 (by simp only; omega) (by simp only; omega)), rfl, rfl, rfl, rfl, trivial⟩ ⟨rfl, rfl, trivial⟩ rfl
      · simp at h
        have := congrArg List.length (hend (by omega))
        simp at this
        omega
    | true =>
      refine ad [] rfl (by simp) ?_
      refine zaa rfl (fun h => ?_) (fun h => ?_)
      · simp at h
        obtain ⟨f, hf⟩ := zah h
        refine ad [] rfl (by simp) ?_
        refine ai rfl (c := zz4 f) (fun _ => ⟨by simp, by simpa using za6 hf, by simp⟩) (by simp) ?_
        refine ag [] rfl (by simp) ?_
        refine zc7 zbv rfl ⟨by simp, by simp [maxLen]; omega, by simp; omega, trivial⟩ ?_
        refine ag [] rfl (by simp) ?_
        refine zc9 2 4 rfl ?_
        exact zad (ih (i + 1, true, es ++ [[zmz f]]) (by simp only; omega) ⟨by simp only; omega, hnext f hf, fun h => by cases h⟩) ⟨za2 (w64 (by simp only; omega) (by simp only; omega)), rfl, rfl, rfl, rfl, trivial⟩ ⟨rfl, rfl, trivial⟩ rfl
      · simp at h
        refine zar rfl ?_
        refine zd7 2 rfl ?_
        refine ad [] rfl (by simp) ?_
        refine zac rfl (fun _ => by rw [hend (by omega)]; exact zx5 _ (by simp; omega)) (by simp) ?_
        refine ag [] rfl (by simp) ?_
        have hall : (m.datas.map Pt2.d ++ m.funs.map Pt2.f).all ybb = (m.datas.all zgg && m.funs.all zq5) := by
          rw [List.all_append, List.all_map, List.all_map]; rfl
        rw [hall]
        refine zaa rfl (fun h => ?_) (fun h => ?_)
        · refine ad [] rfl (by simp) ?_
          refine zab ⟨_, rfl, tV ?_, trivial⟩
          simp only [Bool.not_eq_true'] at h
          rw [h]; rfl
        · refine ad [] rfl (by simp) ?_
          refine zab ⟨_, rfl, tV ?_, trivial⟩
          simp only [Bool.not_eq_false'] at h
          rw [h]; rfl
set_option maxRecDepth 100000 in
theorem zor (m : Md) : PureC Tryz.prog 116 [.agg (ygs m)] (zth (zlo m)) := by
  refine zav fun hv => ?_
  have hv1 : m.datas.length ≤ 9223372036854775807 ∧ m.funs.length ≤ 9223372036854775807 := by
    simp [zdi, vOk, ygs, maxLen] at hv; omega
  refine zae zbv Tryz.func116 (by decide +kernel) rfl [1, 2, 3, 4] rfl rfl ?_
  refine ag [] rfl (by simp [zal]) ?_
  refine zac rfl (fun _ => zfp m.name) (by simp [zal]) ?_
  refine ag [] rfl (by simp [zal] <;> grind) ?_
  refine zaa rfl (fun h => ?_) (fun h => ?_)
  · refine ad [] rfl (by simp) ?_
    refine zab ⟨_, rfl, tV (congrArg _ ?_), trivial⟩
    have : zlo m = false := by
      simp at h
      simp [zlo]
      grind
    rw [this]; rfl
  have hx : zfg m.name = true ∧ (m.datas.length : Int) ≤ 4 ∧ (1 : Int) ≤ m.funs.length ∧ (m.funs.length : Int) ≤ 5 := by
    simp at h
    refine ⟨?_, ?_, ?_, ?_⟩ <;> grind
  clear h
  have hres : zlo m = (m.datas.all zgg && m.funs.all zq5) := by simp [zlo, hx.1, hx.2.1, hx.2.2.1, hx.2.2.2]
  rw [hres]
  refine ad [] rfl (by simp) ?_
  refine zag (fun y : Nat × Bool × List (List V) => [(33, .imm (.int .i64 y.1)), (32, .imm (.int .i64 m.datas.length)), (31, .imm (.sl (m.datas.map zep))), (3, envP y.2.1 y.2.2.length), (1, .ref 1 0)])
    (fun y => stP y.2.1 m y.2.2) [3, 4] (fun y => m.datas.length - y.1)
    (fun y => y.1 ≤ m.datas.length ∧ y.2.2 = zt5 ((m.datas.take y.1).map .d) ∧ (y.2.1 = false → y.2.2 = [])) (0, false, []) ⟨Nat.zero_le _, rfl, fun _ => rfl⟩ ⟨rfl, za2 (by simp), rfl, rfl, rfl, trivial⟩ ⟨rfl, trivial⟩ rfl fun y hi ih => ?_
  obtain ⟨i, b, es⟩ := y
  obtain ⟨hi1, hi2, hi3⟩ := hi
  simp only at hi1 hi2 hi3
  have hlen : es.length ≤ 4 := by
    have := congrArg List.length hi2
    simp at this
    omega
  have hend : ¬ i < m.datas.length → es = zt5 (m.datas.map .d) := fun h => by
    rw [hi2, List.take_of_length_le (by omega)]
  have hnext : ∀ d, m.datas[i]? = some d → es ++ [[zqn d]] = zt5 ((m.datas.take (i + 1)).map .d) := fun d hd => by
    rw [zbe hd, List.map_append, zqf, ← hi2]; rfl
  cases b with
  | false =>
    have hi3 := hi3 rfl
    subst hi3
    refine ad [] rfl (by simp) ?_
    refine zaa rfl (fun h => ?_) (fun h => ?_)
    · simp at h
      obtain ⟨d, hd⟩ := zah h
      refine ad [] rfl (by simp) ?_
      refine ai rfl (c := zep d) (fun _ => ⟨by simp, by simpa using za6 hd, by simp⟩) (by simp) ?_
      refine ag [] rfl (by simp) ?_
      refine zc7 zbv rfl ⟨by simp, by simp [maxLen], by simp, trivial⟩ ?_
      refine ag [] rfl (by simp) ?_
      refine zc9 2 4 rfl ?_
      exact zad (ih (i + 1, true, [] ++ [[zqn d]]) (by simp only; omega) ⟨by simp only; omega, hnext d hd, fun h => by cases h⟩) ⟨za2 (w64 (by simp only; omega) (by simp only; omega)), rfl, rfl, rfl, rfl, trivial⟩ ⟨rfl, rfl, trivial⟩ rfl
    · simp at h
      refine zar rfl ?_
      exact zad (ydk m false [] (fun _ => rfl) (hend (by omega)) hx.2.1 hx.2.2.1 hx.2.2.2) ⟨rfl, rfl, trivial⟩ ⟨rfl, trivial⟩ rfl
  | true =>
    refine ad [] rfl (by simp) ?_
    refine zaa rfl (fun h => ?_) (fun h => ?_)
    · simp at h
      obtain ⟨d, hd⟩ := zah h
      refine ad [] rfl (by simp) ?_
      refine ai rfl (c := zep d) (fun _ => ⟨by simp, by simpa using za6 hd, by simp⟩) (by simp) ?_
      refine ag [] rfl (by simp) ?_
      refine zc7 zbv rfl ⟨by simp, by simp [maxLen]; omega, by simp; omega, trivial⟩ ?_
      refine ag [] rfl (by simp) ?_
      refine zc9 2 4 rfl ?_
      exact zad (ih (i + 1, true, es ++ [[zqn d]]) (by simp only; omega) ⟨by simp only; omega, hnext d hd, fun h => by cases h⟩) ⟨za2 (w64 (by simp only; omega) (by simp only; omega)), rfl, rfl, rfl, rfl, trivial⟩ ⟨rfl, rfl, trivial⟩ rfl
    · simp at h
      refine zar rfl ?_
      exact zad (ydk m true es (fun h => by cases h) (hend (by omega)) hx.2.1 hx.2.2.1 hx.2.2.2) ⟨rfl, rfl, trivial⟩ ⟨rfl, rfl, trivial⟩ rfl
def zke (s n : Int) (x : Str) (k : Int) : Bool :=
  if s = 1 then decide (-1000000000 ≤ n) && decide (n ≤ 1000000000) && (x == []) && (k == 0)
  else if s = 2 then (n == 0 || n == 1) && (x == []) && (k == 0)
  else if s = 3 ∨ s = 5 then n == 0 && x == [] && k == 0
  else if s = 4 then n == 0 && zct x && decide (k ≤ 3)
  else false
set_option maxRecDepth 100000 in
theorem ya4 (v : Ty) (k : Int) : PureC Tryz.prog 126 [.agg (yiz v), .int .i64 k] (.bool (match v with | .mk s n x _ => zke s n x k)) := by
  obtain ⟨s, n, x, ps⟩ := v
  refine zae za1 Tryz.func126 (by decide +kernel) rfl [1, 2, 3] rfl rfl ?_
  simp only [zke, yiz]
  refine bg [] rfl (by simp) ?_
  by_cases h1 : s = 1
  · subst h1
    refine zaa rfl (fun h => ?_) (fun h => by simp at h)
    refine bd [] rfl (by simp [zal]) ?_
    refine zab ⟨_, rfl, tV (congrArg _ ?_), trivial⟩
    simp [Bool.and_assoc]
  rw [if_neg h1]
  refine zaa rfl (fun h => absurd (by simpa using h) h1) (fun h => ?_)
  clear h
  refine bd [] rfl (by simp) ?_
  by_cases h2 : s = 2
  · subst h2
    refine zaa rfl (fun h => ?_) (fun h => by simp at h)
    refine bd [] rfl (by simp [zal]) ?_
    refine zab ⟨_, rfl, tV (congrArg _ ?_), trivial⟩
    simp [Bool.and_assoc]
  rw [if_neg h2]
  refine zaa rfl (fun h => absurd (by simpa using h) h2) (fun h => ?_)
  clear h
  refine bd [] rfl (by simp) ?_
  by_cases h3 : s = 3
  · subst h3
    refine zaa rfl (fun h => ?_) (fun h => by simp at h)
    refine bd [] rfl (by simp) ?_
    refine zaa rfl (fun h => ?_) (fun h => by simp at h)
    refine bd [] rfl (by simp [zal]) ?_
    refine zab ⟨_, rfl, tV (congrArg _ ?_), trivial⟩
    simp [Bool.and_assoc]
  refine zaa rfl (fun h => absurd (by simpa using h) h3) (fun h => ?_)
  clear h
  refine bd [] rfl (by simp) ?_
  by_cases h5 : s = 5
  · subst h5
    refine zaa rfl (fun h => ?_) (fun h => by simp at h)
    refine bd [] rfl (by simp [zal]) ?_
    refine zab ⟨_, rfl, tV (congrArg _ ?_), trivial⟩
    simp [Bool.and_assoc]
  rw [if_neg (by simp [h3, h5])]
  refine zaa rfl (fun h => absurd (by simpa using h) h5) (fun h => ?_)
  clear h
  refine bd [] rfl (by simp) ?_
  by_cases h4 : s = 4
  · subst h4
    refine zaa rfl (fun h => ?_) (fun h => by simp at h)
    refine bd [] rfl (by simp) ?_
    refine zac rfl (fun _ => zch x) (by simp [zal]) ?_
    refine bg [] rfl (by simp [zal]) ?_
    refine zab ⟨_, rfl, tV (congrArg _ ?_), trivial⟩
    simp [Bool.and_assoc]
  rw [if_neg h4]
  refine zaa rfl (fun h => absurd (by simpa using h) h4) (fun h => ?_)
  clear h
  refine bd [] rfl (by simp) ?_
  exact zab ⟨_, rfl, tV rfl, trivial⟩
set_option maxRecDepth 100000 in
theorem indexV (g : FuncId) (q : List V → Bool) (es : List (List V)) (hes : ∀ e ∈ es, e.length = 4) (hlen : es.length ≤ 9223372036854775807)
    (hq : ∀ e ∈ es, PureC Tryz.prog g [.agg e] (.bool (q e))) :
    PureC Tryz.prog 158 [.sl es, .fn (.func g)] (.int .i64 (zi6 q es 0)) := by
  refine zae za1 Tryz.func158 (by decide +kernel) rfl [2, 3, 4] rfl rfl ?_
  refine bg [] rfl (by simp) ?_
  refine zag (fun i : Nat => [(8, .imm (.int .i64 i)), (7, .imm (.int .i64 es.length)), (0, .imm (.sl es)), (1, .imm (.fn (.func g)))]) (fun _ => []) [2, 3, 4] (fun i => es.length - i)
    (fun i => i ≤ es.length ∧ zi6 q es 0 = zi6 q (es.drop i) i) 0 ⟨Nat.zero_le _, rfl⟩ ⟨rfl, za2 (by simp), rfl, rfl, trivial⟩ trivial rfl fun i hi ih => ?_
  refine bd [] rfl (by simp) ?_
  have hi2 := hi.2
  refine zaa rfl (fun h => ?_) (fun h => ?_)
  · simp at h
    obtain ⟨e, he⟩ := zah h
    have hm := List.mem_of_getElem? he
    rw [zaj he] at hi2
    refine bd [] rfl (by simp) ?_
    refine bi rfl (c := e) (fun _ => ⟨by simp, by simpa using he, hes e hm⟩) (by simp) ?_
    refine bg [] rfl (by simp [hes e hm]) ?_
    refine zac rfl (fun _ => hq e hm) (by simp) ?_
    refine bg [] rfl (by simp) ?_
    refine zaa rfl (fun h => ?_) (fun h => ?_)
    · refine bd [] rfl (by simp) ?_
      exact zab ⟨_, rfl, tV (congrArg _ (by rw [hi2]; simp [zi6, h])), trivial⟩
    · refine bd [] rfl (by simp) ?_
      exact zad (ih (i + 1) (by omega) ⟨by omega, by rw [hi2]; simp [zi6, h]⟩) ⟨za2 (w64 (by omega) (by omega)), rfl, rfl, rfl, trivial⟩ trivial rfl
  · refine bd [] rfl (by simp) ?_
    simp at h
    refine zab ⟨_, rfl, tV (congrArg _ ?_), trivial⟩
    rw [hi2, List.drop_eq_nil_of_le (by omega)]; rfl
set_option maxRecDepth 100000 in
theorem ydf (g : FuncId) (q : List V → Bool) (es : List (List V)) (hes : ∀ e ∈ es, e.length = 4) (hlen : es.length ≤ 9223372036854775807)
    (hq : ∀ e ∈ es, PureC Tryz.prog g [.agg e] (.bool (q e))) :
    PureC Tryz.prog 127 [.sl es, .fn (.func g)] (.bool (es.any q)) := by
  refine zae za1 Tryz.func127 (by decide +kernel) rfl [2, 3, 4] rfl rfl ?_
  refine bg [] rfl (by simp) ?_
  refine zac rfl (fun _ => indexV g q es hes hlen hq) (by simp) ?_
  refine bg [] rfl (by simp) ?_
  refine zab ⟨_, rfl, tV (congrArg _ ?_), trivial⟩
  rw [Bool.eq_iff_iff, ← zhw q es 0]
  simp
mutual
def allV : Ty → Bool
  | .mk s n x ps => zke s n x ps.length && zz0 ps
def zz0 : List Ty → Bool
  | [] => true
  | t :: r => allV t && zz0 r
end
theorem zx4 : ∀ l : List Ty, zz0 l = l.all allV
  | [] => rfl
  | t :: r => by simp [zz0, zx4 r]
set_option maxRecDepth 100000 in
theorem yg0 (v : Ty) (h : PureC Tryz.prog 97 [.agg (dTyc v)] (.bool (allV v))) : PureC Tryz.prog 128 [.agg (dTyc v)] (.bool (!allV v)) := by
  obtain ⟨s, n, x, ps⟩ := v
  generalize allV (.mk s n x ps) = b at *
  refine zae za1 Tryz.func128 (by decide +kernel) rfl [1, 2, 3] rfl rfl ?_
  refine bg [] rfl (by simp) ?_
  refine zac rfl (fun _ => h) (by simp) ?_
  refine bg [] rfl (by simp) ?_
  exact zab ⟨_, rfl, tV rfl, trivial⟩
set_option maxRecDepth 100000 in
theorem ydw : ∀ v : Ty, PureC Tryz.prog 97 [.agg (dTyc v)] (.bool (allV v))
  | .mk s n x ps => by
    have hP := ya4 (.mk s n x ps) ps.length
    simp only at hP
    have hO := of_ok (.mk s n x ps)
    refine zav fun hv => ?_
    simp [zdi, vOk, dTyc, maxLen] at hv
    have hC := ydf 128 (qOf dTyc (fun v => !allV v)) (zez ps) (fun e he => by rw [zcl] at he; obtain ⟨t, _, rfl⟩ := List.mem_map.1 he; simp) (by simpa using hv.1)
      (fun e he => by
        rw [zcl] at he
        obtain ⟨t, ht, rfl⟩ := List.mem_map.1 he
        rw [zk3 zgb]
        exact yg0 t (ydw t))
    refine zae za1 Tryz.func97 (by decide +kernel) rfl [1, 2, 3] rfl rfl ?_
    refine bg [] rfl (by simp) ?_
    refine zac rfl (fun _ => hO) (by simp) ?_
    refine bg [] rfl (by simp) ?_
    refine zac rfl (v := .bool (zke s n x ps.length)) (fun _ => by simpa using hP) (by simp) ?_
    refine bg [] rfl (by simp) ?_
    refine zac rfl (fun _ => hC) (by simp [zal]) ?_
    refine bg [] rfl (by simp [zal]; rfl) ?_
    refine zab ⟨_, rfl, tV (congrArg _ ?_), trivial⟩
    rw [zcl, List.any_map, show (qOf dTyc (fun v => !allV v) ∘ dTyc) = (fun v => !allV v) from funext fun v => zk3 zgb _ v]
    simp [allV, zx4, List.all_eq_not_any_not]
termination_by v => SizeOf.sizeOf v
decreasing_by
  have := List.sizeOf_lt_of_mem ht
  simp_wf
  omega
set_option maxRecDepth 100000 in
theorem zzj (v : Ty) : PureC Tryz.prog 64 [.agg (dTyc v)] (.bool (decide (0 ≤ zb9 v 20000 100) && allV v)) := by
  have hW := zov v 20000 100 (by decide) (by decide) (by decide) (by decide)
  have hA := ydw v
  obtain ⟨s, n, x, ps⟩ := v
  refine zae za1 Tryz.func64 (by decide +kernel) rfl [1, 2, 3] rfl rfl ?_
  refine bg [] rfl (by simp) ?_
  refine zac rfl (fun _ => hW) (by simp) ?_
  refine bg [] rfl (by simp) ?_
  refine zac rfl (fun _ => hA) (by simp [zal]) ?_
  refine bg [] rfl (by simp [zal]) ?_
  refine zab ⟨_, rfl, tV (congrArg _ ?_), trivial⟩
  simp
theorem zjn {l : List Str} {s : Str} : zlp l s = true ↔ s ∈ l := by
  induction l with
  | nil => simp [zlp]
  | cons x r ih => simp only [zlp, Bool.or_eq_true, beq_iff_eq, ih, List.mem_cons]; exact ⟨fun h => h.imp Eq.symm id, fun h => h.imp Eq.symm id⟩
theorem ztm {l : List Str} : ∀ {pre : List Str}, zas pre l = true ↔ l.Nodup ∧ ∀ s ∈ l, s ∉ pre := by
  induction l with
  | nil => intro pre; simp [zas]
  | cons x r ih =>
    intro pre
    simp only [zas, Bool.and_eq_true, Bool.not_eq_true', ih, List.nodup_cons, List.mem_cons, List.mem_append, List.not_mem_nil, or_false]
    have : zlp pre x = false ↔ x ∉ pre := by rw [← Bool.not_eq_true, zjn]
    rw [this]
    constructor
    · rintro ⟨h1, h2, h3⟩
      exact ⟨⟨fun hx => h3 x hx (.inr rfl), h2⟩, fun s hs => hs.elim (fun e => e ▸ h1) fun h hp => h3 s h (.inl hp)⟩
    · rintro ⟨⟨h1, h2⟩, h3⟩
      exact ⟨h3 x (.inl rfl), h2, fun s hs hp => hp.elim (h3 s (.inr hs)) fun e => h1 (e ▸ hs)⟩
theorem zvk {l : List Str} : za8 l = true ↔ l.Nodup := by
  unfold za8
  rw [ztm]
  simp
def zjd (l : List (Str × V)) : List (V × V) := l.map fun p => (.str p.1, p.2)
def zt7 (m : List (V × V)) (p : Str × V) : List (V × V) := zi5 m (.str p.1) p.2
def mkM (l : List (Str × V)) : List (V × V) := l.foldl zt7 []
def ze1 (m : List (V × V)) : Prop := ∀ p ∈ m, zqs .str p.1 = true
theorem zgt (l : List (Str × V)) : ze1 (zjd l) := by
  intro p hp
  obtain ⟨q, _, rfl⟩ := List.mem_map.1 hp
  rfl
theorem zsf {m : List (V × V)} (h : ze1 m) (s : Str) (v : V) : ze1 (zi5 m (.str s) v) := by
  induction m with
  | nil => intro p hp; simp only [zi5, List.mem_singleton] at hp; subst hp; rfl
  | cons a r ih =>
    obtain ⟨k, e⟩ := a
    have h1 : ze1 r := fun p hp => h p (by simp [hp])
    simp only [zi5]
    split
    · intro p hp
      rcases List.mem_cons.1 hp with rfl | hp
      · rfl
      · exact h1 p hp
    · intro p hp
      rcases List.mem_cons.1 hp with rfl | hp
      · exact h _ (by simp)
      · exact ih h1 p hp
theorem zyn (l : List (Str × V)) : ∀ m, ze1 m → ze1 (l.foldl zt7 m) := by
  induction l with
  | nil => intro m h; exact h
  | cons p r ih => intro m h; exact ih _ (zsf h _ _)
theorem zw7 (l : List (Str × V)) : ze1 (mkM l) := zyn l [] fun p hp => by cases hp
theorem yew {m : List (V × V)} (s : Str) (v : V) : (zcf m (.str s) = none → (zi5 m (.str s) v).length = m.length + 1) ∧ (zcf m (.str s) ≠ none → (zi5 m (.str s) v).length = m.length) := by
  induction m with
  | nil => simp [zcf, zi5]
  | cons a r ih =>
    obtain ⟨k, e⟩ := a
    simp only [zcf, zi5]
    cases h : eqK (.str s) k
    · simpa using ih
    · simp
theorem yai {m : List (V × V)} (s t : Str) (v : V) (hk : ze1 m) : (zcf (zi5 m (.str s) v) (.str t) = none) ↔ (zcf m (.str t) = none ∧ s ≠ t) := by
  induction m with
  | nil =>
    simp only [zi5, zcf, eqK, beq_iff_eq]
    by_cases e : t = s
    · subst e; simp
    · have e' : ¬ s = t := fun h => e h.symm
      simp [e, e']
  | cons a r ih =>
    obtain ⟨k, e⟩ := a
    have h1 : ze1 r := fun p hp => hk p (by simp [hp])
    have h0 := hk (k, e) (by simp)
    cases k with
    | str x =>
      simp only [zi5, zcf, eqK]
      by_cases hx : s = x
      · subst hx
        simp only [beq_self_eq_true, if_true, zcf, eqK]
        by_cases ht : t = s
        · simp [ht]
        · simp only [beq_iff_eq, ht, if_false]
          exact ⟨fun h => ⟨h, fun e => ht e.symm⟩, fun h => h.1⟩
      · simp only [beq_iff_eq, hx, if_false, zcf, eqK]
        by_cases ht : t = x
        · simp [ht]
        · simp only [ht, if_false]
          exact ih h1
    | _ => simp [zqs] at h0
theorem yho : ∀ (l : List (Str × V)) (pre : List Str) (m : List (V × V)), ze1 m → (∀ s, zcf m (.str s) = none ↔ s ∉ pre) → m.length ≤ pre.length →
    (l.foldl zt7 m).length ≤ pre.length + l.length ∧ (zas pre (l.map (·.1)) = false ∨ m.length < pre.length → (l.foldl zt7 m).length < pre.length + l.length) ∧ (zas pre (l.map (·.1)) = true → m.length = pre.length → (l.foldl zt7 m).length = pre.length + l.length)
  | [], pre, m, hk, h, hl => by
    simp only [List.foldl_nil, List.length_nil, List.map_nil, zas]
    exact ⟨by omega, fun h => by rcases h with h | h; exact absurd h (by simp); omega, fun _ h => by omega⟩
  | p :: r, pre, m, hk, h, hl => by
    have hL := yew (m := m) p.1 p.2
    have hm : (zt7 m p).length ≤ (pre ++ [p.1]).length := by
      simp only [zt7, List.length_append, List.length_singleton]
      by_cases hn : zcf m (.str p.1) = none
      · rw [hL.1 hn]; omega
      · rw [hL.2 hn]; omega
    have hs : ∀ s, zcf (zt7 m p) (.str s) = none ↔ s ∉ pre ++ [p.1] := fun s => by
      simp only [zt7, yai _ _ _ hk, h s, List.mem_append, List.mem_singleton, not_or]
      exact ⟨fun ⟨a, b⟩ => ⟨a, fun e => b e.symm⟩, fun ⟨a, b⟩ => ⟨a, fun e => b e.symm⟩⟩
    have ih := yho r (pre ++ [p.1]) (zt7 m p) (zsf hk _ _) hs hm
    simp only [List.length_append, List.length_singleton] at ih
    simp only [List.foldl_cons, List.length_cons, List.map_cons, zas]
    obtain ⟨i1, i2, i3⟩ := ih
    refine ⟨by omega, fun hc => ?_, fun hd he => ?_⟩
    · by_cases hp : zlp pre p.1 = true
      · have hn : zcf m (.str p.1) ≠ none := fun hn => (h p.1).1 hn (zjn.1 hp)
        have : (zt7 m p).length = m.length := hL.2 hn
        have := i2 (.inr (by omega))
        omega
      · have hp : zlp pre p.1 = false := by simpa using hp
        rcases hc with hc | hc
        · rw [hp] at hc
          have := i2 (.inl (by simpa using hc))
          omega
        · have hn : zcf m (.str p.1) = none := (h p.1).2 fun hm => by rw [zjn.2 hm] at hp; cases hp
          have : (zt7 m p).length = m.length + 1 := hL.1 hn
          have := i2 (.inr (by omega))
          omega
    · simp only [Bool.and_eq_true, Bool.not_eq_true'] at hd
      have hn : zcf m (.str p.1) = none := (h p.1).2 fun hm => by rw [zjn.2 hm] at hd; exact absurd hd.1 (by simp)
      have : (zt7 m p).length = m.length + 1 := hL.1 hn
      have := i3 hd.2 (by omega)
      omega
theorem ybp (l : List (Str × V)) : (mkM l).length ≤ l.length ∧ (decide ((mkM l).length < l.length) = !za8 (l.map (·.1))) := by
  obtain ⟨h1, h2, h3⟩ := yho l [] [] (fun p hp => by cases hp) (fun s => by simp [zcf]) (Nat.le_refl _)
  have h0 : ([] : List Str).length = 0 := rfl
  refine ⟨by unfold mkM; omega, ?_⟩
  unfold za8
  cases hd : zas [] (l.map (·.1)) with
  | true => have := h3 hd rfl; unfold mkM; simp; omega
  | false => have := h2 (.inl hd); unfold mkM; simp; omega
theorem yev (l : List (Str × V)) (s : Str) (v : V) (h : s ∉ l.map (·.1)) : zi5 (zjd l) (.str s) v = zjd (l ++ [(s, v)]) := by
  induction l with
  | nil => rfl
  | cons a r ih =>
    simp only [List.map_cons, List.mem_cons, not_or] at h
    simp only [zjd, List.map_cons, zi5, eqK, List.cons_append, beq_iff_eq, h.1, if_false] at ih ⊢
    rw [ih h.2]
theorem zk6 : ∀ (l pre : List (Str × V)), zas (pre.map (·.1)) (l.map (·.1)) = true → l.foldl zt7 (zjd pre) = zjd (pre ++ l)
  | [], pre, _ => by simp
  | p :: r, pre, h => by
    simp only [List.map_cons, zas, Bool.and_eq_true, Bool.not_eq_true'] at h
    have hn : p.1 ∉ pre.map (·.1) := fun hm => by rw [zjn.2 hm] at h; exact absurd h.1 (by simp)
    have := zk6 r (pre ++ [p]) (by simpa using h.2)
    simp only [List.foldl_cons, zt7, yev pre p.1 p.2 hn] at this ⊢
    rw [this]; simp
theorem zpa (l : List (Str × V)) (h : za8 (l.map (·.1)) = true) : mkM l = zjd l := by
  have := zk6 l [] h
  simpa [mkM, zjd] using this
def zb7 : Nat → List Dt → List (Str × V)
  | _, [] => []
  | i, d :: r => (d.name, .int .i64 i) :: zb7 (i + 1) r
def zdh (i : Nat) : Nat → List Cd → List (Str × V)
  | _, [] => []
  | k, c :: r => (c.name, .agg [.int .i64 i, .int .i64 k]) :: zdh i (k + 1) r
def zen : Nat → List Dt → List (Str × V)
  | _, [] => []
  | i, d :: r => zdh i 0 d.cons ++ zen (i + 1) r
theorem zey : ∀ (i : Nat) (ds : List Dt), (zb7 i ds).map (·.1) = zcc ds
  | _, [] => rfl
  | i, d :: r => by simp [zb7, zcc]; exact zey (i + 1) r
theorem zlh (i : Nat) : ∀ (k : Nat) (cs : List Cd), (zdh i k cs).map (·.1) = cs.map Cd.name
  | _, [] => rfl
  | k, c :: r => by simp [zdh]; exact zlh i (k + 1) r
theorem zgc : ∀ (i : Nat) (ds : List Dt), (zen i ds).map (·.1) = zb8 ds
  | _, [] => rfl
  | i, d :: r => by simp only [zen, List.map_append, zlh, zgc (i + 1) r]; simp [zb8]
theorem zjy : ∀ (i : Nat) (a b : List Dt), zb7 i (a ++ b) = zb7 i a ++ zb7 (i + a.length) b
  | _, [], _ => rfl
  | i, d :: r, b => by simp only [List.cons_append, zb7, List.length_cons, zjy (i + 1) r b]; rw [Nat.add_assoc, Nat.add_comm 1]
theorem zjz (i : Nat) : ∀ (k : Nat) (a b : List Cd), zdh i k (a ++ b) = zdh i k a ++ zdh i (k + a.length) b
  | _, [], _ => rfl
  | k, d :: r, b => by simp only [List.cons_append, zdh, List.length_cons, zjz i (k + 1) r b]; rw [Nat.add_assoc, Nat.add_comm 1]
theorem zlg : ∀ (i : Nat) (a b : List Dt), zen i (a ++ b) = zen i a ++ zen (i + a.length) b
  | _, [], _ => rfl
  | i, d :: r, b => by simp only [List.cons_append, zen, List.length_cons, zlg (i + 1) r b, List.append_assoc]; rw [Nat.add_assoc, Nat.add_comm 1]
theorem zks (s : Str) : ∀ (ds : List Dt) (i : Nat), zcf (zjd (zb7 i ds)) (.str s) = if 0 ≤ zbb s i ds then some (.int .i64 (zbb s i ds)) else none
  | [], i => by simp [zb7, zjd, zcf, zbb]
  | d :: r, i => by
    simp only [zb7, zjd, List.map_cons, zcf, eqK, beq_iff_eq]
    by_cases h : s = d.name
    · have : zbb s i (d :: r) = i := by simp [zbb, h]
      rw [this, if_pos h]; simp
    · have : zbb s i (d :: r) = zbb s (i + 1) r := by simp only [zbb]; rw [if_neg (fun e => h e.symm)]
      rw [if_neg h, this]
      exact zks s r (i + 1)
def ziy (s : Str) : Nat → List Dt → Option (Nat × Int)
  | _, [] => none
  | i, d :: r => if 0 ≤ (zi7 s 0 d.cons).2 then some (i, (zi7 s 0 d.cons).2) else ziy s (i + 1) r
theorem zpu (s : Str) (i : Nat) (rest : List (Str × V)) : ∀ (cs : List Cd) (k : Nat), zcf (zjd (zdh i k cs ++ rest)) (.str s) = if 0 ≤ (zi7 s k cs).2 then some (.agg [.int .i64 i, .int .i64 (zi7 s k cs).2]) else zcf (zjd rest) (.str s)
  | [], k => by simp [zdh, zi7]
  | c :: r, k => by
    simp only [zdh, zjd, List.cons_append, List.map_cons, zcf, eqK, beq_iff_eq]
    by_cases h : s = c.name
    · have : (zi7 s k (c :: r)).2 = k := by simp [zi7, h]
      rw [this, if_pos h]; simp
    · have : zi7 s k (c :: r) = zi7 s (k + 1) r := by simp only [zi7]; rw [if_neg (fun e => h e.symm)]
      rw [if_neg h, this]
      exact zpu s i rest r (k + 1)
theorem zto (s : Str) : ∀ (ds : List Dt) (i : Nat), zcf (zjd (zen i ds)) (.str s) = (match ziy s i ds with | some (a, b) => some (.agg [.int .i64 a, .int .i64 b]) | none => none)
  | [], i => by simp [zen, zjd, zcf, ziy]
  | d :: r, i => by
    simp only [zen, ziy, zpu]
    split
    · rfl
    · exact zto s r (i + 1)
theorem zxu {s : Str} : ∀ {l : List Cd} {i : Nat}, 0 ≤ (zi7 s i l).2 → ∃ k, (zi7 s i l).2 = ((i + k : Nat) : Int) ∧ l[k]? = some (zi7 s i l).1
  | [], i, h => by simp [zi7] at h
  | c :: r, i, h => by
    simp only [zi7] at h ⊢
    by_cases e : c.name = s
    · rw [if_pos e]; exact ⟨0, by simp, by simp⟩
    · rw [if_neg e] at h ⊢
      obtain ⟨k, h1, h2⟩ := zxu (l := r) h
      exact ⟨k + 1, by rw [h1]; omega, by simpa using h2⟩
theorem zpl {s : Str} : ∀ {ds : List Dt} {i a : Nat} {b : Int}, ziy s i ds = some (a, b) → ∃ k d, a = i + k ∧ ds[k]? = some d ∧ (zi7 s 0 d.cons).2 = b ∧ 0 ≤ b
  | [], i, a, b, h => by simp [ziy] at h
  | d :: r, i, a, b, h => by
    simp only [ziy] at h
    split at h
    · rename_i h0
      cases h
      exact ⟨0, d, rfl, rfl, rfl, h0⟩
    · obtain ⟨k, e, h1, h2, h3⟩ := zpl h
      exact ⟨k + 1, e, by omega, by simpa using h2, h3⟩
theorem zpm {s : Str} : ∀ {ds : List Dt} {i : Nat}, ziy s i ds = none → ∀ d ∈ ds, ¬ 0 ≤ (zi7 s 0 d.cons).2
  | [], i, _, d, hd => by cases hd
  | e :: r, i, h, d, hd => by
    simp only [ziy] at h
    split at h
    · cases h
    · rename_i h0
      rcases List.mem_cons.1 hd with rfl | hd
      · exact h0
      · exact zpm h d hd
theorem ztq {ds : List Dt} {d : Dt} {c : Cd} (hd : d ∈ ds) (hc : c ∈ d.cons) : c.name ∈ zb8 ds := by
  simp only [zb8, List.mem_flatMap]
  exact ⟨d, hd, List.mem_map.2 ⟨c, hc, rfl⟩⟩
theorem zps : ∀ {ds : List Dt} {i j : Nat} {d e : Dt} {c c' : Cd}, (zb8 ds).Nodup → ds[i]? = some d → ds[j]? = some e → c ∈ d.cons → c' ∈ e.cons → c.name = c'.name → i = j
  | [], i, j, d, e, c, c', _, h, _, _, _, _ => by simp at h
  | x :: r, i, j, d, e, c, c', hn, hi, hj, hc, hc', hs => by
    have hn' : (x.cons.map Cd.name ++ zb8 r).Nodup := by simpa [zb8] using hn
    obtain ⟨n1, n2, n3⟩ := List.nodup_append.1 hn'
    cases i with
    | zero =>
      simp at hi; subst hi
      cases j with
      | zero => rfl
      | succ j => exact absurd hs (n3 _ (List.mem_map.2 ⟨c, hc, rfl⟩) _ (ztq (List.mem_of_getElem? (by simpa using hj)) hc'))
    | succ i =>
      cases j with
      | zero =>
        simp at hj; subst hj
        exact absurd hs.symm (n3 _ (List.mem_map.2 ⟨c', hc', rfl⟩) _ (ztq (List.mem_of_getElem? (by simpa using hi)) hc))
      | succ j => exact congrArg (· + 1) (zps n2 (by simpa using hi) (by simpa using hj) hc hc' hs)
theorem yga {ds : List Dt} (hn : za8 (zb8 ds) = true) {n : Int} {x s : Str} {ps : List Ty} (hp : 0 ≤ zbb x 0 ds) :
    (match ziy s 0 ds with | some (a, b) => (decide ((a : Int) = zbb x 0 ds) = decide (0 ≤ (zgh ds (.mk 8 n x ps) s).2)) ∧ ((a : Int) = zbb x 0 ds → ∃ d, ds[a]? = some d ∧ 0 ≤ b ∧ d.cons[b.toNat]? = some (zgh ds (.mk 8 n x ps) s).1) ∧ a < ds.length | none => (zgh ds (.mk 8 n x ps) s).2 < 0) := by
  have hn := zvk.1 hn
  obtain ⟨k, d, h1, h2, h3⟩ := zho x ds 0 hp
  have hcD : zgh ds (.mk 8 n x ps) s = zi7 s 0 d.cons := by simp [zgh, h1, h2]
  rw [hcD]
  cases hf : ziy s 0 ds with
  | none =>
    have := zpm hf d (List.mem_of_getElem? h2)
    simp only; omega
  | some p =>
    obtain ⟨a, b⟩ := p
    obtain ⟨k', e, q1, q2, q3, q4⟩ := zpl hf
    simp only [Nat.zero_add] at q1
    subst q1
    have hget := zxu (s := s) (l := e.cons) (i := 0) (by omega)
    obtain ⟨j, j1, j2⟩ := hget
    have hlt : a < ds.length := (List.getElem?_eq_some_iff.1 q2).1
    refine ⟨?_, fun ha => ?_, hlt⟩
    · rw [h1]
      by_cases hc : 0 ≤ (zi7 s 0 d.cons).2
      · have m1 := zl5 (s := s) (l := d.cons) (i := 0) hc
        have m2 := zl5 (s := s) (l := e.cons) (i := 0) (by omega)
        have := zps hn q2 h2 m2.1 m1.1 (m2.2.trans m1.2.symm)
        subst this
        simp [hc]
      · have : a ≠ k := fun he => by
          subst he
          rw [h2] at q2; cases q2
          exact hc (by omega)
        simp [hc]; omega
    · have hak : a = k := by omega
      subst hak
      rw [h2] at q2; cases q2
      refine ⟨d, h2, q4, ?_⟩
      rw [← q3, j1]
      simpa using j2
def yha (c : Cse) (sz : List (List V)) : List V := dCse c ++ [.mapv (zjd (zb7 0 c.datas)), .mapv (zjd (zen 0 c.datas)), .sl sz]
def zet (c : Cse) (sz : List (List V)) : V := .ip 137 (yha c sz) 0
mutual
def zea (q : Ty → Bool) : Ty → Bool
  | .mk s n x ps => q (.mk s n x ps) && zdj q ps
def zdj (q : Ty → Bool) : List Ty → Bool
  | [] => true
  | t :: r => zea q t && zdj q r
end
set_option maxRecDepth 100000 in
theorem zr7 (f : FuncId) (a b : List V) (q : Ty → Bool) (hq : ∀ t, PureC Tryz.prog f (a ++ [.agg (dTyc t)] ++ b) (.bool (q t))) : ∀ t : Ty, PureC Tryz.prog 90 [.agg (dTyc t), .clo (.func f) a b] (.bool (zea q t))
  | .mk s n x ps => by
    refine zav fun hv => ?_
    simp [zdi, vOk, dTyc, maxLen] at hv
    simp only [zea]
    have hq0 := hq (.mk s n x ps)
    generalize q (.mk s n x ps) = c at *
    refine zae za1 Tryz.func90 (by decide +kernel) rfl [2, 3, 4, 5] rfl rfl ?_
    refine bg [] rfl (by simp) ?_
    refine ycr rfl (fun _ => hq0) (by simp) ?_
    refine bg [] rfl (by simp) ?_
    cases c with
    | false =>
      refine zaa rfl (fun h => ?_) (fun h => by simp at h)
      refine bd [] rfl (by simp) ?_
      exact zab ⟨_, rfl, tV rfl, trivial⟩
    | true =>
    refine zaa rfl (fun h => by simp at h) (fun h => ?_)
    clear h
    refine bd [] rfl (by simp) ?_
    rw [Bool.true_and]
    refine zag (fun i : Nat => [(14, .imm (.int .i64 i)), (13, .imm (.int .i64 ps.length)), (12, .imm (.sl (zez ps))), (1, .imm (.clo (.func f) a b))]) (fun _ => []) [2, 3, 4, 5] (fun i => ps.length - i)
      (fun i => i ≤ ps.length ∧ zdj q ps = zdj q (ps.drop i)) 0 ⟨Nat.zero_le _, rfl⟩ ⟨rfl, za2 (by simp), rfl, rfl, trivial⟩ trivial rfl fun i hi ih => ?_
    obtain ⟨hi1, hi2⟩ := hi
    refine bd [] rfl (by simp) ?_
    refine zaa rfl (fun h => ?_) (fun h => ?_)
    · simp at h
      obtain ⟨t, ht⟩ := zah h
      rw [zaj ht] at hi2
      simp only [zdj] at hi2
      refine bd [] rfl (by simp) ?_
      refine bi rfl (c := dTyc t) (fun _ => ⟨by simp, by simpa using zan ht, by simp⟩) (by simp) ?_
      refine bg [] rfl (by simp) ?_
      refine zac rfl (fun _ => zr7 f a b q hq t) (by simp) ?_
      refine bg [] rfl (by simp) ?_
      refine zaa rfl (fun h => ?_) (fun h => ?_)
      · refine bd [] rfl (by simp) ?_
        refine zab ⟨_, rfl, tV (congrArg _ ?_), trivial⟩
        simp at h
        simp [hi2, h]
      · refine bd [] rfl (by simp) ?_
        simp at h
        exact zad (ih (i + 1) (by omega) ⟨by omega, by rw [hi2]; simp [h]⟩) ⟨za2 (w64 (by omega) (by omega)), rfl, rfl, rfl, trivial⟩ trivial rfl
    · simp at h
      refine zar rfl ?_
      refine bd [] rfl (by simp) ?_
      rw [hi2, List.drop_eq_nil_of_le (by omega)]
      exact zab ⟨_, rfl, tV rfl, trivial⟩
termination_by t => SizeOf.sizeOf t
decreasing_by
  have := List.sizeOf_lt_of_mem (List.mem_of_getElem? ht)
  simp_wf
  omega
set_option maxRecDepth 100000 in
theorem zp8 (f : FuncId) (q : Ty → Bool) (hq : ∀ t, PureC Tryz.prog f [.agg (dTyc t)] (.bool (q t))) : ∀ t : Ty, PureC Tryz.prog 90 [.agg (dTyc t), .fn (.func f)] (.bool (zea q t))
  | .mk s n x ps => by
    refine zav fun hv => ?_
    simp [zdi, vOk, dTyc, maxLen] at hv
    simp only [zea]
    have hq0 := hq (.mk s n x ps)
    generalize q (.mk s n x ps) = c at *
    refine zae za1 Tryz.func90 (by decide +kernel) rfl [2, 3, 4, 5] rfl rfl ?_
    refine bg [] rfl (by simp) ?_
    refine zac rfl (fun _ => hq0) (by simp) ?_
    refine bg [] rfl (by simp) ?_
    cases c with
    | false =>
      refine zaa rfl (fun h => ?_) (fun h => by simp at h)
      refine bd [] rfl (by simp) ?_
      exact zab ⟨_, rfl, tV rfl, trivial⟩
    | true =>
    refine zaa rfl (fun h => by simp at h) (fun h => ?_)
    clear h
    refine bd [] rfl (by simp) ?_
    rw [Bool.true_and]
    refine zag (fun i : Nat => [(14, .imm (.int .i64 i)), (13, .imm (.int .i64 ps.length)), (12, .imm (.sl (zez ps))), (1, .imm (.fn (.func f)))]) (fun _ => []) [2, 3, 4, 5] (fun i => ps.length - i)
      (fun i => i ≤ ps.length ∧ zdj q ps = zdj q (ps.drop i)) 0 ⟨Nat.zero_le _, rfl⟩ ⟨rfl, za2 (by simp), rfl, rfl, trivial⟩ trivial rfl fun i hi ih => ?_
    obtain ⟨hi1, hi2⟩ := hi
    refine bd [] rfl (by simp) ?_
    refine zaa rfl (fun h => ?_) (fun h => ?_)
    · simp at h
      obtain ⟨t, ht⟩ := zah h
      rw [zaj ht] at hi2
      simp only [zdj] at hi2
      refine bd [] rfl (by simp) ?_
      refine bi rfl (c := dTyc t) (fun _ => ⟨by simp, by simpa using zan ht, by simp⟩) (by simp) ?_
      refine bg [] rfl (by simp) ?_
      refine zac rfl (fun _ => zp8 f q hq t) (by simp) ?_
      refine bg [] rfl (by simp) ?_
      refine zaa rfl (fun h => ?_) (fun h => ?_)
      · refine bd [] rfl (by simp) ?_
        refine zab ⟨_, rfl, tV (congrArg _ ?_), trivial⟩
        simp at h
        simp [hi2, h]
      · refine bd [] rfl (by simp) ?_
        simp at h
        exact zad (ih (i + 1) (by omega) ⟨by omega, by rw [hi2]; simp [h]⟩) ⟨za2 (w64 (by omega) (by omega)), rfl, rfl, rfl, trivial⟩ trivial rfl
    · simp at h
      refine zar rfl ?_
      refine bd [] rfl (by simp) ?_
      rw [hi2, List.drop_eq_nil_of_le (by omega)]
      exact zab ⟨_, rfl, tV rfl, trivial⟩
termination_by t => SizeOf.sizeOf t
decreasing_by
  have := List.sizeOf_lt_of_mem (List.mem_of_getElem? ht)
  simp_wf
  omega
def yec (ds : List Dt) (x : Str) : Int := if 0 ≤ zbb x 0 ds then zbb x 0 ds else 0
theorem zyp (ds : List Dt) (x : Str) : zfi true (zjd (zb7 0 ds)) (.str x) (.int .i64 0) = .imm (.tup [.int .i64 (yec ds x), .bool (decide (0 ≤ zbb x 0 ds))]) := by
  simp only [zfi, zks, yec]
  by_cases h : 0 ≤ zbb x 0 ds <;> simp [h]
theorem zis (ds : List Dt) (x : Str) : zfi false (zjd (zb7 0 ds)) (.str x) (.int .i64 0) = .imm (.int .i64 (yec ds x)) := by
  simp only [zfi, zks, yec]
  by_cases h : 0 ≤ zbb x 0 ds <;> simp [h]
def yer (ds : List Dt) (s : Str) : Nat × Int := match ziy s 0 ds with
  | some p => p
  | none => (0, 0)
theorem ybv (ds : List Dt) (s : Str) : zfi true (zjd (zen 0 ds)) (.str s) (.agg [.int .i64 0, .int .i64 0]) = .imm (.tup [.agg [.int .i64 (yer ds s).1, .int .i64 (yer ds s).2], .bool (ziy s 0 ds).isSome]) := by
  simp only [zfi, zto, yer]
  cases h : ziy s 0 ds with
  | none => simp
  | some p => obtain ⟨a, b⟩ := p; simp
def zo8 (ds : List Dt) : Ty → Bool
  | .mk s _ x _ => decide (0 ≤ zbb x 0 ds) || !(s == 8)
set_option maxRecDepth 100000 in
theorem ybm (c : Cse) (sz : List (List V)) (t : Ty) : PureC Tryz.prog 120 [.agg (dTyc t), .ip 95 [zet c sz] 0] (.bool (zo8 c.datas t)) := by
  obtain ⟨ds, ⟨c1, c2, c3, c4⟩, rows⟩ := c
  obtain ⟨s, n, x, ps⟩ := t
  refine ya3 ?_
  refine zae za1 Tryz.func120 (by decide +kernel) rfl [2, 3, 4, 5] rfl rfl ?_
  refine bg [] rfl (by simp) ?_
  refine zjs za1 rfl rfl rfl (zgt _) (by simp [zal]) (z := .int .i64 0) rfl (fun _ => .int _ _) (zyp ds x) ?_
  refine bg [] rfl (by simp [zal]; rfl) ?_
  refine zab ⟨_, rfl, tV (congrArg _ ?_), trivial⟩
  simp [zo8, bne]
mutual
theorem zky (ds : List Dt) : ∀ t : Ty, zea (zo8 ds) t = zbw ds t
  | .mk s n x ps => by
    simp only [zea, zbw, zja ds ps, zo8]
    congr 1
    by_cases h : 0 ≤ zbb x 0 ds
    · simp [h]
    · simp [h]
theorem zja (ds : List Dt) : ∀ l : List Ty, zdj (zo8 ds) l = za5 ds l
  | [] => rfl
  | t :: r => by simp only [zdj, za5, zky ds t, zja ds r]
end
set_option maxRecDepth 100000 in
theorem zr0 (c : Cse) (sz : List (List V)) (t : Ty) : PureC Tryz.prog 89 [zet c sz, .agg (dTyc t)] (.bool (zbw c.datas t)) := by
  rw [← zky]
  obtain ⟨s, n, x, ps⟩ := t
  refine zae za1 Tryz.func89 (by decide +kernel) rfl [2, 3, 4, 5] rfl rfl ?_
  refine bg [] rfl (by simp) ?_
  refine zkl rfl (fun _ => zr7 120 [] [.ip 95 [zet c sz] 0] (zo8 c.datas) (fun t => ybm c sz t) (.mk s n x ps)) rfl (by simp) ?_
  refine bg [] rfl (by simp) ?_
  exact zab ⟨_, rfl, tV rfl, trivial⟩
set_option maxRecDepth 100000 in
theorem zt8 (t : Ty) : PureC Tryz.prog 91 [.agg (dTyc t)] (.bool (match t with | .mk s _ _ _ => !(s == 9))) := by
  obtain ⟨s, n, x, ps⟩ := t
  refine zae za1 Tryz.func91 (by decide +kernel) rfl [2, 3, 4, 5] rfl rfl ?_
  refine bg [] rfl (by simp) ?_
  refine zab ⟨_, rfl, tV (congrArg _ ?_), trivial⟩
  simp [bne]
def zer (ds : List Dt) (t : Ty) (s : Str) : List Ty × Bool := bif decide (0 ≤ (zgh ds t s).2) then ((zgh ds t s).1.args, true) else ([], false)
set_option maxRecDepth 100000 in
set_option maxHeartbeats 1000000 in
theorem ydt (c : Cse) (sz : List (List V)) (t : Ty) (s : Str) (hn : za8 (zb8 c.datas) = true) (ht : zbw c.datas t = true) :
    PureC Tryz.prog 98 [zet c sz, .agg (dTyc t), .str s] (.tup [.sl (zez (zer c.datas t s).1), .bool (zer c.datas t s).2]) := by
  obtain ⟨ds, ⟨c1, c2, c3, c4⟩, rows⟩ := c
  obtain ⟨so, n, x, ps⟩ := t
  simp only at hn ht
  refine zae za1 Tryz.func98 (by decide +kernel) rfl [2, 3, 4, 5] rfl rfl ?_
  refine bg [] rfl (by simp) ?_
  refine zjs za1 rfl rfl rfl (zgt _) (by simp [zal]) (z := .agg #[.int .i64 0, .int .i64 0]) rfl (fun _ => .agg _ _ rfl (by decide) (fun i c x h1 h2 => by match i, h1, h2 with | 0, h1, h2 => cases h1; cases h2; exact .int _ _ | 1, h1, h2 => cases h1; cases h2; exact .int _ _ | i + 2, h1, h2 => simp at h2)) (ybv ds s) ?_
  refine bg [] rfl (by simp) ?_
  by_cases h8 : so = 8
  case neg =>
    refine zjs za1 rfl rfl rfl (zgt _) (by simp [zal]) (z := .int .i64 0) rfl (fun _ => .int _ _) (zis ds x) ?_
    refine bg [] rfl (by simp [zal]; rfl) ?_
    refine zaa rfl (fun h => ?_) (fun h => by simp [h8] at h)
    refine bd [] rfl (by simp) ?_
    rw [show zer ds (.mk so n x ps) s = ([], false) by simp [zer, zgh, h8]]
    exact zab ⟨_, rfl, tV rfl, trivial⟩
  subst h8
  have hp := (zjk ht 8 n x ps rfl rfl).1
  have hf := yga hn (n := n) (s := s) (ps := ps) hp
  refine zjs za1 rfl rfl rfl (zgt _) (by simp [zal]) (z := .int .i64 0) rfl (fun _ => .int _ _) (zis ds x) ?_
  refine bg [] rfl (by simp [zal]; rfl) ?_
  rw [show yec ds x = zbb x 0 ds by simp [yec, hp]]
  unfold yer
  cases hfs : ziy s 0 ds with
  | none =>
    rw [hfs] at hf
    refine zaa rfl (fun h => ?_) (fun h => by simp at h)
    refine bd [] rfl (by simp) ?_
    have hf : ¬ 0 ≤ (zgh ds (.mk 8 n x ps) s).2 := by have : (zgh ds (.mk 8 n x ps) s).2 < 0 := hf; omega
    rw [show zer ds (.mk 8 n x ps) s = ([], false) by simp [zer, hf]]
    exact zab ⟨_, rfl, tV rfl, trivial⟩
  | some p =>
    obtain ⟨a, b⟩ := p
    rw [hfs] at hf
    obtain ⟨hf1, hf2, hf3⟩ := hf
    refine zaa rfl (fun h => ?_) (fun h => ?_)
    · refine bd [] rfl (by simp) ?_
      have : ¬ 0 ≤ (zgh ds (.mk 8 n x ps) s).2 := by
        have : ¬ ((a : Int) = zbb x 0 ds) := by simp at h; exact fun e => h e.symm
        simpa [this] using hf1
      rw [show zer ds (.mk 8 n x ps) s = ([], false) by simp [zer, this]]
      exact zab ⟨_, rfl, tV rfl, trivial⟩
    · have ha : (a : Int) = zbb x 0 ds := by simp at h; exact h.symm
      obtain ⟨d, hd, hb, hc⟩ := hf2 ha
      have hc0 : 0 ≤ (zgh ds (.mk 8 n x ps) s).2 := by simpa [ha] using hf1
      rw [show zer ds (.mk 8 n x ps) s = ((zgh ds (.mk 8 n x ps) s).1.args, true) by simp [zer, hc0]]
      generalize (zgh ds (.mk 8 n x ps) s).1 = k at *
      refine bd [] rfl (by simp) ?_
      refine bi rfl (c := zep d) (fun _ => ⟨by simp, by simpa using za6 hd, by simp⟩) (by simp) ?_
      obtain ⟨dn, dc⟩ := d
      refine bg [] rfl (by simp) ?_
      refine bi rfl (c := zh2 k) (fun _ => ⟨hb, by simpa using za6 hc, by simp⟩) (by simp) ?_
      obtain ⟨kn, ka⟩ := k
      refine bg [] rfl (by simp; rfl) ?_
      exact zab ⟨_, rfl, tV rfl, trivial⟩
theorem zoe {ds : List Dt} (ho : OkD ds) {t : Ty} {s : Str} : za5 ds (zer ds t s).1 = true := by
  unfold zer
  by_cases h : 0 ≤ (zgh ds t s).2
  · simpa [h] using zku ho h
  · simp [h, za5]
def zqm (ds : List Dt) : Ty → Ty → Bool
  | .mk so m x0 qs, .mk f _ x ps => if f = 3 then so == 1 else if f = 4 then so == 2 else if f = 5 then so == 3 else if f = 6 then decide ((zer ds (.mk so m x0 qs) x).1.length = ps.length) && ((zer ds (.mk so m x0 qs) x).2 && zfy ds (zer ds (.mk so m x0 qs) x).1 ps) else true
theorem yba (ds : List Dt) : ∀ t p : Ty, zew ds t p = zqm ds t p
  | .mk so m x0 qs, .mk f k x ps => by
    simp only [zew, zqm, zer]
    rw [zrg ds so 0 m x0 x [] qs]
    by_cases h : 0 ≤ (zgh ds (.mk so m x0 qs) x).2
    · simp [h]
    · simp [h]
def ofD' (ds : List Dt) : Ty → Ty → Bool
  | .mk so m x0 qs, .mk f _ x ps => if so = 1 then f == 1 else if so = 2 then f == 2 else if so = 3 then f == 3 else if so = 8 then decide (f = 4) && (decide ((zer ds (.mk so m x0 qs) x).1.length = ps.length) && ((zer ds (.mk so m x0 qs) x).2 && yfg ds (zer ds (.mk so m x0 qs) x).1 ps)) else f == 5
theorem ofD_eq (ds : List Dt) : ∀ t p : Ty, ofD ds t p = ofD' ds t p
  | .mk so m x0 qs, .mk f k x ps => by
    simp only [ofD, ofD', zer]
    rw [zrg ds so 0 m x0 x [] qs]
    by_cases h : 0 ≤ (zgh ds (.mk so m x0 qs) x).2
    · simp [h]
    · simp [h]
set_option maxRecDepth 100000 in
set_option maxHeartbeats 1000000 in
theorem ycu (c : Cse) (sz : List (List V)) (ho : OkD c.datas) (hd : za8 (zb8 c.datas) = true) : ∀ (p t : Ty), zbw c.datas t = true → PureC Tryz.prog 93 [zet c sz, .agg (dTyc t), .agg (dTyc p)] (.bool (zew c.datas t p))
  | .mk f n x ps, t, hn => by
    have hcon := ydt c sz t x hd hn
    have hnm := zoe ho (t := t) (s := x)
    have hS : zew c.datas t (.mk f n x ps) = zqm c.datas t (.mk f n x ps) := yba c.datas t (.mk f n x ps)
    rw [hS]
    obtain ⟨so, n0, x0, ps0⟩ := t
    simp only [zqm]
    generalize zer c.datas (.mk so n0 x0 ps0) x = r at *
    obtain ⟨ka, kb⟩ := r
    refine zav fun hv => ?_
    simp [zdi, vOk, dTyc, maxLen] at hv
    refine zae za1 Tryz.func93 (by decide +kernel) rfl [2, 3, 4, 5, 6, 7] rfl rfl ?_
    refine bg [] rfl (by simp) ?_
    by_cases h3 : f = 3
    · subst h3
      refine zaa rfl (fun h => ?_) (fun h => by simp at h)
      refine bd [] rfl (by simp) ?_
      refine zab ⟨_, rfl, tV (congrArg _ ?_), trivial⟩
      simp
    rw [if_neg h3]
    refine zaa rfl (fun h => absurd (by simpa using h) h3) (fun h => ?_)
    clear h
    refine bd [] rfl (by simp) ?_
    by_cases h4 : f = 4
    · subst h4
      refine zaa rfl (fun h => ?_) (fun h => by simp at h)
      refine bd [] rfl (by simp) ?_
      refine zab ⟨_, rfl, tV (congrArg _ ?_), trivial⟩
      simp
    rw [if_neg h4]
    refine zaa rfl (fun h => absurd (by simpa using h) h4) (fun h => ?_)
    clear h
    refine bd [] rfl (by simp) ?_
    by_cases h5 : f = 5
    · subst h5
      refine zaa rfl (fun h => ?_) (fun h => by simp at h)
      refine bd [] rfl (by simp) ?_
      refine zab ⟨_, rfl, tV (congrArg _ ?_), trivial⟩
      simp
    rw [if_neg h5]
    refine zaa rfl (fun h => absurd (by simpa using h) h5) (fun h => ?_)
    clear h
    refine bd [] rfl (by simp) ?_
    by_cases h6 : f = 6
    case neg =>
      rw [if_neg h6]
      refine zaa rfl (fun h => absurd (by simpa using h) h6) (fun h => ?_)
      refine bd [] rfl (by simp) ?_
      refine zab ⟨_, rfl, tV (congrArg _ ?_), trivial⟩
      simp
    rw [if_pos h6]
    refine zaa rfl (fun h => ?_) (fun h => by simp [h6] at h)
    clear h
    refine bd [] rfl (by simp) ?_
    refine zac rfl (fun _ => hcon) (by simp) ?_
    refine bg [] rfl (by simp) ?_
    by_cases hg : ka.length = ps.length ∧ kb = true
    case neg =>
      refine zaa rfl (fun h => ?_) (fun h => ?_)
      · refine bd [] rfl (by simp) ?_
        refine zab ⟨_, rfl, tV (congrArg _ ?_), trivial⟩
        simp
        grind
      · exfalso
        simp at h
        apply hg
        grind
    obtain ⟨hlen, rfl⟩ := hg
    refine zaa rfl (fun h => by exfalso; simp [hlen] at h) (fun h => ?_)
    clear h
    refine bd [] rfl (by simp) ?_
    simp only [hlen, decide_true, Bool.true_and]
    refine zag (fun i : Nat => [(51, .imm (.int .i64 i)), (50, .imm (.int .i64 ps.length)), (49, .imm (.sl (zez ps))), (0, .imm (zet c sz)), (7, .imm (.sl (zez ka)))]) (fun _ => []) [4, 5, 6, 7] (fun i => ps.length - i)
      (fun i => i ≤ ps.length ∧ zfy c.datas ka ps = zfy c.datas (ka.drop i) (ps.drop i)) 0 ⟨Nat.zero_le _, rfl⟩ ⟨rfl, za2 (by simp), rfl, rfl, rfl, trivial⟩ trivial rfl fun i hi ih => ?_
    obtain ⟨hi1, hi2⟩ := hi
    refine bd [] rfl (by simp) ?_
    refine zaa rfl (fun h => ?_) (fun h => ?_)
    · simp at h
      obtain ⟨p, hp⟩ := zah h
      obtain ⟨a, ha⟩ := zah (l := ka) (i := i) (by omega)
      rw [zaj hp, zaj ha] at hi2
      simp only [zfy] at hi2
      refine bd [] rfl (by simp) ?_
      refine bi rfl (c := dTyc p) (fun _ => ⟨by simp, by simpa using zan hp, by simp⟩) (by simp) ?_
      refine bg [] rfl (by simp) ?_
      refine bi rfl (c := dTyc a) (fun _ => ⟨by simp, by simpa using zan ha, by simp⟩) (by simp) ?_
      refine bg [] rfl (by simp) ?_
      refine zac rfl (fun _ => ycu c sz ho hd p a (zeg hnm ha)) (by simp) ?_
      refine bg [] rfl (by simp; rfl) ?_
      refine zaa rfl (fun h => ?_) (fun h => ?_)
      · refine bd [] rfl (by simp) ?_
        refine zab ⟨_, rfl, tV (congrArg _ ?_), trivial⟩
        simp at h
        simp [hi2, h]
      · refine bd [] rfl (by simp) ?_
        simp at h
        exact zad (ih (i + 1) (by omega) ⟨by omega, by rw [hi2]; simp [h]⟩) ⟨za2 (w64 (by omega) (by omega)), rfl, rfl, rfl, rfl, trivial⟩ trivial rfl
    · simp at h
      refine zar rfl ?_
      refine bd [] rfl (by simp) ?_
      rw [hi2, List.drop_eq_nil_of_le (by omega), List.drop_eq_nil_of_le (by omega)]
      exact zab ⟨_, rfl, tV rfl, trivial⟩
termination_by p => SizeOf.sizeOf p
decreasing_by
  have := List.sizeOf_lt_of_mem (List.mem_of_getElem? hp)
  simp_wf
  omega
set_option maxRecDepth 100000 in
set_option maxHeartbeats 1000000 in
theorem is_ok (c : Cse) (sz : List (List V)) (ho : OkD c.datas) (hd : za8 (zb8 c.datas) = true) : ∀ (p t : Ty), zbw c.datas t = true → PureC Tryz.prog 65 [zet c sz, .agg (dTyc t), .agg (dTyc p)] (.bool (ofD c.datas t p))
  | .mk f n x ps, t, hn => by
    have hcon := ydt c sz t x hd hn
    have hnm := zoe ho (t := t) (s := x)
    have hS : ofD c.datas t (.mk f n x ps) = ofD' c.datas t (.mk f n x ps) := ofD_eq c.datas t (.mk f n x ps)
    rw [hS]
    obtain ⟨so, n0, x0, ps0⟩ := t
    simp only [ofD']
    generalize zer c.datas (.mk so n0 x0 ps0) x = r at *
    obtain ⟨ka, kb⟩ := r
    refine zav fun hv => ?_
    simp [zdi, vOk, dTyc, maxLen] at hv
    refine zae za1 Tryz.func65 (by decide +kernel) rfl [2, 3, 4, 5, 6, 7] rfl rfl ?_
    refine bg [] rfl (by simp) ?_
    by_cases h1 : so = 1
    · subst h1
      refine zaa rfl (fun h => ?_) (fun h => by simp at h)
      refine bd [] rfl (by simp) ?_
      refine zab ⟨_, rfl, tV (congrArg _ ?_), trivial⟩
      simp
    rw [if_neg h1]
    refine zaa rfl (fun h => absurd (by simpa using h) h1) (fun h => ?_)
    clear h
    refine bd [] rfl (by simp) ?_
    by_cases h2 : so = 2
    · subst h2
      refine zaa rfl (fun h => ?_) (fun h => by simp at h)
      refine bd [] rfl (by simp) ?_
      refine zab ⟨_, rfl, tV (congrArg _ ?_), trivial⟩
      simp
    rw [if_neg h2]
    refine zaa rfl (fun h => absurd (by simpa using h) h2) (fun h => ?_)
    clear h
    refine bd [] rfl (by simp) ?_
    by_cases h3 : so = 3
    · subst h3
      refine zaa rfl (fun h => ?_) (fun h => by simp at h)
      refine bd [] rfl (by simp) ?_
      refine zab ⟨_, rfl, tV (congrArg _ ?_), trivial⟩
      simp
    rw [if_neg h3]
    refine zaa rfl (fun h => absurd (by simpa using h) h3) (fun h => ?_)
    clear h
    refine bd [] rfl (by simp) ?_
    by_cases h8 : so = 8
    case neg =>
      rw [if_neg h8]
      refine zaa rfl (fun h => absurd (by simpa using h) h8) (fun h => ?_)
      refine bd [] rfl (by simp) ?_
      refine zab ⟨_, rfl, tV (congrArg _ ?_), trivial⟩
      simp
    rw [if_pos h8]
    refine zaa rfl (fun h => ?_) (fun h => by simp [h8] at h)
    clear h
    refine bd [] rfl (by simp) ?_
    refine zac rfl (fun _ => hcon) (by simp) ?_
    refine bg [] rfl (by simp) ?_
    by_cases hg : f = 4 ∧ ka.length = ps.length ∧ kb = true
    case neg =>
      refine zaa rfl (fun h => ?_) (fun h => ?_)
      · refine bd [] rfl (by simp) ?_
        refine zab ⟨_, rfl, tV (congrArg _ ?_), trivial⟩
        simp
        grind
      · exfalso
        simp at h
        apply hg
        grind
    obtain ⟨rfl, hlen, rfl⟩ := hg
    refine zaa rfl (fun h => by exfalso; simp [hlen] at h) (fun h => ?_)
    clear h
    refine bd [] rfl (by simp) ?_
    simp only [hlen, decide_true, Bool.true_and]
    refine zag (fun i : Nat => [(56, .imm (.int .i64 i)), (55, .imm (.int .i64 ps.length)), (54, .imm (.sl (zez ps))), (0, .imm (zet c sz)), (7, .imm (.sl (zez ka)))]) (fun _ => []) [4, 5, 6, 7] (fun i => ps.length - i)
      (fun i => i ≤ ps.length ∧ yfg c.datas ka ps = yfg c.datas (ka.drop i) (ps.drop i)) 0 ⟨Nat.zero_le _, rfl⟩ ⟨rfl, za2 (by simp), rfl, rfl, rfl, trivial⟩ trivial rfl fun i hi ih => ?_
    obtain ⟨hi1, hi2⟩ := hi
    refine bd [] rfl (by simp) ?_
    refine zaa rfl (fun h => ?_) (fun h => ?_)
    · simp at h
      obtain ⟨p, hp⟩ := zah h
      obtain ⟨a, ha⟩ := zah (l := ka) (i := i) (by omega)
      rw [zaj hp, zaj ha] at hi2
      simp only [yfg] at hi2
      refine bd [] rfl (by simp) ?_
      refine bi rfl (c := dTyc p) (fun _ => ⟨by simp, by simpa using zan hp, by simp⟩) (by simp) ?_
      refine bg [] rfl (by simp) ?_
      refine bi rfl (c := dTyc a) (fun _ => ⟨by simp, by simpa using zan ha, by simp⟩) (by simp) ?_
      refine bg [] rfl (by simp) ?_
      refine zac rfl (fun _ => is_ok c sz ho hd p a (zeg hnm ha)) (by simp) ?_
      refine bg [] rfl (by simp; rfl) ?_
      refine zaa rfl (fun h => ?_) (fun h => ?_)
      · refine bd [] rfl (by simp) ?_
        refine zab ⟨_, rfl, tV (congrArg _ ?_), trivial⟩
        simp at h
        simp [hi2, h]
      · refine bd [] rfl (by simp) ?_
        simp at h
        exact zad (ih (i + 1) (by omega) ⟨by omega, by rw [hi2]; simp [h]⟩) ⟨za2 (w64 (by omega) (by omega)), rfl, rfl, rfl, rfl, trivial⟩ trivial rfl
    · simp at h
      refine zar rfl ?_
      refine bd [] rfl (by simp) ?_
      rw [hi2, List.drop_eq_nil_of_le (by omega), List.drop_eq_nil_of_le (by omega)]
      exact zab ⟨_, rfl, tV rfl, trivial⟩
termination_by p => SizeOf.sizeOf p
decreasing_by
  have := List.sizeOf_lt_of_mem (List.mem_of_getElem? hp)
  simp_wf
  omega
set_option maxRecDepth 100000 in
theorem zze (g : FuncId) (a b : List V) (q : List V → Bool) (es : List (List V)) (hes : ∀ e ∈ es, e.length = 4) (hlen : es.length ≤ 9223372036854775807)
    (hq : ∀ e ∈ es, PureC Tryz.prog g (a ++ [.agg e] ++ b) (.bool (q e))) :
    PureC Tryz.prog 149 [.sl es, .clo (.func g) a b] (.int .i64 (zi6 q es 0)) := by
  refine zae za1 Tryz.func149 (by decide +kernel) rfl [2, 3, 4] rfl rfl ?_
  refine bg [] rfl (by simp) ?_
  refine zag (fun i : Nat => [(8, .imm (.int .i64 i)), (7, .imm (.int .i64 es.length)), (0, .imm (.sl es)), (1, .imm (.clo (.func g) a b))]) (fun _ => []) [2, 3, 4] (fun i => es.length - i)
    (fun i => i ≤ es.length ∧ zi6 q es 0 = zi6 q (es.drop i) i) 0 ⟨Nat.zero_le _, rfl⟩ ⟨rfl, za2 (by simp), rfl, rfl, trivial⟩ trivial rfl fun i hi ih => ?_
  refine bd [] rfl (by simp) ?_
  have hi2 := hi.2
  refine zaa rfl (fun h => ?_) (fun h => ?_)
  · simp at h
    obtain ⟨e, he⟩ := zah h
    have hm := List.mem_of_getElem? he
    rw [zaj he] at hi2
    refine bd [] rfl (by simp) ?_
    refine bi rfl (c := e) (fun _ => ⟨by simp, by simpa using he, hes e hm⟩) (by simp) ?_
    refine bg [] rfl (by simp [hes e hm]) ?_
    refine ycr rfl (fun _ => hq e hm) (by simp) ?_
    refine bg [] rfl (by simp) ?_
    refine zaa rfl (fun h => ?_) (fun h => ?_)
    · refine bd [] rfl (by simp) ?_
      exact zab ⟨_, rfl, tV (congrArg _ (by rw [hi2]; simp [zi6, h])), trivial⟩
    · refine bd [] rfl (by simp) ?_
      exact zad (ih (i + 1) (by omega) ⟨by omega, by rw [hi2]; simp [zi6, h]⟩) ⟨za2 (w64 (by omega) (by omega)), rfl, rfl, rfl, trivial⟩ trivial rfl
  · refine bd [] rfl (by simp) ?_
    simp at h
    refine zab ⟨_, rfl, tV (congrArg _ ?_), trivial⟩
    rw [hi2, List.drop_eq_nil_of_le (by omega)]; rfl
set_option maxRecDepth 100000 in
theorem zre (g : FuncId) (a b : List V) (q : List V → Bool) (es : List (List V)) (hes : ∀ e ∈ es, e.length = 4) (hlen : es.length ≤ 9223372036854775807)
    (hq : ∀ e ∈ es, PureC Tryz.prog g (a ++ [.agg e] ++ b) (.bool (q e))) :
    PureC Tryz.prog 117 [.sl es, .clo (.func g) a b] (.bool (es.any q)) := by
  refine zae za1 Tryz.func117 (by decide +kernel) rfl [2, 3, 4] rfl rfl ?_
  refine bg [] rfl (by simp) ?_
  refine zac rfl (fun _ => zze g a b q es hes hlen hq) (by simp) ?_
  refine bg [] rfl (by simp) ?_
  refine zab ⟨_, rfl, tV (congrArg _ ?_), trivial⟩
  rw [Bool.eq_iff_iff, ← zhw q es 0]
  simp
set_option maxRecDepth 100000 in
theorem ye5 (c : Cse) (sz : List (List V)) (t : Ty) : PureC Tryz.prog 118 [.agg (dTyc t), .ip 95 [zet c sz] 0] (.bool (!zbw c.datas t)) := by
  have hN := zr0 c sz t
  obtain ⟨s, n, x, ps⟩ := t
  generalize zbw c.datas (.mk s n x ps) = b at *
  refine ya3 ?_
  refine zae za1 Tryz.func118 (by decide +kernel) rfl [2, 3, 4, 5] rfl rfl ?_
  refine bg [] rfl (by simp) ?_
  refine zac rfl (fun _ => hN) (by simp) ?_
  refine bg [] rfl (by simp) ?_
  exact zab ⟨_, rfl, tV rfl, trivial⟩
set_option maxRecDepth 100000 in
theorem ztz (c : Cse) (sz : List (List V)) (ts : List Ty) (h : ts.length ≤ 9223372036854775807) :
    PureC Tryz.prog 117 [.sl (zez ts), .clo (.func 118) [] [.ip 95 [zet c sz] 0]] (.bool (!za5 c.datas ts)) := by
  have := zre 118 [] [.ip 95 [zet c sz] 0] (qOf dTyc (fun t => !zbw c.datas t)) (zez ts) (fun e he => by rw [zcl] at he; obtain ⟨t, _, rfl⟩ := List.mem_map.1 he; simp) (by simpa using h)
    (fun e he => by
      rw [zcl] at he
      obtain ⟨t, ht, rfl⟩ := List.mem_map.1 he
      rw [zk3 zgb]
      exact ye5 c sz t)
  rw [zcl, List.any_map, show (qOf dTyc (fun t => !zbw c.datas t) ∘ dTyc) = (fun t => !zbw c.datas t) from funext fun v => zk3 zgb _ v, ← zcl] at this
  rw [zir, List.all_eq_not_any_not, Bool.not_not]
  exact this
def zij (ds : List Dt) : Bool := zlo ⟨[109], ds, [zjm]⟩ && (za8 (zcc ds) && za8 (zb8 ds)) && zbn ds ds
def zou (c : Cse) (a b : D) (sz : D) : List D := (dCse c).map .imm ++ [a, b, sz]
def zrz (c : Cse) : Blk := .cells 137 9 (zou c (.imm (.mapv (zjd (zb7 0 c.datas)))) (.imm (.mapv (zjd (zen 0 c.datas)))) .nils)
def outR (c : Cse) : Bool → Out
  | true => .ret (.tup [.ref 6 0, .imm (.bool true)]) [(6, some (zrz c))]
  | false => .ret (.imm (.tup [.nilp, .bool false])) []
theorem zg1 {ds : List Dt} (h : zlo ⟨[109], ds, [zjm]⟩ = true) : ds.length ≤ 4 ∧ ∀ d ∈ ds, d.cons.length ≤ 5 ∧ ∀ c ∈ d.cons, c.args.length ≤ 3 := by
  simp only [zlo, Bool.and_eq_true, List.all_eq_true, decide_eq_true_eq] at h
  refine ⟨by omega, fun d hd => ?_⟩
  have hd := h.1.2 d hd
  simp only [zgg, Bool.and_eq_true, List.all_eq_true, decide_eq_true_eq] at hd
  refine ⟨by omega, fun c hc => ?_⟩
  have hc := hd.2 c hc
  simp only [zrh, Bool.and_eq_true, decide_eq_true_eq] at hc
  omega
theorem zw6 (l : List (Str × V)) (p : Str × V) : mkM (l ++ [p]) = zi5 (mkM l) (.str p.1) p.2 := by simp [mkM, zt7]
theorem zvs {ds : List Dt} {i : Nat} {d : Dt} (h : ds[i]? = some d) : zb7 0 (ds.take (i + 1)) = zb7 0 (ds.take i) ++ [(d.name, .int .i64 i)] := by
  have hl : (ds.take i).length = i := by rw [List.length_take]; have := (List.getElem?_eq_some_iff.1 h).1; omega
  rw [zbe h, zjy, hl]; simp [zb7]
theorem zzu {ds : List Dt} {i : Nat} {d : Dt} (h : ds[i]? = some d) : zen 0 (ds.take (i + 1)) = zen 0 (ds.take i) ++ zdh i 0 d.cons := by
  have hl : (ds.take i).length = i := by rw [List.length_take]; have := (List.getElem?_eq_some_iff.1 h).1; omega
  rw [zbe h, zlg, hl]; simp [zen]
theorem zvv {cs : List Cd} {i k : Nat} {c : Cd} (h : cs[k]? = some c) : zdh i 0 (cs.take (k + 1)) = zdh i 0 (cs.take k) ++ [(c.name, .agg [.int .i64 i, .int .i64 k])] := by
  have hl : (cs.take k).length = k := by rw [List.length_take]; have := (List.getElem?_eq_some_iff.1 h).1; omega
  rw [zbe h, zjz, hl]; simp [zdh]
set_option maxRecDepth 100000 in
set_option maxHeartbeats 2000000 in
theorem yif (c : Cse) : zcm Tryz.prog 87 [.imm (.agg (dCse c))] [] (outR c (zij c.datas)) := by
  obtain ⟨ds, ⟨c1, c2, c3, c4⟩, rows⟩ := c
  simp only
  have hck := zor ⟨[109], ds, [zjm]⟩
  generalize hmb : zlo ⟨[109], ds, [zjm]⟩ = mb at hck
  refine zae za1 Tryz.func87 (by decide +kernel) rfl [1, 2, 3, 4, 5, 6, 7, 8, 9, 10, 11, 12] rfl rfl ?_
  refine bg [] rfl (by simp) ?_
  refine zac rfl (fun _ => hck) (by simp) ?_
  refine bg [] rfl (by simp [zth]) ?_
  cases mb with
  | false =>
    refine zaa rfl (fun h => ?_) (fun h => by simp [zth] at h)
    refine bd [] rfl (by simp) ?_
    rw [show zij ds = false by simp [zij, hmb]]
    exact zab ⟨_, rfl, tV rfl, trivial⟩
  | true =>
  refine zaa rfl (fun h => by simp [zth] at h) (fun h => ?_)
  clear h
  obtain ⟨hl1, hl2⟩ := zg1 hmb
  refine bd [] rfl (by simp) ?_
  refine zq4 rfl ?_
  refine bg [] rfl (by simp) ?_
  refine zq4 rfl ?_
  refine bg [] rfl (by simp) ?_
  refine zag (fun i : Nat => [(36, .imm (.int .i64 i)), (35, .imm (.int .i64 ds.length)), (34, .imm (.sl (ds.map zep))), (7, .imm (.int .i64 (zb8 (ds.take i)).length)), (1, .ref 1 0), (6, .ref 7 0)])
    (fun i => [(1, some (.immb 29 6 (dCse ⟨ds, .mk c1 c2 c3 c4, rows⟩))), (4, some (.map (mkM (zb7 0 (ds.take i))))), (5, some (.map (mkM (zen 0 (ds.take i))))), (6, some (.cells 137 9 (zou ⟨ds, .mk c1 c2 c3 c4, rows⟩ (.mapr 4) (.mapr 5) .nils))), (7, some (.cells 95 1 [.ref 6 0]))]) [8, 9, 10, 11, 12] (fun i => ds.length - i)
    (fun i => i ≤ ds.length) 0 (Nat.zero_le _) ⟨rfl, za2 (by simp), rfl, rfl, rfl, rfl, trivial⟩ ⟨rfl, rfl, rfl, rfl, rfl, trivial⟩ rfl fun i hi ih => ?_
  refine bd [] rfl (by simp) ?_
  refine zaa rfl (fun h => ?_) (fun h => ?_)
  · simp at h
    obtain ⟨d, hd⟩ := zah h
    have hdm := hl2 d (List.mem_of_getElem? hd)
    have hcl := ztr (ds := ds.take i) fun x hx => (hl2 x (List.mem_of_mem_take hx)).1
    rw [List.length_take] at hcl
    have ec := zpt hd
    have ed := zvs hd
    have es := zzu hd
    refine bd [] rfl (by simp) ?_
    refine bi rfl (c := zep d) (fun _ => ⟨by simp, by simpa using za6 hd, by simp⟩) (by simp) ?_
    obtain ⟨dn, dc⟩ := d
    simp only at hdm ec ed es
    refine bg [] rfl (by simp) ?_
    refine yco za1 rfl rfl rfl (zw7 _) ?_
    refine bg [] rfl (by simp [zal]; rfl) ?_
    refine zag (fun k : Nat => [(51, .imm (.int .i64 k)), (50, .imm (.int .i64 dc.length)), (49, .imm (.sl (dc.map zh2))), (8, .imm (.int .i64 i)), (36, .imm (.int .i64 i)), (35, .imm (.int .i64 ds.length)), (34, .imm (.sl (ds.map zep))), (7, .imm (.int .i64 ((zb8 (ds.take i)).length + k : Nat))), (1, .ref 1 0), (6, .ref 7 0)])
      (fun k => [(1, some (.immb 29 6 (dCse ⟨ds, .mk c1 c2 c3 c4, rows⟩))), (4, some (.map (mkM (zb7 0 (ds.take (i + 1)))))), (5, some (.map (mkM (zen 0 (ds.take i) ++ zdh i 0 (dc.take k))))), (6, some (.cells 137 9 (zou ⟨ds, .mk c1 c2 c3 c4, rows⟩ (.mapr 4) (.mapr 5) .nils))), (7, some (.cells 95 1 [.ref 6 0]))]) [8, 9, 10, 11, 12] (fun k => dc.length - k)
      (fun k => k ≤ dc.length) 0 (Nat.zero_le _) ⟨rfl, za2 (by simp), rfl, rfl, rfl, rfl, rfl, rfl, rfl, rfl, trivial⟩ ⟨rfl, by rw [ed, zw6]; rfl, by rw [List.take_zero, show zdh i 0 [] = [] from rfl, List.append_nil]; rfl, rfl, rfl, trivial⟩ rfl fun k hk jh => ?_
    refine bd [] rfl (by simp) ?_
    refine zaa rfl (fun h => ?_) (fun h => ?_)
    · simp at h
      obtain ⟨k', hk'⟩ := zah h
      have ek := zvv (i := i) hk'
      refine bd [] rfl (by simp) ?_
      refine bi rfl (c := zh2 k') (fun _ => ⟨by simp, by simpa using za6 hk', by simp⟩) (by simp) ?_
      obtain ⟨kn, ka⟩ := k'
      simp only at ek
      refine bg [] rfl (by simp) ?_
      refine yco za1 rfl rfl rfl (zw7 _) ?_
      refine bg [] rfl (by simp [zal]; rfl) ?_
      exact zad (jh (k + 1) (by omega) (by omega)) ⟨za2 (w64 (by omega) (by omega)), rfl, rfl, rfl, rfl, rfl, rfl, za2 (by rw [w64 (by omega) (by omega)]; omega), rfl, rfl, trivial⟩ ⟨rfl, rfl, by rw [ek, ← List.append_assoc, zw6]; rfl, rfl, rfl, trivial⟩ rfl
    · simp at h
      have hke : dc.take k = dc := List.take_of_length_le h
      have hkl : k = dc.length := by omega
      refine zar rfl ?_
      refine bd [] rfl (by simp) ?_
      exact zad (ih (i + 1) (by omega) (by omega)) ⟨za2 (w64 (by omega) (by omega)), rfl, rfl, za2 (by rw [ec]; simp [hkl]), rfl, rfl, trivial⟩ ⟨rfl, rfl, by rw [es, hke]; rfl, rfl, rfl, trivial⟩ rfl
  · simp at h
    refine zar rfl ?_
    rw [List.take_of_length_le h]
    refine bd [] rfl (by simp [zal]; rfl) ?_
    have m1 := (ybp (zb7 0 ds)).2
    have m2 := (ybp (zen 0 ds)).2
    rw [zey] at m1
    rw [zgc] at m2
    have l1 : (zb7 0 ds).length = ds.length := by have := congrArg List.length (zey 0 ds); simpa [zcc] using this
    have l2 : (zen 0 ds).length = (zb8 ds).length := by have := congrArg List.length (zgc 0 ds); simpa using this
    rw [l1] at m1
    rw [l2] at m2
    by_cases hdf : za8 (zcc ds) = true ∧ za8 (zb8 ds) = true
    case neg =>
      refine zaa rfl (fun h => ?_) (fun h => ?_)
      · refine bd [] rfl (by simp) ?_
        have : (za8 (zcc ds) && za8 (zb8 ds)) = false := by cases h1 : za8 (zcc ds) <;> cases h2 : za8 (zb8 ds) <;> simp_all
        rw [show zij ds = false by simp only [zij, this]; simp]
        exact zab ⟨_, rfl, tV rfl, trivial⟩
      · exfalso
        apply hdf
        simp at h m1 m2
        constructor
        · cases h1 : za8 (zcc ds) with
          | true => rfl
          | false => rw [h1] at m1; simp at m1; omega
        · cases h1 : za8 (zb8 ds) with
          | true => rfl
          | false => rw [h1] at m2; simp at m2; omega
    obtain ⟨hdn, hdc⟩ := hdf
    rw [hdn] at m1
    rw [hdc] at m2
    refine zaa rfl (fun h' => by exfalso; simp at h' m1 m2; omega) (fun h => ?_)
    clear h m1 m2
    rw [show zij ds = zbn ds ds by simp [zij, hmb, hdn, hdc], zpa _ (by rw [zey]; exact hdn), zpa _ (by rw [zgc]; exact hdc)]
    refine bd [] rfl (by simp) ?_
    refine zag (fun i : Nat => [(90, .imm (.int .i64 i)), (89, .imm (.int .i64 ds.length)), (88, .imm (.sl (ds.map zep))), (6, .ref 7 0)])
      (fun _ => [(4, some (.map (zjd (zb7 0 ds)))), (5, some (.map (zjd (zen 0 ds)))), (6, some (.cells 137 9 (zou ⟨ds, .mk c1 c2 c3 c4, rows⟩ (.mapr 4) (.mapr 5) .nils))), (7, some (.cells 95 1 [.ref 6 0]))]) [8, 9, 10, 11, 12] (fun i => ds.length - i)
      (fun i => i ≤ ds.length ∧ zbn ds ds = zbn ds (ds.drop i)) 0 ⟨Nat.zero_le _, rfl⟩ ⟨rfl, za2 (by simp), rfl, rfl, trivial⟩ ⟨rfl, rfl, rfl, rfl, trivial⟩ rfl fun i hi ih => ?_
    obtain ⟨hi1, hi2⟩ := hi
    refine bd [] rfl (by simp) ?_
    refine zaa rfl (fun h => ?_) (fun h => ?_)
    · simp at h
      obtain ⟨d, hd⟩ := zah h
      have hdm := hl2 d (List.mem_of_getElem? hd)
      rw [show zbn ds (ds.drop i) = (d.cons.all (fun c => za5 ds c.args) && zbn ds (ds.drop (i + 1))) from zc8 hd] at hi2
      refine bd [] rfl (by simp) ?_
      refine bi rfl (c := zep d) (fun _ => ⟨by simp, by simpa using za6 hd, by simp⟩) (by simp) ?_
      obtain ⟨dn, dc⟩ := d
      simp only at hdm hi2
      refine bg [] rfl (by simp) ?_
      refine zag (fun k : Nat => [(97, .imm (.int .i64 k)), (96, .imm (.int .i64 dc.length)), (95, .imm (.sl (dc.map zh2))), (90, .imm (.int .i64 i)), (89, .imm (.int .i64 ds.length)), (88, .imm (.sl (ds.map zep))), (6, .ref 7 0)])
        (fun _ => [(4, some (.map (zjd (zb7 0 ds)))), (5, some (.map (zjd (zen 0 ds)))), (6, some (.cells 137 9 (zou ⟨ds, .mk c1 c2 c3 c4, rows⟩ (.mapr 4) (.mapr 5) .nils))), (7, some (.cells 95 1 [.ref 6 0]))]) [8, 9, 10, 11, 12] (fun k => dc.length - k)
        (fun k => k ≤ dc.length ∧ dc.all (fun c => za5 ds c.args) = (dc.drop k).all (fun c => za5 ds c.args)) 0 ⟨Nat.zero_le _, rfl⟩ ⟨rfl, za2 (by simp), rfl, rfl, rfl, rfl, rfl, trivial⟩ ⟨rfl, rfl, rfl, rfl, trivial⟩ rfl fun k hk jh => ?_
      obtain ⟨hk1, hk2⟩ := hk
      refine bd [] rfl (by simp) ?_
      refine zaa rfl (fun h => ?_) (fun h => ?_)
      · simp at h
        obtain ⟨k', hk'⟩ := zah h
        have hkm := hdm.2 k' (List.mem_of_getElem? hk')
        rw [zc8 hk'] at hk2
        refine bd [] rfl (by simp) ?_
        refine bi rfl (c := zh2 k') (fun _ => ⟨by simp, by simpa using za6 hk', by simp⟩) (by simp) ?_
        obtain ⟨kn, ka⟩ := k'
        simp only at hkm hk2
        refine bg [] rfl (by simp) ?_
        refine zkl rfl (v := .bool (!za5 ds ka)) (fun _ => ztz ⟨ds, .mk c1 c2 c3 c4, rows⟩ [] ka (by omega)) rfl (by simp) ?_
        refine bg [] rfl (by simp) ?_
        refine zaa rfl (fun h => ?_) (fun h => ?_)
        · have h : za5 ds ka = true := by simpa using h
          refine zar rfl ?_
          refine bd [] rfl (by simp) ?_
          exact zad (jh (k + 1) (by omega) ⟨by omega, by rw [hk2]; simp [h]⟩) ⟨za2 (w64 (by omega) (by omega)), rfl, rfl, rfl, rfl, rfl, rfl, trivial⟩ ⟨rfl, rfl, rfl, rfl, trivial⟩ rfl
        · have h : za5 ds ka = false := by simpa using h
          refine bd [] rfl (by simp) ?_
          rw [hi2, hk2, h]
          exact zab ⟨_, rfl, tV rfl, trivial⟩
      · simp at h
        refine zar rfl ?_
        refine bd [] rfl (by simp) ?_
        rw [List.drop_eq_nil_of_le (by omega)] at hk2
        exact zad (ih (i + 1) (by omega) ⟨by omega, by rw [hi2, hk2]; simp⟩) ⟨za2 (w64 (by omega) (by omega)), rfl, rfl, rfl, trivial⟩ ⟨rfl, rfl, rfl, rfl, trivial⟩ rfl
    · simp at h
      refine zar rfl ?_
      rw [hi2, List.drop_eq_nil_of_le (by omega)]
      refine znz 4 rfl ?_
      refine znz 5 rfl ?_
      refine bd [] rfl (by simp) ?_
      exact zab ⟨_, rfl, rfl, ⟨rfl, trivial⟩⟩
end Go.Hk
namespace Go.Hk
section
variable {P : Program} {n : Nat} {F : List Nat} {Q : DQ} {todo : List DI} {env : Env} {st : St} {ids' : List Nat}
end
end Go.Hk
namespace Go.Hk
structure PMs where
  e : TypeId
  z : V
  bytes : Nat
  m : Int
  m2 : Int
  id' : Nat
  ids' : List Nat
  dst : Option Nat
  todo : List DI
def pmks (tt : TT) (n : Nat) (env : Env) (ids : List Nat) (todo : List DI) : Option PMs :=
  match yfe todo, ids with
  | some o, id' :: ids' => match o.guard, o.op with
    | none, .makeSlice t l c => match lk tt t, evO env l, evO env c with
      | some { sh := .sl e, .. }, some (.imm (.int _ m)), some (.imm (.int _ m2)) => match lk tt e, zel n o.dst, zb3 todo ([], [id']) with
        | some ⟨_, _, 1, bytes, [.imm z]⟩, true, some (_, _, todo') => some ⟨e, z, bytes, m, m2, id', ids', o.dst, todo'⟩
        | _, _, _ => none
      | _, _, _ => none
    | _, _ => none
  | _, _ => none
section
variable {P : Program} {n : Nat} {F : List Nat} {Q : DQ} {tt : TT} {env env' : Env} {st st' : St} {ids ids' : List Nat} {k todo todo' : List DI} {I : Imm} {μ : Mu} {w : World} {a : Act} {Pn : V → Prop} {d : D} {cx : Prop} {ob : List Prop}
theorem yfq (z : Array Value) (n : Nat) (c : Value) (h : z.toList = [c]) : madeCells z n = Array.replicate n c := by
  obtain ⟨z⟩ := z
  simp at h; subst h
  apply Array.ext
  · simp [madeCells]
  · intro i h1 h2
    simp [madeCells, Nat.mod_one]
theorem ycq (htt : TTok P tt) {c : PMs} (h : pmks tt n env ids todo = some c) (hm : c.m2 = c.m) (h0 : 0 ≤ c.m) (h1 : (c.bytes : Int) * c.m ≤ 281474976710656) (h2 : c.m ≤ maxLen) (hz : V.one c.z = true)
    (hk : G P n F Q c.todo (zee c.dst (.own c.id' (List.replicate c.m.toNat [c.z]).length) env) ((c.id', some (.row c.e 1 (List.replicate c.m.toNat [c.z]))) :: st) c.ids') : G P n F Q todo env st ids := by
  unfold pmks at h
  split at h
  · rename_i o id' ids' ho
    split at h
    · rename_i t l cc hg hop
      split at h
      · rename_i e _ _ _ _ k1 m k2 m2 ht hl hc
        split at h
        · rename_i sh ag bytes z all o' todo' hi hd hn1
          cases h
          have ho' : o' = o := zdc ho hn1
          subst ho'
          simp only at hm h0 h1 h2 hz hk
          have hm := hm.symm
          subst hm
          refine zcv (fr := [id']) (wr := [(id', some (.row e 1 (List.replicate m.toNat [z])))]) (rd := []) hn1 ?_ hd (fun c hc => by rw [hop] at hc; cases hc) hk
          intro I μ st1 ids1 a w hag hst hon
          refine ⟨fun _ => ?_, fun hw => by rw [wanted_none hg] at hw; cases hw⟩
          have hops := zbr hon
          rw [hop] at hops
          have rl := hops l (by simp [Op.operands]) _ hl
          have rc := hops cc (by simp [Op.operands]) _ hc
          obtain ⟨inf, zv, i1, i2, i3, i4, i5, i6⟩ := (htt e _ hi).info
          have hz1 := i5 I μ
          have hzl : ∃ c0, zv.cells.toList = [c0] ∧ RepV I c0 z := by
            have hl := hz1.1
            match hcs : zv.cells.toList, hl with
            | [c0], _ => exact ⟨c0, rfl, (hz1.2 0 c0 _ (by rw [hcs]; rfl) rfl).immInv⟩
          obtain ⟨c0, hc0, hr0⟩ := hzl
          have hsz : inf.size = 1 := i2
          have hby : inf.bytes = bytes := i3
          have hrun : (execOp a.eval o').run P w = .ok (.value (.slice (some ⟨w.heap.size, 0, none⟩) m.toNat m.toNat)) (w.alloc (.cells (Array.replicate m.toNat c0) e)) := by
            have hs := (htt t _ ht).sh
            have hx := run_make (P := P) w t e inf zv hs i1 i4 k1 k2 m m h0 (Int.le_refl _) (by rw [hby]; exact h1) (by simpa [maxLen] using h2)
            rw [yfq _ _ c0 hc0, hsz, Nat.mul_one] at hx
            simp only [execOp, hop]
            generalize a.eval l = vl at rl
            generalize a.eval cc = vc at rc
            cases rl with
            | imm _ _ rl =>
            cases rc with
            | imm _ _ rc =>
            cases rl
            cases rc
            simp only [Sem.run_bind, hx, Result.andThen_ok, Sem.run_pure]
          rw [hrun]
          have hlen : (List.replicate m.toNat [z]).length = m.toNat := by simp
          have hone0 : c0.oneCell' = true := i6 c0 (by rw [hc0]; simp)
          obtain ⟨μ', q1, q2, q3, q4⟩ := hst.allocO (.cells (Array.replicate m.toNat c0) e) (.slice (some ⟨w.heap.size, 0, none⟩) m.toNat m.toNat) (fun _ h => Eq.symm h) (.row e 1 (List.replicate m.toNat [z])) (fun μ' _ =>
            ⟨(List.replicate m.toNat c0), ⟨by simp [hlen], .inr ⟨w.heap.size, m.toNat, Array.replicate m.toNat c0, by rw [hlen], Nat.zero_le _, ziw w _, by rw [hlen]; exact Nat.le_refl _, by simp [maxLen] at h2 ⊢; omega, by simp, by rw [hlen]; simp⟩⟩, ⟨by simp, fun i v x hv hx => by
              have e1 : (List.replicate m.toNat [z]).flatten = List.replicate m.toNat z := by
                generalize m.toNat = q
                induction q with
                | zero => rfl
                | succ q ih => simp only [List.replicate_succ, List.flatten_cons, ih]; rfl
              rw [e1] at hx
              rw [List.getElem?_replicate] at hv hx
              split at hv
              · rename_i hq
                rw [if_pos hq] at hx
                cases hv; cases hx; exact hr0
              · cases hv⟩, fun c hc => by rw [List.eq_of_mem_replicate hc]; rfl, fun c hc y hy => by
              rw [List.eq_of_mem_replicate hc] at hy
              simp at hy; subst hy; exact hz, Nat.one_pos⟩)
          rw [hlen] at *
          exact ⟨I, μ', q3, .own _ _ _ _ q1, q2, q4⟩
        · cases h
      · cases h
    · cases h
  · cases h
end
end Go.Hk
namespace Go.Hk
open Go.Proofs
def yd7 (ds : List Dt) (s : List Int) : Ty → Int
  | .mk so _ x _ => if so = 8 then s.getD (yec ds x).toNat 0 else 1
def zc0 (ds : List Dt) (s : List Int) : Int → List Ty → Int
  | n, [] => n
  | n, t :: r => if yd7 ds s t = 0 then 0 else zc0 ds s (n + yd7 ds s t) r
def zqg (s : List Int) : List (List V) := s.map fun n => [.int .i64 n]
@[simp] theorem rowI_length (s : List Int) : (zqg s).length = s.length := by simp [zqg]
theorem zly {s : List Int} {i : Nat} (h : i < s.length) : (zqg s)[i]? = some [.int .i64 (s.getD i 0)] := by simp [zqg, h, List.getD]
def zuc (ds : List Dt) (i : Nat) (p : List Int × Bool) (args : List Ty) : List Int × Bool :=
  if 0 < zc0 ds p.1 1 args ∧ (p.1.getD i 0 = 0 ∨ zc0 ds p.1 1 args < p.1.getD i 0) then (p.1.set i (zc0 ds p.1 1 args), true) else p
def yjx (ds : List Dt) (i : Nat) : List Int × Bool → List Cd → List Int × Bool
  | p, [] => p
  | p, c :: r => yjx ds i (zuc ds i p c.args) r
def zk0 (ds : List Dt) : List Int × Bool → Nat → List Dt → List Int × Bool
  | p, _, [] => p
  | p, i, d :: r => zk0 ds (yjx ds i p d.cons) (i + 1) r
def yf0 (ds : List Dt) : Nat → List Int → List Int
  | 0, s => s
  | f + 1, s => bif (zk0 ds (s, false) 0 ds).2 then yf0 ds f (zk0 ds (s, false) 0 ds).1 else (zk0 ds (s, false) 0 ds).1
def szD (ds : List Dt) : List Int := yf0 ds 2000 (List.replicate ds.length 0)
def nzS : List Int → Nat
  | [] => 0
  | x :: r => (if x = 0 then 0 else 1) + nzS r
def muS : List Int → Nat
  | [] => 0
  | x :: r => (if x = 0 then 257 else x.toNat) + muS r
theorem zwv : ∀ s : List Int, nzS s ≤ s.length
  | [] => Nat.le_refl _
  | x :: r => by have := zwv r; simp only [nzS, List.length_cons]; split <;> omega
theorem ybf : ∀ (s : List Int) (i : Nat) (n : Int), i < s.length → n ≠ 0 → nzS (s.set i n) = nzS s + (if s.getD i 0 = 0 then 1 else 0)
  | [], i, n, h, _ => by simp at h
  | x :: r, 0, n, _, hn => by simp only [List.set_cons_zero, nzS, hn, if_false, List.getD_cons_zero]; split <;> omega
  | x :: r, i + 1, n, h, hn => by
    have := ybf r i n (by simpa using h) hn
    simp only [List.set_cons_succ, nzS, List.getD_cons_succ, this]; omega
theorem ybn : ∀ (s : List Int) (i : Nat) (n : Int), i < s.length → 0 < n → n ≤ 256 → (s.getD i 0 = 0 ∨ n < s.getD i 0) → muS (s.set i n) < muS s
  | [], i, n, h, _, _, _ => by simp at h
  | x :: r, 0, n, _, hn, hb, hc => by
    simp only [List.set_cons_zero, muS, List.getD_cons_zero] at hc ⊢
    rw [if_neg (by omega)]
    split <;> omega
  | x :: r, i + 1, n, h, hn, hb, hc => by
    have := ybn r i n (by simpa using h) hn hb (by simpa using hc)
    simp only [List.set_cons_succ, muS]; omega
theorem yhm : ∀ s : List Int, (∀ x ∈ s, x ≤ 256) → muS s ≤ 257 * s.length
  | [], _ => Nat.le_refl _
  | x :: r, h => by
    have h1 := h x (by simp)
    have h2 := yhm r fun y hy => h y (by simp [hy])
    simp only [muS, List.length_cons]
    split <;> omega
structure yg3 (ds : List Dt) (s : List Int) : Prop where
  len : s.length = ds.length
  le : ∀ x ∈ s, 0 ≤ x ∧ x ≤ ((4 ^ nzS s : Nat) : Int)
theorem zxj {s : List Int} {i : Nat} : s.getD i 0 ∈ s ∨ s.getD i 0 = 0 := by
  by_cases h : i < s.length
  · left; simp [List.getD, List.getElem?_eq_getElem h]
  · right; simp [List.getD, List.getElem?_eq_none (Nat.le_of_not_lt h)]
theorem pow4 {n : Nat} (h : n ≤ 4) : 4 ^ n ≤ 256 := by
  have : n = 0 ∨ n = 1 ∨ n = 2 ∨ n = 3 ∨ n = 4 := by omega
  rcases this with rfl | rfl | rfl | rfl | rfl <;> decide
theorem zo7 {ds : List Dt} {s : List Int} (h : yg3 ds s) (t : Ty) : 0 ≤ yd7 ds s t ∧ yd7 ds s t ≤ ((4 ^ nzS s : Nat) : Int) := by
  obtain ⟨so, n, x, ps⟩ := t
  have h1 : 1 ≤ 4 ^ nzS s := Nat.one_le_pow _ _ (by decide)
  simp only [yd7]
  split
  · rcases zxj (s := s) (i := (yec ds x).toNat) with hm | hm
    · exact h.le _ hm
    · rw [hm]; omega
  · omega
theorem zgw {ds : List Dt} {s : List Int} (h : yg3 ds s) : ∀ (l : List Ty) (n : Int), 0 ≤ n → 0 ≤ zc0 ds s n l ∧ zc0 ds s n l ≤ n + (l.length : Int) * ((4 ^ nzS s : Nat) : Int)
  | [], n, hn => by simp [zc0, hn]
  | t :: r, n, hn => by
    have hb := zo7 h t
    have ih := zgw h r (n + yd7 ds s t) (by omega)
    simp only [zc0, List.length_cons]
    generalize ((4 ^ nzS s : Nat) : Int) = M at *
    have : ((r.length + 1 : Nat) : Int) * M = (r.length : Int) * M + M := by rw [Int.natCast_add, Int.add_mul]; omega
    rw [this]
    have hm : 0 ≤ (r.length : Int) * M := Int.mul_nonneg (by omega) (by omega)
    split <;> omega
theorem yeq {ds : List Dt} (h4 : ds.length ≤ 4) {i : Nat} (hi : i < ds.length) {p : List Int × Bool} {args : List Ty} (ha : args.length ≤ 3) (h : yg3 ds p.1) :
    yg3 ds (zuc ds i p args).1 ∧ muS (zuc ds i p args).1 ≤ muS p.1 ∧ ((zuc ds i p args).2 = true → p.2 = true ∨ muS (zuc ds i p args).1 < muS p.1) := by
  have hs := zgw h args 1 (by omega)
  simp only [zuc]
  generalize zc0 ds p.1 1 args = n at *
  split
  · rename_i hc
    have hlt : i < p.1.length := by rw [h.len]; exact hi
    have hset := ybf p.1 i n hlt (by omega)
    have hnz := zwv p.1
    have hz1 : 4 ^ nzS p.1 ≥ 1 := Nat.one_le_pow _ _ (by decide)
    have key : ∀ M : Nat, 1 ≤ M → n ≤ 1 + (args.length : Int) * (M : Int) → n ≤ ((M * 4 : Nat) : Int) := fun M h1 h2 => by
      have : (args.length : Int) * (M : Int) ≤ 3 * (M : Int) := Int.mul_le_mul_of_nonneg_right (by omega) (by omega)
      omega
    have hn4 : n ≤ ((4 ^ nzS (p.1.set i n) : Nat) : Int) := by
      rw [hset]
      by_cases h0 : p.1.getD i 0 = 0
      · rw [if_pos h0, Nat.pow_succ]
        exact key _ hz1 hs.2
      · rw [if_neg h0, Nat.add_zero]
        rcases zxj (s := p.1) (i := i) with hm | hm
        · have := (h.le _ hm).2; omega
        · exact absurd hm h0
    have hle : nzS (p.1.set i n) ≤ 4 := by have := zwv (p.1.set i n); rw [List.length_set, h.len] at this; omega
    have h256 := pow4 hle
    have hmu := ybn p.1 i n hlt hc.1 (by omega) hc.2
    refine ⟨⟨by simp [h.len], fun x hx => ?_⟩, Nat.le_of_lt hmu, fun _ => .inr hmu⟩
    have hmono : 4 ^ nzS p.1 ≤ 4 ^ nzS (p.1.set i n) := Nat.pow_le_pow_right (by decide) (by rw [hset]; omega)
    show 0 ≤ x ∧ x ≤ ((4 ^ nzS (p.1.set i n) : Nat) : Int)
    rcases List.mem_or_eq_of_mem_set hx with hx | rfl
    · have := h.le x hx; omega
    · omega
  · exact ⟨h, Nat.le_refl _, fun h => .inl h⟩
set_option maxRecDepth 100000 in
theorem yib (c : Cse) (s : List Int) (hs : yg3 c.datas s) (h4 : c.datas.length ≤ 4) (args : List Ty) (hn : za5 c.datas args = true) (ha : args.length ≤ 3) :
    PureC Tryz.prog 125 [zet c (zqg s), .sl (zez args)] (.int .i64 (zc0 c.datas s 1 args)) := by
  obtain ⟨ds, ⟨c1, c2, c3, c4⟩, rows⟩ := c
  simp only at hs h4 hn ⊢
  have hpw : ((4 ^ nzS s : Nat) : Int) ≤ 256 := by have := pow4 (n := nzS s) (by have := zwv s; rw [hs.len] at this; omega); omega
  refine zae za1 Tryz.func125 (by decide +kernel) rfl [2, 3, 4, 5, 6] rfl rfl ?_
  refine bg [] rfl (by simp) ?_
  refine zag (fun y : Nat × Int => [(11, .imm (.int .i64 y.1)), (10, .imm (.int .i64 args.length)), (9, .imm (.sl (zez args))), (5, .imm (.int .i64 y.2)), (0, .imm (zet ⟨ds, .mk c1 c2 c3 c4, rows⟩ (zqg s)))]) (fun _ => []) [2, 3, 4, 5, 6] (fun y => args.length - y.1)
    (fun y => y.1 ≤ args.length ∧ zc0 ds s 1 args = zc0 ds s y.2 (args.drop y.1) ∧ 0 ≤ y.2 ∧ y.2 ≤ 1 + 256 * y.1) (0, 1) ⟨Nat.zero_le _, rfl, by simp only; omega, by simp only; omega⟩ ⟨rfl, za2 (by simp), rfl, rfl, rfl, trivial⟩ trivial rfl fun y hi ih => ?_
  obtain ⟨i, m⟩ := y
  obtain ⟨hi1, hi2, hi3, hi4⟩ := hi
  simp only at hi1 hi2 hi3 hi4
  refine bd [] rfl (by simp) ?_
  refine zaa rfl (fun h => ?_) (fun h => ?_)
  · simp at h
    obtain ⟨t, ht⟩ := zah h
    have hnt := zeg hn ht
    have hb := zo7 hs t
    rw [zaj ht] at hi2
    simp only [zc0] at hi2
    refine bd [] rfl (by simp) ?_
    refine bi rfl (c := dTyc t) (fun _ => ⟨by simp, by simpa using zan ht, by simp⟩) (by simp) ?_
    obtain ⟨so, n, x, ps⟩ := t
    refine bg [] rfl (by simp) ?_
    by_cases h8 : so = 8
    · subst h8
      have hp := (zjk hnt 8 n x ps rfl rfl).1
      have hd : yec ds x = zbb x 0 ds := by simp [yec, hp]
      obtain ⟨k, d, k1, k2, k3⟩ := zho x ds 0 hp
      have hk : k < s.length := by rw [hs.len]; exact (List.getElem?_eq_some_iff.1 k2).1
      have ho : yd7 ds s (.mk 8 n x ps) = s.getD k 0 := by simp [yd7, hd, k1]
      rw [ho] at hi2 hb
      refine zaa rfl (fun h => ?_) (fun h => by simp at h)
      refine bd [] rfl (by simp) ?_
      refine zjs za1 rfl rfl rfl (zgt _) (by simp [zal]) (z := .int .i64 0) rfl (fun _ => .int _ _) (zis ds x) ?_
      refine bg [] rfl (by simp) ?_
      refine bi rfl (c := [.int .i64 (s.getD k 0)]) (fun _ => ⟨by rw [hd]; exact hp, by rw [hd, k1]; simpa using zly hk, rfl⟩) (by simp) ?_
      refine bg [] rfl (by simp; rfl) ?_
      refine zaa rfl (fun h => ?_) (fun h => ?_)
      · refine bd [] rfl (by simp) ?_
        rw [if_pos (by simpa using h)] at hi2
        rw [hi2]
        exact zab ⟨_, rfl, tV rfl, trivial⟩
      · refine bd [] rfl (by simp) ?_
        rw [if_neg (by simpa using h)] at hi2
        exact zad (ih (i + 1, m + s.getD k 0) (by simp only; omega) ⟨by simp only; omega, hi2, by simp only; omega, by simp only; omega⟩) ⟨za2 (w64 (by simp only; omega) (by simp only; omega)), rfl, rfl, za2 (w64 (by omega) (by omega)), rfl, trivial⟩ trivial rfl
    · have ho : yd7 ds s (.mk so n x ps) = 1 := by simp [yd7, h8]
      rw [ho] at hi2
      refine zaa rfl (fun h => absurd (by simpa using h) h8) (fun h => ?_)
      refine bd [] rfl (by simp) ?_
      refine zaa rfl (fun h => by simp at h) (fun h => ?_)
      refine bd [] rfl (by simp) ?_
      rw [if_neg (by omega)] at hi2
      exact zad (ih (i + 1, m + 1) (by simp only; omega) ⟨by simp only; omega, hi2, by simp only; omega, by simp only; omega⟩) ⟨za2 (w64 (by simp only; omega) (by simp only; omega)), rfl, rfl, za2 (w64 (by omega) (by omega)), rfl, trivial⟩ trivial rfl
  · simp at h
    refine zar rfl ?_
    refine bd [] rfl (by simp) ?_
    rw [hi2, List.drop_eq_nil_of_le (by omega)]
    exact zab ⟨_, rfl, tV rfl, trivial⟩
theorem yez (s : List Int) (i : Nat) (n : Int) : (zqg s).set i [.int .i64 n] = zqg (s.set i n) := by simp [zqg, List.map_set]
theorem yaq (n : Nat) : List.replicate n [V.int .i64 0] = zqg (List.replicate n 0) := by simp [zqg]
theorem yab (ds : List Dt) : yg3 ds (List.replicate ds.length 0) := ⟨by simp, fun x hx => by rw [List.eq_of_mem_replicate hx]; exact ⟨Int.le_refl _, Int.natCast_nonneg _⟩⟩
def zv4 (c : Cse) (sz : D) : Blk := .cells 137 9 (zou c (.imm (.mapv (zjd (zb7 0 c.datas)))) (.imm (.mapv (zjd (zen 0 c.datas)))) sz)
set_option maxRecDepth 100000 in
set_option maxHeartbeats 2000000 in
theorem yeg (c : Cse) (h4 : c.datas.length ≤ 4) (hl2 : ∀ d ∈ c.datas, d.cons.length ≤ 5 ∧ ∀ c ∈ d.cons, c.args.length ≤ 3) (hN : zbn c.datas c.datas = true) :
    zcm Tryz.prog 95 [.ref 1 0] [(1, some (zrz c))] (.ret zj8 [(1, some (zv4 c (.own 2 c.datas.length))), (2, some (.row 3 1 (zqg (szD c.datas))))]) := by
  obtain ⟨ds, ⟨c1, c2, c3, c4⟩, rows⟩ := c
  simp only at h4 hl2 hN ⊢
  have hl3 : ∀ d ∈ ds, ∀ c ∈ d.cons, c.args.length ≤ 3 := fun d hd => (hl2 d hd).2
  have hnm : ∀ d ∈ ds, ∀ c ∈ d.cons, za5 ds c.args = true := by simpa [zbn] using hN
  generalize hC : (⟨ds, .mk c1 c2 c3 c4, rows⟩ : Cse) = C at *
  have hCd : C.datas = ds := by rw [← hC]
  unfold zrz
  rw [hCd]
  subst hC
  refine zae za1 Tryz.func95 (by decide +kernel) rfl [2, 3, 4, 5, 6] rfl rfl ?_
  refine bg [] rfl (by simp) ?_
  refine ycq za1 rfl rfl (by simp) (by simp; omega) (by simp [maxLen]; omega) rfl ?_
  have er : (List.replicate ((ds.map zep).length : Int).toNat [V.int .i64 0]) = zqg (List.replicate ds.length 0) := by rw [← yaq]; simp
  simp only [zee]
  rw [er, rowI_length, List.length_replicate]
  refine bg [] rfl (by simp) ?_
  refine zag (fun y : Nat × List Int × Bool => [(2, .imm (.bool y.2.2)), (0, .ref 1 0)])
    (fun y => [(1, some (zv4 ⟨ds, .mk c1 c2 c3 c4, rows⟩ (.own 2 ds.length))), (2, some (.row 3 1 (zqg y.2.1)))]) [3, 4, 5, 6] (fun y => if y.2.2 then y.1 + 1 else 0)
    (fun y => yg3 ds y.2.1 ∧ if y.2.2 then szD ds = yf0 ds y.1 y.2.1 ∧ muS y.2.1 < y.1 else szD ds = y.2.1) (2000, List.replicate ds.length 0, true)
    ⟨yab ds, by simp only [if_true]; exact ⟨rfl, by have := yhm (List.replicate ds.length 0) (fun x hx => by rw [List.eq_of_mem_replicate hx]; omega); simp at this; omega⟩⟩ ⟨rfl, rfl, trivial⟩ ⟨rfl, rfl, trivial⟩ rfl fun y hi ih => ?_
  obtain ⟨f, s, ch⟩ := y
  obtain ⟨hs, hi⟩ := hi
  simp only at hs hi
  refine bd [] rfl (by simp) ?_
  cases ch with
  | false =>
    simp only [Bool.false_eq_true, if_false] at hi
    refine zaa rfl (fun h => by simp at h) (fun h => ?_)
    refine zar rfl ?_
    refine bd [] rfl (by simp) ?_
    rw [hi]
    exact zcw ⟨_, rfl, tV rfl, ⟨rfl, rfl, trivial⟩⟩
  | true =>
  simp only [if_true] at hi
  refine zaa rfl (fun h => ?_) (fun h => by simp at h)
  clear h
  obtain ⟨hi1, hi2⟩ := hi
  obtain ⟨f, rfl⟩ : ∃ g, f = g + 1 := ⟨f - 1, by omega⟩
  refine bd [] rfl (by simp) ?_
  refine zag (fun y : Nat × List Int × Bool => [(25, .imm (.int .i64 y.1)), (24, .imm (.int .i64 ds.length)), (23, .imm (.sl (ds.map zep))), (2, .imm (.bool y.2.2)), (0, .ref 1 0)])
    (fun y => [(1, some (zv4 ⟨ds, .mk c1 c2 c3 c4, rows⟩ (.own 2 ds.length))), (2, some (.row 3 1 (zqg y.2.1)))]) [3, 4, 5, 6] (fun y => ds.length - y.1)
    (fun y => y.1 ≤ ds.length ∧ zk0 ds (s, false) 0 ds = zk0 ds y.2 y.1 (ds.drop y.1) ∧ yg3 ds y.2.1 ∧ muS y.2.1 ≤ muS s ∧ (y.2.2 = true → muS y.2.1 < muS s)) (0, s, false)
    ⟨Nat.zero_le _, rfl, hs, Nat.le_refl _, fun h => by cases h⟩ ⟨rfl, za2 (by simp), rfl, rfl, rfl, trivial⟩ ⟨rfl, rfl, trivial⟩ rfl fun y hy jh => ?_
  obtain ⟨i, p⟩ := y
  obtain ⟨hy1, hy2, hy3, hy4, hy5⟩ := hy
  simp only at hy1 hy2 hy3 hy4 hy5
  refine bd [] rfl (by simp) ?_
  refine zaa rfl (fun h => ?_) (fun h => ?_)
  · simp at h
    have hil := h
    obtain ⟨d, hd⟩ := zah h
    have hdm := List.mem_of_getElem? hd
    rw [zaj hd] at hy2
    simp only [zk0] at hy2
    refine bd [] rfl (by simp) ?_
    refine bi rfl (c := zep d) (fun _ => ⟨by simp, by simpa using za6 hd, by simp⟩) (by simp) ?_
    obtain ⟨dn, dc⟩ := d
    simp only at hy2
    have hd5 := (hl2 _ hdm).1
    have hd3 := hl3 _ hdm
    have hdn := hnm _ hdm
    simp only at hd5 hd3 hdn
    refine bg [] rfl (by simp) ?_
    refine zag (fun y : Nat × List Int × Bool => [(33, .imm (.int .i64 y.1)), (32, .imm (.int .i64 dc.length)), (31, .imm (.sl (dc.map zh2))), (3, .imm (.int .i64 i)), (25, .imm (.int .i64 i)), (24, .imm (.int .i64 ds.length)), (23, .imm (.sl (ds.map zep))), (2, .imm (.bool y.2.2)), (0, .ref 1 0)])
      (fun y => [(1, some (zv4 ⟨ds, .mk c1 c2 c3 c4, rows⟩ (.own 2 ds.length))), (2, some (.row 3 1 (zqg y.2.1)))]) [3, 4, 5, 6] (fun y => dc.length - y.1)
      (fun y => y.1 ≤ dc.length ∧ yjx ds i p dc = yjx ds i y.2 (dc.drop y.1) ∧ yg3 ds y.2.1 ∧ muS y.2.1 ≤ muS s ∧ (y.2.2 = true → muS y.2.1 < muS s)) (0, p)
      ⟨Nat.zero_le _, rfl, hy3, hy4, hy5⟩ ⟨rfl, za2 (by simp), rfl, rfl, rfl, rfl, rfl, rfl, rfl, trivial⟩ ⟨rfl, rfl, trivial⟩ rfl fun y hk kh => ?_
    obtain ⟨k, q⟩ := y
    obtain ⟨hk1, hk2, hk3, hk4, hk5⟩ := hk
    simp only at hk1 hk2 hk3 hk4 hk5
    refine bd [] rfl (by simp) ?_
    refine zaa rfl (fun h => ?_) (fun h => ?_)
    · simp at h
      obtain ⟨c, hc⟩ := zah h
      have hcm := List.mem_of_getElem? hc
      rw [zaj hc] at hk2
      simp only [yjx] at hk2
      refine bd [] rfl (by simp) ?_
      refine bi rfl (c := zh2 c) (fun _ => ⟨by simp, by simpa using za6 hc, by simp⟩) (by simp) ?_
      obtain ⟨cn, ca⟩ := c
      have hca3 := hd3 _ hcm
      have hcan := hdn _ hcm
      simp only at hca3 hcan hk2
      have hstep := yeq (p := q) h4 hil hca3 hk3
      have hlen : q.1.length = ds.length := hk3.len
      obtain ⟨qs, qb⟩ := q
      simp only at hk3 hk4 hk5 hlen hstep
      refine bg [] rfl (by simp) ?_
      refine zkl rfl (v := .int .i64 (zc0 ds qs 1 ca)) (fun _ => yib ⟨ds, .mk c1 c2 c3 c4, rows⟩ qs hk3 h4 ca hcan hca3) rfl (by simp) ?_
      have hst : zuc ds i (qs, qb) ca = if 0 < zc0 ds qs 1 ca ∧ (qs.getD i 0 = 0 ∨ zc0 ds qs 1 ca < qs.getD i 0) then (qs.set i (zc0 ds qs 1 ca), true) else (qs, qb) := rfl
      have hzb := zgw hk3 ca 1 (by omega)
      generalize zc0 ds qs 1 ca = z at *
      refine bg [] rfl (by simp) ?_
      refine zq3 za1 rfl (fun _ => ⟨by simp, by simp; omega⟩) (by simp [zal]) ?_
      refine bg [] rfl (by simp [zal]) ?_
      refine ycn (e := [.int .i64 (qs.getD i 0)]) za1 rfl (fun _ => by simpa using zly (s := qs) (i := i) (by omega)) rfl (by simp [zal]) ?_
      refine bg [] rfl (by simp [zal]; try exact fun a b => ⟨a, b⟩) ?_
      refine zq3 za1 rfl (fun _ => ⟨by simp, by simp; omega⟩) (by simp [zal]) ?_
      refine bg [] rfl (by simp [zal]) ?_
      refine ycn (e := [.int .i64 (qs.getD i 0)]) za1 rfl (fun _ => by simpa using zly (s := qs) (i := i) (by omega)) rfl (by simp [zal]) ?_
      refine bg [] rfl (by simp [zal]; try exact fun a b => ⟨a, b⟩) ?_
      by_cases hz : 0 < z ∧ (qs.getD i 0 = 0 ∨ z < qs.getD i 0)
      · rw [if_pos hz] at hst
        rw [hst] at hk2 hstep
        have hstep3 := hstep.2.2 rfl
        refine zaa rfl (fun h => ?_) (fun h => by exfalso; simp at h; grind)
        refine bd [] rfl (by simp) ?_
        refine zq3 za1 rfl (fun _ => ⟨by simp, by simp; omega⟩) (by simp) ?_
        refine bg [] rfl (by simp) ?_
        refine yf8 za1 (e := [.int .i64 (qs.getD i 0)]) (e' := [.int .i64 z]) rfl (by simpa using zly (s := qs) (i := i) (by omega)) (by show 0 + 1 ≤ 1; decide) (by simp) (by simp) ?_
        refine bg [] rfl (by simp) ?_
        refine zad (kh (k + 1, qs.set i z, true) (by simp only; omega) ⟨by simp only; omega, hk2, hstep.1, by have := hstep.2.1; simp only at this ⊢; omega, fun _ => ?_⟩) ⟨za2 (w64 (by omega) (by omega)), rfl, rfl, rfl, rfl, rfl, rfl, rfl, rfl, trivial⟩ ⟨rfl, by rw [← yez]; rfl, trivial⟩ rfl
        rcases hstep3 with h | h
        · have := hk5 h; have := hstep.2.1; simp only at this ⊢; omega
        · simp only at h ⊢; omega
      · rw [if_neg hz] at hst
        rw [hst] at hk2
        refine zaa rfl (fun h => by exfalso; simp at h; grind) (fun h => ?_)
        refine bd [] rfl (by simp) ?_
        exact zad (kh (k + 1, qs, qb) (by simp only; omega) ⟨by simp only; omega, hk2, hk3, hk4, hk5⟩) ⟨za2 (w64 (by omega) (by omega)), rfl, rfl, rfl, rfl, rfl, rfl, rfl, rfl, trivial⟩ ⟨rfl, rfl, trivial⟩ rfl
    · simp at h
      refine zar rfl ?_
      refine bd [] rfl (by simp) ?_
      rw [List.drop_eq_nil_of_le (by omega)] at hk2
      simp only [yjx] at hk2
      rw [hk2] at hy2
      exact zad (jh (i + 1, q) (by simp only; omega) ⟨by simp only; omega, hy2, hk3, hk4, hk5⟩) ⟨za2 (w64 (by omega) (by omega)), rfl, rfl, rfl, rfl, trivial⟩ ⟨rfl, rfl, trivial⟩ rfl
  · simp at h
    refine zar rfl ?_
    refine bd [] rfl (by simp) ?_
    rw [List.drop_eq_nil_of_le (by omega)] at hy2
    simp only [zk0] at hy2
    simp only [yf0, hy2] at hi1
    obtain ⟨ps, pb⟩ := p
    cases pb with
    | true =>
      have := hy5 rfl
      exact zad (ih (f, ps, true) (by simp) ⟨hy3, by simp only [if_true]; exact ⟨by simpa using hi1, by simp only at this; omega⟩⟩) ⟨rfl, rfl, trivial⟩ ⟨rfl, rfl, trivial⟩ rfl
    | false =>
      exact zad (ih (f, ps, false) (by simp) ⟨hy3, by simpa using hi1⟩) ⟨rfl, rfl, trivial⟩ ⟨rfl, rfl, trivial⟩ rfl
end Go.Hk
namespace Go.Hk
mutual
theorem zox : ∀ (t : Ty) (l : Int), (zaq t : Int) ≤ l → 0 ≤ zaz t l
  | .mk _ _ _ ps, l, h => by
    simp only [zaq] at h
    simp only [zaz]
    rw [if_neg (by omega)]
    exact zmd ps (l - 1) (by omega)
theorem zmd : ∀ (ts : List Ty) (l : Int), (zaf ts : Int) ≤ l → 0 ≤ zbi ts l
  | [], l, h => by simpa [zbi, zaf] using h
  | t :: r, l, h => by
    simp only [zaf] at h
    simp only [zbi]
    rw [if_pos (by omega)]
    have h1 := zox t l (by omega)
    have h2 := zcp t l h1
    exact zmd r _ (by omega)
end
theorem zr1 (t : Ty) (l : Nat) : decide (0 ≤ zaz t l) = decide (zaq t ≤ l) := by
  by_cases h : zaq t ≤ l
  · rw [decide_eq_true h, decide_eq_true (zox t l (by omega))]
  · rw [decide_eq_false h]
    refine decide_eq_false fun h1 => h ?_
    have := zcp t l h1
    omega
theorem zld (t : Ty) : zbp false t = ze6 t := by
  simp only [zbp, ze6]; rw [← zr1 t 12]; rfl
theorem ydm (t : Ty) : zba t = zev t := by
  simp only [zba, zev]; rw [← zr1 t 12, Bool.and_assoc]; rfl
theorem yjf (c : Cd) : zrh c = zzv c := by
  simp only [zrh, zzv]
  rw [show zbp false = ze6 from funext zld]
theorem ygq (d : Dt) : zgg d = zkt d := by
  simp only [zgg, zkt, inI]
  rw [show zrh = zzv from funext yjf]
  simp only [Bool.and_assoc]
end Go.Hk
namespace Go.Hk
open Go.Proofs
def zop : Ty → Bool
  | .mk s _ _ _ => !(s == 9)
def zyd (c : Cse) (p : Ty) : Bool := zba p && zew c.datas c.type p
def zpx (c : Cse) : Bool := zij c.datas && decide (c.rows.length ≤ 5) && zbp true c.type && zbw c.datas c.type
def zhc (c : Cse) : Bool := zpx c && (zea zop c.type && (c.rows.all (zyd c) && decide (zaf c.rows ≤ 30)))
def worldR (c : Cse) : Bool → V
  | true => .tup [zet c (zqg (szD c.datas)), .int .i64 0]
  | false => .tup [.nilp, .int .i64 2]
theorem zqi {ds : List Dt} (h : zij ds = true) : zlo ⟨[109], ds, [zjm]⟩ = true ∧ za8 (zcc ds) = true ∧ za8 (zb8 ds) = true ∧ zbn ds ds = true := by
  simp only [zij, Bool.and_eq_true] at h
  exact ⟨h.1.1, h.1.2.1, h.1.2.2, h.2⟩
theorem OkD.of2 {ds : List Dt} (h : zij ds = true) : OkD ds := by
  obtain ⟨h1, _, _, h4⟩ := zqi h
  exact ⟨h4, fun d hd => by have := ((zg1 h1).2 d hd).1; omega⟩
set_option maxRecDepth 100000 in
set_option maxHeartbeats 2000000 in
theorem zot (c : Cse) : PureC Tryz.prog 63 [.agg (dCse c)] (worldR c (zhc c)) := by
  have hread := yif c
  have hT := fun q => zp8 91 q
  have hCT := zt1 c.type
  obtain ⟨ds, t, rows⟩ := c
  simp only at hread hCT ⊢
  have hTy := zp8 91 zop (fun t => by have := zt8 t; obtain ⟨s, n, x, ps⟩ := t; exact this) t
  have hNm := zr0 ⟨ds, t, rows⟩ [] t
  have hW := fun h4 hl2 hN => yeg ⟨ds, t, rows⟩ h4 hl2 hN
  have hF := fun ho hd hn p => ycu ⟨ds, t, rows⟩ [] ho hd p t hn
  have hc2 : zhc ⟨ds, t, rows⟩ = (zpx ⟨ds, t, rows⟩ && (zea zop t && (rows.all (zyd ⟨ds, t, rows⟩) && decide (zaf rows ≤ 30)))) := rfl
  have hc1 : zpx ⟨ds, t, rows⟩ = (zij ds && decide (rows.length ≤ 5) && zbp true t && zbw ds t) := rfl
  generalize zhc ⟨ds, t, rows⟩ = cb at *
  generalize zpx ⟨ds, t, rows⟩ = cb1 at *
  generalize hnb : zbw ds t = nb at *
  generalize hfb : zbp true t = fb at *
  generalize zea zop t = tb at *
  obtain ⟨so, n0, x0, ps0⟩ := t
  refine zae za1 Tryz.func63 (by decide +kernel) rfl [1, 2, 3, 4, 5, 6, 7, 8] rfl rfl ?_
  refine bg [] rfl (by simp) ?_
  cases hr : zij ds with
  | false =>
    rw [hr] at hread hc1
    refine zac rfl (fun _ => hread) (by simp) ?_
    refine bg [] rfl (by simp [zal]) ?_
    refine zac rfl (fun _ => hCT) (by simp [zal]) ?_
    refine bg [] rfl (by simp [zal, zth]) ?_
    refine zkl (v := .bool true) rfl (fun h => by simp [zal] at h) rfl (by simp [zal]) ?_
    refine bg [] rfl (by simp [zal]) ?_
    refine zaa rfl (fun h => ?_) (fun h => by simp at h)
    refine bd [] rfl (by simp) ?_
    rw [hc2, hc1]
    exact zab ⟨_, rfl, tV rfl, trivial⟩
  | true =>
  rw [hr] at hread hc1
  obtain ⟨hm, hdn, hdc, han⟩ := zqi hr
  obtain ⟨hl1, hl2⟩ := zg1 hm
  have ho := OkD.of2 hr
  have hread : zcm Tryz.prog 87 [.imm (.agg (dCse ⟨ds, .mk so n0 x0 ps0, rows⟩))] [] (.ret (.tup [.ref 6 0, .imm (.bool true)]) [(6, some (zrz ⟨ds, .mk so n0 x0 ps0, rows⟩))]) := hread
  refine zaw (fr := [2]) [] [(6, 2)] rfl (by simp) hread trivial rfl rfl rfl rfl ?_
  refine bg [] rfl (by simp [zal]) ?_
  refine zac rfl (fun _ => hCT) (by simp [zal]) ?_
  refine bg [] rfl (by simp [zal, zth]) ?_
  refine zkl rfl (fun _ => hNm) rfl (by simp [zal]) ?_
  refine bg [] rfl (by simp [zal]) ?_
  by_cases h1 : cb1 = true
  case neg =>
    refine zaa rfl (fun h => ?_) (fun h => ?_)
    · refine bd [] rfl (by simp) ?_
      rw [hc2, show cb1 = false by simpa using h1]
      exact zab ⟨_, rfl, tV rfl, trivial⟩
    · exfalso
      apply h1
      rw [hc1]
      simp [zth] at h ⊢
      cases fb <;> grind
  have hc1' : decide (rows.length ≤ 5) = true ∧ fb = true ∧ nb = true := by rw [h1] at hc1; simp at hc1 ⊢; grind
  obtain ⟨hr5, rfl, rfl⟩ := hc1'
  have hr5 : rows.length ≤ 5 := of_decide_eq_true hr5
  rw [h1, Bool.true_and] at hc2
  refine zaa rfl (fun h => by exfalso; simp [zth] at h; omega) (fun h => ?_)
  clear h
  refine bd [] rfl (by simp) ?_
  refine zac rfl (fun _ => hTy) (by simp) ?_
  refine bg [] rfl (by simp) ?_
  cases tb with
  | false =>
    refine zaa rfl (fun h => ?_) (fun h => by simp at h)
    refine bd [] rfl (by simp) ?_
    rw [hc2]
    exact zab ⟨_, rfl, tV rfl, trivial⟩
  | true =>
  refine zaa rfl (fun h => by simp at h) (fun h => ?_)
  clear h
  rw [Bool.true_and] at hc2
  have hF := fun p => hF ho hdc rfl p
  generalize hR : zyd ⟨ds, .mk so n0 x0 ps0, rows⟩ = R at *
  have hR : ∀ p, R p = (zba p && zew ds (.mk so n0 x0 ps0) p) := fun p => by rw [← hR]; rfl
  refine bd [] rfl (by simp) ?_
  refine zag (fun i : Nat => [(42, .imm (.int .i64 i)), (41, .imm (.int .i64 rows.length)), (40, .imm (.sl (zez rows))), (6, .imm (.int .i64 ((zaf (rows.take i) : Nat) : Int))), (1, .ref 1 0), (4, .ref 2 0)])
    (fun _ => [(1, some (.immb 29 6 (dCse ⟨ds, .mk so n0 x0 ps0, rows⟩))), (2, some (zrz ⟨ds, .mk so n0 x0 ps0, rows⟩))]) [3, 4, 5, 6] (fun i => rows.length - i)
    (fun i => i ≤ rows.length ∧ rows.all R = (rows.drop i).all R ∧ zaf (rows.take i) ≤ 12 * i) 0 ⟨Nat.zero_le _, rfl, by simp [zaf]⟩ ⟨rfl, za2 (by simp), rfl, rfl, rfl, rfl, trivial⟩ ⟨rfl, rfl, trivial⟩ rfl fun i hi ih => ?_
  obtain ⟨hi1, hi2, hi3⟩ := hi
  refine bd [] rfl (by simp) ?_
  refine zaa rfl (fun h => ?_) (fun h => ?_)
  · simp at h
    obtain ⟨p, hp⟩ := zah h
    rw [zc8 hp, hR] at hi2
    have hFp := hF p
    have en : zaf (rows.take (i + 1)) = zaf (rows.take i) + zaq p := by rw [zbe hp, zbc]; simp [zaf]
    have hpn : zba p = true → zaq p ≤ 12 := fun h => by simp only [zba, Bool.and_eq_true, decide_eq_true_eq] at h; exact h.1
    have hCP := zi4 p
    have hND := zsv p
    refine bd [] rfl (by simp) ?_
    refine bi rfl (c := dTyc p) (fun _ => ⟨by simp, by simpa using zan hp, by simp⟩) (by simp) ?_
    generalize zba p = b1 at *
    generalize zew ds (.mk so n0 x0 ps0) p = b2 at *
    obtain ⟨q1, q2, q3, q4⟩ := p
    refine bg [] rfl (by simp) ?_
    refine zac rfl (fun _ => hCP) (by simp) ?_
    refine bg [] rfl (by simp [zth]) ?_
    refine zkl rfl (fun _ => hFp) rfl (by simp [zal]) ?_
    refine bg [] rfl (by simp [zal]) ?_
    by_cases hb : (b1 && b2) = true
    case neg =>
      refine zaa rfl (fun h => ?_) (fun h => ?_)
      · refine bd [] rfl (by simp) ?_
        rw [hc2, hi2, show (b1 && b2) = false by simpa using hb]
        exact zab ⟨_, rfl, tV rfl, trivial⟩
      · exfalso
        apply hb
        simp [zth] at h ⊢
        cases b1 <;> simp_all
    rw [hb, Bool.true_and] at hi2
    have hb1 : b1 = true := by cases b1; simp at hb; rfl
    have hb2 : b2 = true := by cases b2; simp at hb; rfl
    have hp12 := hpn hb1
    refine zaa rfl (fun h => by exfalso; simp [zth, hb1, hb2] at h) (fun h => ?_)
    clear h
    refine bd [] rfl (by simp) ?_
    refine zac rfl (fun _ => hND (by omega)) (by simp) ?_
    refine bg [] rfl (by simp) ?_
    exact zad (ih (i + 1) (by omega) ⟨by omega, hi2, by omega⟩) ⟨za2 (w64 (by omega) (by omega)), rfl, rfl, za2 (by rw [en, w64 (by omega) (by omega)]; omega), rfl, rfl, trivial⟩ ⟨rfl, rfl, trivial⟩ rfl
  · simp at h
    refine zar rfl ?_
    refine bd [] rfl (by simp) ?_
    rw [List.take_of_length_le h]
    rw [hi2, List.drop_eq_nil_of_le h, List.all_nil, Bool.true_and] at hc2
    by_cases h30 : zaf rows ≤ 30
    case neg =>
      refine zaa rfl (fun h => ?_) (fun h => by exfalso; simp at h; omega)
      refine bd [] rfl (by simp) ?_
      rw [hc2, show decide (zaf rows ≤ 30) = false by simpa using h30]
      exact zab ⟨_, rfl, tV rfl, trivial⟩
    rw [hc2, show decide (zaf rows ≤ 30) = true by simpa using h30]
    refine zaa rfl (fun h => by exfalso; simp at h; omega) (fun h => ?_)
    clear h
    refine bd [] rfl (by simp) ?_
    refine zaw (fr := [3]) [(2, 1)] [(2, 3)] rfl (by simp) (hW hl1 hl2 han) ⟨⟨rfl, rfl, rfl⟩, trivial⟩ rfl rfl rfl rfl ?_
    refine bg [] rfl (by simp) ?_
    refine zd7 3 rfl ?_
    refine zvn 2 (id := 2) (off := 0) (ty := 137) (sz := 9) (xs := yha ⟨ds, .mk so n0 x0 ps0, rows⟩ (zqg (szD ds))) rfl rfl ?_
    exact zab ⟨_, rfl, tV rfl, trivial⟩
end Go.Hk
namespace Go.Hk
section
variable {P : Program} {n : Nat} {tt : TT} {env env' env2 E : Env} {st st' st2 stx : St} {ids ids' ids2 : List Nat} {c c' : Code} {all rest : List Oper} {o : Oper} {ob : List Prop} {I : Imm} {μ : Mu} {w : World} {d : D}
end
end Go.Hk
namespace Go.Hk
open Go.Proofs
def znn (v : Ty) : Bool := decide (0 ≤ zb9 v 20000 100) && allV v
theorem zn8 {c : Cse} (h : zhc c = true) : OkD c.datas ∧ za8 (zb8 c.datas) = true ∧ zbw c.datas c.type = true ∧ c.rows.length ≤ 5 ∧ ∀ p ∈ c.rows, zba p = true ∧ zew c.datas c.type p = true := by
  simp only [zhc, zpx, Bool.and_eq_true, List.all_eq_true, zyd, decide_eq_true_eq] at h
  obtain ⟨⟨⟨⟨h1, h2⟩, h3⟩, h4⟩, h5, h6, h7⟩ := h
  exact ⟨OkD.of2 h1, (zqi h1).2.2.1, h4, h2, h6⟩
set_option maxRecDepth 100000 in
theorem yd2 (c : Cse) : PureC Tryz.prog 26 [.agg (dCse c)] (.int .i64 (bif zhc c then 0 else 2)) := by
  have hW := zot c
  obtain ⟨ds, ⟨c1, c2, c3, c4⟩, rows⟩ := c
  generalize zhc ⟨ds, .mk c1 c2 c3 c4, rows⟩ = b at *
  refine zae za1 Tryz.func26 (by decide +kernel) rfl [2, 3, 4] rfl rfl ?_
  refine bg [] rfl (by simp) ?_
  cases b with
  | true =>
    refine zac rfl (fun _ => hW) (by simp) ?_
    refine bg [] rfl (by simp) ?_
    exact zab ⟨_, rfl, tV rfl, trivial⟩
  | false =>
    refine zac rfl (fun _ => hW) (by simp) ?_
    refine bg [] rfl (by simp) ?_
    exact zab ⟨_, rfl, tV rfl, trivial⟩
set_option maxRecDepth 100000 in
theorem Is_ok (c : Cse) (v : Ty) : PureC Tryz.prog 27 [.agg (dCse c), .agg (dTyc v)] (bif zhc c && znn v then .tup [.bool (ofD c.datas c.type v), .int .i64 0] else .tup [.bool false, .int .i64 2]) := by
  have hW := zot c
  have hF := zzj v
  have hI := fun h => is_ok c (zqg (szD c.datas)) (zn8 (c := c) h).1 (zn8 h).2.1 v c.type (zn8 h).2.2.1
  obtain ⟨ds, ⟨c1, c2, c3, c4⟩, rows⟩ := c
  obtain ⟨g, m, z, vs⟩ := v
  have hF : PureC Tryz.prog 64 [.agg (dTyc (.mk g m z vs))] (.bool (znn (.mk g m z vs))) := hF
  simp only at hI
  generalize hb : zhc ⟨ds, .mk c1 c2 c3 c4, rows⟩ = b at *
  generalize znn (.mk g m z vs) = b2 at *
  generalize ofD ds (.mk c1 c2 c3 c4) (.mk g m z vs) = b3 at *
  refine zae za1 Tryz.func27 (by decide +kernel) rfl [3, 4, 5] rfl rfl ?_
  refine bg [] rfl (by simp) ?_
  cases b with
  | false =>
    refine zac rfl (fun _ => hW) (by simp) ?_
    refine bg [] rfl (by simp) ?_
    refine zac rfl (fun _ => hF) (by simp [zal]) ?_
    refine bg [] rfl (by simp [zal]) ?_
    refine zaa rfl (fun h => ?_) (fun h => by simp at h)
    refine bd [] rfl (by simp) ?_
    exact zab ⟨_, rfl, tV rfl, trivial⟩
  | true =>
    refine zac rfl (fun _ => hW) (by simp) ?_
    refine bg [] rfl (by simp) ?_
    refine zac rfl (fun _ => hF) (by simp [zal]) ?_
    refine bg [] rfl (by simp [zal]) ?_
    cases b2 with
    | false =>
      refine zaa rfl (fun h => ?_) (fun h => by simp at h)
      refine bd [] rfl (by simp) ?_
      exact zab ⟨_, rfl, tV rfl, trivial⟩
    | true =>
      refine zaa rfl (fun h => by simp at h) (fun h => ?_)
      refine bd [] rfl (by simp) ?_
      refine zac rfl (fun _ => hI rfl) (by simp) ?_
      refine bg [] rfl (by simp) ?_
      exact zab ⟨_, rfl, tV rfl, trivial⟩
section
variable {n : Nat} {F : List Nat} {Q : DQ} {env env' : Env} {st st' : St} {ids ids' : List Nat} {k todo : List DI} {ob : List Prop}
end
end Go.Hk
namespace Go.Hk
open Go.Proofs
inductive Yields2 (P : Program) : List (Ty × Ty) → Bun → Bool → Bun → Prop where
  | nil (S : Bun) : Yields2 P [] S true S
  | cons {d : Ty × Ty} {l : List (Ty × Ty)} {S S1 S2 : Bun} {r : Bool} (h : yjz P [.imm (.agg (dTyc d.1)), .imm (.agg (dTyc d.2))] S true S1) (h1 : Yields2 P l S1 r S2) : Yields2 P (d :: l) S r S2
  | stop {d : Ty × Ty} {l : List (Ty × Ty)} {S S1 : Bun} (h : yjz P [.imm (.agg (dTyc d.1)), .imm (.agg (dTyc d.2))] S false S1) : Yields2 P (d :: l) S false S1
theorem Yields2.split {P : Program} {l m : List (Ty × Ty)} {S S2 : Bun} {r : Bool} (h : Yields2 P (l ++ m) S r S2) : (∃ S1, Yields2 P l S true S1 ∧ Yields2 P m S1 r S2) ∨ (r = false ∧ Yields2 P l S false S2) := by
  induction l generalizing S with
  | nil => exact .inl ⟨S, .nil S, h⟩
  | cons d l ih =>
    cases h with
    | cons h h1 =>
      rcases ih h1 with ⟨S1, q1, q2⟩ | ⟨q1, q2⟩
      · exact .inl ⟨S1, .cons h q1, q2⟩
      · exact .inr ⟨q1, .cons h q2⟩
    | stop h => exact .inr ⟨rfl, .stop h⟩
def yht (l : List Ty) : Bool := l.all (fun t => decide (0 ≤ zaz t 20)) && decide (l.length ≤ 5)
def yae (c : Cse) : Bool := (decide (c.datas.length ≤ 6) && decide (c.rows.length ≤ 7) && decide (0 ≤ zaz c.type 20)) && (c.rows.all (fun p => decide (0 ≤ zaz p 20)) && c.datas.all (fun d => decide (d.cons.length ≤ 7) && d.cons.all fun k => yht k.args))
def zux (v : Ty) : Bool := decide (0 ≤ zb9 v 300 110)
set_option maxRecDepth 100000 in
theorem few_ok (l : List Ty) : PureC Tryz.prog 31 [.sl (zez l)] (.bool (yht l)) := by
  refine zae za1 Tryz.func31 (by decide +kernel) rfl [1, 2] rfl rfl ?_
  refine bg [] rfl (by simp) ?_
  refine zag (fun i : Nat => [(3, .imm (.int .i64 i)), (0, .imm (.sl (zez l)))]) (fun _ => []) [1, 2] (fun i => l.length - i)
    (fun i => i ≤ l.length ∧ i ≤ 6 ∧ l.all (fun t => decide (0 ≤ zaz t 20)) = (l.drop i).all (fun t => decide (0 ≤ zaz t 20))) 0 ⟨Nat.zero_le _, by simp, rfl⟩ ⟨rfl, rfl, trivial⟩ trivial rfl fun i hi ih => ?_
  obtain ⟨hi1, hi0, hi2⟩ := hi
  refine bd [] rfl (by simp [zal]) ?_
  by_cases hlt : i < l.length ∧ i < 6
  case neg =>
    refine zaa rfl (fun h => by exfalso; simp at h; omega) (fun h => ?_)
    refine zar rfl ?_
    refine bd [] rfl (by simp) ?_
    refine zab ⟨_, rfl, tV (congrArg _ ?_), trivial⟩
    simp only [yht, dTys_length]
    by_cases h5 : l.length ≤ 5
    · rw [hi2, List.drop_eq_nil_of_le (by omega)]; simp [h5]; omega
    · simp [h5]; omega
  refine zaa rfl (fun h => ?_) (fun h => by exfalso; simp at h; omega)
  obtain ⟨t, ht⟩ := zah hlt.1
  rw [zc8 ht] at hi2
  refine bd [] rfl (by simp) ?_
  refine bi rfl (c := dTyc t) (fun _ => ⟨by simp, by simpa using zan ht, by simp⟩) (by simp) ?_
  refine bg [] rfl (by simp) ?_
  refine zac rfl (fun _ => ze0 t 20 (by decide) (by decide)) (by simp) ?_
  refine bg [] rfl (by simp) ?_
  refine zaa rfl (fun h => ?_) (fun h => ?_)
  · refine bd [] rfl (by simp) ?_
    refine zab ⟨_, rfl, tV (congrArg _ ?_), trivial⟩
    simp at h
    rw [yht, hi2, show decide (0 ≤ zaz t 20) = false by simp; omega]; simp
  · refine bd [] rfl (by simp) ?_
    simp at h
    exact zad (ih (i + 1) (by omega) ⟨by omega, by omega, by rw [hi2, show decide (0 ≤ zaz t 20) = true by simpa using h]; simp⟩) ⟨za2 (w64 (by omega) (by omega)), rfl, trivial⟩ trivial rfl
set_option maxRecDepth 100000 in
set_option maxHeartbeats 1000000 in
theorem yad (c : Cse) : PureC Tryz.prog 6 [.agg (dCse c)] (.bool (yae c)) := by
  have hWT := ze0 c.type 20 (by decide) (by decide)
  obtain ⟨ds, t, rows⟩ := c
  simp only [yae] at hWT ⊢
  generalize zaz t 20 = wt at *
  obtain ⟨c1, c2, c3, c4⟩ := t
  refine zae za1 Tryz.func6 (by decide +kernel) rfl [1, 2] rfl rfl ?_
  refine bg [] rfl (by simp [zal]) ?_
  refine zac rfl (fun _ => hWT) (by simp [zal]) ?_
  refine bg [] rfl (by simp [zal]) ?_
  by_cases hg : ds.length ≤ 6 ∧ rows.length ≤ 7 ∧ 0 ≤ wt
  case neg =>
    refine zaa rfl (fun h => ?_) (fun h => by exfalso; apply hg; simp at h; omega)
    refine bd [] rfl (by simp) ?_
    refine zab ⟨_, rfl, tV (congrArg _ ?_), trivial⟩
    rw [show (decide (ds.length ≤ 6) && decide (rows.length ≤ 7) && decide (0 ≤ wt)) = false by simp; omega]; simp
  obtain ⟨g1, g2, g3⟩ := hg
  rw [show (decide (ds.length ≤ 6) && decide (rows.length ≤ 7) && decide (0 ≤ wt)) = true by simp; omega, Bool.true_and]
  refine zaa rfl (fun h => by exfalso; simp at h; omega) (fun h => ?_)
  clear h
  refine bd [] rfl (by simp) ?_
  refine zag (fun i : Nat => [(3, .imm (.int .i64 i)), (1, .ref 1 0)]) (fun _ => [(1, some (.immb 29 6 (dCse ⟨ds, .mk c1 c2 c3 c4, rows⟩)))]) [2] (fun i => rows.length - i)
    (fun i => i ≤ rows.length ∧ rows.all (fun p => decide (0 ≤ zaz p 20)) = (rows.drop i).all (fun p => decide (0 ≤ zaz p 20))) 0 ⟨Nat.zero_le _, rfl⟩ ⟨rfl, rfl, trivial⟩ ⟨rfl, trivial⟩ rfl fun i hi ih => ?_
  obtain ⟨hi1, hi2⟩ := hi
  refine bd [] rfl (by simp) ?_
  refine zaa rfl (fun h => ?_) (fun h => ?_)
  · simp at h
    obtain ⟨p, hp⟩ := zah h
    rw [zc8 hp] at hi2
    refine bd [] rfl (by simp) ?_
    refine bi rfl (c := dTyc p) (fun _ => ⟨by simp, by simpa using zan hp, by simp⟩) (by simp) ?_
    refine bg [] rfl (by simp) ?_
    refine zac rfl (fun _ => zi2 p 20 (by decide) (by decide)) (by simp) ?_
    refine bg [] rfl (by simp) ?_
    refine zaa rfl (fun h => ?_) (fun h => ?_)
    · refine bd [] rfl (by simp) ?_
      refine zab ⟨_, rfl, tV (congrArg _ ?_), trivial⟩
      simp at h
      rw [hi2, show decide (0 ≤ zaz p 20) = false by simp; omega]; simp
    · refine bd [] rfl (by simp) ?_
      simp at h
      exact zad (ih (i + 1) (by omega) ⟨by omega, by rw [hi2, show decide (0 ≤ zaz p 20) = true by simpa using h]; simp⟩) ⟨za2 (w64 (by omega) (by omega)), rfl, trivial⟩ ⟨rfl, trivial⟩ rfl
  simp at h
  refine zar rfl ?_
  refine bd [] rfl (by simp) ?_
  rw [hi2, List.drop_eq_nil_of_le h, List.all_nil, Bool.true_and]
  refine zag (fun i : Nat => [(4, .imm (.int .i64 i)), (1, .ref 1 0)]) (fun _ => [(1, some (.immb 29 6 (dCse ⟨ds, .mk c1 c2 c3 c4, rows⟩)))]) [2] (fun i => ds.length - i)
    (fun i => i ≤ ds.length ∧ ds.all (fun d => decide (d.cons.length ≤ 7) && d.cons.all fun k => yht k.args) = (ds.drop i).all (fun d => decide (d.cons.length ≤ 7) && d.cons.all fun k => yht k.args)) 0 ⟨Nat.zero_le _, rfl⟩ ⟨rfl, rfl, trivial⟩ ⟨rfl, trivial⟩ rfl fun i hi ih => ?_
  obtain ⟨hi1, hi2⟩ := hi
  refine bd [] rfl (by simp) ?_
  refine zaa rfl (fun h => ?_) (fun h => ?_)
  · simp at h
    obtain ⟨d, hd⟩ := zah h
    rw [zc8 hd] at hi2
    refine bd [] rfl (by simp) ?_
    refine bi rfl (c := zep d) (fun _ => ⟨by simp, by simpa using za6 hd, by simp⟩) (by simp) ?_
    obtain ⟨dn, dc⟩ := d
    simp only at hi2
    refine bg [] rfl (by simp) ?_
    by_cases h7 : dc.length ≤ 7
    case neg =>
      refine zaa rfl (fun h => ?_) (fun h => by exfalso; simp at h; omega)
      refine bd [] rfl (by simp) ?_
      rw [hi2, show decide (dc.length ≤ 7) = false by simpa using h7]
      exact zab ⟨_, rfl, tV (congrArg _ (by simp)), trivial⟩
    rw [show decide (dc.length ≤ 7) = true by simpa using h7, Bool.true_and] at hi2
    refine zaa rfl (fun h => by exfalso; simp at h; omega) (fun h => ?_)
    clear h
    refine bd [] rfl (by simp) ?_
    refine zag (fun k : Nat => [(5, .imm (.int .i64 k)), (4, .imm (.int .i64 i)), (1, .ref 1 0)]) (fun _ => [(1, some (.immb 29 6 (dCse ⟨ds, .mk c1 c2 c3 c4, rows⟩)))]) [2] (fun k => dc.length - k)
      (fun k => k ≤ dc.length ∧ dc.all (fun k => yht k.args) = (dc.drop k).all (fun k => yht k.args)) 0 ⟨Nat.zero_le _, rfl⟩ ⟨rfl, rfl, rfl, trivial⟩ ⟨rfl, trivial⟩ rfl fun k hk jh => ?_
    obtain ⟨hk1, hk2⟩ := hk
    refine bd [] rfl (by simp) ?_
    refine bi rfl (c := zep ⟨dn, dc⟩) (fun _ => ⟨by simp, by simpa using za6 hd, by simp⟩) (by simp) ?_
    refine bg [] rfl (by simp) ?_
    refine zaa rfl (fun h => ?_) (fun h => ?_)
    · simp at h
      obtain ⟨c, hc⟩ := zah h
      rw [zc8 hc] at hk2
      refine bd [] rfl (by simp) ?_
      refine bi rfl (c := zep ⟨dn, dc⟩) (fun _ => ⟨by simp, by simpa using za6 hd, by simp⟩) (by simp) ?_
      refine bg [] rfl (by simp) ?_
      refine bi rfl (c := zh2 c) (fun _ => ⟨by simp, by simpa using za6 hc, by simp⟩) (by simp) ?_
      obtain ⟨cn, ca⟩ := c
      simp only at hk2
      refine bg [] rfl (by simp) ?_
      refine zac rfl (fun _ => few_ok ca) (by simp) ?_
      refine bg [] rfl (by simp) ?_
      refine zaa rfl (fun h => ?_) (fun h => ?_)
      · refine bd [] rfl (by simp) ?_
        refine zab ⟨_, rfl, tV (congrArg _ ?_), trivial⟩
        simp at h
        rw [hi2, hk2, h]; simp
      · refine bd [] rfl (by simp) ?_
        simp at h
        exact zad (jh (k + 1) (by omega) ⟨by omega, by rw [hk2, h]; simp⟩) ⟨za2 (w64 (by omega) (by omega)), rfl, rfl, trivial⟩ ⟨rfl, trivial⟩ rfl
    · simp at h
      refine zar rfl ?_
      refine bd [] rfl (by simp) ?_
      rw [List.drop_eq_nil_of_le (by omega)] at hk2
      exact zad (ih (i + 1) (by omega) ⟨by omega, by rw [hi2, hk2]; simp⟩) ⟨za2 (w64 (by omega) (by omega)), rfl, trivial⟩ ⟨rfl, trivial⟩ rfl
  · simp at h
    refine zar rfl ?_
    refine bd [] rfl (by simp) ?_
    rw [hi2, List.drop_eq_nil_of_le (by omega)]
    exact zab ⟨_, rfl, tV rfl, trivial⟩
set_option maxRecDepth 100000 in
theorem ybw (v : Ty) : PureC Tryz.prog 7 [.agg (dTyc v)] (.bool (zux v)) := by
  have hW := zoh v 300 110 (by decide) (by decide) (by decide) (by decide)
  unfold zux
  generalize zb9 v 300 110 = w at *
  obtain ⟨s, n, x, ps⟩ := v
  refine zae za1 Tryz.func7 (by decide +kernel) rfl [1, 2] rfl rfl ?_
  refine bg [] rfl (by simp) ?_
  refine zac rfl (fun _ => hW) (by simp) ?_
  refine bg [] rfl (by simp) ?_
  refine zab ⟨_, rfl, tV (congrArg _ ?_), trivial⟩
  simp
theorem zx0 {c : Cse} (h : zrk c = true) : OkD c.datas ∧ zbw c.datas c.type = true := by
  simp only [zrk, Bool.and_eq_true] at h
  exact ⟨OkD.of h.1.1.1.1, h.1.1.2⟩
mutual
theorem zmo : ∀ t : Ty, (zca true t && zea zop t) = zca false t
  | .mk s n x ps => by
    have ih := zk1 ps
    simp only [zca, zea, zop]
    by_cases h9 : s = 9
    · subst h9; simp [zby]
    · have : zby true s n x ps.length = zby false s n x ps.length := by simp [zby, h9]
      have h : (s == 9) = false := by simpa using h9
      rw [this, h, ← ih]
      cases zby false s n x ps.length <;> simp
theorem zk1 : ∀ l : List Ty, (zb6 true l && zdj zop l) = zb6 false l
  | [] => rfl
  | t :: r => by
    simp only [zb6, zdj, ← zmo t, ← zk1 r]
    cases zca true t <;> cases zea zop t <;> cases zb6 true r <;> simp
end
theorem ye4 (ds : List Dt) : zij ds = zha ds := by
  have hm : zlo ⟨[109], ds, [zjm]⟩ = zdl ⟨[109], ds, [zjm]⟩ := by
    simp only [zlo, zdl]
    have e1 : ds.all zgg = ds.all zkt := by congr 1; exact funext ygq
    have e2 : [zjm].all zq5 = [zjm].all yhs := by decide +kernel
    rw [e1, e2]
    simp [inI]
  simp only [zij, zha, hm]
  cases zdl ⟨[109], ds, [zjm]⟩ <;> cases zbn ds ds <;> simp
theorem ydp (c : Cse) : zhc c = zrk c := by
  have hT : (zbp true c.type && zea zop c.type) = ze6 c.type := by
    rw [← zld]
    simp only [zbp]
    rw [Bool.and_assoc, zmo]
  have hR : c.rows.all (zyd c) = c.rows.all (rowB c) := by
    congr 1; funext p; simp only [zyd, rowB, ydm]
  simp only [zhc, zpx, zrk, hR, ye4, ← hT]
  cases zha c.datas <;> cases decide (c.rows.length ≤ 5) <;> cases zbp true c.type <;> cases zbw c.datas c.type <;> cases zea zop c.type <;> simp
theorem zul (s n : Int) (x : Str) (k : Nat) : zke s n x k = ybi s n x k := by
  simp only [zke, ybi, inI]
  split
  · rfl
  · split
    · congr 2
      by_cases h0 : n = 0
      · simp [h0]
      · by_cases h1 : n = 1
        · simp [h1]
        · have : (n == 0 || n == 1) = false := by simp [h0, h1]
          rw [this]; symm; simp; omega
    · rfl
mutual
theorem zt0 : ∀ v : Ty, allV v = zm4 v
  | .mk s n x ps => by simp only [allV, zm4, zul, zp2 ps]; exact Bool.and_comm _ _
theorem zp2 : ∀ l : List Ty, zz0 l = zf0 l
  | [] => rfl
  | t :: r => by simp only [zz0, zf0, zt0 t, zp2 r]
end
theorem zzi (v : Ty) : znn v = valB v := by simp only [znn, valB, zt0]
set_option maxRecDepth 100000 in
set_option maxHeartbeats 1000000 in
theorem CoverChecks_of (hk : PureC Tryz.prog 8 [] (.bool true)) (c : Cse) (v : Ty) : PureC Tryz.prog 5 [.agg (dCse c), .agg (dTyc v)] (.bool true) := by
  have hS := yad c
  have hL := ybw v
  have hCk := yd2 c
  have hI := Is_ok c v
  have hC := yjr c
  have hV := Val_ok v
  have hO := fun h => Of_ok c.type c.rows c.datas (zx0 (c := c) h).1 v c.type (zx0 h).2
  rw [ydp] at hCk hI
  rw [zzi] at hI
  generalize yae c = s1 at *
  generalize zux v = s2 at *
  generalize zrk c = b1 at *
  generalize valB v = b2 at *
  generalize ofD c.datas c.type v = b3 at *
  obtain ⟨ds, ⟨c1, c2, c3, c4⟩, rows⟩ := c
  obtain ⟨s, n, x, ps⟩ := v
  refine zae za1 Tryz.func5 (by decide +kernel) rfl [1, 2, 3] rfl rfl ?_
  refine bg [] rfl (by simp) ?_
  refine zac rfl (fun _ => hS) (by simp) ?_
  refine bg [] rfl (by simp) ?_
  refine zac rfl (fun _ => hL) (by simp [zal]) ?_
  refine bg [] rfl (by simp [zal]) ?_
  by_cases hs : s1 = true ∧ s2 = true
  case neg =>
    refine zaa rfl (fun h => ?_) (fun h => by exfalso; apply hs; simp at h; grind)
    refine bd [] rfl (by simp) ?_
    refine zac rfl (fun _ => hk) (by simp) ?_
    refine bg [] rfl (by simp) ?_
    exact zab ⟨_, rfl, tV rfl, trivial⟩
  obtain ⟨rfl, rfl⟩ := hs
  refine zaa rfl (fun h => by simp at h) (fun h => ?_)
  clear h
  refine bd [] rfl (by simp) ?_
  refine zac rfl (fun _ => hCk) (by simp) ?_
  refine bg [] rfl (by simp) ?_
  cases b1 with
  | false =>
    refine zac rfl (fun _ => hI) (by simp) ?_
    refine bg [] rfl (by simp) ?_
    refine zac rfl (fun _ => hC) (by simp) ?_
    refine bg [] rfl (by simp) ?_
    refine zaa rfl (fun h => ?_) (fun h => by simp at h)
    refine bd [] rfl (by simp [zal]) ?_
    refine zac rfl (fun _ => hk) (by simp [zal]) ?_
    refine bg [] rfl (by simp [zal]) ?_
    exact zab ⟨_, rfl, tV rfl, trivial⟩
  | true =>
  cases b2 with
  | false =>
    refine zac rfl (fun _ => hI) (by simp) ?_
    refine bg [] rfl (by simp) ?_
    refine zac rfl (fun _ => hC) (by simp) ?_
    refine bg [] rfl (by simp) ?_
    refine zaa rfl (fun h => by simp at h) (fun h => ?_)
    refine bd [] rfl (by simp) ?_
    refine zac rfl (fun _ => hV) (by simp) ?_
    refine bg [] rfl (by simp) ?_
    refine zaa rfl (fun h => ?_) (fun h => by simp at h)
    refine bd [] rfl (by simp [zal]) ?_
    refine zac rfl (fun _ => hk) (by simp [zal]) ?_
    refine bg [] rfl (by simp [zal]) ?_
    exact zab ⟨_, rfl, tV rfl, trivial⟩
  | true =>
    refine zac rfl (fun _ => hI) (by simp) ?_
    refine bg [] rfl (by simp) ?_
    refine zac rfl (fun _ => hC) (by simp) ?_
    refine bg [] rfl (by simp) ?_
    refine zaa rfl (fun h => by simp at h) (fun h => ?_)
    refine bd [] rfl (by simp) ?_
    refine zac rfl (fun _ => hV) (by simp) ?_
    refine bg [] rfl (by simp) ?_
    refine zaa rfl (fun h => by simp at h) (fun h => ?_)
    refine bd [] rfl (by simp [zal]) ?_
    refine zac rfl (fun _ => hO rfl) (by simp [zal]) ?_
    refine bg [] rfl (by simp [zal]) ?_
    refine zac rfl (fun _ => hk) (by simp [zal]) ?_
    refine bg [] rfl (by simp [zal]) ?_
    refine zab ⟨_, rfl, tV (congrArg _ ?_), trivial⟩
    simp
end Go.Hk
namespace Go.Gx
inductive G where
  | undef
  | bool (b : Bool)
  | int (k : IntKind) (n : Int)
  | str (len n : Nat)
  | nilp
  | ptr (b o : Nat)
  | nils
  | sl (b o len cap : Nat) (ex : Option Nat)
  | nilm
  | map (b : Nat)
  | nili
  | if_ (t : TypeId) (g : G)
  | nilf
  | fn (f : FuncId) (fi ca : List G)
  | yield (b : Nat)
  | agg (l : List G)
  | tup (l : List G)
def pk : List UInt8 → Nat
  | [] => 0
  | b :: r => b.toNat + 256 * pk r
theorem pk_lt : ∀ l : List UInt8, pk l < 256 ^ l.length
  | [] => by simp [pk]
  | b :: r => by
    have := pk_lt r
    have hb := b.toNat_lt
    simp only [pk, List.length_cons, Nat.pow_succ]
    omega
theorem ya8 : ∀ {a b : List UInt8}, a.length = b.length → pk a = pk b → a = b
  | [], [], _, _ => rfl
  | x :: a, y :: b, hl, h => by
    have hx := x.toNat_lt
    have hy := y.toNat_lt
    simp only [pk] at h
    have h1 : x.toNat = y.toNat := by omega
    have h2 : pk a = pk b := by omega
    rw [UInt8.toNat_inj.1 h1, ya8 (by simpa using hl) h2]
  | [], _ :: _, hl, _ => by simp at hl
  | _ :: _, [], hl, _ => by simp at hl
theorem zmw : ∀ (a b : List UInt8), pk (a ++ b) = pk a + 256 ^ a.length * pk b
  | [], b => by simp [pk]
  | x :: a, b => by
    simp only [List.cons_append, pk, zmw a b, List.length_cons, Nat.pow_succ]
    rw [Nat.mul_add, Nat.mul_comm (256 ^ a.length) 256, Nat.mul_assoc]
    omega
theorem zgy (l : List UInt8) (k : Nat) (h : k ≤ l.length) : pk (l.take k) = pk l % 256 ^ k ∧ pk (l.drop k) = pk l / 256 ^ k := by
  have e := zmw (l.take k) (l.drop k)
  rw [List.take_append_drop, List.length_take, Nat.min_eq_left h] at e
  have hlt := pk_lt (l.take k)
  rw [List.length_take, Nat.min_eq_left h] at hlt
  rw [e]
  constructor
  · rw [Nat.add_mul_mod_self_left, Nat.mod_eq_of_lt hlt]
  · rw [Nat.add_mul_div_left _ _ (Nat.pow_pos (by omega)), Nat.div_eq_of_lt hlt, Nat.zero_add]
theorem ya5 (k : Nat) : 256 ^ k = 2 ^ (8 * k) := by
  rw [Nat.pow_mul]
def zob (n i : Nat) : Nat := Nat.mod (Nat.shiftRight n (Nat.mul 8 i)) 256
theorem ztx (l : List UInt8) (i : Nat) (h : i < l.length) : zob (pk l) i = (l[i]).toNat := by
  unfold zob
  have h1 := (zgy l i (by omega)).2
  have e : Nat.shiftRight (pk l) (Nat.mul 8 i) = pk l / 256 ^ i := by
    rw [ya5]
    exact Nat.shiftRight_eq_div_pow _ _
  rw [e, ← h1, List.drop_eq_getElem_cons h]
  have := l[i].toNat_lt
  show (_ + 256 * _) % 256 = _
  omega
abbrev S := Nat → G
def zeq (t : Nat) (s : S) : G := s t
noncomputable def zt3 (t : Nat) (s : S) (v : G) : S := fun u => Bool.rec (motive := fun _ => G) (s u) v (Nat.beq u t)
def S0 : S := fun _ => .undef
theorem zdf (t u : Nat) (s : S) (v : G) : zeq t (zt3 u s v) = if t = u then v else zeq t s := by
  by_cases h : t = u
  · subst h
    rw [if_pos rfl]
    show Bool.rec (motive := fun _ => G) (s t) v (Nat.beq t t) = v
    rw [Nat.beq_refl]
  · rw [if_neg h]
    have : Nat.beq t u = false := by
      cases hb : Nat.beq t u with
      | false => rfl
      | true => exact absurd (Nat.eq_of_beq_eq_true hb) h
    show Bool.rec (motive := fun _ => G) (s t) v (Nat.beq t u) = s t
    rw [this]
theorem yi1 (t : Nat) : zeq t S0 = .undef := rfl
inductive GB where
  | dead
  | cells (l : List G)
  | map (ver : Nat) (kv : List (G × G))
  | siter (len n pos : Nat)
  | miter (m ver : Nat) (cur : Option (G × G)) (rem : List (G × G))
  | minone
  | loop (st : LoopState) (pend : Option Code) (fn : FuncId) (s : S) (n : Nat) (ps : Array Tmp) (asg body : Code) (db : Nat)
  | defd
inductive T where
  | e
  | n (v : GB) (l r : T)
noncomputable def T.get (t : T) : Nat → GB :=
  T.rec (motive := fun _ => Nat → GB) (fun _ => .dead)
    (fun v _ _ ihl ihr k => Nat.rec (motive := fun _ => GB) v (fun m _ => Nat.rec (motive := fun _ => GB) (ihl (Nat.div m 2)) (fun _ _ => ihr (Nat.div m 2)) (Nat.mod m 2)) k) t
noncomputable def T.setK {β : Type} (t : T) : Nat → GB → (T → β) → β → β :=
  T.rec (motive := fun _ => Nat → GB → (T → β) → β → β)
    (fun k x c f => Nat.rec (motive := fun _ => β) (c (.n x .e .e)) (fun _ _ => f) k)
    (fun v l r ihl ihr k x c f => Nat.rec (motive := fun _ => β) (c (.n x l r))
      (fun m _ => Nat.rec (motive := fun _ => β) (ihl (Nat.div m 2) x (fun l' => c (.n v l' r)) f) (fun _ _ => ihr (Nat.div m 2) x (fun r' => c (.n v l r')) f) (Nat.mod m 2)) k) t
noncomputable def T.set? (t : T) (k : Nat) (x : GB) : Option T := t.setK k x some none
theorem T.setK_eq {β : Type} : ∀ (t : T) (k : Nat) (x : GB) (c : T → β) (f : β), t.setK k x c f = match t.set? k x with | some t' => c t' | none => f
  | .e, 0, x, c, f => rfl
  | .e, k + 1, x, c, f => rfl
  | .n v l r, 0, x, c, f => rfl
  | .n v l r, k + 1, x, c, f => by
    have hl := fun c f => T.setK_eq (β := β) l (k / 2) x c f
    have hr := fun c f => T.setK_eq (β := β) r (k / 2) x c f
    have hl' := fun c f => T.setK_eq (β := Option T) l (k / 2) x c f
    have hr' := fun c f => T.setK_eq (β := Option T) r (k / 2) x c f
    have e1 : (T.n v l r).setK (k + 1) x c f = Nat.rec (motive := fun _ => β) (l.setK (k / 2) x (fun l' => c (.n v l' r)) f) (fun _ _ => r.setK (k / 2) x (fun r' => c (.n v l r')) f) (k % 2) := rfl
    have e2 : (T.n v l r).set? (k + 1) x = Nat.rec (motive := fun _ => Option T) (l.setK (k / 2) x (fun l' => some (.n v l' r)) none) (fun _ _ => r.setK (k / 2) x (fun r' => some (.n v l r')) none) (k % 2) := rfl
    rw [e1, e2]
    cases k % 2 with
    | zero =>
      show l.setK (k / 2) x (fun l' => c (.n v l' r)) f = match l.setK (k / 2) x (fun l' => some (T.n v l' r)) none with | some t' => c t' | none => f
      rw [hl, hl']
      cases l.set? (k / 2) x <;> rfl
    | succ n =>
      show r.setK (k / 2) x (fun r' => c (.n v l r')) f = match r.setK (k / 2) x (fun r' => some (T.n v l r')) none with | some t' => c t' | none => f
      rw [hr, hr']
      cases r.set? (k / 2) x <;> rfl
theorem T.get_set : ∀ {t t' : T} {k : Nat} {x : GB}, t.set? k x = some t' → ∀ j, t'.get j = if j = k then x else t.get j
  | .e, t', 0, x, h, j => by
    cases h
    cases j with
    | zero => rfl
    | succ j =>
      rw [if_neg (by simp)]
      show Nat.rec (motive := fun _ => GB) (T.e.get (j / 2)) (fun _ _ => T.e.get (j / 2)) (j % 2) = .dead
      cases j % 2 <;> rfl
  | .e, t', k + 1, x, h, j => by cases h
  | .n v l r, t', 0, x, h, j => by
    cases h
    cases j with
    | zero => rfl
    | succ j => rw [if_neg (by simp)]; rfl
  | .n v l r, t', k + 1, x, h, j => by
    have e2 : (T.n v l r).set? (k + 1) x = Nat.rec (motive := fun _ => Option T) (l.setK (k / 2) x (fun l' => some (.n v l' r)) none) (fun _ _ => r.setK (k / 2) x (fun r' => some (.n v l r')) none) (k % 2) := rfl
    rw [e2] at h
    have hj : ∀ (a b : T) (j : Nat), (T.n v a b).get (j + 1) = Nat.rec (motive := fun _ => GB) (a.get (j / 2)) (fun _ _ => b.get (j / 2)) (j % 2) := fun _ _ _ => rfl
    have hk2 : k % 2 = 0 ∨ k % 2 = 1 := by omega
    rcases hk2 with hk2 | hk2
    · rw [hk2] at h
      have h : l.setK (k / 2) x (fun l' => some (T.n v l' r)) none = some t' := h
      rw [T.setK_eq] at h
      cases hs : l.set? (k / 2) x with
      | none => rw [hs] at h; cases h
      | some l' =>
        rw [hs] at h
        cases h
        cases j with
        | zero => simp; rfl
        | succ j =>
          rw [hj, hj]
          have hj2 : j % 2 = 0 ∨ j % 2 = 1 := by omega
          rcases hj2 with hj2 | hj2
          · rw [hj2]
            show l'.get (j / 2) = if j + 1 = k + 1 then x else l.get (j / 2)
            rw [T.get_set hs]
            have : j / 2 = k / 2 ↔ j + 1 = k + 1 := by omega
            simp only [this]
          · rw [hj2]
            have : j + 1 ≠ k + 1 := by omega
            simp only [this, if_false]
            rfl
    · rw [hk2] at h
      have h : r.setK (k / 2) x (fun r' => some (T.n v l r')) none = some t' := h
      rw [T.setK_eq] at h
      cases hs : r.set? (k / 2) x with
      | none => rw [hs] at h; cases h
      | some r' =>
        rw [hs] at h
        cases h
        cases j with
        | zero => simp; rfl
        | succ j =>
          rw [hj, hj]
          have hj2 : j % 2 = 0 ∨ j % 2 = 1 := by omega
          rcases hj2 with hj2 | hj2
          · rw [hj2]
            have : j + 1 ≠ k + 1 := by omega
            simp only [this, if_false]
            rfl
          · rw [hj2]
            show r'.get (j / 2) = if j + 1 = k + 1 then x else r.get (j / 2)
            rw [T.get_set hs]
            have : j / 2 = k / 2 ↔ j + 1 = k + 1 := by omega
            simp only [this]
structure GH where
  size : Nat
  t : T
noncomputable def GH.get (h : GH) (b : Nat) : GB := h.t.get b
abbrev Rho := Nat → Option (Nat × Nat)
def Rho.le (ρ ρ' : Rho) : Prop := ∀ b x, ρ b = some x → ρ' b = some x
theorem Rho.le_refl (ρ : Rho) : ρ.le ρ := fun _ _ h => h
theorem Rho.le_trans {a b c : Rho} (h : a.le b) (k : b.le c) : a.le c := fun i x hx => k i x (h i x hx)
inductive RepG (ρ : Rho) : Value → G → Prop where
  | undef (v : Value) : RepG ρ v .undef
  | bool (b : Bool) : RepG ρ (.bool b) (.bool b)
  | int (k : IntKind) (n : Int) : RepG ρ (.int k n) (.int k n)
  | str (s : ByteArray) (len n : Nat) (hl : s.size = len) (hn : pk s.data.toList = n) : RepG ρ (.string s) (.str len n)
  | nilp : RepG ρ (.pointer none) .nilp
  | ptr (b r z o : Nat) (h : ρ b = some (r, z)) : RepG ρ (.pointer (some ⟨r, o, none⟩)) (.ptr b o)
  | nils : RepG ρ (.slice none 0 0) .nils
  | sl (b r z o len cap cap' : Nat) (ex : Option Nat) (h : ρ b = some (r, z)) (hl : len ≤ cap) (hc : cap ≤ cap') (hm : cap' ≤ maxLen)
      (hx : match ex with | none => cap' = cap | some sz => o + cap' * sz = z) : RepG ρ (.slice (some ⟨r, o, none⟩) len cap') (.sl b o len cap ex)
  | sl0 (a : Addr) (b o : Nat) (ex : Option Nat) : RepG ρ (.slice (some a) 0 0) (.sl b o 0 0 ex)
  | nilm : RepG ρ (.map none) .nilm
  | map (b r z : Nat) (h : ρ b = some (r, z)) : RepG ρ (.map (some r)) (.map b)
  | nili : RepG ρ .nilIface .nili
  | if_ (t : TypeId) (v : Value) (g : G) (h : RepG ρ v g) : RepG ρ (.iface t v) (.if_ t g)
  | nilf : RepG ρ .nilFunc .nilf
  | fn (f : FuncId) (first cap : Array Value) (fi ca : List G) (hf : first.size = fi.length) (hc : cap.size = ca.length)
      (h1 : ∀ (i : Nat) (v : Value) (g : G), first[i]? = some v → fi[i]? = some g → RepG ρ v g) (h2 : ∀ (i : Nat) (v : Value) (g : G), cap[i]? = some v → ca[i]? = some g → RepG ρ v g) :
      RepG ρ (.func (.func f) first cap) (.fn f fi ca)
  | yield (b l z : Nat) (h : ρ b = some (l, z)) : RepG ρ (.func (.yield l) #[] #[]) (.yield b)
  | agg (cs : Array Value) (l : List G) (hl : cs.size = l.length) (h1 : ∀ c ∈ cs.toList, c.oneCell' = true) (h : ∀ (i : Nat) (v : Value) (g : G), cs[i]? = some v → l[i]? = some g → RepG ρ v g) : RepG ρ (.agg cs) (.agg l)
  | tup (cs : Array Value) (l : List G) (hl : cs.size = l.length) (h : ∀ (i : Nat) (v : Value) (g : G), cs[i]? = some v → l[i]? = some g → RepG ρ v g) : RepG ρ (.tuple cs) (.tup l)
theorem RepG.mapρ {ρ : Rho} {v : Value} {b : Nat} (h : RepG ρ v (.map b)) : ∃ r z, ρ b = some (r, z) := by cases h with | map _ r z h => exact ⟨r, z, h⟩
theorem RepG.mono {ρ ρ' : Rho} (hρ : ρ.le ρ') {v : Value} {g : G} (h : RepG ρ v g) : RepG ρ' v g := by
  induction h with
  | undef v => exact .undef v
  | bool b => exact .bool b
  | int k n => exact .int k n
  | str s len n hl hn => exact .str s len n hl hn
  | nilp => exact .nilp
  | ptr b r z o h => exact .ptr b r z o (hρ _ _ h)
  | nils => exact .nils
  | sl b r z o len cap cap' ex h hl hc hm hx => exact .sl b r z o len cap cap' ex (hρ _ _ h) hl hc hm hx
  | sl0 a b o ex => exact .sl0 a b o ex
  | nilm => exact .nilm
  | map b r z h => exact .map b r z (hρ _ _ h)
  | nili => exact .nili
  | if_ t v g _ ih => exact .if_ t v g ih
  | nilf => exact .nilf
  | fn f first cap fi ca hf hc _ _ ih1 ih2 => exact .fn f first cap fi ca hf hc ih1 ih2
  | yield b l z h => exact .yield b l z (hρ _ _ h)
  | agg cs l hl h1 _ ih => exact .agg cs l hl h1 ih
  | tup cs l hl _ ih => exact .tup cs l hl ih
def G.one : G → Bool
  | .agg _ | .tup _ | .undef => false
  | _ => true
theorem RepG.one {ρ : Rho} {v : Value} {g : G} (h : RepG ρ v g) (hx : g.one = true) : v.oneCell' = true := by
  cases h <;> first | rfl | (simp [G.one] at hx)
def RepGs (ρ : Rho) (vs : List Value) (gs : List G) : Prop := vs.length = gs.length ∧ ∀ (i : Nat) (v : Value) (g : G), vs[i]? = some v → gs[i]? = some g → RepG ρ v g
theorem RepGs.mono {ρ ρ' : Rho} (hρ : ρ.le ρ') {vs : List Value} {gs : List G} (h : RepGs ρ vs gs) : RepGs ρ' vs gs := ⟨h.1, fun i v g a b => (h.2 i v g a b).mono hρ⟩
theorem RepGs.nil {ρ : Rho} : RepGs ρ [] [] := ⟨rfl, fun i v g h => by simp at h⟩
theorem RepGs.mk {ρ : Rho} {v : Value} {vs : List Value} {g : G} {gs : List G} (h : RepG ρ v g) (hs : RepGs ρ vs gs) : RepGs ρ (v :: vs) (g :: gs) :=
  ⟨by simp [hs.1], fun i u y h1 h2 => by
    cases i with
    | zero => simp at h1 h2; subst h1; subst h2; exact h
    | succ i => exact hs.2 i u y (by simpa using h1) (by simpa using h2)⟩
theorem RepGs.cons {ρ : Rho} {v : Value} {vs : List Value} {g : G} {gs : List G} (h : RepGs ρ (v :: vs) (g :: gs)) : RepG ρ v g ∧ RepGs ρ vs gs :=
  ⟨h.2 0 v g rfl rfl, by simpa using h.1, fun i v g h1 h2 => h.2 (i + 1) v g (by simpa using h1) (by simpa using h2)⟩
theorem RepGs.append {ρ : Rho} : ∀ {vs us : List Value} {gs ys : List G}, RepGs ρ vs gs → RepGs ρ us ys → RepGs ρ (vs ++ us) (gs ++ ys)
  | [], _, [], _, _, k => k
  | [], _, _ :: _, _, h, _ => by simp [RepGs] at h
  | _ :: _, _, [], _, h, _ => by simp [RepGs] at h
  | v :: vs, us, g :: gs, ys, h, k => .mk h.cons.1 (RepGs.append h.cons.2 k)
theorem RepGs.take {ρ : Rho} {vs : List Value} {gs : List G} (h : RepGs ρ vs gs) (n : Nat) : RepGs ρ (vs.take n) (gs.take n) :=
  ⟨by simp [h.1], fun i v g a b => by
    rw [List.getElem?_take] at a b
    split at a
    · rw [if_pos (by assumption)] at b; exact h.2 i v g a b
    · cases a⟩
theorem RepGs.drop {ρ : Rho} {vs : List Value} {gs : List G} (h : RepGs ρ vs gs) (n : Nat) : RepGs ρ (vs.drop n) (gs.drop n) :=
  ⟨by simp [h.1], fun i v g a b => by
    rw [List.getElem?_drop] at a b; exact h.2 _ v g a b⟩
def SRep (ρ : Rho) (s : S) (tmps : Array Value) : Prop := tmps.size ≤ 256 ∧ ∀ t, RepG ρ (tmps.getD t Go.undef) (zeq t s)
theorem SRep.mono {ρ ρ' : Rho} (hρ : ρ.le ρ') {s : S} {tmps : Array Value} (h : SRep ρ s tmps) : SRep ρ' s tmps := ⟨h.1, fun t => (h.2 t).mono hρ⟩
def yfr (r : Go.Loop) (st : LoopState) (pend : Option Code) (fn : FuncId) (ps : Array Tmp) (asg body : Code) : Prop :=
  r.state = st ∧ r.pending = pend ∧ r.fn = fn ∧ r.params = ps ∧ r.assign = asg ∧ r.body = body
def KvRep (ρ : Rho) (es : List MapEntry) (kv : List (G × G)) : Prop :=
  ∃ l : List MapEntry, l.Perm es ∧ l.length = kv.length ∧ ∀ (i : Nat) (e : MapEntry) (p : G × G), l[i]? = some e → kv[i]? = some p → RepG ρ e.key p.1 ∧ RepG ρ e.val p.2
def CurRep (ρ : Rho) (es : List MapEntry) (seen : Array Nat) : Option (G × G) → Prop
  | none => True
  | some p => ∃ (e : MapEntry) (s0 : Array Nat), e ∈ es ∧ seen = s0.push e.born ∧ RepG ρ e.key p.1 ∧ RepG ρ e.val p.2
def GB.isDead : GB → Bool
  | .dead => true
  | _ => false
def BRep (ρ : Rho) (h : GH) (w : World) (r z : Nat) : GB → Prop
  | .dead => True
  | .cells l => ∃ vs t, w.heap[r]? = some (.cells vs t (0, 0)) ∧ vs.size = z ∧ l.length ≤ z ∧ RepGs ρ (vs.toList.take l.length) l ∧ ∀ v ∈ vs.toList.take l.length, v.oneCell' = true
  | .map _ kv => ∃ es clock, w.heap[r]? = some (.map es clock) ∧ KvRep ρ es.toList kv ∧ (kv.map (·.1)).Nodup ∧ kv.length ≤ maxLen ∧ (∀ e ∈ es.toList, e.born < clock) ∧ (es.toList.map (·.born)).Nodup
  | .siter len n pos => ∃ s : ByteArray, w.heap[r]? = some (.stringIter s pos) ∧ s.size = len ∧ pk s.data.toList = n
  | .miter m ver cur rem => ∃ rm zm since seen stepped, ρ m = some (rm, zm) ∧ w.heap[r]? = some (.mapIter (some rm) since seen stepped) ∧
      (∀ v kv, h.get m = .map v kv → ver ≤ v ∧ (v = ver → ∀ es clock, w.heap[rm]? = some (.map es clock) → since = clock ∧ stepped = clock ∧ KvRep ρ (es.toList.filter fun e => !seen.contains e.born) rem ∧ CurRep ρ es.toList seen cur))
  | .minone => ∃ a b c, w.heap[r]? = some (.mapIter none a b c)
  | .loop st pend fn s n ps asg body db => ∃ rl rd zd, w.heap[r]? = some (.loop rl) ∧ yfr rl st pend fn ps asg body ∧ SRep ρ s rl.tmps ∧ rl.tmps.size = n ∧ ρ db = some (rd, zd) ∧ rl.defers = rd
  | .defd => w.heap[r]? = some (.deferred (some []))
structure Bl where
  r : Nat → Prop
  p : Nat → Prop
instance : CoeFun Bl (fun _ => Nat → Prop) := ⟨Bl.r⟩
structure HRep (B : Bl) (ρ : Rho) (h : GH) (w : World) : Prop where
  blk : ∀ b r z, (h.get b).isDead = false → ρ b = some (r, z) → BRep ρ h w r z (h.get b)
  inj : ∀ b b' r z z', (h.get b).isDead = false → (h.get b').isDead = false → ρ b = some (r, z) → ρ b' = some (r, z') → b = b'
  lo : ∀ b r z, ρ b = some (r, z) → ¬ B r ∧ r < w.heap.size
  dom : ∀ b x, ρ b = some x → b < h.size
  top : ∀ r, B r → r < w.heap.size
  pl : ∀ b x, ρ b = some x → ¬ B.p b
  pt : ∀ b, B.p b → b < h.size
structure Kept (B : Bl) (w w' : World) : Prop where
  os : w'.os = w.os
  tape : w'.tape = w.tape
  output : w'.output = w.output
  size : w.heap.size ≤ w'.heap.size
  block : ∀ b, B b → w'.heap[b]? = w.heap[b]?
theorem Kept.refl (B : Bl) (w : World) : Kept B w w := ⟨rfl, rfl, rfl, Nat.le_refl _, fun _ _ => rfl⟩
theorem Kept.trans {B : Bl} {w x y : World} (h : Kept B w x) (k : Kept B x y) : Kept B w y :=
  ⟨k.os.trans h.os, k.tape.trans h.tape, k.output.trans h.output, Nat.le_trans h.size k.size, fun b hb => (k.block b hb).trans (h.block b hb)⟩
theorem Kept.drew (B : Bl) (w : World) : Kept B w { w with drawn := w.drawn + 1 } := ⟨rfl, rfl, rfl, Nat.le_refl _, fun _ _ => rfl⟩
end Go.Gx
namespace Go.Gx
open Go.Hk (TT TTok TyI Sh lk TyOk zfm)
noncomputable def yi0 (l : List G) : Nat → Option G :=
  List.rec (motive := fun _ => Nat → Option G) (fun _ => none) (fun x _ ih n => Nat.rec (motive := fun _ => Option G) (some x) (fun m _ => ih m) n) l
theorem zq1 : ∀ (l : List G) (n : Nat), yi0 l n = l[n]?
  | [], n => by simp [yi0]
  | x :: l, 0 => by
    show some x = _
    simp
  | x :: l, n + 1 => by
    show yi0 l n = _
    rw [zq1 l n]; simp
noncomputable def yf5 (l : List G) : Nat → Option (List G) :=
  List.rec (motive := fun _ => Nat → Option (List G)) (fun o => Nat.rec (motive := fun _ => Option (List G)) (some []) (fun _ _ => none) o)
    (fun x r ih o => Nat.rec (motive := fun _ => Option (List G)) (some (x :: r)) (fun m _ => ih m) o) l
theorem zxk : ∀ (l : List G) (o : Nat), yf5 l o = if o ≤ l.length then some (l.drop o) else none
  | [], 0 => rfl
  | [], o + 1 => by simp [yf5]
  | x :: l, 0 => rfl
  | x :: l, o + 1 => by
    show yf5 l o = _
    rw [zxk l o]; simp
noncomputable def yci (n : Nat) : List G → Option (List G) :=
  Nat.rec (motive := fun _ => List G → Option (List G)) (fun _ => some [])
    (fun _ ih l => List.rec (motive := fun _ => Option (List G)) none (fun x r _ => Option.rec (motive := fun _ => Option (List G)) none (fun t => some (x :: t)) (ih r)) l) n
theorem zxg : ∀ (n : Nat) (l : List G), yci n l = if n ≤ l.length then some (l.take n) else none
  | 0, l => by
    show some [] = _
    simp
  | n + 1, [] => by simp [yci]
  | n + 1, x :: l => by
    show Option.rec (motive := fun _ => Option (List G)) none (fun t => some (x :: t)) (yci n l) = _
    rw [zxg n l]
    by_cases h : n ≤ l.length <;> simp [h]
noncomputable def yhr (l : List G) (o n : Nat) : Option (List G) := Option.rec (motive := fun _ => Option (List G)) none (yci n) (yf5 l o)
theorem zqz {l r : List G} {o n : Nat} (h : yhr l o n = some r) : r = (l.drop o).take n ∧ o + n ≤ l.length := by
  unfold yhr at h
  rw [zxk] at h
  by_cases ho : o ≤ l.length
  · rw [if_pos ho] at h
    have h : yci n (l.drop o) = some r := h
    rw [zxg] at h
    split at h
    · rename_i hn
      cases h
      simp at hn
      exact ⟨rfl, by omega⟩
    · cases h
  · rw [if_neg ho] at h; cases h
noncomputable def zs9 (ys : List G) : List G → Option (List G) :=
  List.rec (motive := fun _ => List G → Option (List G)) (fun l => some l)
    (fun y _ ih l => List.rec (motive := fun _ => Option (List G)) none (fun _ r _ => Option.rec (motive := fun _ => Option (List G)) none (fun t => some (y :: t)) (ih r)) l) ys
noncomputable def zf6 (l : List G) : Nat → List G → Option (List G) :=
  List.rec (motive := fun _ => Nat → List G → Option (List G)) (fun o ys => Nat.rec (motive := fun _ => Option (List G)) (zs9 ys []) (fun _ _ => none) o)
    (fun x r ih o ys => Nat.rec (motive := fun _ => Option (List G)) (zs9 ys (x :: r)) (fun m _ => Option.rec (motive := fun _ => Option (List G)) none (fun t => some (x :: t)) (ih m ys)) o) l
theorem zq0 : ∀ (ys l : List G), zs9 ys l = if ys.length ≤ l.length then some (ys ++ l.drop ys.length) else none
  | [], l => by simp [zs9]
  | y :: ys, [] => by simp [zs9]
  | y :: ys, x :: l => by
    show Option.rec (motive := fun _ => Option (List G)) none (fun t => some (y :: t)) (zs9 ys l) = _
    rw [zq0 ys l]
    by_cases h : ys.length ≤ l.length <;> simp [h]
theorem zkj : ∀ {l : List G} {o : Nat} {ys r : List G}, zf6 l o ys = some r → r = l.take o ++ ys ++ l.drop (o + ys.length) ∧ o + ys.length ≤ l.length
  | [], 0, ys, r, h => by
    have h : zs9 ys [] = some r := h
    rw [zq0] at h
    split at h
    · rename_i hl; cases h; simp at hl; subst hl; simp
    · cases h
  | [], o + 1, ys, r, h => by cases h
  | x :: l, 0, ys, r, h => by
    have h : zs9 ys (x :: l) = some r := h
    rw [zq0] at h
    split at h
    · rename_i hl; cases h; simp; simpa using hl
    · cases h
  | x :: l, o + 1, ys, r, h => by
    have h : Option.rec (motive := fun _ => Option (List G)) none (fun t => some (x :: t)) (zf6 l o ys) = some r := h
    cases hs : zf6 l o ys with
    | none => rw [hs] at h; cases h
    | some t =>
      rw [hs] at h; cases h
      obtain ⟨h1, h2⟩ := zkj hs
      refine ⟨?_, by simp; omega⟩
      rw [h1, show o + 1 + ys.length = (o + ys.length) + 1 by omega]
      simp
def ofValue : Value → Option G
  | .bool b => some (.bool b)
  | .int k n => some (.int k n)
  | .string s => some (.str s.size (pk s.data.toList))
  | .pointer none => some .nilp
  | .slice none 0 0 => some .nils
  | .map none => some .nilm
  | .nilFunc => some .nilf
  | .nilIface => some .nili
  | _ => none
def evA (x : Operand) (s : S) : G := match x with
  | .tmp t => zeq t s
  | .const v => match ofValue v with
    | some g => g
    | none => .undef
  | .func f => .fn f [] []
  | .global _ => .undef
theorem zuo {ρ : Rho} {v : Value} {g : G} (h : ofValue v = some g) : RepG ρ v g := by
  unfold ofValue at h
  split at h <;> first
    | (cases h; exact .bool _)
    | (cases h; exact .int _ _)
    | (cases h; exact .str _ _ _ rfl rfl)
    | (cases h; exact .nilp)
    | (cases h; exact .nils)
    | (cases h; exact .nilm)
    | (cases h; exact .nilf)
    | (cases h; exact .nili)
    | cases h
theorem zap {ρ : Rho} {s : S} {a : Act} (h : SRep ρ s a.tmps) (x : Operand) : RepG ρ (a.eval x) (evA x s) := by
  cases x with
  | tmp t =>
    exact h.2 t
  | const v =>
    show RepG ρ v (match ofValue v with | some g => g | none => .undef)
    cases hv : ofValue v with
    | none => exact .undef _
    | some g => exact zuo hv
  | func f => exact .fn f #[] #[] [] [] rfl rfl (fun i v g h => by simp at h) (fun i v g h => by simp at h)
  | global g => exact .undef _
theorem yf3 {tmps : Array Value} {d t : Nat} {v : Value} : (tmps.setIfInBounds d v).getD t Go.undef = if d = t ∧ d < tmps.size then v else tmps.getD t Go.undef := by
  simp only [Array.getD_eq_getD_getElem?]
  by_cases h : d = t
  · subst h
    by_cases hd : d < tmps.size
    · simp [hd]
    · simp [hd]
  · rw [Array.getElem?_setIfInBounds_ne h, if_neg (fun hh => h hh.1)]
theorem SRep.set {ρ : Rho} {s : S} {tmps : Array Value} (h : SRep ρ s tmps) {d : Nat} {v : Value} {g : G} (hd : d < tmps.size) (hv : RepG ρ v g) : SRep ρ (zt3 d s g) (tmps.setIfInBounds d v) := by
  refine ⟨by simpa using h.1, fun t => ?_⟩
  rw [yf3, zdf t d s g]
  by_cases hdt : d = t
  · subst hdt; simpa [hd] using hv
  · rw [if_neg (fun hh => hdt hh.1), if_neg (fun hh => hdt hh.symm)]
    exact h.2 t
theorem SRep.put {ρ : Rho} {s : S} {a : Act} (h : SRep ρ s a.tmps) {d : Nat} {v : Value} {g : G} (hd : d < a.tmps.size) (hv : RepG ρ v g) : SRep ρ (zt3 d s g) (a.put (some d) v).tmps := h.set hd hv
theorem KvRep.mono {ρ ρ' : Rho} (hρ : ρ.le ρ') {es : List MapEntry} {kv : List (G × G)} (h : KvRep ρ es kv) : KvRep ρ' es kv := by
  obtain ⟨l, h1, h2, h3⟩ := h
  exact ⟨l, h1, h2, fun i e p a b => ⟨(h3 i e p a b).1.mono hρ, (h3 i e p a b).2.mono hρ⟩⟩
theorem CurRep.mono {ρ ρ' : Rho} (hρ : ρ.le ρ') {es : List MapEntry} {seen : Array Nat} {cur : Option (G × G)} (h : CurRep ρ es seen cur) : CurRep ρ' es seen cur := by
  cases cur with
  | none => trivial
  | some p =>
    obtain ⟨e, s0, h1, h2, h3, h4⟩ := h
    exact ⟨e, s0, h1, h2, h3.mono hρ, h4.mono hρ⟩
theorem BRep.frame {ρ ρ' : Rho} {h h' : GH} {w w' : World} {r z : Nat} {g : GB} (hr : BRep ρ h w r z g) (hρ : ρ.le ρ') (hw : w'.heap[r]? = w.heap[r]?)
    (hm : ∀ m ver cur rem v kv rm zm, g = .miter m ver cur rem → ρ m = some (rm, zm) → h'.get m = .map v kv → (∃ kv0, h.get m = .map v kv0 ∧ w'.heap[rm]? = w.heap[rm]?) ∨ (∃ v0 kv0, h.get m = .map v0 kv0 ∧ v0 < v)) : BRep ρ' h' w' r z g := by
  cases g with
  | dead => trivial
  | cells l => obtain ⟨vs, t, h1, h2, h3, h4, h5⟩ := hr; exact ⟨vs, t, hw.trans h1, h2, h3, h4.mono hρ, h5⟩
  | map ver kv => obtain ⟨es, clock, h1, h2, h3⟩ := hr; exact ⟨es, clock, hw.trans h1, h2.mono hρ, h3⟩
  | siter len n pos => obtain ⟨s, h1, h2⟩ := hr; exact ⟨s, hw.trans h1, h2⟩
  | miter m ver cur rem =>
    obtain ⟨rm, zm, since, seen, stepped, h1, h2, h3⟩ := hr
    refine ⟨rm, zm, since, seen, stepped, hρ _ _ h1, hw.trans h2, fun v kv hk => ?_⟩
    rcases hm m ver cur rem v kv rm zm rfl h1 hk with ⟨kv0, q1, q2⟩ | ⟨v0, kv0, q1, q2⟩
    · obtain ⟨q3, q4⟩ := h3 v kv0 q1
      refine ⟨q3, fun e es clock he => ?_⟩
      obtain ⟨q5, q6, q7, q8⟩ := q4 e es clock (by rw [← q2]; exact he)
      exact ⟨q5, q6, q7.mono hρ, q8.mono hρ⟩
    · obtain ⟨q3, _⟩ := h3 v0 kv0 q1
      exact ⟨by omega, fun e => by omega⟩
  | minone => obtain ⟨a, b, c, h1⟩ := hr; exact ⟨a, b, c, hw.trans h1⟩
  | loop st pend fn s n ps asg body db =>
    obtain ⟨rl, rd, zd, h1, h2, h3, h4, h5, h6⟩ := hr
    exact ⟨rl, rd, zd, hw.trans h1, h2, h3.mono hρ, h4, hρ _ _ h5, h6⟩
  | defd => exact hw.trans hr
section
variable {B : Bl} {ρ : Rho} {h h' : GH} {w : World}
theorem HRep.atρ (hr : HRep B ρ h w) {b r z : Nat} {g : GB} (hg : h.get b = g) (hd : g.isDead = false) (hρ : ρ b = some (r, z)) : BRep ρ h w r z g := by
  subst hg; exact hr.blk b r z hd hρ
noncomputable def GH.set? (h : GH) (b : Nat) (x : GB) : Option GH := match h.t.set? b x with
  | some t => some ⟨h.size, t⟩
  | none => none
theorem GH.get_set {x : GB} {b : Nat} (hs : h.set? b x = some h') : h'.size = h.size ∧ ∀ j, h'.get j = if j = b then x else h.get j := by
  unfold GH.set? at hs
  split at hs
  · rename_i t ht
    cases hs
    exact ⟨rfl, T.get_set ht⟩
  · cases hs
theorem HRep.write (hr : HRep B ρ h w) {b r z : Nat} {x : GB} {o : Obj} (hs : h.set? b x = some h') (hlive : (h.get b).isDead = false) (hρ : ρ b = some (r, z))
    (hx : BRep ρ h' { w with heap := w.heap.setIfInBounds r o } r z x) (hver : ∀ v kv, x = .map v kv → ∃ v0 kv0, h.get b = .map v0 kv0 ∧ v0 < v) :
    HRep B ρ h' { w with heap := w.heap.setIfInBounds r o } := by
  obtain ⟨hsz, hget⟩ := GH.get_set hs
  have hrlt := (hr.lo b r z hρ).2
  refine { blk := fun j rj zj hj hρj => ?_, inj := fun i j ri zi zj hi hj hρi hρj => ?_, lo := fun j r' z' hj => by simpa using hr.lo j r' z' hj, dom := fun j x hj => by rw [hsz]; exact hr.dom j x hj, top := fun r hb => by simpa using hr.top r hb, pl := hr.pl, pt := fun b hb => by rw [hsz]; exact hr.pt b hb }
  · rw [hget] at hj ⊢
    by_cases hjb : j = b
    · subst hjb
      rw [if_pos rfl]
      rw [hρ] at hρj; cases hρj
      exact hx
    · rw [if_neg hjb] at hj ⊢
      have h2 := hr.blk j rj zj hj hρj
      have hne : rj ≠ r := fun e => by subst e; exact hjb (hr.inj j b rj zj z hj hlive hρj hρ)
      refine h2.frame (Rho.le_refl ρ) (by simp [Array.getElem?_setIfInBounds_ne (Ne.symm hne)]) ?_
      intro m ver cur rem v kv rm zm hg hm hk
      rw [hget] at hk
      by_cases hmb : m = b
      · subst hmb
        rw [if_pos rfl] at hk
        exact .inr (hver v kv hk)
      · rw [if_neg hmb] at hk
        have hmlive : (h.get m).isDead = false := by rw [hk]; rfl
        have hne2 : rm ≠ r := fun e => by subst e; exact hmb (hr.inj m b rm zm z hmlive hlive hm hρ)
        exact .inl ⟨kv, hk, by simp [Array.getElem?_setIfInBounds_ne (Ne.symm hne2)]⟩
  · rw [hget] at hi hj
    have hi' : (h.get i).isDead = false := by
      by_cases e : i = b
      · rw [e]; exact hlive
      · rwa [if_neg e] at hi
    have hj' : (h.get j).isDead = false := by
      by_cases e : j = b
      · rw [e]; exact hlive
      · rwa [if_neg e] at hj
    exact hr.inj i j ri zi zj hi' hj' hρi hρj
theorem HRep.write1 (hr : HRep B ρ h w) {b r z : Nat} {x : GB} {o : Obj} (hs : h.set? b x = some h') (hlive : (h.get b).isDead = false) (hρ : ρ b = some (r, z))
    (hx : BRep ρ h' { w with heap := w.heap.setIfInBounds r o } r z x) (hn : ∀ ver kv, x ≠ .map ver kv) : HRep B ρ h' { w with heap := w.heap.setIfInBounds r o } :=
  hr.write hs hlive hρ hx (fun v kv hx => absurd hx (hn v kv))
theorem Kept.write {r : Nat} {o : Obj} (hr : ¬ B r) : Kept B w { w with heap := w.heap.setIfInBounds r o } :=
  ⟨rfl, rfl, rfl, by simp, fun b hb => by simp [Array.getElem?_setIfInBounds_ne (show r ≠ b from fun e => hr (e ▸ hb))]⟩
noncomputable def GH.push? (h : GH) (x : GB) : Option GH := match h.t.set? h.size x with
  | some t => some ⟨h.size + 1, t⟩
  | none => none
theorem GH.get_push {x : GB} (hs : h.push? x = some h') : h'.size = h.size + 1 ∧ ∀ j, h'.get j = if j = h.size then x else h.get j := by
  unfold GH.push? at hs
  split at hs
  · rename_i t ht
    cases hs
    exact ⟨rfl, T.get_set ht⟩
  · cases hs
def Rho.add (ρ : Rho) (b : Nat) (x : Nat × Nat) : Rho := fun i => if i = b then some x else ρ i
theorem HRep.fresh (hr : HRep B ρ h w) : ρ h.size = none := by
  cases hx : ρ h.size with
  | none => rfl
  | some x => have := hr.dom _ _ hx; omega
theorem HRep.le_add (hr : HRep B ρ h w) (x : Nat × Nat) : ρ.le (ρ.add h.size x) := by
  intro i y hy
  unfold Rho.add
  rw [if_neg (fun e => by rw [e, hr.fresh] at hy; cases hy)]
  exact hy
theorem HRep.push (hr : HRep B ρ h w) {x : GB} {o : Obj} {z : Nat} (hs : h.push? x = some h')
    (hx : BRep (ρ.add h.size (w.heap.size, z)) h' { w with heap := w.heap.push o } w.heap.size z x) :
    HRep B (ρ.add h.size (w.heap.size, z)) h' { w with heap := w.heap.push o } := by
  obtain ⟨hsz, hget⟩ := GH.get_push hs
  have hle := hr.le_add (w.heap.size, z)
  have hold : ∀ j r' z', j ≠ h.size → ρ.add h.size (w.heap.size, z) j = some (r', z') → ρ j = some (r', z') := fun j r' z' hj hh => by
    unfold Rho.add at hh; rwa [if_neg hj] at hh
  refine { blk := fun j rj zj hj hρj => ?_, inj := fun i j ri zi zj hi hj hρi hρj => ?_, lo := fun j r' z' hj => ?_, dom := fun j x hj => ?_, top := fun r hb => by have := hr.top r hb; simp; omega, pl := fun j x hj => ?_, pt := fun b hb => by have := hr.pt b hb; omega }
  · rw [hget] at hj ⊢
    by_cases hjb : j = h.size
    · subst hjb
      rw [if_pos rfl]
      unfold Rho.add at hρj; rw [if_pos rfl] at hρj; cases hρj
      exact hx
    · rw [if_neg hjb] at hj ⊢
      have h1 := hold _ _ _ hjb hρj
      have h2 := hr.blk j rj zj hj h1
      have hlt := (hr.lo _ _ _ h1).2
      refine h2.frame hle (by simp [Array.getElem?_push, Nat.ne_of_lt hlt]) ?_
      intro m ver cur rem v kv rm zm hg hm hk
      rw [hget] at hk
      have hmne : m ≠ h.size := fun e => by rw [e, hr.fresh] at hm; cases hm
      rw [if_neg hmne] at hk
      have hlt2 := (hr.lo _ _ _ hm).2
      exact .inl ⟨kv, hk, by simp [Array.getElem?_push, Nat.ne_of_lt hlt2]⟩
  · rw [hget] at hi hj
    by_cases hie : i = h.size
    · by_cases hje : j = h.size
      · rw [hie, hje]
      · have := (hr.lo _ _ _ (hold _ _ _ hje hρj)).2
        unfold Rho.add at hρi; rw [if_pos hie] at hρi; cases hρi; omega
    · by_cases hje : j = h.size
      · have := (hr.lo _ _ _ (hold _ _ _ hie hρi)).2
        unfold Rho.add at hρj; rw [if_pos hje] at hρj; cases hρj; omega
      · rw [if_neg hie] at hi; rw [if_neg hje] at hj
        exact hr.inj i j ri zi zj hi hj (hold _ _ _ hie hρi) (hold _ _ _ hje hρj)
  · by_cases hje : j = h.size
    · unfold Rho.add at hj; rw [if_pos hje] at hj; cases hj
      exact ⟨fun hb => absurd (hr.top _ hb) (Nat.lt_irrefl _), by simp⟩
    · have := hr.lo _ _ _ (hold _ _ _ hje hj)
      exact ⟨this.1, by simp; omega⟩
  · by_cases hje : j = h.size
    · omega
    · cases hx : x with
      | mk r' z' => rw [hx] at hj; have := hr.dom _ _ (hold _ _ _ hje hj); omega
  · by_cases hje : j = h.size
    · exact fun hb => absurd (hr.pt _ hb) (by omega)
    · cases hx : x with
      | mk r' z' => rw [hx] at hj; exact hr.pl _ _ (hold _ _ _ hje hj)
theorem Kept.push {o : Obj} (hB : ∀ r, B r → r < w.heap.size) : Kept B w { w with heap := w.heap.push o } :=
  ⟨rfl, rfl, rfl, by simp, fun b hb => by
    have : b ≠ w.heap.size := Nat.ne_of_lt (hB b hb)
    simp [Array.getElem?_push, this]⟩
theorem HRep.drew (hr : HRep B ρ h w) : HRep B ρ h { w with drawn := w.drawn + 1 } :=
  { blk := fun b r z hb h1 => (hr.blk b r z hb h1).frame (Rho.le_refl ρ) rfl fun _ _ _ _ _ kv _ _ _ _ hk => .inl ⟨kv, hk, rfl⟩,
    inj := hr.inj, lo := hr.lo, dom := hr.dom, top := hr.top, pl := hr.pl, pt := hr.pt }
end
end Go.Gx
namespace Go.Gx
open Go.Hk (TT TTok TyI Sh lk TyOk zfm nth za7)
def zry (k : IntKind) (n : Int) : Int := match k, n with
  | .i64, .ofNat m => match Nat.ble m 9223372036854775807 with
    | true => .ofNat m
    | false => IntKind.wrap .i64 (.ofNat m)
  | .i64, .negSucc m => match Nat.ble m 9223372036854775807 with
    | true => .negSucc m
    | false => IntKind.wrap .i64 (.negSucc m)
  | k, n => k.wrap n
theorem zmb (n : Int) (h1 : -9223372036854775808 ≤ n) (h2 : n ≤ 9223372036854775807) : IntKind.wrap .i64 n = n := by
  simp only [IntKind.wrap, IntKind.bits, IntKind.signed]
  simp
  omega
theorem zlu (k : IntKind) (n : Int) : zry k n = k.wrap n := by
  unfold zry
  split
  · rename_i m
    split
    · rename_i h
      rw [Nat.ble_eq] at h
      exact (zmb _ (by have : Int.ofNat m = (m : Int) := rfl; omega) (by have : Int.ofNat m = (m : Int) := rfl; omega)).symm
    · rfl
  · rename_i m
    split
    · rename_i h
      rw [Nat.ble_eq] at h
      exact (zmb _ (by omega) (by omega)).symm
    · rfl
  · rfl
def zqw (a b : Int) : Bool := match a, b with
  | .ofNat x, .ofNat y => Nat.beq x y
  | .negSucc x, .negSucc y => Nat.beq x y
  | _, _ => false
theorem zc5 (a b : Int) : zqw a b = (a == b) := by
  rw [Bool.eq_iff_iff]
  cases a <;> cases b <;> simp [zqw]
  all_goals omega
def zqv (a b : Int) : Bool := match a, b with
  | .ofNat x, .ofNat y => Nat.ble x y
  | .negSucc x, .negSucc y => Nat.ble y x
  | .negSucc _, .ofNat _ => true
  | .ofNat _, .negSucc _ => false
theorem zqu (a b : Int) : zqv a b = decide (a ≤ b) := by
  rw [Bool.eq_iff_iff]
  cases a <;> cases b <;> simp [zqv] <;> omega
def kEq (a b : IntKind) : Bool := decide (a = b)
def ibin (op : BinOp) (k : IntKind) (a b : Int) : Option G := match op with
  | .add => some (.int k (zry k (a + b)))
  | .sub => some (.int k (zry k (a - b)))
  | .mul => some (.int k (zry k (a * b)))
  | .quo => match zqw b 0 with
    | true => none
    | false => some (.int k (zry k (a.tdiv b)))
  | .rem => match zqw b 0 with
    | true => none
    | false => some (.int k (a.tmod b))
  | .eql => some (.bool (zqw a b))
  | .neq => some (.bool (!zqw a b))
  | .lss => some (.bool (!zqv b a))
  | .leq => some (.bool (zqv a b))
  | .gtr => some (.bool (!zqv a b))
  | .geq => some (.bool (zqv b a))
  | _ => none
def sbin (op : BinOp) (la a lb b : Nat) : Option G := match op with
  | .add => match Nat.ble (Nat.add la lb) 9223372036854775807 with
    | true => some (.str (Nat.add la lb) (Nat.add a (Nat.mul (Nat.pow 256 la) b)))
    | false => none
  | .eql => some (.bool (Nat.beq la lb && Nat.beq a b))
  | .neq => some (.bool (!(Nat.beq la lb && Nat.beq a b)))
  | _ => none
def yfl (x y : G) : Option Bool := match x, y with
  | .ptr .., .nilp => some false
  | .nilp, .ptr .. => some false
  | .nilp, .nilp => some true
  | .if_ .., .nili => some false
  | .nili, .if_ .. => some false
  | .sl .., .nils => some false
  | .nils, .nils => some true
  | _, _ => none
def yfj (x : G) (sh : Sh) : Bool := match x, sh with
  | .ptr .., .ptr _ => true
  | .nilp, .ptr _ => true
  | .if_ .., .iface => true
  | .nili, .iface => true
  | .sl .., .sl _ => true
  | .nils, .sl _ => true
  | _, _ => false
def ygh (tt : TT) (op : BinOp) (t : TypeId) (x y : G) : Option G := match yfl x y with
  | some b => match lk tt t with
    | some ti => match yfj x ti.sh with
      | true => match op with
        | .eql => some (.bool b)
        | .neq => some (.bool (!b))
        | _ => none
      | false => none
    | none => none
  | none => none
def yi8 (tt : TT) (op : BinOp) (t : TypeId) (yo : Operand) (x y : G) : Option G := match x with
  | .int k a => match y with
    | .int k' b => match kEq k k' with
      | true => ibin op k a b
      | false => none
    | _ => none
  | .str la a => match y with
    | .str lb b => sbin op la a lb b
    | _ => none
  | .bool a => match y with
    | .bool b => match lk tt t with
      | some { sh := .bool, .. } => match op with
        | .eql => some (.bool (a == b))
        | .neq => some (.bool (!(a == b)))
        | _ => none
      | _ => none
    | _ => none
  | .nili => match y with
    | .nili => match lk tt t, yo with
      | some { sh := .iface, .. }, .const _ => match op with
        | .eql => some (.bool true)
        | .neq => some (.bool false)
        | _ => none
      | _, _ => none
    | y => ygh tt op t .nili y
  | x => ygh tt op t x y
section
variable {P : Program} {w : World} {tt : TT} {ρ : Rho}
theorem RepG.intInv {v : Value} {k : IntKind} {n : Int} (h : RepG ρ v (.int k n)) : v = .int k n := by cases h; rfl
theorem RepG.boolInv {v : Value} {b : Bool} (h : RepG ρ v (.bool b)) : v = .bool b := by cases h; rfl
theorem RepG.strInv {v : Value} {l n : Nat} (h : RepG ρ v (.str l n)) : ∃ s : ByteArray, v = .string s ∧ s.size = l ∧ pk s.data.toList = n := by
  cases h with | str s _ _ h1 h2 => exact ⟨s, rfl, h1, h2⟩
theorem zbg (s : ByteArray) : s.data.toList.length = s.size := by simp
theorem zwa {s s' : ByteArray} : (Nat.beq s.size s'.size && Nat.beq (pk s.data.toList) (pk s'.data.toList)) = (s.data.toList == s'.data.toList) := by
  rw [Bool.eq_iff_iff]
  simp only [Bool.and_eq_true, Nat.beq_eq, beq_iff_eq]
  constructor
  · rintro ⟨h1, h2⟩
    exact ya8 (by rw [zbg, zbg, h1]) h2
  · intro h
    exact ⟨by rw [← zbg, ← zbg, h], by rw [h]⟩
theorem zj5 {op : BinOp} {t : TypeId} {xo yo : Operand} {x y r : Value} (h1 : ∀ cs, x ≠ .agg cs) (h2 : x ≠ .nilIface) (h : (binOp op t x y).run P w = .ok r w) :
    (do eqGuard op t xo yo x y; binOp op t x y : Sem Value).run P w = .ok r w := by
  simp only [Sem.run_bind, Hk.eqGuard_ok op t xo yo x y h1 h2, Result.andThen_ok, h]
theorem yiv {op : BinOp} {k : IntKind} {a b : Int} {g : G} (t : TypeId) (xo yo : Operand) (h : ibin op k a b = some g) :
    ∃ v, (do eqGuard op t xo yo (.int k a) (.int k b); binOp op t (.int k a) (.int k b) : Sem Value).run P w = .ok v w ∧ RepG ρ v g := by
  have hle : ∀ x y : Int, (!decide (x ≤ y)) = decide (y < x) := fun x y => by rw [Bool.eq_iff_iff]; simp
  have fin : ∀ (v : Value), (binOp op t (.int k a) (.int k b)).run P w = .ok v w → RepG ρ v g →
      ∃ v, (do eqGuard op t xo yo (.int k a) (.int k b); binOp op t (.int k a) (.int k b) : Sem Value).run P w = .ok v w ∧ RepG ρ v g :=
    fun v h1 h2 => ⟨v, zj5 (by simp) (by simp) h1, h2⟩
  cases op <;> simp only [ibin, Option.some.injEq, reduceCtorEq] at h
  case quo =>
    split at h <;> simp only [Option.some.injEq, reduceCtorEq] at h
    rename_i hz
    rw [zc5] at hz
    have hb : b ≠ 0 := by simpa using hz
    subst h
    exact fin (.int k (k.wrap (a.tdiv b))) (by simp [binOp, Op.intDiv, hb]) (by rw [zlu]; exact .int _ _)
  case rem =>
    split at h <;> simp only [Option.some.injEq, reduceCtorEq] at h
    rename_i hz
    rw [zc5] at hz
    have hb : b ≠ 0 := by simpa using hz
    subst h
    exact fin (.int k (a.tmod b)) (by simp [binOp, Op.intDiv, hb]) (.int _ _)
  all_goals
    subst h
    simp only [zc5, zqu, zlu, hle] at fin ⊢
  case add => exact fin _ (by simp [binOp, Op.intArith]) (.int _ _)
  case sub => exact fin _ (by simp [binOp, Op.intArith]) (.int _ _)
  case mul => exact fin _ (by simp [binOp, Op.intArith]) (.int _ _)
  case eql => exact fin (.bool (a == b)) (by simp [binOp, Op.intCmp]) (.bool _)
  case neq => exact fin (.bool (!(a == b))) (by simp [binOp, Op.intCmp, bne]) (.bool _)
  case lss => exact fin (.bool (decide (a < b))) (by simp [binOp, Op.intCmp]) (.bool _)
  case leq => exact fin (.bool (decide (a ≤ b))) (by simp [binOp, Op.intCmp]) (.bool _)
  case gtr => exact fin (.bool (decide (b < a))) (by simp [binOp, Op.intCmp]) (.bool _)
  case geq => exact fin (.bool (decide (b ≤ a))) (by simp [binOp, Op.intCmp]) (.bool _)
theorem yid {op : BinOp} {s s' : ByteArray} {g : G} (t : TypeId) (xo yo : Operand) (h : sbin op s.size (pk s.data.toList) s'.size (pk s'.data.toList) = some g) :
    ∃ v, (do eqGuard op t xo yo (.string s) (.string s'); binOp op t (.string s) (.string s') : Sem Value).run P w = .ok v w ∧ RepG ρ v g := by
  have fin : ∀ (v : Value), (binOp op t (.string s) (.string s')).run P w = .ok v w → RepG ρ v g →
      ∃ v, (do eqGuard op t xo yo (.string s) (.string s'); binOp op t (.string s) (.string s') : Sem Value).run P w = .ok v w ∧ RepG ρ v g :=
    fun v h1 h2 => ⟨v, zj5 (by simp) (by simp) h1, h2⟩
  cases op <;> simp only [sbin, Option.some.injEq, reduceCtorEq] at h
  case add =>
    split at h <;> simp only [Option.some.injEq, reduceCtorEq] at h
    rename_i hl
    rw [Nat.ble_eq] at hl
    subst h
    have hl : s.size + s'.size ≤ 9223372036854775807 := hl
    refine fin (.string (s ++ s')) ?_ ?_
    · have : ¬ ((s.size + s'.size : Nat) : Int) > IntKind.i64.max := by
        simp only [IntKind.max]
        simp [IntKind.signed, IntKind.bits]
        omega
      simp only [binOp, Op.stringOp, this, if_false, Sem.run_pure]
    · refine .str _ _ _ (by simp) ?_
      have : (s ++ s').data.toList = s.data.toList ++ s'.data.toList := by simp [ByteArray.data_append]
      rw [this, zmw, zbg]
      rfl
  case eql =>
    subst h
    refine fin (.bool (s.data.toList == s'.data.toList)) ?_ ?_
    · simp only [binOp, Op.stringOp, ByteArray.toList_eq, Sem.run_pure]
    · rw [zwa]; exact .bool _
  case neq =>
    subst h
    refine fin (.bool (!(s.data.toList == s'.data.toList))) ?_ ?_
    · simp only [binOp, Op.stringOp, ByteArray.toList_eq, Sem.run_pure]
    · rw [zwa]; exact .bool _
theorem zti (n : Nat) {t e : TypeId} (hu : P.underlying t = some (.pointer e)) (a : Addr) : (Op.equalIn (n + 1) t (.pointer (some a)) (.pointer none)).run P w = .ok false w := by simp [Op.equalIn, run_underlying hu]
theorem ztj (n : Nat) {t e : TypeId} (hu : P.underlying t = some (.pointer e)) (a : Addr) : (Op.equalIn (n + 1) t (.pointer none) (.pointer (some a))).run P w = .ok false w := by simp [Op.equalIn, run_underlying hu]
theorem ztk (n : Nat) {t e : TypeId} (hu : P.underlying t = some (.pointer e)) : (Op.equalIn (n + 1) t (.pointer none) (.pointer none)).run P w = .ok true w := by simp [Op.equalIn, run_underlying hu]
theorem zvj (n : Nat) {t : TypeId} {ms : Array (String × TypeId)} (hu : P.underlying t = some (.interface ms)) (u : TypeId) (v : Value) : (Op.equalIn (n + 1) t (.iface u v) .nilIface).run P w = .ok false w := by simp [Op.equalIn, run_underlying hu]
theorem zvi (n : Nat) {t : TypeId} {ms : Array (String × TypeId)} (hu : P.underlying t = some (.interface ms)) (u : TypeId) (v : Value) : (Op.equalIn (n + 1) t .nilIface (.iface u v)).run P w = .ok false w := by simp [Op.equalIn, run_underlying hu]
theorem zzn (n : Nat) {t : TypeId} {ms : Array (String × TypeId)} (hu : P.underlying t = some (.interface ms)) : (Op.equalIn (n + 1) t .nilIface .nilIface).run P w = .ok true w := by simp [Op.equalIn, run_underlying hu]
theorem znu (n : Nat) {t e : TypeId} (hu : P.underlying t = some (.slice e)) (a : Addr) (l c : Nat) : (Op.equalIn (n + 1) t (.slice (some a) l c) (.slice none 0 0)).run P w = .ok false w := by simp [Op.equalIn, run_underlying hu]
theorem zvh (n : Nat) {t e : TypeId} (hu : P.underlying t = some (.slice e)) : (Op.equalIn (n + 1) t (.slice none 0 0) (.slice none 0 0)).run P w = .ok true w := by simp [Op.equalIn, run_underlying hu]
theorem yfk {x y : G} {b : Bool} {t : TypeId} {ti : TyI} {vx vy : Value} (xo yo : Operand) (hx : RepG ρ vx x) (hy : RepG ρ vy y) (h : yfl x y = some b) (hs : yfj x ti.sh = true) (ht : zfm P t ti.sh) :
    (do eqGuard .eql t xo yo vx vy; binOp .eql t vx vy : Sem Value).run P w = .ok (.bool b) w ∧ (do eqGuard .neq t xo yo vx vy; binOp .neq t vx vy : Sem Value).run P w = .ok (.bool !b) w := by
  have fin : ∀ (hne1 : ∀ cs, vx ≠ .agg cs) (hne2 : vx ≠ .nilIface ∨ ∃ t v, vy = .iface t v), (binOp .eql t vx vy = do pure (.bool (← Op.equal t vx vy))) → (binOp .neq t vx vy = do pure (.bool (!(← Op.equal t vx vy)))) →
      (Op.equal t vx vy).run P w = .ok b w →
      (do eqGuard .eql t xo yo vx vy; binOp .eql t vx vy : Sem Value).run P w = .ok (.bool b) w ∧ (do eqGuard .neq t xo yo vx vy; binOp .neq t vx vy : Sem Value).run P w = .ok (.bool !b) w := by
    intro h1 h2 h4 h5 h3
    have hg : ∀ op, (eqGuard op t xo yo vx vy).run P w = .ok () w := by
      intro op
      rcases h2 with h2 | ⟨t', v, rfl⟩
      · exact Hk.eqGuard_ok op t xo yo vx vy h1 h2
      · by_cases hn : vx = .nilIface
        · subst hn
          unfold eqGuard
          cases op <;> simp
        · exact Hk.eqGuard_ok op t xo yo vx _ h1 hn
    simp only [Sem.run_bind, hg, Result.andThen_ok, h4, h5, h3, Sem.run_pure, and_self]
  unfold yfl at h
  split at h <;> simp only [Option.some.injEq, reduceCtorEq] at h <;> subst h
  all_goals
    cases hx <;> cases hy <;> cases hsh : ti.sh <;> rw [hsh] at hs ht <;> simp only [yfj, reduceCtorEq] at hs
  all_goals
    refine fin (by simp) (by simp) rfl rfl ?_
  · exact zti 9999 ht _
  · exact ztj 9999 ht _
  · exact ztk 9999 ht
  · obtain ⟨ms, hu⟩ := ht; exact zvj 9999 hu _ _
  · obtain ⟨ms, hu⟩ := ht; exact zvi 9999 hu _ _
  · exact znu 9999 ht _ _ _
  · exact znu 9999 ht _ _ _
  · exact zvh 9999 ht
theorem zxo (htt : TTok P tt) {op : BinOp} {t : TypeId} {xo yo : Operand} {x y g : G} {vx vy : Value} (hx : RepG ρ vx x) (hy : RepG ρ vy y) (h : ygh tt op t x y = some g) :
    ∃ v, (do eqGuard op t xo yo vx vy; binOp op t vx vy : Sem Value).run P w = .ok v w ∧ RepG ρ v g := by
  unfold ygh at h
  cases hn : yfl x y with
  | none => rw [hn] at h; cases h
  | some b =>
    rw [hn] at h
    cases hl : lk tt t with
    | none => rw [hl] at h; cases h
    | some ti =>
      rw [hl] at h
      simp only at h
      cases hs : yfj x ti.sh with
      | false => rw [hs] at h; cases h
      | true =>
        rw [hs] at h
        have := yfk (P := P) (w := w) xo yo hx hy hn hs (htt t _ hl).sh
        cases op <;> simp only [Option.some.injEq, reduceCtorEq] at h <;> subst h
        · exact ⟨_, this.1, .bool _⟩
        · exact ⟨_, this.2, .bool _⟩
theorem ygi (htt : TTok P tt) {op : BinOp} {t : TypeId} {xo yo : Operand} {x y g : G} {vx vy : Value} (hx : RepG ρ vx x) (hy : RepG ρ vy y) (h : yi8 tt op t yo x y = some g) :
    ∃ v, (do eqGuard op t xo yo vx vy; binOp op t vx vy : Sem Value).run P w = .ok v w ∧ RepG ρ v g := by
  unfold yi8 at h
  split at h
  · split at h
    · split at h
      · rename_i hk
        have : _ = _ := of_decide_eq_true hk
        subst this
        obtain rfl := hx.intInv
        obtain rfl := hy.intInv
        exact yiv t xo yo h
      · cases h
    · cases h
  · split at h
    · obtain ⟨s, rfl, rfl, rfl⟩ := hx.strInv
      obtain ⟨s', rfl, rfl, rfl⟩ := hy.strInv
      exact yid t xo yo h
    · cases h
  · split at h
    · rename_i p _ q
      obtain rfl := hx.boolInv
      obtain rfl := hy.boolInv
      split at h
      · rename_i hl
        have hs : P.underlying t = some .bool := (htt t _ hl).sh
        cases op <;> simp only [Option.some.injEq, reduceCtorEq] at h <;> subst h
        · exact ⟨_, zj5 (by simp) (by simp) (run_eql_bool w t p q hs), .bool _⟩
        · exact ⟨_, zj5 (by simp) (by simp) (run_neq_bool w t p q hs), .bool _⟩
      · cases h
    · cases h
  · split at h
    · cases hx
      cases hy
      split at h
      · rename_i hl
        obtain ⟨ms, hu⟩ : ∃ ms, P.underlying t = some (.interface ms) := (htt t _ hl).sh
        have he : (Op.equal t .nilIface .nilIface).run P w = .ok true w := zzn 9999 hu
        cases op <;> simp only [Option.some.injEq, reduceCtorEq] at h <;> subst h
        · refine ⟨.bool true, ?_, .bool _⟩
          simp [eqGuard, binOp, he]
        · refine ⟨.bool false, ?_, .bool _⟩
          simp [eqGuard, binOp, he]
      · cases h
    · exact zxo htt hx hy h
  · exact zxo htt hx hy h
end
end Go.Gx
namespace Go.Gx
open Go.Hk (TT TTok TyI Sh lk TyOk zfm nth za7)
def zOf : Hk.D → Option G
  | .imm (.bool b) => some (.bool b)
  | .imm (.int k n) => some (.int k n)
  | .imm (.str []) => some (.str 0 0)
  | .imm .nilp => some .nilp
  | .imm .nilmap => some .nilm
  | .imm .nilfn => some .nilf
  | .imm .niliface => some .nili
  | .nils => some .nils
  | _ => none
def zt2 : List Hk.D → Option (List G)
  | [] => some []
  | d :: r => match zOf d, zt2 r with
    | some g, some gs => some (g :: gs)
    | _, _ => none
def zOkB (P : Program) : TT → Bool
  | [] => true
  | (t, i) :: r => (match P.info? t with
    | some inf => match inf.zero with
      | some (.agg _) => i.agg
      | some z => !i.agg && z.oneCell'
      | none => false
    | none => false) && zOkB P r
def TTz (P : Program) (tt : TT) : Prop := ∀ t i, lk tt t = some i → ∃ inf z, P.info? t = some inf ∧ inf.zero = some z ∧ (i.agg = true → ∃ cs, z = .agg cs) ∧ (i.agg = false → z.oneCell' = true)
theorem zz7 {P : Program} : ∀ {tt : TT}, zOkB P tt = true → TTz P tt
  | [], _, t, i, h => by simp [lk] at h
  | (x, j) :: r, hz, t, i, h => by
    simp only [zOkB, Bool.and_eq_true] at hz
    by_cases hx : x = t
    · subst hx
      rw [Hk.lk_cons_self] at h; cases h
      obtain ⟨h1, _⟩ := hz
      split at h1
      · rename_i inf hinf
        split at h1
        · rename_i cs hc
          exact ⟨inf, _, hinf, hc, fun _ => ⟨cs, rfl⟩, fun hf => (by rw [h1] at hf; cases hf)⟩
        · rename_i z hn hz'
          simp only [Bool.and_eq_true, Bool.not_eq_true'] at h1
          exact ⟨inf, z, hinf, hz', fun ht => (by rw [h1.1] at ht; cases ht), fun _ => h1.2⟩
        · cases h1
      · cases h1
    · rw [Hk.lk_cons_ne _ _ hx] at h
      exact zz7 hz.2 t i h
section
variable {P : Program} {w : World} {tt : TT} {ρ : Rho}
theorem yh4 {d : Hk.D} {g : G} {v : Value} (h : zOf d = some g) (hr : Hk.RepD (fun _ => none) (fun _ => none) v d) : RepG ρ v g := by
  unfold zOf at h
  split at h <;> simp only [Option.some.injEq, reduceCtorEq] at h <;> subst h
  · have := hr.immInv; cases this; exact .bool _
  · have := hr.immInv; cases this; exact .int _ _
  · have := hr.immInv
    cases this with
    | str s l hs =>
      refine .str _ _ _ ?_ (by rw [hs]; rfl)
      rw [← zbg, hs]; rfl
  · have := hr.immInv; cases this; exact .nilp
  · have := hr.immInv; cases this; exact .nilm
  · have := hr.immInv; cases this; exact .nilf
  · have := hr.immInv; cases this; exact .nili
  · cases hr; exact .nils
theorem zdo : ∀ {ds : List Hk.D} {gs : List G} {vs : List Value}, zt2 ds = some gs → Hk.RepL (fun _ => none) (fun _ => none) vs ds → RepGs ρ vs gs
  | [], gs, vs, h, hr => by
    cases h
    have : vs = [] := List.eq_nil_of_length_eq_zero hr.1
    subst this
    exact .nil
  | d :: r, gs, [], h, hr => by simp [Hk.RepL] at hr
  | d :: r, gs, v :: vs, h, hr => by
    simp only [zt2] at h
    split at h
    · rename_i g gs' h1 h2
      cases h
      exact .mk (yh4 h1 hr.cons.1) (zdo h2 hr.cons.2)
    · cases h
def yef (i : TyI) : Option G := match zt2 i.zero with
  | some gs => match i.agg with
    | true => some (.agg gs)
    | false => match gs with
      | [g] => some g
      | _ => none
  | none => none
theorem yee (htt : TTok P tt) (hz : TTz P tt) {t : TypeId} {i : TyI} {g : G} (hl : lk tt t = some i) (h : yef i = some g) :
    ∃ v, (zeroValue t).run P w = .ok v w ∧ RepG ρ v g ∧ ∃ gs, zt2 i.zero = some gs ∧ RepGs ρ v.cells.toList gs ∧ (∀ u ∈ v.cells.toList, u.oneCell' = true) ∧ v.cells.size = gs.length := by
  obtain ⟨inf, z, h1, _, _, h4, h5, h6⟩ := (htt t i hl).info
  obtain ⟨inf', z', k1, k2, k3, k4⟩ := hz t i hl
  rw [h1] at k1; cases k1
  rw [h4] at k2; cases k2
  have hrun : (zeroValue t).run P w = .ok z w := by simp [zeroValue, typeInfo, h1, h4]
  unfold yef at h
  split at h
  · rename_i gs hgs
    have hr := zdo (ρ := ρ) hgs (h5 _ _)
    refine ⟨z, hrun, ?_, gs, hgs, hr, h6, by have := hr.1; simpa using this⟩
    cases ha : i.agg with
    | true =>
      rw [ha] at h; cases h
      obtain ⟨cs, rfl⟩ := k3 ha
      exact .agg _ _ (by have := hr.1; simpa [Value.cells] using this) h6 (fun i v g a b => hr.2 i v g (by simpa [Value.cells] using a) b)
    | false =>
      rw [ha] at h
      have hc := Hk.cells_one (k4 ha)
      rw [hc] at hr
      match gs, h, hr with
      | [g'], h, hr => cases h; exact hr.2 0 _ _ rfl rfl
  · cases h
noncomputable def ldG (i : TyI) (l : List G) (off : Nat) : Option G := match i.agg with
  | true => match yhr l off i.size with
    | some r => some (.agg r)
    | none => none
  | false => yi0 l off
theorem zn6 {r : Nat} {vs : Array Value} {t : TypeId} {fr : Nat × Nat} (h : w.heap[r]? = some (.cells vs t fr)) (j : Nat) (v : Value) (hv : vs.toList[j]? = some v) : w.cell? ⟨r, j, none⟩ = some v :=
  Hk.cell_of_heap h j v hv
theorem zrq {vs : List Value} {gs : List G} (h : RepGs ρ vs gs) (h1 : ∀ v ∈ vs, v.oneCell' = true) : RepG ρ (.agg vs.toArray) (.agg gs) :=
  .agg _ _ (by simpa using h.1) (by simpa using h1) (fun i v g a b => h.2 i v g (by simpa using a) b)
theorem yhp {t : TypeId} {i : TyI} (hi : TyOk P t i) {r off : Nat} {l : List G} {g : G} {vs : Array Value} {bt : TypeId} (hh : w.heap[r]? = some (.cells vs bt (0, 0))) (hl : l.length ≤ vs.size)
    (hr : RepGs ρ (vs.toList.take l.length) l) (h1 : ∀ v ∈ vs.toList.take l.length, v.oneCell' = true) (h : ldG i l off = some g) :
    ∃ v, (Instr.loadAt t (.pointer (some ⟨r, off, none⟩))).run P w = .ok v w ∧ RepG ρ v g := by
  unfold ldG at h
  have hget : ∀ j, j < l.length → ∃ v, vs.toList[j]? = some v ∧ (vs.toList.take l.length)[j]? = some v := fun j hj => by
    have hlt : j < vs.toList.length := by simp; omega
    exact ⟨_, List.getElem?_eq_getElem hlt, by rw [List.getElem?_take, if_pos hj]; exact List.getElem?_eq_getElem hlt⟩
  cases ha : i.agg with
  | true =>
    rw [ha] at h
    cases hs : yhr l off i.size with
    | none => rw [hs] at h; cases h
    | some q =>
      rw [hs] at h; cases h
      obtain ⟨e, hle⟩ := zqz hs
      have hrun := Hk.loadAt_ok (P := P) (w := w) hi r off (fun j => vs.toList.getD (off + j) Go.undef) (fun j hj => by
        obtain ⟨v, hv, _⟩ := hget (off + j) (by omega)
        rw [zn6 hh _ v hv]
        simp only [List.getD, hv, Option.getD_some]) (fun hf => by rw [ha] at hf; cases hf)
      rw [if_pos ha] at hrun
      refine ⟨_, hrun, ?_⟩
      have e2 : (List.range i.size).map (fun j => vs.toList.getD (off + j) Go.undef) = ((vs.toList.take l.length).drop off).take i.size := by
        apply List.ext_getElem?
        intro j
        by_cases hj : j < i.size
        · obtain ⟨v, hv, hv2⟩ := hget (off + j) (by omega)
          rw [List.getElem?_take, if_pos hj, List.getElem?_drop, hv2, List.getElem?_map, List.getElem?_range hj]
          simp only [Option.map_some, List.getD, hv, Option.getD_some]
        · rw [List.getElem?_eq_none (by simp; omega), List.getElem?_eq_none (by simp; omega)]
      rw [e2, e]
      exact zrq ((hr.drop off).take _) (fun v hv => h1 v (List.mem_of_mem_drop (List.mem_of_mem_take hv)))
  | false =>
    rw [ha] at h
    have h : yi0 l off = some g := h
    rw [zq1] at h
    have hlt := (List.getElem?_eq_some_iff.1 h).1
    obtain ⟨v, hv, hv2⟩ := hget off hlt
    refine ⟨v, ?_, hr.2 off v g hv2 h⟩
    simp only [Instr.loadAt, Instr.sureAddr, Sem.run_bind, Sem.run_pure, Result.andThen_ok, loadVar, hi.isAgg w, ha]
    simp [run_load, zn6 hh _ v hv]
theorem zwu {t : TypeId} {i : TyI} (hi : TyOk P t i) {vs : Array Value} {l : List G} {off : Nat} {g : G} (h1 : ∀ v ∈ vs.toList, v.oneCell' = true) (hr : RepGs ρ vs.toList l) (h : ldG i l off = some g) :
    ∃ v, (Go.part t vs off).run P w = .ok v w ∧ RepG ρ v g := by
  have hlen := hr.1
  unfold ldG at h
  cases ha : i.agg with
  | true =>
    rw [ha] at h
    cases hs : yhr l off i.size with
    | none => rw [hs] at h; cases h
    | some q =>
      rw [hs] at h; cases h
      obtain ⟨e, hle⟩ := zqz hs
      obtain ⟨v, hv, he⟩ := Hk.part_ok (P := P) (w := w) hi (vs := vs) (off := off) (fun hf => by rw [ha] at hf; cases hf)
      refine ⟨v, hv, ?_⟩
      rw [he, if_pos ha, e]
      have e2 : vs.extract off (off + i.size) = ((vs.toList.drop off).take i.size).toArray := by
        apply Array.ext'
        simp [List.extract_eq_take_drop]
      rw [e2]
      exact zrq ((hr.drop off).take _) (fun v hv => h1 v (List.mem_of_mem_drop (List.mem_of_mem_take hv)))
  | false =>
    rw [ha] at h
    have h : yi0 l off = some g := h
    rw [zq1] at h
    have hlt := (List.getElem?_eq_some_iff.1 h).1
    have hv : vs.toList[off]? = some (vs.toList[off]'(by omega)) := List.getElem?_eq_getElem (by omega)
    have hv' : vs[off]? = some (vs.toList[off]'(by omega)) := by rw [← Array.getElem?_toList]; exact hv
    obtain ⟨v, hv2, he⟩ := Hk.part_ok (P := P) (w := w) hi (vs := vs) (off := off) (fun _ => ⟨_, hv'⟩)
    refine ⟨v, hv2, ?_⟩
    rw [he, ha, hv']
    exact hr.2 _ _ _ hv h
theorem RepG.aggInv {v : Value} {l : List G} (h : RepG ρ v (.agg l)) : ∃ cs : Array Value, v = .agg cs ∧ RepGs ρ cs.toList l ∧ ∀ c ∈ cs.toList, c.oneCell' = true := by
  cases h with
  | agg cs _ hl h1 h => exact ⟨cs, rfl, ⟨by simpa using hl, fun i v g a b => h i v g (by simpa using a) b⟩, h1⟩
theorem RepG.tupInv {v : Value} {l : List G} (h : RepG ρ v (.tup l)) : ∃ cs : Array Value, v = .tuple cs ∧ RepGs ρ cs.toList l := by
  cases h with
  | tup cs _ hl h => exact ⟨cs, rfl, ⟨by simpa using hl, fun i v g a b => h i v g (by simpa using a) b⟩⟩
theorem RepG.ptrInv {v : Value} {b o : Nat} (h : RepG ρ v (.ptr b o)) : ∃ r z, v = .pointer (some ⟨r, o, none⟩) ∧ ρ b = some (r, z) := by
  cases h with | ptr _ r z _ h => exact ⟨r, z, rfl, h⟩
theorem zfo {vs : List Value} {gs : List G} (h : RepGs ρ vs gs) : RepG ρ (.tuple vs.toArray) (.tup gs) :=
  .tup _ _ (by simpa using h.1) (fun i v g a b => h.2 i v g (by simpa using a) b)
def zjr : G → Option (List G)
  | .agg l => some l
  | .undef => none
  | .tup _ => none
  | g => some [g]
theorem zfj {g : G} {l : List G} {v : Value} (h : zjr g = some l) (hr : RepG ρ v g) : RepGs ρ v.cells.toList l ∧ ∀ u ∈ v.cells.toList, u.oneCell' = true := by
  have one : g.one = true → l = [g] → RepGs ρ v.cells.toList l ∧ ∀ u ∈ v.cells.toList, u.oneCell' = true := by
    rintro h1 rfl
    have hv := hr.one h1
    rw [Hk.cells_one hv]
    exact ⟨.mk hr .nil, by simpa using hv⟩
  cases g <;> simp only [zjr, Option.some.injEq, reduceCtorEq] at h <;> first
    | exact one rfl h.symm
    | (subst h; obtain ⟨cs, rfl, h1, h2⟩ := hr.aggInv; exact ⟨h1, h2⟩)
noncomputable def zgi (tt : TT) (fs : List (Nat × TypeId)) (s : S) : List (Nat × Operand) → List G → Option (List G)
  | [], z => some z
  | (i, x) :: r, z => match nth fs i with
    | some (off, ft) => match lk tt ft, zjr (evA x s) with
      | some ti, some cs => match Nat.beq cs.length ti.size with
        | true => match zf6 z off cs with
          | some z' => zgi tt fs s r z'
          | none => none
        | false => none
      | _, _ => none
    | none => none
theorem zx8 {vs us : List Value} {gs hs qs : List G} {o : Nat} (h : RepGs ρ vs gs) (k : RepGs ρ us hs) (hq : zf6 gs o hs = some qs) :
    RepGs ρ (vs.take o ++ us ++ vs.drop (o + us.length)) qs ∧ o + us.length ≤ vs.length := by
  obtain ⟨e, hle⟩ := zkj hq
  rw [e, ← k.1]
  refine ⟨((h.take o).append k).append (h.drop _), by rw [h.1, k.1]; exact hle⟩
theorem zva {place : Nat → Option (Nat × Nat)} {fs : List (Nat × TypeId)} {s : S} {a : Act} (hs : SRep ρ s a.tmps) (htt : TTok P tt)
    (hp : ∀ i off ft ti, nth fs i = some (off, ft) → lk tt ft = some ti → place i = some (off, ti.size)) :
    ∀ (parts : List (Nat × Operand)) (z q : List G) (vs : List Value), zgi tt fs s parts z = some q → RepGs ρ vs z → (∀ v ∈ vs, v.oneCell' = true) →
      ∃ us : List Value, Instr.fill place vs.toArray (parts.map fun p => (p.1, a.eval p.2)) = some us.toArray ∧ RepGs ρ us q ∧ ∀ v ∈ us, v.oneCell' = true
  | [], z, q, vs, h, hz, h1 => by cases h; exact ⟨vs, rfl, hz, h1⟩
  | (i, x) :: r, z, q, vs, h, hz, h1 => by
    simp only [zgi] at h
    split at h
    · rename_i off ft hn
      split at h
      · rename_i ti cs hl hc
        split at h
        · rename_i hb
          split at h
          · rename_i z' hsp
            have hb := Nat.eq_of_beq_eq_true hb
            obtain ⟨c1, c2⟩ := zfj hc (zap hs x)
            have hlen := c1.1
            obtain ⟨s1, s2⟩ := zx8 hz c1 hsp
            have hstep : (a.eval x).cells.zipIdx.foldl (fun cs (p : Value × Nat) => cs.setIfInBounds (off + p.2) p.1) vs.toArray = (vs.take off ++ (a.eval x).cells.toList ++ vs.drop (off + (a.eval x).cells.toList.length)).toArray := by
              apply Array.ext'
              rw [← Array.foldl_toList, Array.toList_zipIdx]
              have := Hk.foldl_set off (a.eval x).cells.toList 0 vs.toArray (by simpa using s2)
              simp only [Nat.add_zero] at this
              rw [this]
            obtain ⟨us, u1, u2, u3⟩ := zva hs htt hp r z' q _ h s1 (fun v hv => by
              rcases List.mem_append.1 hv with hv | hv
              · rcases List.mem_append.1 hv with hv | hv
                · exact h1 v (List.mem_of_mem_take hv)
                · exact c2 v hv
              · exact h1 v (List.mem_of_mem_drop hv))
            refine ⟨us, ?_, u2, u3⟩
            rw [List.map_cons]
            unfold Instr.fill
            simp only [hp i off ft ti hn hl]
            have hsz : (a.eval x).cells.size = ti.size := by rw [← hb, ← hlen]; simp
            have hle : off + (a.eval x).cells.size ≤ vs.length := by simpa using s2
            rw [if_neg (by simp [hsz]; omega), hstep]
            exact u1
          · cases h
        · cases h
      · cases h
    · cases h
end
end Go.Gx
namespace Go.Gx
open Go.Hk (TT TTok TyI Sh lk TyOk zfm nth za7)
def zdd (x y : G) : Option Bool := match x with
  | .int k a => match y with
    | .int k' b => match kEq k k' with
      | true => some (zqw a b)
      | false => none
    | _ => none
  | .str la a => match y with
    | .str lb b => some (Nat.beq la lb && Nat.beq a b)
    | _ => none
  | .bool a => match y with
    | .bool b => some (a == b)
    | _ => none
  | _ => none
def zcr (x : G) (sh : Sh) : Bool := match x, sh with
  | .int .., .int _ => true
  | .str .., .str => true
  | .bool .., .bool => true
  | _, _ => false
theorem zht {x y : G} (h : zdd x y = some true) : x = y := by
  cases x <;> simp only [zdd, reduceCtorEq] at h <;> cases y <;> simp only [Option.some.injEq, reduceCtorEq] at h
  · simp only [beq_iff_eq] at h; rw [h]
  · rename_i k a k' b
    cases hk : kEq k k' with
    | false => rw [hk] at h; cases h
    | true =>
      rw [hk] at h
      have hkk : k = k' := of_decide_eq_true hk
      simp only [Option.some.injEq, zc5, beq_iff_eq] at h
      rw [hkk, h]
  · simp only [Bool.and_eq_true, Nat.beq_eq] at h
    rw [h.1, h.2]
def zei (k : G) : List (G × G) → Option (Option G)
  | [] => some none
  | (k', v) :: r => match zdd k k' with
    | none => none
    | some true => match zei k r with
      | none => none
      | some _ => some (some v)
    | some false => zei k r
section
variable {P : Program} {w : World} {tt : TT} {ρ : Rho}
def descOf (sh : Sh) (d : TypeDesc) : Prop := match sh with
  | .int k => d = .int k
  | .str => d = .string
  | .bool => d = .bool
  | _ => True
theorem zkb {x y : G} {vx vy : Value} {b : Bool} {d : TypeDesc} {sh : Sh} (hx : RepG ρ vx x) (hy : RepG ρ vy y) (h : zdd x y = some b) (hs : zcr x sh = true)
    (hd : descOf sh d) : Instr.sameNow d vx vy = some b := by
  cases x <;> simp only [zdd, reduceCtorEq] at h <;> cases y <;> simp only [Option.some.injEq, reduceCtorEq] at h
  · cases hx; cases hy
    cases sh <;> simp only [zcr, reduceCtorEq] at hs
    have hd : d = _ := hd
    subst hd
    simp [Instr.sameNow, ← h]
  · rename_i k a k' b'
    cases hk : kEq k k' with
    | false => rw [hk] at h; cases h
    | true =>
      rw [hk] at h
      have hkk : k = k' := of_decide_eq_true hk
      subst hkk
      cases hx; cases hy
      cases sh <;> simp only [zcr, reduceCtorEq] at hs
      have hd : d = _ := hd
      subst hd
      simp only [Option.some.injEq, zc5] at h
      simp [Instr.sameNow, ← h]
  · obtain ⟨s, rfl, rfl, rfl⟩ := hx.strInv
    obtain ⟨s', rfl, rfl, rfl⟩ := hy.strInv
    cases sh <;> simp only [zcr, reduceCtorEq] at hs
    have hd : d = _ := hd
    subst hd
    rw [zwa] at h
    simp only [Instr.sameNow, beq_toListBytes, ByteArray.toList_eq, h]
theorem zlf {d : TypeDesc} {k : Value} : ∀ (es : List MapEntry) (i : Nat), (∀ e ∈ es, ∃ b, Instr.sameNow d k e.key = some b) →
    (Instr.findNow d k es i = some none ∧ ∀ e ∈ es, Instr.sameNow d k e.key = some false) ∨
    ∃ j e, Instr.findNow d k es i = some (some (i + j, e.val)) ∧ es[j]? = some e ∧ Instr.sameNow d k e.key = some true
  | [], i, _ => .inl ⟨rfl, by simp⟩
  | e :: es, i, h => by
    obtain ⟨b, hb⟩ := h e (by simp)
    cases b with
    | true => exact .inr ⟨0, e, by simp [Instr.findNow, hb], rfl, hb⟩
    | false =>
      rcases zlf es (i + 1) (fun e' he' => h e' (by simp [he'])) with ⟨h1, h2⟩ | ⟨j, e', h1, h2, h3⟩
      · exact .inl ⟨by simp [Instr.findNow, hb, h1], fun e' he' => (List.mem_cons.1 he').elim (fun q => q ▸ hb) (h2 e')⟩
      · refine .inr ⟨j + 1, e', ?_, by simpa using h2, h3⟩
        simp only [Instr.findNow, hb, h1]
        rw [show i + 1 + j = i + (j + 1) by omega]
theorem zd5 {k : G} : ∀ {kv : List (G × G)} {r : Option G}, zei k kv = some r → ∀ p ∈ kv, ∃ b, zdd k p.1 = some b
  | [], _, _, p, hp => by simp at hp
  | (k', v) :: kv, r, h, p, hp => by
    simp only [zei] at h
    cases hk : zdd k k' with
    | none => rw [hk] at h; cases h
    | some b =>
      rcases List.mem_cons.1 hp with rfl | hp
      · exact ⟨b, hk⟩
      · rw [hk] at h
        cases b with
        | false => exact zd5 h p hp
        | true =>
          simp only at h
          cases hr : zei k kv with
          | none => rw [hr] at h; cases h
          | some r' => exact zd5 hr p hp
theorem ziu {k : G} : ∀ {kv : List (G × G)}, zei k kv = some none → ∀ p ∈ kv, zdd k p.1 = some false
  | [], _, p, hp => by simp at hp
  | (k', v) :: kv, h, p, hp => by
    simp only [zei] at h
    cases hk : zdd k k' with
    | none => rw [hk] at h; cases h
    | some b =>
      rw [hk] at h
      cases b with
      | true =>
        simp only at h
        cases hr : zei k kv with
        | none => rw [hr] at h; cases h
        | some r' => rw [hr] at h; cases h
      | false =>
        rcases List.mem_cons.1 hp with rfl | hp
        · exact hk
        · exact ziu h p hp
theorem zeh {k v : G} : ∀ {kv : List (G × G)}, zei k kv = some (some v) → (k, v) ∈ kv
  | [], h => by cases h
  | (k', v') :: kv, h => by
    simp only [zei] at h
    cases hk : zdd k k' with
    | none => rw [hk] at h; cases h
    | some b =>
      rw [hk] at h
      cases b with
      | true =>
        simp only at h
        cases hr : zei k kv with
        | none => rw [hr] at h; cases h
        | some r' =>
          rw [hr] at h; cases h
          rw [zht hk]; simp
      | false => exact List.mem_cons_of_mem _ (zeh h)
theorem zst {k v v' : G} : ∀ {kv : List (G × G)}, (kv.map (·.1)).Nodup → (k, v) ∈ kv → (k, v') ∈ kv → v = v'
  | [], _, h, _ => by simp at h
  | (a, b) :: kv, hn, h, h' => by
    simp only [List.map_cons, List.nodup_cons] at hn
    rcases List.mem_cons.1 h with e | e <;> rcases List.mem_cons.1 h' with e' | e'
    · cases e; cases e'; rfl
    · cases e; exact absurd (List.mem_map.2 ⟨_, e', rfl⟩) hn.1
    · cases e'; exact absurd (List.mem_map.2 ⟨_, e, rfl⟩) hn.1
    · exact zst hn.2 e e'
theorem KvRep.of_mem {es : List MapEntry} {kv : List (G × G)} (h : KvRep ρ es kv) {e : MapEntry} (he : e ∈ es) : ∃ p ∈ kv, RepG ρ e.key p.1 ∧ RepG ρ e.val p.2 := by
  obtain ⟨l, h1, h2, h3⟩ := h
  obtain ⟨i, hi⟩ := List.getElem?_of_mem (h1.mem_iff.2 he)
  have hlt : i < l.length := (List.getElem?_eq_some_iff.1 hi).1
  have hp : kv[i]? = some (kv[i]'(by omega)) := List.getElem?_eq_getElem (by omega)
  exact ⟨_, List.getElem_mem _, h3 i e _ hi hp⟩
theorem KvRep.of_mem' {es : List MapEntry} {kv : List (G × G)} (h : KvRep ρ es kv) {p : G × G} (hp : p ∈ kv) : ∃ e ∈ es, RepG ρ e.key p.1 ∧ RepG ρ e.val p.2 := by
  obtain ⟨l, h1, h2, h3⟩ := h
  obtain ⟨i, hi⟩ := List.getElem?_of_mem hp
  have hlt : i < kv.length := (List.getElem?_eq_some_iff.1 hi).1
  have he : l[i]? = some (l[i]'(by omega)) := List.getElem?_eq_getElem (by omega)
  exact ⟨_, h1.mem_iff.1 (List.getElem_mem _), h3 i _ p he hi⟩
theorem KvRep.length {es : List MapEntry} {kv : List (G × G)} (h : KvRep ρ es kv) : es.length = kv.length := by
  obtain ⟨l, h1, h2, _⟩ := h
  rw [← h2, h1.length_eq]
theorem zu9 {kt : TypeId} {ti : TyI} (hty : TyOk P kt ti) {k : G} {vk : Value} {es : List MapEntry} {kv : List (G × G)} {r : Option G} (hk : RepG ρ vk k) (hs : zcr k ti.sh = true) (hkv : KvRep ρ es kv) (hn : (kv.map (·.1)).Nodup)
    (h : zei k kv = some r) :
    (r = none ∧ (Instr.findKey kt vk es).run P w = .ok none w ∧ ∀ p ∈ kv, zdd k p.1 = some false) ∨
    ∃ g j e, r = some g ∧ (Instr.findKey kt vk es).run P w = .ok (some (j, e.val)) w ∧ es[j]? = some e ∧ RepG ρ e.key k ∧ RepG ρ e.val g ∧ (k, g) ∈ kv := by
  obtain ⟨d, hu, hd⟩ : ∃ d, P.underlying kt = some d ∧ descOf ti.sh d := by
    have := hty.sh
    cases hsh : ti.sh <;> rw [hsh] at hs this <;> cases k <;> simp only [zcr, reduceCtorEq] at hs
    all_goals exact ⟨_, this, rfl⟩
  have hsame : ∀ e ∈ es, ∀ p, RepG ρ e.key p → ∀ b, zdd k p = some b → Instr.sameNow d vk e.key = some b := fun e _ p hp b hb => zkb hk hp hb hs hd
  have hall : ∀ e ∈ es, ∃ b, Instr.sameNow d vk e.key = some b := fun e he => by
    obtain ⟨p, hp, h1, _⟩ := hkv.of_mem he
    obtain ⟨b, hb⟩ := zd5 h p hp
    exact ⟨b, hsame e he _ h1 b hb⟩
  have hrun : ∀ q, Instr.findNow d vk es 0 = some q → (Instr.findKey kt vk es).run P w = .ok q w := fun q hq => by
    simp [Instr.findKey, run_underlying hu, hq]
  rcases zlf es 0 hall with ⟨h1, h2⟩ | ⟨j, e, h1, h2, h3⟩
  · cases r with
    | none => exact .inl ⟨rfl, hrun _ h1, ziu h⟩
    | some g =>
      obtain ⟨e, he, q1, _⟩ := hkv.of_mem' (zeh h)
      have := hsame e he k q1 true (by
        obtain ⟨b, hb⟩ := zd5 h _ (zeh h)
        simp only at hb
        have : b = true := by
          cases k <;> simp only [zdd, reduceCtorEq] at hb <;> first
            | (rw [show (_ == _) = true from by simp] at hb; cases hb; rfl)
            | (simp [kEq, zc5] at hb; first | exact hb | exact hb.symm)
            | (simp at hb; first | exact hb | exact hb.symm)
        rw [hb, this])
      rw [h2 e he] at this; cases this
  · have he : e ∈ es := List.mem_of_getElem? h2
    obtain ⟨p, hp, q1, q2⟩ := hkv.of_mem he
    obtain ⟨b, hb⟩ := zd5 h p hp
    have hb' := hsame e he _ q1 b hb
    rw [h3] at hb'; cases hb'
    have hkp := zht hb
    cases r with
    | none => rw [ziu h p hp] at hb; cases hb
    | some g =>
      have hg : g = p.2 := zst hn (zeh h) (by rw [hkp]; exact hp)
      rw [Nat.zero_add] at h1
      exact .inr ⟨g, j, e, rfl, hrun _ h1, h2, by rw [hkp]; exact q1, by rw [hg]; exact q2, zeh h⟩
theorem zi0 {kt : TypeId} {ti : TyI} (hty : TyOk P kt ti) {k : G} (hs : zcr k ti.sh = true) (b : Bool) (n : Nat) (v : Value) : (Instr.checkKey b (n + 1) kt v).run P w = .ok () w := by
  have := hty.sh
  cases hsh : ti.sh <;> rw [hsh] at hs this <;> cases k <;> simp only [zcr, reduceCtorEq] at hs
  all_goals
    have hu : P.underlying kt = some _ := this
    simp [Instr.checkKey, run_underlying hu]
def yfa (ok : Bool) (v : G) (b : Bool) : G := match ok with
  | true => .tup [v, .bool b]
  | false => v
def zfn (ei : TyI) (ok : Bool) : Option G := match yef ei with
  | some z => some (yfa ok z false)
  | none => none
noncomputable def yft (tt : TT) (h : GH) (m k : G) (kt et : TypeId) (ok : Bool) : Option G := match lk tt kt, lk tt et with
  | some ki, some ei => match zcr k ki.sh with
    | true => match m with
      | .nilm => zfn ei ok
      | .map b => match h.get b with
        | .map _ kv => match zei k kv with
          | some (some v) => some (yfa ok v true)
          | some none => zfn ei ok
          | none => none
        | _ => none
      | _ => none
    | false => none
  | _, _ => none
theorem yej {v u : Value} {g k : G} (h : RepG ρ v g) (h' : RepG ρ u k) : RepG ρ (.tuple #[v, u]) (.tup [g, k]) := zfo (.mk h (.mk h' .nil))
theorem zm0 {v : Value} {g : G} {b : Bool} (h : RepG ρ v g) (ok : Bool) : RepG ρ (if ok then .tuple #[v, .bool b] else v) (yfa ok g b) := by
  cases ok with
  | true => exact yej h (.bool _)
  | false => exact h
theorem zif (htt : TTok P tt) (hz : TTz P tt) {t : TypeId} {i : TyI} {ok : Bool} {g : G} (hl : lk tt t = some i) (h : zfn i ok = some g) :
    ∃ v, (zeroValue t).run P w = .ok v w ∧ RepG ρ (if ok then .tuple #[v, .bool false] else v) g := by
  unfold zfn at h
  cases hz' : yef i with
  | none => rw [hz'] at h; cases h
  | some z =>
    rw [hz'] at h; cases h
    obtain ⟨zv, z1, z2, _⟩ := yee (P := P) (w := w) (ρ := ρ) htt hz hl hz'
    exact ⟨zv, z1, zm0 z2 ok⟩
theorem yfs (htt : TTok P tt) (hz : TTz P tt) {B : Bl} {h : GH} (hr : HRep B ρ h w) {t kt et : TypeId} (hu : P.underlying t = some (.map kt et)) {m k g : G} {vm vk : Value} {ok : Bool} (hm : RepG ρ vm m) (hk : RepG ρ vk k)
    (hg : yft tt h m k kt et ok = some g) : ∃ v, (Instr.lookup t vm vk ok).run P w = .ok v w ∧ RepG ρ v g := by
  unfold yft at hg
  cases hki : lk tt kt with
  | none => rw [hki] at hg; cases hg
  | some ki =>
  cases hei : lk tt et with
  | none => rw [hki, hei] at hg; cases hg
  | some ei =>
  rw [hki, hei] at hg
  simp only at hg
  cases hs : zcr k ki.sh with
  | false => rw [hs] at hg; cases hg
  | true =>
  rw [hs] at hg
  have hck := fun b => zi0 (P := P) (w := w) (htt kt ki hki) hs b 9999 vk
  cases m <;> simp only [reduceCtorEq] at hg
  · cases hm
    obtain ⟨zv, z1, z2⟩ := zif (P := P) (w := w) (ρ := ρ) htt hz hei hg
    have hd : ∃ d, P.underlying kt = some d := by
      have := (htt kt ki hki).sh
      cases hsh : ki.sh <;> rw [hsh] at hs this <;> cases k <;> simp only [zcr, reduceCtorEq] at hs
      all_goals exact ⟨_, this⟩
    obtain ⟨d, hd⟩ := hd
    refine ⟨_, ?_, z2⟩
    simp [Instr.lookup, run_underlying hu, hck, Instr.findKey, run_underlying hd, Instr.findNow, z1]
  · rename_i b
    cases hb : h.get b <;> rw [hb] at hg <;> simp only [reduceCtorEq] at hg
    rename_i ver kv
    obtain ⟨r, z, hρ⟩ := hm.mapρ
    have hrep := hr.atρ hb rfl hρ
    obtain ⟨es, clock, e1, e2, e3, _⟩ := hrep
    cases hm with
    | map _ r' z' hρ' =>
      rw [hρ] at hρ'; cases hρ'
      cases hf : zei k kv with
      | none => rw [hf] at hg; cases hg
      | some q =>
        rw [hf] at hg
        rcases zu9 (w := w) (htt kt ki hki) hk hs e2 e3 hf with ⟨rfl, q2, _⟩ | ⟨g', j, e, rfl, q2, q3, q4, q5, _⟩
        · obtain ⟨zv, z1, z2⟩ := zif (P := P) (w := w) (ρ := ρ) htt hz hei hg
          refine ⟨_, ?_, z2⟩
          simp [Instr.lookup, run_underlying hu, getObj, Sem.run, e1, hck, q2, z1]
        · cases hg
          refine ⟨_, ?_, zm0 q5 ok⟩
          simp [Instr.lookup, run_underlying hu, getObj, Sem.run, e1, hck, q2]
end
end Go.Gx
namespace Go.Gx
open Go.Hk (TT TTok TyI Sh lk TyOk zfm nth za7)
def seqB (P : Program) (t : TypeId) : Bool := (match P.underlying t with
  | some (.struct fs) => fs.toList.all fun f => f.name != "_"
  | _ => false) && !P.stoodInHeld t && !P.eqGuardType P.depth t
def yf2 (tt : TT) : Nat → List (Nat × TypeId) → List G → List G → Option Bool
  | _, [], [], [] => some true
  | i, (off, ft) :: fs, x :: xs, y :: ys => match Nat.beq off i, lk tt ft with
    | true, some ti => match zcr x ti.sh, zdd x y with
      | true, some b => match yf2 tt (i + 1) fs xs ys with
        | some b' => some (b && b')
        | none => none
      | _, _ => none
    | _, _ => none
  | _, _, _, _ => none
section
variable {P : Program} {w : World} {tt : TT} {ρ : Rho}
theorem zqo {t : TypeId} {ti : TyI} (hty : TyOk P t ti) {x : G} (hs : zcr x ti.sh = true) : (Go.isAgg t).run P w = .ok false w := by
  have := hty.sh
  cases hsh : ti.sh <;> rw [hsh] at hs this <;> cases x <;> simp only [zcr, reduceCtorEq] at hs
  all_goals
    have hu : P.underlying t = some _ := this
    simp [Go.isAgg, run_underlying hu]
theorem ycc {x y : G} {vx vy : Value} {b : Bool} {t : TypeId} {ti : TyI} (hty : TyOk P t ti) (n : Nat) (hx : RepG ρ vx x) (hy : RepG ρ vy y) (h : zdd x y = some b) (hs : zcr x ti.sh = true) :
    (Op.equalIn (n + 1) t vx vy).run P w = .ok b w := by
  have := hty.sh
  cases x <;> simp only [zdd, reduceCtorEq] at h <;> cases y <;> simp only [Option.some.injEq, reduceCtorEq] at h
  · cases hx; cases hy
    cases hsh : ti.sh <;> rw [hsh] at hs this <;> simp only [zcr, reduceCtorEq] at hs
    rw [run_equalIn_bool' w n t _ _ this, h]
  · rename_i k a k' b'
    cases hk : kEq k k' with
    | false => rw [hk] at h; cases h
    | true =>
      rw [hk] at h
      have hkk : k = k' := of_decide_eq_true hk
      subst hkk
      cases hx; cases hy
      cases hsh : ti.sh <;> rw [hsh] at hs this <;> simp only [zcr, reduceCtorEq] at hs
      simp only [Option.some.injEq, zc5] at h
      rw [run_equalIn_int w n t _ _ _ _ this, h]
  · obtain ⟨s, rfl, rfl, rfl⟩ := hx.strInv
    obtain ⟨s', rfl, rfl, rfl⟩ := hy.strInv
    cases hsh : ti.sh <;> rw [hsh] at hs this <;> simp only [zcr, reduceCtorEq] at hs
    rw [zwa] at h
    rw [run_equalIn_string w n t _ _ this, ByteArray.toList_eq, ByteArray.toList_eq, h]
theorem znv (htt : TTok P tt) {xs ys : Array Value} (n : Nat) : ∀ (fs : List Field) (i : Nat) (gx gy : List G) (b : Bool), (∀ f ∈ fs, f.name ≠ "_") →
    RepGs ρ (xs.toList.drop i) gx → RepGs ρ (ys.toList.drop i) gy → yf2 tt i (fs.map fun f => (f.offset, f.type)) gx gy = some b → (Op.eqFields (n + 1) xs ys fs).run P w = .ok b w
  | [], i, gx, gy, b, _, _, _, h => by
    cases gx <;> cases gy <;> simp only [List.map_nil, yf2, Option.some.injEq, reduceCtorEq] at h
    simp [Op.eqFields, ← h]
  | f :: fs, i, gx, gy, b, hn, hx, hy, h => by
    cases gx with
    | nil => simp [yf2] at h
    | cons x gx =>
      cases gy with
      | nil => simp [yf2] at h
      | cons y gy =>
        simp only [List.map_cons, yf2] at h
        cases ho : Nat.beq f.offset i with
        | false => rw [ho] at h; cases h
        | true =>
        cases hl : lk tt f.type with
        | none => rw [ho, hl] at h; cases h
        | some ti =>
        rw [ho, hl] at h
        simp only at h
        cases hs : zcr x ti.sh with
        | false => rw [hs] at h; cases h
        | true =>
        cases hk : zdd x y with
        | none => rw [hs, hk] at h; cases h
        | some b1 =>
        rw [hs, hk] at h
        simp only at h
        cases hr : yf2 tt (i + 1) (fs.map fun f => (f.offset, f.type)) gx gy with
        | none => rw [hr] at h; cases h
        | some b2 =>
        rw [hr] at h
        cases h
        have ho := Nat.eq_of_beq_eq_true ho
        have get : ∀ {vs : Array Value} {g : G} {gs : List G}, RepGs ρ (vs.toList.drop i) (g :: gs) → ∃ v, vs[i]? = some v ∧ RepG ρ v g ∧ RepGs ρ (vs.toList.drop (i + 1)) gs := by
          intro vs g gs hr
          cases hd : vs.toList.drop i with
          | nil => rw [hd] at hr; simp [RepGs] at hr
          | cons v vs' =>
            rw [hd] at hr
            have h0 : vs.toList[i]? = some v := by
              have : (vs.toList.drop i)[0]? = some v := by rw [hd]; rfl
              rw [List.getElem?_drop] at this; simpa using this
            refine ⟨v, by rw [← Array.getElem?_toList]; exact h0, hr.cons.1, ?_⟩
            have : vs.toList.drop (i + 1) = vs' := by
              have := congrArg List.tail hd
              simpa [List.tail_drop] using this
            rw [this]; exact hr.cons.2
        obtain ⟨vx, x1, x2, x3⟩ := get hx
        obtain ⟨vy, y1, y2, y3⟩ := get hy
        have ih := znv htt n fs (i + 1) gx gy b2 (fun f hf => hn f (by simp [hf])) x3 y3 hr
        have hagg := zqo (w := w) (htt _ _ hl) hs
        have hpart : ∀ (vs : Array Value) (v : Value), vs[i]? = some v → (part f.type vs f.offset).run P w = .ok v w := fun vs v hv => by
          simp [part, hagg, ho, hv]
        have he := ycc (w := w) (htt _ _ hl) n x2 y2 hk hs
        simp only [Op.eqFields, hn f (by simp), ne_eq, not_false_eq_true, if_true, Sem.run_bind, hpart _ _ x1, hpart _ _ y1, Result.andThen_ok, he]
        cases b1 with
        | true => simpa using ih
        | false => simp
noncomputable def yi9 (tt : TT) (eqs : List Nat) (op : BinOp) (t : TypeId) (xs ys : List G) : Option G := match Hk.memN eqs t, lk tt t with
  | true, some { sh := .struct fs, .. } => match yf2 tt 0 fs xs ys with
    | some b => match op with
      | .eql => some (.bool b)
      | .neq => some (.bool (!b))
      | _ => none
    | none => none
  | _, _ => none
theorem ygj (htt : TTok P tt) {eqs : List Nat} (heq : ∀ t ∈ eqs, seqB P t = true) {op : BinOp} {t : TypeId} {xo yo : Operand} {xs ys : List G} {g : G} {vx vy : Value} (hx : RepG ρ vx (.agg xs)) (hy : RepG ρ vy (.agg ys))
    (h : yi9 tt eqs op t xs ys = some g) : ∃ v, (do eqGuard op t xo yo vx vy; binOp op t vx vy : Sem Value).run P w = .ok v w ∧ RepG ρ v g := by
  unfold yi9 at h
  split at h
  · rename_i fs _ _ _ _ hm hl
    have hs := heq t (Hk.memN_iff.1 hm)
    simp only [seqB, Bool.and_eq_true, Bool.not_eq_true'] at hs
    obtain ⟨⟨h1, h2⟩, h3⟩ := hs
    obtain ⟨fields, hu, hmap, _⟩ : ∃ fields, P.underlying t = some (.struct fields) ∧ fields.toList.map (fun f => (f.offset, f.type)) = fs ∧ ∀ f ∈ fields.toList, 0 < P.cellsOf f.type := (htt t _ hl).sh
    rw [hu] at h1
    simp only [List.all_eq_true, bne_iff_ne] at h1
    obtain ⟨cx, rfl, rx, _⟩ := hx.aggInv
    obtain ⟨cy, rfl, ry, _⟩ := hy.aggInv
    cases hg : yf2 tt 0 fs xs ys with
    | none => rw [hg] at h; cases h
    | some b =>
      rw [hg] at h
      rw [← hmap] at hg
      have hf := znv (w := w) htt 9998 fields.toList 0 xs ys b h1 (by simpa using rx) (by simpa using ry) hg
      have hfo : P.fieldsOf t = fields := by simp [Program.fieldsOf, hu]
      have he : (Op.equalIn 10000 t (.agg cx) (.agg cy)).run P w = .ok b w := by
        have := run_equalIn_struct (P := P) w 9999 t cx cy (by rw [hfo]; exact hu) h2
        rw [this, hfo]; exact hf
      cases op <;> simp only [Option.some.injEq, reduceCtorEq] at h <;> subst h
      · exact ⟨_, by simp only [Sem.run_bind, run_eqGuard_agg w _ _ _ _ _ _ h3, Result.andThen_ok, run_eql_struct w, he], .bool _⟩
      · exact ⟨_, by simp only [Sem.run_bind, run_eqGuard_agg w _ _ _ _ _ _ h3, Result.andThen_ok, run_neq_struct w, he], .bool _⟩
  · cases h
def zw2 : G → Option Nat
  | .int _ (.ofNat n) => some n
  | _ => none
theorem zdv {g : G} {n : Nat} {v : Value} (h : zw2 g = some n) (hr : RepG ρ v g) : ∃ k, v = .int k n := by
  cases g <;> simp only [zw2, reduceCtorEq] at h
  rename_i k m
  cases m <;> simp only [Option.some.injEq, reduceCtorEq] at h
  cases hr
  exact ⟨k, by rw [← h]; rfl⟩
theorem zj4 {k : IntKind} {x y : Nat} (c : BoundsCode) (h : x ≤ y) : (Instr.sliceBound (.int k x) y c).run P w = .ok x w := by
  simp [Instr.sliceBound, asIntOf, h]
def zrt (s : S) (d : Nat) : Option Operand → Option Nat
  | none => some d
  | some x => zw2 (evA x s)
theorem zj3 {isSlice : Bool} {len cap : Nat} {a : Act} {s : S} (hs : SRep ρ s a.tmps) {lo hi : Option Operand} {l h : Nat} (hl : zrt s 0 lo = some l) (hh : zrt s len hi = some h) (h1 : l ≤ h) (h2 : h ≤ cap) :
    (Instr.sliceBounds isSlice len cap (lo.map a.eval) (hi.map a.eval) none).run P w = .ok (l, h, cap) w := by
  have hlo : ∀ m, l ≤ m → ∀ c, (match lo.map a.eval with | some v => Instr.sliceBound v m c | none => pure 0 : Sem Nat).run P w = .ok l w := by
    intro m hm c
    cases lo with
    | none => simp only [zrt, Option.some.injEq] at hl; simp [hl]
    | some x => obtain ⟨k, hk⟩ := zdv hl (zap hs x); simp only [Option.map_some, hk]; exact zj4 c hm
  cases hi with
  | none =>
    simp only [zrt, Option.some.injEq] at hh
    subst hh
    have := hlo len h1
    simp only [Instr.sliceBounds, Option.map_none, Sem.run_bind, Sem.run_pure, Result.andThen_ok]
    cases lo with
    | none => simp only [zrt, Option.some.injEq] at hl; simp [hl]
    | some x =>
      have := this .sliceB
      simp only [Option.map_some] at this
      simp [this]
  | some y =>
    obtain ⟨k, hk⟩ := zdv hh (zap hs y)
    have hb := fun c => zj4 (P := P) (w := w) (k := k) c h2
    simp only [Instr.sliceBounds, Option.map_none, Option.map_some, Sem.run_bind, Sem.run_pure, Result.andThen_ok, hk, hb]
    cases lo with
    | none => simp only [zrt, Option.some.injEq] at hl; simp [hl]
    | some x =>
      have := hlo h h1 .sliceB
      simp only [Option.map_some] at this
      simp [this]
theorem zp0 {len cap : Nat} {a : Act} {s : S} (hs : SRep ρ s a.tmps) {lo : Option Operand} {y m : Operand} {l h n : Nat} (hl : zrt s 0 lo = some l) (hh : zw2 (evA y s) = some h) (hm : zw2 (evA m s) = some n) (h1 : l ≤ h) (h2 : h ≤ n) (h3 : n ≤ cap) :
    (Instr.sliceBounds true len cap (lo.map a.eval) (some (a.eval y)) (some (a.eval m))).run P w = .ok (l, h, n) w := by
  obtain ⟨k, hk⟩ := zdv hh (zap hs y)
  obtain ⟨k', hk'⟩ := zdv hm (zap hs m)
  have hb := fun c => zj4 (P := P) (w := w) (k := k) c h2
  have hb' := fun c => zj4 (P := P) (w := w) (k := k') c h3
  simp only [Instr.sliceBounds, Sem.run_bind, Sem.run_pure, Result.andThen_ok, hk, hb, hk', hb']
  cases lo with
  | none => simp only [zrt, Option.some.injEq] at hl; simp [hl]
  | some x =>
    obtain ⟨k2, hk2⟩ := zdv hl (zap hs x)
    have hb2 := fun c => zj4 (P := P) (w := w) (k := k2) c h1
    simp [hk2, hb2]
noncomputable def zwe (tt : TT) (t : TypeId) (s : S) (x : G) (lo hi mx : Option Operand) : Option G := match x with
  | .str len n => match lk tt t, zrt s 0 lo, zrt s len hi, mx with
    | some { sh := .str, .. }, some l, some h, none => match Nat.ble l h, Nat.ble h len with
      | true, true => some (.str (Nat.sub h l) (Nat.mod (Nat.shiftRight n (Nat.mul 8 l)) (Nat.pow 256 (Nat.sub h l))))
      | _, _ => none
    | _, _, _, _ => none
  | .sl b o len cap ex => match lk tt t, zrt s 0 lo, mx with
    | some { sh := .sl e, .. }, some l, none => match lk tt e, zrt s len hi with
      | some ie, some h => match Nat.ble l h, Nat.ble h cap, ex with
        | true, true, none => some (.sl b (Nat.add o (Nat.mul l ie.size)) (Nat.sub h l) (Nat.sub cap l) none)
        | true, true, some sz => match Nat.beq sz ie.size with
          | true => some (.sl b (Nat.add o (Nat.mul l ie.size)) (Nat.sub h l) (Nat.sub cap l) (some sz))
          | false => none
        | _, _, _ => none
      | _, _ => none
    | some { sh := .sl e, .. }, some l, some m => match lk tt e, hi with
      | some ie, some y => match zw2 (evA y s), zw2 (evA m s) with
        | some h, some n => match Nat.ble l h, Nat.ble h n, Nat.ble n cap with
          | true, true, true => some (.sl b (Nat.add o (Nat.mul l ie.size)) (Nat.sub h l) (Nat.sub n l) none)
          | _, _, _ => none
        | _, _ => none
      | _, _ => none
    | _, _, _ => none
  | .nils => match lk tt t, zrt s 0 lo, zrt s 0 hi with
    | some { sh := .sl e, .. }, some 0, some 0 => match lk tt e with
      | some _ => match mx with
        | none => some .nils
        | some m => match hi, zw2 (evA m s) with
          | some _, some 0 => some .nils
          | _, _ => none
      | none => none
    | _, _, _ => none
  | _ => none
theorem yag (htt : TTok P tt) {t : TypeId} {s : S} {a : Act} (hs : SRep ρ s a.tmps) {x g : G} {vx : Value} {lo hi mx : Option Operand} (hx : RepG ρ vx x) (h : zwe tt t s x lo hi mx = some g) :
    ∃ v, (Instr.sliceAt t vx (lo.map a.eval) (hi.map a.eval) (mx.map a.eval)).run P w = .ok v w ∧ RepG ρ v g := by
  cases x <;> simp only [zwe, reduceCtorEq] at h
  · rename_i len n
    split at h
    · rename_i l h' hl ho hh
      split at h
      · rename_i b1 b2
        rw [Nat.ble_eq] at b1 b2
        cases h
        obtain ⟨sb, rfl, e1, e2⟩ := hx.strInv
        have hu : P.underlying t = some .string := (htt t _ hl).sh
        refine ⟨.string (sb.extract l h'), ?_, ?_⟩
        · have := zj3 (P := P) (w := w) (isSlice := false) (len := sb.size) (cap := sb.size) hs ho (by rw [e1]; exact hh) b1 (by omega)
          simp [Instr.sliceAt, run_underlying hu, Instr.slice, this]
        · have e3 : (sb.extract l h').data.toList = (sb.data.toList.drop l).take (h' - l) := by
            simp [ByteArray.data_extract, List.extract_eq_take_drop]
          have hlen : sb.data.toList.length = len := by rw [zbg, e1]
          refine .str _ _ _ (by rw [← zbg, e3]; simp; omega) ?_
          rw [e3, (zgy _ _ (by simp; omega)).1, (zgy _ _ (by omega)).2, e2]
          show _ = (n >>> (8 * l)) % 256 ^ (h' - l)
          rw [Nat.shiftRight_eq_div_pow, ← ya5]
      · cases h
    · cases h
  · split at h
    · rename_i e _ _ _ _ hl ho hh
      cases hle : lk tt e with
      | none => rw [hle] at h; cases h
      | some ie =>
        rw [hle] at h
        simp only at h
        have hu : P.underlying t = some (.slice e) := (htt t _ hl).sh
        cases mx with
        | none =>
          cases h
          cases hx
          have := zj3 (P := P) (w := w) (isSlice := true) (len := 0) (cap := 0) hs ho hh (Nat.le_refl _) (Nat.le_refl _)
          refine ⟨.slice none 0 0, ?_, .nils⟩
          simp [Instr.sliceAt, run_underlying hu, Instr.slice, this, (htt e _ hle).sizeOf w]
        | some m =>
          simp only at h
          split at h
          · rename_i y hn
            cases h
            cases hx
            have := zp0 (P := P) (w := w) (len := 0) (cap := 0) hs ho hh hn (Nat.le_refl _) (Nat.le_refl _) (Nat.le_refl _)
            refine ⟨.slice none 0 0, ?_, .nils⟩
            simp [Instr.sliceAt, run_underlying hu, Instr.slice, this, (htt e _ hle).sizeOf w]
          · cases h
    · cases h
  · rename_i b o len cap ex
    have key : ∀ {e : TypeId} {ie : TyI} {l h' n : Nat} {ex' : Option Nat} (m' : Nat → Nat), P.underlying t = some (.slice e) → lk tt e = some ie → l ≤ h' → h' ≤ cap →
        (∀ cap', cap ≤ cap' → (ex = none → cap' = cap) → (Instr.sliceBounds true len cap' (lo.map a.eval) (hi.map a.eval) (mx.map a.eval)).run P w = .ok (l, h', m' cap') w) →
        (∀ cap', cap ≤ cap' → h' ≤ m' cap' ∧ n + l ≤ m' cap' ∧ h' ≤ n + l ∧ m' cap' ≤ cap') →
        (∀ cap' z, cap ≤ cap' → (match ex with | none => cap' = cap | some sz => o + cap' * sz = z) → l ≤ m' cap' → (match ex' with | none => m' cap' - l = n | some sz => o + l * ie.size + (m' cap' - l) * sz = z)) →
        ∃ v, (Instr.sliceAt t vx (lo.map a.eval) (hi.map a.eval) (mx.map a.eval)).run P w = .ok v w ∧ RepG ρ v (.sl b (o + l * ie.size) (h' - l) n ex') := by
      intro e ie l h' n ex' m' hu hie h1 h2 hb hm hx'
      cases hx with
      | sl _ r z _ _ _ cap' _ hρ hlen hc hmax hex =>
        have hbb := hb cap' hc (fun e => by subst e; exact hex)
        obtain ⟨m1, m2, m3, m4⟩ := hm cap' hc
        have hrun : (Instr.sliceAt t (.slice (some ⟨r, o, none⟩) len cap') (lo.map a.eval) (hi.map a.eval) (mx.map a.eval)).run P w =
            .ok (.slice (if m' cap' = l then some ⟨r, o, none⟩ else some ((⟨r, o, none⟩ : Addr).add (l * ie.size))) (h' - l) (m' cap' - l)) w := by
          simp [Instr.sliceAt, run_underlying hu, Instr.slice, hbb, (htt e _ hie).sizeOf w]
        refine ⟨_, hrun, ?_⟩
        by_cases hml : m' cap' = l
        · rw [if_pos hml]
          have e1 : h' - l = 0 := by omega
          have e2 : n = 0 := by omega
          have e3 : m' cap' - l = 0 := by omega
          rw [e1, e2, e3]
          exact .sl0 _ _ _ _
        · rw [if_neg hml, Hk.addr_add]
          exact .sl b r z _ _ _ _ _ hρ (by omega) (by omega) (by omega) (hx' cap' z hc hex (by omega))
      | sl0 ad _ _ _ =>
        have hl0 : l = 0 := by omega
        have hh0 : h' = 0 := by omega
        subst hl0; subst hh0
        have hbb := hb 0 (Nat.le_refl _) (fun _ => rfl)
        obtain ⟨m1, m2, m3, m4⟩ := hm 0 (Nat.le_refl _)
        have e0 : m' 0 = 0 := by omega
        have e2 : n = 0 := by omega
        rw [e0] at hbb
        refine ⟨.slice (some ad) 0 0, ?_, by rw [e2]; exact .sl0 _ _ _ _⟩
        simp [Instr.sliceAt, run_underlying hu, Instr.slice, hbb, (htt e _ hie).sizeOf w]
    split at h
    · rename_i e _ _ _ _ l hl ho
      have hu : P.underlying t = some (.slice e) := (htt t _ hl).sh
      split at h
      · rename_i ie h' hie hh
        split at h
        · rename_i b1 b2
          rw [Nat.ble_eq] at b1 b2
          cases h
          show ∃ v, _ ∧ RepG ρ v (.sl b (o + l * ie.size) (h' - l) (cap - l) none)
          refine key (fun c => c) hu hie b1 b2 (fun cap' hc he => ?_) (fun cap' hc => ⟨by omega, by omega, by omega, by omega⟩) (fun cap' z hc he _ => ?_)
          · exact zj3 hs ho hh b1 (by omega)
          · have he : cap' = cap := he
            show cap' - l = cap - l
            omega
        · rename_i b1 b2
          split at h
          · rename_i hsz
            rw [Nat.ble_eq] at b1 b2
            have hsz := Nat.eq_of_beq_eq_true hsz
            cases h
            show ∃ v, _ ∧ RepG ρ v (.sl b (o + l * ie.size) (h' - l) (cap - l) (some _))
            refine key (fun c => c) hu hie b1 b2 (fun cap' hc he => ?_) (fun cap' hc => ⟨by omega, by omega, by omega, by omega⟩) (fun cap' z hc he hlm => ?_)
            · exact zj3 hs ho hh b1 (by omega)
            · have he : o + cap' * _ = z := he
              show o + l * ie.size + (cap' - l) * _ = z
              rw [← he, hsz, Nat.add_assoc, ← Nat.add_mul]
              congr 2
              omega
          · cases h
        · cases h
      · cases h
    · rename_i e _ _ _ _ l m hl ho
      have hu : P.underlying t = some (.slice e) := (htt t _ hl).sh
      split at h
      · rename_i ie y hie
        split at h
        · rename_i h' n hh hn
          split at h
          · rename_i b1 b2 b3
            rw [Nat.ble_eq] at b1 b2 b3
            cases h
            show ∃ v, _ ∧ RepG ρ v (.sl b (o + l * ie.size) (h' - l) (n - l) none)
            refine key (fun _ => n) hu hie b1 (by omega) (fun cap' hc he => ?_) (fun cap' hc => ⟨by omega, by omega, by omega, by omega⟩) (fun cap' z hc he hlm => ?_)
            · exact zp0 hs ho hh hn b1 b2 (by omega)
            · show n - l = n - l
              rfl
          · cases h
        · cases h
      · cases h
    · cases h
end
end Go.Gx
