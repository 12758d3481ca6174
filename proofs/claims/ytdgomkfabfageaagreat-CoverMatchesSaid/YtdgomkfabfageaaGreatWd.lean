/- The ghost machine's memory under writes and new blocks. (And what it stands on.) -/
import Derived.Test.YtdgomkfabfageaaGreatWc
import Derived.Laws.MakeOwn
import Derived.AtR
import Derived.Orders
import Derived.KernelRfl
import Derived.Laws.AppendOwn
import Derived.Test.YtdgomkfabfageaaGreatWa
set_option linter.unusedSimpArgs false
set_option linter.unusedVariables false

set_option maxRecDepth 100000
namespace Go.Hk
open Go.Proofs
mutual
def FX : Tm → Bool
 | .mk op n x ks ps => NR op n x ks.length ps && E4 ks
def E4 : List Tm → Bool
 | [] => true
 | t :: r => FX t && E4 r
end
theorem HY : ∀ (t : Tm),FX t = true → AP Tryz.prog 184 [.imm (.agg (Bz t))] [] (.ret Fw [])
 | .mk op n x ks ps,hy => by
  refine C7 0 rfl fun hok => ?_
  have hv : ks.length ≤ 9223372036854775807 := by
   simp [Bh,CP,Bz,maxLen] at hok
   have := hok.1
   omega
  simp only [FX,Bool.and_eq_true_iff] at hy
  refine Ae Er Tryz.func184 (by decide +kernel) rfl [1,2,3] rfl rfl ?_
  refine sg [] rfl (by simp) ?_
  refine Aw (fr := []) [] [] rfl (by simp) (N5 op n x ks ps hy.1) trivial rfl rfl rfl rfl ?_
  refine sg [] rfl (by simp) ?_
  refine Ah (fun i : Nat => [(9,.imm (.int .i64 i)),(8,.imm (.int .i64 ks.length)),(7,.imm (.sl (Ip ks))),(1,.ref 1 0)]) (fun _ => [(1,some (.immb 141 5 (Bz (.mk op n x ks ps))))]) [2,3] (fun i => ks.length - i)
   (fun i => i ≤ ks.length ∧ E4 (ks.drop i) = true) 0 ⟨Nat.zero_le _,hy.2⟩ ⟨rfl,Aq (by simp),rfl,rfl,trivial⟩ ⟨rfl,trivial⟩ rfl fun i hi ih => ?_
  refine sd [] rfl (by simp) ?_
  have hi2 := hi.2
  refine Aa rfl (fun h => ?_) (fun h => ?_)
  ·simp at h
   obtain ⟨t,ht⟩ := Ai h
   rw [Aj ht] at hi2
   simp only [E4,Bool.and_eq_true_iff] at hi2
   refine sd [] rfl (by simp) ?_
   refine si rfl (c := Bz t) (fun _ => ⟨by simp,by simpa using FD ht,by simp⟩) (by simp) ?_
   refine sg [] rfl (by simp) ?_
   ·refine Aw (fr := []) [] [] rfl (by simp) (HY t hi2.1) trivial rfl rfl rfl rfl ?_
    refine sg [] rfl (by simp) ?_
    exact Ad (ih (i + 1) (by omega) ⟨by omega,hi2.2⟩) ⟨Aq (Bq (by omega) (by omega)),rfl,rfl,rfl,trivial⟩ ⟨rfl,trivial⟩ rfl
  ·refine sd [] rfl (by simp) ?_
   exact Bu ⟨_,rfl,rfl,trivial⟩
termination_by t => SizeOf.sizeOf t
decreasing_by
 all_goals
  have := List.sizeOf_lt_of_mem (List.mem_of_getElem? ht)
  simp_wf
  omega
theorem N4 : ∀ (t : Tm),FX t = false → AP Tryz.prog 184 [.imm (.agg (Bz t))] [] (.pan Dm)
 | .mk op n x ks ps,hy => by
  refine C7 0 rfl fun hok => ?_
  have hv : ks.length ≤ 9223372036854775807 := by
   simp [Bh,CP,Bz,maxLen] at hok
   have := hok.1
   omega
  simp only [FX,Bool.and_eq_false_iff] at hy
  refine Ae Er Tryz.func184 (by decide +kernel) rfl [1,2,3] rfl rfl ?_
  refine sg [] rfl (by simp) ?_
  by_cases hn : NR op n x ks.length ps = true
  rotate_left
  ·exact An [] rfl (by simp) (VP op n x ks ps (by simpa using hn)) trivial rfl rfl
  rw [hn] at hy
  simp only [Bool.true_eq_false,false_or] at hy
  refine Aw (fr := []) [] [] rfl (by simp) (N5 op n x ks ps hn) trivial rfl rfl rfl rfl ?_
  refine sg [] rfl (by simp) ?_
  refine Ah (fun i : Nat => [(9,.imm (.int .i64 i)),(8,.imm (.int .i64 ks.length)),(7,.imm (.sl (Ip ks))),(1,.ref 1 0)]) (fun _ => [(1,some (.immb 141 5 (Bz (.mk op n x ks ps))))]) [2,3] (fun i => ks.length - i)
   (fun i => i ≤ ks.length ∧ E4 (ks.drop i) = false) 0 ⟨Nat.zero_le _,hy⟩ ⟨rfl,Aq (by simp),rfl,rfl,trivial⟩ ⟨rfl,trivial⟩ rfl fun i hi ih => ?_
  refine sd [] rfl (by simp) ?_
  have hi2 := hi.2
  refine Aa rfl (fun h => ?_) (fun h => ?_)
  ·simp at h
   obtain ⟨t,ht⟩ := Ai h
   rw [Aj ht] at hi2
   simp only [E4,Bool.and_eq_false_iff] at hi2
   refine sd [] rfl (by simp) ?_
   refine si rfl (c := Bz t) (fun _ => ⟨by simp,by simpa using FD ht,by simp⟩) (by simp) ?_
   refine sg [] rfl (by simp) ?_
   by_cases hz : FX t = true
   ·refine Aw (fr := []) [] [] rfl (by simp) (HY t hz) trivial rfl rfl rfl rfl ?_
    refine sg [] rfl (by simp) ?_
    exact Ad (ih (i + 1) (by omega) ⟨by omega,by rw [hz] at hi2;simpa using hi2⟩) ⟨Aq (Bq (by omega) (by omega)),rfl,rfl,rfl,trivial⟩ ⟨rfl,trivial⟩ rfl
   ·exact An [] rfl (by simp) (N4 t (by simpa using hz)) trivial rfl rfl
  ·exfalso
   simp at h
   rw [List.drop_eq_nil_of_le (by omega)] at hi2
   simp [E4] at hi2
termination_by t => SizeOf.sizeOf t
decreasing_by
 all_goals
  have := List.sizeOf_lt_of_mem (List.mem_of_getElem? ht)
  simp_wf
  omega
def Ir (t : Tm) : Bool := decide (0 ≤ AH t 60 14) && FX t
theorem SR (t : Tm) (h : Ir t = true) : AP Tryz.prog 182 [.ref 1 0] [(1,some (.immb 141 5 (Bz t)))] (.ret Fw [(1,some (.immb 141 5 (Bz t)))]) := by
 simp only [Ir,Bool.and_eq_true,decide_eq_true_eq] at h
 refine Ae Er Tryz.func182 (by decide +kernel) rfl [2,3,4] rfl rfl ?_
 refine sg [] rfl (by simp) ?_
 refine Aw (fr := []) [(2,1)] [] rfl (by simp) (Hs t 60 14 1 (by decide) (by decide) (by decide) (by decide) (by decide) (by decide) h.1) ⟨⟨rfl,rfl,rfl⟩,trivial⟩ rfl rfl rfl rfl ?_
 refine sg [] rfl (by simp) ?_
 refine Aw (fr := []) [] [] rfl (by simp) (HY t h.2) trivial rfl rfl rfl rfl ?_
 refine sg [] rfl (by simp) ?_
 exact Bu ⟨_,rfl,rfl,⟨rfl,trivial⟩⟩
theorem Vu (t : Tm) (h : Ir t = false) : AP Tryz.prog 182 [.ref 1 0] [(1,some (.immb 141 5 (Bz t)))] (.pan Dm) := by
 refine Ae Er Tryz.func182 (by decide +kernel) rfl [2,3,4] rfl rfl ?_
 refine sg [] rfl (by simp) ?_
 by_cases h1 : 0 ≤ AH t 60 14
 ·refine Aw (fr := []) [(2,1)] [] rfl (by simp) (Hs t 60 14 1 (by decide) (by decide) (by decide) (by decide) (by decide) (by decide) h1) ⟨⟨rfl,rfl,rfl⟩,trivial⟩ rfl rfl rfl rfl ?_
  refine sg [] rfl (by simp) ?_
  exact An [] rfl (by simp) (N4 t (by simpa [Ir,h1] using h)) trivial rfl rfl
 ·exact An [(2,1)] rfl (by simp) (QA t 60 14 1 (by decide) (by decide) (by decide) (by decide) (by decide) (by decide) (by show AH t 60 14 < 0;omega)) ⟨⟨rfl,rfl,rfl⟩,trivial⟩ rfl rfl
theorem XB (t : Tm) : PureC Tryz.prog 174 [.agg (Bz t)] (GU (Ir t)) := by
 refine Ae Er Tryz.func174 (by decide +kernel) rfl [1,2,3] rfl rfl ?_
 refine sg [] rfl (by simp) ?_
 cases h : Ir t with
 | true =>
  refine Aw (fr := []) [(1,1)] [] rfl (by simp) (Jt Tryz.func182 (by decide +kernel) rfl (SR t h)) ⟨⟨rfl,rfl,rfl⟩,trivial⟩ rfl rfl rfl rfl ?_
  refine sg [] rfl (by simp) ?_
  exact Ab ⟨_,rfl,tV rfl,trivial⟩
 | false =>
  refine Aw (fr := []) [(1,1)] [] rfl (by simp) (KW Tryz.func182 (by decide +kernel) rfl (Vu t h)) ⟨⟨rfl,rfl,rfl⟩,trivial⟩ rfl rfl rfl rfl ?_
  refine sg [] rfl (by simp) ?_
  exact Ab ⟨_,rfl,tV rfl,trivial⟩
def ZE : TT := YV ++ [
 (219,⟨.iface,false,1,16,[.imm .niliface]⟩),
 (212,⟨.sl 219,false,1,24,[.nils]⟩),
 (214,⟨.struct [(0,72)],true,2,40,[.imm (.str []),.nils]⟩),
 (216,⟨.struct [(0,143)],true,15,224,[.imm (.str []),.imm (.str []),.imm (.int .i64 0),.imm (.int .i64 0),.imm (.str []),.nils,.imm (.int .i64 0),.imm (.int .i64 0),.imm (.str []),.nils,.imm (.int .i64 0),.imm (.int .i64 0),.imm (.str []),.nils,.nils]⟩),
 (103,⟨.func,false,1,8,[.imm .nilfn]⟩),
 (236,⟨.func,false,1,8,[.imm .nilfn]⟩),
 (220,⟨.func,false,1,8,[.imm .nilfn]⟩)]
theorem Be : TTok Tryz.prog ZE := .of_eq (l := [4,3,9,141,26,50,138,27,5,24,23,57,139,48,143,147,75,22,145,72,70,38,239,192,1,195,248,219,212,214,216,103,236,220]) (by kernel_rfl)
section
variable {n : Nat} {F : List Nat} {Q : DQ} {env env' : Env} {st st' : St} {ids ids' : List Nat} {k todo : List DI} {ob : List Prop}
theorem ad (path : List Pt) (h : run ZE n 300 path todo env st ids [] = .at k env' st' ids' ob) (hob : Ay ob) (hd : G Tryz.prog n F Q k env' st' ids') : DGo Tryz.prog n F Q todo env st ids := KU Be mixed 300 path h hob hd
theorem ag (path : List Pt) (h : run ZE n 300 path todo env st ids [] = .at k env' st' ids' ob) (hob : Ay ob) (hd : G Tryz.prog n F Q k env' st' ids') : G Tryz.prog n F Q todo env st ids := Ja Be mixed 300 path h hob hd
theorem ai {es : List (List V)} {m : Int} {sz : Nat} {e : TypeId} {g : Option (Bool × Bool)} {ob : List Prop} {t : Nat} {todo' : List DI} {c : List V} (h : Nf ZE n env todo = some ⟨es,m,sz,e,g,ob,some t,todo'⟩)
  (hc : Af g → 0 ≤ m ∧ es[m.toNat]? = some c ∧ c.length = sz) (hob : Ay ob) (hk : G Tryz.prog n F Q todo' ((t,gD g (.ip e c 0)) :: env) st ids) : G Tryz.prog n F Q todo env st ids := Ff Be h hc hob hk
end
def CN {α : Type} (q : α → Bool) : List α → Nat → Int
 | [],_ => -1
 | e :: r,i => if q e then (i : Int) else CN q r (i + 1)
theorem F8 {α : Type} (q : α → Bool) : ∀ (es : List α) (i : Nat),0 ≤ CN q es i ↔ es.any q = true
 | [],i => by simp [CN]
 | e :: r,i => by
  have ih := F8 q r (i + 1)
  by_cases h : q e = true
  ·simp [CN,h]
  ·simp only [CN,h,List.any_cons]
   simpa using ih
theorem Zn (g : FuncId) (tf : TypeId) (fv : V) (q : List V → Bool) (es : List (List V)) (hes : ∀ e ∈ es,e.length = 4) (hlen : es.length ≤ 9223372036854775806)
  (hq : ∀ e ∈ es,AP Tryz.prog g [.imm (.agg e),.ref 1 0] [(1,some (.immb tf 1 [fv]))] (.ret (.imm (.bool (q e))) [(1,some (.immb tf 1 [fv]))])) :
  AP Tryz.prog 149 [.imm (.sl es),.fn (.func g) [] [.ref 1 0]] [(1,some (.immb tf 1 [fv]))] (.ret (.imm (.int .i64 (CN q es 0))) [(1,some (.immb tf 1 [fv]))]) := by
 refine Ae Be Tryz.func149 (by decide +kernel) rfl [2,3,4] rfl rfl ?_
 refine ag [] rfl (by simp) ?_
 refine Ah (fun i : Nat => [(8,.imm (.int .i64 i)),(7,.imm (.int .i64 es.length)),(0,.imm (.sl es)),(1,.fn (.func g) [] [.ref 1 0])]) (fun _ => [(1,some (.immb tf 1 [fv]))]) [2,3,4] (fun i => es.length - i)
  (fun i => i ≤ es.length ∧ CN q es 0 = CN q (es.drop i) i) 0 ⟨Nat.zero_le _,rfl⟩ ⟨rfl,Aq (by simp),rfl,rfl,trivial⟩ ⟨rfl,trivial⟩ rfl fun i hi ih => ?_
 refine ad [] rfl (by simp) ?_
 have hi2 := hi.2
 refine Aa rfl (fun h => ?_) (fun h => ?_)
 ·simp at h
  obtain ⟨e,he⟩ := Ai h
  have hm := List.mem_of_getElem? he
  rw [Aj he] at hi2
  refine ad [] rfl (by simp) ?_
  refine ai rfl (c := e) (fun _ => ⟨by simp,by simpa using he,hes e hm⟩) (by simp) ?_
  refine ag [] rfl (by simp [hes e hm]) ?_
  refine Aw (fr := []) [(1,1)] [] rfl (by simp) (hq e hm) ⟨⟨rfl,rfl,rfl⟩,trivial⟩ rfl rfl rfl rfl ?_
  refine ag [] rfl (by simp) ?_
  refine Aa rfl (fun h => ?_) (fun h => ?_)
  ·refine ad [] rfl (by simp) ?_
   exact Ab ⟨_,rfl,tV (congrArg _ (by rw [hi2];simp [CN,h])),⟨rfl,trivial⟩⟩
  ·refine ad [] rfl (by simp) ?_
   exact Ad (ih (i + 1) (by omega) ⟨by omega,by rw [hi2];simp [CN,h]⟩) ⟨Aq (Bq (by omega) (by omega)),rfl,rfl,rfl,trivial⟩ ⟨rfl,trivial⟩ rfl
 ·refine ad [] rfl (by simp) ?_
  simp at h
  refine Ab ⟨_,rfl,tV (congrArg _ ?_),⟨rfl,trivial⟩⟩
  rw [hi2,List.drop_eq_nil_of_le (by omega)];rfl
theorem Vo (g : FuncId) (tf : TypeId) (fv : V) (q : List V → Bool) (es : List (List V)) (hes : ∀ e ∈ es,e.length = 4) (hlen : es.length ≤ 9223372036854775806)
  (hq : ∀ e ∈ es,AP Tryz.prog g [.imm (.agg e),.ref 1 0] [(1,some (.immb tf 1 [fv]))] (.ret (.imm (.bool (q e))) [(1,some (.immb tf 1 [fv]))])) :
  AP Tryz.prog 117 [.imm (.sl es),.fn (.func g) [] [.ref 1 0]] [(1,some (.immb tf 1 [fv]))] (.ret (.imm (.bool (es.any q))) [(1,some (.immb tf 1 [fv]))]) := by
 refine Ae Be Tryz.func117 (by decide +kernel) rfl [2,3,4] rfl rfl ?_
 refine ag [] rfl (by simp) ?_
 refine Aw (fr := []) [(1,1)] [] rfl (by simp) (Zn g tf fv q es hes hlen hq) ⟨⟨rfl,rfl,rfl⟩,trivial⟩ rfl rfl rfl rfl ?_
 refine ag [] rfl (by simp) ?_
 refine Ab ⟨_,rfl,tV (congrArg _ ?_),⟨rfl,trivial⟩⟩
 rw [Bool.eq_iff_iff,← F8 q es 0]
 simp
theorem ZY (g : FuncId) (e : List V) (hel : e.length = 4) (b : Bool) (hq : PureC Tryz.prog g [.agg e] (.bool b)) :
  AP Tryz.prog 181 [.imm (.agg e),.ref 1 0] [(1,some (.immb 103 1 [.fn (.func g)]))] (.ret (.imm (.bool (!b))) [(1,some (.immb 103 1 [.fn (.func g)]))]) := by
 refine Ae Be Tryz.func181 (by decide +kernel) rfl [2,3,4] rfl rfl ?_
 refine ag [] rfl (by simp [hel]) ?_
 refine Aw (fr := []) [] [] rfl (by simp) hq trivial rfl rfl rfl rfl ?_
 refine ag [] rfl (by simp) ?_
 exact Ab ⟨_,rfl,tV rfl,⟨rfl,trivial⟩⟩
theorem allT (g : FuncId) (q : List V → Bool) (es : List (List V)) (hes : ∀ e ∈ es,e.length = 4) (hlen : es.length ≤ 9223372036854775806) (hq : ∀ e ∈ es,PureC Tryz.prog g [.agg e] (.bool (q e))) :
  PureC Tryz.prog 172 [.sl es,.fn (.func g)] (.bool (es.all q)) := by
 refine Ae Be Tryz.func172 (by decide +kernel) rfl [1,2,3] rfl rfl ?_
 refine ag [] rfl (by simp) ?_
 refine Aw (fr := []) [(1,1)] [] rfl (by simp) (Vo 181 103 (.fn (.func g)) (fun e => !q e) es hes hlen (fun e he => ZY g e (hes e he) (q e) (hq e he))) ⟨⟨rfl,rfl,rfl⟩,trivial⟩ rfl rfl rfl rfl ?_
 refine ag [] rfl (by simp) ?_
 refine Ab ⟨_,rfl,tV (congrArg _ ?_),trivial⟩
 rw [List.any_eq_not_all_not]
 simp
theorem Zp (g : FuncId) (tf : TypeId) (fv : V) (q : List V → Bool) (es : List (List V)) (hes : ∀ e ∈ es,e.length = 2) (hlen : es.length ≤ 9223372036854775806)
  (hq : ∀ e ∈ es,AP Tryz.prog g [.imm (.agg e),.ref 1 0] [(1,some (.immb tf 1 [fv]))] (.ret (.imm (.bool (q e))) [(1,some (.immb tf 1 [fv]))])) :
  AP Tryz.prog 185 [.imm (.sl es),.fn (.func g) [] [.ref 1 0]] [(1,some (.immb tf 1 [fv]))] (.ret (.imm (.int .i64 (CN q es 0))) [(1,some (.immb tf 1 [fv]))]) := by
 refine Ae Be Tryz.func185 (by decide +kernel) rfl [2,3,4] rfl rfl ?_
 refine ag [] rfl (by simp) ?_
 refine Ah (fun i : Nat => [(8,.imm (.int .i64 i)),(7,.imm (.int .i64 es.length)),(0,.imm (.sl es)),(1,.fn (.func g) [] [.ref 1 0])]) (fun _ => [(1,some (.immb tf 1 [fv]))]) [2,3,4] (fun i => es.length - i)
  (fun i => i ≤ es.length ∧ CN q es 0 = CN q (es.drop i) i) 0 ⟨Nat.zero_le _,rfl⟩ ⟨rfl,Aq (by simp),rfl,rfl,trivial⟩ ⟨rfl,trivial⟩ rfl fun i hi ih => ?_
 refine ad [] rfl (by simp) ?_
 have hi2 := hi.2
 refine Aa rfl (fun h => ?_) (fun h => ?_)
 ·simp at h
  obtain ⟨e,he⟩ := Ai h
  have hm := List.mem_of_getElem? he
  rw [Aj he] at hi2
  refine ad [] rfl (by simp) ?_
  refine ai rfl (c := e) (fun _ => ⟨by simp,by simpa using he,hes e hm⟩) (by simp) ?_
  refine ag [] rfl (by simp [hes e hm]) ?_
  refine Aw (fr := []) [(1,1)] [] rfl (by simp) (hq e hm) ⟨⟨rfl,rfl,rfl⟩,trivial⟩ rfl rfl rfl rfl ?_
  refine ag [] rfl (by simp) ?_
  refine Aa rfl (fun h => ?_) (fun h => ?_)
  ·refine ad [] rfl (by simp) ?_
   exact Ab ⟨_,rfl,tV (congrArg _ (by rw [hi2];simp [CN,h])),⟨rfl,trivial⟩⟩
  ·refine ad [] rfl (by simp) ?_
   exact Ad (ih (i + 1) (by omega) ⟨by omega,by rw [hi2];simp [CN,h]⟩) ⟨Aq (Bq (by omega) (by omega)),rfl,rfl,rfl,trivial⟩ ⟨rfl,trivial⟩ rfl
 ·refine ad [] rfl (by simp) ?_
  simp at h
  refine Ab ⟨_,rfl,tV (congrArg _ ?_),⟨rfl,trivial⟩⟩
  rw [hi2,List.drop_eq_nil_of_le (by omega)];rfl
theorem Vq (g : FuncId) (tf : TypeId) (fv : V) (q : List V → Bool) (es : List (List V)) (hes : ∀ e ∈ es,e.length = 2) (hlen : es.length ≤ 9223372036854775806)
  (hq : ∀ e ∈ es,AP Tryz.prog g [.imm (.agg e),.ref 1 0] [(1,some (.immb tf 1 [fv]))] (.ret (.imm (.bool (q e))) [(1,some (.immb tf 1 [fv]))])) :
  AP Tryz.prog 179 [.imm (.sl es),.fn (.func g) [] [.ref 1 0]] [(1,some (.immb tf 1 [fv]))] (.ret (.imm (.bool (es.any q))) [(1,some (.immb tf 1 [fv]))]) := by
 refine Ae Be Tryz.func179 (by decide +kernel) rfl [2,3,4] rfl rfl ?_
 refine ag [] rfl (by simp) ?_
 refine Aw (fr := []) [(1,1)] [] rfl (by simp) (Zp g tf fv q es hes hlen hq) ⟨⟨rfl,rfl,rfl⟩,trivial⟩ rfl rfl rfl rfl ?_
 refine ag [] rfl (by simp) ?_
 refine Ab ⟨_,rfl,tV (congrArg _ ?_),⟨rfl,trivial⟩⟩
 rw [Bool.eq_iff_iff,← F8 q es 0]
 simp
theorem aB (g : FuncId) (e : List V) (hel : e.length = 2) (b : Bool) (hq : PureC Tryz.prog g [.agg e] (.bool b)) :
  AP Tryz.prog 180 [.imm (.agg e),.ref 1 0] [(1,some (.immb 236 1 [.fn (.func g)]))] (.ret (.imm (.bool (!b))) [(1,some (.immb 236 1 [.fn (.func g)]))]) := by
 refine Ae Be Tryz.func180 (by decide +kernel) rfl [2,3,4] rfl rfl ?_
 refine ag [] rfl (by simp [hel]) ?_
 refine Aw (fr := []) [] [] rfl (by simp) hq trivial rfl rfl rfl rfl ?_
 refine ag [] rfl (by simp) ?_
 exact Ab ⟨_,rfl,tV rfl,⟨rfl,trivial⟩⟩
theorem allC (g : FuncId) (q : List V → Bool) (es : List (List V)) (hes : ∀ e ∈ es,e.length = 2) (hlen : es.length ≤ 9223372036854775806) (hq : ∀ e ∈ es,PureC Tryz.prog g [.agg e] (.bool (q e))) :
  PureC Tryz.prog 170 [.sl es,.fn (.func g)] (.bool (es.all q)) := by
 refine Ae Be Tryz.func170 (by decide +kernel) rfl [1,2,3] rfl rfl ?_
 refine ag [] rfl (by simp) ?_
 refine Aw (fr := []) [(1,1)] [] rfl (by simp) (Vq 180 236 (.fn (.func g)) (fun e => !q e) es hes hlen (fun e he => aB g e (hes e he) (q e) (hq e he))) ⟨⟨rfl,rfl,rfl⟩,trivial⟩ rfl rfl rfl rfl ?_
 refine ag [] rfl (by simp) ?_
 refine Ab ⟨_,rfl,tV (congrArg _ ?_),trivial⟩
 rw [List.any_eq_not_all_not]
 simp
theorem Zo (g : FuncId) (tf : TypeId) (fv : V) (q : V → Bool) (es : List V) (hlen : es.length ≤ 9223372036854775806)
  (hq : ∀ e ∈ es,AP Tryz.prog g [.imm e,.ref 1 0] [(1,some (.immb tf 1 [fv]))] (.ret (.imm (.bool (q e))) [(1,some (.immb tf 1 [fv]))])) :
  AP Tryz.prog 178 [.imm (.sl (es.map fun x => [x])),.fn (.func g) [] [.ref 1 0]] [(1,some (.immb tf 1 [fv]))] (.ret (.imm (.int .i64 (CN q es 0))) [(1,some (.immb tf 1 [fv]))]) := by
 refine Ae Be Tryz.func178 (by decide +kernel) rfl [2,3,4] rfl rfl ?_
 refine ag [] rfl (by simp) ?_
 refine Ah (fun i : Nat => [(8,.imm (.int .i64 i)),(7,.imm (.int .i64 es.length)),(0,.imm (.sl (es.map fun x => [x]))),(1,.fn (.func g) [] [.ref 1 0])]) (fun _ => [(1,some (.immb tf 1 [fv]))]) [2,3,4] (fun i => es.length - i)
  (fun i => i ≤ es.length ∧ CN q es 0 = CN q (es.drop i) i) 0 ⟨Nat.zero_le _,rfl⟩ ⟨rfl,Aq (by simp),rfl,rfl,trivial⟩ ⟨rfl,trivial⟩ rfl fun i hi ih => ?_
 refine ad [] rfl (by simp) ?_
 have hi2 := hi.2
 refine Aa rfl (fun h => ?_) (fun h => ?_)
 ·simp at h
  obtain ⟨e,he⟩ := Ai h
  have hm := List.mem_of_getElem? he
  rw [Aj he] at hi2
  refine ad [] rfl (by simp) ?_
  refine ai rfl (c := [e]) (fun _ => ⟨by simp,by simp [he],rfl⟩) (by simp) ?_
  refine ag [] rfl (by simp) ?_
  refine Aw (fr := []) [(1,1)] [] rfl (by simp) (hq e hm) ⟨⟨rfl,rfl,rfl⟩,trivial⟩ rfl rfl rfl rfl ?_
  refine ag [] rfl (by simp) ?_
  refine Aa rfl (fun h => ?_) (fun h => ?_)
  ·refine ad [] rfl (by simp) ?_
   exact Ab ⟨_,rfl,tV (congrArg _ (by rw [hi2];simp [CN,h])),⟨rfl,trivial⟩⟩
  ·refine ad [] rfl (by simp) ?_
   exact Ad (ih (i + 1) (by omega) ⟨by omega,by rw [hi2];simp [CN,h]⟩) ⟨Aq (Bq (by omega) (by omega)),rfl,rfl,rfl,trivial⟩ ⟨rfl,trivial⟩ rfl
 ·refine ad [] rfl (by simp) ?_
  simp at h
  refine Ab ⟨_,rfl,tV (congrArg _ ?_),⟨rfl,trivial⟩⟩
  rw [hi2,List.drop_eq_nil_of_le (by omega)];rfl
theorem Vp (g : FuncId) (tf : TypeId) (fv : V) (q : V → Bool) (es : List V) (hlen : es.length ≤ 9223372036854775806)
  (hq : ∀ e ∈ es,AP Tryz.prog g [.imm e,.ref 1 0] [(1,some (.immb tf 1 [fv]))] (.ret (.imm (.bool (q e))) [(1,some (.immb tf 1 [fv]))])) :
  AP Tryz.prog 168 [.imm (.sl (es.map fun x => [x])),.fn (.func g) [] [.ref 1 0]] [(1,some (.immb tf 1 [fv]))] (.ret (.imm (.bool (es.any q))) [(1,some (.immb tf 1 [fv]))]) := by
 refine Ae Be Tryz.func168 (by decide +kernel) rfl [2,3,4] rfl rfl ?_
 refine ag [] rfl (by simp) ?_
 refine Aw (fr := []) [(1,1)] [] rfl (by simp) (Zo g tf fv q es hlen hq) ⟨⟨rfl,rfl,rfl⟩,trivial⟩ rfl rfl rfl rfl ?_
 refine ag [] rfl (by simp) ?_
 refine Ab ⟨_,rfl,tV (congrArg _ ?_),⟨rfl,trivial⟩⟩
 rw [Bool.eq_iff_iff,← F8 q es 0]
 simp
theorem ZZ (g : FuncId) (e : V) (b : Bool) (hq : PureC Tryz.prog g [e] (.bool b)) :
  AP Tryz.prog 169 [.imm e,.ref 1 0] [(1,some (.immb 220 1 [.fn (.func g)]))] (.ret (.imm (.bool (!b))) [(1,some (.immb 220 1 [.fn (.func g)]))]) := by
 refine Ae Be Tryz.func169 (by decide +kernel) rfl [2,3,4] rfl rfl ?_
 refine ag [] rfl (by simp) ?_
 refine Aw (fr := []) [] [] rfl (by simp) hq trivial rfl rfl rfl rfl ?_
 refine ag [] rfl (by simp) ?_
 exact Ab ⟨_,rfl,tV rfl,⟨rfl,trivial⟩⟩
theorem allI (g : FuncId) (q : V → Bool) (es : List V) (hlen : es.length ≤ 9223372036854775806) (hq : ∀ e ∈ es,PureC Tryz.prog g [e] (.bool (q e))) :
  PureC Tryz.prog 147 [.sl (es.map fun x => [x]),.fn (.func g)] (.bool (es.all q)) := by
 refine Ae Be Tryz.func147 (by decide +kernel) rfl [1,2,3] rfl rfl ?_
 refine ag [] rfl (by simp) ?_
 refine Aw (fr := []) [(1,1)] [] rfl (by simp) (Vp 169 220 (.fn (.func g)) (fun e => !q e) es hlen (fun e he => ZZ g e (q e) (hq e he))) ⟨⟨rfl,rfl,rfl⟩,trivial⟩ rfl rfl rfl rfl ?_
 refine ag [] rfl (by simp) ?_
 refine Ab ⟨_,rfl,tV (congrArg _ ?_),trivial⟩
 rw [List.any_eq_not_all_not]
 simp
end Go.Hk
namespace Go.Hk
def MP : Sh → Bool
 | .iface | .other => false
 | _ => true
structure PTa where
 t : TypeId
 v : V
 to_ : TypeId
 dst : Option Nat
 todo : List DI
def pta (tt : TT) (n : Nat) (env : Env) (todo : List DI) : Option PTa :=
 match OR todo with
 | some o => match o.guard,o.op with
  | none,.typeAssert x _ to_ true => match EB env x,lk tt to_,BW n o.dst,AQ todo ([],[]) with
   | some (.imm (.iface t v)),some i,true,some (_,_,todo') => match MP i.sh with
    | true => some ⟨t,v,to_,o.dst,todo'⟩
    | false => none
   | _,_,_,_ => none
  | _,_ => none
 | none => none
section
variable {P : Program} {n : Nat} {F : List Nat} {Q : DQ} {tt : TT} {env env' : Env} {st st' : St} {ids ids' : List Nat} {k todo todo' : List DI} {I : Imm} {μ : Mu} {w : World} {a : Act} {Pn : V → Prop} {d : D} {cx : Prop} {ob : List Prop}
theorem Kz {t to_ from_ : TypeId} {i : TyI} {v : Value} (hi : TyOk P to_ i) (hc : MP i.sh = true) {r : Value} (h : (t = to_ ∧ r = .tuple #[v,.bool true]) ∨ (t ≠ to_ ∧ ∃ z,(P.info? to_).bind (·.zero) = some z ∧ r = .tuple #[z,.bool false])) :
  (Instr.typeAssert (.iface t v) from_ to_ true).run P w = .ok r w := by
 have hu : ∃ dd,P.underlying to_ = some dd ∧ ∀ ms,dd ≠ .interface ms := by
  have := hi.sh
  generalize i.sh = sh at this hc
  cases sh <;> simp only [MP,Bool.false_eq_true] at hc <;> simp only [BS] at this
  case struct fs => obtain ⟨f,h1,_⟩ := this;exact ⟨_,h1,fun _ h => by cases h⟩
  case func => obtain ⟨a,b,c,h1⟩ := this;exact ⟨_,h1,fun _ h => by cases h⟩
  all_goals exact ⟨_,this,fun _ h => by cases h⟩
 obtain ⟨dd,hd,hne⟩ := hu
 rcases h with ⟨rfl,rfl⟩ | ⟨hn,z,hz,rfl⟩
 ·cases dd <;> first | exact absurd rfl (hne _) | simp [Instr.typeAssert,run_underlying hd]
 ·have hz := Dr (w := w) hz
  cases dd <;> first | exact absurd rfl (hne _) | simp [Instr.typeAssert,run_underlying hd,hn,hz]
theorem JV (htt : TTok P tt) {t0 to_ : TypeId} {v0 : V} {d0 : Option Nat} {todo0 : List DI} (h : pta tt n env todo = some ⟨t0,v0,to_,d0,todo0⟩) {r : List V}
  (hr : (t0 = to_ ∧ r = [v0,.bool true]) ∨ (t0 ≠ to_ ∧ ∃ z zd,(P.info? to_).bind (·.zero) = some z ∧ (∀ I,RepV I z zd) ∧ r = [zd,.bool false]))
  (hk : G P n F Q todo0 (Bo d0 (.imm (.tup r)) env) st ids) : G P n F Q todo env st ids := by
 unfold pta at h
 split at h
 ·rename_i o ho
  split at h
  ·rename_i x from_ to' hg hop
   split at h
   ·rename_i t v i all o' todo' hx hi hd h1
    split at h
    ·rename_i hc
     cases h
     have ho' : o' = o := CE ho h1
     subst ho'
     refine BA (fr := []) (wr := []) (rd := []) h1 ?_ hd (fun c hc => by rw [hop] at hc;cases hc) hk
     intro I μ st1 ids1 a w hag hst hon
     refine ⟨fun _ => ?_,fun hw => by rw [wanted_none hg] at hw;cases hw⟩
     have hops := Ba hon
     rw [hop] at hops
     have rx := (hops x (by simp [Op.operands]) _ hx).immInv
     generalize hv : a.eval x = v at rx
     cases rx with
     | iface _ u _ hu =>
      have fin : ∀ (z : Value) (b : Bool) (zd : V),(Instr.typeAssert (.iface t0 u) from_ to_ true).run P w = .ok (.tuple #[z,.bool b]) w → RepV I z zd → r = [zd,.bool b] →
        valX P ((execOp a.eval o').run P w) (fun v w' => ∃ I' μ',StRep I' μ' ([] ++ st1) ids1 w' ∧ RepD I' μ' v (.imm (.tup r)) ∧ μ.le μ' ∧ Ext I μ st1 w I' μ' ([] ++ st1) w') (JJ (LZ Q) I μ st1 w) := by
       intro z b zd h1 h2 h3
       have hrun : (execOp a.eval o').run P w = .ok (.value (.tuple #[z,.bool b])) w := by
        simp only [execOp,hop,hv]
        exact Am h1
       rw [hrun,h3]
       refine ⟨I,μ,hst,.imm _ _ (.tup _ _ rfl fun i c x hc hx => ?_),Mu.le_refl μ,Ext.refl _ _ _ _⟩
       match i,hc,hx with
       | 0,hc,hx => cases hc;cases hx;exact h2
       | 1,hc,hx => cases hc;cases hx;exact .bool _
       | i + 2,hc,hx => simp at hx
      rcases hr with ⟨e1,e2⟩ | ⟨e1,z,zd,e2,e3,e4⟩
      ·exact fin u true v0 (Kz (htt _ _ hi) hc (.inl ⟨e1,rfl⟩)) hu e2
      ·exact fin z false zd (Kz (htt _ _ hi) hc (.inr ⟨e1,z,e2,rfl⟩)) (e3 I) e4
    ·cases h
   ·cases h
  ·cases h
 ·cases h
end
end Go.Hk
namespace Go.Hk
open Go.Proofs
mutual
theorem EJ : ∀ {a b : Ty},dTyc a = dTyc b → a = b
 | .mk s n x ps,.mk s' n' x' ps',h => by
  simp only [dTyc,List.cons.injEq,V.int.injEq,V.str.injEq,V.sl.injEq,and_true,true_and] at h
  obtain ⟨h1,h2,h3,h4⟩ := h
  subst h1;subst h2;subst h3
  rw [EI h4]
theorem EI : ∀ {a b : List Ty},Bg a = Bg b → a = b
 | [],[],_ => rfl
 | [],_ :: _,h => by simp [Bg] at h
 | _ :: _,[],h => by simp [Bg] at h
 | x :: r,y :: t,h => by
  simp only [Bg,List.cons.injEq] at h
  rw [EJ h.1,EI h.2]
end
theorem MJ {a b : Cd} (h : Cx a = Cx b) : a = b := by
 obtain ⟨a1,a2⟩ := a
 obtain ⟨b1,b2⟩ := b
 simp only [Cx,List.cons.injEq,V.str.injEq,V.sl.injEq,and_true] at h
 rw [h.1,EI h.2]
open Classical in
noncomputable def qOf {α β : Type} (d : α → β) (f : α → Bool) (e : β) : Bool := decide (∃ t,d t = e ∧ f t = true)
open Classical in
theorem G5 {α β : Type} {d : α → β} (hd : ∀ {a b},d a = d b → a = b) (f : α → Bool) (t : α) : qOf d f (d t) = f t := by
 unfold qOf
 by_cases h : f t = true
 ·rw [h];exact decide_eq_true ⟨t,rfl,h⟩
 ·simp only [Bool.not_eq_true] at h
  rw [h]
  refine decide_eq_false fun ⟨u,h1,h2⟩ => ?_
  rw [hd h1,h] at h2
  cases h2
theorem ON {α β : Type} {d : α → β} (hd : ∀ {a b},d a = d b → a = b) (f : α → Bool) (l : List α) : (l.map d).all (qOf d f) = l.all f := by
 rw [List.all_map]
 congr 1
 funext t
 exact G5 hd f t
def Jq (c : Cd) : Bool := BZ c.name && decide ((c.args.length : Int) ≤ 3) && c.args.all (Bb false)
def DR (d : Dt) : Bool := BZ d.name && decide ((1 : Int) ≤ d.cons.length) && decide ((d.cons.length : Int) ≤ 5) && d.cons.all Jq
def Jb (f : Fd) : Bool := CG f.name && CG f.param && Bb false f.from_ && Bb false f.to_ && Ir f.body
theorem X1 (ts : List Ty) (h : ts.length ≤ 9223372036854775806) : PureC Tryz.prog 172 [.sl (Bg ts),.fn (.func 173)] (.bool (ts.all (Bb false))) := by
 have := allT 173 (qOf dTyc (Bb false)) (Bg ts) (fun e he => by rw [BM] at he;obtain ⟨t,_,rfl⟩ := List.mem_map.1 he;simp) (by simpa using h) (fun e he => by
  rw [BM] at he
  obtain ⟨t,_,rfl⟩ := List.mem_map.1 he
  rw [G5 EJ]
  exact L3 t)
 rw [BM,ON EJ] at this
 rw [BM]
 exact this
theorem U1 (c : Cd) : PureC Tryz.prog 171 [.agg (Cx c)] (.bool (Jq c)) := by
 obtain ⟨nm,ts⟩ := c
 refine Az fun hv => ?_
 simp [Bh,CP,Cx,maxLen] at hv
 refine Ae Be Tryz.func171 (by decide +kernel) rfl [1,2,3] rfl rfl ?_
 refine ag [] rfl (by simp [Af]) ?_
 refine Ac rfl (fun _ => Cf nm) (by simp [Af]) ?_
 refine ag [] rfl (by simp [Af]) ?_
 refine Ac rfl (fun hg => X1 ts (by simp [Af] at hg;omega)) (by simp [Af]) ?_
 refine ag [] rfl (by simp [Af] <;> grind) ?_
 refine Ab ⟨_,rfl,tV (congrArg _ ?_),trivial⟩
 simp [Jq] <;> grind
theorem Y2 (cs : List Cd) (h : cs.length ≤ 9223372036854775806) : PureC Tryz.prog 170 [.sl (cs.map Cx),.fn (.func 171)] (.bool (cs.all Jq)) := by
 have := allC 171 (qOf Cx Jq) (cs.map Cx) (fun e he => by obtain ⟨t,_,rfl⟩ := List.mem_map.1 he;rfl) (by simpa using h) (fun e he => by
  obtain ⟨t,_,rfl⟩ := List.mem_map.1 he
  rw [G5 MJ]
  exact U1 t)
 rw [ON MJ] at this
 exact this
def ID (d : Dt) : V := .iface 214 (.agg (B5 d))
def G7 (f : Fd) : V := .iface 216 (.agg (Lg f))
theorem O4 : ∃ z,(Tryz.prog.info? 214).bind (·.zero) = some z ∧ ∀ I,RepV I z (.agg [.str [],.sl []]) := by
 refine ⟨.agg #[.string ⟨#[]⟩,.slice none 0 0],by kernel_rfl,fun I => .agg _ _ rfl (by decide) fun i c x hc hx => ?_⟩
 match i,hc,hx with
 | 0,hc,hx => cases hc;cases hx;exact .str _ _ rfl
 | 1,hc,hx => cases hc;cases hx;exact .slnil
 | i + 2,hc,hx => simp at hx
theorem RM (d : Dt) : PureC Tryz.prog 148 [ID d] (.bool (DR d)) := by
 obtain ⟨nm,cs⟩ := d
 refine Az fun hv => ?_
 simp [Bh,CP,ID,B5,maxLen] at hv
 refine Ae Be Tryz.func148 (by decide +kernel) rfl [1,2,3,4] rfl rfl ?_
 refine ag [] rfl (by simp [Af]) ?_
 refine JV Be rfl (.inl ⟨rfl,rfl⟩) ?_
 refine ag [.a] rfl (by simp [Af]) ?_
 refine Ac rfl (fun _ => Cf nm) (by simp [Af]) ?_
 refine ag [] rfl (by simp [Af]) ?_
 refine Ac rfl (fun hg => Y2 cs (by simp [Af] at hg;omega)) (by simp [Af]) ?_
 refine ag [] rfl (by simp [Af] <;> grind) ?_
 refine Ab ⟨_,rfl,tV (congrArg _ ?_),trivial⟩
 simp [DR] <;> grind
theorem U0 (f : Fd) : PureC Tryz.prog 148 [G7 f] (.bool (Jb f)) := by
 obtain ⟨nm,pm,⟨s1,n1,x1,p1⟩,⟨s2,n2,x2,p2⟩,⟨o3,n3,x3,k3,p3⟩⟩ := f
 obtain ⟨z,hz,hzr⟩ := O4
 refine Az fun hv => ?_
 refine Ae Be Tryz.func148 (by decide +kernel) rfl [1,2,3,4] rfl rfl ?_
 refine ag [] rfl (by simp [Af]) ?_
 refine JV Be rfl (.inr ⟨by decide,z,_,hz,hzr,rfl⟩) ?_
 refine ag [.a] rfl (by simp [Af]) ?_
 refine JV Be rfl (.inl ⟨rfl,rfl⟩) ?_
 refine ag [.a] rfl (by simp [Af]) ?_
 refine Ac rfl (fun _ => Et nm) (by simp [Af]) ?_
 refine ag [] rfl (by simp [Af]) ?_
 refine Ac rfl (fun _ => Et pm) (by simp [Af]) ?_
 refine ag [] rfl (by simp [Af]) ?_
 refine Ac rfl (fun _ => L3 (.mk s1 n1 x1 p1)) (by simp [Af]) ?_
 refine ag [] rfl (by simp [Af]) ?_
 refine Ac rfl (fun _ => L3 (.mk s2 n2 x2 p2)) (by simp [Af]) ?_
 refine ag [] rfl (by simp [Af]) ?_
 refine Ac rfl (fun _ => XB (.mk o3 n3 x3 k3 p3)) (by simp [Af]) ?_
 refine ag [] rfl (by simp [Af] <;> grind) ?_
 refine Ab ⟨_,rfl,tV (congrArg _ ?_),trivial⟩
 simp [Jb,GU] <;> grind
inductive Pt2 where
 | d (x : Dt)
 | f (x : Fd)
def Xp : Pt2 → V
 | .d x => ID x
 | .f x => G7 x
def Qd : Pt2 → Bool
 | .d x => DR x
 | .f x => Jb x
theorem Wf (p : Pt2) : PureC Tryz.prog 148 [Xp p] (.bool (Qd p)) := by
 cases p with
 | d x => exact RM x
 | f x => exact U0 x
mutual
theorem Xo : ∀ {a b : Tm},Bz a = Bz b → a = b
 | .mk s n x ks ps,.mk s' n' x' ks' ps',h => by
  simp only [Bz,List.cons.injEq,V.int.injEq,V.str.injEq,V.sl.injEq,and_true,true_and] at h
  obtain ⟨h1,h2,h3,h4,h5⟩ := h
  subst h1;subst h2;subst h3
  rw [MH h4,EI h5]
theorem MH : ∀ {a b : List Tm},Ip a = Ip b → a = b
 | [],[],_ => rfl
 | [],_ :: _,h => by simp [Ip] at h
 | _ :: _,[],h => by simp [Ip] at h
 | x :: r,y :: t,h => by
  simp only [Ip,List.cons.injEq] at h
  rw [Xo h.1,MH h.2]
end
theorem IM : ∀ {a b : List Cd},a.map Cx = b.map Cx → a = b
 | [],[],_ => rfl
 | [],_ :: _,h => by simp at h
 | _ :: _,[],h => by simp at h
 | x :: r,y :: t,h => by
  simp only [List.map_cons,List.cons.injEq] at h
  rw [MJ h.1,IM h.2]
theorem TX {a b : Pt2} (h : Xp a = Xp b) : a = b := by
 cases a with
 | d x => cases b with
  | d y =>
   obtain ⟨x1,x2⟩ := x
   obtain ⟨y1,y2⟩ := y
   simp only [Xp,ID,B5,V.iface.injEq,V.agg.injEq,List.cons.injEq,V.str.injEq,V.sl.injEq,true_and,and_true] at h
   rw [h.1,IM h.2]
  | f y => simp [Xp,ID,G7] at h
 | f x => cases b with
  | d y => simp [Xp,ID,G7] at h
  | f y =>
   obtain ⟨nm,pm,⟨s1,n1,x1,p1⟩,⟨s2,n2,x2,p2⟩,⟨o3,n3,x3,k3,p3⟩⟩ := x
   obtain ⟨nm',pm',⟨s1',n1',x1',p1'⟩,⟨s2',n2',x2',p2'⟩,⟨o3',n3',x3',k3',p3'⟩⟩ := y
   simp only [Xp,G7,Lg,dTyc,Bz,V.iface.injEq,V.agg.injEq,List.cons_append,List.nil_append,List.cons.injEq,V.str.injEq,V.int.injEq,V.sl.injEq,true_and,and_true] at h
   obtain ⟨h1,h2,h3,h4,h5,h6,h7,h8,h9,h10,h11,h12,h13,h14,h15⟩ := h
   rw [h1,h2,h3,h4,h5,EI h6,h7,h8,h9,EI h10,h11,h12,h13,MH h14,EI h15]
theorem R5 (ps : List Pt2) (h : ps.length ≤ 9223372036854775806) : PureC Tryz.prog 147 [.sl (ps.map fun p => [Xp p]),.fn (.func 148)] (.bool (ps.all Qd)) := by
 have := allI 148 (qOf Xp Qd) (ps.map Xp) (by simpa using h) (fun e he => by
  obtain ⟨t,_,rfl⟩ := List.mem_map.1 he
  rw [G5 TX]
  exact Wf t)
 rw [ON TX,List.map_map] at this
 exact this
def Gq (m : Md) : Bool := CG m.name && decide ((m.datas.length : Int) ≤ 4) && decide ((1 : Int) ≤ m.funs.length) && decide ((m.funs.length : Int) ≤ 5) && m.datas.all DR && m.funs.all Jb
def HA (l : List Pt2) : List (List V) := l.map fun p => [Xp p]
@[simp] theorem rowP_length (l : List Pt2) : (HA l).length = l.length := by simp [HA]
def Ys (b : Bool) (k : Nat) : D := match b with
 | false => .nils
 | true => .own 2 k
def aJ (b : Bool) (m : Md) (es : List (List V)) : St := match b with
 | false => [(1,some (.immb 147 3 (Pz m)))]
 | true => [(2,some (.row 219 1 es)),(1,some (.immb 147 3 (Pz m)))]
theorem LP (a b : List Pt2) : HA (a ++ b) = HA a ++ HA b := by simp [HA]
theorem TZ (m : Md) (b : Bool) (es0 : List (List V)) (hb : b = false → es0 = []) (he0 : es0 = HA (m.datas.map .d)) (hd : (m.datas.length : Int) ≤ 4) (hf1 : (1 : Int) ≤ m.funs.length) (hf : (m.funs.length : Int) ≤ 5) :
  DGo Tryz.prog Tryz.f116.ntmps (Db []) (Nt ZE Tryz.f116.results.toList (.ret (.imm (GU (m.datas.all DR && m.funs.all Jb))) []))
   [.code (EQ Tryz.f116 4)] [(3,Ys b es0.length),(1,.ref 1 0)] (aJ b m es0) [3,4] := by
 cases b with
 | false =>
  have := hb rfl
  subst this
  refine ad [] rfl (by simp) ?_
  refine Ah (fun y : Nat × Bool × List (List V) => [(47,.imm (.int .i64 y.1)),(46,.imm (.int .i64 m.funs.length)),(45,.imm (.sl (m.funs.map Lg))),(3,Ys y.2.1 y.2.2.length),(1,.ref 1 0)])
   (fun y => aJ y.2.1 m y.2.2) [3,4] (fun y => m.funs.length - y.1)
   (fun y => y.1 ≤ m.funs.length ∧ y.2.2 = HA (m.datas.map .d ++ (m.funs.take y.1).map .f) ∧ (y.2.1 = false → y.2.2 = [])) (0,false,[]) ⟨Nat.zero_le _,by simpa using he0,fun _ => rfl⟩ ⟨rfl,Aq (by simp),rfl,rfl,rfl,trivial⟩ ⟨rfl,trivial⟩ rfl fun y hi ih => ?_
  obtain ⟨i,b,es⟩ := y
  obtain ⟨hi1,hi2,hi3⟩ := hi
  simp only at hi1 hi2 hi3
  have hlen : es.length ≤ 9 := by
   have := congrArg List.length hi2
   simp at this
   omega
  have hnext : ∀ f,m.funs[i]? = some f → es ++ [[G7 f]] = HA (m.datas.map .d ++ (m.funs.take (i + 1)).map .f) := fun f hf => by
   rw [AM hf,List.map_append,← List.append_assoc,LP,← hi2];rfl
  have hend : ¬ i < m.funs.length → es = HA (m.datas.map .d ++ m.funs.map .f) := fun h => by
   rw [hi2,List.take_of_length_le (by omega)]
  cases b with
  | false =>
   have hi3 := hi3 rfl
   subst hi3
   refine ad [] rfl (by simp) ?_
   refine Aa rfl (fun h => ?_) (fun h => ?_)
   ·simp at h
    obtain ⟨f,hf⟩ := Ai h
    refine ad [] rfl (by simp) ?_
    refine ai rfl (c := Lg f) (fun _ => ⟨by simp,by simpa using AC hf,by simp⟩) (by simp) ?_
    refine ag [] rfl (by simp) ?_
    refine BI Be rfl ⟨by simp,by simp [maxLen],by simp,trivial⟩ ?_
    refine ag [] rfl (by simp) ?_
    refine B2 2 4 rfl ?_
    exact Ad (ih (i + 1,true,[] ++ [[G7 f]]) (by simp only;omega) ⟨by simp only;omega,hnext f hf,fun h => by cases h⟩) ⟨Aq (Bq (by simp only;omega) (by simp only;omega)),rfl,rfl,rfl,rfl,trivial⟩ ⟨rfl,rfl,trivial⟩ rfl
   ·simp at h
    have := congrArg List.length (hend (by omega))
    simp at this
    omega
  | true =>
   refine ad [] rfl (by simp) ?_
   refine Aa rfl (fun h => ?_) (fun h => ?_)
   ·simp at h
    obtain ⟨f,hf⟩ := Ai h
    refine ad [] rfl (by simp) ?_
    refine ai rfl (c := Lg f) (fun _ => ⟨by simp,by simpa using AC hf,by simp⟩) (by simp) ?_
    refine ag [] rfl (by simp) ?_
    refine BI Be rfl ⟨by simp,by simp [maxLen];omega,by simp;omega,trivial⟩ ?_
    refine ag [] rfl (by simp) ?_
    refine B2 2 4 rfl ?_
    exact Ad (ih (i + 1,true,es ++ [[G7 f]]) (by simp only;omega) ⟨by simp only;omega,hnext f hf,fun h => by cases h⟩) ⟨Aq (Bq (by simp only;omega) (by simp only;omega)),rfl,rfl,rfl,rfl,trivial⟩ ⟨rfl,rfl,trivial⟩ rfl
   ·simp at h
    refine Ar rfl ?_
    refine BL 2 rfl ?_
    refine ad [] rfl (by simp) ?_
    refine Ac rfl (fun _ => by rw [hend (by omega)];exact R5 _ (by simp;omega)) (by simp) ?_
    refine ag [] rfl (by simp) ?_
    have hall : (m.datas.map Pt2.d ++ m.funs.map Pt2.f).all Qd = (m.datas.all DR && m.funs.all Jb) := by
     rw [List.all_append,List.all_map,List.all_map];rfl
    rw [hall]
    refine Aa rfl (fun h => ?_) (fun h => ?_)
    ·refine ad [] rfl (by simp) ?_
     refine Ab ⟨_,rfl,tV ?_,trivial⟩
     simp only [Bool.not_eq_true'] at h
     rw [h];rfl
    ·refine ad [] rfl (by simp) ?_
     refine Ab ⟨_,rfl,tV ?_,trivial⟩
     simp only [Bool.not_eq_false'] at h
     rw [h];rfl
 | true =>
  refine ad [] rfl (by simp) ?_
  refine Ah (fun y : Nat × Bool × List (List V) => [(47,.imm (.int .i64 y.1)),(46,.imm (.int .i64 m.funs.length)),(45,.imm (.sl (m.funs.map Lg))),(3,Ys y.2.1 y.2.2.length),(1,.ref 1 0)])
   (fun y => aJ y.2.1 m y.2.2) [3,4] (fun y => m.funs.length - y.1)
   (fun y => y.1 ≤ m.funs.length ∧ y.2.2 = HA (m.datas.map .d ++ (m.funs.take y.1).map .f) ∧ (y.2.1 = false → y.2.2 = [])) (0,true,es0) ⟨Nat.zero_le _,by simpa using he0,fun h => by cases h⟩ ⟨rfl,Aq (by simp),rfl,rfl,rfl,trivial⟩ ⟨rfl,rfl,trivial⟩ rfl fun y hi ih => ?_
  obtain ⟨i,b,es⟩ := y
  obtain ⟨hi1,hi2,hi3⟩ := hi
  simp only at hi1 hi2 hi3
  have hlen : es.length ≤ 9 := by
   have := congrArg List.length hi2
   simp at this
   omega
  have hnext : ∀ f,m.funs[i]? = some f → es ++ [[G7 f]] = HA (m.datas.map .d ++ (m.funs.take (i + 1)).map .f) := fun f hf => by
   rw [AM hf,List.map_append,← List.append_assoc,LP,← hi2];rfl
  have hend : ¬ i < m.funs.length → es = HA (m.datas.map .d ++ m.funs.map .f) := fun h => by
   rw [hi2,List.take_of_length_le (by omega)]
  cases b with
  | false =>
   have hi3 := hi3 rfl
   subst hi3
   refine ad [] rfl (by simp) ?_
   refine Aa rfl (fun h => ?_) (fun h => ?_)
   ·simp at h
    obtain ⟨f,hf⟩ := Ai h
    refine ad [] rfl (by simp) ?_
    refine ai rfl (c := Lg f) (fun _ => ⟨by simp,by simpa using AC hf,by simp⟩) (by simp) ?_
    refine ag [] rfl (by simp) ?_
    refine BI Be rfl ⟨by simp,by simp [maxLen],by simp,trivial⟩ ?_
    refine ag [] rfl (by simp) ?_
    refine B2 2 4 rfl ?_
    exact Ad (ih (i + 1,true,[] ++ [[G7 f]]) (by simp only;omega) ⟨by simp only;omega,hnext f hf,fun h => by cases h⟩) ⟨Aq (Bq (by simp only;omega) (by simp only;omega)),rfl,rfl,rfl,rfl,trivial⟩ ⟨rfl,rfl,trivial⟩ rfl
   ·simp at h
    have := congrArg List.length (hend (by omega))
    simp at this
    omega
  | true =>
   refine ad [] rfl (by simp) ?_
   refine Aa rfl (fun h => ?_) (fun h => ?_)
   ·simp at h
    obtain ⟨f,hf⟩ := Ai h
    refine ad [] rfl (by simp) ?_
    refine ai rfl (c := Lg f) (fun _ => ⟨by simp,by simpa using AC hf,by simp⟩) (by simp) ?_
    refine ag [] rfl (by simp) ?_
    refine BI Be rfl ⟨by simp,by simp [maxLen];omega,by simp;omega,trivial⟩ ?_
    refine ag [] rfl (by simp) ?_
    refine B2 2 4 rfl ?_
    exact Ad (ih (i + 1,true,es ++ [[G7 f]]) (by simp only;omega) ⟨by simp only;omega,hnext f hf,fun h => by cases h⟩) ⟨Aq (Bq (by simp only;omega) (by simp only;omega)),rfl,rfl,rfl,rfl,trivial⟩ ⟨rfl,rfl,trivial⟩ rfl
   ·simp at h
    refine Ar rfl ?_
    refine BL 2 rfl ?_
    refine ad [] rfl (by simp) ?_
    refine Ac rfl (fun _ => by rw [hend (by omega)];exact R5 _ (by simp;omega)) (by simp) ?_
    refine ag [] rfl (by simp) ?_
    have hall : (m.datas.map Pt2.d ++ m.funs.map Pt2.f).all Qd = (m.datas.all DR && m.funs.all Jb) := by
     rw [List.all_append,List.all_map,List.all_map];rfl
    rw [hall]
    refine Aa rfl (fun h => ?_) (fun h => ?_)
    ·refine ad [] rfl (by simp) ?_
     refine Ab ⟨_,rfl,tV ?_,trivial⟩
     simp only [Bool.not_eq_true'] at h
     rw [h];rfl
    ·refine ad [] rfl (by simp) ?_
     refine Ab ⟨_,rfl,tV ?_,trivial⟩
     simp only [Bool.not_eq_false'] at h
     rw [h];rfl
theorem Na (m : Md) : PureC Tryz.prog 116 [.agg (Pz m)] (GU (Gq m)) := by
 refine Az fun hv => ?_
 have hv1 : m.datas.length ≤ 9223372036854775807 ∧ m.funs.length ≤ 9223372036854775807 := by
  simp [Bh,CP,Pz,maxLen] at hv;omega
 refine Ae Be Tryz.func116 (by decide +kernel) rfl [1,2,3,4] rfl rfl ?_
 refine ag [] rfl (by simp [Af]) ?_
 refine Ac rfl (fun _ => Et m.name) (by simp [Af]) ?_
 refine ag [] rfl (by simp [Af] <;> grind) ?_
 refine Aa rfl (fun h => ?_) (fun h => ?_)
 ·refine ad [] rfl (by simp) ?_
  refine Ab ⟨_,rfl,tV (congrArg _ ?_),trivial⟩
  have : Gq m = false := by
   simp at h
   simp [Gq]
   grind
  rw [this];rfl
 have hx : CG m.name = true ∧ (m.datas.length : Int) ≤ 4 ∧ (1 : Int) ≤ m.funs.length ∧ (m.funs.length : Int) ≤ 5 := by
  simp at h
  refine ⟨?_,?_,?_,?_⟩ <;> grind
 clear h
 have hres : Gq m = (m.datas.all DR && m.funs.all Jb) := by simp [Gq,hx.1,hx.2.1,hx.2.2.1,hx.2.2.2]
 rw [hres]
 refine ad [] rfl (by simp) ?_
 refine Ah (fun y : Nat × Bool × List (List V) => [(33,.imm (.int .i64 y.1)),(32,.imm (.int .i64 m.datas.length)),(31,.imm (.sl (m.datas.map B5))),(3,Ys y.2.1 y.2.2.length),(1,.ref 1 0)])
  (fun y => aJ y.2.1 m y.2.2) [3,4] (fun y => m.datas.length - y.1)
  (fun y => y.1 ≤ m.datas.length ∧ y.2.2 = HA ((m.datas.take y.1).map .d) ∧ (y.2.1 = false → y.2.2 = [])) (0,false,[]) ⟨Nat.zero_le _,rfl,fun _ => rfl⟩ ⟨rfl,Aq (by simp),rfl,rfl,rfl,trivial⟩ ⟨rfl,trivial⟩ rfl fun y hi ih => ?_
 obtain ⟨i,b,es⟩ := y
 obtain ⟨hi1,hi2,hi3⟩ := hi
 simp only at hi1 hi2 hi3
 have hlen : es.length ≤ 4 := by
  have := congrArg List.length hi2
  simp at this
  omega
 have hend : ¬ i < m.datas.length → es = HA (m.datas.map .d) := fun h => by
  rw [hi2,List.take_of_length_le (by omega)]
 have hnext : ∀ d,m.datas[i]? = some d → es ++ [[ID d]] = HA ((m.datas.take (i + 1)).map .d) := fun d hd => by
  rw [AM hd,List.map_append,LP,← hi2];rfl
 cases b with
 | false =>
  have hi3 := hi3 rfl
  subst hi3
  refine ad [] rfl (by simp) ?_
  refine Aa rfl (fun h => ?_) (fun h => ?_)
  ·simp at h
   obtain ⟨d,hd⟩ := Ai h
   refine ad [] rfl (by simp) ?_
   refine ai rfl (c := B5 d) (fun _ => ⟨by simp,by simpa using AC hd,by simp⟩) (by simp) ?_
   refine ag [] rfl (by simp) ?_
   refine BI Be rfl ⟨by simp,by simp [maxLen],by simp,trivial⟩ ?_
   refine ag [] rfl (by simp) ?_
   refine B2 2 4 rfl ?_
   exact Ad (ih (i + 1,true,[] ++ [[ID d]]) (by simp only;omega) ⟨by simp only;omega,hnext d hd,fun h => by cases h⟩) ⟨Aq (Bq (by simp only;omega) (by simp only;omega)),rfl,rfl,rfl,rfl,trivial⟩ ⟨rfl,rfl,trivial⟩ rfl
  ·simp at h
   refine Ar rfl ?_
   exact Ad (TZ m false [] (fun _ => rfl) (hend (by omega)) hx.2.1 hx.2.2.1 hx.2.2.2) ⟨rfl,rfl,trivial⟩ ⟨rfl,trivial⟩ rfl
 | true =>
  refine ad [] rfl (by simp) ?_
  refine Aa rfl (fun h => ?_) (fun h => ?_)
  ·simp at h
   obtain ⟨d,hd⟩ := Ai h
   refine ad [] rfl (by simp) ?_
   refine ai rfl (c := B5 d) (fun _ => ⟨by simp,by simpa using AC hd,by simp⟩) (by simp) ?_
   refine ag [] rfl (by simp) ?_
   refine BI Be rfl ⟨by simp,by simp [maxLen];omega,by simp;omega,trivial⟩ ?_
   refine ag [] rfl (by simp) ?_
   refine B2 2 4 rfl ?_
   exact Ad (ih (i + 1,true,es ++ [[ID d]]) (by simp only;omega) ⟨by simp only;omega,hnext d hd,fun h => by cases h⟩) ⟨Aq (Bq (by simp only;omega) (by simp only;omega)),rfl,rfl,rfl,rfl,trivial⟩ ⟨rfl,rfl,trivial⟩ rfl
  ·simp at h
   refine Ar rfl ?_
   exact Ad (TZ m true es (fun h => by cases h) (hend (by omega)) hx.2.1 hx.2.2.1 hx.2.2.2) ⟨rfl,rfl,trivial⟩ ⟨rfl,rfl,trivial⟩ rfl
def Hj (s n : Int) (x : Str) (k : Int) : Bool :=
 if s = 1 then decide (-1000000000 ≤ n) && decide (n ≤ 1000000000) && (x == []) && (k == 0)
 else if s = 2 then (n == 0 || n == 1) && (x == []) && (k == 0)
 else if s = 3 ∨ s = 5 then n == 0 && x == [] && k == 0
 else if s = 4 then n == 0 && BZ x && decide (k ≤ 3)
 else false
theorem U8 (v : Ty) (k : Int) : PureC Tryz.prog 126 [.agg (TK v),.int .i64 k] (.bool (match v with | .mk s n x _ => Hj s n x k)) := by
 obtain ⟨s,n,x,ps⟩ := v
 refine Ae Ap Tryz.func126 (by decide +kernel) rfl [1,2,3] rfl rfl ?_
 simp only [Hj,TK]
 refine bg [] rfl (by simp) ?_
 by_cases h1 : s = 1
 ·subst h1
  refine Aa rfl (fun h => ?_) (fun h => by simp at h)
  refine bd [] rfl (by simp [Af]) ?_
  refine Ab ⟨_,rfl,tV (congrArg _ ?_),trivial⟩
  simp [Bool.and_assoc]
 rw [if_neg h1]
 refine Aa rfl (fun h => absurd (by simpa using h) h1) (fun h => ?_)
 clear h
 refine bd [] rfl (by simp) ?_
 by_cases h2 : s = 2
 ·subst h2
  refine Aa rfl (fun h => ?_) (fun h => by simp at h)
  refine bd [] rfl (by simp [Af]) ?_
  refine Ab ⟨_,rfl,tV (congrArg _ ?_),trivial⟩
  simp [Bool.and_assoc]
 rw [if_neg h2]
 refine Aa rfl (fun h => absurd (by simpa using h) h2) (fun h => ?_)
 clear h
 refine bd [] rfl (by simp) ?_
 by_cases h3 : s = 3
 ·subst h3
  refine Aa rfl (fun h => ?_) (fun h => by simp at h)
  refine bd [] rfl (by simp) ?_
  refine Aa rfl (fun h => ?_) (fun h => by simp at h)
  refine bd [] rfl (by simp [Af]) ?_
  refine Ab ⟨_,rfl,tV (congrArg _ ?_),trivial⟩
  simp [Bool.and_assoc]
 refine Aa rfl (fun h => absurd (by simpa using h) h3) (fun h => ?_)
 clear h
 refine bd [] rfl (by simp) ?_
 by_cases h5 : s = 5
 ·subst h5
  refine Aa rfl (fun h => ?_) (fun h => by simp at h)
  refine bd [] rfl (by simp [Af]) ?_
  refine Ab ⟨_,rfl,tV (congrArg _ ?_),trivial⟩
  simp [Bool.and_assoc]
 rw [if_neg (by simp [h3,h5])]
 refine Aa rfl (fun h => absurd (by simpa using h) h5) (fun h => ?_)
 clear h
 refine bd [] rfl (by simp) ?_
 by_cases h4 : s = 4
 ·subst h4
  refine Aa rfl (fun h => ?_) (fun h => by simp at h)
  refine bd [] rfl (by simp) ?_
  refine Ac rfl (fun _ => Cf x) (by simp [Af]) ?_
  refine bg [] rfl (by simp [Af]) ?_
  refine Ab ⟨_,rfl,tV (congrArg _ ?_),trivial⟩
  simp [Bool.and_assoc]
 rw [if_neg h4]
 refine Aa rfl (fun h => absurd (by simpa using h) h4) (fun h => ?_)
 clear h
 refine bd [] rfl (by simp) ?_
 exact Ab ⟨_,rfl,tV rfl,trivial⟩
theorem Zm (g : FuncId) (q : List V → Bool) (es : List (List V)) (hes : ∀ e ∈ es,e.length = 4) (hlen : es.length ≤ 9223372036854775807)
  (hq : ∀ e ∈ es,PureC Tryz.prog g [.agg e] (.bool (q e))) :
  PureC Tryz.prog 158 [.sl es,.fn (.func g)] (.int .i64 (CN q es 0)) := by
 refine Ae Ap Tryz.func158 (by decide +kernel) rfl [2,3,4] rfl rfl ?_
 refine bg [] rfl (by simp) ?_
 refine Ah (fun i : Nat => [(8,.imm (.int .i64 i)),(7,.imm (.int .i64 es.length)),(0,.imm (.sl es)),(1,.imm (.fn (.func g)))]) (fun _ => []) [2,3,4] (fun i => es.length - i)
  (fun i => i ≤ es.length ∧ CN q es 0 = CN q (es.drop i) i) 0 ⟨Nat.zero_le _,rfl⟩ ⟨rfl,Aq (by simp),rfl,rfl,trivial⟩ trivial rfl fun i hi ih => ?_
 refine bd [] rfl (by simp) ?_
 have hi2 := hi.2
 refine Aa rfl (fun h => ?_) (fun h => ?_)
 ·simp at h
  obtain ⟨e,he⟩ := Ai h
  have hm := List.mem_of_getElem? he
  rw [Aj he] at hi2
  refine bd [] rfl (by simp) ?_
  refine bi rfl (c := e) (fun _ => ⟨by simp,by simpa using he,hes e hm⟩) (by simp) ?_
  refine bg [] rfl (by simp [hes e hm]) ?_
  refine Ac rfl (fun _ => hq e hm) (by simp) ?_
  refine bg [] rfl (by simp) ?_
  refine Aa rfl (fun h => ?_) (fun h => ?_)
  ·refine bd [] rfl (by simp) ?_
   exact Ab ⟨_,rfl,tV (congrArg _ (by rw [hi2];simp [CN,h])),trivial⟩
  ·refine bd [] rfl (by simp) ?_
   exact Ad (ih (i + 1) (by omega) ⟨by omega,by rw [hi2];simp [CN,h]⟩) ⟨Aq (Bq (by omega) (by omega)),rfl,rfl,rfl,trivial⟩ trivial rfl
 ·refine bd [] rfl (by simp) ?_
  simp at h
  refine Ab ⟨_,rfl,tV (congrArg _ ?_),trivial⟩
  rw [hi2,List.drop_eq_nil_of_le (by omega)];rfl
theorem Vn (g : FuncId) (q : List V → Bool) (es : List (List V)) (hes : ∀ e ∈ es,e.length = 4) (hlen : es.length ≤ 9223372036854775807)
  (hq : ∀ e ∈ es,PureC Tryz.prog g [.agg e] (.bool (q e))) :
  PureC Tryz.prog 127 [.sl es,.fn (.func g)] (.bool (es.any q)) := by
 refine Ae Ap Tryz.func127 (by decide +kernel) rfl [2,3,4] rfl rfl ?_
 refine bg [] rfl (by simp) ?_
 refine Ac rfl (fun _ => Zm g q es hes hlen hq) (by simp) ?_
 refine bg [] rfl (by simp) ?_
 refine Ab ⟨_,rfl,tV (congrArg _ ?_),trivial⟩
 rw [Bool.eq_iff_iff,← F8 q es 0]
 simp
mutual
def allV : Ty → Bool
 | .mk s n x ps => Hj s n x ps.length && O1 ps
def O1 : List Ty → Bool
 | [] => true
 | t :: r => allV t && O1 r
end
theorem R4 : ∀ l : List Ty,O1 l = l.all allV
 | [] => rfl
 | t :: r => by simp [O1,R4 r]
theorem X0 (v : Ty) (h : PureC Tryz.prog 97 [.agg (dTyc v)] (.bool (allV v))) : PureC Tryz.prog 128 [.agg (dTyc v)] (.bool (!allV v)) := by
 obtain ⟨s,n,x,ps⟩ := v
 generalize allV (.mk s n x ps) = b at *
 refine Ae Ap Tryz.func128 (by decide +kernel) rfl [1,2,3] rfl rfl ?_
 refine bg [] rfl (by simp) ?_
 refine Ac rfl (fun _ => h) (by simp) ?_
 refine bg [] rfl (by simp) ?_
 exact Ab ⟨_,rfl,tV rfl,trivial⟩
theorem Uc : ∀ v : Ty,PureC Tryz.prog 97 [.agg (dTyc v)] (.bool (allV v))
 | .mk s n x ps => by
  have hP := U8 (.mk s n x ps) ps.length
  simp only at hP
  have hO := T0 (.mk s n x ps)
  refine Az fun hv => ?_
  simp [Bh,CP,dTyc,maxLen] at hv
  have hC := Vn 128 (qOf dTyc (fun v => !allV v)) (Bg ps) (fun e he => by rw [BM] at he;obtain ⟨t,_,rfl⟩ := List.mem_map.1 he;simp) (by simpa using hv.1)
   (fun e he => by
    rw [BM] at he
    obtain ⟨t,ht,rfl⟩ := List.mem_map.1 he
    rw [G5 EJ]
    exact X0 t (Uc t))
  refine Ae Ap Tryz.func97 (by decide +kernel) rfl [1,2,3] rfl rfl ?_
  refine bg [] rfl (by simp) ?_
  refine Ac rfl (fun _ => hO) (by simp) ?_
  refine bg [] rfl (by simp) ?_
  refine Ac rfl (v := .bool (Hj s n x ps.length)) (fun _ => by simpa using hP) (by simp) ?_
  refine bg [] rfl (by simp) ?_
  refine Ac rfl (fun _ => hC) (by simp [Af]) ?_
  refine bg [] rfl (by simp [Af];rfl) ?_
  refine Ab ⟨_,rfl,tV (congrArg _ ?_),trivial⟩
  rw [BM,List.any_map,show (qOf dTyc (fun v => !allV v) ∘ dTyc) = (fun v => !allV v) from funext fun v => G5 EJ _ v]
  simp [allV,R4,List.all_eq_not_any_not]
termination_by v => SizeOf.sizeOf v
decreasing_by
 have := List.sizeOf_lt_of_mem ht
 simp_wf
 omega
theorem S9 (v : Ty) : PureC Tryz.prog 64 [.agg (dTyc v)] (.bool (decide (0 ≤ Bd v 20000 100) && allV v)) := by
 have hW := L4 v 20000 100 (by decide) (by decide) (by decide) (by decide)
 have hA := Uc v
 obtain ⟨s,n,x,ps⟩ := v
 refine Ae Ap Tryz.func64 (by decide +kernel) rfl [1,2,3] rfl rfl ?_
 refine bg [] rfl (by simp) ?_
 refine Ac rfl (fun _ => hW) (by simp) ?_
 refine bg [] rfl (by simp) ?_
 refine Ac rfl (fun _ => hA) (by simp [Af]) ?_
 refine bg [] rfl (by simp [Af]) ?_
 refine Ab ⟨_,rfl,tV (congrArg _ ?_),trivial⟩
 simp
theorem GO {l : List Str} {s : Str} : DO l s = true ↔ s ∈ l := by
 induction l with
 | nil => simp [DO]
 | cons x r ih => simp only [DO,Bool.or_eq_true,beq_iff_eq,ih,List.mem_cons];exact ⟨fun h => h.imp Eq.symm id,fun h => h.imp Eq.symm id⟩
theorem Pw {l : List Str} : ∀ {pre : List Str},A0 pre l = true ↔ l.Nodup ∧ ∀ s ∈ l,s ∉ pre := by
 induction l with
 | nil => intro pre;simp [A0]
 | cons x r ih =>
  intro pre
  simp only [A0,Bool.and_eq_true,Bool.not_eq_true',ih,List.nodup_cons,List.mem_cons,List.mem_append,List.not_mem_nil,or_false]
  have : DO pre x = false ↔ x ∉ pre := by rw [← Bool.not_eq_true,GO]
  rw [this]
  constructor
  ·rintro ⟨h1,h2,h3⟩
   exact ⟨⟨fun hx => h3 x hx (.inr rfl),h2⟩,fun s hs => hs.elim (fun e => e ▸ h1) fun h hp => h3 s h (.inl hp)⟩
  ·rintro ⟨⟨h1,h2⟩,h3⟩
   exact ⟨h3 x (.inl rfl),h2,fun s hs hp => hp.elim (h3 s (.inr hs)) fun e => h1 (e ▸ hs)⟩
theorem Rd {l : List Str} : AE l = true ↔ l.Nodup := by
 unfold AE
 rw [Pw]
 simp
def CS (l : List (Str × V)) : List (V × V) := l.map fun p => (.str p.1,p.2)
def HC (m : List (V × V)) (p : Str × V) : List (V × V) := CL m (.str p.1) p.2
def RW (l : List (Str × V)) : List (V × V) := l.foldl HC []
def D5 (m : List (V × V)) : Prop := ∀ p ∈ m,Gd .str p.1 = true
theorem Fy (l : List (Str × V)) : D5 (CS l) := by
 intro p hp
 obtain ⟨q,_,rfl⟩ := List.mem_map.1 hp
 rfl
theorem N9 {m : List (V × V)} (h : D5 m) (s : Str) (v : V) : D5 (CL m (.str s) v) := by
 induction m with
 | nil => intro p hp;simp only [CL,List.mem_singleton] at hp;subst hp;rfl
 | cons a r ih =>
  obtain ⟨k,e⟩ := a
  have h1 : D5 r := fun p hp => h p (by simp [hp])
  simp only [CL]
  split
  ·intro p hp
   rcases List.mem_cons.1 hp with rfl | hp
   ·rfl
   ·exact h1 p hp
  ·intro p hp
   rcases List.mem_cons.1 hp with rfl | hp
   ·exact h _ (by simp)
   ·exact ih h1 p hp
theorem RU (l : List (Str × V)) : ∀ m,D5 m → D5 (l.foldl HC m) := by
 induction l with
 | nil => intro m h;exact h
 | cons p r ih => intro m h;exact ih _ (N9 h _ _)
theorem Qt (l : List (Str × V)) : D5 (RW l) := RU l [] fun p hp => by cases hp
theorem VZ {m : List (V × V)} (s : Str) (v : V) : (Bn m (.str s) = none → (CL m (.str s) v).length = m.length + 1) ∧ (Bn m (.str s) ≠ none → (CL m (.str s) v).length = m.length) := by
 induction m with
 | nil => simp [Bn,CL]
 | cons a r ih =>
  obtain ⟨k,e⟩ := a
  simp only [Bn,CL]
  cases h : QU (.str s) k
  ·simpa using ih
  ·simp
theorem Uv {m : List (V × V)} (s t : Str) (v : V) (hk : D5 m) : (Bn (CL m (.str s) v) (.str t) = none) ↔ (Bn m (.str t) = none ∧ s ≠ t) := by
 induction m with
 | nil =>
  simp only [CL,Bn,QU,beq_iff_eq]
  by_cases e : t = s
  ·subst e;simp
  ·have e' : ¬ s = t := fun h => e h.symm
   simp [e,e']
 | cons a r ih =>
  obtain ⟨k,e⟩ := a
  have h1 : D5 r := fun p hp => hk p (by simp [hp])
  have h0 := hk (k,e) (by simp)
  cases k with
  | str x =>
   simp only [CL,Bn,QU]
   by_cases hx : s = x
   ·subst hx
    simp only [beq_self_eq_true,if_true,Bn,QU]
    by_cases ht : t = s
    ·simp [ht]
    ·simp only [beq_iff_eq,ht,if_false]
     exact ⟨fun h => ⟨h,fun e => ht e.symm⟩,fun h => h.1⟩
   ·simp only [beq_iff_eq,hx,if_false,Bn,QU]
    by_cases ht : t = x
    ·simp [ht]
    ·simp only [ht,if_false]
     exact ih h1
  | _ => simp [Gd] at h0
theorem W7 : ∀ (l : List (Str × V)) (pre : List Str) (m : List (V × V)),D5 m → (∀ s,Bn m (.str s) = none ↔ s ∉ pre) → m.length ≤ pre.length →
  (l.foldl HC m).length ≤ pre.length + l.length ∧ (A0 pre (l.map (·.1)) = false ∨ m.length < pre.length → (l.foldl HC m).length < pre.length + l.length) ∧ (A0 pre (l.map (·.1)) = true → m.length = pre.length → (l.foldl HC m).length = pre.length + l.length)
 | [],pre,m,hk,h,hl => by
  simp only [List.foldl_nil,List.length_nil,List.map_nil,A0]
  exact ⟨by omega,fun h => by rcases h with h | h;exact absurd h (by simp);omega,fun _ h => by omega⟩
 | p :: r,pre,m,hk,h,hl => by
  have hL := VZ (m := m) p.1 p.2
  have hm : (HC m p).length ≤ (pre ++ [p.1]).length := by
   simp only [HC,List.length_append,List.length_singleton]
   by_cases hn : Bn m (.str p.1) = none
   ·rw [hL.1 hn];omega
   ·rw [hL.2 hn];omega
  have hs : ∀ s,Bn (HC m p) (.str s) = none ↔ s ∉ pre ++ [p.1] := fun s => by
   simp only [HC,Uv _ _ _ hk,h s,List.mem_append,List.mem_singleton,not_or]
   exact ⟨fun ⟨a,b⟩ => ⟨a,fun e => b e.symm⟩,fun ⟨a,b⟩ => ⟨a,fun e => b e.symm⟩⟩
  have ih := W7 r (pre ++ [p.1]) (HC m p) (N9 hk _ _) hs hm
  simp only [List.length_append,List.length_singleton] at ih
  simp only [List.foldl_cons,List.length_cons,List.map_cons,A0]
  obtain ⟨i1,i2,i3⟩ := ih
  refine ⟨by omega,fun hc => ?_,fun hd he => ?_⟩
  ·by_cases hp : DO pre p.1 = true
   ·have hn : Bn m (.str p.1) ≠ none := fun hn => (h p.1).1 hn (GO.1 hp)
    have : (HC m p).length = m.length := hL.2 hn
    have := i2 (.inr (by omega))
    omega
   ·have hp : DO pre p.1 = false := by simpa using hp
    rcases hc with hc | hc
    ·rw [hp] at hc
     have := i2 (.inl (by simpa using hc))
     omega
    ·have hn : Bn m (.str p.1) = none := (h p.1).2 fun hm => by rw [GO.2 hm] at hp;cases hp
     have : (HC m p).length = m.length + 1 := hL.1 hn
     have := i2 (.inr (by omega))
     omega
  ·simp only [Bool.and_eq_true,Bool.not_eq_true'] at hd
   have hn : Bn m (.str p.1) = none := (h p.1).2 fun hm => by rw [GO.2 hm] at hd;exact absurd hd.1 (by simp)
   have : (HC m p).length = m.length + 1 := hL.1 hn
   have := i3 hd.2 (by omega)
   omega
theorem TA (l : List (Str × V)) : (RW l).length ≤ l.length ∧ (decide ((RW l).length < l.length) = !AE (l.map (·.1))) := by
 obtain ⟨h1,h2,h3⟩ := W7 l [] [] (fun p hp => by cases hp) (fun s => by simp [Bn]) (Nat.le_refl _)
 have h0 : ([] : List Str).length = 0 := rfl
 refine ⟨by unfold RW;omega,?_⟩
 unfold AE
 cases hd : A0 [] (l.map (·.1)) with
 | true => have := h3 hd rfl;unfold RW;simp;omega
 | false => have := h2 (.inl hd);unfold RW;simp;omega
theorem VY (l : List (Str × V)) (s : Str) (v : V) (h : s ∉ l.map (·.1)) : CL (CS l) (.str s) v = CS (l ++ [(s,v)]) := by
 induction l with
 | nil => rfl
 | cons a r ih =>
  simp only [List.map_cons,List.mem_cons,not_or] at h
  simp only [CS,List.map_cons,CL,QU,List.cons_append,beq_iff_eq,h.1,if_false] at ih ⊢
  rw [ih h.2]
theorem IJ : ∀ (l pre : List (Str × V)),A0 (pre.map (·.1)) (l.map (·.1)) = true → l.foldl HC (CS pre) = CS (pre ++ l)
 | [],pre,_ => by simp
 | p :: r,pre,h => by
  simp only [List.map_cons,A0,Bool.and_eq_true,Bool.not_eq_true'] at h
  have hn : p.1 ∉ pre.map (·.1) := fun hm => by rw [GO.2 hm] at h;exact absurd h.1 (by simp)
  have := IJ r (pre ++ [p]) (by simpa using h.2)
  simp only [List.foldl_cons,HC,VY pre p.1 p.2 hn] at this ⊢
  rw [this];simp
theorem Mm (l : List (Str × V)) (h : AE (l.map (·.1)) = true) : RW l = CS l := by
 have := IJ l [] h
 simpa [RW,CS] using this
def Bv : Nat → List Dt → List (Str × V)
 | _,[] => []
 | i,d :: r => (d.name,.int .i64 i) :: Bv (i + 1) r
def Co (i : Nat) : Nat → List Cd → List (Str × V)
 | _,[] => []
 | k,c :: r => (c.name,.agg [.int .i64 i,.int .i64 k]) :: Co i (k + 1) r
def Cp : Nat → List Dt → List (Str × V)
 | _,[] => []
 | i,d :: r => Co i 0 d.cons ++ Cp (i + 1) r
theorem Ef : ∀ (i : Nat) (ds : List Dt),(Bv i ds).map (·.1) = B0 ds
 | _,[] => rfl
 | i,d :: r => by simp [Bv,B0];exact Ef (i + 1) r
theorem Jn (i : Nat) : ∀ (k : Nat) (cs : List Cd),(Co i k cs).map (·.1) = cs.map Cd.name
 | _,[] => rfl
 | k,c :: r => by simp [Co];exact Jn i (k + 1) r
theorem Fh : ∀ (i : Nat) (ds : List Dt),(Cp i ds).map (·.1) = Bj ds
 | _,[] => rfl
 | i,d :: r => by simp only [Cp,List.map_append,Jn,Fh (i + 1) r];simp [Bj]
theorem HO : ∀ (i : Nat) (a b : List Dt),Bv i (a ++ b) = Bv i a ++ Bv (i + a.length) b
 | _,[],_ => rfl
 | i,d :: r,b => by simp only [List.cons_append,Bv,List.length_cons,HO (i + 1) r b];rw [Nat.add_assoc,Nat.add_comm 1]
theorem HQ (i : Nat) : ∀ (k : Nat) (a b : List Cd),Co i k (a ++ b) = Co i k a ++ Co i (k + a.length) b
 | _,[],_ => rfl
 | k,d :: r,b => by simp only [List.cons_append,Co,List.length_cons,HQ i (k + 1) r b];rw [Nat.add_assoc,Nat.add_comm 1]
theorem Jm : ∀ (i : Nat) (a b : List Dt),Cp i (a ++ b) = Cp i a ++ Cp (i + a.length) b
 | _,[],_ => rfl
 | i,d :: r,b => by simp only [List.cons_append,Cp,List.length_cons,Jm (i + 1) r b,List.append_assoc];rw [Nat.add_assoc,Nat.add_comm 1]
theorem Io (s : Str) : ∀ (ds : List Dt) (i : Nat),Bn (CS (Bv i ds)) (.str s) = if 0 ≤ AF s i ds then some (.int .i64 (AF s i ds)) else none
 | [],i => by simp [Bv,CS,Bn,AF]
 | d :: r,i => by
  simp only [Bv,CS,List.map_cons,Bn,QU,beq_iff_eq]
  by_cases h : s = d.name
  ·have : AF s i (d :: r) = i := by simp [AF,h]
   rw [this,if_pos h];simp
  ·have : AF s i (d :: r) = AF s (i + 1) r := by simp only [AF];rw [if_neg (fun e => h e.symm)]
   rw [if_neg h,this]
   exact Io s r (i + 1)
def E9 (s : Str) : Nat → List Dt → Option (Nat × Int)
 | _,[] => none
 | i,d :: r => if 0 ≤ (CO s 0 d.cons).2 then some (i,(CO s 0 d.cons).2) else E9 s (i + 1) r
theorem MO (s : Str) (i : Nat) (rest : List (Str × V)) : ∀ (cs : List Cd) (k : Nat),Bn (CS (Co i k cs ++ rest)) (.str s) = if 0 ≤ (CO s k cs).2 then some (.agg [.int .i64 i,.int .i64 (CO s k cs).2]) else Bn (CS rest) (.str s)
 | [],k => by simp [Co,CO]
 | c :: r,k => by
  simp only [Co,CS,List.cons_append,List.map_cons,Bn,QU,beq_iff_eq]
  by_cases h : s = c.name
  ·have : (CO s k (c :: r)).2 = k := by simp [CO,h]
   rw [this,if_pos h];simp
  ·have : CO s k (c :: r) = CO s (k + 1) r := by simp only [CO];rw [if_neg (fun e => h e.symm)]
   rw [if_neg h,this]
   exact MO s i rest r (k + 1)
theorem Or (s : Str) : ∀ (ds : List Dt) (i : Nat),Bn (CS (Cp i ds)) (.str s) = (match E9 s i ds with | some (a,b) => some (.agg [.int .i64 a,.int .i64 b]) | none => none)
 | [],i => by simp [Cp,CS,Bn,E9]
 | d :: r,i => by
  simp only [Cp,E9,MO]
  split
  ·rfl
  ·exact Or s r (i + 1)
theorem Rr {s : Str} : ∀ {l : List Cd} {i : Nat},0 ≤ (CO s i l).2 → ∃ k,(CO s i l).2 = ((i + k : Nat) : Int) ∧ l[k]? = some (CO s i l).1
 | [],i,h => by simp [CO] at h
 | c :: r,i,h => by
  simp only [CO] at h ⊢
  by_cases e : c.name = s
  ·rw [if_pos e];exact ⟨0,by simp,by simp⟩
  ·rw [if_neg e] at h ⊢
   obtain ⟨k,h1,h2⟩ := Rr (l := r) h
   exact ⟨k + 1,by rw [h1];omega,by simpa using h2⟩
theorem M8 {s : Str} : ∀ {ds : List Dt} {i a : Nat} {b : Int},E9 s i ds = some (a,b) → ∃ k d,a = i + k ∧ ds[k]? = some d ∧ (CO s 0 d.cons).2 = b ∧ 0 ≤ b
 | [],i,a,b,h => by simp [E9] at h
 | d :: r,i,a,b,h => by
  simp only [E9] at h
  split at h
  ·rename_i h0
   cases h
   exact ⟨0,d,rfl,rfl,rfl,h0⟩
  ·obtain ⟨k,e,h1,h2,h3⟩ := M8 h
   exact ⟨k + 1,e,by omega,by simpa using h2,h3⟩
theorem M9 {s : Str} : ∀ {ds : List Dt} {i : Nat},E9 s i ds = none → ∀ d ∈ ds,¬ 0 ≤ (CO s 0 d.cons).2
 | [],i,_,d,hd => by cases hd
 | e :: r,i,h,d,hd => by
  simp only [E9] at h
  split at h
  ·cases h
  ·rename_i h0
   rcases List.mem_cons.1 hd with rfl | hd
   ·exact h0
   ·exact M9 h d hd
theorem Ot {ds : List Dt} {d : Dt} {c : Cd} (hd : d ∈ ds) (hc : c ∈ d.cons) : c.name ∈ Bj ds := by
 simp only [Bj,List.mem_flatMap]
 exact ⟨d,hd,List.mem_map.2 ⟨c,hc,rfl⟩⟩
theorem MM : ∀ {ds : List Dt} {i j : Nat} {d e : Dt} {c c' : Cd},(Bj ds).Nodup → ds[i]? = some d → ds[j]? = some e → c ∈ d.cons → c' ∈ e.cons → c.name = c'.name → i = j
 | [],i,j,d,e,c,c',_,h,_,_,_,_ => by simp at h
 | x :: r,i,j,d,e,c,c',hn,hi,hj,hc,hc',hs => by
  have hn' : (x.cons.map Cd.name ++ Bj r).Nodup := by simpa [Bj] using hn
  obtain ⟨n1,n2,n3⟩ := List.nodup_append.1 hn'
  cases i with
  | zero =>
   simp at hi;subst hi
   cases j with
   | zero => rfl
   | succ j => exact absurd hs (n3 _ (List.mem_map.2 ⟨c,hc,rfl⟩) _ (Ot (List.mem_of_getElem? (by simpa using hj)) hc'))
  | succ i =>
   cases j with
   | zero =>
    simp at hj;subst hj
    exact absurd hs.symm (n3 _ (List.mem_map.2 ⟨c',hc',rfl⟩) _ (Ot (List.mem_of_getElem? (by simpa using hi)) hc))
   | succ j => exact congrArg (· + 1) (MM n2 (by simpa using hi) (by simpa using hj) hc hc' hs)
theorem WT {ds : List Dt} (hn : AE (Bj ds) = true) {n : Int} {x s : Str} {ps : List Ty} (hp : 0 ≤ AF x 0 ds) :
  (match E9 s 0 ds with | some (a,b) => (decide ((a : Int) = AF x 0 ds) = decide (0 ≤ (BT ds (.mk 8 n x ps) s).2)) ∧ ((a : Int) = AF x 0 ds → ∃ d,ds[a]? = some d ∧ 0 ≤ b ∧ d.cons[b.toNat]? = some (BT ds (.mk 8 n x ps) s).1) ∧ a < ds.length | none => (BT ds (.mk 8 n x ps) s).2 < 0) := by
 have hn := Rd.1 hn
 obtain ⟨k,d,h1,h2,h3⟩ := FS x ds 0 hp
 have hcD : BT ds (.mk 8 n x ps) s = CO s 0 d.cons := by simp [BT,h1,h2]
 rw [hcD]
 cases hf : E9 s 0 ds with
 | none =>
  have := M9 hf d (List.mem_of_getElem? h2)
  simp only;omega
 | some p =>
  obtain ⟨a,b⟩ := p
  obtain ⟨k',e,q1,q2,q3,q4⟩ := M8 hf
  simp only [Nat.zero_add] at q1
  subst q1
  have hget := Rr (s := s) (l := e.cons) (i := 0) (by omega)
  obtain ⟨j,j1,j2⟩ := hget
  have hlt : a < ds.length := (List.getElem?_eq_some_iff.1 q2).1
  refine ⟨?_,fun ha => ?_,hlt⟩
  ·rw [h1]
   by_cases hc : 0 ≤ (CO s 0 d.cons).2
   ·have m1 := Jp (s := s) (l := d.cons) (i := 0) hc
    have m2 := Jp (s := s) (l := e.cons) (i := 0) (by omega)
    have := MM hn q2 h2 m2.1 m1.1 (m2.2.trans m1.2.symm)
    subst this
    simp [hc]
   ·have : a ≠ k := fun he => by
     subst he
     rw [h2] at q2;cases q2
     exact hc (by omega)
    simp [hc];omega
  ·have hak : a = k := by omega
   subst hak
   rw [h2] at q2;cases q2
   refine ⟨d,h2,q4,?_⟩
   rw [← q3,j1]
   simpa using j2
def VB (c : Cse) (sz : List (List V)) : List V := dCse c ++ [.mapv (CS (Bv 0 c.datas)),.mapv (CS (Cp 0 c.datas)),.sl sz]
def BX (c : Cse) (sz : List (List V)) : V := .ip 137 (VB c sz) 0
mutual
def C8 (q : Ty → Bool) : Ty → Bool
 | .mk s n x ps => q (.mk s n x ps) && C4 q ps
def C4 (q : Ty → Bool) : List Ty → Bool
 | [] => true
 | t :: r => C8 q t && C4 q r
end
theorem N1 (f : FuncId) (a b : List V) (q : Ty → Bool) (hq : ∀ t,PureC Tryz.prog f (a ++ [.agg (dTyc t)] ++ b) (.bool (q t))) : ∀ t : Ty,PureC Tryz.prog 90 [.agg (dTyc t),.clo (.func f) a b] (.bool (C8 q t))
 | .mk s n x ps => by
  refine Az fun hv => ?_
  simp [Bh,CP,dTyc,maxLen] at hv
  simp only [C8]
  have hq0 := hq (.mk s n x ps)
  generalize q (.mk s n x ps) = c at *
  refine Ae Ap Tryz.func90 (by decide +kernel) rfl [2,3,4,5] rfl rfl ?_
  refine bg [] rfl (by simp) ?_
  refine TQ rfl (fun _ => hq0) (by simp) ?_
  refine bg [] rfl (by simp) ?_
  cases c with
  | false =>
   refine Aa rfl (fun h => ?_) (fun h => by simp at h)
   refine bd [] rfl (by simp) ?_
   exact Ab ⟨_,rfl,tV rfl,trivial⟩
  | true =>
  refine Aa rfl (fun h => by simp at h) (fun h => ?_)
  clear h
  refine bd [] rfl (by simp) ?_
  rw [Bool.true_and]
  refine Ah (fun i : Nat => [(14,.imm (.int .i64 i)),(13,.imm (.int .i64 ps.length)),(12,.imm (.sl (Bg ps))),(1,.imm (.clo (.func f) a b))]) (fun _ => []) [2,3,4,5] (fun i => ps.length - i)
   (fun i => i ≤ ps.length ∧ C4 q ps = C4 q (ps.drop i)) 0 ⟨Nat.zero_le _,rfl⟩ ⟨rfl,Aq (by simp),rfl,rfl,trivial⟩ trivial rfl fun i hi ih => ?_
  obtain ⟨hi1,hi2⟩ := hi
  refine bd [] rfl (by simp) ?_
  refine Aa rfl (fun h => ?_) (fun h => ?_)
  ·simp at h
   obtain ⟨t,ht⟩ := Ai h
   rw [Aj ht] at hi2
   simp only [C4] at hi2
   refine bd [] rfl (by simp) ?_
   refine bi rfl (c := dTyc t) (fun _ => ⟨by simp,by simpa using Ao ht,by simp⟩) (by simp) ?_
   refine bg [] rfl (by simp) ?_
   refine Ac rfl (fun _ => N1 f a b q hq t) (by simp) ?_
   refine bg [] rfl (by simp) ?_
   refine Aa rfl (fun h => ?_) (fun h => ?_)
   ·refine bd [] rfl (by simp) ?_
    refine Ab ⟨_,rfl,tV (congrArg _ ?_),trivial⟩
    simp at h
    simp [hi2,h]
   ·refine bd [] rfl (by simp) ?_
    simp at h
    exact Ad (ih (i + 1) (by omega) ⟨by omega,by rw [hi2];simp [h]⟩) ⟨Aq (Bq (by omega) (by omega)),rfl,rfl,rfl,trivial⟩ trivial rfl
  ·simp at h
   refine Ar rfl ?_
   refine bd [] rfl (by simp) ?_
   rw [hi2,List.drop_eq_nil_of_le (by omega)]
   exact Ab ⟨_,rfl,tV rfl,trivial⟩
termination_by t => SizeOf.sizeOf t
decreasing_by
 have := List.sizeOf_lt_of_mem (List.mem_of_getElem? ht)
 simp_wf
 omega
theorem L8 (f : FuncId) (q : Ty → Bool) (hq : ∀ t,PureC Tryz.prog f [.agg (dTyc t)] (.bool (q t))) : ∀ t : Ty,PureC Tryz.prog 90 [.agg (dTyc t),.fn (.func f)] (.bool (C8 q t))
 | .mk s n x ps => by
  refine Az fun hv => ?_
  simp [Bh,CP,dTyc,maxLen] at hv
  simp only [C8]
  have hq0 := hq (.mk s n x ps)
  generalize q (.mk s n x ps) = c at *
  refine Ae Ap Tryz.func90 (by decide +kernel) rfl [2,3,4,5] rfl rfl ?_
  refine bg [] rfl (by simp) ?_
  refine Ac rfl (fun _ => hq0) (by simp) ?_
  refine bg [] rfl (by simp) ?_
  cases c with
  | false =>
   refine Aa rfl (fun h => ?_) (fun h => by simp at h)
   refine bd [] rfl (by simp) ?_
   exact Ab ⟨_,rfl,tV rfl,trivial⟩
  | true =>
  refine Aa rfl (fun h => by simp at h) (fun h => ?_)
  clear h
  refine bd [] rfl (by simp) ?_
  rw [Bool.true_and]
  refine Ah (fun i : Nat => [(14,.imm (.int .i64 i)),(13,.imm (.int .i64 ps.length)),(12,.imm (.sl (Bg ps))),(1,.imm (.fn (.func f)))]) (fun _ => []) [2,3,4,5] (fun i => ps.length - i)
   (fun i => i ≤ ps.length ∧ C4 q ps = C4 q (ps.drop i)) 0 ⟨Nat.zero_le _,rfl⟩ ⟨rfl,Aq (by simp),rfl,rfl,trivial⟩ trivial rfl fun i hi ih => ?_
  obtain ⟨hi1,hi2⟩ := hi
  refine bd [] rfl (by simp) ?_
  refine Aa rfl (fun h => ?_) (fun h => ?_)
  ·simp at h
   obtain ⟨t,ht⟩ := Ai h
   rw [Aj ht] at hi2
   simp only [C4] at hi2
   refine bd [] rfl (by simp) ?_
   refine bi rfl (c := dTyc t) (fun _ => ⟨by simp,by simpa using Ao ht,by simp⟩) (by simp) ?_
   refine bg [] rfl (by simp) ?_
   refine Ac rfl (fun _ => L8 f q hq t) (by simp) ?_
   refine bg [] rfl (by simp) ?_
   refine Aa rfl (fun h => ?_) (fun h => ?_)
   ·refine bd [] rfl (by simp) ?_
    refine Ab ⟨_,rfl,tV (congrArg _ ?_),trivial⟩
    simp at h
    simp [hi2,h]
   ·refine bd [] rfl (by simp) ?_
    simp at h
    exact Ad (ih (i + 1) (by omega) ⟨by omega,by rw [hi2];simp [h]⟩) ⟨Aq (Bq (by omega) (by omega)),rfl,rfl,rfl,trivial⟩ trivial rfl
  ·simp at h
   refine Ar rfl ?_
   refine bd [] rfl (by simp) ?_
   rw [hi2,List.drop_eq_nil_of_le (by omega)]
   exact Ab ⟨_,rfl,tV rfl,trivial⟩
termination_by t => SizeOf.sizeOf t
decreasing_by
 have := List.sizeOf_lt_of_mem (List.mem_of_getElem? ht)
 simp_wf
 omega
def Np (ds : List Dt) (x : Str) : Int := if 0 ≤ AF x 0 ds then AF x 0 ds else 0
theorem RY (ds : List Dt) (x : Str) : CH true (CS (Bv 0 ds)) (.str x) (.int .i64 0) = .imm (.tup [.int .i64 (Np ds x),.bool (decide (0 ≤ AF x 0 ds))]) := by
 simp only [CH,Io,Np]
 by_cases h : 0 ≤ AF x 0 ds <;> simp [h]
theorem GG (ds : List Dt) (x : Str) : CH false (CS (Bv 0 ds)) (.str x) (.int .i64 0) = .imm (.int .i64 (Np ds x)) := by
 simp only [CH,Io,Np]
 by_cases h : 0 ≤ AF x 0 ds <;> simp [h]
def Td (ds : List Dt) (s : Str) : Nat × Int := match E9 s 0 ds with
 | some p => p
 | none => (0,0)
theorem UH (ds : List Dt) (s : Str) : CH true (CS (Cp 0 ds)) (.str s) (.agg [.int .i64 0,.int .i64 0]) = .imm (.tup [.agg [.int .i64 (Td ds s).1,.int .i64 (Td ds s).2],.bool (E9 s 0 ds).isSome]) := by
 simp only [CH,Or,Td]
 cases h : E9 s 0 ds with
 | none => simp
 | some p => obtain ⟨a,b⟩ := p;simp
def JM (ds : List Dt) : Ty → Bool
 | .mk s _ x _ => decide (0 ≤ AF x 0 ds) || !(s == 8)
theorem UC (c : Cse) (sz : List (List V)) (t : Ty) : PureC Tryz.prog 120 [.agg (dTyc t),.ip 95 [BX c sz] 0] (.bool (JM c.datas t)) := by
 obtain ⟨ds,⟨c1,c2,c3,c4⟩,rows⟩ := c
 obtain ⟨s,n,x,ps⟩ := t
 refine To ?_
 refine Ae Ap Tryz.func120 (by decide +kernel) rfl [2,3,4,5] rfl rfl ?_
 refine bg [] rfl (by simp) ?_
 refine GQ Ap rfl rfl rfl (Fy _) (by simp [Af]) (z := .int .i64 0) rfl (fun _ => .int _ _) (RY ds x) ?_
 refine bg [] rfl (by simp [Af];rfl) ?_
 refine Ab ⟨_,rfl,tV (congrArg _ ?_),trivial⟩
 simp [JM,bne]
mutual
theorem Iz (ds : List Dt) : ∀ t : Ty,C8 (JM ds) t = Bf ds t
 | .mk s n x ps => by
  simp only [C8,Bf,HE ds ps,JM]
  congr 1
  by_cases h : 0 ≤ AF x 0 ds
  ·simp [h]
  ·simp [h]
theorem HE (ds : List Dt) : ∀ l : List Ty,C4 (JM ds) l = AB ds l
 | [] => rfl
 | t :: r => by simp only [C4,AB,Iz ds t,HE ds r]
end
theorem Nw (c : Cse) (sz : List (List V)) (t : Ty) : PureC Tryz.prog 89 [BX c sz,.agg (dTyc t)] (.bool (Bf c.datas t)) := by
 rw [← Iz]
 obtain ⟨s,n,x,ps⟩ := t
 refine Ae Ap Tryz.func89 (by decide +kernel) rfl [2,3,4,5] rfl rfl ?_
 refine bg [] rfl (by simp) ?_
 refine Hu rfl (fun _ => N1 120 [] [.ip 95 [BX c sz] 0] (JM c.datas) (fun t => UC c sz t) (.mk s n x ps)) rfl (by simp) ?_
 refine bg [] rfl (by simp) ?_
 exact Ab ⟨_,rfl,tV rfl,trivial⟩
theorem PF (t : Ty) : PureC Tryz.prog 91 [.agg (dTyc t)] (.bool (match t with | .mk s _ _ _ => !(s == 9))) := by
 obtain ⟨s,n,x,ps⟩ := t
 refine Ae Ap Tryz.func91 (by decide +kernel) rfl [2,3,4,5] rfl rfl ?_
 refine bg [] rfl (by simp) ?_
 refine Ab ⟨_,rfl,tV (congrArg _ ?_),trivial⟩
 simp [bne]
def Cr (ds : List Dt) (t : Ty) (s : Str) : List Ty × Bool := bif decide (0 ≤ (BT ds t s).2) then ((BT ds t s).1.args,true) else ([],false)
set_option maxHeartbeats 1000000 in
theorem Ub (c : Cse) (sz : List (List V)) (t : Ty) (s : Str) (hn : AE (Bj c.datas) = true) (ht : Bf c.datas t = true) :
  PureC Tryz.prog 98 [BX c sz,.agg (dTyc t),.str s] (.tup [.sl (Bg (Cr c.datas t s).1),.bool (Cr c.datas t s).2]) := by
 obtain ⟨ds,⟨c1,c2,c3,c4⟩,rows⟩ := c
 obtain ⟨so,n,x,ps⟩ := t
 simp only at hn ht
 refine Ae Ap Tryz.func98 (by decide +kernel) rfl [2,3,4,5] rfl rfl ?_
 refine bg [] rfl (by simp) ?_
 refine GQ Ap rfl rfl rfl (Fy _) (by simp [Af]) (z := .agg #[.int .i64 0,.int .i64 0]) rfl (fun _ => .agg _ _ rfl (by decide) (fun i c x h1 h2 => by match i,h1,h2 with | 0,h1,h2 => cases h1;cases h2;exact .int _ _ | 1,h1,h2 => cases h1;cases h2;exact .int _ _ | i + 2,h1,h2 => simp at h2)) (UH ds s) ?_
 refine bg [] rfl (by simp) ?_
 by_cases h8 : so = 8
 case neg =>
  refine GQ Ap rfl rfl rfl (Fy _) (by simp [Af]) (z := .int .i64 0) rfl (fun _ => .int _ _) (GG ds x) ?_
  refine bg [] rfl (by simp [Af];rfl) ?_
  refine Aa rfl (fun h => ?_) (fun h => by simp [h8] at h)
  refine bd [] rfl (by simp) ?_
  rw [show Cr ds (.mk so n x ps) s = ([],false) by simp [Cr,BT,h8]]
  exact Ab ⟨_,rfl,tV rfl,trivial⟩
 subst h8
 have hp := (Ho ht 8 n x ps rfl rfl).1
 have hf := WT hn (n := n) (s := s) (ps := ps) hp
 refine GQ Ap rfl rfl rfl (Fy _) (by simp [Af]) (z := .int .i64 0) rfl (fun _ => .int _ _) (GG ds x) ?_
 refine bg [] rfl (by simp [Af];rfl) ?_
 rw [show Np ds x = AF x 0 ds by simp [Np,hp]]
 unfold Td
 cases hfs : E9 s 0 ds with
 | none =>
  rw [hfs] at hf
  refine Aa rfl (fun h => ?_) (fun h => by simp at h)
  refine bd [] rfl (by simp) ?_
  have hf : ¬ 0 ≤ (BT ds (.mk 8 n x ps) s).2 := by have : (BT ds (.mk 8 n x ps) s).2 < 0 := hf;omega
  rw [show Cr ds (.mk 8 n x ps) s = ([],false) by simp [Cr,hf]]
  exact Ab ⟨_,rfl,tV rfl,trivial⟩
 | some p =>
  obtain ⟨a,b⟩ := p
  rw [hfs] at hf
  obtain ⟨hf1,hf2,hf3⟩ := hf
  refine Aa rfl (fun h => ?_) (fun h => ?_)
  ·refine bd [] rfl (by simp) ?_
   have : ¬ 0 ≤ (BT ds (.mk 8 n x ps) s).2 := by
    have : ¬ ((a : Int) = AF x 0 ds) := by simp at h;exact fun e => h e.symm
    simpa [this] using hf1
   rw [show Cr ds (.mk 8 n x ps) s = ([],false) by simp [Cr,this]]
   exact Ab ⟨_,rfl,tV rfl,trivial⟩
  ·have ha : (a : Int) = AF x 0 ds := by simp at h;exact h.symm
   obtain ⟨d,hd,hb,hc⟩ := hf2 ha
   have hc0 : 0 ≤ (BT ds (.mk 8 n x ps) s).2 := by simpa [ha] using hf1
   rw [show Cr ds (.mk 8 n x ps) s = ((BT ds (.mk 8 n x ps) s).1.args,true) by simp [Cr,hc0]]
   generalize (BT ds (.mk 8 n x ps) s).1 = k at *
   refine bd [] rfl (by simp) ?_
   refine bi rfl (c := B5 d) (fun _ => ⟨by simp,by simpa using AC hd,by simp⟩) (by simp) ?_
   obtain ⟨dn,dc⟩ := d
   refine bg [] rfl (by simp) ?_
   refine bi rfl (c := Cx k) (fun _ => ⟨hb,by simpa using AC hc,by simp⟩) (by simp) ?_
   obtain ⟨kn,ka⟩ := k
   refine bg [] rfl (by simp;rfl) ?_
   exact Ab ⟨_,rfl,tV rfl,trivial⟩
theorem Lb {ds : List Dt} (ho : OkD ds) {t : Ty} {s : Str} : AB ds (Cr ds t s).1 = true := by
 unfold Cr
 by_cases h : 0 ≤ (BT ds t s).2
 ·simpa [h] using Iq ho h
 ·simp [h,AB]
def I9 (ds : List Dt) : Ty → Ty → Bool
 | .mk so m x0 qs,.mk f _ x ps => if f = 3 then so == 1 else if f = 4 then so == 2 else if f = 5 then so == 3 else if f = 6 then decide ((Cr ds (.mk so m x0 qs) x).1.length = ps.length) && ((Cr ds (.mk so m x0 qs) x).2 && CY ds (Cr ds (.mk so m x0 qs) x).1 ps) else true
theorem NK (ds : List Dt) : ∀ t p : Ty,CB ds t p = I9 ds t p
 | .mk so m x0 qs,.mk f k x ps => by
  simp only [CB,I9,Cr]
  rw [Lv ds so 0 m x0 x [] qs]
  by_cases h : 0 ≤ (BT ds (.mk so m x0 qs) x).2
  ·simp [h]
  ·simp [h]
def W1 (ds : List Dt) : Ty → Ty → Bool
 | .mk so m x0 qs,.mk f _ x ps => if so = 1 then f == 1 else if so = 2 then f == 2 else if so = 3 then f == 3 else if so = 8 then decide (f = 4) && (decide ((Cr ds (.mk so m x0 qs) x).1.length = ps.length) && ((Cr ds (.mk so m x0 qs) x).2 && Mg ds (Cr ds (.mk so m x0 qs) x).1 ps)) else f == 5
theorem W0 (ds : List Dt) : ∀ t p : Ty,V5 ds t p = W1 ds t p
 | .mk so m x0 qs,.mk f k x ps => by
  simp only [V5,W1,Cr]
  rw [Lv ds so 0 m x0 x [] qs]
  by_cases h : 0 ≤ (BT ds (.mk so m x0 qs) x).2
  ·simp [h]
  ·simp [h]
set_option maxHeartbeats 1000000 in
theorem TR (c : Cse) (sz : List (List V)) (ho : OkD c.datas) (hd : AE (Bj c.datas) = true) : ∀ (p t : Ty),Bf c.datas t = true → PureC Tryz.prog 93 [BX c sz,.agg (dTyc t),.agg (dTyc p)] (.bool (CB c.datas t p))
 | .mk f n x ps,t,hn => by
  have hcon := Ub c sz t x hd hn
  have hnm := Lb ho (t := t) (s := x)
  have hS : CB c.datas t (.mk f n x ps) = I9 c.datas t (.mk f n x ps) := NK c.datas t (.mk f n x ps)
  rw [hS]
  obtain ⟨so,n0,x0,ps0⟩ := t
  simp only [I9]
  generalize Cr c.datas (.mk so n0 x0 ps0) x = r at *
  obtain ⟨ka,kb⟩ := r
  refine Az fun hv => ?_
  simp [Bh,CP,dTyc,maxLen] at hv
  refine Ae Ap Tryz.func93 (by decide +kernel) rfl [2,3,4,5,6,7] rfl rfl ?_
  refine bg [] rfl (by simp) ?_
  by_cases h3 : f = 3
  ·subst h3
   refine Aa rfl (fun h => ?_) (fun h => by simp at h)
   refine bd [] rfl (by simp) ?_
   refine Ab ⟨_,rfl,tV (congrArg _ ?_),trivial⟩
   simp
  rw [if_neg h3]
  refine Aa rfl (fun h => absurd (by simpa using h) h3) (fun h => ?_)
  clear h
  refine bd [] rfl (by simp) ?_
  by_cases h4 : f = 4
  ·subst h4
   refine Aa rfl (fun h => ?_) (fun h => by simp at h)
   refine bd [] rfl (by simp) ?_
   refine Ab ⟨_,rfl,tV (congrArg _ ?_),trivial⟩
   simp
  rw [if_neg h4]
  refine Aa rfl (fun h => absurd (by simpa using h) h4) (fun h => ?_)
  clear h
  refine bd [] rfl (by simp) ?_
  by_cases h5 : f = 5
  ·subst h5
   refine Aa rfl (fun h => ?_) (fun h => by simp at h)
   refine bd [] rfl (by simp) ?_
   refine Ab ⟨_,rfl,tV (congrArg _ ?_),trivial⟩
   simp
  rw [if_neg h5]
  refine Aa rfl (fun h => absurd (by simpa using h) h5) (fun h => ?_)
  clear h
  refine bd [] rfl (by simp) ?_
  by_cases h6 : f = 6
  case neg =>
   rw [if_neg h6]
   refine Aa rfl (fun h => absurd (by simpa using h) h6) (fun h => ?_)
   refine bd [] rfl (by simp) ?_
   refine Ab ⟨_,rfl,tV (congrArg _ ?_),trivial⟩
   simp
  rw [if_pos h6]
  refine Aa rfl (fun h => ?_) (fun h => by simp [h6] at h)
  clear h
  refine bd [] rfl (by simp) ?_
  refine Ac rfl (fun _ => hcon) (by simp) ?_
  refine bg [] rfl (by simp) ?_
  by_cases hg : ka.length = ps.length ∧ kb = true
  case neg =>
   refine Aa rfl (fun h => ?_) (fun h => ?_)
   ·refine bd [] rfl (by simp) ?_
    refine Ab ⟨_,rfl,tV (congrArg _ ?_),trivial⟩
    simp
    grind
   ·exfalso
    simp at h
    apply hg
    grind
  obtain ⟨hlen,rfl⟩ := hg
  refine Aa rfl (fun h => by exfalso;simp [hlen] at h) (fun h => ?_)
  clear h
  refine bd [] rfl (by simp) ?_
  simp only [hlen,decide_true,Bool.true_and]
  refine Ah (fun i : Nat => [(51,.imm (.int .i64 i)),(50,.imm (.int .i64 ps.length)),(49,.imm (.sl (Bg ps))),(0,.imm (BX c sz)),(7,.imm (.sl (Bg ka)))]) (fun _ => []) [4,5,6,7] (fun i => ps.length - i)
   (fun i => i ≤ ps.length ∧ CY c.datas ka ps = CY c.datas (ka.drop i) (ps.drop i)) 0 ⟨Nat.zero_le _,rfl⟩ ⟨rfl,Aq (by simp),rfl,rfl,rfl,trivial⟩ trivial rfl fun i hi ih => ?_
  obtain ⟨hi1,hi2⟩ := hi
  refine bd [] rfl (by simp) ?_
  refine Aa rfl (fun h => ?_) (fun h => ?_)
  ·simp at h
   obtain ⟨p,hp⟩ := Ai h
   obtain ⟨a,ha⟩ := Ai (l := ka) (i := i) (by omega)
   rw [Aj hp,Aj ha] at hi2
   simp only [CY] at hi2
   refine bd [] rfl (by simp) ?_
   refine bi rfl (c := dTyc p) (fun _ => ⟨by simp,by simpa using Ao hp,by simp⟩) (by simp) ?_
   refine bg [] rfl (by simp) ?_
   refine bi rfl (c := dTyc a) (fun _ => ⟨by simp,by simpa using Ao ha,by simp⟩) (by simp) ?_
   refine bg [] rfl (by simp) ?_
   refine Ac rfl (fun _ => TR c sz ho hd p a (DG hnm ha)) (by simp) ?_
   refine bg [] rfl (by simp;rfl) ?_
   refine Aa rfl (fun h => ?_) (fun h => ?_)
   ·refine bd [] rfl (by simp) ?_
    refine Ab ⟨_,rfl,tV (congrArg _ ?_),trivial⟩
    simp at h
    simp [hi2,h]
   ·refine bd [] rfl (by simp) ?_
    simp at h
    exact Ad (ih (i + 1) (by omega) ⟨by omega,by rw [hi2];simp [h]⟩) ⟨Aq (Bq (by omega) (by omega)),rfl,rfl,rfl,rfl,trivial⟩ trivial rfl
  ·simp at h
   refine Ar rfl ?_
   refine bd [] rfl (by simp) ?_
   rw [hi2,List.drop_eq_nil_of_le (by omega),List.drop_eq_nil_of_le (by omega)]
   exact Ab ⟨_,rfl,tV rfl,trivial⟩
termination_by p => SizeOf.sizeOf p
decreasing_by
 have := List.sizeOf_lt_of_mem (List.mem_of_getElem? hp)
 simp_wf
 omega
set_option maxHeartbeats 1000000 in
theorem YM (c : Cse) (sz : List (List V)) (ho : OkD c.datas) (hd : AE (Bj c.datas) = true) : ∀ (p t : Ty),Bf c.datas t = true → PureC Tryz.prog 65 [BX c sz,.agg (dTyc t),.agg (dTyc p)] (.bool (V5 c.datas t p))
 | .mk f n x ps,t,hn => by
  have hcon := Ub c sz t x hd hn
  have hnm := Lb ho (t := t) (s := x)
  have hS : V5 c.datas t (.mk f n x ps) = W1 c.datas t (.mk f n x ps) := W0 c.datas t (.mk f n x ps)
  rw [hS]
  obtain ⟨so,n0,x0,ps0⟩ := t
  simp only [W1]
  generalize Cr c.datas (.mk so n0 x0 ps0) x = r at *
  obtain ⟨ka,kb⟩ := r
  refine Az fun hv => ?_
  simp [Bh,CP,dTyc,maxLen] at hv
  refine Ae Ap Tryz.func65 (by decide +kernel) rfl [2,3,4,5,6,7] rfl rfl ?_
  refine bg [] rfl (by simp) ?_
  by_cases h1 : so = 1
  ·subst h1
   refine Aa rfl (fun h => ?_) (fun h => by simp at h)
   refine bd [] rfl (by simp) ?_
   refine Ab ⟨_,rfl,tV (congrArg _ ?_),trivial⟩
   simp
  rw [if_neg h1]
  refine Aa rfl (fun h => absurd (by simpa using h) h1) (fun h => ?_)
  clear h
  refine bd [] rfl (by simp) ?_
  by_cases h2 : so = 2
  ·subst h2
   refine Aa rfl (fun h => ?_) (fun h => by simp at h)
   refine bd [] rfl (by simp) ?_
   refine Ab ⟨_,rfl,tV (congrArg _ ?_),trivial⟩
   simp
  rw [if_neg h2]
  refine Aa rfl (fun h => absurd (by simpa using h) h2) (fun h => ?_)
  clear h
  refine bd [] rfl (by simp) ?_
  by_cases h3 : so = 3
  ·subst h3
   refine Aa rfl (fun h => ?_) (fun h => by simp at h)
   refine bd [] rfl (by simp) ?_
   refine Ab ⟨_,rfl,tV (congrArg _ ?_),trivial⟩
   simp
  rw [if_neg h3]
  refine Aa rfl (fun h => absurd (by simpa using h) h3) (fun h => ?_)
  clear h
  refine bd [] rfl (by simp) ?_
  by_cases h8 : so = 8
  case neg =>
   rw [if_neg h8]
   refine Aa rfl (fun h => absurd (by simpa using h) h8) (fun h => ?_)
   refine bd [] rfl (by simp) ?_
   refine Ab ⟨_,rfl,tV (congrArg _ ?_),trivial⟩
   simp
  rw [if_pos h8]
  refine Aa rfl (fun h => ?_) (fun h => by simp [h8] at h)
  clear h
  refine bd [] rfl (by simp) ?_
  refine Ac rfl (fun _ => hcon) (by simp) ?_
  refine bg [] rfl (by simp) ?_
  by_cases hg : f = 4 ∧ ka.length = ps.length ∧ kb = true
  case neg =>
   refine Aa rfl (fun h => ?_) (fun h => ?_)
   ·refine bd [] rfl (by simp) ?_
    refine Ab ⟨_,rfl,tV (congrArg _ ?_),trivial⟩
    simp
    grind
   ·exfalso
    simp at h
    apply hg
    grind
  obtain ⟨rfl,hlen,rfl⟩ := hg
  refine Aa rfl (fun h => by exfalso;simp [hlen] at h) (fun h => ?_)
  clear h
  refine bd [] rfl (by simp) ?_
  simp only [hlen,decide_true,Bool.true_and]
  refine Ah (fun i : Nat => [(56,.imm (.int .i64 i)),(55,.imm (.int .i64 ps.length)),(54,.imm (.sl (Bg ps))),(0,.imm (BX c sz)),(7,.imm (.sl (Bg ka)))]) (fun _ => []) [4,5,6,7] (fun i => ps.length - i)
   (fun i => i ≤ ps.length ∧ Mg c.datas ka ps = Mg c.datas (ka.drop i) (ps.drop i)) 0 ⟨Nat.zero_le _,rfl⟩ ⟨rfl,Aq (by simp),rfl,rfl,rfl,trivial⟩ trivial rfl fun i hi ih => ?_
  obtain ⟨hi1,hi2⟩ := hi
  refine bd [] rfl (by simp) ?_
  refine Aa rfl (fun h => ?_) (fun h => ?_)
  ·simp at h
   obtain ⟨p,hp⟩ := Ai h
   obtain ⟨a,ha⟩ := Ai (l := ka) (i := i) (by omega)
   rw [Aj hp,Aj ha] at hi2
   simp only [Mg] at hi2
   refine bd [] rfl (by simp) ?_
   refine bi rfl (c := dTyc p) (fun _ => ⟨by simp,by simpa using Ao hp,by simp⟩) (by simp) ?_
   refine bg [] rfl (by simp) ?_
   refine bi rfl (c := dTyc a) (fun _ => ⟨by simp,by simpa using Ao ha,by simp⟩) (by simp) ?_
   refine bg [] rfl (by simp) ?_
   refine Ac rfl (fun _ => YM c sz ho hd p a (DG hnm ha)) (by simp) ?_
   refine bg [] rfl (by simp;rfl) ?_
   refine Aa rfl (fun h => ?_) (fun h => ?_)
   ·refine bd [] rfl (by simp) ?_
    refine Ab ⟨_,rfl,tV (congrArg _ ?_),trivial⟩
    simp at h
    simp [hi2,h]
   ·refine bd [] rfl (by simp) ?_
    simp at h
    exact Ad (ih (i + 1) (by omega) ⟨by omega,by rw [hi2];simp [h]⟩) ⟨Aq (Bq (by omega) (by omega)),rfl,rfl,rfl,rfl,trivial⟩ trivial rfl
  ·simp at h
   refine Ar rfl ?_
   refine bd [] rfl (by simp) ?_
   rw [hi2,List.drop_eq_nil_of_le (by omega),List.drop_eq_nil_of_le (by omega)]
   exact Ab ⟨_,rfl,tV rfl,trivial⟩
termination_by p => SizeOf.sizeOf p
decreasing_by
 have := List.sizeOf_lt_of_mem (List.mem_of_getElem? hp)
 simp_wf
 omega
theorem Sz (g : FuncId) (a b : List V) (q : List V → Bool) (es : List (List V)) (hes : ∀ e ∈ es,e.length = 4) (hlen : es.length ≤ 9223372036854775807)
  (hq : ∀ e ∈ es,PureC Tryz.prog g (a ++ [.agg e] ++ b) (.bool (q e))) :
  PureC Tryz.prog 149 [.sl es,.clo (.func g) a b] (.int .i64 (CN q es 0)) := by
 refine Ae Ap Tryz.func149 (by decide +kernel) rfl [2,3,4] rfl rfl ?_
 refine bg [] rfl (by simp) ?_
 refine Ah (fun i : Nat => [(8,.imm (.int .i64 i)),(7,.imm (.int .i64 es.length)),(0,.imm (.sl es)),(1,.imm (.clo (.func g) a b))]) (fun _ => []) [2,3,4] (fun i => es.length - i)
  (fun i => i ≤ es.length ∧ CN q es 0 = CN q (es.drop i) i) 0 ⟨Nat.zero_le _,rfl⟩ ⟨rfl,Aq (by simp),rfl,rfl,trivial⟩ trivial rfl fun i hi ih => ?_
 refine bd [] rfl (by simp) ?_
 have hi2 := hi.2
 refine Aa rfl (fun h => ?_) (fun h => ?_)
 ·simp at h
  obtain ⟨e,he⟩ := Ai h
  have hm := List.mem_of_getElem? he
  rw [Aj he] at hi2
  refine bd [] rfl (by simp) ?_
  refine bi rfl (c := e) (fun _ => ⟨by simp,by simpa using he,hes e hm⟩) (by simp) ?_
  refine bg [] rfl (by simp [hes e hm]) ?_
  refine TQ rfl (fun _ => hq e hm) (by simp) ?_
  refine bg [] rfl (by simp) ?_
  refine Aa rfl (fun h => ?_) (fun h => ?_)
  ·refine bd [] rfl (by simp) ?_
   exact Ab ⟨_,rfl,tV (congrArg _ (by rw [hi2];simp [CN,h])),trivial⟩
  ·refine bd [] rfl (by simp) ?_
   exact Ad (ih (i + 1) (by omega) ⟨by omega,by rw [hi2];simp [CN,h]⟩) ⟨Aq (Bq (by omega) (by omega)),rfl,rfl,rfl,trivial⟩ trivial rfl
 ·refine bd [] rfl (by simp) ?_
  simp at h
  refine Ab ⟨_,rfl,tV (congrArg _ ?_),trivial⟩
  rw [hi2,List.drop_eq_nil_of_le (by omega)];rfl
theorem Nq (g : FuncId) (a b : List V) (q : List V → Bool) (es : List (List V)) (hes : ∀ e ∈ es,e.length = 4) (hlen : es.length ≤ 9223372036854775807)
  (hq : ∀ e ∈ es,PureC Tryz.prog g (a ++ [.agg e] ++ b) (.bool (q e))) :
  PureC Tryz.prog 117 [.sl es,.clo (.func g) a b] (.bool (es.any q)) := by
 refine Ae Ap Tryz.func117 (by decide +kernel) rfl [2,3,4] rfl rfl ?_
 refine bg [] rfl (by simp) ?_
 refine Ac rfl (fun _ => Sz g a b q es hes hlen hq) (by simp) ?_
 refine bg [] rfl (by simp) ?_
 refine Ab ⟨_,rfl,tV (congrArg _ ?_),trivial⟩
 rw [Bool.eq_iff_iff,← F8 q es 0]
 simp
theorem Wm (c : Cse) (sz : List (List V)) (t : Ty) : PureC Tryz.prog 118 [.agg (dTyc t),.ip 95 [BX c sz] 0] (.bool (!Bf c.datas t)) := by
 have hN := Nw c sz t
 obtain ⟨s,n,x,ps⟩ := t
 generalize Bf c.datas (.mk s n x ps) = b at *
 refine To ?_
 refine Ae Ap Tryz.func118 (by decide +kernel) rfl [2,3,4,5] rfl rfl ?_
 refine bg [] rfl (by simp) ?_
 refine Ac rfl (fun _ => hN) (by simp) ?_
 refine bg [] rfl (by simp) ?_
 exact Ab ⟨_,rfl,tV rfl,trivial⟩
theorem P7 (c : Cse) (sz : List (List V)) (ts : List Ty) (h : ts.length ≤ 9223372036854775807) :
  PureC Tryz.prog 117 [.sl (Bg ts),.clo (.func 118) [] [.ip 95 [BX c sz] 0]] (.bool (!AB c.datas ts)) := by
 have := Nq 118 [] [.ip 95 [BX c sz] 0] (qOf dTyc (fun t => !Bf c.datas t)) (Bg ts) (fun e he => by rw [BM] at he;obtain ⟨t,_,rfl⟩ := List.mem_map.1 he;simp) (by simpa using h)
  (fun e he => by
   rw [BM] at he
   obtain ⟨t,ht,rfl⟩ := List.mem_map.1 he
   rw [G5 EJ]
   exact Wm c sz t)
 rw [BM,List.any_map,show (qOf dTyc (fun t => !Bf c.datas t) ∘ dTyc) = (fun t => !Bf c.datas t) from funext fun v => G5 EJ _ v,← BM] at this
 rw [GC,List.all_eq_not_any_not,Bool.not_not]
 exact this
def Ez (ds : List Dt) : Bool := Gq ⟨[109],ds,[Fc]⟩ && (AE (B0 ds) && AE (Bj ds)) && Bc ds ds
def J5 (c : Cse) (a b : D) (sz : D) : List D := (dCse c).map .imm ++ [a,b,sz]
def L2 (c : Cse) : Blk := .cells 137 9 (J5 c (.imm (.mapv (CS (Bv 0 c.datas)))) (.imm (.mapv (CS (Cp 0 c.datas)))) .nils)
def outR (c : Cse) : Bool → Z7
 | true => .ret (.tup [.ref 6 0,.imm (.bool true)]) [(6,some (L2 c))]
 | false => .ret (.imm (.tup [.nilp,.bool false])) []
theorem Ga {ds : List Dt} (h : Gq ⟨[109],ds,[Fc]⟩ = true) : ds.length ≤ 4 ∧ ∀ d ∈ ds,d.cons.length ≤ 5 ∧ ∀ c ∈ d.cons,c.args.length ≤ 3 := by
 simp only [Gq,Bool.and_eq_true,List.all_eq_true,decide_eq_true_eq] at h
 refine ⟨by omega,fun d hd => ?_⟩
 have hd := h.1.2 d hd
 simp only [DR,Bool.and_eq_true,List.all_eq_true,decide_eq_true_eq] at hd
 refine ⟨by omega,fun c hc => ?_⟩
 have hc := hd.2 c hc
 simp only [Jq,Bool.and_eq_true,decide_eq_true_eq] at hc
 omega
theorem Qs (l : List (Str × V)) (p : Str × V) : RW (l ++ [p]) = CL (RW l) (.str p.1) p.2 := by simp [RW,HC]
theorem Rm {ds : List Dt} {i : Nat} {d : Dt} (h : ds[i]? = some d) : Bv 0 (ds.take (i + 1)) = Bv 0 (ds.take i) ++ [(d.name,.int .i64 i)] := by
 have hl : (ds.take i).length = i := by rw [List.length_take];have := (List.getElem?_eq_some_iff.1 h).1;omega
 rw [AM h,HO,hl];simp [Bv]
theorem SQ {ds : List Dt} {i : Nat} {d : Dt} (h : ds[i]? = some d) : Cp 0 (ds.take (i + 1)) = Cp 0 (ds.take i) ++ Co i 0 d.cons := by
 have hl : (ds.take i).length = i := by rw [List.length_take];have := (List.getElem?_eq_some_iff.1 h).1;omega
 rw [AM h,Jm,hl];simp [Cp]
theorem Rq {cs : List Cd} {i k : Nat} {c : Cd} (h : cs[k]? = some c) : Co i 0 (cs.take (k + 1)) = Co i 0 (cs.take k) ++ [(c.name,.agg [.int .i64 i,.int .i64 k])] := by
 have hl : (cs.take k).length = k := by rw [List.length_take];have := (List.getElem?_eq_some_iff.1 h).1;omega
 rw [AM h,HQ,hl];simp [Co]
set_option maxHeartbeats 2000000 in
theorem XM (c : Cse) : AP Tryz.prog 87 [.imm (.agg (dCse c))] [] (outR c (Ez c.datas)) := by
 obtain ⟨ds,⟨c1,c2,c3,c4⟩,rows⟩ := c
 simp only
 have hck := Na ⟨[109],ds,[Fc]⟩
 generalize hmb : Gq ⟨[109],ds,[Fc]⟩ = mb at hck
 refine Ae Ap Tryz.func87 (by decide +kernel) rfl [1,2,3,4,5,6,7,8,9,10,11,12] rfl rfl ?_
 refine bg [] rfl (by simp) ?_
 refine Ac rfl (fun _ => hck) (by simp) ?_
 refine bg [] rfl (by simp [GU]) ?_
 cases mb with
 | false =>
  refine Aa rfl (fun h => ?_) (fun h => by simp [GU] at h)
  refine bd [] rfl (by simp) ?_
  rw [show Ez ds = false by simp [Ez,hmb]]
  exact Ab ⟨_,rfl,tV rfl,trivial⟩
 | true =>
 refine Aa rfl (fun h => by simp [GU] at h) (fun h => ?_)
 clear h
 obtain ⟨hl1,hl2⟩ := Ga hmb
 refine bd [] rfl (by simp) ?_
 refine Lu rfl ?_
 refine bg [] rfl (by simp) ?_
 refine Lu rfl ?_
 refine bg [] rfl (by simp) ?_
 refine Ah (fun i : Nat => [(36,.imm (.int .i64 i)),(35,.imm (.int .i64 ds.length)),(34,.imm (.sl (ds.map B5))),(7,.imm (.int .i64 (Bj (ds.take i)).length)),(1,.ref 1 0),(6,.ref 7 0)])
  (fun i => [(1,some (.immb 29 6 (dCse ⟨ds,.mk c1 c2 c3 c4,rows⟩))),(4,some (.map (RW (Bv 0 (ds.take i))))),(5,some (.map (RW (Cp 0 (ds.take i))))),(6,some (.cells 137 9 (J5 ⟨ds,.mk c1 c2 c3 c4,rows⟩ (.mapr 4) (.mapr 5) .nils))),(7,some (.cells 95 1 [.ref 6 0]))]) [8,9,10,11,12] (fun i => ds.length - i)
  (fun i => i ≤ ds.length) 0 (Nat.zero_le _) ⟨rfl,Aq (by simp),rfl,rfl,rfl,rfl,trivial⟩ ⟨rfl,rfl,rfl,rfl,rfl,trivial⟩ rfl fun i hi ih => ?_
 refine bd [] rfl (by simp) ?_
 refine Aa rfl (fun h => ?_) (fun h => ?_)
 ·simp at h
  obtain ⟨d,hd⟩ := Ai h
  have hdm := hl2 d (List.mem_of_getElem? hd)
  have hcl := Ou (ds := ds.take i) fun x hx => (hl2 x (List.mem_of_mem_take hx)).1
  rw [List.length_take] at hcl
  have ec := MN hd
  have ed := Rm hd
  have es := SQ hd
  refine bd [] rfl (by simp) ?_
  refine bi rfl (c := B5 d) (fun _ => ⟨by simp,by simpa using AC hd,by simp⟩) (by simp) ?_
  obtain ⟨dn,dc⟩ := d
  simp only at hdm ec ed es
  refine bg [] rfl (by simp) ?_
  refine S7 Ap rfl rfl rfl (Qt _) ?_
  refine bg [] rfl (by simp [Af];rfl) ?_
  refine Ah (fun k : Nat => [(51,.imm (.int .i64 k)),(50,.imm (.int .i64 dc.length)),(49,.imm (.sl (dc.map Cx))),(8,.imm (.int .i64 i)),(36,.imm (.int .i64 i)),(35,.imm (.int .i64 ds.length)),(34,.imm (.sl (ds.map B5))),(7,.imm (.int .i64 ((Bj (ds.take i)).length + k : Nat))),(1,.ref 1 0),(6,.ref 7 0)])
   (fun k => [(1,some (.immb 29 6 (dCse ⟨ds,.mk c1 c2 c3 c4,rows⟩))),(4,some (.map (RW (Bv 0 (ds.take (i + 1)))))),(5,some (.map (RW (Cp 0 (ds.take i) ++ Co i 0 (dc.take k))))),(6,some (.cells 137 9 (J5 ⟨ds,.mk c1 c2 c3 c4,rows⟩ (.mapr 4) (.mapr 5) .nils))),(7,some (.cells 95 1 [.ref 6 0]))]) [8,9,10,11,12] (fun k => dc.length - k)
   (fun k => k ≤ dc.length) 0 (Nat.zero_le _) ⟨rfl,Aq (by simp),rfl,rfl,rfl,rfl,rfl,rfl,rfl,rfl,trivial⟩ ⟨rfl,by rw [ed,Qs];rfl,by rw [List.take_zero,show Co i 0 [] = [] from rfl,List.append_nil];rfl,rfl,rfl,trivial⟩ rfl fun k hk jh => ?_
  refine bd [] rfl (by simp) ?_
  refine Aa rfl (fun h => ?_) (fun h => ?_)
  ·simp at h
   obtain ⟨k',hk'⟩ := Ai h
   have ek := Rq (i := i) hk'
   refine bd [] rfl (by simp) ?_
   refine bi rfl (c := Cx k') (fun _ => ⟨by simp,by simpa using AC hk',by simp⟩) (by simp) ?_
   obtain ⟨kn,ka⟩ := k'
   simp only at ek
   refine bg [] rfl (by simp) ?_
   refine S7 Ap rfl rfl rfl (Qt _) ?_
   refine bg [] rfl (by simp [Af];rfl) ?_
   exact Ad (jh (k + 1) (by omega) (by omega)) ⟨Aq (Bq (by omega) (by omega)),rfl,rfl,rfl,rfl,rfl,rfl,Aq (by rw [Bq (by omega) (by omega)];omega),rfl,rfl,trivial⟩ ⟨rfl,rfl,by rw [ek,← List.append_assoc,Qs];rfl,rfl,rfl,trivial⟩ rfl
  ·simp at h
   have hke : dc.take k = dc := List.take_of_length_le h
   have hkl : k = dc.length := by omega
   refine Ar rfl ?_
   refine bd [] rfl (by simp) ?_
   exact Ad (ih (i + 1) (by omega) (by omega)) ⟨Aq (Bq (by omega) (by omega)),rfl,rfl,Aq (by rw [ec];simp [hkl]),rfl,rfl,trivial⟩ ⟨rfl,rfl,by rw [es,hke];rfl,rfl,rfl,trivial⟩ rfl
 ·simp at h
  refine Ar rfl ?_
  rw [List.take_of_length_le h]
  refine bd [] rfl (by simp [Af];rfl) ?_
  have m1 := (TA (Bv 0 ds)).2
  have m2 := (TA (Cp 0 ds)).2
  rw [Ef] at m1
  rw [Fh] at m2
  have l1 : (Bv 0 ds).length = ds.length := by have := congrArg List.length (Ef 0 ds);simpa [B0] using this
  have l2 : (Cp 0 ds).length = (Bj ds).length := by have := congrArg List.length (Fh 0 ds);simpa using this
  rw [l1] at m1
  rw [l2] at m2
  by_cases hdf : AE (B0 ds) = true ∧ AE (Bj ds) = true
  case neg =>
   refine Aa rfl (fun h => ?_) (fun h => ?_)
   ·refine bd [] rfl (by simp) ?_
    have : (AE (B0 ds) && AE (Bj ds)) = false := by cases h1 : AE (B0 ds) <;> cases h2 : AE (Bj ds) <;> simp_all
    rw [show Ez ds = false by simp only [Ez,this];simp]
    exact Ab ⟨_,rfl,tV rfl,trivial⟩
   ·exfalso
    apply hdf
    simp at h m1 m2
    constructor
    ·cases h1 : AE (B0 ds) with
     | true => rfl
     | false => rw [h1] at m1;simp at m1;omega
    ·cases h1 : AE (Bj ds) with
     | true => rfl
     | false => rw [h1] at m2;simp at m2;omega
  obtain ⟨hdn,hdc⟩ := hdf
  rw [hdn] at m1
  rw [hdc] at m2
  refine Aa rfl (fun h' => by exfalso;simp at h' m1 m2;omega) (fun h => ?_)
  clear h m1 m2
  rw [show Ez ds = Bc ds ds by simp [Ez,hmb,hdn,hdc],Mm _ (by rw [Ef];exact hdn),Mm _ (by rw [Fh];exact hdc)]
  refine bd [] rfl (by simp) ?_
  refine Ah (fun i : Nat => [(90,.imm (.int .i64 i)),(89,.imm (.int .i64 ds.length)),(88,.imm (.sl (ds.map B5))),(6,.ref 7 0)])
   (fun _ => [(4,some (.map (CS (Bv 0 ds)))),(5,some (.map (CS (Cp 0 ds)))),(6,some (.cells 137 9 (J5 ⟨ds,.mk c1 c2 c3 c4,rows⟩ (.mapr 4) (.mapr 5) .nils))),(7,some (.cells 95 1 [.ref 6 0]))]) [8,9,10,11,12] (fun i => ds.length - i)
   (fun i => i ≤ ds.length ∧ Bc ds ds = Bc ds (ds.drop i)) 0 ⟨Nat.zero_le _,rfl⟩ ⟨rfl,Aq (by simp),rfl,rfl,trivial⟩ ⟨rfl,rfl,rfl,rfl,trivial⟩ rfl fun i hi ih => ?_
  obtain ⟨hi1,hi2⟩ := hi
  refine bd [] rfl (by simp) ?_
  refine Aa rfl (fun h => ?_) (fun h => ?_)
  ·simp at h
   obtain ⟨d,hd⟩ := Ai h
   have hdm := hl2 d (List.mem_of_getElem? hd)
   rw [show Bc ds (ds.drop i) = (d.cons.all (fun c => AB ds c.args) && Bc ds (ds.drop (i + 1))) from C3 hd] at hi2
   refine bd [] rfl (by simp) ?_
   refine bi rfl (c := B5 d) (fun _ => ⟨by simp,by simpa using AC hd,by simp⟩) (by simp) ?_
   obtain ⟨dn,dc⟩ := d
   simp only at hdm hi2
   refine bg [] rfl (by simp) ?_
   refine Ah (fun k : Nat => [(97,.imm (.int .i64 k)),(96,.imm (.int .i64 dc.length)),(95,.imm (.sl (dc.map Cx))),(90,.imm (.int .i64 i)),(89,.imm (.int .i64 ds.length)),(88,.imm (.sl (ds.map B5))),(6,.ref 7 0)])
    (fun _ => [(4,some (.map (CS (Bv 0 ds)))),(5,some (.map (CS (Cp 0 ds)))),(6,some (.cells 137 9 (J5 ⟨ds,.mk c1 c2 c3 c4,rows⟩ (.mapr 4) (.mapr 5) .nils))),(7,some (.cells 95 1 [.ref 6 0]))]) [8,9,10,11,12] (fun k => dc.length - k)
    (fun k => k ≤ dc.length ∧ dc.all (fun c => AB ds c.args) = (dc.drop k).all (fun c => AB ds c.args)) 0 ⟨Nat.zero_le _,rfl⟩ ⟨rfl,Aq (by simp),rfl,rfl,rfl,rfl,rfl,trivial⟩ ⟨rfl,rfl,rfl,rfl,trivial⟩ rfl fun k hk jh => ?_
   obtain ⟨hk1,hk2⟩ := hk
   refine bd [] rfl (by simp) ?_
   refine Aa rfl (fun h => ?_) (fun h => ?_)
   ·simp at h
    obtain ⟨k',hk'⟩ := Ai h
    have hkm := hdm.2 k' (List.mem_of_getElem? hk')
    rw [C3 hk'] at hk2
    refine bd [] rfl (by simp) ?_
    refine bi rfl (c := Cx k') (fun _ => ⟨by simp,by simpa using AC hk',by simp⟩) (by simp) ?_
    obtain ⟨kn,ka⟩ := k'
    simp only at hkm hk2
    refine bg [] rfl (by simp) ?_
    refine Hu rfl (v := .bool (!AB ds ka)) (fun _ => P7 ⟨ds,.mk c1 c2 c3 c4,rows⟩ [] ka (by omega)) rfl (by simp) ?_
    refine bg [] rfl (by simp) ?_
    refine Aa rfl (fun h => ?_) (fun h => ?_)
    ·have h : AB ds ka = true := by simpa using h
     refine Ar rfl ?_
     refine bd [] rfl (by simp) ?_
     exact Ad (jh (k + 1) (by omega) ⟨by omega,by rw [hk2];simp [h]⟩) ⟨Aq (Bq (by omega) (by omega)),rfl,rfl,rfl,rfl,rfl,rfl,trivial⟩ ⟨rfl,rfl,rfl,rfl,trivial⟩ rfl
    ·have h : AB ds ka = false := by simpa using h
     refine bd [] rfl (by simp) ?_
     rw [hi2,hk2,h]
     exact Ab ⟨_,rfl,tV rfl,trivial⟩
   ·simp at h
    refine Ar rfl ?_
    refine bd [] rfl (by simp) ?_
    rw [List.drop_eq_nil_of_le (by omega)] at hk2
    exact Ad (ih (i + 1) (by omega) ⟨by omega,by rw [hi2,hk2];simp⟩) ⟨Aq (Bq (by omega) (by omega)),rfl,rfl,rfl,trivial⟩ ⟨rfl,rfl,rfl,rfl,trivial⟩ rfl
  ·simp at h
   refine Ar rfl ?_
   rw [hi2,List.drop_eq_nil_of_le (by omega)]
   refine KR 4 rfl ?_
   refine KR 5 rfl ?_
   refine bd [] rfl (by simp) ?_
   exact Ab ⟨_,rfl,rfl,⟨rfl,trivial⟩⟩
end Go.Hk
namespace Go.Hk
section
variable {P : Program} {n : Nat} {F : List Nat} {Q : DQ} {todo : List DI} {env : Env} {st : St} {ids' : List Nat}
end
end Go.Hk
namespace Go.Hk
structure PMs where
 e : TypeId
 z : V
 bytes : Nat
 m : Int
 m2 : Int
 id' : Nat
 ids' : List Nat
 dst : Option Nat
 todo : List DI
def ZK (tt : TT) (n : Nat) (env : Env) (ids : List Nat) (todo : List DI) : Option PMs :=
 match OR todo,ids with
 | some o,id' :: ids' => match o.guard,o.op with
  | none,.makeSlice t l c => match lk tt t,EB env l,EB env c with
   | some { sh := .sl e,.. },some (.imm (.int _ m)),some (.imm (.int _ m2)) => match lk tt e,BW n o.dst,AQ todo ([],[id']) with
    | some ⟨_,_,1,bytes,[.imm z]⟩,true,some (_,_,todo') => some ⟨e,z,bytes,m,m2,id',ids',o.dst,todo'⟩
    | _,_,_ => none
   | _,_,_ => none
  | _,_ => none
 | _,_ => none
section
variable {P : Program} {n : Nat} {F : List Nat} {Q : DQ} {tt : TT} {env env' : Env} {st st' : St} {ids ids' : List Nat} {k todo todo' : List DI} {I : Imm} {μ : Mu} {w : World} {a : Act} {Pn : V → Prop} {d : D} {cx : Prop} {ob : List Prop}
theorem WB (z : Array Value) (n : Nat) (c : Value) (h : z.toList = [c]) : madeCells z n = Array.replicate n c := by
 obtain ⟨z⟩ := z
 simp at h;subst h
 apply Array.ext
 ·simp [madeCells]
 ·intro i h1 h2
  simp [madeCells,Nat.mod_one]
theorem Vb (htt : TTok P tt) {c : PMs} (h : ZK tt n env ids todo = some c) (hm : c.m2 = c.m) (h0 : 0 ≤ c.m) (h1 : (c.bytes : Int) * c.m ≤ 281474976710656) (h2 : c.m ≤ maxLen) (hz : V.one c.z = true)
  (hk : G P n F Q c.todo (Bo c.dst (.own c.id' (List.replicate c.m.toNat [c.z]).length) env) ((c.id',some (.row c.e 1 (List.replicate c.m.toNat [c.z]))) :: st) c.ids') : G P n F Q todo env st ids := by
 unfold ZK at h
 split at h
 ·rename_i o id' ids' ho
  split at h
  ·rename_i t l cc hg hop
   split at h
   ·rename_i e _ _ _ _ k1 m k2 m2 ht hl hc
    split at h
    ·rename_i sh ag bytes z all o' todo' hi hd hn1
     cases h
     have ho' : o' = o := CE ho hn1
     subst ho'
     simp only at hm h0 h1 h2 hz hk
     have hm := hm.symm
     subst hm
     refine BA (fr := [id']) (wr := [(id',some (.row e 1 (List.replicate m.toNat [z])))]) (rd := []) hn1 ?_ hd (fun c hc => by rw [hop] at hc;cases hc) hk
     intro I μ st1 ids1 a w hag hst hon
     refine ⟨fun _ => ?_,fun hw => by rw [wanted_none hg] at hw;cases hw⟩
     have hops := Ba hon
     rw [hop] at hops
     have rl := hops l (by simp [Op.operands]) _ hl
     have rc := hops cc (by simp [Op.operands]) _ hc
     obtain ⟨inf,zv,i1,i2,i3,i4,i5,i6⟩ := (htt e _ hi).info
     have hz1 := i5 I μ
     have hzl : ∃ c0,zv.cells.toList = [c0] ∧ RepV I c0 z := by
      have hl := hz1.1
      match hcs : zv.cells.toList,hl with
      | [c0],_ => exact ⟨c0,rfl,(hz1.2 0 c0 _ (by rw [hcs];rfl) rfl).immInv⟩
     obtain ⟨c0,hc0,hr0⟩ := hzl
     have hsz : inf.size = 1 := i2
     have hby : inf.bytes = bytes := i3
     have hrun : (execOp a.eval o').run P w = .ok (.value (.slice (some ⟨w.heap.size,0,none⟩) m.toNat m.toNat)) (w.alloc (.cells (Array.replicate m.toNat c0) e)) := by
      have hs := (htt t _ ht).sh
      have hx := run_make (P := P) w t e inf zv hs i1 i4 k1 k2 m m h0 (Int.le_refl _) (by rw [hby];exact h1) (by simpa [maxLen] using h2)
      rw [WB _ _ c0 hc0,hsz,Nat.mul_one] at hx
      simp only [execOp,hop]
      generalize a.eval l = vl at rl
      generalize a.eval cc = vc at rc
      cases rl with
      | imm _ _ rl =>
      cases rc with
      | imm _ _ rc =>
      cases rl
      cases rc
      simp only [Sem.run_bind,hx,Result.andThen_ok,Sem.run_pure]
     rw [hrun]
     have hlen : (List.replicate m.toNat [z]).length = m.toNat := by simp
     have hone0 : c0.oneCell' = true := i6 c0 (by rw [hc0];simp)
     obtain ⟨μ',q1,q2,q3,q4⟩ := hst.allocO (.cells (Array.replicate m.toNat c0) e) (.slice (some ⟨w.heap.size,0,none⟩) m.toNat m.toNat) (fun _ h => Eq.symm h) (.row e 1 (List.replicate m.toNat [z])) (fun μ' _ =>
      ⟨(List.replicate m.toNat c0),⟨by simp [hlen],.inr ⟨w.heap.size,m.toNat,Array.replicate m.toNat c0,by rw [hlen],Nat.zero_le _,Ec w _,by rw [hlen];exact Nat.le_refl _,by simp [maxLen] at h2 ⊢;omega,by simp,by rw [hlen];simp⟩⟩,⟨by simp,fun i v x hv hx => by
       have e1 : (List.replicate m.toNat [z]).flatten = List.replicate m.toNat z := by
        generalize m.toNat = q
        induction q with
        | zero => rfl
        | succ q ih => simp only [List.replicate_succ,List.flatten_cons,ih];rfl
       rw [e1] at hx
       rw [List.getElem?_replicate] at hv hx
       split at hv
       ·rename_i hq
        rw [if_pos hq] at hx
        cases hv;cases hx;exact hr0
       ·cases hv⟩,fun c hc => by rw [List.eq_of_mem_replicate hc];rfl,fun c hc y hy => by
       rw [List.eq_of_mem_replicate hc] at hy
       simp at hy;subst hy;exact hz,Nat.one_pos⟩)
     rw [hlen] at *
     exact ⟨I,μ',q3,.own _ _ _ _ q1,q2,q4⟩
    ·cases h
   ·cases h
  ·cases h
 ·cases h
end
end Go.Hk
namespace Go.Hk
open Go.Proofs
def Ng (ds : List Dt) (s : List Int) : Ty → Int
 | .mk so _ x _ => if so = 8 then s.getD (Np ds x).toNat 0 else 1
def Cg (ds : List Dt) (s : List Int) : Int → List Ty → Int
 | n,[] => n
 | n,t :: r => if Ng ds s t = 0 then 0 else Cg ds s (n + Ng ds s t) r
def F2 (s : List Int) : List (List V) := s.map fun n => [.int .i64 n]
@[simp] theorem rowI_length (s : List Int) : (F2 s).length = s.length := by simp [F2]
theorem I6 {s : List Int} {i : Nat} (h : i < s.length) : (F2 s)[i]? = some [.int .i64 (s.getD i 0)] := by simp [F2,h,List.getD]
def LE (ds : List Dt) (i : Nat) (p : List Int × Bool) (args : List Ty) : List Int × Bool :=
 if 0 < Cg ds p.1 1 args ∧ (p.1.getD i 0 = 0 ∨ Cg ds p.1 1 args < p.1.getD i 0) then (p.1.set i (Cg ds p.1 1 args),true) else p
def Vr (ds : List Dt) (i : Nat) : List Int × Bool → List Cd → List Int × Bool
 | p,[] => p
 | p,c :: r => Vr ds i (LE ds i p c.args) r
def G2 (ds : List Dt) : List Int × Bool → Nat → List Dt → List Int × Bool
 | p,_,[] => p
 | p,i,d :: r => G2 ds (Vr ds i p d.cons) (i + 1) r
def TH (ds : List Dt) : Nat → List Int → List Int
 | 0,s => s
 | f + 1,s => bif (G2 ds (s,false) 0 ds).2 then TH ds f (G2 ds (s,false) 0 ds).1 else (G2 ds (s,false) 0 ds).1
def YY (ds : List Dt) : List Int := TH ds 2000 (List.replicate ds.length 0)
def NN : List Int → Nat
 | [] => 0
 | x :: r => (if x = 0 then 0 else 1) + NN r
def NU : List Int → Nat
 | [] => 0
 | x :: r => (if x = 0 then 257 else x.toNat) + NU r
theorem OS : ∀ s : List Int,NN s ≤ s.length
 | [] => Nat.le_refl _
 | x :: r => by have := OS r;simp only [NN,List.length_cons];split <;> omega
theorem T2 : ∀ (s : List Int) (i : Nat) (n : Int),i < s.length → n ≠ 0 → NN (s.set i n) = NN s + (if s.getD i 0 = 0 then 1 else 0)
 | [],i,n,h,_ => by simp at h
 | x :: r,0,n,_,hn => by simp only [List.set_cons_zero,NN,hn,if_false,List.getD_cons_zero];split <;> omega
 | x :: r,i + 1,n,h,hn => by
  have := T2 r i n (by simpa using h) hn
  simp only [List.set_cons_succ,NN,List.getD_cons_succ,this];omega
theorem T8 : ∀ (s : List Int) (i : Nat) (n : Int),i < s.length → 0 < n → n ≤ 256 → (s.getD i 0 = 0 ∨ n < s.getD i 0) → NU (s.set i n) < NU s
 | [],i,n,h,_,_,_ => by simp at h
 | x :: r,0,n,_,hn,hb,hc => by
  simp only [List.set_cons_zero,NU,List.getD_cons_zero] at hc ⊢
  rw [if_neg (by omega)]
  split <;> omega
 | x :: r,i + 1,n,h,hn,hb,hc => by
  have := T8 r i n (by simpa using h) hn hb (by simpa using hc)
  simp only [List.set_cons_succ,NU];omega
theorem W5 : ∀ s : List Int,(∀ x ∈ s,x ≤ 256) → NU s ≤ 257 * s.length
 | [],_ => Nat.le_refl _
 | x :: r,h => by
  have h1 := h x (by simp)
  have h2 := W5 r fun y hy => h y (by simp [hy])
  simp only [NU,List.length_cons]
  split <;> omega
structure P9 (ds : List Dt) (s : List Int) : Prop where
 len : s.length = ds.length
 le : ∀ x ∈ s,0 ≤ x ∧ x ≤ ((4 ^ NN s : Nat) : Int)
theorem QG {s : List Int} {i : Nat} : s.getD i 0 ∈ s ∨ s.getD i 0 = 0 := by
 by_cases h : i < s.length
 ·left;simp [List.getD,List.getElem?_eq_getElem h]
 ·right;simp [List.getD,List.getElem?_eq_none (Nat.le_of_not_lt h)]
theorem ZJ {n : Nat} (h : n ≤ 4) : 4 ^ n ≤ 256 := by
 have : n = 0 ∨ n = 1 ∨ n = 2 ∨ n = 3 ∨ n = 4 := by omega
 rcases this with rfl | rfl | rfl | rfl | rfl <;> decide
theorem Mf {ds : List Dt} {s : List Int} (h : P9 ds s) (t : Ty) : 0 ≤ Ng ds s t ∧ Ng ds s t ≤ ((4 ^ NN s : Nat) : Int) := by
 obtain ⟨so,n,x,ps⟩ := t
 have h1 : 1 ≤ 4 ^ NN s := Nat.one_le_pow _ _ (by decide)
 simp only [Ng]
 split
 ·rcases QG (s := s) (i := (Np ds x).toNat) with hm | hm
  ·exact h.le _ hm
  ·rw [hm];omega
 ·omega
theorem FM {ds : List Dt} {s : List Int} (h : P9 ds s) : ∀ (l : List Ty) (n : Int),0 ≤ n → 0 ≤ Cg ds s n l ∧ Cg ds s n l ≤ n + (l.length : Int) * ((4 ^ NN s : Nat) : Int)
 | [],n,hn => by simp [Cg,hn]
 | t :: r,n,hn => by
  have hb := Mf h t
  have ih := FM h r (n + Ng ds s t) (by omega)
  simp only [Cg,List.length_cons]
  generalize ((4 ^ NN s : Nat) : Int) = M at *
  have : ((r.length + 1 : Nat) : Int) * M = (r.length : Int) * M + M := by rw [Int.natCast_add,Int.add_mul];omega
  rw [this]
  have hm : 0 ≤ (r.length : Int) * M := Int.mul_nonneg (by omega) (by omega)
  split <;> omega
theorem VT {ds : List Dt} (h4 : ds.length ≤ 4) {i : Nat} (hi : i < ds.length) {p : List Int × Bool} {args : List Ty} (ha : args.length ≤ 3) (h : P9 ds p.1) :
  P9 ds (LE ds i p args).1 ∧ NU (LE ds i p args).1 ≤ NU p.1 ∧ ((LE ds i p args).2 = true → p.2 = true ∨ NU (LE ds i p args).1 < NU p.1) := by
 have hs := FM h args 1 (by omega)
 simp only [LE]
 generalize Cg ds p.1 1 args = n at *
 split
 ·rename_i hc
  have hlt : i < p.1.length := by rw [h.len];exact hi
  have hset := T2 p.1 i n hlt (by omega)
  have hnz := OS p.1
  have hz1 : 4 ^ NN p.1 ≥ 1 := Nat.one_le_pow _ _ (by decide)
  have key : ∀ M : Nat,1 ≤ M → n ≤ 1 + (args.length : Int) * (M : Int) → n ≤ ((M * 4 : Nat) : Int) := fun M h1 h2 => by
   have : (args.length : Int) * (M : Int) ≤ 3 * (M : Int) := Int.mul_le_mul_of_nonneg_right (by omega) (by omega)
   omega
  have hn4 : n ≤ ((4 ^ NN (p.1.set i n) : Nat) : Int) := by
   rw [hset]
   by_cases h0 : p.1.getD i 0 = 0
   ·rw [if_pos h0,Nat.pow_succ]
    exact key _ hz1 hs.2
   ·rw [if_neg h0,Nat.add_zero]
    rcases QG (s := p.1) (i := i) with hm | hm
    ·have := (h.le _ hm).2;omega
    ·exact absurd hm h0
  have hle : NN (p.1.set i n) ≤ 4 := by have := OS (p.1.set i n);rw [List.length_set,h.len] at this;omega
  have h256 := ZJ hle
  have hmu := T8 p.1 i n hlt hc.1 (by omega) hc.2
  refine ⟨⟨by simp [h.len],fun x hx => ?_⟩,Nat.le_of_lt hmu,fun _ => .inr hmu⟩
  have hmono : 4 ^ NN p.1 ≤ 4 ^ NN (p.1.set i n) := Nat.pow_le_pow_right (by decide) (by rw [hset];omega)
  show 0 ≤ x ∧ x ≤ ((4 ^ NN (p.1.set i n) : Nat) : Int)
  rcases List.mem_or_eq_of_mem_set hx with hx | rfl
  ·have := h.le x hx;omega
  ·omega
 ·exact ⟨h,Nat.le_refl _,fun h => .inl h⟩
theorem XH (c : Cse) (s : List Int) (hs : P9 c.datas s) (h4 : c.datas.length ≤ 4) (args : List Ty) (hn : AB c.datas args = true) (ha : args.length ≤ 3) :
  PureC Tryz.prog 125 [BX c (F2 s),.sl (Bg args)] (.int .i64 (Cg c.datas s 1 args)) := by
 obtain ⟨ds,⟨c1,c2,c3,c4⟩,rows⟩ := c
 simp only at hs h4 hn ⊢
 have hpw : ((4 ^ NN s : Nat) : Int) ≤ 256 := by have := ZJ (n := NN s) (by have := OS s;rw [hs.len] at this;omega);omega
 refine Ae Ap Tryz.func125 (by decide +kernel) rfl [2,3,4,5,6] rfl rfl ?_
 refine bg [] rfl (by simp) ?_
 refine Ah (fun y : Nat × Int => [(11,.imm (.int .i64 y.1)),(10,.imm (.int .i64 args.length)),(9,.imm (.sl (Bg args))),(5,.imm (.int .i64 y.2)),(0,.imm (BX ⟨ds,.mk c1 c2 c3 c4,rows⟩ (F2 s)))]) (fun _ => []) [2,3,4,5,6] (fun y => args.length - y.1)
  (fun y => y.1 ≤ args.length ∧ Cg ds s 1 args = Cg ds s y.2 (args.drop y.1) ∧ 0 ≤ y.2 ∧ y.2 ≤ 1 + 256 * y.1) (0,1) ⟨Nat.zero_le _,rfl,by simp only;omega,by simp only;omega⟩ ⟨rfl,Aq (by simp),rfl,rfl,rfl,trivial⟩ trivial rfl fun y hi ih => ?_
 obtain ⟨i,m⟩ := y
 obtain ⟨hi1,hi2,hi3,hi4⟩ := hi
 simp only at hi1 hi2 hi3 hi4
 refine bd [] rfl (by simp) ?_
 refine Aa rfl (fun h => ?_) (fun h => ?_)
 ·simp at h
  obtain ⟨t,ht⟩ := Ai h
  have hnt := DG hn ht
  have hb := Mf hs t
  rw [Aj ht] at hi2
  simp only [Cg] at hi2
  refine bd [] rfl (by simp) ?_
  refine bi rfl (c := dTyc t) (fun _ => ⟨by simp,by simpa using Ao ht,by simp⟩) (by simp) ?_
  obtain ⟨so,n,x,ps⟩ := t
  refine bg [] rfl (by simp) ?_
  by_cases h8 : so = 8
  ·subst h8
   have hp := (Ho hnt 8 n x ps rfl rfl).1
   have hd : Np ds x = AF x 0 ds := by simp [Np,hp]
   obtain ⟨k,d,k1,k2,k3⟩ := FS x ds 0 hp
   have hk : k < s.length := by rw [hs.len];exact (List.getElem?_eq_some_iff.1 k2).1
   have ho : Ng ds s (.mk 8 n x ps) = s.getD k 0 := by simp [Ng,hd,k1]
   rw [ho] at hi2 hb
   refine Aa rfl (fun h => ?_) (fun h => by simp at h)
   refine bd [] rfl (by simp) ?_
   refine GQ Ap rfl rfl rfl (Fy _) (by simp [Af]) (z := .int .i64 0) rfl (fun _ => .int _ _) (GG ds x) ?_
   refine bg [] rfl (by simp) ?_
   refine bi rfl (c := [.int .i64 (s.getD k 0)]) (fun _ => ⟨by rw [hd];exact hp,by rw [hd,k1];simpa using I6 hk,rfl⟩) (by simp) ?_
   refine bg [] rfl (by simp;rfl) ?_
   refine Aa rfl (fun h => ?_) (fun h => ?_)
   ·refine bd [] rfl (by simp) ?_
    rw [if_pos (by simpa using h)] at hi2
    rw [hi2]
    exact Ab ⟨_,rfl,tV rfl,trivial⟩
   ·refine bd [] rfl (by simp) ?_
    rw [if_neg (by simpa using h)] at hi2
    exact Ad (ih (i + 1,m + s.getD k 0) (by simp only;omega) ⟨by simp only;omega,hi2,by simp only;omega,by simp only;omega⟩) ⟨Aq (Bq (by simp only;omega) (by simp only;omega)),rfl,rfl,Aq (Bq (by omega) (by omega)),rfl,trivial⟩ trivial rfl
  ·have ho : Ng ds s (.mk so n x ps) = 1 := by simp [Ng,h8]
   rw [ho] at hi2
   refine Aa rfl (fun h => absurd (by simpa using h) h8) (fun h => ?_)
   refine bd [] rfl (by simp) ?_
   refine Aa rfl (fun h => by simp at h) (fun h => ?_)
   refine bd [] rfl (by simp) ?_
   rw [if_neg (by omega)] at hi2
   exact Ad (ih (i + 1,m + 1) (by simp only;omega) ⟨by simp only;omega,hi2,by simp only;omega,by simp only;omega⟩) ⟨Aq (Bq (by simp only;omega) (by simp only;omega)),rfl,rfl,Aq (Bq (by omega) (by omega)),rfl,trivial⟩ trivial rfl
 ·simp at h
  refine Ar rfl ?_
  refine bd [] rfl (by simp) ?_
  rw [hi2,List.drop_eq_nil_of_le (by omega)]
  exact Ab ⟨_,rfl,tV rfl,trivial⟩
theorem Wc (s : List Int) (i : Nat) (n : Int) : (F2 s).set i [.int .i64 n] = F2 (s.set i n) := by simp [F2,List.map_set]
theorem Uz (n : Nat) : List.replicate n [V.int .i64 0] = F2 (List.replicate n 0) := by simp [F2]
theorem Uo (ds : List Dt) : P9 ds (List.replicate ds.length 0) := ⟨by simp,fun x hx => by rw [List.eq_of_mem_replicate hx];exact ⟨Int.le_refl _,Int.natCast_nonneg _⟩⟩
def O5 (c : Cse) (sz : D) : Blk := .cells 137 9 (J5 c (.imm (.mapv (CS (Bv 0 c.datas)))) (.imm (.mapv (CS (Cp 0 c.datas)))) sz)
set_option maxHeartbeats 2000000 in
theorem VC (c : Cse) (h4 : c.datas.length ≤ 4) (hl2 : ∀ d ∈ c.datas,d.cons.length ≤ 5 ∧ ∀ c ∈ d.cons,c.args.length ≤ 3) (hN : Bc c.datas c.datas = true) :
  AP Tryz.prog 95 [.ref 1 0] [(1,some (L2 c))] (.ret Fw [(1,some (O5 c (.own 2 c.datas.length))),(2,some (.row 3 1 (F2 (YY c.datas))))]) := by
 obtain ⟨ds,⟨c1,c2,c3,c4⟩,rows⟩ := c
 simp only at h4 hl2 hN ⊢
 have hl3 : ∀ d ∈ ds,∀ c ∈ d.cons,c.args.length ≤ 3 := fun d hd => (hl2 d hd).2
 have hnm : ∀ d ∈ ds,∀ c ∈ d.cons,AB ds c.args = true := by simpa [Bc] using hN
 generalize hC : (⟨ds,.mk c1 c2 c3 c4,rows⟩ : Cse) = C at *
 have hCd : C.datas = ds := by rw [← hC]
 unfold L2
 rw [hCd]
 subst hC
 refine Ae Ap Tryz.func95 (by decide +kernel) rfl [2,3,4,5,6] rfl rfl ?_
 refine bg [] rfl (by simp) ?_
 refine Vb Ap rfl rfl (by simp) (by simp;omega) (by simp [maxLen];omega) rfl ?_
 have er : (List.replicate ((ds.map B5).length : Int).toNat [V.int .i64 0]) = F2 (List.replicate ds.length 0) := by rw [← Uz];simp
 simp only [Bo]
 rw [er,rowI_length,List.length_replicate]
 refine bg [] rfl (by simp) ?_
 refine Ah (fun y : Nat × List Int × Bool => [(2,.imm (.bool y.2.2)),(0,.ref 1 0)])
  (fun y => [(1,some (O5 ⟨ds,.mk c1 c2 c3 c4,rows⟩ (.own 2 ds.length))),(2,some (.row 3 1 (F2 y.2.1)))]) [3,4,5,6] (fun y => if y.2.2 then y.1 + 1 else 0)
  (fun y => P9 ds y.2.1 ∧ if y.2.2 then YY ds = TH ds y.1 y.2.1 ∧ NU y.2.1 < y.1 else YY ds = y.2.1) (2000,List.replicate ds.length 0,true)
  ⟨Uo ds,by simp only [if_true];exact ⟨rfl,by have := W5 (List.replicate ds.length 0) (fun x hx => by rw [List.eq_of_mem_replicate hx];omega);simp at this;omega⟩⟩ ⟨rfl,rfl,trivial⟩ ⟨rfl,rfl,trivial⟩ rfl fun y hi ih => ?_
 obtain ⟨f,s,ch⟩ := y
 obtain ⟨hs,hi⟩ := hi
 simp only at hs hi
 refine bd [] rfl (by simp) ?_
 cases ch with
 | false =>
  simp only [Bool.false_eq_true,if_false] at hi
  refine Aa rfl (fun h => by simp at h) (fun h => ?_)
  refine Ar rfl ?_
  refine bd [] rfl (by simp) ?_
  rw [hi]
  exact Bu ⟨_,rfl,tV rfl,⟨rfl,rfl,trivial⟩⟩
 | true =>
 simp only [if_true] at hi
 refine Aa rfl (fun h => ?_) (fun h => by simp at h)
 clear h
 obtain ⟨hi1,hi2⟩ := hi
 obtain ⟨f,rfl⟩ : ∃ g,f = g + 1 := ⟨f - 1,by omega⟩
 refine bd [] rfl (by simp) ?_
 refine Ah (fun y : Nat × List Int × Bool => [(25,.imm (.int .i64 y.1)),(24,.imm (.int .i64 ds.length)),(23,.imm (.sl (ds.map B5))),(2,.imm (.bool y.2.2)),(0,.ref 1 0)])
  (fun y => [(1,some (O5 ⟨ds,.mk c1 c2 c3 c4,rows⟩ (.own 2 ds.length))),(2,some (.row 3 1 (F2 y.2.1)))]) [3,4,5,6] (fun y => ds.length - y.1)
  (fun y => y.1 ≤ ds.length ∧ G2 ds (s,false) 0 ds = G2 ds y.2 y.1 (ds.drop y.1) ∧ P9 ds y.2.1 ∧ NU y.2.1 ≤ NU s ∧ (y.2.2 = true → NU y.2.1 < NU s)) (0,s,false)
  ⟨Nat.zero_le _,rfl,hs,Nat.le_refl _,fun h => by cases h⟩ ⟨rfl,Aq (by simp),rfl,rfl,rfl,trivial⟩ ⟨rfl,rfl,trivial⟩ rfl fun y hy jh => ?_
 obtain ⟨i,p⟩ := y
 obtain ⟨hy1,hy2,hy3,hy4,hy5⟩ := hy
 simp only at hy1 hy2 hy3 hy4 hy5
 refine bd [] rfl (by simp) ?_
 refine Aa rfl (fun h => ?_) (fun h => ?_)
 ·simp at h
  have hil := h
  obtain ⟨d,hd⟩ := Ai h
  have hdm := List.mem_of_getElem? hd
  rw [Aj hd] at hy2
  simp only [G2] at hy2
  refine bd [] rfl (by simp) ?_
  refine bi rfl (c := B5 d) (fun _ => ⟨by simp,by simpa using AC hd,by simp⟩) (by simp) ?_
  obtain ⟨dn,dc⟩ := d
  simp only at hy2
  have hd5 := (hl2 _ hdm).1
  have hd3 := hl3 _ hdm
  have hdn := hnm _ hdm
  simp only at hd5 hd3 hdn
  refine bg [] rfl (by simp) ?_
  refine Ah (fun y : Nat × List Int × Bool => [(33,.imm (.int .i64 y.1)),(32,.imm (.int .i64 dc.length)),(31,.imm (.sl (dc.map Cx))),(3,.imm (.int .i64 i)),(25,.imm (.int .i64 i)),(24,.imm (.int .i64 ds.length)),(23,.imm (.sl (ds.map B5))),(2,.imm (.bool y.2.2)),(0,.ref 1 0)])
   (fun y => [(1,some (O5 ⟨ds,.mk c1 c2 c3 c4,rows⟩ (.own 2 ds.length))),(2,some (.row 3 1 (F2 y.2.1)))]) [3,4,5,6] (fun y => dc.length - y.1)
   (fun y => y.1 ≤ dc.length ∧ Vr ds i p dc = Vr ds i y.2 (dc.drop y.1) ∧ P9 ds y.2.1 ∧ NU y.2.1 ≤ NU s ∧ (y.2.2 = true → NU y.2.1 < NU s)) (0,p)
   ⟨Nat.zero_le _,rfl,hy3,hy4,hy5⟩ ⟨rfl,Aq (by simp),rfl,rfl,rfl,rfl,rfl,rfl,rfl,trivial⟩ ⟨rfl,rfl,trivial⟩ rfl fun y hk kh => ?_
  obtain ⟨k,q⟩ := y
  obtain ⟨hk1,hk2,hk3,hk4,hk5⟩ := hk
  simp only at hk1 hk2 hk3 hk4 hk5
  refine bd [] rfl (by simp) ?_
  refine Aa rfl (fun h => ?_) (fun h => ?_)
  ·simp at h
   obtain ⟨c,hc⟩ := Ai h
   have hcm := List.mem_of_getElem? hc
   rw [Aj hc] at hk2
   simp only [Vr] at hk2
   refine bd [] rfl (by simp) ?_
   refine bi rfl (c := Cx c) (fun _ => ⟨by simp,by simpa using AC hc,by simp⟩) (by simp) ?_
   obtain ⟨cn,ca⟩ := c
   have hca3 := hd3 _ hcm
   have hcan := hdn _ hcm
   simp only at hca3 hcan hk2
   have hstep := VT (p := q) h4 hil hca3 hk3
   have hlen : q.1.length = ds.length := hk3.len
   obtain ⟨qs,qb⟩ := q
   simp only at hk3 hk4 hk5 hlen hstep
   refine bg [] rfl (by simp) ?_
   refine Hu rfl (v := .int .i64 (Cg ds qs 1 ca)) (fun _ => XH ⟨ds,.mk c1 c2 c3 c4,rows⟩ qs hk3 h4 ca hcan hca3) rfl (by simp) ?_
   have hst : LE ds i (qs,qb) ca = if 0 < Cg ds qs 1 ca ∧ (qs.getD i 0 = 0 ∨ Cg ds qs 1 ca < qs.getD i 0) then (qs.set i (Cg ds qs 1 ca),true) else (qs,qb) := rfl
   have hzb := FM hk3 ca 1 (by omega)
   generalize Cg ds qs 1 ca = z at *
   refine bg [] rfl (by simp) ?_
   refine GP Ap rfl (fun _ => ⟨by simp,by simp;omega⟩) (by simp [Af]) ?_
   refine bg [] rfl (by simp [Af]) ?_
   refine Pj (e := [.int .i64 (qs.getD i 0)]) Ap rfl (fun _ => by simpa using I6 (s := qs) (i := i) (by omega)) rfl (by simp [Af]) ?_
   refine bg [] rfl (by simp [Af];try exact fun a b => ⟨a,b⟩) ?_
   refine GP Ap rfl (fun _ => ⟨by simp,by simp;omega⟩) (by simp [Af]) ?_
   refine bg [] rfl (by simp [Af]) ?_
   refine Pj (e := [.int .i64 (qs.getD i 0)]) Ap rfl (fun _ => by simpa using I6 (s := qs) (i := i) (by omega)) rfl (by simp [Af]) ?_
   refine bg [] rfl (by simp [Af];try exact fun a b => ⟨a,b⟩) ?_
   by_cases hz : 0 < z ∧ (qs.getD i 0 = 0 ∨ z < qs.getD i 0)
   ·rw [if_pos hz] at hst
    rw [hst] at hk2 hstep
    have hstep3 := hstep.2.2 rfl
    refine Aa rfl (fun h => ?_) (fun h => by exfalso;simp at h;grind)
    refine bd [] rfl (by simp) ?_
    refine GP Ap rfl (fun _ => ⟨by simp,by simp;omega⟩) (by simp) ?_
    refine bg [] rfl (by simp) ?_
    refine QJ Ap (e := [.int .i64 (qs.getD i 0)]) (e' := [.int .i64 z]) rfl (by simpa using I6 (s := qs) (i := i) (by omega)) (by show 0 + 1 ≤ 1;decide) (by simp) (by simp) ?_
    refine bg [] rfl (by simp) ?_
    refine Ad (kh (k + 1,qs.set i z,true) (by simp only;omega) ⟨by simp only;omega,hk2,hstep.1,by have := hstep.2.1;simp only at this ⊢;omega,fun _ => ?_⟩) ⟨Aq (Bq (by omega) (by omega)),rfl,rfl,rfl,rfl,rfl,rfl,rfl,rfl,trivial⟩ ⟨rfl,by rw [← Wc];rfl,trivial⟩ rfl
    rcases hstep3 with h | h
    ·have := hk5 h;have := hstep.2.1;simp only at this ⊢;omega
    ·simp only at h ⊢;omega
   ·rw [if_neg hz] at hst
    rw [hst] at hk2
    refine Aa rfl (fun h => by exfalso;simp at h;grind) (fun h => ?_)
    refine bd [] rfl (by simp) ?_
    exact Ad (kh (k + 1,qs,qb) (by simp only;omega) ⟨by simp only;omega,hk2,hk3,hk4,hk5⟩) ⟨Aq (Bq (by omega) (by omega)),rfl,rfl,rfl,rfl,rfl,rfl,rfl,rfl,trivial⟩ ⟨rfl,rfl,trivial⟩ rfl
  ·simp at h
   refine Ar rfl ?_
   refine bd [] rfl (by simp) ?_
   rw [List.drop_eq_nil_of_le (by omega)] at hk2
   simp only [Vr] at hk2
   rw [hk2] at hy2
   exact Ad (jh (i + 1,q) (by simp only;omega) ⟨by simp only;omega,hy2,hk3,hk4,hk5⟩) ⟨Aq (Bq (by omega) (by omega)),rfl,rfl,rfl,rfl,trivial⟩ ⟨rfl,rfl,trivial⟩ rfl
 ·simp at h
  refine Ar rfl ?_
  refine bd [] rfl (by simp) ?_
  rw [List.drop_eq_nil_of_le (by omega)] at hy2
  simp only [G2] at hy2
  simp only [TH,hy2] at hi1
  obtain ⟨ps,pb⟩ := p
  cases pb with
  | true =>
   have := hy5 rfl
   exact Ad (ih (f,ps,true) (by simp) ⟨hy3,by simp only [if_true];exact ⟨by simpa using hi1,by simp only at this;omega⟩⟩) ⟨rfl,rfl,trivial⟩ ⟨rfl,rfl,trivial⟩ rfl
  | false =>
   exact Ad (ih (f,ps,false) (by simp) ⟨hy3,by simpa using hi1⟩) ⟨rfl,rfl,trivial⟩ ⟨rfl,rfl,trivial⟩ rfl
end Go.Hk
namespace Go.Hk
mutual
theorem L5 : ∀ (t : Ty) (l : Int),(Ak t : Int) ≤ l → 0 ≤ A4 t l
 | .mk _ _ _ ps,l,h => by
  simp only [Ak] at h
  simp only [A4]
  rw [if_neg (by omega)]
  exact Ku ps (l - 1) (by omega)
theorem Ku : ∀ (ts : List Ty) (l : Int),(Ag ts : Int) ≤ l → 0 ≤ AS ts l
 | [],l,h => by simpa [AS,Ag] using h
 | t :: r,l,h => by
  simp only [Ag] at h
  simp only [AS]
  rw [if_pos (by omega)]
  have h1 := L5 t l (by omega)
  have h2 := Cy t l h1
  exact Ku r _ (by omega)
end
theorem Nx (t : Ty) (l : Nat) : decide (0 ≤ A4 t l) = decide (Ak t ≤ l) := by
 by_cases h : Ak t ≤ l
 ·rw [decide_eq_true h,decide_eq_true (L5 t l (by omega))]
 ·rw [decide_eq_false h]
  refine decide_eq_false fun h1 => h ?_
  have := Cy t l h1
  omega
theorem Je (t : Ty) : Bb false t = Dp t := by
 simp only [Bb,Dp];rw [← Nx t 12];rfl
theorem Vt (t : Ty) : AK t = CX t := by
 simp only [AK,CX];rw [← Nx t 12,Bool.and_assoc];rfl
theorem Yw (c : Cd) : Jq c = Kc c := by
 simp only [Jq,Kc]
 rw [show Bb false = Dp from funext Je]
theorem Xn (d : Dt) : DR d = FC d := by
 simp only [DR,FC,Dk]
 rw [show Jq = Kc from funext Yw]
 simp only [Bool.and_assoc]
end Go.Hk
namespace Go.Hk
open Go.Proofs
def HJ : Ty → Bool
 | .mk s _ _ _ => !(s == 9)
def NF (c : Cse) (p : Ty) : Bool := AK p && CB c.datas c.type p
def Kf (c : Cse) : Bool := Ez c.datas && decide (c.rows.length ≤ 5) && Bb true c.type && Bf c.datas c.type
def Fu (c : Cse) : Bool := Kf c && (C8 HJ c.type && (c.rows.all (NF c) && decide (Ag c.rows ≤ 30)))
def VA (c : Cse) : Bool → V
 | true => .tup [BX c (F2 (YY c.datas)),.int .i64 0]
 | false => .tup [.nilp,.int .i64 2]
theorem LS {ds : List Dt} (h : Ez ds = true) : Gq ⟨[109],ds,[Fc]⟩ = true ∧ AE (B0 ds) = true ∧ AE (Bj ds) = true ∧ Bc ds ds = true := by
 simp only [Ez,Bool.and_eq_true] at h
 exact ⟨h.1.1,h.1.2.1,h.1.2.2,h.2⟩
theorem OkD.of2 {ds : List Dt} (h : Ez ds = true) : OkD ds := by
 obtain ⟨h1,_,_,h4⟩ := LS h
 exact ⟨h4,fun d hd => by have := ((Ga h1).2 d hd).1;omega⟩
set_option maxHeartbeats 2000000 in
theorem RD (c : Cse) : PureC Tryz.prog 63 [.agg (dCse c)] (VA c (Fu c)) := by
 have hread := XM c
 have hT := fun q => L8 91 q
 have hCT := PB c.type
 obtain ⟨ds,t,rows⟩ := c
 simp only at hread hCT ⊢
 have hTy := L8 91 HJ (fun t => by have := PF t;obtain ⟨s,n,x,ps⟩ := t;exact this) t
 have hNm := Nw ⟨ds,t,rows⟩ [] t
 have hW := fun h4 hl2 hN => VC ⟨ds,t,rows⟩ h4 hl2 hN
 have hF := fun ho hd hn p => TR ⟨ds,t,rows⟩ [] ho hd p t hn
 have hc2 : Fu ⟨ds,t,rows⟩ = (Kf ⟨ds,t,rows⟩ && (C8 HJ t && (rows.all (NF ⟨ds,t,rows⟩) && decide (Ag rows ≤ 30)))) := rfl
 have hc1 : Kf ⟨ds,t,rows⟩ = (Ez ds && decide (rows.length ≤ 5) && Bb true t && Bf ds t) := rfl
 generalize Fu ⟨ds,t,rows⟩ = cb at *
 generalize Kf ⟨ds,t,rows⟩ = cb1 at *
 generalize hnb : Bf ds t = nb at *
 generalize hfb : Bb true t = fb at *
 generalize C8 HJ t = tb at *
 obtain ⟨so,n0,x0,ps0⟩ := t
 refine Ae Ap Tryz.func63 (by decide +kernel) rfl [1,2,3,4,5,6,7,8] rfl rfl ?_
 refine bg [] rfl (by simp) ?_
 cases hr : Ez ds with
 | false =>
  rw [hr] at hread hc1
  refine Ac rfl (fun _ => hread) (by simp) ?_
  refine bg [] rfl (by simp [Af]) ?_
  refine Ac rfl (fun _ => hCT) (by simp [Af]) ?_
  refine bg [] rfl (by simp [Af,GU]) ?_
  refine Hu (v := .bool true) rfl (fun h => by simp [Af] at h) rfl (by simp [Af]) ?_
  refine bg [] rfl (by simp [Af]) ?_
  refine Aa rfl (fun h => ?_) (fun h => by simp at h)
  refine bd [] rfl (by simp) ?_
  rw [hc2,hc1]
  exact Ab ⟨_,rfl,tV rfl,trivial⟩
 | true =>
 rw [hr] at hread hc1
 obtain ⟨hm,hdn,hdc,han⟩ := LS hr
 obtain ⟨hl1,hl2⟩ := Ga hm
 have ho := OkD.of2 hr
 have hread : AP Tryz.prog 87 [.imm (.agg (dCse ⟨ds,.mk so n0 x0 ps0,rows⟩))] [] (.ret (.tup [.ref 6 0,.imm (.bool true)]) [(6,some (L2 ⟨ds,.mk so n0 x0 ps0,rows⟩))]) := hread
 refine Aw (fr := [2]) [] [(6,2)] rfl (by simp) hread trivial rfl rfl rfl rfl ?_
 refine bg [] rfl (by simp [Af]) ?_
 refine Ac rfl (fun _ => hCT) (by simp [Af]) ?_
 refine bg [] rfl (by simp [Af,GU]) ?_
 refine Hu rfl (fun _ => hNm) rfl (by simp [Af]) ?_
 refine bg [] rfl (by simp [Af]) ?_
 by_cases h1 : cb1 = true
 case neg =>
  refine Aa rfl (fun h => ?_) (fun h => ?_)
  ·refine bd [] rfl (by simp) ?_
   rw [hc2,show cb1 = false by simpa using h1]
   exact Ab ⟨_,rfl,tV rfl,trivial⟩
  ·exfalso
   apply h1
   rw [hc1]
   simp [GU] at h ⊢
   cases fb <;> grind
 have hc1' : decide (rows.length ≤ 5) = true ∧ fb = true ∧ nb = true := by rw [h1] at hc1;simp at hc1 ⊢;grind
 obtain ⟨hr5,rfl,rfl⟩ := hc1'
 have hr5 : rows.length ≤ 5 := of_decide_eq_true hr5
 rw [h1,Bool.true_and] at hc2
 refine Aa rfl (fun h => by exfalso;simp [GU] at h;omega) (fun h => ?_)
 clear h
 refine bd [] rfl (by simp) ?_
 refine Ac rfl (fun _ => hTy) (by simp) ?_
 refine bg [] rfl (by simp) ?_
 cases tb with
 | false =>
  refine Aa rfl (fun h => ?_) (fun h => by simp at h)
  refine bd [] rfl (by simp) ?_
  rw [hc2]
  exact Ab ⟨_,rfl,tV rfl,trivial⟩
 | true =>
 refine Aa rfl (fun h => by simp at h) (fun h => ?_)
 clear h
 rw [Bool.true_and] at hc2
 have hF := fun p => hF ho hdc rfl p
 generalize hR : NF ⟨ds,.mk so n0 x0 ps0,rows⟩ = R at *
 have hR : ∀ p,R p = (AK p && CB ds (.mk so n0 x0 ps0) p) := fun p => by rw [← hR];rfl
 refine bd [] rfl (by simp) ?_
 refine Ah (fun i : Nat => [(42,.imm (.int .i64 i)),(41,.imm (.int .i64 rows.length)),(40,.imm (.sl (Bg rows))),(6,.imm (.int .i64 ((Ag (rows.take i) : Nat) : Int))),(1,.ref 1 0),(4,.ref 2 0)])
  (fun _ => [(1,some (.immb 29 6 (dCse ⟨ds,.mk so n0 x0 ps0,rows⟩))),(2,some (L2 ⟨ds,.mk so n0 x0 ps0,rows⟩))]) [3,4,5,6] (fun i => rows.length - i)
  (fun i => i ≤ rows.length ∧ rows.all R = (rows.drop i).all R ∧ Ag (rows.take i) ≤ 12 * i) 0 ⟨Nat.zero_le _,rfl,by simp [Ag]⟩ ⟨rfl,Aq (by simp),rfl,rfl,rfl,rfl,trivial⟩ ⟨rfl,rfl,trivial⟩ rfl fun i hi ih => ?_
 obtain ⟨hi1,hi2,hi3⟩ := hi
 refine bd [] rfl (by simp) ?_
 refine Aa rfl (fun h => ?_) (fun h => ?_)
 ·simp at h
  obtain ⟨p,hp⟩ := Ai h
  rw [C3 hp,hR] at hi2
  have hFp := hF p
  have en : Ag (rows.take (i + 1)) = Ag (rows.take i) + Ak p := by rw [AM hp,AO];simp [Ag]
  have hpn : AK p = true → Ak p ≤ 12 := fun h => by simp only [AK,Bool.and_eq_true,decide_eq_true_eq] at h;exact h.1
  have hCP := Hf p
  have hND := NQ p
  refine bd [] rfl (by simp) ?_
  refine bi rfl (c := dTyc p) (fun _ => ⟨by simp,by simpa using Ao hp,by simp⟩) (by simp) ?_
  generalize AK p = b1 at *
  generalize CB ds (.mk so n0 x0 ps0) p = b2 at *
  obtain ⟨q1,q2,q3,q4⟩ := p
  refine bg [] rfl (by simp) ?_
  refine Ac rfl (fun _ => hCP) (by simp) ?_
  refine bg [] rfl (by simp [GU]) ?_
  refine Hu rfl (fun _ => hFp) rfl (by simp [Af]) ?_
  refine bg [] rfl (by simp [Af]) ?_
  by_cases hb : (b1 && b2) = true
  case neg =>
   refine Aa rfl (fun h => ?_) (fun h => ?_)
   ·refine bd [] rfl (by simp) ?_
    rw [hc2,hi2,show (b1 && b2) = false by simpa using hb]
    exact Ab ⟨_,rfl,tV rfl,trivial⟩
   ·exfalso
    apply hb
    simp [GU] at h ⊢
    cases b1 <;> simp_all
  rw [hb,Bool.true_and] at hi2
  have hb1 : b1 = true := by cases b1;simp at hb;rfl
  have hb2 : b2 = true := by cases b2;simp at hb;rfl
  have hp12 := hpn hb1
  refine Aa rfl (fun h => by exfalso;simp [GU,hb1,hb2] at h) (fun h => ?_)
  clear h
  refine bd [] rfl (by simp) ?_
  refine Ac rfl (fun _ => hND (by omega)) (by simp) ?_
  refine bg [] rfl (by simp) ?_
  exact Ad (ih (i + 1) (by omega) ⟨by omega,hi2,by omega⟩) ⟨Aq (Bq (by omega) (by omega)),rfl,rfl,Aq (by rw [en,Bq (by omega) (by omega)];omega),rfl,rfl,trivial⟩ ⟨rfl,rfl,trivial⟩ rfl
 ·simp at h
  refine Ar rfl ?_
  refine bd [] rfl (by simp) ?_
  rw [List.take_of_length_le h]
  rw [hi2,List.drop_eq_nil_of_le h,List.all_nil,Bool.true_and] at hc2
  by_cases h30 : Ag rows ≤ 30
  case neg =>
   refine Aa rfl (fun h => ?_) (fun h => by exfalso;simp at h;omega)
   refine bd [] rfl (by simp) ?_
   rw [hc2,show decide (Ag rows ≤ 30) = false by simpa using h30]
   exact Ab ⟨_,rfl,tV rfl,trivial⟩
  rw [hc2,show decide (Ag rows ≤ 30) = true by simpa using h30]
  refine Aa rfl (fun h => by exfalso;simp at h;omega) (fun h => ?_)
  clear h
  refine bd [] rfl (by simp) ?_
  refine Aw (fr := [3]) [(2,1)] [(2,3)] rfl (by simp) (hW hl1 hl2 han) ⟨⟨rfl,rfl,rfl⟩,trivial⟩ rfl rfl rfl rfl ?_
  refine bg [] rfl (by simp) ?_
  refine BL 3 rfl ?_
  refine Rg 2 (id := 2) (off := 0) (ty := 137) (sz := 9) (xs := VB ⟨ds,.mk so n0 x0 ps0,rows⟩ (F2 (YY ds))) rfl rfl ?_
  exact Ab ⟨_,rfl,tV rfl,trivial⟩
end Go.Hk
namespace Go.Hk
def Hg (P : Program) (n : Nat) (c : Code) (env : Env) (st : St) (ids : List Nat) (env' : Env) (st' : St) (ids' : List Nat) : Prop :=
 ∀ (b : Frame) (cs : List Frame) (Q : Exit → Act → World → Prop) (I : Imm) (μ : Mu) (a : Act) (w : World) (tail : List Item),Conc n I μ env st ids a w →
  (∀ I' μ' a' w',Conc n I' μ' env' st' ids' a' w' → μ.le μ' → Ext I μ st w I' μ' st' w' → Reach P b cs Q tail a' w') → Reach P b cs Q (.code c :: tail) a w
def Kq (P : Program) (n : Nat) (all rest : List Oper) (env : Env) (st : St) (ids : List Nat) (env' : Env) (st' : St) (ids' : List Nat) : Prop :=
 ∀ (b : Frame) (cs : List Frame) (Q : Exit → Act → World → Prop) (I : Imm) (μ : Mu) (a : Act) (w : World) (tail : List Item) (j : Nat),rest = all.drop j → Conc n I μ env st ids a w →
  (∀ I' μ' a' w',Conc n I' μ' env' st' ids' a' w' → μ.le μ' → Ext I μ st w I' μ' st' w' → Reach P b cs Q tail a' w') → Reach P b cs Q (.inRegion all.toArray (List.range' j rest.length) :: tail) a w
section
variable {P : Program} {n : Nat} {tt : TT} {env env' env2 E : Env} {st st' st2 stx : St} {ids ids' ids2 : List Nat} {c c' : Code} {all rest : List Oper} {o : Oper} {ob : List Prop} {I : Imm} {μ : Mu} {w : World} {d : D}
theorem Ua (h : Hg P n c env st ids env' st' ids') (h' : Hg P n c' env' st' ids' env2 st2 ids2) : Hg P n (.seq c c') env st ids env2 st2 ids2 := fun b cs Q I μ a w tail hc k =>
 reach_seq (h b cs Q I μ a w _ hc fun I' μ' a' w' hc' hm he => h' b cs Q I' μ' a' w' _ hc' fun I2 μ2 a2 w2 hc2 hm2 he2 => k I2 μ2 a2 w2 hc2 (fun i v hv => hm2 i v (hm i v hv)) (he.trans he2))
theorem Mu.le_trans' {a b c : Mu} (h : a.le b) (k : b.le c) : a.le c := fun i v hv => k i v (h i v hv)
theorem SW {rid : Nat} (h : Kq P n all all env st ids env' st' ids') : Hg P n (.region rid ⟨all⟩ false) env st ids env' st' ids' := fun b cs Q I μ a w tail hc k => by
 refine Cs ?_
 have := h b cs Q I μ a w tail 0 rfl hc k
 simpa [List.range_eq_range'] using this
theorem XQ : Kq P n all [] env st ids env st ids := fun b cs Q I μ a w tail j hj hc k => AT (k I μ a w hc (Mu.le_refl μ) (Ext.refl _ _ _ _))
theorem Zg {rd fr : List Nat} {wr : St} (hl : LD P (fun _ => False) all o env st rd fr wr d) (hg : o.guard = none) (hnd : ∀ c,o.op ≠ .defer c) (hn : ∀ t,o.dst = some t → t < n)
  (h : Kq P n all rest (Bo o.dst d env) (wr ++ st) ids' env' st' ids2) : Kq P n all (o :: rest) env st (fr ++ ids') env' st' ids2 := by
 intro b cs Q I μ a w tail j hr hc k
 obtain ⟨hj,hr'⟩ := Bx hr
 have hon : HU (o.looksAt all.toArray) I μ env a := fun t _ d hl => hc.env t d hl
 have hlen : (o :: rest).length = rest.length + 1 := rfl
 rw [hlen,List.range'_succ]
 have hw : Region.wanted o (yielded all.toArray a.tmps) = true := wanted_none hg
 obtain ⟨h1,_⟩ := hl I μ st ids' a w (fun _ _ => rfl) hc.toStRep hon
 refine BD hj hw hnd (valX.upon ((h1 hw).mono ?_ ?_))
 ·rintro v w2 ⟨I',μ',q1,q2,q4,q3⟩
  obtain ⟨p1,p2,p3⟩ := FR (n := n) (w := w2) (dst := o.dst) (fun t d hl => (hc.env t d hl).mono q3.imm q4) hc.size hn q2
  exact h b cs Q I' μ' (a.put o.dst v) w2 tail (j + 1) hr'
   {q1 with size := p2,env := by cases hdst : o.dst <;> simpa [Bo,hdst] using p1,defers := by rw [p3];exact hc.defers.ext q3 }
   fun I2 μ2 a2 w3 hc2 hm2 he2 => k I2 μ2 a2 w3 hc2 (Mu.le_trans' q4 hm2) (q3.trans he2)
 ·rintro chain w2 ⟨v,x,I2,q1,q2,q3,q4,q5⟩
  exact q2.elim
theorem YH (htt : TTok P tt) {i : Nat} {x : Option Blk} {st1 : St} {env1 : Env} {ids1 : List Nat} (h : CT tt n all o env st ids = .e env1 ((i,x) :: st1) ids1 ob) (hob : Ay ob) (hg : o.guard = none) (hr : Kq P n all rest env1 ((i,x) :: st) ids1 env' st' ids2) :
  Kq P n all (o :: rest) env st ids env' st' ids2 := by
 obtain ⟨d,fr,e1,e2,e3,e4,e5,_,e7⟩ := NZ (P := P) (Pn := fun _ => False) htt h hob
 subst e2
 rw [e3] at hr
 exact Zg (wr := [(i,x)]) e7 hg e5 e4 hr
theorem Lx (htt : TTok P tt) {rid : Nat} {o1 o2 : Oper} {i : Nat} {x y : Option Blk} {st1 st2' : St} {env1 env2 : Env} {ids1 ids2 : List Nat} {ob1 ob2 : List Prop} (h1 : CT tt n [o1,o2] o1 env st ids = .e env1 ((i,x) :: st1) ids1 ob1) (g1 : o1.guard = none)
  (h2 : CT tt n [o1,o2] o2 env1 ((i,x) :: st) ids1 = .e env2 ((i,y) :: st2') ids2 ob2) (g2 : o2.guard = none) (hob1 : Ay ob1) (hob2 : Ay ob2) : Hg P n (.region rid ⟨[o1,o2]⟩ false) env st ids env2 ((i,y) :: (i,x) :: st) ids2 :=
 SW (YH htt h1 hob1 g1 (YH htt h2 hob2 g2 XQ))
theorem MD {L : HT} {p q : Nat} {fc : Func} {d d2 : D} {stB : St} {pend : Option Code} (hf : P.funcs[L.fn]? = some fc) (hps : L.ps = #[p,q]) (hsz : L.tmps.size = n)
  (hd : Hm d = []) (hd2 : Hm d2 = []) (hp : p < n) (hq : q < n) (hfree : M7 ids L.E stx L.F) (hasg : Hg P n L.asg ((q,d2) :: (p,d) :: L.E) stx ids env st ids')
  (h : DGo P n (We :: (L.F ++ Ql L.E)) (aG pend stB) [.code L.body] env st ids') : Li P [d,d2] (B3 L stx none) pend.isNone (B3 L stB pend) := by
 intro I μ w b xs hμ hst hx
 have hl0 : Al (PD 1 (B3 L stx none)) 0 .pin := A8.2 (.inl ⟨rfl,rfl⟩)
 have hl1 : Al (PD 1 (B3 L stx none)) 1 (.bun 0 (B3 L stx none)) := A8.2 (.inr ⟨by simp,A8.2 (.inl ⟨rfl,rfl⟩)⟩)
 obtain ⟨g1,hg1,b',bs,hb1,rfl,hP⟩ := hst.blk 1 _ hl1
 rw [hμ] at hb1
 cases hb1
 have hbs : ∀ k ∈ bs,I k = none ∧ k < w.heap.size := fun k hk => hst.apart 1 _ _ k hl1 hg1 (BQ.2 hk)
 have hP0 := hP
 obtain ⟨r,ν,bs0,e1,hr1,⟨hr2,hr3⟩,⟨hr4,hr5,hr6,hr7,hr8⟩,hE1,hS,hown,hnb,hF⟩ := Rx hP hfree hst.imm hbs
 subst e1
 obtain ⟨x,x2,rfl⟩ : ∃ x x2,xs = #[x,x2] := by
  obtain ⟨l⟩ := xs
  have := hx.1
  match l,this with
  | [x,x2],_ => exact ⟨x,x2,rfl⟩
 have hxd1 : RepD I ν x d := (hx.2 0 x d rfl rfl).sub fun j hj => by rw [hd] at hj;cases hj
 have hxd2 : RepD I ν x2 d2 := (hx.2 1 x2 d2 rfl rfl).sub fun j hj => by rw [hd2] at hj;cases hj
 have hszp : (#[x,x2] : Array Value).size = r.params.size := by rw [hr5,hps];rfl
 unfold aF
 rw [run_yield hr1 hszp]
 refine roundIn_of_reach (fc := fc) (by rw [hr4];exact hf) fun fb cs hbf hbr => ?_
 rw [hr5,hps,hr6,hr7,hr8]
 have hfold : ((#[p,q] : Array Nat).zip #[x,x2]).foldl (fun tmps (t,a) => tmps.setIfInBounds t a) L.tmps = (L.tmps.setIfInBounds p x).setIfInBounds q x2 := by simp
 rw [hfold]
 obtain ⟨hIb,hblt⟩ := hbs b (by simp)
 have hnob0 : ¬ AG ν stx b := fun h => hnb ((hown b).2 h)
 have hput : ∀ (w : World) (o : Obj),(w.putObj b o).heap = w.heap.setIfInBounds b o := fun w o => by
  unfold World.putObj
  by_cases hi : b < w.heap.size <;> simp [hi]
 have hoth : ∀ (w : World) (o : Obj) k,k ≠ b → (w.putObj b o).heap[k]? = w.heap[k]? := fun w o k hk => by rw [hput,Array.getElem?_setIfInBounds_ne (Ne.symm hk)]
 obtain ⟨c1,c2,c3⟩ := FR (n := n) (w := w) (a := { tmps := L.tmps,defers := [] }) (dst := some p) hE1 hsz (fun t ht => by cases ht;exact hp) hxd1
 obtain ⟨f1,f2,f3⟩ := FR (n := n) (w := w) (dst := some q) c1 c2 (fun t ht => by cases ht;exact hq) hxd2
 have hc0 : Conc n I ν ((q,d2) :: (p,d) :: L.E) stx ids ((Act.put { tmps := L.tmps,defers := [] } (some p) x).put (some q) x2) w := { hS with size := f2,env := f1,defers := by rw [f3,c3];exact MarksOk.nil _ _ _ _ }
 refine hasg fb cs _ I ν _ w _ hc0 fun IA νA aA wA hcA hmA heA => ?_
 have hnob : ¬ AG νA st b := fun h => hnob0 (heA.fresh b hblt h)
 have hrA1 : wA.heap[b]? = some (.loop r) := by rw [heA.block b hblt hnob0];exact hr1
 have hIbA : IA b = none := by rw [heA.old b hblt hnob0];exact hIb
 have hbltA : b < wA.heap.size := (Array.getElem?_eq_some_iff.1 hrA1).1
 obtain ⟨w1,hw1⟩ : ∃ w1 : World,w1 = wA.putObj b (.loop { r with state := .busy }) := ⟨_,rfl⟩
 have hbeg := run_beginRound (P := P) hrA1 hr2
 refine Reach.step (stepR_beginRound hbr hbeg) ?_
 rw [← hw1]
 have hmarks : MarksOk IA νA st w1 aA.defers := by
  obtain ⟨rs,m1,m2,m3⟩ := hcA.defers
  refine ⟨rs,m1,m2,fun k hk => ⟨?_,(m3 k hk).2⟩⟩
  have h0 := (m3 k hk).1
  rw [hw1,hoth _ _ k (fun e => by rw [e,hrA1] at h0;cases h0)]
  exact h0
 have hc : Conc n IA νA env st ids' aA w1 :=
  {hcA.toStRep.other (by rw [hw1,hput];simp) (fun k o hk => by rw [hw1];exact hoth _ _ k (fun e => by rw [e,hIbA] at hk;cases hk)) (fun k hk => by rw [hw1];exact hoth _ _ k (fun e => hnob (e ▸ hk))) with
   size := hcA.size
   env := hcA.env
   defers := hmarks }
 have hgo := h ⟨fb,.inl (by simp)⟩ cs IA νA _ w1 [.code L.body] ⟨rfl,trivial⟩ hc
 refine Reach.mono (fun e a' w' hpost => ?_) hgo
 obtain ⟨x',env',st',ids2,I',μ',p1,p2,p3,p4,p5,p6⟩ := hpost
 have hb1 : w1.heap[b]? = some (.loop { r with state := .busy }) := by rw [hw1,hput];simp [hbltA]
 have hsz1 : w1.heap.size = wA.heap.size := by rw [hw1,hput];simp
 have hszA : w.heap.size ≤ wA.heap.size := heA.size
 have hno2 : ∀ k,k < w.heap.size → ¬ AG ν stx k → ¬ AG νA st k := fun k hk ho hq => ho (heA.fresh k hk hq)
 have hfr2 : ∀ k,k < w.heap.size → AG μ' st' k → AG ν stx k := fun k hk ho => heA.fresh k hk (p5.fresh k (by omega) ho)
 have hold2 : ∀ k,k < w.heap.size → ¬ AG ν stx k → I' k = I k := fun k hk ho => (p5.old k (by omega) (hno2 k hk ho)).trans (heA.old k hk ho)
 have himm2 : I.le I' := Imm.le_trans heA.imm p5.imm
 have hb' : w'.heap[b]? = some (.loop { r with state := .busy }) := by rw [p5.block b (by omega) hnob];exact hb1
 have hno' : ¬ AG μ' st' b := fun ho => hnob (p5.fresh b (by omega) ho)
 have hI' : I' b = none := by rw [p5.old b (by omega) hnob];exact hIbA
 have hblt' : b < w'.heap.size := (Array.getElem?_eq_some_iff.1 hb').1
 have fin : Eu st' stB → ∃ v w'',(Instr.endRound b pend).run P w' = .ok v w'' ∧ (∃ I2 μ2,RepD I2 μ2 v (.imm (.bool pend.isNone)) ∧ StRep I2 μ2 (PD 2 (B3 L stB pend)) [] w'' ∧
   Pin (Db (PD 1 (B3 L stx none))) μ μ2 ∧ Ext I μ (PD 1 (B3 L stx none)) w I2 μ2 (PD 2 (B3 L stB pend)) w'') := by
  intro hsub
  have hSB : StRep I' μ' stB [] w' := p3.toStRep.less (C9 hsub) .nil (fun _ h => by simp at h)
  have hownB' : ∀ k,AG μ' stB k → AG μ' st' k := fun k ⟨i,bi,g,q1,q2⟩ => ⟨i,bi,g,C9 hsub i bi q1,q2⟩
  have hnoB : ¬ AG μ' stB b := fun h => hno' (hownB' b h)
  obtain ⟨w2,hw2⟩ : ∃ w2 : World,w2 = w'.putObj b (.loop { r with state := if pend.isNone then .ready else .done,pending := pend }) := ⟨_,rfl⟩
  have hend : (Instr.endRound b pend).run P w' = .ok (.bool pend.isNone) w2 := by
   have := run_endRound (P := P) pend hb'
   rw [hw2];exact this
  have hw2s : w2.heap.size = w'.heap.size := by rw [hw2,hput];simp
  have hw2o : ∀ k,k ≠ b → w2.heap[k]? = w'.heap[k]? := fun k hk => by rw [hw2];exact hoth _ _ k hk
  have hSB2 : StRep I' μ' stB [] w2 := hSB.other (by omega) (fun k o hk => hw2o k (fun e => by rw [e,hI'] at hk;cases hk)) (fun k hk => hw2o k (fun e => hnoB (e ▸ hk)))
  obtain ⟨bsN,hbsN⟩ := Me μ' stB
  have hPN : (B3 L stB pend).P I' w2 b (b :: bsN) := by
   refine ⟨{ r with state := if pend.isNone then .ready else .done,pending := pend },μ',bsN,rfl,by rw [hw2,hput];simp [hblt'],⟨by cases pend <;> rfl,rfl⟩,⟨hr4,hr5,hr6,hr7,hr8⟩,fun t d hl => ?_,hSB2.blk,hSB2.inj,hbsN,fun hm => hnoB ((hbsN b).1 hm),fun i hi => ?_⟩
   ·exact ((hE1 t d hl).mono himm2 (Mu.le_refl ν)).sub fun j hj g hg => p4 j (by simp [RR hl j hj]) g (hmA j g hg)
   ·exact fun g hg0 => p4 i (by simp [hi]) g (hmA i g (hF i hi g hg0))
  obtain ⟨μ2,hμ2⟩ : ∃ μ2 : Mu,μ2 = fun i => if i = 2 then some (.agg (PT (b :: bsN))) else μ i := ⟨_,rfl⟩
  have hm0 : μ2 0 = some (.func (.yield b) #[] #[]) := by rw [hμ2];simpa using hμ
  have hm2 : μ2 2 = some (.agg (PT (b :: bsN))) := by rw [hμ2];simp
  have hold : ∀ k,k ∈ b :: bsN → k < w.heap.size → k ∈ b :: bs0 := fun k hk hlt => by
   rcases List.mem_cons.1 hk with rfl | hk
   ·simp
   ·exact List.mem_cons_of_mem _ ((hown k).2 (hfr2 k hlt (hownB' k ((hbsN k).1 hk))))
  have hnew : ∀ k ∈ b :: bsN,I' k = none ∧ k < w2.heap.size := fun k hk => by
   rcases List.mem_cons.1 hk with rfl | hk
   ·exact ⟨hI',by omega⟩
   ·obtain ⟨i,bi,g,q1,q2,q3⟩ := (hbsN k).1 hk
    exact hSB2.apart i bi g k q1 q2 q3
  have hownO : ∀ k,AG μ (PD 1 (B3 L stx none)) k ↔ k ∈ b :: bs0 := fun k => by
   constructor
   ·rintro ⟨i,bi,g,q1,q2,q3⟩
    rcases Gw (by simp) q1 with ⟨rfl,rfl⟩ | ⟨rfl,rfl⟩
    ·rw [hμ] at q2;cases q2;exact q3.elim
    ·rw [hg1] at q2;cases q2;exact BQ.1 q3
   ·intro hk;exact ⟨1,_,_,hl1,hg1,BQ.2 hk⟩
  have hownN : ∀ k,AG μ2 (PD 2 (B3 L stB pend)) k → k ∈ b :: bsN := fun k => by
   rintro ⟨i,bi,g,q1,q2,q3⟩
   rcases Gw (by simp) q1 with ⟨rfl,rfl⟩ | ⟨rfl,rfl⟩
   ·rw [hm0] at q2;cases q2;exact q3.elim
   ·rw [hm2] at q2;cases q2;exact BQ.1 q3
  refine ⟨_,w2,hend,I',μ2,.imm _ _ (.bool _),?_,?_,?_⟩
  ·refine { imm := hSB2.imm,blk := fun i bi hl => ?_,apart := fun i bi g k hl hgi hk => hnew k (hownN k ⟨i,bi,g,hl,hgi,hk⟩),inj := fun i j bi bj gi gj k hi hj hgi hgj hki hkj => ?_,nodup := .nil,idsFree := fun _ h => by simp at h }
   ·rcases Gw (by simp) hl with ⟨rfl,rfl⟩ | ⟨rfl,rfl⟩
    ·exact ⟨_,hm0,b,rfl⟩
    ·exact ⟨_,hm2,b,_,hm0,rfl,hPN⟩
   ·rcases Gw (by simp) hi with ⟨rfl,rfl⟩ | ⟨rfl,rfl⟩ <;> rcases Gw (by simp) hj with ⟨rfl,rfl⟩ | ⟨rfl,rfl⟩
    ·rfl
    ·rw [hm0] at hgi;cases hgi;exact hki.elim
    ·rw [hm0] at hgj;cases hgj;exact hkj.elim
    ·rfl
  ·intro i hi g hg
   simp only [PD,Db,List.map_cons,List.map_nil,List.mem_cons,List.not_mem_nil,or_false] at hi
   have : i ≠ 2 := by omega
   rw [hμ2];simp only [if_neg this];exact hg
  ·refine { imm := himm2,os := ?_,tape := ?_,output := ?_,size := ?_,block := fun k hk hno => ?_,fresh := fun k hk ho => (hownO k).2 (hold k (hownN k ho) hk),old := fun k hk hno => hold2 k hk (fun h => hno ((hownO k).2 (List.mem_cons_of_mem _ ((hown k).2 h)))) }
   ·have := p5.os;rw [hw1] at this;rw [hw2,← heA.os];unfold World.putObj at this ⊢;exact this
   ·have := p5.tape;rw [hw1] at this;rw [hw2,← heA.tape];unfold World.putObj at this ⊢;exact this
   ·have := p5.output;rw [hw1] at this;rw [hw2,← heA.output];unfold World.putObj at this ⊢;exact this
   ·have := p5.size;omega
   ·have hkb : k ≠ b := fun e => hno ((hownO k).2 (by simp [e]))
    have hno3 : ¬ AG ν stx k := fun h => hno ((hownO k).2 (List.mem_cons_of_mem _ ((hown k).2 h)))
    rw [hw2o k hkb,p5.block k (by omega) (hno2 k hk hno3),hw1,hoth _ _ k hkb,heA.block k hk hno3]
 cases e with
 | normal =>
  cases x' <;> simp only [Kl] at p1
  cases pend with
  | none => exact fin p2
  | some c => exact p2.elim
 | ret =>
  cases x' <;> simp only [Kl] at p1
  cases pend with
  | none => exact p2.elim
  | some c => cases c <;> first | exact p2.elim | exact fin p2
 | exit j =>
  cases x' <;> simp only [Kl] at p1
  cases pend with
  | none => exact p2.elim
  | some c =>
   cases c <;> first | exact p2.elim | skip
   obtain ⟨q1,q2⟩ := p2
   subst q1;subst p1
   exact fin q2
 | goto l =>
  cases x' <;> simp only [Kl] at p1
  cases pend <;> exact p2.elim
 | panic chain =>
  cases x' <;> simp only [Kl] at p1
  cases pend <;> exact p2.elim
 | outgrown => cases x' <;> simp only [Kl] at p1
theorem D2 {id : Nat} : ∀ {ds : List DI} {is : List Item},Dg id ds = none → O2 ds is → exitTo id is = none
 | [],is,_,hd => by
  cases is with
  | nil => rfl
  | cons => exact hd.elim
 | d :: ds,is,h,hd => by
  obtain ⟨i,is,rfl,h1,h2⟩ := DL hd
  cases d with
  | inBlock id1 =>
   cases i with
   | inBlock id2 =>
    have h1 : id2 = id1 := h1
    subst h1
    simp only [Dg] at h
    split at h
    ·cases h
    ·rename_i hb
     have hne : id2 ≠ id := fun e => by subst e;simp at hb
     simp [exitTo,hne,D2 h h2]
   | _ => exact h1.elim
  | code c =>
   simp only [Dg] at h
   cases i <;> simp only [GV] at h1
   simp [exitTo,D2 h h2]
  | inLoop c =>
   simp only [Dg] at h
   cases i <;> simp only [GV] at h1
   simp [exitTo,D2 h h2]
  | inScope c =>
   simp only [Dg] at h
   cases i <;> simp only [GV] at h1
   simp [exitTo,D2 h h2]
  | ops all rest =>
   simp only [Dg] at h
   cases i <;> simp only [GV] at h1
   simp [exitTo,D2 h h2]
  | dops all rest fs => cases i <;> simp only [GV] at h1
theorem Ri {F : List Nat} {Q : DQ} {id : Nat} {k : List DI} (he : Dg id k = none) (h : Q (.exit id) env st ids) : DGo P n F Q (.code (.exit id) :: k) env st ids := by
 intro b cs I μ a w items hd hc
 obtain ⟨is,rfl,hk⟩ := EG hd
 exact D9 (D2 he hk) ⟨.exit id,env,st,ids,I,μ,rfl,h,hc,.refl _ _,.refl _ _ _ _,.refl _ _⟩
end
end Go.Hk
namespace Go.Hk
open Go.Proofs
def Jf (v : Ty) : Bool := decide (0 ≤ Bd v 20000 100) && allV v
def D3 (c : Cse) (v : Ty) : Bool := Fu c && Jf v && V5 c.datas c.type v
theorem FF {c : Cse} (h : Fu c = true) : OkD c.datas ∧ AE (Bj c.datas) = true ∧ Bf c.datas c.type = true ∧ c.rows.length ≤ 5 ∧ ∀ p ∈ c.rows,AK p = true ∧ CB c.datas c.type p = true := by
 simp only [Fu,Kf,Bool.and_eq_true,List.all_eq_true,NF,decide_eq_true_eq] at h
 obtain ⟨⟨⟨⟨h1,h2⟩,h3⟩,h4⟩,h5,h6,h7⟩ := h
 exact ⟨OkD.of2 h1,(LS h1).2.2.1,h4,h2,h6⟩
theorem Ry (c : Cse) (v : Ty) : PureC Tryz.prog 48 [.agg (dCse c),.agg (dTyc v)] (VA c (D3 c v)) := by
 have hW := RD c
 have hF := S9 v
 have hI := fun h => YM c (F2 (YY c.datas)) (FF (c := c) h).1 (FF h).2.1 v c.type (FF h).2.2.1
 obtain ⟨ds,⟨c1,c2,c3,c4⟩,rows⟩ := c
 obtain ⟨g,m,z,vs⟩ := v
 have hF : PureC Tryz.prog 64 [.agg (dTyc (.mk g m z vs))] (.bool (Jf (.mk g m z vs))) := hF
 simp only [D3] at hI ⊢
 generalize hb : Fu ⟨ds,.mk c1 c2 c3 c4,rows⟩ = b at *
 generalize Jf (.mk g m z vs) = b2 at *
 generalize V5 ds (.mk c1 c2 c3 c4) (.mk g m z vs) = b3 at *
 refine Ae Ap Tryz.func48 (by decide +kernel) rfl [3,4,5] rfl rfl ?_
 refine bg [] rfl (by simp) ?_
 cases b with
 | false =>
  refine Ac rfl (fun _ => hW) (by simp) ?_
  refine bg [] rfl (by simp) ?_
  refine Ac rfl (fun _ => hF) (by simp [Af]) ?_
  refine bg [] rfl (by simp [Af]) ?_
  refine Ac (v := .bool true) rfl (fun h => by simp [Af] at h) (by simp [Af]) ?_
  refine bg [] rfl (by simp [Af]) ?_
  refine Aa rfl (fun h => ?_) (fun h => by simp at h)
  refine bd [] rfl (by simp) ?_
  exact Ab ⟨_,rfl,tV rfl,trivial⟩
 | true =>
  refine Ac rfl (fun _ => hW) (by simp) ?_
  refine bg [] rfl (by simp) ?_
  refine Ac rfl (fun _ => hF) (by simp [Af]) ?_
  refine bg [] rfl (by simp [Af]) ?_
  refine Ac rfl (fun _ => hI rfl) (by simp [Af]) ?_
  refine bg [] rfl (by simp [Af]) ?_
  by_cases hh : (b2 && b3) = true
  case neg =>
   refine Aa rfl (fun h => ?_) (fun h => by exfalso;apply hh;simp at h ⊢;grind)
   refine bd [] rfl (by simp) ?_
   rw [show (true && b2 && b3) = false by simpa using hh]
   exact Ab ⟨_,rfl,tV rfl,trivial⟩
  refine Aa rfl (fun h => by exfalso;simp at h hh;grind) (fun h => ?_)
  refine bd [] rfl (by simp) ?_
  rw [show (true && b2 && b3) = true by simpa using hh]
  exact Ab ⟨_,rfl,tV rfl,trivial⟩
section
variable {n : Nat} {F : List Nat} {Q : DQ} {env env' : Env} {st st' : St} {ids ids' : List Nat} {k todo : List DI} {ob : List Prop}
end
def Y7 : Ty → Str
 | .mk _ _ x _ => x
def Wi : Code → Option (Code × Code)
 | .rangeFunc _ _ a b => some (a,b)
 | .seq x y => match Wi x with
  | some r => some r
  | none => Wi y
 | .block _ c => Wi c
 | _ => none
def YB (f : Func) : Code := match Wi (EQ f 0) with
 | some (a,_) => a
 | none => .skip
def Wg (f : Func) : Code := match Wi (EQ f 0) with
 | some (_,b) => b
 | none => .skip
end Go.Hk
namespace Go.Hk
open Go.Proofs
theorem Pg : Tg Tryz.prog 131 = true := by kernel_rfl
mutual
def Cb : Ty → Ty → List (Ty × Ty)
 | .mk f n x ps,v => (.mk f n x ps,v) :: (bif decide (f = 6) && BV (B6 (.mk f n x ps)) v then Cw ps (CZ v) else [])
def Cw : List Ty → List Ty → List (Ty × Ty)
 | [],_ => []
 | _ :: _,[] => []
 | p :: r,q :: s => Cb p q ++ Cw r s
end
inductive Yields2 (P : Program) : List (Ty × Ty) → Bun → Bool → Bun → Prop where
 | nil (S : Bun) : Yields2 P [] S true S
 | cons {d : Ty × Ty} {l : List (Ty × Ty)} {S S1 S2 : Bun} {r : Bool} (h : Li P [.imm (.agg (dTyc d.1)),.imm (.agg (dTyc d.2))] S true S1) (h1 : Yields2 P l S1 r S2) : Yields2 P (d :: l) S r S2
 | stop {d : Ty × Ty} {l : List (Ty × Ty)} {S S1 : Bun} (h : Li P [.imm (.agg (dTyc d.1)),.imm (.agg (dTyc d.2))] S false S1) : Yields2 P (d :: l) S false S1
theorem Yields2.split {P : Program} {l m : List (Ty × Ty)} {S S2 : Bun} {r : Bool} (h : Yields2 P (l ++ m) S r S2) : (∃ S1,Yields2 P l S true S1 ∧ Yields2 P m S1 r S2) ∨ (r = false ∧ Yields2 P l S false S2) := by
 induction l generalizing S with
 | nil => exact .inl ⟨S,.nil S,h⟩
 | cons d l ih =>
  cases h with
  | cons h h1 =>
   rcases ih h1 with ⟨S1,q1,q2⟩ | ⟨q1,q2⟩
   ·exact .inl ⟨S1,.cons h q1,q2⟩
   ·exact .inr ⟨q1,.cons h q2⟩
  | stop h => exact .inr ⟨rfl,.stop h⟩
theorem Yields2.nilInv {P : Program} {S S2 : Bun} {r : Bool} (h : Yields2 P [] S r S2) : r = true ∧ S2 = S := by
 cases h;exact ⟨rfl,rfl⟩
def Zt (r : St) : St := (1,some (.cells 179 1 [.yld 3])) :: (2,some (.cells 179 1 [.fn (.func 109) [] [.ref 1 0,.ref 2 0]])) :: r
def goC (p v : Ty) (b : Bool) (S S' : Bun) : Prop := AP Tryz.prog 109 [.imm (.agg (dTyc p)),.imm (.agg (dTyc v)),.ref 1 0,.ref 2 0]
 (Zt [(3,some .pin),(4,some (.bun 3 S))]) (.ret (.imm (.bool b)) (Zt [(3,some .pin),(5,some (.bun 3 S'))]))
theorem M3 (a b : Ty) : BV a b = (match a,b with | .mk s n x _,.mk s' n' x' _ => (s == s') && ((n == n') && (x == x'))) := by
 obtain ⟨s,n,x,ps⟩ := a
 obtain ⟨s',n',x',ps'⟩ := b
 simp [BV,Bool.and_assoc]
set_option maxHeartbeats 1000000 in
theorem WL : ∀ (p v : Ty) {b : Bool} {S S' : Bun},GA p v = true → Yields2 Tryz.prog (Cb p v) S b S' → goC p v b S S'
 | .mk f n x ps,.mk g m z vs,b,S,S',hok,hY => by
  have hW := L6 (.mk f n x ps)
  have hO := T0 (.mk g m z vs)
  simp only [Cb,CZ] at hY
  simp only [GA,CZ] at hok
  have hE := M3 (B6 (.mk f n x ps)) (.mk g m z vs)
  generalize BV (B6 (.mk f n x ps)) (.mk g m z vs) = he at *
  generalize B6 (.mk f n x ps) = hd at *
  obtain ⟨hs,hn,hx,hps⟩ := hd
  simp only at hE
  refine Ae Ap Tryz.func109 (by decide +kernel) rfl [8,9,6,10,7,5] rfl rfl ?_
  refine bg [] rfl (by simp [Af]) ?_
  cases hY with
  | stop h =>
   refine TN (j := 4) (j2 := 6) rfl (by simp [Af]) trivial h rfl rfl rfl rfl rfl ?_
   refine bg [] rfl (by simp [Af]) ?_
   refine Aa rfl (fun h => ?_) (fun h => by simp at h)
   refine bd [] rfl (by simp) ?_
   refine FB (ids' := []) 6 5 rfl rfl ?_
   exact Ab ⟨_,rfl,tV rfl,rfl,rfl,rfl,rfl,trivial⟩
  | @cons _ _ _ S1 _ _ h hY =>
   refine TN (j := 4) (j2 := 6) rfl (by simp [Af]) trivial h rfl rfl rfl rfl rfl ?_
   refine bg [] rfl (by simp [Af]) ?_
   refine Aa rfl (fun h => by simp at h) (fun h => ?_)
   refine bd [] rfl (by simp) ?_
   refine Ac rfl (fun _ => hW) (by simp [Af]) ?_
   refine bg [] rfl (by simp [Af]) ?_
   refine Ac rfl (fun _ => hO) (by simp [Af]) ?_
   refine bg [] rfl (by simp [Af]) ?_
   refine WR Ap rfl Pg (by simp [Af]) ?_
   refine bg [] rfl (by simp [Af];rfl) ?_
   by_cases hg : f = 6 ∧ he = true
   case neg =>
    rw [show (bif decide (f = 6) && he then Cw ps vs else []) = [] by
     have : (decide (f = 6) && he) = false := by simp;grind
     rw [this];rfl] at hY
    obtain ⟨rfl,rfl⟩ := hY.nilInv
    refine Aa rfl (fun h => ?_) (fun h => by exfalso;apply hg;rw [hE];simp at h ⊢;grind)
    refine bd [] rfl (by simp) ?_
    refine FB (ids' := []) 6 5 rfl rfl ?_
    exact Ab ⟨_,rfl,tV rfl,rfl,rfl,rfl,rfl,trivial⟩
   obtain ⟨rfl,rfl⟩ := hg
   have hE1 : (hs == g && (hn == m && hx == z)) = true := hE.symm
   refine Aa rfl (fun h => by exfalso;simp at h hE1;grind) (fun h => ?_)
   clear h
   rw [show (bif decide ((6 : Int) = 6) && true then Cw ps vs else []) = Cw ps vs from rfl] at hY
   simp only [show decide ((6 : Int) = 1) = false from rfl,show decide ((6 : Int) = 2) = false from rfl,Bool.not_true,Bool.false_or,Bool.and_eq_true] at hok
   obtain ⟨hlen,hok⟩ := hok
   have hlen : ps.length ≤ vs.length := of_decide_eq_true hlen
   refine bd [] rfl (by simp) ?_
   refine Rh (t := 25) rfl fun hv => ?_
   have hpl : ps.length ≤ 9223372036854775807 := by simp [CP,maxLen] at hv;omega
   refine Ah (fun y : Nat × Bun => [(27,.imm (.int .i64 y.1)),(26,.imm (.int .i64 ps.length)),(25,.imm (.sl (Bg ps))),(3,.ref 2 0),(5,.ref 9 0)])
    (fun y => Zt [(3,some .pin),(6,some (.bun 3 y.2)),(9,some (.immb 33 4 (dTyc (.mk g m z vs))))]) [10,7,5] (fun y => ps.length - y.1)
    (fun y => y.1 ≤ ps.length ∧ G9 (ps.drop y.1) (vs.drop y.1) = true ∧ Yields2 Tryz.prog (Cw (ps.drop y.1) (vs.drop y.1)) y.2 b S') (0,S1) ⟨Nat.zero_le _,hok,hY⟩ ⟨rfl,Aq (by simp),rfl,rfl,rfl,trivial⟩ ⟨rfl,rfl,rfl,rfl,rfl,trivial⟩ rfl fun y hi ih => ?_
   obtain ⟨i,S0⟩ := y
   obtain ⟨hi1,hi2,hi3⟩ := hi
   simp only at hi1 hi2 hi3
   refine bd [] rfl (by simp [Af]) ?_
   refine Aa rfl (fun h => ?_) (fun h => ?_)
   ·simp at h
    obtain ⟨t,ht⟩ := Ai h
    obtain ⟨u,hu⟩ := Ai (l := vs) (i := i) (by omega)
    rw [Aj ht,Aj hu] at hi2 hi3
    simp only [G9,Bool.and_eq_true] at hi2
    simp only [Cw] at hi3
    refine bd [] rfl (by simp [Af]) ?_
    refine bi rfl (c := dTyc t) (fun _ => ⟨by simp,by simpa using Ao ht,by simp⟩) (by simp) ?_
    refine bg [] rfl (by simp [Af]) ?_
    refine bi rfl (c := dTyc u) (fun _ => ⟨by simp,by simpa using Ao hu,by simp⟩) (by simp) ?_
    refine bg [] rfl (by simp [Af]) ?_
    rcases Yields2.split hi3 with ⟨S2,q1,q2⟩ | ⟨q1,q2⟩
    ·refine Aw (fr := [7]) [(1,1),(2,2),(3,3),(6,4)] [(5,7)] rfl (by simp) (WL t u hi2.1 q1) ⟨⟨rfl,rfl,rfl⟩,⟨rfl,rfl,rfl⟩,⟨rfl,rfl,rfl⟩,⟨rfl,rfl,rfl⟩,trivial⟩ rfl rfl rfl rfl ?_
     refine bg [] rfl (by simp [Af];rfl) ?_
     refine Aa rfl (fun h => by simp at h) (fun h => ?_)
     refine bd [] rfl (by simp) ?_
     refine B2 6 7 rfl ?_
     exact Ad (ih (i + 1,S2) (by simp only;omega) ⟨by simp only;omega,hi2.2,q2⟩) ⟨Aq (Bq (by simp only;omega) (by simp only;omega)),rfl,rfl,rfl,rfl,trivial⟩ ⟨rfl,rfl,rfl,rfl,rfl,trivial⟩ rfl
    ·subst q1
     refine Aw (fr := [7]) [(1,1),(2,2),(3,3),(6,4)] [(5,7)] rfl (by simp) (WL t u hi2.1 q2) ⟨⟨rfl,rfl,rfl⟩,⟨rfl,rfl,rfl⟩,⟨rfl,rfl,rfl⟩,⟨rfl,rfl,rfl⟩,trivial⟩ rfl rfl rfl rfl ?_
     refine bg [] rfl (by simp [Af];rfl) ?_
     refine Aa rfl (fun h => ?_) (fun h => by simp at h)
     refine bd [] rfl (by simp) ?_
     refine FB (ids' := []) 7 5 rfl rfl ?_
     exact Ab ⟨_,rfl,tV rfl,rfl,rfl,rfl,rfl,trivial⟩
   ·simp at h
    rw [(List.drop_eq_nil_of_le (by omega) : ps.drop i = [])] at hi3
    obtain ⟨rfl,rfl⟩ := hi3.nilInv
    refine Ar rfl ?_
    refine bd [] rfl (by simp) ?_
    refine FB (ids' := []) 6 5 rfl rfl ?_
    exact Ab ⟨_,rfl,tV rfl,rfl,rfl,rfl,rfl,trivial⟩
termination_by p => SizeOf.sizeOf p
decreasing_by
 all_goals
  have := List.sizeOf_lt_of_mem (List.mem_of_getElem? ht)
  simp_wf
  omega
def Do (p v : Ty) : St := [(6,some (.immb 50 4 (dTyc p))),(7,some (.immb 33 4 (dTyc v)))]
theorem JK (p v : Ty) (hok : GA p v = true) {b : Bool} {S S' : Bun} (hY : Yields2 Tryz.prog (Cb p v) S b S') :
  AP Tryz.prog 108 [.yld 3,.ref 6 0,.ref 7 0] ((3,some .pin) :: (4,some (.bun 3 S)) :: Do p v) (.ret (.tup []) ((3,some .pin) :: (5,some (.bun 3 S')) :: Do p v)) := by
 refine Ae Ap Tryz.func108 (by decide +kernel) rfl [1,2,8,5] rfl rfl ?_
 obtain ⟨q1,q2,q3,q4⟩ := p
 obtain ⟨u1,u2,u3,u4⟩ := v
 refine bg [] rfl (by simp [Af]) ?_
 refine Aw (fr := [8]) [(1,1),(2,2),(3,3),(4,4)] [(5,8)] rfl (by simp) (WL _ _ hok hY) ⟨⟨rfl,rfl,rfl⟩,⟨rfl,rfl,rfl⟩,⟨rfl,rfl,rfl⟩,⟨rfl,rfl,rfl⟩,trivial⟩ rfl rfl rfl rfl ?_
 refine bg [] rfl (by simp [Af]) ?_
 refine FB (ids' := []) 8 5 rfl rfl ?_
 exact Bu ⟨[],rfl,rfl,rfl,rfl,rfl,rfl,trivial⟩
theorem Ma (p v : Ty) : AP Tryz.prog 78 [.imm (.agg (dTyc p)),.imm (.agg (dTyc v))] [] (.ret (.fn (.func 108) [] [.ref 6 0,.ref 7 0]) (Do p v)) := by
 refine Ae Ap Tryz.func78 (by decide +kernel) rfl [6,7] rfl rfl ?_
 obtain ⟨q1,q2,q3,q4⟩ := p
 obtain ⟨u1,u2,u3,u4⟩ := v
 refine bg [] rfl (by simp [Af]) ?_
 exact Ab ⟨_,rfl,rfl,rfl,rfl,trivial⟩
def KK : Ty → Int
 | .mk s _ _ _ => s
def Ew (l : List (Str × Ty)) (d : Ty × Ty) : Option (List (Str × Ty)) :=
 if KK d.1 = 2 then some (l ++ [(Y7 d.1,d.2)]) else if KK d.1 ≠ 1 ∧ BV (B6 d.1) d.2 = false then none else some l
def Dh : List (Str × Ty) → List (Ty × Ty) → List (Str × Ty) × Bool
 | l,[] => (l,true)
 | l,d :: r => match Ew l d with
  | some l' => Dh l' r
  | none => (l,false)
theorem PJ (l : List (Str × Ty)) (f n : Int) (t : Str) (ps : List Ty) (u : Ty) : (f = 2 → Ew l (.mk f n t ps,u) = some (l ++ [(t,u)])) ∧
  (f ≠ 2 → f ≠ 1 ∧ BV (B6 (.mk f n t ps)) u = false → Ew l (.mk f n t ps,u) = none) ∧ (f ≠ 2 → ¬ (f ≠ 1 ∧ BV (B6 (.mk f n t ps)) u = false) → Ew l (.mk f n t ps,u) = some l) := by
 have h0 : KK (.mk f n t ps) = f := rfl
 have h1 : Y7 (.mk f n t ps) = t := rfl
 refine ⟨fun h => ?_,fun h h' => ?_,fun h h' => ?_⟩
 ·simp only [Ew,h0,h1];rw [if_pos h]
 ·simp only [Ew,h0,h1];rw [if_neg h,if_pos h']
 ·simp only [Ew,h0,h1];rw [if_neg h,if_neg h']
def Ln : List (Str × Ty) → St
 | [] => [(3,some (.cells 37 1 [.nils])),(4,some (.immb 4 1 [.bool false])),(5,some (.cells 37 1 [.nils]))]
 | b :: r => [(3,some (.cells 37 1 [.nils])),(4,some (.immb 4 1 [.bool false])),(5,some (.cells 37 1 [.own 8 (AD (b :: r)).length])),(8,some (.row 60 5 (AD (b :: r))))]
set_option maxHeartbeats 1000000 in
theorem Y5 (l : List (Str × Ty)) (x u : Ty) (hlen : l.length ≤ 1000000) {L : HT} (h1 : Tryz.prog.funcs[L.fn]?.isSome) (h2 : L.tmps.size = Tryz.f50.ntmps) (h3 : L.ps = #[12,13]) (h4 : L.asg = YB Tryz.f50)
  (h5 : L.body = Wg Tryz.f50) (h6 : L.E = [(4,.ref 3 0),(5,.ref 4 0),(6,.ref 5 0)]) (h7 : L.F = []) :
  (∀ l',Ew l (x,u) = some l' → Li Tryz.prog [.imm (.agg (dTyc x)),.imm (.agg (dTyc u))] (B3 L (Ln l) none) true (B3 L (Ln l') none)) ∧
  (Ew l (x,u) = none → Li Tryz.prog [.imm (.agg (dTyc x)),.imm (.agg (dTyc u))] (B3 L (Ln l) none) false (B3 L (Ln l) (some .ret))) := by
 obtain ⟨fc,hf⟩ := Option.isSome_iff_exists.1 h1
 have hW := L6 x
 have hO := T0 u
 have hE := M3 (B6 x) u
 obtain ⟨f,n,t,ps⟩ := x
 have hst := PJ l f n t ps u
 generalize BV (B6 (.mk f n t ps)) u = he at *
 generalize B6 (.mk f n t ps) = hd at *
 obtain ⟨hs,hn,hx,hps⟩ := hd
 obtain ⟨g,m,z,vs⟩ := u
 simp only at hE
 obtain ⟨hst1,hst2,hst3⟩ := hst
 have hfree : M7 [9,10,11,12,13] L.E (Ln l) L.F := by
  rw [h6,h7]
  cases l <;> refine ⟨by decide,?_⟩ <;> simp [Ln,Ql,Hm,Dv,OU,Gu]
 have hasg : ∀ stx,Hg Tryz.prog Tryz.f50.ntmps L.asg ((13,.imm (.agg (dTyc (.mk g m z vs)))) :: (12,.imm (.agg (dTyc (.mk f n t ps)))) :: L.E) stx [9,10,11,12,13] _ _ _ := fun stx => by
  rw [h4]
  exact Ua (Lx Ap rfl rfl rfl rfl (by simp) (by simp)) (Lx Ap rfl rfl rfl rfl (by simp) (by simp))
 by_cases h22 : f = 2
 ·subst h22
  refine ⟨fun l' hl' => ?_,fun h => by rw [hst1 rfl] at h;cases h⟩
  rw [hst1 rfl] at hl';cases hl'
  refine MD (pend := none) hf h3 h2 rfl rfl (by decide) (by decide) hfree (hasg _) ?_
  rw [h5,h6,h7]
  cases l with
  | nil =>
   refine bd [] rfl (by simp [Af]) ?_
   refine Aa rfl (fun h => ?_) (fun h => by simp at h)
   refine bd [] rfl (by simp [Af]) ?_
   refine BI Ap rfl ⟨by simp,by simp [maxLen],by simp,trivial⟩ ?_
   refine bg [] rfl (by simp [Af]) ?_
   refine B2 8 11 rfl ?_
   exact Bu (⟨rfl,rfl,rfl,rfl,trivial⟩ : Eu _ (Ln ([] ++ [(t,.mk g m z vs)])))
  | cons b r =>
   refine bd [] rfl (by simp [Af]) ?_
   refine Aa rfl (fun h => ?_) (fun h => by simp at h)
   refine bd [] rfl (by simp [Af]) ?_
   refine BI Ap rfl ⟨by simp,by simp [maxLen] at hlen ⊢;omega,by simp at hlen ⊢;omega,trivial⟩ ?_
   refine bg [] rfl (by simp [Af]) ?_
   refine B2 8 11 rfl ?_
   refine Bu (?_ : Eu _ (Ln (b :: r ++ [(t,.mk g m z vs)])))
   have e : AD (b :: (r ++ [(t,.mk g m z vs)])) = AD (b :: r) ++ [EK (t,.mk g m z vs)] := by simp [AD]
   simp only [Ln,List.cons_append,e]
   exact ⟨rfl,rfl,by simp only [List.length_append];rfl,rfl,trivial⟩
 have hst2 := hst2 h22
 have hst3 := hst3 h22
 have key : ∀ (pend : Option Code) (hh : (f ≠ 1 ∧ he = false) ↔ pend.isSome = true) (hp : pend = none ∨ pend = some .ret),
   Li Tryz.prog [.imm (.agg (dTyc (.mk f n t ps))),.imm (.agg (dTyc (.mk g m z vs)))] (B3 L (Ln l) none) pend.isNone (B3 L (Ln l) pend) := by
  intro pend hh hp
  refine MD (pend := pend) hf h3 h2 rfl rfl (by decide) (by decide) hfree (hasg _) ?_
  rw [h5,h6,h7]
  refine bd [] rfl (by simp [Af]) ?_
  refine Aa rfl (fun h => absurd (by simpa using h) h22) (fun h => ?_)
  clear h
  refine bd [] rfl (by simp [Af]) ?_
  refine Ac rfl (fun _ => hW) (by simp [Af]) ?_
  refine bg [] rfl (by simp [Af]) ?_
  refine Ac rfl (fun _ => hO) (by simp [Af]) ?_
  refine bg [] rfl (by simp [Af]) ?_
  refine WR Ap rfl Pg (by simp [Af]) ?_
  refine bg [] rfl (by simp [Af];rfl) ?_
  rcases hp with rfl | rfl
  ·refine Aa rfl (fun h => ?_) (fun h => ?_)
   ·exfalso
    have : ¬ (f ≠ 1 ∧ he = false) := fun q => by have := hh.1 q;cases this
    apply this
    simp at h
    refine ⟨h.1,?_⟩
    rw [hE]
    simp
    grind
   ·refine bd [] rfl (by simp [Af]) ?_
    refine Bu (?_ : Eu _ (Ln l))
    cases l <;> exact ⟨rfl,rfl,rfl,by first | trivial | exact ⟨rfl,trivial⟩⟩
  ·have hq := hh.2 rfl
   refine Aa rfl (fun h => ?_) (fun h => ?_)
   ·cases l with
    | nil =>
     refine bd [] rfl (by simp [Af]) ?_
     exact Ab (⟨rfl,rfl,rfl,trivial⟩ : Eu _ (Ln []))
    | cons b r =>
     refine bd [] rfl (by simp [Af]) ?_
     exact Ab (⟨rfl,rfl,rfl,rfl,trivial⟩ : Eu _ (Ln (b :: r)))
   ·exfalso
    obtain ⟨q1,q2⟩ := hq
    rw [q2] at hE
    simp at h hE
    grind
 refine ⟨fun l' hl' => ?_,fun h => ?_⟩
 ·have hn : ¬ (f ≠ 1 ∧ he = false) := fun hq => by rw [hst2 hq] at hl';cases hl'
  rw [hst3 hn] at hl';cases hl'
  exact key none ⟨fun h => absurd h hn,fun h => by cases h⟩ (.inl rfl)
 ·have hn : f ≠ 1 ∧ he = false := by
   by_cases hq : f ≠ 1 ∧ he = false
   ·exact hq
   ·rw [hst3 hq] at h;cases h
  exact key (some .ret) ⟨fun _ => rfl,fun _ => hn⟩ (.inr rfl)
theorem Ur {l l' : List (Str × Ty)} {d : Ty × Ty} (h : Ew l d = some l') : l'.length ≤ l.length + 1 := by
 unfold Ew at h
 split at h
 ·cases h;simp
 ·split at h
  ·cases h
  ·cases h;omega
theorem MZ {L : HT} (h1 : Tryz.prog.funcs[L.fn]?.isSome) (h2 : L.tmps.size = Tryz.f50.ntmps) (h3 : L.ps = #[12,13]) (h4 : L.asg = YB Tryz.f50)
  (h5 : L.body = Wg Tryz.f50) (h6 : L.E = [(4,.ref 3 0),(5,.ref 4 0),(6,.ref 5 0)]) (h7 : L.F = []) : ∀ (items : List (Ty × Ty)) (l : List (Str × Ty)),l.length + items.length ≤ 1000000 →
  Yields2 Tryz.prog items (B3 L (Ln l) none) (Dh l items).2 (B3 L (Ln (Dh l items).1) (bif (Dh l items).2 then none else some .ret))
 | [],l,_ => .nil _
 | d :: r,l,hl => by
  simp only [List.length_cons] at hl
  obtain ⟨q1,q2⟩ := Y5 l d.1 d.2 (by omega) h1 h2 h3 h4 h5 h6 h7
  cases hs : Ew l d with
  | none =>
   rw [show Dh l (d :: r) = (l,false) by simp only [Dh,hs]]
   exact .stop (q2 hs)
  | some l' =>
   rw [show Dh l (d :: r) = Dh l' r by simp only [Dh,hs]]
   have := Ur hs
   exact .cons (q1 l' hs) (MZ h1 h2 h3 h4 h5 h6 h7 r l' (by omega))
set_option maxHeartbeats 1000000 in
theorem WA (p v : Ty) (hok : GA p v = true) (hN : (Cb p v).length ≤ 1000000) : PureC Tryz.prog 50 [.agg (dTyc p),.agg (dTyc v)] (.tup [.sl (AD (bif (Dh [] (Cb p v)).2 then (Dh [] (Cb p v)).1 else [])),.bool (Dh [] (Cb p v)).2]) := by
 have hP := Ma p v
 have hP1 := fun b S S' h => JK p v hok (b := b) (S := S) (S' := S') h
 have hY := fun L h1 h2 h3 h4 h5 h6 h7 => MZ (L := L) h1 h2 h3 h4 h5 h6 h7 (Cb p v) [] (by simpa using hN)
 obtain ⟨q1,q2,q3,q4⟩ := p
 obtain ⟨u1,u2,u3,u4⟩ := v
 generalize Dh [] (Cb (.mk q1 q2 q3 q4) (.mk u1 u2 u3 u4)) = r at *
 obtain ⟨l,b⟩ := r
 simp only at hY ⊢
 refine Ae Ap Tryz.func50 (by decide +kernel) rfl [1,2,3,4,5,6,7,8,9,10,11,12,13] rfl rfl ?_
 refine bg [] rfl (by simp) ?_
 refine Aw (st0 := []) (fr := [6,7]) [] [(6,6),(7,7)] rfl (by simp) hP trivial rfl rfl rfl rfl ?_
 refine bd [] rfl (by simp) ?_
 refine JZ (y := 3) (j := 4) (j2 := 5) (stc := Do (.mk q1 q2 q3 q4) (.mk u1 u2 u3 u4)) (stc' := Do (.mk q1 q2 q3 q4) (.mk u1 u2 u3 u4)) (stx := Ln []) (stB := Ln l) (pend := bif b then none else some .ret) (E := [(4,.ref 3 0),(5,.ref 4 0),(6,.ref 5 0)]) (ids' := [9,10,11,12,13]) (d := .tup []) rfl Tryz.func108 (by decide +kernel) rfl (by decide) ⟨rfl,rfl,rfl,trivial⟩
   (C9 ⟨rfl,rfl,rfl,rfl,rfl,trivial⟩) (fun L h1 h2 h3 h4 h5 h6 h7 => ?_) ?_ ?_ ?_ ?_ ?_
 ·exact hP1 b _ _ (hY L h1 h2 h3 h4 h5 h6 h7)
 ·simp [Do,Ln,Db]
 ·simp [Do,Db]
 ·intro i hi
  have e : Gu (DZ (CM (A5 [] ++ [(6,6),(7,7)])) [] ++ DZ (CM (A5 [] ++ [(6,6),(7,7)])) [.ref 6 0,.ref 7 0]) = [6,7] := rfl
  rw [e] at hi
  simpa [Do,Db,Dv,OU,Gu,Hm] using hi
 ·cases l <;> refine ⟨by decide,?_⟩ <;> simp [Ln,Ql,Hm,Dv,OU,Gu,Db]
 ·cases b with
  | false =>
   cases l <;> exact Ab ⟨_,rfl,tV rfl,trivial⟩
  | true =>
   cases l with
   | nil =>
    refine bd [] rfl (by simp [Af]) ?_
    exact Ab ⟨_,rfl,tV rfl,trivial⟩
   | cons x r =>
    refine BL 8 rfl ?_
    refine bd [] rfl (by simp [Af]) ?_
    exact Ab ⟨_,rfl,tV rfl,trivial⟩
theorem ML : ∀ v : Ty,Ak v ≤ 1000000 → PureC Tryz.prog 51 [.agg (dTyc v)] (.agg (dTyc v))
 | .mk s n x ps,hN => by
  refine Az fun hv => ?_
  simp [Bh,CP,dTyc,maxLen] at hv
  simp only [Ak] at hN
  have hpl : ps.length ≤ 1000000 := by
   have : ∀ l : List Ty,l.length ≤ Ag l := fun l => by
    induction l with
    | nil => simp
    | cons t r ih => obtain ⟨a,b,c,d⟩ := t;simp only [Ag,Ak,List.length_cons];omega
   have := this ps;omega
  refine Ae Ap Tryz.func51 (by decide +kernel) rfl [1,2,3,4,5,6] rfl rfl ?_
  refine bg [] rfl (by simp) ?_
  refine Fg (e := 33) (sz := 4) 3 3 (by decide) rfl ?_
  refine Ah (fun i : Nat => [(9,.imm (.int .i64 i)),(8,.imm (.int .i64 ps.length)),(7,.imm (.sl (Bg ps))),(3,.own 3 (Bg (ps.take i)).length),(1,.ref 1 0),(2,.ref 2 0)])
   (fun i => [(3,some (.row 33 4 (Bg (ps.take i)))),(1,some (.immb 33 4 (dTyc (.mk s n x ps)))),(2,some (.cells 33 4 [.imm (.int .i64 0),.imm (.int .i64 0),.imm (.str []),.nils]))]) [4,5,6] (fun i => ps.length - i)
   (fun i => i ≤ ps.length) 0 (Nat.zero_le _) ⟨rfl,Aq (by simp),rfl,rfl,rfl,rfl,trivial⟩ ⟨rfl,rfl,rfl,trivial⟩ rfl fun i hi ih => ?_
  refine bd [] rfl (by simp) ?_
  refine Aa rfl (fun h => ?_) (fun h => ?_)
  ·simp at h
   obtain ⟨t,ht⟩ := Ai h
   have hb := Bk ht
   refine bd [] rfl (by simp) ?_
   refine bi rfl (c := dTyc t) (fun _ => ⟨by simp,by simpa using Ao ht,by simp⟩) (by simp) ?_
   refine bg [] rfl (by simp) ?_
   refine Ac rfl (fun _ => ML t (by omega)) (by simp) ?_
   refine bg [] rfl (by simp) ?_
   refine BI Ap rfl ⟨by simp,by simp [maxLen];omega,by simp;omega,trivial⟩ ?_
   refine bg [] rfl (by simp) ?_
   refine B2 3 5 rfl ?_
   have et : Bg (ps.take (i + 1)) = Bg (ps.take i) ++ [dTyc t] := by rw [AM ht,Rn];simp [Bg]
   exact Ad (ih (i + 1) (by omega) (by omega)) ⟨Aq (Bq (by omega) (by omega)),rfl,rfl,by rw [et];rfl,rfl,rfl,trivial⟩ ⟨by rw [et];rfl,rfl,rfl,trivial⟩ rfl
  ·simp at h
   refine Ar rfl ?_
   rw [List.take_of_length_le h]
   refine BL 3 rfl ?_
   refine bd [] rfl (by simp) ?_
   exact Ab ⟨_,rfl,tV rfl,trivial⟩
termination_by v => SizeOf.sizeOf v
decreasing_by
 have := List.sizeOf_lt_of_mem (List.mem_of_getElem? ht)
 simp_wf
 omega
def Fz (d : Ty × Ty) : Bool := decide (KK d.1 ≠ 1) && decide (KK d.1 ≠ 2) && !BV (B6 d.1) d.2
theorem RE (l : List (Str × Ty)) (d : Ty × Ty) : (Ew l d).isSome = !Fz d := by
 unfold Ew Fz
 by_cases h2 : KK d.1 = 2
 ·rw [if_pos h2];simp [h2]
 ·rw [if_neg h2]
  by_cases h1 : KK d.1 ≠ 1 ∧ BV (B6 d.1) d.2 = false
  ·rw [if_pos h1];simp [h1,h2]
  ·rw [if_neg h1]
   simp only [Option.isSome_some]
   by_cases h3 : KK d.1 = 1
   ·simp [h3]
   ·have : BV (B6 d.1) d.2 = true := by cases hh : BV (B6 d.1) d.2;exact absurd ⟨h3,hh⟩ h1;rfl
    simp [this]
theorem PQ : ∀ (items : List (Ty × Ty)) (l : List (Str × Ty)),(Dh l items).2 = items.all fun d => !Fz d
 | [],l => rfl
 | d :: r,l => by
  have := RE l d
  simp only [Dh,List.all_cons]
  cases hs : Ew l d with
  | none => rw [hs] at this;simp at this;simp [this]
  | some l' => rw [hs] at this;simp at this;simp [this,PQ r l']
def LQ : Code → Option (Code × Code)
 | .rangeFunc _ _ a b => some (a,b)
 | .seq x y => match LQ x with
  | some r => some r
  | none => LQ y
 | .block _ c => LQ c
 | .scope c => LQ c
 | .loop c => LQ c
 | _ => none
def Wh (f : Func) : Code := match LQ (EQ f 0) with
 | some (a,_) => a
 | none => .skip
def Tk (f : Func) : Code := match LQ (EQ f 0) with
 | some (_,b) => b
 | none => .skip
def Us (v : Ty) : St := [(1,some (.immb 33 4 (dTyc v)))]
def eR (c : Cse) (sz : List (List V)) (i : Nat) : Env := [(5,.imm (.int .i64 i)),(15,.imm (.int .i64 i)),(14,.imm (.int .i64 c.rows.length)),(13,.imm (.sl (Bg c.rows))),(0,.imm (BX c sz)),(3,.ref 1 0)]
set_option maxHeartbeats 1000000 in
theorem Ud (c : Cse) (sz : List (List V)) (i : Nat) (v x u : Ty) {L : HT} (h1 : Tryz.prog.funcs[L.fn]?.isSome) (h2 : L.tmps.size = Tryz.f52.ntmps) (h3 : L.ps = #[23,24]) (h4 : L.asg = Wh Tryz.f52)
  (h5 : L.body = Tk Tryz.f52) (h6 : L.E = eR c sz i) (h7 : L.F = []) (pend : Option Code) (hp : pend = none ∨ pend = some (.exit 1)) (hh : Fz (x,u) = pend.isSome) :
  Li Tryz.prog [.imm (.agg (dTyc x)),.imm (.agg (dTyc u))] (B3 L (Us v) none) pend.isNone (B3 L (Us v) pend) := by
 obtain ⟨fc,hf⟩ := Option.isSome_iff_exists.1 h1
 have hW := L6 x
 have hO := T0 u
 have hE := M3 (B6 x) u
 obtain ⟨f,n,t,ps⟩ := x
 have hs : Fz (.mk f n t ps,u) = (decide (f ≠ 1) && decide (f ≠ 2) && !BV (B6 (.mk f n t ps)) u) := rfl
 rw [hs] at hh
 clear hs
 generalize BV (B6 (.mk f n t ps)) u = he at *
 generalize B6 (.mk f n t ps) = hd at *
 obtain ⟨hs,hn,hx,hps⟩ := hd
 obtain ⟨g,m,z,vs⟩ := u
 simp only at hE
 have hfree : M7 [9,10,11,12,13] L.E (Us v) L.F := by
  rw [h6,h7]
  refine ⟨by decide,?_⟩
  simp [Us,eR,Ql,Hm,Dv,OU,Gu]
 have hasg : ∀ stx,Hg Tryz.prog Tryz.f52.ntmps L.asg ((24,.imm (.agg (dTyc (.mk g m z vs)))) :: (23,.imm (.agg (dTyc (.mk f n t ps)))) :: L.E) stx [9,10,11,12,13] _ _ _ := fun stx => by
  rw [h4]
  exact Ua (Lx Ap rfl rfl rfl rfl (by simp) (by simp)) (Lx Ap rfl rfl rfl rfl (by simp) (by simp))
 refine MD (pend := pend) hf h3 h2 rfl rfl (by decide) (by decide) hfree (hasg _) ?_
 rw [h5,h6,h7]
 refine bd [] rfl (by simp [Af]) ?_
 refine Ac rfl (fun _ => hW) (by simp [Af]) ?_
 refine bg [] rfl (by simp [Af]) ?_
 refine Ac rfl (fun _ => hO) (by simp [Af]) ?_
 refine bg [] rfl (by simp [Af]) ?_
 refine WR Ap rfl Pg (by simp [Af]) ?_
 refine bg [] rfl (by simp [Af];rfl) ?_
 rcases hp with rfl | rfl
 ·refine Aa rfl (fun h => ?_) (fun h => ?_)
  ·exfalso
   rw [hE] at hh
   simp at h hh
   grind
  ·refine bd [] rfl (by simp [Af]) ?_
   exact Bu (⟨rfl,trivial⟩ : Eu _ (Us v))
 ·refine Aa rfl (fun h => ?_) (fun h => ?_)
  ·refine bd [] rfl (by simp [Af]) ?_
   exact Ri rfl (⟨rfl,rfl,trivial⟩ : (1 : Nat) = 1 ∧ Eu _ (Us v))
  ·exfalso
   rw [hE] at hh
   simp at h hh
   grind
theorem RB (c : Cse) (sz : List (List V)) (i : Nat) (v : Ty) {L : HT} (h1 : Tryz.prog.funcs[L.fn]?.isSome) (h2 : L.tmps.size = Tryz.f52.ntmps) (h3 : L.ps = #[23,24]) (h4 : L.asg = Wh Tryz.f52)
  (h5 : L.body = Tk Tryz.f52) (h6 : L.E = eR c sz i) (h7 : L.F = []) : ∀ (items : List (Ty × Ty)),
  Yields2 Tryz.prog items (B3 L (Us v) none) (items.all fun d => !Fz d) (B3 L (Us v) (bif items.all fun d => !Fz d then none else some (.exit 1)))
 | [] => .nil _
 | d :: r => by
  cases hs : Fz d with
  | true =>
   rw [show ((d :: r).all fun d => !Fz d) = false by simp [hs]]
   exact .stop (Ud c sz i v d.1 d.2 h1 h2 h3 h4 h5 h6 h7 (some (.exit 1)) (.inr rfl) hs)
  | false =>
   rw [show ((d :: r).all fun d => !Fz d) = r.all fun d => !Fz d by simp [hs]]
   exact .cons (Ud c sz i v d.1 d.2 h1 h2 h3 h4 h5 h6 h7 none (.inl rfl) hs) (RB c sz i v h1 h2 h3 h4 h5 h6 h7 r)
def Tj (v p : Ty) : Bool := (Cb p v).all fun d => !Fz d
def Fq (v : Ty) : Nat → List Ty → Int
 | _,[] => -1
 | i,p :: r => bif Tj v p then (i : Int) else Fq v (i + 1) r
set_option maxHeartbeats 1000000 in
theorem Zd (c : Cse) (sz : List (List V)) (v : Ty) (hok : ∀ p ∈ c.rows,GA p v = true) : PureC Tryz.prog 52 [BX c sz,.agg (dTyc v)] (.int .i64 (Fq v 0 c.rows)) := by
 have hP := fun p => Ma p v
 have hP1 := fun p hok b S S' h => JK p v hok (b := b) (S := S) (S' := S') h
 have hY := fun i L h1 h2 h3 h4 h5 h6 h7 items => RB c sz i v (L := L) h1 h2 h3 h4 h5 h6 h7 items
 have hrl : PureC Tryz.prog 52 [BX c sz,.agg (dTyc v)] (.int .i64 (Fq v 0 c.rows)) ↔ PureC Tryz.prog 52 [BX c sz,.agg (dTyc v)] (.int .i64 (Fq v 0 c.rows)) := Iff.rfl
 clear hrl
 obtain ⟨ds,⟨c1,c2,c3,c4⟩,rows⟩ := c
 obtain ⟨g,m,z,vs⟩ := v
 simp only at hok ⊢
 refine Ae Ap Tryz.func52 (by decide +kernel) rfl [1,2,6,7,9,10,11,12,13] rfl rfl ?_
 refine bg [] rfl (by simp) ?_
 refine Rh (t := 13) rfl fun hv => ?_
 have hlen : rows.length ≤ 9223372036854775807 := by simp [CP,maxLen] at hv;omega
 refine Ah (fun i : Nat => [(15,.imm (.int .i64 i)),(14,.imm (.int .i64 rows.length)),(13,.imm (.sl (Bg rows))),(0,.imm (BX ⟨ds,.mk c1 c2 c3 c4,rows⟩ sz)),(3,.ref 1 0)]) (fun _ => Us (.mk g m z vs)) [2,6,7,9,10,11,12,13] (fun i => rows.length - i)
  (fun i => i ≤ rows.length ∧ Fq (.mk g m z vs) 0 rows = Fq (.mk g m z vs) i (rows.drop i)) 0 ⟨Nat.zero_le _,rfl⟩ ⟨rfl,Aq (by simp),rfl,rfl,rfl,trivial⟩ ⟨rfl,trivial⟩ rfl fun i hi ih => ?_
 obtain ⟨hi1,hi2⟩ := hi
 refine bd [] rfl (by simp) ?_
 refine Aa rfl (fun h => ?_) (fun h => ?_)
 ·simp at h
  obtain ⟨p,hp⟩ := Ai h
  rw [Aj hp] at hi2
  simp only [Fq] at hi2
  have hokp := hok p (List.mem_of_getElem? hp)
  refine bd [] rfl (by simp) ?_
  refine bi rfl (c := dTyc p) (fun _ => ⟨by simp,by simpa using Ao hp,by simp⟩) (by simp) ?_
  refine bg [] rfl (by simp) ?_
  refine Aw (st0 := []) (fr := [6,7]) [] [(6,6),(7,7)] rfl (by simp) (hP p) trivial rfl rfl rfl rfl ?_
  refine bd [] rfl (by simp) ?_
  have hro : ((Cb p (.mk g m z vs)).all fun d => !Fz d) = Tj (.mk g m z vs) p := rfl
  generalize Tj (.mk g m z vs) p = b at *
  refine JZ (y := 3) (j := 4) (j2 := 5) (stc := Do p (.mk g m z vs)) (stc' := Do p (.mk g m z vs)) (stx := Us (.mk g m z vs)) (stB := Us (.mk g m z vs)) (pend := bif b then none else some (.exit 1)) (E := eR ⟨ds,.mk c1 c2 c3 c4,rows⟩ sz i) (ids' := [2,6,7,9,10,11,12,13]) (d := .tup []) rfl Tryz.func108 (by decide +kernel) rfl (by decide) ⟨rfl,rfl,rfl,rfl,rfl,rfl,trivial⟩
   (C9 ⟨rfl,rfl,rfl,trivial⟩) (fun L h1 h2 h3 h4 h5 h6 h7 => ?_) ?_ ?_ ?_ ?_ ?_
  ·have := hY i L h1 h2 h3 h4 h5 h6 h7 (Cb p (.mk g m z vs))
   rw [hro] at this
   exact hP1 p hokp b _ _ this
  ·simp [Do,Us,Db]
  ·simp [Do,Db]
  ·intro k hk
   have e : Gu (DZ (CM (A5 [] ++ [(6,6),(7,7)])) [] ++ DZ (CM (A5 [] ++ [(6,6),(7,7)])) [.ref 6 0,.ref 7 0]) = [6,7] := rfl
   rw [e] at hk
   simpa [Do,Db,Dv,OU,Gu,Hm] using hk
  ·refine ⟨by decide,?_⟩
   simp [Us,eR,Ql,Hm,Dv,OU,Gu,Db]
  ·cases b with
   | true =>
    rw [hi2]
    refine bd [] rfl (by simp [Af]) ?_
    exact Ab ⟨_,rfl,tV rfl,trivial⟩
   | false =>
    refine Ar rfl ?_
    refine bd [] rfl (by simp [Af]) ?_
    exact Ad (ih (i + 1) (by omega) ⟨by omega,hi2⟩) ⟨Aq (Bq (by omega) (by omega)),rfl,rfl,rfl,rfl,trivial⟩ ⟨rfl,trivial⟩ rfl
 ·simp at h
  refine Ar rfl ?_
  refine bd [] rfl (by simp) ?_
  rw [hi2,List.drop_eq_nil_of_le (by omega)]
  exact Ab ⟨_,rfl,tV rfl,trivial⟩
theorem LY {s n : Int} {x : Str} {k : Nat} (h : Ct s n x k = true) : (s = 1 ∨ s = 2 ∨ s = 3 ∨ s = 4 ∨ s = 5 ∨ s = 6) ∧ (s ≠ 6 → k = 0) := by
 unfold Ct at h
 split at h
 ·simp at h;grind
 ·split at h
  ·simp at h;grind
  ·split at h
   ·simp at h;grind
   ·split at h
    ·simp at h;grind
    ·split at h
     ·simp at h;grind
     ·cases h
mutual
theorem Tz (ds : List Dt) : ∀ p t v : Ty,Bp p = true → CB ds t p = true → V5 ds t v = true → GA p v = true
 | .mk f n x ps,.mk so m x0 qs,.mk g k z vs,hw,hp,hv => by
  simp only [Bp,Bool.and_eq_true] at hw
  obtain ⟨hk1,hk2⟩ := LY hw.1
  simp only [GA,CZ]
  by_cases h1 : f = 1
  ·simp [h1]
  by_cases h2 : f = 2
  ·simp [h2]
  simp only [h1,h2,decide_false,Bool.false_or]
  cases he : BV (B6 (.mk f n x ps)) (.mk g k z vs) with
  | false => rfl
  | true =>
   simp only [Bool.not_true,Bool.false_or,Bool.and_eq_true]
   by_cases h6 : f = 6
   ·subst h6
    simp only [B6,BV] at he
    simp at he
    obtain ⟨⟨e1,e2⟩,e3⟩ := he
    subst e3
    rw [NK] at hp
    rw [W0] at hv
    simp only [I9,W1,← e1] at hp hv
    simp at hp hv
    obtain ⟨p1,p2,p3⟩ := hp
    have h8 : so = 8 := by
     unfold Cr at p2
     cases hc : decide (0 ≤ (BT ds (.mk so m x0 qs) x).2) with
     | false => rw [hc] at p2;simp at p2
     | true =>
      simp only [BT] at hc
      by_cases h8 : so = 8
      ·exact h8
      ·simp [h8] at hc
    subst h8
    simp at hv
    exact ⟨decide_eq_true (by omega),Qf ds ps _ vs p1 hw.2 p3 hv.2.2⟩
   ·have := hk2 h6
    have hps : ps = [] := List.eq_nil_of_length_eq_zero this
    subst hps
    simp [G9]
theorem Qf (ds : List Dt) : ∀ ps ts vs : List Ty,ts.length = ps.length → AZ ps = true → CY ds ts ps = true → Mg ds ts vs = true → G9 ps vs = true
 | [],_,_,_,_,_,_ => rfl
 | _ :: _,_,[],_,_,_,_ => rfl
 | p :: r,[],v :: s,hl,_,_,_ => by simp at hl
 | p :: r,a :: ts,v :: s,hl,hw,hp,hv => by
  simp only [AZ,CY,Mg,G9,Bool.and_eq_true] at hw hp hv ⊢
  exact ⟨Tz ds p a v hw.1 hp.1 hv.1,Qf ds r ts s (by simpa using hl) hw.2 hp.2 hv.2⟩
end
mutual
theorem NL : ∀ p v : Ty,(Cb p v).length ≤ Ak p
 | .mk f n x ps,v => by
  have := Mb ps (CZ v)
  simp only [Cb,Ak,List.length_cons]
  cases decide (f = 6) && BV (B6 (.mk f n x ps)) v
  ·simp
  ·simp;omega
theorem Mb : ∀ ps vs : List Ty,(Cw ps vs).length ≤ Ag ps
 | [],_ => by simp [Cw]
 | _ :: _,[] => by simp [Cw]
 | p :: r,q :: s => by
  have h1 := NL p q
  have h2 := Mb r s
  simp only [Cw,Ag,List.length_append];omega
end
mutual
theorem NE : ∀ (p v : Ty),Bp p = true → GA p v = true → ∀ (l : List (Str × Ty)) (rest : List (Ty × Ty)),
  ((AJ p v).2 = true → Dh l (Cb p v ++ rest) = Dh (l ++ (AJ p v).1) rest) ∧ ((AJ p v).2 = false → (Dh l (Cb p v ++ rest)).2 = false)
 | .mk f n x ps,v,hw,hok,l,rest => by
  simp only [Bp,Bool.and_eq_true] at hw
  obtain ⟨hk1,hk2⟩ := LY hw.1
  obtain ⟨s1,s2,s3⟩ := PJ l f n x ps v
  simp only [GA] at hok
  simp only [Cb,AJ,List.cons_append,Dh]
  by_cases h1 : f = 1
  ·subst h1
   rw [s3 (by decide) (by simp)]
   simp
  by_cases h2 : f = 2
  ·subst h2
   rw [s1 rfl]
   simp
  simp only [h1,h2,if_false,decide_false,Bool.false_or] at hok ⊢
  cases he : BV (B6 (.mk f n x ps)) v with
  | false =>
   rw [s2 h2 ⟨h1,he⟩]
   simp
  | true =>
   rw [s3 h2 (by rw [he];simp)]
   rw [he] at hok
   simp only [Bool.not_true,Bool.false_or,Bool.and_eq_true] at hok
   by_cases h6 : f = 6
   ·subst h6
    have := LN ps (CZ v) hw.2 hok.2 (of_decide_eq_true hok.1) l rest
    simpa using this
   ·have hps : ps = [] := List.eq_nil_of_length_eq_zero (hk2 h6)
    subst hps
    simp [h6,A7]
theorem LN : ∀ (ps vs : List Ty),AZ ps = true → G9 ps vs = true → ps.length ≤ vs.length → ∀ (l : List (Str × Ty)) (rest : List (Ty × Ty)),
  ((A7 ps vs).2 = true → Dh l (Cw ps vs ++ rest) = Dh (l ++ (A7 ps vs).1) rest) ∧ ((A7 ps vs).2 = false → (Dh l (Cw ps vs ++ rest)).2 = false)
 | [],_,_,_,_,l,rest => by simp [A7,Cw]
 | _ :: _,[],_,_,hl,l,rest => by simp at hl
 | p :: r,q :: s,hw,hok,hl,l,rest => by
  simp only [AZ,G9,Bool.and_eq_true] at hw hok
  simp only [A7,Cw,List.append_assoc]
  obtain ⟨a1,a2⟩ := NE p q hw.1 hok.1 l (Cw r s ++ rest)
  obtain ⟨b1,b2⟩ := LN r s hw.2 hok.2 (by simpa using hl) (l ++ (AJ p q).1) rest
  cases hp : (AJ p q).2 with
  | false => simp [a2 hp]
  | true =>
   rw [a1 hp]
   cases hr : (A7 r s).2 with
   | false => simp [b2 hr]
   | true => simp [b1 hr]
end
theorem LO (p v : Ty) (hw : Bp p = true) (hok : GA p v = true) : (Dh [] (Cb p v)).2 = (AJ p v).2 ∧ (bif (Dh [] (Cb p v)).2 then (Dh [] (Cb p v)).1 else []) = (AJ p v).1 := by
 obtain ⟨h1,h2⟩ := NE p v hw hok [] []
 rw [List.append_nil] at h1 h2
 cases h : (AJ p v).2 with
 | true => rw [h1 h];simp [Dh]
 | false => rw [h2 h];simp [OZ p v h]
theorem Ol (v : Ty) : ∀ (rows : List Ty) (i : Nat),(∀ p ∈ rows,Bp p = true ∧ GA p v = true) → Fq v i rows = Fs v i rows
 | [],i,_ => rfl
 | p :: r,i,h => by
  have := (LO p v (h p (by simp)).1 (h p (by simp)).2).1
  rw [PQ] at this
  simp only [Fq,Fs]
  rw [show Tj v p = (AJ p v).2 from this,Ol v r (i + 1) fun q hq => h q (by simp [hq])]
set_option maxHeartbeats 1000000 in
theorem UF (p v : Ty) (hok : GA p v = true) (hN : (Cb p v).length ≤ 1000000) {b : Str × Ty} {r : List (Str × Ty)} (hr : Dh [] (Cb p v) = (b :: r,true)) :
  AP Tryz.prog 50 [.imm (.agg (dTyc p)),.imm (.agg (dTyc v))] [] (.ret (.tup [.own 8 (AD (b :: r)).length,.imm (.bool true)]) [(8,some (.row 60 5 (AD (b :: r))))]) := by
 have hP := Ma p v
 have hP1 := fun b S S' h => JK p v hok (b := b) (S := S) (S' := S') h
 have hY := fun L h1 h2 h3 h4 h5 h6 h7 => MZ (L := L) h1 h2 h3 h4 h5 h6 h7 (Cb p v) [] (by simpa using hN)
 rw [hr] at hY
 obtain ⟨q1,q2,q3,q4⟩ := p
 obtain ⟨u1,u2,u3,u4⟩ := v
 simp only at hY ⊢
 refine Ae Ap Tryz.func50 (by decide +kernel) rfl [1,2,3,4,5,6,7,8,9,10,11,12,13] rfl rfl ?_
 refine bg [] rfl (by simp) ?_
 refine Aw (st0 := []) (fr := [6,7]) [] [(6,6),(7,7)] rfl (by simp) hP trivial rfl rfl rfl rfl ?_
 refine bd [] rfl (by simp) ?_
 refine JZ (y := 3) (j := 4) (j2 := 5) (stc := Do (.mk q1 q2 q3 q4) (.mk u1 u2 u3 u4)) (stc' := Do (.mk q1 q2 q3 q4) (.mk u1 u2 u3 u4)) (stx := Ln []) (stB := Ln (b :: r)) (pend := none) (E := [(4,.ref 3 0),(5,.ref 4 0),(6,.ref 5 0)]) (ids' := [9,10,11,12,13]) (d := .tup []) rfl Tryz.func108 (by decide +kernel) rfl (by decide) ⟨rfl,rfl,rfl,trivial⟩
   (C9 ⟨rfl,rfl,rfl,rfl,rfl,trivial⟩) (fun L h1 h2 h3 h4 h5 h6 h7 => ?_) ?_ ?_ ?_ ?_ ?_
 ·exact hP1 true _ _ (hY L h1 h2 h3 h4 h5 h6 h7)
 ·simp [Do,Ln,Db]
 ·simp [Do,Db]
 ·intro i hi
  have e : Gu (DZ (CM (A5 [] ++ [(6,6),(7,7)])) [] ++ DZ (CM (A5 [] ++ [(6,6),(7,7)])) [.ref 6 0,.ref 7 0]) = [6,7] := rfl
  rw [e] at hi
  simpa [Do,Db,Dv,OU,Gu,Hm] using hi
 ·refine ⟨by decide,?_⟩
  simp [Ln,Ql,Hm,Dv,OU,Gu,Db]
 ·refine bd [] rfl (by simp [Af]) ?_
  exact Ab ⟨_,rfl,rfl,rfl,trivial⟩
theorem CD {c : Cse} {v : Ty} (h : D3 c v = true) : ∀ p ∈ c.rows,Bp p = true ∧ GA p v = true ∧ Ak p ≤ 12 := by
 simp only [D3,Bool.and_eq_true] at h
 obtain ⟨⟨h1,_⟩,h2⟩ := h
 obtain ⟨_,_,_,_,hr⟩ := FF h1
 intro p hp
 obtain ⟨h3,h4⟩ := hr p hp
 simp only [AK,Bool.and_eq_true,decide_eq_true_eq] at h3
 exact ⟨h3.2.1,Tz c.datas p c.type v h3.2.1 h4 h2,h3.1⟩
theorem V3 (c : Cse) (v : Ty) : PureC Tryz.prog 10 [.agg (dCse c),.agg (dTyc v)] (bif D3 c v then (bif decide (Fs v 0 c.rows < 0) then .tup [.int .i64 0,.int .i64 5] else .tup [.int .i64 (Fs v 0 c.rows),.int .i64 0]) else .tup [.int .i64 0,.int .i64 2]) := by
 have hA := Ry c v
 have hR := fun h => Zd c (F2 (YY c.datas)) v (fun p hp => (CD (c := c) (v := v) h p hp).2.1)
 have hE := fun h => Ol v c.rows 0 (fun p hp => ⟨(CD (c := c) (v := v) h p hp).1,(CD (c := c) (v := v) h p hp).2.1⟩)
 obtain ⟨ds,⟨c1,c2,c3,c4⟩,rows⟩ := c
 obtain ⟨g,m,z,vs⟩ := v
 generalize D3 ⟨ds,.mk c1 c2 c3 c4,rows⟩ (.mk g m z vs) = b at *
 simp only at hE ⊢
 refine Ae Ap Tryz.func10 (by decide +kernel) rfl [3,4,5] rfl rfl ?_
 refine bg [] rfl (by simp) ?_
 cases b with
 | false =>
  refine Ac rfl (fun _ => hA) (by simp) ?_
  refine bg [] rfl (by simp) ?_
  refine Aa rfl (fun h => ?_) (fun h => by simp at h)
  refine bd [] rfl (by simp) ?_
  exact Ab ⟨_,rfl,tV rfl,trivial⟩
 | true =>
  refine Ac rfl (fun _ => hA) (by simp) ?_
  refine bg [] rfl (by simp) ?_
  refine Aa rfl (fun h => by simp at h) (fun h => ?_)
  refine bd [] rfl (by simp) ?_
  refine Ac rfl (fun _ => hR rfl) (by simp) ?_
  refine bg [] rfl (by simp) ?_
  rw [← hE rfl]
  generalize Fq (.mk g m z vs) 0 rows = n
  refine Aa rfl (fun h => ?_) (fun h => ?_)
  ·refine bd [] rfl (by simp) ?_
   rw [show decide (n < 0) = true from h]
   exact Ab ⟨_,rfl,tV rfl,trivial⟩
  ·refine bd [] rfl (by simp) ?_
   rw [show decide (n < 0) = false from h]
   exact Ab ⟨_,rfl,tV rfl,trivial⟩
def LC (c : Cse) (r : Int) : Bool := decide (0 ≤ r) && decide (r < c.rows.length)
def OY (c : Cse) (r : Int) (v : Ty) : List (Str × Ty) × Int := bif D3 c v && LC c r then (match c.rows[r.toNat]? with
 | some p => bif (AJ p v).2 then ((AJ p v).1,0) else ([],5)
 | none => ([],2)) else ([],2)
mutual
theorem IK : ∀ (p v : Ty),∀ b ∈ (AJ p v).1,Ak b.2 ≤ Ak v
 | .mk f n x ps,v,b,hb => by
  simp only [AJ] at hb
  split at hb
  ·simp at hb
  ·split at hb
   ·simp at hb;subst hb;exact Nat.le_refl _
   ·split at hb
    ·simp at hb
    ·have := HH ps (CZ v) b hb
     obtain ⟨g,m,z,vs⟩ := v
     simp only [CZ] at this
     simp only [Ak];omega
theorem HH : ∀ (ps vs : List Ty),∀ b ∈ (A7 ps vs).1,Ak b.2 ≤ Ag vs
 | [],_,b,hb => by simp [A7] at hb
 | _ :: _,[],b,hb => by simp [A7] at hb
 | p :: r,q :: s,b,hb => by
  simp only [A7] at hb
  cases hc : (AJ p q).2 && (A7 r s).2
  ·rw [hc] at hb;simp at hb
  ·rw [hc] at hb
   simp only [cond_true,List.mem_append] at hb
   simp only [Ag]
   rcases hb with hb | hb
   ·have := IK p q b hb;omega
   ·have := HH r s b hb;omega
end
set_option maxHeartbeats 1000000 in
theorem V2 (c : Cse) (r : Int) (v : Ty) (hv : Ak v ≤ 1000000) : PureC Tryz.prog 9 [.agg (dCse c),.int .i64 r,.agg (dTyc v)] (.tup [.sl (AD (OY c r v).1),.int .i64 (OY c r v).2]) := by
 have hA := Ry c v
 have hT := VQ c r
 have hrows := fun h => CD (c := c) (v := v) h
 unfold OY
 have hth : LC c r = (decide (0 ≤ r) && decide (r < c.rows.length)) := rfl
 rw [← hth] at hT
 obtain ⟨ds,⟨c1,c2,c3,c4⟩,rows⟩ := c
 have hmN := fun p => IK p v
 have hM := fun p hok hN => WA p v hok hN
 have hMo := fun p hok hN b rr h => UF p v hok hN (b := b) (r := rr) h
 have hRM := fun p hw hok => LO p v hw hok
 have hPL := fun p => NL p v
 generalize hV : v = V at *
 obtain ⟨g,m,z,vs⟩ := V
 generalize D3 ⟨ds,.mk c1 c2 c3 c4,rows⟩ (.mk g m z vs) = b at *
 generalize LC ⟨ds,.mk c1 c2 c3 c4,rows⟩ r = tb at *
 simp only at hth hrows ⊢
 refine Ae Ap Tryz.func9 (by decide +kernel) rfl [3,4,5,6,7] rfl rfl ?_
 refine bg [] rfl (by simp) ?_
 cases b with
 | false =>
  refine Ac rfl (fun _ => hA) (by simp) ?_
  refine bg [] rfl (by simp) ?_
  refine Ac rfl (fun _ => hT) (by simp [Af]) ?_
  refine bg [] rfl (by simp [Af]) ?_
  refine Aa rfl (fun h => ?_) (fun h => by simp at h)
  refine bd [] rfl (by simp) ?_
  exact Ab ⟨_,rfl,tV rfl,trivial⟩
 | true =>
 refine Ac rfl (fun _ => hA) (by simp) ?_
 refine bg [] rfl (by simp) ?_
 refine Ac rfl (fun _ => hT) (by simp [Af]) ?_
 refine bg [] rfl (by simp [Af]) ?_
 cases tb with
 | false =>
  refine Aa rfl (fun h => ?_) (fun h => by simp at h)
  refine bd [] rfl (by simp) ?_
  exact Ab ⟨_,rfl,tV rfl,trivial⟩
 | true =>
 refine Aa rfl (fun h => by simp at h) (fun h => ?_)
 clear h
 have hth2 : 0 ≤ r ∧ r < rows.length := by simpa using hth.symm
 obtain ⟨p,hp⟩ := Ai (l := rows) (i := r.toNat) (by omega)
 obtain ⟨hw,hok,h12⟩ := hrows rfl p (List.mem_of_getElem? hp)
 have hpl := hPL p
 have hM := hM p hok (by omega)
 have hMo := hMo p hok (by omega)
 obtain ⟨e1,e2⟩ := hRM p hw hok
 have hmN := hmN p
 rw [e2,e1] at hM
 simp only [Bool.and_self,cond_true,hp]
 refine bd [] rfl (by simp) ?_
 refine bi rfl (c := dTyc p) (fun _ => ⟨hth2.1,by simpa using Ao hp,by simp⟩) (by simp) ?_
 refine bg [] rfl (by simp) ?_
 cases hmb : (AJ p (.mk g m z vs)).2 with
 | false =>
  rw [hmb] at hM
  refine Ac rfl (fun _ => hM) (by simp) ?_
  refine bg [] rfl (by simp;rfl) ?_
  refine Aa rfl (fun h => ?_) (fun h => by simp at h)
  refine bd [] rfl (by simp) ?_
  exact Ab ⟨_,rfl,tV rfl,trivial⟩
 | true =>
 rw [hmb] at hM e1
 rw [e1] at e2
 simp only [cond_true] at e2 ⊢
 cases hml : (AJ p (.mk g m z vs)).1 with
 | nil =>
  rw [hml] at hM
  refine Ac rfl (fun _ => hM) (by simp) ?_
  refine bg [] rfl (by simp;rfl) ?_
  refine Aa rfl (fun h => by simp at h) (fun h => ?_)
  refine bd [] rfl (by simp [AD]) ?_
  refine HN (MF ?_)
  refine bd [] rfl (by simp [AD]) ?_
  refine Aa rfl (fun h => by simp [AD] at h) (fun h => ?_)
  refine Ar rfl ?_
  refine bd [] rfl (by simp [AD]) ?_
  exact Ab ⟨_,rfl,tV rfl,trivial⟩
 | cons x rr =>
  rw [hml] at e2 hmN
  have hrun : Dh [] (Cb p (.mk g m z vs)) = (x :: rr,true) := Prod.ext e2 e1
  have hlenL : (x :: rr).length ≤ 12 := by
   have := If p (.mk g m z vs)
   rw [hml] at this;omega
  refine Aw (st0 := []) (fr := [5]) [] [(8,5)] rfl (by simp) (hMo x rr hrun) trivial rfl rfl rfl rfl ?_
  generalize x :: rr = l at *
  refine bg [] rfl (by simp;rfl) ?_
  refine Aa rfl (fun h => by simp at h) (fun h => ?_)
  clear h
  refine bd [] rfl (by simp) ?_
  refine Ah (fun i : Nat => [(41,.imm (.int .i64 i)),(40,.imm (.int .i64 (AD l).length)),(10,.own 5 (AD l).length)]) (fun _ => [(5,some (.row 60 5 (AD l)))]) [3,4,6,7] (fun i => (AD l).length - i)
   (fun i => i ≤ (AD l).length) 0 (Nat.zero_le _) ⟨rfl,rfl,rfl,trivial⟩ ⟨rfl,trivial⟩ rfl fun i hi ih => ?_
  refine bd [] rfl (by simp) ?_
  refine Aa rfl (fun h => ?_) (fun h => ?_)
  ·simp at h
   obtain ⟨bb,hb⟩ := Ai h
   have hbn := hmN bb (List.mem_of_getElem? hb)
   have hbd : (AD l)[i]? = some (EK bb) := by simp [AD,hb]
   have hcp := ML bb.2 (by omega)
   obtain ⟨bs,b1,b2,b3,b4⟩ := bb
   refine bd [] rfl (by simp) ?_
   refine GP Ap rfl (fun _ => ⟨by simp,by simp;omega⟩) (by simp) ?_
   refine bg [] rfl (by simp) ?_
   refine Pj (e := EK (bs,.mk b1 b2 b3 b4)) Ap rfl (fun _ => by simpa using hbd) rfl (by simp) ?_
   refine bg [] rfl (by simp) ?_
   refine Ac rfl (fun _ => hcp) (by simp) ?_
   refine bg [] rfl (by simp) ?_
   refine GP Ap rfl (fun _ => ⟨by simp,by simp;omega⟩) (by simp) ?_
   refine bg [] rfl (by simp) ?_
   refine QJ Ap (e := EK (bs,.mk b1 b2 b3 b4)) (e' := EK (bs,.mk b1 b2 b3 b4)) rfl (by simpa using hbd) (by show 1 + 4 ≤ 5;decide) rfl (by simp) ?_
   have hset : (AD l).set (i : Int).toNat (EK (bs,.mk b1 b2 b3 b4)) = AD l := by
    refine List.ext_getElem? fun j => ?_
    rw [List.getElem?_set]
    split
    ·rename_i hj
     simp at hj;subst hj
     rw [hbd]
     have : i < (AD l).length := by simp;omega
     simp [h]
    ·rfl
   simp only
   rw [hset]
   refine bg [] rfl (by simp) ?_
   exact Ad (ih (i + 1) (by simp;omega) (by simp;omega)) ⟨Aq (Bq (by omega) (by simp at hi;omega)),rfl,rfl,trivial⟩ ⟨rfl,trivial⟩ rfl
  ·refine Ar rfl ?_
   refine BL 5 rfl ?_
   refine bd [] rfl (by simp) ?_
   exact Ab ⟨_,rfl,tV rfl,trivial⟩
def QM (l : List Ty) : Bool := l.all (fun t => decide (0 ≤ A4 t 20)) && decide (l.length ≤ 5)
def RG (c : Cse) : Bool := (decide (c.datas.length ≤ 6) && decide (c.rows.length ≤ 7) && decide (0 ≤ A4 c.type 20)) && (c.rows.all (fun p => decide (0 ≤ A4 p 20)) && c.datas.all (fun d => decide (d.cons.length ≤ 7) && d.cons.all fun k => QM k.args))
def Lq (v : Ty) : Bool := decide (0 ≤ Bd v 300 110)
theorem Zw (l : List Ty) : PureC Tryz.prog 31 [.sl (Bg l)] (.bool (QM l)) := by
 refine Ae Ap Tryz.func31 (by decide +kernel) rfl [1,2] rfl rfl ?_
 refine bg [] rfl (by simp) ?_
 refine Ah (fun i : Nat => [(3,.imm (.int .i64 i)),(0,.imm (.sl (Bg l)))]) (fun _ => []) [1,2] (fun i => l.length - i)
  (fun i => i ≤ l.length ∧ i ≤ 6 ∧ l.all (fun t => decide (0 ≤ A4 t 20)) = (l.drop i).all (fun t => decide (0 ≤ A4 t 20))) 0 ⟨Nat.zero_le _,by simp,rfl⟩ ⟨rfl,rfl,trivial⟩ trivial rfl fun i hi ih => ?_
 obtain ⟨hi1,hi0,hi2⟩ := hi
 refine bd [] rfl (by simp [Af]) ?_
 by_cases hlt : i < l.length ∧ i < 6
 case neg =>
  refine Aa rfl (fun h => by exfalso;simp at h;omega) (fun h => ?_)
  refine Ar rfl ?_
  refine bd [] rfl (by simp) ?_
  refine Ab ⟨_,rfl,tV (congrArg _ ?_),trivial⟩
  simp only [QM,dTys_length]
  by_cases h5 : l.length ≤ 5
  ·rw [hi2,List.drop_eq_nil_of_le (by omega)];simp [h5];omega
  ·simp [h5];omega
 refine Aa rfl (fun h => ?_) (fun h => by exfalso;simp at h;omega)
 obtain ⟨t,ht⟩ := Ai hlt.1
 rw [C3 ht] at hi2
 refine bd [] rfl (by simp) ?_
 refine bi rfl (c := dTyc t) (fun _ => ⟨by simp,by simpa using Ao ht,by simp⟩) (by simp) ?_
 refine bg [] rfl (by simp) ?_
 refine Ac rfl (fun _ => Eg t 20 (by decide) (by decide)) (by simp) ?_
 refine bg [] rfl (by simp) ?_
 refine Aa rfl (fun h => ?_) (fun h => ?_)
 ·refine bd [] rfl (by simp) ?_
  refine Ab ⟨_,rfl,tV (congrArg _ ?_),trivial⟩
  simp at h
  rw [QM,hi2,show decide (0 ≤ A4 t 20) = false by simp;omega];simp
 ·refine bd [] rfl (by simp) ?_
  simp at h
  exact Ad (ih (i + 1) (by omega) ⟨by omega,by omega,by rw [hi2,show decide (0 ≤ A4 t 20) = true by simpa using h];simp⟩) ⟨Aq (Bq (by omega) (by omega)),rfl,trivial⟩ trivial rfl
set_option maxHeartbeats 1000000 in
theorem Ut (c : Cse) : PureC Tryz.prog 6 [.agg (dCse c)] (.bool (RG c)) := by
 have hWT := Eg c.type 20 (by decide) (by decide)
 obtain ⟨ds,t,rows⟩ := c
 simp only [RG] at hWT ⊢
 generalize A4 t 20 = wt at *
 obtain ⟨c1,c2,c3,c4⟩ := t
 refine Ae Ap Tryz.func6 (by decide +kernel) rfl [1,2] rfl rfl ?_
 refine bg [] rfl (by simp [Af]) ?_
 refine Ac rfl (fun _ => hWT) (by simp [Af]) ?_
 refine bg [] rfl (by simp [Af]) ?_
 by_cases hg : ds.length ≤ 6 ∧ rows.length ≤ 7 ∧ 0 ≤ wt
 case neg =>
  refine Aa rfl (fun h => ?_) (fun h => by exfalso;apply hg;simp at h;omega)
  refine bd [] rfl (by simp) ?_
  refine Ab ⟨_,rfl,tV (congrArg _ ?_),trivial⟩
  rw [show (decide (ds.length ≤ 6) && decide (rows.length ≤ 7) && decide (0 ≤ wt)) = false by simp;omega];simp
 obtain ⟨g1,g2,g3⟩ := hg
 rw [show (decide (ds.length ≤ 6) && decide (rows.length ≤ 7) && decide (0 ≤ wt)) = true by simp;omega,Bool.true_and]
 refine Aa rfl (fun h => by exfalso;simp at h;omega) (fun h => ?_)
 clear h
 refine bd [] rfl (by simp) ?_
 refine Ah (fun i : Nat => [(3,.imm (.int .i64 i)),(1,.ref 1 0)]) (fun _ => [(1,some (.immb 29 6 (dCse ⟨ds,.mk c1 c2 c3 c4,rows⟩)))]) [2] (fun i => rows.length - i)
  (fun i => i ≤ rows.length ∧ rows.all (fun p => decide (0 ≤ A4 p 20)) = (rows.drop i).all (fun p => decide (0 ≤ A4 p 20))) 0 ⟨Nat.zero_le _,rfl⟩ ⟨rfl,rfl,trivial⟩ ⟨rfl,trivial⟩ rfl fun i hi ih => ?_
 obtain ⟨hi1,hi2⟩ := hi
 refine bd [] rfl (by simp) ?_
 refine Aa rfl (fun h => ?_) (fun h => ?_)
 ·simp at h
  obtain ⟨p,hp⟩ := Ai h
  rw [C3 hp] at hi2
  refine bd [] rfl (by simp) ?_
  refine bi rfl (c := dTyc p) (fun _ => ⟨by simp,by simpa using Ao hp,by simp⟩) (by simp) ?_
  refine bg [] rfl (by simp) ?_
  refine Ac rfl (fun _ => Hd p 20 (by decide) (by decide)) (by simp) ?_
  refine bg [] rfl (by simp) ?_
  refine Aa rfl (fun h => ?_) (fun h => ?_)
  ·refine bd [] rfl (by simp) ?_
   refine Ab ⟨_,rfl,tV (congrArg _ ?_),trivial⟩
   simp at h
   rw [hi2,show decide (0 ≤ A4 p 20) = false by simp;omega];simp
  ·refine bd [] rfl (by simp) ?_
   simp at h
   exact Ad (ih (i + 1) (by omega) ⟨by omega,by rw [hi2,show decide (0 ≤ A4 p 20) = true by simpa using h];simp⟩) ⟨Aq (Bq (by omega) (by omega)),rfl,trivial⟩ ⟨rfl,trivial⟩ rfl
 simp at h
 refine Ar rfl ?_
 refine bd [] rfl (by simp) ?_
 rw [hi2,List.drop_eq_nil_of_le h,List.all_nil,Bool.true_and]
 refine Ah (fun i : Nat => [(4,.imm (.int .i64 i)),(1,.ref 1 0)]) (fun _ => [(1,some (.immb 29 6 (dCse ⟨ds,.mk c1 c2 c3 c4,rows⟩)))]) [2] (fun i => ds.length - i)
  (fun i => i ≤ ds.length ∧ ds.all (fun d => decide (d.cons.length ≤ 7) && d.cons.all fun k => QM k.args) = (ds.drop i).all (fun d => decide (d.cons.length ≤ 7) && d.cons.all fun k => QM k.args)) 0 ⟨Nat.zero_le _,rfl⟩ ⟨rfl,rfl,trivial⟩ ⟨rfl,trivial⟩ rfl fun i hi ih => ?_
 obtain ⟨hi1,hi2⟩ := hi
 refine bd [] rfl (by simp) ?_
 refine Aa rfl (fun h => ?_) (fun h => ?_)
 ·simp at h
  obtain ⟨d,hd⟩ := Ai h
  rw [C3 hd] at hi2
  refine bd [] rfl (by simp) ?_
  refine bi rfl (c := B5 d) (fun _ => ⟨by simp,by simpa using AC hd,by simp⟩) (by simp) ?_
  obtain ⟨dn,dc⟩ := d
  simp only at hi2
  refine bg [] rfl (by simp) ?_
  by_cases h7 : dc.length ≤ 7
  case neg =>
   refine Aa rfl (fun h => ?_) (fun h => by exfalso;simp at h;omega)
   refine bd [] rfl (by simp) ?_
   rw [hi2,show decide (dc.length ≤ 7) = false by simpa using h7]
   exact Ab ⟨_,rfl,tV (congrArg _ (by simp)),trivial⟩
  rw [show decide (dc.length ≤ 7) = true by simpa using h7,Bool.true_and] at hi2
  refine Aa rfl (fun h => by exfalso;simp at h;omega) (fun h => ?_)
  clear h
  refine bd [] rfl (by simp) ?_
  refine Ah (fun k : Nat => [(5,.imm (.int .i64 k)),(4,.imm (.int .i64 i)),(1,.ref 1 0)]) (fun _ => [(1,some (.immb 29 6 (dCse ⟨ds,.mk c1 c2 c3 c4,rows⟩)))]) [2] (fun k => dc.length - k)
   (fun k => k ≤ dc.length ∧ dc.all (fun k => QM k.args) = (dc.drop k).all (fun k => QM k.args)) 0 ⟨Nat.zero_le _,rfl⟩ ⟨rfl,rfl,rfl,trivial⟩ ⟨rfl,trivial⟩ rfl fun k hk jh => ?_
  obtain ⟨hk1,hk2⟩ := hk
  refine bd [] rfl (by simp) ?_
  refine bi rfl (c := B5 ⟨dn,dc⟩) (fun _ => ⟨by simp,by simpa using AC hd,by simp⟩) (by simp) ?_
  refine bg [] rfl (by simp) ?_
  refine Aa rfl (fun h => ?_) (fun h => ?_)
  ·simp at h
   obtain ⟨c,hc⟩ := Ai h
   rw [C3 hc] at hk2
   refine bd [] rfl (by simp) ?_
   refine bi rfl (c := B5 ⟨dn,dc⟩) (fun _ => ⟨by simp,by simpa using AC hd,by simp⟩) (by simp) ?_
   refine bg [] rfl (by simp) ?_
   refine bi rfl (c := Cx c) (fun _ => ⟨by simp,by simpa using AC hc,by simp⟩) (by simp) ?_
   obtain ⟨cn,ca⟩ := c
   simp only at hk2
   refine bg [] rfl (by simp) ?_
   refine Ac rfl (fun _ => Zw ca) (by simp) ?_
   refine bg [] rfl (by simp) ?_
   refine Aa rfl (fun h => ?_) (fun h => ?_)
   ·refine bd [] rfl (by simp) ?_
    refine Ab ⟨_,rfl,tV (congrArg _ ?_),trivial⟩
    simp at h
    rw [hi2,hk2,h];simp
   ·refine bd [] rfl (by simp) ?_
    simp at h
    exact Ad (jh (k + 1) (by omega) ⟨by omega,by rw [hk2,h];simp⟩) ⟨Aq (Bq (by omega) (by omega)),rfl,rfl,trivial⟩ ⟨rfl,trivial⟩ rfl
  ·simp at h
   refine Ar rfl ?_
   refine bd [] rfl (by simp) ?_
   rw [List.drop_eq_nil_of_le (by omega)] at hk2
   exact Ad (ih (i + 1) (by omega) ⟨by omega,by rw [hi2,hk2];simp⟩) ⟨Aq (Bq (by omega) (by omega)),rfl,trivial⟩ ⟨rfl,trivial⟩ rfl
 ·simp at h
  refine Ar rfl ?_
  refine bd [] rfl (by simp) ?_
  rw [hi2,List.drop_eq_nil_of_le (by omega)]
  exact Ab ⟨_,rfl,tV rfl,trivial⟩
theorem UK (v : Ty) : PureC Tryz.prog 7 [.agg (dTyc v)] (.bool (Lq v)) := by
 have hW := Km v 300 110 (by decide) (by decide) (by decide) (by decide)
 unfold Lq
 generalize Bd v 300 110 = w at *
 obtain ⟨s,n,x,ps⟩ := v
 refine Ae Ap Tryz.func7 (by decide +kernel) rfl [1,2] rfl rfl ?_
 refine bg [] rfl (by simp) ?_
 refine Ac rfl (fun _ => hW) (by simp) ?_
 refine bg [] rfl (by simp) ?_
 refine Ab ⟨_,rfl,tV (congrArg _ ?_),trivial⟩
 simp
def TS (c : Cse) (v : Ty) : Bool := HR c && Uj v && V5 c.datas c.type v
theorem Rv {c : Cse} (h : HR c = true) : OkD c.datas ∧ Bf c.datas c.type = true := by
 simp only [HR,Bool.and_eq_true] at h
 exact ⟨OkD.of h.1.1.1.1,h.1.1.2⟩
theorem Ym (c : Cse) (v : Ty) : PureC Tryz.prog 11 [.agg (dCse c),.agg (dTyc v)] (.bool (TS c v)) := by
 have hC := Y6 c
 have hV := Z3 v
 have hO := fun h => YS c.type c.rows c.datas (Rv (c := c) h).1 v c.type (Rv h).2
 unfold TS
 generalize HR c = b1 at *
 generalize Uj v = b2 at *
 generalize V5 c.datas c.type v = b3 at *
 obtain ⟨ds,⟨c1,c2,c3,c4⟩,rows⟩ := c
 obtain ⟨s,n,x,ps⟩ := v
 refine Ae Ap Tryz.func11 (by decide +kernel) rfl [1,2,3] rfl rfl ?_
 refine bg [] rfl (by simp) ?_
 refine Ac rfl (fun _ => hC) (by simp) ?_
 refine bg [] rfl (by simp) ?_
 refine Ac rfl (fun _ => hV) (by simp [Af]) ?_
 refine bg [] rfl (by simp [Af]) ?_
 refine Ac rfl (fun h => hO (by simp [Af] at h;exact h.1)) (by simp [Af]) ?_
 refine bg [] rfl (by simp [Af]) ?_
 refine Ab ⟨_,rfl,tV (congrArg _ ?_),trivial⟩
 simp
def Gp : List (Str × Ty) → List (Str × Ty) → Bool
 | [],[] => true
 | a :: r,b :: q => (a.1 == b.1) && (LK a.2 b.2 && Gp r q)
 | _,_ => false
theorem ND : ∀ (a b : List (Str × Ty)),Gp a b = true → a.length = b.length
 | [],[],_ => rfl
 | a :: r,b :: q,h => by
  simp only [Gp,Bool.and_eq_true] at h
  simp [ND r q h.2.2]
 | [],_ :: _,h => by simp [Gp] at h
 | _ :: _,[],h => by simp [Gp] at h
theorem OF (a b : List (Str × Ty)) : PureC Tryz.prog 15 [.sl (AD a),.sl (AD b)] (.bool (Gp a b)) := by
 refine Az fun hv => ?_
 have hv : a.length ≤ 9223372036854775807 := by simp [Bh,CP,maxLen] at hv;omega
 refine Ae Ap Tryz.func15 (by decide +kernel) rfl [1,2,3] rfl rfl ?_
 refine bg [] rfl (by simp) ?_
 by_cases hlen : a.length = b.length
 case neg =>
  refine Aa rfl (fun h => ?_) (fun h => by exfalso;simp at h;omega)
  refine bd [] rfl (by simp) ?_
  refine Ab ⟨_,rfl,tV (congrArg _ ?_),trivial⟩
  cases hs : Gp a b with
  | false => rfl
  | true => exact absurd (ND a b hs) hlen
 refine Aa rfl (fun h => by exfalso;simp at h;omega) (fun h => ?_)
 clear h
 refine bd [] rfl (by simp) ?_
 refine Ah (fun i : Nat => [(5,.imm (.int .i64 i)),(0,.imm (.sl (AD a))),(1,.imm (.sl (AD b)))]) (fun _ => []) [1,2,3] (fun i => a.length - i)
  (fun i => i ≤ a.length ∧ Gp a b = Gp (a.drop i) (b.drop i)) 0 ⟨Nat.zero_le _,rfl⟩ ⟨rfl,rfl,rfl,trivial⟩ trivial rfl fun i hi ih => ?_
 obtain ⟨hi1,hi2⟩ := hi
 refine bd [] rfl (by simp) ?_
 refine Aa rfl (fun h => ?_) (fun h => ?_)
 ·simp at h
  obtain ⟨x,hx⟩ := Ai h
  obtain ⟨y,hy⟩ := Ai (l := b) (i := i) (by omega)
  rw [Aj hx,Aj hy] at hi2
  simp only [Gp] at hi2
  have hxd : (AD a)[(i : Int).toNat]? = some (EK x) := by simp [AD,hx]
  have hyd : (AD b)[(i : Int).toNat]? = some (EK y) := by simp [AD,hy]
  have hS := R9 x.2 y.2
  obtain ⟨xs,xv⟩ := x
  obtain ⟨ys,yv⟩ := y
  simp only at hS hi2
  generalize LK xv yv = sv at *
  obtain ⟨x1,x2,x3,x4⟩ := xv
  obtain ⟨y1,y2,y3,y4⟩ := yv
  refine bd [] rfl (by simp) ?_
  refine bi rfl (c := EK (xs,.mk x1 x2 x3 x4)) (fun _ => ⟨by simp,hxd,by simp⟩) (by simp) ?_
  refine bg [] rfl (by simp) ?_
  refine bi rfl (c := EK (ys,.mk y1 y2 y3 y4)) (fun _ => ⟨by simp,hyd,by simp⟩) (by simp) ?_
  refine bg [] rfl (by simp) ?_
  refine bi rfl (c := EK (xs,.mk x1 x2 x3 x4)) (fun _ => ⟨by simp,hxd,by simp⟩) (by simp [Af]) ?_
  refine bg [] rfl (by simp [Af]) ?_
  refine bi rfl (c := EK (ys,.mk y1 y2 y3 y4)) (fun _ => ⟨by simp,hyd,by simp⟩) (by simp [Af]) ?_
  refine bg [] rfl (by simp [Af]) ?_
  refine Ac rfl (fun _ => hS) (by simp [Af]) ?_
  refine bg [] rfl (by simp [Af];rfl) ?_
  refine Aa rfl (fun h => ?_) (fun h => ?_)
  ·refine bd [] rfl (by simp) ?_
   refine Ab ⟨_,rfl,tV (congrArg _ ?_),trivial⟩
   rw [hi2]
   simp at h
   grind
  ·refine bd [] rfl (by simp) ?_
   simp at h
   exact Ad (ih (i + 1) (by omega) ⟨by omega,by rw [hi2];simp [h]⟩) ⟨Aq (Bq (by omega) (by omega)),rfl,rfl,trivial⟩ trivial rfl
 ·simp at h
  refine Ar rfl ?_
  refine bd [] rfl (by simp) ?_
  refine Ab ⟨_,rfl,tV (congrArg _ ?_),trivial⟩
  rw [hi2,List.drop_eq_nil_of_le (by omega),List.drop_eq_nil_of_le (by omega)];rfl
mutual
theorem K2 : ∀ t : Ty,(BC true t && C8 HJ t) = BC false t
 | .mk s n x ps => by
  have ih := I5 ps
  simp only [BC,C8,HJ]
  by_cases h9 : s = 9
  ·subst h9;simp [AY]
  ·have : AY true s n x ps.length = AY false s n x ps.length := by simp [AY,h9]
   have h : (s == 9) = false := by simpa using h9
   rw [this,h,← ih]
   cases AY false s n x ps.length <;> simp
theorem I5 : ∀ l : List Ty,(BB true l && C4 HJ l) = BB false l
 | [] => rfl
 | t :: r => by
  simp only [BB,C4,← K2 t,← I5 r]
  cases BC true t <;> cases C8 HJ t <;> cases BB true r <;> simp
end
theorem Wl (ds : List Dt) : Ez ds = EH ds := by
 have hm : Gq ⟨[109],ds,[Fc]⟩ = C6 ⟨[109],ds,[Fc]⟩ := by
  simp only [Gq,C6]
  have e1 : ds.all DR = ds.all FC := by congr 1;exact funext Xn
  have e2 : [Fc].all Jb = [Fc].all QK := by decide +kernel
  rw [e1,e2]
  simp [Dk]
 simp only [Ez,EH,hm]
 cases C6 ⟨[109],ds,[Fc]⟩ <;> cases Bc ds ds <;> simp
theorem Vv (c : Cse) : Fu c = HR c := by
 have hT : (Bb true c.type && C8 HJ c.type) = Dp c.type := by
  rw [← Je]
  simp only [Bb]
  rw [Bool.and_assoc,K2]
 have hR : c.rows.all (NF c) = c.rows.all (Wd c) := by
  congr 1;funext p;simp only [NF,Wd,Vt]
 simp only [Fu,Kf,HR,hR,Wl,← hT]
 cases EH c.datas <;> cases decide (c.rows.length ≤ 5) <;> cases Bb true c.type <;> cases Bf c.datas c.type <;> cases C8 HJ c.type <;> simp
theorem PU (s n : Int) (x : Str) (k : Nat) : Hj s n x k = Qj s n x k := by
 simp only [Hj,Qj,Dk]
 split
 ·rfl
 ·split
  ·congr 2
   by_cases h0 : n = 0
   ·simp [h0]
   ·by_cases h1 : n = 1
    ·simp [h1]
    ·have : (n == 0 || n == 1) = false := by simp [h0,h1]
     rw [this];symm;simp;omega
  ·rfl
mutual
theorem O0 : ∀ v : Ty,allV v = Id v
 | .mk s n x ps => by simp only [allV,Id,PU,MW ps];exact Bool.and_comm _ _
theorem MW : ∀ l : List Ty,O1 l = Ea l
 | [] => rfl
 | t :: r => by simp only [O1,Ea,O0 t,MW r]
end
theorem S8 (v : Ty) : Jf v = Uj v := by simp only [Jf,Uj,O0]
theorem Vz (c : Cse) (v : Ty) : D3 c v = TS c v := by simp only [D3,TS,Vv,S8]
theorem Un (c : Cse) (r : Int) : LC c r = Dk r 0 ((c.rows.length : Int) - 1) := by
 simp only [LC,Dk]
 congr 1
 simp only [decide_eq_decide]
 omega
mutual
theorem LJ : ∀ v : Ty,LK v v = true
 | .mk s n x ps => by simp [LK,BV,K6 ps]
theorem K6 : ∀ l : List Ty,Dq l l = true
 | [] => rfl
 | t :: r => by simp [Dq,LJ t,K6 r]
end
theorem LL : ∀ l : List (Str × Ty),Gp l l = true
 | [] => rfl
 | a :: r => by simp [Gp,LJ,LL r]
mutual
theorem Ix : ∀ (t : Ty) (l d : Int),0 ≤ Bd t l d → Bd t l d + Ak t ≤ l
 | .mk _ _ _ ps,l,d,h => by
  simp only [Bd] at h ⊢
  by_cases h0 : l < 1 ∨ d < 1
  ·rw [if_pos h0] at h;omega
  ·rw [if_neg h0] at h ⊢
   have := HD ps (l - 1) (d - 1) h
   simp only [Ak];omega
theorem HD : ∀ (ts : List Ty) (l d : Int),0 ≤ B4 ts l d → B4 ts l d + Ag ts ≤ l
 | [],l,d,h => by simp [B4,Ag]
 | t :: r,l,d,h => by
  simp only [B4] at h ⊢
  by_cases h0 : 0 ≤ l
  ·rw [if_pos h0] at h ⊢
   have h1 := HD r (Bd t l d) d h
   have h2 := (HV r (Bd t l d) d (Hh t l d).1)
   have h3 := Ix t l d (by omega)
   simp only [Ag];omega
  ·rw [if_neg h0] at h;omega
end
theorem Pc {v : Ty} (h : Lq v = true) : Ak v ≤ 300 := by
 have h := of_decide_eq_true h
 have := Ix v 300 110 h
 omega
set_option maxHeartbeats 1000000 in
theorem CoverMatches_of (hk : PureC Tryz.prog 8 [] (.bool true)) (c : Cse) (r : Int) (v : Ty) : PureC Tryz.prog 3 [.agg (dCse c),.int .i64 r,.agg (dTyc v)] (.bool true) := by
 have hS := Ut c
 have hL := UK v
 have hM := fun h => V2 c r v (by have := Pc (v := v) h;omega)
 have hF := V3 c v
 have hf := Ym c v
 have hRF := fun h => V4 c v (fun p hp => ⟨by have := (CD (c := c) (v := v) h p hp).2.2;omega,(CD (c := c) (v := v) h p hp).2.1⟩)
 have hRR := fun h => Z5 c r h
 have hrows := fun h => CD (c := c) (v := v) h
 have hrl := fun h => (FF (c := c) h).2.2.2.1
 have hab : D3 c v = true → Fu c = true := fun h => by simp only [D3,Bool.and_eq_true] at h;exact h.1.1
 unfold OY at hM
 rw [Un] at hM
 have hRM := fun p h1 h2 => MY p v h1 h2
 rw [← Vz] at hf
 generalize RG c = s1 at *
 generalize Lq v = s2 at *
 generalize D3 c v = b at *
 have hth : ∀ {r : Int} {n : Int},Dk r 0 (n - 1) = true → 0 ≤ r ∧ r < n := fun h => by simp [Dk] at h;omega
 generalize hN : Fs v 0 c.rows = n at *
 obtain ⟨ds,⟨c1,c2,c3,c4⟩,rows⟩ := c
 obtain ⟨s,n0,x,ps⟩ := v
 simp only at hM hRF hRR hrows hrl
 refine Ae Ap Tryz.func3 (by decide +kernel) rfl [2,3,4] rfl rfl ?_
 refine bg [] rfl (by simp) ?_
 refine Ac rfl (fun _ => hS) (by simp) ?_
 refine bg [] rfl (by simp) ?_
 refine Ac rfl (fun _ => hL) (by simp [Af]) ?_
 refine bg [] rfl (by simp [Af]) ?_
 by_cases hs : s1 = true ∧ s2 = true
 case neg =>
  refine Aa rfl (fun h => ?_) (fun h => by exfalso;apply hs;simp at h;grind)
  refine bd [] rfl (by simp) ?_
  refine Ac rfl (fun _ => hk) (by simp) ?_
  refine bg [] rfl (by simp) ?_
  exact Ab ⟨_,rfl,tV rfl,trivial⟩
 obtain ⟨rfl,rfl⟩ := hs
 have hM := hM rfl
 refine Aa rfl (fun h => by simp at h) (fun h => ?_)
 clear h
 refine bd [] rfl (by simp) ?_
 cases b with
 | false =>
  refine Ac rfl (fun _ => hM) (by simp) ?_
  refine bg [] rfl (by simp) ?_
  refine Ac rfl (fun _ => hF) (by simp) ?_
  refine bg [] rfl (by simp) ?_
  refine Ac rfl (fun _ => hf) (by simp) ?_
  refine bg [] rfl (by simp) ?_
  refine Aa rfl (fun h => ?_) (fun h => by simp at h)
  refine bd [] rfl (by simp [Af]) ?_
  refine Ac rfl (fun _ => hk) (by simp [Af]) ?_
  refine bg [] rfl (by simp [Af]) ?_
  exact Ab ⟨_,rfl,tV rfl,trivial⟩
 | true =>
 have hrl := hrl (hab rfl)
 have hRR := hRR (by omega)
 have hRF := hRF rfl
 simp only [Bool.true_and,cond_true] at hM hF
 obtain ⟨n',e',hF,hfe⟩ : ∃ n' e',PureC Tryz.prog 10 [.agg (dCse ⟨ds,.mk c1 c2 c3 c4,rows⟩),.agg (dTyc (.mk s n0 x ps))] (.tup [.int .i64 n',.int .i64 e']) ∧ ((n < 0 ∧ n' = 0 ∧ e' = 5) ∨ (0 ≤ n ∧ n' = n ∧ e' = 0)) := by
  by_cases hn : n < 0
  ·rw [show decide (n < 0) = true by simpa using hn] at hF
   exact ⟨0,5,hF,.inl ⟨hn,rfl,rfl⟩⟩
  ·rw [show decide (n < 0) = false by simpa using hn] at hF
   exact ⟨n,0,hF,.inr ⟨by omega,rfl,rfl⟩⟩
 generalize hib : Dk r 0 ((rows.length : Int) - 1) = ib at *
 cases ib with
 | false =>
  refine Ac rfl (fun _ => hM) (by simp) ?_
  refine bg [] rfl (by simp) ?_
  refine Ac rfl (fun _ => hF) (by simp) ?_
  refine bg [] rfl (by simp) ?_
  refine Ac rfl (fun _ => hf) (by simp) ?_
  refine bg [] rfl (by simp) ?_
  refine Aa rfl (fun h => by simp at h) (fun h => ?_)
  refine bd [] rfl (by simp) ?_
  refine Ac rfl (fun _ => hRF) (by simp) ?_
  refine bg [] rfl (by simp [Af];grind) ?_
  refine Aa rfl (fun h => by exfalso;simp at h;rcases hfe with ⟨q1,q2,q3⟩ | ⟨q1,q2,q3⟩ <;> subst q2 <;> subst q3 <;> simp at h <;> omega) (fun h => ?_)
  clear h
  refine bd [] rfl (by simp) ?_
  refine Ac rfl (fun _ => hRR) (by simp) ?_
  refine bg [] rfl (by simp) ?_
  refine Aa rfl (fun h => ?_) (fun h => by simp at h)
  refine bd [] rfl (by simp [Af]) ?_
  refine Ac rfl (fun _ => hk) (by simp [Af]) ?_
  refine bg [] rfl (by simp [Af]) ?_
  exact Ab ⟨_,rfl,tV rfl,trivial⟩
 | true =>
  obtain ⟨hr0,hr1⟩ := hth hib
  obtain ⟨p,hp⟩ := Ai (l := rows) (i := r.toNat) (by omega)
  obtain ⟨hpw,hpok,hp12⟩ := hrows rfl p (List.mem_of_getElem? hp)
  have hRM := hRM p (by omega) hpok
  simp only [cond_true,hp] at hM
  have hsame := OF (AJ p (.mk s n0 x ps)).1 (AJ p (.mk s n0 x ps)).1
  rw [LL] at hsame
  generalize hml : (AJ p (.mk s n0 x ps)).1 = ml at *
  generalize (AJ p (.mk s n0 x ps)).2 = mb at *
  cases mb with
  | false =>
   refine Ac rfl (fun _ => hM) (by simp) ?_
   refine bg [] rfl (by simp) ?_
   refine Ac rfl (fun _ => hF) (by simp) ?_
   refine bg [] rfl (by simp) ?_
   refine Ac rfl (fun _ => hf) (by simp) ?_
   refine bg [] rfl (by simp) ?_
   refine Aa rfl (fun h => by simp at h) (fun h => ?_)
   refine bd [] rfl (by simp) ?_
   refine Ac rfl (fun _ => hRF) (by simp) ?_
   refine bg [] rfl (by simp [Af];grind) ?_
   refine Aa rfl (fun h => by exfalso;simp at h;rcases hfe with ⟨q1,q2,q3⟩ | ⟨q1,q2,q3⟩ <;> subst q2 <;> subst q3 <;> simp at h <;> omega) (fun h => ?_)
   clear h
   refine bd [] rfl (by simp) ?_
   refine Ac rfl (fun _ => hRR) (by simp) ?_
   refine bg [] rfl (by simp) ?_
   refine Aa rfl (fun h => by simp at h) (fun h => ?_)
   refine bd [] rfl (by simp) ?_
   refine bi rfl (c := dTyc p) (fun _ => ⟨hr0,by simpa using Ao hp,by simp⟩) (by simp) ?_
   refine bg [] rfl (by simp) ?_
   refine Ac rfl (fun _ => hRM) (by simp) ?_
   refine bg [] rfl (by simp;rfl) ?_
   refine Aa rfl (fun h => ?_) (fun h => by simp at h)
   refine bd [] rfl (by simp [Af]) ?_
   refine Ac rfl (fun _ => hk) (by simp [Af]) ?_
   refine bg [] rfl (by simp [Af]) ?_
   exact Ab ⟨_,rfl,tV rfl,trivial⟩
  | true =>
   refine Ac rfl (fun _ => hM) (by simp) ?_
   refine bg [] rfl (by simp) ?_
   refine Ac rfl (fun _ => hF) (by simp) ?_
   refine bg [] rfl (by simp) ?_
   refine Ac rfl (fun _ => hf) (by simp) ?_
   refine bg [] rfl (by simp) ?_
   refine Aa rfl (fun h => by simp at h) (fun h => ?_)
   refine bd [] rfl (by simp) ?_
   refine Ac rfl (fun _ => hRF) (by simp) ?_
   refine bg [] rfl (by simp [Af];grind) ?_
   refine Aa rfl (fun h => by exfalso;simp at h;rcases hfe with ⟨q1,q2,q3⟩ | ⟨q1,q2,q3⟩ <;> subst q2 <;> subst q3 <;> simp at h <;> omega) (fun h => ?_)
   clear h
   refine bd [] rfl (by simp) ?_
   refine Ac rfl (fun _ => hRR) (by simp) ?_
   refine bg [] rfl (by simp) ?_
   refine Aa rfl (fun h => by simp at h) (fun h => ?_)
   refine bd [] rfl (by simp) ?_
   refine bi rfl (c := dTyc p) (fun _ => ⟨hr0,by simpa using Ao hp,by simp⟩) (by simp) ?_
   refine bg [] rfl (by simp) ?_
   refine Ac rfl (fun _ => hRM) (by simp) ?_
   refine bg [] rfl (by simp;rfl) ?_
   refine Aa rfl (fun h => by simp at h) (fun h => ?_)
   refine bd [] rfl (by simp [Af]) ?_
   refine Ac rfl (fun _ => hsame) (by simp [Af]) ?_
   refine bg [] rfl (by simp [Af]) ?_
   refine Ac rfl (fun _ => hk) (by simp [Af]) ?_
   refine bg [] rfl (by simp [Af]) ?_
   exact Ab ⟨_,rfl,tV rfl,trivial⟩
end Go.Hk
namespace Go.Gx
inductive G where
 | undef
 | bool (b : Bool)
 | int (k : IntKind) (n : Int)
 | str (len n : Nat)
 | nilp
 | ptr (b o : Nat)
 | nils
 | sl (b o len cap : Nat) (ex : Option Nat)
 | nilm
 | map (b : Nat)
 | nili
 | if_ (t : TypeId) (g : G)
 | nilf
 | fn (f : FuncId) (fi ca : List G)
 | yield (b : Nat)
 | agg (l : List G)
 | tup (l : List G)
def pk : List UInt8 → Nat
 | [] => 0
 | b :: r => b.toNat + 256 * pk r
theorem YF : ∀ l : List UInt8,pk l < 256 ^ l.length
 | [] => by simp [pk]
 | b :: r => by
  have := YF r
  have hb := b.toNat_lt
  simp only [pk,List.length_cons,Nat.pow_succ]
  omega
theorem RP : ∀ {a b : List UInt8},a.length = b.length → pk a = pk b → a = b
 | [],[],_,_ => rfl
 | x :: a,y :: b,hl,h => by
  have hx := x.toNat_lt
  have hy := y.toNat_lt
  simp only [pk] at h
  have h1 : x.toNat = y.toNat := by omega
  have h2 : pk a = pk b := by omega
  rw [UInt8.toNat_inj.1 h1,RP (by simpa using hl) h2]
 | [],_ :: _,hl,_ => by simp at hl
 | _ :: _,[],hl,_ => by simp at hl
theorem JH : ∀ (a b : List UInt8),pk (a ++ b) = pk a + 256 ^ a.length * pk b
 | [],b => by simp [pk]
 | x :: a,b => by
  simp only [List.cons_append,pk,JH a b,List.length_cons,Nat.pow_succ]
  rw [Nat.mul_add,Nat.mul_comm (256 ^ a.length) 256,Nat.mul_assoc]
  omega
theorem FT (l : List UInt8) (k : Nat) (h : k ≤ l.length) : pk (l.take k) = pk l % 256 ^ k ∧ pk (l.drop k) = pk l / 256 ^ k := by
 have e := JH (l.take k) (l.drop k)
 rw [List.take_append_drop,List.length_take,Nat.min_eq_left h] at e
 have hlt := YF (l.take k)
 rw [List.length_take,Nat.min_eq_left h] at hlt
 rw [e]
 constructor
 ·rw [Nat.add_mul_mod_self_left,Nat.mod_eq_of_lt hlt]
 ·rw [Nat.add_mul_div_left _ _ (Nat.pow_pos (by omega)),Nat.div_eq_of_lt hlt,Nat.zero_add]
theorem Tp (k : Nat) : 256 ^ k = 2 ^ (8 * k) := by
 rw [Nat.pow_mul]
def Is (n i : Nat) : Nat := Nat.mod (Nat.shiftRight n (Nat.mul 8 i)) 256
theorem Oy (l : List UInt8) (i : Nat) (h : i < l.length) : Is (pk l) i = (l[i]).toNat := by
 unfold Is
 have h1 := (FT l i (by omega)).2
 have e : Nat.shiftRight (pk l) (Nat.mul 8 i) = pk l / 256 ^ i := by
  rw [Tp]
  exact Nat.shiftRight_eq_div_pow _ _
 rw [e,← h1,List.drop_eq_getElem_cons h]
 have := l[i].toNat_lt
 show (_ + 256 * _) % 256 = _
 omega
abbrev S := Nat → G
def B9 (t : Nat) (s : S) : G := s t
noncomputable def H8 (t : Nat) (s : S) (v : G) : S := fun u => Bool.rec (motive := fun _ => G) (s u) v (Nat.beq u t)
def S0 : S := fun _ => .undef
theorem CJ (t u : Nat) (s : S) (v : G) : B9 t (H8 u s v) = if t = u then v else B9 t s := by
 by_cases h : t = u
 ·subst h
  rw [if_pos rfl]
  show Bool.rec (motive := fun _ => G) (s t) v (Nat.beq t t) = v
  rw [Nat.beq_refl]
 ·rw [if_neg h]
  have : Nat.beq t u = false := by
   cases hb : Nat.beq t u with
   | false => rfl
   | true => exact absurd (Nat.eq_of_beq_eq_true hb) h
  show Bool.rec (motive := fun _ => G) (s t) v (Nat.beq t u) = s t
  rw [this]
theorem Yj (t : Nat) : B9 t S0 = .undef := rfl
inductive GB where
 | dead
 | cells (l : List G)
 | map (ver : Nat) (kv : List (G × G))
 | siter (len n pos : Nat)
 | miter (m ver : Nat) (cur : Option (G × G)) (rem : List (G × G))
 | minone
 | loop (st : LoopState) (pend : Option Code) (fn : FuncId) (s : S) (n : Nat) (ps : Array Tmp) (asg body : Code) (db : Nat)
 | defd
inductive T where
 | e
 | n (v : GB) (l r : T)
noncomputable def T.get (t : T) : Nat → GB :=
 T.rec (motive := fun _ => Nat → GB) (fun _ => .dead)
  (fun v _ _ ihl ihr k => Nat.rec (motive := fun _ => GB) v (fun m _ => Nat.rec (motive := fun _ => GB) (ihl (Nat.div m 2)) (fun _ _ => ihr (Nat.div m 2)) (Nat.mod m 2)) k) t
noncomputable def T.setK {β : Type} (t : T) : Nat → GB → (T → β) → β → β :=
 T.rec (motive := fun _ => Nat → GB → (T → β) → β → β)
  (fun k x c f => Nat.rec (motive := fun _ => β) (c (.n x .e .e)) (fun _ _ => f) k)
  (fun v l r ihl ihr k x c f => Nat.rec (motive := fun _ => β) (c (.n x l r))
   (fun m _ => Nat.rec (motive := fun _ => β) (ihl (Nat.div m 2) x (fun l' => c (.n v l' r)) f) (fun _ _ => ihr (Nat.div m 2) x (fun r' => c (.n v l r')) f) (Nat.mod m 2)) k) t
noncomputable def T.set? (t : T) (k : Nat) (x : GB) : Option T := t.setK k x some none
theorem T.setK_eq {β : Type} : ∀ (t : T) (k : Nat) (x : GB) (c : T → β) (f : β),t.setK k x c f = match t.set? k x with | some t' => c t' | none => f
 | .e,0,x,c,f => rfl
 | .e,k + 1,x,c,f => rfl
 | .n v l r,0,x,c,f => rfl
 | .n v l r,k + 1,x,c,f => by
  have hl := fun c f => T.setK_eq (β := β) l (k / 2) x c f
  have hr := fun c f => T.setK_eq (β := β) r (k / 2) x c f
  have hl' := fun c f => T.setK_eq (β := Option T) l (k / 2) x c f
  have hr' := fun c f => T.setK_eq (β := Option T) r (k / 2) x c f
  have e1 : (T.n v l r).setK (k + 1) x c f = Nat.rec (motive := fun _ => β) (l.setK (k / 2) x (fun l' => c (.n v l' r)) f) (fun _ _ => r.setK (k / 2) x (fun r' => c (.n v l r')) f) (k % 2) := rfl
  have e2 : (T.n v l r).set? (k + 1) x = Nat.rec (motive := fun _ => Option T) (l.setK (k / 2) x (fun l' => some (.n v l' r)) none) (fun _ _ => r.setK (k / 2) x (fun r' => some (.n v l r')) none) (k % 2) := rfl
  rw [e1,e2]
  cases k % 2 with
  | zero =>
   show l.setK (k / 2) x (fun l' => c (.n v l' r)) f = match l.setK (k / 2) x (fun l' => some (T.n v l' r)) none with | some t' => c t' | none => f
   rw [hl,hl']
   cases l.set? (k / 2) x <;> rfl
  | succ n =>
   show r.setK (k / 2) x (fun r' => c (.n v l r')) f = match r.setK (k / 2) x (fun r' => some (T.n v l r')) none with | some t' => c t' | none => f
   rw [hr,hr']
   cases r.set? (k / 2) x <;> rfl
theorem T.get_set : ∀ {t t' : T} {k : Nat} {x : GB},t.set? k x = some t' → ∀ j,t'.get j = if j = k then x else t.get j
 | .e,t',0,x,h,j => by
  cases h
  cases j with
  | zero => rfl
  | succ j =>
   rw [if_neg (by simp)]
   show Nat.rec (motive := fun _ => GB) (T.e.get (j / 2)) (fun _ _ => T.e.get (j / 2)) (j % 2) = .dead
   cases j % 2 <;> rfl
 | .e,t',k + 1,x,h,j => by cases h
 | .n v l r,t',0,x,h,j => by
  cases h
  cases j with
  | zero => rfl
  | succ j => rw [if_neg (by simp)];rfl
 | .n v l r,t',k + 1,x,h,j => by
  have e2 : (T.n v l r).set? (k + 1) x = Nat.rec (motive := fun _ => Option T) (l.setK (k / 2) x (fun l' => some (.n v l' r)) none) (fun _ _ => r.setK (k / 2) x (fun r' => some (.n v l r')) none) (k % 2) := rfl
  rw [e2] at h
  have hj : ∀ (a b : T) (j : Nat),(T.n v a b).get (j + 1) = Nat.rec (motive := fun _ => GB) (a.get (j / 2)) (fun _ _ => b.get (j / 2)) (j % 2) := fun _ _ _ => rfl
  have hk2 : k % 2 = 0 ∨ k % 2 = 1 := by omega
  rcases hk2 with hk2 | hk2
  ·rw [hk2] at h
   have h : l.setK (k / 2) x (fun l' => some (T.n v l' r)) none = some t' := h
   rw [T.setK_eq] at h
   cases hs : l.set? (k / 2) x with
   | none => rw [hs] at h;cases h
   | some l' =>
    rw [hs] at h
    cases h
    cases j with
    | zero => simp;rfl
    | succ j =>
     rw [hj,hj]
     have hj2 : j % 2 = 0 ∨ j % 2 = 1 := by omega
     rcases hj2 with hj2 | hj2
     ·rw [hj2]
      show l'.get (j / 2) = if j + 1 = k + 1 then x else l.get (j / 2)
      rw [T.get_set hs]
      have : j / 2 = k / 2 ↔ j + 1 = k + 1 := by omega
      simp only [this]
     ·rw [hj2]
      have : j + 1 ≠ k + 1 := by omega
      simp only [this,if_false]
      rfl
  ·rw [hk2] at h
   have h : r.setK (k / 2) x (fun r' => some (T.n v l r')) none = some t' := h
   rw [T.setK_eq] at h
   cases hs : r.set? (k / 2) x with
   | none => rw [hs] at h;cases h
   | some r' =>
    rw [hs] at h
    cases h
    cases j with
    | zero => simp;rfl
    | succ j =>
     rw [hj,hj]
     have hj2 : j % 2 = 0 ∨ j % 2 = 1 := by omega
     rcases hj2 with hj2 | hj2
     ·rw [hj2]
      have : j + 1 ≠ k + 1 := by omega
      simp only [this,if_false]
      rfl
     ·rw [hj2]
      show r'.get (j / 2) = if j + 1 = k + 1 then x else r.get (j / 2)
      rw [T.get_set hs]
      have : j / 2 = k / 2 ↔ j + 1 = k + 1 := by omega
      simp only [this]
structure GH where
 size : Nat
 t : T
noncomputable def GH.get (h : GH) (b : Nat) : GB := h.t.get b
abbrev Rho := Nat → Option (Nat × Nat)
def Rho.le (ρ ρ' : Rho) : Prop := ∀ b x,ρ b = some x → ρ' b = some x
theorem Rho.le_refl (ρ : Rho) : ρ.le ρ := fun _ _ h => h
theorem Rho.le_trans {a b c : Rho} (h : a.le b) (k : b.le c) : a.le c := fun i x hx => k i x (h i x hx)
inductive RepG (ρ : Rho) : Value → G → Prop where
 | undef (v : Value) : RepG ρ v .undef
 | bool (b : Bool) : RepG ρ (.bool b) (.bool b)
 | int (k : IntKind) (n : Int) : RepG ρ (.int k n) (.int k n)
 | str (s : ByteArray) (len n : Nat) (hl : s.size = len) (hn : pk s.data.toList = n) : RepG ρ (.string s) (.str len n)
 | nilp : RepG ρ (.pointer none) .nilp
 | ptr (b r z o : Nat) (h : ρ b = some (r,z)) : RepG ρ (.pointer (some ⟨r,o,none⟩)) (.ptr b o)
 | nils : RepG ρ (.slice none 0 0) .nils
 | sl (b r z o len cap cap' : Nat) (ex : Option Nat) (h : ρ b = some (r,z)) (hl : len ≤ cap) (hc : cap ≤ cap') (hm : cap' ≤ maxLen)
   (hx : match ex with | none => cap' = cap | some sz => o + cap' * sz = z) : RepG ρ (.slice (some ⟨r,o,none⟩) len cap') (.sl b o len cap ex)
 | sl0 (a : Addr) (b o : Nat) (ex : Option Nat) : RepG ρ (.slice (some a) 0 0) (.sl b o 0 0 ex)
 | nilm : RepG ρ (.map none) .nilm
 | map (b r z : Nat) (h : ρ b = some (r,z)) : RepG ρ (.map (some r)) (.map b)
 | nili : RepG ρ .nilIface .nili
 | if_ (t : TypeId) (v : Value) (g : G) (h : RepG ρ v g) : RepG ρ (.iface t v) (.if_ t g)
 | nilf : RepG ρ .nilFunc .nilf
 | fn (f : FuncId) (first cap : Array Value) (fi ca : List G) (hf : first.size = fi.length) (hc : cap.size = ca.length)
   (h1 : ∀ (i : Nat) (v : Value) (g : G),first[i]? = some v → fi[i]? = some g → RepG ρ v g) (h2 : ∀ (i : Nat) (v : Value) (g : G),cap[i]? = some v → ca[i]? = some g → RepG ρ v g) :
   RepG ρ (.func (.func f) first cap) (.fn f fi ca)
 | yield (b l z : Nat) (h : ρ b = some (l,z)) : RepG ρ (.func (.yield l) #[] #[]) (.yield b)
 | agg (cs : Array Value) (l : List G) (hl : cs.size = l.length) (h1 : ∀ c ∈ cs.toList,c.oneCell' = true) (h : ∀ (i : Nat) (v : Value) (g : G),cs[i]? = some v → l[i]? = some g → RepG ρ v g) : RepG ρ (.agg cs) (.agg l)
 | tup (cs : Array Value) (l : List G) (hl : cs.size = l.length) (h : ∀ (i : Nat) (v : Value) (g : G),cs[i]? = some v → l[i]? = some g → RepG ρ v g) : RepG ρ (.tuple cs) (.tup l)
theorem RepG.mapρ {ρ : Rho} {v : Value} {b : Nat} (h : RepG ρ v (.map b)) : ∃ r z,ρ b = some (r,z) := by cases h with | map _ r z h => exact ⟨r,z,h⟩
theorem RepG.mono {ρ ρ' : Rho} (hρ : ρ.le ρ') {v : Value} {g : G} (h : RepG ρ v g) : RepG ρ' v g := by
 induction h with
 | undef v => exact .undef v
 | bool b => exact .bool b
 | int k n => exact .int k n
 | str s len n hl hn => exact .str s len n hl hn
 | nilp => exact .nilp
 | ptr b r z o h => exact .ptr b r z o (hρ _ _ h)
 | nils => exact .nils
 | sl b r z o len cap cap' ex h hl hc hm hx => exact .sl b r z o len cap cap' ex (hρ _ _ h) hl hc hm hx
 | sl0 a b o ex => exact .sl0 a b o ex
 | nilm => exact .nilm
 | map b r z h => exact .map b r z (hρ _ _ h)
 | nili => exact .nili
 | if_ t v g _ ih => exact .if_ t v g ih
 | nilf => exact .nilf
 | fn f first cap fi ca hf hc _ _ ih1 ih2 => exact .fn f first cap fi ca hf hc ih1 ih2
 | yield b l z h => exact .yield b l z (hρ _ _ h)
 | agg cs l hl h1 _ ih => exact .agg cs l hl h1 ih
 | tup cs l hl _ ih => exact .tup cs l hl ih
def G.one : G → Bool
 | .agg _ | .tup _ | .undef => false
 | _ => true
theorem RepG.one {ρ : Rho} {v : Value} {g : G} (h : RepG ρ v g) (hx : g.one = true) : v.oneCell' = true := by
 cases h <;> first | rfl | (simp [G.one] at hx)
def RepGs (ρ : Rho) (vs : List Value) (gs : List G) : Prop := vs.length = gs.length ∧ ∀ (i : Nat) (v : Value) (g : G),vs[i]? = some v → gs[i]? = some g → RepG ρ v g
theorem RepGs.mono {ρ ρ' : Rho} (hρ : ρ.le ρ') {vs : List Value} {gs : List G} (h : RepGs ρ vs gs) : RepGs ρ' vs gs := ⟨h.1,fun i v g a b => (h.2 i v g a b).mono hρ⟩
theorem RepGs.nil {ρ : Rho} : RepGs ρ [] [] := ⟨rfl,fun i v g h => by simp at h⟩
theorem RepGs.mk {ρ : Rho} {v : Value} {vs : List Value} {g : G} {gs : List G} (h : RepG ρ v g) (hs : RepGs ρ vs gs) : RepGs ρ (v :: vs) (g :: gs) :=
 ⟨by simp [hs.1],fun i u y h1 h2 => by
  cases i with
  | zero => simp at h1 h2;subst h1;subst h2;exact h
  | succ i => exact hs.2 i u y (by simpa using h1) (by simpa using h2)⟩
theorem RepGs.cons {ρ : Rho} {v : Value} {vs : List Value} {g : G} {gs : List G} (h : RepGs ρ (v :: vs) (g :: gs)) : RepG ρ v g ∧ RepGs ρ vs gs :=
 ⟨h.2 0 v g rfl rfl,by simpa using h.1,fun i v g h1 h2 => h.2 (i + 1) v g (by simpa using h1) (by simpa using h2)⟩
theorem RepGs.append {ρ : Rho} : ∀ {vs us : List Value} {gs ys : List G},RepGs ρ vs gs → RepGs ρ us ys → RepGs ρ (vs ++ us) (gs ++ ys)
 | [],_,[],_,_,k => k
 | [],_,_ :: _,_,h,_ => by simp [RepGs] at h
 | _ :: _,_,[],_,h,_ => by simp [RepGs] at h
 | v :: vs,us,g :: gs,ys,h,k => .mk h.cons.1 (RepGs.append h.cons.2 k)
theorem RepGs.take {ρ : Rho} {vs : List Value} {gs : List G} (h : RepGs ρ vs gs) (n : Nat) : RepGs ρ (vs.take n) (gs.take n) :=
 ⟨by simp [h.1],fun i v g a b => by
  rw [List.getElem?_take] at a b
  split at a
  ·rw [if_pos (by assumption)] at b;exact h.2 i v g a b
  ·cases a⟩
theorem RepGs.drop {ρ : Rho} {vs : List Value} {gs : List G} (h : RepGs ρ vs gs) (n : Nat) : RepGs ρ (vs.drop n) (gs.drop n) :=
 ⟨by simp [h.1],fun i v g a b => by
  rw [List.getElem?_drop] at a b;exact h.2 _ v g a b⟩
def SRep (ρ : Rho) (s : S) (tmps : Array Value) : Prop := tmps.size ≤ 256 ∧ ∀ t,RepG ρ (tmps.getD t Go.undef) (B9 t s)
theorem SRep.mono {ρ ρ' : Rho} (hρ : ρ.le ρ') {s : S} {tmps : Array Value} (h : SRep ρ s tmps) : SRep ρ' s tmps := ⟨h.1,fun t => (h.2 t).mono hρ⟩
def WC (r : Go.Loop) (st : LoopState) (pend : Option Code) (fn : FuncId) (ps : Array Tmp) (asg body : Code) : Prop :=
 r.state = st ∧ r.pending = pend ∧ r.fn = fn ∧ r.params = ps ∧ r.assign = asg ∧ r.body = body
def KvRep (ρ : Rho) (es : List MapEntry) (kv : List (G × G)) : Prop :=
 ∃ l : List MapEntry,l.Perm es ∧ l.length = kv.length ∧ ∀ (i : Nat) (e : MapEntry) (p : G × G),l[i]? = some e → kv[i]? = some p → RepG ρ e.key p.1 ∧ RepG ρ e.val p.2
def CurRep (ρ : Rho) (es : List MapEntry) (seen : Array Nat) : Option (G × G) → Prop
 | none => True
 | some p => ∃ (e : MapEntry) (s0 : Array Nat),e ∈ es ∧ seen = s0.push e.born ∧ RepG ρ e.key p.1 ∧ RepG ρ e.val p.2
def GB.isDead : GB → Bool
 | .dead => true
 | _ => false
def BRep (ρ : Rho) (h : GH) (w : World) (r z : Nat) : GB → Prop
 | .dead => True
 | .cells l => ∃ vs t,w.heap[r]? = some (.cells vs t (0,0)) ∧ vs.size = z ∧ l.length ≤ z ∧ RepGs ρ (vs.toList.take l.length) l ∧ ∀ v ∈ vs.toList.take l.length,v.oneCell' = true
 | .map _ kv => ∃ es clock,w.heap[r]? = some (.map es clock) ∧ KvRep ρ es.toList kv ∧ (kv.map (·.1)).Nodup ∧ kv.length ≤ maxLen ∧ (∀ e ∈ es.toList,e.born < clock) ∧ (es.toList.map (·.born)).Nodup
 | .siter len n pos => ∃ s : ByteArray,w.heap[r]? = some (.stringIter s pos) ∧ s.size = len ∧ pk s.data.toList = n
 | .miter m ver cur rem => ∃ rm zm since seen stepped,ρ m = some (rm,zm) ∧ w.heap[r]? = some (.mapIter (some rm) since seen stepped) ∧
   (∀ v kv,h.get m = .map v kv → ver ≤ v ∧ (v = ver → ∀ es clock,w.heap[rm]? = some (.map es clock) → since = clock ∧ stepped = clock ∧ KvRep ρ (es.toList.filter fun e => !seen.contains e.born) rem ∧ CurRep ρ es.toList seen cur))
 | .minone => ∃ a b c,w.heap[r]? = some (.mapIter none a b c)
 | .loop st pend fn s n ps asg body db => ∃ rl rd zd,w.heap[r]? = some (.loop rl) ∧ WC rl st pend fn ps asg body ∧ SRep ρ s rl.tmps ∧ rl.tmps.size = n ∧ ρ db = some (rd,zd) ∧ rl.defers = rd
 | .defd => w.heap[r]? = some (.deferred (some []))
structure Bl where
 r : Nat → Prop
 p : Nat → Prop
instance : CoeFun Bl (fun _ => Nat → Prop) := ⟨Bl.r⟩
structure HRep (B : Bl) (ρ : Rho) (h : GH) (w : World) : Prop where
 blk : ∀ b r z,(h.get b).isDead = false → ρ b = some (r,z) → BRep ρ h w r z (h.get b)
 inj : ∀ b b' r z z',(h.get b).isDead = false → (h.get b').isDead = false → ρ b = some (r,z) → ρ b' = some (r,z') → b = b'
 lo : ∀ b r z,ρ b = some (r,z) → ¬ B r ∧ r < w.heap.size
 dom : ∀ b x,ρ b = some x → b < h.size
 top : ∀ r,B r → r < w.heap.size
 pl : ∀ b x,ρ b = some x → ¬ B.p b
 pt : ∀ b,B.p b → b < h.size
structure Kept (B : Bl) (w w' : World) : Prop where
 os : w'.os = w.os
 tape : w'.tape = w.tape
 output : w'.output = w.output
 size : w.heap.size ≤ w'.heap.size
 block : ∀ b,B b → w'.heap[b]? = w.heap[b]?
theorem Kept.refl (B : Bl) (w : World) : Kept B w w := ⟨rfl,rfl,rfl,Nat.le_refl _,fun _ _ => rfl⟩
theorem Kept.trans {B : Bl} {w x y : World} (h : Kept B w x) (k : Kept B x y) : Kept B w y :=
 ⟨k.os.trans h.os,k.tape.trans h.tape,k.output.trans h.output,Nat.le_trans h.size k.size,fun b hb => (k.block b hb).trans (h.block b hb)⟩
theorem Kept.drew (B : Bl) (w : World) : Kept B w { w with drawn := w.drawn + 1 } := ⟨rfl,rfl,rfl,Nat.le_refl _,fun _ _ => rfl⟩
end Go.Gx
namespace Go.Gx
open Go.Hk (TT TTok TyI Sh lk TyOk BS)
noncomputable def S5 (l : List G) : Nat → Option G :=
 List.rec (motive := fun _ => Nat → Option G) (fun _ => none) (fun x _ ih n => Nat.rec (motive := fun _ => Option G) (some x) (fun m _ => ih m) n) l
theorem Lt : ∀ (l : List G) (n : Nat),S5 l n = l[n]?
 | [],n => by simp [S5]
 | x :: l,0 => by
  show some x = _
  simp
 | x :: l,n + 1 => by
  show S5 l n = _
  rw [Lt l n];simp
noncomputable def TM (l : List G) : Nat → Option (List G) :=
 List.rec (motive := fun _ => Nat → Option (List G)) (fun o => Nat.rec (motive := fun _ => Option (List G)) (some []) (fun _ _ => none) o)
  (fun x r ih o => Nat.rec (motive := fun _ => Option (List G)) (some (x :: r)) (fun m _ => ih m) o) l
theorem QI : ∀ (l : List G) (o : Nat),TM l o = if o ≤ l.length then some (l.drop o) else none
 | [],0 => rfl
 | [],o + 1 => by simp [TM]
 | x :: l,0 => rfl
 | x :: l,o + 1 => by
  show TM l o = _
  rw [QI l o];simp
noncomputable def QC (n : Nat) : List G → Option (List G) :=
 Nat.rec (motive := fun _ => List G → Option (List G)) (fun _ => some [])
  (fun _ ih l => List.rec (motive := fun _ => Option (List G)) none (fun x r _ => Option.rec (motive := fun _ => Option (List G)) none (fun t => some (x :: t)) (ih r)) l) n
theorem QB : ∀ (n : Nat) (l : List G),QC n l = if n ≤ l.length then some (l.take n) else none
 | 0,l => by
  show some [] = _
  simp
 | n + 1,[] => by simp [QC]
 | n + 1,x :: l => by
  show Option.rec (motive := fun _ => Option (List G)) none (fun t => some (x :: t)) (QC n l) = _
  rw [QB n l]
  by_cases h : n ≤ l.length <;> simp [h]
noncomputable def QD (l : List G) (o n : Nat) : Option (List G) := Option.rec (motive := fun _ => Option (List G)) none (QC n) (TM l o)
theorem Ls {l r : List G} {o n : Nat} (h : QD l o n = some r) : r = (l.drop o).take n ∧ o + n ≤ l.length := by
 unfold QD at h
 rw [QI] at h
 by_cases ho : o ≤ l.length
 ·rw [if_pos ho] at h
  have h : QC n (l.drop o) = some r := h
  rw [QB] at h
  split at h
  ·rename_i hn
   cases h
   simp at hn
   exact ⟨rfl,by omega⟩
  ·cases h
 ·rw [if_neg ho] at h;cases h
noncomputable def KJ (ys : List G) : List G → Option (List G) :=
 List.rec (motive := fun _ => List G → Option (List G)) (fun l => some l)
  (fun y _ ih l => List.rec (motive := fun _ => Option (List G)) none (fun _ r _ => Option.rec (motive := fun _ => Option (List G)) none (fun t => some (y :: t)) (ih r)) l) ys
noncomputable def Ed (l : List G) : Nat → List G → Option (List G) :=
 List.rec (motive := fun _ => Nat → List G → Option (List G)) (fun o ys => Nat.rec (motive := fun _ => Option (List G)) (KJ ys []) (fun _ _ => none) o)
  (fun x r ih o ys => Nat.rec (motive := fun _ => Option (List G)) (KJ ys (x :: r)) (fun m _ => Option.rec (motive := fun _ => Option (List G)) none (fun t => some (x :: t)) (ih m ys)) o) l
theorem M4 : ∀ (ys l : List G),KJ ys l = if ys.length ≤ l.length then some (ys ++ l.drop ys.length) else none
 | [],l => by simp [KJ]
 | y :: ys,[] => by simp [KJ]
 | y :: ys,x :: l => by
  show Option.rec (motive := fun _ => Option (List G)) none (fun t => some (y :: t)) (KJ ys l) = _
  rw [M4 ys l]
  by_cases h : ys.length ≤ l.length <;> simp [h]
theorem Ij : ∀ {l : List G} {o : Nat} {ys r : List G},Ed l o ys = some r → r = l.take o ++ ys ++ l.drop (o + ys.length) ∧ o + ys.length ≤ l.length
 | [],0,ys,r,h => by
  have h : KJ ys [] = some r := h
  rw [M4] at h
  split at h
  ·rename_i hl;cases h;simp at hl;subst hl;simp
  ·cases h
 | [],o + 1,ys,r,h => by cases h
 | x :: l,0,ys,r,h => by
  have h : KJ ys (x :: l) = some r := h
  rw [M4] at h
  split at h
  ·rename_i hl;cases h;simp;simpa using hl
  ·cases h
 | x :: l,o + 1,ys,r,h => by
  have h : Option.rec (motive := fun _ => Option (List G)) none (fun t => some (x :: t)) (Ed l o ys) = some r := h
  cases hs : Ed l o ys with
  | none => rw [hs] at h;cases h
  | some t =>
   rw [hs] at h;cases h
   obtain ⟨h1,h2⟩ := Ij hs
   refine ⟨?_,by simp;omega⟩
   rw [h1,show o + 1 + ys.length = (o + ys.length) + 1 by omega]
   simp
def ofValue : Value → Option G
 | .bool b => some (.bool b)
 | .int k n => some (.int k n)
 | .string s => some (.str s.size (pk s.data.toList))
 | .pointer none => some .nilp
 | .slice none 0 0 => some .nils
 | .map none => some .nilm
 | .nilFunc => some .nilf
 | .nilIface => some .nili
 | _ => none
def AN (x : Operand) (s : S) : G := match x with
 | .tmp t => B9 t s
 | .const v => match ofValue v with
  | some g => g
  | none => .undef
 | .func f => .fn f [] []
 | .global _ => .undef
theorem Qg {ρ : Rho} {v : Value} {g : G} (h : ofValue v = some g) : RepG ρ v g := by
 unfold ofValue at h
 split at h <;> first
  | (cases h;exact .bool _)
  | (cases h;exact .int _ _)
  | (cases h;exact .str _ _ _ rfl rfl)
  | (cases h;exact .nilp)
  | (cases h;exact .nils)
  | (cases h;exact .nilm)
  | (cases h;exact .nilf)
  | (cases h;exact .nili)
  | cases h
theorem Av {ρ : Rho} {s : S} {a : Act} (h : SRep ρ s a.tmps) (x : Operand) : RepG ρ (a.eval x) (AN x s) := by
 cases x with
 | tmp t =>
  exact h.2 t
 | const v =>
  show RepG ρ v (match ofValue v with | some g => g | none => .undef)
  cases hv : ofValue v with
  | none => exact .undef _
  | some g => exact Qg hv
 | func f => exact .fn f #[] #[] [] [] rfl rfl (fun i v g h => by simp at h) (fun i v g h => by simp at h)
 | global g => exact .undef _
theorem WM {tmps : Array Value} {d t : Nat} {v : Value} : (tmps.setIfInBounds d v).getD t Go.undef = if d = t ∧ d < tmps.size then v else tmps.getD t Go.undef := by
 simp only [Array.getD_eq_getD_getElem?]
 by_cases h : d = t
 ·subst h
  by_cases hd : d < tmps.size
  ·simp [hd]
  ·simp [hd]
 ·rw [Array.getElem?_setIfInBounds_ne h,if_neg (fun hh => h hh.1)]
theorem SRep.set {ρ : Rho} {s : S} {tmps : Array Value} (h : SRep ρ s tmps) {d : Nat} {v : Value} {g : G} (hd : d < tmps.size) (hv : RepG ρ v g) : SRep ρ (H8 d s g) (tmps.setIfInBounds d v) := by
 refine ⟨by simpa using h.1,fun t => ?_⟩
 rw [WM,CJ t d s g]
 by_cases hdt : d = t
 ·subst hdt;simpa [hd] using hv
 ·rw [if_neg (fun hh => hdt hh.1),if_neg (fun hh => hdt hh.symm)]
  exact h.2 t
theorem SRep.put {ρ : Rho} {s : S} {a : Act} (h : SRep ρ s a.tmps) {d : Nat} {v : Value} {g : G} (hd : d < a.tmps.size) (hv : RepG ρ v g) : SRep ρ (H8 d s g) (a.put (some d) v).tmps := h.set hd hv
theorem KvRep.mono {ρ ρ' : Rho} (hρ : ρ.le ρ') {es : List MapEntry} {kv : List (G × G)} (h : KvRep ρ es kv) : KvRep ρ' es kv := by
 obtain ⟨l,h1,h2,h3⟩ := h
 exact ⟨l,h1,h2,fun i e p a b => ⟨(h3 i e p a b).1.mono hρ,(h3 i e p a b).2.mono hρ⟩⟩
theorem CurRep.mono {ρ ρ' : Rho} (hρ : ρ.le ρ') {es : List MapEntry} {seen : Array Nat} {cur : Option (G × G)} (h : CurRep ρ es seen cur) : CurRep ρ' es seen cur := by
 cases cur with
 | none => trivial
 | some p =>
  obtain ⟨e,s0,h1,h2,h3,h4⟩ := h
  exact ⟨e,s0,h1,h2,h3.mono hρ,h4.mono hρ⟩
theorem BRep.frame {ρ ρ' : Rho} {h h' : GH} {w w' : World} {r z : Nat} {g : GB} (hr : BRep ρ h w r z g) (hρ : ρ.le ρ') (hw : w'.heap[r]? = w.heap[r]?)
  (hm : ∀ m ver cur rem v kv rm zm,g = .miter m ver cur rem → ρ m = some (rm,zm) → h'.get m = .map v kv → (∃ kv0,h.get m = .map v kv0 ∧ w'.heap[rm]? = w.heap[rm]?) ∨ (∃ v0 kv0,h.get m = .map v0 kv0 ∧ v0 < v)) : BRep ρ' h' w' r z g := by
 cases g with
 | dead => trivial
 | cells l => obtain ⟨vs,t,h1,h2,h3,h4,h5⟩ := hr;exact ⟨vs,t,hw.trans h1,h2,h3,h4.mono hρ,h5⟩
 | map ver kv => obtain ⟨es,clock,h1,h2,h3⟩ := hr;exact ⟨es,clock,hw.trans h1,h2.mono hρ,h3⟩
 | siter len n pos => obtain ⟨s,h1,h2⟩ := hr;exact ⟨s,hw.trans h1,h2⟩
 | miter m ver cur rem =>
  obtain ⟨rm,zm,since,seen,stepped,h1,h2,h3⟩ := hr
  refine ⟨rm,zm,since,seen,stepped,hρ _ _ h1,hw.trans h2,fun v kv hk => ?_⟩
  rcases hm m ver cur rem v kv rm zm rfl h1 hk with ⟨kv0,q1,q2⟩ | ⟨v0,kv0,q1,q2⟩
  ·obtain ⟨q3,q4⟩ := h3 v kv0 q1
   refine ⟨q3,fun e es clock he => ?_⟩
   obtain ⟨q5,q6,q7,q8⟩ := q4 e es clock (by rw [← q2];exact he)
   exact ⟨q5,q6,q7.mono hρ,q8.mono hρ⟩
  ·obtain ⟨q3,_⟩ := h3 v0 kv0 q1
   exact ⟨by omega,fun e => by omega⟩
 | minone => obtain ⟨a,b,c,h1⟩ := hr;exact ⟨a,b,c,hw.trans h1⟩
 | loop st pend fn s n ps asg body db =>
  obtain ⟨rl,rd,zd,h1,h2,h3,h4,h5,h6⟩ := hr
  exact ⟨rl,rd,zd,hw.trans h1,h2,h3.mono hρ,h4,hρ _ _ h5,h6⟩
 | defd => exact hw.trans hr
section
variable {B : Bl} {ρ : Rho} {h h' : GH} {w : World}
theorem HRep.atρ (hr : HRep B ρ h w) {b r z : Nat} {g : GB} (hg : h.get b = g) (hd : g.isDead = false) (hρ : ρ b = some (r,z)) : BRep ρ h w r z g := by
 subst hg;exact hr.blk b r z hd hρ
noncomputable def GH.set? (h : GH) (b : Nat) (x : GB) : Option GH := match h.t.set? b x with
 | some t => some ⟨h.size,t⟩
 | none => none
theorem GH.get_set {x : GB} {b : Nat} (hs : h.set? b x = some h') : h'.size = h.size ∧ ∀ j,h'.get j = if j = b then x else h.get j := by
 unfold GH.set? at hs
 split at hs
 ·rename_i t ht
  cases hs
  exact ⟨rfl,T.get_set ht⟩
 ·cases hs
theorem HRep.write (hr : HRep B ρ h w) {b r z : Nat} {x : GB} {o : Obj} (hs : h.set? b x = some h') (hlive : (h.get b).isDead = false) (hρ : ρ b = some (r,z))
  (hx : BRep ρ h' { w with heap := w.heap.setIfInBounds r o } r z x) (hver : ∀ v kv,x = .map v kv → ∃ v0 kv0,h.get b = .map v0 kv0 ∧ v0 < v) :
  HRep B ρ h' { w with heap := w.heap.setIfInBounds r o } := by
 obtain ⟨hsz,hget⟩ := GH.get_set hs
 have hrlt := (hr.lo b r z hρ).2
 refine { blk := fun j rj zj hj hρj => ?_,inj := fun i j ri zi zj hi hj hρi hρj => ?_,lo := fun j r' z' hj => by simpa using hr.lo j r' z' hj,dom := fun j x hj => by rw [hsz];exact hr.dom j x hj,top := fun r hb => by simpa using hr.top r hb,pl := hr.pl,pt := fun b hb => by rw [hsz];exact hr.pt b hb }
 ·rw [hget] at hj ⊢
  by_cases hjb : j = b
  ·subst hjb
   rw [if_pos rfl]
   rw [hρ] at hρj;cases hρj
   exact hx
  ·rw [if_neg hjb] at hj ⊢
   have h2 := hr.blk j rj zj hj hρj
   have hne : rj ≠ r := fun e => by subst e;exact hjb (hr.inj j b rj zj z hj hlive hρj hρ)
   refine h2.frame (Rho.le_refl ρ) (by simp [Array.getElem?_setIfInBounds_ne (Ne.symm hne)]) ?_
   intro m ver cur rem v kv rm zm hg hm hk
   rw [hget] at hk
   by_cases hmb : m = b
   ·subst hmb
    rw [if_pos rfl] at hk
    exact .inr (hver v kv hk)
   ·rw [if_neg hmb] at hk
    have hmlive : (h.get m).isDead = false := by rw [hk];rfl
    have hne2 : rm ≠ r := fun e => by subst e;exact hmb (hr.inj m b rm zm z hmlive hlive hm hρ)
    exact .inl ⟨kv,hk,by simp [Array.getElem?_setIfInBounds_ne (Ne.symm hne2)]⟩
 ·rw [hget] at hi hj
  have hi' : (h.get i).isDead = false := by
   by_cases e : i = b
   ·rw [e];exact hlive
   ·rwa [if_neg e] at hi
  have hj' : (h.get j).isDead = false := by
   by_cases e : j = b
   ·rw [e];exact hlive
   ·rwa [if_neg e] at hj
  exact hr.inj i j ri zi zj hi' hj' hρi hρj
theorem HRep.write1 (hr : HRep B ρ h w) {b r z : Nat} {x : GB} {o : Obj} (hs : h.set? b x = some h') (hlive : (h.get b).isDead = false) (hρ : ρ b = some (r,z))
  (hx : BRep ρ h' { w with heap := w.heap.setIfInBounds r o } r z x) (hn : ∀ ver kv,x ≠ .map ver kv) : HRep B ρ h' { w with heap := w.heap.setIfInBounds r o } :=
 hr.write hs hlive hρ hx (fun v kv hx => absurd hx (hn v kv))
theorem Kept.write {r : Nat} {o : Obj} (hr : ¬ B r) : Kept B w { w with heap := w.heap.setIfInBounds r o } :=
 ⟨rfl,rfl,rfl,by simp,fun b hb => by simp [Array.getElem?_setIfInBounds_ne (show r ≠ b from fun e => hr (e ▸ hb))]⟩
noncomputable def GH.push? (h : GH) (x : GB) : Option GH := match h.t.set? h.size x with
 | some t => some ⟨h.size + 1,t⟩
 | none => none
theorem GH.get_push {x : GB} (hs : h.push? x = some h') : h'.size = h.size + 1 ∧ ∀ j,h'.get j = if j = h.size then x else h.get j := by
 unfold GH.push? at hs
 split at hs
 ·rename_i t ht
  cases hs
  exact ⟨rfl,T.get_set ht⟩
 ·cases hs
def Rho.add (ρ : Rho) (b : Nat) (x : Nat × Nat) : Rho := fun i => if i = b then some x else ρ i
theorem HRep.fresh (hr : HRep B ρ h w) : ρ h.size = none := by
 cases hx : ρ h.size with
 | none => rfl
 | some x => have := hr.dom _ _ hx;omega
theorem HRep.le_add (hr : HRep B ρ h w) (x : Nat × Nat) : ρ.le (ρ.add h.size x) := by
 intro i y hy
 unfold Rho.add
 rw [if_neg (fun e => by rw [e,hr.fresh] at hy;cases hy)]
 exact hy
theorem HRep.push (hr : HRep B ρ h w) {x : GB} {o : Obj} {z : Nat} (hs : h.push? x = some h')
  (hx : BRep (ρ.add h.size (w.heap.size,z)) h' { w with heap := w.heap.push o } w.heap.size z x) :
  HRep B (ρ.add h.size (w.heap.size,z)) h' { w with heap := w.heap.push o } := by
 obtain ⟨hsz,hget⟩ := GH.get_push hs
 have hle := hr.le_add (w.heap.size,z)
 have hold : ∀ j r' z',j ≠ h.size → ρ.add h.size (w.heap.size,z) j = some (r',z') → ρ j = some (r',z') := fun j r' z' hj hh => by
  unfold Rho.add at hh;rwa [if_neg hj] at hh
 refine { blk := fun j rj zj hj hρj => ?_,inj := fun i j ri zi zj hi hj hρi hρj => ?_,lo := fun j r' z' hj => ?_,dom := fun j x hj => ?_,top := fun r hb => by have := hr.top r hb;simp;omega,pl := fun j x hj => ?_,pt := fun b hb => by have := hr.pt b hb;omega }
 ·rw [hget] at hj ⊢
  by_cases hjb : j = h.size
  ·subst hjb
   rw [if_pos rfl]
   unfold Rho.add at hρj;rw [if_pos rfl] at hρj;cases hρj
   exact hx
  ·rw [if_neg hjb] at hj ⊢
   have h1 := hold _ _ _ hjb hρj
   have h2 := hr.blk j rj zj hj h1
   have hlt := (hr.lo _ _ _ h1).2
   refine h2.frame hle (by simp [Array.getElem?_push,Nat.ne_of_lt hlt]) ?_
   intro m ver cur rem v kv rm zm hg hm hk
   rw [hget] at hk
   have hmne : m ≠ h.size := fun e => by rw [e,hr.fresh] at hm;cases hm
   rw [if_neg hmne] at hk
   have hlt2 := (hr.lo _ _ _ hm).2
   exact .inl ⟨kv,hk,by simp [Array.getElem?_push,Nat.ne_of_lt hlt2]⟩
 ·rw [hget] at hi hj
  by_cases hie : i = h.size
  ·by_cases hje : j = h.size
   ·rw [hie,hje]
   ·have := (hr.lo _ _ _ (hold _ _ _ hje hρj)).2
    unfold Rho.add at hρi;rw [if_pos hie] at hρi;cases hρi;omega
  ·by_cases hje : j = h.size
   ·have := (hr.lo _ _ _ (hold _ _ _ hie hρi)).2
    unfold Rho.add at hρj;rw [if_pos hje] at hρj;cases hρj;omega
   ·rw [if_neg hie] at hi;rw [if_neg hje] at hj
    exact hr.inj i j ri zi zj hi hj (hold _ _ _ hie hρi) (hold _ _ _ hje hρj)
 ·by_cases hje : j = h.size
  ·unfold Rho.add at hj;rw [if_pos hje] at hj;cases hj
   exact ⟨fun hb => absurd (hr.top _ hb) (Nat.lt_irrefl _),by simp⟩
  ·have := hr.lo _ _ _ (hold _ _ _ hje hj)
   exact ⟨this.1,by simp;omega⟩
 ·by_cases hje : j = h.size
  ·omega
  ·cases hx : x with
   | mk r' z' => rw [hx] at hj;have := hr.dom _ _ (hold _ _ _ hje hj);omega
 ·by_cases hje : j = h.size
  ·exact fun hb => absurd (hr.pt _ hb) (by omega)
  ·cases hx : x with
   | mk r' z' => rw [hx] at hj;exact hr.pl _ _ (hold _ _ _ hje hj)
theorem Kept.push {o : Obj} (hB : ∀ r,B r → r < w.heap.size) : Kept B w { w with heap := w.heap.push o } :=
 ⟨rfl,rfl,rfl,by simp,fun b hb => by
  have : b ≠ w.heap.size := Nat.ne_of_lt (hB b hb)
  simp [Array.getElem?_push,this]⟩
theorem HRep.drew (hr : HRep B ρ h w) : HRep B ρ h { w with drawn := w.drawn + 1 } :=
 {blk := fun b r z hb h1 => (hr.blk b r z hb h1).frame (Rho.le_refl ρ) rfl fun _ _ _ _ _ kv _ _ _ _ hk => .inl ⟨kv,hk,rfl⟩,
  inj := hr.inj,lo := hr.lo,dom := hr.dom,top := hr.top,pl := hr.pl,pt := hr.pt }
end
end Go.Gx
