/- Operations under a guard whose operands stand under guards. (And what it stands on.) -/
import Derived.Test.YtegabgaflilabaaGreatVc
import Derived.Laws.MakeOwn
import Derived.Test.YtegabgaflilabaaGreatVb
set_option linter.unusedSimpArgs false
set_option linter.unusedVariables false

set_option maxRecDepth 100000
set_option maxHeartbeats 4000000
namespace Go.Hk
open Go.Proofs
mutual
def Jj:Tm->Bool
 | .mk op n x ks ps=>Tp op n x ks.length ps&&Ht ks
def Ht:List Tm->Bool
 | []=>true
 | t::r=>Jj t&&Ht r
end
theorem L6:∀(t:Tm),Jj t=true->Bt Tryz.prog 206 [.imm (.agg (CL t))] [] (.ret HF [])
 | .mk op n x ks ps,hy=>by
  refine E9 0 rfl λhok=>?_;have hv:ks.length<=9223372036854775807:=by
   simp [Ct,ET,CL,maxLen] at hok;have:=hok.1;omega
  simp only [Jj,Bool.and_eq_true_iff] at hy;refine Ae Hc Tryz.func206 (by decide +kernel) rfl [1,2,3] rfl rfl ?_;refine Ew rfl ?_;refine AC (fr:=[]) [] [] rfl (by simp) (SG op n x ks ps hy.1) trivial rfl rfl rfl rfl ?_;refine Ew rfl ?_;refine An (λi:Nat=>[(9,.imm (.int .i64 i)),(8,.imm (.int .i64 ks.length)),(7,.imm (.sl (LS ks))),(1,.ref 1 0)]) (λ_=>[(1,some (.immb 165 5 (CL (.mk op n x ks ps))))]) [2,3] (λi=>ks.length-i)
   (λi=>i<=ks.length/\Ht (ks.drop i)=true) 0 ⟨Nat.zero_le _,hy.2⟩ ⟨rfl,A0 (by simp),rfl,rfl,trivial⟩ ⟨rfl,trivial⟩ rfl λi hi ih=>?_
  refine Pj rfl ?_;have hi2:=hi.2;refine Ab rfl (λh=>?_) (λh=>?_)
  ·simp at h;obtain ⟨t,ht⟩:=As h;rw [Av ht] at hi2;simp only [Ht,Bool.and_eq_true_iff] at hi2;refine Pj rfl ?_;refine si rfl (c:=CL t) (λ_=>⟨by simp,by simpa using IM ht,by simp⟩) (by simp) ?_;refine Ew rfl ?_
   ·refine AC (fr:=[]) [] [] rfl (by simp) (L6 t hi2.1) trivial rfl rfl rfl rfl ?_;refine Ew rfl ?_;exact Ad (ih (i+1) (by omega) ⟨by omega,hi2.2⟩) ⟨A0 (B2 (by omega) (by omega)),rfl,rfl,rfl,trivial⟩ ⟨rfl,trivial⟩ rfl
  ·refine Pj rfl ?_;exact C7 ⟨_,rfl,rfl,trivial⟩
termination_by t=>SizeOf.sizeOf t
decreasing_by
 all_goals
  have:=List.sizeOf_lt_of_mem (List.mem_of_getElem? ht);simp_wf;omega
theorem SF:∀(t:Tm),Jj t=false->Bt Tryz.prog 206 [.imm (.agg (CL t))] [] (.pan F5)
 | .mk op n x ks ps,hy=>by
  refine E9 0 rfl λhok=>?_;have hv:ks.length<=9223372036854775807:=by
   simp [Ct,ET,CL,maxLen] at hok;have:=hok.1;omega
  simp only [Jj,Bool.and_eq_false_iff] at hy;refine Ae Hc Tryz.func206 (by decide +kernel) rfl [1,2,3] rfl rfl ?_;refine Ew rfl ?_;by_cases hn:Tp op n x ks.length ps=true
  rotate_left
  ·exact AD [] rfl (by simp) (fR op n x ks ps (by simpa using hn)) trivial rfl rfl
  rw [hn] at hy;simp only [Bool.true_eq_false,false_or] at hy;refine AC (fr:=[]) [] [] rfl (by simp) (SG op n x ks ps hn) trivial rfl rfl rfl rfl ?_;refine Ew rfl ?_;refine An (λi:Nat=>[(9,.imm (.int .i64 i)),(8,.imm (.int .i64 ks.length)),(7,.imm (.sl (LS ks))),(1,.ref 1 0)]) (λ_=>[(1,some (.immb 165 5 (CL (.mk op n x ks ps))))]) [2,3] (λi=>ks.length-i)
   (λi=>i<=ks.length/\Ht (ks.drop i)=false) 0 ⟨Nat.zero_le _,hy⟩ ⟨rfl,A0 (by simp),rfl,rfl,trivial⟩ ⟨rfl,trivial⟩ rfl λi hi ih=>?_
  refine Pj rfl ?_;have hi2:=hi.2;refine Ab rfl (λh=>?_) (λh=>?_)
  ·simp at h;obtain ⟨t,ht⟩:=As h;rw [Av ht] at hi2;simp only [Ht,Bool.and_eq_false_iff] at hi2;refine Pj rfl ?_;refine si rfl (c:=CL t) (λ_=>⟨by simp,by simpa using IM ht,by simp⟩) (by simp) ?_;refine Ew rfl ?_;by_cases hz:Jj t=true
   ·refine AC (fr:=[]) [] [] rfl (by simp) (L6 t hz) trivial rfl rfl rfl rfl ?_;refine Ew rfl ?_;exact Ad (ih (i+1) (by omega) ⟨by omega,by rw [hz] at hi2;simpa using hi2⟩) ⟨A0 (B2 (by omega) (by omega)),rfl,rfl,rfl,trivial⟩ ⟨rfl,trivial⟩ rfl
   ·exact AD [] rfl (by simp) (SF t (by simpa using hz)) trivial rfl rfl
  ·exfalso;simp at h;rw [List.drop_eq_nil_of_le (by omega)] at hi2;simp [Ht] at hi2
termination_by t=>SizeOf.sizeOf t
decreasing_by
 all_goals
  have:=List.sizeOf_lt_of_mem (List.mem_of_getElem? ht);simp_wf;omega
def LU (t:Tm):Bool:=decide (0<=BK t 60 14)&&Jj t
theorem YN (t:Tm) (h:LU t=true):Bt Tryz.prog 204 [.ref 1 0] [(1,some (.immb 165 5 (CL t)))] (.ret HF [(1,some (.immb 165 5 (CL t)))]):=by
 simp only [LU,Bool.and_eq_true,decide_eq_true_eq] at h;refine Ae Hc Tryz.func204 (by decide +kernel) rfl [2,3,4] rfl rfl ?_;refine Ew rfl ?_;refine AC (fr:=[]) [(2,1)] [] rfl (by simp) (KV t 60 14 1 (by decide) (by decide) (by decide) (by decide) (by decide) (by decide) h.1) ⟨⟨rfl,rfl,rfl⟩,trivial⟩ rfl rfl rfl rfl ?_;refine Ew rfl ?_;refine AC (fr:=[]) [] [] rfl (by simp) (L6 t h.2) trivial rfl rfl rfl rfl ?_;refine Ew rfl ?_;exact C7 ⟨_,rfl,rfl,⟨rfl,trivial⟩⟩
theorem eD (t:Tm) (h:LU t=false):Bt Tryz.prog 204 [.ref 1 0] [(1,some (.immb 165 5 (CL t)))] (.pan F5):=by
 refine Ae Hc Tryz.func204 (by decide +kernel) rfl [2,3,4] rfl rfl ?_;refine Ew rfl ?_;by_cases h1:0<=BK t 60 14
 ·refine AC (fr:=[]) [(2,1)] [] rfl (by simp) (KV t 60 14 1 (by decide) (by decide) (by decide) (by decide) (by decide) (by decide) h1) ⟨⟨rfl,rfl,rfl⟩,trivial⟩ rfl rfl rfl rfl ?_;refine Ew rfl ?_;exact AD [] rfl (by simp) (SF t (by simpa [LU,h1] using h)) trivial rfl rfl
 ·exact AD [(2,1)] rfl (by simp) (Wv t 60 14 1 (by decide) (by decide) (by decide) (by decide) (by decide) (by decide) (by show BK t 60 14<0;omega)) ⟨⟨rfl,rfl,rfl⟩,trivial⟩ rfl rfl
theorem lK (t:Tm):Al Tryz.prog 193 [.agg (CL t)] (Kz (LU t)):=by
 refine Ae Hc Tryz.func193 (by decide +kernel) rfl [1,2,3] rfl rfl ?_;refine Ew rfl ?_;cases h:LU t with
 | true =>
  refine AC (fr:=[]) [(1,1)] [] rfl (by simp) (MZ Tryz.func204 (by decide +kernel) rfl (YN t h)) ⟨⟨rfl,rfl,rfl⟩,trivial⟩ rfl rfl rfl rfl ?_;refine Ew rfl ?_;exact Aa rfl rfl rfl
 | false =>
  refine AC (fr:=[]) [(1,1)] [] rfl (by simp) (Pa Tryz.func204 (by decide +kernel) rfl (eD t h)) ⟨⟨rfl,rfl,rfl⟩,trivial⟩ rfl rfl rfl rfl ?_;refine Ew rfl ?_;exact Aa rfl rfl rfl
def lN:TT:=fI++[
 (248,⟨.iface,false,1,16,[.imm .niliface]⟩),
 (241,⟨.sl 248,false,1,24,[.nils]⟩),
 (243,⟨.struct [(0,72)],true,2,40,[.imm (.str []),.nils]⟩),
 (245,⟨.struct [(0,167)],true,15,224,[.imm (.str []),.imm (.str []),.imm (.int .i64 0),.imm (.int .i64 0),.imm (.str []),.nils,.imm (.int .i64 0),.imm (.int .i64 0),.imm (.str []),.nils,.imm (.int .i64 0),.imm (.int .i64 0),.imm (.str []),.nils,.nils]⟩),
 (99,⟨.func,false,1,8,[.imm .nilfn]⟩),
 (264,⟨.func,false,1,8,[.imm .nilfn]⟩),
 (249,⟨.func,false,1,8,[.imm .nilfn]⟩)]
theorem Cu:TTok Tryz.prog lN:=.of_eq (l:=[4,3,9,165,26,69,162,27,5,24,23,172,163,67,167,171,75,22,169,72,70,37,267,213,1,216,280,248,241,243,245,99,264,249]) (by kernel_rfl)
section
variable {n:Nat} {F:List Nat} {Q:DQ} {env env':Env} {st st':St} {ids ids':List Nat} {k todo:List DI} {ob:List Prop}
theorem ad (path:List Pt) (h:run lN n 300 path todo env st ids [] = .at k env' st' ids' ob) (hob:AA ob) (hd:G Tryz.prog n F Q k env' st' ids'):DGo Tryz.prog n F Q todo env st ids:=Lx Cu EQ 300 path h hob hd
theorem DN (h:run lN n 300 [] todo env st ids [] = .at k env' st' ids' ob) (hd:G Tryz.prog n F Q k env' st' ids') (hob:AA ob:=by simp):DGo Tryz.prog n F Q todo env st ids:=ad [] h hob hd
theorem adqc (h:run lN n 300 [] todo env st ids [] = .at k env' st' ids' ob) (hd:G Tryz.prog n F Q k env' st' ids') (hob:AA ob:=by simp [Ap]):DGo Tryz.prog n F Q todo env st ids:=ad [] h hob hd
theorem ag (path:List Pt) (h:run lN n 300 path todo env st ids [] = .at k env' st' ids' ob) (hob:AA ob) (hd:G Tryz.prog n F Q k env' st' ids'):G Tryz.prog n F Q todo env st ids:=Ky Cu EQ 300 path h hob hd
theorem DM (h:run lN n 300 [] todo env st ids [] = .at k env' st' ids' ob) (hd:G Tryz.prog n F Q k env' st' ids') (hob:AA ob:=by simp):G Tryz.prog n F Q todo env st ids:=ag [] h hob hd
theorem Su (h:run lN n 300 [] todo env st ids [] = .at k env' st' ids' ob) (hd:G Tryz.prog n F Q k env' st' ids') (hob:AA ob:=by simp [Ap]):G Tryz.prog n F Q todo env st ids:=ag [] h hob hd
theorem ai {es:List (List V)} {m:Int} {sz:Nat} {e:TypeId} {g:Option (Bool×Bool)} {ob:List Prop} {t:Nat} {todo':List DI} {c:List V} (h:Pm lN n env todo=some ⟨es,m,sz,e,g,ob,some t,todo'⟩)
  (hc:Ap g->0<=m/\es[m.toNat]?=some c/\c.length=sz) (hob:AA ob) (hk:G Tryz.prog n F Q todo' ((t,gD g (.ip e c 0))::env) st ids):G Tryz.prog n F Q todo env st ids:=Ge Cu h hc hob hk
end
def EX {α:Type} (q:α->Bool):List α->Nat->Int
 | [],_=>-1
 | e::r,i=>if q e then (i:Int) else EX q r (i+1)
theorem IF {α:Type} (q:α->Bool):∀(es:List α) (i:Nat),0<=EX q es i↔es.any q=true
 | [],i=>by simp [EX]
 | e::r,i=>by
  have ih:=IF q r (i+1);by_cases h:q e=true
  ·simp [EX,h]
  ·simp only [EX,h,List.any_cons];simpa using ih
theorem pT (g:FuncId) (tf:TypeId) (fv:V) (q:List V->Bool) (es:List (List V)) (hes:∀e∈es,e.length=4) (hlen:es.length<=9223372036854775806)
  (hq:∀e∈es,Bt Tryz.prog g [.imm (.agg e),.ref 1 0] [(1,some (.immb tf 1 [fv]))] (.ret (.imm (.bool (q e))) [(1,some (.immb tf 1 [fv]))])) :
  Bt Tryz.prog 166 [.imm (.sl es),.fn (.func g) [] [.ref 1 0]] [(1,some (.immb tf 1 [fv]))] (.ret (.imm (.int .i64 (EX q es 0))) [(1,some (.immb tf 1 [fv]))]):=by
 refine Ae Cu Tryz.func166 (by decide +kernel) rfl [2,3,4] rfl rfl ?_;refine DM rfl ?_;refine An (λi:Nat=>[(8,.imm (.int .i64 i)),(7,.imm (.int .i64 es.length)),(0,.imm (.sl es)),(1,.fn (.func g) [] [.ref 1 0])]) (λ_=>[(1,some (.immb tf 1 [fv]))]) [2,3,4] (λi=>es.length-i)
  (λi=>i<=es.length/\EX q es 0=EX q (es.drop i) i) 0 ⟨Nat.zero_le _,rfl⟩ ⟨rfl,A0 (by simp),rfl,rfl,trivial⟩ ⟨rfl,trivial⟩ rfl λi hi ih=>?_
 refine DN rfl ?_;have hi2:=hi.2;refine Ab rfl (λh=>?_) (λh=>?_)
 ·simp at h;obtain ⟨e,he⟩:=As h;have hm:=List.mem_of_getElem? he;rw [Av he] at hi2;refine DN rfl ?_;refine ai rfl (c:=e) (λ_=>⟨by simp,by simpa using he,hes e hm⟩) (by simp) ?_;refine ag [] rfl (by simp [hes e hm]) ?_;refine AC (fr:=[]) [(1,1)] [] rfl (by simp) (hq e hm) ⟨⟨rfl,rfl,rfl⟩,trivial⟩ rfl rfl rfl rfl ?_;refine DM rfl ?_;refine Ab rfl (λh=>?_) (λh=>?_)
  ·refine DN rfl ?_;exact Au ⟨_,rfl,tV (congrArg _ (by rw [hi2];simp [EX,h])),⟨rfl,trivial⟩⟩
  ·refine DN rfl ?_;exact Ad (ih (i+1) (by omega) ⟨by omega,by rw [hi2];simp [EX,h]⟩) ⟨A0 (B2 (by omega) (by omega)),rfl,rfl,rfl,trivial⟩ ⟨rfl,trivial⟩ rfl
 ·refine DN rfl ?_;simp at h;refine Au ⟨_,rfl,tV (congrArg _ ?_),⟨rfl,trivial⟩⟩;rw [hi2,List.drop_eq_nil_of_le (by omega)];rfl
theorem dW (g:FuncId) (tf:TypeId) (fv:V) (q:List V->Bool) (es:List (List V)) (hes:∀e∈es,e.length=4) (hlen:es.length<=9223372036854775806)
  (hq:∀e∈es,Bt Tryz.prog g [.imm (.agg e),.ref 1 0] [(1,some (.immb tf 1 [fv]))] (.ret (.imm (.bool (q e))) [(1,some (.immb tf 1 [fv]))])) :
  Bt Tryz.prog 124 [.imm (.sl es),.fn (.func g) [] [.ref 1 0]] [(1,some (.immb tf 1 [fv]))] (.ret (.imm (.bool (es.any q))) [(1,some (.immb tf 1 [fv]))]):=by
 refine Ae Cu Tryz.func124 (by decide +kernel) rfl [2,3,4] rfl rfl ?_;refine DM rfl ?_;refine AC (fr:=[]) [(1,1)] [] rfl (by simp) (pT g tf fv q es hes hlen hq) ⟨⟨rfl,rfl,rfl⟩,trivial⟩ rfl rfl rfl rfl ?_;refine DM rfl ?_;refine Au ⟨_,rfl,tV (congrArg _ ?_),⟨rfl,trivial⟩⟩;rw [Bool.eq_iff_iff,<- IF q es 0];simp
theorem rI (g:FuncId) (e:List V) (hel:e.length=4) (b:Bool) (hq:Al Tryz.prog g [.agg e] (.bool b)) :
  Bt Tryz.prog 203 [.imm (.agg e),.ref 1 0] [(1,some (.immb 99 1 [.fn (.func g)]))] (.ret (.imm (.bool (!b))) [(1,some (.immb 99 1 [.fn (.func g)]))]):=by
 refine Ae Cu Tryz.func203 (by decide +kernel) rfl [2,3,4] rfl rfl ?_;refine ag [] rfl (by simp [hel]) ?_;refine AC (fr:=[]) [] [] rfl (by simp) hq trivial rfl rfl rfl rfl ?_;refine DM rfl ?_;exact Au ⟨_,rfl,tV rfl,⟨rfl,trivial⟩⟩
theorem allT (g:FuncId) (q:List V->Bool) (es:List (List V)) (hes:∀e∈es,e.length=4) (hlen:es.length<=9223372036854775806) (hq:∀e∈es,Al Tryz.prog g [.agg e] (.bool (q e))) :
  Al Tryz.prog 191 [.sl es,.fn (.func g)] (.bool (es.all q)):=by
 refine Ae Cu Tryz.func191 (by decide +kernel) rfl [1,2,3] rfl rfl ?_;refine DM rfl ?_;refine AC (fr:=[]) [(1,1)] [] rfl (by simp) (dW 203 99 (.fn (.func g)) (λe=>!q e) es hes hlen (λe he=>rI g e (hes e he) (q e) (hq e he))) ⟨⟨rfl,rfl,rfl⟩,trivial⟩ rfl rfl rfl rfl ?_;refine DM rfl ?_;refine Aa rfl rfl (congrArg _ ?_);rw [List.any_eq_not_all_not];simp
theorem pV (g:FuncId) (tf:TypeId) (fv:V) (q:List V->Bool) (es:List (List V)) (hes:∀e∈es,e.length=2) (hlen:es.length<=9223372036854775806)
  (hq:∀e∈es,Bt Tryz.prog g [.imm (.agg e),.ref 1 0] [(1,some (.immb tf 1 [fv]))] (.ret (.imm (.bool (q e))) [(1,some (.immb tf 1 [fv]))])) :
  Bt Tryz.prog 210 [.imm (.sl es),.fn (.func g) [] [.ref 1 0]] [(1,some (.immb tf 1 [fv]))] (.ret (.imm (.int .i64 (EX q es 0))) [(1,some (.immb tf 1 [fv]))]):=by
 refine Ae Cu Tryz.func210 (by decide +kernel) rfl [2,3,4] rfl rfl ?_;refine DM rfl ?_;refine An (λi:Nat=>[(8,.imm (.int .i64 i)),(7,.imm (.int .i64 es.length)),(0,.imm (.sl es)),(1,.fn (.func g) [] [.ref 1 0])]) (λ_=>[(1,some (.immb tf 1 [fv]))]) [2,3,4] (λi=>es.length-i)
  (λi=>i<=es.length/\EX q es 0=EX q (es.drop i) i) 0 ⟨Nat.zero_le _,rfl⟩ ⟨rfl,A0 (by simp),rfl,rfl,trivial⟩ ⟨rfl,trivial⟩ rfl λi hi ih=>?_
 refine DN rfl ?_;have hi2:=hi.2;refine Ab rfl (λh=>?_) (λh=>?_)
 ·simp at h;obtain ⟨e,he⟩:=As h;have hm:=List.mem_of_getElem? he;rw [Av he] at hi2;refine DN rfl ?_;refine ai rfl (c:=e) (λ_=>⟨by simp,by simpa using he,hes e hm⟩) (by simp) ?_;refine ag [] rfl (by simp [hes e hm]) ?_;refine AC (fr:=[]) [(1,1)] [] rfl (by simp) (hq e hm) ⟨⟨rfl,rfl,rfl⟩,trivial⟩ rfl rfl rfl rfl ?_;refine DM rfl ?_;refine Ab rfl (λh=>?_) (λh=>?_)
  ·refine DN rfl ?_;exact Au ⟨_,rfl,tV (congrArg _ (by rw [hi2];simp [EX,h])),⟨rfl,trivial⟩⟩
  ·refine DN rfl ?_;exact Ad (ih (i+1) (by omega) ⟨by omega,by rw [hi2];simp [EX,h]⟩) ⟨A0 (B2 (by omega) (by omega)),rfl,rfl,rfl,trivial⟩ ⟨rfl,trivial⟩ rfl
 ·refine DN rfl ?_;simp at h;refine Au ⟨_,rfl,tV (congrArg _ ?_),⟨rfl,trivial⟩⟩;rw [hi2,List.drop_eq_nil_of_le (by omega)];rfl
theorem dY (g:FuncId) (tf:TypeId) (fv:V) (q:List V->Bool) (es:List (List V)) (hes:∀e∈es,e.length=2) (hlen:es.length<=9223372036854775806)
  (hq:∀e∈es,Bt Tryz.prog g [.imm (.agg e),.ref 1 0] [(1,some (.immb tf 1 [fv]))] (.ret (.imm (.bool (q e))) [(1,some (.immb tf 1 [fv]))])) :
  Bt Tryz.prog 201 [.imm (.sl es),.fn (.func g) [] [.ref 1 0]] [(1,some (.immb tf 1 [fv]))] (.ret (.imm (.bool (es.any q))) [(1,some (.immb tf 1 [fv]))]):=by
 refine Ae Cu Tryz.func201 (by decide +kernel) rfl [2,3,4] rfl rfl ?_;refine DM rfl ?_;refine AC (fr:=[]) [(1,1)] [] rfl (by simp) (pV g tf fv q es hes hlen hq) ⟨⟨rfl,rfl,rfl⟩,trivial⟩ rfl rfl rfl rfl ?_;refine DM rfl ?_;refine Au ⟨_,rfl,tV (congrArg _ ?_),⟨rfl,trivial⟩⟩;rw [Bool.eq_iff_iff,<- IF q es 0];simp
theorem rK (g:FuncId) (e:List V) (hel:e.length=2) (b:Bool) (hq:Al Tryz.prog g [.agg e] (.bool b)) :
  Bt Tryz.prog 202 [.imm (.agg e),.ref 1 0] [(1,some (.immb 264 1 [.fn (.func g)]))] (.ret (.imm (.bool (!b))) [(1,some (.immb 264 1 [.fn (.func g)]))]):=by
 refine Ae Cu Tryz.func202 (by decide +kernel) rfl [2,3,4] rfl rfl ?_;refine ag [] rfl (by simp [hel]) ?_;refine AC (fr:=[]) [] [] rfl (by simp) hq trivial rfl rfl rfl rfl ?_;refine DM rfl ?_;exact Au ⟨_,rfl,tV rfl,⟨rfl,trivial⟩⟩
theorem allC (g:FuncId) (q:List V->Bool) (es:List (List V)) (hes:∀e∈es,e.length=2) (hlen:es.length<=9223372036854775806) (hq:∀e∈es,Al Tryz.prog g [.agg e] (.bool (q e))) :
  Al Tryz.prog 189 [.sl es,.fn (.func g)] (.bool (es.all q)):=by
 refine Ae Cu Tryz.func189 (by decide +kernel) rfl [1,2,3] rfl rfl ?_;refine DM rfl ?_;refine AC (fr:=[]) [(1,1)] [] rfl (by simp) (dY 202 264 (.fn (.func g)) (λe=>!q e) es hes hlen (λe he=>rK g e (hes e he) (q e) (hq e he))) ⟨⟨rfl,rfl,rfl⟩,trivial⟩ rfl rfl rfl rfl ?_;refine DM rfl ?_;refine Aa rfl rfl (congrArg _ ?_);rw [List.any_eq_not_all_not];simp
theorem pU (g:FuncId) (tf:TypeId) (fv:V) (q:V->Bool) (es:List V) (hlen:es.length<=9223372036854775806)
  (hq:∀e∈es,Bt Tryz.prog g [.imm e,.ref 1 0] [(1,some (.immb tf 1 [fv]))] (.ret (.imm (.bool (q e))) [(1,some (.immb tf 1 [fv]))])) :
  Bt Tryz.prog 200 [.imm (.sl (es.map λx=>[x])),.fn (.func g) [] [.ref 1 0]] [(1,some (.immb tf 1 [fv]))] (.ret (.imm (.int .i64 (EX q es 0))) [(1,some (.immb tf 1 [fv]))]):=by
 refine Ae Cu Tryz.func200 (by decide +kernel) rfl [2,3,4] rfl rfl ?_;refine DM rfl ?_;refine An (λi:Nat=>[(8,.imm (.int .i64 i)),(7,.imm (.int .i64 es.length)),(0,.imm (.sl (es.map λx=>[x]))),(1,.fn (.func g) [] [.ref 1 0])]) (λ_=>[(1,some (.immb tf 1 [fv]))]) [2,3,4] (λi=>es.length-i)
  (λi=>i<=es.length/\EX q es 0=EX q (es.drop i) i) 0 ⟨Nat.zero_le _,rfl⟩ ⟨rfl,A0 (by simp),rfl,rfl,trivial⟩ ⟨rfl,trivial⟩ rfl λi hi ih=>?_
 refine DN rfl ?_;have hi2:=hi.2;refine Ab rfl (λh=>?_) (λh=>?_)
 ·simp at h;obtain ⟨e,he⟩:=As h;have hm:=List.mem_of_getElem? he;rw [Av he] at hi2;refine DN rfl ?_;refine ai rfl (c:=[e]) (λ_=>⟨by simp,by simp [he],rfl⟩) (by simp) ?_;refine DM rfl ?_;refine AC (fr:=[]) [(1,1)] [] rfl (by simp) (hq e hm) ⟨⟨rfl,rfl,rfl⟩,trivial⟩ rfl rfl rfl rfl ?_;refine DM rfl ?_;refine Ab rfl (λh=>?_) (λh=>?_)
  ·refine DN rfl ?_;exact Au ⟨_,rfl,tV (congrArg _ (by rw [hi2];simp [EX,h])),⟨rfl,trivial⟩⟩
  ·refine DN rfl ?_;exact Ad (ih (i+1) (by omega) ⟨by omega,by rw [hi2];simp [EX,h]⟩) ⟨A0 (B2 (by omega) (by omega)),rfl,rfl,rfl,trivial⟩ ⟨rfl,trivial⟩ rfl
 ·refine DN rfl ?_;simp at h;refine Au ⟨_,rfl,tV (congrArg _ ?_),⟨rfl,trivial⟩⟩;rw [hi2,List.drop_eq_nil_of_le (by omega)];rfl
theorem dX (g:FuncId) (tf:TypeId) (fv:V) (q:V->Bool) (es:List V) (hlen:es.length<=9223372036854775806)
  (hq:∀e∈es,Bt Tryz.prog g [.imm e,.ref 1 0] [(1,some (.immb tf 1 [fv]))] (.ret (.imm (.bool (q e))) [(1,some (.immb tf 1 [fv]))])) :
  Bt Tryz.prog 187 [.imm (.sl (es.map λx=>[x])),.fn (.func g) [] [.ref 1 0]] [(1,some (.immb tf 1 [fv]))] (.ret (.imm (.bool (es.any q))) [(1,some (.immb tf 1 [fv]))]):=by
 refine Ae Cu Tryz.func187 (by decide +kernel) rfl [2,3,4] rfl rfl ?_;refine DM rfl ?_;refine AC (fr:=[]) [(1,1)] [] rfl (by simp) (pU g tf fv q es hlen hq) ⟨⟨rfl,rfl,rfl⟩,trivial⟩ rfl rfl rfl rfl ?_;refine DM rfl ?_;refine Au ⟨_,rfl,tV (congrArg _ ?_),⟨rfl,trivial⟩⟩;rw [Bool.eq_iff_iff,<- IF q es 0];simp
theorem rJ (g:FuncId) (e:V) (b:Bool) (hq:Al Tryz.prog g [e] (.bool b)) :
  Bt Tryz.prog 188 [.imm e,.ref 1 0] [(1,some (.immb 249 1 [.fn (.func g)]))] (.ret (.imm (.bool (!b))) [(1,some (.immb 249 1 [.fn (.func g)]))]):=by
 refine Ae Cu Tryz.func188 (by decide +kernel) rfl [2,3,4] rfl rfl ?_;refine DM rfl ?_;refine AC (fr:=[]) [] [] rfl (by simp) hq trivial rfl rfl rfl rfl ?_;refine DM rfl ?_;exact Au ⟨_,rfl,tV rfl,⟨rfl,trivial⟩⟩
theorem allI (g:FuncId) (q:V->Bool) (es:List V) (hlen:es.length<=9223372036854775806) (hq:∀e∈es,Al Tryz.prog g [e] (.bool (q e))) :
  Al Tryz.prog 164 [.sl (es.map λx=>[x]),.fn (.func g)] (.bool (es.all q)):=by
 refine Ae Cu Tryz.func164 (by decide +kernel) rfl [1,2,3] rfl rfl ?_;refine DM rfl ?_;refine AC (fr:=[]) [(1,1)] [] rfl (by simp) (dX 188 249 (.fn (.func g)) (λe=>!q e) es hlen (λe he=>rJ g e (q e) (hq e he))) ⟨⟨rfl,rfl,rfl⟩,trivial⟩ rfl rfl rfl rfl ?_;refine DM rfl ?_;refine Aa rfl rfl (congrArg _ ?_);rw [List.any_eq_not_all_not];simp
end Go.Hk
namespace Go.Hk
def R6:Sh->Bool
 | .iface | .other=>false
 | _=>true
structure PTa where
 t:TypeId
 v:V
 to_:TypeId
 dst:Option Nat
 todo:List DI
def pta (tt:TT) (n:Nat) (env:Env) (todo:List DI):Option PTa :=
 match Sd todo with
 | some o=>match o.guard,o.op with
  | none,.typeAssert x _ to_ true=>match CV env x,lk tt to_,BH n o.dst,Bg todo ([],[]) with
   | some (.imm (.iface t v)),some i,true,some (_,_,todo')=>match R6 i.sh with
    | true=>some ⟨t,v,to_,o.dst,todo'⟩
    | false=>none
   | _,_,_,_=>none
  | _,_=>none
 | none=>none
section
variable {P:Program} {n:Nat} {F:List Nat} {Q:DQ} {tt:TT} {env env':Env} {st st':St} {ids ids':List Nat} {k todo todo':List DI} {I:Imm} {μ:Mu} {w:World} {a:Act} {Pn:V->Prop} {d:D} {cx:Prop} {ob:List Prop}
theorem Ov {t to_ from_:TypeId} {i:TyI} {v:Value} (hi:TyOk P to_ i) (hc:R6 i.sh=true) {r:Value} (h:(t=to_/\r = .tuple #[v,.bool true])\/(t≠to_/\∃z,(P.info? to_).bind (·.zero)=some z/\r = .tuple #[z,.bool false])) :
  (Instr.typeAssert (.iface t v) from_ to_ true).run P w = .ok r w:=by
 have hu:∃dd,P.underlying to_=some dd/\∀ms,dd ≠ .interface ms:=by
  have:=hi.sh;generalize i.sh=sh at this hc;cases sh <;> simp only [R6,Bool.false_eq_true] at hc <;> simp only [Px] at this
  case struct fs=>obtain ⟨f,h1,_⟩:=this;exact ⟨_,h1,λ_ h=>by cases h⟩
  case func=>obtain ⟨a,b,c,h1⟩:=this;exact ⟨_,h1,λ_ h=>by cases h⟩
  all_goals exact ⟨_,this,λ_ h=>by cases h⟩
 obtain ⟨dd,hd,hne⟩:=hu;rcases h with ⟨rfl,rfl⟩ | ⟨hn,z,hz,rfl⟩
 ·cases dd <;> first | exact absurd rfl (hne _) | simp [Instr.typeAssert,run_underlying hd]
 ·have hz:=FB (w:=w) hz;cases dd <;> first | exact absurd rfl (hne _) | simp [Instr.typeAssert,run_underlying hd,hn,hz]
theorem IH (htt:TTok P tt) {t0 to_:TypeId} {v0:V} {d0:Option Nat} {todo0:List DI} (h:pta tt n env todo=some ⟨t0,v0,to_,d0,todo0⟩) {r:List V}
  (hr:(t0=to_/\r=[v0,.bool true])\/(t0≠to_/\∃z zd,(P.info? to_).bind (·.zero)=some z/\(∀I,RepV I z zd)/\r=[zd,.bool false]))
  (hk:G P n F Q todo0 (B9 d0 (.imm (.tup r)) env) st ids):G P n F Q todo env st ids:=by
 unfold pta at h
 split at h
 ·rename_i o ho
  split at h
  ·rename_i x from_ to' hg hop
   split at h
   ·rename_i t v i all o' todo' hx hi hd h1
    split at h
    ·rename_i hc;cases h;have ho':o'=o:=Eh ho h1;subst ho';refine B6 (fr:=[]) (wr:=[]) (rd:=[]) h1 ?_ hd (λc hc=>by rw [hop] at hc;cases hc) hk;intro I μ st1 ids1 a w hag hst hon;refine ⟨λ_=>?_,λhw=>by rw [AG hg] at hw;cases hw⟩;have hops:=Bc hon;rw [hop] at hops;have rx:=(hops x (by simp [Op.operands]) _ hx).immInv;generalize hv:a.eval x=v at rx;cases rx with
     | iface _ u _ hu =>
      have fin:∀(z:Value) (b:Bool) (zd:V),(Instr.typeAssert (.iface t0 u) from_ to_ true).run P w = .ok (.tuple #[z,.bool b]) w->RepV I z zd->r=[zd,.bool b] ->
        valX P ((execOp a.eval o').run P w) (λv w'=>∃I' μ',StRep I' μ' ([]++st1) ids1 w'/\RepD I' μ' v (.imm (.tup r))/\μ.le μ'/\Ext I μ st1 w I' μ' ([]++st1) w') (Kc (Mz Q) I μ st1 w):=by
       intro z b zd h1 h2 h3;have hrun:(execOp a.eval o').run P w = .ok (.value (.tuple #[z,.bool b])) w:=by
        simp only [execOp,hop,hv];exact A7 h1
       rw [hrun,h3];refine ⟨I,μ,hst,.imm _ _ (.tup _ _ rfl λi c x hc hx=>?_),Mu.le_refl μ,Ext.refl _ _ _ _⟩
       match i,hc,hx with
       | 0,hc,hx=>cases hc;cases hx;exact h2
       | 1,hc,hx=>cases hc;cases hx;exact .bool _
       | i+2,hc,hx=>simp at hx
      rcases hr with ⟨e1,e2⟩ | ⟨e1,z,zd,e2,e3,e4⟩
      ·exact fin u true v0 (Ov (htt _ _ hi) hc (.inl ⟨e1,rfl⟩)) hu e2
      ·exact fin z false zd (Ov (htt _ _ hi) hc (.inr ⟨e1,z,e2,rfl⟩)) (e3 I) e4
    ·cases h
   ·cases h
  ·cases h
 ·cases h
end
end Go.Hk
namespace Go.Hk
open Go.Proofs
mutual
theorem HC:∀{a b:Ty},Ao a=Ao b->a=b
 | .mk s n x ps,.mk s' n' x' ps',h=>by
  simp only [Ao,List.cons.injEq,V.int.injEq,V.str.injEq,V.sl.injEq,and_true,true_and] at h;obtain ⟨h1,h2,h3,h4⟩:=h;subst h1;subst h2;subst h3;rw [HB h4]
theorem HB:∀{a b:List Ty},Bx a=Bx b->a=b
 | [],[],_=>rfl
 | [],_::_,h=>by simp [Bx] at h
 | _::_,[],h=>by simp [Bx] at h
 | x::r,y::t,h=>by
  simp only [Bx,List.cons.injEq] at h;rw [HC h.1,HB h.2]
end
theorem R0 {a b:Cd} (h:CM a=CM b):a=b:=by
 obtain ⟨a1,a2⟩:=a;obtain ⟨b1,b2⟩:=b;simp only [CM,List.cons.injEq,V.str.injEq,V.sl.injEq,and_true] at h;rw [h.1,HB h.2]
open Classical in
noncomputable def qOf {α β:Type} (d:α->β) (f:α->Bool) (e:β):Bool:=decide (∃t,d t=e/\f t=true)
open Classical in
theorem JX {α β:Type} {d:α->β} (hd:∀{a b},d a=d b->a=b) (f:α->Bool) (t:α):qOf d f (d t)=f t:=by
 unfold qOf;by_cases h:f t=true
 ·rw [h];exact decide_eq_true ⟨t,rfl,h⟩
 ·simp only [Bool.not_eq_true] at h;rw [h];refine decide_eq_false λ⟨u,h1,h2⟩=>?_;rw [hd h1,h] at h2;cases h2
theorem Uu {α β:Type} {d:α->β} (hd:∀{a b},d a=d b->a=b) (f:α->Bool) (l:List α):(l.map d).all (qOf d f)=l.all f:=by
 rw [List.all_map];congr 1;funext t;exact JX hd f t
def K8 (c:Cd):Bool:=De c.name&&decide ((c.args.length:Int)<=3)&&c.args.all (Cb false)
def Ft (d:Dt):Bool:=De d.name&&decide ((1:Int)<=d.cons.length)&&decide ((d.cons.length:Int)<=5)&&d.cons.all K8
def MM (f:Fd):Bool:=EO f.name&&EO f.param&&Cb false f.from_&&Cb false f.to_&&LU f.body
theorem kZ (ts:List Ty) (h:ts.length<=9223372036854775806):Al Tryz.prog 191 [.sl (Bx ts),.fn (.func 192)] (.bool (ts.all (Cb false))):=by
 have:=allT 192 (qOf Ao (Cb false)) (Bx ts) (λe he=>by rw [C8] at he;obtain ⟨t,_,rfl⟩:=List.mem_map.1 he;simp) (by simpa using h) (λe he=>by
  rw [C8] at he;obtain ⟨t,_,rfl⟩:=List.mem_map.1 he;rw [JX HC];exact PP t)
 rw [C8,Uu HC] at this;rw [C8];exact this
theorem bG (c:Cd):Al Tryz.prog 190 [.agg (CM c)] (.bool (K8 c)):=by
 obtain ⟨nm,ts⟩:=c;refine AW λhv=>?_;simp [Ct,ET,CM,maxLen] at hv;refine Ae Cu Tryz.func190 (by decide +kernel) rfl [1,2,3] rfl rfl ?_;refine Su rfl ?_;refine Af rfl (λ_=>DK nm) (by simp [Ap]) ?_;refine Su rfl ?_;refine Af rfl (λhg=>kZ ts (by simp [Ap] at hg;omega)) (by simp [Ap]) ?_;refine ag [] rfl (by simp [Ap] <;> grind) ?_;refine Aa rfl rfl (congrArg _ ?_);simp [K8] <;> grind
theorem nR (cs:List Cd) (h:cs.length<=9223372036854775806):Al Tryz.prog 189 [.sl (cs.map CM),.fn (.func 190)] (.bool (cs.all K8)):=by
 have:=allC 190 (qOf CM K8) (cs.map CM) (λe he=>by obtain ⟨t,_,rfl⟩:=List.mem_map.1 he;rfl) (by simpa using h) (λe he=>by
  obtain ⟨t,_,rfl⟩:=List.mem_map.1 he;rw [JX R0];exact bG t)
 rw [Uu R0] at this;exact this
def My (d:Dt):V:=.iface 243 (.agg (Cv d))
def Kb (f:Fd):V:=.iface 245 (.agg (Pu f))
theorem Ub:∃z,(Tryz.prog.info? 243).bind (·.zero)=some z/\∀I,RepV I z (.agg [.str [],.sl []]):=by
 refine ⟨.agg #[.string ⟨#[]⟩,.slice none 0 0],by kernel_rfl,λI=>.agg _ _ rfl (by decide) λi c x hc hx=>?_⟩
 match i,hc,hx with
 | 0,hc,hx=>cases hc;cases hx;exact .str _ _ rfl
 | 1,hc,hx=>cases hc;cases hx;exact .slnil
 | i+2,hc,hx=>simp at hx
theorem X7 (d:Dt):Al Tryz.prog 165 [My d] (.bool (Ft d)):=by
 obtain ⟨nm,cs⟩:=d;refine AW λhv=>?_;simp [Ct,ET,My,Cv,maxLen] at hv;refine Ae Cu Tryz.func165 (by decide +kernel) rfl [1,2,3,4] rfl rfl ?_;refine Su rfl ?_;refine IH Cu rfl (.inl ⟨rfl,rfl⟩) ?_;refine ag [.a] rfl (by simp [Ap]) ?_;refine Af rfl (λ_=>DK nm) (by simp [Ap]) ?_;refine Su rfl ?_;refine Af rfl (λhg=>nR cs (by simp [Ap] at hg;omega)) (by simp [Ap]) ?_;refine ag [] rfl (by simp [Ap] <;> grind) ?_;refine Aa rfl rfl (congrArg _ ?_);simp [Ft] <;> grind
theorem bF (f:Fd):Al Tryz.prog 165 [Kb f] (.bool (MM f)):=by
 obtain ⟨nm,pm,⟨s1,n1,x1,p1⟩,⟨s2,n2,x2,p2⟩,⟨o3,n3,x3,k3,p3⟩⟩:=f;obtain ⟨z,hz,hzr⟩:=Ub;refine AW λhv=>?_;refine Ae Cu Tryz.func165 (by decide +kernel) rfl [1,2,3,4] rfl rfl ?_;refine Su rfl ?_;refine IH Cu rfl (.inr ⟨by decide,z,_,hz,hzr,rfl⟩) ?_;refine ag [.a] rfl (by simp [Ap]) ?_;refine IH Cu rfl (.inl ⟨rfl,rfl⟩) ?_;refine ag [.a] rfl (by simp [Ap]) ?_;refine Af rfl (λ_=>He nm) (by simp [Ap]) ?_;refine Su rfl ?_;refine Af rfl (λ_=>He pm) (by simp [Ap]) ?_;refine Su rfl ?_;refine Af rfl (λ_=>PP (.mk s1 n1 x1 p1)) (by simp [Ap]) ?_;refine Su rfl ?_;refine Af rfl (λ_=>PP (.mk s2 n2 x2 p2)) (by simp [Ap]) ?_;refine Su rfl ?_;refine Af rfl (λ_=>lK (.mk o3 n3 x3 k3 p3)) (by simp [Ap]) ?_
 refine ag [] rfl (by simp [Ap] <;> grind) ?_;refine Aa rfl rfl (congrArg _ ?_);simp [MM,Kz] <;> grind
inductive Pt2 where
 | d (x:Dt)
 | f (x:Fd)
def kN:Pt2->V
 | .d x=>My x
 | .f x=>Kb x
def VD:Pt2->Bool
 | .d x=>Ft x
 | .f x=>MM x
theorem gP (p:Pt2):Al Tryz.prog 165 [kN p] (.bool (VD p)):=by
 cases p with
 | d x=>exact X7 x
 | f x=>exact bF x
mutual
theorem kM:∀{a b:Tm},CL a=CL b->a=b
 | .mk s n x ks ps,.mk s' n' x' ks' ps',h=>by
  simp only [CL,List.cons.injEq,V.int.injEq,V.str.injEq,V.sl.injEq,and_true,true_and] at h;obtain ⟨h1,h2,h3,h4,h5⟩:=h;subst h1;subst h2;subst h3;rw [Rx h4,HB h5]
theorem Rx:∀{a b:List Tm},LS a=LS b->a=b
 | [],[],_=>rfl
 | [],_::_,h=>by simp [LS] at h
 | _::_,[],h=>by simp [LS] at h
 | x::r,y::t,h=>by
  simp only [LS,List.cons.injEq] at h;rw [kM h.1,Rx h.2]
end
theorem M7:∀{a b:List Cd},a.map CM=b.map CM->a=b
 | [],[],_=>rfl
 | [],_::_,h=>by simp at h
 | _::_,[],h=>by simp at h
 | x::r,y::t,h=>by
  simp only [List.map_cons,List.cons.injEq] at h;rw [R0 h.1,M7 h.2]
theorem ZJ {a b:Pt2} (h:kN a=kN b):a=b:=by
 cases a with
 | d x=>cases b with
  | d y =>
   obtain ⟨x1,x2⟩:=x;obtain ⟨y1,y2⟩:=y;simp only [kN,My,Cv,V.iface.injEq,V.agg.injEq,List.cons.injEq,V.str.injEq,V.sl.injEq,true_and,and_true] at h;rw [h.1,M7 h.2]
  | f y=>simp [kN,My,Kb] at h
 | f x=>cases b with
  | d y=>simp [kN,My,Kb] at h
  | f y =>
   obtain ⟨nm,pm,⟨s1,n1,x1,p1⟩,⟨s2,n2,x2,p2⟩,⟨o3,n3,x3,k3,p3⟩⟩:=x;obtain ⟨nm',pm',⟨s1',n1',x1',p1'⟩,⟨s2',n2',x2',p2'⟩,⟨o3',n3',x3',k3',p3'⟩⟩:=y;simp only [kN,Kb,Pu,Ao,CL,V.iface.injEq,V.agg.injEq,List.cons_append,List.nil_append,List.cons.injEq,V.str.injEq,V.int.injEq,V.sl.injEq,true_and,and_true] at h;obtain ⟨h1,h2,h3,h4,h5,h6,h7,h8,h9,h10,h11,h12,h13,h14,h15⟩:=h;rw [h1,h2,h3,h4,h5,HB h6,h7,h8,h9,HB h10,h11,h12,h13,Rx h14,HB h15]
theorem Xf (ps:List Pt2) (h:ps.length<=9223372036854775806):Al Tryz.prog 164 [.sl (ps.map λp=>[kN p]),.fn (.func 165)] (.bool (ps.all VD)):=by
 have:=allI 165 (qOf kN VD) (ps.map kN) (by simpa using h) (λe he=>by
  obtain ⟨t,_,rfl⟩:=List.mem_map.1 he;rw [JX ZJ];exact gP t)
 rw [Uu ZJ,List.map_map] at this;exact this
def HQ (m:Md):Bool:=EO m.name&&decide ((m.datas.length:Int)<=4)&&decide ((1:Int)<=m.funs.length)&&decide ((m.funs.length:Int)<=5)&&m.datas.all Ft&&m.funs.all MM
def Li (l:List Pt2):List (List V):=l.map λp=>[kN p]
@[simp] theorem rowP_length (l:List Pt2):(Li l).length=l.length:=by simp [Li]
def nI (b:Bool) (k:Nat):D:=match b with
 | false=>.nils
 | true=>.own 2 k
def rU (b:Bool) (m:Md) (es:List (List V)):St:=match b with
 | false=>[(1,some (.immb 171 3 (UK m)))]
 | true=>[(2,some (.row 248 1 es)),(1,some (.immb 171 3 (UK m)))]
theorem Qq (a b:List Pt2):Li (a++b)=Li a++Li b:=by simp [Li]
theorem ZP (m:Md) (b:Bool) (es0:List (List V)) (hb:b=false->es0=[]) (he0:es0=Li (m.datas.map .d)) (hd:(m.datas.length:Int)<=4) (hf1:(1:Int)<=m.funs.length) (hf:(m.funs.length:Int)<=5) :
  DGo Tryz.prog Tryz.f123.ntmps (Ey []) (Nk lN Tryz.f123.results.toList (.ret (.imm (Kz (m.datas.all Ft&&m.funs.all MM))) []))
   [.code (Gi Tryz.f123 4)] [(3,nI b es0.length),(1,.ref 1 0)] (rU b m es0) [3,4]:=by
 cases b with
 | false =>
  have:=hb rfl;subst this;refine DN rfl ?_;refine An (λy:Nat×Bool×List (List V)=>[(47,.imm (.int .i64 y.1)),(46,.imm (.int .i64 m.funs.length)),(45,.imm (.sl (m.funs.map Pu))),(3,nI y.2.1 y.2.2.length),(1,.ref 1 0)])
   (λy=>rU y.2.1 m y.2.2) [3,4] (λy=>m.funs.length-y.1)
   (λy=>y.1<=m.funs.length/\y.2.2=Li (m.datas.map .d++(m.funs.take y.1).map .f)/\(y.2.1=false->y.2.2=[])) (0,false,[]) ⟨Nat.zero_le _,by simpa using he0,λ_=>rfl⟩ ⟨rfl,A0 (by simp),rfl,rfl,rfl,trivial⟩ ⟨rfl,trivial⟩ rfl λy hi ih=>?_
  obtain ⟨i,b,es⟩:=y;obtain ⟨hi1,hi2,hi3⟩:=hi;simp only at hi1 hi2 hi3;have hlen:es.length<=9:=by
   have:=congrArg List.length hi2;simp at this;omega
  have hnext:∀f,m.funs[i]?=some f->es++[[Kb f]]=Li (m.datas.map .d++(m.funs.take (i+1)).map .f):=λf hf=>by
   rw [Bh hf,List.map_append,<- List.append_assoc,Qq,<- hi2];rfl
  have hend:¬i<m.funs.length->es=Li (m.datas.map .d++m.funs.map .f):=λh=>by
   rw [hi2,List.take_of_length_le (by omega)]
  cases b with
  | false =>
   have hi3:=hi3 rfl;subst hi3;refine DN rfl ?_;refine Ab rfl (λh=>?_) (λh=>?_)
   ·simp at h;obtain ⟨f,hf⟩:=As h;refine DN rfl ?_;refine ai rfl (c:=Pu f) (λ_=>⟨by simp,by simpa using Be hf,by simp⟩) (by simp) ?_;refine DM rfl ?_;refine BE Cu rfl ⟨by simp,by simp [maxLen],by simp,trivial⟩ ?_;refine DM rfl ?_;refine AF 2 4 rfl ?_;exact Ad (ih (i+1,true,[]++[[Kb f]]) (by simp only;omega) ⟨by simp only;omega,hnext f hf,λh=>by cases h⟩) ⟨A0 (B2 (by simp only;omega) (by simp only;omega)),rfl,rfl,rfl,rfl,trivial⟩ ⟨rfl,rfl,trivial⟩ rfl
   ·simp at h;have:=congrArg List.length (hend (by omega));simp at this;omega
  | true =>
   refine DN rfl ?_;refine Ab rfl (λh=>?_) (λh=>?_)
   ·simp at h;obtain ⟨f,hf⟩:=As h;refine DN rfl ?_;refine ai rfl (c:=Pu f) (λ_=>⟨by simp,by simpa using Be hf,by simp⟩) (by simp) ?_;refine DM rfl ?_;refine BE Cu rfl ⟨by simp,by simp [maxLen];omega,by simp;omega,trivial⟩ ?_;refine DM rfl ?_;refine AF 2 4 rfl ?_;exact Ad (ih (i+1,true,es++[[Kb f]]) (by simp only;omega) ⟨by simp only;omega,hnext f hf,λh=>by cases h⟩) ⟨A0 (B2 (by simp only;omega) (by simp only;omega)),rfl,rfl,rfl,rfl,trivial⟩ ⟨rfl,rfl,trivial⟩ rfl
   ·simp at h;refine Aw rfl ?_;refine Bw 2 rfl ?_;refine DN rfl ?_;refine Af rfl (λ_=>by rw [hend (by omega)];exact Xf _ (by simp;omega)) (by simp) ?_;refine DM rfl ?_;have hall:(m.datas.map Pt2.d++m.funs.map Pt2.f).all VD=(m.datas.all Ft&&m.funs.all MM):=by
     rw [List.all_append,List.all_map,List.all_map];rfl
    rw [hall];refine Ab rfl (λh=>?_) (λh=>?_)
    ·refine DN rfl ?_;refine Aa rfl rfl ?_;simp only [Bool.not_eq_true'] at h;rw [h];rfl
    ·refine DN rfl ?_;refine Aa rfl rfl ?_;simp only [Bool.not_eq_false'] at h;rw [h];rfl
 | true =>
  refine DN rfl ?_;refine An (λy:Nat×Bool×List (List V)=>[(47,.imm (.int .i64 y.1)),(46,.imm (.int .i64 m.funs.length)),(45,.imm (.sl (m.funs.map Pu))),(3,nI y.2.1 y.2.2.length),(1,.ref 1 0)])
   (λy=>rU y.2.1 m y.2.2) [3,4] (λy=>m.funs.length-y.1)
   (λy=>y.1<=m.funs.length/\y.2.2=Li (m.datas.map .d++(m.funs.take y.1).map .f)/\(y.2.1=false->y.2.2=[])) (0,true,es0) ⟨Nat.zero_le _,by simpa using he0,λh=>by cases h⟩ ⟨rfl,A0 (by simp),rfl,rfl,rfl,trivial⟩ ⟨rfl,rfl,trivial⟩ rfl λy hi ih=>?_
  obtain ⟨i,b,es⟩:=y;obtain ⟨hi1,hi2,hi3⟩:=hi;simp only at hi1 hi2 hi3;have hlen:es.length<=9:=by
   have:=congrArg List.length hi2;simp at this;omega
  have hnext:∀f,m.funs[i]?=some f->es++[[Kb f]]=Li (m.datas.map .d++(m.funs.take (i+1)).map .f):=λf hf=>by
   rw [Bh hf,List.map_append,<- List.append_assoc,Qq,<- hi2];rfl
  have hend:¬i<m.funs.length->es=Li (m.datas.map .d++m.funs.map .f):=λh=>by
   rw [hi2,List.take_of_length_le (by omega)]
  cases b with
  | false =>
   have hi3:=hi3 rfl;subst hi3;refine DN rfl ?_;refine Ab rfl (λh=>?_) (λh=>?_)
   ·simp at h;obtain ⟨f,hf⟩:=As h;refine DN rfl ?_;refine ai rfl (c:=Pu f) (λ_=>⟨by simp,by simpa using Be hf,by simp⟩) (by simp) ?_;refine DM rfl ?_;refine BE Cu rfl ⟨by simp,by simp [maxLen],by simp,trivial⟩ ?_;refine DM rfl ?_;refine AF 2 4 rfl ?_;exact Ad (ih (i+1,true,[]++[[Kb f]]) (by simp only;omega) ⟨by simp only;omega,hnext f hf,λh=>by cases h⟩) ⟨A0 (B2 (by simp only;omega) (by simp only;omega)),rfl,rfl,rfl,rfl,trivial⟩ ⟨rfl,rfl,trivial⟩ rfl
   ·simp at h;have:=congrArg List.length (hend (by omega));simp at this;omega
  | true =>
   refine DN rfl ?_;refine Ab rfl (λh=>?_) (λh=>?_)
   ·simp at h;obtain ⟨f,hf⟩:=As h;refine DN rfl ?_;refine ai rfl (c:=Pu f) (λ_=>⟨by simp,by simpa using Be hf,by simp⟩) (by simp) ?_;refine DM rfl ?_;refine BE Cu rfl ⟨by simp,by simp [maxLen];omega,by simp;omega,trivial⟩ ?_;refine DM rfl ?_;refine AF 2 4 rfl ?_;exact Ad (ih (i+1,true,es++[[Kb f]]) (by simp only;omega) ⟨by simp only;omega,hnext f hf,λh=>by cases h⟩) ⟨A0 (B2 (by simp only;omega) (by simp only;omega)),rfl,rfl,rfl,rfl,trivial⟩ ⟨rfl,rfl,trivial⟩ rfl
   ·simp at h;refine Aw rfl ?_;refine Bw 2 rfl ?_;refine DN rfl ?_;refine Af rfl (λ_=>by rw [hend (by omega)];exact Xf _ (by simp;omega)) (by simp) ?_;refine DM rfl ?_;have hall:(m.datas.map Pt2.d++m.funs.map Pt2.f).all VD=(m.datas.all Ft&&m.funs.all MM):=by
     rw [List.all_append,List.all_map,List.all_map];rfl
    rw [hall];refine Ab rfl (λh=>?_) (λh=>?_)
    ·refine DN rfl ?_;refine Aa rfl rfl ?_;simp only [Bool.not_eq_true'] at h;rw [h];rfl
    ·refine DN rfl ?_;refine Aa rfl rfl ?_;simp only [Bool.not_eq_false'] at h;rw [h];rfl
theorem RR (m:Md):Al Tryz.prog 123 [.agg (UK m)] (Kz (HQ m)):=by
 refine AW λhv=>?_;have hv1:m.datas.length<=9223372036854775807/\m.funs.length<=9223372036854775807:=by
  simp [Ct,ET,UK,maxLen] at hv;omega
 refine Ae Cu Tryz.func123 (by decide +kernel) rfl [1,2,3,4] rfl rfl ?_;refine Su rfl ?_;refine Af rfl (λ_=>He m.name) (by simp [Ap]) ?_;refine ag [] rfl (by simp [Ap] <;> grind) ?_;refine Ab rfl (λh=>?_) (λh=>?_)
 ·refine DN rfl ?_;refine Aa rfl rfl (congrArg _ ?_);have:HQ m=false:=by
   simp at h;simp [HQ];grind
  rw [this];rfl
 have hx:EO m.name=true/\(m.datas.length:Int)<=4/\(1:Int)<=m.funs.length/\(m.funs.length:Int)<=5:=by
  simp at h;refine ⟨?_,?_,?_,?_⟩ <;> grind
 clear h;have hres:HQ m=(m.datas.all Ft&&m.funs.all MM):=by simp [HQ,hx.1,hx.2.1,hx.2.2.1,hx.2.2.2]
 rw [hres];refine DN rfl ?_;refine An (λy:Nat×Bool×List (List V)=>[(33,.imm (.int .i64 y.1)),(32,.imm (.int .i64 m.datas.length)),(31,.imm (.sl (m.datas.map Cv))),(3,nI y.2.1 y.2.2.length),(1,.ref 1 0)])
  (λy=>rU y.2.1 m y.2.2) [3,4] (λy=>m.datas.length-y.1)
  (λy=>y.1<=m.datas.length/\y.2.2=Li ((m.datas.take y.1).map .d)/\(y.2.1=false->y.2.2=[])) (0,false,[]) ⟨Nat.zero_le _,rfl,λ_=>rfl⟩ ⟨rfl,A0 (by simp),rfl,rfl,rfl,trivial⟩ ⟨rfl,trivial⟩ rfl λy hi ih=>?_
 obtain ⟨i,b,es⟩:=y;obtain ⟨hi1,hi2,hi3⟩:=hi;simp only at hi1 hi2 hi3;have hlen:es.length<=4:=by
  have:=congrArg List.length hi2;simp at this;omega
 have hend:¬i<m.datas.length->es=Li (m.datas.map .d):=λh=>by
  rw [hi2,List.take_of_length_le (by omega)]
 have hnext:∀d,m.datas[i]?=some d->es++[[My d]]=Li ((m.datas.take (i+1)).map .d):=λd hd=>by
  rw [Bh hd,List.map_append,Qq,<- hi2];rfl
 cases b with
 | false =>
  have hi3:=hi3 rfl;subst hi3;refine DN rfl ?_;refine Ab rfl (λh=>?_) (λh=>?_)
  ·simp at h;obtain ⟨d,hd⟩:=As h;refine DN rfl ?_;refine ai rfl (c:=Cv d) (λ_=>⟨by simp,by simpa using Be hd,by simp⟩) (by simp) ?_;refine DM rfl ?_;refine BE Cu rfl ⟨by simp,by simp [maxLen],by simp,trivial⟩ ?_;refine DM rfl ?_;refine AF 2 4 rfl ?_;exact Ad (ih (i+1,true,[]++[[My d]]) (by simp only;omega) ⟨by simp only;omega,hnext d hd,λh=>by cases h⟩) ⟨A0 (B2 (by simp only;omega) (by simp only;omega)),rfl,rfl,rfl,rfl,trivial⟩ ⟨rfl,rfl,trivial⟩ rfl
  ·simp at h;refine Aw rfl ?_;exact Ad (ZP m false [] (λ_=>rfl) (hend (by omega)) hx.2.1 hx.2.2.1 hx.2.2.2) ⟨rfl,rfl,trivial⟩ ⟨rfl,trivial⟩ rfl
 | true =>
  refine DN rfl ?_;refine Ab rfl (λh=>?_) (λh=>?_)
  ·simp at h;obtain ⟨d,hd⟩:=As h;refine DN rfl ?_;refine ai rfl (c:=Cv d) (λ_=>⟨by simp,by simpa using Be hd,by simp⟩) (by simp) ?_;refine DM rfl ?_;refine BE Cu rfl ⟨by simp,by simp [maxLen];omega,by simp;omega,trivial⟩ ?_;refine DM rfl ?_;refine AF 2 4 rfl ?_;exact Ad (ih (i+1,true,es++[[My d]]) (by simp only;omega) ⟨by simp only;omega,hnext d hd,λh=>by cases h⟩) ⟨A0 (B2 (by simp only;omega) (by simp only;omega)),rfl,rfl,rfl,rfl,trivial⟩ ⟨rfl,rfl,trivial⟩ rfl
  ·simp at h;refine Aw rfl ?_;exact Ad (ZP m true es (λh=>by cases h) (hend (by omega)) hx.2.1 hx.2.2.1 hx.2.2.2) ⟨rfl,rfl,trivial⟩ ⟨rfl,rfl,trivial⟩ rfl
def P4 (s n:Int) (x:Str) (k:Int):Bool :=
 if s=1 then decide (-1000000000<=n)&&decide (n<=1000000000)&&(x == [])&&(k == 0)
 else if s=2 then (n == 0||n == 1)&&(x == [])&&(k == 0)
 else if s=3\/s=5 then n == 0&&x == []&&k == 0
 else if s=4 then n == 0&&De x&&decide (k<=3)
 else false
theorem bQ (v:Ty) (k:Int):Al Tryz.prog 156 [.agg (Bv v),.int .i64 k] (.bool (match v with | .mk s n x _=>P4 s n x k)):=by
 obtain ⟨s,n,x,ps⟩:=v;refine Ae AL Tryz.func156 (by decide +kernel) rfl [1,2,3] rfl rfl ?_;simp only [P4,Bv];refine Bl rfl ?_;by_cases h1:s=1
 ·subst h1;refine Ah rfl λh=>?_;refine GQ rfl ?_;refine Aa rfl rfl (congrArg _ ?_);simp [Bool.and_assoc]
 rw [if_neg h1];refine Ab rfl (λh=>absurd (by simpa using h) h1) (λh=>?_);clear h;refine A9 rfl ?_;by_cases h2:s=2
 ·subst h2;refine Ah rfl λh=>?_;refine GQ rfl ?_;refine Aa rfl rfl (congrArg _ ?_);simp [Bool.and_assoc]
 rw [if_neg h2];refine Ab rfl (λh=>absurd (by simpa using h) h2) (λh=>?_);clear h;refine A9 rfl ?_;by_cases h3:s=3
 ·subst h3;refine Ah rfl λh=>?_;refine A9 rfl ?_;refine Ah rfl λh=>?_;refine GQ rfl ?_;refine Aa rfl rfl (congrArg _ ?_);simp [Bool.and_assoc]
 refine Ab rfl (λh=>absurd (by simpa using h) h3) (λh=>?_);clear h;refine A9 rfl ?_;by_cases h5:s=5
 ·subst h5;refine Ah rfl λh=>?_;refine GQ rfl ?_;refine Aa rfl rfl (congrArg _ ?_);simp [Bool.and_assoc]
 rw [if_neg (by simp [h3,h5])];refine Ab rfl (λh=>absurd (by simpa using h) h5) (λh=>?_);clear h;refine A9 rfl ?_;by_cases h4:s=4
 ·subst h4;refine Ah rfl λh=>?_;refine A9 rfl ?_;refine Af rfl (λ_=>DK x) (by simp [Ap]) ?_;refine Ee rfl ?_;refine Aa rfl rfl (congrArg _ ?_);simp [Bool.and_assoc]
 rw [if_neg h4];refine Ab rfl (λh=>absurd (by simpa using h) h4) (λh=>?_);clear h;refine A9 rfl ?_;exact Aa rfl rfl rfl
theorem pS (g:FuncId) (q:List V->Bool) (es:List (List V)) (hes:∀e∈es,e.length=4) (hlen:es.length<=9223372036854775807)
  (hq:∀e∈es,Al Tryz.prog g [.agg e] (.bool (q e))) :
  Al Tryz.prog 63 [.sl es,.fn (.func g)] (.int .i64 (EX q es 0)):=by
 refine Ae AL Tryz.func63 (by decide +kernel) rfl [2,3,4] rfl rfl ?_;refine Bl rfl ?_;refine An (λi:Nat=>[(8,.imm (.int .i64 i)),(7,.imm (.int .i64 es.length)),(0,.imm (.sl es)),(1,.imm (.fn (.func g)))]) (λ_=>[]) [2,3,4] (λi=>es.length-i)
  (λi=>i<=es.length/\EX q es 0=EX q (es.drop i) i) 0 ⟨Nat.zero_le _,rfl⟩ ⟨rfl,A0 (by simp),rfl,rfl,trivial⟩ trivial rfl λi hi ih=>?_
 refine A9 rfl ?_;have hi2:=hi.2;refine Ab rfl (λh=>?_) (λh=>?_)
 ·simp at h;obtain ⟨e,he⟩:=As h;have hm:=List.mem_of_getElem? he;rw [Av he] at hi2;refine A9 rfl ?_;refine bi rfl (c:=e) (λ_=>⟨by simp,by simpa using he,hes e hm⟩) (by simp) ?_;refine bg [] rfl (by simp [hes e hm]) ?_;refine Af rfl (λ_=>hq e hm) (by simp) ?_;refine Bl rfl ?_;refine Ab rfl (λh=>?_) (λh=>?_)
  ·refine A9 rfl ?_;exact Au ⟨_,rfl,tV (congrArg _ (by rw [hi2];simp [EX,h])),trivial⟩
  ·refine A9 rfl ?_;exact Ad (ih (i+1) (by omega) ⟨by omega,by rw [hi2];simp [EX,h]⟩) ⟨A0 (B2 (by omega) (by omega)),rfl,rfl,rfl,trivial⟩ trivial rfl
 ·refine A9 rfl ?_;simp at h;refine Aa rfl rfl (congrArg _ ?_);rw [hi2,List.drop_eq_nil_of_le (by omega)];rfl
theorem dV (g:FuncId) (q:List V->Bool) (es:List (List V)) (hes:∀e∈es,e.length=4) (hlen:es.length<=9223372036854775807)
  (hq:∀e∈es,Al Tryz.prog g [.agg e] (.bool (q e))) :
  Al Tryz.prog 157 [.sl es,.fn (.func g)] (.bool (es.any q)):=by
 refine Ae AL Tryz.func157 (by decide +kernel) rfl [2,3,4] rfl rfl ?_;refine Bl rfl ?_;refine Af rfl (λ_=>pS g q es hes hlen hq) (by simp) ?_;refine Bl rfl ?_;refine Aa rfl rfl (congrArg _ ?_);rw [Bool.eq_iff_iff,<- IF q es 0];simp
mutual
def Pw:Ty->Bool
 | .mk s n x ps=>P4 s n x ps.length&&ZU ps
def ZU:List Ty->Bool
 | []=>true
 | t::r=>Pw t&&ZU r
end
theorem Xe:∀l:List Ty,ZU l=l.all Pw
 | []=>rfl
 | t::r=>by simp [ZU,Xe r]
theorem kY (v:Ty) (h:Al Tryz.prog 115 [.agg (Ao v)] (.bool (Pw v))):Al Tryz.prog 158 [.agg (Ao v)] (.bool (!Pw v)):=by
 obtain ⟨s,n,x,ps⟩:=v;generalize Pw (.mk s n x ps)=b at *;refine Ae AL Tryz.func158 (by decide +kernel) rfl [1,2,3] rfl rfl ?_;refine Bl rfl ?_;refine Ag rfl h ?_;refine Bl rfl ?_;exact Aa rfl rfl rfl
theorem ZV:∀v:Ty,Al Tryz.prog 115 [.agg (Ao v)] (.bool (Pw v))
 | .mk s n x ps=>by
  have hP:=bQ (.mk s n x ps) ps.length;simp only at hP;have hO:=Z0 (.mk s n x ps);refine AW λhv=>?_;simp [Ct,ET,Ao,maxLen] at hv;have hC:=dV 158 (qOf Ao (λv=>!Pw v)) (Bx ps) (λe he=>by rw [C8] at he;obtain ⟨t,_,rfl⟩:=List.mem_map.1 he;simp) (by simpa using hv.1)
   (λe he=>by
    rw [C8] at he;obtain ⟨t,ht,rfl⟩:=List.mem_map.1 he;rw [JX HC];exact kY t (ZV t))
  refine Ae AL Tryz.func115 (by decide +kernel) rfl [1,2,3] rfl rfl ?_;refine Bl rfl ?_;refine Ag rfl hO ?_;refine Bl rfl ?_;refine Af rfl (v:=.bool (P4 s n x ps.length)) (λ_=>by simpa using hP) (by simp) ?_;refine Bl rfl ?_;refine AE rfl hC ?_;refine bg [] rfl (by simp [Ap];rfl) ?_;refine Aa rfl rfl (congrArg _ ?_);rw [C8,List.any_map,show (qOf Ao (λv=>!Pw v) ∘ Ao)=(λv=>!Pw v) from funext λv=>JX HC _ v];simp [Pw,Xe,List.all_eq_not_any_not]
termination_by v=>SizeOf.sizeOf v
decreasing_by
 have:=List.sizeOf_lt_of_mem ht;simp_wf;omega
theorem Y3 (v:Ty):Al Tryz.prog 61 [.agg (Ao v)] (.bool (decide (0<=Db v 20000 100)&&Pw v)):=by
 have hW:=PQ v 20000 100 (by decide) (by decide) (by decide) (by decide);have hA:=ZV v;obtain ⟨s,n,x,ps⟩:=v;refine Ae AL Tryz.func61 (by decide +kernel) rfl [1,2,3] rfl rfl ?_;refine Bl rfl ?_;refine Ag rfl hW ?_;refine Bl rfl ?_;refine AE rfl hA ?_;refine Ee rfl ?_;refine Aa rfl rfl (congrArg _ ?_);simp
theorem Kv {l:List Str} {s:Str}:G6 l s=true↔s∈l:=by
 induction l with
 | nil=>simp [G6]
 | cons x r ih=>simp only [G6,Bool.or_eq_true,beq_iff_eq,ih,List.mem_cons];exact ⟨λh=>h.imp Eq.symm id,λh=>h.imp Eq.symm id⟩
theorem UG {l:List Str}:∀{pre:List Str},Bd pre l=true↔l.Nodup/\∀s∈l,s∉pre:=by
 induction l with
 | nil=>intro pre;simp [Bd]
 | cons x r ih =>
  intro pre;simp only [Bd,Bool.and_eq_true,Bool.not_eq_true',ih,List.nodup_cons,List.mem_cons,List.mem_append,List.not_mem_nil,or_false];have:G6 pre x=false↔x∉pre:=by rw [<- Bool.not_eq_true,Kv]
  rw [this];constructor
  ·rintro ⟨h1,h2,h3⟩;exact ⟨⟨λhx=>h3 x hx (.inr rfl),h2⟩,λs hs=>hs.elim (λe=>e ▸ h1) λh hp=>h3 s h (.inl hp)⟩
  ·rintro ⟨⟨h1,h2⟩,h3⟩;exact ⟨h3 x (.inl rfl),h2,λs hs hp=>hp.elim (h3 s (.inr hs)) λe=>h1 (e ▸ hs)⟩
theorem OU {l:List Str}:B3 l=true↔l.Nodup:=by
 unfold B3;rw [UG];simp
def EU (l:List (Str×V)):List (V×V):=l.map λp=>(.str p.1,p.2)
def Ll (m:List (V×V)) (p:Str×V):List (V×V):=EV m (.str p.1) p.2
def XT (l:List (Str×V)):List (V×V):=l.foldl Ll []
def FY (m:List (V×V)):Prop:=∀p∈m,Js .str p.1=true
theorem EK (l:List (Str×V)):FY (EU l):=by
 intro p hp;obtain ⟨q,_,rfl⟩:=List.mem_map.1 hp;rfl
theorem SP {m:List (V×V)} (h:FY m) (s:Str) (v:V):FY (EV m (.str s) v):=by
 induction m with
 | nil=>intro p hp;simp only [EV,List.mem_singleton] at hp;subst hp;rfl
 | cons a r ih =>
  obtain ⟨k,e⟩:=a;have h1:FY r:=λp hp=>h p (by simp [hp]);simp only [EV]
  split
  ·intro p hp;rcases List.mem_cons.1 hp with rfl | hp
   ·rfl
   ·exact h1 p hp
  ·intro p hp;rcases List.mem_cons.1 hp with rfl | hp
   ·exact h _ (by simp)
   ·exact ih h1 p hp
theorem XS (l:List (Str×V)):∀m,FY m->FY (l.foldl Ll m):=by
 induction l with
 | nil=>intro m h;exact h
 | cons p r ih=>intro m h;exact ih _ (SP h _ _)
theorem VT (l:List (Str×V)):FY (XT l):=XS l [] λp hp=>by cases hp
theorem gG {m:List (V×V)} (s:Str) (v:V):(C6 m (.str s)=none->(EV m (.str s) v).length=m.length+1)/\(C6 m (.str s)≠none->(EV m (.str s) v).length=m.length):=by
 induction m with
 | nil=>simp [C6,EV]
 | cons a r ih =>
  obtain ⟨k,e⟩:=a;simp only [C6,EV];cases h:WB (.str s) k
  ·simpa using ih
  ·simp
theorem aW {m:List (V×V)} (s t:Str) (v:V) (hk:FY m):(C6 (EV m (.str s) v) (.str t)=none)↔(C6 m (.str t)=none/\s≠t):=by
 induction m with
 | nil =>
  simp only [EV,C6,WB,beq_iff_eq];by_cases e:t=s
  ·subst e;simp
  ·have e':¬s=t:=λh=>e h.symm;simp [e,e']
 | cons a r ih =>
  obtain ⟨k,e⟩:=a;have h1:FY r:=λp hp=>hk p (by simp [hp]);have h0:=hk (k,e) (by simp);cases k with
  | str x =>
   simp only [EV,C6,WB];by_cases hx:s=x
   ·subst hx;simp only [beq_self_eq_true,if_true,C6,WB];by_cases ht:t=s
    ·simp [ht]
    ·simp only [beq_iff_eq,ht,if_false];exact ⟨λh=>⟨h,λe=>ht e.symm⟩,λh=>h.1⟩
   ·simp only [beq_iff_eq,hx,if_false,C6,WB];by_cases ht:t=x
    ·simp [ht]
    ·simp only [ht,if_false];exact ih h1
  | _=>simp [Js] at h0
theorem iX:∀(l:List (Str×V)) (pre:List Str) (m:List (V×V)),FY m->(∀s,C6 m (.str s)=none↔s∉pre)->m.length<=pre.length ->
  (l.foldl Ll m).length<=pre.length+l.length/\(Bd pre (l.map (·.1))=false\/m.length<pre.length->(l.foldl Ll m).length<pre.length+l.length)/\(Bd pre (l.map (·.1))=true->m.length=pre.length->(l.foldl Ll m).length=pre.length+l.length)
 | [],pre,m,hk,h,hl=>by
  simp only [List.foldl_nil,List.length_nil,List.map_nil,Bd];exact ⟨by omega,λh=>by rcases h with h | h;exact absurd h (by simp);omega,λ_ h=>by omega⟩
 | p::r,pre,m,hk,h,hl=>by
  have hL:=gG (m:=m) p.1 p.2;have hm:(Ll m p).length<=(pre++[p.1]).length:=by
   simp only [Ll,List.length_append,List.length_singleton];by_cases hn:C6 m (.str p.1)=none
   ·rw [hL.1 hn];omega
   ·rw [hL.2 hn];omega
  have hs:∀s,C6 (Ll m p) (.str s)=none↔s∉pre++[p.1]:=λs=>by
   simp only [Ll,aW _ _ _ hk,h s,List.mem_append,List.mem_singleton,not_or];exact ⟨λ⟨a,b⟩=>⟨a,λe=>b e.symm⟩,λ⟨a,b⟩=>⟨a,λe=>b e.symm⟩⟩
  have ih:=iX r (pre++[p.1]) (Ll m p) (SP hk _ _) hs hm;simp only [List.length_append,List.length_singleton] at ih;simp only [List.foldl_cons,List.length_cons,List.map_cons,Bd];obtain ⟨i1,i2,i3⟩:=ih;refine ⟨by omega,λhc=>?_,λhd he=>?_⟩
  ·by_cases hp:G6 pre p.1=true
   ·have hn:C6 m (.str p.1)≠none:=λhn=>(h p.1).1 hn (Kv.1 hp);have:(Ll m p).length=m.length:=hL.2 hn;have:=i2 (.inr (by omega));omega
   ·have hp:G6 pre p.1=false:=by simpa using hp
    rcases hc with hc | hc
    ·rw [hp] at hc;have:=i2 (.inl (by simpa using hc));omega
    ·have hn:C6 m (.str p.1)=none:=(h p.1).2 λhm=>by rw [Kv.2 hm] at hp;cases hp
     have:(Ll m p).length=m.length+1:=hL.1 hn;have:=i2 (.inr (by omega));omega
  ·simp only [Bool.and_eq_true,Bool.not_eq_true'] at hd;have hn:C6 m (.str p.1)=none:=(h p.1).2 λhm=>by rw [Kv.2 hm] at hd;exact absurd hd.1 (by simp)
   have:(Ll m p).length=m.length+1:=hL.1 hn;have:=i3 hd.2 (by omega);omega
theorem Z7 (l:List (Str×V)):(XT l).length<=l.length/\(decide ((XT l).length<l.length) = !B3 (l.map (·.1))):=by
 obtain ⟨h1,h2,h3⟩:=iX l [] [] (λp hp=>by cases hp) (λs=>by simp [C6]) (Nat.le_refl _);have h0:([]:List Str).length=0:=rfl;refine ⟨by unfold XT;omega,?_⟩;unfold B3;cases hd:Bd [] (l.map (·.1)) with
 | true=>have:=h3 hd rfl;unfold XT;simp;omega
 | false=>have:=h2 (.inl hd);unfold XT;simp;omega
theorem gF (l:List (Str×V)) (s:Str) (v:V) (h:s∉l.map (·.1)):EV (EU l) (.str s) v=EU (l++[(s,v)]):=by
 induction l with
 | nil=>rfl
 | cons a r ih =>
  simp only [List.map_cons,List.mem_cons,not_or] at h;simp only [EU,List.map_cons,EV,WB,List.cons_append,beq_iff_eq,h.1,if_false] at ih ⊢;rw [ih h.2]
theorem M5:∀(l pre:List (Str×V)),Bd (pre.map (·.1)) (l.map (·.1))=true->l.foldl Ll (EU pre)=EU (pre++l)
 | [],pre,_=>by simp
 | p::r,pre,h=>by
  simp only [List.map_cons,Bd,Bool.and_eq_true,Bool.not_eq_true'] at h;have hn:p.1∉pre.map (·.1):=λhm=>by rw [Kv.2 hm] at h;exact absurd h.1 (by simp)
  have:=M5 r (pre++[p]) (by simpa using h.2);simp only [List.foldl_cons,Ll,gF pre p.1 p.2 hn] at this ⊢;rw [this];simp
theorem QG (l:List (Str×V)) (h:B3 (l.map (·.1))=true):XT l=EU l:=by
 have:=M5 l [] h;simpa [XT,EU] using this
def CI:Nat->List Dt->List (Str×V)
 | _,[]=>[]
 | i,d::r=>(d.name,.int .i64 i)::CI (i+1) r
def Ec (i:Nat):Nat->List Cd->List (Str×V)
 | _,[]=>[]
 | k,c::r=>(c.name,.agg [.int .i64 i,.int .i64 k])::Ec i (k+1) r
def DP:Nat->List Dt->List (Str×V)
 | _,[]=>[]
 | i,d::r=>Ec i 0 d.cons++DP (i+1) r
theorem GO:∀(i:Nat) (ds:List Dt),(CI i ds).map (·.1)=CH ds
 | _,[]=>rfl
 | i,d::r=>by simp [CI,CH];exact GO (i+1) r
theorem MW (i:Nat):∀(k:Nat) (cs:List Cd),(Ec i k cs).map (·.1)=cs.map Cd.name
 | _,[]=>rfl
 | k,c::r=>by simp [Ec];exact MW i (k+1) r
theorem If:∀(i:Nat) (ds:List Dt),(DP i ds).map (·.1)=Cn ds
 | _,[]=>rfl
 | i,d::r=>by simp only [DP,List.map_append,MW,If (i+1) r];simp [Cn]
theorem Lw:∀(i:Nat) (a b:List Dt),CI i (a++b)=CI i a++CI (i+a.length) b
 | _,[],_=>rfl
 | i,d::r,b=>by simp only [List.cons_append,CI,List.length_cons,Lw (i+1) r b];rw [Nat.add_assoc,Nat.add_comm 1]
theorem Ly (i:Nat):∀(k:Nat) (a b:List Cd),Ec i k (a++b)=Ec i k a++Ec i (k+a.length) b
 | _,[],_=>rfl
 | k,d::r,b=>by simp only [List.cons_append,Ec,List.length_cons,Ly i (k+1) r b];rw [Nat.add_assoc,Nat.add_comm 1]
theorem MV:∀(i:Nat) (a b:List Dt),DP i (a++b)=DP i a++DP (i+a.length) b
 | _,[],_=>rfl
 | i,d::r,b=>by simp only [List.cons_append,DP,List.length_cons,MV (i+1) r b,List.append_assoc];rw [Nat.add_assoc,Nat.add_comm 1]
theorem LR (s:Str):∀(ds:List Dt) (i:Nat),C6 (EU (CI i ds)) (.str s)=if 0<=Ba s i ds then some (.int .i64 (Ba s i ds)) else none
 | [],i=>by simp [CI,EU,C6,Ba]
 | d::r,i=>by
  simp only [CI,EU,List.map_cons,C6,WB,beq_iff_eq];by_cases h:s=d.name
  ·have:Ba s i (d::r)=i:=by simp [Ba,h]
   rw [this,if_pos h];simp
  ·have:Ba s i (d::r)=Ba s (i+1) r:=by simp only [Ba];rw [if_neg (λe=>h e.symm)]
   rw [if_neg h,this];exact LR s r (i+1)
def Gu (s:Str):Nat->List Dt->Option (Nat×Int)
 | _,[]=>none
 | i,d::r=>if 0<=(Di s 0 d.cons).2 then some (i,(Di s 0 d.cons).2) else Gu s (i+1) r
theorem R4 (s:Str) (i:Nat) (rest:List (Str×V)):∀(cs:List Cd) (k:Nat),C6 (EU (Ec i k cs++rest)) (.str s)=if 0<=(Di s k cs).2 then some (.agg [.int .i64 i,.int .i64 (Di s k cs).2]) else C6 (EU rest) (.str s)
 | [],k=>by simp [Ec,Di]
 | c::r,k=>by
  simp only [Ec,EU,List.cons_append,List.map_cons,C6,WB,beq_iff_eq];by_cases h:s=c.name
  ·have:(Di s k (c::r)).2=k:=by simp [Di,h]
   rw [this,if_pos h];simp
  ·have:Di s k (c::r)=Di s (k+1) r:=by simp only [Di];rw [if_neg (λe=>h e.symm)]
   rw [if_neg h,this];exact R4 s i rest r (k+1)
theorem NX (s:Str):∀(ds:List Dt) (i:Nat),C6 (EU (DP i ds)) (.str s)=(match Gu s i ds with | some (a,b)=>some (.agg [.int .i64 a,.int .i64 b]) | none=>none)
 | [],i=>by simp [DP,EU,C6,Gu]
 | d::r,i=>by
  simp only [DP,Gu,R4]
  split
  ·rfl
  ·exact NX s r (i+1)
theorem WQ {s:Str}:∀{l:List Cd} {i:Nat},0<=(Di s i l).2->∃k,(Di s i l).2=((i+k:Nat):Int)/\l[k]?=some (Di s i l).1
 | [],i,h=>by simp [Di] at h
 | c::r,i,h=>by
  simp only [Di] at h ⊢;by_cases e:c.name=s
  ·rw [if_pos e];exact ⟨0,by simp,by simp⟩
  ·rw [if_neg e] at h ⊢;obtain ⟨k,h1,h2⟩:=WQ (l:=r) h;exact ⟨k+1,by rw [h1];omega,by simpa using h2⟩
theorem LN {s:Str}:∀{ds:List Dt} {i a:Nat} {b:Int},Gu s i ds=some (a,b)->∃k d,a=i+k/\ds[k]?=some d/\(Di s 0 d.cons).2=b/\0<=b
 | [],i,a,b,h=>by simp [Gu] at h
 | d::r,i,a,b,h=>by
  simp only [Gu] at h
  split at h
  ·rename_i h0;cases h;exact ⟨0,d,rfl,rfl,rfl,h0⟩
  ·obtain ⟨k,e,h1,h2,h3⟩:=LN h;exact ⟨k+1,e,by omega,by simpa using h2,h3⟩
theorem Rp {s:Str}:∀{ds:List Dt} {i:Nat},Gu s i ds=none->∀d∈ds,¬0<=(Di s 0 d.cons).2
 | [],i,_,d,hd=>by cases hd
 | e::r,i,h,d,hd=>by
  simp only [Gu] at h
  split at h
  ·cases h
  ·rename_i h0;rcases List.mem_cons.1 hd with rfl | hd
   ·exact h0
   ·exact Rp h d hd
theorem TQ {ds:List Dt} {d:Dt} {c:Cd} (hd:d∈ds) (hc:c∈d.cons):c.name∈Cn ds:=by
 simp only [Cn,List.mem_flatMap];exact ⟨d,hd,List.mem_map.2 ⟨c,hc,rfl⟩⟩
theorem R2:∀{ds:List Dt} {i j:Nat} {d e:Dt} {c c':Cd},(Cn ds).Nodup->ds[i]?=some d->ds[j]?=some e->c∈d.cons->c'∈e.cons->c.name=c'.name->i=j
 | [],i,j,d,e,c,c',_,h,_,_,_,_=>by simp at h
 | x::r,i,j,d,e,c,c',hn,hi,hj,hc,hc',hs=>by
  have hn':(x.cons.map Cd.name++Cn r).Nodup:=by simpa [Cn] using hn
  obtain ⟨n1,n2,n3⟩:=List.nodup_append.1 hn';cases i with
  | zero =>
   simp at hi;subst hi;cases j with
   | zero=>rfl
   | succ j=>exact absurd hs (n3 _ (List.mem_map.2 ⟨c,hc,rfl⟩) _ (TQ (List.mem_of_getElem? (by simpa using hj)) hc'))
  | succ i =>
   cases j with
   | zero =>
    simp at hj;subst hj;exact absurd hs.symm (n3 _ (List.mem_map.2 ⟨c',hc',rfl⟩) _ (TQ (List.mem_of_getElem? (by simpa using hi)) hc))
   | succ j=>exact congrArg (· + 1) (R2 n2 (by simpa using hi) (by simpa using hj) hc hc' hs)
theorem W4 {ds:List Dt} (hn:B3 (Cn ds)=true) {n:Int} {x s:Str} {ps:List Ty} (hp:0<=Ba x 0 ds) :
  (match Gu s 0 ds with | some (a,b)=>(decide ((a:Int)=Ba x 0 ds)=decide (0<=(BN ds (.mk 8 n x ps) s).2))/\((a:Int)=Ba x 0 ds->∃d,ds[a]?=some d/\0<=b/\d.cons[b.toNat]?=some (BN ds (.mk 8 n x ps) s).1)/\a<ds.length | none=>(BN ds (.mk 8 n x ps) s).2<0):=by
 have hn:=OU.1 hn;obtain ⟨k,d,h1,h2,h3⟩:=Ho x ds 0 hp;have hcD:BN ds (.mk 8 n x ps) s=Di s 0 d.cons:=by simp [BN,h1,h2]
 rw [hcD];cases hf:Gu s 0 ds with
 | none =>
  have:=Rp hf d (List.mem_of_getElem? h2);simp only;omega
 | some p =>
  obtain ⟨a,b⟩:=p;obtain ⟨k',e,q1,q2,q3,q4⟩:=LN hf;simp only [Nat.zero_add] at q1;subst q1;have hget:=WQ (s:=s) (l:=e.cons) (i:=0) (by omega);obtain ⟨j,j1,j2⟩:=hget;have hlt:a<ds.length:=(List.getElem?_eq_some_iff.1 q2).1;refine ⟨?_,λha=>?_,hlt⟩
  ·rw [h1];by_cases hc:0<=(Di s 0 d.cons).2
   ·have m1:=IO (s:=s) (l:=d.cons) (i:=0) hc;have m2:=IO (s:=s) (l:=e.cons) (i:=0) (by omega);have:=R2 hn q2 h2 m2.1 m1.1 (m2.2.trans m1.2.symm);subst this;simp [hc]
   ·have:a≠k:=λhe=>by
     subst he;rw [h2] at q2;cases q2;exact hc (by omega)
    simp [hc];omega
  ·have hak:a=k:=by omega
   subst hak;rw [h2] at q2;cases q2;refine ⟨d,h2,q4,?_⟩;rw [<- q3,j1];simpa using j2
def eT (c:Cse) (sz:List (List V)):List V:=dCse c++[.mapv (EU (CI 0 c.datas)),.mapv (EU (DP 0 c.datas)),.sl sz]
def AQ (c:Cse) (sz:List (List V)):V:=.ip 150 (eT c sz) 0
mutual
def Eu (q:Ty->Bool):Ty->Bool
 | .mk s n x ps=>q (.mk s n x ps)&&E6 q ps
def E6 (q:Ty->Bool):List Ty->Bool
 | []=>true
 | t::r=>Eu q t&&E6 q r
end
theorem SA (f:FuncId) (a b:List V) (q:Ty->Bool) (hq:∀t,Al Tryz.prog f (a++[.agg (Ao t)]++b) (.bool (q t))):∀t:Ty,Al Tryz.prog 84 [.agg (Ao t),.clo (.func f) a b] (.bool (Eu q t))
 | .mk s n x ps=>by
  refine AW λhv=>?_;simp [Ct,ET,Ao,maxLen] at hv;simp only [Eu];have hq0:=hq (.mk s n x ps);generalize q (.mk s n x ps)=c at *;refine Ae AL Tryz.func84 (by decide +kernel) rfl [2,3,4,5] rfl rfl ?_;refine Bl rfl ?_;refine PD rfl (λ_=>hq0) (by simp) ?_;refine Bl rfl ?_;cases c with
  | false =>
   refine Ah rfl λh=>?_;refine A9 rfl ?_;exact Aa rfl rfl rfl
  | true =>
  refine At rfl λh=>?_;clear h;refine A9 rfl ?_;rw [Bool.true_and];refine An (λi:Nat=>[(14,.imm (.int .i64 i)),(13,.imm (.int .i64 ps.length)),(12,.imm (.sl (Bx ps))),(1,.imm (.clo (.func f) a b))]) (λ_=>[]) [2,3,4,5] (λi=>ps.length-i)
   (λi=>i<=ps.length/\E6 q ps=E6 q (ps.drop i)) 0 ⟨Nat.zero_le _,rfl⟩ ⟨rfl,A0 (by simp),rfl,rfl,trivial⟩ trivial rfl λi hi ih=>?_
  obtain ⟨hi1,hi2⟩:=hi;refine A9 rfl ?_;refine Ab rfl (λh=>?_) (λh=>?_)
  ·simp at h;obtain ⟨t,ht⟩:=As h;rw [Av ht] at hi2;simp only [E6] at hi2;refine A9 rfl ?_;refine bi rfl (c:=Ao t) (λ_=>⟨by simp,by simpa using A4 ht,by simp⟩) (by simp) ?_;refine Bl rfl ?_;refine Af rfl (λ_=>SA f a b q hq t) (by simp) ?_;refine Bl rfl ?_;refine Ab rfl (λh=>?_) (λh=>?_)
   ·refine A9 rfl ?_;refine Aa rfl rfl (congrArg _ ?_);simp at h;simp [hi2,h]
   ·refine A9 rfl ?_;simp at h;exact Ad (ih (i+1) (by omega) ⟨by omega,by rw [hi2];simp [h]⟩) ⟨A0 (B2 (by omega) (by omega)),rfl,rfl,rfl,trivial⟩ trivial rfl
  ·simp at h;refine Aw rfl ?_;refine A9 rfl ?_;rw [hi2,List.drop_eq_nil_of_le (by omega)];exact Aa rfl rfl rfl
termination_by t=>SizeOf.sizeOf t
decreasing_by
 have:=List.sizeOf_lt_of_mem (List.mem_of_getElem? ht);simp_wf;omega
theorem PW (f:FuncId) (q:Ty->Bool) (hq:∀t,Al Tryz.prog f [.agg (Ao t)] (.bool (q t))):∀t:Ty,Al Tryz.prog 84 [.agg (Ao t),.fn (.func f)] (.bool (Eu q t))
 | .mk s n x ps=>by
  refine AW λhv=>?_;simp [Ct,ET,Ao,maxLen] at hv;simp only [Eu];have hq0:=hq (.mk s n x ps);generalize q (.mk s n x ps)=c at *;refine Ae AL Tryz.func84 (by decide +kernel) rfl [2,3,4,5] rfl rfl ?_;refine Bl rfl ?_;refine Ag rfl hq0 ?_;refine Bl rfl ?_;cases c with
  | false =>
   refine Ah rfl λh=>?_;refine A9 rfl ?_;exact Aa rfl rfl rfl
  | true =>
  refine At rfl λh=>?_;clear h;refine A9 rfl ?_;rw [Bool.true_and];refine An (λi:Nat=>[(14,.imm (.int .i64 i)),(13,.imm (.int .i64 ps.length)),(12,.imm (.sl (Bx ps))),(1,.imm (.fn (.func f)))]) (λ_=>[]) [2,3,4,5] (λi=>ps.length-i)
   (λi=>i<=ps.length/\E6 q ps=E6 q (ps.drop i)) 0 ⟨Nat.zero_le _,rfl⟩ ⟨rfl,A0 (by simp),rfl,rfl,trivial⟩ trivial rfl λi hi ih=>?_
  obtain ⟨hi1,hi2⟩:=hi;refine A9 rfl ?_;refine Ab rfl (λh=>?_) (λh=>?_)
  ·simp at h;obtain ⟨t,ht⟩:=As h;rw [Av ht] at hi2;simp only [E6] at hi2;refine A9 rfl ?_;refine bi rfl (c:=Ao t) (λ_=>⟨by simp,by simpa using A4 ht,by simp⟩) (by simp) ?_;refine Bl rfl ?_;refine Af rfl (λ_=>PW f q hq t) (by simp) ?_;refine Bl rfl ?_;refine Ab rfl (λh=>?_) (λh=>?_)
   ·refine A9 rfl ?_;refine Aa rfl rfl (congrArg _ ?_);simp at h;simp [hi2,h]
   ·refine A9 rfl ?_;simp at h;exact Ad (ih (i+1) (by omega) ⟨by omega,by rw [hi2];simp [h]⟩) ⟨A0 (B2 (by omega) (by omega)),rfl,rfl,rfl,trivial⟩ trivial rfl
  ·simp at h;refine Aw rfl ?_;refine A9 rfl ?_;rw [hi2,List.drop_eq_nil_of_le (by omega)];exact Aa rfl rfl rfl
termination_by t=>SizeOf.sizeOf t
decreasing_by
 have:=List.sizeOf_lt_of_mem (List.mem_of_getElem? ht);simp_wf;omega
def K1 (ds:List Dt) (x:Str):Int:=if 0<=Ba x 0 ds then Ba x 0 ds else 0
theorem XU (ds:List Dt) (x:Str):Er true (EU (CI 0 ds)) (.str x) (.int .i64 0) = .imm (.tup [.int .i64 (K1 ds x),.bool (decide (0<=Ba x 0 ds))]):=by
 simp only [Er,LR,K1];by_cases h:0<=Ba x 0 ds <;> simp [h]
theorem HV (ds:List Dt) (x:Str):Er false (EU (CI 0 ds)) (.str x) (.int .i64 0) = .imm (.int .i64 (K1 ds x)):=by
 simp only [Er,LR,K1];by_cases h:0<=Ba x 0 ds <;> simp [h]
def Cg (ds:List Dt) (s:Str):Nat×Int:=match Gu s 0 ds with
 | some p=>p
 | none=>(0,0)
theorem cG (ds:List Dt) (s:Str):Er true (EU (DP 0 ds)) (.str s) (.agg [.int .i64 0,.int .i64 0]) = .imm (.tup [.agg [.int .i64 (Cg ds s).1,.int .i64 (Cg ds s).2],.bool (Gu s 0 ds).isSome]):=by
 simp only [Er,NX,Cg];cases h:Gu s 0 ds with
 | none=>simp
 | some p=>obtain ⟨a,b⟩:=p;simp
def NB (ds:List Dt):Ty->Bool
 | .mk s _ x _=>decide (0<=Ba x 0 ds) || !(s == 8)
theorem bX (c:Cse) (sz:List (List V)) (t:Ty):Al Tryz.prog 127 [.agg (Ao t),.ip 89 [AQ c sz] 0] (.bool (NB c.datas t)):=by
 obtain ⟨ds,⟨c1,c2,c3,c4⟩,rows⟩:=c;obtain ⟨s,n,x,ps⟩:=t;refine Uw ?_;refine Ae AL Tryz.func127 (by decide +kernel) rfl [2,3,4,5] rfl rfl ?_;refine Bl rfl ?_;refine Gr AL rfl rfl rfl (EK _) (by simp [Ap]) (z:=.int .i64 0) rfl (λ_=>.int _ _) (XU ds x) ?_;refine bg [] rfl (by simp [Ap];rfl) ?_;refine Aa rfl rfl (congrArg _ ?_);simp [NB,bne]
mutual
theorem Mg (ds:List Dt):∀t:Ty,Eu (NB ds) t=AI ds t
 | .mk s n x ps=>by
  simp only [Eu,AI,Lm ds ps,NB];congr 1;by_cases h:0<=Ba x 0 ds
  ·simp [h]
  ·simp [h]
theorem Lm (ds:List Dt):∀l:List Ty,E6 (NB ds) l=Bn ds l
 | []=>rfl
 | t::r=>by simp only [E6,Bn,Mg ds t,Lm ds r]
end
theorem Sx (c:Cse) (sz:List (List V)) (t:Ty):Al Tryz.prog 83 [AQ c sz,.agg (Ao t)] (.bool (AI c.datas t)):=by
 rw [<- Mg];obtain ⟨s,n,x,ps⟩:=t;refine Ae AL Tryz.func83 (by decide +kernel) rfl [2,3,4,5] rfl rfl ?_;refine Bl rfl ?_;refine Ia rfl (λ_=>SA 127 [] [.ip 89 [AQ c sz] 0] (NB c.datas) (λt=>bX c sz t) (.mk s n x ps)) rfl (by simp) ?_;refine Bl rfl ?_;exact Aa rfl rfl rfl
theorem Vc (t:Ty):Al Tryz.prog 85 [.agg (Ao t)] (.bool (match t with | .mk s _ _ _=>!(s == 9))):=by
 obtain ⟨s,n,x,ps⟩:=t;refine Ae AL Tryz.func85 (by decide +kernel) rfl [2,3,4,5] rfl rfl ?_;refine Bl rfl ?_;refine Aa rfl rfl (congrArg _ ?_);simp [bne]
def AZ (ds:List Dt) (t:Ty) (s:Str):List Ty×Bool:=bif decide (0<=(BN ds t s).2) then ((BN ds t s).1.args,true) else ([],false)
theorem PK (c:Cse) (sz:List (List V)) (t:Ty) (s:Str) (hn:B3 (Cn c.datas)=true) (ht:AI c.datas t=true) :
  Al Tryz.prog 116 [AQ c sz,.agg (Ao t),.str s] (.tup [.sl (Bx (AZ c.datas t s).1),.bool (AZ c.datas t s).2]):=by
 obtain ⟨ds,⟨c1,c2,c3,c4⟩,rows⟩:=c;obtain ⟨so,n,x,ps⟩:=t;simp only at hn ht;refine Ae AL Tryz.func116 (by decide +kernel) rfl [2,3,4,5] rfl rfl ?_;refine Bl rfl ?_;refine Gr AL rfl rfl rfl (EK _) (by simp [Ap]) (z:=.agg #[.int .i64 0,.int .i64 0]) rfl (λ_=>.agg _ _ rfl (by decide) (λi c x h1 h2=>by match i,h1,h2 with | 0,h1,h2=>cases h1;cases h2;exact .int _ _ | 1,h1,h2=>cases h1;cases h2;exact .int _ _ | i+2,h1,h2=>simp at h2)) (cG ds s) ?_;refine Bl rfl ?_;by_cases h8:so=8
 case neg =>
  refine Gr AL rfl rfl rfl (EK _) (by simp [Ap]) (z:=.int .i64 0) rfl (λ_=>.int _ _) (HV ds x) ?_;refine bg [] rfl (by simp [Ap];rfl) ?_;refine Ab rfl (λh=>?_) (λh=>by simp [h8] at h);refine A9 rfl ?_;rw [show AZ ds (.mk so n x ps) s=([],false) by simp [AZ,BN,h8]];exact Aa rfl rfl rfl
 subst h8;have hp:=(Cr ht 8 n x ps rfl rfl).1;have hf:=W4 hn (n:=n) (s:=s) (ps:=ps) hp;refine Gr AL rfl rfl rfl (EK _) (by simp [Ap]) (z:=.int .i64 0) rfl (λ_=>.int _ _) (HV ds x) ?_;refine bg [] rfl (by simp [Ap];rfl) ?_;rw [show K1 ds x=Ba x 0 ds by simp [K1,hp]];unfold Cg;cases hfs:Gu s 0 ds with
 | none =>
  rw [hfs] at hf;refine Ah rfl λh=>?_;refine A9 rfl ?_;have hf:¬0<=(BN ds (.mk 8 n x ps) s).2:=by have:(BN ds (.mk 8 n x ps) s).2<0:=hf;omega
  rw [show AZ ds (.mk 8 n x ps) s=([],false) by simp [AZ,hf]];exact Aa rfl rfl rfl
 | some p =>
  obtain ⟨a,b⟩:=p;rw [hfs] at hf;obtain ⟨hf1,hf2,hf3⟩:=hf;refine Ab rfl (λh=>?_) (λh=>?_)
  ·refine A9 rfl ?_;have:¬0<=(BN ds (.mk 8 n x ps) s).2:=by
    have:¬((a:Int)=Ba x 0 ds):=by simp at h;exact λe=>h e.symm
    simpa [this] using hf1
   rw [show AZ ds (.mk 8 n x ps) s=([],false) by simp [AZ,this]];exact Aa rfl rfl rfl
  ·have ha:(a:Int)=Ba x 0 ds:=by simp at h;exact h.symm
   obtain ⟨d,hd,hb,hc⟩:=hf2 ha;have hc0:0<=(BN ds (.mk 8 n x ps) s).2:=by simpa [ha] using hf1
   rw [show AZ ds (.mk 8 n x ps) s=((BN ds (.mk 8 n x ps) s).1.args,true) by simp [AZ,hc0]];generalize (BN ds (.mk 8 n x ps) s).1=k at *;refine A9 rfl ?_;refine bi rfl (c:=Cv d) (λ_=>⟨by simp,by simpa using Be hd,by simp⟩) (by simp) ?_;obtain ⟨dn,dc⟩:=d;refine Bl rfl ?_;refine bi rfl (c:=CM k) (λ_=>⟨hb,by simpa using Be hc,by simp⟩) (by simp) ?_;obtain ⟨kn,ka⟩:=k;refine bg [] rfl (by simp;rfl) ?_;exact Aa rfl rfl rfl
theorem C4 {ds:List Dt} (ho:OkD ds) {t:Ty} {s:Str}:Bn ds (AZ ds t s).1=true:=by
 unfold AZ;by_cases h:0<=(BN ds t s).2
 ·simpa [h] using J6 ho h
 ·simp [h,Bn]
def KN (ds:List Dt):Ty->Ty->Bool
 | .mk so m x0 qs,.mk f _ x ps=>if f=3 then so == 1 else if f=4 then so == 2 else if f=5 then so == 3 else if f=6 then decide ((AZ ds (.mk so m x0 qs) x).1.length=ps.length)&&((AZ ds (.mk so m x0 qs) x).2&&Cp ds (AZ ds (.mk so m x0 qs) x).1 ps) else true
theorem N4 (ds:List Dt):∀t p:Ty,Cz ds t p=KN ds t p
 | .mk so m x0 qs,.mk f k x ps=>by
  simp only [Cz,KN,AZ];rw [J7 ds so 0 m x0 x [] qs];by_cases h:0<=(BN ds (.mk so m x0 qs) x).2
  ·simp [h]
  ·simp [h]
def LC (ds:List Dt):Ty->Ty->Bool
 | .mk so m x0 qs,.mk f _ x ps=>if so=1 then f == 1 else if so=2 then f == 2 else if so=3 then f == 3 else if so=8 then decide (f=4)&&(decide ((AZ ds (.mk so m x0 qs) x).1.length=ps.length)&&((AZ ds (.mk so m x0 qs) x).2&&Jf ds (AZ ds (.mk so m x0 qs) x).1 ps)) else f == 5
theorem Jg (ds:List Dt):∀t p:Ty,LE ds t p=LC ds t p
 | .mk so m x0 qs,.mk f k x ps=>by
  simp only [LE,LC,AZ];rw [J7 ds so 0 m x0 x [] qs];by_cases h:0<=(BN ds (.mk so m x0 qs) x).2
  ·simp [h]
  ·simp [h]
theorem ZH (c:Cse) (sz:List (List V)) (ho:OkD c.datas) (hd:B3 (Cn c.datas)=true):∀(p t:Ty),AI c.datas t=true->Al Tryz.prog 87 [AQ c sz,.agg (Ao t),.agg (Ao p)] (.bool (Cz c.datas t p))
 | .mk f n x ps,t,hn=>by
  have hcon:=PK c sz t x hd hn;have hnm:=C4 ho (t:=t) (s:=x);have hS:Cz c.datas t (.mk f n x ps)=KN c.datas t (.mk f n x ps):=N4 c.datas t (.mk f n x ps);rw [hS];obtain ⟨so,n0,x0,ps0⟩:=t;simp only [KN];generalize AZ c.datas (.mk so n0 x0 ps0) x=r at *;obtain ⟨ka,kb⟩:=r;refine AW λhv=>?_;simp [Ct,ET,Ao,maxLen] at hv;refine Ae AL Tryz.func87 (by decide +kernel) rfl [2,3,4,5,6,7] rfl rfl ?_;refine Bl rfl ?_;by_cases h3:f=3
  ·subst h3;refine Ah rfl λh=>?_;refine A9 rfl ?_;refine Aa rfl rfl (congrArg _ ?_);simp
  rw [if_neg h3];refine Ab rfl (λh=>absurd (by simpa using h) h3) (λh=>?_);clear h;refine A9 rfl ?_;by_cases h4:f=4
  ·subst h4;refine Ah rfl λh=>?_;refine A9 rfl ?_;refine Aa rfl rfl (congrArg _ ?_);simp
  rw [if_neg h4];refine Ab rfl (λh=>absurd (by simpa using h) h4) (λh=>?_);clear h;refine A9 rfl ?_;by_cases h5:f=5
  ·subst h5;refine Ah rfl λh=>?_;refine A9 rfl ?_;refine Aa rfl rfl (congrArg _ ?_);simp
  rw [if_neg h5];refine Ab rfl (λh=>absurd (by simpa using h) h5) (λh=>?_);clear h;refine A9 rfl ?_;by_cases h6:f=6
  case neg =>
   rw [if_neg h6];refine Ab rfl (λh=>absurd (by simpa using h) h6) (λh=>?_);refine A9 rfl ?_;refine Aa rfl rfl (congrArg _ ?_);simp
  rw [if_pos h6];refine Ab rfl (λh=>?_) (λh=>by simp [h6] at h);clear h;refine A9 rfl ?_;refine Ag rfl hcon ?_;refine Bl rfl ?_;by_cases hg:ka.length=ps.length/\kb=true
  case neg =>
   refine Ab rfl (λh=>?_) (λh=>?_)
   ·refine A9 rfl ?_;refine Aa rfl rfl (congrArg _ ?_);simp;grind
   ·exfalso;simp at h;apply hg;grind
  obtain ⟨hlen,rfl⟩:=hg;refine Ab rfl (λh=>by exfalso;simp [hlen] at h) (λh=>?_);clear h;refine A9 rfl ?_;simp only [hlen,decide_true,Bool.true_and];refine An (λi:Nat=>[(51,.imm (.int .i64 i)),(50,.imm (.int .i64 ps.length)),(49,.imm (.sl (Bx ps))),(0,.imm (AQ c sz)),(7,.imm (.sl (Bx ka)))]) (λ_=>[]) [4,5,6,7] (λi=>ps.length-i)
   (λi=>i<=ps.length/\Cp c.datas ka ps=Cp c.datas (ka.drop i) (ps.drop i)) 0 ⟨Nat.zero_le _,rfl⟩ ⟨rfl,A0 (by simp),rfl,rfl,rfl,trivial⟩ trivial rfl λi hi ih=>?_
  obtain ⟨hi1,hi2⟩:=hi;refine A9 rfl ?_;refine Ab rfl (λh=>?_) (λh=>?_)
  ·simp at h;obtain ⟨p,hp⟩:=As h;obtain ⟨a,ha⟩:=As (l:=ka) (i:=i) (by omega);rw [Av hp,Av ha] at hi2;simp only [Cp] at hi2;refine A9 rfl ?_;refine bi rfl (c:=Ao p) (λ_=>⟨by simp,by simpa using A4 hp,by simp⟩) (by simp) ?_;refine Bl rfl ?_;refine bi rfl (c:=Ao a) (λ_=>⟨by simp,by simpa using A4 ha,by simp⟩) (by simp) ?_;refine Bl rfl ?_;refine Af rfl (λ_=>ZH c sz ho hd p a (D3 hnm ha)) (by simp) ?_;refine bg [] rfl (by simp;rfl) ?_;refine Ab rfl (λh=>?_) (λh=>?_)
   ·refine A9 rfl ?_;refine Aa rfl rfl (congrArg _ ?_);simp at h;simp [hi2,h]
   ·refine A9 rfl ?_;simp at h;exact Ad (ih (i+1) (by omega) ⟨by omega,by rw [hi2];simp [h]⟩) ⟨A0 (B2 (by omega) (by omega)),rfl,rfl,rfl,rfl,trivial⟩ trivial rfl
  ·simp at h;refine Aw rfl ?_;refine A9 rfl ?_;rw [hi2,List.drop_eq_nil_of_le (by omega),List.drop_eq_nil_of_le (by omega)];exact Aa rfl rfl rfl
termination_by p=>SizeOf.sizeOf p
decreasing_by
 have:=List.sizeOf_lt_of_mem (List.mem_of_getElem? hp);simp_wf;omega
theorem oW (c:Cse) (sz:List (List V)) (ho:OkD c.datas) (hd:B3 (Cn c.datas)=true):∀(p t:Ty),AI c.datas t=true->Al Tryz.prog 62 [AQ c sz,.agg (Ao t),.agg (Ao p)] (.bool (LE c.datas t p))
 | .mk f n x ps,t,hn=>by
  have hcon:=PK c sz t x hd hn;have hnm:=C4 ho (t:=t) (s:=x);have hS:LE c.datas t (.mk f n x ps)=LC c.datas t (.mk f n x ps):=Jg c.datas t (.mk f n x ps);rw [hS];obtain ⟨so,n0,x0,ps0⟩:=t;simp only [LC];generalize AZ c.datas (.mk so n0 x0 ps0) x=r at *;obtain ⟨ka,kb⟩:=r;refine AW λhv=>?_;simp [Ct,ET,Ao,maxLen] at hv;refine Ae AL Tryz.func62 (by decide +kernel) rfl [2,3,4,5,6,7] rfl rfl ?_;refine Bl rfl ?_;by_cases h1:so=1
  ·subst h1;refine Ah rfl λh=>?_;refine A9 rfl ?_;refine Aa rfl rfl (congrArg _ ?_);simp
  rw [if_neg h1];refine Ab rfl (λh=>absurd (by simpa using h) h1) (λh=>?_);clear h;refine A9 rfl ?_;by_cases h2:so=2
  ·subst h2;refine Ah rfl λh=>?_;refine A9 rfl ?_;refine Aa rfl rfl (congrArg _ ?_);simp
  rw [if_neg h2];refine Ab rfl (λh=>absurd (by simpa using h) h2) (λh=>?_);clear h;refine A9 rfl ?_;by_cases h3:so=3
  ·subst h3;refine Ah rfl λh=>?_;refine A9 rfl ?_;refine Aa rfl rfl (congrArg _ ?_);simp
  rw [if_neg h3];refine Ab rfl (λh=>absurd (by simpa using h) h3) (λh=>?_);clear h;refine A9 rfl ?_;by_cases h8:so=8
  case neg =>
   rw [if_neg h8];refine Ab rfl (λh=>absurd (by simpa using h) h8) (λh=>?_);refine A9 rfl ?_;refine Aa rfl rfl (congrArg _ ?_);simp
  rw [if_pos h8];refine Ab rfl (λh=>?_) (λh=>by simp [h8] at h);clear h;refine A9 rfl ?_;refine Ag rfl hcon ?_;refine Bl rfl ?_;by_cases hg:f=4/\ka.length=ps.length/\kb=true
  case neg =>
   refine Ab rfl (λh=>?_) (λh=>?_)
   ·refine A9 rfl ?_;refine Aa rfl rfl (congrArg _ ?_);simp;grind
   ·exfalso;simp at h;apply hg;grind
  obtain ⟨rfl,hlen,rfl⟩:=hg;refine Ab rfl (λh=>by exfalso;simp [hlen] at h) (λh=>?_);clear h;refine A9 rfl ?_;simp only [hlen,decide_true,Bool.true_and];refine An (λi:Nat=>[(56,.imm (.int .i64 i)),(55,.imm (.int .i64 ps.length)),(54,.imm (.sl (Bx ps))),(0,.imm (AQ c sz)),(7,.imm (.sl (Bx ka)))]) (λ_=>[]) [4,5,6,7] (λi=>ps.length-i)
   (λi=>i<=ps.length/\Jf c.datas ka ps=Jf c.datas (ka.drop i) (ps.drop i)) 0 ⟨Nat.zero_le _,rfl⟩ ⟨rfl,A0 (by simp),rfl,rfl,rfl,trivial⟩ trivial rfl λi hi ih=>?_
  obtain ⟨hi1,hi2⟩:=hi;refine A9 rfl ?_;refine Ab rfl (λh=>?_) (λh=>?_)
  ·simp at h;obtain ⟨p,hp⟩:=As h;obtain ⟨a,ha⟩:=As (l:=ka) (i:=i) (by omega);rw [Av hp,Av ha] at hi2;simp only [Jf] at hi2;refine A9 rfl ?_;refine bi rfl (c:=Ao p) (λ_=>⟨by simp,by simpa using A4 hp,by simp⟩) (by simp) ?_;refine Bl rfl ?_;refine bi rfl (c:=Ao a) (λ_=>⟨by simp,by simpa using A4 ha,by simp⟩) (by simp) ?_;refine Bl rfl ?_;refine Af rfl (λ_=>oW c sz ho hd p a (D3 hnm ha)) (by simp) ?_;refine bg [] rfl (by simp;rfl) ?_;refine Ab rfl (λh=>?_) (λh=>?_)
   ·refine A9 rfl ?_;refine Aa rfl rfl (congrArg _ ?_);simp at h;simp [hi2,h]
   ·refine A9 rfl ?_;simp at h;exact Ad (ih (i+1) (by omega) ⟨by omega,by rw [hi2];simp [h]⟩) ⟨A0 (B2 (by omega) (by omega)),rfl,rfl,rfl,rfl,trivial⟩ trivial rfl
  ·simp at h;refine Aw rfl ?_;refine A9 rfl ?_;rw [hi2,List.drop_eq_nil_of_le (by omega),List.drop_eq_nil_of_le (by omega)];exact Aa rfl rfl rfl
termination_by p=>SizeOf.sizeOf p
decreasing_by
 have:=List.sizeOf_lt_of_mem (List.mem_of_getElem? hp);simp_wf;omega
theorem Yu (g:FuncId) (a b:List V) (q:List V->Bool) (es:List (List V)) (hes:∀e∈es,e.length=4) (hlen:es.length<=9223372036854775807)
  (hq:∀e∈es,Al Tryz.prog g (a++[.agg e]++b) (.bool (q e))) :
  Al Tryz.prog 166 [.sl es,.clo (.func g) a b] (.int .i64 (EX q es 0)):=by
 refine Ae AL Tryz.func166 (by decide +kernel) rfl [2,3,4] rfl rfl ?_;refine Bl rfl ?_;refine An (λi:Nat=>[(8,.imm (.int .i64 i)),(7,.imm (.int .i64 es.length)),(0,.imm (.sl es)),(1,.imm (.clo (.func g) a b))]) (λ_=>[]) [2,3,4] (λi=>es.length-i)
  (λi=>i<=es.length/\EX q es 0=EX q (es.drop i) i) 0 ⟨Nat.zero_le _,rfl⟩ ⟨rfl,A0 (by simp),rfl,rfl,trivial⟩ trivial rfl λi hi ih=>?_
 refine A9 rfl ?_;have hi2:=hi.2;refine Ab rfl (λh=>?_) (λh=>?_)
 ·simp at h;obtain ⟨e,he⟩:=As h;have hm:=List.mem_of_getElem? he;rw [Av he] at hi2;refine A9 rfl ?_;refine bi rfl (c:=e) (λ_=>⟨by simp,by simpa using he,hes e hm⟩) (by simp) ?_;refine bg [] rfl (by simp [hes e hm]) ?_;refine PD rfl (λ_=>hq e hm) (by simp) ?_;refine Bl rfl ?_;refine Ab rfl (λh=>?_) (λh=>?_)
  ·refine A9 rfl ?_;exact Au ⟨_,rfl,tV (congrArg _ (by rw [hi2];simp [EX,h])),trivial⟩
  ·refine A9 rfl ?_;exact Ad (ih (i+1) (by omega) ⟨by omega,by rw [hi2];simp [EX,h]⟩) ⟨A0 (B2 (by omega) (by omega)),rfl,rfl,rfl,trivial⟩ trivial rfl
 ·refine A9 rfl ?_;simp at h;refine Aa rfl rfl (congrArg _ ?_);rw [hi2,List.drop_eq_nil_of_le (by omega)];rfl
theorem So (g:FuncId) (a b:List V) (q:List V->Bool) (es:List (List V)) (hes:∀e∈es,e.length=4) (hlen:es.length<=9223372036854775807)
  (hq:∀e∈es,Al Tryz.prog g (a++[.agg e]++b) (.bool (q e))) :
  Al Tryz.prog 124 [.sl es,.clo (.func g) a b] (.bool (es.any q)):=by
 refine Ae AL Tryz.func124 (by decide +kernel) rfl [2,3,4] rfl rfl ?_;refine Bl rfl ?_;refine Af rfl (λ_=>Yu g a b q es hes hlen hq) (by simp) ?_;refine Bl rfl ?_;refine Aa rfl rfl (congrArg _ ?_);rw [Bool.eq_iff_iff,<- IF q es 0];simp
theorem gY (c:Cse) (sz:List (List V)) (t:Ty):Al Tryz.prog 125 [.agg (Ao t),.ip 89 [AQ c sz] 0] (.bool (!AI c.datas t)):=by
 have hN:=Sx c sz t;obtain ⟨s,n,x,ps⟩:=t;generalize AI c.datas (.mk s n x ps)=b at *;refine Uw ?_;refine Ae AL Tryz.func125 (by decide +kernel) rfl [2,3,4,5] rfl rfl ?_;refine Bl rfl ?_;refine Ag rfl hN ?_;refine Bl rfl ?_;exact Aa rfl rfl rfl
theorem US (c:Cse) (sz:List (List V)) (ts:List Ty) (h:ts.length<=9223372036854775807) :
  Al Tryz.prog 124 [.sl (Bx ts),.clo (.func 125) [] [.ip 89 [AQ c sz] 0]] (.bool (!Bn c.datas ts)):=by
 have:=So 125 [] [.ip 89 [AQ c sz] 0] (qOf Ao (λt=>!AI c.datas t)) (Bx ts) (λe he=>by rw [C8] at he;obtain ⟨t,_,rfl⟩:=List.mem_map.1 he;simp) (by simpa using h)
  (λe he=>by
   rw [C8] at he;obtain ⟨t,ht,rfl⟩:=List.mem_map.1 he;rw [JX HC];exact gY c sz t)
 rw [C8,List.any_map,show (qOf Ao (λt=>!AI c.datas t) ∘ Ao)=(λt=>!AI c.datas t) from funext λv=>JX HC _ v,<- C8] at this;rw [D4,List.all_eq_not_any_not,Bool.not_not];exact this
def Hn (ds:List Dt):Bool:=HQ ⟨[109],ds,[HU]⟩&&(B3 (CH ds)&&B3 (Cn ds))&&BZ ds ds
def Np (c:Cse) (a b:D) (sz:D):List D:=(dCse c).map .imm++[a,b,sz]
def PN (c:Cse):Blk:=.cells 150 9 (Np c (.imm (.mapv (EU (CI 0 c.datas)))) (.imm (.mapv (EU (DP 0 c.datas)))) .nils)
def outR (c:Cse):Bool->Out
 | true=>.ret (.tup [.ref 6 0,.imm (.bool true)]) [(6,some (PN c))]
 | false=>.ret (.imm (.tup [.nilp,.bool false])) []
theorem Fj {ds:List Dt} (h:HQ ⟨[109],ds,[HU]⟩=true):ds.length<=4/\∀d∈ds,d.cons.length<=5/\∀c∈d.cons,c.args.length<=3:=by
 simp only [HQ,Bool.and_eq_true,List.all_eq_true,decide_eq_true_eq] at h;refine ⟨by omega,λd hd=>?_⟩;have hd:=h.1.2 d hd;simp only [Ft,Bool.and_eq_true,List.all_eq_true,decide_eq_true_eq] at hd;refine ⟨by omega,λc hc=>?_⟩;have hc:=hd.2 c hc;simp only [K8,Bool.and_eq_true,decide_eq_true_eq] at hc;omega
theorem VS (l:List (Str×V)) (p:Str×V):XT (l++[p])=EV (XT l) (.str p.1) p.2:=by simp [XT,Ll]
theorem WK {ds:List Dt} {i:Nat} {d:Dt} (h:ds[i]?=some d):CI 0 (ds.take (i+1))=CI 0 (ds.take i)++[(d.name,.int .i64 i)]:=by
 have hl:(ds.take i).length=i:=by rw [List.length_take];have:=(List.getElem?_eq_some_iff.1 h).1;omega
 rw [Bh h,Lw,hl];simp [CI]
theorem YL {ds:List Dt} {i:Nat} {d:Dt} (h:ds[i]?=some d):DP 0 (ds.take (i+1))=DP 0 (ds.take i)++Ec i 0 d.cons:=by
 have hl:(ds.take i).length=i:=by rw [List.length_take];have:=(List.getElem?_eq_some_iff.1 h).1;omega
 rw [Bh h,MV,hl];simp [DP]
theorem WO {cs:List Cd} {i k:Nat} {c:Cd} (h:cs[k]?=some c):Ec i 0 (cs.take (k+1))=Ec i 0 (cs.take k)++[(c.name,.agg [.int .i64 i,.int .i64 k])]:=by
 have hl:(cs.take k).length=k:=by rw [List.length_take];have:=(List.getElem?_eq_some_iff.1 h).1;omega
 rw [Bh h,Ly,hl];simp [Ec]
theorem mD (c:Cse):Bt Tryz.prog 81 [.imm (.agg (dCse c))] [] (outR c (Hn c.datas)):=by
 obtain ⟨ds,⟨c1,c2,c3,c4⟩,rows⟩:=c;simp only;have hck:=RR ⟨[109],ds,[HU]⟩;generalize hmb:HQ ⟨[109],ds,[HU]⟩=mb at hck;refine Ae AL Tryz.func81 (by decide +kernel) rfl [1,2,3,4,5,6,7,8,9,10,11,12] rfl rfl ?_;refine Bl rfl ?_;refine Ag rfl hck ?_;refine bg [] rfl (by simp [Kz]) ?_;cases mb with
 | false =>
  refine Ab rfl (λh=>?_) (λh=>by simp [Kz] at h);refine A9 rfl ?_;rw [show Hn ds=false by simp [Hn,hmb]];exact Aa rfl rfl rfl
 | true =>
 refine Ab rfl (λh=>by simp [Kz] at h) (λh=>?_);clear h;obtain ⟨hl1,hl2⟩:=Fj hmb;refine A9 rfl ?_;refine PB rfl ?_;refine Bl rfl ?_;refine PB rfl ?_;refine Bl rfl ?_;refine An (λi:Nat=>[(36,.imm (.int .i64 i)),(35,.imm (.int .i64 ds.length)),(34,.imm (.sl (ds.map Cv))),(7,.imm (.int .i64 (Cn (ds.take i)).length)),(1,.ref 1 0),(6,.ref 7 0)])
  (λi=>[(1,some (.immb 29 6 (dCse ⟨ds,.mk c1 c2 c3 c4,rows⟩))),(4,some (.map (XT (CI 0 (ds.take i))))),(5,some (.map (XT (DP 0 (ds.take i))))),(6,some (.cells 150 9 (Np ⟨ds,.mk c1 c2 c3 c4,rows⟩ (.mapr 4) (.mapr 5) .nils))),(7,some (.cells 89 1 [.ref 6 0]))]) [8,9,10,11,12] (λi=>ds.length-i)
  (λi=>i<=ds.length) 0 (Nat.zero_le _) ⟨rfl,A0 (by simp),rfl,rfl,rfl,rfl,trivial⟩ ⟨rfl,rfl,rfl,rfl,rfl,trivial⟩ rfl λi hi ih=>?_
 refine A9 rfl ?_;refine Ab rfl (λh=>?_) (λh=>?_)
 ·simp at h;obtain ⟨d,hd⟩:=As h;have hdm:=hl2 d (List.mem_of_getElem? hd);have hcl:=TR (ds:=ds.take i) λx hx=>(hl2 x (List.mem_of_mem_take hx)).1;rw [List.length_take] at hcl;have ec:=R3 hd;have ed:=WK hd;have es:=YL hd;refine A9 rfl ?_;refine bi rfl (c:=Cv d) (λ_=>⟨by simp,by simpa using Be hd,by simp⟩) (by simp) ?_;obtain ⟨dn,dc⟩:=d;simp only at hdm ec ed es;refine Bl rfl ?_;refine Yz AL rfl rfl rfl (VT _) ?_;refine bg [] rfl (by simp [Ap];rfl) ?_
  refine An (λk:Nat=>[(51,.imm (.int .i64 k)),(50,.imm (.int .i64 dc.length)),(49,.imm (.sl (dc.map CM))),(8,.imm (.int .i64 i)),(36,.imm (.int .i64 i)),(35,.imm (.int .i64 ds.length)),(34,.imm (.sl (ds.map Cv))),(7,.imm (.int .i64 ((Cn (ds.take i)).length+k:Nat))),(1,.ref 1 0),(6,.ref 7 0)])
   (λk=>[(1,some (.immb 29 6 (dCse ⟨ds,.mk c1 c2 c3 c4,rows⟩))),(4,some (.map (XT (CI 0 (ds.take (i+1)))))),(5,some (.map (XT (DP 0 (ds.take i)++Ec i 0 (dc.take k))))),(6,some (.cells 150 9 (Np ⟨ds,.mk c1 c2 c3 c4,rows⟩ (.mapr 4) (.mapr 5) .nils))),(7,some (.cells 89 1 [.ref 6 0]))]) [8,9,10,11,12] (λk=>dc.length-k)
   (λk=>k<=dc.length) 0 (Nat.zero_le _) ⟨rfl,A0 (by simp),rfl,rfl,rfl,rfl,rfl,rfl,rfl,rfl,trivial⟩ ⟨rfl,by rw [ed,VS];rfl,by rw [List.take_zero,show Ec i 0 []=[] from rfl,List.append_nil];rfl,rfl,rfl,trivial⟩ rfl λk hk jh=>?_
  refine A9 rfl ?_;refine Ab rfl (λh=>?_) (λh=>?_)
  ·simp at h;obtain ⟨k',hk'⟩:=As h;have ek:=WO (i:=i) hk';refine A9 rfl ?_;refine bi rfl (c:=CM k') (λ_=>⟨by simp,by simpa using Be hk',by simp⟩) (by simp) ?_;obtain ⟨kn,ka⟩:=k';simp only at ek;refine Bl rfl ?_;refine Yz AL rfl rfl rfl (VT _) ?_;refine bg [] rfl (by simp [Ap];rfl) ?_;exact Ad (jh (k+1) (by omega) (by omega)) ⟨A0 (B2 (by omega) (by omega)),rfl,rfl,rfl,rfl,rfl,rfl,A0 (by rw [B2 (by omega) (by omega)];omega),rfl,rfl,trivial⟩ ⟨rfl,rfl,by rw [ek,<- List.append_assoc,VS];rfl,rfl,rfl,trivial⟩ rfl
  ·simp at h;have hke:dc.take k=dc:=List.take_of_length_le h;have hkl:k=dc.length:=by omega
   refine Aw rfl ?_;refine A9 rfl ?_;exact Ad (ih (i+1) (by omega) (by omega)) ⟨A0 (B2 (by omega) (by omega)),rfl,rfl,A0 (by rw [ec];simp [hkl]),rfl,rfl,trivial⟩ ⟨rfl,rfl,by rw [es,hke];rfl,rfl,rfl,trivial⟩ rfl
 ·simp at h;refine Aw rfl ?_;rw [List.take_of_length_le h];refine bd [] rfl (by simp [Ap];rfl) ?_;have m1:=(Z7 (CI 0 ds)).2;have m2:=(Z7 (DP 0 ds)).2;rw [GO] at m1;rw [If] at m2;have l1:(CI 0 ds).length=ds.length:=by have:=congrArg List.length (GO 0 ds);simpa [CH] using this
  have l2:(DP 0 ds).length=(Cn ds).length:=by have:=congrArg List.length (If 0 ds);simpa using this
  rw [l1] at m1;rw [l2] at m2;by_cases hdf:B3 (CH ds)=true/\B3 (Cn ds)=true
  case neg =>
   refine Ab rfl (λh=>?_) (λh=>?_)
   ·refine A9 rfl ?_;have:(B3 (CH ds)&&B3 (Cn ds))=false:=by cases h1:B3 (CH ds) <;> cases h2:B3 (Cn ds) <;> simp_all
    rw [show Hn ds=false by simp only [Hn,this];simp];exact Aa rfl rfl rfl
   ·exfalso;apply hdf;simp at h m1 m2;constructor
    ·cases h1:B3 (CH ds) with
     | true=>rfl
     | false=>rw [h1] at m1;simp at m1;omega
    ·cases h1:B3 (Cn ds) with
     | true=>rfl
     | false=>rw [h1] at m2;simp at m2;omega
  obtain ⟨hdn,hdc⟩:=hdf;rw [hdn] at m1;rw [hdc] at m2;refine Ab rfl (λh'=>by exfalso;simp at h' m1 m2;omega) (λh=>?_);clear h m1 m2;rw [show Hn ds=BZ ds ds by simp [Hn,hmb,hdn,hdc],QG _ (by rw [GO];exact hdn),QG _ (by rw [If];exact hdc)];refine A9 rfl ?_;refine An (λi:Nat=>[(90,.imm (.int .i64 i)),(89,.imm (.int .i64 ds.length)),(88,.imm (.sl (ds.map Cv))),(6,.ref 7 0)])
   (λ_=>[(4,some (.map (EU (CI 0 ds)))),(5,some (.map (EU (DP 0 ds)))),(6,some (.cells 150 9 (Np ⟨ds,.mk c1 c2 c3 c4,rows⟩ (.mapr 4) (.mapr 5) .nils))),(7,some (.cells 89 1 [.ref 6 0]))]) [8,9,10,11,12] (λi=>ds.length-i)
   (λi=>i<=ds.length/\BZ ds ds=BZ ds (ds.drop i)) 0 ⟨Nat.zero_le _,rfl⟩ ⟨rfl,A0 (by simp),rfl,rfl,trivial⟩ ⟨rfl,rfl,rfl,rfl,trivial⟩ rfl λi hi ih=>?_
  obtain ⟨hi1,hi2⟩:=hi;refine A9 rfl ?_;refine Ab rfl (λh=>?_) (λh=>?_)
  ·simp at h;obtain ⟨d,hd⟩:=As h;have hdm:=hl2 d (List.mem_of_getElem? hd);rw [show BZ ds (ds.drop i)=(d.cons.all (λc=>Bn ds c.args)&&BZ ds (ds.drop (i+1))) from E5 hd] at hi2;refine A9 rfl ?_;refine bi rfl (c:=Cv d) (λ_=>⟨by simp,by simpa using Be hd,by simp⟩) (by simp) ?_;obtain ⟨dn,dc⟩:=d;simp only at hdm hi2;refine Bl rfl ?_;refine An (λk:Nat=>[(97,.imm (.int .i64 k)),(96,.imm (.int .i64 dc.length)),(95,.imm (.sl (dc.map CM))),(90,.imm (.int .i64 i)),(89,.imm (.int .i64 ds.length)),(88,.imm (.sl (ds.map Cv))),(6,.ref 7 0)])
    (λ_=>[(4,some (.map (EU (CI 0 ds)))),(5,some (.map (EU (DP 0 ds)))),(6,some (.cells 150 9 (Np ⟨ds,.mk c1 c2 c3 c4,rows⟩ (.mapr 4) (.mapr 5) .nils))),(7,some (.cells 89 1 [.ref 6 0]))]) [8,9,10,11,12] (λk=>dc.length-k)
    (λk=>k<=dc.length/\dc.all (λc=>Bn ds c.args)=(dc.drop k).all (λc=>Bn ds c.args)) 0 ⟨Nat.zero_le _,rfl⟩ ⟨rfl,A0 (by simp),rfl,rfl,rfl,rfl,rfl,trivial⟩ ⟨rfl,rfl,rfl,rfl,trivial⟩ rfl λk hk jh=>?_
   obtain ⟨hk1,hk2⟩:=hk;refine A9 rfl ?_;refine Ab rfl (λh=>?_) (λh=>?_)
   ·simp at h;obtain ⟨k',hk'⟩:=As h;have hkm:=hdm.2 k' (List.mem_of_getElem? hk');rw [E5 hk'] at hk2;refine A9 rfl ?_;refine bi rfl (c:=CM k') (λ_=>⟨by simp,by simpa using Be hk',by simp⟩) (by simp) ?_;obtain ⟨kn,ka⟩:=k';simp only at hkm hk2;refine Bl rfl ?_;refine Ia rfl (v:=.bool (!Bn ds ka)) (λ_=>US ⟨ds,.mk c1 c2 c3 c4,rows⟩ [] ka (by omega)) rfl (by simp) ?_;refine Bl rfl ?_;refine Ab rfl (λh=>?_) (λh=>?_)
    ·have h:Bn ds ka=true:=by simpa using h
     refine Aw rfl ?_;refine A9 rfl ?_;exact Ad (jh (k+1) (by omega) ⟨by omega,by rw [hk2];simp [h]⟩) ⟨A0 (B2 (by omega) (by omega)),rfl,rfl,rfl,rfl,rfl,rfl,trivial⟩ ⟨rfl,rfl,rfl,rfl,trivial⟩ rfl
    ·have h:Bn ds ka=false:=by simpa using h
     refine A9 rfl ?_;rw [hi2,hk2,h];exact Aa rfl rfl rfl
   ·simp at h;refine Aw rfl ?_;refine A9 rfl ?_;rw [List.drop_eq_nil_of_le (by omega)] at hk2;exact Ad (ih (i+1) (by omega) ⟨by omega,by rw [hi2,hk2];simp⟩) ⟨A0 (B2 (by omega) (by omega)),rfl,rfl,rfl,trivial⟩ ⟨rfl,rfl,rfl,rfl,trivial⟩ rfl
  ·simp at h;refine Aw rfl ?_;rw [hi2,List.drop_eq_nil_of_le (by omega)];refine OX 4 rfl ?_;refine OX 5 rfl ?_;refine A9 rfl ?_;exact Au ⟨_,rfl,rfl,⟨rfl,trivial⟩⟩
end Go.Hk
namespace Go.Hk
section
variable {P:Program} {n:Nat} {F:List Nat} {Q:DQ} {todo:List DI} {env:Env} {st:St} {ids':List Nat}
end
end Go.Hk
namespace Go.Hk
structure PMs where
 e:TypeId
 z:V
 bytes:Nat
 m:Int
 m2:Int
 id':Nat
 ids':List Nat
 dst:Option Nat
 todo:List DI
def qQ (tt:TT) (n:Nat) (env:Env) (ids:List Nat) (todo:List DI):Option PMs :=
 match Sd todo,ids with
 | some o,id'::ids'=>match o.guard,o.op with
  | none,.makeSlice t l c=>match lk tt t,CV env l,CV env c with
   | some { sh:=.sl e,.. },some (.imm (.int _ m)),some (.imm (.int _ m2))=>match lk tt e,BH n o.dst,Bg todo ([],[id']) with
    | some ⟨_,_,1,bytes,[.imm z]⟩,true,some (_,_,todo')=>some ⟨e,z,bytes,m,m2,id',ids',o.dst,todo'⟩
    | _,_,_=>none
   | _,_,_=>none
  | _,_=>none
 | _,_=>none
section
variable {P:Program} {n:Nat} {F:List Nat} {Q:DQ} {tt:TT} {env env':Env} {st st':St} {ids ids':List Nat} {k todo todo':List DI} {I:Imm} {μ:Mu} {w:World} {a:Act} {Pn:V->Prop} {d:D} {cx:Prop} {ob:List Prop}
theorem VU (z:Array Value) (n:Nat) (c:Value) (h:z.toList=[c]):madeCells z n=Array.replicate n c:=by
 obtain ⟨z⟩:=z;simp at h;subst h;apply Array.ext
 ·simp [madeCells]
 ·intro i h1 h2;simp [madeCells,Nat.mod_one]
theorem NP (htt:TTok P tt) {c:PMs} (h:qQ tt n env ids todo=some c) (hm:c.m2=c.m) (h0:0<=c.m) (h1:(c.bytes:Int)*c.m<=281474976710656) (h2:c.m<=maxLen) (hz:V.one c.z=true)
  (hk:G P n F Q c.todo (B9 c.dst (.own c.id' (List.replicate c.m.toNat [c.z]).length) env) ((c.id',some (.row c.e 1 (List.replicate c.m.toNat [c.z])))::st) c.ids'):G P n F Q todo env st ids:=by
 unfold qQ at h
 split at h
 ·rename_i o id' ids' ho
  split at h
  ·rename_i t l cc hg hop
   split at h
   ·rename_i e _ _ _ _ k1 m k2 m2 ht hl hc
    split at h
    ·rename_i sh ag bytes z all o' todo' hi hd hn1;cases h;have ho':o'=o:=Eh ho hn1;subst ho';simp only at hm h0 h1 h2 hz hk;have hm:=hm.symm;subst hm;refine B6 (fr:=[id']) (wr:=[(id',some (.row e 1 (List.replicate m.toNat [z])))]) (rd:=[]) hn1 ?_ hd (λc hc=>by rw [hop] at hc;cases hc) hk;intro I μ st1 ids1 a w hag hst hon;refine ⟨λ_=>?_,λhw=>by rw [AG hg] at hw;cases hw⟩;have hops:=Bc hon;rw [hop] at hops;have rl:=hops l (by simp [Op.operands]) _ hl;have rc:=hops cc (by simp [Op.operands]) _ hc;obtain ⟨inf,zv,i1,i2,i3,i4,i5,i6⟩:=(htt e _ hi).info;have hz1:=i5 I μ;have hzl:∃c0,zv.cells.toList=[c0]/\RepV I c0 z:=by
      have hl:=hz1.1
      match hcs:zv.cells.toList,hl with
      | [c0],_=>exact ⟨c0,rfl,(hz1.2 0 c0 _ (by rw [hcs];rfl) rfl).immInv⟩
     obtain ⟨c0,hc0,hr0⟩:=hzl;have hsz:inf.size=1:=i2;have hby:inf.bytes=bytes:=i3;have hrun:(execOp a.eval o').run P w = .ok (.value (.slice (some ⟨w.heap.size,0,none⟩) m.toNat m.toNat)) (w.alloc (.cells (Array.replicate m.toNat c0) e)):=by
      have hs:=(htt t _ ht).sh;have hx:=run_make (P:=P) w t e inf zv hs i1 i4 k1 k2 m m h0 (Int.le_refl _) (by rw [hby];exact h1) (by simpa [maxLen] using h2);rw [VU _ _ c0 hc0,hsz,Nat.mul_one] at hx;simp only [execOp,hop];generalize a.eval l=vl at rl;generalize a.eval cc=vc at rc;cases rl with
      | imm _ _ rl =>
      cases rc with
      | imm _ _ rc =>
      cases rl;cases rc;simp only [Sem.run_bind,hx,Result.andThen_ok,Sem.run_pure]
     rw [hrun];have hlen:(List.replicate m.toNat [z]).length=m.toNat:=by simp
     have hone0:c0.oneCell'=true:=i6 c0 (by rw [hc0];simp);obtain ⟨μ',q1,q2,q3,q4⟩:=hst.allocO (.cells (Array.replicate m.toNat c0) e) (.slice (some ⟨w.heap.size,0,none⟩) m.toNat m.toNat) (λ_ h=>Eq.symm h) (.row e 1 (List.replicate m.toNat [z])) (λμ' _ =>
      ⟨(List.replicate m.toNat c0),⟨by simp [hlen],.inr ⟨w.heap.size,m.toNat,Array.replicate m.toNat c0,by rw [hlen],Nat.zero_le _,Ek w _,by rw [hlen];exact Nat.le_refl _,by simp [maxLen] at h2 ⊢;omega,by simp,by rw [hlen];simp⟩⟩,⟨by simp,λi v x hv hx=>by
       have e1:(List.replicate m.toNat [z]).flatten=List.replicate m.toNat z:=by
        generalize m.toNat=q
        induction q with
        | zero=>rfl
        | succ q ih=>simp only [List.replicate_succ,List.flatten_cons,ih];rfl
       rw [e1] at hx;rw [List.getElem?_replicate] at hv hx
       split at hv
       ·rename_i hq;rw [if_pos hq] at hx;cases hv;cases hx;exact hr0
       ·cases hv⟩,λc hc=>by rw [List.eq_of_mem_replicate hc];rfl,λc hc y hy=>by
       rw [List.eq_of_mem_replicate hc] at hy;simp at hy;subst hy;exact hz,Nat.one_pos⟩)
     rw [hlen] at *;exact ⟨I,μ',q3,.own _ _ _ _ q1,q2,q4⟩
    ·cases h
   ·cases h
  ·cases h
 ·cases h
end
end Go.Hk
namespace Go.Hk
open Go.Proofs
def EH (ds:List Dt) (s:List Int):Ty->Int
 | .mk so _ x _=>if so=8 then s.getD (K1 ds x).toNat 0 else 1
def AM (ds:List Dt) (s:List Int):Int->List Ty->Int
 | n,[]=>n
 | n,t::r=>if EH ds s t=0 then 0 else AM ds s (n+EH ds s t) r
def AJ (s:List Int):List (List V):=s.map λn=>[.int .i64 n]
@[simp] theorem rowI_length (s:List Int):(AJ s).length=s.length:=by simp [AJ]
theorem Gm {s:List Int} {i:Nat} (h:i<s.length):(AJ s)[i]?=some [.int .i64 (s.getD i 0)]:=by simp [AJ,h,List.getD]
def HH (ds:List Dt) (i:Nat) (p:List Int×Bool) (args:List Ty):List Int×Bool :=
 if 0<AM ds p.1 1 args/\(p.1.getD i 0=0\/AM ds p.1 1 args<p.1.getD i 0) then (p.1.set i (AM ds p.1 1 args),true) else p
def Is (ds:List Dt) (i:Nat):List Int×Bool->List Cd->List Int×Bool
 | p,[]=>p
 | p,c::r=>Is ds i (HH ds i p c.args) r
def CG (ds:List Dt):List Int×Bool->Nat->List Dt->List Int×Bool
 | p,_,[]=>p
 | p,i,d::r=>CG ds (Is ds i p d.cons) (i+1) r
def Ko (ds:List Dt):Nat->List Int->List Int
 | 0,s=>s
 | f+1,s=>bif (CG ds (s,false) 0 ds).2 then Ko ds f (CG ds (s,false) 0 ds).1 else (CG ds (s,false) 0 ds).1
def Do (ds:List Dt):List Int:=Ko ds 2000 (List.replicate ds.length 0)
def N8:List Int->Nat
 | []=>0
 | x::r=>(if x=0 then 0 else 1)+N8 r
def JD:List Int->Nat
 | []=>0
 | x::r=>(if x=0 then 257 else x.toNat)+JD r
theorem Kg:∀s:List Int,N8 s<=s.length
 | []=>Nat.le_refl _
 | x::r=>by have:=Kg r;simp only [N8,List.length_cons];split <;> omega
theorem Z1:∀(s:List Int) (i:Nat) (n:Int),i<s.length->n≠0->N8 (s.set i n)=N8 s+(if s.getD i 0=0 then 1 else 0)
 | [],i,n,h,_=>by simp at h
 | x::r,0,n,_,hn=>by simp only [List.set_cons_zero,N8,hn,if_false,List.getD_cons_zero];split <;> omega
 | x::r,i+1,n,h,hn=>by
  have:=Z1 r i n (by simpa using h) hn;simp only [List.set_cons_succ,N8,List.getD_cons_succ,this];omega
theorem Z6:∀(s:List Int) (i:Nat) (n:Int),i<s.length->0<n->n<=256->(s.getD i 0=0\/n<s.getD i 0)->JD (s.set i n)<JD s
 | [],i,n,h,_,_,_=>by simp at h
 | x::r,0,n,_,hn,hb,hc=>by
  simp only [List.set_cons_zero,JD,List.getD_cons_zero] at hc ⊢;rw [if_neg (by omega)]
  split <;> omega
 | x::r,i+1,n,h,hn,hb,hc=>by
  have:=Z6 r i n (by simpa using h) hn hb (by simpa using hc);simp only [List.set_cons_succ,JD];omega
theorem U3:∀s:List Int,(∀x∈s,x<=256)->JD s<=257*s.length
 | [],_=>Nat.le_refl _
 | x::r,h=>by
  have h1:=h x (by simp);have h2:=U3 r λy hy=>h y (by simp [hy]);simp only [JD,List.length_cons]
  split <;> omega
structure GS (ds:List Dt) (s:List Int):Prop where
 len:s.length=ds.length
 le:∀x∈s,0<=x/\x<=((4 ^ N8 s:Nat):Int)
theorem MK {s:List Int} {i:Nat}:s.getD i 0∈s\/s.getD i 0=0:=by
 by_cases h:i<s.length
 ·left;simp [List.getD,List.getElem?_eq_getElem h]
 ·right;simp [List.getD,List.getElem?_eq_none (Nat.le_of_not_lt h)]
theorem bR {n:Nat} (h:n<=4):4 ^ n<=256:=by
 have:n=0\/n=1\/n=2\/n=3\/n=4:=by omega
 rcases this with rfl | rfl | rfl | rfl | rfl <;> decide
theorem Hr {ds:List Dt} {s:List Int} (h:GS ds s) (t:Ty):0<=EH ds s t/\EH ds s t<=((4 ^ N8 s:Nat):Int):=by
 obtain ⟨so,n,x,ps⟩:=t;have h1:1<=4 ^ N8 s:=Nat.one_le_pow _ _ (by decide);simp only [EH]
 split
 ·rcases MK (s:=s) (i:=(K1 ds x).toNat) with hm | hm
  ·exact h.le _ hm
  ·rw [hm];omega
 ·omega
theorem Fc {ds:List Dt} {s:List Int} (h:GS ds s):∀(l:List Ty) (n:Int),0<=n->0<=AM ds s n l/\AM ds s n l<=n+(l.length:Int)*((4 ^ N8 s:Nat):Int)
 | [],n,hn=>by simp [AM,hn]
 | t::r,n,hn=>by
  have hb:=Hr h t;have ih:=Fc h r (n+EH ds s t) (by omega);simp only [AM,List.length_cons];generalize ((4 ^ N8 s:Nat):Int)=M at *;have:((r.length+1:Nat):Int)*M=(r.length:Int)*M+M:=by rw [Int.natCast_add,Int.add_mul];omega
  rw [this];have hm:0<=(r.length:Int)*M:=Int.mul_nonneg (by omega) (by omega)
  split <;> omega
theorem Mn {ds:List Dt} (h4:ds.length<=4) {i:Nat} (hi:i<ds.length) {p:List Int×Bool} {args:List Ty} (ha:args.length<=3) (h:GS ds p.1) :
  GS ds (HH ds i p args).1/\JD (HH ds i p args).1<=JD p.1/\((HH ds i p args).2=true->p.2=true\/JD (HH ds i p args).1<JD p.1):=by
 have hs:=Fc h args 1 (by omega);simp only [HH];generalize AM ds p.1 1 args=n at *
 split
 ·rename_i hc;have hlt:i<p.1.length:=by rw [h.len];exact hi
  have hset:=Z1 p.1 i n hlt (by omega);have hnz:=Kg p.1;have hz1:4 ^ N8 p.1>=1:=Nat.one_le_pow _ _ (by decide);have key:∀M:Nat,1<=M->n<=1+(args.length:Int)*(M:Int)->n<=((M*4:Nat):Int):=λM h1 h2=>by
   have:(args.length:Int)*(M:Int)<=3*(M:Int):=Int.mul_le_mul_of_nonneg_right (by omega) (by omega);omega
  have hn4:n<=((4 ^ N8 (p.1.set i n):Nat):Int):=by
   rw [hset];by_cases h0:p.1.getD i 0=0
   ·rw [if_pos h0,Nat.pow_succ];exact key _ hz1 hs.2
   ·rw [if_neg h0,Nat.add_zero];rcases MK (s:=p.1) (i:=i) with hm | hm
    ·have:=(h.le _ hm).2;omega
    ·exact absurd hm h0
  have hle:N8 (p.1.set i n)<=4:=by have:=Kg (p.1.set i n);rw [List.length_set,h.len] at this;omega
  have h256:=bR hle;have hmu:=Z6 p.1 i n hlt hc.1 (by omega) hc.2;refine ⟨⟨by simp [h.len],λx hx=>?_⟩,Nat.le_of_lt hmu,λ_=>.inr hmu⟩;have hmono:4 ^ N8 p.1<=4 ^ N8 (p.1.set i n):=Nat.pow_le_pow_right (by decide) (by rw [hset];omega);show 0<=x/\x<=((4 ^ N8 (p.1.set i n):Nat):Int);rcases List.mem_or_eq_of_mem_set hx with hx | rfl
  ·have:=h.le x hx;omega
  ·omega
 ·exact ⟨h,Nat.le_refl _,λh=>.inl h⟩
theorem UN {ds:List Dt} (h4:ds.length<=4) {i:Nat} (hi:i<ds.length):∀{l:List Cd} {p:List Int×Bool},(∀c∈l,c.args.length<=3)->GS ds p.1 ->
  GS ds (Is ds i p l).1/\JD (Is ds i p l).1<=JD p.1/\((Is ds i p l).2=true->p.2=true\/JD (Is ds i p l).1<JD p.1)
 | [],p,_,h=>⟨h,Nat.le_refl _,λh=>.inl h⟩
 | c::r,p,ha,h=>by
  obtain ⟨a1,a2,a3⟩:=Mn (p:=p) h4 hi (ha c (by simp)) h;obtain ⟨b1,b2,b3⟩:=UN h4 hi (l:=r) (p:=HH ds i p c.args) (λx hx=>ha x (by simp [hx])) a1;simp only [Is];refine ⟨b1,by omega,λh=>?_⟩;rcases b3 h with h | h
  ·rcases a3 h with h | h
   ·exact .inl h
   ·exact .inr (by omega)
  ·exact .inr (by omega)
theorem Nv {ds:List Dt} (h4:ds.length<=4):∀{l:List Dt} {p:List Int×Bool} {i:Nat},i+l.length<=ds.length->(∀d∈l,∀c∈d.cons,c.args.length<=3)->GS ds p.1 ->
  GS ds (CG ds p i l).1/\JD (CG ds p i l).1<=JD p.1/\((CG ds p i l).2=true->p.2=true\/JD (CG ds p i l).1<JD p.1)
 | [],p,i,_,_,h=>⟨h,Nat.le_refl _,λh=>.inl h⟩
 | d::r,p,i,hi,ha,h=>by
  simp only [List.length_cons] at hi;obtain ⟨a1,a2,a3⟩:=UN (p:=p) h4 (i:=i) (by omega) (l:=d.cons) (ha d (by simp)) h;obtain ⟨b1,b2,b3⟩:=Nv h4 (l:=r) (p:=Is ds i p d.cons) (i:=i+1) (by omega) (λx hx=>ha x (by simp [hx])) a1;simp only [CG];refine ⟨b1,by omega,λh=>?_⟩;rcases b3 h with h | h
  ·rcases a3 h with h | h
   ·exact .inl h
   ·exact .inr (by omega)
  ·exact .inr (by omega)
theorem Ze (c:Cse) (s:List Int) (hs:GS c.datas s) (h4:c.datas.length<=4) (args:List Ty) (hn:Bn c.datas args=true) (ha:args.length<=3) :
  Al Tryz.prog 132 [AQ c (AJ s),.sl (Bx args)] (.int .i64 (AM c.datas s 1 args)):=by
 obtain ⟨ds,⟨c1,c2,c3,c4⟩,rows⟩:=c;simp only at hs h4 hn ⊢;have hpw:((4 ^ N8 s:Nat):Int)<=256:=by have:=bR (n:=N8 s) (by have:=Kg s;rw [hs.len] at this;omega);omega
 refine Ae AL Tryz.func132 (by decide +kernel) rfl [2,3,4,5,6] rfl rfl ?_;refine Bl rfl ?_;refine An (λy:Nat×Int=>[(11,.imm (.int .i64 y.1)),(10,.imm (.int .i64 args.length)),(9,.imm (.sl (Bx args))),(5,.imm (.int .i64 y.2)),(0,.imm (AQ ⟨ds,.mk c1 c2 c3 c4,rows⟩ (AJ s)))]) (λ_=>[]) [2,3,4,5,6] (λy=>args.length-y.1)
  (λy=>y.1<=args.length/\AM ds s 1 args=AM ds s y.2 (args.drop y.1)/\0<=y.2/\y.2<=1+256*y.1) (0,1) ⟨Nat.zero_le _,rfl,by simp only;omega,by simp only;omega⟩ ⟨rfl,A0 (by simp),rfl,rfl,rfl,trivial⟩ trivial rfl λy hi ih=>?_
 obtain ⟨i,m⟩:=y;obtain ⟨hi1,hi2,hi3,hi4⟩:=hi;simp only at hi1 hi2 hi3 hi4;refine A9 rfl ?_;refine Ab rfl (λh=>?_) (λh=>?_)
 ·simp at h;obtain ⟨t,ht⟩:=As h;have hnt:=D3 hn ht;have hb:=Hr hs t;rw [Av ht] at hi2;simp only [AM] at hi2;refine A9 rfl ?_;refine bi rfl (c:=Ao t) (λ_=>⟨by simp,by simpa using A4 ht,by simp⟩) (by simp) ?_;obtain ⟨so,n,x,ps⟩:=t;refine Bl rfl ?_;by_cases h8:so=8
  ·subst h8;have hp:=(Cr hnt 8 n x ps rfl rfl).1;have hd:K1 ds x=Ba x 0 ds:=by simp [K1,hp]
   obtain ⟨k,d,k1,k2,k3⟩:=Ho x ds 0 hp;have hk:k<s.length:=by rw [hs.len];exact (List.getElem?_eq_some_iff.1 k2).1
   have ho:EH ds s (.mk 8 n x ps)=s.getD k 0:=by simp [EH,hd,k1]
   rw [ho] at hi2 hb;refine Ah rfl λh=>?_;refine A9 rfl ?_;refine Gr AL rfl rfl rfl (EK _) (by simp [Ap]) (z:=.int .i64 0) rfl (λ_=>.int _ _) (HV ds x) ?_;refine Bl rfl ?_;refine bi rfl (c:=[.int .i64 (s.getD k 0)]) (λ_=>⟨by rw [hd];exact hp,by rw [hd,k1];simpa using Gm hk,rfl⟩) (by simp) ?_;refine bg [] rfl (by simp;rfl) ?_;refine Ab rfl (λh=>?_) (λh=>?_)
   ·refine A9 rfl ?_;rw [if_pos (by simpa using h)] at hi2;rw [hi2];exact Aa rfl rfl rfl
   ·refine A9 rfl ?_;rw [if_neg (by simpa using h)] at hi2;exact Ad (ih (i+1,m+s.getD k 0) (by simp only;omega) ⟨by simp only;omega,hi2,by simp only;omega,by simp only;omega⟩) ⟨A0 (B2 (by simp only;omega) (by simp only;omega)),rfl,rfl,A0 (B2 (by omega) (by omega)),rfl,trivial⟩ trivial rfl
  ·have ho:EH ds s (.mk so n x ps)=1:=by simp [EH,h8]
   rw [ho] at hi2;refine Ab rfl (λh=>absurd (by simpa using h) h8) (λh=>?_);refine A9 rfl ?_;refine At rfl λh=>?_;refine A9 rfl ?_;rw [if_neg (by omega)] at hi2;exact Ad (ih (i+1,m+1) (by simp only;omega) ⟨by simp only;omega,hi2,by simp only;omega,by simp only;omega⟩) ⟨A0 (B2 (by simp only;omega) (by simp only;omega)),rfl,rfl,A0 (B2 (by omega) (by omega)),rfl,trivial⟩ trivial rfl
 ·simp at h;refine Aw rfl ?_;refine A9 rfl ?_;rw [hi2,List.drop_eq_nil_of_le (by omega)];exact Aa rfl rfl rfl
theorem Qr (s:List Int) (i:Nat) (n:Int):(AJ s).set i [.int .i64 n]=AJ (s.set i n):=by simp [AJ,List.map_set]
theorem KL (n:Nat):List.replicate n [V.int .i64 0]=AJ (List.replicate n 0):=by simp [AJ]
theorem KI (ds:List Dt):GS ds (List.replicate ds.length 0):=⟨by simp,λx hx=>by rw [List.eq_of_mem_replicate hx];exact ⟨Int.le_refl _,Int.natCast_nonneg _⟩⟩
def Uc (c:Cse) (sz:D):Blk:=.cells 150 9 (Np c (.imm (.mapv (EU (CI 0 c.datas)))) (.imm (.mapv (EU (DP 0 c.datas)))) sz)
theorem eW (c:Cse) (h4:c.datas.length<=4) (hl2:∀d∈c.datas,d.cons.length<=5/\∀c∈d.cons,c.args.length<=3) (hN:BZ c.datas c.datas=true) :
  Bt Tryz.prog 89 [.ref 1 0] [(1,some (PN c))] (.ret HF [(1,some (Uc c (.own 2 c.datas.length))),(2,some (.row 3 1 (AJ (Do c.datas))))]):=by
 obtain ⟨ds,⟨c1,c2,c3,c4⟩,rows⟩:=c;simp only at h4 hl2 hN ⊢;have hl3:∀d∈ds,∀c∈d.cons,c.args.length<=3:=λd hd=>(hl2 d hd).2;have hnm:∀d∈ds,∀c∈d.cons,Bn ds c.args=true:=by simpa [BZ] using hN
 generalize hC:(⟨ds,.mk c1 c2 c3 c4,rows⟩:Cse)=C at *;have hCd:C.datas=ds:=by rw [<- hC]
 unfold PN;rw [hCd];subst hC;refine Ae AL Tryz.func89 (by decide +kernel) rfl [2,3,4,5,6] rfl rfl ?_;refine Bl rfl ?_;refine NP AL rfl rfl (by simp) (by simp;omega) (by simp [maxLen];omega) rfl ?_;have er:(List.replicate ((ds.map Cv).length:Int).toNat [V.int .i64 0])=AJ (List.replicate ds.length 0):=by rw [<- KL];simp
 simp only [B9];rw [er,rowI_length,List.length_replicate];refine Bl rfl ?_;refine An (λy:Nat×List Int×Bool=>[(2,.imm (.bool y.2.2)),(0,.ref 1 0)])
  (λy=>[(1,some (Uc ⟨ds,.mk c1 c2 c3 c4,rows⟩ (.own 2 ds.length))),(2,some (.row 3 1 (AJ y.2.1)))]) [3,4,5,6] (λy=>if y.2.2 then y.1+1 else 0)
  (λy=>GS ds y.2.1/\if y.2.2 then Do ds=Ko ds y.1 y.2.1/\JD y.2.1<y.1 else Do ds=y.2.1) (2000,List.replicate ds.length 0,true)
  ⟨KI ds,by simp only [if_true];exact ⟨rfl,by have:=U3 (List.replicate ds.length 0) (λx hx=>by rw [List.eq_of_mem_replicate hx];omega);simp at this;omega⟩⟩ ⟨rfl,rfl,trivial⟩ ⟨rfl,rfl,trivial⟩ rfl λy hi ih=>?_
 obtain ⟨f,s,ch⟩:=y;obtain ⟨hs,hi⟩:=hi;simp only at hs hi;refine A9 rfl ?_;cases ch with
 | false =>
  simp only [Bool.false_eq_true,if_false] at hi;refine At rfl λh=>?_;refine Aw rfl ?_;refine A9 rfl ?_;rw [hi];exact C7 ⟨_,rfl,tV rfl,⟨rfl,rfl,trivial⟩⟩
 | true =>
 simp only [if_true] at hi;refine Ah rfl λh=>?_;clear h;obtain ⟨hi1,hi2⟩:=hi;obtain ⟨f,rfl⟩:∃g,f=g+1:=⟨f-1,by omega⟩
 refine A9 rfl ?_;refine An (λy:Nat×List Int×Bool=>[(25,.imm (.int .i64 y.1)),(24,.imm (.int .i64 ds.length)),(23,.imm (.sl (ds.map Cv))),(2,.imm (.bool y.2.2)),(0,.ref 1 0)])
  (λy=>[(1,some (Uc ⟨ds,.mk c1 c2 c3 c4,rows⟩ (.own 2 ds.length))),(2,some (.row 3 1 (AJ y.2.1)))]) [3,4,5,6] (λy=>ds.length-y.1)
  (λy=>y.1<=ds.length/\CG ds (s,false) 0 ds=CG ds y.2 y.1 (ds.drop y.1)/\GS ds y.2.1/\JD y.2.1<=JD s/\(y.2.2=true->JD y.2.1<JD s)) (0,s,false)
  ⟨Nat.zero_le _,rfl,hs,Nat.le_refl _,λh=>by cases h⟩ ⟨rfl,A0 (by simp),rfl,rfl,rfl,trivial⟩ ⟨rfl,rfl,trivial⟩ rfl λy hy jh=>?_
 obtain ⟨i,p⟩:=y;obtain ⟨hy1,hy2,hy3,hy4,hy5⟩:=hy;simp only at hy1 hy2 hy3 hy4 hy5;refine A9 rfl ?_;refine Ab rfl (λh=>?_) (λh=>?_)
 ·simp at h;have hil:=h;obtain ⟨d,hd⟩:=As h;have hdm:=List.mem_of_getElem? hd;rw [Av hd] at hy2;simp only [CG] at hy2;refine A9 rfl ?_;refine bi rfl (c:=Cv d) (λ_=>⟨by simp,by simpa using Be hd,by simp⟩) (by simp) ?_;obtain ⟨dn,dc⟩:=d;simp only at hy2;have hd5:=(hl2 _ hdm).1;have hd3:=hl3 _ hdm;have hdn:=hnm _ hdm;simp only at hd5 hd3 hdn;refine Bl rfl ?_;refine An (λy:Nat×List Int×Bool=>[(33,.imm (.int .i64 y.1)),(32,.imm (.int .i64 dc.length)),(31,.imm (.sl (dc.map CM))),(3,.imm (.int .i64 i)),(25,.imm (.int .i64 i)),(24,.imm (.int .i64 ds.length)),(23,.imm (.sl (ds.map Cv))),(2,.imm (.bool y.2.2)),(0,.ref 1 0)])
   (λy=>[(1,some (Uc ⟨ds,.mk c1 c2 c3 c4,rows⟩ (.own 2 ds.length))),(2,some (.row 3 1 (AJ y.2.1)))]) [3,4,5,6] (λy=>dc.length-y.1)
   (λy=>y.1<=dc.length/\Is ds i p dc=Is ds i y.2 (dc.drop y.1)/\GS ds y.2.1/\JD y.2.1<=JD s/\(y.2.2=true->JD y.2.1<JD s)) (0,p)
   ⟨Nat.zero_le _,rfl,hy3,hy4,hy5⟩ ⟨rfl,A0 (by simp),rfl,rfl,rfl,rfl,rfl,rfl,rfl,trivial⟩ ⟨rfl,rfl,trivial⟩ rfl λy hk kh=>?_
  obtain ⟨k,q⟩:=y;obtain ⟨hk1,hk2,hk3,hk4,hk5⟩:=hk;simp only at hk1 hk2 hk3 hk4 hk5;refine A9 rfl ?_;refine Ab rfl (λh=>?_) (λh=>?_)
  ·simp at h;obtain ⟨c,hc⟩:=As h;have hcm:=List.mem_of_getElem? hc;rw [Av hc] at hk2;simp only [Is] at hk2;refine A9 rfl ?_;refine bi rfl (c:=CM c) (λ_=>⟨by simp,by simpa using Be hc,by simp⟩) (by simp) ?_;obtain ⟨cn,ca⟩:=c;have hca3:=hd3 _ hcm;have hcan:=hdn _ hcm;simp only at hca3 hcan hk2;have hstep:=Mn (p:=q) h4 hil hca3 hk3;have hlen:q.1.length=ds.length:=hk3.len;obtain ⟨qs,qb⟩:=q;simp only at hk3 hk4 hk5 hlen hstep;refine Bl rfl ?_;refine Ia rfl (v:=.int .i64 (AM ds qs 1 ca)) (λ_=>Ze ⟨ds,.mk c1 c2 c3 c4,rows⟩ qs hk3 h4 ca hcan hca3) rfl (by simp) ?_
   have hst:HH ds i (qs,qb) ca=if 0<AM ds qs 1 ca/\(qs.getD i 0=0\/AM ds qs 1 ca<qs.getD i 0) then (qs.set i (AM ds qs 1 ca),true) else (qs,qb):=rfl
   have hzb:=Fc hk3 ca 1 (by omega);generalize AM ds qs 1 ca=z at *;refine Bl rfl ?_;refine Dv AL rfl (λ_=>⟨by simp,by simp;omega⟩) (by simp [Ap]) ?_;refine Ee rfl ?_;refine Jz (e:=[.int .i64 (qs.getD i 0)]) AL rfl (λ_=>by simpa using Gm (s:=qs) (i:=i) (by omega)) rfl (by simp [Ap]) ?_;refine bg [] rfl (by simp [Ap];try exact λa b=>⟨a,b⟩) ?_;refine Dv AL rfl (λ_=>⟨by simp,by simp;omega⟩) (by simp [Ap]) ?_;refine Ee rfl ?_;refine Jz (e:=[.int .i64 (qs.getD i 0)]) AL rfl (λ_=>by simpa using Gm (s:=qs) (i:=i) (by omega)) rfl (by simp [Ap]) ?_;refine bg [] rfl (by simp [Ap];try exact λa b=>⟨a,b⟩) ?_;by_cases hz:0<z/\(qs.getD i 0=0\/z<qs.getD i 0)
   ·rw [if_pos hz] at hst;rw [hst] at hk2 hstep;have hstep3:=hstep.2.2 rfl;refine Ab rfl (λh=>?_) (λh=>by exfalso;simp at h;grind);refine A9 rfl ?_;refine Dv AL rfl (λ_=>⟨by simp,by simp;omega⟩) (by simp) ?_;refine Bl rfl ?_;refine II AL (e:=[.int .i64 (qs.getD i 0)]) (e':=[.int .i64 z]) rfl (by simpa using Gm (s:=qs) (i:=i) (by omega)) (by show 0+1<=1;decide) (by simp) (by simp) ?_;refine Bl rfl ?_;refine Ad (kh (k+1,qs.set i z,true) (by simp only;omega) ⟨by simp only;omega,hk2,hstep.1,by have:=hstep.2.1;simp only at this ⊢;omega,λ_=>?_⟩) ⟨A0 (B2 (by omega) (by omega)),rfl,rfl,rfl,rfl,rfl,rfl,rfl,rfl,trivial⟩ ⟨rfl,by rw [<- Qr];rfl,trivial⟩ rfl;rcases hstep3 with h | h
    ·have:=hk5 h;have:=hstep.2.1;simp only at this ⊢;omega
    ·simp only at h ⊢;omega
   ·rw [if_neg hz] at hst;rw [hst] at hk2;refine Ab rfl (λh=>by exfalso;simp at h;grind) (λh=>?_);refine A9 rfl ?_;exact Ad (kh (k+1,qs,qb) (by simp only;omega) ⟨by simp only;omega,hk2,hk3,hk4,hk5⟩) ⟨A0 (B2 (by omega) (by omega)),rfl,rfl,rfl,rfl,rfl,rfl,rfl,rfl,trivial⟩ ⟨rfl,rfl,trivial⟩ rfl
  ·simp at h;refine Aw rfl ?_;refine A9 rfl ?_;rw [List.drop_eq_nil_of_le (by omega)] at hk2;simp only [Is] at hk2;rw [hk2] at hy2;exact Ad (jh (i+1,q) (by simp only;omega) ⟨by simp only;omega,hy2,hk3,hk4,hk5⟩) ⟨A0 (B2 (by omega) (by omega)),rfl,rfl,rfl,rfl,trivial⟩ ⟨rfl,rfl,trivial⟩ rfl
 ·simp at h;refine Aw rfl ?_;refine A9 rfl ?_;rw [List.drop_eq_nil_of_le (by omega)] at hy2;simp only [CG] at hy2;simp only [Ko,hy2] at hi1;obtain ⟨ps,pb⟩:=p;cases pb with
  | true =>
   have:=hy5 rfl;exact Ad (ih (f,ps,true) (by simp) ⟨hy3,by simp only [if_true];exact ⟨by simpa using hi1,by simp only at this;omega⟩⟩) ⟨rfl,rfl,trivial⟩ ⟨rfl,rfl,trivial⟩ rfl
  | false =>
   exact Ad (ih (f,ps,false) (by simp) ⟨hy3,by simpa using hi1⟩) ⟨rfl,rfl,trivial⟩ ⟨rfl,rfl,trivial⟩ rfl
end Go.Hk
namespace Go.Hk
mutual
theorem PS:∀(t:Ty) (l:Int),(Aq t:Int)<=l->0<=Bz t l
 | .mk _ _ _ ps,l,h=>by
  simp only [Aq] at h;simp only [Bz];rw [if_neg (by omega)];exact Oj ps (l-1) (by omega)
theorem Oj:∀(ts:List Ty) (l:Int),(Am ts:Int)<=l->0<=BY ts l
 | [],l,h=>by simpa [BY,Am] using h
 | t::r,l,h=>by
  simp only [Am] at h;simp only [BY];rw [if_pos (by omega)];have h1:=PS t l (by omega);have h2:=E0 t l h1;exact Oj r _ (by omega)
end
theorem S3 (t:Ty) (l:Nat):decide (0<=Bz t l)=decide (Aq t<=l):=by
 by_cases h:Aq t<=l
 ·rw [decide_eq_true h,decide_eq_true (PS t l (by omega))]
 ·rw [decide_eq_false h];refine decide_eq_false λh1=>h ?_;have:=E0 t l h1;omega
theorem MN (t:Ty):Cb false t=F8 t:=by
 simp only [Cb,F8];rw [<- S3 t 12];rfl
theorem eB (t:Ty):BJ t=Fg t:=by
 simp only [BJ,Fg];rw [<- S3 t 12,Bool.and_assoc];rfl
theorem nN (c:Cd):K8 c=NZ c:=by
 simp only [K8,NZ];rw [show Cb false=F8 from funext MN]
theorem kL (d:Dt):Ft d=IL d:=by
 simp only [Ft,IL,Fp];rw [show K8=NZ from funext nN];simp only [Bool.and_assoc]
end Go.Hk
namespace Go.Hk
open Go.Proofs
def Kt:Ty->Bool
 | .mk s _ _ _=>!(s == 9)
def SW (c:Cse) (p:Ty):Bool:=BJ p&&Cz c.datas c.type p
def J8 (c:Cse):Bool:=Hn c.datas&&decide (c.rows.length<=5)&&Cb true c.type&&AI c.datas c.type
def By (c:Cse):Bool:=J8 c&&(Eu Kt c.type&&(c.rows.all (SW c)&&decide (Am c.rows<=30)))
def eQ (c:Cse):Bool->V
 | true=>.tup [AQ c (AJ (Do c.datas)),.int .i64 0]
 | false=>.tup [.nilp,.int .i64 2]
theorem JW {ds:List Dt} (h:Hn ds=true):HQ ⟨[109],ds,[HU]⟩=true/\B3 (CH ds)=true/\B3 (Cn ds)=true/\BZ ds ds=true:=by
 simp only [Hn,Bool.and_eq_true] at h;exact ⟨h.1.1,h.1.2.1,h.1.2.2,h.2⟩
theorem OkD.of2 {ds:List Dt} (h:Hn ds=true):OkD ds:=by
 obtain ⟨h1,_,_,h4⟩:=JW h;exact ⟨h4,λd hd=>by have:=((Fj h1).2 d hd).1;omega⟩
theorem EB (c:Cse):Al Tryz.prog 40 [.agg (dCse c)] (eQ c (By c)):=by
 have hread:=mD c;have hT:=λq=>PW 85 q;have hCT:=UW c.type;obtain ⟨ds,t,rows⟩:=c;simp only at hread hCT ⊢;have hTy:=PW 85 Kt (λt=>by have:=Vc t;obtain ⟨s,n,x,ps⟩:=t;exact this) t;have hNm:=Sx ⟨ds,t,rows⟩ [] t;have hW:=λh4 hl2 hN=>eW ⟨ds,t,rows⟩ h4 hl2 hN;have hF:=λho hd hn p=>ZH ⟨ds,t,rows⟩ [] ho hd p t hn;have hc2:By ⟨ds,t,rows⟩=(J8 ⟨ds,t,rows⟩&&(Eu Kt t&&(rows.all (SW ⟨ds,t,rows⟩)&&decide (Am rows<=30)))):=rfl;have hc1:J8 ⟨ds,t,rows⟩=(Hn ds&&decide (rows.length<=5)&&Cb true t&&AI ds t):=rfl;generalize By ⟨ds,t,rows⟩=cb at *;generalize J8 ⟨ds,t,rows⟩=cb1 at *;generalize hnb:AI ds t=nb at *;generalize hfb:Cb true t=fb at *;generalize Eu Kt t=tb at *;obtain ⟨so,n0,x0,ps0⟩:=t
 refine Ae AL Tryz.func40 (by decide +kernel) rfl [1,2,3,4,5,6,7,8] rfl rfl ?_;refine Bl rfl ?_;cases hr:Hn ds with
 | false =>
  rw [hr] at hread hc1;refine Ag rfl hread ?_;refine Ee rfl ?_;refine AE rfl hCT ?_;refine bg [] rfl (by simp [Ap,Kz]) ?_;refine Ia (v:=.bool true) rfl (λh=>by simp [Ap] at h) rfl (by simp [Ap]) ?_;refine Ee rfl ?_;refine Ah rfl λh=>?_;refine A9 rfl ?_;rw [hc2,hc1];exact Aa rfl rfl rfl
 | true =>
 rw [hr] at hread hc1;obtain ⟨hm,hdn,hdc,han⟩:=JW hr;obtain ⟨hl1,hl2⟩:=Fj hm;have ho:=OkD.of2 hr;have hread:Bt Tryz.prog 81 [.imm (.agg (dCse ⟨ds,.mk so n0 x0 ps0,rows⟩))] [] (.ret (.tup [.ref 6 0,.imm (.bool true)]) [(6,some (PN ⟨ds,.mk so n0 x0 ps0,rows⟩))]):=hread;refine AC (fr:=[2]) [] [(6,2)] rfl (by simp) hread trivial rfl rfl rfl rfl ?_;refine Ee rfl ?_;refine AE rfl hCT ?_;refine bg [] rfl (by simp [Ap,Kz]) ?_;refine Ia rfl (λ_=>hNm) rfl (by simp [Ap]) ?_;refine Ee rfl ?_;by_cases h1:cb1=true
 case neg =>
  refine Ab rfl (λh=>?_) (λh=>?_)
  ·refine A9 rfl ?_;rw [hc2,show cb1=false by simpa using h1];exact Aa rfl rfl rfl
  ·exfalso;apply h1;rw [hc1];simp [Kz] at h ⊢;cases fb <;> grind
 have hc1':decide (rows.length<=5)=true/\fb=true/\nb=true:=by rw [h1] at hc1;simp at hc1 ⊢;grind
 obtain ⟨hr5,rfl,rfl⟩:=hc1';have hr5:rows.length<=5:=of_decide_eq_true hr5;rw [h1,Bool.true_and] at hc2;refine Ab rfl (λh=>by exfalso;simp [Kz] at h;omega) (λh=>?_);clear h;refine A9 rfl ?_;refine Ag rfl hTy ?_;refine Bl rfl ?_;cases tb with
 | false =>
  refine Ah rfl λh=>?_;refine A9 rfl ?_;rw [hc2];exact Aa rfl rfl rfl
 | true =>
 refine At rfl λh=>?_;clear h;rw [Bool.true_and] at hc2;have hF:=λp=>hF ho hdc rfl p;generalize hR:SW ⟨ds,.mk so n0 x0 ps0,rows⟩=R at *;have hR:∀p,R p=(BJ p&&Cz ds (.mk so n0 x0 ps0) p):=λp=>by rw [<- hR];rfl
 refine A9 rfl ?_;refine An (λi:Nat=>[(42,.imm (.int .i64 i)),(41,.imm (.int .i64 rows.length)),(40,.imm (.sl (Bx rows))),(6,.imm (.int .i64 ((Am (rows.take i):Nat):Int))),(1,.ref 1 0),(4,.ref 2 0)])
  (λ_=>[(1,some (.immb 29 6 (dCse ⟨ds,.mk so n0 x0 ps0,rows⟩))),(2,some (PN ⟨ds,.mk so n0 x0 ps0,rows⟩))]) [3,4,5,6] (λi=>rows.length-i)
  (λi=>i<=rows.length/\rows.all R=(rows.drop i).all R/\Am (rows.take i)<=12*i) 0 ⟨Nat.zero_le _,rfl,by simp [Am]⟩ ⟨rfl,A0 (by simp),rfl,rfl,rfl,rfl,trivial⟩ ⟨rfl,rfl,trivial⟩ rfl λi hi ih=>?_
 obtain ⟨hi1,hi2,hi3⟩:=hi;refine A9 rfl ?_;refine Ab rfl (λh=>?_) (λh=>?_)
 ·simp at h;obtain ⟨p,hp⟩:=As h;rw [E5 hp,hR] at hi2;have hFp:=hF p;have en:Am (rows.take (i+1))=Am (rows.take i)+Aq p:=by rw [Bh hp,BC];simp [Am]
  have hpn:BJ p=true->Aq p<=12:=λh=>by simp only [BJ,Bool.and_eq_true,decide_eq_true_eq] at h;exact h.1
  have hCP:=KG p;have hND:=To p;refine A9 rfl ?_;refine bi rfl (c:=Ao p) (λ_=>⟨by simp,by simpa using A4 hp,by simp⟩) (by simp) ?_;generalize BJ p=b1 at *;generalize Cz ds (.mk so n0 x0 ps0) p=b2 at *;obtain ⟨q1,q2,q3,q4⟩:=p;refine Bl rfl ?_;refine Ag rfl hCP ?_;refine bg [] rfl (by simp [Kz]) ?_;refine Ia rfl (λ_=>hFp) rfl (by simp [Ap]) ?_;refine Ee rfl ?_;by_cases hb:(b1&&b2)=true
  case neg =>
   refine Ab rfl (λh=>?_) (λh=>?_)
   ·refine A9 rfl ?_;rw [hc2,hi2,show (b1&&b2)=false by simpa using hb];exact Aa rfl rfl rfl
   ·exfalso;apply hb;simp [Kz] at h ⊢;cases b1 <;> simp_all
  rw [hb,Bool.true_and] at hi2;have hb1:b1=true:=by cases b1;simp at hb;rfl
  have hb2:b2=true:=by cases b2;simp at hb;rfl
  have hp12:=hpn hb1;refine Ab rfl (λh=>by exfalso;simp [Kz,hb1,hb2] at h) (λh=>?_);clear h;refine A9 rfl ?_;refine Af rfl (λ_=>hND (by omega)) (by simp) ?_;refine Bl rfl ?_;exact Ad (ih (i+1) (by omega) ⟨by omega,hi2,by omega⟩) ⟨A0 (B2 (by omega) (by omega)),rfl,rfl,A0 (by rw [en,B2 (by omega) (by omega)];omega),rfl,rfl,trivial⟩ ⟨rfl,rfl,trivial⟩ rfl
 ·simp at h;refine Aw rfl ?_;refine A9 rfl ?_;rw [List.take_of_length_le h];rw [hi2,List.drop_eq_nil_of_le h,List.all_nil,Bool.true_and] at hc2;by_cases h30:Am rows<=30
  case neg =>
   refine Ab rfl (λh=>?_) (λh=>by exfalso;simp at h;omega);refine A9 rfl ?_;rw [hc2,show decide (Am rows<=30)=false by simpa using h30];exact Aa rfl rfl rfl
  rw [hc2,show decide (Am rows<=30)=true by simpa using h30];refine Ab rfl (λh=>by exfalso;simp at h;omega) (λh=>?_);clear h;refine A9 rfl ?_;refine AC (fr:=[3]) [(2,1)] [(2,3)] rfl (by simp) (hW hl1 hl2 han) ⟨⟨rfl,rfl,rfl⟩,trivial⟩ rfl rfl rfl rfl ?_;refine Bl rfl ?_;refine Bw 3 rfl ?_;refine OZ 2 (id:=2) (off:=0) (ty:=150) (sz:=9) (xs:=eT ⟨ds,.mk so n0 x0 ps0,rows⟩ (AJ (Do ds))) rfl rfl ?_;exact Aa rfl rfl rfl
end Go.Hk
namespace Go.Hk
def KH (P:Program) (n:Nat) (c:Code) (env:Env) (st:St) (ids:List Nat) (env':Env) (st':St) (ids':List Nat):Prop :=
 ∀(b:Frame) (cs:List Frame) (Q:Exit->Act->World->Prop) (I:Imm) (μ:Mu) (a:Act) (w:World) (tail:List Item),Conc n I μ env st ids a w ->
  (∀I' μ' a' w',Conc n I' μ' env' st' ids' a' w'->μ.le μ'->Ext I μ st w I' μ' st' w'->Reach P b cs Q tail a' w')->Reach P b cs Q (.code c::tail) a w
def Og (P:Program) (n:Nat) (all rest:List Oper) (env:Env) (st:St) (ids:List Nat) (env':Env) (st':St) (ids':List Nat):Prop :=
 ∀(b:Frame) (cs:List Frame) (Q:Exit->Act->World->Prop) (I:Imm) (μ:Mu) (a:Act) (w:World) (tail:List Item) (j:Nat),rest=all.drop j->Conc n I μ env st ids a w ->
  (∀I' μ' a' w',Conc n I' μ' env' st' ids' a' w'->μ.le μ'->Ext I μ st w I' μ' st' w'->Reach P b cs Q tail a' w')->Reach P b cs Q (.inRegion all.toArray (List.range' j rest.length)::tail) a w
section
variable {P:Program} {n:Nat} {tt:TT} {env env' env2 E:Env} {st st' st2 stx:St} {ids ids' ids2:List Nat} {c c':Code} {all rest:List Oper} {o:Oper} {ob:List Prop} {I:Imm} {μ:Mu} {w:World} {d:D}
theorem ZS (h:KH P n c env st ids env' st' ids') (h':KH P n c' env' st' ids' env2 st2 ids2):KH P n (.seq c c') env st ids env2 st2 ids2:=λb cs Q I μ a w tail hc k =>
 Ta (h b cs Q I μ a w _ hc λI' μ' a' w' hc' hm he=>h' b cs Q I' μ' a' w' _ hc' λI2 μ2 a2 w2 hc2 hm2 he2=>k I2 μ2 a2 w2 hc2 (λi v hv=>hm2 i v (hm i v hv)) (he.trans he2))
theorem Mu.le_trans' {a b c:Mu} (h:a.le b) (k:b.le c):a.le c:=λi v hv=>k i v (h i v hv)
theorem YR {rid:Nat} (h:Og P n all all env st ids env' st' ids'):KH P n (.region rid ⟨all⟩ false) env st ids env' st' ids':=λb cs Q I μ a w tail hc k=>by
 refine Mv ?_;have:=h b cs Q I μ a w tail 0 rfl hc k;simpa [List.range_eq_range'] using this
theorem mH:Og P n all [] env st ids env st ids:=λb cs Q I μ a w tail j hj hc k=>G5 (k I μ a w hc (Mu.le_refl μ) (Ext.refl _ _ _ _))
theorem pJ {rd fr:List Nat} {wr:St} (hl:LD P (λ_=>False) all o env st rd fr wr d) (hg:o.guard=none) (hnd:∀c,o.op ≠ .defer c) (hn:∀t,o.dst=some t->t<n)
  (h:Og P n all rest (B9 o.dst d env) (wr++st) ids' env' st' ids2):Og P n all (o::rest) env st (fr++ids') env' st' ids2:=by
 intro b cs Q I μ a w tail j hr hc k;obtain ⟨hj,hr'⟩:=Eb hr;have hon:KF (o.looksAt all.toArray) I μ env a:=λt _ d hl=>hc.env t d hl;have hlen:(o::rest).length=rest.length+1:=rfl;rw [hlen,List.range'_succ];have hw:Region.wanted o (yielded all.toArray a.tmps)=true:=AG hg;obtain ⟨h1,_⟩:=hl I μ st ids' a w (λ_ _=>rfl) hc.toStRep hon;refine Gn hj hw hnd (valX.upon ((h1 hw).mono ?_ ?_))
 ·rintro v w2 ⟨I',μ',q1,q2,q4,q3⟩;obtain ⟨p1,p2,p3⟩:=HL (n:=n) (w:=w2) (dst:=o.dst) (λt d hl=>(hc.env t d hl).mono q3.imm q4) hc.size hn q2;exact h b cs Q I' μ' (a.put o.dst v) w2 tail (j+1) hr'
   {q1 with size:=p2,env:=by cases hdst:o.dst <;> simpa [B9,hdst] using p1,defers:=by rw [p3];exact hc.defers.ext q3 }
   λI2 μ2 a2 w3 hc2 hm2 he2=>k I2 μ2 a2 w3 hc2 (Mu.le_trans' q4 hm2) (q3.trans he2)
 ·rintro chain w2 ⟨v,x,I2,q1,q2,q3,q4,q5⟩;exact q2.elim
theorem oS (htt:TTok P tt) {i:Nat} {x:Option Blk} {st1:St} {env1:Env} {ids1:List Nat} (h:Fa tt n all o env st ids = .e env1 ((i,x)::st1) ids1 ob) (hob:AA ob) (hg:o.guard=none) (hr:Og P n all rest env1 ((i,x)::st) ids1 env' st' ids2) :
  Og P n all (o::rest) env st ids env' st' ids2:=by
 obtain ⟨d,fr,e1,e2,e3,e4,e5,_,e7⟩:=T0 (P:=P) (Pn:=λ_=>False) htt h hob;subst e2;rw [e3] at hr;exact pJ (wr:=[(i,x)]) e7 hg e5 e4 hr
theorem PJ (htt:TTok P tt) {rid:Nat} {o1 o2:Oper} {i:Nat} {x y:Option Blk} {st1 st2':St} {env1 env2:Env} {ids1 ids2:List Nat} {ob1 ob2:List Prop} (h1:Fa tt n [o1,o2] o1 env st ids = .e env1 ((i,x)::st1) ids1 ob1) (g1:o1.guard=none)
  (h2:Fa tt n [o1,o2] o2 env1 ((i,x)::st) ids1 = .e env2 ((i,y)::st2') ids2 ob2) (g2:o2.guard=none) (hob1:AA ob1) (hob2:AA ob2):KH P n (.region rid ⟨[o1,o2]⟩ false) env st ids env2 ((i,y)::(i,x)::st) ids2 :=
 YR (oS htt h1 hob1 g1 (oS htt h2 hob2 g2 mH))
theorem Rs {L:Lz} {p q:Nat} {fc:Func} {d d2:D} {stB:St} {pend:Option Code} (hf:P.funcs[L.fn]?=some fc) (hps:L.ps = #[p,q]) (hsz:L.tmps.size=n)
  (hd:IR d=[]) (hd2:IR d2=[]) (hp:p<n) (hq:q<n) (hfree:Rl ids L.E stx L.F) (hasg:KH P n L.asg ((q,d2)::(p,d)::L.E) stx ids env st ids')
  (h:DGo P n (gO::(L.F++Va L.E)) (rT pend stB) [.code L.body] env st ids'):Py P [d,d2] (CO L stx none) pend.isNone (CO L stB pend):=by
 intro I μ w b xs hμ hst hx;have hl0:Az (UY 1 (CO L stx none)) 0 .pin:=A8.2 (.inl ⟨rfl,rfl⟩);have hl1:Az (UY 1 (CO L stx none)) 1 (.bun 0 (CO L stx none)):=A8.2 (.inr ⟨by simp,A8.2 (.inl ⟨rfl,rfl⟩)⟩);obtain ⟨g1,hg1,b',bs,hb1,rfl,hP⟩:=hst.blk 1 _ hl1;rw [hμ] at hb1;cases hb1;have hbs:∀k∈bs,I k=none/\k<w.heap.size:=λk hk=>hst.apart 1 _ _ k hl1 hg1 (Ds.2 hk);have hP0:=hP;obtain ⟨r,ν,bs0,e1,hr1,⟨hr2,hr3⟩,⟨hr4,hr5,hr6,hr7,hr8⟩,hE1,hS,hown,hnb,hF⟩:=WW hP hfree hst.imm hbs;subst e1;obtain ⟨x,x2,rfl⟩:∃x x2,xs = #[x,x2]:=by
  obtain ⟨l⟩:=xs;have:=hx.1
  match l,this with
  | [x,x2],_=>exact ⟨x,x2,rfl⟩
 have hxd1:RepD I ν x d:=(hx.2 0 x d rfl rfl).sub λj hj=>by rw [hd] at hj;cases hj
 have hxd2:RepD I ν x2 d2:=(hx.2 1 x2 d2 rfl rfl).sub λj hj=>by rw [hd2] at hj;cases hj
 have hszp:(#[x,x2]:Array Value).size=r.params.size:=by rw [hr5,hps];rfl
 unfold rR;rw [run_yield hr1 hszp];refine N1 (fc:=fc) (by rw [hr4];exact hf) λfb cs hbf hbr=>?_;rw [hr5,hps,hr6,hr7,hr8];have hfold:((#[p,q]:Array Nat).zip #[x,x2]).foldl (λtmps (t,a)=>tmps.setIfInBounds t a) L.tmps=(L.tmps.setIfInBounds p x).setIfInBounds q x2:=by simp
 rw [hfold];obtain ⟨hIb,hblt⟩:=hbs b (by simp);have hnob0:¬BA ν stx b:=λh=>hnb ((hown b).2 h);have hput:∀(w:World) (o:Obj),(w.putObj b o).heap=w.heap.setIfInBounds b o:=λw o=>by
  unfold World.putObj;by_cases hi:b<w.heap.size <;> simp [hi]
 have hoth:∀(w:World) (o:Obj) k,k≠b->(w.putObj b o).heap[k]?=w.heap[k]?:=λw o k hk=>by rw [hput,Array.getElem?_setIfInBounds_ne (Ne.symm hk)]
 obtain ⟨c1,c2,c3⟩:=HL (n:=n) (w:=w) (a:={ tmps:=L.tmps,defers:=[] }) (dst:=some p) hE1 hsz (λt ht=>by cases ht;exact hp) hxd1;obtain ⟨f1,f2,f3⟩:=HL (n:=n) (w:=w) (dst:=some q) c1 c2 (λt ht=>by cases ht;exact hq) hxd2;have hc0:Conc n I ν ((q,d2)::(p,d)::L.E) stx ids ((Act.put { tmps:=L.tmps,defers:=[] } (some p) x).put (some q) x2) w:={ hS with size:=f2,env:=f1,defers:=by rw [f3,c3];exact MarksOk.nil _ _ _ _ }
 refine hasg fb cs _ I ν _ w _ hc0 λIA νA aA wA hcA hmA heA=>?_;have hnob:¬BA νA st b:=λh=>hnob0 (heA.fresh b hblt h);have hrA1:wA.heap[b]?=some (.loop r):=by rw [heA.block b hblt hnob0];exact hr1
 have hIbA:IA b=none:=by rw [heA.old b hblt hnob0];exact hIb
 have hbltA:b<wA.heap.size:=(Array.getElem?_eq_some_iff.1 hrA1).1;obtain ⟨w1,hw1⟩:∃w1:World,w1=wA.putObj b (.loop { r with state:=.busy }):=⟨_,rfl⟩
 have hbeg:=run_beginRound (P:=P) hrA1 hr2;refine Reach.step (stepR_beginRound hbr hbeg) ?_;rw [<- hw1];have hmarks:MarksOk IA νA st w1 aA.defers:=by
  obtain ⟨rs,m1,m2,m3⟩:=hcA.defers;refine ⟨rs,m1,m2,λk hk=>⟨?_,(m3 k hk).2⟩⟩;have h0:=(m3 k hk).1;rw [hw1,hoth _ _ k (λe=>by rw [e,hrA1] at h0;cases h0)];exact h0
 have hc:Conc n IA νA env st ids' aA w1 :=
  {hcA.toStRep.other (by rw [hw1,hput];simp) (λk o hk=>by rw [hw1];exact hoth _ _ k (λe=>by rw [e,hIbA] at hk;cases hk)) (λk hk=>by rw [hw1];exact hoth _ _ k (λe=>hnob (e ▸ hk))) with
   size:=hcA.size
   env:=hcA.env
   defers:=hmarks }
 have hgo:=h ⟨fb,.inl (by simp)⟩ cs IA νA _ w1 [.code L.body] ⟨rfl,trivial⟩ hc;refine Reach.mono (λe a' w' hpost=>?_) hgo;obtain ⟨x',env',st',ids2,I',μ',p1,p2,p3,p4,p5,p6⟩:=hpost;have hb1:w1.heap[b]?=some (.loop { r with state:=.busy }):=by rw [hw1,hput];simp [hbltA]
 have hsz1:w1.heap.size=wA.heap.size:=by rw [hw1,hput];simp
 have hszA:w.heap.size<=wA.heap.size:=heA.size;have hno2:∀k,k<w.heap.size->¬BA ν stx k->¬BA νA st k:=λk hk ho hq=>ho (heA.fresh k hk hq);have hfr2:∀k,k<w.heap.size->BA μ' st' k->BA ν stx k:=λk hk ho=>heA.fresh k hk (p5.fresh k (by omega) ho);have hold2:∀k,k<w.heap.size->¬BA ν stx k->I' k=I k:=λk hk ho=>(p5.old k (by omega) (hno2 k hk ho)).trans (heA.old k hk ho);have himm2:I.le I':=Imm.le_trans heA.imm p5.imm;have hb':w'.heap[b]?=some (.loop { r with state:=.busy }):=by rw [p5.block b (by omega) hnob];exact hb1
 have hno':¬BA μ' st' b:=λho=>hnob (p5.fresh b (by omega) ho);have hI':I' b=none:=by rw [p5.old b (by omega) hnob];exact hIbA
 have hblt':b<w'.heap.size:=(Array.getElem?_eq_some_iff.1 hb').1;have fin:Hf st' stB->∃v w'',(Instr.endRound b pend).run P w' = .ok v w''/\(∃I2 μ2,RepD I2 μ2 v (.imm (.bool pend.isNone))/\StRep I2 μ2 (UY 2 (CO L stB pend)) [] w'' /\
   Pin (Ey (UY 1 (CO L stx none))) μ μ2/\Ext I μ (UY 1 (CO L stx none)) w I2 μ2 (UY 2 (CO L stB pend)) w''):=by
  intro hsub;have hSB:StRep I' μ' stB [] w':=p3.toStRep.less (EC hsub) .nil (λ_ h=>by simp at h);have hownB':∀k,BA μ' stB k->BA μ' st' k:=λk ⟨i,bi,g,q1,q2⟩=>⟨i,bi,g,EC hsub i bi q1,q2⟩
  have hnoB:¬BA μ' stB b:=λh=>hno' (hownB' b h);obtain ⟨w2,hw2⟩:∃w2:World,w2=w'.putObj b (.loop { r with state:=if pend.isNone then .ready else .done,pending:=pend }):=⟨_,rfl⟩
  have hend:(Instr.endRound b pend).run P w' = .ok (.bool pend.isNone) w2:=by
   have:=run_endRound (P:=P) pend hb';rw [hw2];exact this
  have hw2s:w2.heap.size=w'.heap.size:=by rw [hw2,hput];simp
  have hw2o:∀k,k≠b->w2.heap[k]?=w'.heap[k]?:=λk hk=>by rw [hw2];exact hoth _ _ k hk
  have hSB2:StRep I' μ' stB [] w2:=hSB.other (by omega) (λk o hk=>hw2o k (λe=>by rw [e,hI'] at hk;cases hk)) (λk hk=>hw2o k (λe=>hnoB (e ▸ hk)));obtain ⟨bsN,hbsN⟩:=Q3 μ' stB;have hPN:(CO L stB pend).P I' w2 b (b::bsN):=by
   refine ⟨{ r with state:=if pend.isNone then .ready else .done,pending:=pend },μ',bsN,rfl,by rw [hw2,hput];simp [hblt'],⟨by cases pend <;> rfl,rfl⟩,⟨hr4,hr5,hr6,hr7,hr8⟩,λt d hl=>?_,hSB2.blk,hSB2.inj,hbsN,λhm=>hnoB ((hbsN b).1 hm),λi hi=>?_⟩
   ·exact ((hE1 t d hl).mono himm2 (Mu.le_refl ν)).sub λj hj g hg=>p4 j (by simp [XP hl j hj]) g (hmA j g hg)
   ·exact λg hg0=>p4 i (by simp [hi]) g (hmA i g (hF i hi g hg0))
  obtain ⟨μ2,hμ2⟩:∃μ2:Mu,μ2=λi=>if i=2 then some (.agg (Ux (b::bsN))) else μ i:=⟨_,rfl⟩
  have hm0:μ2 0=some (.func (.yield b) #[] #[]):=by rw [hμ2];simpa using hμ
  have hm2:μ2 2=some (.agg (Ux (b::bsN))):=by rw [hμ2];simp
  have hold:∀k,k∈b::bsN->k<w.heap.size->k∈b::bs0:=λk hk hlt=>by
   rcases List.mem_cons.1 hk with rfl | hk
   ·simp
   ·exact List.mem_cons_of_mem _ ((hown k).2 (hfr2 k hlt (hownB' k ((hbsN k).1 hk))))
  have hnew:∀k∈b::bsN,I' k=none/\k<w2.heap.size:=λk hk=>by
   rcases List.mem_cons.1 hk with rfl | hk
   ·exact ⟨hI',by omega⟩
   ·obtain ⟨i,bi,g,q1,q2,q3⟩:=(hbsN k).1 hk;exact hSB2.apart i bi g k q1 q2 q3
  have hownO:∀k,BA μ (UY 1 (CO L stx none)) k↔k∈b::bs0:=λk=>by
   constructor
   ·rintro ⟨i,bi,g,q1,q2,q3⟩;rcases JH (by simp) q1 with ⟨rfl,rfl⟩ | ⟨rfl,rfl⟩
    ·rw [hμ] at q2;cases q2;exact q3.elim
    ·rw [hg1] at q2;cases q2;exact Ds.1 q3
   ·intro hk;exact ⟨1,_,_,hl1,hg1,Ds.2 hk⟩
  have hownN:∀k,BA μ2 (UY 2 (CO L stB pend)) k->k∈b::bsN:=λk=>by
   rintro ⟨i,bi,g,q1,q2,q3⟩;rcases JH (by simp) q1 with ⟨rfl,rfl⟩ | ⟨rfl,rfl⟩
   ·rw [hm0] at q2;cases q2;exact q3.elim
   ·rw [hm2] at q2;cases q2;exact Ds.1 q3
  refine ⟨_,w2,hend,I',μ2,.imm _ _ (.bool _),?_,?_,?_⟩
  ·refine { imm:=hSB2.imm,blk:=λi bi hl=>?_,apart:=λi bi g k hl hgi hk=>hnew k (hownN k ⟨i,bi,g,hl,hgi,hk⟩),inj:=λi j bi bj gi gj k hi hj hgi hgj hki hkj=>?_,nodup:=.nil,idsFree:=λ_ h=>by simp at h }
   ·rcases JH (by simp) hl with ⟨rfl,rfl⟩ | ⟨rfl,rfl⟩
    ·exact ⟨_,hm0,b,rfl⟩
    ·exact ⟨_,hm2,b,_,hm0,rfl,hPN⟩
   ·rcases JH (by simp) hi with ⟨rfl,rfl⟩ | ⟨rfl,rfl⟩ <;> rcases JH (by simp) hj with ⟨rfl,rfl⟩ | ⟨rfl,rfl⟩
    ·rfl
    ·rw [hm0] at hgi;cases hgi;exact hki.elim
    ·rw [hm0] at hgj;cases hgj;exact hkj.elim
    ·rfl
  ·intro i hi g hg;simp only [UY,Ey,List.map_cons,List.map_nil,List.mem_cons,List.not_mem_nil,or_false] at hi;have:i≠2:=by omega
   rw [hμ2];simp only [if_neg this];exact hg
  ·refine { imm:=himm2,os:=?_,tape:=?_,output:=?_,size:=?_,block:=λk hk hno=>?_,fresh:=λk hk ho=>(hownO k).2 (hold k (hownN k ho) hk),old:=λk hk hno=>hold2 k hk (λh=>hno ((hownO k).2 (List.mem_cons_of_mem _ ((hown k).2 h)))) }
   ·have:=p5.os;rw [hw1] at this;rw [hw2,<- heA.os];unfold World.putObj at this ⊢;exact this
   ·have:=p5.tape;rw [hw1] at this;rw [hw2,<- heA.tape];unfold World.putObj at this ⊢;exact this
   ·have:=p5.output;rw [hw1] at this;rw [hw2,<- heA.output];unfold World.putObj at this ⊢;exact this
   ·have:=p5.size;omega
   ·have hkb:k≠b:=λe=>hno ((hownO k).2 (by simp [e]));have hno3:¬BA ν stx k:=λh=>hno ((hownO k).2 (List.mem_cons_of_mem _ ((hown k).2 h)));rw [hw2o k hkb,p5.block k (by omega) (hno2 k hk hno3),hw1,hoth _ _ k hkb,heA.block k hk hno3]
 cases e with
 | normal =>
  cases x' <;> simp only [Od] at p1;cases pend with
  | none=>exact fin p2
  | some c=>exact p2.elim
 | ret =>
  cases x' <;> simp only [Od] at p1;cases pend with
  | none=>exact p2.elim
  | some c=>cases c <;> first | exact p2.elim | exact fin p2
 | exit j =>
  cases x' <;> simp only [Od] at p1;cases pend with
  | none=>exact p2.elim
  | some c =>
   cases c <;> first | exact p2.elim | skip
   obtain ⟨q1,q2⟩:=p2;subst q1;subst p1;exact fin q2
 | goto l =>
  cases x' <;> simp only [Od] at p1;cases pend <;> exact p2.elim
 | panic chain =>
  cases x' <;> simp only [Od] at p1;cases pend <;> exact p2.elim
 | outgrown=>cases x' <;> simp only [Od] at p1
theorem FQ {id:Nat}:∀{ds:List DI} {is:List Item},F6 id ds=none->TZ ds is->exitTo id is=none
 | [],is,_,hd=>by
  cases is with
  | nil=>rfl
  | cons=>exact hd.elim
 | d::ds,is,h,hd=>by
  obtain ⟨i,is,rfl,h1,h2⟩:=Gx hd;cases d with
  | inBlock id1 =>
   cases i with
   | inBlock id2 =>
    have h1:id2=id1:=h1;subst h1;simp only [F6] at h
    split at h
    ·cases h
    ·rename_i hb;have hne:id2≠id:=λe=>by subst e;simp at hb
     simp [exitTo,hne,FQ h h2]
   | _=>exact h1.elim
  | code c =>
   simp only [F6] at h;cases i <;> simp only [K4] at h1;simp [exitTo,FQ h h2]
  | inLoop c =>
   simp only [F6] at h;cases i <;> simp only [K4] at h1;simp [exitTo,FQ h h2]
  | inScope c =>
   simp only [F6] at h;cases i <;> simp only [K4] at h1;simp [exitTo,FQ h h2]
  | ops all rest =>
   simp only [F6] at h;cases i <;> simp only [K4] at h1;simp [exitTo,FQ h h2]
  | dops all rest fs=>cases i <;> simp only [K4] at h1
theorem WG {F:List Nat} {Q:DQ} {id:Nat} {k:List DI} (he:F6 id k=none) (h:Q (.exit id) env st ids):DGo P n F Q (.code (.exit id)::k) env st ids:=by
 intro b cs I μ a w items hd hc;obtain ⟨is,rfl,hk⟩:=H8 hd;exact Sb (FQ he hk) ⟨.exit id,env,st,ids,I,μ,rfl,h,hc,.refl _ _,.refl _ _ _ _,.refl _ _⟩
end
end Go.Hk
namespace Go.Hk
open Go.Proofs
def UD (v:Ty):Bool:=decide (0<=Db v 20000 100)&&Pw v
def JA (c:Cse) (v:Ty):Bool:=By c&&UD v&&LE c.datas c.type v
theorem CN {c:Cse} (h:By c=true):OkD c.datas/\B3 (Cn c.datas)=true/\AI c.datas c.type=true/\c.rows.length<=5/\∀p∈c.rows,BJ p=true/\Cz c.datas c.type p=true:=by
 simp only [By,J8,Bool.and_eq_true,List.all_eq_true,SW,decide_eq_true_eq] at h;obtain ⟨⟨⟨⟨h1,h2⟩,h3⟩,h4⟩,h5,h6,h7⟩:=h;exact ⟨OkD.of2 h1,(JW h1).2.2.1,h4,h2,h6⟩
theorem Xc (c:Cse) (v:Ty):Al Tryz.prog 56 [.agg (dCse c),.agg (Ao v)] (eQ c (JA c v)):=by
 have hW:=EB c;have hF:=Y3 v;have hI:=λh=>oW c (AJ (Do c.datas)) (CN (c:=c) h).1 (CN h).2.1 v c.type (CN h).2.2.1;obtain ⟨ds,⟨c1,c2,c3,c4⟩,rows⟩:=c;obtain ⟨g,m,z,vs⟩:=v;have hF:Al Tryz.prog 61 [.agg (Ao (.mk g m z vs))] (.bool (UD (.mk g m z vs))):=hF;simp only [JA] at hI ⊢;generalize hb:By ⟨ds,.mk c1 c2 c3 c4,rows⟩=b at *;generalize UD (.mk g m z vs)=b2 at *;generalize LE ds (.mk c1 c2 c3 c4) (.mk g m z vs)=b3 at *;refine Ae AL Tryz.func56 (by decide +kernel) rfl [3,4,5] rfl rfl ?_;refine Bl rfl ?_;cases b with
 | false =>
  refine Ag rfl hW ?_;refine Bl rfl ?_;refine AE rfl hF ?_;refine Ee rfl ?_;refine Af (v:=.bool true) rfl (λh=>by simp [Ap] at h) (by simp [Ap]) ?_;refine Ee rfl ?_;refine Ah rfl λh=>?_;refine A9 rfl ?_;exact Aa rfl rfl rfl
 | true =>
  refine Ag rfl hW ?_;refine Bl rfl ?_;refine AE rfl hF ?_;refine Ee rfl ?_;refine Af rfl (λ_=>hI rfl) (by simp [Ap]) ?_;refine Ee rfl ?_;by_cases hh:(b2&&b3)=true
  case neg =>
   refine Ab rfl (λh=>?_) (λh=>by exfalso;apply hh;simp at h ⊢;grind);refine A9 rfl ?_;rw [show (true&&b2&&b3)=false by simpa using hh];exact Aa rfl rfl rfl
  refine Ab rfl (λh=>by exfalso;simp at h hh;grind) (λh=>?_);refine A9 rfl ?_;rw [show (true&&b2&&b3)=true by simpa using hh];exact Aa rfl rfl rfl
def ttN:TT:=lN++[]
theorem pA:TTok Tryz.prog ttN:=.of_eq (l:=[4,3,9,165,26,69,162,27,5,24,23,172,163,67,167,171,75,22,169,72,70,37,267,213,1,216,280,248,241,243,245,99,264,249]) (by kernel_rfl)
section
variable {n:Nat} {F:List Nat} {Q:DQ} {env env':Env} {st st':St} {ids ids':List Nat} {k todo:List DI} {ob:List Prop}
theorem ni {es:List (List V)} {m:Int} {sz:Nat} {e:TypeId} {g:Option (Bool×Bool)} {ob:List Prop} {t:Nat} {todo':List DI} {c:List V} (h:Pm ttN n env todo=some ⟨es,m,sz,e,g,ob,some t,todo'⟩)
  (hc:Ap g->0<=m/\es[m.toNat]?=some c/\c.length=sz) (hob:AA ob) (hk:G Tryz.prog n F Q todo' ((t,gD g (.ip e c 0))::env) st ids):G Tryz.prog n F Q todo env st ids:=Ge pA h hc hob hk
end
def oB:Ty->Str
 | .mk _ _ x _=>x
def gS:Code->Option (Code×Code)
 | .rangeFunc _ _ a b=>some (a,b)
 | .seq x y=>match gS x with
  | some r=>some r
  | none=>gS y
 | .block _ c=>gS c
 | _=>none
def oE (f:Func):Code:=match gS (Gi f 0) with
 | some (a,_)=>a
 | none=>.skip
def gQ (f:Func):Code:=match gS (Gi f 0) with
 | some (_,b)=>b
 | none=>.skip
end Go.Hk
namespace Go.Hk
open Go.Proofs
theorem MI:Zf Tryz.prog 122=true:=by kernel_rfl
mutual
def DF:Ty->Ty->List (Ty×Ty)
 | .mk f n x ps,v=>(.mk f n x ps,v)::(bif decide (f=6)&&AB (AO (.mk f n x ps)) v then Ex ps (B4 v) else [])
def Ex:List Ty->List Ty->List (Ty×Ty)
 | [],_=>[]
 | _::_,[]=>[]
 | p::r,q::s=>DF p q++Ex r s
end
inductive Yields2 (P:Program):List (Ty×Ty)->Bun->Bool->Bun->Prop where
 | nil (S:Bun):Yields2 P [] S true S
 | cons {d:Ty×Ty} {l:List (Ty×Ty)} {S S1 S2:Bun} {r:Bool} (h:Py P [.imm (.agg (Ao d.1)),.imm (.agg (Ao d.2))] S true S1) (h1:Yields2 P l S1 r S2):Yields2 P (d::l) S r S2
 | stop {d:Ty×Ty} {l:List (Ty×Ty)} {S S1:Bun} (h:Py P [.imm (.agg (Ao d.1)),.imm (.agg (Ao d.2))] S false S1):Yields2 P (d::l) S false S1
theorem Yields2.split {P:Program} {l m:List (Ty×Ty)} {S S2:Bun} {r:Bool} (h:Yields2 P (l++m) S r S2):(∃S1,Yields2 P l S true S1/\Yields2 P m S1 r S2)\/(r=false/\Yields2 P l S false S2):=by
 induction l generalizing S with
 | nil=>exact .inl ⟨S,.nil S,h⟩
 | cons d l ih =>
  cases h with
  | cons h h1 =>
   rcases ih h1 with ⟨S1,q1,q2⟩ | ⟨q1,q2⟩
   ·exact .inl ⟨S1,.cons h q1,q2⟩
   ·exact .inr ⟨q1,.cons h q2⟩
  | stop h=>exact .inr ⟨rfl,.stop h⟩
theorem Yields2.nilInv {P:Program} {S S2:Bun} {r:Bool} (h:Yields2 P [] S r S2):r=true/\S2=S:=by
 cases h;exact ⟨rfl,rfl⟩
def pW (r:St):St:=(1,some (.cells 232 1 [.yld 3]))::(2,some (.cells 232 1 [.fn (.func 153) [] [.ref 1 0,.ref 2 0]]))::r
def goC (p v:Ty) (b:Bool) (S S':Bun):Prop:=Bt Tryz.prog 153 [.imm (.agg (Ao p)),.imm (.agg (Ao v)),.ref 1 0,.ref 2 0]
 (pW [(3,some .pin),(4,some (.bun 3 S))]) (.ret (.imm (.bool b)) (pW [(3,some .pin),(5,some (.bun 3 S'))]))
theorem Rd (a b:Ty):AB a b=(match a,b with | .mk s n x _,.mk s' n' x' _=>(s == s')&&((n == n')&&(x == x'))):=by
 obtain ⟨s,n,x,ps⟩:=a;obtain ⟨s',n',x',ps'⟩:=b;simp [AB,Bool.and_assoc]
theorem jT:∀(p v:Ty) {b:Bool} {S S':Bun},M1 p v=true->Yields2 Tryz.prog (DF p v) S b S'->goC p v b S S'
 | .mk f n x ps,.mk g m z vs,b,S,S',hok,hY=>by
  have hW:=Ma (.mk f n x ps);have hO:=Z0 (.mk g m z vs);simp only [DF,B4] at hY;simp only [M1,B4] at hok;have hE:=Rd (AO (.mk f n x ps)) (.mk g m z vs);generalize AB (AO (.mk f n x ps)) (.mk g m z vs)=he at *;generalize AO (.mk f n x ps)=hd at *;obtain ⟨hs,hn,hx,hps⟩:=hd;simp only at hE;refine Ae AL Tryz.func153 (by decide +kernel) rfl [8,9,6,10,7,5] rfl rfl ?_;refine Ee rfl ?_;cases hY with
  | stop h =>
   refine ZE (j:=4) (j2:=6) rfl (by simp [Ap]) trivial h rfl rfl rfl rfl rfl ?_;refine Ee rfl ?_;refine Ah rfl λh=>?_;refine A9 rfl ?_;refine IK (ids':=[]) 6 5 rfl rfl ?_;exact Au ⟨_,rfl,tV rfl,rfl,rfl,rfl,rfl,trivial⟩
  | @cons _ _ _ S1 _ _ h hY =>
   refine ZE (j:=4) (j2:=6) rfl (by simp [Ap]) trivial h rfl rfl rfl rfl rfl ?_;refine Ee rfl ?_;refine At rfl λh=>?_;refine A9 rfl ?_;refine AE rfl hW ?_;refine Ee rfl ?_;refine AE rfl hO ?_;refine Ee rfl ?_;refine Wz AL rfl MI (by simp [Ap]) ?_;refine bg [] rfl (by simp [Ap];rfl) ?_;by_cases hg:f=6/\he=true
   case neg =>
    rw [show (bif decide (f=6)&&he then Ex ps vs else [])=[] by
     have:(decide (f=6)&&he)=false:=by simp;grind
     rw [this];rfl] at hY
    obtain ⟨rfl,rfl⟩:=hY.nilInv;refine Ab rfl (λh=>?_) (λh=>by exfalso;apply hg;rw [hE];simp at h ⊢;grind);refine A9 rfl ?_;refine IK (ids':=[]) 6 5 rfl rfl ?_;exact Au ⟨_,rfl,tV rfl,rfl,rfl,rfl,rfl,trivial⟩
   obtain ⟨rfl,rfl⟩:=hg;have hE1:(hs == g&&(hn == m&&hx == z))=true:=hE.symm;refine Ab rfl (λh=>by exfalso;simp at h hE1;grind) (λh=>?_);clear h;rw [show (bif decide ((6:Int)=6)&&true then Ex ps vs else [])=Ex ps vs from rfl] at hY;simp only [show decide ((6:Int)=1)=false from rfl,show decide ((6:Int)=2)=false from rfl,Bool.not_true,Bool.false_or,Bool.and_eq_true] at hok;obtain ⟨hlen,hok⟩:=hok;have hlen:ps.length<=vs.length:=of_decide_eq_true hlen;refine A9 rfl ?_;refine WF (t:=25) rfl λhv=>?_;have hpl:ps.length<=9223372036854775807:=by simp [ET,maxLen] at hv;omega
   refine An (λy:Nat×Bun=>[(27,.imm (.int .i64 y.1)),(26,.imm (.int .i64 ps.length)),(25,.imm (.sl (Bx ps))),(3,.ref 2 0),(5,.ref 9 0)])
    (λy=>pW [(3,some .pin),(6,some (.bun 3 y.2)),(9,some (.immb 46 4 (Ao (.mk g m z vs))))]) [10,7,5] (λy=>ps.length-y.1)
    (λy=>y.1<=ps.length/\M0 (ps.drop y.1) (vs.drop y.1)=true/\Yields2 Tryz.prog (Ex (ps.drop y.1) (vs.drop y.1)) y.2 b S') (0,S1) ⟨Nat.zero_le _,hok,hY⟩ ⟨rfl,A0 (by simp),rfl,rfl,rfl,trivial⟩ ⟨rfl,rfl,rfl,rfl,rfl,trivial⟩ rfl λy hi ih=>?_
   obtain ⟨i,S0⟩:=y;obtain ⟨hi1,hi2,hi3⟩:=hi;simp only at hi1 hi2 hi3;refine GQ rfl ?_;refine Ab rfl (λh=>?_) (λh=>?_)
   ·simp at h;obtain ⟨t,ht⟩:=As h;obtain ⟨u,hu⟩:=As (l:=vs) (i:=i) (by omega);rw [Av ht,Av hu] at hi2 hi3;simp only [M0,Bool.and_eq_true] at hi2;simp only [Ex] at hi3;refine GQ rfl ?_;refine bi rfl (c:=Ao t) (λ_=>⟨by simp,by simpa using A4 ht,by simp⟩) (by simp) ?_;refine Ee rfl ?_;refine bi rfl (c:=Ao u) (λ_=>⟨by simp,by simpa using A4 hu,by simp⟩) (by simp) ?_;refine Ee rfl ?_;rcases Yields2.split hi3 with ⟨S2,q1,q2⟩ | ⟨q1,q2⟩
    ·refine AC (fr:=[7]) [(1,1),(2,2),(3,3),(6,4)] [(5,7)] rfl (by simp) (jT t u hi2.1 q1) ⟨⟨rfl,rfl,rfl⟩,⟨rfl,rfl,rfl⟩,⟨rfl,rfl,rfl⟩,⟨rfl,rfl,rfl⟩,trivial⟩ rfl rfl rfl rfl ?_;refine bg [] rfl (by simp [Ap];rfl) ?_;refine At rfl λh=>?_;refine A9 rfl ?_;refine AF 6 7 rfl ?_;exact Ad (ih (i+1,S2) (by simp only;omega) ⟨by simp only;omega,hi2.2,q2⟩) ⟨A0 (B2 (by simp only;omega) (by simp only;omega)),rfl,rfl,rfl,rfl,trivial⟩ ⟨rfl,rfl,rfl,rfl,rfl,trivial⟩ rfl
    ·subst q1;refine AC (fr:=[7]) [(1,1),(2,2),(3,3),(6,4)] [(5,7)] rfl (by simp) (jT t u hi2.1 q2) ⟨⟨rfl,rfl,rfl⟩,⟨rfl,rfl,rfl⟩,⟨rfl,rfl,rfl⟩,⟨rfl,rfl,rfl⟩,trivial⟩ rfl rfl rfl rfl ?_;refine bg [] rfl (by simp [Ap];rfl) ?_;refine Ah rfl λh=>?_;refine A9 rfl ?_;refine IK (ids':=[]) 7 5 rfl rfl ?_;exact Au ⟨_,rfl,tV rfl,rfl,rfl,rfl,rfl,trivial⟩
   ·simp at h;rw [(List.drop_eq_nil_of_le (by omega):ps.drop i=[])] at hi3;obtain ⟨rfl,rfl⟩:=hi3.nilInv;refine Aw rfl ?_;refine A9 rfl ?_;refine IK (ids':=[]) 6 5 rfl rfl ?_;exact Au ⟨_,rfl,tV rfl,rfl,rfl,rfl,rfl,trivial⟩
termination_by p=>SizeOf.sizeOf p
decreasing_by
 all_goals
  have:=List.sizeOf_lt_of_mem (List.mem_of_getElem? ht);simp_wf;omega
def F7 (p v:Ty):St:=[(6,some (.immb 69 4 (Ao p))),(7,some (.immb 46 4 (Ao v)))]
theorem N5 (p v:Ty) (hok:M1 p v=true) {b:Bool} {S S':Bun} (hY:Yields2 Tryz.prog (DF p v) S b S') :
  Bt Tryz.prog 152 [.yld 3,.ref 6 0,.ref 7 0] ((3,some .pin)::(4,some (.bun 3 S))::F7 p v) (.ret (.tup []) ((3,some .pin)::(5,some (.bun 3 S'))::F7 p v)):=by
 refine Ae AL Tryz.func152 (by decide +kernel) rfl [1,2,8,5] rfl rfl ?_;obtain ⟨q1,q2,q3,q4⟩:=p;obtain ⟨u1,u2,u3,u4⟩:=v;refine Ee rfl ?_;refine AC (fr:=[8]) [(1,1),(2,2),(3,3),(4,4)] [(5,8)] rfl (by simp) (jT _ _ hok hY) ⟨⟨rfl,rfl,rfl⟩,⟨rfl,rfl,rfl⟩,⟨rfl,rfl,rfl⟩,⟨rfl,rfl,rfl⟩,trivial⟩ rfl rfl rfl rfl ?_;refine Ee rfl ?_;refine IK (ids':=[]) 8 5 rfl rfl ?_;exact C7 ⟨[],rfl,rfl,rfl,rfl,rfl,rfl,trivial⟩
theorem Q1 (p v:Ty):Bt Tryz.prog 110 [.imm (.agg (Ao p)),.imm (.agg (Ao v))] [] (.ret (.fn (.func 152) [] [.ref 6 0,.ref 7 0]) (F7 p v)):=by
 refine Ae AL Tryz.func110 (by decide +kernel) rfl [6,7] rfl rfl ?_;obtain ⟨q1,q2,q3,q4⟩:=p;obtain ⟨u1,u2,u3,u4⟩:=v;refine Ee rfl ?_;exact Au ⟨_,rfl,rfl,rfl,rfl,trivial⟩
def OQ:Ty->Int
 | .mk s _ _ _=>s
def Hi (l:List (Str×Ty)) (d:Ty×Ty):Option (List (Str×Ty)) :=
 if OQ d.1=2 then some (l++[(oB d.1,d.2)]) else if OQ d.1≠1/\AB (AO d.1) d.2=false then none else some l
def Fv:List (Str×Ty)->List (Ty×Ty)->List (Str×Ty)×Bool
 | l,[]=>(l,true)
 | l,d::r=>match Hi l d with
  | some l'=>Fv l' r
  | none=>(l,false)
theorem Vp (l:List (Str×Ty)) (f n:Int) (t:Str) (ps:List Ty) (u:Ty):(f=2->Hi l (.mk f n t ps,u)=some (l++[(t,u)])) /\
  (f≠2->f≠1/\AB (AO (.mk f n t ps)) u=false->Hi l (.mk f n t ps,u)=none)/\(f≠2->¬(f≠1/\AB (AO (.mk f n t ps)) u=false)->Hi l (.mk f n t ps,u)=some l):=by
 have h0:OQ (.mk f n t ps)=f:=rfl;have h1:oB (.mk f n t ps)=t:=rfl;refine ⟨λh=>?_,λh h'=>?_,λh h'=>?_⟩
 ·simp only [Hi,h0,h1];rw [if_pos h]
 ·simp only [Hi,h0,h1];rw [if_neg h,if_pos h']
 ·simp only [Hi,h0,h1];rw [if_neg h,if_neg h']
def P3:List (Str×Ty)->St
 | []=>[(3,some (.cells 53 1 [.nils])),(4,some (.immb 4 1 [.bool false])),(5,some (.cells 53 1 [.nils]))]
 | b::r=>[(3,some (.cells 53 1 [.nils])),(4,some (.immb 4 1 [.bool false])),(5,some (.cells 53 1 [.own 8 (Cq (b::r)).length])),(8,some (.row 87 5 (Cq (b::r))))]
theorem nW (l:List (Str×Ty)) (x u:Ty) (hlen:l.length<=1000000) {L:Lz} (h1:Tryz.prog.funcs[L.fn]?.isSome) (h2:L.tmps.size=Tryz.f58.ntmps) (h3:L.ps = #[12,13]) (h4:L.asg=oE Tryz.f58)
  (h5:L.body=gQ Tryz.f58) (h6:L.E=[(4,.ref 3 0),(5,.ref 4 0),(6,.ref 5 0)]) (h7:L.F=[]) :
  (∀l',Hi l (x,u)=some l'->Py Tryz.prog [.imm (.agg (Ao x)),.imm (.agg (Ao u))] (CO L (P3 l) none) true (CO L (P3 l') none)) /\
  (Hi l (x,u)=none->Py Tryz.prog [.imm (.agg (Ao x)),.imm (.agg (Ao u))] (CO L (P3 l) none) false (CO L (P3 l) (some .ret))):=by
 obtain ⟨fc,hf⟩:=Option.isSome_iff_exists.1 h1;have hW:=Ma x;have hO:=Z0 u;have hE:=Rd (AO x) u;obtain ⟨f,n,t,ps⟩:=x;have hst:=Vp l f n t ps u;generalize AB (AO (.mk f n t ps)) u=he at *;generalize AO (.mk f n t ps)=hd at *;obtain ⟨hs,hn,hx,hps⟩:=hd;obtain ⟨g,m,z,vs⟩:=u;simp only at hE;obtain ⟨hst1,hst2,hst3⟩:=hst;have hfree:Rl [9,10,11,12,13] L.E (P3 l) L.F:=by
  rw [h6,h7];cases l <;> refine ⟨by decide,?_⟩ <;> simp [P3,Va,IR,Fw,U2,I6]
 have hasg:∀stx,KH Tryz.prog Tryz.f58.ntmps L.asg ((13,.imm (.agg (Ao (.mk g m z vs))))::(12,.imm (.agg (Ao (.mk f n t ps))))::L.E) stx [9,10,11,12,13] _ _ _:=λstx=>by
  rw [h4];exact ZS (PJ AL rfl rfl rfl rfl (by simp) (by simp)) (PJ AL rfl rfl rfl rfl (by simp) (by simp))
 by_cases h22:f=2
 ·subst h22;refine ⟨λl' hl'=>?_,λh=>by rw [hst1 rfl] at h;cases h⟩;rw [hst1 rfl] at hl';cases hl';refine Rs (pend:=none) hf h3 h2 rfl rfl (by decide) (by decide) hfree (hasg _) ?_;rw [h5,h6,h7];cases l with
  | nil =>
   refine GQ rfl ?_;refine Ah rfl λh=>?_;refine GQ rfl ?_;refine BE AL rfl ⟨by simp,by simp [maxLen],by simp,trivial⟩ ?_;refine Ee rfl ?_;refine AF 8 11 rfl ?_;exact C7 (⟨rfl,rfl,rfl,rfl,trivial⟩:Hf _ (P3 ([]++[(t,.mk g m z vs)])))
  | cons b r =>
   refine GQ rfl ?_;refine Ah rfl λh=>?_;refine GQ rfl ?_;refine BE AL rfl ⟨by simp,by simp [maxLen] at hlen ⊢;omega,by simp at hlen ⊢;omega,trivial⟩ ?_;refine Ee rfl ?_;refine AF 8 11 rfl ?_;refine C7 (?_:Hf _ (P3 (b::r++[(t,.mk g m z vs)])));have e:Cq (b::(r++[(t,.mk g m z vs)]))=Cq (b::r)++[MS (t,.mk g m z vs)]:=by simp [Cq]
   simp only [P3,List.cons_append,e];exact ⟨rfl,rfl,by simp only [List.length_append];rfl,rfl,trivial⟩
 have hst2:=hst2 h22;have hst3:=hst3 h22;have key:∀(pend:Option Code) (hh:(f≠1/\he=false)↔pend.isSome=true) (hp:pend=none\/pend=some .ret),
   Py Tryz.prog [.imm (.agg (Ao (.mk f n t ps))),.imm (.agg (Ao (.mk g m z vs)))] (CO L (P3 l) none) pend.isNone (CO L (P3 l) pend):=by
  intro pend hh hp;refine Rs (pend:=pend) hf h3 h2 rfl rfl (by decide) (by decide) hfree (hasg _) ?_;rw [h5,h6,h7];refine GQ rfl ?_;refine Ab rfl (λh=>absurd (by simpa using h) h22) (λh=>?_);clear h;refine GQ rfl ?_;refine AE rfl hW ?_;refine Ee rfl ?_;refine AE rfl hO ?_;refine Ee rfl ?_;refine Wz AL rfl MI (by simp [Ap]) ?_;refine bg [] rfl (by simp [Ap];rfl) ?_;rcases hp with rfl | rfl
  ·refine Ab rfl (λh=>?_) (λh=>?_)
   ·exfalso;have:¬(f≠1/\he=false):=λq=>by have:=hh.1 q;cases this
    apply this;simp at h;refine ⟨h.1,?_⟩;rw [hE];simp;grind
   ·refine GQ rfl ?_;refine C7 (?_:Hf _ (P3 l));cases l <;> exact ⟨rfl,rfl,rfl,by first | trivial | exact ⟨rfl,trivial⟩⟩
  ·have hq:=hh.2 rfl;refine Ab rfl (λh=>?_) (λh=>?_)
   ·cases l with
    | nil =>
     refine GQ rfl ?_;exact Au (⟨rfl,rfl,rfl,trivial⟩:Hf _ (P3 []))
    | cons b r =>
     refine GQ rfl ?_;exact Au (⟨rfl,rfl,rfl,rfl,trivial⟩:Hf _ (P3 (b::r)))
   ·exfalso;obtain ⟨q1,q2⟩:=hq;rw [q2] at hE;simp at h hE;grind
 refine ⟨λl' hl'=>?_,λh=>?_⟩
 ·have hn:¬(f≠1/\he=false):=λhq=>by rw [hst2 hq] at hl';cases hl'
  rw [hst3 hn] at hl';cases hl';exact key none ⟨λh=>absurd h hn,λh=>by cases h⟩ (.inl rfl)
 ·have hn:f≠1/\he=false:=by
   by_cases hq:f≠1/\he=false
   ·exact hq
   ·rw [hst3 hq] at h;cases h
  exact key (some .ret) ⟨λ_=>rfl,λ_=>hn⟩ (.inr rfl)
theorem aP {l l':List (Str×Ty)} {d:Ty×Ty} (h:Hi l d=some l'):l'.length<=l.length+1:=by
 unfold Hi at h
 split at h
 ·cases h;simp
 ·split at h
  ·cases h
  ·cases h;omega
theorem RO {L:Lz} (h1:Tryz.prog.funcs[L.fn]?.isSome) (h2:L.tmps.size=Tryz.f58.ntmps) (h3:L.ps = #[12,13]) (h4:L.asg=oE Tryz.f58)
  (h5:L.body=gQ Tryz.f58) (h6:L.E=[(4,.ref 3 0),(5,.ref 4 0),(6,.ref 5 0)]) (h7:L.F=[]):∀(items:List (Ty×Ty)) (l:List (Str×Ty)),l.length+items.length<=1000000 ->
  Yields2 Tryz.prog items (CO L (P3 l) none) (Fv l items).2 (CO L (P3 (Fv l items).1) (bif (Fv l items).2 then none else some .ret))
 | [],l,_=>.nil _
 | d::r,l,hl=>by
  simp only [List.length_cons] at hl;obtain ⟨q1,q2⟩:=nW l d.1 d.2 (by omega) h1 h2 h3 h4 h5 h6 h7;cases hs:Hi l d with
  | none =>
   rw [show Fv l (d::r)=(l,false) by simp only [Fv,hs]];exact .stop (q2 hs)
  | some l' =>
   rw [show Fv l (d::r)=Fv l' r by simp only [Fv,hs]];have:=aP hs;exact .cons (q1 l' hs) (RO h1 h2 h3 h4 h5 h6 h7 r l' (by omega))
theorem iY (p v:Ty) (hok:M1 p v=true) (hN:(DF p v).length<=1000000):Al Tryz.prog 58 [.agg (Ao p),.agg (Ao v)] (.tup [.sl (Cq (bif (Fv [] (DF p v)).2 then (Fv [] (DF p v)).1 else [])),.bool (Fv [] (DF p v)).2]):=by
 have hP:=Q1 p v;have hP1:=λb S S' h=>N5 p v hok (b:=b) (S:=S) (S':=S') h;have hY:=λL h1 h2 h3 h4 h5 h6 h7=>RO (L:=L) h1 h2 h3 h4 h5 h6 h7 (DF p v) [] (by simpa using hN);obtain ⟨q1,q2,q3,q4⟩:=p;obtain ⟨u1,u2,u3,u4⟩:=v;generalize Fv [] (DF (.mk q1 q2 q3 q4) (.mk u1 u2 u3 u4))=r at *;obtain ⟨l,b⟩:=r;simp only at hY ⊢;refine Ae AL Tryz.func58 (by decide +kernel) rfl [1,2,3,4,5,6,7,8,9,10,11,12,13] rfl rfl ?_;refine Bl rfl ?_;refine AC (st0:=[]) (fr:=[6,7]) [] [(6,6),(7,7)] rfl (by simp) hP trivial rfl rfl rfl rfl ?_;refine A9 rfl ?_
 refine NU (y:=3) (j:=4) (j2:=5) (stc:=F7 (.mk q1 q2 q3 q4) (.mk u1 u2 u3 u4)) (stc':=F7 (.mk q1 q2 q3 q4) (.mk u1 u2 u3 u4)) (stx:=P3 []) (stB:=P3 l) (pend:=bif b then none else some .ret) (E:=[(4,.ref 3 0),(5,.ref 4 0),(6,.ref 5 0)]) (ids':=[9,10,11,12,13]) (d:=.tup []) rfl Tryz.func152 (by decide +kernel) rfl (by decide) ⟨rfl,rfl,rfl,trivial⟩
   (EC ⟨rfl,rfl,rfl,rfl,rfl,trivial⟩) (λL h1 h2 h3 h4 h5 h6 h7=>?_) ?_ ?_ ?_ ?_ ?_
 ·exact hP1 b _ _ (hY L h1 h2 h3 h4 h5 h6 h7)
 ·simp [F7,P3,Ey]
 ·simp [F7,Ey]
 ·intro i hi;have e:I6 (FD (DY (Bm []++[(6,6),(7,7)])) []++FD (DY (Bm []++[(6,6),(7,7)])) [.ref 6 0,.ref 7 0])=[6,7]:=rfl;rw [e] at hi;simpa [F7,Ey,Fw,U2,I6,IR] using hi
 ·cases l <;> refine ⟨by decide,?_⟩ <;> simp [P3,Va,IR,Fw,U2,I6,Ey]
 ·cases b with
  | false =>
   cases l <;> exact Aa rfl rfl rfl
  | true =>
   cases l with
   | nil =>
    refine GQ rfl ?_;exact Aa rfl rfl rfl
   | cons x r =>
    refine Bw 8 rfl ?_;refine GQ rfl ?_;exact Aa rfl rfl rfl
theorem J5:∀v:Ty,Aq v<=1000000000000->Al Tryz.prog 59 [.agg (Ao v)] (.agg (Ao v))
 | .mk s n x ps,hN=>by
  refine AW λhv=>?_;simp [Ct,ET,Ao,maxLen] at hv;simp only [Aq] at hN;have hpl:ps.length<=1000000000000:=by
   have:∀l:List Ty,l.length<=Am l:=λl=>by
    induction l with
    | nil=>simp
    | cons t r ih=>obtain ⟨a,b,c,d⟩:=t;simp only [Am,Aq,List.length_cons];omega
   have:=this ps;omega
  refine Ae AL Tryz.func59 (by decide +kernel) rfl [1,2,3,4,5,6] rfl rfl ?_;refine Bl rfl ?_;refine CZ (e:=46) (sz:=4) 3 3 (by decide) rfl ?_;refine An (λi:Nat=>[(9,.imm (.int .i64 i)),(8,.imm (.int .i64 ps.length)),(7,.imm (.sl (Bx ps))),(3,.own 3 (Bx (ps.take i)).length),(1,.ref 1 0),(2,.ref 2 0)])
   (λi=>[(3,some (.row 46 4 (Bx (ps.take i)))),(1,some (.immb 46 4 (Ao (.mk s n x ps)))),(2,some (.cells 46 4 [.imm (.int .i64 0),.imm (.int .i64 0),.imm (.str []),.nils]))]) [4,5,6] (λi=>ps.length-i)
   (λi=>i<=ps.length) 0 (Nat.zero_le _) ⟨rfl,A0 (by simp),rfl,rfl,rfl,rfl,trivial⟩ ⟨rfl,rfl,rfl,trivial⟩ rfl λi hi ih=>?_
  refine A9 rfl ?_;refine Ab rfl (λh=>?_) (λh=>?_)
  ·simp at h;obtain ⟨t,ht⟩:=As h;have hb:=BR ht;refine A9 rfl ?_;refine bi rfl (c:=Ao t) (λ_=>⟨by simp,by simpa using A4 ht,by simp⟩) (by simp) ?_;refine Bl rfl ?_;refine Af rfl (λ_=>J5 t (by omega)) (by simp) ?_;refine Bl rfl ?_;refine BE AL rfl ⟨by simp,by simp [maxLen];omega,by simp;omega,trivial⟩ ?_;refine Bl rfl ?_;refine AF 3 5 rfl ?_;have et:Bx (ps.take (i+1))=Bx (ps.take i)++[Ao t]:=by rw [Bh ht,K6];simp [Bx]
   exact Ad (ih (i+1) (by omega) (by omega)) ⟨A0 (B2 (by omega) (by omega)),rfl,rfl,by rw [et];rfl,rfl,rfl,trivial⟩ ⟨by rw [et];rfl,rfl,rfl,trivial⟩ rfl
  ·simp at h;refine Aw rfl ?_;rw [List.take_of_length_le h];refine Bw 3 rfl ?_;refine A9 rfl ?_;exact Aa rfl rfl rfl
termination_by v=>SizeOf.sizeOf v
decreasing_by
 have:=List.sizeOf_lt_of_mem (List.mem_of_getElem? ht);simp_wf;omega
def I1 (d:Ty×Ty):Bool:=decide (OQ d.1≠1)&&decide (OQ d.1≠2) && !AB (AO d.1) d.2
theorem Xx (l:List (Str×Ty)) (d:Ty×Ty):(Hi l d).isSome = !I1 d:=by
 unfold Hi I1;by_cases h2:OQ d.1=2
 ·rw [if_pos h2];simp [h2]
 ·rw [if_neg h2];by_cases h1:OQ d.1≠1/\AB (AO d.1) d.2=false
  ·rw [if_pos h1];simp [h1,h2]
  ·rw [if_neg h1];simp only [Option.isSome_some];by_cases h3:OQ d.1=1
   ·simp [h3]
   ·have:AB (AO d.1) d.2=true:=by cases hh:AB (AO d.1) d.2;exact absurd ⟨h3,hh⟩ h1;rfl
    simp [this]
theorem V0:∀(items:List (Ty×Ty)) (l:List (Str×Ty)),(Fv l items).2=items.all λd=>!I1 d
 | [],l=>rfl
 | d::r,l=>by
  have:=Xx l d;simp only [Fv,List.all_cons];cases hs:Hi l d with
  | none=>rw [hs] at this;simp at this;simp [this]
  | some l'=>rw [hs] at this;simp at this;simp [this,V0 r l']
def Qu:Code->Option (Code×Code)
 | .rangeFunc _ _ a b=>some (a,b)
 | .seq x y=>match Qu x with
  | some r=>some r
  | none=>Qu y
 | .block _ c=>Qu c
 | .scope c=>Qu c
 | .loop c=>Qu c
 | _=>none
def gR (f:Func):Code:=match Qu (Gi f 0) with
 | some (a,_)=>a
 | none=>.skip
def Zl (f:Func):Code:=match Qu (Gi f 0) with
 | some (_,b)=>b
 | none=>.skip
def aQ (v:Ty):St:=[(1,some (.immb 46 4 (Ao v)))]
def eR (c:Cse) (sz:List (List V)) (i:Nat):Env:=[(5,.imm (.int .i64 i)),(15,.imm (.int .i64 i)),(14,.imm (.int .i64 c.rows.length)),(13,.imm (.sl (Bx c.rows))),(0,.imm (AQ c sz)),(3,.ref 1 0)]
theorem ZW (c:Cse) (sz:List (List V)) (i:Nat) (v x u:Ty) {L:Lz} (h1:Tryz.prog.funcs[L.fn]?.isSome) (h2:L.tmps.size=Tryz.f78.ntmps) (h3:L.ps = #[23,24]) (h4:L.asg=gR Tryz.f78)
  (h5:L.body=Zl Tryz.f78) (h6:L.E=eR c sz i) (h7:L.F=[]) (pend:Option Code) (hp:pend=none\/pend=some (.exit 1)) (hh:I1 (x,u)=pend.isSome) :
  Py Tryz.prog [.imm (.agg (Ao x)),.imm (.agg (Ao u))] (CO L (aQ v) none) pend.isNone (CO L (aQ v) pend):=by
 obtain ⟨fc,hf⟩:=Option.isSome_iff_exists.1 h1;have hW:=Ma x;have hO:=Z0 u;have hE:=Rd (AO x) u;obtain ⟨f,n,t,ps⟩:=x;have hs:I1 (.mk f n t ps,u)=(decide (f≠1)&&decide (f≠2) && !AB (AO (.mk f n t ps)) u):=rfl;rw [hs] at hh;clear hs;generalize AB (AO (.mk f n t ps)) u=he at *;generalize AO (.mk f n t ps)=hd at *;obtain ⟨hs,hn,hx,hps⟩:=hd;obtain ⟨g,m,z,vs⟩:=u;simp only at hE;have hfree:Rl [9,10,11,12,13] L.E (aQ v) L.F:=by
  rw [h6,h7];refine ⟨by decide,?_⟩;simp [aQ,eR,Va,IR,Fw,U2,I6]
 have hasg:∀stx,KH Tryz.prog Tryz.f78.ntmps L.asg ((24,.imm (.agg (Ao (.mk g m z vs))))::(23,.imm (.agg (Ao (.mk f n t ps))))::L.E) stx [9,10,11,12,13] _ _ _:=λstx=>by
  rw [h4];exact ZS (PJ AL rfl rfl rfl rfl (by simp) (by simp)) (PJ AL rfl rfl rfl rfl (by simp) (by simp))
 refine Rs (pend:=pend) hf h3 h2 rfl rfl (by decide) (by decide) hfree (hasg _) ?_;rw [h5,h6,h7];refine GQ rfl ?_;refine AE rfl hW ?_;refine Ee rfl ?_;refine AE rfl hO ?_;refine Ee rfl ?_;refine Wz AL rfl MI (by simp [Ap]) ?_;refine bg [] rfl (by simp [Ap];rfl) ?_;rcases hp with rfl | rfl
 ·refine Ab rfl (λh=>?_) (λh=>?_)
  ·exfalso;rw [hE] at hh;simp at h hh;grind
  ·refine GQ rfl ?_;exact C7 (⟨rfl,trivial⟩:Hf _ (aQ v))
 ·refine Ab rfl (λh=>?_) (λh=>?_)
  ·refine GQ rfl ?_;exact WG rfl (⟨rfl,rfl,trivial⟩:(1:Nat)=1/\Hf _ (aQ v))
  ·exfalso;rw [hE] at hh;simp at h hh;grind
theorem Xk (c:Cse) (sz:List (List V)) (i:Nat) (v:Ty) {L:Lz} (h1:Tryz.prog.funcs[L.fn]?.isSome) (h2:L.tmps.size=Tryz.f78.ntmps) (h3:L.ps = #[23,24]) (h4:L.asg=gR Tryz.f78)
  (h5:L.body=Zl Tryz.f78) (h6:L.E=eR c sz i) (h7:L.F=[]):∀(items:List (Ty×Ty)),
  Yields2 Tryz.prog items (CO L (aQ v) none) (items.all λd=>!I1 d) (CO L (aQ v) (bif items.all λd=>!I1 d then none else some (.exit 1)))
 | []=>.nil _
 | d::r=>by
  cases hs:I1 d with
  | true =>
   rw [show ((d::r).all λd=>!I1 d)=false by simp [hs]];exact .stop (ZW c sz i v d.1 d.2 h1 h2 h3 h4 h5 h6 h7 (some (.exit 1)) (.inr rfl) hs)
  | false =>
   rw [show ((d::r).all λd=>!I1 d)=r.all λd=>!I1 d by simp [hs]];exact .cons (ZW c sz i v d.1 d.2 h1 h2 h3 h4 h5 h6 h7 none (.inl rfl) hs) (Xk c sz i v h1 h2 h3 h4 h5 h6 h7 r)
def Zk (v p:Ty):Bool:=(DF p v).all λd=>!I1 d
def Ip (v:Ty):Nat->List Ty->Int
 | _,[]=>-1
 | i,p::r=>bif Zk v p then (i:Int) else Ip v (i+1) r
theorem pG (c:Cse) (sz:List (List V)) (v:Ty) (hok:∀p∈c.rows,M1 p v=true):Al Tryz.prog 78 [AQ c sz,.agg (Ao v)] (.int .i64 (Ip v 0 c.rows)):=by
 have hP:=λp=>Q1 p v;have hP1:=λp hok b S S' h=>N5 p v hok (b:=b) (S:=S) (S':=S') h;have hY:=λi L h1 h2 h3 h4 h5 h6 h7 items=>Xk c sz i v (L:=L) h1 h2 h3 h4 h5 h6 h7 items;have hrl:Al Tryz.prog 78 [AQ c sz,.agg (Ao v)] (.int .i64 (Ip v 0 c.rows))↔Al Tryz.prog 78 [AQ c sz,.agg (Ao v)] (.int .i64 (Ip v 0 c.rows)):=Iff.rfl;clear hrl;obtain ⟨ds,⟨c1,c2,c3,c4⟩,rows⟩:=c;obtain ⟨g,m,z,vs⟩:=v;simp only at hok ⊢;refine Ae AL Tryz.func78 (by decide +kernel) rfl [1,2,6,7,9,10,11,12,13] rfl rfl ?_;refine Bl rfl ?_;refine WF (t:=13) rfl λhv=>?_;have hlen:rows.length<=9223372036854775807:=by simp [ET,maxLen] at hv;omega
 refine An (λi:Nat=>[(15,.imm (.int .i64 i)),(14,.imm (.int .i64 rows.length)),(13,.imm (.sl (Bx rows))),(0,.imm (AQ ⟨ds,.mk c1 c2 c3 c4,rows⟩ sz)),(3,.ref 1 0)]) (λ_=>aQ (.mk g m z vs)) [2,6,7,9,10,11,12,13] (λi=>rows.length-i)
  (λi=>i<=rows.length/\Ip (.mk g m z vs) 0 rows=Ip (.mk g m z vs) i (rows.drop i)) 0 ⟨Nat.zero_le _,rfl⟩ ⟨rfl,A0 (by simp),rfl,rfl,rfl,trivial⟩ ⟨rfl,trivial⟩ rfl λi hi ih=>?_
 obtain ⟨hi1,hi2⟩:=hi;refine A9 rfl ?_;refine Ab rfl (λh=>?_) (λh=>?_)
 ·simp at h;obtain ⟨p,hp⟩:=As h;rw [Av hp] at hi2;simp only [Ip] at hi2;have hokp:=hok p (List.mem_of_getElem? hp);refine A9 rfl ?_;refine bi rfl (c:=Ao p) (λ_=>⟨by simp,by simpa using A4 hp,by simp⟩) (by simp) ?_;refine Bl rfl ?_;refine AC (st0:=[]) (fr:=[6,7]) [] [(6,6),(7,7)] rfl (by simp) (hP p) trivial rfl rfl rfl rfl ?_;refine A9 rfl ?_;have hro:((DF p (.mk g m z vs)).all λd=>!I1 d)=Zk (.mk g m z vs) p:=rfl;generalize Zk (.mk g m z vs) p=b at *
  refine NU (y:=3) (j:=4) (j2:=5) (stc:=F7 p (.mk g m z vs)) (stc':=F7 p (.mk g m z vs)) (stx:=aQ (.mk g m z vs)) (stB:=aQ (.mk g m z vs)) (pend:=bif b then none else some (.exit 1)) (E:=eR ⟨ds,.mk c1 c2 c3 c4,rows⟩ sz i) (ids':=[2,6,7,9,10,11,12,13]) (d:=.tup []) rfl Tryz.func152 (by decide +kernel) rfl (by decide) ⟨rfl,rfl,rfl,rfl,rfl,rfl,trivial⟩
   (EC ⟨rfl,rfl,rfl,trivial⟩) (λL h1 h2 h3 h4 h5 h6 h7=>?_) ?_ ?_ ?_ ?_ ?_
  ·have:=hY i L h1 h2 h3 h4 h5 h6 h7 (DF p (.mk g m z vs));rw [hro] at this;exact hP1 p hokp b _ _ this
  ·simp [F7,aQ,Ey]
  ·simp [F7,Ey]
  ·intro k hk;have e:I6 (FD (DY (Bm []++[(6,6),(7,7)])) []++FD (DY (Bm []++[(6,6),(7,7)])) [.ref 6 0,.ref 7 0])=[6,7]:=rfl;rw [e] at hk;simpa [F7,Ey,Fw,U2,I6,IR] using hk
  ·refine ⟨by decide,?_⟩;simp [aQ,eR,Va,IR,Fw,U2,I6,Ey]
  ·cases b with
   | true =>
    rw [hi2];refine GQ rfl ?_;exact Aa rfl rfl rfl
   | false =>
    refine Aw rfl ?_;refine GQ rfl ?_;exact Ad (ih (i+1) (by omega) ⟨by omega,hi2⟩) ⟨A0 (B2 (by omega) (by omega)),rfl,rfl,rfl,rfl,trivial⟩ ⟨rfl,trivial⟩ rfl
 ·simp at h;refine Aw rfl ?_;refine A9 rfl ?_;rw [hi2,List.drop_eq_nil_of_le (by omega)];exact Aa rfl rfl rfl
theorem Q0 {s n:Int} {x:Str} {k:Nat} (h:DV s n x k=true):(s=1\/s=2\/s=3\/s=4\/s=5\/s=6)/\(s≠6->k=0):=by
 unfold DV at h
 split at h
 ·simp at h;grind
 ·split at h
  ·simp at h;grind
  ·split at h
   ·simp at h;grind
   ·split at h
    ·simp at h;grind
    ·split at h
     ·simp at h;grind
     ·cases h
mutual
theorem Zz (ds:List Dt):∀p t v:Ty,BP p=true->Cz ds t p=true->LE ds t v=true->M1 p v=true
 | .mk f n x ps,.mk so m x0 qs,.mk g k z vs,hw,hp,hv=>by
  simp only [BP,Bool.and_eq_true] at hw;obtain ⟨hk1,hk2⟩:=Q0 hw.1;simp only [M1,B4];by_cases h1:f=1
  ·simp [h1]
  by_cases h2:f=2
  ·simp [h2]
  simp only [h1,h2,decide_false,Bool.false_or];cases he:AB (AO (.mk f n x ps)) (.mk g k z vs) with
  | false=>rfl
  | true =>
   simp only [Bool.not_true,Bool.false_or,Bool.and_eq_true];by_cases h6:f=6
   ·subst h6;simp only [AO,AB] at he;simp at he;obtain ⟨⟨e1,e2⟩,e3⟩:=he;subst e3;rw [N4] at hp;rw [Jg] at hv;simp only [KN,LC,<- e1] at hp hv;simp at hp hv;obtain ⟨p1,p2,p3⟩:=hp;have h8:so=8:=by
     unfold AZ at p2;cases hc:decide (0<=(BN ds (.mk so m x0 qs) x).2) with
     | false=>rw [hc] at p2;simp at p2
     | true =>
      simp only [BN] at hc;by_cases h8:so=8
      ·exact h8
      ·simp [h8] at hc
    subst h8;simp at hv;exact ⟨decide_eq_true (by omega),VG ds ps _ vs p1 hw.2 p3 hv.2.2⟩
   ·have:=hk2 h6;have hps:ps=[]:=List.eq_nil_of_length_eq_zero this;subst hps;simp [M0]
theorem VG (ds:List Dt):∀ps ts vs:List Ty,ts.length=ps.length->BF ps=true->Cp ds ts ps=true->Jf ds ts vs=true->M0 ps vs=true
 | [],_,_,_,_,_,_=>rfl
 | _::_,_,[],_,_,_,_=>rfl
 | p::r,[],v::s,hl,_,_,_=>by simp at hl
 | p::r,a::ts,v::s,hl,hw,hp,hv=>by
  simp only [BF,Cp,Jf,M0,Bool.and_eq_true] at hw hp hv ⊢;exact ⟨Zz ds p a v hw.1 hp.1 hv.1,VG ds r ts s (by simpa using hl) hw.2 hp.2 hv.2⟩
end
mutual
theorem Te:∀p v:Ty,(DF p v).length<=Aq p
 | .mk f n x ps,v=>by
  have:=Q2 ps (B4 v);simp only [DF,Aq,List.length_cons];cases decide (f=6)&&AB (AO (.mk f n x ps)) v
  ·simp
  ·simp;omega
theorem Q2:∀ps vs:List Ty,(Ex ps vs).length<=Am ps
 | [],_=>by simp [Ex]
 | _::_,[]=>by simp [Ex]
 | p::r,q::s=>by
  have h1:=Te p q;have h2:=Q2 r s;simp only [Ex,Am,List.length_append];omega
end
mutual
theorem SU:∀(p v:Ty),BP p=true->M1 p v=true->∀(l:List (Str×Ty)) (rest:List (Ty×Ty)),
  ((Bo p v).2=true->Fv l (DF p v++rest)=Fv (l++(Bo p v).1) rest)/\((Bo p v).2=false->(Fv l (DF p v++rest)).2=false)
 | .mk f n x ps,v,hw,hok,l,rest=>by
  simp only [BP,Bool.and_eq_true] at hw;obtain ⟨hk1,hk2⟩:=Q0 hw.1;obtain ⟨s1,s2,s3⟩:=Vp l f n x ps v;simp only [M1] at hok;simp only [DF,Bo,List.cons_append,Fv];by_cases h1:f=1
  ·subst h1;rw [s3 (by decide) (by simp)];simp
  by_cases h2:f=2
  ·subst h2;rw [s1 rfl];simp
  simp only [h1,h2,if_false,decide_false,Bool.false_or] at hok ⊢;cases he:AB (AO (.mk f n x ps)) v with
  | false =>
   rw [s2 h2 ⟨h1,he⟩];simp
  | true =>
   rw [s3 h2 (by rw [he];simp)];rw [he] at hok;simp only [Bool.not_true,Bool.false_or,Bool.and_eq_true] at hok;by_cases h6:f=6
   ·subst h6;have:=Qo ps (B4 v) hw.2 hok.2 (of_decide_eq_true hok.1) l rest;simpa using this
   ·have hps:ps=[]:=List.eq_nil_of_length_eq_zero (hk2 h6);subst hps;simp [h6,B0]
theorem Qo:∀(ps vs:List Ty),BF ps=true->M0 ps vs=true->ps.length<=vs.length->∀(l:List (Str×Ty)) (rest:List (Ty×Ty)),
  ((B0 ps vs).2=true->Fv l (Ex ps vs++rest)=Fv (l++(B0 ps vs).1) rest)/\((B0 ps vs).2=false->(Fv l (Ex ps vs++rest)).2=false)
 | [],_,_,_,_,l,rest=>by simp [B0,Ex]
 | _::_,[],_,_,hl,l,rest=>by simp at hl
 | p::r,q::s,hw,hok,hl,l,rest=>by
  simp only [BF,M0,Bool.and_eq_true] at hw hok;simp only [B0,Ex,List.append_assoc];obtain ⟨a1,a2⟩:=SU p q hw.1 hok.1 l (Ex r s++rest);obtain ⟨b1,b2⟩:=Qo r s hw.2 hok.2 (by simpa using hl) (l++(Bo p q).1) rest;cases hp:(Bo p q).2 with
  | false=>simp [a2 hp]
  | true =>
   rw [a1 hp];cases hr:(B0 r s).2 with
   | false=>simp [b2 hr]
   | true=>simp [b1 hr]
end
theorem Qp (p v:Ty) (hw:BP p=true) (hok:M1 p v=true):(Fv [] (DF p v)).2=(Bo p v).2/\(bif (Fv [] (DF p v)).2 then (Fv [] (DF p v)).1 else [])=(Bo p v).1:=by
 obtain ⟨h1,h2⟩:=SU p v hw hok [] [];rw [List.append_nil] at h1 h2;cases h:(Bo p v).2 with
 | true=>rw [h1 h];simp [Fv]
 | false=>rw [h2 h];simp [U5 p v h]
theorem TG (v:Ty):∀(rows:List Ty) (i:Nat),(∀p∈rows,BP p=true/\M1 p v=true)->Ip v i rows=Dw v i rows
 | [],i,_=>rfl
 | p::r,i,h=>by
  have:=(Qp p v (h p (by simp)).1 (h p (by simp)).2).1;rw [V0] at this;simp only [Ip,Dw];rw [show Zk v p=(Bo p v).2 from this,TG v r (i+1) λq hq=>h q (by simp [hq])]
theorem cE (p v:Ty) (hok:M1 p v=true) (hN:(DF p v).length<=1000000) {b:Str×Ty} {r:List (Str×Ty)} (hr:Fv [] (DF p v)=(b::r,true)) :
  Bt Tryz.prog 58 [.imm (.agg (Ao p)),.imm (.agg (Ao v))] [] (.ret (.tup [.own 8 (Cq (b::r)).length,.imm (.bool true)]) [(8,some (.row 87 5 (Cq (b::r))))]):=by
 have hP:=Q1 p v;have hP1:=λb S S' h=>N5 p v hok (b:=b) (S:=S) (S':=S') h;have hY:=λL h1 h2 h3 h4 h5 h6 h7=>RO (L:=L) h1 h2 h3 h4 h5 h6 h7 (DF p v) [] (by simpa using hN);rw [hr] at hY;obtain ⟨q1,q2,q3,q4⟩:=p;obtain ⟨u1,u2,u3,u4⟩:=v;simp only at hY ⊢;refine Ae AL Tryz.func58 (by decide +kernel) rfl [1,2,3,4,5,6,7,8,9,10,11,12,13] rfl rfl ?_;refine Bl rfl ?_;refine AC (st0:=[]) (fr:=[6,7]) [] [(6,6),(7,7)] rfl (by simp) hP trivial rfl rfl rfl rfl ?_;refine A9 rfl ?_
 refine NU (y:=3) (j:=4) (j2:=5) (stc:=F7 (.mk q1 q2 q3 q4) (.mk u1 u2 u3 u4)) (stc':=F7 (.mk q1 q2 q3 q4) (.mk u1 u2 u3 u4)) (stx:=P3 []) (stB:=P3 (b::r)) (pend:=none) (E:=[(4,.ref 3 0),(5,.ref 4 0),(6,.ref 5 0)]) (ids':=[9,10,11,12,13]) (d:=.tup []) rfl Tryz.func152 (by decide +kernel) rfl (by decide) ⟨rfl,rfl,rfl,trivial⟩
   (EC ⟨rfl,rfl,rfl,rfl,rfl,trivial⟩) (λL h1 h2 h3 h4 h5 h6 h7=>?_) ?_ ?_ ?_ ?_ ?_
 ·exact hP1 true _ _ (hY L h1 h2 h3 h4 h5 h6 h7)
 ·simp [F7,P3,Ey]
 ·simp [F7,Ey]
 ·intro i hi;have e:I6 (FD (DY (Bm []++[(6,6),(7,7)])) []++FD (DY (Bm []++[(6,6),(7,7)])) [.ref 6 0,.ref 7 0])=[6,7]:=rfl;rw [e] at hi;simpa [F7,Ey,Fw,U2,I6,IR] using hi
 ·refine ⟨by decide,?_⟩;simp [P3,Va,IR,Fw,U2,I6,Ey]
 ·refine GQ rfl ?_;exact Au ⟨_,rfl,rfl,rfl,trivial⟩
theorem J9 {c:Cse} {v:Ty} (h:JA c v=true):∀p∈c.rows,BP p=true/\M1 p v=true/\Aq p<=12:=by
 simp only [JA,Bool.and_eq_true] at h;obtain ⟨⟨h1,_⟩,h2⟩:=h;obtain ⟨_,_,_,_,hr⟩:=CN h1;intro p hp;obtain ⟨h3,h4⟩:=hr p hp;simp only [BJ,Bool.and_eq_true,decide_eq_true_eq] at h3;exact ⟨h3.2.1,Zz c.datas p c.type v h3.2.1 h4 h2,h3.1⟩
theorem eK (c:Cse) (v:Ty):Al Tryz.prog 30 [.agg (dCse c),.agg (Ao v)] (bif JA c v then (bif decide (Dw v 0 c.rows<0) then .tup [.int .i64 0,.int .i64 5] else .tup [.int .i64 (Dw v 0 c.rows),.int .i64 0]) else .tup [.int .i64 0,.int .i64 2]):=by
 have hA:=Xc c v;have hR:=λh=>pG c (AJ (Do c.datas)) v (λp hp=>(J9 (c:=c) (v:=v) h p hp).2.1);have hE:=λh=>TG v c.rows 0 (λp hp=>⟨(J9 (c:=c) (v:=v) h p hp).1,(J9 (c:=c) (v:=v) h p hp).2.1⟩);obtain ⟨ds,⟨c1,c2,c3,c4⟩,rows⟩:=c;obtain ⟨g,m,z,vs⟩:=v;generalize JA ⟨ds,.mk c1 c2 c3 c4,rows⟩ (.mk g m z vs)=b at *;simp only at hE ⊢;refine Ae AL Tryz.func30 (by decide +kernel) rfl [3,4,5] rfl rfl ?_;refine Bl rfl ?_;cases b with
 | false =>
  refine Ag rfl hA ?_;refine Bl rfl ?_;refine Ah rfl λh=>?_;refine A9 rfl ?_;exact Aa rfl rfl rfl
 | true =>
  refine Ag rfl hA ?_;refine Bl rfl ?_;refine At rfl λh=>?_;refine A9 rfl ?_;refine Af rfl (λ_=>hR rfl) (by simp) ?_;refine Bl rfl ?_;rw [<- hE rfl];generalize Ip (.mk g m z vs) 0 rows=n;refine Ab rfl (λh=>?_) (λh=>?_)
  ·refine A9 rfl ?_;rw [show decide (n<0)=true from h];exact Aa rfl rfl rfl
  ·refine A9 rfl ?_;rw [show decide (n<0)=false from h];exact Aa rfl rfl rfl
def D5 (c:Cse) (r:Int):Bool:=decide (0<=r)&&decide (r<c.rows.length)
def U4 (c:Cse) (r:Int) (v:Ty):List (Str×Ty)×Int:=bif JA c v&&D5 c r then (match c.rows[r.toNat]? with
 | some p=>bif (Bo p v).2 then ((Bo p v).1,0) else ([],5)
 | none=>([],2)) else ([],2)
mutual
theorem M6:∀(p v:Ty),∀b∈(Bo p v).1,Aq b.2<=Aq v
 | .mk f n x ps,v,b,hb=>by
  simp only [Bo] at hb
  split at hb
  ·simp at hb
  ·split at hb
   ·simp at hb;subst hb;exact Nat.le_refl _
   ·split at hb
    ·simp at hb
    ·have:=Lo ps (B4 v) b hb;obtain ⟨g,m,z,vs⟩:=v;simp only [B4] at this;simp only [Aq];omega
theorem Lo:∀(ps vs:List Ty),∀b∈(B0 ps vs).1,Aq b.2<=Am vs
 | [],_,b,hb=>by simp [B0] at hb
 | _::_,[],b,hb=>by simp [B0] at hb
 | p::r,q::s,b,hb=>by
  simp only [B0] at hb;cases hc:(Bo p q).2&&(B0 r s).2
  ·rw [hc] at hb;simp at hb
  ·rw [hc] at hb;simp only [cond_true,List.mem_append] at hb;simp only [Am];rcases hb with hb | hb
   ·have:=M6 p q b hb;omega
   ·have:=Lo r s b hb;omega
end
theorem eI (c:Cse) (r:Int) (v:Ty) (hv:Aq v<=1000000):Al Tryz.prog 16 [.agg (dCse c),.int .i64 r,.agg (Ao v)] (.tup [.sl (Cq (U4 c r v).1),.int .i64 (U4 c r v).2]):=by
 have hA:=Xc c v;have hT:=Qb c r;have hrows:=λh=>J9 (c:=c) (v:=v) h;unfold U4;have hth:D5 c r=(decide (0<=r)&&decide (r<c.rows.length)):=rfl;rw [<- hth] at hT;obtain ⟨ds,⟨c1,c2,c3,c4⟩,rows⟩:=c;have hmN:=λp=>M6 p v;have hM:=λp hok hN=>iY p v hok hN;have hMo:=λp hok hN b rr h=>cE p v hok hN (b:=b) (r:=rr) h;have hRM:=λp hw hok=>Qp p v hw hok;have hPL:=λp=>Te p v;generalize hV:v=V at *;obtain ⟨g,m,z,vs⟩:=V;generalize JA ⟨ds,.mk c1 c2 c3 c4,rows⟩ (.mk g m z vs)=b at *;generalize D5 ⟨ds,.mk c1 c2 c3 c4,rows⟩ r=tb at *;simp only at hth hrows ⊢;refine Ae AL Tryz.func16 (by decide +kernel) rfl [3,4,5,6,7] rfl rfl ?_;refine Bl rfl ?_;cases b with
 | false =>
  refine Ag rfl hA ?_;refine Bl rfl ?_;refine AE rfl hT ?_;refine Ee rfl ?_;refine Ah rfl λh=>?_;refine A9 rfl ?_;exact Aa rfl rfl rfl
 | true =>
 refine Ag rfl hA ?_;refine Bl rfl ?_;refine AE rfl hT ?_;refine Ee rfl ?_;cases tb with
 | false =>
  refine Ah rfl λh=>?_;refine A9 rfl ?_;exact Aa rfl rfl rfl
 | true =>
 refine At rfl λh=>?_;clear h;have hth2:0<=r/\r<rows.length:=by simpa using hth.symm
 obtain ⟨p,hp⟩:=As (l:=rows) (i:=r.toNat) (by omega);obtain ⟨hw,hok,h12⟩:=hrows rfl p (List.mem_of_getElem? hp);have hpl:=hPL p;have hM:=hM p hok (by omega);have hMo:=hMo p hok (by omega);obtain ⟨e1,e2⟩:=hRM p hw hok;have hmN:=hmN p;rw [e2,e1] at hM;simp only [Bool.and_self,cond_true,hp];refine A9 rfl ?_;refine bi rfl (c:=Ao p) (λ_=>⟨hth2.1,by simpa using A4 hp,by simp⟩) (by simp) ?_;refine Bl rfl ?_;cases hmb:(Bo p (.mk g m z vs)).2 with
 | false =>
  rw [hmb] at hM;refine Ag rfl hM ?_;refine bg [] rfl (by simp;rfl) ?_;refine Ah rfl λh=>?_;refine A9 rfl ?_;exact Aa rfl rfl rfl
 | true =>
 rw [hmb] at hM e1;rw [e1] at e2;simp only [cond_true] at e2 ⊢;cases hml:(Bo p (.mk g m z vs)).1 with
 | nil =>
  rw [hml] at hM;refine Ag rfl hM ?_;refine bg [] rfl (by simp;rfl) ?_;refine At rfl λh=>?_;refine bd [] rfl (by simp [Cq]) ?_;refine Lv (Ru ?_);refine bd [] rfl (by simp [Cq]) ?_;refine Ab rfl (λh=>by simp [Cq] at h) (λh=>?_);refine Aw rfl ?_;refine bd [] rfl (by simp [Cq]) ?_;exact Aa rfl rfl rfl
 | cons x rr =>
  rw [hml] at e2 hmN;have hrun:Fv [] (DF p (.mk g m z vs))=(x::rr,true):=Prod.ext e2 e1;have hlenL:(x::rr).length<=12:=by
   have:=QI p (.mk g m z vs);rw [hml] at this;omega
  refine AC (st0:=[]) (fr:=[5]) [] [(8,5)] rfl (by simp) (hMo x rr hrun) trivial rfl rfl rfl rfl ?_;generalize x::rr=l at *;refine bg [] rfl (by simp;rfl) ?_;refine At rfl λh=>?_;clear h;refine A9 rfl ?_;refine An (λi:Nat=>[(41,.imm (.int .i64 i)),(40,.imm (.int .i64 (Cq l).length)),(10,.own 5 (Cq l).length)]) (λ_=>[(5,some (.row 87 5 (Cq l)))]) [3,4,6,7] (λi=>(Cq l).length-i)
   (λi=>i<=(Cq l).length) 0 (Nat.zero_le _) ⟨rfl,rfl,rfl,trivial⟩ ⟨rfl,trivial⟩ rfl λi hi ih=>?_
  refine A9 rfl ?_;refine Ab rfl (λh=>?_) (λh=>?_)
  ·simp at h;obtain ⟨bb,hb⟩:=As h;have hbn:=hmN bb (List.mem_of_getElem? hb);have hbd:(Cq l)[i]?=some (MS bb):=by simp [Cq,hb]
   have hcp:=J5 bb.2 (by omega);obtain ⟨bs,b1,b2,b3,b4⟩:=bb;refine A9 rfl ?_;refine Dv AL rfl (λ_=>⟨by simp,by simp;omega⟩) (by simp) ?_;refine Bl rfl ?_;refine Jz (e:=MS (bs,.mk b1 b2 b3 b4)) AL rfl (λ_=>by simpa using hbd) rfl (by simp) ?_;refine Bl rfl ?_;refine Ag rfl hcp ?_;refine Bl rfl ?_;refine Dv AL rfl (λ_=>⟨by simp,by simp;omega⟩) (by simp) ?_;refine Bl rfl ?_;refine II AL (e:=MS (bs,.mk b1 b2 b3 b4)) (e':=MS (bs,.mk b1 b2 b3 b4)) rfl (by simpa using hbd) (by show 1+4<=5;decide) rfl (by simp) ?_;have hset:(Cq l).set (i:Int).toNat (MS (bs,.mk b1 b2 b3 b4))=Cq l:=by
    refine List.ext_getElem? λj=>?_;rw [List.getElem?_set]
    split
    ·rename_i hj;simp at hj;subst hj;rw [hbd];have:i<(Cq l).length:=by simp;omega
     simp [h]
    ·rfl
   simp only;rw [hset];refine Bl rfl ?_;exact Ad (ih (i+1) (by simp;omega) (by simp;omega)) ⟨A0 (B2 (by omega) (by simp at hi;omega)),rfl,rfl,trivial⟩ ⟨rfl,trivial⟩ rfl
  ·refine Aw rfl ?_;refine Bw 5 rfl ?_;refine A9 rfl ?_;exact Aa rfl rfl rfl
def W5 (l:List Ty):Bool:=l.all (λt=>decide (0<=Bz t 20))&&decide (l.length<=5)
def Xy (c:Cse):Bool:=(decide (c.datas.length<=6)&&decide (c.rows.length<=7)&&decide (0<=Bz c.type 20))&&(c.rows.all (λp=>decide (0<=Bz p 20))&&c.datas.all (λd=>decide (d.cons.length<=7)&&d.cons.all λk=>W5 k.args))
theorem qB (l:List Ty):Al Tryz.prog 26 [.sl (Bx l)] (.bool (W5 l)):=by
 refine Ae AL Tryz.func26 (by decide +kernel) rfl [1,2] rfl rfl ?_;refine Bl rfl ?_;refine An (λi:Nat=>[(3,.imm (.int .i64 i)),(0,.imm (.sl (Bx l)))]) (λ_=>[]) [1,2] (λi=>l.length-i)
  (λi=>i<=l.length/\i<=6/\l.all (λt=>decide (0<=Bz t 20))=(l.drop i).all (λt=>decide (0<=Bz t 20))) 0 ⟨Nat.zero_le _,by simp,rfl⟩ ⟨rfl,rfl,trivial⟩ trivial rfl λi hi ih=>?_
 obtain ⟨hi1,hi0,hi2⟩:=hi;refine GQ rfl ?_;by_cases hlt:i<l.length/\i<6
 case neg =>
  refine Ab rfl (λh=>by exfalso;simp at h;omega) (λh=>?_);refine Aw rfl ?_;refine A9 rfl ?_;refine Aa rfl rfl (congrArg _ ?_);simp only [W5,dTys_length];by_cases h5:l.length<=5
  ·rw [hi2,List.drop_eq_nil_of_le (by omega)];simp [h5];omega
  ·simp [h5];omega
 refine Ab rfl (λh=>?_) (λh=>by exfalso;simp at h;omega);obtain ⟨t,ht⟩:=As hlt.1;rw [E5 ht] at hi2;refine A9 rfl ?_;refine bi rfl (c:=Ao t) (λ_=>⟨by simp,by simpa using A4 ht,by simp⟩) (by simp) ?_;refine Bl rfl ?_;refine Af rfl (λ_=>GR t 20 (by decide) (by decide)) (by simp) ?_;refine Bl rfl ?_;refine Ab rfl (λh=>?_) (λh=>?_)
 ·refine A9 rfl ?_;refine Aa rfl rfl (congrArg _ ?_);simp at h;rw [W5,hi2,show decide (0<=Bz t 20)=false by simp;omega];simp
 ·refine A9 rfl ?_;simp at h;exact Ad (ih (i+1) (by omega) ⟨by omega,by omega,by rw [hi2,show decide (0<=Bz t 20)=true by simpa using h];simp⟩) ⟨A0 (B2 (by omega) (by omega)),rfl,trivial⟩ trivial rfl
theorem aR (c:Cse):Al Tryz.prog 5 [.agg (dCse c)] (.bool (Xy c)):=by
 have hWT:=GR c.type 20 (by decide) (by decide);obtain ⟨ds,t,rows⟩:=c;simp only [Xy] at hWT ⊢;generalize Bz t 20=wt at *;obtain ⟨c1,c2,c3,c4⟩:=t;refine Ae AL Tryz.func5 (by decide +kernel) rfl [1,2] rfl rfl ?_;refine Ee rfl ?_;refine AE rfl hWT ?_;refine Ee rfl ?_;by_cases hg:ds.length<=6/\rows.length<=7/\0<=wt
 case neg =>
  refine Ab rfl (λh=>?_) (λh=>by exfalso;apply hg;simp at h;omega);refine A9 rfl ?_;refine Aa rfl rfl (congrArg _ ?_);rw [show (decide (ds.length<=6)&&decide (rows.length<=7)&&decide (0<=wt))=false by simp;omega];simp
 obtain ⟨g1,g2,g3⟩:=hg;rw [show (decide (ds.length<=6)&&decide (rows.length<=7)&&decide (0<=wt))=true by simp;omega,Bool.true_and];refine Ab rfl (λh=>by exfalso;simp at h;omega) (λh=>?_);clear h;refine A9 rfl ?_;refine An (λi:Nat=>[(3,.imm (.int .i64 i)),(1,.ref 1 0)]) (λ_=>[(1,some (.immb 29 6 (dCse ⟨ds,.mk c1 c2 c3 c4,rows⟩)))]) [2] (λi=>rows.length-i)
  (λi=>i<=rows.length/\rows.all (λp=>decide (0<=Bz p 20))=(rows.drop i).all (λp=>decide (0<=Bz p 20))) 0 ⟨Nat.zero_le _,rfl⟩ ⟨rfl,rfl,trivial⟩ ⟨rfl,trivial⟩ rfl λi hi ih=>?_
 obtain ⟨hi1,hi2⟩:=hi;refine A9 rfl ?_;refine Ab rfl (λh=>?_) (λh=>?_)
 ·simp at h;obtain ⟨p,hp⟩:=As h;rw [E5 hp] at hi2;refine A9 rfl ?_;refine bi rfl (c:=Ao p) (λ_=>⟨by simp,by simpa using A4 hp,by simp⟩) (by simp) ?_;refine Bl rfl ?_;refine Af rfl (λ_=>KD p 20 (by decide) (by decide)) (by simp) ?_;refine Bl rfl ?_;refine Ab rfl (λh=>?_) (λh=>?_)
  ·refine A9 rfl ?_;refine Aa rfl rfl (congrArg _ ?_);simp at h;rw [hi2,show decide (0<=Bz p 20)=false by simp;omega];simp
  ·refine A9 rfl ?_;simp at h;exact Ad (ih (i+1) (by omega) ⟨by omega,by rw [hi2,show decide (0<=Bz p 20)=true by simpa using h];simp⟩) ⟨A0 (B2 (by omega) (by omega)),rfl,trivial⟩ ⟨rfl,trivial⟩ rfl
 simp at h;refine Aw rfl ?_;refine A9 rfl ?_;rw [hi2,List.drop_eq_nil_of_le h,List.all_nil,Bool.true_and];refine An (λi:Nat=>[(4,.imm (.int .i64 i)),(1,.ref 1 0)]) (λ_=>[(1,some (.immb 29 6 (dCse ⟨ds,.mk c1 c2 c3 c4,rows⟩)))]) [2] (λi=>ds.length-i)
  (λi=>i<=ds.length/\ds.all (λd=>decide (d.cons.length<=7)&&d.cons.all λk=>W5 k.args)=(ds.drop i).all (λd=>decide (d.cons.length<=7)&&d.cons.all λk=>W5 k.args)) 0 ⟨Nat.zero_le _,rfl⟩ ⟨rfl,rfl,trivial⟩ ⟨rfl,trivial⟩ rfl λi hi ih=>?_
 obtain ⟨hi1,hi2⟩:=hi;refine A9 rfl ?_;refine Ab rfl (λh=>?_) (λh=>?_)
 ·simp at h;obtain ⟨d,hd⟩:=As h;rw [E5 hd] at hi2;refine A9 rfl ?_;refine bi rfl (c:=Cv d) (λ_=>⟨by simp,by simpa using Be hd,by simp⟩) (by simp) ?_;obtain ⟨dn,dc⟩:=d;simp only at hi2;refine Bl rfl ?_;by_cases h7:dc.length<=7
  case neg =>
   refine Ab rfl (λh=>?_) (λh=>by exfalso;simp at h;omega);refine A9 rfl ?_;rw [hi2,show decide (dc.length<=7)=false by simpa using h7];exact Au ⟨_,rfl,tV (congrArg _ (by simp)),trivial⟩
  rw [show decide (dc.length<=7)=true by simpa using h7,Bool.true_and] at hi2;refine Ab rfl (λh=>by exfalso;simp at h;omega) (λh=>?_);clear h;refine A9 rfl ?_;refine An (λk:Nat=>[(5,.imm (.int .i64 k)),(4,.imm (.int .i64 i)),(1,.ref 1 0)]) (λ_=>[(1,some (.immb 29 6 (dCse ⟨ds,.mk c1 c2 c3 c4,rows⟩)))]) [2] (λk=>dc.length-k)
   (λk=>k<=dc.length/\dc.all (λk=>W5 k.args)=(dc.drop k).all (λk=>W5 k.args)) 0 ⟨Nat.zero_le _,rfl⟩ ⟨rfl,rfl,rfl,trivial⟩ ⟨rfl,trivial⟩ rfl λk hk jh=>?_
  obtain ⟨hk1,hk2⟩:=hk;refine A9 rfl ?_;refine bi rfl (c:=Cv ⟨dn,dc⟩) (λ_=>⟨by simp,by simpa using Be hd,by simp⟩) (by simp) ?_;refine Bl rfl ?_;refine Ab rfl (λh=>?_) (λh=>?_)
  ·simp at h;obtain ⟨c,hc⟩:=As h;rw [E5 hc] at hk2;refine A9 rfl ?_;refine bi rfl (c:=Cv ⟨dn,dc⟩) (λ_=>⟨by simp,by simpa using Be hd,by simp⟩) (by simp) ?_;refine Bl rfl ?_;refine bi rfl (c:=CM c) (λ_=>⟨by simp,by simpa using Be hc,by simp⟩) (by simp) ?_;obtain ⟨cn,ca⟩:=c;simp only at hk2;refine Bl rfl ?_;refine Af rfl (λ_=>qB ca) (by simp) ?_;refine Bl rfl ?_;refine Ab rfl (λh=>?_) (λh=>?_)
   ·refine A9 rfl ?_;refine Aa rfl rfl (congrArg _ ?_);simp at h;rw [hi2,hk2,h];simp
   ·refine A9 rfl ?_;simp at h;exact Ad (jh (k+1) (by omega) ⟨by omega,by rw [hk2,h];simp⟩) ⟨A0 (B2 (by omega) (by omega)),rfl,rfl,trivial⟩ ⟨rfl,trivial⟩ rfl
  ·simp at h;refine Aw rfl ?_;refine A9 rfl ?_;rw [List.drop_eq_nil_of_le (by omega)] at hk2;exact Ad (ih (i+1) (by omega) ⟨by omega,by rw [hi2,hk2];simp⟩) ⟨A0 (B2 (by omega) (by omega)),rfl,trivial⟩ ⟨rfl,trivial⟩ rfl
 ·simp at h;refine Aw rfl ?_;refine A9 rfl ?_;rw [hi2,List.drop_eq_nil_of_le (by omega)];exact Aa rfl rfl rfl
mutual
theorem Oy:∀t:Ty,(CP true t&&Eu Kt t)=CP false t
 | .mk s n x ps=>by
  have ih:=Mp ps;simp only [CP,Eu,Kt];by_cases h9:s=9
  ·subst h9;simp [Ci]
  ·have:Ci true s n x ps.length=Ci false s n x ps.length:=by simp [Ci,h9]
   have h:(s == 9)=false:=by simpa using h9
   rw [this,h,<- ih];cases Ci false s n x ps.length <;> simp
theorem Mp:∀l:List Ty,(CW true l&&E6 Kt l)=CW false l
 | []=>rfl
 | t::r=>by
  simp only [CW,E6,<- Oy t,<- Mp r];cases CP true t <;> cases Eu Kt t <;> cases CW true r <;> simp
end
theorem gX (ds:List Dt):Hn ds=H9 ds:=by
 have hm:HQ ⟨[109],ds,[HU]⟩=E8 ⟨[109],ds,[HU]⟩:=by
  simp only [HQ,E8];have e1:ds.all Ft=ds.all IL:=by congr 1;exact funext kL
  have e2:[HU].all MM=[HU].all W0:=by decide +kernel
  rw [e1,e2];simp [Fp]
 simp only [Hn,H9,hm];cases E8 ⟨[109],ds,[HU]⟩ <;> cases BZ ds ds <;> simp
theorem eF (c:Cse):By c=TV c:=by
 have hT:(Cb true c.type&&Eu Kt c.type)=F8 c.type:=by
  rw [<- MN];simp only [Cb];rw [Bool.and_assoc,Oy]
 have hR:c.rows.all (SW c)=c.rows.all (gN c):=by
  congr 1;funext p;simp only [SW,gN,eB]
 simp only [By,J8,TV,hR,gX,<- hT];cases H9 c.datas <;> cases decide (c.rows.length<=5) <;> cases Cb true c.type <;> cases AI c.datas c.type <;> cases Eu Kt c.type <;> simp
end Go.Hk
namespace Go.Hk
def MR (kp:List Nat):St->St
 | []=>[]
 | (i,b)::r=>bif Fm kp i then MR kp r else (i,b)::MR kp r
theorem Wa {kp:List Nat} {s:St} {i:Nat}:∀{W:St},lk (MR kp W++s) i=if i∈kp then lk s i else lk (W++s) i
 | []=>by simp [MR]
 | (k,b)::r=>by
  have ih:=Wa (kp:=kp) (s:=s) (i:=i) (W:=r);simp only [MR];cases hm:Fm kp k with
  | true =>
   simp only [cond_true,List.cons_append];rw [ih];by_cases hi:i∈kp
   ·rw [if_pos hi,if_pos hi]
   ·rw [if_neg hi,if_neg hi,A5 _ _ (λe:k=i=>hi (by rw [<- e];exact BS.1 hm))]
  | false =>
   simp only [cond_false,List.cons_append];by_cases hk:k=i
   ·subst hk;rw [Ax,if_neg (λh=>by rw [BS.2 h] at hm;cases hm),Ax]
   ·rw [A5 _ _ hk,A5 _ _ hk,ih]
def U9 (W st:St) (l:List Nat):List Nat->Prop
 | []=>True
 | i::r=>(Fm l i=true/\lk W i=lk st i)/\U9 W st l r
theorem OJ {W st:St} {l:List Nat}:∀{kp:List Nat},U9 W st l kp->∀i∈kp,i∈l/\lk W i=lk st i
 | [],_,i,h=>by cases h
 | k::r,h,i,hi=>by
  rcases List.mem_cons.1 hi with rfl | hi
  ·exact ⟨BS.1 h.1.1,h.1.2⟩
  ·exact OJ h.2 i hi
structure Xn where
 f:FuncId
 das:List D
 g:Option (Bool×Bool)
 ob:List Prop
 dst:Option Nat
 o:Oper
 all:List Oper
def Wy (n:Nat) (env:Env) (todo:List DI):Option Xn :=
 match Bg todo ([],[]) with
 | some (all,o,_)=>match Ca all env o,o.op with
  | some g,.call { callee:=.value (.func f),args:=⟨args⟩,.. }=>match Ir (Ap g) env args,BH n o.dst with
   | some (ds,ob),true=>some ⟨f,ds,g,ob,o.dst,o,all⟩
   | _,_=>none
  | some g,.call { callee:=.value (.tmp t),args:=⟨args⟩,.. }=>match lk env t,Ir (Ap g) env args,BH n o.dst with
   | some (.imm (.fn (.func f))),some (ds,ob),true=>some ⟨f,ds,g,ob,o.dst,o,all⟩
   | some (.fn (.func f) df dc),some (ds,ob),true=>some ⟨f,df++ds++dc,g,ob,o.dst,o,all⟩
   | _,_,_=>none
  | _,_=>none
 | none=>none
section
variable {P:Program} {n:Nat} {F:List Nat} {Q:DQ} {tt:TT} {env env':Env} {st st' st0 st1:St} {ids ids' fr:List Nat} {k todo todo':List DI} {I J:Imm} {μ:Mu} {w:World} {a:Act} {Pn:V->Prop} {d:D} {cx:Prop} {ob:List Prop} {σ τ1:List (Nat×Nat)} {das:List D}
theorem Ri {c:Xn} (h:Wy n env todo=some c) (hob:AA c.ob):(∀f,∃todo',Bg todo f=some (c.all,c.o,todo'))/\Ca c.all env c.o=some c.g/\En P c.o env c.f c.das (Ap c.g)/\BH n c.dst=true/\(∀x,c.o.op ≠ .defer x)/\c.dst=c.o.dst:=by
 unfold Wy at h;have hnext:∀{all:List Oper} {o:Oper} {t:List DI},Bg todo ([],[])=some (all,o,t)->∀f,∃todo',Bg todo f=some (all,o,todo'):=by
  intro all o t h f;rcases I8 h with ⟨r,k,rfl,_⟩ | ⟨r,fs,k,rfl,_⟩
  ·exact ⟨_,rfl⟩
  ·exact ⟨_,rfl⟩
 split at h
 ·rename_i all o t h1
  split at h
  ·rename_i g f args ts hg ho
   split at h
   ·rename_i ds ob ha hd;cases h;exact ⟨hnext h1,hg,Fu ho ha hob,hd,(λx hx=>by rw [ho] at hx;cases hx),rfl⟩
   ·cases h
  ·rename_i g t' args ts hg ho
   split at h
   ·rename_i f ds ob ht ha hd;cases h;exact ⟨hnext h1,hg,EA ho ht ha hob,hd,(λx hx=>by rw [ho] at hx;cases hx),rfl⟩
   ·rename_i f df dc ds ob ht ha hd;cases h;exact ⟨hnext h1,hg,It ho ht ha hob,hd,(λx hx=>by rw [ho] at hx;cases hx),rfl⟩
   ·cases h
  ·cases h
 ·cases h
theorem jH {all:List Oper} {o:Oper} {f:FuncId} {g:Option (Bool×Bool)} (hg:Ca all env o=some g) (hcx:Ap g) (hc:En P o env f das (Ap g)) (hE:Bt P f (FD (DY σ) das) st0 (.ret d st1)) (hb:FU σ st st0)
  (hn:LI σ τ1 das st0 d st1 fr=true) (kp:List Nat) (hkp:U9 (Ep (Bm σ++τ1) st1++Cs (Gs σ)) st (Gs σ) kp) :
  LD P Pn all o env st (Gs σ) fr (MR kp (Ep (Bm σ++τ1) st1++Cs (Gs σ))) (gD g (JF (DY (Bm σ++τ1)) d)):=by
 intro I μ st2 ids1 a w hag hst hon;have hwant:=Fr hg hon;refine ⟨λ_=>?_,λhw=>by rw [hwant.2 hcx] at hw;cases hw⟩;obtain ⟨xs,h1,h2⟩:=hc I μ a w (Bc hon) hcx;have hb':=GP hag hb;have hN:=NA hn;obtain ⟨q1,q2,q3⟩:=FT hst hb' hN.args h1;rw [h2];refine (hE I _ w xs q1 q2).mono (λu w' hu=>?_) (λ_ _ h=>h.elim);obtain ⟨I',μ',r1,r2,r3,r4⟩:=hu;obtain ⟨ν,s1,s2,s3,s4⟩:=IP hst hb' hN r1 r2 r3 r4 q3;rw [<- KX] at s1 s4;have hsame:∀i,lk (Ep (Bm σ++τ1) st1++Cs (Gs σ)++st2) i=lk (MR kp (Ep (Bm σ++τ1) st1++Cs (Gs σ))++st2) i:=λi=>by
  rw [Wa];by_cases hi:i∈kp
  ·rw [if_pos hi];obtain ⟨k1,k2⟩:=OJ hkp i hi;have hm:i∈(Ep (Bm σ++τ1) st1++Cs (Gs σ)).map (·.1):=by
    rw [List.map_append,K5];exact List.mem_append.2 (.inr k1)
   rw [FL hm,k2,hag i k1]
  ·rw [if_neg hi]
 refine ⟨I',ν,s1.congr hsame,?_,s3,s4.congr (λ_=>rfl) hsame⟩;cases g with
 | none=>exact s2
 | some p=>exact .guard _ _ _ _ (λ_=>s2) (λhn=>absurd hcx hn)
theorem BX {c:Xn} (σ τ1:List (Nat×Nat)) (kp:List Nat) {fr:List Nat} {nm:List Nat} (h:Wy n env todo=some c) (hcx:Ap c.g) (hob:AA c.ob) (hE:Bt P c.f (FD (DY σ) c.das) st0 (.ret d st1)) (hb:FU σ st st0)
  (hn:LI σ τ1 c.das st0 d st1 fr=true) (hkp:U9 (Ep (Bm σ++τ1) st1++Cs (Gs σ)) st (Gs σ) kp) (hnm:(MR kp (Ep (Bm σ++τ1) st1++Cs (Gs σ))).map (·.1)=nm)
  (h1:Bg todo (Gs σ,nm)=some (c.all,c.o,todo')) (hids:ids=fr++ids')
  (hk:G P n F Q todo' (B9 c.dst (gD c.g (JF (DY (Bm σ++τ1)) d)) env) (MR kp (Ep (Bm σ++τ1) st1++Cs (Gs σ))++st) ids'):G P n F Q todo env st ids:=by
 obtain ⟨_,q2,q3,q4,q5,q6⟩:=Ri (P:=P) h hob;subst hids;rw [q6] at q4 hk;subst hnm;exact B6 h1 (jH q2 hcx q3 hE hb hn kp hkp) q4 q5 hk
def gI:V->Bool
 | .tup xs=>D7 xs
 | .agg xs=>D7 xs
 | x=>Fz x
theorem aZ {v:Value} {x:V} (h:gI x=true) (hr:RepV J v x):RepV I v x:=by
 have hm:∀{xs:List V} {i:Nat} {x:V},D7 xs=true->xs[i]?=some x->Fz x=true:=by
  intro xs
  induction xs with
  | nil=>intro i x _ h;simp at h
  | cons y r ih =>
   intro i x hs h;simp only [D7,Bool.and_eq_true] at hs;cases i with
   | zero=>simp at h;subst h;exact hs.1
   | succ i=>exact ih hs.2 (by simpa using h)
 cases hr with
 | tup cs xs hl hh=>exact .tup cs xs hl λi c x hc hx=>Eg (hm h hx) (hh i c x hc hx)
 | agg cs xs hl h1 hh=>exact .agg cs xs hl h1 λi c x hc hx=>Eg (hm h hx) (hh i c x hc hx)
 | bool b=>exact .bool b
 | int k n=>exact .int k n
 | str s l hs=>exact .str s l hs
 | _=>simp [gI,Fz] at h
def fB (A:Asn):List D->List V->Prop
 | [],[]=>True
 | d::r,x::xs=>(lO d=some x\/∃v,d = .raw v/\∀us I w bs,A.P us I w bs->∀J,I.le J->(∀b∈bs,J b=w.heap[b]?)->RepV J v x)/\fB A r xs
 | _,_=>False
theorem S6 {A:Asn} {us:List Value} {bs:List Nat} (hA:A.P us I w bs) (hle:I.le J) (hJ:∀b∈bs,J b=w.heap[b]?):∀{ds:List D} {xs:List V} {vs:List Value},fB A ds xs->RepL I μ vs ds->RepVL J vs xs
 | [],[],vs,_,hr=>by
  have:=hr.1;cases vs with
  | nil=>exact .nil
  | cons=>simp at this
 | d::r,x::xs,[],_,hr=>by have:=hr.1;simp at this
 | d::r,x::xs,v::vs,h,hr=>by
  obtain ⟨h1,h2⟩:=hr.cons;refine .mk ?_ (S6 hA hle hJ h.2 h2);rcases h.1 with ht | ⟨u,rfl,hu⟩
  ·exact (Mj ht h1).mono hle
  ·have:=h1.rawInv;subst this;exact hu us I w bs hA J hle hJ
 | [],_::_,_,h,_=>h.elim
 | _::_,[],_,h,_=>h.elim
theorem PC {c:Xn} (id:Nat) {A:Asn} {vs:List V} {v:V} (h:Wy n env todo=some c) (hl:lk st id=some (some (.hp A))) (hv:Ap c.g->fB A c.das vs) (hE:Ap c.g->Al P c.f vs v) (hs:gI v=true) (hob:AA c.ob)
  (h1:Bg todo ([id],[])=some (c.all,c.o,todo')) (hk:G P n F Q todo' (B9 c.dst (gD c.g (.imm v)) env) st ids):G P n F Q todo env st ids:=by
 obtain ⟨_,q2,q3,q4,q5,q6⟩:=Ri (P:=P) h hob;rw [q6] at q4 hk;refine B6 (fr:=[]) (wr:=[]) (rd:=[id]) h1 (C9 q2 λI μ st1 ids1 a w hag hst hops hcx=>?_) q4 q5 hk;obtain ⟨xs,h1,h2⟩:=q3 I μ a w hops hcx;rw [h2];have hl1:Az st1 id (.hp A):=by unfold Az;rw [hag id (by simp)];exact hl
 obtain ⟨gg,hgg,us,bs,rfl,hP⟩:=hst.blk id _ hl1;have hx:RepVL (RJ w) xs.toList vs:=S6 hP (λb o h=>hst.imm b o h) (λb _=>rfl) (hv hcx) h1;have hst0:StRep (RJ w) μ [] [] w:={ imm:=λb o h=>h,blk:=λi b h=>by simp [Az,lk] at h,apart:=λi b g k h=>by simp [Az,lk] at h,inj:=λi j bi bj gi gj k h=>by simp [Az,lk] at h,nodup:=.nil,idsFree:=λi h=>by cases h }
 have hno:∀b,¬BA μ [] b:=λb ⟨i,bi,g,h,_⟩=>by simp [Az,lk] at h
 refine (hE hcx (RJ w) μ w xs hst0 hx.imm).mono (λu w' hu=>?_) (λ_ _ h=>h.elim);obtain ⟨I',μ',r1,r2,r3,r4⟩:=hu;have hlt:∀b o,I b=some o->b<w.heap.size:=λb o h=>by
  have:=hst.imm b o h;exact (Array.getElem?_eq_some_iff.1 this).1
 refine ⟨I,μ,hst.other r4.size (λb o h=>r4.block b (hlt b o h) (hno b)) (λb ho=>r4.block b (DW hst ho) (hno b)),?_,Mu.le_refl μ,{ imm:=Imm.le_refl I,os:=r4.os,tape:=r4.tape,output:=r4.output,size:=r4.size,block:=λb hb _=>r4.block b hb (hno b),fresh:=λ_ _ h=>h,old:=λ_ _ _=>rfl }⟩;exact .imm _ _ (aZ hs r1.immInv)
end
end Go.Hk
namespace Go.Hk
def lF (e:TypeId) (C:Asn):Asn where
 P:=λvs I w bs=>∃c u us bs',vs=[.slice (some ⟨c,0,none⟩) 1 1]/\us[0]?=some u/\w.heap[c]?=some (.cells #[u] e (0,0))/\u.oneCell'=true/\C.P us I w bs'/\c∉bs'/\bs=c::bs'
 mono:=λh ⟨c,u,us,bs',h1,h2,h3,h4,h5,h6⟩=>⟨c,u,us,bs',h1,h2,h3,h4,C.mono h h5,h6⟩
 loc:=λh ⟨c,u,us,bs',h1,h2,h3,h4,h5,h6,h7⟩=>⟨c,u,us,bs',h1,h2,(h c (by simp [h7])).trans h3,h4,C.loc (λk hk=>h k (by simp [h7,hk])) h5,h6,h7⟩
structure PBh where
 e:TypeId
 dst:Option Nat
 todo:List DI
def oN (tt:TT) (n:Nat) (env:Env) (j q:Nat) (todo:List DI):Option PBh :=
 match Bg todo ([j],[q,j]) with
 | some (_,o,todo')=>match o.guard,o.op with
  | none,.buildSlice t m ⟨[(k,x)]⟩=>match lk tt t,CV env x,BH n o.dst with
   | some { sh:=.sl e,.. },some (.hv i l),true=>match lk tt e with
    | some ti=>match Nat.beq m 1,Nat.beq k 0,Nat.beq i j,Nat.beq l 0,Nat.beq ti.size 1 with
     | true,true,true,true,true=>some ⟨e,o.dst,todo'⟩
     | _,_,_,_,_=>none
    | none=>none
   | _,_,_=>none
  | _,_=>none
 | none=>none
structure PBo where
 e:TypeId
 es:List (List V)
 sz:Nat
 ob:List Prop
 dst:Option Nat
 todo:List DI
def oM (tt:TT) (n:Nat) (env:Env) (q:Nat) (todo:List DI):Option PBo :=
 match Bg todo ([],[q]) with
 | some (_,o,todo')=>match o.guard,o.op with
  | none,.buildSlice t m ⟨parts⟩=>match lk tt t,BH n o.dst with
   | some { sh:=.sl e,.. },true=>match lk tt e with
    | some i=>match Id True env i.size 0 parts,Nat.beq m parts.length,Nat.ble (m*i.size) 16777216,Nat.blt 0 i.size,Nat.blt 0 m with
     | some (es,o'),true,true,true,true=>some ⟨e,es,i.size,o',o.dst,todo'⟩
     | _,_,_,_,_=>none
    | none=>none
   | _,_=>none
  | _,_=>none
 | none=>none
section
variable {P:Program} {n:Nat} {F:List Nat} {Q:DQ} {tt:TT} {env env':Env} {st st' st0 st1:St} {ids ids' fr:List Nat} {k todo todo':List DI} {I J:Imm} {μ:Mu} {w:World} {a:Act} {Pn:V->Prop} {d:D} {cx:Prop} {ob:List Prop}
theorem RA {t e:TypeId} {ti:TyI} (hu:P.underlying t=some (.slice e)) (hty:TyOk P e ti) (hsz:ti.size=1) (u:Value) (h1:u.oneCell'=true) :
  (Instr.buildSlice t 1 #[(0,u)]).run P w = .ok (.slice (some ⟨w.heap.size,0,none⟩) 1 1) (w.alloc (.cells #[u] e)):=by
 obtain ⟨inf,zv,hi1,hi2,_,hi4,hi5,hi6⟩:=hty.info;have hfill:∀A:Array Value,A.size=1->Instr.fill (λi=>some (i*1,1)) A [(0,u)]=some #[u]:=by
  intro A hA;obtain ⟨⟨x⟩,rfl⟩:∃l:List Value,A=⟨l⟩:=⟨A.toList,rfl⟩
  ·simp at hA
  ·rename_i y r;have hr:r=[]:=by cases r with | nil=>rfl | cons=>simp at hA
   subst hr;simp [Instr.fill,FS h1]
 simp only [Instr.buildSlice,Sem.run_bind,run_underlying hu,hty.sizeOf w,Result.andThen_ok,hsz,Sem.run_pure,zeroValue,typeInfo,run_program,hi1,hi4];simp only [Nat.mul_one,show ¬((1:Nat) > 2 ^ 24) by decide,if_false,Nat.one_ne_zero,Sem.run_bind,run_program,Result.andThen_ok,hi1,hi4,Sem.run_pure];have:=hfill ((Array.range 1).map λk=>zv.cells[k % zv.cells.size]!) (by simp);simp only [Nat.mul_one] at this;rw [this];simp only [newRow,Sem.run_bind,run_newObj,Result.andThen_ok,Sem.run_pure];rfl
theorem jX (htt:TTok P tt) (j q:Nat) {C:Asn} {c:PBh} (h:oN tt n env j q todo=some c) (hl:lk st j=some (some (.hp C)))
  (hk:G P n F Q c.todo (B9 c.dst (.hv q 0) env) ((q,some (.hp (lF c.e C)))::(j,none)::st) ids'):G P n F Q todo env st (q::ids'):=by
 unfold oN at h
 split at h
 ·rename_i all o todo' h1
  split at h
  ·rename_i t m k x hgd hop
   split at h
   ·rename_i e _ _ _ _ i l ht hx hd
    split at h
    ·rename_i ti hti
     split at h
     ·rename_i hm hk0 hi hl0 hsz;cases h;have hm:=Nat.eq_of_beq_eq_true hm;have hk0:=Nat.eq_of_beq_eq_true hk0;have hi:=Nat.eq_of_beq_eq_true hi;have hl0:=Nat.eq_of_beq_eq_true hl0;have hsz:=Nat.eq_of_beq_eq_true hsz;subst hm;subst hk0;subst hi;subst hl0;have hk:G P n F Q todo' (B9 o.dst (.hv q 0) env) ([(q,some (.hp (lF e C))),(i,none)]++st) ids':=hk;refine B6 (fr:=[q]) (wr:=[(q,some (.hp (lF e C))),(i,none)]) (rd:=[i]) h1 ?_ hd (λc hc=>by rw [hop] at hc;cases hc) hk;intro I μ st1 ids1 a w hag hst hon;refine ⟨λ_=>?_,λhw=>by rw [AG hgd] at hw;cases hw⟩;have hops:=Bc hon;rw [hop] at hops;have hl1:Az st1 i (.hp C):=by unfold Az;rw [hag i (by simp)];exact hl
      obtain ⟨gg,hg',us,bs,rfl,hP⟩:=hst.blk i _ hl1;obtain ⟨hu0,hone⟩:us[0]?=some (a.eval x)/\(a.eval x).oneCell'=true:=by
       have:=hops x (by simp [Op.operands]) _ hx;generalize a.eval x=v at this;cases this with
       | hv _ _ _ us' bs' hm hi' h1 =>
        rw [hg'] at hm;have:us=us':=by
         simp only [NM,Option.some.injEq,Value.tuple.injEq,Array.mk.injEq,List.cons.injEq,Value.agg.injEq,and_true] at hm;simpa using hm.1
        exact ⟨by rw [this];exact hi',h1⟩
      have hrun:(execOp a.eval o).run P w = .ok (.value (.slice (some ⟨w.heap.size,0,none⟩) 1 1)) (w.alloc (.cells #[a.eval x] e)):=by
       simp only [execOp,hop,Sem.run_bind,List.map_toArray,List.map_cons,List.map_nil,RA (htt.sh ht) (htt e ti hti) hsz (a.eval x) hone,Result.andThen_ok,Sem.run_pure]
      rw [hrun];have hnb:w.heap.size∉bs:=λhb=>by
       have:=(hst.apart i _ _ _ hl1 hg' (Bb.2 hb)).2;omega
      have hbs:∀b∈bs,b<w.heap.size:=λb hb=>(hst.apart i _ _ _ hl1 hg' (Bb.2 hb)).2;have hgrow:w.grownBy (w.alloc (.cells #[a.eval x] e)) none:=World.grownBy_alloc w _ none;obtain ⟨μ',q1,q2,q3,q4⟩:=StRep.renew (id':=q) (ids:=ids1) (rd:=[i]) (v':=NM [.slice (some ⟨w.heap.size,0,none⟩) 1 1] (w.heap.size::bs)) (blk':=.hp (lF e C)) hst hgrow (λb hb=>by cases hb) (λb hb=>by
       rcases List.mem_cons.1 (Bb.1 hb) with rfl | hb
       ·exact ⟨by simp,.inl (Nat.le_refl _)⟩
       ·exact ⟨Nat.lt_of_lt_of_le (hbs b hb) hgrow.size,.inr ⟨i,_,_,by simp,hl1,hg',Bb.2 hb⟩⟩)
       (λμ'=>⟨_,_,rfl,w.heap.size,a.eval x,us,bs,rfl,hu0,Ek w _,hone,C.loc (λk hk=>GK w _ (hbs k hk)) hP,hnb,rfl⟩)
      exact ⟨I,μ',q3,.hv _ q 0 _ _ q1 rfl rfl,q2,q4⟩
     ·cases h
    ·cases h
   ·cases h
  ·cases h
 ·cases h
theorem qF (htt:TTok P tt) {o:Oper} {t e:TypeId} {i:TyI} {m:Nat} {parts:List (Nat×Operand)} (ho:o.op = .buildSlice t m ⟨parts⟩) (hu:P.underlying t=some (.slice e)) (hi:lk tt e=some i) {es:List (List V)} {o':List Prop}
  (hel:Id True env i.size 0 parts=some (es,o')) (hob:AA o') (hn':m=parts.length) (hbig':m*i.size<=16777216) (hsz:0<i.size) (hm0:0<m) (hop:Dh I μ env a o.op) :
  ∃R:List (List Value),(execOp a.eval o).run P w = .ok (.value (.slice (some ⟨w.heap.size,0,none⟩) m m)) (w.alloc (.cells R.flatten.toArray e))/\R.length=m/\es.length=m/\(∀c∈R,c.length=i.size)/\(∀c∈es,c.length=i.size) /\
   ∀(k:Nat) (c:List Value) (x:List V),R[k]?=some c->es[k]?=some x->RepVL I c x/\∀u∈c,u.oneCell'=true:=by
 have hty:=htt e i hi;rw [ho] at hop;obtain ⟨inf,zv,hi1,hi2,_,hi4,hi5,hi6⟩:=hty.info;obtain ⟨q1,q2,q3⟩:=K0 (a:=a) (I:=I) (μ:=μ) trivial parts 0 es o' hel hob (λp hp=>hop p.2 (by simp only [Op.operands];exact List.mem_map.2 ⟨p,hp,rfl⟩));have hz0:m*i.size≠0:=by have:=Nat.mul_pos hm0 hsz;omega
 obtain ⟨A,hA,hA1⟩:∃A:List Value,A.length=m*i.size/\(Array.range (m*i.size)).map (λk=>zv.cells[k % zv.cells.size]!)=A.toArray :=
  ⟨((Array.range (m*i.size)).map (λk=>zv.cells[k % zv.cells.size]!)).toList,by simp,rfl⟩
 obtain ⟨c1,c2,c3⟩:=LT i.size m A hA;have hq:∀p∈(parts.map λ(p:Nat×Operand)=>(p.1,a.eval p.2)),∃seg,(Gz i.size m A)[p.1]?=some seg/\p.2.cells.size=seg.length:=by
  intro p hp;obtain ⟨q,hm,rfl⟩:=List.mem_map.1 hp;obtain ⟨k,hk⟩:=List.getElem?_of_mem hm;have h1:=q2 k q hk;have hlt:k<parts.length:=(List.getElem?_eq_some_iff.1 hk).1;have hlt2:k<es.length:=by rw [q1];exact hlt
  obtain ⟨_,r2,_,_⟩:=q3 k q es[k] hk (List.getElem?_eq_getElem hlt2);have hlt3:q.1<(Gz i.size m A).length:=by rw [c2];omega
  exact ⟨_,List.getElem?_eq_getElem hlt3,by rw [r2,c3 _ (List.getElem_mem hlt3)]⟩
 have hplace:∀k seg,(Gz i.size m A)[k]?=some seg->some (k*i.size,i.size)=some (((Gz i.size m A).take k).flatten.length,seg.length):=by
  intro k seg hs;have hlt:k<m:=by rw [<- c2];exact (List.getElem?_eq_some_iff.1 hs).1
  rw [AX (sz:=i.size) (λc hc'=>c3 c (List.mem_of_mem_take hc')),c3 seg (List.mem_of_getElem? hs)];rw [List.length_take,c2,Nat.min_eq_left (by omega)]
 have hfill:=KY (λk=>some (k*i.size,i.size)) (parts.map λ(p:Nat×Operand)=>(p.1,a.eval p.2)) _ hplace hq;rw [c1] at hfill;obtain ⟨R,hR⟩:∃R,(parts.map λ(p:Nat×Operand)=>(p.1,a.eval p.2)).foldl (λs p=>s.set p.1 p.2.cells.toList) (Gz i.size m A)=R:=⟨_,rfl⟩
 rw [hR] at hfill;have hRl:R.length=m:=by rw [<- hR,El,c2]
 have hRk:∀(k:Nat) (c:List Value),R[k]?=some c->∃p,parts[k]?=some p/\c=(a.eval p.2).cells.toList:=by
  intro k c hk;have hlt:k<parts.length:=by rw [<- hn',<- hRl];exact (List.getElem?_eq_some_iff.1 hk).1
  have hp:parts[k]?=some parts[k]:=List.getElem?_eq_getElem hlt;have h1:(parts[k]).1=k:=by have:=q2 k _ hp;omega
  rw [<- hR] at hk;obtain ⟨r1,_⟩:=Ib _ _ k c hk;refine ⟨_,hp,r1 _ (List.mem_map.2 ⟨parts[k],List.getElem_mem hlt,by rw [h1]⟩) λu hu=>?_⟩;obtain ⟨q,hm,he⟩:=List.mem_map.1 hu;simp only [Prod.mk.injEq] at he;obtain ⟨k',hk'⟩:=List.getElem?_of_mem hm;have:=q2 k' q hk';have e:k'=k:=by omega
  subst e;rw [hp] at hk';have hk':=Option.some.inj hk';rw [hk',<- he.2]
 refine ⟨R,?_,hRl,by omega,λc hc'=>?_,λc hc'=>?_,λk c x hk hx=>?_⟩
 ·have hno:¬m*i.size > 2 ^ 24:=by omega
  simp only [execOp,ho,Instr.buildSlice,Sem.run_bind,run_underlying hu,hty.sizeOf w,Result.andThen_ok,hno,if_false,Sem.run_pure,if_neg hz0,zeroValue,typeInfo,run_program,hi1,hi4];rw [hA1,List.map_toArray,hfill];simp only [newRow,Sem.run_bind,run_newObj,Result.andThen_ok,Sem.run_pure];rfl
 ·obtain ⟨k,hk⟩:=List.getElem?_of_mem hc';obtain ⟨p,hp,rfl⟩:=hRk k c hk;have hlt2:k<es.length:=by rw [q1];exact (List.getElem?_eq_some_iff.1 hp).1
  obtain ⟨_,r2,_,_⟩:=q3 k p _ hp (List.getElem?_eq_getElem hlt2);simpa using r2
 ·obtain ⟨k,hk⟩:=List.getElem?_of_mem hc';have hlt2:k<parts.length:=by rw [<- q1];exact (List.getElem?_eq_some_iff.1 hk).1
  exact (q3 k _ c (List.getElem?_eq_getElem hlt2) hk).2.2.1
 ·obtain ⟨p,hp,rfl⟩:=hRk k c hk;obtain ⟨r1,_,_,r4⟩:=q3 k p x hp hx;exact ⟨r1,r4⟩
theorem Y1 (htt:TTok P tt) (q:Nat) {c:PBo} (h:oM tt n env q todo=some c) (hob:AA c.ob)
  (hk:G P n F Q c.todo (B9 c.dst (.own q c.es.length) env) ((q,some (.row c.e c.sz c.es))::st) ids'):G P n F Q todo env st (q::ids'):=by
 unfold oM at h
 split at h
 ·rename_i all o todo' h1
  split at h
  ·rename_i t m parts hgd hop
   split at h
   ·rename_i e _ _ _ _ ht hd
    split at h
    ·rename_i i hi
     split at h
     ·rename_i es o' hel hm hbig hpos hm0;cases h;simp only at hob hk;have hk:G P n F Q todo' (B9 o.dst (.own q es.length) env) ([(q,some (.row e i.size es))]++st) ids':=hk;refine B6 (fr:=[q]) (wr:=[(q,some (.row e i.size es))]) (rd:=[]) h1 ?_ hd (λc hc=>by rw [hop] at hc;cases hc) hk;intro I μ st1 ids1 a w hag hst hon;refine ⟨λ_=>?_,λhw=>by rw [AG hgd] at hw;cases hw⟩;have hpos:=show 0<i.size by simpa [Nat.blt_eq] using hpos
      obtain ⟨R,r1,r2,r3,r4,r5,r6⟩:=qF (w:=w) htt hop (htt.sh ht) hi hel hob (Nat.eq_of_beq_eq_true hm) (Nat.le_of_ble_eq_true hbig) hpos (by simpa [Nat.blt_eq] using hm0) (Bc hon);rw [r1];have hfl:RepVL I R.flatten es.flatten:=by
       refine ⟨by rw [AX r4,AX r5,r2,r3],λj u x hu hx=>?_⟩;have hlt:j<m*i.size:=by rw [<- r2,<- AX r4];exact (List.getElem?_eq_some_iff.1 hu).1
       have h1:j / i.size<m:=Nat.div_lt_of_lt_mul (by rw [Nat.mul_comm];exact hlt);have h2:j % i.size<i.size:=Nat.mod_lt _ hpos;have e1:R[j / i.size]?=some R[j / i.size]:=List.getElem?_eq_getElem (by omega);have e2:es[j / i.size]?=some es[j / i.size]:=List.getElem?_eq_getElem (by omega);obtain ⟨p1,p2⟩:=r6 _ _ _ e1 e2;have l1:=r4 _ (List.mem_of_getElem? e1);have l2:=r5 _ (List.mem_of_getElem? e2);have f1:=C3 r4 _ _ (j % i.size) _ e1 (List.getElem?_eq_getElem (by omega));have f2:=C3 r5 _ _ (j % i.size) _ e2 (List.getElem?_eq_getElem (by omega));have ej:j / i.size*i.size+j % i.size=j:=by rw [Nat.mul_comm,Nat.div_add_mod]
       rw [ej] at f1 f2;rw [f1] at hu;rw [f2] at hx;cases hu;cases hx;exact p1.2 _ _ _ (List.getElem?_eq_getElem (by omega)) (List.getElem?_eq_getElem (by omega))
      have hone:∀c∈es,∀x∈c,V.one x=true:=λc hc x hx=>by
       obtain ⟨k,hk⟩:=List.getElem?_of_mem hc;obtain ⟨l,hl⟩:=List.getElem?_of_mem hx;have hlt:k<R.length:=by rw [r2,<- r3];exact (List.getElem?_eq_some_iff.1 hk).1
       obtain ⟨p1,p2⟩:=r6 k _ c (List.getElem?_eq_getElem hlt) hk;have hl2:l<(R[k]).length:=by rw [p1.1];exact (List.getElem?_eq_some_iff.1 hl).1
       exact (p1.2 l _ x (List.getElem?_eq_getElem hl2) hl).oneV (p2 _ (List.getElem_mem hl2))
      have hcm:m<=maxLen:=by
       have hb:=Nat.le_of_ble_eq_true hbig;have:m*1<=m*i.size:=Nat.mul_le_mul_left m hpos;unfold maxLen;omega
      have hown:(w.alloc (.cells R.flatten.toArray e)).ownsRow 0 e i.size (.slice (some ⟨w.heap.size,0,none⟩) m m) es.length R.flatten:=by
       rw [r3];refine ⟨by rw [AX r4,r2],.inr ⟨w.heap.size,m,R.flatten.toArray,rfl,Nat.zero_le _,Ek w _,Nat.le_refl _,hcm,by simp [AX r4,r2],?_⟩⟩;have:R.flatten.toArray.toList=R.flatten:=rfl;rw [this,List.take_of_length_le (by rw [AX r4,r2];exact Nat.le_refl _)]
      obtain ⟨μ',q1,q2,q3,q4⟩:=StRep.renew (id':=q) (ids:=ids1) (rd:=[]) (v':=.slice (some ⟨w.heap.size,0,none⟩) m m) (blk':=.row e i.size es) hst (World.grownBy_alloc w _ none) (λb hb=>by cases hb) (λb hb=>by
       have:w.heap.size=b:=hb;subst this;exact ⟨by simp,.inl (Nat.le_refl _)⟩) (λμ'=>⟨R.flatten,hown,hfl,r5,hone,hpos⟩)
      refine ⟨I,μ',q3,?_,q2,q4⟩;rw [r3];exact .own q m _ m q1
     ·cases h
    ·cases h
   ·cases h
  ·cases h
 ·cases h
end
end Go.Hk
namespace Go.Hk
def UU (w:World) (e:TypeId) (sz:Nat) (base:Value) (len:Nat) (xs news:List Value) (v':Value) (w':World):Prop :=
 w'.ownsRow 0 e sz v' len (xs++news)/\w.grownBy w' base.ownBlock/\(∀b,v'.ownBlock=some b->base.ownBlock=some b\/w.heap.size<=b)
theorem RH {P:Program} {w:World} {t ty e:TypeId} {i:TyI} (hu:P.underlying t=some (.slice e)) (hi:TyOk P e i) (hz:(Nat.beq i.zero.length i.size&&Nat.blt 0 i.size)=true) {v:Value} {n m c:Nat} {xs news:List Value} (hown:w.ownsRow 0 e i.size v n xs)
  {ad:Addr} (hl:news.length=m*i.size) (hnews:∀j u,news[j]?=some u->w.cell? (ad.add j)=some u) (h1:∀u∈news,u.oneCell'=true) (h63:n+m<=maxLen) (hbytes:(n+m)*i.bytes<=140737488355328) :
  ∃v' w',(Builtin.append_ #[t,t] ty #[v,.slice (some ad) m c]).run P w = .ok v' w'/\UU w e i.size v (n+m) xs news v' w':=by
 obtain ⟨inf,z,z1,z2,z3,z4,z5,z6⟩:=hi.info;simp only [Bool.and_eq_true,Nat.blt_eq] at hz;have hzl:z.cells.size=i.size:=by
  have:=(z5 (λ_=>none) noMu).1;rw [Nat.eq_of_beq_eq_true hz.1] at this;simpa using this
 have hl2:(xs++news).length=(n+m)*i.size:=by rw [List.length_append,hown.1,hl,Nat.add_mul]
 rcases hown.2 with ⟨rfl,rfl⟩ | ⟨g,cap,cur,rfl,_,hheap,hle,hcm,hcs,htake⟩
 ·have hx:xs=[]:=List.eq_nil_of_length_eq_zero (by rw [hown.1];simp);subst hx;obtain ⟨v',w',q1,q2,q3,_⟩:=run_append_own (P:=P) w w.heap.size t ty e inf z i.size i.bytes hu z1 z4 z2 z3 hzl hz.2 (.slice none 0 0) 0 [] (World.ownsRow_nil w _ e i.size) ad m c news hl hnews h1 h63 hbytes (Nat.le_refl _);exact ⟨v',w',q1,⟨q2.1,q2.2.imp id λ⟨g,cap,cur,a1,_,a2⟩=>⟨g,cap,cur,a1,Nat.zero_le _,a2⟩⟩,q3,λb hb=>.inr (q2.lt b hb).1⟩
 ·by_cases hroom:n+m<=cap
  ·have hfit:n*i.size+news.length<=cur.size:=by rw [hl,hcs,<- Nat.add_mul];exact Nat.mul_le_mul_right _ hroom
   have hr:=run_append_room (P:=P) w t ty e inf hu z1 g n cap cur hheap ad m c news (by rw [z2];exact hl) hnews h1 hroom (by rw [z2];exact hfit);rw [z2] at hr;refine ⟨_,_,hr,⟨hl2,.inr ⟨g,cap,_,rfl,Nat.zero_le _,setRow_heap w g cur _ e _ hheap,hroom,hcm,?_,?_⟩⟩,⟨rfl,rfl,rfl,by simp,λk _ hk=>setRow_other w g k _ (λe=>hk (by simp [e,Value.ownBlock]))⟩,λb hb=>.inl hb⟩
   ·simp only [List.size_toArray,List.length_append,List.length_take,List.length_drop,Array.length_toList];omega
   ·rw [htake,<- hl2];exact List.take_left
  ·have hsmall:n+m<=9223372036854775807:=by simp only [maxLen] at h63;omega
   have hr':=run_append_grow (P:=P) w t ty e inf z hu z1 z4 ⟨g,0,none⟩ n cap xs (by rw [z2];exact hown.1) (hown.cells (g:=g) rfl) ad m c news (by rw [z2];exact hl) hnews (by omega) (by omega) (by rw [z3];exact growslice_fits (by omega) hbytes);have hge:=grownCap_ge w (n+m) cap e;have hcm':grownCap w (n+m) cap e<=maxLen:=grownCap_le_maxLen w _ cap e h63;refine ⟨_,_,hr',⟨hl2,.inr ⟨w.heap.size,_,_,rfl,Nat.zero_le _,Ek w.drew _,hge,hcm',?_,?_⟩⟩,⟨rfl,rfl,rfl,by simp,λk hk _=>GK w.drew _ hk⟩,λb h=>by simp [Value.ownBlock] at h;exact .inr (by omega)⟩
   ·simp only [Array.size_append,List.size_toArray,size_zeroCells,hzl,hown.1,hl,<- Nat.add_mul];congr 1;omega
   ·simp only [Array.toList_append];rw [<- hl2];exact List.take_left
def lM (A B A':Asn) (e:TypeId) (sz bytes:Nat) (base:Value):Prop:=∀us vs I w b1 b2,A.P us I w b1->B.P vs I w b2->(∀b∈b1,b∉b2)->∃n m c xs news ad,
 w.ownsRow 0 e sz base n xs/\(∀k,base.ownBlock=some k->k∈b1)/\vs[0]?=some (.slice (some ad) m c)/\news.length=m*sz/\(∀j u,news[j]?=some u->w.cell? (ad.add j)=some u)/\(∀u∈news,u.oneCell'=true) /\
 (n+m<=maxLen/\(n+m)*bytes<=140737488355328) /\
 ∀v' w',UU w e sz base (n+m) xs news v' w'->∃bs,(∀b∈bs,(b∈b1\/b∈b2)\/(w.heap.size<=b/\b<w'.heap.size))/\A'.P [v'] I w' bs
def lL (A A':Asn) (e:TypeId) (sz bytes:Nat) (base:Value) (es2:List (List V)):Prop:=(∀c∈es2,c.length=sz)/\∀us I w b1,A.P us I w b1->∃n xs,
 w.ownsRow 0 e sz base n xs/\(∀k,base.ownBlock=some k->k∈b1)/\(n+es2.length<=maxLen/\(n+es2.length)*bytes<=140737488355328) /\
 ∀v' w' news,RepVL I news es2.flatten->(∀u∈news,u.oneCell'=true)->UU w e sz base (n+es2.length) xs news v' w'->∃bs,(∀b∈bs,b∈b1\/(w.heap.size<=b/\b<w'.heap.size))/\A'.P [v'] I w' bs
structure PAp where
 base:Value
 e:TypeId
 sz:Nat
 bytes:Nat
 es2:List (List V)
 dst:Option Nat
 todo:List DI
def oQ (tt:TT) (n:Nat) (env:Env) (id q id':Nat) (todo:List DI):Option PAp :=
 match Bg todo ([id,q],[id',id,q]) with
 | some (_,o,todo')=>match o.guard,o.op with
  | none,.call { callee:=.builtin .append,args:=⟨[x,y]⟩,argTypes:=⟨[t,t']⟩ }=>match Nat.beq t t',lk tt t,CV env x,CV env y with
   | true,some { sh:=.sl e,.. },some (.raw v),some (.hv i l)=>match lk tt e with
    | some ti=>match Nat.beq ti.zero.length ti.size&&Nat.blt 0 ti.size,Nat.beq i q,Nat.beq l 0,BH n o.dst with
     | true,true,true,true=>some ⟨v,e,ti.size,ti.bytes,[],o.dst,todo'⟩
     | _,_,_,_=>none
    | none=>none
   | _,_,_,_=>none
  | _,_=>none
 | none=>none
def oP (tt:TT) (n:Nat) (env:Env) (id id':Nat) (todo:List DI):Option PAp :=
 match Bg todo ([id],[id',id]) with
 | some (_,o,todo')=>match o.guard,o.op with
  | none,.call { callee:=.builtin .append,args:=⟨[x,y]⟩,argTypes:=⟨[t,t']⟩ }=>match Nat.beq t t',lk tt t,CV env x,CV env y with
   | true,some { sh:=.sl e,.. },some (.raw v),some (.imm (.sl (e1::es2)))=>match lk tt e with
    | some ti=>match Nat.beq ti.zero.length ti.size&&Nat.blt 0 ti.size,BH n o.dst with
     | true,true=>some ⟨v,e,ti.size,ti.bytes,e1::es2,o.dst,todo'⟩
     | _,_=>none
    | none=>none
   | _,_,_,_=>none
  | _,_=>none
 | none=>none
structure rN where
 b:Nat
 off:Nat
 k:Nat
 todo:List DI
def V6 (tt:TT) (env:Env) (id:Nat) (todo:List DI):Option rN :=
 match Bg todo ([id],[id]) with
 | some (_,o,todo')=>match o.guard,o.dst,o.op with
  | none,none,.store t p x=>match lk tt t,CV env p,CV env x with
   | some i,some (.raw (.pointer (some ⟨b,off,none⟩))),some (.hv j k)=>match Nat.beq i.size 1,Nat.beq j id with
    | true,true=>some ⟨b,off,k,todo'⟩
    | _,_=>none
   | _,_,_=>none
  | _,_,_=>none
 | none=>none
def RK (A A':Asn) (b off k:Nat):Prop:=∀us I w bs,A.P us I w bs->b∈bs/\∃cur t,w.heap[b]?=some (.cells cur t (0,0))/\off+1<=cur.size /\
 ∀u,us[k]?=some u->u.oneCell'=true->A'.P us I (w.setRow b (cur.toList.take off++[u]++cur.toList.drop (off+1)).toArray) bs
structure PRn where
 eq:Bool
 nil:Bool
 dst:Option Nat
 todo:List DI
def oH (tt:TT) (n:Nat) (env:Env) (todo:List DI):Option PRn :=
 match Bg todo ([],[]) with
 | some (_,o,todo')=>match o.guard,o.op with
  | none,.binOp .eql t x y _=>match lk tt t,CV env x,CV env y,BH n o.dst with
   | some { sh:=.sl _,.. },some (.raw (.slice ad _ _)),some .nils,true=>some ⟨true,ad.isNone,o.dst,todo'⟩
   | _,_,_,_=>none
  | none,.binOp .neq t x y _=>match lk tt t,CV env x,CV env y,BH n o.dst with
   | some { sh:=.sl _,.. },some (.raw (.slice ad _ _)),some .nils,true=>some ⟨false,ad.isNone,o.dst,todo'⟩
   | _,_,_,_=>none
  | _,_=>none
 | none=>none
section
variable {P:Program} {n:Nat} {F:List Nat} {Q:DQ} {tt:TT} {env env':Env} {st st' st0 st1:St} {ids ids' fr:List Nat} {k todo todo':List DI} {I J:Imm} {μ:Mu} {w:World} {a:Act} {Pn:V->Prop} {d:D} {cx:Prop} {ob:List Prop}
theorem RepD.hvInv {v:Value} {j i:Nat} {us:List Value} {bs:List Nat} (hm:μ j=some (NM us bs)) (h:RepD I μ v (.hv j i)):us[i]?=some v/\v.oneCell'=true:=by
 cases h with
 | hv _ _ _ us' bs' hm' hi' h1 =>
  rw [hm] at hm';have:us=us':=by
   simp only [NM,Option.some.injEq,Value.tuple.injEq,Array.mk.injEq,List.cons.injEq,Value.agg.injEq,and_true] at hm';simpa using hm'.1
  exact ⟨by rw [this];exact hi',h1⟩
theorem HN {w:World} {e:TypeId} {sz n:Nat} {v:Value} {xs:List Value} (h:w.ownsRow 0 e sz v n xs):v.oneCell'=true:=by
 rcases h.2 with ⟨rfl,_⟩ | ⟨g,cap,cur,rfl,_⟩ <;> rfl
theorem jY (htt:TTok P tt) (id q id':Nat) {A B:Asn} (A':Asn) {c:PAp} (h:oQ tt n env id q id' todo=some c) (hl:lk st id=some (some (.hp A))) (hlq:lk st q=some (some (.hp B))) (hne:id≠q) (hA:lM A B A' c.e c.sz c.bytes c.base)
  (hk:G P n F Q c.todo (B9 c.dst (.hv id' 0) env) ((id',some (.hp A'))::(id,none)::(q,none)::st) ids'):G P n F Q todo env st (id'::ids'):=by
 unfold oQ at h
 split at h
 ·rename_i all o todo' h1
  split at h
  ·rename_i x y t t' hgd hop
   split at h
   ·rename_i e _ _ _ _ v i l htt' ht hx hy;have:=Nat.eq_of_beq_eq_true htt';subst this
    split at h
    ·rename_i ti hti
     split at h
     ·rename_i hz hi hl0 hd;cases h;simp only at hA hk;have hi:=Nat.eq_of_beq_eq_true hi;have hl0:=Nat.eq_of_beq_eq_true hl0;subst hi;subst hl0;have hk:G P n F Q todo' (B9 o.dst (.hv id' 0) env) ([(id',some (.hp A')),(id,none),(i,none)]++st) ids':=hk;refine B6 (fr:=[id']) (wr:=[(id',some (.hp A')),(id,none),(i,none)]) (rd:=[id,i]) h1 ?_ hd (λc hc=>by rw [hop] at hc;cases hc) hk;intro I μ st1 ids1 a w hag hst hon;refine ⟨λ_=>?_,λhw=>by rw [AG hgd] at hw;cases hw⟩;have hops:=Bc hon;rw [hop] at hops;have hl1:Az st1 id (.hp A):=by unfold Az;rw [hag id (by simp)];exact hl
      have hl2:Az st1 i (.hp B):=by unfold Az;rw [hag i (by simp)];exact hlq
      obtain ⟨g1,hg1,us,b1,rfl,hP1⟩:=hst.blk id _ hl1;obtain ⟨g2,hg2,vs,b2,rfl,hP2⟩:=hst.blk i _ hl2;have hv:a.eval x=v:=(hops x (by simp [Op.operands,Call.operands]) _ hx).rawInv;obtain ⟨hy0,_⟩:=(hops y (by simp [Op.operands,Call.operands]) _ hy).hvInv hg2;obtain ⟨nn,m,cc,xs,news,ad,k1,k2,k3,k4,k5,k6,⟨k7,k8⟩,k9⟩:=hA us vs I w b1 b2 hP1 hP2 λb h1 h2=>hne (hst.inj id i _ _ _ _ b hl1 hl2 hg1 hg2 (Bb.2 h1) (Bb.2 h2));have hyv:a.eval y = .slice (some ad) m cc:=by rw [hy0] at k3;exact Option.some.inj k3
      obtain ⟨v',w',r1,r2⟩:=RH (ty:=o.type) (c:=cc) (htt.sh ht) (htt e ti hti) hz k1 k4 k5 k6 k7 k8;have hrun:(execOp a.eval o).run P w = .ok (.value v') w':=by
       simp only [execOp,hop,resolve,invoke,builtin,Sem.run_bind,Sem.run_pure,Result.andThen_ok,List.map_toArray,List.map_cons,List.map_nil,hv,hyv,r1]
      rw [hrun];obtain ⟨bs,s1,s2⟩:=k9 v' w' r2;have hold:∀b,b∈b1\/b∈b2->∃id0 blk g,id0∈[id,i]/\Az st1 id0 blk/\μ id0=some g/\D0 g b:=λb hb=>by
       rcases hb with hb | hb
       ·exact ⟨id,_,_,by simp,hl1,hg1,Bb.2 hb⟩
       ·exact ⟨i,_,_,by simp,hl2,hg2,Bb.2 hb⟩
      have hlt:∀b,b∈b1\/b∈b2->b<w.heap.size:=λb hb=>by
       obtain ⟨id0,blk,g,_,q2,q3,q4⟩:=hold b hb;exact (hst.apart id0 blk g b q2 q3 q4).2
      obtain ⟨μ',q1,q2,q3,q4⟩:=StRep.renew (id':=id') (ids:=ids1) (rd:=[id,i]) (v':=NM [v'] bs) (blk':=.hp A') hst r2.2.1 (λb hb=>hold b (.inl (k2 b hb))) (λb hb=>by
       rcases s1 b (Bb.1 hb) with h | h
       ·exact ⟨Nat.lt_of_lt_of_le (hlt b h) r2.2.1.size,.inr (hold b h)⟩
       ·exact ⟨h.2,.inl h.1⟩) (λμ'=>⟨_,_,rfl,s2⟩)
      exact ⟨I,μ',q3,.hv _ id' 0 _ _ q1 rfl (HN r2.1),q2,q4⟩
     ·cases h
    ·cases h
   ·cases h
  ·cases h
 ·cases h
theorem qA (htt:TTok P tt) (id id':Nat) {A:Asn} (A':Asn) {c:PAp} (h:oP tt n env id id' todo=some c) (hl:lk st id=some (some (.hp A))) (hA:lL A A' c.e c.sz c.bytes c.base c.es2)
  (hk:G P n F Q c.todo (B9 c.dst (.hv id' 0) env) ((id',some (.hp A'))::(id,none)::st) ids'):G P n F Q todo env st (id'::ids'):=by
 unfold oP at h
 split at h
 ·rename_i all o todo' h1
  split at h
  ·rename_i x y t t' hgd hop
   split at h
   ·rename_i e _ _ _ _ v e1 es2 htt' ht hx hy;have:=Nat.eq_of_beq_eq_true htt';subst this
    split at h
    ·rename_i ti hti
     split at h
     ·rename_i hz hd;cases h;simp only at hA hk;have hk:G P n F Q todo' (B9 o.dst (.hv id' 0) env) ([(id',some (.hp A')),(id,none)]++st) ids':=hk;refine B6 (fr:=[id']) (wr:=[(id',some (.hp A')),(id,none)]) (rd:=[id]) h1 ?_ hd (λc hc=>by rw [hop] at hc;cases hc) hk;intro I μ st1 ids1 a w hag hst hon;refine ⟨λ_=>?_,λhw=>by rw [AG hgd] at hw;cases hw⟩;have hops:=Bc hon;rw [hop] at hops;have hl1:Az st1 id (.hp A):=by unfold Az;rw [hag id (by simp)];exact hl
      obtain ⟨g1,hg1,us,b1,rfl,hP1⟩:=hst.blk id _ hl1;have hv:a.eval x=v:=(hops x (by simp [Op.operands,Call.operands]) _ hx).rawInv;have hpos:0<ti.size:=by
       simp only [Bool.and_eq_true,Nat.blt_eq] at hz;exact hz.2
      obtain ⟨hsz,hA⟩:=hA;obtain ⟨nn,xs,k1,k2,⟨k7,k8⟩,k9⟩:=hA us I w b1 hP1;rcases Mq hst.imm (hops y (by simp [Op.operands,Call.operands]) _ hy).immInv hsz hpos with ⟨_,e0⟩ | ⟨yb,yo,yc,news,ey,_,_,n1,n2,n3,n4,_⟩
      ·cases e0
      obtain ⟨v',w',r1,r2⟩:=RH (ty:=o.type) (c:=yc) (htt.sh ht) (htt e ti hti) hz k1 n1 n2 n3 k7 k8;have hrun:(execOp a.eval o).run P w = .ok (.value v') w':=by
       simp only [execOp,hop,resolve,invoke,builtin,Sem.run_bind,Sem.run_pure,Result.andThen_ok,List.map_toArray,List.map_cons,List.map_nil,hv,ey,r1]
      rw [hrun];obtain ⟨bs,s1,s2⟩:=k9 v' w' news n4 n3 r2;have hlt:∀b,b∈b1->b<w.heap.size:=λb hb=>(hst.apart id _ _ b hl1 hg1 (Bb.2 hb)).2;obtain ⟨μ',q1,q2,q3,q4⟩:=StRep.renew (id':=id') (ids:=ids1) (rd:=[id]) (v':=NM [v'] bs) (blk':=.hp A') hst r2.2.1 (λb hb=>⟨id,_,_,by simp,hl1,hg1,Bb.2 (k2 b hb)⟩) (λb hb=>by
       rcases s1 b (Bb.1 hb) with h | h
       ·exact ⟨Nat.lt_of_lt_of_le (hlt b h) r2.2.1.size,.inr ⟨id,_,_,by simp,hl1,hg1,Bb.2 h⟩⟩
       ·exact ⟨h.2,.inl h.1⟩) (λμ'=>⟨_,_,rfl,s2⟩)
      exact ⟨I,μ',q3,.hv _ id' 0 _ _ q1 rfl (HN r2.1),q2,q4⟩
     ·cases h
    ·cases h
   ·cases h
  ·cases h
 ·cases h
theorem NO (htt:TTok P tt) (id:Nat) {A:Asn} (A':Asn) {c:rN} (h:V6 tt env id todo=some c) (hl:lk st id=some (some (.hp A))) (hA:RK A A' c.b c.off c.k)
  (hk:G P n F Q c.todo env ((id,some (.hp A'))::st) ids):G P n F Q todo env st ids:=by
 unfold V6 at h
 split at h
 ·rename_i all o todo' h1
  split at h
  ·rename_i t p x hgd hdst hop
   split at h
   ·rename_i i b off j k ht hp hx
    split at h
    ·rename_i hsz hj;cases h;simp only at hA hk;have hj:=Nat.eq_of_beq_eq_true hj;have hsz:=Nat.eq_of_beq_eq_true hsz;subst hj;have hk:G P n F Q todo' (B9 o.dst .undef env) ([(j,some (.hp A'))]++st) ids:=by rw [hdst];exact hk
     refine B6 (fr:=[]) (wr:=[(j,some (.hp A'))]) (rd:=[j]) h1 ?_ (by simp [BH,hdst]) (λc hc=>by rw [hop] at hc;cases hc) hk;intro I μ st1 ids1 a w hag hst hon;refine ⟨λ_=>?_,λhw=>by rw [AG hgd] at hw;cases hw⟩;have hops:=Bc hon;rw [hop] at hops;have rp:=(hops p (by simp [Op.operands]) _ hp).rawInv;have hl1:Az st1 j (.hp A):=by unfold Az;rw [hag j (by simp)];exact hl
     obtain ⟨gg,hg',us,bs,e1,e2⟩:=hst.blk j _ hl1;subst e1;obtain ⟨hu,hone⟩:=(hops x (by simp [Op.operands]) _ hx).hvInv hg';obtain ⟨k1,vs,bt,k2,k3,k4⟩:=hA us I w bs e2;have hcell:=FS hone;have hrun:(execOp a.eval o).run P w = .ok .skip (w.setRow b (vs.toList.take off++[a.eval x]++vs.toList.drop (off+1)).toArray):=by
      have:=IW (v:=a.eval x) (off:=off) (htt t i ht) k2 (by rw [hcell,hsz];rfl) (by rw [hcell];intro u hu;simp at hu;rw [hu];exact hone) (by rw [hcell];exact k3);rw [hcell] at this;simp only [execOp,hop,rp,Sem.run_bind,this,Result.andThen_ok,Sem.run_pure];rfl
     rw [hrun];have hnew:BlkRep I μ (w.setRow b (vs.toList.take off++[a.eval x]++vs.toList.drop (off+1)).toArray) (NM us bs) (.hp A'):=⟨us,bs,rfl,k4 _ hu hone⟩
     obtain ⟨q1,q2⟩:=hst.update (id:=j) (blk:=.hp A) (g:=NM us bs) (b:=b) hl1 hg' (Bb.2 k1) (w':=w.setRow b _) (setRow_size w b _) rfl rfl rfl (λk hk=>setRow_other w b k _ hk) hnew;exact ⟨I,μ,q1,.undef _,Mu.le_refl μ,q2⟩
    ·cases h
   ·cases h
  ·cases h
 ·cases h
theorem pX (htt:TTok P tt) {c:PRn} (h:oH tt n env todo=some c) (hk:G P n F Q c.todo (B9 c.dst (.imm (.bool (c.eq == c.nil))) env) st ids):G P n F Q todo env st ids:=by
 unfold oH at h
 split at h
 ·rename_i all o todo' h1
  split at h
  ·rename_i t x y t' hgd hop
   split at h
   ·rename_i e _ _ _ _ ad len cap ht hx hy hd;cases h;refine B6 (fr:=[]) (wr:=[]) (rd:=[]) h1 ?_ hd (λc hc=>by rw [hop] at hc;cases hc) hk;intro I μ st1 ids1 a w hag hst hon;refine ⟨λ_=>?_,λhw=>by rw [AG hgd] at hw;cases hw⟩;have hops:=Bc hon;rw [hop] at hops;have e1:a.eval x = .slice ad len cap:=(hops x (by simp [Op.operands]) _ hx).rawInv;have e3:a.eval y = .slice none 0 0:=by
     have:=hops y (by simp [Op.operands]) _ hy;generalize a.eval y=v at this;cases this;rfl
    have hrun:(execOp a.eval o).run P w = .ok (.value (.bool ad.isNone)) w:=by
     simp only [execOp,hop,e1,e3];exact A7 (Gg (htt.sh ht) x y ad len cap).1
    rw [hrun];exact ⟨I,μ,hst,.imm _ _ (by cases ad.isNone <;> exact .bool _),Mu.le_refl μ,Ext.refl _ _ _ _⟩
   ·cases h
  ·rename_i t x y t' hgd hop
   split at h
   ·rename_i e _ _ _ _ ad len cap ht hx hy hd;cases h;refine B6 (fr:=[]) (wr:=[]) (rd:=[]) h1 ?_ hd (λc hc=>by rw [hop] at hc;cases hc) hk;intro I μ st1 ids1 a w hag hst hon;refine ⟨λ_=>?_,λhw=>by rw [AG hgd] at hw;cases hw⟩;have hops:=Bc hon;rw [hop] at hops;have e1:a.eval x = .slice ad len cap:=(hops x (by simp [Op.operands]) _ hx).rawInv;have e3:a.eval y = .slice none 0 0:=by
     have:=hops y (by simp [Op.operands]) _ hy;generalize a.eval y=v at this;cases this;rfl
    have hrun:(execOp a.eval o).run P w = .ok (.value (.bool (!ad.isNone))) w:=by
     simp only [execOp,hop,e1,e3];exact A7 (Gg (htt.sh ht) x y ad len cap).2
    rw [hrun];exact ⟨I,μ,hst,.imm _ _ (by cases ad.isNone <;> exact .bool _),Mu.le_refl μ,Ext.refl _ _ _ _⟩
   ·cases h
  ·cases h
 ·cases h
end
end Go.Hk
namespace Go.Hk
structure PRc where
 b:Nat
 off:Nat
 cap:Nat
 l:Int
 m:Int
 sz:Nat
 dst:Option Nat
 todo:List DI
def mS (env:Env) (d:Int):Option Operand->Option Int
 | none=>some d
 | some x=>match CV env x with
  | some (.imm (.int _ m))=>some m
  | _=>none
def oF (tt:TT) (n:Nat) (env:Env) (todo:List DI):Option PRc :=
 match Bg todo ([],[]) with
 | some (_,o,todo')=>match o.guard,o.op with
  | none,.slice t x lo hi none=>match lk tt t,CV env x,mS env 0 lo,BH n o.dst with
   | some { sh:=.sl e,.. },some (.raw (.slice (some ⟨b,off,none⟩) len cap)),some l,true=>match lk tt e,mS env len hi with
    | some ti,some m=>some ⟨b,off,cap,l,m,ti.size,o.dst,todo'⟩
    | _,_=>none
   | _,_,_,_=>none
  | _,_=>none
 | none=>none
structure PRk where
 e:TypeId
 sz:Nat
 b:Nat
 off:Nat
 len:Nat
 todo:List DI
def oI (tt:TT) (env:Env) (id:Nat) (todo:List DI):Option PRk :=
 match Bg todo ([id],[id]) with
 | some (_,o,todo')=>match o.guard,o.dst,o.op with
  | none,none,.call { callee:=.builtin .clear,args:=⟨[x]⟩,argTypes:=⟨[t]⟩ }=>match lk tt t,CV env x with
   | some { sh:=.sl e,.. },some (.raw (.slice (some ⟨b,off,none⟩) len _))=>match lk tt e with
    | some ti=>match Nat.blt 0 len,Nat.beq ti.zero.length ti.size with
     | true,true=>some ⟨e,ti.size,b,off,len,todo'⟩
     | _,_=>none
    | none=>none
   | _,_=>none
  | _,_,_=>none
 | none=>none
def UV (A A':Asn) (b off k:Nat):Prop:=∀us I w bs,A.P us I w bs->b∈bs/\∃cur t,w.heap[b]?=some (.cells cur t (0,0))/\off+k<=cur.size /\
 ∀news:List Value,news.length=k->(∀u∈news,u.oneCell'=true)->A'.P us I (w.setRow b (cur.toList.take off++news++cur.toList.drop (off+k)).toArray) bs
section
variable {P:Program} {n:Nat} {F:List Nat} {Q:DQ} {tt:TT} {env env':Env} {st st' st0 st1:St} {ids ids' fr:List Nat} {k todo todo':List DI} {I J:Imm} {μ:Mu} {w:World} {a:Act} {Pn:V->Prop} {d:D} {cx:Prop} {ob:List Prop}
theorem Wk {lo:Option Operand} {d l:Int} (h:mS env d lo=some l) (hx:∀x,lo=some x->∀d,CV env x=some d->RepD I μ (a.eval x) d):(lo=none/\l=d)\/∃x k,lo=some x/\a.eval x = .int k l:=by
 unfold mS at h
 split at h
 ·cases h;exact .inl ⟨rfl,rfl⟩
 ·rename_i x
  split at h
  ·rename_i k m hm;cases h;exact .inr ⟨x,k,rfl,(hx x rfl _ hm).immInv.intInv⟩
  ·cases h
theorem jW (htt:TTok P tt) {c:PRc} (h:oF tt n env todo=some c) (hc:0<=c.l/\c.l<=c.m/\c.m<=c.cap/\c.l<c.cap)
  (hk:G P n F Q c.todo (B9 c.dst (.raw (.slice (some ⟨c.b,c.off+c.l.toNat*c.sz,none⟩) (c.m.toNat-c.l.toNat) (c.cap-c.l.toNat))) env) st ids):G P n F Q todo env st ids:=by
 unfold oF at h
 split at h
 ·rename_i all o todo' h1
  split at h
  ·rename_i t x lo hi hgd hop
   split at h
   ·rename_i e _ _ _ _ b off len cap l ht hx hlo hd
    split at h
    ·rename_i ti m hti hhi;cases h;simp only at hc hk;refine B6 (fr:=[]) (wr:=[]) (rd:=[]) h1 ?_ hd (λc hc=>by rw [hop] at hc;cases hc) hk;intro I μ st1 ids1 a w hag hst hon;refine ⟨λ_=>?_,λhw=>by rw [AG hgd] at hw;cases hw⟩;have hops:=Bc hon;rw [hop] at hops;have e1:a.eval x = .slice (some ⟨b,off,none⟩) len cap:=(hops x (by simp [Op.operands]) _ hx).rawInv;obtain ⟨c1,c2,c3,c4⟩:=hc;obtain ⟨l',rfl⟩:∃k:Nat,l=k:=⟨l.toNat,by omega⟩
     obtain ⟨m',rfl⟩:∃k:Nat,m=k:=⟨m.toNat,by omega⟩
     have r1:=Wk (I:=I) (μ:=μ) (a:=a) hlo (λy hy=>hops y (by subst hy;simp [Op.operands]));have r2:=Wk (I:=I) (μ:=μ) (a:=a) hhi (λy hy=>hops y (by subst hy;cases lo <;> simp [Op.operands]));have hb:∀(k:IntKind) (x y:Nat) (c:BoundsCode),x<=y->(Instr.sliceBound (.int k x) y c).run P w = .ok x w:=by
      intro k x y c hxy;simp [Instr.sliceBound,asIntOf,hxy]
     have hl1:l'<=m':=by omega
     have hm1:m'<=cap:=by omega
     have hne:cap≠l':=by omega
     have hrun:(Instr.sliceAt t (.slice (some ⟨b,off,none⟩) len cap) (lo.map a.eval) (hi.map a.eval) none).run P w = .ok (.slice (some ⟨b,off+l'*ti.size,none⟩) (m'-l') (cap-l')) w:=by
      have hadd:(⟨b,off,none⟩:Addr).add (l'*ti.size)=⟨b,off+l'*ti.size,none⟩:=Dz _ _ _;rcases r1 with ⟨rfl,h1⟩ | ⟨y,k,rfl,h1⟩ <;> rcases r2 with ⟨rfl,h2⟩ | ⟨z,k2,rfl,h2⟩
      all_goals
       simp only [Option.map_none,Option.map_some]
       try rw [h1]
       try rw [h2]
      ·have hl0:l'=0:=by omega
       have hml:m'=len:=by omega
       subst hl0;subst hml;simp [Instr.sliceAt,run_underlying (htt.sh ht),Instr.slice,Instr.sliceBounds,hb _ _ _ _ hm1,(htt e ti hti).sizeOf w,hne,Dz]
      ·have hl0:l'=0:=by omega
       subst hl0;simp [Instr.sliceAt,run_underlying (htt.sh ht),Instr.slice,Instr.sliceBounds,hb _ _ _ _ hm1,(htt e ti hti).sizeOf w,hne,Dz]
      ·have hml:m'=len:=by omega
       subst hml;simp [Instr.sliceAt,run_underlying (htt.sh ht),Instr.slice,Instr.sliceBounds,hb _ _ _ _ hl1,hb _ _ _ _ hm1,(htt e ti hti).sizeOf w,hne,Dz]
      ·simp [Instr.sliceAt,run_underlying (htt.sh ht),Instr.slice,Instr.sliceBounds,hb _ _ _ _ hl1,hb _ _ _ _ hm1,(htt e ti hti).sizeOf w,hne,Dz]
     have hrun':(execOp a.eval o).run P w = .ok (.value (.slice (some ⟨b,off+l'*ti.size,none⟩) (m'-l') (cap-l'))) w:=by
      simp only [execOp,hop,e1,Option.map_none,Sem.run_bind,hrun,Result.andThen_ok,Sem.run_pure]
     rw [hrun'];exact ⟨I,μ,hst,.raw _ rfl,Mu.le_refl μ,Ext.refl _ _ _ _⟩
    ·cases h
   ·cases h
  ·cases h
 ·cases h
theorem pY (htt:TTok P tt) (id:Nat) {A:Asn} (A':Asn) {c:PRk} (h:oI tt env id todo=some c) (hl:lk st id=some (some (.hp A))) (hA:UV A A' c.b c.off (c.len*c.sz))
  (hk:G P n F Q c.todo env ((id,some (.hp A'))::st) ids):G P n F Q todo env st ids:=by
 unfold oI at h
 split at h
 ·rename_i all o todo' h1
  split at h
  ·rename_i x t hgd hdst hop
   split at h
   ·rename_i e _ _ _ _ b off len cap ht hx
    split at h
    ·rename_i ti hti
     split at h
     ·rename_i hlen hz;cases h;simp only at hA hk;have hlen:0<len:=by simpa [Nat.blt_eq] using hlen
      have hk:G P n F Q todo' (B9 o.dst (.undef) env) ([(id,some (.hp A'))]++st) ids:=by rw [hdst];exact hk
      refine B6 (fr:=[]) (wr:=[(id,some (.hp A'))]) (rd:=[id]) h1 ?_ (by simp [BH,hdst]) (λc hc=>by rw [hop] at hc;cases hc) hk;intro I μ st1 ids1 a w hag hst hon;refine ⟨λ_=>?_,λhw=>by rw [AG hgd] at hw;cases hw⟩;have hops:=Bc hon;rw [hop] at hops;have e1:a.eval x = .slice (some ⟨b,off,none⟩) len cap:=(hops x (by simp [Op.operands,Call.operands]) _ hx).rawInv;have hl1:Az st1 id (.hp A):=by unfold Az;rw [hag id (by simp)];exact hl
      obtain ⟨gg,hg',us,bs,rfl,e2⟩:=hst.blk id _ hl1;obtain ⟨k1,cur,bt,k2,k3,k4⟩:=hA us I w bs e2;obtain ⟨inf,z,z1,z2,z3,z4,z5,z6⟩:=(htt e ti hti).info;have hzl:z.cells.size=ti.size:=by
       have:=(z5 (λ_=>none) noMu).1;rw [Nat.eq_of_beq_eq_true hz] at this;simpa using this
      have hnl:(Builtin.zeroCells z.cells len).toList.length=len*ti.size:=by rw [Array.length_toList,size_zeroCells,hzl]
      have hone:∀u∈(Builtin.zeroCells z.cells len).toList,u.oneCell'=true:=by
       intro u hu;simp only [Builtin.zeroCells,Array.toList_map,List.mem_map,Array.toList_range,List.mem_range] at hu;obtain ⟨q,hq,rfl⟩:=hu;have hpos:0<z.cells.size:=by
        rcases Nat.eq_zero_or_pos z.cells.size with h0 | h0
        ·rw [h0] at hq;simp at hq
        ·exact h0
       have hlt:q % z.cells.size<z.cells.size:=Nat.mod_lt _ hpos;rw [getElem!_pos z.cells _ hlt];exact z6 _ (by simp)
      have hst2:=run_storeCells_at P b off bt (Builtin.zeroCells z.cells len).toList 0 cur w k2 (by rw [hnl];simpa using k3) hone;simp only [Nat.add_zero] at hst2;rw [hnl] at hst2;have hrun:(execOp a.eval o).run P w = .ok (.value (.tuple #[])) (w.setRow b (cur.toList.take off++(Builtin.zeroCells z.cells len).toList++cur.toList.drop (off+len*ti.size)).toArray):=by
       obtain ⟨len',rfl⟩:∃l,len=l+1:=⟨len-1,by omega⟩
       simp only [execOp,hop,resolve,invoke,builtin,Sem.run_bind,Sem.run_pure,Result.andThen_ok,List.map_toArray,List.map_cons,List.map_nil,e1];simp [Builtin.clear_,run_underlying (htt.sh ht),zeroValue,typeInfo,z1,z4,hst2]
      rw [hrun];have hnew:BlkRep I μ (w.setRow b (cur.toList.take off++(Builtin.zeroCells z.cells len).toList++cur.toList.drop (off+len*ti.size)).toArray) (NM us bs) (.hp A'):=⟨us,bs,rfl,k4 _ hnl hone⟩
      obtain ⟨q1,q2⟩:=hst.update (id:=id) (blk:=.hp A) (g:=NM us bs) (b:=b) hl1 hg' (Bb.2 k1) (w':=w.setRow b _) (setRow_size w b _) rfl rfl rfl (λk hk=>setRow_other w b k _ hk) hnew;exact ⟨I,μ,q1,.undef _,Mu.le_refl μ,q2⟩
     ·cases h
    ·cases h
   ·cases h
  ·cases h
 ·cases h
theorem OV (id t j:Nat) {A:Asn} {e:TypeId} {sz:Nat} (es:List (List V)) {v:Value} (hl:lk st id=some (some (.hp A))) (ht:lk env t=some (.raw v))
  (hA:∀vs I w bs,A.P vs I w bs->∃xs,w.ownsRow 0 e sz v es.length xs/\RepVL I xs es.flatten/\(∀c∈es,c.length=sz)/\(∀c∈es,∀x∈c,V.one x=true)/\0<sz/\∀k,v.ownBlock=some k->k∈bs)
  (h:DGo P n F Q todo ((t,.own j es.length)::env) ((j,some (.row e sz es))::(id,none)::st) ids'):DGo P n F Q todo env st (j::ids'):=by
 refine Dl λI μ a w hc=>?_;obtain ⟨g,hg,vs,bs,rfl,hP⟩:=hc.blk id _ hl;obtain ⟨xs,k1,k2,k3,k4,k5,k6⟩:=hA vs I w bs hP;have hown:∀b,D0 v b->v.ownBlock=some b:=λb hb=>by
  rcases k1.2 with ⟨rfl,_⟩ | ⟨g,cap,cur,rfl,_⟩
  ·cases hb
  ·have:g=b:=hb;rw [<- this];rfl
 obtain ⟨q1,q2,q3⟩:=StRep.relay (R:=[id]) (new:=[(j,v,.row e sz es)]) (ids':=ids') hc.toStRep
  (λp hp b hb=>by
   rw [List.mem_singleton.1 hp] at hb;exact ⟨id,_,_,by simp,hl,hg,Bb.2 (k6 b (hown b hb))⟩)
  (λp hp q hq b _ _=>by rw [List.mem_singleton.1 hp,List.mem_singleton.1 hq]) (Imm.le_refl I) hc.imm (λb o h=>.inl h)
  (λ_ p hp=>by rw [List.mem_singleton.1 hp];exact ⟨xs,k1,k2,k3,k4,k5⟩)
 refine ⟨I,_,_,_,ids',q2,λt' d hd=>?_,q3,.of_le q1,h⟩;by_cases e':t=t'
 ·subst e';rw [Ax] at hd;cases hd;have hv:=(hc.env t _ ht).rawInv;rw [hv];obtain ⟨ad,cap,rfl⟩:=O7 k1;exact .own j es.length ad cap (by simp [E3,lk])
 ·rw [A5 _ _ e'] at hd;exact (hc.env t' d hd).mono (Imm.le_refl I) q1
end
end Go.Hk
namespace Go.Hk
open Go.Proofs
def aJ:TT:=lX++[
 (161,⟨.struct [(0,26),(4,122),(7,158),(8,159)],true,9,136,[.imm (.int .i64 0),.imm (.int .i64 0),.imm (.str []),.nils,.imm (.int .i64 0),.imm (.int .i64 0),.imm (.str []),.nils,.nils]⟩),
 (96,⟨.ptr 161,false,1,8,[.imm .nilp]⟩),
 (158,⟨.sl 122,false,1,24,[.nils]⟩),
 (159,⟨.sl 96,false,1,24,[.nils]⟩),
 (126,⟨.struct [(0,46),(4,4)],true,5,64,[.imm (.int .i64 0),.imm (.int .i64 0),.imm (.str []),.nils,.imm (.bool false)]⟩),
 (156,⟨.struct [(0,32),(1,122)],true,4,56,[.nils,.imm (.int .i64 0),.imm (.int .i64 0),.imm (.str [])]⟩),
 (151,⟨.ptr 156,false,1,8,[.imm .nilp]⟩),
 (197,⟨.iface,false,1,16,[.imm .niliface]⟩),
 (128,⟨.sl 197,false,1,24,[.nils]⟩),
 (139,⟨.struct [(0,69)],true,4,56,[.imm (.int .i64 0),.imm (.int .i64 0),.imm (.str []),.nils]⟩),
 (201,⟨.struct [(0,69)],true,4,56,[.imm (.int .i64 0),.imm (.int .i64 0),.imm (.str []),.nils]⟩),
 (36,⟨.struct [(0,3),(1,32),(2,33),(3,34)],true,4,80,[.imm (.int .i64 0),.nils,.nils,.nils]⟩),
 (34,⟨.sl 36,false,1,24,[.nils]⟩),
 (94,⟨.struct [(0,89),(1,3)],true,2,16,[.imm .nilp,.imm (.int .i64 0)]⟩),
 (92,⟨.ptr 94,false,1,8,[.imm .nilp]⟩),
 (108,⟨.struct [(0,26),(4,33),(5,46),(9,106)],true,10,160,[.imm (.int .i64 0),.imm (.int .i64 0),.imm (.str []),.nils,.nils,.imm (.int .i64 0),.imm (.int .i64 0),.imm (.str []),.nils,.nils]⟩),
 (106,⟨.sl 108,false,1,24,[.nils]⟩),
 (48,⟨.struct [(0,4),(1,46)],true,5,64,[.imm (.bool false),.imm (.int .i64 0),.imm (.int .i64 0),.imm (.str []),.nils]⟩),
 (259,⟨.func,false,1,8,[.imm .nilfn]⟩)]
theorem Ai:TTok Tryz.prog aJ:=.of_eq (l:=[4,3,9,165,26,69,162,27,5,24,23,172,163,67,167,171,75,22,169,72,70,37,46,44,33,29,53,87,150,122,207,147,148,32,89,99,232,190,137,161,96,158,159,126,156,151,197,128,139,201,36,34,94,92,108,106,48,259]) (by kernel_rfl)
section
variable {n:Nat} {F:List Nat} {Q:DQ} {env env':Env} {st st':St} {ids ids':List Nat} {k todo:List DI} {ob:List Prop}
theorem md (path:List Pt) (h:run aJ n 300 path todo env st ids [] = .at k env' st' ids' ob) (hob:AA ob) (hd:G Tryz.prog n F Q k env' st' ids'):DGo Tryz.prog n F Q todo env st ids:=Lx Ai EQ 300 path h hob hd
theorem Ak (h:run aJ n 300 [] todo env st ids [] = .at k env' st' ids' ob) (hd:G Tryz.prog n F Q k env' st' ids') (hob:AA ob:=by simp):DGo Tryz.prog n F Q todo env st ids:=md [] h hob hd
theorem mdqc (h:run aJ n 300 [] todo env st ids [] = .at k env' st' ids' ob) (hd:G Tryz.prog n F Q k env' st' ids') (hob:AA ob:=by simp [Ap]):DGo Tryz.prog n F Q todo env st ids:=md [] h hob hd
theorem mg (path:List Pt) (h:run aJ n 300 path todo env st ids [] = .at k env' st' ids' ob) (hob:AA ob) (hd:G Tryz.prog n F Q k env' st' ids'):G Tryz.prog n F Q todo env st ids:=Ky Ai EQ 300 path h hob hd
theorem Aj (h:run aJ n 300 [] todo env st ids [] = .at k env' st' ids' ob) (hd:G Tryz.prog n F Q k env' st' ids') (hob:AA ob:=by simp):G Tryz.prog n F Q todo env st ids:=mg [] h hob hd
theorem Du (h:run aJ n 300 [] todo env st ids [] = .at k env' st' ids' ob) (hd:G Tryz.prog n F Q k env' st' ids') (hob:AA ob:=by simp [Ap]):G Tryz.prog n F Q todo env st ids:=mg [] h hob hd
theorem pK (f:Nat) (h:run aJ n f [] todo env st ids [] = .at k env' st' ids' ob) (hob:AA ob) (hd:G Tryz.prog n F Q k env' st' ids'):DGo Tryz.prog n F Q todo env st ids:=Lx Ai EQ f [] h hob hd
theorem qI (f:Nat) (h:run aJ n f [] todo env st ids [] = .at k env' st' ids' ob) (hob:AA ob) (hd:G Tryz.prog n F Q k env' st' ids'):G Tryz.prog n F Q todo env st ids:=Ky Ai EQ f [] h hob hd
theorem mi {es:List (List V)} {m:Int} {sz:Nat} {e:TypeId} {g:Option (Bool×Bool)} {ob:List Prop} {t:Nat} {todo':List DI} {c:List V} (h:Pm aJ n env todo=some ⟨es,m,sz,e,g,ob,some t,todo'⟩)
  (hc:Ap g->0<=m/\es[m.toNat]?=some c/\c.length=sz) (hob:AA ob) (hk:G Tryz.prog n F Q todo' ((t,gD g (.ip e c 0))::env) st ids):G Tryz.prog n F Q todo env st ids:=Ge Ai h hc hob hk
end
def AK:Ty->Int
 | .mk f _ _ _=>f
def C5:Ty->Str
 | .mk _ _ x _=>x
def zT:Ty:=.mk 0 0 [] []
inductive Mi where
 | mk (ty:Ty) (nt:List Ty) (hd:Ty) (ks:List Mi)
def Mi.ty:Mi->Ty
 | .mk t _ _ _=>t
def Mi.nt:Mi->List Ty
 | .mk _ n _ _=>n
def Mi.hd:Mi->Ty
 | .mk _ _ h _=>h
def Mi.ks:Mi->List Mi
 | .mk _ _ _ k=>k
def Ay (t:Ty):Mi:=.mk t [] zT []
def A6 (ds:List Dt):Ty->List Ty
 | .mk so _ x _=>if so=2 then [.mk 2 0 [] [],.mk 2 1 [] []] else if so=3 then [.mk 3 0 [] []] else if so=8 then (match ds[(Ba x 0 ds).toNat]? with
  | some d=>d.cons.map λc=>.mk 4 0 c.name []
  | none=>[]) else []
def Bj (l:List Ty) (h:Ty):Bool:=l.any λx=>AB x h
def AY (ds:List Dt) (m:Mi) (h:Ty):Mi:=.mk m.ty [] h ((AZ ds m.ty (C5 h)).1.map Ay)
def HW (ds:List Dt) (m:Mi):List Ty:=(A6 ds m.ty).filter λh=>!Bj m.nt h
def Ac (ds:List Dt) (m:Mi):Mi:=if AK m.hd≠0 then m else match HW ds m with
 | [h]=>AY ds m h
 | _=>m
def A3 (ds:List Dt):Mi->List Int->Ty->Bool->Mi
 | m,[],h,true=>AY ds m h
 | m,[],h,false=>.mk m.ty (m.nt++[h]) m.hd m.ks
 | m,i::p,h,is=>match (Ac ds m).ks[i.toNat]? with
  | some k=>.mk (Ac ds m).ty (Ac ds m).nt (Ac ds m).hd ((Ac ds m).ks.set i.toNat (A3 ds k p h is))
  | none=>m
mutual
def Ar (ds:List Dt):Ty->Mi->Int×List Int×Ty
 | .mk f n x ps,m=>if f=1\/f=2 then (1,[],zT) else
  if AK (Ac ds m).hd=0/\Bj (Ac ds m).nt (AO (.mk f n x ps))=false then (2,[],AO (.mk f n x ps)) else
  if AK (Ac ds m).hd=0\/AB (Ac ds m).hd (AO (.mk f n x ps))=false then (0,[],zT) else AP ds 0 ps (Ac ds m).ks
def AP (ds:List Dt):Int->List Ty->List Mi->Int×List Int×Ty
 | _,[],_=>(1,[],zT)
 | _,_::_,[]=>(1,[],zT)
 | i,p::r,k::ks=>if (Ar ds p k).1=1 then AP ds (i+1) r ks else ((Ar ds p k).1,i::(Ar ds p k).2.1,(Ar ds p k).2.2)
end
def JC (nt:List Ty):Nat->Int->Ty
 | 0,i=>.mk 1 i [] []
 | f+1,i=>if Bj nt (.mk 1 i [] [])=false then .mk 1 i [] [] else if Bj nt (.mk 1 (0-i) [] [])=false then .mk 1 (0-i) [] [] else JC nt f (i+1)
def CE (nt:List Ty):Ty:=JC nt nt.length 0
def Bf (ds:List Dt) (m:Mi) (h:Ty):Int:=if AK h=4 then AM ds (Do ds) 1 (AZ ds m.ty (C5 h)).1 else 1
def DR:Option (Ty×Int)->Int->Bool
 | none,_=>true
 | some p,n=>decide (n<p.2)
def C0 (ds:List Dt) (m:Mi):Option (Ty×Int)->List Ty->Option (Ty×Int)
 | b,[]=>b
 | b,h::r=>C0 ds m (if 0<Bf ds m h/\Bj m.nt h=false/\DR b (Bf ds m h)=true then some (h,Bf ds m h) else b) r
def AH (ds:List Dt) (m:Mi):Option Ty:=(C0 ds m none (A6 ds m.ty)).map (·.1)
def Bu (g:Mi->Option (Option Ty)):List Mi->Option (Option (List Ty))
 | []=>some (some [])
 | k::r=>match g k with
  | none=>none
  | some none=>some none
  | some (some v)=>match Bu g r with
   | none=>none
   | some none=>some none
   | some (some vs)=>some (some (v::vs))
def CB:Ty->List Ty->Ty
 | .mk a b c _,l=>.mk a b c l
def AT (ds:List Dt):Nat->Mi->Option (Option Ty)
 | 0,_=>none
 | f+1,m=>if AK m.hd=0 then
   (if AK m.ty=1 then some (some (CE m.nt)) else
   if AK m.ty=4\/AK m.ty=5\/AK m.ty=6\/AK m.ty=7 then some (some (.mk 5 0 [] [])) else
   match AH ds m with
   | none=>some none
   | some h=>(Bu (AT ds f) (AY ds m h).ks).map (·.map (CB h)))
  else (Bu (AT ds f) m.ks).map (·.map (CB m.hd))
def DE (n:Int):Int:=if 0<n then 2*n-1 else -2*n
mutual
def Cc (ds:List Dt):Ty->Ty->Int
 | .mk f n x ps,.mk _ n' x' ps'=>if f=1 then DE n-DE n' else if f=2 then n-n' else if f=4 then (if (Cg ds x).2-(Cg ds x').2≠0 then (Cg ds x).2-(Cg ds x').2 else BW ds ps ps') else 0
def BW (ds:List Dt):List Ty->List Ty->Int
 | [],_=>0
 | _::_,[]=>0
 | p::r,q::s=>if Cc ds p q≠0 then Cc ds p q else BW ds r s
end
def Cm (ds:List Dt) (a b:Ty):Bool:=if Aq a=Aq b then decide (Cc ds a b<0) else decide (Aq a<Aq b)
def Gl (ds:List Dt):Option Ty->Option Ty->Option Ty
 | none,b=>b
 | some a,none=>some a
 | some a,some b=>if Cm ds b a then some b else some a
def jF (ds:List Dt) (m:Mi):Option (Option Ty):=AT ds 1000 m
def Vs (ds:List Dt):Option (Option Ty)->Option (Option Ty)->Option (Option Ty)
 | some a,some b=>some (Gl ds a b)
 | _,_=>none
def CQ (ds:List Dt):Nat->Mi->List (Ty×Int)->Option (Option Ty)
 | 0,_,_=>none
 | _+1,m,[]=>jF ds m
 | f+1,m,(p,b)::r=>if (Ar ds p m).1=2 then Vs ds (CQ ds f (A3 ds m (Ar ds p m).2.1 (Ar ds p m).2.2 true) ((p,b)::r)) (CQ ds f (A3 ds m (Ar ds p m).2.1 (Ar ds p m).2.2 false) ((p,b)::r)) else
  if (Ar ds p m).1=b then CQ ds f m r else some none
end Go.Hk
namespace Go.Hk
def rV (j:Nat):List D->List D->Prop
 | [],[]=>True
 | d::r,d'::r'=>(d=d'\/(d = .nils/\d' = .own j 0))/\rV j r r'
 | _,_=>False
theorem VN {j:Nat}:∀{ds ds':List D},rV j ds ds'->ds.length=ds'.length/\∀(i:Nat) (d':D),ds'[i]?=some d'->∃d,ds[i]?=some d/\(d=d'\/(d = .nils/\d' = .own j 0))
 | [],[],_=>⟨rfl,λi d h=>by simp at h⟩
 | d::r,d'::r',h=>by
  obtain ⟨h1,h2⟩:=VN h.2;refine ⟨by simp [h1],λi x hx=>?_⟩;cases i with
  | zero=>simp at hx;subst hx;exact ⟨d,rfl,h.1⟩
  | succ i=>exact h2 i x (by simpa using hx)
 | [],_::_,h=>h.elim
 | _::_,[],h=>h.elim
section
variable {P:Program} {n:Nat} {F:List Nat} {Q:DQ} {tt:TT} {env env':Env} {st st':St} {ids ids':List Nat} {todo:List DI}
theorem UH (k j:Nat) {e t:TypeId} {sz sz':Nat} {ds:List D} (ds':List D) (hsz:0<sz) (hk:lk st k=some (some (.cells t sz' ds))) (hcl:rV j ds ds')
  (h:DGo P n F Q todo env ((k,some (.cells t sz' ds'))::(j,some (.row e sz []))::st) ids'):DGo P n F Q todo env st (j::ids'):=by
 refine Dl λI μ a w hc=>?_;obtain ⟨gk,hgk,_⟩:=hc.blk k _ hk;have hjk:j≠k:=λe=>by rw [<- e,hc.idsFree j (by simp)] at hgk;cases hgk
 obtain ⟨q1,q2,q3⟩:=StRep.relay (R:=[]) (new:=[(j,.slice none 0 0,.row e sz [])]) (ids':=ids') hc.toStRep
  (λp hp b hb=>by rw [List.mem_singleton.1 hp] at hb;exact hb.elim)
  (λp hp q hq b _ _=>by rw [List.mem_singleton.1 hp,List.mem_singleton.1 hq]) (Imm.le_refl I) hc.imm (λb o h=>.inl h)
  (λ_ p hp=>by rw [List.mem_singleton.1 hp];exact ⟨[],World.ownsRow_nil w 0 e sz,.nil,by simp,by simp,hsz⟩)
 have hmj:E3 [(j,Value.slice none 0 0,Blk.row e sz [])] μ j=some (.slice none 0 0):=by simp [E3,lk]
 have hk2:Az ((j,some (.row e sz []))::st) k (.cells t sz' ds):=A8.2 (.inr ⟨hjk.symm,hk⟩);obtain ⟨c1,c2⟩:=VN hcl;obtain ⟨p1,p2⟩:=q2.retell (st1:=(k,some (.cells t sz' ds'))::(j,some (.row e sz []))::st) (λi bb hlb=>by
  rcases A8.1 hlb with ⟨rfl,rfl⟩ | ⟨_,h2⟩
  ·refine ⟨_,hk2,λgb hb=>?_⟩;obtain ⟨hs,b,us,e1,e2,e3,e4⟩:=hb;refine ⟨by rw [<- c1,hs],b,us,e1,e2,⟨by rw [<- c1,e3.1],λi v y hv hy=>?_⟩,e4⟩;obtain ⟨d,y1,y2⟩:=c2 i y hy;have hr:=e3.2 i v d hv y1;rcases y2 with rfl | ⟨rfl,rfl⟩
   ·exact hr
   ·cases hr;exact .own j 0 none 0 hmj
  ·exact ⟨bb,h2,λ_ h=>h⟩)
 exact ⟨I,_,env,_,ids',p1,λt d hd=>(hc.env t d hd).mono (Imm.le_refl I) q1,q3.trans p2,.of_le q1,h⟩
end
end Go.Hk
namespace Go.Hk
def Ml:Env->Env
 | []=>[]
 | (t,.guard _ _ d)::r=>(t,d)::Ml r
 | (t,d)::r=>(t,d)::Ml r
def Y2 (cx:Prop) (env:Env):List Operand->List Prop
 | []=>[]
 | x::r=>match CV env x with
  | some (.guard c w _)=>(cx->c=w)::Y2 cx env r
  | _=>Y2 cx env r
theorem Vn:∀{env:Env} {t:Nat} {d:D},lk (Ml env) t=some d->lk env t=some d\/∃c w,lk env t=some (.guard c w d)
 | [],t,d,h=>by simp [Ml,lk] at h
 | (s,x)::r,t,d,h=>by
  have hs:∃y,Ml ((s,x)::r)=(s,y)::Ml r/\(x=y\/∃c w,x = .guard c w y):=by
   cases x with
   | guard c w y=>exact ⟨y,rfl,.inr ⟨c,w,rfl⟩⟩
   | _=>exact ⟨_,rfl,.inl rfl⟩
  obtain ⟨y,h1,h2⟩:=hs;rw [h1] at h;by_cases e:s=t
  ·subst e;rw [Ax] at h ⊢;cases h;rcases h2 with rfl | ⟨c,w,rfl⟩
   ·exact .inl rfl
   ·exact .inr ⟨c,w,rfl⟩
  ·rw [A5 _ _ e] at h ⊢;exact Vn h
theorem aN {env:Env} {x:Operand} {d:D} (h:CV (Ml env) x=some d):CV env x=some d\/∃c w,CV env x=some (.guard c w d):=by
 cases x with
 | tmp t=>exact Vn h
 | _=>exact .inl h
theorem TC {cx:Prop} {env:Env}:∀{l:List Operand},AA (Y2 cx env l)->∀x∈l,∀c w d,CV env x=some (.guard c w d)->cx->c=w
 | [],_,x,h=>by cases h
 | y::r,h,x,hx=>by
  simp only [Y2] at h;intro c w d hd hc;rcases List.mem_cons.1 hx with rfl | hx
  ·simp only [hd] at h;exact h.1 hc
  ·refine TC (l:=r) ?_ x hx c w d hd hc
   split at h
   ·exact h.2
   ·exact h
structure PGe where
 g:Option (Bool×Bool)
 op:Op
 dst:Option Nat
 todo:List DI
def qR (n:Nat) (env:Env) (todo:List DI):Option PGe :=
 match Bg todo ([],[]) with
 | some (all,o,todo')=>match Ca all env o,BH n o.dst with
  | some g,true=>some ⟨g,o.op,o.dst,todo'⟩
  | _,_=>none
 | none=>none
section
variable {P:Program} {n:Nat} {F:List Nat} {Q:DQ} {tt:TT} {env env':Env} {st st':St} {ids ids':List Nat} {todo:List DI} {d:D} {ob:List Prop}
theorem oX (htt:TTok P tt) {c:PGe} (h:qR n env todo=some c) (hnd:∀x,c.op ≠ .defer x) (he:∀st',G7 tt (Ap c.g) (Ml env) st' c.op = .p d ob) (hob:Ap c.g->AA ob) (hg:AA (Y2 (Ap c.g) env c.op.operands.toList))
  (hk:G P n F Q c.todo (B9 c.dst (gD c.g d) env) st ids):G P n F Q todo env st ids:=by
 unfold qR at h
 split at h
 ·rename_i all o todo' h1
  split at h
  ·rename_i g hgd hd;cases h;simp only at he hob hg hk hnd;refine B6 (fr:=[]) (wr:=[]) (rd:=[]) h1 (C9 hgd λI μ st1 ids1 a w hag hst hops hcx=>?_) hd hnd hk;have hops':Dh I μ (Ml env) a o.op:=λx hx d hd=>by
    rcases aN hd with h | ⟨c,w,h⟩
    ·exact hops x hx d h
    ·exact (hops x hx _ h).guardInv (TC hg x hx c w d h hcx)
   have:=YB (st:=st1) (ids:=ids1) (w:=w) htt hst hops' hcx (by rw [he st1];rfl) (hob hcx);exact (valR.x this).mono (λv w' ⟨I',q1,q2,q3⟩=>⟨I',μ,q1,q2,Mu.le_refl μ,q3⟩) (λ_ _ h=>h)
  ·cases h
 ·cases h
end
end Go.Hk
