/- What is known of a value: minds; what is asked of them, as a specification. (And what it stands on.) -/
import Derived.Test.YtondpmificgknaaGreatWc
import Derived.Laws.MakeOwn
import Derived.Test.YtondpmificgknaaGreatWb
set_option linter.unusedSimpArgs false
set_option linter.unusedVariables false

set_option maxRecDepth 100000
namespace Go.Hk
open Go.Proofs
mutual
def HU:Tm->Bool
 | .mk op n x ks ps=>Rw op n x ks.length ps&&Gs ks
def Gs:List Tm->Bool
 | []=>true
 | t::r=>HU t&&Gs r
end
theorem Ki:∀(t:Tm),HU t=true->Bb Tryz.prog 224 [.imm (.agg (Cv t))] [] (.ret GE [])
 | .mk op n x ks ps,hy=>by
  refine DM 0 rfl λhok=>?_;have hv:ks.length<=9223372036854775807:=by
   simp [BX,Eh,Cv,maxLen] at hok;have:=hok.1;omega
  simp only [HU,Bool.and_eq_true_iff] at hy;refine Ae Gb Tryz.func224 (by decide +kernel) rfl [1,2,3] rfl rfl ?_;refine sg [] rfl (by simp) ?_;refine Az (fr:=[]) [] [] rfl (by simp) (QS op n x ks ps hy.1) trivial rfl rfl rfl rfl ?_;refine sg [] rfl (by simp) ?_;refine Aj (λi:Nat=>[(9,.imm (.int .i64 i)),(8,.imm (.int .i64 ks.length)),(7,.imm (.sl (K2 ks))),(1,.ref 1 0)]) (λ_=>[(1,some (.immb 186 5 (Cv (.mk op n x ks ps))))]) [2,3] (λi=>ks.length-i)
   (λi=>i<=ks.length/\Gs (ks.drop i)=true) 0 ⟨Nat.zero_le _,hy.2⟩ ⟨rfl,At (by simp),rfl,rfl,trivial⟩ ⟨rfl,trivial⟩ rfl λi hi ih=>?_
  refine sd [] rfl (by simp) ?_;have hi2:=hi.2;refine Aa rfl (λh=>?_) (λh=>?_)
  ·simp at h;obtain ⟨t,ht⟩:=Am h;rw [Ap ht] at hi2;simp only [Gs,Bool.and_eq_true_iff] at hi2;refine sd [] rfl (by simp) ?_;refine si rfl (c:=Cv t) (λ_=>⟨by simp,by simpa using HD ht,by simp⟩) (by simp) ?_;refine sg [] rfl (by simp) ?_
   ·refine Az (fr:=[]) [] [] rfl (by simp) (Ki t hi2.1) trivial rfl rfl rfl rfl ?_;refine sg [] rfl (by simp) ?_;exact Ad (ih (i+1) (by omega) ⟨by omega,hi2.2⟩) ⟨At (Bv (by omega) (by omega)),rfl,rfl,rfl,trivial⟩ ⟨rfl,trivial⟩ rfl
  ·refine sd [] rfl (by simp) ?_;exact Ce ⟨_,rfl,rfl,trivial⟩
termination_by t=>SizeOf.sizeOf t
decreasing_by
 all_goals
  have:=List.sizeOf_lt_of_mem (List.mem_of_getElem? ht);simp_wf;omega
theorem QR:∀(t:Tm),HU t=false->Bb Tryz.prog 224 [.imm (.agg (Cv t))] [] (.pan EF)
 | .mk op n x ks ps,hy=>by
  refine DM 0 rfl λhok=>?_;have hv:ks.length<=9223372036854775807:=by
   simp [BX,Eh,Cv,maxLen] at hok;have:=hok.1;omega
  simp only [HU,Bool.and_eq_false_iff] at hy;refine Ae Gb Tryz.func224 (by decide +kernel) rfl [1,2,3] rfl rfl ?_;refine sg [] rfl (by simp) ?_;by_cases hn:Rw op n x ks.length ps=true
  rotate_left
  ·exact Ay [] rfl (by simp) (ZI op n x ks ps (by simpa using hn)) trivial rfl rfl
  rw [hn] at hy;simp only [Bool.true_eq_false,false_or] at hy;refine Az (fr:=[]) [] [] rfl (by simp) (QS op n x ks ps hn) trivial rfl rfl rfl rfl ?_;refine sg [] rfl (by simp) ?_;refine Aj (λi:Nat=>[(9,.imm (.int .i64 i)),(8,.imm (.int .i64 ks.length)),(7,.imm (.sl (K2 ks))),(1,.ref 1 0)]) (λ_=>[(1,some (.immb 186 5 (Cv (.mk op n x ks ps))))]) [2,3] (λi=>ks.length-i)
   (λi=>i<=ks.length/\Gs (ks.drop i)=false) 0 ⟨Nat.zero_le _,hy⟩ ⟨rfl,At (by simp),rfl,rfl,trivial⟩ ⟨rfl,trivial⟩ rfl λi hi ih=>?_
  refine sd [] rfl (by simp) ?_;have hi2:=hi.2;refine Aa rfl (λh=>?_) (λh=>?_)
  ·simp at h;obtain ⟨t,ht⟩:=Am h;rw [Ap ht] at hi2;simp only [Gs,Bool.and_eq_false_iff] at hi2;refine sd [] rfl (by simp) ?_;refine si rfl (c:=Cv t) (λ_=>⟨by simp,by simpa using HD ht,by simp⟩) (by simp) ?_;refine sg [] rfl (by simp) ?_;by_cases hz:HU t=true
   ·refine Az (fr:=[]) [] [] rfl (by simp) (Ki t hz) trivial rfl rfl rfl rfl ?_;refine sg [] rfl (by simp) ?_;exact Ad (ih (i+1) (by omega) ⟨by omega,by rw [hz] at hi2;simpa using hi2⟩) ⟨At (Bv (by omega) (by omega)),rfl,rfl,rfl,trivial⟩ ⟨rfl,trivial⟩ rfl
   ·exact Ay [] rfl (by simp) (QR t (by simpa using hz)) trivial rfl rfl
  ·exfalso;simp at h;rw [List.drop_eq_nil_of_le (by omega)] at hi2;simp [Gs] at hi2
termination_by t=>SizeOf.sizeOf t
decreasing_by
 all_goals
  have:=List.sizeOf_lt_of_mem (List.mem_of_getElem? ht);simp_wf;omega
def K4 (t:Tm):Bool:=decide (0<=By t 60 14)&&HU t
theorem W9 (t:Tm) (h:K4 t=true):Bb Tryz.prog 222 [.ref 1 0] [(1,some (.immb 186 5 (Cv t)))] (.ret GE [(1,some (.immb 186 5 (Cv t)))]):=by
 simp only [K4,Bool.and_eq_true,decide_eq_true_eq] at h;refine Ae Gb Tryz.func222 (by decide +kernel) rfl [2,3,4] rfl rfl ?_;refine sg [] rfl (by simp) ?_;refine Az (fr:=[]) [(2,1)] [] rfl (by simp) (J9 t 60 14 1 (by decide) (by decide) (by decide) (by decide) (by decide) (by decide) h.1) ⟨⟨rfl,rfl,rfl⟩,trivial⟩ rfl rfl rfl rfl ?_;refine sg [] rfl (by simp) ?_;refine Az (fr:=[]) [] [] rfl (by simp) (Ki t h.2) trivial rfl rfl rfl rfl ?_;refine sg [] rfl (by simp) ?_;exact Ce ⟨_,rfl,rfl,⟨rfl,trivial⟩⟩
theorem Zn (t:Tm) (h:K4 t=false):Bb Tryz.prog 222 [.ref 1 0] [(1,some (.immb 186 5 (Cv t)))] (.pan EF):=by
 refine Ae Gb Tryz.func222 (by decide +kernel) rfl [2,3,4] rfl rfl ?_;refine sg [] rfl (by simp) ?_;by_cases h1:0<=By t 60 14
 ·refine Az (fr:=[]) [(2,1)] [] rfl (by simp) (J9 t 60 14 1 (by decide) (by decide) (by decide) (by decide) (by decide) (by decide) h1) ⟨⟨rfl,rfl,rfl⟩,trivial⟩ rfl rfl rfl rfl ?_;refine sg [] rfl (by simp) ?_;exact Ay [] rfl (by simp) (QR t (by simpa [K4,h1] using h)) trivial rfl rfl
 ·exact Ay [(2,1)] rfl (by simp) (Uu t 60 14 1 (by decide) (by decide) (by decide) (by decide) (by decide) (by decide) (by show By t 60 14<0;omega)) ⟨⟨rfl,rfl,rfl⟩,trivial⟩ rfl rfl
theorem dS (t:Tm):Ak Tryz.prog 213 [.agg (Cv t)] (Jc (K4 t)):=by
 refine Ae Gb Tryz.func213 (by decide +kernel) rfl [1,2,3] rfl rfl ?_;refine sg [] rfl (by simp) ?_;cases h:K4 t with
 | true =>
  refine Az (fr:=[]) [(1,1)] [] rfl (by simp) (L6 Tryz.func222 (by decide +kernel) rfl (W9 t h)) ⟨⟨rfl,rfl,rfl⟩,trivial⟩ rfl rfl rfl rfl ?_;refine sg [] rfl (by simp) ?_;exact Ab ⟨_,rfl,tV rfl,trivial⟩
 | false =>
  refine Az (fr:=[]) [(1,1)] [] rfl (by simp) (N6 Tryz.func222 (by decide +kernel) rfl (Zn t h)) ⟨⟨rfl,rfl,rfl⟩,trivial⟩ rfl rfl rfl rfl ?_;refine sg [] rfl (by simp) ?_;exact Ab ⟨_,rfl,tV rfl,trivial⟩
def jK:TT:=iC++[
 (262,⟨.iface,false,1,16,[.imm .niliface]⟩),
 (255,⟨.sl 262,false,1,24,[.nils]⟩),
 (257,⟨.struct [(0,87)],true,2,40,[.imm (.str []),.nils]⟩),
 (259,⟨.struct [(0,188)],true,15,224,[.imm (.str []),.imm (.str []),.imm (.int .i64 0),.imm (.int .i64 0),.imm (.str []),.nils,.imm (.int .i64 0),.imm (.int .i64 0),.imm (.str []),.nils,.imm (.int .i64 0),.imm (.int .i64 0),.imm (.str []),.nils,.nils]⟩),
 (114,⟨.func,false,1,8,[.imm .nilfn]⟩),
 (278,⟨.func,false,1,8,[.imm .nilfn]⟩),
 (263,⟨.func,false,1,8,[.imm .nilfn]⟩)]
theorem BS:TTok Tryz.prog jK:=.of_eq (l:=[4,3,9,186,26,62,183,27,5,24,23,193,184,60,188,192,90,22,190,87,85,36,281,227,1,230,291,262,255,257,259,114,278,263]) (by kernel_rfl)
section
variable {n:Nat} {F:List Nat} {Q:DQ} {env env':Env} {st st':St} {ids ids':List Nat} {k todo:List DI} {ob:List Prop}
theorem ad (path:List Pt) (h:run jK n 300 path todo env st ids [] = .at k env' st' ids' ob) (hob:A7 ob) (hd:G Tryz.prog n F Q k env' st' ids'):DGo Tryz.prog n F Q todo env st ids:=Kb BS Eb 300 path h hob hd
theorem ag (path:List Pt) (h:run jK n 300 path todo env st ids [] = .at k env' st' ids' ob) (hob:A7 ob) (hd:G Tryz.prog n F Q k env' st' ids'):G Tryz.prog n F Q todo env st ids:=IZ BS Eb 300 path h hob hd
theorem ai {es:List (List V)} {m:Int} {sz:Nat} {e:TypeId} {g:Option (Bool×Bool)} {ob:List Prop} {t:Nat} {todo':List DI} {c:List V} (h:NG jK n env todo=some ⟨es,m,sz,e,g,ob,some t,todo'⟩)
  (hc:Ag g->0<=m/\es[m.toNat]?=some c/\c.length=sz) (hob:A7 ob) (hk:G Tryz.prog n F Q todo' ((t,gD g (.ip e c 0))::env) st ids):G Tryz.prog n F Q todo env st ids:=Fr BS h hc hob hk
end
def Ef {α:Type} (q:α->Bool):List α->Nat->Int
 | [],_=>-1
 | e::r,i=>if q e then (i:Int) else Ef q r (i+1)
theorem H7 {α:Type} (q:α->Bool):∀(es:List α) (i:Nat),0<=Ef q es i↔es.any q=true
 | [],i=>by simp [Ef]
 | e::r,i=>by
  have ih:=H7 q r (i+1);by_cases h:q e=true
  ·simp [Ef,h]
  ·simp only [Ef,h,List.any_cons];simpa using ih
theorem iW (g:FuncId) (tf:TypeId) (fv:V) (q:List V->Bool) (es:List (List V)) (hes:∀e∈es,e.length=4) (hlen:es.length<=9223372036854775806)
  (hq:∀e∈es,Bb Tryz.prog g [.imm (.agg e),.ref 1 0] [(1,some (.immb tf 1 [fv]))] (.ret (.imm (.bool (q e))) [(1,some (.immb tf 1 [fv]))])) :
  Bb Tryz.prog 185 [.imm (.sl es),.fn (.func g) [] [.ref 1 0]] [(1,some (.immb tf 1 [fv]))] (.ret (.imm (.int .i64 (Ef q es 0))) [(1,some (.immb tf 1 [fv]))]):=by
 refine Ae BS Tryz.func185 (by decide +kernel) rfl [2,3,4] rfl rfl ?_;refine ag [] rfl (by simp) ?_;refine Aj (λi:Nat=>[(8,.imm (.int .i64 i)),(7,.imm (.int .i64 es.length)),(0,.imm (.sl es)),(1,.fn (.func g) [] [.ref 1 0])]) (λ_=>[(1,some (.immb tf 1 [fv]))]) [2,3,4] (λi=>es.length-i)
  (λi=>i<=es.length/\Ef q es 0=Ef q (es.drop i) i) 0 ⟨Nat.zero_le _,rfl⟩ ⟨rfl,At (by simp),rfl,rfl,trivial⟩ ⟨rfl,trivial⟩ rfl λi hi ih=>?_
 refine ad [] rfl (by simp) ?_;have hi2:=hi.2;refine Aa rfl (λh=>?_) (λh=>?_)
 ·simp at h;obtain ⟨e,he⟩:=Am h;have hm:=List.mem_of_getElem? he;rw [Ap he] at hi2;refine ad [] rfl (by simp) ?_;refine ai rfl (c:=e) (λ_=>⟨by simp,by simpa using he,hes e hm⟩) (by simp) ?_;refine ag [] rfl (by simp [hes e hm]) ?_;refine Az (fr:=[]) [(1,1)] [] rfl (by simp) (hq e hm) ⟨⟨rfl,rfl,rfl⟩,trivial⟩ rfl rfl rfl rfl ?_;refine ag [] rfl (by simp) ?_;refine Aa rfl (λh=>?_) (λh=>?_)
  ·refine ad [] rfl (by simp) ?_;exact Ab ⟨_,rfl,tV (congrArg _ (by rw [hi2];simp [Ef,h])),⟨rfl,trivial⟩⟩
  ·refine ad [] rfl (by simp) ?_;exact Ad (ih (i+1) (by omega) ⟨by omega,by rw [hi2];simp [Ef,h]⟩) ⟨At (Bv (by omega) (by omega)),rfl,rfl,rfl,trivial⟩ ⟨rfl,trivial⟩ rfl
 ·refine ad [] rfl (by simp) ?_;simp at h;refine Ab ⟨_,rfl,tV (congrArg _ ?_),⟨rfl,trivial⟩⟩;rw [hi2,List.drop_eq_nil_of_le (by omega)];rfl
theorem Zh (g:FuncId) (tf:TypeId) (fv:V) (q:List V->Bool) (es:List (List V)) (hes:∀e∈es,e.length=4) (hlen:es.length<=9223372036854775806)
  (hq:∀e∈es,Bb Tryz.prog g [.imm (.agg e),.ref 1 0] [(1,some (.immb tf 1 [fv]))] (.ret (.imm (.bool (q e))) [(1,some (.immb tf 1 [fv]))])) :
  Bb Tryz.prog 142 [.imm (.sl es),.fn (.func g) [] [.ref 1 0]] [(1,some (.immb tf 1 [fv]))] (.ret (.imm (.bool (es.any q))) [(1,some (.immb tf 1 [fv]))]):=by
 refine Ae BS Tryz.func142 (by decide +kernel) rfl [2,3,4] rfl rfl ?_;refine ag [] rfl (by simp) ?_;refine Az (fr:=[]) [(1,1)] [] rfl (by simp) (iW g tf fv q es hes hlen hq) ⟨⟨rfl,rfl,rfl⟩,trivial⟩ rfl rfl rfl rfl ?_;refine ag [] rfl (by simp) ?_;refine Ab ⟨_,rfl,tV (congrArg _ ?_),⟨rfl,trivial⟩⟩;rw [Bool.eq_iff_iff,<- H7 q es 0];simp
theorem kN (g:FuncId) (e:List V) (hel:e.length=4) (b:Bool) (hq:Ak Tryz.prog g [.agg e] (.bool b)) :
  Bb Tryz.prog 221 [.imm (.agg e),.ref 1 0] [(1,some (.immb 114 1 [.fn (.func g)]))] (.ret (.imm (.bool (!b))) [(1,some (.immb 114 1 [.fn (.func g)]))]):=by
 refine Ae BS Tryz.func221 (by decide +kernel) rfl [2,3,4] rfl rfl ?_;refine ag [] rfl (by simp [hel]) ?_;refine Az (fr:=[]) [] [] rfl (by simp) hq trivial rfl rfl rfl rfl ?_;refine ag [] rfl (by simp) ?_;exact Ab ⟨_,rfl,tV rfl,⟨rfl,trivial⟩⟩
theorem allT (g:FuncId) (q:List V->Bool) (es:List (List V)) (hes:∀e∈es,e.length=4) (hlen:es.length<=9223372036854775806) (hq:∀e∈es,Ak Tryz.prog g [.agg e] (.bool (q e))) :
  Ak Tryz.prog 211 [.sl es,.fn (.func g)] (.bool (es.all q)):=by
 refine Ae BS Tryz.func211 (by decide +kernel) rfl [1,2,3] rfl rfl ?_;refine ag [] rfl (by simp) ?_;refine Az (fr:=[]) [(1,1)] [] rfl (by simp) (Zh 221 114 (.fn (.func g)) (λe=>!q e) es hes hlen (λe he=>kN g e (hes e he) (q e) (hq e he))) ⟨⟨rfl,rfl,rfl⟩,trivial⟩ rfl rfl rfl rfl ?_;refine ag [] rfl (by simp) ?_;refine Ab ⟨_,rfl,tV (congrArg _ ?_),trivial⟩;rw [List.any_eq_not_all_not];simp
theorem iY (g:FuncId) (tf:TypeId) (fv:V) (q:List V->Bool) (es:List (List V)) (hes:∀e∈es,e.length=2) (hlen:es.length<=9223372036854775806)
  (hq:∀e∈es,Bb Tryz.prog g [.imm (.agg e),.ref 1 0] [(1,some (.immb tf 1 [fv]))] (.ret (.imm (.bool (q e))) [(1,some (.immb tf 1 [fv]))])) :
  Bb Tryz.prog 226 [.imm (.sl es),.fn (.func g) [] [.ref 1 0]] [(1,some (.immb tf 1 [fv]))] (.ret (.imm (.int .i64 (Ef q es 0))) [(1,some (.immb tf 1 [fv]))]):=by
 refine Ae BS Tryz.func226 (by decide +kernel) rfl [2,3,4] rfl rfl ?_;refine ag [] rfl (by simp) ?_;refine Aj (λi:Nat=>[(8,.imm (.int .i64 i)),(7,.imm (.int .i64 es.length)),(0,.imm (.sl es)),(1,.fn (.func g) [] [.ref 1 0])]) (λ_=>[(1,some (.immb tf 1 [fv]))]) [2,3,4] (λi=>es.length-i)
  (λi=>i<=es.length/\Ef q es 0=Ef q (es.drop i) i) 0 ⟨Nat.zero_le _,rfl⟩ ⟨rfl,At (by simp),rfl,rfl,trivial⟩ ⟨rfl,trivial⟩ rfl λi hi ih=>?_
 refine ad [] rfl (by simp) ?_;have hi2:=hi.2;refine Aa rfl (λh=>?_) (λh=>?_)
 ·simp at h;obtain ⟨e,he⟩:=Am h;have hm:=List.mem_of_getElem? he;rw [Ap he] at hi2;refine ad [] rfl (by simp) ?_;refine ai rfl (c:=e) (λ_=>⟨by simp,by simpa using he,hes e hm⟩) (by simp) ?_;refine ag [] rfl (by simp [hes e hm]) ?_;refine Az (fr:=[]) [(1,1)] [] rfl (by simp) (hq e hm) ⟨⟨rfl,rfl,rfl⟩,trivial⟩ rfl rfl rfl rfl ?_;refine ag [] rfl (by simp) ?_;refine Aa rfl (λh=>?_) (λh=>?_)
  ·refine ad [] rfl (by simp) ?_;exact Ab ⟨_,rfl,tV (congrArg _ (by rw [hi2];simp [Ef,h])),⟨rfl,trivial⟩⟩
  ·refine ad [] rfl (by simp) ?_;exact Ad (ih (i+1) (by omega) ⟨by omega,by rw [hi2];simp [Ef,h]⟩) ⟨At (Bv (by omega) (by omega)),rfl,rfl,rfl,trivial⟩ ⟨rfl,trivial⟩ rfl
 ·refine ad [] rfl (by simp) ?_;simp at h;refine Ab ⟨_,rfl,tV (congrArg _ ?_),⟨rfl,trivial⟩⟩;rw [hi2,List.drop_eq_nil_of_le (by omega)];rfl
theorem Zj (g:FuncId) (tf:TypeId) (fv:V) (q:List V->Bool) (es:List (List V)) (hes:∀e∈es,e.length=2) (hlen:es.length<=9223372036854775806)
  (hq:∀e∈es,Bb Tryz.prog g [.imm (.agg e),.ref 1 0] [(1,some (.immb tf 1 [fv]))] (.ret (.imm (.bool (q e))) [(1,some (.immb tf 1 [fv]))])) :
  Bb Tryz.prog 219 [.imm (.sl es),.fn (.func g) [] [.ref 1 0]] [(1,some (.immb tf 1 [fv]))] (.ret (.imm (.bool (es.any q))) [(1,some (.immb tf 1 [fv]))]):=by
 refine Ae BS Tryz.func219 (by decide +kernel) rfl [2,3,4] rfl rfl ?_;refine ag [] rfl (by simp) ?_;refine Az (fr:=[]) [(1,1)] [] rfl (by simp) (iY g tf fv q es hes hlen hq) ⟨⟨rfl,rfl,rfl⟩,trivial⟩ rfl rfl rfl rfl ?_;refine ag [] rfl (by simp) ?_;refine Ab ⟨_,rfl,tV (congrArg _ ?_),⟨rfl,trivial⟩⟩;rw [Bool.eq_iff_iff,<- H7 q es 0];simp
theorem kP (g:FuncId) (e:List V) (hel:e.length=2) (b:Bool) (hq:Ak Tryz.prog g [.agg e] (.bool b)) :
  Bb Tryz.prog 220 [.imm (.agg e),.ref 1 0] [(1,some (.immb 278 1 [.fn (.func g)]))] (.ret (.imm (.bool (!b))) [(1,some (.immb 278 1 [.fn (.func g)]))]):=by
 refine Ae BS Tryz.func220 (by decide +kernel) rfl [2,3,4] rfl rfl ?_;refine ag [] rfl (by simp [hel]) ?_;refine Az (fr:=[]) [] [] rfl (by simp) hq trivial rfl rfl rfl rfl ?_;refine ag [] rfl (by simp) ?_;exact Ab ⟨_,rfl,tV rfl,⟨rfl,trivial⟩⟩
theorem allC (g:FuncId) (q:List V->Bool) (es:List (List V)) (hes:∀e∈es,e.length=2) (hlen:es.length<=9223372036854775806) (hq:∀e∈es,Ak Tryz.prog g [.agg e] (.bool (q e))) :
  Ak Tryz.prog 209 [.sl es,.fn (.func g)] (.bool (es.all q)):=by
 refine Ae BS Tryz.func209 (by decide +kernel) rfl [1,2,3] rfl rfl ?_;refine ag [] rfl (by simp) ?_;refine Az (fr:=[]) [(1,1)] [] rfl (by simp) (Zj 220 278 (.fn (.func g)) (λe=>!q e) es hes hlen (λe he=>kP g e (hes e he) (q e) (hq e he))) ⟨⟨rfl,rfl,rfl⟩,trivial⟩ rfl rfl rfl rfl ?_;refine ag [] rfl (by simp) ?_;refine Ab ⟨_,rfl,tV (congrArg _ ?_),trivial⟩;rw [List.any_eq_not_all_not];simp
theorem iX (g:FuncId) (tf:TypeId) (fv:V) (q:V->Bool) (es:List V) (hlen:es.length<=9223372036854775806)
  (hq:∀e∈es,Bb Tryz.prog g [.imm e,.ref 1 0] [(1,some (.immb tf 1 [fv]))] (.ret (.imm (.bool (q e))) [(1,some (.immb tf 1 [fv]))])) :
  Bb Tryz.prog 218 [.imm (.sl (es.map λx=>[x])),.fn (.func g) [] [.ref 1 0]] [(1,some (.immb tf 1 [fv]))] (.ret (.imm (.int .i64 (Ef q es 0))) [(1,some (.immb tf 1 [fv]))]):=by
 refine Ae BS Tryz.func218 (by decide +kernel) rfl [2,3,4] rfl rfl ?_;refine ag [] rfl (by simp) ?_;refine Aj (λi:Nat=>[(8,.imm (.int .i64 i)),(7,.imm (.int .i64 es.length)),(0,.imm (.sl (es.map λx=>[x]))),(1,.fn (.func g) [] [.ref 1 0])]) (λ_=>[(1,some (.immb tf 1 [fv]))]) [2,3,4] (λi=>es.length-i)
  (λi=>i<=es.length/\Ef q es 0=Ef q (es.drop i) i) 0 ⟨Nat.zero_le _,rfl⟩ ⟨rfl,At (by simp),rfl,rfl,trivial⟩ ⟨rfl,trivial⟩ rfl λi hi ih=>?_
 refine ad [] rfl (by simp) ?_;have hi2:=hi.2;refine Aa rfl (λh=>?_) (λh=>?_)
 ·simp at h;obtain ⟨e,he⟩:=Am h;have hm:=List.mem_of_getElem? he;rw [Ap he] at hi2;refine ad [] rfl (by simp) ?_;refine ai rfl (c:=[e]) (λ_=>⟨by simp,by simp [he],rfl⟩) (by simp) ?_;refine ag [] rfl (by simp) ?_;refine Az (fr:=[]) [(1,1)] [] rfl (by simp) (hq e hm) ⟨⟨rfl,rfl,rfl⟩,trivial⟩ rfl rfl rfl rfl ?_;refine ag [] rfl (by simp) ?_;refine Aa rfl (λh=>?_) (λh=>?_)
  ·refine ad [] rfl (by simp) ?_;exact Ab ⟨_,rfl,tV (congrArg _ (by rw [hi2];simp [Ef,h])),⟨rfl,trivial⟩⟩
  ·refine ad [] rfl (by simp) ?_;exact Ad (ih (i+1) (by omega) ⟨by omega,by rw [hi2];simp [Ef,h]⟩) ⟨At (Bv (by omega) (by omega)),rfl,rfl,rfl,trivial⟩ ⟨rfl,trivial⟩ rfl
 ·refine ad [] rfl (by simp) ?_;simp at h;refine Ab ⟨_,rfl,tV (congrArg _ ?_),⟨rfl,trivial⟩⟩;rw [hi2,List.drop_eq_nil_of_le (by omega)];rfl
theorem Zi (g:FuncId) (tf:TypeId) (fv:V) (q:V->Bool) (es:List V) (hlen:es.length<=9223372036854775806)
  (hq:∀e∈es,Bb Tryz.prog g [.imm e,.ref 1 0] [(1,some (.immb tf 1 [fv]))] (.ret (.imm (.bool (q e))) [(1,some (.immb tf 1 [fv]))])) :
  Bb Tryz.prog 207 [.imm (.sl (es.map λx=>[x])),.fn (.func g) [] [.ref 1 0]] [(1,some (.immb tf 1 [fv]))] (.ret (.imm (.bool (es.any q))) [(1,some (.immb tf 1 [fv]))]):=by
 refine Ae BS Tryz.func207 (by decide +kernel) rfl [2,3,4] rfl rfl ?_;refine ag [] rfl (by simp) ?_;refine Az (fr:=[]) [(1,1)] [] rfl (by simp) (iX g tf fv q es hlen hq) ⟨⟨rfl,rfl,rfl⟩,trivial⟩ rfl rfl rfl rfl ?_;refine ag [] rfl (by simp) ?_;refine Ab ⟨_,rfl,tV (congrArg _ ?_),⟨rfl,trivial⟩⟩;rw [Bool.eq_iff_iff,<- H7 q es 0];simp
theorem kO (g:FuncId) (e:V) (b:Bool) (hq:Ak Tryz.prog g [e] (.bool b)) :
  Bb Tryz.prog 208 [.imm e,.ref 1 0] [(1,some (.immb 263 1 [.fn (.func g)]))] (.ret (.imm (.bool (!b))) [(1,some (.immb 263 1 [.fn (.func g)]))]):=by
 refine Ae BS Tryz.func208 (by decide +kernel) rfl [2,3,4] rfl rfl ?_;refine ag [] rfl (by simp) ?_;refine Az (fr:=[]) [] [] rfl (by simp) hq trivial rfl rfl rfl rfl ?_;refine ag [] rfl (by simp) ?_;exact Ab ⟨_,rfl,tV rfl,⟨rfl,trivial⟩⟩
theorem allI (g:FuncId) (q:V->Bool) (es:List V) (hlen:es.length<=9223372036854775806) (hq:∀e∈es,Ak Tryz.prog g [e] (.bool (q e))) :
  Ak Tryz.prog 183 [.sl (es.map λx=>[x]),.fn (.func g)] (.bool (es.all q)):=by
 refine Ae BS Tryz.func183 (by decide +kernel) rfl [1,2,3] rfl rfl ?_;refine ag [] rfl (by simp) ?_;refine Az (fr:=[]) [(1,1)] [] rfl (by simp) (Zi 208 263 (.fn (.func g)) (λe=>!q e) es hlen (λe he=>kO g e (q e) (hq e he))) ⟨⟨rfl,rfl,rfl⟩,trivial⟩ rfl rfl rfl rfl ?_;refine ag [] rfl (by simp) ?_;refine Ab ⟨_,rfl,tV (congrArg _ ?_),trivial⟩;rw [List.any_eq_not_all_not];simp
end Go.Hk
namespace Go.Hk
def PR:Sh->Bool
 | .iface | .other=>false
 | _=>true
structure PTa where
 t:TypeId
 v:V
 to_:TypeId
 dst:Option Nat
 todo:List DI
def pta (tt:TT) (n:Nat) (env:Env) (todo:List DI):Option PTa :=
 match Qx todo with
 | some o=>match o.guard,o.op with
  | none,.typeAssert x _ to_ true=>match C9 env x,lk tt to_,Bw n o.dst,AR todo ([],[]) with
   | some (.imm (.iface t v)),some i,true,some (_,_,todo')=>match PR i.sh with
    | true=>some ⟨t,v,to_,o.dst,todo'⟩
    | false=>none
   | _,_,_,_=>none
  | _,_=>none
 | none=>none
section
variable {P:Program} {n:Nat} {F:List Nat} {Q:DQ} {tt:TT} {env env':Env} {st st':St} {ids ids':List Nat} {k todo todo':List DI} {I:Imm} {μ:Mu} {w:World} {a:Act} {Pn:V->Prop} {d:D} {cx:Prop} {ob:List Prop}
theorem MN {t to_ from_:TypeId} {i:TyI} {v:Value} (hi:TyOk P to_ i) (hc:PR i.sh=true) {r:Value} (h:(t=to_/\r = .tuple #[v,.bool true])\/(t≠to_/\∃z,(P.info? to_).bind (·.zero)=some z/\r = .tuple #[z,.bool false])) :
  (Instr.typeAssert (.iface t v) from_ to_ true).run P w = .ok r w:=by
 have hu:∃dd,P.underlying to_=some dd/\∀ms,dd ≠ .interface ms:=by
  have:=hi.sh;generalize i.sh=sh at this hc;cases sh <;> simp only [PR,Bool.false_eq_true] at hc <;> simp only [NP] at this
  case struct fs=>obtain ⟨f,h1,_⟩:=this;exact ⟨_,h1,λ_ h=>by cases h⟩
  case func=>obtain ⟨a,b,c,h1⟩:=this;exact ⟨_,h1,λ_ h=>by cases h⟩
  all_goals exact ⟨_,this,λ_ h=>by cases h⟩
 obtain ⟨dd,hd,hne⟩:=hu;rcases h with ⟨rfl,rfl⟩ | ⟨hn,z,hz,rfl⟩
 ·cases dd <;> first | exact absurd rfl (hne _) | simp [Instr.typeAssert,run_underlying hd]
 ·have hz:=EO (w:=w) hz;cases dd <;> first | exact absurd rfl (hne _) | simp [Instr.typeAssert,run_underlying hd,hn,hz]
theorem H9 (htt:TTok P tt) {t0 to_:TypeId} {v0:V} {d0:Option Nat} {todo0:List DI} (h:pta tt n env todo=some ⟨t0,v0,to_,d0,todo0⟩) {r:List V}
  (hr:(t0=to_/\r=[v0,.bool true])\/(t0≠to_/\∃z zd,(P.info? to_).bind (·.zero)=some z/\(∀I,RepV I z zd)/\r=[zd,.bool false]))
  (hk:G P n F Q todo0 (Bt d0 (.imm (.tup r)) env) st ids):G P n F Q todo env st ids:=by
 unfold pta at h
 split at h
 ·rename_i o ho
  split at h
  ·rename_i x from_ to' hg hop
   split at h
   ·rename_i t v i all o' todo' hx hi hd h1
    split at h
    ·rename_i hc;cases h;have ho':o'=o:=Dx ho h1;subst ho';refine Bm (fr:=[]) (wr:=[]) (rd:=[]) h1 ?_ hd (λc hc=>by rw [hop] at hc;cases hc) hk;intro I μ st1 ids1 a w hag hst hon;refine ⟨λ_=>?_,λhw=>by rw [A4 hg] at hw;cases hw⟩;have hops:=AN hon;rw [hop] at hops;have rx:=(hops x (by simp [Op.operands]) _ hx).immInv;generalize hv:a.eval x=v at rx;cases rx with
     | iface _ u _ hu =>
      have fin:∀(z:Value) (b:Bool) (zd:V),(Instr.typeAssert (.iface t0 u) from_ to_ true).run P w = .ok (.tuple #[z,.bool b]) w->RepV I z zd->r=[zd,.bool b] ->
        valX P ((execOp a.eval o').run P w) (λv w'=>∃I' μ',StRep I' μ' ([]++st1) ids1 w'/\RepD I' μ' v (.imm (.tup r))/\μ.le μ'/\Ext I μ st1 w I' μ' ([]++st1) w') (IG (KZ Q) I μ st1 w):=by
       intro z b zd h1 h2 h3;have hrun:(execOp a.eval o').run P w = .ok (.value (.tuple #[z,.bool b])) w:=by
        simp only [execOp,hop,hv];exact Aw h1
       rw [hrun,h3];refine ⟨I,μ,hst,.imm _ _ (.tup _ _ rfl λi c x hc hx=>?_),Mu.le_refl μ,Ext.refl _ _ _ _⟩
       match i,hc,hx with
       | 0,hc,hx=>cases hc;cases hx;exact h2
       | 1,hc,hx=>cases hc;cases hx;exact .bool _
       | i+2,hc,hx=>simp at hx
      rcases hr with ⟨e1,e2⟩ | ⟨e1,z,zd,e2,e3,e4⟩
      ·exact fin u true v0 (MN (htt _ _ hi) hc (.inl ⟨e1,rfl⟩)) hu e2
      ·exact fin z false zd (MN (htt _ _ hi) hc (.inr ⟨e1,z,e2,rfl⟩)) (e3 I) e4
    ·cases h
   ·cases h
  ·cases h
 ·cases h
end
end Go.Hk
namespace Go.Hk
open Go.Proofs
mutual
theorem GA:∀{a b:Ty},Al a=Al b->a=b
 | .mk s n x ps,.mk s' n' x' ps',h=>by
  simp only [Al,List.cons.injEq,V.int.injEq,V.str.injEq,V.sl.injEq,and_true,true_and] at h;obtain ⟨h1,h2,h3,h4⟩:=h;subst h1;subst h2;subst h3;rw [G9 h4]
theorem G9:∀{a b:List Ty},Bg a=Bg b->a=b
 | [],[],_=>rfl
 | [],_::_,h=>by simp [Bg] at h
 | _::_,[],h=>by simp [Bg] at h
 | x::r,y::t,h=>by
  simp only [Bg,List.cons.injEq] at h;rw [GA h.1,G9 h.2]
end
theorem PL {a b:Cd} (h:Cw a=Cw b):a=b:=by
 obtain ⟨a1,a2⟩:=a;obtain ⟨b1,b2⟩:=b;simp only [Cw,List.cons.injEq,V.str.injEq,V.sl.injEq,and_true] at h;rw [h.1,G9 h.2]
open Classical in
noncomputable def qOf {α β:Type} (d:α->β) (f:α->Bool) (e:β):Bool:=decide (∃t,d t=e/\f t=true)
open Classical in
theorem IC {α β:Type} {d:α->β} (hd:∀{a b},d a=d b->a=b) (f:α->Bool) (t:α):qOf d f (d t)=f t:=by
 unfold qOf;by_cases h:f t=true
 ·rw [h];exact decide_eq_true ⟨t,rfl,h⟩
 ·simp only [Bool.not_eq_true] at h;rw [h];refine decide_eq_false λ⟨u,h1,h2⟩=>?_;rw [hd h1,h] at h2;cases h2
theorem Sv {α β:Type} {d:α->β} (hd:∀{a b},d a=d b->a=b) (f:α->Bool) (l:List α):(l.map d).all (qOf d f)=l.all f:=by
 rw [List.all_map];congr 1;funext t;exact IC hd f t
def Kd (c:Cd):Bool:=Dc c.name&&decide ((c.args.length:Int)<=3)&&c.args.all (BH false)
def Fa (d:Dt):Bool:=Dc d.name&&decide ((1:Int)<=d.cons.length)&&decide ((d.cons.length:Int)<=5)&&d.cons.all Kd
def Lu (f:Fd):Bool:=Ea f.name&&Ea f.param&&BH false f.from_&&BH false f.to_&&K4 f.body
theorem dH (ts:List Ty) (h:ts.length<=9223372036854775806):Ak Tryz.prog 211 [.sl (Bg ts),.fn (.func 212)] (.bool (ts.all (BH false))):=by
 have:=allT 212 (qOf Al (BH false)) (Bg ts) (λe he=>by rw [Cq] at he;obtain ⟨t,_,rfl⟩:=List.mem_map.1 he;simp) (by simpa using h) (λe he=>by
  rw [Cq] at he;obtain ⟨t,_,rfl⟩:=List.mem_map.1 he;rw [IC GA];exact Oq t)
 rw [Cq,Sv GA] at this;rw [Cq];exact this
theorem Ym (c:Cd):Ak Tryz.prog 210 [.agg (Cw c)] (.bool (Kd c)):=by
 obtain ⟨nm,ts⟩:=c;refine AM λhv=>?_;simp [BX,Eh,Cw,maxLen] at hv;refine Ae BS Tryz.func210 (by decide +kernel) rfl [1,2,3] rfl rfl ?_;refine ag [] rfl (by simp [Ag]) ?_;refine Ac rfl (λ_=>Da nm) (by simp [Ag]) ?_;refine ag [] rfl (by simp [Ag]) ?_;refine Ac rfl (λhg=>dH ts (by simp [Ag] at hg;omega)) (by simp [Ag]) ?_;refine ag [] rfl (by simp [Ag] <;> grind) ?_;refine Ab ⟨_,rfl,tV (congrArg _ ?_),trivial⟩;simp [Kd] <;> grind
theorem fS (cs:List Cd) (h:cs.length<=9223372036854775806):Ak Tryz.prog 209 [.sl (cs.map Cw),.fn (.func 210)] (.bool (cs.all Kd)):=by
 have:=allC 210 (qOf Cw Kd) (cs.map Cw) (λe he=>by obtain ⟨t,_,rfl⟩:=List.mem_map.1 he;rfl) (by simpa using h) (λe he=>by
  obtain ⟨t,_,rfl⟩:=List.mem_map.1 he;rw [IC PL];exact Ym t)
 rw [Sv PL] at this;exact this
def KY (d:Dt):V:=.iface 257 (.agg (BU d))
def IF (f:Fd):V:=.iface 259 (.agg (NM f))
theorem Sd:∃z,(Tryz.prog.info? 257).bind (·.zero)=some z/\∀I,RepV I z (.agg [.str [],.sl []]):=by
 refine ⟨.agg #[.string ⟨#[]⟩,.slice none 0 0],by kernel_rfl,λI=>.agg _ _ rfl (by decide) λi c x hc hx=>?_⟩
 match i,hc,hx with
 | 0,hc,hx=>cases hc;cases hx;exact .str _ _ rfl
 | 1,hc,hx=>cases hc;cases hx;exact .slnil
 | i+2,hc,hx=>simp at hx
theorem V1 (d:Dt):Ak Tryz.prog 184 [KY d] (.bool (Fa d)):=by
 obtain ⟨nm,cs⟩:=d;refine AM λhv=>?_;simp [BX,Eh,KY,BU,maxLen] at hv;refine Ae BS Tryz.func184 (by decide +kernel) rfl [1,2,3,4] rfl rfl ?_;refine ag [] rfl (by simp [Ag]) ?_;refine H9 BS rfl (.inl ⟨rfl,rfl⟩) ?_;refine ag [.a] rfl (by simp [Ag]) ?_;refine Ac rfl (λ_=>Da nm) (by simp [Ag]) ?_;refine ag [] rfl (by simp [Ag]) ?_;refine Ac rfl (λhg=>fS cs (by simp [Ag] at hg;omega)) (by simp [Ag]) ?_;refine ag [] rfl (by simp [Ag] <;> grind) ?_;refine Ab ⟨_,rfl,tV (congrArg _ ?_),trivial⟩;simp [Fa] <;> grind
theorem Yl (f:Fd):Ak Tryz.prog 184 [IF f] (.bool (Lu f)):=by
 obtain ⟨nm,pm,⟨s1,n1,x1,p1⟩,⟨s2,n2,x2,p2⟩,⟨o3,n3,x3,k3,p3⟩⟩:=f;obtain ⟨z,hz,hzr⟩:=Sd;refine AM λhv=>?_;refine Ae BS Tryz.func184 (by decide +kernel) rfl [1,2,3,4] rfl rfl ?_;refine ag [] rfl (by simp [Ag]) ?_;refine H9 BS rfl (.inr ⟨by decide,z,_,hz,hzr,rfl⟩) ?_;refine ag [.a] rfl (by simp [Ag]) ?_;refine H9 BS rfl (.inl ⟨rfl,rfl⟩) ?_;refine ag [.a] rfl (by simp [Ag]) ?_;refine Ac rfl (λ_=>Gd nm) (by simp [Ag]) ?_;refine ag [] rfl (by simp [Ag]) ?_;refine Ac rfl (λ_=>Gd pm) (by simp [Ag]) ?_;refine ag [] rfl (by simp [Ag]) ?_;refine Ac rfl (λ_=>Oq (.mk s1 n1 x1 p1)) (by simp [Ag]) ?_;refine ag [] rfl (by simp [Ag]) ?_;refine Ac rfl (λ_=>Oq (.mk s2 n2 x2 p2)) (by simp [Ag]) ?_
 refine ag [] rfl (by simp [Ag]) ?_;refine Ac rfl (λ_=>dS (.mk o3 n3 x3 k3 p3)) (by simp [Ag]) ?_;refine ag [] rfl (by simp [Ag] <;> grind) ?_;refine Ab ⟨_,rfl,tV (congrArg _ ?_),trivial⟩;simp [Lu,Jc] <;> grind
inductive Pt2 where
 | d (x:Dt)
 | f (x:Fd)
def cY:Pt2->V
 | .d x=>KY x
 | .f x=>IF x
def TE:Pt2->Bool
 | .d x=>Fa x
 | .f x=>Lu x
theorem aF (p:Pt2):Ak Tryz.prog 184 [cY p] (.bool (TE p)):=by
 cases p with
 | d x=>exact V1 x
 | f x=>exact Yl x
mutual
theorem cX:∀{a b:Tm},Cv a=Cv b->a=b
 | .mk s n x ks ps,.mk s' n' x' ks' ps',h=>by
  simp only [Cv,List.cons.injEq,V.int.injEq,V.str.injEq,V.sl.injEq,and_true,true_and] at h;obtain ⟨h1,h2,h3,h4,h5⟩:=h;subst h1;subst h2;subst h3;rw [PI h4,G9 h5]
theorem PI:∀{a b:List Tm},K2 a=K2 b->a=b
 | [],[],_=>rfl
 | [],_::_,h=>by simp [K2] at h
 | _::_,[],h=>by simp [K2] at h
 | x::r,y::t,h=>by
  simp only [K2,List.cons.injEq] at h;rw [cX h.1,PI h.2]
end
theorem Lg:∀{a b:List Cd},a.map Cw=b.map Cw->a=b
 | [],[],_=>rfl
 | [],_::_,h=>by simp at h
 | _::_,[],h=>by simp at h
 | x::r,y::t,h=>by
  simp only [List.map_cons,List.cons.injEq] at h;rw [PL h.1,Lg h.2]
theorem X3 {a b:Pt2} (h:cY a=cY b):a=b:=by
 cases a with
 | d x=>cases b with
  | d y =>
   obtain ⟨x1,x2⟩:=x;obtain ⟨y1,y2⟩:=y;simp only [cY,KY,BU,V.iface.injEq,V.agg.injEq,List.cons.injEq,V.str.injEq,V.sl.injEq,true_and,and_true] at h;rw [h.1,Lg h.2]
  | f y=>simp [cY,KY,IF] at h
 | f x=>cases b with
  | d y=>simp [cY,KY,IF] at h
  | f y =>
   obtain ⟨nm,pm,⟨s1,n1,x1,p1⟩,⟨s2,n2,x2,p2⟩,⟨o3,n3,x3,k3,p3⟩⟩:=x;obtain ⟨nm',pm',⟨s1',n1',x1',p1'⟩,⟨s2',n2',x2',p2'⟩,⟨o3',n3',x3',k3',p3'⟩⟩:=y;simp only [cY,IF,NM,Al,Cv,V.iface.injEq,V.agg.injEq,List.cons_append,List.nil_append,List.cons.injEq,V.str.injEq,V.int.injEq,V.sl.injEq,true_and,and_true] at h;obtain ⟨h1,h2,h3,h4,h5,h6,h7,h8,h9,h10,h11,h12,h13,h14,h15⟩:=h;rw [h1,h2,h3,h4,h5,G9 h6,h7,h8,h9,G9 h10,h11,h12,h13,PI h14,G9 h15]
theorem Va (ps:List Pt2) (h:ps.length<=9223372036854775806):Ak Tryz.prog 183 [.sl (ps.map λp=>[cY p]),.fn (.func 184)] (.bool (ps.all TE)):=by
 have:=allI 184 (qOf cY TE) (ps.map cY) (by simpa using h) (λe he=>by
  obtain ⟨t,_,rfl⟩:=List.mem_map.1 he;rw [IC X3];exact aF t)
 rw [Sv X3,List.map_map] at this;exact this
def H2 (m:Md):Bool:=Ea m.name&&decide ((m.datas.length:Int)<=4)&&decide ((1:Int)<=m.funs.length)&&decide ((m.funs.length:Int)<=5)&&m.datas.all Fa&&m.funs.all Lu
def JN (l:List Pt2):List (List V):=l.map λp=>[cY p]
@[simp] theorem rowP_length (l:List Pt2):(JN l).length=l.length:=by simp [JN]
def fI (b:Bool) (k:Nat):D:=match b with
 | false=>.nils
 | true=>.own 2 k
def lA (b:Bool) (m:Md) (es:List (List V)):St:=match b with
 | false=>[(1,some (.immb 192 3 (SO m)))]
 | true=>[(2,some (.row 262 1 es)),(1,some (.immb 192 3 (SO m)))]
theorem OF (a b:List Pt2):JN (a++b)=JN a++JN b:=by simp [JN]
theorem X9 (m:Md) (b:Bool) (es0:List (List V)) (hb:b=false->es0=[]) (he0:es0=JN (m.datas.map .d)) (hd:(m.datas.length:Int)<=4) (hf1:(1:Int)<=m.funs.length) (hf:(m.funs.length:Int)<=5) :
  DGo Tryz.prog Tryz.f141.ntmps (DA []) (MA jK Tryz.f141.results.toList (.ret (.imm (Jc (m.datas.all Fa&&m.funs.all Lu))) []))
   [.code (Fv Tryz.f141 4)] [(3,fI b es0.length),(1,.ref 1 0)] (lA b m es0) [3,4]:=by
 cases b with
 | false =>
  have:=hb rfl;subst this;refine ad [] rfl (by simp) ?_;refine Aj (λy:Nat×Bool×List (List V)=>[(47,.imm (.int .i64 y.1)),(46,.imm (.int .i64 m.funs.length)),(45,.imm (.sl (m.funs.map NM))),(3,fI y.2.1 y.2.2.length),(1,.ref 1 0)])
   (λy=>lA y.2.1 m y.2.2) [3,4] (λy=>m.funs.length-y.1)
   (λy=>y.1<=m.funs.length/\y.2.2=JN (m.datas.map .d++(m.funs.take y.1).map .f)/\(y.2.1=false->y.2.2=[])) (0,false,[]) ⟨Nat.zero_le _,by simpa using he0,λ_=>rfl⟩ ⟨rfl,At (by simp),rfl,rfl,rfl,trivial⟩ ⟨rfl,trivial⟩ rfl λy hi ih=>?_
  obtain ⟨i,b,es⟩:=y;obtain ⟨hi1,hi2,hi3⟩:=hi;simp only at hi1 hi2 hi3;have hlen:es.length<=9:=by
   have:=congrArg List.length hi2;simp at this;omega
  have hnext:∀f,m.funs[i]?=some f->es++[[IF f]]=JN (m.datas.map .d++(m.funs.take (i+1)).map .f):=λf hf=>by
   rw [AS hf,List.map_append,<- List.append_assoc,OF,<- hi2];rfl
  have hend:¬i<m.funs.length->es=JN (m.datas.map .d++m.funs.map .f):=λh=>by
   rw [hi2,List.take_of_length_le (by omega)]
  cases b with
  | false =>
   have hi3:=hi3 rfl;subst hi3;refine ad [] rfl (by simp) ?_;refine Aa rfl (λh=>?_) (λh=>?_)
   ·simp at h;obtain ⟨f,hf⟩:=Am h;refine ad [] rfl (by simp) ?_;refine ai rfl (c:=NM f) (λ_=>⟨by simp,by simpa using AQ hf,by simp⟩) (by simp) ?_;refine ag [] rfl (by simp) ?_;refine Bp BS rfl ⟨by simp,by simp [maxLen],by simp,trivial⟩ ?_;refine ag [] rfl (by simp) ?_;refine A3 2 4 rfl ?_;exact Ad (ih (i+1,true,[]++[[IF f]]) (by simp only;omega) ⟨by simp only;omega,hnext f hf,λh=>by cases h⟩) ⟨At (Bv (by simp only;omega) (by simp only;omega)),rfl,rfl,rfl,rfl,trivial⟩ ⟨rfl,rfl,trivial⟩ rfl
   ·simp at h;have:=congrArg List.length (hend (by omega));simp at this;omega
  | true =>
   refine ad [] rfl (by simp) ?_;refine Aa rfl (λh=>?_) (λh=>?_)
   ·simp at h;obtain ⟨f,hf⟩:=Am h;refine ad [] rfl (by simp) ?_;refine ai rfl (c:=NM f) (λ_=>⟨by simp,by simpa using AQ hf,by simp⟩) (by simp) ?_;refine ag [] rfl (by simp) ?_;refine Bp BS rfl ⟨by simp,by simp [maxLen];omega,by simp;omega,trivial⟩ ?_;refine ag [] rfl (by simp) ?_;refine A3 2 4 rfl ?_;exact Ad (ih (i+1,true,es++[[IF f]]) (by simp only;omega) ⟨by simp only;omega,hnext f hf,λh=>by cases h⟩) ⟨At (Bv (by simp only;omega) (by simp only;omega)),rfl,rfl,rfl,rfl,trivial⟩ ⟨rfl,rfl,trivial⟩ rfl
   ·simp at h;refine Ar rfl ?_;refine AZ 2 rfl ?_;refine ad [] rfl (by simp) ?_;refine Ac rfl (λ_=>by rw [hend (by omega)];exact Va _ (by simp;omega)) (by simp) ?_;refine ag [] rfl (by simp) ?_;have hall:(m.datas.map Pt2.d++m.funs.map Pt2.f).all TE=(m.datas.all Fa&&m.funs.all Lu):=by
     rw [List.all_append,List.all_map,List.all_map];rfl
    rw [hall];refine Aa rfl (λh=>?_) (λh=>?_)
    ·refine ad [] rfl (by simp) ?_;refine Ab ⟨_,rfl,tV ?_,trivial⟩;simp only [Bool.not_eq_true'] at h;rw [h];rfl
    ·refine ad [] rfl (by simp) ?_;refine Ab ⟨_,rfl,tV ?_,trivial⟩;simp only [Bool.not_eq_false'] at h;rw [h];rfl
 | true =>
  refine ad [] rfl (by simp) ?_;refine Aj (λy:Nat×Bool×List (List V)=>[(47,.imm (.int .i64 y.1)),(46,.imm (.int .i64 m.funs.length)),(45,.imm (.sl (m.funs.map NM))),(3,fI y.2.1 y.2.2.length),(1,.ref 1 0)])
   (λy=>lA y.2.1 m y.2.2) [3,4] (λy=>m.funs.length-y.1)
   (λy=>y.1<=m.funs.length/\y.2.2=JN (m.datas.map .d++(m.funs.take y.1).map .f)/\(y.2.1=false->y.2.2=[])) (0,true,es0) ⟨Nat.zero_le _,by simpa using he0,λh=>by cases h⟩ ⟨rfl,At (by simp),rfl,rfl,rfl,trivial⟩ ⟨rfl,rfl,trivial⟩ rfl λy hi ih=>?_
  obtain ⟨i,b,es⟩:=y;obtain ⟨hi1,hi2,hi3⟩:=hi;simp only at hi1 hi2 hi3;have hlen:es.length<=9:=by
   have:=congrArg List.length hi2;simp at this;omega
  have hnext:∀f,m.funs[i]?=some f->es++[[IF f]]=JN (m.datas.map .d++(m.funs.take (i+1)).map .f):=λf hf=>by
   rw [AS hf,List.map_append,<- List.append_assoc,OF,<- hi2];rfl
  have hend:¬i<m.funs.length->es=JN (m.datas.map .d++m.funs.map .f):=λh=>by
   rw [hi2,List.take_of_length_le (by omega)]
  cases b with
  | false =>
   have hi3:=hi3 rfl;subst hi3;refine ad [] rfl (by simp) ?_;refine Aa rfl (λh=>?_) (λh=>?_)
   ·simp at h;obtain ⟨f,hf⟩:=Am h;refine ad [] rfl (by simp) ?_;refine ai rfl (c:=NM f) (λ_=>⟨by simp,by simpa using AQ hf,by simp⟩) (by simp) ?_;refine ag [] rfl (by simp) ?_;refine Bp BS rfl ⟨by simp,by simp [maxLen],by simp,trivial⟩ ?_;refine ag [] rfl (by simp) ?_;refine A3 2 4 rfl ?_;exact Ad (ih (i+1,true,[]++[[IF f]]) (by simp only;omega) ⟨by simp only;omega,hnext f hf,λh=>by cases h⟩) ⟨At (Bv (by simp only;omega) (by simp only;omega)),rfl,rfl,rfl,rfl,trivial⟩ ⟨rfl,rfl,trivial⟩ rfl
   ·simp at h;have:=congrArg List.length (hend (by omega));simp at this;omega
  | true =>
   refine ad [] rfl (by simp) ?_;refine Aa rfl (λh=>?_) (λh=>?_)
   ·simp at h;obtain ⟨f,hf⟩:=Am h;refine ad [] rfl (by simp) ?_;refine ai rfl (c:=NM f) (λ_=>⟨by simp,by simpa using AQ hf,by simp⟩) (by simp) ?_;refine ag [] rfl (by simp) ?_;refine Bp BS rfl ⟨by simp,by simp [maxLen];omega,by simp;omega,trivial⟩ ?_;refine ag [] rfl (by simp) ?_;refine A3 2 4 rfl ?_;exact Ad (ih (i+1,true,es++[[IF f]]) (by simp only;omega) ⟨by simp only;omega,hnext f hf,λh=>by cases h⟩) ⟨At (Bv (by simp only;omega) (by simp only;omega)),rfl,rfl,rfl,rfl,trivial⟩ ⟨rfl,rfl,trivial⟩ rfl
   ·simp at h;refine Ar rfl ?_;refine AZ 2 rfl ?_;refine ad [] rfl (by simp) ?_;refine Ac rfl (λ_=>by rw [hend (by omega)];exact Va _ (by simp;omega)) (by simp) ?_;refine ag [] rfl (by simp) ?_;have hall:(m.datas.map Pt2.d++m.funs.map Pt2.f).all TE=(m.datas.all Fa&&m.funs.all Lu):=by
     rw [List.all_append,List.all_map,List.all_map];rfl
    rw [hall];refine Aa rfl (λh=>?_) (λh=>?_)
    ·refine ad [] rfl (by simp) ?_;refine Ab ⟨_,rfl,tV ?_,trivial⟩;simp only [Bool.not_eq_true'] at h;rw [h];rfl
    ·refine ad [] rfl (by simp) ?_;refine Ab ⟨_,rfl,tV ?_,trivial⟩;simp only [Bool.not_eq_false'] at h;rw [h];rfl
theorem Qm (m:Md):Ak Tryz.prog 141 [.agg (SO m)] (Jc (H2 m)):=by
 refine AM λhv=>?_;have hv1:m.datas.length<=9223372036854775807/\m.funs.length<=9223372036854775807:=by
  simp [BX,Eh,SO,maxLen] at hv;omega
 refine Ae BS Tryz.func141 (by decide +kernel) rfl [1,2,3,4] rfl rfl ?_;refine ag [] rfl (by simp [Ag]) ?_;refine Ac rfl (λ_=>Gd m.name) (by simp [Ag]) ?_;refine ag [] rfl (by simp [Ag] <;> grind) ?_;refine Aa rfl (λh=>?_) (λh=>?_)
 ·refine ad [] rfl (by simp) ?_;refine Ab ⟨_,rfl,tV (congrArg _ ?_),trivial⟩;have:H2 m=false:=by
   simp at h;simp [H2];grind
  rw [this];rfl
 have hx:Ea m.name=true/\(m.datas.length:Int)<=4/\(1:Int)<=m.funs.length/\(m.funs.length:Int)<=5:=by
  simp at h;refine ⟨?_,?_,?_,?_⟩ <;> grind
 clear h;have hres:H2 m=(m.datas.all Fa&&m.funs.all Lu):=by simp [H2,hx.1,hx.2.1,hx.2.2.1,hx.2.2.2]
 rw [hres];refine ad [] rfl (by simp) ?_;refine Aj (λy:Nat×Bool×List (List V)=>[(33,.imm (.int .i64 y.1)),(32,.imm (.int .i64 m.datas.length)),(31,.imm (.sl (m.datas.map BU))),(3,fI y.2.1 y.2.2.length),(1,.ref 1 0)])
  (λy=>lA y.2.1 m y.2.2) [3,4] (λy=>m.datas.length-y.1)
  (λy=>y.1<=m.datas.length/\y.2.2=JN ((m.datas.take y.1).map .d)/\(y.2.1=false->y.2.2=[])) (0,false,[]) ⟨Nat.zero_le _,rfl,λ_=>rfl⟩ ⟨rfl,At (by simp),rfl,rfl,rfl,trivial⟩ ⟨rfl,trivial⟩ rfl λy hi ih=>?_
 obtain ⟨i,b,es⟩:=y;obtain ⟨hi1,hi2,hi3⟩:=hi;simp only at hi1 hi2 hi3;have hlen:es.length<=4:=by
  have:=congrArg List.length hi2;simp at this;omega
 have hend:¬i<m.datas.length->es=JN (m.datas.map .d):=λh=>by
  rw [hi2,List.take_of_length_le (by omega)]
 have hnext:∀d,m.datas[i]?=some d->es++[[KY d]]=JN ((m.datas.take (i+1)).map .d):=λd hd=>by
  rw [AS hd,List.map_append,OF,<- hi2];rfl
 cases b with
 | false =>
  have hi3:=hi3 rfl;subst hi3;refine ad [] rfl (by simp) ?_;refine Aa rfl (λh=>?_) (λh=>?_)
  ·simp at h;obtain ⟨d,hd⟩:=Am h;refine ad [] rfl (by simp) ?_;refine ai rfl (c:=BU d) (λ_=>⟨by simp,by simpa using AQ hd,by simp⟩) (by simp) ?_;refine ag [] rfl (by simp) ?_;refine Bp BS rfl ⟨by simp,by simp [maxLen],by simp,trivial⟩ ?_;refine ag [] rfl (by simp) ?_;refine A3 2 4 rfl ?_;exact Ad (ih (i+1,true,[]++[[KY d]]) (by simp only;omega) ⟨by simp only;omega,hnext d hd,λh=>by cases h⟩) ⟨At (Bv (by simp only;omega) (by simp only;omega)),rfl,rfl,rfl,rfl,trivial⟩ ⟨rfl,rfl,trivial⟩ rfl
  ·simp at h;refine Ar rfl ?_;exact Ad (X9 m false [] (λ_=>rfl) (hend (by omega)) hx.2.1 hx.2.2.1 hx.2.2.2) ⟨rfl,rfl,trivial⟩ ⟨rfl,trivial⟩ rfl
 | true =>
  refine ad [] rfl (by simp) ?_;refine Aa rfl (λh=>?_) (λh=>?_)
  ·simp at h;obtain ⟨d,hd⟩:=Am h;refine ad [] rfl (by simp) ?_;refine ai rfl (c:=BU d) (λ_=>⟨by simp,by simpa using AQ hd,by simp⟩) (by simp) ?_;refine ag [] rfl (by simp) ?_;refine Bp BS rfl ⟨by simp,by simp [maxLen];omega,by simp;omega,trivial⟩ ?_;refine ag [] rfl (by simp) ?_;refine A3 2 4 rfl ?_;exact Ad (ih (i+1,true,es++[[KY d]]) (by simp only;omega) ⟨by simp only;omega,hnext d hd,λh=>by cases h⟩) ⟨At (Bv (by simp only;omega) (by simp only;omega)),rfl,rfl,rfl,rfl,trivial⟩ ⟨rfl,rfl,trivial⟩ rfl
  ·simp at h;refine Ar rfl ?_;exact Ad (X9 m true es (λh=>by cases h) (hend (by omega)) hx.2.1 hx.2.2.1 hx.2.2.2) ⟨rfl,rfl,trivial⟩ ⟨rfl,rfl,trivial⟩ rfl
def NV (s n:Int) (x:Str) (k:Int):Bool :=
 if s=1 then decide (-1000000000<=n)&&decide (n<=1000000000)&&(x == [])&&(k == 0)
 else if s=2 then (n == 0||n == 1)&&(x == [])&&(k == 0)
 else if s=3\/s=5 then n == 0&&x == []&&k == 0
 else if s=4 then n == 0&&Dc x&&decide (k<=3)
 else false
theorem Yw (v:Ty) (k:Int):Ak Tryz.prog 179 [.agg (Bd v),.int .i64 k] (.bool (match v with | .mk s n x _=>NV s n x k)):=by
 obtain ⟨s,n,x,ps⟩:=v;refine Ae A5 Tryz.func179 (by decide +kernel) rfl [1,2,3] rfl rfl ?_;simp only [NV,Bd];refine bg [] rfl (by simp) ?_;by_cases h1:s=1
 ·subst h1;refine Aa rfl (λh=>?_) (λh=>by simp at h);refine bd [] rfl (by simp [Ag]) ?_;refine Ab ⟨_,rfl,tV (congrArg _ ?_),trivial⟩;simp [Bool.and_assoc]
 rw [if_neg h1];refine Aa rfl (λh=>absurd (by simpa using h) h1) (λh=>?_);clear h;refine bd [] rfl (by simp) ?_;by_cases h2:s=2
 ·subst h2;refine Aa rfl (λh=>?_) (λh=>by simp at h);refine bd [] rfl (by simp [Ag]) ?_;refine Ab ⟨_,rfl,tV (congrArg _ ?_),trivial⟩;simp [Bool.and_assoc]
 rw [if_neg h2];refine Aa rfl (λh=>absurd (by simpa using h) h2) (λh=>?_);clear h;refine bd [] rfl (by simp) ?_;by_cases h3:s=3
 ·subst h3;refine Aa rfl (λh=>?_) (λh=>by simp at h);refine bd [] rfl (by simp) ?_;refine Aa rfl (λh=>?_) (λh=>by simp at h);refine bd [] rfl (by simp [Ag]) ?_;refine Ab ⟨_,rfl,tV (congrArg _ ?_),trivial⟩;simp [Bool.and_assoc]
 refine Aa rfl (λh=>absurd (by simpa using h) h3) (λh=>?_);clear h;refine bd [] rfl (by simp) ?_;by_cases h5:s=5
 ·subst h5;refine Aa rfl (λh=>?_) (λh=>by simp at h);refine bd [] rfl (by simp [Ag]) ?_;refine Ab ⟨_,rfl,tV (congrArg _ ?_),trivial⟩;simp [Bool.and_assoc]
 rw [if_neg (by simp [h3,h5])];refine Aa rfl (λh=>absurd (by simpa using h) h5) (λh=>?_);clear h;refine bd [] rfl (by simp) ?_;by_cases h4:s=4
 ·subst h4;refine Aa rfl (λh=>?_) (λh=>by simp at h);refine bd [] rfl (by simp) ?_;refine Ac rfl (λ_=>Da x) (by simp [Ag]) ?_;refine bg [] rfl (by simp [Ag]) ?_;refine Ab ⟨_,rfl,tV (congrArg _ ?_),trivial⟩;simp [Bool.and_assoc]
 rw [if_neg h4];refine Aa rfl (λh=>absurd (by simpa using h) h4) (λh=>?_);clear h;refine bd [] rfl (by simp) ?_;exact Ab ⟨_,rfl,tV rfl,trivial⟩
theorem iV (g:FuncId) (q:List V->Bool) (es:List (List V)) (hes:∀e∈es,e.length=4) (hlen:es.length<=9223372036854775807)
  (hq:∀e∈es,Ak Tryz.prog g [.agg e] (.bool (q e))) :
  Ak Tryz.prog 90 [.sl es,.fn (.func g)] (.int .i64 (Ef q es 0)):=by
 refine Ae A5 Tryz.func90 (by decide +kernel) rfl [2,3,4] rfl rfl ?_;refine bg [] rfl (by simp) ?_;refine Aj (λi:Nat=>[(8,.imm (.int .i64 i)),(7,.imm (.int .i64 es.length)),(0,.imm (.sl es)),(1,.imm (.fn (.func g)))]) (λ_=>[]) [2,3,4] (λi=>es.length-i)
  (λi=>i<=es.length/\Ef q es 0=Ef q (es.drop i) i) 0 ⟨Nat.zero_le _,rfl⟩ ⟨rfl,At (by simp),rfl,rfl,trivial⟩ trivial rfl λi hi ih=>?_
 refine bd [] rfl (by simp) ?_;have hi2:=hi.2;refine Aa rfl (λh=>?_) (λh=>?_)
 ·simp at h;obtain ⟨e,he⟩:=Am h;have hm:=List.mem_of_getElem? he;rw [Ap he] at hi2;refine bd [] rfl (by simp) ?_;refine bi rfl (c:=e) (λ_=>⟨by simp,by simpa using he,hes e hm⟩) (by simp) ?_;refine bg [] rfl (by simp [hes e hm]) ?_;refine Ac rfl (λ_=>hq e hm) (by simp) ?_;refine bg [] rfl (by simp) ?_;refine Aa rfl (λh=>?_) (λh=>?_)
  ·refine bd [] rfl (by simp) ?_;exact Ab ⟨_,rfl,tV (congrArg _ (by rw [hi2];simp [Ef,h])),trivial⟩
  ·refine bd [] rfl (by simp) ?_;exact Ad (ih (i+1) (by omega) ⟨by omega,by rw [hi2];simp [Ef,h]⟩) ⟨At (Bv (by omega) (by omega)),rfl,rfl,rfl,trivial⟩ trivial rfl
 ·refine bd [] rfl (by simp) ?_;simp at h;refine Ab ⟨_,rfl,tV (congrArg _ ?_),trivial⟩;rw [hi2,List.drop_eq_nil_of_le (by omega)];rfl
theorem Zg (g:FuncId) (q:List V->Bool) (es:List (List V)) (hes:∀e∈es,e.length=4) (hlen:es.length<=9223372036854775807)
  (hq:∀e∈es,Ak Tryz.prog g [.agg e] (.bool (q e))) :
  Ak Tryz.prog 180 [.sl es,.fn (.func g)] (.bool (es.any q)):=by
 refine Ae A5 Tryz.func180 (by decide +kernel) rfl [2,3,4] rfl rfl ?_;refine bg [] rfl (by simp) ?_;refine Ac rfl (λ_=>iV g q es hes hlen hq) (by simp) ?_;refine bg [] rfl (by simp) ?_;refine Ab ⟨_,rfl,tV (congrArg _ ?_),trivial⟩;rw [Bool.eq_iff_iff,<- H7 q es 0];simp
mutual
def NO:Ty->Bool
 | .mk s n x ps=>NV s n x ps.length&&XE ps
def XE:List Ty->Bool
 | []=>true
 | t::r=>NO t&&XE r
end
theorem UZ:∀l:List Ty,XE l=l.all NO
 | []=>rfl
 | t::r=>by simp [XE,UZ r]
theorem dG (v:Ty) (h:Ak Tryz.prog 137 [.agg (Al v)] (.bool (NO v))):Ak Tryz.prog 181 [.agg (Al v)] (.bool (!NO v)):=by
 obtain ⟨s,n,x,ps⟩:=v;generalize NO (.mk s n x ps)=b at *;refine Ae A5 Tryz.func181 (by decide +kernel) rfl [1,2,3] rfl rfl ?_;refine bg [] rfl (by simp) ?_;refine Ac rfl (λ_=>h) (by simp) ?_;refine bg [] rfl (by simp) ?_;exact Ab ⟨_,rfl,tV rfl,trivial⟩
theorem XF:∀v:Ty,Ak Tryz.prog 137 [.agg (Al v)] (.bool (NO v))
 | .mk s n x ps=>by
  have hP:=Yw (.mk s n x ps) ps.length;simp only at hP;have hO:=Xk (.mk s n x ps);refine AM λhv=>?_;simp [BX,Eh,Al,maxLen] at hv;have hC:=Zg 181 (qOf Al (λv=>!NO v)) (Bg ps) (λe he=>by rw [Cq] at he;obtain ⟨t,_,rfl⟩:=List.mem_map.1 he;simp) (by simpa using hv.1)
   (λe he=>by
    rw [Cq] at he;obtain ⟨t,ht,rfl⟩:=List.mem_map.1 he;rw [IC GA];exact dG t (XF t))
  refine Ae A5 Tryz.func137 (by decide +kernel) rfl [1,2,3] rfl rfl ?_;refine bg [] rfl (by simp) ?_;refine Ac rfl (λ_=>hO) (by simp) ?_;refine bg [] rfl (by simp) ?_;refine Ac rfl (v:=.bool (NV s n x ps.length)) (λ_=>by simpa using hP) (by simp) ?_;refine bg [] rfl (by simp) ?_;refine Ac rfl (λ_=>hC) (by simp [Ag]) ?_;refine bg [] rfl (by simp [Ag];rfl) ?_;refine Ab ⟨_,rfl,tV (congrArg _ ?_),trivial⟩;rw [Cq,List.any_map,show (qOf Al (λv=>!NO v) ∘ Al)=(λv=>!NO v) from funext λv=>IC GA _ v];simp [NO,UZ,List.all_eq_not_any_not]
termination_by v=>SizeOf.sizeOf v
decreasing_by
 have:=List.sizeOf_lt_of_mem ht;simp_wf;omega
theorem Ws (v:Ty):Ak Tryz.prog 88 [.agg (Al v)] (.bool (decide (0<=Eg v 20000 100)&&NO v)):=by
 have hW:=Ot v 20000 100 (by decide) (by decide) (by decide) (by decide);have hA:=XF v;obtain ⟨s,n,x,ps⟩:=v;refine Ae A5 Tryz.func88 (by decide +kernel) rfl [1,2,3] rfl rfl ?_;refine bg [] rfl (by simp) ?_;refine Ac rfl (λ_=>hW) (by simp) ?_;refine bg [] rfl (by simp) ?_;refine Ac rfl (λ_=>hA) (by simp [Ag]) ?_;refine bg [] rfl (by simp [Ag]) ?_;refine Ab ⟨_,rfl,tV (congrArg _ ?_),trivial⟩;simp
theorem IY {l:List Str} {s:Str}:FB l s=true↔s∈l:=by
 induction l with
 | nil=>simp [FB]
 | cons x r ih=>simp only [FB,Bool.or_eq_true,beq_iff_eq,ih,List.mem_cons];exact ⟨λh=>h.imp Eq.symm id,λh=>h.imp Eq.symm id⟩
theorem SK {l:List Str}:∀{pre:List Str},AO pre l=true↔l.Nodup/\∀s∈l,s∉pre:=by
 induction l with
 | nil=>intro pre;simp [AO]
 | cons x r ih =>
  intro pre;simp only [AO,Bool.and_eq_true,Bool.not_eq_true',ih,List.nodup_cons,List.mem_cons,List.mem_append,List.not_mem_nil,or_false];have:FB pre x=false↔x∉pre:=by rw [<- Bool.not_eq_true,IY]
  rw [this];constructor
  ·rintro ⟨h1,h2,h3⟩;exact ⟨⟨λhx=>h3 x hx (.inr rfl),h2⟩,λs hs=>hs.elim (λe=>e ▸ h1) λh hp=>h3 s h (.inl hp)⟩
  ·rintro ⟨⟨h1,h2⟩,h3⟩;exact ⟨h3 x (.inl rfl),h2,λs hs hp=>hp.elim (h3 s (.inr hs)) λe=>h1 (e ▸ hs)⟩
theorem N0 {l:List Str}:Bi l=true↔l.Nodup:=by
 unfold Bi;rw [SK];simp
def Ed (l:List (Str×V)):List (V×V):=l.map λp=>(.str p.1,p.2)
def JP (m:List (V×V)) (p:Str×V):List (V×V):=Ee m (.str p.1) p.2
def VL (l:List (Str×V)):List (V×V):=l.foldl JP []
def Fm (m:List (V×V)):Prop:=∀p∈m,Ia .str p.1=true
theorem DV (l:List (Str×V)):Fm (Ed l):=by
 intro p hp;obtain ⟨q,_,rfl⟩:=List.mem_map.1 hp;rfl
theorem Ra {m:List (V×V)} (h:Fm m) (s:Str) (v:V):Fm (Ee m (.str s) v):=by
 induction m with
 | nil=>intro p hp;simp only [Ee,List.mem_singleton] at hp;subst hp;rfl
 | cons a r ih =>
  obtain ⟨k,e⟩:=a;have h1:Fm r:=λp hp=>h p (by simp [hp]);simp only [Ee]
  split
  ·intro p hp;rcases List.mem_cons.1 hp with rfl | hp
   ·rfl
   ·exact h1 p hp
  ·intro p hp;rcases List.mem_cons.1 hp with rfl | hp
   ·exact h _ (by simp)
   ·exact ih h1 p hp
theorem VK (l:List (Str×V)):∀m,Fm m->Fm (l.foldl JP m):=by
 induction l with
 | nil=>intro m h;exact h
 | cons p r ih=>intro m h;exact ih _ (Ra h _ _)
theorem TV (l:List (Str×V)):Fm (VL l):=VK l [] λp hp=>by cases hp
theorem ZV {m:List (V×V)} (s:Str) (v:V):(Cc m (.str s)=none->(Ee m (.str s) v).length=m.length+1)/\(Cc m (.str s)≠none->(Ee m (.str s) v).length=m.length):=by
 induction m with
 | nil=>simp [Cc,Ee]
 | cons a r ih =>
  obtain ⟨k,e⟩:=a;simp only [Cc,Ee];cases h:U7 (.str s) k
  ·simpa using ih
  ·simp
theorem Yd {m:List (V×V)} (s t:Str) (v:V) (hk:Fm m):(Cc (Ee m (.str s) v) (.str t)=none)↔(Cc m (.str t)=none/\s≠t):=by
 induction m with
 | nil =>
  simp only [Ee,Cc,U7,beq_iff_eq];by_cases e:t=s
  ·subst e;simp
  ·have e':¬s=t:=λh=>e h.symm;simp [e,e']
 | cons a r ih =>
  obtain ⟨k,e⟩:=a;have h1:Fm r:=λp hp=>hk p (by simp [hp]);have h0:=hk (k,e) (by simp);cases k with
  | str x =>
   simp only [Ee,Cc,U7];by_cases hx:s=x
   ·subst hx;simp only [beq_self_eq_true,if_true,Cc,U7];by_cases ht:t=s
    ·simp [ht]
    ·simp only [beq_iff_eq,ht,if_false];exact ⟨λh=>⟨h,λe=>ht e.symm⟩,λh=>h.1⟩
   ·simp only [beq_iff_eq,hx,if_false,Cc,U7];by_cases ht:t=x
    ·simp [ht]
    ·simp only [ht,if_false];exact ih h1
  | _=>simp [Ia] at h0
theorem bI:∀(l:List (Str×V)) (pre:List Str) (m:List (V×V)),Fm m->(∀s,Cc m (.str s)=none↔s∉pre)->m.length<=pre.length ->
  (l.foldl JP m).length<=pre.length+l.length/\(AO pre (l.map (·.1))=false\/m.length<pre.length->(l.foldl JP m).length<pre.length+l.length)/\(AO pre (l.map (·.1))=true->m.length=pre.length->(l.foldl JP m).length=pre.length+l.length)
 | [],pre,m,hk,h,hl=>by
  simp only [List.foldl_nil,List.length_nil,List.map_nil,AO];exact ⟨by omega,λh=>by rcases h with h | h;exact absurd h (by simp);omega,λ_ h=>by omega⟩
 | p::r,pre,m,hk,h,hl=>by
  have hL:=ZV (m:=m) p.1 p.2;have hm:(JP m p).length<=(pre++[p.1]).length:=by
   simp only [JP,List.length_append,List.length_singleton];by_cases hn:Cc m (.str p.1)=none
   ·rw [hL.1 hn];omega
   ·rw [hL.2 hn];omega
  have hs:∀s,Cc (JP m p) (.str s)=none↔s∉pre++[p.1]:=λs=>by
   simp only [JP,Yd _ _ _ hk,h s,List.mem_append,List.mem_singleton,not_or];exact ⟨λ⟨a,b⟩=>⟨a,λe=>b e.symm⟩,λ⟨a,b⟩=>⟨a,λe=>b e.symm⟩⟩
  have ih:=bI r (pre++[p.1]) (JP m p) (Ra hk _ _) hs hm;simp only [List.length_append,List.length_singleton] at ih;simp only [List.foldl_cons,List.length_cons,List.map_cons,AO];obtain ⟨i1,i2,i3⟩:=ih;refine ⟨by omega,λhc=>?_,λhd he=>?_⟩
  ·by_cases hp:FB pre p.1=true
   ·have hn:Cc m (.str p.1)≠none:=λhn=>(h p.1).1 hn (IY.1 hp);have:(JP m p).length=m.length:=hL.2 hn;have:=i2 (.inr (by omega));omega
   ·have hp:FB pre p.1=false:=by simpa using hp
    rcases hc with hc | hc
    ·rw [hp] at hc;have:=i2 (.inl (by simpa using hc));omega
    ·have hn:Cc m (.str p.1)=none:=(h p.1).2 λhm=>by rw [IY.2 hm] at hp;cases hp
     have:(JP m p).length=m.length+1:=hL.1 hn;have:=i2 (.inr (by omega));omega
  ·simp only [Bool.and_eq_true,Bool.not_eq_true'] at hd;have hn:Cc m (.str p.1)=none:=(h p.1).2 λhm=>by rw [IY.2 hm] at hd;exact absurd hd.1 (by simp)
   have:(JP m p).length=m.length+1:=hL.1 hn;have:=i3 hd.2 (by omega);omega
theorem Xq (l:List (Str×V)):(VL l).length<=l.length/\(decide ((VL l).length<l.length) = !Bi (l.map (·.1))):=by
 obtain ⟨h1,h2,h3⟩:=bI l [] [] (λp hp=>by cases hp) (λs=>by simp [Cc]) (Nat.le_refl _);have h0:([]:List Str).length=0:=rfl;refine ⟨by unfold VL;omega,?_⟩;unfold Bi;cases hd:AO [] (l.map (·.1)) with
 | true=>have:=h3 hd rfl;unfold VL;simp;omega
 | false=>have:=h2 (.inl hd);unfold VL;simp;omega
theorem ZU (l:List (Str×V)) (s:Str) (v:V) (h:s∉l.map (·.1)):Ee (Ed l) (.str s) v=Ed (l++[(s,v)]):=by
 induction l with
 | nil=>rfl
 | cons a r ih =>
  simp only [List.map_cons,List.mem_cons,not_or] at h;simp only [Ed,List.map_cons,Ee,U7,List.cons_append,beq_iff_eq,h.1,if_false] at ih ⊢;rw [ih h.2]
theorem Ld:∀(l pre:List (Str×V)),AO (pre.map (·.1)) (l.map (·.1))=true->l.foldl JP (Ed pre)=Ed (pre++l)
 | [],pre,_=>by simp
 | p::r,pre,h=>by
  simp only [List.map_cons,AO,Bool.and_eq_true,Bool.not_eq_true'] at h;have hn:p.1∉pre.map (·.1):=λhm=>by rw [IY.2 hm] at h;exact absurd h.1 (by simp)
  have:=Ld r (pre++[p]) (by simpa using h.2);simp only [List.foldl_cons,JP,ZU pre p.1 p.2 hn] at this ⊢;rw [this];simp
theorem Pe (l:List (Str×V)) (h:Bi (l.map (·.1))=true):VL l=Ed l:=by
 have:=Ld l [] h;simpa [VL,Ed] using this
def Cp:Nat->List Dt->List (Str×V)
 | _,[]=>[]
 | i,d::r=>(d.name,.int .i64 i)::Cp (i+1) r
def Dp (i:Nat):Nat->List Cd->List (Str×V)
 | _,[]=>[]
 | k,c::r=>(c.name,.agg [.int .i64 i,.int .i64 k])::Dp i (k+1) r
def Dd:Nat->List Dt->List (Str×V)
 | _,[]=>[]
 | i,d::r=>Dp i 0 d.cons++Dd (i+1) r
theorem FQ:∀(i:Nat) (ds:List Dt),(Cp i ds).map (·.1)=Co ds
 | _,[]=>rfl
 | i,d::r=>by simp [Cp,Co];exact FQ (i+1) r
theorem L3 (i:Nat):∀(k:Nat) (cs:List Cd),(Dp i k cs).map (·.1)=cs.map Cd.name
 | _,[]=>rfl
 | k,c::r=>by simp [Dp];exact L3 i (k+1) r
theorem GX:∀(i:Nat) (ds:List Dt),(Dd i ds).map (·.1)=BO ds
 | _,[]=>rfl
 | i,d::r=>by simp only [Dd,List.map_append,L3,GX (i+1) r];simp [BO]
theorem Ka:∀(i:Nat) (a b:List Dt),Cp i (a++b)=Cp i a++Cp (i+a.length) b
 | _,[],_=>rfl
 | i,d::r,b=>by simp only [List.cons_append,Cp,List.length_cons,Ka (i+1) r b];rw [Nat.add_assoc,Nat.add_comm 1]
theorem Kc (i:Nat):∀(k:Nat) (a b:List Cd),Dp i k (a++b)=Dp i k a++Dp i (k+a.length) b
 | _,[],_=>rfl
 | k,d::r,b=>by simp only [List.cons_append,Dp,List.length_cons,Kc i (k+1) r b];rw [Nat.add_assoc,Nat.add_comm 1]
theorem L1:∀(i:Nat) (a b:List Dt),Dd i (a++b)=Dd i a++Dd (i+a.length) b
 | _,[],_=>rfl
 | i,d::r,b=>by simp only [List.cons_append,Dd,List.length_cons,L1 (i+1) r b,List.append_assoc];rw [Nat.add_assoc,Nat.add_comm 1]
theorem K1 (s:Str):∀(ds:List Dt) (i:Nat),Cc (Ed (Cp i ds)) (.str s)=if 0<=AP s i ds then some (.int .i64 (AP s i ds)) else none
 | [],i=>by simp [Cp,Ed,Cc,AP]
 | d::r,i=>by
  simp only [Cp,Ed,List.map_cons,Cc,U7,beq_iff_eq];by_cases h:s=d.name
  ·have:AP s i (d::r)=i:=by simp [AP,h]
   rw [this,if_pos h];simp
  ·have:AP s i (d::r)=AP s (i+1) r:=by simp only [AP];rw [if_neg (λe=>h e.symm)]
   rw [if_neg h,this];exact K1 s r (i+1)
def F0 (s:Str):Nat->List Dt->Option (Nat×Int)
 | _,[]=>none
 | i,d::r=>if 0<=(CD s 0 d.cons).2 then some (i,(CD s 0 d.cons).2) else F0 s (i+1) r
theorem PP (s:Str) (i:Nat) (rest:List (Str×V)):∀(cs:List Cd) (k:Nat),Cc (Ed (Dp i k cs++rest)) (.str s)=if 0<=(CD s k cs).2 then some (.agg [.int .i64 i,.int .i64 (CD s k cs).2]) else Cc (Ed rest) (.str s)
 | [],k=>by simp [Dp,CD]
 | c::r,k=>by
  simp only [Dp,Ed,List.cons_append,List.map_cons,Cc,U7,beq_iff_eq];by_cases h:s=c.name
  ·have:(CD s k (c::r)).2=k:=by simp [CD,h]
   rw [this,if_pos h];simp
  ·have:CD s k (c::r)=CD s (k+1) r:=by simp only [CD];rw [if_neg (λe=>h e.symm)]
   rw [if_neg h,this];exact PP s i rest r (k+1)
theorem M2 (s:Str):∀(ds:List Dt) (i:Nat),Cc (Ed (Dd i ds)) (.str s)=(match F0 s i ds with | some (a,b)=>some (.agg [.int .i64 a,.int .i64 b]) | none=>none)
 | [],i=>by simp [Dd,Ed,Cc,F0]
 | d::r,i=>by
  simp only [Dd,F0,PP]
  split
  ·rfl
  ·exact M2 s r (i+1)
theorem UM {s:Str}:∀{l:List Cd} {i:Nat},0<=(CD s i l).2->∃k,(CD s i l).2=((i+k:Nat):Int)/\l[k]?=some (CD s i l).1
 | [],i,h=>by simp [CD] at h
 | c::r,i,h=>by
  simp only [CD] at h ⊢;by_cases e:c.name=s
  ·rw [if_pos e];exact ⟨0,by simp,by simp⟩
  ·rw [if_neg e] at h ⊢;obtain ⟨k,h1,h2⟩:=UM (l:=r) h;exact ⟨k+1,by rw [h1];omega,by simpa using h2⟩
theorem Kx {s:Str}:∀{ds:List Dt} {i a:Nat} {b:Int},F0 s i ds=some (a,b)->∃k d,a=i+k/\ds[k]?=some d/\(CD s 0 d.cons).2=b/\0<=b
 | [],i,a,b,h=>by simp [F0] at h
 | d::r,i,a,b,h=>by
  simp only [F0] at h
  split at h
  ·rename_i h0;cases h;exact ⟨0,d,rfl,rfl,rfl,h0⟩
  ·obtain ⟨k,e,h1,h2,h3⟩:=Kx h;exact ⟨k+1,e,by omega,by simpa using h2,h3⟩
theorem PA {s:Str}:∀{ds:List Dt} {i:Nat},F0 s i ds=none->∀d∈ds,¬0<=(CD s 0 d.cons).2
 | [],i,_,d,hd=>by cases hd
 | e::r,i,h,d,hd=>by
  simp only [F0] at h
  split at h
  ·cases h
  ·rename_i h0;rcases List.mem_cons.1 hd with rfl | hd
   ·exact h0
   ·exact PA h d hd
theorem RR {ds:List Dt} {d:Dt} {c:Cd} (hd:d∈ds) (hc:c∈d.cons):c.name∈BO ds:=by
 simp only [BO,List.mem_flatMap];exact ⟨d,hd,List.mem_map.2 ⟨c,hc,rfl⟩⟩
theorem PN:∀{ds:List Dt} {i j:Nat} {d e:Dt} {c c':Cd},(BO ds).Nodup->ds[i]?=some d->ds[j]?=some e->c∈d.cons->c'∈e.cons->c.name=c'.name->i=j
 | [],i,j,d,e,c,c',_,h,_,_,_,_=>by simp at h
 | x::r,i,j,d,e,c,c',hn,hi,hj,hc,hc',hs=>by
  have hn':(x.cons.map Cd.name++BO r).Nodup:=by simpa [BO] using hn
  obtain ⟨n1,n2,n3⟩:=List.nodup_append.1 hn';cases i with
  | zero =>
   simp at hi;subst hi;cases j with
   | zero=>rfl
   | succ j=>exact absurd hs (n3 _ (List.mem_map.2 ⟨c,hc,rfl⟩) _ (RR (List.mem_of_getElem? (by simpa using hj)) hc'))
  | succ i =>
   cases j with
   | zero =>
    simp at hj;subst hj;exact absurd hs.symm (n3 _ (List.mem_map.2 ⟨c',hc',rfl⟩) _ (RR (List.mem_of_getElem? (by simpa using hi)) hc))
   | succ j=>exact congrArg (· + 1) (PN n2 (by simpa using hi) (by simpa using hj) hc hc' hs)
theorem U0 {ds:List Dt} (hn:Bi (BO ds)=true) {n:Int} {x s:Str} {ps:List Ty} (hp:0<=AP x 0 ds) :
  (match F0 s 0 ds with | some (a,b)=>(decide ((a:Int)=AP x 0 ds)=decide (0<=(B6 ds (.mk 8 n x ps) s).2))/\((a:Int)=AP x 0 ds->∃d,ds[a]?=some d/\0<=b/\d.cons[b.toNat]?=some (B6 ds (.mk 8 n x ps) s).1)/\a<ds.length | none=>(B6 ds (.mk 8 n x ps) s).2<0):=by
 have hn:=N0.1 hn;obtain ⟨k,d,h1,h2,h3⟩:=Gp x ds 0 hp;have hcD:B6 ds (.mk 8 n x ps) s=CD s 0 d.cons:=by simp [B6,h1,h2]
 rw [hcD];cases hf:F0 s 0 ds with
 | none =>
  have:=PA hf d (List.mem_of_getElem? h2);simp only;omega
 | some p =>
  obtain ⟨a,b⟩:=p;obtain ⟨k',e,q1,q2,q3,q4⟩:=Kx hf;simp only [Nat.zero_add] at q1;subst q1;have hget:=UM (s:=s) (l:=e.cons) (i:=0) (by omega);obtain ⟨j,j1,j2⟩:=hget;have hlt:a<ds.length:=(List.getElem?_eq_some_iff.1 q2).1;refine ⟨?_,λha=>?_,hlt⟩
  ·rw [h1];by_cases hc:0<=(CD s 0 d.cons).2
   ·have m1:=Jm (s:=s) (l:=d.cons) (i:=0) hc;have m2:=Jm (s:=s) (l:=e.cons) (i:=0) (by omega);have:=PN hn q2 h2 m2.1 m1.1 (m2.2.trans m1.2.symm);subst this;simp [hc]
   ·have:a≠k:=λhe=>by
     subst he;rw [h2] at q2;cases q2;exact hc (by omega)
    simp [hc];omega
  ·have hak:a=k:=by omega
   subst hak;rw [h2] at q2;cases q2;refine ⟨d,h2,q4,?_⟩;rw [<- q3,j1];simpa using j2
def Zz (c:Cse) (sz:List (List V)):List V:=dCse c++[.mapv (Ed (Cp 0 c.datas)),.mapv (Ed (Dd 0 c.datas)),.sl sz]
def AL (c:Cse) (sz:List (List V)):V:=.ip 181 (Zz c sz) 0
mutual
def D7 (q:Ty->Bool):Ty->Bool
 | .mk s n x ps=>q (.mk s n x ps)&&DJ q ps
def DJ (q:Ty->Bool):List Ty->Bool
 | []=>true
 | t::r=>D7 q t&&DJ q r
end
theorem QM (f:FuncId) (a b:List V) (q:Ty->Bool) (hq:∀t,Ak Tryz.prog f (a++[.agg (Al t)]++b) (.bool (q t))):∀t:Ty,Ak Tryz.prog 103 [.agg (Al t),.clo (.func f) a b] (.bool (D7 q t))
 | .mk s n x ps=>by
  refine AM λhv=>?_;simp [BX,Eh,Al,maxLen] at hv;simp only [D7];have hq0:=hq (.mk s n x ps);generalize q (.mk s n x ps)=c at *;refine Ae A5 Tryz.func103 (by decide +kernel) rfl [2,3,4,5] rfl rfl ?_;refine bg [] rfl (by simp) ?_;refine Od rfl (λ_=>hq0) (by simp) ?_;refine bg [] rfl (by simp) ?_;cases c with
  | false =>
   refine Aa rfl (λh=>?_) (λh=>by simp at h);refine bd [] rfl (by simp) ?_;exact Ab ⟨_,rfl,tV rfl,trivial⟩
  | true =>
  refine Aa rfl (λh=>by simp at h) (λh=>?_);clear h;refine bd [] rfl (by simp) ?_;rw [Bool.true_and];refine Aj (λi:Nat=>[(14,.imm (.int .i64 i)),(13,.imm (.int .i64 ps.length)),(12,.imm (.sl (Bg ps))),(1,.imm (.clo (.func f) a b))]) (λ_=>[]) [2,3,4,5] (λi=>ps.length-i)
   (λi=>i<=ps.length/\DJ q ps=DJ q (ps.drop i)) 0 ⟨Nat.zero_le _,rfl⟩ ⟨rfl,At (by simp),rfl,rfl,trivial⟩ trivial rfl λi hi ih=>?_
  obtain ⟨hi1,hi2⟩:=hi;refine bd [] rfl (by simp) ?_;refine Aa rfl (λh=>?_) (λh=>?_)
  ·simp at h;obtain ⟨t,ht⟩:=Am h;rw [Ap ht] at hi2;simp only [DJ] at hi2;refine bd [] rfl (by simp) ?_;refine bi rfl (c:=Al t) (λ_=>⟨by simp,by simpa using Av ht,by simp⟩) (by simp) ?_;refine bg [] rfl (by simp) ?_;refine Ac rfl (λ_=>QM f a b q hq t) (by simp) ?_;refine bg [] rfl (by simp) ?_;refine Aa rfl (λh=>?_) (λh=>?_)
   ·refine bd [] rfl (by simp) ?_;refine Ab ⟨_,rfl,tV (congrArg _ ?_),trivial⟩;simp at h;simp [hi2,h]
   ·refine bd [] rfl (by simp) ?_;simp at h;exact Ad (ih (i+1) (by omega) ⟨by omega,by rw [hi2];simp [h]⟩) ⟨At (Bv (by omega) (by omega)),rfl,rfl,rfl,trivial⟩ trivial rfl
  ·simp at h;refine Ar rfl ?_;refine bd [] rfl (by simp) ?_;rw [hi2,List.drop_eq_nil_of_le (by omega)];exact Ab ⟨_,rfl,tV rfl,trivial⟩
termination_by t=>SizeOf.sizeOf t
decreasing_by
 have:=List.sizeOf_lt_of_mem (List.mem_of_getElem? ht);simp_wf;omega
theorem Ox (f:FuncId) (q:Ty->Bool) (hq:∀t,Ak Tryz.prog f [.agg (Al t)] (.bool (q t))):∀t:Ty,Ak Tryz.prog 103 [.agg (Al t),.fn (.func f)] (.bool (D7 q t))
 | .mk s n x ps=>by
  refine AM λhv=>?_;simp [BX,Eh,Al,maxLen] at hv;simp only [D7];have hq0:=hq (.mk s n x ps);generalize q (.mk s n x ps)=c at *;refine Ae A5 Tryz.func103 (by decide +kernel) rfl [2,3,4,5] rfl rfl ?_;refine bg [] rfl (by simp) ?_;refine Ac rfl (λ_=>hq0) (by simp) ?_;refine bg [] rfl (by simp) ?_;cases c with
  | false =>
   refine Aa rfl (λh=>?_) (λh=>by simp at h);refine bd [] rfl (by simp) ?_;exact Ab ⟨_,rfl,tV rfl,trivial⟩
  | true =>
  refine Aa rfl (λh=>by simp at h) (λh=>?_);clear h;refine bd [] rfl (by simp) ?_;rw [Bool.true_and];refine Aj (λi:Nat=>[(14,.imm (.int .i64 i)),(13,.imm (.int .i64 ps.length)),(12,.imm (.sl (Bg ps))),(1,.imm (.fn (.func f)))]) (λ_=>[]) [2,3,4,5] (λi=>ps.length-i)
   (λi=>i<=ps.length/\DJ q ps=DJ q (ps.drop i)) 0 ⟨Nat.zero_le _,rfl⟩ ⟨rfl,At (by simp),rfl,rfl,trivial⟩ trivial rfl λi hi ih=>?_
  obtain ⟨hi1,hi2⟩:=hi;refine bd [] rfl (by simp) ?_;refine Aa rfl (λh=>?_) (λh=>?_)
  ·simp at h;obtain ⟨t,ht⟩:=Am h;rw [Ap ht] at hi2;simp only [DJ] at hi2;refine bd [] rfl (by simp) ?_;refine bi rfl (c:=Al t) (λ_=>⟨by simp,by simpa using Av ht,by simp⟩) (by simp) ?_;refine bg [] rfl (by simp) ?_;refine Ac rfl (λ_=>Ox f q hq t) (by simp) ?_;refine bg [] rfl (by simp) ?_;refine Aa rfl (λh=>?_) (λh=>?_)
   ·refine bd [] rfl (by simp) ?_;refine Ab ⟨_,rfl,tV (congrArg _ ?_),trivial⟩;simp at h;simp [hi2,h]
   ·refine bd [] rfl (by simp) ?_;simp at h;exact Ad (ih (i+1) (by omega) ⟨by omega,by rw [hi2];simp [h]⟩) ⟨At (Bv (by omega) (by omega)),rfl,rfl,rfl,trivial⟩ trivial rfl
  ·simp at h;refine Ar rfl ?_;refine bd [] rfl (by simp) ?_;rw [hi2,List.drop_eq_nil_of_le (by omega)];exact Ab ⟨_,rfl,tV rfl,trivial⟩
termination_by t=>SizeOf.sizeOf t
decreasing_by
 have:=List.sizeOf_lt_of_mem (List.mem_of_getElem? ht);simp_wf;omega
def Je (ds:List Dt) (x:Str):Int:=if 0<=AP x 0 ds then AP x 0 ds else 0
theorem VM (ds:List Dt) (x:Str):D5 true (Ed (Cp 0 ds)) (.str x) (.int .i64 0) = .imm (.tup [.int .i64 (Je ds x),.bool (decide (0<=AP x 0 ds))]):=by
 simp only [D5,K1,Je];by_cases h:0<=AP x 0 ds <;> simp [h]
theorem GS (ds:List Dt) (x:Str):D5 false (Ed (Cp 0 ds)) (.str x) (.int .i64 0) = .imm (.int .i64 (Je ds x)):=by
 simp only [D5,K1,Je];by_cases h:0<=AP x 0 ds <;> simp [h]
def CH (ds:List Dt) (s:Str):Nat×Int:=match F0 s 0 ds with
 | some p=>p
 | none=>(0,0)
theorem Y6 (ds:List Dt) (s:Str):D5 true (Ed (Dd 0 ds)) (.str s) (.agg [.int .i64 0,.int .i64 0]) = .imm (.tup [.agg [.int .i64 (CH ds s).1,.int .i64 (CH ds s).2],.bool (F0 s 0 ds).isSome]):=by
 simp only [D5,M2,CH];cases h:F0 s 0 ds with
 | none=>simp
 | some p=>obtain ⟨a,b⟩:=p;simp
def Mf (ds:List Dt):Ty->Bool
 | .mk s _ x _=>decide (0<=AP x 0 ds) || !(s == 8)
theorem Y2 (c:Cse) (sz:List (List V)) (t:Ty):Ak Tryz.prog 145 [.agg (Al t),.ip 102 [AL c sz] 0] (.bool (Mf c.datas t)):=by
 obtain ⟨ds,⟨c1,c2,c3,c4⟩,rows⟩:=c;obtain ⟨s,n,x,ps⟩:=t;refine Sx ?_;refine Ae A5 Tryz.func145 (by decide +kernel) rfl [2,3,4,5] rfl rfl ?_;refine bg [] rfl (by simp) ?_;refine Fy A5 rfl rfl rfl (DV _) (by simp [Ag]) (z:=.int .i64 0) rfl (λ_=>.int _ _) (VM ds x) ?_;refine bg [] rfl (by simp [Ag];rfl) ?_;refine Ab ⟨_,rfl,tV (congrArg _ ?_),trivial⟩;simp [Mf,bne]
mutual
theorem KG (ds:List Dt):∀t:Ty,D7 (Mf ds) t=AD ds t
 | .mk s n x ps=>by
  simp only [D7,AD,JQ ds ps,Mf];congr 1;by_cases h:0<=AP x 0 ds
  ·simp [h]
  ·simp [h]
theorem JQ (ds:List Dt):∀l:List Ty,DJ (Mf ds) l=Bh ds l
 | []=>rfl
 | t::r=>by simp only [DJ,Bh,KG ds t,JQ ds r]
end
theorem QD (c:Cse) (sz:List (List V)) (t:Ty):Ak Tryz.prog 102 [AL c sz,.agg (Al t)] (.bool (AD c.datas t)):=by
 rw [<- KG];obtain ⟨s,n,x,ps⟩:=t;refine Ae A5 Tryz.func102 (by decide +kernel) rfl [2,3,4,5] rfl rfl ?_;refine bg [] rfl (by simp) ?_;refine GU rfl (λ_=>QM 145 [] [.ip 102 [AL c sz] 0] (Mf c.datas) (λt=>Y2 c sz t) (.mk s n x ps)) rfl (by simp) ?_;refine bg [] rfl (by simp) ?_;exact Ab ⟨_,rfl,tV rfl,trivial⟩
theorem Tc (t:Ty):Ak Tryz.prog 104 [.agg (Al t)] (.bool (match t with | .mk s _ _ _=>!(s == 9))):=by
 obtain ⟨s,n,x,ps⟩:=t;refine Ae A5 Tryz.func104 (by decide +kernel) rfl [2,3,4,5] rfl rfl ?_;refine bg [] rfl (by simp) ?_;refine Ab ⟨_,rfl,tV (congrArg _ ?_),trivial⟩;simp [bne]
def Bj (ds:List Dt) (t:Ty) (s:Str):List Ty×Bool:=bif decide (0<=(B6 ds t s).2) then ((B6 ds t s).1.args,true) else ([],false)
set_option maxHeartbeats 1000000 in
theorem Ol (c:Cse) (sz:List (List V)) (t:Ty) (s:Str) (hn:Bi (BO c.datas)=true) (ht:AD c.datas t=true) :
  Ak Tryz.prog 138 [AL c sz,.agg (Al t),.str s] (.tup [.sl (Bg (Bj c.datas t s).1),.bool (Bj c.datas t s).2]):=by
 obtain ⟨ds,⟨c1,c2,c3,c4⟩,rows⟩:=c;obtain ⟨so,n,x,ps⟩:=t;simp only at hn ht;refine Ae A5 Tryz.func138 (by decide +kernel) rfl [2,3,4,5] rfl rfl ?_;refine bg [] rfl (by simp) ?_;refine Fy A5 rfl rfl rfl (DV _) (by simp [Ag]) (z:=.agg #[.int .i64 0,.int .i64 0]) rfl (λ_=>.agg _ _ rfl (by decide) (λi c x h1 h2=>by match i,h1,h2 with | 0,h1,h2=>cases h1;cases h2;exact .int _ _ | 1,h1,h2=>cases h1;cases h2;exact .int _ _ | i+2,h1,h2=>simp at h2)) (Y6 ds s) ?_;refine bg [] rfl (by simp) ?_;by_cases h8:so=8
 case neg =>
  refine Fy A5 rfl rfl rfl (DV _) (by simp [Ag]) (z:=.int .i64 0) rfl (λ_=>.int _ _) (GS ds x) ?_;refine bg [] rfl (by simp [Ag];rfl) ?_;refine Aa rfl (λh=>?_) (λh=>by simp [h8] at h);refine bd [] rfl (by simp) ?_;rw [show Bj ds (.mk so n x ps) s=([],false) by simp [Bj,B6,h8]];exact Ab ⟨_,rfl,tV rfl,trivial⟩
 subst h8;have hp:=(Cu ht 8 n x ps rfl rfl).1;have hf:=U0 hn (n:=n) (s:=s) (ps:=ps) hp;refine Fy A5 rfl rfl rfl (DV _) (by simp [Ag]) (z:=.int .i64 0) rfl (λ_=>.int _ _) (GS ds x) ?_;refine bg [] rfl (by simp [Ag];rfl) ?_;rw [show Je ds x=AP x 0 ds by simp [Je,hp]];unfold CH;cases hfs:F0 s 0 ds with
 | none =>
  rw [hfs] at hf;refine Aa rfl (λh=>?_) (λh=>by simp at h);refine bd [] rfl (by simp) ?_;have hf:¬0<=(B6 ds (.mk 8 n x ps) s).2:=by have:(B6 ds (.mk 8 n x ps) s).2<0:=hf;omega
  rw [show Bj ds (.mk 8 n x ps) s=([],false) by simp [Bj,hf]];exact Ab ⟨_,rfl,tV rfl,trivial⟩
 | some p =>
  obtain ⟨a,b⟩:=p;rw [hfs] at hf;obtain ⟨hf1,hf2,hf3⟩:=hf;refine Aa rfl (λh=>?_) (λh=>?_)
  ·refine bd [] rfl (by simp) ?_;have:¬0<=(B6 ds (.mk 8 n x ps) s).2:=by
    have:¬((a:Int)=AP x 0 ds):=by simp at h;exact λe=>h e.symm
    simpa [this] using hf1
   rw [show Bj ds (.mk 8 n x ps) s=([],false) by simp [Bj,this]];exact Ab ⟨_,rfl,tV rfl,trivial⟩
  ·have ha:(a:Int)=AP x 0 ds:=by simp at h;exact h.symm
   obtain ⟨d,hd,hb,hc⟩:=hf2 ha;have hc0:0<=(B6 ds (.mk 8 n x ps) s).2:=by simpa [ha] using hf1
   rw [show Bj ds (.mk 8 n x ps) s=((B6 ds (.mk 8 n x ps) s).1.args,true) by simp [Bj,hc0]];generalize (B6 ds (.mk 8 n x ps) s).1=k at *;refine bd [] rfl (by simp) ?_;refine bi rfl (c:=BU d) (λ_=>⟨by simp,by simpa using AQ hd,by simp⟩) (by simp) ?_;obtain ⟨dn,dc⟩:=d;refine bg [] rfl (by simp) ?_;refine bi rfl (c:=Cw k) (λ_=>⟨hb,by simpa using AQ hc,by simp⟩) (by simp) ?_;obtain ⟨kn,ka⟩:=k;refine bg [] rfl (by simp;rfl) ?_;exact Ab ⟨_,rfl,tV rfl,trivial⟩
theorem Dr {ds:List Dt} (ho:OkD ds) {t:Ty} {s:Str}:Bh ds (Bj ds t s).1=true:=by
 unfold Bj;by_cases h:0<=(B6 ds t s).2
 ·simpa [h] using Io ho h
 ·simp [h,Bh]
def J1 (ds:List Dt):Ty->Ty->Bool
 | .mk so m x0 qs,.mk f _ x ps=>if f=3 then so == 1 else if f=4 then so == 2 else if f=5 then so == 3 else if f=6 then decide ((Bj ds (.mk so m x0 qs) x).1.length=ps.length)&&((Bj ds (.mk so m x0 qs) x).2&&Cm ds (Bj ds (.mk so m x0 qs) x).1 ps) else true
theorem LY (ds:List Dt):∀t p:Ty,Cn ds t p=J1 ds t p
 | .mk so m x0 qs,.mk f k x ps=>by
  simp only [Cn,J1,Bj];rw [Ip ds so 0 m x0 x [] qs];by_cases h:0<=(B6 ds (.mk so m x0 qs) x).2
  ·simp [h]
  ·simp [h]
def S6 (ds:List Dt):Ty->Ty->Bool
 | .mk so m x0 qs,.mk f _ x ps=>if so=1 then f == 1 else if so=2 then f == 2 else if so=3 then f == 3 else if so=8 then decide (f=4)&&(decide ((Bj ds (.mk so m x0 qs) x).1.length=ps.length)&&((Bj ds (.mk so m x0 qs) x).2&&JO ds (Bj ds (.mk so m x0 qs) x).1 ps)) else f == 5
theorem VG (ds:List Dt):∀t p:Ty,Lc ds t p=S6 ds t p
 | .mk so m x0 qs,.mk f k x ps=>by
  simp only [Lc,S6,Bj];rw [Ip ds so 0 m x0 x [] qs];by_cases h:0<=(B6 ds (.mk so m x0 qs) x).2
  ·simp [h]
  ·simp [h]
set_option maxHeartbeats 1000000 in
theorem X1 (c:Cse) (sz:List (List V)) (ho:OkD c.datas) (hd:Bi (BO c.datas)=true):∀(p t:Ty),AD c.datas t=true->Ak Tryz.prog 106 [AL c sz,.agg (Al t),.agg (Al p)] (.bool (Cn c.datas t p))
 | .mk f n x ps,t,hn=>by
  have hcon:=Ol c sz t x hd hn;have hnm:=Dr ho (t:=t) (s:=x);have hS:Cn c.datas t (.mk f n x ps)=J1 c.datas t (.mk f n x ps):=LY c.datas t (.mk f n x ps);rw [hS];obtain ⟨so,n0,x0,ps0⟩:=t;simp only [J1];generalize Bj c.datas (.mk so n0 x0 ps0) x=r at *;obtain ⟨ka,kb⟩:=r;refine AM λhv=>?_;simp [BX,Eh,Al,maxLen] at hv;refine Ae A5 Tryz.func106 (by decide +kernel) rfl [2,3,4,5,6,7] rfl rfl ?_;refine bg [] rfl (by simp) ?_;by_cases h3:f=3
  ·subst h3;refine Aa rfl (λh=>?_) (λh=>by simp at h);refine bd [] rfl (by simp) ?_;refine Ab ⟨_,rfl,tV (congrArg _ ?_),trivial⟩;simp
  rw [if_neg h3];refine Aa rfl (λh=>absurd (by simpa using h) h3) (λh=>?_);clear h;refine bd [] rfl (by simp) ?_;by_cases h4:f=4
  ·subst h4;refine Aa rfl (λh=>?_) (λh=>by simp at h);refine bd [] rfl (by simp) ?_;refine Ab ⟨_,rfl,tV (congrArg _ ?_),trivial⟩;simp
  rw [if_neg h4];refine Aa rfl (λh=>absurd (by simpa using h) h4) (λh=>?_);clear h;refine bd [] rfl (by simp) ?_;by_cases h5:f=5
  ·subst h5;refine Aa rfl (λh=>?_) (λh=>by simp at h);refine bd [] rfl (by simp) ?_;refine Ab ⟨_,rfl,tV (congrArg _ ?_),trivial⟩;simp
  rw [if_neg h5];refine Aa rfl (λh=>absurd (by simpa using h) h5) (λh=>?_);clear h;refine bd [] rfl (by simp) ?_;by_cases h6:f=6
  case neg =>
   rw [if_neg h6];refine Aa rfl (λh=>absurd (by simpa using h) h6) (λh=>?_);refine bd [] rfl (by simp) ?_;refine Ab ⟨_,rfl,tV (congrArg _ ?_),trivial⟩;simp
  rw [if_pos h6];refine Aa rfl (λh=>?_) (λh=>by simp [h6] at h);clear h;refine bd [] rfl (by simp) ?_;refine Ac rfl (λ_=>hcon) (by simp) ?_;refine bg [] rfl (by simp) ?_;by_cases hg:ka.length=ps.length/\kb=true
  case neg =>
   refine Aa rfl (λh=>?_) (λh=>?_)
   ·refine bd [] rfl (by simp) ?_;refine Ab ⟨_,rfl,tV (congrArg _ ?_),trivial⟩;simp;grind
   ·exfalso;simp at h;apply hg;grind
  obtain ⟨hlen,rfl⟩:=hg;refine Aa rfl (λh=>by exfalso;simp [hlen] at h) (λh=>?_);clear h;refine bd [] rfl (by simp) ?_;simp only [hlen,decide_true,Bool.true_and];refine Aj (λi:Nat=>[(51,.imm (.int .i64 i)),(50,.imm (.int .i64 ps.length)),(49,.imm (.sl (Bg ps))),(0,.imm (AL c sz)),(7,.imm (.sl (Bg ka)))]) (λ_=>[]) [4,5,6,7] (λi=>ps.length-i)
   (λi=>i<=ps.length/\Cm c.datas ka ps=Cm c.datas (ka.drop i) (ps.drop i)) 0 ⟨Nat.zero_le _,rfl⟩ ⟨rfl,At (by simp),rfl,rfl,rfl,trivial⟩ trivial rfl λi hi ih=>?_
  obtain ⟨hi1,hi2⟩:=hi;refine bd [] rfl (by simp) ?_;refine Aa rfl (λh=>?_) (λh=>?_)
  ·simp at h;obtain ⟨p,hp⟩:=Am h;obtain ⟨a,ha⟩:=Am (l:=ka) (i:=i) (by omega);rw [Ap hp,Ap ha] at hi2;simp only [Cm] at hi2;refine bd [] rfl (by simp) ?_;refine bi rfl (c:=Al p) (λ_=>⟨by simp,by simpa using Av hp,by simp⟩) (by simp) ?_;refine bg [] rfl (by simp) ?_;refine bi rfl (c:=Al a) (λ_=>⟨by simp,by simpa using Av ha,by simp⟩) (by simp) ?_;refine bg [] rfl (by simp) ?_;refine Ac rfl (λ_=>X1 c sz ho hd p a (Dj hnm ha)) (by simp) ?_;refine bg [] rfl (by simp;rfl) ?_;refine Aa rfl (λh=>?_) (λh=>?_)
   ·refine bd [] rfl (by simp) ?_;refine Ab ⟨_,rfl,tV (congrArg _ ?_),trivial⟩;simp at h;simp [hi2,h]
   ·refine bd [] rfl (by simp) ?_;simp at h;exact Ad (ih (i+1) (by omega) ⟨by omega,by rw [hi2];simp [h]⟩) ⟨At (Bv (by omega) (by omega)),rfl,rfl,rfl,rfl,trivial⟩ trivial rfl
  ·simp at h;refine Ar rfl ?_;refine bd [] rfl (by simp) ?_;rw [hi2,List.drop_eq_nil_of_le (by omega),List.drop_eq_nil_of_le (by omega)];exact Ab ⟨_,rfl,tV rfl,trivial⟩
termination_by p=>SizeOf.sizeOf p
decreasing_by
 have:=List.sizeOf_lt_of_mem (List.mem_of_getElem? hp);simp_wf;omega
set_option maxHeartbeats 1000000 in
theorem gZ (c:Cse) (sz:List (List V)) (ho:OkD c.datas) (hd:Bi (BO c.datas)=true):∀(p t:Ty),AD c.datas t=true->Ak Tryz.prog 89 [AL c sz,.agg (Al t),.agg (Al p)] (.bool (Lc c.datas t p))
 | .mk f n x ps,t,hn=>by
  have hcon:=Ol c sz t x hd hn;have hnm:=Dr ho (t:=t) (s:=x);have hS:Lc c.datas t (.mk f n x ps)=S6 c.datas t (.mk f n x ps):=VG c.datas t (.mk f n x ps);rw [hS];obtain ⟨so,n0,x0,ps0⟩:=t;simp only [S6];generalize Bj c.datas (.mk so n0 x0 ps0) x=r at *;obtain ⟨ka,kb⟩:=r;refine AM λhv=>?_;simp [BX,Eh,Al,maxLen] at hv;refine Ae A5 Tryz.func89 (by decide +kernel) rfl [2,3,4,5,6,7] rfl rfl ?_;refine bg [] rfl (by simp) ?_;by_cases h1:so=1
  ·subst h1;refine Aa rfl (λh=>?_) (λh=>by simp at h);refine bd [] rfl (by simp) ?_;refine Ab ⟨_,rfl,tV (congrArg _ ?_),trivial⟩;simp
  rw [if_neg h1];refine Aa rfl (λh=>absurd (by simpa using h) h1) (λh=>?_);clear h;refine bd [] rfl (by simp) ?_;by_cases h2:so=2
  ·subst h2;refine Aa rfl (λh=>?_) (λh=>by simp at h);refine bd [] rfl (by simp) ?_;refine Ab ⟨_,rfl,tV (congrArg _ ?_),trivial⟩;simp
  rw [if_neg h2];refine Aa rfl (λh=>absurd (by simpa using h) h2) (λh=>?_);clear h;refine bd [] rfl (by simp) ?_;by_cases h3:so=3
  ·subst h3;refine Aa rfl (λh=>?_) (λh=>by simp at h);refine bd [] rfl (by simp) ?_;refine Ab ⟨_,rfl,tV (congrArg _ ?_),trivial⟩;simp
  rw [if_neg h3];refine Aa rfl (λh=>absurd (by simpa using h) h3) (λh=>?_);clear h;refine bd [] rfl (by simp) ?_;by_cases h8:so=8
  case neg =>
   rw [if_neg h8];refine Aa rfl (λh=>absurd (by simpa using h) h8) (λh=>?_);refine bd [] rfl (by simp) ?_;refine Ab ⟨_,rfl,tV (congrArg _ ?_),trivial⟩;simp
  rw [if_pos h8];refine Aa rfl (λh=>?_) (λh=>by simp [h8] at h);clear h;refine bd [] rfl (by simp) ?_;refine Ac rfl (λ_=>hcon) (by simp) ?_;refine bg [] rfl (by simp) ?_;by_cases hg:f=4/\ka.length=ps.length/\kb=true
  case neg =>
   refine Aa rfl (λh=>?_) (λh=>?_)
   ·refine bd [] rfl (by simp) ?_;refine Ab ⟨_,rfl,tV (congrArg _ ?_),trivial⟩;simp;grind
   ·exfalso;simp at h;apply hg;grind
  obtain ⟨rfl,hlen,rfl⟩:=hg;refine Aa rfl (λh=>by exfalso;simp [hlen] at h) (λh=>?_);clear h;refine bd [] rfl (by simp) ?_;simp only [hlen,decide_true,Bool.true_and];refine Aj (λi:Nat=>[(56,.imm (.int .i64 i)),(55,.imm (.int .i64 ps.length)),(54,.imm (.sl (Bg ps))),(0,.imm (AL c sz)),(7,.imm (.sl (Bg ka)))]) (λ_=>[]) [4,5,6,7] (λi=>ps.length-i)
   (λi=>i<=ps.length/\JO c.datas ka ps=JO c.datas (ka.drop i) (ps.drop i)) 0 ⟨Nat.zero_le _,rfl⟩ ⟨rfl,At (by simp),rfl,rfl,rfl,trivial⟩ trivial rfl λi hi ih=>?_
  obtain ⟨hi1,hi2⟩:=hi;refine bd [] rfl (by simp) ?_;refine Aa rfl (λh=>?_) (λh=>?_)
  ·simp at h;obtain ⟨p,hp⟩:=Am h;obtain ⟨a,ha⟩:=Am (l:=ka) (i:=i) (by omega);rw [Ap hp,Ap ha] at hi2;simp only [JO] at hi2;refine bd [] rfl (by simp) ?_;refine bi rfl (c:=Al p) (λ_=>⟨by simp,by simpa using Av hp,by simp⟩) (by simp) ?_;refine bg [] rfl (by simp) ?_;refine bi rfl (c:=Al a) (λ_=>⟨by simp,by simpa using Av ha,by simp⟩) (by simp) ?_;refine bg [] rfl (by simp) ?_;refine Ac rfl (λ_=>gZ c sz ho hd p a (Dj hnm ha)) (by simp) ?_;refine bg [] rfl (by simp;rfl) ?_;refine Aa rfl (λh=>?_) (λh=>?_)
   ·refine bd [] rfl (by simp) ?_;refine Ab ⟨_,rfl,tV (congrArg _ ?_),trivial⟩;simp at h;simp [hi2,h]
   ·refine bd [] rfl (by simp) ?_;simp at h;exact Ad (ih (i+1) (by omega) ⟨by omega,by rw [hi2];simp [h]⟩) ⟨At (Bv (by omega) (by omega)),rfl,rfl,rfl,rfl,trivial⟩ trivial rfl
  ·simp at h;refine Ar rfl ?_;refine bd [] rfl (by simp) ?_;rw [hi2,List.drop_eq_nil_of_le (by omega),List.drop_eq_nil_of_le (by omega)];exact Ab ⟨_,rfl,tV rfl,trivial⟩
termination_by p=>SizeOf.sizeOf p
decreasing_by
 have:=List.sizeOf_lt_of_mem (List.mem_of_getElem? hp);simp_wf;omega
theorem Wk (g:FuncId) (a b:List V) (q:List V->Bool) (es:List (List V)) (hes:∀e∈es,e.length=4) (hlen:es.length<=9223372036854775807)
  (hq:∀e∈es,Ak Tryz.prog g (a++[.agg e]++b) (.bool (q e))) :
  Ak Tryz.prog 185 [.sl es,.clo (.func g) a b] (.int .i64 (Ef q es 0)):=by
 refine Ae A5 Tryz.func185 (by decide +kernel) rfl [2,3,4] rfl rfl ?_;refine bg [] rfl (by simp) ?_;refine Aj (λi:Nat=>[(8,.imm (.int .i64 i)),(7,.imm (.int .i64 es.length)),(0,.imm (.sl es)),(1,.imm (.clo (.func g) a b))]) (λ_=>[]) [2,3,4] (λi=>es.length-i)
  (λi=>i<=es.length/\Ef q es 0=Ef q (es.drop i) i) 0 ⟨Nat.zero_le _,rfl⟩ ⟨rfl,At (by simp),rfl,rfl,trivial⟩ trivial rfl λi hi ih=>?_
 refine bd [] rfl (by simp) ?_;have hi2:=hi.2;refine Aa rfl (λh=>?_) (λh=>?_)
 ·simp at h;obtain ⟨e,he⟩:=Am h;have hm:=List.mem_of_getElem? he;rw [Ap he] at hi2;refine bd [] rfl (by simp) ?_;refine bi rfl (c:=e) (λ_=>⟨by simp,by simpa using he,hes e hm⟩) (by simp) ?_;refine bg [] rfl (by simp [hes e hm]) ?_;refine Od rfl (λ_=>hq e hm) (by simp) ?_;refine bg [] rfl (by simp) ?_;refine Aa rfl (λh=>?_) (λh=>?_)
  ·refine bd [] rfl (by simp) ?_;exact Ab ⟨_,rfl,tV (congrArg _ (by rw [hi2];simp [Ef,h])),trivial⟩
  ·refine bd [] rfl (by simp) ?_;exact Ad (ih (i+1) (by omega) ⟨by omega,by rw [hi2];simp [Ef,h]⟩) ⟨At (Bv (by omega) (by omega)),rfl,rfl,rfl,trivial⟩ trivial rfl
 ·refine bd [] rfl (by simp) ?_;simp at h;refine Ab ⟨_,rfl,tV (congrArg _ ?_),trivial⟩;rw [hi2,List.drop_eq_nil_of_le (by omega)];rfl
theorem Q6 (g:FuncId) (a b:List V) (q:List V->Bool) (es:List (List V)) (hes:∀e∈es,e.length=4) (hlen:es.length<=9223372036854775807)
  (hq:∀e∈es,Ak Tryz.prog g (a++[.agg e]++b) (.bool (q e))) :
  Ak Tryz.prog 142 [.sl es,.clo (.func g) a b] (.bool (es.any q)):=by
 refine Ae A5 Tryz.func142 (by decide +kernel) rfl [2,3,4] rfl rfl ?_;refine bg [] rfl (by simp) ?_;refine Ac rfl (λ_=>Wk g a b q es hes hlen hq) (by simp) ?_;refine bg [] rfl (by simp) ?_;refine Ab ⟨_,rfl,tV (congrArg _ ?_),trivial⟩;rw [Bool.eq_iff_iff,<- H7 q es 0];simp
theorem aO (c:Cse) (sz:List (List V)) (t:Ty):Ak Tryz.prog 143 [.agg (Al t),.ip 102 [AL c sz] 0] (.bool (!AD c.datas t)):=by
 have hN:=QD c sz t;obtain ⟨s,n,x,ps⟩:=t;generalize AD c.datas (.mk s n x ps)=b at *;refine Sx ?_;refine Ae A5 Tryz.func143 (by decide +kernel) rfl [2,3,4,5] rfl rfl ?_;refine bg [] rfl (by simp) ?_;refine Ac rfl (λ_=>hN) (by simp) ?_;refine bg [] rfl (by simp) ?_;exact Ab ⟨_,rfl,tV rfl,trivial⟩
theorem SV (c:Cse) (sz:List (List V)) (ts:List Ty) (h:ts.length<=9223372036854775807) :
  Ak Tryz.prog 142 [.sl (Bg ts),.clo (.func 143) [] [.ip 102 [AL c sz] 0]] (.bool (!Bh c.datas ts)):=by
 have:=Q6 143 [] [.ip 102 [AL c sz] 0] (qOf Al (λt=>!AD c.datas t)) (Bg ts) (λe he=>by rw [Cq] at he;obtain ⟨t,_,rfl⟩:=List.mem_map.1 he;simp) (by simpa using h)
  (λe he=>by
   rw [Cq] at he;obtain ⟨t,ht,rfl⟩:=List.mem_map.1 he;rw [IC GA];exact aO c sz t)
 rw [Cq,List.any_map,show (qOf Al (λt=>!AD c.datas t) ∘ Al)=(λt=>!AD c.datas t) from funext λv=>IC GA _ v,<- Cq] at this;rw [Dk,List.all_eq_not_any_not,Bool.not_not];exact this
def Gn (ds:List Dt):Bool:=H2 ⟨[109],ds,[GR]⟩&&(Bi (Co ds)&&Bi (BO ds))&&BF ds ds
def LJ (c:Cse) (a b:D) (sz:D):List D:=(dCse c).map .imm++[a,b,sz]
def Oo (c:Cse):Blk:=.cells 181 9 (LJ c (.imm (.mapv (Ed (Cp 0 c.datas)))) (.imm (.mapv (Ed (Dd 0 c.datas)))) .nils)
def outR (c:Cse):Bool->Out
 | true=>.ret (.tup [.ref 6 0,.imm (.bool true)]) [(6,some (Oo c))]
 | false=>.ret (.imm (.tup [.nilp,.bool false])) []
theorem Ew {ds:List Dt} (h:H2 ⟨[109],ds,[GR]⟩=true):ds.length<=4/\∀d∈ds,d.cons.length<=5/\∀c∈d.cons,c.args.length<=3:=by
 simp only [H2,Bool.and_eq_true,List.all_eq_true,decide_eq_true_eq] at h;refine ⟨by omega,λd hd=>?_⟩;have hd:=h.1.2 d hd;simp only [Fa,Bool.and_eq_true,List.all_eq_true,decide_eq_true_eq] at hd;refine ⟨by omega,λc hc=>?_⟩;have hc:=hd.2 c hc;simp only [Kd,Bool.and_eq_true,decide_eq_true_eq] at hc;omega
theorem TU (l:List (Str×V)) (p:Str×V):VL (l++[p])=Ee (VL l) (.str p.1) p.2:=by simp [VL,JP]
theorem UG {ds:List Dt} {i:Nat} {d:Dt} (h:ds[i]?=some d):Cp 0 (ds.take (i+1))=Cp 0 (ds.take i)++[(d.name,.int .i64 i)]:=by
 have hl:(ds.take i).length=i:=by rw [List.length_take];have:=(List.getElem?_eq_some_iff.1 h).1;omega
 rw [AS h,Ka,hl];simp [Cp]
theorem W7 {ds:List Dt} {i:Nat} {d:Dt} (h:ds[i]?=some d):Dd 0 (ds.take (i+1))=Dd 0 (ds.take i)++Dp i 0 d.cons:=by
 have hl:(ds.take i).length=i:=by rw [List.length_take];have:=(List.getElem?_eq_some_iff.1 h).1;omega
 rw [AS h,L1,hl];simp [Dd]
theorem UK {cs:List Cd} {i k:Nat} {c:Cd} (h:cs[k]?=some c):Dp i 0 (cs.take (k+1))=Dp i 0 (cs.take k)++[(c.name,.agg [.int .i64 i,.int .i64 k])]:=by
 have hl:(cs.take k).length=k:=by rw [List.length_take];have:=(List.getElem?_eq_some_iff.1 h).1;omega
 rw [AS h,Kc,hl];simp [Dp]
set_option maxHeartbeats 2000000 in
theorem eH (c:Cse):Bb Tryz.prog 100 [.imm (.agg (dCse c))] [] (outR c (Gn c.datas)):=by
 obtain ⟨ds,⟨c1,c2,c3,c4⟩,rows⟩:=c;simp only;have hck:=Qm ⟨[109],ds,[GR]⟩;generalize hmb:H2 ⟨[109],ds,[GR]⟩=mb at hck;refine Ae A5 Tryz.func100 (by decide +kernel) rfl [1,2,3,4,5,6,7,8,9,10,11,12] rfl rfl ?_;refine bg [] rfl (by simp) ?_;refine Ac rfl (λ_=>hck) (by simp) ?_;refine bg [] rfl (by simp [Jc]) ?_;cases mb with
 | false =>
  refine Aa rfl (λh=>?_) (λh=>by simp [Jc] at h);refine bd [] rfl (by simp) ?_;rw [show Gn ds=false by simp [Gn,hmb]];exact Ab ⟨_,rfl,tV rfl,trivial⟩
 | true =>
 refine Aa rfl (λh=>by simp [Jc] at h) (λh=>?_);clear h;obtain ⟨hl1,hl2⟩:=Ew hmb;refine bd [] rfl (by simp) ?_;refine Ob rfl ?_;refine bg [] rfl (by simp) ?_;refine Ob rfl ?_;refine bg [] rfl (by simp) ?_;refine Aj (λi:Nat=>[(36,.imm (.int .i64 i)),(35,.imm (.int .i64 ds.length)),(34,.imm (.sl (ds.map BU))),(7,.imm (.int .i64 (BO (ds.take i)).length)),(1,.ref 1 0),(6,.ref 7 0)])
  (λi=>[(1,some (.immb 29 6 (dCse ⟨ds,.mk c1 c2 c3 c4,rows⟩))),(4,some (.map (VL (Cp 0 (ds.take i))))),(5,some (.map (VL (Dd 0 (ds.take i))))),(6,some (.cells 181 9 (LJ ⟨ds,.mk c1 c2 c3 c4,rows⟩ (.mapr 4) (.mapr 5) .nils))),(7,some (.cells 102 1 [.ref 6 0]))]) [8,9,10,11,12] (λi=>ds.length-i)
  (λi=>i<=ds.length) 0 (Nat.zero_le _) ⟨rfl,At (by simp),rfl,rfl,rfl,rfl,trivial⟩ ⟨rfl,rfl,rfl,rfl,rfl,trivial⟩ rfl λi hi ih=>?_
 refine bd [] rfl (by simp) ?_;refine Aa rfl (λh=>?_) (λh=>?_)
 ·simp at h;obtain ⟨d,hd⟩:=Am h;have hdm:=hl2 d (List.mem_of_getElem? hd);have hcl:=RS (ds:=ds.take i) λx hx=>(hl2 x (List.mem_of_mem_take hx)).1;rw [List.length_take] at hcl;have ec:=PO hd;have ed:=UG hd;have es:=W7 hd;refine bd [] rfl (by simp) ?_;refine bi rfl (c:=BU d) (λ_=>⟨by simp,by simpa using AQ hd,by simp⟩) (by simp) ?_;obtain ⟨dn,dc⟩:=d;simp only at hdm ec ed es;refine bg [] rfl (by simp) ?_;refine Wp A5 rfl rfl rfl (TV _) ?_;refine bg [] rfl (by simp [Ag];rfl) ?_
  refine Aj (λk:Nat=>[(51,.imm (.int .i64 k)),(50,.imm (.int .i64 dc.length)),(49,.imm (.sl (dc.map Cw))),(8,.imm (.int .i64 i)),(36,.imm (.int .i64 i)),(35,.imm (.int .i64 ds.length)),(34,.imm (.sl (ds.map BU))),(7,.imm (.int .i64 ((BO (ds.take i)).length+k:Nat))),(1,.ref 1 0),(6,.ref 7 0)])
   (λk=>[(1,some (.immb 29 6 (dCse ⟨ds,.mk c1 c2 c3 c4,rows⟩))),(4,some (.map (VL (Cp 0 (ds.take (i+1)))))),(5,some (.map (VL (Dd 0 (ds.take i)++Dp i 0 (dc.take k))))),(6,some (.cells 181 9 (LJ ⟨ds,.mk c1 c2 c3 c4,rows⟩ (.mapr 4) (.mapr 5) .nils))),(7,some (.cells 102 1 [.ref 6 0]))]) [8,9,10,11,12] (λk=>dc.length-k)
   (λk=>k<=dc.length) 0 (Nat.zero_le _) ⟨rfl,At (by simp),rfl,rfl,rfl,rfl,rfl,rfl,rfl,rfl,trivial⟩ ⟨rfl,by rw [ed,TU];rfl,by rw [List.take_zero,show Dp i 0 []=[] from rfl,List.append_nil];rfl,rfl,rfl,trivial⟩ rfl λk hk jh=>?_
  refine bd [] rfl (by simp) ?_;refine Aa rfl (λh=>?_) (λh=>?_)
  ·simp at h;obtain ⟨k',hk'⟩:=Am h;have ek:=UK (i:=i) hk';refine bd [] rfl (by simp) ?_;refine bi rfl (c:=Cw k') (λ_=>⟨by simp,by simpa using AQ hk',by simp⟩) (by simp) ?_;obtain ⟨kn,ka⟩:=k';simp only at ek;refine bg [] rfl (by simp) ?_;refine Wp A5 rfl rfl rfl (TV _) ?_;refine bg [] rfl (by simp [Ag];rfl) ?_;exact Ad (jh (k+1) (by omega) (by omega)) ⟨At (Bv (by omega) (by omega)),rfl,rfl,rfl,rfl,rfl,rfl,At (by rw [Bv (by omega) (by omega)];omega),rfl,rfl,trivial⟩ ⟨rfl,rfl,by rw [ek,<- List.append_assoc,TU];rfl,rfl,rfl,trivial⟩ rfl
  ·simp at h;have hke:dc.take k=dc:=List.take_of_length_le h;have hkl:k=dc.length:=by omega
   refine Ar rfl ?_;refine bd [] rfl (by simp) ?_;exact Ad (ih (i+1) (by omega) (by omega)) ⟨At (Bv (by omega) (by omega)),rfl,rfl,At (by rw [ec];simp [hkl]),rfl,rfl,trivial⟩ ⟨rfl,rfl,by rw [es,hke];rfl,rfl,rfl,trivial⟩ rfl
 ·simp at h;refine Ar rfl ?_;rw [List.take_of_length_le h];refine bd [] rfl (by simp [Ag];rfl) ?_;have m1:=(Xq (Cp 0 ds)).2;have m2:=(Xq (Dd 0 ds)).2;rw [FQ] at m1;rw [GX] at m2;have l1:(Cp 0 ds).length=ds.length:=by have:=congrArg List.length (FQ 0 ds);simpa [Co] using this
  have l2:(Dd 0 ds).length=(BO ds).length:=by have:=congrArg List.length (GX 0 ds);simpa using this
  rw [l1] at m1;rw [l2] at m2;by_cases hdf:Bi (Co ds)=true/\Bi (BO ds)=true
  case neg =>
   refine Aa rfl (λh=>?_) (λh=>?_)
   ·refine bd [] rfl (by simp) ?_;have:(Bi (Co ds)&&Bi (BO ds))=false:=by cases h1:Bi (Co ds) <;> cases h2:Bi (BO ds) <;> simp_all
    rw [show Gn ds=false by simp only [Gn,this];simp];exact Ab ⟨_,rfl,tV rfl,trivial⟩
   ·exfalso;apply hdf;simp at h m1 m2;constructor
    ·cases h1:Bi (Co ds) with
     | true=>rfl
     | false=>rw [h1] at m1;simp at m1;omega
    ·cases h1:Bi (BO ds) with
     | true=>rfl
     | false=>rw [h1] at m2;simp at m2;omega
  obtain ⟨hdn,hdc⟩:=hdf;rw [hdn] at m1;rw [hdc] at m2;refine Aa rfl (λh'=>by exfalso;simp at h' m1 m2;omega) (λh=>?_);clear h m1 m2;rw [show Gn ds=BF ds ds by simp [Gn,hmb,hdn,hdc],Pe _ (by rw [FQ];exact hdn),Pe _ (by rw [GX];exact hdc)];refine bd [] rfl (by simp) ?_;refine Aj (λi:Nat=>[(90,.imm (.int .i64 i)),(89,.imm (.int .i64 ds.length)),(88,.imm (.sl (ds.map BU))),(6,.ref 7 0)])
   (λ_=>[(4,some (.map (Ed (Cp 0 ds)))),(5,some (.map (Ed (Dd 0 ds)))),(6,some (.cells 181 9 (LJ ⟨ds,.mk c1 c2 c3 c4,rows⟩ (.mapr 4) (.mapr 5) .nils))),(7,some (.cells 102 1 [.ref 6 0]))]) [8,9,10,11,12] (λi=>ds.length-i)
   (λi=>i<=ds.length/\BF ds ds=BF ds (ds.drop i)) 0 ⟨Nat.zero_le _,rfl⟩ ⟨rfl,At (by simp),rfl,rfl,trivial⟩ ⟨rfl,rfl,rfl,rfl,trivial⟩ rfl λi hi ih=>?_
  obtain ⟨hi1,hi2⟩:=hi;refine bd [] rfl (by simp) ?_;refine Aa rfl (λh=>?_) (λh=>?_)
  ·simp at h;obtain ⟨d,hd⟩:=Am h;have hdm:=hl2 d (List.mem_of_getElem? hd);rw [show BF ds (ds.drop i)=(d.cons.all (λc=>Bh ds c.args)&&BF ds (ds.drop (i+1))) from DH hd] at hi2;refine bd [] rfl (by simp) ?_;refine bi rfl (c:=BU d) (λ_=>⟨by simp,by simpa using AQ hd,by simp⟩) (by simp) ?_;obtain ⟨dn,dc⟩:=d;simp only at hdm hi2;refine bg [] rfl (by simp) ?_;refine Aj (λk:Nat=>[(97,.imm (.int .i64 k)),(96,.imm (.int .i64 dc.length)),(95,.imm (.sl (dc.map Cw))),(90,.imm (.int .i64 i)),(89,.imm (.int .i64 ds.length)),(88,.imm (.sl (ds.map BU))),(6,.ref 7 0)])
    (λ_=>[(4,some (.map (Ed (Cp 0 ds)))),(5,some (.map (Ed (Dd 0 ds)))),(6,some (.cells 181 9 (LJ ⟨ds,.mk c1 c2 c3 c4,rows⟩ (.mapr 4) (.mapr 5) .nils))),(7,some (.cells 102 1 [.ref 6 0]))]) [8,9,10,11,12] (λk=>dc.length-k)
    (λk=>k<=dc.length/\dc.all (λc=>Bh ds c.args)=(dc.drop k).all (λc=>Bh ds c.args)) 0 ⟨Nat.zero_le _,rfl⟩ ⟨rfl,At (by simp),rfl,rfl,rfl,rfl,rfl,trivial⟩ ⟨rfl,rfl,rfl,rfl,trivial⟩ rfl λk hk jh=>?_
   obtain ⟨hk1,hk2⟩:=hk;refine bd [] rfl (by simp) ?_;refine Aa rfl (λh=>?_) (λh=>?_)
   ·simp at h;obtain ⟨k',hk'⟩:=Am h;have hkm:=hdm.2 k' (List.mem_of_getElem? hk');rw [DH hk'] at hk2;refine bd [] rfl (by simp) ?_;refine bi rfl (c:=Cw k') (λ_=>⟨by simp,by simpa using AQ hk',by simp⟩) (by simp) ?_;obtain ⟨kn,ka⟩:=k';simp only at hkm hk2;refine bg [] rfl (by simp) ?_;refine GU rfl (v:=.bool (!Bh ds ka)) (λ_=>SV ⟨ds,.mk c1 c2 c3 c4,rows⟩ [] ka (by omega)) rfl (by simp) ?_;refine bg [] rfl (by simp) ?_;refine Aa rfl (λh=>?_) (λh=>?_)
    ·have h:Bh ds ka=true:=by simpa using h
     refine Ar rfl ?_;refine bd [] rfl (by simp) ?_;exact Ad (jh (k+1) (by omega) ⟨by omega,by rw [hk2];simp [h]⟩) ⟨At (Bv (by omega) (by omega)),rfl,rfl,rfl,rfl,rfl,rfl,trivial⟩ ⟨rfl,rfl,rfl,rfl,trivial⟩ rfl
    ·have h:Bh ds ka=false:=by simpa using h
     refine bd [] rfl (by simp) ?_;rw [hi2,hk2,h];exact Ab ⟨_,rfl,tV rfl,trivial⟩
   ·simp at h;refine Ar rfl ?_;refine bd [] rfl (by simp) ?_;rw [List.drop_eq_nil_of_le (by omega)] at hk2;exact Ad (ih (i+1) (by omega) ⟨by omega,by rw [hi2,hk2];simp⟩) ⟨At (Bv (by omega) (by omega)),rfl,rfl,rfl,trivial⟩ ⟨rfl,rfl,rfl,rfl,trivial⟩ rfl
  ·simp at h;refine Ar rfl ?_;rw [hi2,List.drop_eq_nil_of_le (by omega)];refine N3 4 rfl ?_;refine N3 5 rfl ?_;refine bd [] rfl (by simp) ?_;exact Ab ⟨_,rfl,rfl,⟨rfl,trivial⟩⟩
end Go.Hk
namespace Go.Hk
section
variable {P:Program} {n:Nat} {F:List Nat} {Q:DQ} {todo:List DI} {env:Env} {st:St} {ids':List Nat}
end
end Go.Hk
namespace Go.Hk
structure PMs where
 e:TypeId
 z:V
 bytes:Nat
 m:Int
 m2:Int
 id':Nat
 ids':List Nat
 dst:Option Nat
 todo:List DI
def jU (tt:TT) (n:Nat) (env:Env) (ids:List Nat) (todo:List DI):Option PMs :=
 match Qx todo,ids with
 | some o,id'::ids'=>match o.guard,o.op with
  | none,.makeSlice t l c=>match lk tt t,C9 env l,C9 env c with
   | some { sh:=.sl e,.. },some (.imm (.int _ m)),some (.imm (.int _ m2))=>match lk tt e,Bw n o.dst,AR todo ([],[id']) with
    | some ⟨_,_,1,bytes,[.imm z]⟩,true,some (_,_,todo')=>some ⟨e,z,bytes,m,m2,id',ids',o.dst,todo'⟩
    | _,_,_=>none
   | _,_,_=>none
  | _,_=>none
 | _,_=>none
section
variable {P:Program} {n:Nat} {F:List Nat} {Q:DQ} {tt:TT} {env env':Env} {st st':St} {ids ids':List Nat} {k todo todo':List DI} {I:Imm} {μ:Mu} {w:World} {a:Act} {Pn:V->Prop} {d:D} {cx:Prop} {ob:List Prop}
theorem TW (z:Array Value) (n:Nat) (c:Value) (h:z.toList=[c]):madeCells z n=Array.replicate n c:=by
 obtain ⟨z⟩:=z;simp at h;subst h;apply Array.ext
 ·simp [madeCells]
 ·intro i h1 h2;simp [madeCells,Nat.mod_one]
theorem Mt (htt:TTok P tt) {c:PMs} (h:jU tt n env ids todo=some c) (hm:c.m2=c.m) (h0:0<=c.m) (h1:(c.bytes:Int)*c.m<=281474976710656) (h2:c.m<=maxLen) (hz:V.one c.z=true)
  (hk:G P n F Q c.todo (Bt c.dst (.own c.id' (List.replicate c.m.toNat [c.z]).length) env) ((c.id',some (.row c.e 1 (List.replicate c.m.toNat [c.z])))::st) c.ids'):G P n F Q todo env st ids:=by
 unfold jU at h
 split at h
 ·rename_i o id' ids' ho
  split at h
  ·rename_i t l cc hg hop
   split at h
   ·rename_i e _ _ _ _ k1 m k2 m2 ht hl hc
    split at h
    ·rename_i sh ag bytes z all o' todo' hi hd hn1;cases h;have ho':o'=o:=Dx ho hn1;subst ho';simp only at hm h0 h1 h2 hz hk;have hm:=hm.symm;subst hm;refine Bm (fr:=[id']) (wr:=[(id',some (.row e 1 (List.replicate m.toNat [z])))]) (rd:=[]) hn1 ?_ hd (λc hc=>by rw [hop] at hc;cases hc) hk;intro I μ st1 ids1 a w hag hst hon;refine ⟨λ_=>?_,λhw=>by rw [A4 hg] at hw;cases hw⟩;have hops:=AN hon;rw [hop] at hops;have rl:=hops l (by simp [Op.operands]) _ hl;have rc:=hops cc (by simp [Op.operands]) _ hc;obtain ⟨inf,zv,i1,i2,i3,i4,i5,i6⟩:=(htt e _ hi).info;have hz1:=i5 I μ;have hzl:∃c0,zv.cells.toList=[c0]/\RepV I c0 z:=by
      have hl:=hz1.1
      match hcs:zv.cells.toList,hl with
      | [c0],_=>exact ⟨c0,rfl,(hz1.2 0 c0 _ (by rw [hcs];rfl) rfl).immInv⟩
     obtain ⟨c0,hc0,hr0⟩:=hzl;have hsz:inf.size=1:=i2;have hby:inf.bytes=bytes:=i3;have hrun:(execOp a.eval o').run P w = .ok (.value (.slice (some ⟨w.heap.size,0,none⟩) m.toNat m.toNat)) (w.alloc (.cells (Array.replicate m.toNat c0) e)):=by
      have hs:=(htt t _ ht).sh;have hx:=run_make (P:=P) w t e inf zv hs i1 i4 k1 k2 m m h0 (Int.le_refl _) (by rw [hby];exact h1) (by simpa [maxLen] using h2);rw [TW _ _ c0 hc0,hsz,Nat.mul_one] at hx;simp only [execOp,hop];generalize a.eval l=vl at rl;generalize a.eval cc=vc at rc;cases rl with
      | imm _ _ rl =>
      cases rc with
      | imm _ _ rc =>
      cases rl;cases rc;simp only [Sem.run_bind,hx,Result.andThen_ok,Sem.run_pure]
     rw [hrun];have hlen:(List.replicate m.toNat [z]).length=m.toNat:=by simp
     have hone0:c0.oneCell'=true:=i6 c0 (by rw [hc0];simp);obtain ⟨μ',q1,q2,q3,q4⟩:=hst.allocO (.cells (Array.replicate m.toNat c0) e) (.slice (some ⟨w.heap.size,0,none⟩) m.toNat m.toNat) (λ_ h=>Eq.symm h) (.row e 1 (List.replicate m.toNat [z])) (λμ' _ =>
      ⟨(List.replicate m.toNat c0),⟨by simp [hlen],.inr ⟨w.heap.size,m.toNat,Array.replicate m.toNat c0,by rw [hlen],Nat.zero_le _,Dz w _,by rw [hlen];exact Nat.le_refl _,by simp [maxLen] at h2 ⊢;omega,by simp,by rw [hlen];simp⟩⟩,⟨by simp,λi v x hv hx=>by
       have e1:(List.replicate m.toNat [z]).flatten=List.replicate m.toNat z:=by
        generalize m.toNat=q
        induction q with
        | zero=>rfl
        | succ q ih=>simp only [List.replicate_succ,List.flatten_cons,ih];rfl
       rw [e1] at hx;rw [List.getElem?_replicate] at hv hx
       split at hv
       ·rename_i hq;rw [if_pos hq] at hx;cases hv;cases hx;exact hr0
       ·cases hv⟩,λc hc=>by rw [List.eq_of_mem_replicate hc];rfl,λc hc y hy=>by
       rw [List.eq_of_mem_replicate hc] at hy;simp at hy;subst hy;exact hz,Nat.one_pos⟩)
     rw [hlen] at *;exact ⟨I,μ',q3,.own _ _ _ _ q1,q2,q4⟩
    ·cases h
   ·cases h
  ·cases h
 ·cases h
end
end Go.Hk
namespace Go.Hk
open Go.Proofs
def Eu (ds:List Dt) (s:List Int):Ty->Int
 | .mk so _ x _=>if so=8 then s.getD (Je ds x).toNat 0 else 1
def AA (ds:List Dt) (s:List Int):Int->List Ty->Int
 | n,[]=>n
 | n,t::r=>if Eu ds s t=0 then 0 else AA ds s (n+Eu ds s t) r
def AB (s:List Int):List (List V):=s.map λn=>[.int .i64 n]
@[simp] theorem rowI_length (s:List Int):(AB s).length=s.length:=by simp [AB]
theorem Eo {s:List Int} {i:Nat} (h:i<s.length):(AB s)[i]?=some [.int .i64 (s.getD i 0)]:=by simp [AB,h,List.getD]
def GG (ds:List Dt) (i:Nat) (p:List Int×Bool) (args:List Ty):List Int×Bool :=
 if 0<AA ds p.1 1 args/\(p.1.getD i 0=0\/AA ds p.1 1 args<p.1.getD i 0) then (p.1.set i (AA ds p.1 1 args),true) else p
def Hl (ds:List Dt) (i:Nat):List Int×Bool->List Cd->List Int×Bool
 | p,[]=>p
 | p,c::r=>Hl ds i (GG ds i p c.args) r
def Cl (ds:List Dt):List Int×Bool->Nat->List Dt->List Int×Bool
 | p,_,[]=>p
 | p,i,d::r=>Cl ds (Hl ds i p d.cons) (i+1) r
def IU (ds:List Dt):Nat->List Int->List Int
 | 0,s=>s
 | f+1,s=>bif (Cl ds (s,false) 0 ds).2 then IU ds f (Cl ds (s,false) 0 ds).1 else (Cl ds (s,false) 0 ds).1
def Ds (ds:List Dt):List Int:=IU ds 2000 (List.replicate ds.length 0)
def Mc:List Int->Nat
 | []=>0
 | x::r=>(if x=0 then 0 else 1)+Mc r
def Is:List Int->Nat
 | []=>0
 | x::r=>(if x=0 then 257 else x.toNat)+Is r
theorem IK:∀s:List Int,Mc s<=s.length
 | []=>Nat.le_refl _
 | x::r=>by have:=IK r;simp only [Mc,List.length_cons];split <;> omega
theorem Xl:∀(s:List Int) (i:Nat) (n:Int),i<s.length->n≠0->Mc (s.set i n)=Mc s+(if s.getD i 0=0 then 1 else 0)
 | [],i,n,h,_=>by simp at h
 | x::r,0,n,_,hn=>by simp only [List.set_cons_zero,Mc,hn,if_false,List.getD_cons_zero];split <;> omega
 | x::r,i+1,n,h,hn=>by
  have:=Xl r i n (by simpa using h) hn;simp only [List.set_cons_succ,Mc,List.getD_cons_succ,this];omega
theorem Xp:∀(s:List Int) (i:Nat) (n:Int),i<s.length->0<n->n<=256->(s.getD i 0=0\/n<s.getD i 0)->Is (s.set i n)<Is s
 | [],i,n,h,_,_,_=>by simp at h
 | x::r,0,n,_,hn,hb,hc=>by
  simp only [List.set_cons_zero,Is,List.getD_cons_zero] at hc ⊢;rw [if_neg (by omega)]
  split <;> omega
 | x::r,i+1,n,h,hn,hb,hc=>by
  have:=Xp r i n (by simpa using h) hn hb (by simpa using hc);simp only [List.set_cons_succ,Is];omega
theorem S9:∀s:List Int,(∀x∈s,x<=256)->Is s<=257*s.length
 | [],_=>Nat.le_refl _
 | x::r,h=>by
  have h1:=h x (by simp);have h2:=S9 r λy hy=>h y (by simp [hy]);simp only [Is,List.length_cons]
  split <;> omega
structure FT (ds:List Dt) (s:List Int):Prop where
 len:s.length=ds.length
 le:∀x∈s,0<=x/\x<=((4 ^ Mc s:Nat):Int)
theorem Ls {s:List Int} {i:Nat}:s.getD i 0∈s\/s.getD i 0=0:=by
 by_cases h:i<s.length
 ·left;simp [List.getD,List.getElem?_eq_getElem h]
 ·right;simp [List.getD,List.getElem?_eq_none (Nat.le_of_not_lt h)]
theorem Yx {n:Nat} (h:n<=4):4 ^ n<=256:=by
 have:n=0\/n=1\/n=2\/n=3\/n=4:=by omega
 rcases this with rfl | rfl | rfl | rfl | rfl <;> decide
theorem Gq {ds:List Dt} {s:List Int} (h:FT ds s) (t:Ty):0<=Eu ds s t/\Eu ds s t<=((4 ^ Mc s:Nat):Int):=by
 obtain ⟨so,n,x,ps⟩:=t;have h1:1<=4 ^ Mc s:=Nat.one_le_pow _ _ (by decide);simp only [Eu]
 split
 ·rcases Ls (s:=s) (i:=(Je ds x).toNat) with hm | hm
  ·exact h.le _ hm
  ·rw [hm];omega
 ·omega
theorem El {ds:List Dt} {s:List Int} (h:FT ds s):∀(l:List Ty) (n:Int),0<=n->0<=AA ds s n l/\AA ds s n l<=n+(l.length:Int)*((4 ^ Mc s:Nat):Int)
 | [],n,hn=>by simp [AA,hn]
 | t::r,n,hn=>by
  have hb:=Gq h t;have ih:=El h r (n+Eu ds s t) (by omega);simp only [AA,List.length_cons];generalize ((4 ^ Mc s:Nat):Int)=M at *;have:((r.length+1:Nat):Int)*M=(r.length:Int)*M+M:=by rw [Int.natCast_add,Int.add_mul];omega
  rw [this];have hm:0<=(r.length:Int)*M:=Int.mul_nonneg (by omega) (by omega)
  split <;> omega
theorem KM {ds:List Dt} (h4:ds.length<=4) {i:Nat} (hi:i<ds.length) {p:List Int×Bool} {args:List Ty} (ha:args.length<=3) (h:FT ds p.1) :
  FT ds (GG ds i p args).1/\Is (GG ds i p args).1<=Is p.1/\((GG ds i p args).2=true->p.2=true\/Is (GG ds i p args).1<Is p.1):=by
 have hs:=El h args 1 (by omega);simp only [GG];generalize AA ds p.1 1 args=n at *
 split
 ·rename_i hc;have hlt:i<p.1.length:=by rw [h.len];exact hi
  have hset:=Xl p.1 i n hlt (by omega);have hnz:=IK p.1;have hz1:4 ^ Mc p.1>=1:=Nat.one_le_pow _ _ (by decide);have key:∀M:Nat,1<=M->n<=1+(args.length:Int)*(M:Int)->n<=((M*4:Nat):Int):=λM h1 h2=>by
   have:(args.length:Int)*(M:Int)<=3*(M:Int):=Int.mul_le_mul_of_nonneg_right (by omega) (by omega);omega
  have hn4:n<=((4 ^ Mc (p.1.set i n):Nat):Int):=by
   rw [hset];by_cases h0:p.1.getD i 0=0
   ·rw [if_pos h0,Nat.pow_succ];exact key _ hz1 hs.2
   ·rw [if_neg h0,Nat.add_zero];rcases Ls (s:=p.1) (i:=i) with hm | hm
    ·have:=(h.le _ hm).2;omega
    ·exact absurd hm h0
  have hle:Mc (p.1.set i n)<=4:=by have:=IK (p.1.set i n);rw [List.length_set,h.len] at this;omega
  have h256:=Yx hle;have hmu:=Xp p.1 i n hlt hc.1 (by omega) hc.2;refine ⟨⟨by simp [h.len],λx hx=>?_⟩,Nat.le_of_lt hmu,λ_=>.inr hmu⟩;have hmono:4 ^ Mc p.1<=4 ^ Mc (p.1.set i n):=Nat.pow_le_pow_right (by decide) (by rw [hset];omega);show 0<=x/\x<=((4 ^ Mc (p.1.set i n):Nat):Int);rcases List.mem_or_eq_of_mem_set hx with hx | rfl
  ·have:=h.le x hx;omega
  ·omega
 ·exact ⟨h,Nat.le_refl _,λh=>.inl h⟩
theorem SQ {ds:List Dt} (h4:ds.length<=4) {i:Nat} (hi:i<ds.length):∀{l:List Cd} {p:List Int×Bool},(∀c∈l,c.args.length<=3)->FT ds p.1 ->
  FT ds (Hl ds i p l).1/\Is (Hl ds i p l).1<=Is p.1/\((Hl ds i p l).2=true->p.2=true\/Is (Hl ds i p l).1<Is p.1)
 | [],p,_,h=>⟨h,Nat.le_refl _,λh=>.inl h⟩
 | c::r,p,ha,h=>by
  obtain ⟨a1,a2,a3⟩:=KM (p:=p) h4 hi (ha c (by simp)) h;obtain ⟨b1,b2,b3⟩:=SQ h4 hi (l:=r) (p:=GG ds i p c.args) (λx hx=>ha x (by simp [hx])) a1;simp only [Hl];refine ⟨b1,by omega,λh=>?_⟩;rcases b3 h with h | h
  ·rcases a3 h with h | h
   ·exact .inl h
   ·exact .inr (by omega)
  ·exact .inr (by omega)
theorem LN {ds:List Dt} (h4:ds.length<=4):∀{l:List Dt} {p:List Int×Bool} {i:Nat},i+l.length<=ds.length->(∀d∈l,∀c∈d.cons,c.args.length<=3)->FT ds p.1 ->
  FT ds (Cl ds p i l).1/\Is (Cl ds p i l).1<=Is p.1/\((Cl ds p i l).2=true->p.2=true\/Is (Cl ds p i l).1<Is p.1)
 | [],p,i,_,_,h=>⟨h,Nat.le_refl _,λh=>.inl h⟩
 | d::r,p,i,hi,ha,h=>by
  simp only [List.length_cons] at hi;obtain ⟨a1,a2,a3⟩:=SQ (p:=p) h4 (i:=i) (by omega) (l:=d.cons) (ha d (by simp)) h;obtain ⟨b1,b2,b3⟩:=LN h4 (l:=r) (p:=Hl ds i p d.cons) (i:=i+1) (by omega) (λx hx=>ha x (by simp [hx])) a1;simp only [Cl];refine ⟨b1,by omega,λh=>?_⟩;rcases b3 h with h | h
  ·rcases a3 h with h | h
   ·exact .inl h
   ·exact .inr (by omega)
  ·exact .inr (by omega)
theorem WQ (c:Cse) (s:List Int) (hs:FT c.datas s) (h4:c.datas.length<=4) (args:List Ty) (hn:Bh c.datas args=true) (ha:args.length<=3) :
  Ak Tryz.prog 150 [AL c (AB s),.sl (Bg args)] (.int .i64 (AA c.datas s 1 args)):=by
 obtain ⟨ds,⟨c1,c2,c3,c4⟩,rows⟩:=c;simp only at hs h4 hn ⊢;have hpw:((4 ^ Mc s:Nat):Int)<=256:=by have:=Yx (n:=Mc s) (by have:=IK s;rw [hs.len] at this;omega);omega
 refine Ae A5 Tryz.func150 (by decide +kernel) rfl [2,3,4,5,6] rfl rfl ?_;refine bg [] rfl (by simp) ?_;refine Aj (λy:Nat×Int=>[(11,.imm (.int .i64 y.1)),(10,.imm (.int .i64 args.length)),(9,.imm (.sl (Bg args))),(5,.imm (.int .i64 y.2)),(0,.imm (AL ⟨ds,.mk c1 c2 c3 c4,rows⟩ (AB s)))]) (λ_=>[]) [2,3,4,5,6] (λy=>args.length-y.1)
  (λy=>y.1<=args.length/\AA ds s 1 args=AA ds s y.2 (args.drop y.1)/\0<=y.2/\y.2<=1+256*y.1) (0,1) ⟨Nat.zero_le _,rfl,by simp only;omega,by simp only;omega⟩ ⟨rfl,At (by simp),rfl,rfl,rfl,trivial⟩ trivial rfl λy hi ih=>?_
 obtain ⟨i,m⟩:=y;obtain ⟨hi1,hi2,hi3,hi4⟩:=hi;simp only at hi1 hi2 hi3 hi4;refine bd [] rfl (by simp) ?_;refine Aa rfl (λh=>?_) (λh=>?_)
 ·simp at h;obtain ⟨t,ht⟩:=Am h;have hnt:=Dj hn ht;have hb:=Gq hs t;rw [Ap ht] at hi2;simp only [AA] at hi2;refine bd [] rfl (by simp) ?_;refine bi rfl (c:=Al t) (λ_=>⟨by simp,by simpa using Av ht,by simp⟩) (by simp) ?_;obtain ⟨so,n,x,ps⟩:=t;refine bg [] rfl (by simp) ?_;by_cases h8:so=8
  ·subst h8;have hp:=(Cu hnt 8 n x ps rfl rfl).1;have hd:Je ds x=AP x 0 ds:=by simp [Je,hp]
   obtain ⟨k,d,k1,k2,k3⟩:=Gp x ds 0 hp;have hk:k<s.length:=by rw [hs.len];exact (List.getElem?_eq_some_iff.1 k2).1
   have ho:Eu ds s (.mk 8 n x ps)=s.getD k 0:=by simp [Eu,hd,k1]
   rw [ho] at hi2 hb;refine Aa rfl (λh=>?_) (λh=>by simp at h);refine bd [] rfl (by simp) ?_;refine Fy A5 rfl rfl rfl (DV _) (by simp [Ag]) (z:=.int .i64 0) rfl (λ_=>.int _ _) (GS ds x) ?_;refine bg [] rfl (by simp) ?_;refine bi rfl (c:=[.int .i64 (s.getD k 0)]) (λ_=>⟨by rw [hd];exact hp,by rw [hd,k1];simpa using Eo hk,rfl⟩) (by simp) ?_;refine bg [] rfl (by simp;rfl) ?_;refine Aa rfl (λh=>?_) (λh=>?_)
   ·refine bd [] rfl (by simp) ?_;rw [if_pos (by simpa using h)] at hi2;rw [hi2];exact Ab ⟨_,rfl,tV rfl,trivial⟩
   ·refine bd [] rfl (by simp) ?_;rw [if_neg (by simpa using h)] at hi2;exact Ad (ih (i+1,m+s.getD k 0) (by simp only;omega) ⟨by simp only;omega,hi2,by simp only;omega,by simp only;omega⟩) ⟨At (Bv (by simp only;omega) (by simp only;omega)),rfl,rfl,At (Bv (by omega) (by omega)),rfl,trivial⟩ trivial rfl
  ·have ho:Eu ds s (.mk so n x ps)=1:=by simp [Eu,h8]
   rw [ho] at hi2;refine Aa rfl (λh=>absurd (by simpa using h) h8) (λh=>?_);refine bd [] rfl (by simp) ?_;refine Aa rfl (λh=>by simp at h) (λh=>?_);refine bd [] rfl (by simp) ?_;rw [if_neg (by omega)] at hi2;exact Ad (ih (i+1,m+1) (by simp only;omega) ⟨by simp only;omega,hi2,by simp only;omega,by simp only;omega⟩) ⟨At (Bv (by simp only;omega) (by simp only;omega)),rfl,rfl,At (Bv (by omega) (by omega)),rfl,trivial⟩ trivial rfl
 ·simp at h;refine Ar rfl ?_;refine bd [] rfl (by simp) ?_;rw [hi2,List.drop_eq_nil_of_le (by omega)];exact Ab ⟨_,rfl,tV rfl,trivial⟩
theorem OG (s:List Int) (i:Nat) (n:Int):(AB s).set i [.int .i64 n]=AB (s.set i n):=by simp [AB,List.map_set]
theorem J0 (n:Nat):List.replicate n [V.int .i64 0]=AB (List.replicate n 0):=by simp [AB]
theorem Jx (ds:List Dt):FT ds (List.replicate ds.length 0):=⟨by simp,λx hx=>by rw [List.eq_of_mem_replicate hx];exact ⟨Int.le_refl _,Int.natCast_nonneg _⟩⟩
def Se (c:Cse) (sz:D):Blk:=.cells 181 9 (LJ c (.imm (.mapv (Ed (Cp 0 c.datas)))) (.imm (.mapv (Ed (Dd 0 c.datas)))) sz)
set_option maxHeartbeats 2000000 in
theorem Z2 (c:Cse) (h4:c.datas.length<=4) (hl2:∀d∈c.datas,d.cons.length<=5/\∀c∈d.cons,c.args.length<=3) (hN:BF c.datas c.datas=true) :
  Bb Tryz.prog 108 [.ref 1 0] [(1,some (Oo c))] (.ret GE [(1,some (Se c (.own 2 c.datas.length))),(2,some (.row 3 1 (AB (Ds c.datas))))]):=by
 obtain ⟨ds,⟨c1,c2,c3,c4⟩,rows⟩:=c;simp only at h4 hl2 hN ⊢;have hl3:∀d∈ds,∀c∈d.cons,c.args.length<=3:=λd hd=>(hl2 d hd).2;have hnm:∀d∈ds,∀c∈d.cons,Bh ds c.args=true:=by simpa [BF] using hN
 generalize hC:(⟨ds,.mk c1 c2 c3 c4,rows⟩:Cse)=C at *;have hCd:C.datas=ds:=by rw [<- hC]
 unfold Oo;rw [hCd];subst hC;refine Ae A5 Tryz.func108 (by decide +kernel) rfl [2,3,4,5,6] rfl rfl ?_;refine bg [] rfl (by simp) ?_;refine Mt A5 rfl rfl (by simp) (by simp;omega) (by simp [maxLen];omega) rfl ?_;have er:(List.replicate ((ds.map BU).length:Int).toNat [V.int .i64 0])=AB (List.replicate ds.length 0):=by rw [<- J0];simp
 simp only [Bt];rw [er,rowI_length,List.length_replicate];refine bg [] rfl (by simp) ?_;refine Aj (λy:Nat×List Int×Bool=>[(2,.imm (.bool y.2.2)),(0,.ref 1 0)])
  (λy=>[(1,some (Se ⟨ds,.mk c1 c2 c3 c4,rows⟩ (.own 2 ds.length))),(2,some (.row 3 1 (AB y.2.1)))]) [3,4,5,6] (λy=>if y.2.2 then y.1+1 else 0)
  (λy=>FT ds y.2.1/\if y.2.2 then Ds ds=IU ds y.1 y.2.1/\Is y.2.1<y.1 else Ds ds=y.2.1) (2000,List.replicate ds.length 0,true)
  ⟨Jx ds,by simp only [if_true];exact ⟨rfl,by have:=S9 (List.replicate ds.length 0) (λx hx=>by rw [List.eq_of_mem_replicate hx];omega);simp at this;omega⟩⟩ ⟨rfl,rfl,trivial⟩ ⟨rfl,rfl,trivial⟩ rfl λy hi ih=>?_
 obtain ⟨f,s,ch⟩:=y;obtain ⟨hs,hi⟩:=hi;simp only at hs hi;refine bd [] rfl (by simp) ?_;cases ch with
 | false =>
  simp only [Bool.false_eq_true,if_false] at hi;refine Aa rfl (λh=>by simp at h) (λh=>?_);refine Ar rfl ?_;refine bd [] rfl (by simp) ?_;rw [hi];exact Ce ⟨_,rfl,tV rfl,⟨rfl,rfl,trivial⟩⟩
 | true =>
 simp only [if_true] at hi;refine Aa rfl (λh=>?_) (λh=>by simp at h);clear h;obtain ⟨hi1,hi2⟩:=hi;obtain ⟨f,rfl⟩:∃g,f=g+1:=⟨f-1,by omega⟩
 refine bd [] rfl (by simp) ?_;refine Aj (λy:Nat×List Int×Bool=>[(25,.imm (.int .i64 y.1)),(24,.imm (.int .i64 ds.length)),(23,.imm (.sl (ds.map BU))),(2,.imm (.bool y.2.2)),(0,.ref 1 0)])
  (λy=>[(1,some (Se ⟨ds,.mk c1 c2 c3 c4,rows⟩ (.own 2 ds.length))),(2,some (.row 3 1 (AB y.2.1)))]) [3,4,5,6] (λy=>ds.length-y.1)
  (λy=>y.1<=ds.length/\Cl ds (s,false) 0 ds=Cl ds y.2 y.1 (ds.drop y.1)/\FT ds y.2.1/\Is y.2.1<=Is s/\(y.2.2=true->Is y.2.1<Is s)) (0,s,false)
  ⟨Nat.zero_le _,rfl,hs,Nat.le_refl _,λh=>by cases h⟩ ⟨rfl,At (by simp),rfl,rfl,rfl,trivial⟩ ⟨rfl,rfl,trivial⟩ rfl λy hy jh=>?_
 obtain ⟨i,p⟩:=y;obtain ⟨hy1,hy2,hy3,hy4,hy5⟩:=hy;simp only at hy1 hy2 hy3 hy4 hy5;refine bd [] rfl (by simp) ?_;refine Aa rfl (λh=>?_) (λh=>?_)
 ·simp at h;have hil:=h;obtain ⟨d,hd⟩:=Am h;have hdm:=List.mem_of_getElem? hd;rw [Ap hd] at hy2;simp only [Cl] at hy2;refine bd [] rfl (by simp) ?_;refine bi rfl (c:=BU d) (λ_=>⟨by simp,by simpa using AQ hd,by simp⟩) (by simp) ?_;obtain ⟨dn,dc⟩:=d;simp only at hy2;have hd5:=(hl2 _ hdm).1;have hd3:=hl3 _ hdm;have hdn:=hnm _ hdm;simp only at hd5 hd3 hdn;refine bg [] rfl (by simp) ?_;refine Aj (λy:Nat×List Int×Bool=>[(33,.imm (.int .i64 y.1)),(32,.imm (.int .i64 dc.length)),(31,.imm (.sl (dc.map Cw))),(3,.imm (.int .i64 i)),(25,.imm (.int .i64 i)),(24,.imm (.int .i64 ds.length)),(23,.imm (.sl (ds.map BU))),(2,.imm (.bool y.2.2)),(0,.ref 1 0)])
   (λy=>[(1,some (Se ⟨ds,.mk c1 c2 c3 c4,rows⟩ (.own 2 ds.length))),(2,some (.row 3 1 (AB y.2.1)))]) [3,4,5,6] (λy=>dc.length-y.1)
   (λy=>y.1<=dc.length/\Hl ds i p dc=Hl ds i y.2 (dc.drop y.1)/\FT ds y.2.1/\Is y.2.1<=Is s/\(y.2.2=true->Is y.2.1<Is s)) (0,p)
   ⟨Nat.zero_le _,rfl,hy3,hy4,hy5⟩ ⟨rfl,At (by simp),rfl,rfl,rfl,rfl,rfl,rfl,rfl,trivial⟩ ⟨rfl,rfl,trivial⟩ rfl λy hk kh=>?_
  obtain ⟨k,q⟩:=y;obtain ⟨hk1,hk2,hk3,hk4,hk5⟩:=hk;simp only at hk1 hk2 hk3 hk4 hk5;refine bd [] rfl (by simp) ?_;refine Aa rfl (λh=>?_) (λh=>?_)
  ·simp at h;obtain ⟨c,hc⟩:=Am h;have hcm:=List.mem_of_getElem? hc;rw [Ap hc] at hk2;simp only [Hl] at hk2;refine bd [] rfl (by simp) ?_;refine bi rfl (c:=Cw c) (λ_=>⟨by simp,by simpa using AQ hc,by simp⟩) (by simp) ?_;obtain ⟨cn,ca⟩:=c;have hca3:=hd3 _ hcm;have hcan:=hdn _ hcm;simp only at hca3 hcan hk2;have hstep:=KM (p:=q) h4 hil hca3 hk3;have hlen:q.1.length=ds.length:=hk3.len;obtain ⟨qs,qb⟩:=q;simp only at hk3 hk4 hk5 hlen hstep;refine bg [] rfl (by simp) ?_;refine GU rfl (v:=.int .i64 (AA ds qs 1 ca)) (λ_=>WQ ⟨ds,.mk c1 c2 c3 c4,rows⟩ qs hk3 h4 ca hcan hca3) rfl (by simp) ?_
   have hst:GG ds i (qs,qb) ca=if 0<AA ds qs 1 ca/\(qs.getD i 0=0\/AA ds qs 1 ca<qs.getD i 0) then (qs.set i (AA ds qs 1 ca),true) else (qs,qb):=rfl
   have hzb:=El hk3 ca 1 (by omega);generalize AA ds qs 1 ca=z at *;refine bg [] rfl (by simp) ?_;refine CN A5 rfl (λ_=>⟨by simp,by simp;omega⟩) (by simp [Ag]) ?_;refine bg [] rfl (by simp [Ag]) ?_;refine Ih (e:=[.int .i64 (qs.getD i 0)]) A5 rfl (λ_=>by simpa using Eo (s:=qs) (i:=i) (by omega)) rfl (by simp [Ag]) ?_;refine bg [] rfl (by simp [Ag];try exact λa b=>⟨a,b⟩) ?_;refine CN A5 rfl (λ_=>⟨by simp,by simp;omega⟩) (by simp [Ag]) ?_;refine bg [] rfl (by simp [Ag]) ?_;refine Ih (e:=[.int .i64 (qs.getD i 0)]) A5 rfl (λ_=>by simpa using Eo (s:=qs) (i:=i) (by omega)) rfl (by simp [Ag]) ?_;refine bg [] rfl (by simp [Ag];try exact λa b=>⟨a,b⟩) ?_;by_cases hz:0<z/\(qs.getD i 0=0\/z<qs.getD i 0)
   ·rw [if_pos hz] at hst;rw [hst] at hk2 hstep;have hstep3:=hstep.2.2 rfl;refine Aa rfl (λh=>?_) (λh=>by exfalso;simp at h;grind);refine bd [] rfl (by simp) ?_;refine CN A5 rfl (λ_=>⟨by simp,by simp;omega⟩) (by simp) ?_;refine bg [] rfl (by simp) ?_;refine HA A5 (e:=[.int .i64 (qs.getD i 0)]) (e':=[.int .i64 z]) rfl (by simpa using Eo (s:=qs) (i:=i) (by omega)) (by show 0+1<=1;decide) (by simp) (by simp) ?_;refine bg [] rfl (by simp) ?_;refine Ad (kh (k+1,qs.set i z,true) (by simp only;omega) ⟨by simp only;omega,hk2,hstep.1,by have:=hstep.2.1;simp only at this ⊢;omega,λ_=>?_⟩) ⟨At (Bv (by omega) (by omega)),rfl,rfl,rfl,rfl,rfl,rfl,rfl,rfl,trivial⟩ ⟨rfl,by rw [<- OG];rfl,trivial⟩ rfl
    rcases hstep3 with h | h
    ·have:=hk5 h;have:=hstep.2.1;simp only at this ⊢;omega
    ·simp only at h ⊢;omega
   ·rw [if_neg hz] at hst;rw [hst] at hk2;refine Aa rfl (λh=>by exfalso;simp at h;grind) (λh=>?_);refine bd [] rfl (by simp) ?_;exact Ad (kh (k+1,qs,qb) (by simp only;omega) ⟨by simp only;omega,hk2,hk3,hk4,hk5⟩) ⟨At (Bv (by omega) (by omega)),rfl,rfl,rfl,rfl,rfl,rfl,rfl,rfl,trivial⟩ ⟨rfl,rfl,trivial⟩ rfl
  ·simp at h;refine Ar rfl ?_;refine bd [] rfl (by simp) ?_;rw [List.drop_eq_nil_of_le (by omega)] at hk2;simp only [Hl] at hk2;rw [hk2] at hy2;exact Ad (jh (i+1,q) (by simp only;omega) ⟨by simp only;omega,hy2,hk3,hk4,hk5⟩) ⟨At (Bv (by omega) (by omega)),rfl,rfl,rfl,rfl,trivial⟩ ⟨rfl,rfl,trivial⟩ rfl
 ·simp at h;refine Ar rfl ?_;refine bd [] rfl (by simp) ?_;rw [List.drop_eq_nil_of_le (by omega)] at hy2;simp only [Cl] at hy2;simp only [IU,hy2] at hi1;obtain ⟨ps,pb⟩:=p;cases pb with
  | true =>
   have:=hy5 rfl;exact Ad (ih (f,ps,true) (by simp) ⟨hy3,by simp only [if_true];exact ⟨by simpa using hi1,by simp only at this;omega⟩⟩) ⟨rfl,rfl,trivial⟩ ⟨rfl,rfl,trivial⟩ rfl
  | false =>
   exact Ad (ih (f,ps,false) (by simp) ⟨hy3,by simpa using hi1⟩) ⟨rfl,rfl,trivial⟩ ⟨rfl,rfl,trivial⟩ rfl
end Go.Hk
namespace Go.Hk
mutual
theorem Ov:∀(t:Ty) (l:Int),(An t:Int)<=l->0<=Bf t l
 | .mk _ _ _ ps,l,h=>by
  simp only [An] at h;simp only [Bf];rw [if_neg (by omega)];exact MH ps (l-1) (by omega)
theorem MH:∀(ts:List Ty) (l:Int),(Ai ts:Int)<=l->0<=BE ts l
 | [],l,h=>by simpa [BE,Ai] using h
 | t::r,l,h=>by
  simp only [Ai] at h;simp only [BE];rw [if_pos (by omega)];have h1:=Ov t l (by omega);have h2:=DC t l h1;exact MH r _ (by omega)
end
theorem QF (t:Ty) (l:Nat):decide (0<=Bf t l)=decide (An t<=l):=by
 by_cases h:An t<=l
 ·rw [decide_eq_true h,decide_eq_true (Ov t l (by omega))]
 ·rw [decide_eq_false h];refine decide_eq_false λh1=>h ?_;have:=DC t l h1;omega
theorem Lv (t:Ty):BH false t=EJ t:=by
 simp only [BH,EJ];rw [<- QF t 12];rfl
theorem Zm (t:Ty):Bx t=Er t:=by
 simp only [Bx,Er];rw [<- QF t 12,Bool.and_assoc];rfl
theorem fO (c:Cd):Kd c=M3 c:=by
 simp only [Kd,M3];rw [show BH false=EJ from funext Lv]
theorem cW (d:Dt):Fa d=HC d:=by
 simp only [Fa,HC,GC];rw [show Kd=M3 from funext fO];simp only [Bool.and_assoc]
end Go.Hk
namespace Go.Hk
open Go.Proofs
def IW:Ty->Bool
 | .mk s _ _ _=>!(s == 9)
def Rh (c:Cse) (p:Ty):Bool:=Bx p&&Cn c.datas c.type p
def Jo (c:Cse):Bool:=Gn c.datas&&decide (c.rows.length<=5)&&BH true c.type&&AD c.datas c.type
def Bz (c:Cse):Bool:=Jo c&&(D7 IW c.type&&(c.rows.all (Rh c)&&decide (Ai c.rows<=30)))
def Zy (c:Cse):Bool->V
 | true=>.tup [AL c (AB (Ds c.datas)),.int .i64 0]
 | false=>.tup [.nilp,.int .i64 2]
theorem KU {ds:List Dt} (h:Gn ds=true):H2 ⟨[109],ds,[GR]⟩=true/\Bi (Co ds)=true/\Bi (BO ds)=true/\BF ds ds=true:=by
 simp only [Gn,Bool.and_eq_true] at h;exact ⟨h.1.1,h.1.2.1,h.1.2.2,h.2⟩
theorem OkD.of2 {ds:List Dt} (h:Gn ds=true):OkD ds:=by
 obtain ⟨h1,_,_,h4⟩:=KU h;exact ⟨h4,λd hd=>by have:=((Ew h1).2 d hd).1;omega⟩
set_option maxHeartbeats 2000000 in
theorem EI (c:Cse):Ak Tryz.prog 55 [.agg (dCse c)] (Zy c (Bz c)):=by
 have hread:=eH c;have hT:=λq=>Ox 104 q;have hCT:=SZ c.type;obtain ⟨ds,t,rows⟩:=c;simp only at hread hCT ⊢;have hTy:=Ox 104 IW (λt=>by have:=Tc t;obtain ⟨s,n,x,ps⟩:=t;exact this) t;have hNm:=QD ⟨ds,t,rows⟩ [] t;have hW:=λh4 hl2 hN=>Z2 ⟨ds,t,rows⟩ h4 hl2 hN;have hF:=λho hd hn p=>X1 ⟨ds,t,rows⟩ [] ho hd p t hn;have hc2:Bz ⟨ds,t,rows⟩=(Jo ⟨ds,t,rows⟩&&(D7 IW t&&(rows.all (Rh ⟨ds,t,rows⟩)&&decide (Ai rows<=30)))):=rfl;have hc1:Jo ⟨ds,t,rows⟩=(Gn ds&&decide (rows.length<=5)&&BH true t&&AD ds t):=rfl;generalize Bz ⟨ds,t,rows⟩=cb at *;generalize Jo ⟨ds,t,rows⟩=cb1 at *;generalize hnb:AD ds t=nb at *;generalize hfb:BH true t=fb at *;generalize D7 IW t=tb at *;obtain ⟨so,n0,x0,ps0⟩:=t
 refine Ae A5 Tryz.func55 (by decide +kernel) rfl [1,2,3,4,5,6,7,8] rfl rfl ?_;refine bg [] rfl (by simp) ?_;cases hr:Gn ds with
 | false =>
  rw [hr] at hread hc1;refine Ac rfl (λ_=>hread) (by simp) ?_;refine bg [] rfl (by simp [Ag]) ?_;refine Ac rfl (λ_=>hCT) (by simp [Ag]) ?_;refine bg [] rfl (by simp [Ag,Jc]) ?_;refine GU (v:=.bool true) rfl (λh=>by simp [Ag] at h) rfl (by simp [Ag]) ?_;refine bg [] rfl (by simp [Ag]) ?_;refine Aa rfl (λh=>?_) (λh=>by simp at h);refine bd [] rfl (by simp) ?_;rw [hc2,hc1];exact Ab ⟨_,rfl,tV rfl,trivial⟩
 | true =>
 rw [hr] at hread hc1;obtain ⟨hm,hdn,hdc,han⟩:=KU hr;obtain ⟨hl1,hl2⟩:=Ew hm;have ho:=OkD.of2 hr;have hread:Bb Tryz.prog 100 [.imm (.agg (dCse ⟨ds,.mk so n0 x0 ps0,rows⟩))] [] (.ret (.tup [.ref 6 0,.imm (.bool true)]) [(6,some (Oo ⟨ds,.mk so n0 x0 ps0,rows⟩))]):=hread;refine Az (fr:=[2]) [] [(6,2)] rfl (by simp) hread trivial rfl rfl rfl rfl ?_;refine bg [] rfl (by simp [Ag]) ?_;refine Ac rfl (λ_=>hCT) (by simp [Ag]) ?_;refine bg [] rfl (by simp [Ag,Jc]) ?_;refine GU rfl (λ_=>hNm) rfl (by simp [Ag]) ?_;refine bg [] rfl (by simp [Ag]) ?_;by_cases h1:cb1=true
 case neg =>
  refine Aa rfl (λh=>?_) (λh=>?_)
  ·refine bd [] rfl (by simp) ?_;rw [hc2,show cb1=false by simpa using h1];exact Ab ⟨_,rfl,tV rfl,trivial⟩
  ·exfalso;apply h1;rw [hc1];simp [Jc] at h ⊢;cases fb <;> grind
 have hc1':decide (rows.length<=5)=true/\fb=true/\nb=true:=by rw [h1] at hc1;simp at hc1 ⊢;grind
 obtain ⟨hr5,rfl,rfl⟩:=hc1';have hr5:rows.length<=5:=of_decide_eq_true hr5;rw [h1,Bool.true_and] at hc2;refine Aa rfl (λh=>by exfalso;simp [Jc] at h;omega) (λh=>?_);clear h;refine bd [] rfl (by simp) ?_;refine Ac rfl (λ_=>hTy) (by simp) ?_;refine bg [] rfl (by simp) ?_;cases tb with
 | false =>
  refine Aa rfl (λh=>?_) (λh=>by simp at h);refine bd [] rfl (by simp) ?_;rw [hc2];exact Ab ⟨_,rfl,tV rfl,trivial⟩
 | true =>
 refine Aa rfl (λh=>by simp at h) (λh=>?_);clear h;rw [Bool.true_and] at hc2;have hF:=λp=>hF ho hdc rfl p;generalize hR:Rh ⟨ds,.mk so n0 x0 ps0,rows⟩=R at *;have hR:∀p,R p=(Bx p&&Cn ds (.mk so n0 x0 ps0) p):=λp=>by rw [<- hR];rfl
 refine bd [] rfl (by simp) ?_;refine Aj (λi:Nat=>[(42,.imm (.int .i64 i)),(41,.imm (.int .i64 rows.length)),(40,.imm (.sl (Bg rows))),(6,.imm (.int .i64 ((Ai (rows.take i):Nat):Int))),(1,.ref 1 0),(4,.ref 2 0)])
  (λ_=>[(1,some (.immb 29 6 (dCse ⟨ds,.mk so n0 x0 ps0,rows⟩))),(2,some (Oo ⟨ds,.mk so n0 x0 ps0,rows⟩))]) [3,4,5,6] (λi=>rows.length-i)
  (λi=>i<=rows.length/\rows.all R=(rows.drop i).all R/\Ai (rows.take i)<=12*i) 0 ⟨Nat.zero_le _,rfl,by simp [Ai]⟩ ⟨rfl,At (by simp),rfl,rfl,rfl,rfl,trivial⟩ ⟨rfl,rfl,trivial⟩ rfl λi hi ih=>?_
 obtain ⟨hi1,hi2,hi3⟩:=hi;refine bd [] rfl (by simp) ?_;refine Aa rfl (λh=>?_) (λh=>?_)
 ·simp at h;obtain ⟨p,hp⟩:=Am h;rw [DH hp,hR] at hi2;have hFp:=hF p;have en:Ai (rows.take (i+1))=Ai (rows.take i)+An p:=by rw [AS hp,Bs];simp [Ai]
  have hpn:Bx p=true->An p<=12:=λh=>by simp only [Bx,Bool.and_eq_true,decide_eq_true_eq] at h;exact h.1
  have hCP:=Jv p;have hND:=Rv p;refine bd [] rfl (by simp) ?_;refine bi rfl (c:=Al p) (λ_=>⟨by simp,by simpa using Av hp,by simp⟩) (by simp) ?_;generalize Bx p=b1 at *;generalize Cn ds (.mk so n0 x0 ps0) p=b2 at *;obtain ⟨q1,q2,q3,q4⟩:=p;refine bg [] rfl (by simp) ?_;refine Ac rfl (λ_=>hCP) (by simp) ?_;refine bg [] rfl (by simp [Jc]) ?_;refine GU rfl (λ_=>hFp) rfl (by simp [Ag]) ?_;refine bg [] rfl (by simp [Ag]) ?_;by_cases hb:(b1&&b2)=true
  case neg =>
   refine Aa rfl (λh=>?_) (λh=>?_)
   ·refine bd [] rfl (by simp) ?_;rw [hc2,hi2,show (b1&&b2)=false by simpa using hb];exact Ab ⟨_,rfl,tV rfl,trivial⟩
   ·exfalso;apply hb;simp [Jc] at h ⊢;cases b1 <;> simp_all
  rw [hb,Bool.true_and] at hi2;have hb1:b1=true:=by cases b1;simp at hb;rfl
  have hb2:b2=true:=by cases b2;simp at hb;rfl
  have hp12:=hpn hb1;refine Aa rfl (λh=>by exfalso;simp [Jc,hb1,hb2] at h) (λh=>?_);clear h;refine bd [] rfl (by simp) ?_;refine Ac rfl (λ_=>hND (by omega)) (by simp) ?_;refine bg [] rfl (by simp) ?_;exact Ad (ih (i+1) (by omega) ⟨by omega,hi2,by omega⟩) ⟨At (Bv (by omega) (by omega)),rfl,rfl,At (by rw [en,Bv (by omega) (by omega)];omega),rfl,rfl,trivial⟩ ⟨rfl,rfl,trivial⟩ rfl
 ·simp at h;refine Ar rfl ?_;refine bd [] rfl (by simp) ?_;rw [List.take_of_length_le h];rw [hi2,List.drop_eq_nil_of_le h,List.all_nil,Bool.true_and] at hc2;by_cases h30:Ai rows<=30
  case neg =>
   refine Aa rfl (λh=>?_) (λh=>by exfalso;simp at h;omega);refine bd [] rfl (by simp) ?_;rw [hc2,show decide (Ai rows<=30)=false by simpa using h30];exact Ab ⟨_,rfl,tV rfl,trivial⟩
  rw [hc2,show decide (Ai rows<=30)=true by simpa using h30];refine Aa rfl (λh=>by exfalso;simp at h;omega) (λh=>?_);clear h;refine bd [] rfl (by simp) ?_;refine Az (fr:=[3]) [(2,1)] [(2,3)] rfl (by simp) (hW hl1 hl2 han) ⟨⟨rfl,rfl,rfl⟩,trivial⟩ rfl rfl rfl rfl ?_;refine bg [] rfl (by simp) ?_;refine AZ 3 rfl ?_;refine N5 2 (id:=2) (off:=0) (ty:=181) (sz:=9) (xs:=Zz ⟨ds,.mk so n0 x0 ps0,rows⟩ (AB (Ds ds))) rfl rfl ?_;exact Ab ⟨_,rfl,tV rfl,trivial⟩
end Go.Hk
namespace Go.Hk
def Jw (P:Program) (n:Nat) (c:Code) (env:Env) (st:St) (ids:List Nat) (env':Env) (st':St) (ids':List Nat):Prop :=
 ∀(b:Frame) (cs:List Frame) (Q:Exit->Act->World->Prop) (I:Imm) (μ:Mu) (a:Act) (w:World) (tail:List Item),Conc n I μ env st ids a w ->
  (∀I' μ' a' w',Conc n I' μ' env' st' ids' a' w'->μ.le μ'->Ext I μ st w I' μ' st' w'->Reach P b cs Q tail a' w')->Reach P b cs Q (.code c::tail) a w
def MC (P:Program) (n:Nat) (all rest:List Oper) (env:Env) (st:St) (ids:List Nat) (env':Env) (st':St) (ids':List Nat):Prop :=
 ∀(b:Frame) (cs:List Frame) (Q:Exit->Act->World->Prop) (I:Imm) (μ:Mu) (a:Act) (w:World) (tail:List Item) (j:Nat),rest=all.drop j->Conc n I μ env st ids a w ->
  (∀I' μ' a' w',Conc n I' μ' env' st' ids' a' w'->μ.le μ'->Ext I μ st w I' μ' st' w'->Reach P b cs Q tail a' w')->Reach P b cs Q (.inRegion all.toArray (List.range' j rest.length)::tail) a w
section
variable {P:Program} {n:Nat} {tt:TT} {env env' env2 E:Env} {st st' st2 stx:St} {ids ids' ids2:List Nat} {c c':Code} {all rest:List Oper} {o:Oper} {ob:List Prop} {I:Imm} {μ:Mu} {w:World} {d:D}
theorem XC (h:Jw P n c env st ids env' st' ids') (h':Jw P n c' env' st' ids' env2 st2 ids2):Jw P n (.seq c c') env st ids env2 st2 ids2:=λb cs Q I μ a w tail hc k =>
 Rl (h b cs Q I μ a w _ hc λI' μ' a' w' hc' hm he=>h' b cs Q I' μ' a' w' _ hc' λI2 μ2 a2 w2 hc2 hm2 he2=>k I2 μ2 a2 w2 hc2 (λi v hv=>hm2 i v (hm i v hv)) (he.trans he2))
theorem Mu.le_trans' {a b c:Mu} (h:a.le b) (k:b.le c):a.le c:=λi v hv=>k i v (h i v hv)
theorem WC {rid:Nat} (h:MC P n all all env st ids env' st' ids'):Jw P n (.region rid ⟨all⟩ false) env st ids env' st' ids':=λb cs Q I μ a w tail hc k=>by
 refine KV ?_;have:=h b cs Q I μ a w tail 0 rfl hc k;simpa [List.range_eq_range'] using this
theorem eK:MC P n all [] env st ids env st ids:=λb cs Q I μ a w tail j hj hc k=>FA (k I μ a w hc (Mu.le_refl μ) (Ext.refl _ _ _ _))
theorem iM {rd fr:List Nat} {wr:St} (hl:LD P (λ_=>False) all o env st rd fr wr d) (hg:o.guard=none) (hnd:∀c,o.op ≠ .defer c) (hn:∀t,o.dst=some t->t<n)
  (h:MC P n all rest (Bt o.dst d env) (wr++st) ids' env' st' ids2):MC P n all (o::rest) env st (fr++ids') env' st' ids2:=by
 intro b cs Q I μ a w tail j hr hc k;obtain ⟨hj,hr'⟩:=Do hr;have hon:Ju (o.looksAt all.toArray) I μ env a:=λt _ d hl=>hc.env t d hl;have hlen:(o::rest).length=rest.length+1:=rfl;rw [hlen,List.range'_succ];have hw:Region.wanted o (yielded all.toArray a.tmps)=true:=A4 hg;obtain ⟨h1,_⟩:=hl I μ st ids' a w (λ_ _=>rfl) hc.toStRep hon;refine Fw hj hw hnd (valX.upon ((h1 hw).mono ?_ ?_))
 ·rintro v w2 ⟨I',μ',q1,q2,q4,q3⟩;obtain ⟨p1,p2,p3⟩:=GJ (n:=n) (w:=w2) (dst:=o.dst) (λt d hl=>(hc.env t d hl).mono q3.imm q4) hc.size hn q2;exact h b cs Q I' μ' (a.put o.dst v) w2 tail (j+1) hr'
   {q1 with size:=p2,env:=by cases hdst:o.dst <;> simpa [Bt,hdst] using p1,defers:=by rw [p3];exact hc.defers.ext q3 }
   λI2 μ2 a2 w3 hc2 hm2 he2=>k I2 μ2 a2 w3 hc2 (Mu.le_trans' q4 hm2) (q3.trans he2)
 ·rintro chain w2 ⟨v,x,I2,q1,q2,q3,q4,q5⟩;exact q2.elim
theorem gW (htt:TTok P tt) {i:Nat} {x:Option Blk} {st1:St} {env1:Env} {ids1:List Nat} (h:Ej tt n all o env st ids = .e env1 ((i,x)::st1) ids1 ob) (hob:A7 ob) (hg:o.guard=none) (hr:MC P n all rest env1 ((i,x)::st) ids1 env' st' ids2) :
  MC P n all (o::rest) env st ids env' st' ids2:=by
 obtain ⟨d,fr,e1,e2,e3,e4,e5,_,e7⟩:=R4 (P:=P) (Pn:=λ_=>False) htt h hob;subst e2;rw [e3] at hr;exact iM (wr:=[(i,x)]) e7 hg e5 e4 hr
theorem Ok (htt:TTok P tt) {rid:Nat} {o1 o2:Oper} {i:Nat} {x y:Option Blk} {st1 st2':St} {env1 env2:Env} {ids1 ids2:List Nat} {ob1 ob2:List Prop} (h1:Ej tt n [o1,o2] o1 env st ids = .e env1 ((i,x)::st1) ids1 ob1) (g1:o1.guard=none)
  (h2:Ej tt n [o1,o2] o2 env1 ((i,x)::st) ids1 = .e env2 ((i,y)::st2') ids2 ob2) (g2:o2.guard=none) (hob1:A7 ob1) (hob2:A7 ob2):Jw P n (.region rid ⟨[o1,o2]⟩ false) env st ids env2 ((i,y)::(i,x)::st) ids2 :=
 WC (gW htt h1 hob1 g1 (gW htt h2 hob2 g2 eK))
theorem PD {L:Ke} {p q:Nat} {fc:Func} {d d2:D} {stB:St} {pend:Option Code} (hf:P.funcs[L.fn]?=some fc) (hps:L.ps = #[p,q]) (hsz:L.tmps.size=n)
  (hd:HG d=[]) (hd2:HG d2=[]) (hp:p<n) (hq:q<n) (hfree:P8 ids L.E stx L.F) (hasg:Jw P n L.asg ((q,d2)::(p,d)::L.E) stx ids env st ids')
  (h:DGo P n (aE::(L.F++TN L.E)) (kZ pend stB) [.code L.body] env st ids'):NQ P [d,d2] (Cz L stx none) pend.isNone (Cz L stB pend):=by
 intro I μ w b xs hμ hst hx;have hl0:Aq (Ta 1 (Cz L stx none)) 0 .pin:=Ax.2 (.inl ⟨rfl,rfl⟩);have hl1:Aq (Ta 1 (Cz L stx none)) 1 (.bun 0 (Cz L stx none)):=Ax.2 (.inr ⟨by simp,Ax.2 (.inl ⟨rfl,rfl⟩)⟩);obtain ⟨g1,hg1,b',bs,hb1,rfl,hP⟩:=hst.blk 1 _ hl1;rw [hμ] at hb1;cases hb1;have hbs:∀k∈bs,I k=none/\k<w.heap.size:=λk hk=>hst.apart 1 _ _ k hl1 hg1 (CM.2 hk);have hP0:=hP;obtain ⟨r,ν,bs0,e1,hr1,⟨hr2,hr3⟩,⟨hr4,hr5,hr6,hr7,hr8⟩,hE1,hS,hown,hnb,hF⟩:=US hP hfree hst.imm hbs;subst e1;obtain ⟨x,x2,rfl⟩:∃x x2,xs = #[x,x2]:=by
  obtain ⟨l⟩:=xs;have:=hx.1
  match l,this with
  | [x,x2],_=>exact ⟨x,x2,rfl⟩
 have hxd1:RepD I ν x d:=(hx.2 0 x d rfl rfl).sub λj hj=>by rw [hd] at hj;cases hj
 have hxd2:RepD I ν x2 d2:=(hx.2 1 x2 d2 rfl rfl).sub λj hj=>by rw [hd2] at hj;cases hj
 have hszp:(#[x,x2]:Array Value).size=r.params.size:=by rw [hr5,hps];rfl
 unfold kX;rw [run_yield hr1 hszp];refine LU (fc:=fc) (by rw [hr4];exact hf) λfb cs hbf hbr=>?_;rw [hr5,hps,hr6,hr7,hr8];have hfold:((#[p,q]:Array Nat).zip #[x,x2]).foldl (λtmps (t,a)=>tmps.setIfInBounds t a) L.tmps=(L.tmps.setIfInBounds p x).setIfInBounds q x2:=by simp
 rw [hfold];obtain ⟨hIb,hblt⟩:=hbs b (by simp);have hnob0:¬Bq ν stx b:=λh=>hnb ((hown b).2 h);have hput:∀(w:World) (o:Obj),(w.putObj b o).heap=w.heap.setIfInBounds b o:=λw o=>by
  unfold World.putObj;by_cases hi:b<w.heap.size <;> simp [hi]
 have hoth:∀(w:World) (o:Obj) k,k≠b->(w.putObj b o).heap[k]?=w.heap[k]?:=λw o k hk=>by rw [hput,Array.getElem?_setIfInBounds_ne (Ne.symm hk)]
 obtain ⟨c1,c2,c3⟩:=GJ (n:=n) (w:=w) (a:={ tmps:=L.tmps,defers:=[] }) (dst:=some p) hE1 hsz (λt ht=>by cases ht;exact hp) hxd1;obtain ⟨f1,f2,f3⟩:=GJ (n:=n) (w:=w) (dst:=some q) c1 c2 (λt ht=>by cases ht;exact hq) hxd2;have hc0:Conc n I ν ((q,d2)::(p,d)::L.E) stx ids ((Act.put { tmps:=L.tmps,defers:=[] } (some p) x).put (some q) x2) w:={ hS with size:=f2,env:=f1,defers:=by rw [f3,c3];exact MarksOk.nil _ _ _ _ }
 refine hasg fb cs _ I ν _ w _ hc0 λIA νA aA wA hcA hmA heA=>?_;have hnob:¬Bq νA st b:=λh=>hnob0 (heA.fresh b hblt h);have hrA1:wA.heap[b]?=some (.loop r):=by rw [heA.block b hblt hnob0];exact hr1
 have hIbA:IA b=none:=by rw [heA.old b hblt hnob0];exact hIb
 have hbltA:b<wA.heap.size:=(Array.getElem?_eq_some_iff.1 hrA1).1;obtain ⟨w1,hw1⟩:∃w1:World,w1=wA.putObj b (.loop { r with state:=.busy }):=⟨_,rfl⟩
 have hbeg:=run_beginRound (P:=P) hrA1 hr2;refine Reach.step (stepR_beginRound hbr hbeg) ?_;rw [<- hw1];have hmarks:MarksOk IA νA st w1 aA.defers:=by
  obtain ⟨rs,m1,m2,m3⟩:=hcA.defers;refine ⟨rs,m1,m2,λk hk=>⟨?_,(m3 k hk).2⟩⟩;have h0:=(m3 k hk).1;rw [hw1,hoth _ _ k (λe=>by rw [e,hrA1] at h0;cases h0)];exact h0
 have hc:Conc n IA νA env st ids' aA w1 :=
  {hcA.toStRep.other (by rw [hw1,hput];simp) (λk o hk=>by rw [hw1];exact hoth _ _ k (λe=>by rw [e,hIbA] at hk;cases hk)) (λk hk=>by rw [hw1];exact hoth _ _ k (λe=>hnob (e ▸ hk))) with
   size:=hcA.size
   env:=hcA.env
   defers:=hmarks }
 have hgo:=h ⟨fb,.inl (by simp)⟩ cs IA νA _ w1 [.code L.body] ⟨rfl,trivial⟩ hc;refine Reach.mono (λe a' w' hpost=>?_) hgo;obtain ⟨x',env',st',ids2,I',μ',p1,p2,p3,p4,p5,p6⟩:=hpost;have hb1:w1.heap[b]?=some (.loop { r with state:=.busy }):=by rw [hw1,hput];simp [hbltA]
 have hsz1:w1.heap.size=wA.heap.size:=by rw [hw1,hput];simp
 have hszA:w.heap.size<=wA.heap.size:=heA.size;have hno2:∀k,k<w.heap.size->¬Bq ν stx k->¬Bq νA st k:=λk hk ho hq=>ho (heA.fresh k hk hq);have hfr2:∀k,k<w.heap.size->Bq μ' st' k->Bq ν stx k:=λk hk ho=>heA.fresh k hk (p5.fresh k (by omega) ho);have hold2:∀k,k<w.heap.size->¬Bq ν stx k->I' k=I k:=λk hk ho=>(p5.old k (by omega) (hno2 k hk ho)).trans (heA.old k hk ho);have himm2:I.le I':=Imm.le_trans heA.imm p5.imm;have hb':w'.heap[b]?=some (.loop { r with state:=.busy }):=by rw [p5.block b (by omega) hnob];exact hb1
 have hno':¬Bq μ' st' b:=λho=>hnob (p5.fresh b (by omega) ho);have hI':I' b=none:=by rw [p5.old b (by omega) hnob];exact hIbA
 have hblt':b<w'.heap.size:=(Array.getElem?_eq_some_iff.1 hb').1;have fin:Ge st' stB->∃v w'',(Instr.endRound b pend).run P w' = .ok v w''/\(∃I2 μ2,RepD I2 μ2 v (.imm (.bool pend.isNone))/\StRep I2 μ2 (Ta 2 (Cz L stB pend)) [] w'' /\
   Pin (DA (Ta 1 (Cz L stx none))) μ μ2/\Ext I μ (Ta 1 (Cz L stx none)) w I2 μ2 (Ta 2 (Cz L stB pend)) w''):=by
  intro hsub;have hSB:StRep I' μ' stB [] w':=p3.toStRep.less (DO hsub) .nil (λ_ h=>by simp at h);have hownB':∀k,Bq μ' stB k->Bq μ' st' k:=λk ⟨i,bi,g,q1,q2⟩=>⟨i,bi,g,DO hsub i bi q1,q2⟩
  have hnoB:¬Bq μ' stB b:=λh=>hno' (hownB' b h);obtain ⟨w2,hw2⟩:∃w2:World,w2=w'.putObj b (.loop { r with state:=if pend.isNone then .ready else .done,pending:=pend }):=⟨_,rfl⟩
  have hend:(Instr.endRound b pend).run P w' = .ok (.bool pend.isNone) w2:=by
   have:=run_endRound (P:=P) pend hb';rw [hw2];exact this
  have hw2s:w2.heap.size=w'.heap.size:=by rw [hw2,hput];simp
  have hw2o:∀k,k≠b->w2.heap[k]?=w'.heap[k]?:=λk hk=>by rw [hw2];exact hoth _ _ k hk
  have hSB2:StRep I' μ' stB [] w2:=hSB.other (by omega) (λk o hk=>hw2o k (λe=>by rw [e,hI'] at hk;cases hk)) (λk hk=>hw2o k (λe=>hnoB (e ▸ hk)));obtain ⟨bsN,hbsN⟩:=OT μ' stB;have hPN:(Cz L stB pend).P I' w2 b (b::bsN):=by
   refine ⟨{ r with state:=if pend.isNone then .ready else .done,pending:=pend },μ',bsN,rfl,by rw [hw2,hput];simp [hblt'],⟨by cases pend <;> rfl,rfl⟩,⟨hr4,hr5,hr6,hr7,hr8⟩,λt d hl=>?_,hSB2.blk,hSB2.inj,hbsN,λhm=>hnoB ((hbsN b).1 hm),λi hi=>?_⟩
   ·exact ((hE1 t d hl).mono himm2 (Mu.le_refl ν)).sub λj hj g hg=>p4 j (by simp [VH hl j hj]) g (hmA j g hg)
   ·exact λg hg0=>p4 i (by simp [hi]) g (hmA i g (hF i hi g hg0))
  obtain ⟨μ2,hμ2⟩:∃μ2:Mu,μ2=λi=>if i=2 then some (.agg (Sy (b::bsN))) else μ i:=⟨_,rfl⟩
  have hm0:μ2 0=some (.func (.yield b) #[] #[]):=by rw [hμ2];simpa using hμ
  have hm2:μ2 2=some (.agg (Sy (b::bsN))):=by rw [hμ2];simp
  have hold:∀k,k∈b::bsN->k<w.heap.size->k∈b::bs0:=λk hk hlt=>by
   rcases List.mem_cons.1 hk with rfl | hk
   ·simp
   ·exact List.mem_cons_of_mem _ ((hown k).2 (hfr2 k hlt (hownB' k ((hbsN k).1 hk))))
  have hnew:∀k∈b::bsN,I' k=none/\k<w2.heap.size:=λk hk=>by
   rcases List.mem_cons.1 hk with rfl | hk
   ·exact ⟨hI',by omega⟩
   ·obtain ⟨i,bi,g,q1,q2,q3⟩:=(hbsN k).1 hk;exact hSB2.apart i bi g k q1 q2 q3
  have hownO:∀k,Bq μ (Ta 1 (Cz L stx none)) k↔k∈b::bs0:=λk=>by
   constructor
   ·rintro ⟨i,bi,g,q1,q2,q3⟩;rcases Ix (by simp) q1 with ⟨rfl,rfl⟩ | ⟨rfl,rfl⟩
    ·rw [hμ] at q2;cases q2;exact q3.elim
    ·rw [hg1] at q2;cases q2;exact CM.1 q3
   ·intro hk;exact ⟨1,_,_,hl1,hg1,CM.2 hk⟩
  have hownN:∀k,Bq μ2 (Ta 2 (Cz L stB pend)) k->k∈b::bsN:=λk=>by
   rintro ⟨i,bi,g,q1,q2,q3⟩;rcases Ix (by simp) q1 with ⟨rfl,rfl⟩ | ⟨rfl,rfl⟩
   ·rw [hm0] at q2;cases q2;exact q3.elim
   ·rw [hm2] at q2;cases q2;exact CM.1 q3
  refine ⟨_,w2,hend,I',μ2,.imm _ _ (.bool _),?_,?_,?_⟩
  ·refine { imm:=hSB2.imm,blk:=λi bi hl=>?_,apart:=λi bi g k hl hgi hk=>hnew k (hownN k ⟨i,bi,g,hl,hgi,hk⟩),inj:=λi j bi bj gi gj k hi hj hgi hgj hki hkj=>?_,nodup:=.nil,idsFree:=λ_ h=>by simp at h }
   ·rcases Ix (by simp) hl with ⟨rfl,rfl⟩ | ⟨rfl,rfl⟩
    ·exact ⟨_,hm0,b,rfl⟩
    ·exact ⟨_,hm2,b,_,hm0,rfl,hPN⟩
   ·rcases Ix (by simp) hi with ⟨rfl,rfl⟩ | ⟨rfl,rfl⟩ <;> rcases Ix (by simp) hj with ⟨rfl,rfl⟩ | ⟨rfl,rfl⟩
    ·rfl
    ·rw [hm0] at hgi;cases hgi;exact hki.elim
    ·rw [hm0] at hgj;cases hgj;exact hkj.elim
    ·rfl
  ·intro i hi g hg;simp only [Ta,DA,List.map_cons,List.map_nil,List.mem_cons,List.not_mem_nil,or_false] at hi;have:i≠2:=by omega
   rw [hμ2];simp only [if_neg this];exact hg
  ·refine { imm:=himm2,os:=?_,tape:=?_,output:=?_,size:=?_,block:=λk hk hno=>?_,fresh:=λk hk ho=>(hownO k).2 (hold k (hownN k ho) hk),old:=λk hk hno=>hold2 k hk (λh=>hno ((hownO k).2 (List.mem_cons_of_mem _ ((hown k).2 h)))) }
   ·have:=p5.os;rw [hw1] at this;rw [hw2,<- heA.os];unfold World.putObj at this ⊢;exact this
   ·have:=p5.tape;rw [hw1] at this;rw [hw2,<- heA.tape];unfold World.putObj at this ⊢;exact this
   ·have:=p5.output;rw [hw1] at this;rw [hw2,<- heA.output];unfold World.putObj at this ⊢;exact this
   ·have:=p5.size;omega
   ·have hkb:k≠b:=λe=>hno ((hownO k).2 (by simp [e]));have hno3:¬Bq ν stx k:=λh=>hno ((hownO k).2 (List.mem_cons_of_mem _ ((hown k).2 h)));rw [hw2o k hkb,p5.block k (by omega) (hno2 k hk hno3),hw1,hoth _ _ k hkb,heA.block k hk hno3]
 cases e with
 | normal =>
  cases x' <;> simp only [M9] at p1;cases pend with
  | none=>exact fin p2
  | some c=>exact p2.elim
 | ret =>
  cases x' <;> simp only [M9] at p1;cases pend with
  | none=>exact p2.elim
  | some c=>cases c <;> first | exact p2.elim | exact fin p2
 | exit j =>
  cases x' <;> simp only [M9] at p1;cases pend with
  | none=>exact p2.elim
  | some c =>
   cases c <;> first | exact p2.elim | skip
   obtain ⟨q1,q2⟩:=p2;subst q1;subst p1;exact fin q2
 | goto l =>
  cases x' <;> simp only [M9] at p1;cases pend <;> exact p2.elim
 | panic chain =>
  cases x' <;> simp only [M9] at p1;cases pend <;> exact p2.elim
 | outgrown=>cases x' <;> simp only [M9] at p1
theorem EZ {id:Nat}:∀{ds:List DI} {is:List Item},EG id ds=none->Sb ds is->exitTo id is=none
 | [],is,_,hd=>by
  cases is with
  | nil=>rfl
  | cons=>exact hd.elim
 | d::ds,is,h,hd=>by
  obtain ⟨i,is,rfl,h1,h2⟩:=F5 hd;cases d with
  | inBlock id1 =>
   cases i with
   | inBlock id2 =>
    have h1:id2=id1:=h1;subst h1;simp only [EG] at h
    split at h
    ·cases h
    ·rename_i hb;have hne:id2≠id:=λe=>by subst e;simp at hb
     simp [exitTo,hne,EZ h h2]
   | _=>exact h1.elim
  | code c =>
   simp only [EG] at h;cases i <;> simp only [Ji] at h1;simp [exitTo,EZ h h2]
  | inLoop c =>
   simp only [EG] at h;cases i <;> simp only [Ji] at h1;simp [exitTo,EZ h h2]
  | inScope c =>
   simp only [EG] at h;cases i <;> simp only [Ji] at h1;simp [exitTo,EZ h h2]
  | ops all rest =>
   simp only [EG] at h;cases i <;> simp only [Ji] at h1;simp [exitTo,EZ h h2]
  | dops all rest fs=>cases i <;> simp only [Ji] at h1
theorem UC {F:List Nat} {Q:DQ} {id:Nat} {k:List DI} (he:EG id k=none) (h:Q (.exit id) env st ids):DGo P n F Q (.code (.exit id)::k) env st ids:=by
 intro b cs I μ a w items hd hc;obtain ⟨is,rfl,hk⟩:=G6 hd;exact Qv (EZ he hk) ⟨.exit id,env,st,ids,I,μ,rfl,h,hc,.refl _ _,.refl _ _ _ _,.refl _ _⟩
end
end Go.Hk
namespace Go.Hk
open Go.Proofs
def SH (v:Ty):Bool:=decide (0<=Eg v 20000 100)&&NO v
def Ir (c:Cse) (v:Ty):Bool:=Bz c&&SH v&&Lc c.datas c.type v
theorem CO {c:Cse} (h:Bz c=true):OkD c.datas/\Bi (BO c.datas)=true/\AD c.datas c.type=true/\c.rows.length<=5/\∀p∈c.rows,Bx p=true/\Cn c.datas c.type p=true:=by
 simp only [Bz,Jo,Bool.and_eq_true,List.all_eq_true,Rh,decide_eq_true_eq] at h;obtain ⟨⟨⟨⟨h1,h2⟩,h3⟩,h4⟩,h5,h6,h7⟩:=h;exact ⟨OkD.of2 h1,(KU h1).2.2.1,h4,h2,h6⟩
theorem UX (c:Cse) (v:Ty):Ak Tryz.prog 72 [.agg (dCse c),.agg (Al v)] (Zy c (Ir c v)):=by
 have hW:=EI c;have hF:=Ws v;have hI:=λh=>gZ c (AB (Ds c.datas)) (CO (c:=c) h).1 (CO h).2.1 v c.type (CO h).2.2.1;obtain ⟨ds,⟨c1,c2,c3,c4⟩,rows⟩:=c;obtain ⟨g,m,z,vs⟩:=v;have hF:Ak Tryz.prog 88 [.agg (Al (.mk g m z vs))] (.bool (SH (.mk g m z vs))):=hF;simp only [Ir] at hI ⊢;generalize hb:Bz ⟨ds,.mk c1 c2 c3 c4,rows⟩=b at *;generalize SH (.mk g m z vs)=b2 at *;generalize Lc ds (.mk c1 c2 c3 c4) (.mk g m z vs)=b3 at *;refine Ae A5 Tryz.func72 (by decide +kernel) rfl [3,4,5] rfl rfl ?_;refine bg [] rfl (by simp) ?_;cases b with
 | false =>
  refine Ac rfl (λ_=>hW) (by simp) ?_;refine bg [] rfl (by simp) ?_;refine Ac rfl (λ_=>hF) (by simp [Ag]) ?_;refine bg [] rfl (by simp [Ag]) ?_;refine Ac (v:=.bool true) rfl (λh=>by simp [Ag] at h) (by simp [Ag]) ?_;refine bg [] rfl (by simp [Ag]) ?_;refine Aa rfl (λh=>?_) (λh=>by simp at h);refine bd [] rfl (by simp) ?_;exact Ab ⟨_,rfl,tV rfl,trivial⟩
 | true =>
  refine Ac rfl (λ_=>hW) (by simp) ?_;refine bg [] rfl (by simp) ?_;refine Ac rfl (λ_=>hF) (by simp [Ag]) ?_;refine bg [] rfl (by simp [Ag]) ?_;refine Ac rfl (λ_=>hI rfl) (by simp [Ag]) ?_;refine bg [] rfl (by simp [Ag]) ?_;by_cases hh:(b2&&b3)=true
  case neg =>
   refine Aa rfl (λh=>?_) (λh=>by exfalso;apply hh;simp at h ⊢;grind);refine bd [] rfl (by simp) ?_;rw [show (true&&b2&&b3)=false by simpa using hh];exact Ab ⟨_,rfl,tV rfl,trivial⟩
  refine Aa rfl (λh=>by exfalso;simp at h hh;grind) (λh=>?_);refine bd [] rfl (by simp) ?_;rw [show (true&&b2&&b3)=true by simpa using hh];exact Ab ⟨_,rfl,tV rfl,trivial⟩
def ttN:TT:=jK++[]
theorem iE:TTok Tryz.prog ttN:=.of_eq (l:=[4,3,9,186,26,62,183,27,5,24,23,193,184,60,188,192,90,22,190,87,85,36,281,227,1,230,291,262,255,257,259,114,278,263]) (by kernel_rfl)
section
variable {n:Nat} {F:List Nat} {Q:DQ} {env env':Env} {st st':St} {ids ids':List Nat} {k todo:List DI} {ob:List Prop}
theorem ni {es:List (List V)} {m:Int} {sz:Nat} {e:TypeId} {g:Option (Bool×Bool)} {ob:List Prop} {t:Nat} {todo':List DI} {c:List V} (h:NG ttN n env todo=some ⟨es,m,sz,e,g,ob,some t,todo'⟩)
  (hc:Ag g->0<=m/\es[m.toNat]?=some c/\c.length=sz) (hob:A7 ob) (hk:G Tryz.prog n F Q todo' ((t,gD g (.ip e c 0))::env) st ids):G Tryz.prog n F Q todo env st ids:=Fr iE h hc hob hk
end
def gB:Ty->Str
 | .mk _ _ x _=>x
def aI:Code->Option (Code×Code)
 | .rangeFunc _ _ a b=>some (a,b)
 | .seq x y=>match aI x with
  | some r=>some r
  | none=>aI y
 | .block _ c=>aI c
 | _=>none
def gG (f:Func):Code:=match aI (Fv f 0) with
 | some (a,_)=>a
 | none=>.skip
def aG (f:Func):Code:=match aI (Fv f 0) with
 | some (_,b)=>b
 | none=>.skip
end Go.Hk
namespace Go.Hk
open Go.Proofs
theorem Lq:WR Tryz.prog 150=true:=by kernel_rfl
mutual
def CY:Ty->Ty->List (Ty×Ty)
 | .mk f n x ps,v=>(.mk f n x ps,v)::(bif decide (f=6)&&AK (AJ (.mk f n x ps)) v then D9 ps (C7 v) else [])
def D9:List Ty->List Ty->List (Ty×Ty)
 | [],_=>[]
 | _::_,[]=>[]
 | p::r,q::s=>CY p q++D9 r s
end
inductive Yields2 (P:Program):List (Ty×Ty)->Bun->Bool->Bun->Prop where
 | nil (S:Bun):Yields2 P [] S true S
 | cons {d:Ty×Ty} {l:List (Ty×Ty)} {S S1 S2:Bun} {r:Bool} (h:NQ P [.imm (.agg (Al d.1)),.imm (.agg (Al d.2))] S true S1) (h1:Yields2 P l S1 r S2):Yields2 P (d::l) S r S2
 | stop {d:Ty×Ty} {l:List (Ty×Ty)} {S S1:Bun} (h:NQ P [.imm (.agg (Al d.1)),.imm (.agg (Al d.2))] S false S1):Yields2 P (d::l) S false S1
theorem Yields2.split {P:Program} {l m:List (Ty×Ty)} {S S2:Bun} {r:Bool} (h:Yields2 P (l++m) S r S2):(∃S1,Yields2 P l S true S1/\Yields2 P m S1 r S2)\/(r=false/\Yields2 P l S false S2):=by
 induction l generalizing S with
 | nil=>exact .inl ⟨S,.nil S,h⟩
 | cons d l ih =>
  cases h with
  | cons h h1 =>
   rcases ih h1 with ⟨S1,q1,q2⟩ | ⟨q1,q2⟩
   ·exact .inl ⟨S1,.cons h q1,q2⟩
   ·exact .inr ⟨q1,.cons h q2⟩
  | stop h=>exact .inr ⟨rfl,.stop h⟩
theorem Yields2.nilInv {P:Program} {S S2:Bun} {r:Bool} (h:Yields2 P [] S r S2):r=true/\S2=S:=by
 cases h;exact ⟨rfl,rfl⟩
def iZ (r:St):St:=(1,some (.cells 250 1 [.yld 3]))::(2,some (.cells 250 1 [.fn (.func 175) [] [.ref 1 0,.ref 2 0]]))::r
def goC (p v:Ty) (b:Bool) (S S':Bun):Prop:=Bb Tryz.prog 175 [.imm (.agg (Al p)),.imm (.agg (Al v)),.ref 1 0,.ref 2 0]
 (iZ [(3,some .pin),(4,some (.bun 3 S))]) (.ret (.imm (.bool b)) (iZ [(3,some .pin),(5,some (.bun 3 S'))]))
theorem P1 (a b:Ty):AK a b=(match a,b with | .mk s n x _,.mk s' n' x' _=>(s == s')&&((n == n')&&(x == x'))):=by
 obtain ⟨s,n,x,ps⟩:=a;obtain ⟨s',n',x',ps'⟩:=b;simp [AK,Bool.and_assoc]
set_option maxHeartbeats 1000000 in
theorem bY:∀(p v:Ty) {b:Bool} {S S':Bun},Lb p v=true->Yields2 Tryz.prog (CY p v) S b S'->goC p v b S S'
 | .mk f n x ps,.mk g m z vs,b,S,S',hok,hY=>by
  have hW:=KB (.mk f n x ps);have hO:=Xk (.mk g m z vs);simp only [CY,C7] at hY;simp only [Lb,C7] at hok;have hE:=P1 (AJ (.mk f n x ps)) (.mk g m z vs);generalize AK (AJ (.mk f n x ps)) (.mk g m z vs)=he at *;generalize AJ (.mk f n x ps)=hd at *;obtain ⟨hs,hn,hx,hps⟩:=hd;simp only at hE;refine Ae A5 Tryz.func175 (by decide +kernel) rfl [8,9,6,10,7,5] rfl rfl ?_;refine bg [] rfl (by simp [Ag]) ?_;cases hY with
  | stop h =>
   refine Xy (j:=4) (j2:=6) rfl (by simp [Ag]) trivial h rfl rfl rfl rfl rfl ?_;refine bg [] rfl (by simp [Ag]) ?_;refine Aa rfl (λh=>?_) (λh=>by simp at h);refine bd [] rfl (by simp) ?_;refine HB (ids':=[]) 6 5 rfl rfl ?_;exact Ab ⟨_,rfl,tV rfl,rfl,rfl,rfl,rfl,trivial⟩
  | @cons _ _ _ S1 _ _ h hY =>
   refine Xy (j:=4) (j2:=6) rfl (by simp [Ag]) trivial h rfl rfl rfl rfl rfl ?_;refine bg [] rfl (by simp [Ag]) ?_;refine Aa rfl (λh=>by simp at h) (λh=>?_);refine bd [] rfl (by simp) ?_;refine Ac rfl (λ_=>hW) (by simp [Ag]) ?_;refine bg [] rfl (by simp [Ag]) ?_;refine Ac rfl (λ_=>hO) (by simp [Ag]) ?_;refine bg [] rfl (by simp [Ag]) ?_;refine Ux A5 rfl Lq (by simp [Ag]) ?_;refine bg [] rfl (by simp [Ag];rfl) ?_;by_cases hg:f=6/\he=true
   case neg =>
    rw [show (bif decide (f=6)&&he then D9 ps vs else [])=[] by
     have:(decide (f=6)&&he)=false:=by simp;grind
     rw [this];rfl] at hY
    obtain ⟨rfl,rfl⟩:=hY.nilInv;refine Aa rfl (λh=>?_) (λh=>by exfalso;apply hg;rw [hE];simp at h ⊢;grind);refine bd [] rfl (by simp) ?_;refine HB (ids':=[]) 6 5 rfl rfl ?_;exact Ab ⟨_,rfl,tV rfl,rfl,rfl,rfl,rfl,trivial⟩
   obtain ⟨rfl,rfl⟩:=hg;have hE1:(hs == g&&(hn == m&&hx == z))=true:=hE.symm;refine Aa rfl (λh=>by exfalso;simp at h hE1;grind) (λh=>?_);clear h;rw [show (bif decide ((6:Int)=6)&&true then D9 ps vs else [])=D9 ps vs from rfl] at hY;simp only [show decide ((6:Int)=1)=false from rfl,show decide ((6:Int)=2)=false from rfl,Bool.not_true,Bool.false_or,Bool.and_eq_true] at hok;obtain ⟨hlen,hok⟩:=hok;have hlen:ps.length<=vs.length:=of_decide_eq_true hlen;refine bd [] rfl (by simp) ?_;refine UB (t:=25) rfl λhv=>?_;have hpl:ps.length<=9223372036854775807:=by simp [Eh,maxLen] at hv;omega
   refine Aj (λy:Nat×Bun=>[(27,.imm (.int .i64 y.1)),(26,.imm (.int .i64 ps.length)),(25,.imm (.sl (Bg ps))),(3,.ref 2 0),(5,.ref 9 0)])
    (λy=>iZ [(3,some .pin),(6,some (.bun 3 y.2)),(9,some (.immb 35 4 (Al (.mk g m z vs))))]) [10,7,5] (λy=>ps.length-y.1)
    (λy=>y.1<=ps.length/\La (ps.drop y.1) (vs.drop y.1)=true/\Yields2 Tryz.prog (D9 (ps.drop y.1) (vs.drop y.1)) y.2 b S') (0,S1) ⟨Nat.zero_le _,hok,hY⟩ ⟨rfl,At (by simp),rfl,rfl,rfl,trivial⟩ ⟨rfl,rfl,rfl,rfl,rfl,trivial⟩ rfl λy hi ih=>?_
   obtain ⟨i,S0⟩:=y;obtain ⟨hi1,hi2,hi3⟩:=hi;simp only at hi1 hi2 hi3;refine bd [] rfl (by simp [Ag]) ?_;refine Aa rfl (λh=>?_) (λh=>?_)
   ·simp at h;obtain ⟨t,ht⟩:=Am h;obtain ⟨u,hu⟩:=Am (l:=vs) (i:=i) (by omega);rw [Ap ht,Ap hu] at hi2 hi3;simp only [La,Bool.and_eq_true] at hi2;simp only [D9] at hi3;refine bd [] rfl (by simp [Ag]) ?_;refine bi rfl (c:=Al t) (λ_=>⟨by simp,by simpa using Av ht,by simp⟩) (by simp) ?_;refine bg [] rfl (by simp [Ag]) ?_;refine bi rfl (c:=Al u) (λ_=>⟨by simp,by simpa using Av hu,by simp⟩) (by simp) ?_;refine bg [] rfl (by simp [Ag]) ?_;rcases Yields2.split hi3 with ⟨S2,q1,q2⟩ | ⟨q1,q2⟩
    ·refine Az (fr:=[7]) [(1,1),(2,2),(3,3),(6,4)] [(5,7)] rfl (by simp) (bY t u hi2.1 q1) ⟨⟨rfl,rfl,rfl⟩,⟨rfl,rfl,rfl⟩,⟨rfl,rfl,rfl⟩,⟨rfl,rfl,rfl⟩,trivial⟩ rfl rfl rfl rfl ?_;refine bg [] rfl (by simp [Ag];rfl) ?_;refine Aa rfl (λh=>by simp at h) (λh=>?_);refine bd [] rfl (by simp) ?_;refine A3 6 7 rfl ?_;exact Ad (ih (i+1,S2) (by simp only;omega) ⟨by simp only;omega,hi2.2,q2⟩) ⟨At (Bv (by simp only;omega) (by simp only;omega)),rfl,rfl,rfl,rfl,trivial⟩ ⟨rfl,rfl,rfl,rfl,rfl,trivial⟩ rfl
    ·subst q1;refine Az (fr:=[7]) [(1,1),(2,2),(3,3),(6,4)] [(5,7)] rfl (by simp) (bY t u hi2.1 q2) ⟨⟨rfl,rfl,rfl⟩,⟨rfl,rfl,rfl⟩,⟨rfl,rfl,rfl⟩,⟨rfl,rfl,rfl⟩,trivial⟩ rfl rfl rfl rfl ?_;refine bg [] rfl (by simp [Ag];rfl) ?_;refine Aa rfl (λh=>?_) (λh=>by simp at h);refine bd [] rfl (by simp) ?_;refine HB (ids':=[]) 7 5 rfl rfl ?_;exact Ab ⟨_,rfl,tV rfl,rfl,rfl,rfl,rfl,trivial⟩
   ·simp at h;rw [(List.drop_eq_nil_of_le (by omega):ps.drop i=[])] at hi3;obtain ⟨rfl,rfl⟩:=hi3.nilInv;refine Ar rfl ?_;refine bd [] rfl (by simp) ?_;refine HB (ids':=[]) 6 5 rfl rfl ?_;exact Ab ⟨_,rfl,tV rfl,rfl,rfl,rfl,rfl,trivial⟩
termination_by p=>SizeOf.sizeOf p
decreasing_by
 all_goals
  have:=List.sizeOf_lt_of_mem (List.mem_of_getElem? ht);simp_wf;omega
def EH (p v:Ty):St:=[(6,some (.immb 62 4 (Al p))),(7,some (.immb 35 4 (Al v)))]
theorem LZ (p v:Ty) (hok:Lb p v=true) {b:Bool} {S S':Bun} (hY:Yields2 Tryz.prog (CY p v) S b S') :
  Bb Tryz.prog 174 [.yld 3,.ref 6 0,.ref 7 0] ((3,some .pin)::(4,some (.bun 3 S))::EH p v) (.ret (.tup []) ((3,some .pin)::(5,some (.bun 3 S'))::EH p v)):=by
 refine Ae A5 Tryz.func174 (by decide +kernel) rfl [1,2,8,5] rfl rfl ?_;obtain ⟨q1,q2,q3,q4⟩:=p;obtain ⟨u1,u2,u3,u4⟩:=v;refine bg [] rfl (by simp [Ag]) ?_;refine Az (fr:=[8]) [(1,1),(2,2),(3,3),(4,4)] [(5,8)] rfl (by simp) (bY _ _ hok hY) ⟨⟨rfl,rfl,rfl⟩,⟨rfl,rfl,rfl⟩,⟨rfl,rfl,rfl⟩,⟨rfl,rfl,rfl⟩,trivial⟩ rfl rfl rfl rfl ?_;refine bg [] rfl (by simp [Ag]) ?_;refine HB (ids':=[]) 8 5 rfl rfl ?_;exact Ce ⟨[],rfl,rfl,rfl,rfl,rfl,rfl,trivial⟩
theorem OR (p v:Ty):Bb Tryz.prog 127 [.imm (.agg (Al p)),.imm (.agg (Al v))] [] (.ret (.fn (.func 174) [] [.ref 6 0,.ref 7 0]) (EH p v)):=by
 refine Ae A5 Tryz.func127 (by decide +kernel) rfl [6,7] rfl rfl ?_;obtain ⟨q1,q2,q3,q4⟩:=p;obtain ⟨u1,u2,u3,u4⟩:=v;refine bg [] rfl (by simp [Ag]) ?_;exact Ab ⟨_,rfl,rfl,rfl,rfl,trivial⟩
def Nw:Ty->Int
 | .mk s _ _ _=>s
def Gh (l:List (Str×Ty)) (d:Ty×Ty):Option (List (Str×Ty)) :=
 if Nw d.1=2 then some (l++[(gB d.1,d.2)]) else if Nw d.1≠1/\AK (AJ d.1) d.2=false then none else some l
def E5:List (Str×Ty)->List (Ty×Ty)->List (Str×Ty)×Bool
 | l,[]=>(l,true)
 | l,d::r=>match Gh l d with
  | some l'=>E5 l' r
  | none=>(l,false)
theorem Tr (l:List (Str×Ty)) (f n:Int) (t:Str) (ps:List Ty) (u:Ty):(f=2->Gh l (.mk f n t ps,u)=some (l++[(t,u)])) /\
  (f≠2->f≠1/\AK (AJ (.mk f n t ps)) u=false->Gh l (.mk f n t ps,u)=none)/\(f≠2->¬(f≠1/\AK (AJ (.mk f n t ps)) u=false)->Gh l (.mk f n t ps,u)=some l):=by
 have h0:Nw (.mk f n t ps)=f:=rfl;have h1:gB (.mk f n t ps)=t:=rfl;refine ⟨λh=>?_,λh h'=>?_,λh h'=>?_⟩
 ·simp only [Gh,h0,h1];rw [if_pos h]
 ·simp only [Gh,h0,h1];rw [if_neg h,if_pos h']
 ·simp only [Gh,h0,h1];rw [if_neg h,if_neg h']
def NU:List (Str×Ty)->St
 | []=>[(3,some (.cells 55 1 [.nils])),(4,some (.immb 4 1 [.bool false])),(5,some (.cells 55 1 [.nils]))]
 | b::r=>[(3,some (.cells 55 1 [.nils])),(4,some (.immb 4 1 [.bool false])),(5,some (.cells 55 1 [.own 8 (BP (b::r)).length])),(8,some (.row 101 5 (BP (b::r))))]
set_option maxHeartbeats 1000000 in
theorem fV (l:List (Str×Ty)) (x u:Ty) (hlen:l.length<=1000000) {L:Ke} (h1:Tryz.prog.funcs[L.fn]?.isSome) (h2:L.tmps.size=Tryz.f73.ntmps) (h3:L.ps = #[12,13]) (h4:L.asg=gG Tryz.f73)
  (h5:L.body=aG Tryz.f73) (h6:L.E=[(4,.ref 3 0),(5,.ref 4 0),(6,.ref 5 0)]) (h7:L.F=[]) :
  (∀l',Gh l (x,u)=some l'->NQ Tryz.prog [.imm (.agg (Al x)),.imm (.agg (Al u))] (Cz L (NU l) none) true (Cz L (NU l') none)) /\
  (Gh l (x,u)=none->NQ Tryz.prog [.imm (.agg (Al x)),.imm (.agg (Al u))] (Cz L (NU l) none) false (Cz L (NU l) (some .ret))):=by
 obtain ⟨fc,hf⟩:=Option.isSome_iff_exists.1 h1;have hW:=KB x;have hO:=Xk u;have hE:=P1 (AJ x) u;obtain ⟨f,n,t,ps⟩:=x;have hst:=Tr l f n t ps u;generalize AK (AJ (.mk f n t ps)) u=he at *;generalize AJ (.mk f n t ps)=hd at *;obtain ⟨hs,hn,hx,hps⟩:=hd;obtain ⟨g,m,z,vs⟩:=u;simp only at hE;obtain ⟨hst1,hst2,hst3⟩:=hst;have hfree:P8 [9,10,11,12,13] L.E (NU l) L.F:=by
  rw [h6,h7];cases l <;> refine ⟨by decide,?_⟩ <;> simp [NU,TN,HG,EU,S8,Hz]
 have hasg:∀stx,Jw Tryz.prog Tryz.f73.ntmps L.asg ((13,.imm (.agg (Al (.mk g m z vs))))::(12,.imm (.agg (Al (.mk f n t ps))))::L.E) stx [9,10,11,12,13] _ _ _:=λstx=>by
  rw [h4];exact XC (Ok A5 rfl rfl rfl rfl (by simp) (by simp)) (Ok A5 rfl rfl rfl rfl (by simp) (by simp))
 by_cases h22:f=2
 ·subst h22;refine ⟨λl' hl'=>?_,λh=>by rw [hst1 rfl] at h;cases h⟩;rw [hst1 rfl] at hl';cases hl';refine PD (pend:=none) hf h3 h2 rfl rfl (by decide) (by decide) hfree (hasg _) ?_;rw [h5,h6,h7];cases l with
  | nil =>
   refine bd [] rfl (by simp [Ag]) ?_;refine Aa rfl (λh=>?_) (λh=>by simp at h);refine bd [] rfl (by simp [Ag]) ?_;refine Bp A5 rfl ⟨by simp,by simp [maxLen],by simp,trivial⟩ ?_;refine bg [] rfl (by simp [Ag]) ?_;refine A3 8 11 rfl ?_;exact Ce (⟨rfl,rfl,rfl,rfl,trivial⟩:Ge _ (NU ([]++[(t,.mk g m z vs)])))
  | cons b r =>
   refine bd [] rfl (by simp [Ag]) ?_;refine Aa rfl (λh=>?_) (λh=>by simp at h);refine bd [] rfl (by simp [Ag]) ?_;refine Bp A5 rfl ⟨by simp,by simp [maxLen] at hlen ⊢;omega,by simp at hlen ⊢;omega,trivial⟩ ?_;refine bg [] rfl (by simp [Ag]) ?_;refine A3 8 11 rfl ?_;refine Ce (?_:Ge _ (NU (b::r++[(t,.mk g m z vs)])));have e:BP (b::(r++[(t,.mk g m z vs)]))=BP (b::r)++[L0 (t,.mk g m z vs)]:=by simp [BP]
   simp only [NU,List.cons_append,e];exact ⟨rfl,rfl,by simp only [List.length_append];rfl,rfl,trivial⟩
 have hst2:=hst2 h22;have hst3:=hst3 h22;have key:∀(pend:Option Code) (hh:(f≠1/\he=false)↔pend.isSome=true) (hp:pend=none\/pend=some .ret),
   NQ Tryz.prog [.imm (.agg (Al (.mk f n t ps))),.imm (.agg (Al (.mk g m z vs)))] (Cz L (NU l) none) pend.isNone (Cz L (NU l) pend):=by
  intro pend hh hp;refine PD (pend:=pend) hf h3 h2 rfl rfl (by decide) (by decide) hfree (hasg _) ?_;rw [h5,h6,h7];refine bd [] rfl (by simp [Ag]) ?_;refine Aa rfl (λh=>absurd (by simpa using h) h22) (λh=>?_);clear h;refine bd [] rfl (by simp [Ag]) ?_;refine Ac rfl (λ_=>hW) (by simp [Ag]) ?_;refine bg [] rfl (by simp [Ag]) ?_;refine Ac rfl (λ_=>hO) (by simp [Ag]) ?_;refine bg [] rfl (by simp [Ag]) ?_;refine Ux A5 rfl Lq (by simp [Ag]) ?_;refine bg [] rfl (by simp [Ag];rfl) ?_;rcases hp with rfl | rfl
  ·refine Aa rfl (λh=>?_) (λh=>?_)
   ·exfalso;have:¬(f≠1/\he=false):=λq=>by have:=hh.1 q;cases this
    apply this;simp at h;refine ⟨h.1,?_⟩;rw [hE];simp;grind
   ·refine bd [] rfl (by simp [Ag]) ?_;refine Ce (?_:Ge _ (NU l));cases l <;> exact ⟨rfl,rfl,rfl,by first | trivial | exact ⟨rfl,trivial⟩⟩
  ·have hq:=hh.2 rfl;refine Aa rfl (λh=>?_) (λh=>?_)
   ·cases l with
    | nil =>
     refine bd [] rfl (by simp [Ag]) ?_;exact Ab (⟨rfl,rfl,rfl,trivial⟩:Ge _ (NU []))
    | cons b r =>
     refine bd [] rfl (by simp [Ag]) ?_;exact Ab (⟨rfl,rfl,rfl,rfl,trivial⟩:Ge _ (NU (b::r)))
   ·exfalso;obtain ⟨q1,q2⟩:=hq;rw [q2] at hE;simp at h hE;grind
 refine ⟨λl' hl'=>?_,λh=>?_⟩
 ·have hn:¬(f≠1/\he=false):=λhq=>by rw [hst2 hq] at hl';cases hl'
  rw [hst3 hn] at hl';cases hl';exact key none ⟨λh=>absurd h hn,λh=>by cases h⟩ (.inl rfl)
 ·have hn:f≠1/\he=false:=by
   by_cases hq:f≠1/\he=false
   ·exact hq
   ·rw [hst3 hq] at h;cases h
  exact key (some .ret) ⟨λ_=>rfl,λ_=>hn⟩ (.inr rfl)
theorem XY {l l':List (Str×Ty)} {d:Ty×Ty} (h:Gh l d=some l'):l'.length<=l.length+1:=by
 unfold Gh at h
 split at h
 ·cases h;simp
 ·split at h
  ·cases h
  ·cases h;omega
theorem Qj {L:Ke} (h1:Tryz.prog.funcs[L.fn]?.isSome) (h2:L.tmps.size=Tryz.f73.ntmps) (h3:L.ps = #[12,13]) (h4:L.asg=gG Tryz.f73)
  (h5:L.body=aG Tryz.f73) (h6:L.E=[(4,.ref 3 0),(5,.ref 4 0),(6,.ref 5 0)]) (h7:L.F=[]):∀(items:List (Ty×Ty)) (l:List (Str×Ty)),l.length+items.length<=1000000 ->
  Yields2 Tryz.prog items (Cz L (NU l) none) (E5 l items).2 (Cz L (NU (E5 l items).1) (bif (E5 l items).2 then none else some .ret))
 | [],l,_=>.nil _
 | d::r,l,hl=>by
  simp only [List.length_cons] at hl;obtain ⟨q1,q2⟩:=fV l d.1 d.2 (by omega) h1 h2 h3 h4 h5 h6 h7;cases hs:Gh l d with
  | none =>
   rw [show E5 l (d::r)=(l,false) by simp only [E5,hs]];exact .stop (q2 hs)
  | some l' =>
   rw [show E5 l (d::r)=E5 l' r by simp only [E5,hs]];have:=XY hs;exact .cons (q1 l' hs) (Qj h1 h2 h3 h4 h5 h6 h7 r l' (by omega))
set_option maxHeartbeats 1000000 in
theorem bJ (p v:Ty) (hok:Lb p v=true) (hN:(CY p v).length<=1000000):Ak Tryz.prog 73 [.agg (Al p),.agg (Al v)] (.tup [.sl (BP (bif (E5 [] (CY p v)).2 then (E5 [] (CY p v)).1 else [])),.bool (E5 [] (CY p v)).2]):=by
 have hP:=OR p v;have hP1:=λb S S' h=>LZ p v hok (b:=b) (S:=S) (S':=S') h;have hY:=λL h1 h2 h3 h4 h5 h6 h7=>Qj (L:=L) h1 h2 h3 h4 h5 h6 h7 (CY p v) [] (by simpa using hN);obtain ⟨q1,q2,q3,q4⟩:=p;obtain ⟨u1,u2,u3,u4⟩:=v;generalize E5 [] (CY (.mk q1 q2 q3 q4) (.mk u1 u2 u3 u4))=r at *;obtain ⟨l,b⟩:=r;simp only at hY ⊢;refine Ae A5 Tryz.func73 (by decide +kernel) rfl [1,2,3,4,5,6,7,8,9,10,11,12,13] rfl rfl ?_;refine bg [] rfl (by simp) ?_;refine Az (st0:=[]) (fr:=[6,7]) [] [(6,6),(7,7)] rfl (by simp) hP trivial rfl rfl rfl rfl ?_;refine bd [] rfl (by simp) ?_
 refine Mz (y:=3) (j:=4) (j2:=5) (stc:=EH (.mk q1 q2 q3 q4) (.mk u1 u2 u3 u4)) (stc':=EH (.mk q1 q2 q3 q4) (.mk u1 u2 u3 u4)) (stx:=NU []) (stB:=NU l) (pend:=bif b then none else some .ret) (E:=[(4,.ref 3 0),(5,.ref 4 0),(6,.ref 5 0)]) (ids':=[9,10,11,12,13]) (d:=.tup []) rfl Tryz.func174 (by decide +kernel) rfl (by decide) ⟨rfl,rfl,rfl,trivial⟩
   (DO ⟨rfl,rfl,rfl,rfl,rfl,trivial⟩) (λL h1 h2 h3 h4 h5 h6 h7=>?_) ?_ ?_ ?_ ?_ ?_
 ·exact hP1 b _ _ (hY L h1 h2 h3 h4 h5 h6 h7)
 ·simp [EH,NU,DA]
 ·simp [EH,DA]
 ·intro i hi;have e:Hz (ER (Dl (AT []++[(6,6),(7,7)])) []++ER (Dl (AT []++[(6,6),(7,7)])) [.ref 6 0,.ref 7 0])=[6,7]:=rfl;rw [e] at hi;simpa [EH,DA,EU,S8,Hz,HG] using hi
 ·cases l <;> refine ⟨by decide,?_⟩ <;> simp [NU,TN,HG,EU,S8,Hz,DA]
 ·cases b with
  | false =>
   cases l <;> exact Ab ⟨_,rfl,tV rfl,trivial⟩
  | true =>
   cases l with
   | nil =>
    refine bd [] rfl (by simp [Ag]) ?_;exact Ab ⟨_,rfl,tV rfl,trivial⟩
   | cons x r =>
    refine AZ 8 rfl ?_;refine bd [] rfl (by simp [Ag]) ?_;exact Ab ⟨_,rfl,tV rfl,trivial⟩
theorem In:∀v:Ty,An v<=1000000000000->Ak Tryz.prog 74 [.agg (Al v)] (.agg (Al v))
 | .mk s n x ps,hN=>by
  refine AM λhv=>?_;simp [BX,Eh,Al,maxLen] at hv;simp only [An] at hN;have hpl:ps.length<=1000000000000:=by
   have:∀l:List Ty,l.length<=Ai l:=λl=>by
    induction l with
    | nil=>simp
    | cons t r ih=>obtain ⟨a,b,c,d⟩:=t;simp only [Ai,An,List.length_cons];omega
   have:=this ps;omega
  refine Ae A5 Tryz.func74 (by decide +kernel) rfl [1,2,3,4,5,6] rfl rfl ?_;refine bg [] rfl (by simp) ?_;refine Ct (e:=35) (sz:=4) 3 3 (by decide) rfl ?_;refine Aj (λi:Nat=>[(9,.imm (.int .i64 i)),(8,.imm (.int .i64 ps.length)),(7,.imm (.sl (Bg ps))),(3,.own 3 (Bg (ps.take i)).length),(1,.ref 1 0),(2,.ref 2 0)])
   (λi=>[(3,some (.row 35 4 (Bg (ps.take i)))),(1,some (.immb 35 4 (Al (.mk s n x ps)))),(2,some (.cells 35 4 [.imm (.int .i64 0),.imm (.int .i64 0),.imm (.str []),.nils]))]) [4,5,6] (λi=>ps.length-i)
   (λi=>i<=ps.length) 0 (Nat.zero_le _) ⟨rfl,At (by simp),rfl,rfl,rfl,rfl,trivial⟩ ⟨rfl,rfl,rfl,trivial⟩ rfl λi hi ih=>?_
  refine bd [] rfl (by simp) ?_;refine Aa rfl (λh=>?_) (λh=>?_)
  ·simp at h;obtain ⟨t,ht⟩:=Am h;have hb:=B7 ht;refine bd [] rfl (by simp) ?_;refine bi rfl (c:=Al t) (λ_=>⟨by simp,by simpa using Av ht,by simp⟩) (by simp) ?_;refine bg [] rfl (by simp) ?_;refine Ac rfl (λ_=>In t (by omega)) (by simp) ?_;refine bg [] rfl (by simp) ?_;refine Bp A5 rfl ⟨by simp,by simp [maxLen];omega,by simp;omega,trivial⟩ ?_;refine bg [] rfl (by simp) ?_;refine A3 3 5 rfl ?_;have et:Bg (ps.take (i+1))=Bg (ps.take i)++[Al t]:=by rw [AS ht,Jk];simp [Bg]
   exact Ad (ih (i+1) (by omega) (by omega)) ⟨At (Bv (by omega) (by omega)),rfl,rfl,by rw [et];rfl,rfl,rfl,trivial⟩ ⟨by rw [et];rfl,rfl,rfl,trivial⟩ rfl
  ·simp at h;refine Ar rfl ?_;rw [List.take_of_length_le h];refine AZ 3 rfl ?_;refine bd [] rfl (by simp) ?_;exact Ab ⟨_,rfl,tV rfl,trivial⟩
termination_by v=>SizeOf.sizeOf v
decreasing_by
 have:=List.sizeOf_lt_of_mem (List.mem_of_getElem? ht);simp_wf;omega
def Hu (d:Ty×Ty):Bool:=decide (Nw d.1≠1)&&decide (Nw d.1≠2) && !AK (AJ d.1) d.2
theorem Vs (l:List (Str×Ty)) (d:Ty×Ty):(Gh l d).isSome = !Hu d:=by
 unfold Gh Hu;by_cases h2:Nw d.1=2
 ·rw [if_pos h2];simp [h2]
 ·rw [if_neg h2];by_cases h1:Nw d.1≠1/\AK (AJ d.1) d.2=false
  ·rw [if_pos h1];simp [h1,h2]
  ·rw [if_neg h1];simp only [Option.isSome_some];by_cases h3:Nw d.1=1
   ·simp [h3]
   ·have:AK (AJ d.1) d.2=true:=by cases hh:AK (AJ d.1) d.2;exact absurd ⟨h3,hh⟩ h1;rfl
    simp [this]
theorem T2:∀(items:List (Ty×Ty)) (l:List (Str×Ty)),(E5 l items).2=items.all λd=>!Hu d
 | [],l=>rfl
 | d::r,l=>by
  have:=Vs l d;simp only [E5,List.all_cons];cases hs:Gh l d with
  | none=>rw [hs] at this;simp at this;simp [this]
  | some l'=>rw [hs] at this;simp at this;simp [this,T2 r l']
def OJ:Code->Option (Code×Code)
 | .rangeFunc _ _ a b=>some (a,b)
 | .seq x y=>match OJ x with
  | some r=>some r
  | none=>OJ y
 | .block _ c=>OJ c
 | .scope c=>OJ c
 | .loop c=>OJ c
 | _=>none
def aH (f:Func):Code:=match OJ (Fv f 0) with
 | some (a,_)=>a
 | none=>.skip
def WW (f:Func):Code:=match OJ (Fv f 0) with
 | some (_,b)=>b
 | none=>.skip
def XZ (v:Ty):St:=[(1,some (.immb 35 4 (Al v)))]
def eR (c:Cse) (sz:List (List V)) (i:Nat):Env:=[(5,.imm (.int .i64 i)),(15,.imm (.int .i64 i)),(14,.imm (.int .i64 c.rows.length)),(13,.imm (.sl (Bg c.rows))),(0,.imm (AL c sz)),(3,.ref 1 0)]
set_option maxHeartbeats 1000000 in
theorem XG (c:Cse) (sz:List (List V)) (i:Nat) (v x u:Ty) {L:Ke} (h1:Tryz.prog.funcs[L.fn]?.isSome) (h2:L.tmps.size=Tryz.f98.ntmps) (h3:L.ps = #[23,24]) (h4:L.asg=aH Tryz.f98)
  (h5:L.body=WW Tryz.f98) (h6:L.E=eR c sz i) (h7:L.F=[]) (pend:Option Code) (hp:pend=none\/pend=some (.exit 1)) (hh:Hu (x,u)=pend.isSome) :
  NQ Tryz.prog [.imm (.agg (Al x)),.imm (.agg (Al u))] (Cz L (XZ v) none) pend.isNone (Cz L (XZ v) pend):=by
 obtain ⟨fc,hf⟩:=Option.isSome_iff_exists.1 h1;have hW:=KB x;have hO:=Xk u;have hE:=P1 (AJ x) u;obtain ⟨f,n,t,ps⟩:=x;have hs:Hu (.mk f n t ps,u)=(decide (f≠1)&&decide (f≠2) && !AK (AJ (.mk f n t ps)) u):=rfl;rw [hs] at hh;clear hs;generalize AK (AJ (.mk f n t ps)) u=he at *;generalize AJ (.mk f n t ps)=hd at *;obtain ⟨hs,hn,hx,hps⟩:=hd;obtain ⟨g,m,z,vs⟩:=u;simp only at hE;have hfree:P8 [9,10,11,12,13] L.E (XZ v) L.F:=by
  rw [h6,h7];refine ⟨by decide,?_⟩;simp [XZ,eR,TN,HG,EU,S8,Hz]
 have hasg:∀stx,Jw Tryz.prog Tryz.f98.ntmps L.asg ((24,.imm (.agg (Al (.mk g m z vs))))::(23,.imm (.agg (Al (.mk f n t ps))))::L.E) stx [9,10,11,12,13] _ _ _:=λstx=>by
  rw [h4];exact XC (Ok A5 rfl rfl rfl rfl (by simp) (by simp)) (Ok A5 rfl rfl rfl rfl (by simp) (by simp))
 refine PD (pend:=pend) hf h3 h2 rfl rfl (by decide) (by decide) hfree (hasg _) ?_;rw [h5,h6,h7];refine bd [] rfl (by simp [Ag]) ?_;refine Ac rfl (λ_=>hW) (by simp [Ag]) ?_;refine bg [] rfl (by simp [Ag]) ?_;refine Ac rfl (λ_=>hO) (by simp [Ag]) ?_;refine bg [] rfl (by simp [Ag]) ?_;refine Ux A5 rfl Lq (by simp [Ag]) ?_;refine bg [] rfl (by simp [Ag];rfl) ?_;rcases hp with rfl | rfl
 ·refine Aa rfl (λh=>?_) (λh=>?_)
  ·exfalso;rw [hE] at hh;simp at h hh;grind
  ·refine bd [] rfl (by simp [Ag]) ?_;exact Ce (⟨rfl,trivial⟩:Ge _ (XZ v))
 ·refine Aa rfl (λh=>?_) (λh=>?_)
  ·refine bd [] rfl (by simp [Ag]) ?_;exact UC rfl (⟨rfl,rfl,trivial⟩:(1:Nat)=1/\Ge _ (XZ v))
  ·exfalso;rw [hE] at hh;simp at h hh;grind
theorem Vg (c:Cse) (sz:List (List V)) (i:Nat) (v:Ty) {L:Ke} (h1:Tryz.prog.funcs[L.fn]?.isSome) (h2:L.tmps.size=Tryz.f98.ntmps) (h3:L.ps = #[23,24]) (h4:L.asg=aH Tryz.f98)
  (h5:L.body=WW Tryz.f98) (h6:L.E=eR c sz i) (h7:L.F=[]):∀(items:List (Ty×Ty)),
  Yields2 Tryz.prog items (Cz L (XZ v) none) (items.all λd=>!Hu d) (Cz L (XZ v) (bif items.all λd=>!Hu d then none else some (.exit 1)))
 | []=>.nil _
 | d::r=>by
  cases hs:Hu d with
  | true =>
   rw [show ((d::r).all λd=>!Hu d)=false by simp [hs]];exact .stop (XG c sz i v d.1 d.2 h1 h2 h3 h4 h5 h6 h7 (some (.exit 1)) (.inr rfl) hs)
  | false =>
   rw [show ((d::r).all λd=>!Hu d)=r.all λd=>!Hu d by simp [hs]];exact .cons (XG c sz i v d.1 d.2 h1 h2 h3 h4 h5 h6 h7 none (.inl rfl) hs) (Vg c sz i v h1 h2 h3 h4 h5 h6 h7 r)
def WV (v p:Ty):Bool:=(CY p v).all λd=>!Hu d
def Hh (v:Ty):Nat->List Ty->Int
 | _,[]=>-1
 | i,p::r=>bif WV v p then (i:Int) else Hh v (i+1) r
set_option maxHeartbeats 1000000 in
theorem iJ (c:Cse) (sz:List (List V)) (v:Ty) (hok:∀p∈c.rows,Lb p v=true):Ak Tryz.prog 98 [AL c sz,.agg (Al v)] (.int .i64 (Hh v 0 c.rows)):=by
 have hP:=λp=>OR p v;have hP1:=λp hok b S S' h=>LZ p v hok (b:=b) (S:=S) (S':=S') h;have hY:=λi L h1 h2 h3 h4 h5 h6 h7 items=>Vg c sz i v (L:=L) h1 h2 h3 h4 h5 h6 h7 items;have hrl:Ak Tryz.prog 98 [AL c sz,.agg (Al v)] (.int .i64 (Hh v 0 c.rows))↔Ak Tryz.prog 98 [AL c sz,.agg (Al v)] (.int .i64 (Hh v 0 c.rows)):=Iff.rfl;clear hrl;obtain ⟨ds,⟨c1,c2,c3,c4⟩,rows⟩:=c;obtain ⟨g,m,z,vs⟩:=v;simp only at hok ⊢;refine Ae A5 Tryz.func98 (by decide +kernel) rfl [1,2,6,7,9,10,11,12,13] rfl rfl ?_;refine bg [] rfl (by simp) ?_;refine UB (t:=13) rfl λhv=>?_;have hlen:rows.length<=9223372036854775807:=by simp [Eh,maxLen] at hv;omega
 refine Aj (λi:Nat=>[(15,.imm (.int .i64 i)),(14,.imm (.int .i64 rows.length)),(13,.imm (.sl (Bg rows))),(0,.imm (AL ⟨ds,.mk c1 c2 c3 c4,rows⟩ sz)),(3,.ref 1 0)]) (λ_=>XZ (.mk g m z vs)) [2,6,7,9,10,11,12,13] (λi=>rows.length-i)
  (λi=>i<=rows.length/\Hh (.mk g m z vs) 0 rows=Hh (.mk g m z vs) i (rows.drop i)) 0 ⟨Nat.zero_le _,rfl⟩ ⟨rfl,At (by simp),rfl,rfl,rfl,trivial⟩ ⟨rfl,trivial⟩ rfl λi hi ih=>?_
 obtain ⟨hi1,hi2⟩:=hi;refine bd [] rfl (by simp) ?_;refine Aa rfl (λh=>?_) (λh=>?_)
 ·simp at h;obtain ⟨p,hp⟩:=Am h;rw [Ap hp] at hi2;simp only [Hh] at hi2;have hokp:=hok p (List.mem_of_getElem? hp);refine bd [] rfl (by simp) ?_;refine bi rfl (c:=Al p) (λ_=>⟨by simp,by simpa using Av hp,by simp⟩) (by simp) ?_;refine bg [] rfl (by simp) ?_;refine Az (st0:=[]) (fr:=[6,7]) [] [(6,6),(7,7)] rfl (by simp) (hP p) trivial rfl rfl rfl rfl ?_;refine bd [] rfl (by simp) ?_;have hro:((CY p (.mk g m z vs)).all λd=>!Hu d)=WV (.mk g m z vs) p:=rfl;generalize WV (.mk g m z vs) p=b at *
  refine Mz (y:=3) (j:=4) (j2:=5) (stc:=EH p (.mk g m z vs)) (stc':=EH p (.mk g m z vs)) (stx:=XZ (.mk g m z vs)) (stB:=XZ (.mk g m z vs)) (pend:=bif b then none else some (.exit 1)) (E:=eR ⟨ds,.mk c1 c2 c3 c4,rows⟩ sz i) (ids':=[2,6,7,9,10,11,12,13]) (d:=.tup []) rfl Tryz.func174 (by decide +kernel) rfl (by decide) ⟨rfl,rfl,rfl,rfl,rfl,rfl,trivial⟩
   (DO ⟨rfl,rfl,rfl,trivial⟩) (λL h1 h2 h3 h4 h5 h6 h7=>?_) ?_ ?_ ?_ ?_ ?_
  ·have:=hY i L h1 h2 h3 h4 h5 h6 h7 (CY p (.mk g m z vs));rw [hro] at this;exact hP1 p hokp b _ _ this
  ·simp [EH,XZ,DA]
  ·simp [EH,DA]
  ·intro k hk;have e:Hz (ER (Dl (AT []++[(6,6),(7,7)])) []++ER (Dl (AT []++[(6,6),(7,7)])) [.ref 6 0,.ref 7 0])=[6,7]:=rfl;rw [e] at hk;simpa [EH,DA,EU,S8,Hz,HG] using hk
  ·refine ⟨by decide,?_⟩;simp [XZ,eR,TN,HG,EU,S8,Hz,DA]
  ·cases b with
   | true =>
    rw [hi2];refine bd [] rfl (by simp [Ag]) ?_;exact Ab ⟨_,rfl,tV rfl,trivial⟩
   | false =>
    refine Ar rfl ?_;refine bd [] rfl (by simp [Ag]) ?_;exact Ad (ih (i+1) (by omega) ⟨by omega,hi2⟩) ⟨At (Bv (by omega) (by omega)),rfl,rfl,rfl,rfl,trivial⟩ ⟨rfl,trivial⟩ rfl
 ·simp at h;refine Ar rfl ?_;refine bd [] rfl (by simp) ?_;rw [hi2,List.drop_eq_nil_of_le (by omega)];exact Ab ⟨_,rfl,tV rfl,trivial⟩
theorem OQ {s n:Int} {x:Str} {k:Nat} (h:Dh s n x k=true):(s=1\/s=2\/s=3\/s=4\/s=5\/s=6)/\(s≠6->k=0):=by
 unfold Dh at h
 split at h
 ·simp at h;grind
 ·split at h
  ·simp at h;grind
  ·split at h
   ·simp at h;grind
   ·split at h
    ·simp at h;grind
    ·split at h
     ·simp at h;grind
     ·cases h
mutual
theorem Xj (ds:List Dt):∀p t v:Ty,B5 p=true->Cn ds t p=true->Lc ds t v=true->Lb p v=true
 | .mk f n x ps,.mk so m x0 qs,.mk g k z vs,hw,hp,hv=>by
  simp only [B5,Bool.and_eq_true] at hw;obtain ⟨hk1,hk2⟩:=OQ hw.1;simp only [Lb,C7];by_cases h1:f=1
  ·simp [h1]
  by_cases h2:f=2
  ·simp [h2]
  simp only [h1,h2,decide_false,Bool.false_or];cases he:AK (AJ (.mk f n x ps)) (.mk g k z vs) with
  | false=>rfl
  | true =>
   simp only [Bool.not_true,Bool.false_or,Bool.and_eq_true];by_cases h6:f=6
   ·subst h6;simp only [AJ,AK] at he;simp at he;obtain ⟨⟨e1,e2⟩,e3⟩:=he;subst e3;rw [LY] at hp;rw [VG] at hv;simp only [J1,S6,<- e1] at hp hv;simp at hp hv;obtain ⟨p1,p2,p3⟩:=hp;have h8:so=8:=by
     unfold Bj at p2;cases hc:decide (0<=(B6 ds (.mk so m x0 qs) x).2) with
     | false=>rw [hc] at p2;simp at p2
     | true =>
      simp only [B6] at hc;by_cases h8:so=8
      ·exact h8
      ·simp [h8] at hc
    subst h8;simp at hv;exact ⟨decide_eq_true (by omega),TH ds ps _ vs p1 hw.2 p3 hv.2.2⟩
   ·have:=hk2 h6;have hps:ps=[]:=List.eq_nil_of_length_eq_zero this;subst hps;simp [La]
theorem TH (ds:List Dt):∀ps ts vs:List Ty,ts.length=ps.length->B3 ps=true->Cm ds ts ps=true->JO ds ts vs=true->La ps vs=true
 | [],_,_,_,_,_,_=>rfl
 | _::_,_,[],_,_,_,_=>rfl
 | p::r,[],v::s,hl,_,_,_=>by simp at hl
 | p::r,a::ts,v::s,hl,hw,hp,hv=>by
  simp only [B3,Cm,JO,La,Bool.and_eq_true] at hw hp hv ⊢;exact ⟨Xj ds p a v hw.1 hp.1 hv.1,TH ds r ts s (by simpa using hl) hw.2 hp.2 hv.2⟩
end
mutual
theorem Ro:∀p v:Ty,(CY p v).length<=An p
 | .mk f n x ps,v=>by
  have:=OS ps (C7 v);simp only [CY,An,List.length_cons];cases decide (f=6)&&AK (AJ (.mk f n x ps)) v
  ·simp
  ·simp;omega
theorem OS:∀ps vs:List Ty,(D9 ps vs).length<=Ai ps
 | [],_=>by simp [D9]
 | _::_,[]=>by simp [D9]
 | p::r,q::s=>by
  have h1:=Ro p q;have h2:=OS r s;simp only [D9,Ai,List.length_append];omega
end
mutual
theorem Rg:∀(p v:Ty),B5 p=true->Lb p v=true->∀(l:List (Str×Ty)) (rest:List (Ty×Ty)),
  ((BY p v).2=true->E5 l (CY p v++rest)=E5 (l++(BY p v).1) rest)/\((BY p v).2=false->(E5 l (CY p v++rest)).2=false)
 | .mk f n x ps,v,hw,hok,l,rest=>by
  simp only [B5,Bool.and_eq_true] at hw;obtain ⟨hk1,hk2⟩:=OQ hw.1;obtain ⟨s1,s2,s3⟩:=Tr l f n x ps v;simp only [Lb] at hok;simp only [CY,BY,List.cons_append,E5];by_cases h1:f=1
  ·subst h1;rw [s3 (by decide) (by simp)];simp
  by_cases h2:f=2
  ·subst h2;rw [s1 rfl];simp
  simp only [h1,h2,if_false,decide_false,Bool.false_or] at hok ⊢;cases he:AK (AJ (.mk f n x ps)) v with
  | false =>
   rw [s2 h2 ⟨h1,he⟩];simp
  | true =>
   rw [s3 h2 (by rw [he];simp)];rw [he] at hok;simp only [Bool.not_true,Bool.false_or,Bool.and_eq_true] at hok;by_cases h6:f=6
   ·subst h6;have:=OD ps (C7 v) hw.2 hok.2 (of_decide_eq_true hok.1) l rest;simpa using this
   ·have hps:ps=[]:=List.eq_nil_of_length_eq_zero (hk2 h6);subst hps;simp [h6,BD]
theorem OD:∀(ps vs:List Ty),B3 ps=true->La ps vs=true->ps.length<=vs.length->∀(l:List (Str×Ty)) (rest:List (Ty×Ty)),
  ((BD ps vs).2=true->E5 l (D9 ps vs++rest)=E5 (l++(BD ps vs).1) rest)/\((BD ps vs).2=false->(E5 l (D9 ps vs++rest)).2=false)
 | [],_,_,_,_,l,rest=>by simp [BD,D9]
 | _::_,[],_,_,hl,l,rest=>by simp at hl
 | p::r,q::s,hw,hok,hl,l,rest=>by
  simp only [B3,La,Bool.and_eq_true] at hw hok;simp only [BD,D9,List.append_assoc];obtain ⟨a1,a2⟩:=Rg p q hw.1 hok.1 l (D9 r s++rest);obtain ⟨b1,b2⟩:=OD r s hw.2 hok.2 (by simpa using hl) (l++(BY p q).1) rest;cases hp:(BY p q).2 with
  | false=>simp [a2 hp]
  | true =>
   rw [a1 hp];cases hr:(BD r s).2 with
   | false=>simp [b2 hr]
   | true=>simp [b1 hr]
end
theorem OE (p v:Ty) (hw:B5 p=true) (hok:Lb p v=true):(E5 [] (CY p v)).2=(BY p v).2/\(bif (E5 [] (CY p v)).2 then (E5 [] (CY p v)).1 else [])=(BY p v).1:=by
 obtain ⟨h1,h2⟩:=Rg p v hw hok [] [];rw [List.append_nil] at h1 h2;cases h:(BY p v).2 with
 | true=>rw [h1 h];simp [E5]
 | false=>rw [h2 h];simp [SB p v h]
theorem RJ (v:Ty):∀(rows:List Ty) (i:Nat),(∀p∈rows,B5 p=true/\Lb p v=true)->Hh v i rows=Mw v i rows
 | [],i,_=>rfl
 | p::r,i,h=>by
  have:=(OE p v (h p (by simp)).1 (h p (by simp)).2).1;rw [T2] at this;simp only [Hh,Mw];rw [show WV v p=(BY p v).2 from this,RJ v r (i+1) λq hq=>h q (by simp [hq])]
set_option maxHeartbeats 1000000 in
theorem Y5 (p v:Ty) (hok:Lb p v=true) (hN:(CY p v).length<=1000000) {b:Str×Ty} {r:List (Str×Ty)} (hr:E5 [] (CY p v)=(b::r,true)) :
  Bb Tryz.prog 73 [.imm (.agg (Al p)),.imm (.agg (Al v))] [] (.ret (.tup [.own 8 (BP (b::r)).length,.imm (.bool true)]) [(8,some (.row 101 5 (BP (b::r))))]):=by
 have hP:=OR p v;have hP1:=λb S S' h=>LZ p v hok (b:=b) (S:=S) (S':=S') h;have hY:=λL h1 h2 h3 h4 h5 h6 h7=>Qj (L:=L) h1 h2 h3 h4 h5 h6 h7 (CY p v) [] (by simpa using hN);rw [hr] at hY;obtain ⟨q1,q2,q3,q4⟩:=p;obtain ⟨u1,u2,u3,u4⟩:=v;simp only at hY ⊢;refine Ae A5 Tryz.func73 (by decide +kernel) rfl [1,2,3,4,5,6,7,8,9,10,11,12,13] rfl rfl ?_;refine bg [] rfl (by simp) ?_;refine Az (st0:=[]) (fr:=[6,7]) [] [(6,6),(7,7)] rfl (by simp) hP trivial rfl rfl rfl rfl ?_;refine bd [] rfl (by simp) ?_
 refine Mz (y:=3) (j:=4) (j2:=5) (stc:=EH (.mk q1 q2 q3 q4) (.mk u1 u2 u3 u4)) (stc':=EH (.mk q1 q2 q3 q4) (.mk u1 u2 u3 u4)) (stx:=NU []) (stB:=NU (b::r)) (pend:=none) (E:=[(4,.ref 3 0),(5,.ref 4 0),(6,.ref 5 0)]) (ids':=[9,10,11,12,13]) (d:=.tup []) rfl Tryz.func174 (by decide +kernel) rfl (by decide) ⟨rfl,rfl,rfl,trivial⟩
   (DO ⟨rfl,rfl,rfl,rfl,rfl,trivial⟩) (λL h1 h2 h3 h4 h5 h6 h7=>?_) ?_ ?_ ?_ ?_ ?_
 ·exact hP1 true _ _ (hY L h1 h2 h3 h4 h5 h6 h7)
 ·simp [EH,NU,DA]
 ·simp [EH,DA]
 ·intro i hi;have e:Hz (ER (Dl (AT []++[(6,6),(7,7)])) []++ER (Dl (AT []++[(6,6),(7,7)])) [.ref 6 0,.ref 7 0])=[6,7]:=rfl;rw [e] at hi;simpa [EH,DA,EU,S8,Hz,HG] using hi
 ·refine ⟨by decide,?_⟩;simp [NU,TN,HG,EU,S8,Hz,DA]
 ·refine bd [] rfl (by simp [Ag]) ?_;exact Ab ⟨_,rfl,rfl,rfl,trivial⟩
theorem Iq {c:Cse} {v:Ty} (h:Ir c v=true):∀p∈c.rows,B5 p=true/\Lb p v=true/\An p<=12:=by
 simp only [Ir,Bool.and_eq_true] at h;obtain ⟨⟨h1,_⟩,h2⟩:=h;obtain ⟨_,_,_,_,hr⟩:=CO h1;intro p hp;obtain ⟨h3,h4⟩:=hr p hp;simp only [Bx,Bool.and_eq_true,decide_eq_true_eq] at h3;exact ⟨h3.2.1,Xj c.datas p c.type v h3.2.1 h4 h2,h3.1⟩
theorem Zu (c:Cse) (v:Ty):Ak Tryz.prog 47 [.agg (dCse c),.agg (Al v)] (bif Ir c v then (bif decide (Mw v 0 c.rows<0) then .tup [.int .i64 0,.int .i64 5] else .tup [.int .i64 (Mw v 0 c.rows),.int .i64 0]) else .tup [.int .i64 0,.int .i64 2]):=by
 have hA:=UX c v;have hR:=λh=>iJ c (AB (Ds c.datas)) v (λp hp=>(Iq (c:=c) (v:=v) h p hp).2.1);have hE:=λh=>RJ v c.rows 0 (λp hp=>⟨(Iq (c:=c) (v:=v) h p hp).1,(Iq (c:=c) (v:=v) h p hp).2.1⟩);obtain ⟨ds,⟨c1,c2,c3,c4⟩,rows⟩:=c;obtain ⟨g,m,z,vs⟩:=v;generalize Ir ⟨ds,.mk c1 c2 c3 c4,rows⟩ (.mk g m z vs)=b at *;simp only at hE ⊢;refine Ae A5 Tryz.func47 (by decide +kernel) rfl [3,4,5] rfl rfl ?_;refine bg [] rfl (by simp) ?_;cases b with
 | false =>
  refine Ac rfl (λ_=>hA) (by simp) ?_;refine bg [] rfl (by simp) ?_;refine Aa rfl (λh=>?_) (λh=>by simp at h);refine bd [] rfl (by simp) ?_;exact Ab ⟨_,rfl,tV rfl,trivial⟩
 | true =>
  refine Ac rfl (λ_=>hA) (by simp) ?_;refine bg [] rfl (by simp) ?_;refine Aa rfl (λh=>by simp at h) (λh=>?_);refine bd [] rfl (by simp) ?_;refine Ac rfl (λ_=>hR rfl) (by simp) ?_;refine bg [] rfl (by simp) ?_;rw [<- hE rfl];generalize Hh (.mk g m z vs) 0 rows=n;refine Aa rfl (λh=>?_) (λh=>?_)
  ·refine bd [] rfl (by simp) ?_;rw [show decide (n<0)=true from h];exact Ab ⟨_,rfl,tV rfl,trivial⟩
  ·refine bd [] rfl (by simp) ?_;rw [show decide (n<0)=false from h];exact Ab ⟨_,rfl,tV rfl,trivial⟩
def CT (c:Cse) (r:Int):Bool:=decide (0<=r)&&decide (r<c.rows.length)
def SA (c:Cse) (r:Int) (v:Ty):List (Str×Ty)×Int:=bif Ir c v&&CT c r then (match c.rows[r.toNat]? with
 | some p=>bif (BY p v).2 then ((BY p v).1,0) else ([],5)
 | none=>([],2)) else ([],2)
mutual
theorem Le:∀(p v:Ty),∀b∈(BY p v).1,An b.2<=An v
 | .mk f n x ps,v,b,hb=>by
  simp only [BY] at hb
  split at hb
  ·simp at hb
  ·split at hb
   ·simp at hb;subst hb;exact Nat.le_refl _
   ·split at hb
    ·simp at hb
    ·have:=JS ps (C7 v) b hb;obtain ⟨g,m,z,vs⟩:=v;simp only [C7] at this;simp only [An];omega
theorem JS:∀(ps vs:List Ty),∀b∈(BD ps vs).1,An b.2<=Ai vs
 | [],_,b,hb=>by simp [BD] at hb
 | _::_,[],b,hb=>by simp [BD] at hb
 | p::r,q::s,b,hb=>by
  simp only [BD] at hb;cases hc:(BY p q).2&&(BD r s).2
  ·rw [hc] at hb;simp at hb
  ·rw [hc] at hb;simp only [cond_true,List.mem_append] at hb;simp only [Ai];rcases hb with hb | hb
   ·have:=Le p q b hb;omega
   ·have:=JS r s b hb;omega
end
set_option maxHeartbeats 1000000 in
theorem Zs (c:Cse) (r:Int) (v:Ty) (hv:An v<=1000000):Ak Tryz.prog 24 [.agg (dCse c),.int .i64 r,.agg (Al v)] (.tup [.sl (BP (SA c r v).1),.int .i64 (SA c r v).2]):=by
 have hA:=UX c v;have hT:=O2 c r;have hrows:=λh=>Iq (c:=c) (v:=v) h;unfold SA;have hth:CT c r=(decide (0<=r)&&decide (r<c.rows.length)):=rfl;rw [<- hth] at hT;obtain ⟨ds,⟨c1,c2,c3,c4⟩,rows⟩:=c;have hmN:=λp=>Le p v;have hM:=λp hok hN=>bJ p v hok hN;have hMo:=λp hok hN b rr h=>Y5 p v hok hN (b:=b) (r:=rr) h;have hRM:=λp hw hok=>OE p v hw hok;have hPL:=λp=>Ro p v;generalize hV:v=V at *;obtain ⟨g,m,z,vs⟩:=V;generalize Ir ⟨ds,.mk c1 c2 c3 c4,rows⟩ (.mk g m z vs)=b at *;generalize CT ⟨ds,.mk c1 c2 c3 c4,rows⟩ r=tb at *;simp only at hth hrows ⊢;refine Ae A5 Tryz.func24 (by decide +kernel) rfl [3,4,5,6,7] rfl rfl ?_;refine bg [] rfl (by simp) ?_;cases b with
 | false =>
  refine Ac rfl (λ_=>hA) (by simp) ?_;refine bg [] rfl (by simp) ?_;refine Ac rfl (λ_=>hT) (by simp [Ag]) ?_;refine bg [] rfl (by simp [Ag]) ?_;refine Aa rfl (λh=>?_) (λh=>by simp at h);refine bd [] rfl (by simp) ?_;exact Ab ⟨_,rfl,tV rfl,trivial⟩
 | true =>
 refine Ac rfl (λ_=>hA) (by simp) ?_;refine bg [] rfl (by simp) ?_;refine Ac rfl (λ_=>hT) (by simp [Ag]) ?_;refine bg [] rfl (by simp [Ag]) ?_;cases tb with
 | false =>
  refine Aa rfl (λh=>?_) (λh=>by simp at h);refine bd [] rfl (by simp) ?_;exact Ab ⟨_,rfl,tV rfl,trivial⟩
 | true =>
 refine Aa rfl (λh=>by simp at h) (λh=>?_);clear h;have hth2:0<=r/\r<rows.length:=by simpa using hth.symm
 obtain ⟨p,hp⟩:=Am (l:=rows) (i:=r.toNat) (by omega);obtain ⟨hw,hok,h12⟩:=hrows rfl p (List.mem_of_getElem? hp);have hpl:=hPL p;have hM:=hM p hok (by omega);have hMo:=hMo p hok (by omega);obtain ⟨e1,e2⟩:=hRM p hw hok;have hmN:=hmN p;rw [e2,e1] at hM;simp only [Bool.and_self,cond_true,hp];refine bd [] rfl (by simp) ?_;refine bi rfl (c:=Al p) (λ_=>⟨hth2.1,by simpa using Av hp,by simp⟩) (by simp) ?_;refine bg [] rfl (by simp) ?_;cases hmb:(BY p (.mk g m z vs)).2 with
 | false =>
  rw [hmb] at hM;refine Ac rfl (λ_=>hM) (by simp) ?_;refine bg [] rfl (by simp;rfl) ?_;refine Aa rfl (λh=>?_) (λh=>by simp at h);refine bd [] rfl (by simp) ?_;exact Ab ⟨_,rfl,tV rfl,trivial⟩
 | true =>
 rw [hmb] at hM e1;rw [e1] at e2;simp only [cond_true] at e2 ⊢;cases hml:(BY p (.mk g m z vs)).1 with
 | nil =>
  rw [hml] at hM;refine Ac rfl (λ_=>hM) (by simp) ?_;refine bg [] rfl (by simp;rfl) ?_;refine Aa rfl (λh=>by simp at h) (λh=>?_);refine bd [] rfl (by simp [BP]) ?_;refine JZ (PG ?_);refine bd [] rfl (by simp [BP]) ?_;refine Aa rfl (λh=>by simp [BP] at h) (λh=>?_);refine Ar rfl ?_;refine bd [] rfl (by simp [BP]) ?_;exact Ab ⟨_,rfl,tV rfl,trivial⟩
 | cons x rr =>
  rw [hml] at e2 hmN;have hrun:E5 [] (CY p (.mk g m z vs))=(x::rr,true):=Prod.ext e2 e1;have hlenL:(x::rr).length<=12:=by
   have:=Pg p (.mk g m z vs);rw [hml] at this;omega
  refine Az (st0:=[]) (fr:=[5]) [] [(8,5)] rfl (by simp) (hMo x rr hrun) trivial rfl rfl rfl rfl ?_;generalize x::rr=l at *;refine bg [] rfl (by simp;rfl) ?_;refine Aa rfl (λh=>by simp at h) (λh=>?_);clear h;refine bd [] rfl (by simp) ?_;refine Aj (λi:Nat=>[(41,.imm (.int .i64 i)),(40,.imm (.int .i64 (BP l).length)),(10,.own 5 (BP l).length)]) (λ_=>[(5,some (.row 101 5 (BP l)))]) [3,4,6,7] (λi=>(BP l).length-i)
   (λi=>i<=(BP l).length) 0 (Nat.zero_le _) ⟨rfl,rfl,rfl,trivial⟩ ⟨rfl,trivial⟩ rfl λi hi ih=>?_
  refine bd [] rfl (by simp) ?_;refine Aa rfl (λh=>?_) (λh=>?_)
  ·simp at h;obtain ⟨bb,hb⟩:=Am h;have hbn:=hmN bb (List.mem_of_getElem? hb);have hbd:(BP l)[i]?=some (L0 bb):=by simp [BP,hb]
   have hcp:=In bb.2 (by omega);obtain ⟨bs,b1,b2,b3,b4⟩:=bb;refine bd [] rfl (by simp) ?_;refine CN A5 rfl (λ_=>⟨by simp,by simp;omega⟩) (by simp) ?_;refine bg [] rfl (by simp) ?_;refine Ih (e:=L0 (bs,.mk b1 b2 b3 b4)) A5 rfl (λ_=>by simpa using hbd) rfl (by simp) ?_;refine bg [] rfl (by simp) ?_;refine Ac rfl (λ_=>hcp) (by simp) ?_;refine bg [] rfl (by simp) ?_;refine CN A5 rfl (λ_=>⟨by simp,by simp;omega⟩) (by simp) ?_;refine bg [] rfl (by simp) ?_;refine HA A5 (e:=L0 (bs,.mk b1 b2 b3 b4)) (e':=L0 (bs,.mk b1 b2 b3 b4)) rfl (by simpa using hbd) (by show 1+4<=5;decide) rfl (by simp) ?_;have hset:(BP l).set (i:Int).toNat (L0 (bs,.mk b1 b2 b3 b4))=BP l:=by
    refine List.ext_getElem? λj=>?_;rw [List.getElem?_set]
    split
    ·rename_i hj;simp at hj;subst hj;rw [hbd];have:i<(BP l).length:=by simp;omega
     simp [h]
    ·rfl
   simp only;rw [hset];refine bg [] rfl (by simp) ?_;exact Ad (ih (i+1) (by simp;omega) (by simp;omega)) ⟨At (Bv (by omega) (by simp at hi;omega)),rfl,rfl,trivial⟩ ⟨rfl,trivial⟩ rfl
  ·refine Ar rfl ?_;refine AZ 5 rfl ?_;refine bd [] rfl (by simp) ?_;exact Ab ⟨_,rfl,tV rfl,trivial⟩
def U1 (l:List Ty):Bool:=l.all (λt=>decide (0<=Bf t 20))&&decide (l.length<=5)
def Vu (c:Cse):Bool:=(decide (c.datas.length<=6)&&decide (c.rows.length<=7)&&decide (0<=Bf c.type 20))&&(c.rows.all (λp=>decide (0<=Bf p 20))&&c.datas.all (λd=>decide (d.cons.length<=7)&&d.cons.all λk=>U1 k.args))
theorem jE (l:List Ty):Ak Tryz.prog 43 [.sl (Bg l)] (.bool (U1 l)):=by
 refine Ae A5 Tryz.func43 (by decide +kernel) rfl [1,2] rfl rfl ?_;refine bg [] rfl (by simp) ?_;refine Aj (λi:Nat=>[(3,.imm (.int .i64 i)),(0,.imm (.sl (Bg l)))]) (λ_=>[]) [1,2] (λi=>l.length-i)
  (λi=>i<=l.length/\i<=6/\l.all (λt=>decide (0<=Bf t 20))=(l.drop i).all (λt=>decide (0<=Bf t 20))) 0 ⟨Nat.zero_le _,by simp,rfl⟩ ⟨rfl,rfl,trivial⟩ trivial rfl λi hi ih=>?_
 obtain ⟨hi1,hi0,hi2⟩:=hi;refine bd [] rfl (by simp [Ag]) ?_;by_cases hlt:i<l.length/\i<6
 case neg =>
  refine Aa rfl (λh=>by exfalso;simp at h;omega) (λh=>?_);refine Ar rfl ?_;refine bd [] rfl (by simp) ?_;refine Ab ⟨_,rfl,tV (congrArg _ ?_),trivial⟩;simp only [U1,dTys_length];by_cases h5:l.length<=5
  ·rw [hi2,List.drop_eq_nil_of_le (by omega)];simp [h5];omega
  ·simp [h5];omega
 refine Aa rfl (λh=>?_) (λh=>by exfalso;simp at h;omega);obtain ⟨t,ht⟩:=Am hlt.1;rw [DH ht] at hi2;refine bd [] rfl (by simp) ?_;refine bi rfl (c:=Al t) (λ_=>⟨by simp,by simpa using Av ht,by simp⟩) (by simp) ?_;refine bg [] rfl (by simp) ?_;refine Ac rfl (λ_=>FS t 20 (by decide) (by decide)) (by simp) ?_;refine bg [] rfl (by simp) ?_;refine Aa rfl (λh=>?_) (λh=>?_)
 ·refine bd [] rfl (by simp) ?_;refine Ab ⟨_,rfl,tV (congrArg _ ?_),trivial⟩;simp at h;rw [U1,hi2,show decide (0<=Bf t 20)=false by simp;omega];simp
 ·refine bd [] rfl (by simp) ?_;simp at h;exact Ad (ih (i+1) (by omega) ⟨by omega,by omega,by rw [hi2,show decide (0<=Bf t 20)=true by simpa using h];simp⟩) ⟨At (Bv (by omega) (by omega)),rfl,trivial⟩ trivial rfl
set_option maxHeartbeats 1000000 in
theorem Ya (c:Cse):Ak Tryz.prog 9 [.agg (dCse c)] (.bool (Vu c)):=by
 have hWT:=FS c.type 20 (by decide) (by decide);obtain ⟨ds,t,rows⟩:=c;simp only [Vu] at hWT ⊢;generalize Bf t 20=wt at *;obtain ⟨c1,c2,c3,c4⟩:=t;refine Ae A5 Tryz.func9 (by decide +kernel) rfl [1,2] rfl rfl ?_;refine bg [] rfl (by simp [Ag]) ?_;refine Ac rfl (λ_=>hWT) (by simp [Ag]) ?_;refine bg [] rfl (by simp [Ag]) ?_;by_cases hg:ds.length<=6/\rows.length<=7/\0<=wt
 case neg =>
  refine Aa rfl (λh=>?_) (λh=>by exfalso;apply hg;simp at h;omega);refine bd [] rfl (by simp) ?_;refine Ab ⟨_,rfl,tV (congrArg _ ?_),trivial⟩;rw [show (decide (ds.length<=6)&&decide (rows.length<=7)&&decide (0<=wt))=false by simp;omega];simp
 obtain ⟨g1,g2,g3⟩:=hg;rw [show (decide (ds.length<=6)&&decide (rows.length<=7)&&decide (0<=wt))=true by simp;omega,Bool.true_and];refine Aa rfl (λh=>by exfalso;simp at h;omega) (λh=>?_);clear h;refine bd [] rfl (by simp) ?_;refine Aj (λi:Nat=>[(3,.imm (.int .i64 i)),(1,.ref 1 0)]) (λ_=>[(1,some (.immb 29 6 (dCse ⟨ds,.mk c1 c2 c3 c4,rows⟩)))]) [2] (λi=>rows.length-i)
  (λi=>i<=rows.length/\rows.all (λp=>decide (0<=Bf p 20))=(rows.drop i).all (λp=>decide (0<=Bf p 20))) 0 ⟨Nat.zero_le _,rfl⟩ ⟨rfl,rfl,trivial⟩ ⟨rfl,trivial⟩ rfl λi hi ih=>?_
 obtain ⟨hi1,hi2⟩:=hi;refine bd [] rfl (by simp) ?_;refine Aa rfl (λh=>?_) (λh=>?_)
 ·simp at h;obtain ⟨p,hp⟩:=Am h;rw [DH hp] at hi2;refine bd [] rfl (by simp) ?_;refine bi rfl (c:=Al p) (λ_=>⟨by simp,by simpa using Av hp,by simp⟩) (by simp) ?_;refine bg [] rfl (by simp) ?_;refine Ac rfl (λ_=>Jr p 20 (by decide) (by decide)) (by simp) ?_;refine bg [] rfl (by simp) ?_;refine Aa rfl (λh=>?_) (λh=>?_)
  ·refine bd [] rfl (by simp) ?_;refine Ab ⟨_,rfl,tV (congrArg _ ?_),trivial⟩;simp at h;rw [hi2,show decide (0<=Bf p 20)=false by simp;omega];simp
  ·refine bd [] rfl (by simp) ?_;simp at h;exact Ad (ih (i+1) (by omega) ⟨by omega,by rw [hi2,show decide (0<=Bf p 20)=true by simpa using h];simp⟩) ⟨At (Bv (by omega) (by omega)),rfl,trivial⟩ ⟨rfl,trivial⟩ rfl
 simp at h;refine Ar rfl ?_;refine bd [] rfl (by simp) ?_;rw [hi2,List.drop_eq_nil_of_le h,List.all_nil,Bool.true_and];refine Aj (λi:Nat=>[(4,.imm (.int .i64 i)),(1,.ref 1 0)]) (λ_=>[(1,some (.immb 29 6 (dCse ⟨ds,.mk c1 c2 c3 c4,rows⟩)))]) [2] (λi=>ds.length-i)
  (λi=>i<=ds.length/\ds.all (λd=>decide (d.cons.length<=7)&&d.cons.all λk=>U1 k.args)=(ds.drop i).all (λd=>decide (d.cons.length<=7)&&d.cons.all λk=>U1 k.args)) 0 ⟨Nat.zero_le _,rfl⟩ ⟨rfl,rfl,trivial⟩ ⟨rfl,trivial⟩ rfl λi hi ih=>?_
 obtain ⟨hi1,hi2⟩:=hi;refine bd [] rfl (by simp) ?_;refine Aa rfl (λh=>?_) (λh=>?_)
 ·simp at h;obtain ⟨d,hd⟩:=Am h;rw [DH hd] at hi2;refine bd [] rfl (by simp) ?_;refine bi rfl (c:=BU d) (λ_=>⟨by simp,by simpa using AQ hd,by simp⟩) (by simp) ?_;obtain ⟨dn,dc⟩:=d;simp only at hi2;refine bg [] rfl (by simp) ?_;by_cases h7:dc.length<=7
  case neg =>
   refine Aa rfl (λh=>?_) (λh=>by exfalso;simp at h;omega);refine bd [] rfl (by simp) ?_;rw [hi2,show decide (dc.length<=7)=false by simpa using h7];exact Ab ⟨_,rfl,tV (congrArg _ (by simp)),trivial⟩
  rw [show decide (dc.length<=7)=true by simpa using h7,Bool.true_and] at hi2;refine Aa rfl (λh=>by exfalso;simp at h;omega) (λh=>?_);clear h;refine bd [] rfl (by simp) ?_;refine Aj (λk:Nat=>[(5,.imm (.int .i64 k)),(4,.imm (.int .i64 i)),(1,.ref 1 0)]) (λ_=>[(1,some (.immb 29 6 (dCse ⟨ds,.mk c1 c2 c3 c4,rows⟩)))]) [2] (λk=>dc.length-k)
   (λk=>k<=dc.length/\dc.all (λk=>U1 k.args)=(dc.drop k).all (λk=>U1 k.args)) 0 ⟨Nat.zero_le _,rfl⟩ ⟨rfl,rfl,rfl,trivial⟩ ⟨rfl,trivial⟩ rfl λk hk jh=>?_
  obtain ⟨hk1,hk2⟩:=hk;refine bd [] rfl (by simp) ?_;refine bi rfl (c:=BU ⟨dn,dc⟩) (λ_=>⟨by simp,by simpa using AQ hd,by simp⟩) (by simp) ?_;refine bg [] rfl (by simp) ?_;refine Aa rfl (λh=>?_) (λh=>?_)
  ·simp at h;obtain ⟨c,hc⟩:=Am h;rw [DH hc] at hk2;refine bd [] rfl (by simp) ?_;refine bi rfl (c:=BU ⟨dn,dc⟩) (λ_=>⟨by simp,by simpa using AQ hd,by simp⟩) (by simp) ?_;refine bg [] rfl (by simp) ?_;refine bi rfl (c:=Cw c) (λ_=>⟨by simp,by simpa using AQ hc,by simp⟩) (by simp) ?_;obtain ⟨cn,ca⟩:=c;simp only at hk2;refine bg [] rfl (by simp) ?_;refine Ac rfl (λ_=>jE ca) (by simp) ?_;refine bg [] rfl (by simp) ?_;refine Aa rfl (λh=>?_) (λh=>?_)
   ·refine bd [] rfl (by simp) ?_;refine Ab ⟨_,rfl,tV (congrArg _ ?_),trivial⟩;simp at h;rw [hi2,hk2,h];simp
   ·refine bd [] rfl (by simp) ?_;simp at h;exact Ad (jh (k+1) (by omega) ⟨by omega,by rw [hk2,h];simp⟩) ⟨At (Bv (by omega) (by omega)),rfl,rfl,trivial⟩ ⟨rfl,trivial⟩ rfl
  ·simp at h;refine Ar rfl ?_;refine bd [] rfl (by simp) ?_;rw [List.drop_eq_nil_of_le (by omega)] at hk2;exact Ad (ih (i+1) (by omega) ⟨by omega,by rw [hi2,hk2];simp⟩) ⟨At (Bv (by omega) (by omega)),rfl,trivial⟩ ⟨rfl,trivial⟩ rfl
 ·simp at h;refine Ar rfl ?_;refine bd [] rfl (by simp) ?_;rw [hi2,List.drop_eq_nil_of_le (by omega)];exact Ab ⟨_,rfl,tV rfl,trivial⟩
mutual
theorem MQ:∀t:Ty,(C0 true t&&D7 IW t)=C0 false t
 | .mk s n x ps=>by
  have ih:=KP ps;simp only [C0,D7,IW];by_cases h9:s=9
  ·subst h9;simp [BK]
  ·have:BK true s n x ps.length=BK false s n x ps.length:=by simp [BK,h9]
   have h:(s == 9)=false:=by simpa using h9
   rw [this,h,<- ih];cases BK false s n x ps.length <;> simp
theorem KP:∀l:List Ty,(C3 true l&&DJ IW l)=C3 false l
 | []=>rfl
 | t::r=>by
  simp only [C3,DJ,<- MQ t,<- KP r];cases C0 true t <;> cases D7 IW t <;> cases C3 true r <;> simp
end
theorem aN (ds:List Dt):Gn ds=G7 ds:=by
 have hm:H2 ⟨[109],ds,[GR]⟩=DL ⟨[109],ds,[GR]⟩:=by
  simp only [H2,DL];have e1:ds.all Fa=ds.all HC:=by congr 1;exact funext cW
  have e2:[GR].all Lu=[GR].all Uy:=by decide +kernel
  rw [e1,e2];simp [GC]
 simp only [Gn,G7,hm];cases DL ⟨[109],ds,[GR]⟩ <;> cases BF ds ds <;> simp
theorem Zp (c:Cse):Bz c=RY c:=by
 have hT:(BH true c.type&&D7 IW c.type)=EJ c.type:=by
  rw [<- Lv];simp only [BH];rw [Bool.and_assoc,MQ]
 have hR:c.rows.all (Rh c)=c.rows.all (aD c):=by
  congr 1;funext p;simp only [Rh,aD,Zm]
 simp only [Bz,Jo,RY,hR,aN,<- hT];cases G7 c.datas <;> cases decide (c.rows.length<=5) <;> cases BH true c.type <;> cases AD c.datas c.type <;> cases D7 IW c.type <;> simp
mutual
theorem OB:∀v:Ty,Rf v v=true
 | .mk s n x ps=>by simp [Rf,AK,MX ps]
theorem MX:∀l:List Ty,EN l l=true
 | []=>rfl
 | t::r=>by simp [EN,OB t,MX r]
end
end Go.Hk
namespace Go.Hk
def Lz (kp:List Nat):St->St
 | []=>[]
 | (i,b)::r=>bif Ey kp i then Lz kp r else (i,b)::Lz kp r
theorem Ub {kp:List Nat} {s:St} {i:Nat}:∀{W:St},lk (Lz kp W++s) i=if i∈kp then lk s i else lk (W++s) i
 | []=>by simp [Lz]
 | (k,b)::r=>by
  have ih:=Ub (kp:=kp) (s:=s) (i:=i) (W:=r);simp only [Lz];cases hm:Ey kp k with
  | true =>
   simp only [cond_true,List.cons_append];rw [ih];by_cases hi:i∈kp
   ·rw [if_pos hi,if_pos hi]
   ·rw [if_neg hi,if_neg hi,Au _ _ (λe:k=i=>hi (by rw [<- e];exact B9.1 hm))]
  | false =>
   simp only [cond_false,List.cons_append];by_cases hk:k=i
   ·subst hk;rw [Ao,if_neg (λh=>by rw [B9.2 h] at hm;cases hm),Ao]
   ·rw [Au _ _ hk,Au _ _ hk,ih]
def SF (W st:St) (l:List Nat):List Nat->Prop
 | []=>True
 | i::r=>(Ey l i=true/\lk W i=lk st i)/\SF W st l r
theorem Nq {W st:St} {l:List Nat}:∀{kp:List Nat},SF W st l kp->∀i∈kp,i∈l/\lk W i=lk st i
 | [],_,i,h=>by cases h
 | k::r,h,i,hi=>by
  rcases List.mem_cons.1 hi with rfl | hi
  ·exact ⟨B9.1 h.1.1,h.1.2⟩
  ·exact Nq h.2 i hi
structure Vk where
 f:FuncId
 das:List D
 g:Option (Bool×Bool)
 ob:List Prop
 dst:Option Nat
 o:Oper
 all:List Oper
def Uw (n:Nat) (env:Env) (todo:List DI):Option Vk :=
 match AR todo ([],[]) with
 | some (all,o,_)=>match BG all env o,o.op with
  | some g,.call { callee:=.value (.func f),args:=⟨args⟩,.. }=>match Hj (Ag g) env args,Bw n o.dst with
   | some (ds,ob),true=>some ⟨f,ds,g,ob,o.dst,o,all⟩
   | _,_=>none
  | some g,.call { callee:=.value (.tmp t),args:=⟨args⟩,.. }=>match lk env t,Hj (Ag g) env args,Bw n o.dst with
   | some (.imm (.fn (.func f))),some (ds,ob),true=>some ⟨f,ds,g,ob,o.dst,o,all⟩
   | some (.fn (.func f) df dc),some (ds,ob),true=>some ⟨f,df++ds++dc,g,ob,o.dst,o,all⟩
   | _,_,_=>none
  | _,_=>none
 | none=>none
section
variable {P:Program} {n:Nat} {F:List Nat} {Q:DQ} {tt:TT} {env env':Env} {st st' st0 st1:St} {ids ids' fr:List Nat} {k todo todo':List DI} {I J:Imm} {μ:Mu} {w:World} {a:Act} {Pn:V->Prop} {d:D} {cx:Prop} {ob:List Prop} {σ τ1:List (Nat×Nat)} {das:List D}
theorem P5 {c:Vk} (h:Uw n env todo=some c) (hob:A7 c.ob):(∀f,∃todo',AR todo f=some (c.all,c.o,todo'))/\BG c.all env c.o=some c.g/\D3 P c.o env c.f c.das (Ag c.g)/\Bw n c.dst=true/\(∀x,c.o.op ≠ .defer x)/\c.dst=c.o.dst:=by
 unfold Uw at h;have hnext:∀{all:List Oper} {o:Oper} {t:List DI},AR todo ([],[])=some (all,o,t)->∀f,∃todo',AR todo f=some (all,o,todo'):=by
  intro all o t h f;rcases H1 h with ⟨r,k,rfl,_⟩ | ⟨r,fs,k,rfl,_⟩
  ·exact ⟨_,rfl⟩
  ·exact ⟨_,rfl⟩
 split at h
 ·rename_i all o t h1
  split at h
  ·rename_i g f args ts hg ho
   split at h
   ·rename_i ds ob ha hd;cases h;exact ⟨hnext h1,hg,E2 ho ha hob,hd,(λx hx=>by rw [ho] at hx;cases hx),rfl⟩
   ·cases h
  ·rename_i g t' args ts hg ho
   split at h
   ·rename_i f ds ob ht ha hd;cases h;exact ⟨hnext h1,hg,DN ho ht ha hob,hd,(λx hx=>by rw [ho] at hx;cases hx),rfl⟩
   ·rename_i f df dc ds ob ht ha hd;cases h;exact ⟨hnext h1,hg,Hm ho ht ha hob,hd,(λx hx=>by rw [ho] at hx;cases hx),rfl⟩
   ·cases h
  ·cases h
 ·cases h
theorem bP {all:List Oper} {o:Oper} {f:FuncId} {g:Option (Bool×Bool)} (hg:BG all env o=some g) (hcx:Ag g) (hc:D3 P o env f das (Ag g)) (hE:Bb P f (ER (Dl σ) das) st0 (.ret d st1)) (hb:Ff σ st st0)
  (hn:Ku σ τ1 das st0 d st1 fr=true) (kp:List Nat) (hkp:SF (D4 (AT σ++τ1) st1++BR (Fz σ)) st (Fz σ) kp) :
  LD P Pn all o env st (Fz σ) fr (Lz kp (D4 (AT σ++τ1) st1++BR (Fz σ))) (gD g (Iu (Dl (AT σ++τ1)) d)):=by
 intro I μ st2 ids1 a w hag hst hon;have hwant:=E0 hg hon;refine ⟨λ_=>?_,λhw=>by rw [hwant.2 hcx] at hw;cases hw⟩;obtain ⟨xs,h1,h2⟩:=hc I μ a w (AN hon) hcx;have hb':=FR hag hb;have hN:=Me hn;obtain ⟨q1,q2,q3⟩:=Fe hst hb' hN.args h1;rw [h2];refine (hE I _ w xs q1 q2).mono (λu w' hu=>?_) (λ_ _ h=>h.elim);obtain ⟨I',μ',r1,r2,r3,r4⟩:=hu;obtain ⟨ν,s1,s2,s3,s4⟩:=HF hst hb' hN r1 r2 r3 r4 q3;rw [<- JB] at s1 s4;have hsame:∀i,lk (D4 (AT σ++τ1) st1++BR (Fz σ)++st2) i=lk (Lz kp (D4 (AT σ++τ1) st1++BR (Fz σ))++st2) i:=λi=>by
  rw [Ub];by_cases hi:i∈kp
  ·rw [if_pos hi];obtain ⟨k1,k2⟩:=Nq hkp i hi;have hm:i∈(D4 (AT σ++τ1) st1++BR (Fz σ)).map (·.1):=by
    rw [List.map_append,Jj];exact List.mem_append.2 (.inr k1)
   rw [EW hm,k2,hag i k1]
  ·rw [if_neg hi]
 refine ⟨I',ν,s1.congr hsame,?_,s3,s4.congr (λ_=>rfl) hsame⟩;cases g with
 | none=>exact s2
 | some p=>exact .guard _ _ _ _ (λ_=>s2) (λhn=>absurd hcx hn)
theorem BT {c:Vk} (σ τ1:List (Nat×Nat)) (kp:List Nat) {fr:List Nat} {nm:List Nat} (h:Uw n env todo=some c) (hcx:Ag c.g) (hob:A7 c.ob) (hE:Bb P c.f (ER (Dl σ) c.das) st0 (.ret d st1)) (hb:Ff σ st st0)
  (hn:Ku σ τ1 c.das st0 d st1 fr=true) (hkp:SF (D4 (AT σ++τ1) st1++BR (Fz σ)) st (Fz σ) kp) (hnm:(Lz kp (D4 (AT σ++τ1) st1++BR (Fz σ))).map (·.1)=nm)
  (h1:AR todo (Fz σ,nm)=some (c.all,c.o,todo')) (hids:ids=fr++ids')
  (hk:G P n F Q todo' (Bt c.dst (gD c.g (Iu (Dl (AT σ++τ1)) d)) env) (Lz kp (D4 (AT σ++τ1) st1++BR (Fz σ))++st) ids'):G P n F Q todo env st ids:=by
 obtain ⟨_,q2,q3,q4,q5,q6⟩:=P5 (P:=P) h hob;subst hids;rw [q6] at q4 hk;subst hnm;exact Bm h1 (bP q2 hcx q3 hE hb hn kp hkp) q4 q5 hk
def ZY:V->Bool
 | .tup xs=>CU xs
 | .agg xs=>CU xs
 | x=>E8 x
theorem Yg {v:Value} {x:V} (h:ZY x=true) (hr:RepV J v x):RepV I v x:=by
 have hm:∀{xs:List V} {i:Nat} {x:V},CU xs=true->xs[i]?=some x->E8 x=true:=by
  intro xs
  induction xs with
  | nil=>intro i x _ h;simp at h
  | cons y r ih =>
   intro i x hs h;simp only [CU,Bool.and_eq_true] at hs;cases i with
   | zero=>simp at h;subst h;exact hs.1
   | succ i=>exact ih hs.2 (by simpa using h)
 cases hr with
 | tup cs xs hl hh=>exact .tup cs xs hl λi c x hc hx=>Dv (hm h hx) (hh i c x hc hx)
 | agg cs xs hl h1 hh=>exact .agg cs xs hl h1 λi c x hc hx=>Dv (hm h hx) (hh i c x hc hx)
 | bool b=>exact .bool b
 | int k n=>exact .int k n
 | str s l hs=>exact .str s l hs
 | _=>simp [ZY,E8] at h
def Z5 (A:Asn):List D->List V->Prop
 | [],[]=>True
 | d::r,x::xs=>(gA d=some x\/∃v,d = .raw v/\∀us I w bs,A.P us I w bs->∀J,I.le J->(∀b∈bs,J b=w.heap[b]?)->RepV J v x)/\Z5 A r xs
 | _,_=>False
theorem QI {A:Asn} {us:List Value} {bs:List Nat} (hA:A.P us I w bs) (hle:I.le J) (hJ:∀b∈bs,J b=w.heap[b]?):∀{ds:List D} {xs:List V} {vs:List Value},Z5 A ds xs->RepL I μ vs ds->RepVL J vs xs
 | [],[],vs,_,hr=>by
  have:=hr.1;cases vs with
  | nil=>exact .nil
  | cons=>simp at this
 | d::r,x::xs,[],_,hr=>by have:=hr.1;simp at this
 | d::r,x::xs,v::vs,h,hr=>by
  obtain ⟨h1,h2⟩:=hr.cons;refine .mk ?_ (QI hA hle hJ h.2 h2);rcases h.1 with ht | ⟨u,rfl,hu⟩
  ·exact (KI ht h1).mono hle
  ·have:=h1.rawInv;subst this;exact hu us I w bs hA J hle hJ
 | [],_::_,_,h,_=>h.elim
 | _::_,[],_,h,_=>h.elim
theorem Oc {c:Vk} (id:Nat) {A:Asn} {vs:List V} {v:V} (h:Uw n env todo=some c) (hl:lk st id=some (some (.hp A))) (hv:Ag c.g->Z5 A c.das vs) (hE:Ag c.g->Ak P c.f vs v) (hs:ZY v=true) (hob:A7 c.ob)
  (h1:AR todo ([id],[])=some (c.all,c.o,todo')) (hk:G P n F Q todo' (Bt c.dst (gD c.g (.imm v)) env) st ids):G P n F Q todo env st ids:=by
 obtain ⟨_,q2,q3,q4,q5,q6⟩:=P5 (P:=P) h hob;rw [q6] at q4 hk;refine Bm (fr:=[]) (wr:=[]) (rd:=[id]) h1 (Cf q2 λI μ st1 ids1 a w hag hst hops hcx=>?_) q4 q5 hk;obtain ⟨xs,h1,h2⟩:=q3 I μ a w hops hcx;rw [h2];have hl1:Aq st1 id (.hp A):=by unfold Aq;rw [hag id (by simp)];exact hl
 obtain ⟨gg,hgg,us,bs,rfl,hP⟩:=hst.blk id _ hl1;have hx:RepVL (Qe w) xs.toList vs:=QI hP (λb o h=>hst.imm b o h) (λb _=>rfl) (hv hcx) h1;have hst0:StRep (Qe w) μ [] [] w:={ imm:=λb o h=>h,blk:=λi b h=>by simp [Aq,lk] at h,apart:=λi b g k h=>by simp [Aq,lk] at h,inj:=λi j bi bj gi gj k h=>by simp [Aq,lk] at h,nodup:=.nil,idsFree:=λi h=>by cases h }
 have hno:∀b,¬Bq μ [] b:=λb ⟨i,bi,g,h,_⟩=>by simp [Aq,lk] at h
 refine (hE hcx (Qe w) μ w xs hst0 hx.imm).mono (λu w' hu=>?_) (λ_ _ h=>h.elim);obtain ⟨I',μ',r1,r2,r3,r4⟩:=hu;have hlt:∀b o,I b=some o->b<w.heap.size:=λb o h=>by
  have:=hst.imm b o h;exact (Array.getElem?_eq_some_iff.1 this).1
 refine ⟨I,μ,hst.other r4.size (λb o h=>r4.block b (hlt b o h) (hno b)) (λb ho=>r4.block b (Di hst ho) (hno b)),?_,Mu.le_refl μ,{ imm:=Imm.le_refl I,os:=r4.os,tape:=r4.tape,output:=r4.output,size:=r4.size,block:=λb hb _=>r4.block b hb (hno b),fresh:=λ_ _ h=>h,old:=λ_ _ _=>rfl }⟩;exact .imm _ _ (Yg hs r1.immInv)
end
end Go.Hk
namespace Go.Hk
def dN (e:TypeId) (C:Asn):Asn where
 P:=λvs I w bs=>∃c u us bs',vs=[.slice (some ⟨c,0,none⟩) 1 1]/\us[0]?=some u/\w.heap[c]?=some (.cells #[u] e (0,0))/\u.oneCell'=true/\C.P us I w bs'/\c∉bs'/\bs=c::bs'
 mono:=λh ⟨c,u,us,bs',h1,h2,h3,h4,h5,h6⟩=>⟨c,u,us,bs',h1,h2,h3,h4,C.mono h h5,h6⟩
 loc:=λh ⟨c,u,us,bs',h1,h2,h3,h4,h5,h6,h7⟩=>⟨c,u,us,bs',h1,h2,(h c (by simp [h7])).trans h3,h4,C.loc (λk hk=>h k (by simp [h7,hk])) h5,h6,h7⟩
structure PBh where
 e:TypeId
 dst:Option Nat
 todo:List DI
def gR (tt:TT) (n:Nat) (env:Env) (j q:Nat) (todo:List DI):Option PBh :=
 match AR todo ([j],[q,j]) with
 | some (_,o,todo')=>match o.guard,o.op with
  | none,.buildSlice t m ⟨[(k,x)]⟩=>match lk tt t,C9 env x,Bw n o.dst with
   | some { sh:=.sl e,.. },some (.hv i l),true=>match lk tt e with
    | some ti=>match Nat.beq m 1,Nat.beq k 0,Nat.beq i j,Nat.beq l 0,Nat.beq ti.size 1 with
     | true,true,true,true,true=>some ⟨e,o.dst,todo'⟩
     | _,_,_,_,_=>none
    | none=>none
   | _,_,_=>none
  | _,_=>none
 | none=>none
structure PBo where
 e:TypeId
 es:List (List V)
 sz:Nat
 ob:List Prop
 dst:Option Nat
 todo:List DI
def gQ (tt:TT) (n:Nat) (env:Env) (q:Nat) (todo:List DI):Option PBo :=
 match AR todo ([],[q]) with
 | some (_,o,todo')=>match o.guard,o.op with
  | none,.buildSlice t m ⟨parts⟩=>match lk tt t,Bw n o.dst with
   | some { sh:=.sl e,.. },true=>match lk tt e with
    | some i=>match GW True env i.size 0 parts,Nat.beq m parts.length,Nat.ble (m*i.size) 16777216,Nat.blt 0 i.size,Nat.blt 0 m with
     | some (es,o'),true,true,true,true=>some ⟨e,es,i.size,o',o.dst,todo'⟩
     | _,_,_,_,_=>none
    | none=>none
   | _,_=>none
  | _,_=>none
 | none=>none
section
variable {P:Program} {n:Nat} {F:List Nat} {Q:DQ} {tt:TT} {env env':Env} {st st' st0 st1:St} {ids ids' fr:List Nat} {k todo todo':List DI} {I J:Imm} {μ:Mu} {w:World} {a:Act} {Pn:V->Prop} {d:D} {cx:Prop} {ob:List Prop}
theorem PV {t e:TypeId} {ti:TyI} (hu:P.underlying t=some (.slice e)) (hty:TyOk P e ti) (hsz:ti.size=1) (u:Value) (h1:u.oneCell'=true) :
  (Instr.buildSlice t 1 #[(0,u)]).run P w = .ok (.slice (some ⟨w.heap.size,0,none⟩) 1 1) (w.alloc (.cells #[u] e)):=by
 obtain ⟨inf,zv,hi1,hi2,_,hi4,hi5,hi6⟩:=hty.info;have hfill:∀A:Array Value,A.size=1->Instr.fill (λi=>some (i*1,1)) A [(0,u)]=some #[u]:=by
  intro A hA;obtain ⟨⟨x⟩,rfl⟩:∃l:List Value,A=⟨l⟩:=⟨A.toList,rfl⟩
  ·simp at hA
  ·rename_i y r;have hr:r=[]:=by cases r with | nil=>rfl | cons=>simp at hA
   subst hr;simp [Instr.fill,Fc h1]
 simp only [Instr.buildSlice,Sem.run_bind,run_underlying hu,hty.sizeOf w,Result.andThen_ok,hsz,Sem.run_pure,zeroValue,typeInfo,run_program,hi1,hi4];simp only [Nat.mul_one,show ¬((1:Nat) > 2 ^ 24) by decide,if_false,Nat.one_ne_zero,Sem.run_bind,run_program,Result.andThen_ok,hi1,hi4,Sem.run_pure];have:=hfill ((Array.range 1).map λk=>zv.cells[k % zv.cells.size]!) (by simp);simp only [Nat.mul_one] at this;rw [this];simp only [newRow,Sem.run_bind,run_newObj,Result.andThen_ok,Sem.run_pure];rfl
theorem cG (htt:TTok P tt) (j q:Nat) {C:Asn} {c:PBh} (h:gR tt n env j q todo=some c) (hl:lk st j=some (some (.hp C)))
  (hk:G P n F Q c.todo (Bt c.dst (.hv q 0) env) ((q,some (.hp (dN c.e C)))::(j,none)::st) ids'):G P n F Q todo env st (q::ids'):=by
 unfold gR at h
 split at h
 ·rename_i all o todo' h1
  split at h
  ·rename_i t m k x hgd hop
   split at h
   ·rename_i e _ _ _ _ i l ht hx hd
    split at h
    ·rename_i ti hti
     split at h
     ·rename_i hm hk0 hi hl0 hsz;cases h;have hm:=Nat.eq_of_beq_eq_true hm;have hk0:=Nat.eq_of_beq_eq_true hk0;have hi:=Nat.eq_of_beq_eq_true hi;have hl0:=Nat.eq_of_beq_eq_true hl0;have hsz:=Nat.eq_of_beq_eq_true hsz;subst hm;subst hk0;subst hi;subst hl0;have hk:G P n F Q todo' (Bt o.dst (.hv q 0) env) ([(q,some (.hp (dN e C))),(i,none)]++st) ids':=hk;refine Bm (fr:=[q]) (wr:=[(q,some (.hp (dN e C))),(i,none)]) (rd:=[i]) h1 ?_ hd (λc hc=>by rw [hop] at hc;cases hc) hk;intro I μ st1 ids1 a w hag hst hon;refine ⟨λ_=>?_,λhw=>by rw [A4 hgd] at hw;cases hw⟩;have hops:=AN hon;rw [hop] at hops;have hl1:Aq st1 i (.hp C):=by unfold Aq;rw [hag i (by simp)];exact hl
      obtain ⟨gg,hg',us,bs,rfl,hP⟩:=hst.blk i _ hl1;obtain ⟨hu0,hone⟩:us[0]?=some (a.eval x)/\(a.eval x).oneCell'=true:=by
       have:=hops x (by simp [Op.operands]) _ hx;generalize a.eval x=v at this;cases this with
       | hv _ _ _ us' bs' hm hi' h1 =>
        rw [hg'] at hm;have:us=us':=by
         simp only [Mr,Option.some.injEq,Value.tuple.injEq,Array.mk.injEq,List.cons.injEq,Value.agg.injEq,and_true] at hm;simpa using hm.1
        exact ⟨by rw [this];exact hi',h1⟩
      have hrun:(execOp a.eval o).run P w = .ok (.value (.slice (some ⟨w.heap.size,0,none⟩) 1 1)) (w.alloc (.cells #[a.eval x] e)):=by
       simp only [execOp,hop,Sem.run_bind,List.map_toArray,List.map_cons,List.map_nil,PV (htt.sh ht) (htt e ti hti) hsz (a.eval x) hone,Result.andThen_ok,Sem.run_pure]
      rw [hrun];have hnb:w.heap.size∉bs:=λhb=>by
       have:=(hst.apart i _ _ _ hl1 hg' (AI.2 hb)).2;omega
      have hbs:∀b∈bs,b<w.heap.size:=λb hb=>(hst.apart i _ _ _ hl1 hg' (AI.2 hb)).2;have hgrow:w.grownBy (w.alloc (.cells #[a.eval x] e)) none:=World.grownBy_alloc w _ none;obtain ⟨μ',q1,q2,q3,q4⟩:=StRep.renew (id':=q) (ids:=ids1) (rd:=[i]) (v':=Mr [.slice (some ⟨w.heap.size,0,none⟩) 1 1] (w.heap.size::bs)) (blk':=.hp (dN e C)) hst hgrow (λb hb=>by cases hb) (λb hb=>by
       rcases List.mem_cons.1 (AI.1 hb) with rfl | hb
       ·exact ⟨by simp,.inl (Nat.le_refl _)⟩
       ·exact ⟨Nat.lt_of_lt_of_le (hbs b hb) hgrow.size,.inr ⟨i,_,_,by simp,hl1,hg',AI.2 hb⟩⟩)
       (λμ'=>⟨_,_,rfl,w.heap.size,a.eval x,us,bs,rfl,hu0,Dz w _,hone,C.loc (λk hk=>FM w _ (hbs k hk)) hP,hnb,rfl⟩)
      exact ⟨I,μ',q3,.hv _ q 0 _ _ q1 rfl rfl,q2,q4⟩
     ·cases h
    ·cases h
   ·cases h
  ·cases h
 ·cases h
theorem jH (htt:TTok P tt) {o:Oper} {t e:TypeId} {i:TyI} {m:Nat} {parts:List (Nat×Operand)} (ho:o.op = .buildSlice t m ⟨parts⟩) (hu:P.underlying t=some (.slice e)) (hi:lk tt e=some i) {es:List (List V)} {o':List Prop}
  (hel:GW True env i.size 0 parts=some (es,o')) (hob:A7 o') (hn':m=parts.length) (hbig':m*i.size<=16777216) (hsz:0<i.size) (hm0:0<m) (hop:CB I μ env a o.op) :
  ∃R:List (List Value),(execOp a.eval o).run P w = .ok (.value (.slice (some ⟨w.heap.size,0,none⟩) m m)) (w.alloc (.cells R.flatten.toArray e))/\R.length=m/\es.length=m/\(∀c∈R,c.length=i.size)/\(∀c∈es,c.length=i.size) /\
   ∀(k:Nat) (c:List Value) (x:List V),R[k]?=some c->es[k]?=some x->RepVL I c x/\∀u∈c,u.oneCell'=true:=by
 have hty:=htt e i hi;rw [ho] at hop;obtain ⟨inf,zv,hi1,hi2,_,hi4,hi5,hi6⟩:=hty.info;obtain ⟨q1,q2,q3⟩:=Jd (a:=a) (I:=I) (μ:=μ) trivial parts 0 es o' hel hob (λp hp=>hop p.2 (by simp only [Op.operands];exact List.mem_map.2 ⟨p,hp,rfl⟩));have hz0:m*i.size≠0:=by have:=Nat.mul_pos hm0 hsz;omega
 obtain ⟨A,hA,hA1⟩:∃A:List Value,A.length=m*i.size/\(Array.range (m*i.size)).map (λk=>zv.cells[k % zv.cells.size]!)=A.toArray :=
  ⟨((Array.range (m*i.size)).map (λk=>zv.cells[k % zv.cells.size]!)).toList,by simp,rfl⟩
 obtain ⟨c1,c2,c3⟩:=K3 i.size m A hA;have hq:∀p∈(parts.map λ(p:Nat×Operand)=>(p.1,a.eval p.2)),∃seg,(F7 i.size m A)[p.1]?=some seg/\p.2.cells.size=seg.length:=by
  intro p hp;obtain ⟨q,hm,rfl⟩:=List.mem_map.1 hp;obtain ⟨k,hk⟩:=List.getElem?_of_mem hm;have h1:=q2 k q hk;have hlt:k<parts.length:=(List.getElem?_eq_some_iff.1 hk).1;have hlt2:k<es.length:=by rw [q1];exact hlt
  obtain ⟨_,r2,_,_⟩:=q3 k q es[k] hk (List.getElem?_eq_getElem hlt2);have hlt3:q.1<(F7 i.size m A).length:=by rw [c2];omega
  exact ⟨_,List.getElem?_eq_getElem hlt3,by rw [r2,c3 _ (List.getElem_mem hlt3)]⟩
 have hplace:∀k seg,(F7 i.size m A)[k]?=some seg->some (k*i.size,i.size)=some (((F7 i.size m A).take k).flatten.length,seg.length):=by
  intro k seg hs;have hlt:k<m:=by rw [<- c2];exact (List.getElem?_eq_some_iff.1 hs).1
  rw [AG (sz:=i.size) (λc hc'=>c3 c (List.mem_of_mem_take hc')),c3 seg (List.mem_of_getElem? hs)];rw [List.length_take,c2,Nat.min_eq_left (by omega)]
 have hfill:=JC (λk=>some (k*i.size,i.size)) (parts.map λ(p:Nat×Operand)=>(p.1,a.eval p.2)) _ hplace hq;rw [c1] at hfill;obtain ⟨R,hR⟩:∃R,(parts.map λ(p:Nat×Operand)=>(p.1,a.eval p.2)).foldl (λs p=>s.set p.1 p.2.cells.toList) (F7 i.size m A)=R:=⟨_,rfl⟩
 rw [hR] at hfill;have hRl:R.length=m:=by rw [<- hR,D0,c2]
 have hRk:∀(k:Nat) (c:List Value),R[k]?=some c->∃p,parts[k]?=some p/\c=(a.eval p.2).cells.toList:=by
  intro k c hk;have hlt:k<parts.length:=by rw [<- hn',<- hRl];exact (List.getElem?_eq_some_iff.1 hk).1
  have hp:parts[k]?=some parts[k]:=List.getElem?_eq_getElem hlt;have h1:(parts[k]).1=k:=by have:=q2 k _ hp;omega
  rw [<- hR] at hk;obtain ⟨r1,_⟩:=GV _ _ k c hk;refine ⟨_,hp,r1 _ (List.mem_map.2 ⟨parts[k],List.getElem_mem hlt,by rw [h1]⟩) λu hu=>?_⟩;obtain ⟨q,hm,he⟩:=List.mem_map.1 hu;simp only [Prod.mk.injEq] at he;obtain ⟨k',hk'⟩:=List.getElem?_of_mem hm;have:=q2 k' q hk';have e:k'=k:=by omega
  subst e;rw [hp] at hk';have hk':=Option.some.inj hk';rw [hk',<- he.2]
 refine ⟨R,?_,hRl,by omega,λc hc'=>?_,λc hc'=>?_,λk c x hk hx=>?_⟩
 ·have hno:¬m*i.size > 2 ^ 24:=by omega
  simp only [execOp,ho,Instr.buildSlice,Sem.run_bind,run_underlying hu,hty.sizeOf w,Result.andThen_ok,hno,if_false,Sem.run_pure,if_neg hz0,zeroValue,typeInfo,run_program,hi1,hi4];rw [hA1,List.map_toArray,hfill];simp only [newRow,Sem.run_bind,run_newObj,Result.andThen_ok,Sem.run_pure];rfl
 ·obtain ⟨k,hk⟩:=List.getElem?_of_mem hc';obtain ⟨p,hp,rfl⟩:=hRk k c hk;have hlt2:k<es.length:=by rw [q1];exact (List.getElem?_eq_some_iff.1 hp).1
  obtain ⟨_,r2,_,_⟩:=q3 k p _ hp (List.getElem?_eq_getElem hlt2);simpa using r2
 ·obtain ⟨k,hk⟩:=List.getElem?_of_mem hc';have hlt2:k<parts.length:=by rw [<- q1];exact (List.getElem?_eq_some_iff.1 hk).1
  exact (q3 k _ c (List.getElem?_eq_getElem hlt2) hk).2.2.1
 ·obtain ⟨p,hp,rfl⟩:=hRk k c hk;obtain ⟨r1,_,_,r4⟩:=q3 k p x hp hx;exact ⟨r1,r4⟩
theorem Wr (htt:TTok P tt) (q:Nat) {c:PBo} (h:gQ tt n env q todo=some c) (hob:A7 c.ob)
  (hk:G P n F Q c.todo (Bt c.dst (.own q c.es.length) env) ((q,some (.row c.e c.sz c.es))::st) ids'):G P n F Q todo env st (q::ids'):=by
 unfold gQ at h
 split at h
 ·rename_i all o todo' h1
  split at h
  ·rename_i t m parts hgd hop
   split at h
   ·rename_i e _ _ _ _ ht hd
    split at h
    ·rename_i i hi
     split at h
     ·rename_i es o' hel hm hbig hpos hm0;cases h;simp only at hob hk;have hk:G P n F Q todo' (Bt o.dst (.own q es.length) env) ([(q,some (.row e i.size es))]++st) ids':=hk;refine Bm (fr:=[q]) (wr:=[(q,some (.row e i.size es))]) (rd:=[]) h1 ?_ hd (λc hc=>by rw [hop] at hc;cases hc) hk;intro I μ st1 ids1 a w hag hst hon;refine ⟨λ_=>?_,λhw=>by rw [A4 hgd] at hw;cases hw⟩;have hpos:=show 0<i.size by simpa [Nat.blt_eq] using hpos
      obtain ⟨R,r1,r2,r3,r4,r5,r6⟩:=jH (w:=w) htt hop (htt.sh ht) hi hel hob (Nat.eq_of_beq_eq_true hm) (Nat.le_of_ble_eq_true hbig) hpos (by simpa [Nat.blt_eq] using hm0) (AN hon);rw [r1];have hfl:RepVL I R.flatten es.flatten:=by
       refine ⟨by rw [AG r4,AG r5,r2,r3],λj u x hu hx=>?_⟩;have hlt:j<m*i.size:=by rw [<- r2,<- AG r4];exact (List.getElem?_eq_some_iff.1 hu).1
       have h1:j / i.size<m:=Nat.div_lt_of_lt_mul (by rw [Nat.mul_comm];exact hlt);have h2:j % i.size<i.size:=Nat.mod_lt _ hpos;have e1:R[j / i.size]?=some R[j / i.size]:=List.getElem?_eq_getElem (by omega);have e2:es[j / i.size]?=some es[j / i.size]:=List.getElem?_eq_getElem (by omega);obtain ⟨p1,p2⟩:=r6 _ _ _ e1 e2;have l1:=r4 _ (List.mem_of_getElem? e1);have l2:=r5 _ (List.mem_of_getElem? e2);have f1:=Ca r4 _ _ (j % i.size) _ e1 (List.getElem?_eq_getElem (by omega));have f2:=Ca r5 _ _ (j % i.size) _ e2 (List.getElem?_eq_getElem (by omega));have ej:j / i.size*i.size+j % i.size=j:=by rw [Nat.mul_comm,Nat.div_add_mod]
       rw [ej] at f1 f2;rw [f1] at hu;rw [f2] at hx;cases hu;cases hx;exact p1.2 _ _ _ (List.getElem?_eq_getElem (by omega)) (List.getElem?_eq_getElem (by omega))
      have hone:∀c∈es,∀x∈c,V.one x=true:=λc hc x hx=>by
       obtain ⟨k,hk⟩:=List.getElem?_of_mem hc;obtain ⟨l,hl⟩:=List.getElem?_of_mem hx;have hlt:k<R.length:=by rw [r2,<- r3];exact (List.getElem?_eq_some_iff.1 hk).1
       obtain ⟨p1,p2⟩:=r6 k _ c (List.getElem?_eq_getElem hlt) hk;have hl2:l<(R[k]).length:=by rw [p1.1];exact (List.getElem?_eq_some_iff.1 hl).1
       exact (p1.2 l _ x (List.getElem?_eq_getElem hl2) hl).oneV (p2 _ (List.getElem_mem hl2))
      have hcm:m<=maxLen:=by
       have hb:=Nat.le_of_ble_eq_true hbig;have:m*1<=m*i.size:=Nat.mul_le_mul_left m hpos;unfold maxLen;omega
      have hown:(w.alloc (.cells R.flatten.toArray e)).ownsRow 0 e i.size (.slice (some ⟨w.heap.size,0,none⟩) m m) es.length R.flatten:=by
       rw [r3];refine ⟨by rw [AG r4,r2],.inr ⟨w.heap.size,m,R.flatten.toArray,rfl,Nat.zero_le _,Dz w _,Nat.le_refl _,hcm,by simp [AG r4,r2],?_⟩⟩;have:R.flatten.toArray.toList=R.flatten:=rfl;rw [this,List.take_of_length_le (by rw [AG r4,r2];exact Nat.le_refl _)]
      obtain ⟨μ',q1,q2,q3,q4⟩:=StRep.renew (id':=q) (ids:=ids1) (rd:=[]) (v':=.slice (some ⟨w.heap.size,0,none⟩) m m) (blk':=.row e i.size es) hst (World.grownBy_alloc w _ none) (λb hb=>by cases hb) (λb hb=>by
       have:w.heap.size=b:=hb;subst this;exact ⟨by simp,.inl (Nat.le_refl _)⟩) (λμ'=>⟨R.flatten,hown,hfl,r5,hone,hpos⟩)
      refine ⟨I,μ',q3,?_,q2,q4⟩;rw [r3];exact .own q m _ m q1
     ·cases h
    ·cases h
   ·cases h
  ·cases h
 ·cases h
end
end Go.Hk
namespace Go.Hk
def SX (w:World) (e:TypeId) (sz:Nat) (base:Value) (len:Nat) (xs news:List Value) (v':Value) (w':World):Prop :=
 w'.ownsRow 0 e sz v' len (xs++news)/\w.grownBy w' base.ownBlock/\(∀b,v'.ownBlock=some b->base.ownBlock=some b\/w.heap.size<=b)
theorem Qb {P:Program} {w:World} {t ty e:TypeId} {i:TyI} (hu:P.underlying t=some (.slice e)) (hi:TyOk P e i) (hz:(Nat.beq i.zero.length i.size&&Nat.blt 0 i.size)=true) {v:Value} {n m c:Nat} {xs news:List Value} (hown:w.ownsRow 0 e i.size v n xs)
  {ad:Addr} (hl:news.length=m*i.size) (hnews:∀j u,news[j]?=some u->w.cell? (ad.add j)=some u) (h1:∀u∈news,u.oneCell'=true) (h63:n+m<=maxLen) (hbytes:(n+m)*i.bytes<=140737488355328) :
  ∃v' w',(Builtin.append_ #[t,t] ty #[v,.slice (some ad) m c]).run P w = .ok v' w'/\SX w e i.size v (n+m) xs news v' w':=by
 obtain ⟨inf,z,z1,z2,z3,z4,z5,z6⟩:=hi.info;simp only [Bool.and_eq_true,Nat.blt_eq] at hz;have hzl:z.cells.size=i.size:=by
  have:=(z5 (λ_=>none) noMu).1;rw [Nat.eq_of_beq_eq_true hz.1] at this;simpa using this
 have hl2:(xs++news).length=(n+m)*i.size:=by rw [List.length_append,hown.1,hl,Nat.add_mul]
 rcases hown.2 with ⟨rfl,rfl⟩ | ⟨g,cap,cur,rfl,_,hheap,hle,hcm,hcs,htake⟩
 ·have hx:xs=[]:=List.eq_nil_of_length_eq_zero (by rw [hown.1];simp);subst hx;obtain ⟨v',w',q1,q2,q3,_⟩:=run_append_own (P:=P) w w.heap.size t ty e inf z i.size i.bytes hu z1 z4 z2 z3 hzl hz.2 (.slice none 0 0) 0 [] (World.ownsRow_nil w _ e i.size) ad m c news hl hnews h1 h63 hbytes (Nat.le_refl _);exact ⟨v',w',q1,⟨q2.1,q2.2.imp id λ⟨g,cap,cur,a1,_,a2⟩=>⟨g,cap,cur,a1,Nat.zero_le _,a2⟩⟩,q3,λb hb=>.inr (q2.lt b hb).1⟩
 ·by_cases hroom:n+m<=cap
  ·have hfit:n*i.size+news.length<=cur.size:=by rw [hl,hcs,<- Nat.add_mul];exact Nat.mul_le_mul_right _ hroom
   have hr:=run_append_room (P:=P) w t ty e inf hu z1 g n cap cur hheap ad m c news (by rw [z2];exact hl) hnews h1 hroom (by rw [z2];exact hfit);rw [z2] at hr;refine ⟨_,_,hr,⟨hl2,.inr ⟨g,cap,_,rfl,Nat.zero_le _,setRow_heap w g cur _ e _ hheap,hroom,hcm,?_,?_⟩⟩,⟨rfl,rfl,rfl,by simp,λk _ hk=>setRow_other w g k _ (λe=>hk (by simp [e,Value.ownBlock]))⟩,λb hb=>.inl hb⟩
   ·simp only [List.size_toArray,List.length_append,List.length_take,List.length_drop,Array.length_toList];omega
   ·rw [htake,<- hl2];exact List.take_left
  ·have hsmall:n+m<=9223372036854775807:=by simp only [maxLen] at h63;omega
   have hr':=run_append_grow (P:=P) w t ty e inf z hu z1 z4 ⟨g,0,none⟩ n cap xs (by rw [z2];exact hown.1) (hown.cells (g:=g) rfl) ad m c news (by rw [z2];exact hl) hnews (by omega) (by omega) (by rw [z3];exact growslice_fits (by omega) hbytes);have hge:=grownCap_ge w (n+m) cap e;have hcm':grownCap w (n+m) cap e<=maxLen:=grownCap_le_maxLen w _ cap e h63;refine ⟨_,_,hr',⟨hl2,.inr ⟨w.heap.size,_,_,rfl,Nat.zero_le _,Dz w.drew _,hge,hcm',?_,?_⟩⟩,⟨rfl,rfl,rfl,by simp,λk hk _=>FM w.drew _ hk⟩,λb h=>by simp [Value.ownBlock] at h;exact .inr (by omega)⟩
   ·simp only [Array.size_append,List.size_toArray,size_zeroCells,hzl,hown.1,hl,<- Nat.add_mul];congr 1;omega
   ·simp only [Array.toList_append];rw [<- hl2];exact List.take_left
def dU (A B A':Asn) (e:TypeId) (sz bytes:Nat) (base:Value):Prop:=∀us vs I w b1 b2,A.P us I w b1->B.P vs I w b2->(∀b∈b1,b∉b2)->∃n m c xs news ad,
 w.ownsRow 0 e sz base n xs/\(∀k,base.ownBlock=some k->k∈b1)/\vs[0]?=some (.slice (some ad) m c)/\news.length=m*sz/\(∀j u,news[j]?=some u->w.cell? (ad.add j)=some u)/\(∀u∈news,u.oneCell'=true) /\
 (n+m<=maxLen/\(n+m)*bytes<=140737488355328) /\
 ∀v' w',SX w e sz base (n+m) xs news v' w'->∃bs,(∀b∈bs,(b∈b1\/b∈b2)\/(w.heap.size<=b/\b<w'.heap.size))/\A'.P [v'] I w' bs
def dT (A A':Asn) (e:TypeId) (sz bytes:Nat) (base:Value) (es2:List (List V)):Prop:=(∀c∈es2,c.length=sz)/\∀us I w b1,A.P us I w b1->∃n xs,
 w.ownsRow 0 e sz base n xs/\(∀k,base.ownBlock=some k->k∈b1)/\(n+es2.length<=maxLen/\(n+es2.length)*bytes<=140737488355328) /\
 ∀v' w' news,RepVL I news es2.flatten->(∀u∈news,u.oneCell'=true)->SX w e sz base (n+es2.length) xs news v' w'->∃bs,(∀b∈bs,b∈b1\/(w.heap.size<=b/\b<w'.heap.size))/\A'.P [v'] I w' bs
structure PAp where
 base:Value
 e:TypeId
 sz:Nat
 bytes:Nat
 es2:List (List V)
 dst:Option Nat
 todo:List DI
def gU (tt:TT) (n:Nat) (env:Env) (id q id':Nat) (todo:List DI):Option PAp :=
 match AR todo ([id,q],[id',id,q]) with
 | some (_,o,todo')=>match o.guard,o.op with
  | none,.call { callee:=.builtin .append,args:=⟨[x,y]⟩,argTypes:=⟨[t,t']⟩ }=>match Nat.beq t t',lk tt t,C9 env x,C9 env y with
   | true,some { sh:=.sl e,.. },some (.raw v),some (.hv i l)=>match lk tt e with
    | some ti=>match Nat.beq ti.zero.length ti.size&&Nat.blt 0 ti.size,Nat.beq i q,Nat.beq l 0,Bw n o.dst with
     | true,true,true,true=>some ⟨v,e,ti.size,ti.bytes,[],o.dst,todo'⟩
     | _,_,_,_=>none
    | none=>none
   | _,_,_,_=>none
  | _,_=>none
 | none=>none
def gT (tt:TT) (n:Nat) (env:Env) (id id':Nat) (todo:List DI):Option PAp :=
 match AR todo ([id],[id',id]) with
 | some (_,o,todo')=>match o.guard,o.op with
  | none,.call { callee:=.builtin .append,args:=⟨[x,y]⟩,argTypes:=⟨[t,t']⟩ }=>match Nat.beq t t',lk tt t,C9 env x,C9 env y with
   | true,some { sh:=.sl e,.. },some (.raw v),some (.imm (.sl (e1::es2)))=>match lk tt e with
    | some ti=>match Nat.beq ti.zero.length ti.size&&Nat.blt 0 ti.size,Bw n o.dst with
     | true,true=>some ⟨v,e,ti.size,ti.bytes,e1::es2,o.dst,todo'⟩
     | _,_=>none
    | none=>none
   | _,_,_,_=>none
  | _,_=>none
 | none=>none
structure kT where
 b:Nat
 off:Nat
 k:Nat
 todo:List DI
def T9 (tt:TT) (env:Env) (id:Nat) (todo:List DI):Option kT :=
 match AR todo ([id],[id]) with
 | some (_,o,todo')=>match o.guard,o.dst,o.op with
  | none,none,.store t p x=>match lk tt t,C9 env p,C9 env x with
   | some i,some (.raw (.pointer (some ⟨b,off,none⟩))),some (.hv j k)=>match Nat.beq i.size 1,Nat.beq j id with
    | true,true=>some ⟨b,off,k,todo'⟩
    | _,_=>none
   | _,_,_=>none
  | _,_,_=>none
 | none=>none
def Qg (A A':Asn) (b off k:Nat):Prop:=∀us I w bs,A.P us I w bs->b∈bs/\∃cur t,w.heap[b]?=some (.cells cur t (0,0))/\off+1<=cur.size /\
 ∀u,us[k]?=some u->u.oneCell'=true->A'.P us I (w.setRow b (cur.toList.take off++[u]++cur.toList.drop (off+1)).toArray) bs
structure PRn where
 eq:Bool
 nil:Bool
 dst:Option Nat
 todo:List DI
def gJ (tt:TT) (n:Nat) (env:Env) (todo:List DI):Option PRn :=
 match AR todo ([],[]) with
 | some (_,o,todo')=>match o.guard,o.op with
  | none,.binOp .eql t x y _=>match lk tt t,C9 env x,C9 env y,Bw n o.dst with
   | some { sh:=.sl _,.. },some (.raw (.slice ad _ _)),some .nils,true=>some ⟨true,ad.isNone,o.dst,todo'⟩
   | _,_,_,_=>none
  | none,.binOp .neq t x y _=>match lk tt t,C9 env x,C9 env y,Bw n o.dst with
   | some { sh:=.sl _,.. },some (.raw (.slice ad _ _)),some .nils,true=>some ⟨false,ad.isNone,o.dst,todo'⟩
   | _,_,_,_=>none
  | _,_=>none
 | none=>none
section
variable {P:Program} {n:Nat} {F:List Nat} {Q:DQ} {tt:TT} {env env':Env} {st st' st0 st1:St} {ids ids' fr:List Nat} {k todo todo':List DI} {I J:Imm} {μ:Mu} {w:World} {a:Act} {Pn:V->Prop} {d:D} {cx:Prop} {ob:List Prop}
theorem RepD.hvInv {v:Value} {j i:Nat} {us:List Value} {bs:List Nat} (hm:μ j=some (Mr us bs)) (h:RepD I μ v (.hv j i)):us[i]?=some v/\v.oneCell'=true:=by
 cases h with
 | hv _ _ _ us' bs' hm' hi' h1 =>
  rw [hm] at hm';have:us=us':=by
   simp only [Mr,Option.some.injEq,Value.tuple.injEq,Array.mk.injEq,List.cons.injEq,Value.agg.injEq,and_true] at hm';simpa using hm'.1
  exact ⟨by rw [this];exact hi',h1⟩
theorem GL {w:World} {e:TypeId} {sz n:Nat} {v:Value} {xs:List Value} (h:w.ownsRow 0 e sz v n xs):v.oneCell'=true:=by
 rcases h.2 with ⟨rfl,_⟩ | ⟨g,cap,cur,rfl,_⟩ <;> rfl
theorem cH (htt:TTok P tt) (id q id':Nat) {A B:Asn} (A':Asn) {c:PAp} (h:gU tt n env id q id' todo=some c) (hl:lk st id=some (some (.hp A))) (hlq:lk st q=some (some (.hp B))) (hne:id≠q) (hA:dU A B A' c.e c.sz c.bytes c.base)
  (hk:G P n F Q c.todo (Bt c.dst (.hv id' 0) env) ((id',some (.hp A'))::(id,none)::(q,none)::st) ids'):G P n F Q todo env st (id'::ids'):=by
 unfold gU at h
 split at h
 ·rename_i all o todo' h1
  split at h
  ·rename_i x y t t' hgd hop
   split at h
   ·rename_i e _ _ _ _ v i l htt' ht hx hy;have:=Nat.eq_of_beq_eq_true htt';subst this
    split at h
    ·rename_i ti hti
     split at h
     ·rename_i hz hi hl0 hd;cases h;simp only at hA hk;have hi:=Nat.eq_of_beq_eq_true hi;have hl0:=Nat.eq_of_beq_eq_true hl0;subst hi;subst hl0;have hk:G P n F Q todo' (Bt o.dst (.hv id' 0) env) ([(id',some (.hp A')),(id,none),(i,none)]++st) ids':=hk;refine Bm (fr:=[id']) (wr:=[(id',some (.hp A')),(id,none),(i,none)]) (rd:=[id,i]) h1 ?_ hd (λc hc=>by rw [hop] at hc;cases hc) hk;intro I μ st1 ids1 a w hag hst hon;refine ⟨λ_=>?_,λhw=>by rw [A4 hgd] at hw;cases hw⟩;have hops:=AN hon;rw [hop] at hops;have hl1:Aq st1 id (.hp A):=by unfold Aq;rw [hag id (by simp)];exact hl
      have hl2:Aq st1 i (.hp B):=by unfold Aq;rw [hag i (by simp)];exact hlq
      obtain ⟨g1,hg1,us,b1,rfl,hP1⟩:=hst.blk id _ hl1;obtain ⟨g2,hg2,vs,b2,rfl,hP2⟩:=hst.blk i _ hl2;have hv:a.eval x=v:=(hops x (by simp [Op.operands,Call.operands]) _ hx).rawInv;obtain ⟨hy0,_⟩:=(hops y (by simp [Op.operands,Call.operands]) _ hy).hvInv hg2;obtain ⟨nn,m,cc,xs,news,ad,k1,k2,k3,k4,k5,k6,⟨k7,k8⟩,k9⟩:=hA us vs I w b1 b2 hP1 hP2 λb h1 h2=>hne (hst.inj id i _ _ _ _ b hl1 hl2 hg1 hg2 (AI.2 h1) (AI.2 h2));have hyv:a.eval y = .slice (some ad) m cc:=by rw [hy0] at k3;exact Option.some.inj k3
      obtain ⟨v',w',r1,r2⟩:=Qb (ty:=o.type) (c:=cc) (htt.sh ht) (htt e ti hti) hz k1 k4 k5 k6 k7 k8;have hrun:(execOp a.eval o).run P w = .ok (.value v') w':=by
       simp only [execOp,hop,resolve,invoke,builtin,Sem.run_bind,Sem.run_pure,Result.andThen_ok,List.map_toArray,List.map_cons,List.map_nil,hv,hyv,r1]
      rw [hrun];obtain ⟨bs,s1,s2⟩:=k9 v' w' r2;have hold:∀b,b∈b1\/b∈b2->∃id0 blk g,id0∈[id,i]/\Aq st1 id0 blk/\μ id0=some g/\CR g b:=λb hb=>by
       rcases hb with hb | hb
       ·exact ⟨id,_,_,by simp,hl1,hg1,AI.2 hb⟩
       ·exact ⟨i,_,_,by simp,hl2,hg2,AI.2 hb⟩
      have hlt:∀b,b∈b1\/b∈b2->b<w.heap.size:=λb hb=>by
       obtain ⟨id0,blk,g,_,q2,q3,q4⟩:=hold b hb;exact (hst.apart id0 blk g b q2 q3 q4).2
      obtain ⟨μ',q1,q2,q3,q4⟩:=StRep.renew (id':=id') (ids:=ids1) (rd:=[id,i]) (v':=Mr [v'] bs) (blk':=.hp A') hst r2.2.1 (λb hb=>hold b (.inl (k2 b hb))) (λb hb=>by
       rcases s1 b (AI.1 hb) with h | h
       ·exact ⟨Nat.lt_of_lt_of_le (hlt b h) r2.2.1.size,.inr (hold b h)⟩
       ·exact ⟨h.2,.inl h.1⟩) (λμ'=>⟨_,_,rfl,s2⟩)
      exact ⟨I,μ',q3,.hv _ id' 0 _ _ q1 rfl (GL r2.1),q2,q4⟩
     ·cases h
    ·cases h
   ·cases h
  ·cases h
 ·cases h
theorem jD (htt:TTok P tt) (id id':Nat) {A:Asn} (A':Asn) {c:PAp} (h:gT tt n env id id' todo=some c) (hl:lk st id=some (some (.hp A))) (hA:dT A A' c.e c.sz c.bytes c.base c.es2)
  (hk:G P n F Q c.todo (Bt c.dst (.hv id' 0) env) ((id',some (.hp A'))::(id,none)::st) ids'):G P n F Q todo env st (id'::ids'):=by
 unfold gT at h
 split at h
 ·rename_i all o todo' h1
  split at h
  ·rename_i x y t t' hgd hop
   split at h
   ·rename_i e _ _ _ _ v e1 es2 htt' ht hx hy;have:=Nat.eq_of_beq_eq_true htt';subst this
    split at h
    ·rename_i ti hti
     split at h
     ·rename_i hz hd;cases h;simp only at hA hk;have hk:G P n F Q todo' (Bt o.dst (.hv id' 0) env) ([(id',some (.hp A')),(id,none)]++st) ids':=hk;refine Bm (fr:=[id']) (wr:=[(id',some (.hp A')),(id,none)]) (rd:=[id]) h1 ?_ hd (λc hc=>by rw [hop] at hc;cases hc) hk;intro I μ st1 ids1 a w hag hst hon;refine ⟨λ_=>?_,λhw=>by rw [A4 hgd] at hw;cases hw⟩;have hops:=AN hon;rw [hop] at hops;have hl1:Aq st1 id (.hp A):=by unfold Aq;rw [hag id (by simp)];exact hl
      obtain ⟨g1,hg1,us,b1,rfl,hP1⟩:=hst.blk id _ hl1;have hv:a.eval x=v:=(hops x (by simp [Op.operands,Call.operands]) _ hx).rawInv;have hpos:0<ti.size:=by
       simp only [Bool.and_eq_true,Nat.blt_eq] at hz;exact hz.2
      obtain ⟨hsz,hA⟩:=hA;obtain ⟨nn,xs,k1,k2,⟨k7,k8⟩,k9⟩:=hA us I w b1 hP1;rcases KQ hst.imm (hops y (by simp [Op.operands,Call.operands]) _ hy).immInv hsz hpos with ⟨_,e0⟩ | ⟨yb,yo,yc,news,ey,_,_,n1,n2,n3,n4,_⟩
      ·cases e0
      obtain ⟨v',w',r1,r2⟩:=Qb (ty:=o.type) (c:=yc) (htt.sh ht) (htt e ti hti) hz k1 n1 n2 n3 k7 k8;have hrun:(execOp a.eval o).run P w = .ok (.value v') w':=by
       simp only [execOp,hop,resolve,invoke,builtin,Sem.run_bind,Sem.run_pure,Result.andThen_ok,List.map_toArray,List.map_cons,List.map_nil,hv,ey,r1]
      rw [hrun];obtain ⟨bs,s1,s2⟩:=k9 v' w' news n4 n3 r2;have hlt:∀b,b∈b1->b<w.heap.size:=λb hb=>(hst.apart id _ _ b hl1 hg1 (AI.2 hb)).2;obtain ⟨μ',q1,q2,q3,q4⟩:=StRep.renew (id':=id') (ids:=ids1) (rd:=[id]) (v':=Mr [v'] bs) (blk':=.hp A') hst r2.2.1 (λb hb=>⟨id,_,_,by simp,hl1,hg1,AI.2 (k2 b hb)⟩) (λb hb=>by
       rcases s1 b (AI.1 hb) with h | h
       ·exact ⟨Nat.lt_of_lt_of_le (hlt b h) r2.2.1.size,.inr ⟨id,_,_,by simp,hl1,hg1,AI.2 h⟩⟩
       ·exact ⟨h.2,.inl h.1⟩) (λμ'=>⟨_,_,rfl,s2⟩)
      exact ⟨I,μ',q3,.hv _ id' 0 _ _ q1 rfl (GL r2.1),q2,q4⟩
     ·cases h
    ·cases h
   ·cases h
  ·cases h
 ·cases h
theorem Ms (htt:TTok P tt) (id:Nat) {A:Asn} (A':Asn) {c:kT} (h:T9 tt env id todo=some c) (hl:lk st id=some (some (.hp A))) (hA:Qg A A' c.b c.off c.k)
  (hk:G P n F Q c.todo env ((id,some (.hp A'))::st) ids):G P n F Q todo env st ids:=by
 unfold T9 at h
 split at h
 ·rename_i all o todo' h1
  split at h
  ·rename_i t p x hgd hdst hop
   split at h
   ·rename_i i b off j k ht hp hx
    split at h
    ·rename_i hsz hj;cases h;simp only at hA hk;have hj:=Nat.eq_of_beq_eq_true hj;have hsz:=Nat.eq_of_beq_eq_true hsz;subst hj;have hk:G P n F Q todo' (Bt o.dst .undef env) ([(j,some (.hp A'))]++st) ids:=by rw [hdst];exact hk
     refine Bm (fr:=[]) (wr:=[(j,some (.hp A'))]) (rd:=[j]) h1 ?_ (by simp [Bw,hdst]) (λc hc=>by rw [hop] at hc;cases hc) hk;intro I μ st1 ids1 a w hag hst hon;refine ⟨λ_=>?_,λhw=>by rw [A4 hgd] at hw;cases hw⟩;have hops:=AN hon;rw [hop] at hops;have rp:=(hops p (by simp [Op.operands]) _ hp).rawInv;have hl1:Aq st1 j (.hp A):=by unfold Aq;rw [hag j (by simp)];exact hl
     obtain ⟨gg,hg',us,bs,e1,e2⟩:=hst.blk j _ hl1;subst e1;obtain ⟨hu,hone⟩:=(hops x (by simp [Op.operands]) _ hx).hvInv hg';obtain ⟨k1,vs,bt,k2,k3,k4⟩:=hA us I w bs e2;have hcell:=Fc hone;have hrun:(execOp a.eval o).run P w = .ok .skip (w.setRow b (vs.toList.take off++[a.eval x]++vs.toList.drop (off+1)).toArray):=by
      have:=HL (v:=a.eval x) (off:=off) (htt t i ht) k2 (by rw [hcell,hsz];rfl) (by rw [hcell];intro u hu;simp at hu;rw [hu];exact hone) (by rw [hcell];exact k3);rw [hcell] at this;simp only [execOp,hop,rp,Sem.run_bind,this,Result.andThen_ok,Sem.run_pure];rfl
     rw [hrun];have hnew:BlkRep I μ (w.setRow b (vs.toList.take off++[a.eval x]++vs.toList.drop (off+1)).toArray) (Mr us bs) (.hp A'):=⟨us,bs,rfl,k4 _ hu hone⟩
     obtain ⟨q1,q2⟩:=hst.update (id:=j) (blk:=.hp A) (g:=Mr us bs) (b:=b) hl1 hg' (AI.2 k1) (w':=w.setRow b _) (setRow_size w b _) rfl rfl rfl (λk hk=>setRow_other w b k _ hk) hnew;exact ⟨I,μ,q1,.undef _,Mu.le_refl μ,q2⟩
    ·cases h
   ·cases h
  ·cases h
 ·cases h
theorem jA (htt:TTok P tt) {c:PRn} (h:gJ tt n env todo=some c) (hk:G P n F Q c.todo (Bt c.dst (.imm (.bool (c.eq == c.nil))) env) st ids):G P n F Q todo env st ids:=by
 unfold gJ at h
 split at h
 ·rename_i all o todo' h1
  split at h
  ·rename_i t x y t' hgd hop
   split at h
   ·rename_i e _ _ _ _ ad len cap ht hx hy hd;cases h;refine Bm (fr:=[]) (wr:=[]) (rd:=[]) h1 ?_ hd (λc hc=>by rw [hop] at hc;cases hc) hk;intro I μ st1 ids1 a w hag hst hon;refine ⟨λ_=>?_,λhw=>by rw [A4 hgd] at hw;cases hw⟩;have hops:=AN hon;rw [hop] at hops;have e1:a.eval x = .slice ad len cap:=(hops x (by simp [Op.operands]) _ hx).rawInv;have e3:a.eval y = .slice none 0 0:=by
     have:=hops y (by simp [Op.operands]) _ hy;generalize a.eval y=v at this;cases this;rfl
    have hrun:(execOp a.eval o).run P w = .ok (.value (.bool ad.isNone)) w:=by
     simp only [execOp,hop,e1,e3];exact Aw (Ft (htt.sh ht) x y ad len cap).1
    rw [hrun];exact ⟨I,μ,hst,.imm _ _ (by cases ad.isNone <;> exact .bool _),Mu.le_refl μ,Ext.refl _ _ _ _⟩
   ·cases h
  ·rename_i t x y t' hgd hop
   split at h
   ·rename_i e _ _ _ _ ad len cap ht hx hy hd;cases h;refine Bm (fr:=[]) (wr:=[]) (rd:=[]) h1 ?_ hd (λc hc=>by rw [hop] at hc;cases hc) hk;intro I μ st1 ids1 a w hag hst hon;refine ⟨λ_=>?_,λhw=>by rw [A4 hgd] at hw;cases hw⟩;have hops:=AN hon;rw [hop] at hops;have e1:a.eval x = .slice ad len cap:=(hops x (by simp [Op.operands]) _ hx).rawInv;have e3:a.eval y = .slice none 0 0:=by
     have:=hops y (by simp [Op.operands]) _ hy;generalize a.eval y=v at this;cases this;rfl
    have hrun:(execOp a.eval o).run P w = .ok (.value (.bool (!ad.isNone))) w:=by
     simp only [execOp,hop,e1,e3];exact Aw (Ft (htt.sh ht) x y ad len cap).2
    rw [hrun];exact ⟨I,μ,hst,.imm _ _ (by cases ad.isNone <;> exact .bool _),Mu.le_refl μ,Ext.refl _ _ _ _⟩
   ·cases h
  ·cases h
 ·cases h
end
end Go.Hk
namespace Go.Hk
structure PRc where
 b:Nat
 off:Nat
 cap:Nat
 l:Int
 m:Int
 sz:Nat
 dst:Option Nat
 todo:List DI
def eV (env:Env) (d:Int):Option Operand->Option Int
 | none=>some d
 | some x=>match C9 env x with
  | some (.imm (.int _ m))=>some m
  | _=>none
def gH (tt:TT) (n:Nat) (env:Env) (todo:List DI):Option PRc :=
 match AR todo ([],[]) with
 | some (_,o,todo')=>match o.guard,o.op with
  | none,.slice t x lo hi none=>match lk tt t,C9 env x,eV env 0 lo,Bw n o.dst with
   | some { sh:=.sl e,.. },some (.raw (.slice (some ⟨b,off,none⟩) len cap)),some l,true=>match lk tt e,eV env len hi with
    | some ti,some m=>some ⟨b,off,cap,l,m,ti.size,o.dst,todo'⟩
    | _,_=>none
   | _,_,_,_=>none
  | _,_=>none
 | none=>none
structure PRk where
 e:TypeId
 sz:Nat
 b:Nat
 off:Nat
 len:Nat
 todo:List DI
def gK (tt:TT) (env:Env) (id:Nat) (todo:List DI):Option PRk :=
 match AR todo ([id],[id]) with
 | some (_,o,todo')=>match o.guard,o.dst,o.op with
  | none,none,.call { callee:=.builtin .clear,args:=⟨[x]⟩,argTypes:=⟨[t]⟩ }=>match lk tt t,C9 env x with
   | some { sh:=.sl e,.. },some (.raw (.slice (some ⟨b,off,none⟩) len _))=>match lk tt e with
    | some ti=>match Nat.blt 0 len,Nat.beq ti.zero.length ti.size with
     | true,true=>some ⟨e,ti.size,b,off,len,todo'⟩
     | _,_=>none
    | none=>none
   | _,_=>none
  | _,_,_=>none
 | none=>none
def SY (A A':Asn) (b off k:Nat):Prop:=∀us I w bs,A.P us I w bs->b∈bs/\∃cur t,w.heap[b]?=some (.cells cur t (0,0))/\off+k<=cur.size /\
 ∀news:List Value,news.length=k->(∀u∈news,u.oneCell'=true)->A'.P us I (w.setRow b (cur.toList.take off++news++cur.toList.drop (off+k)).toArray) bs
section
variable {P:Program} {n:Nat} {F:List Nat} {Q:DQ} {tt:TT} {env env':Env} {st st' st0 st1:St} {ids ids' fr:List Nat} {k todo todo':List DI} {I J:Imm} {μ:Mu} {w:World} {a:Act} {Pn:V->Prop} {d:D} {cx:Prop} {ob:List Prop}
theorem Ui {lo:Option Operand} {d l:Int} (h:eV env d lo=some l) (hx:∀x,lo=some x->∀d,C9 env x=some d->RepD I μ (a.eval x) d):(lo=none/\l=d)\/∃x k,lo=some x/\a.eval x = .int k l:=by
 unfold eV at h
 split at h
 ·cases h;exact .inl ⟨rfl,rfl⟩
 ·rename_i x
  split at h
  ·rename_i k m hm;cases h;exact .inr ⟨x,k,rfl,(hx x rfl _ hm).immInv.intInv⟩
  ·cases h
theorem cE (htt:TTok P tt) {c:PRc} (h:gH tt n env todo=some c) (hc:0<=c.l/\c.l<=c.m/\c.m<=c.cap/\c.l<c.cap)
  (hk:G P n F Q c.todo (Bt c.dst (.raw (.slice (some ⟨c.b,c.off+c.l.toNat*c.sz,none⟩) (c.m.toNat-c.l.toNat) (c.cap-c.l.toNat))) env) st ids):G P n F Q todo env st ids:=by
 unfold gH at h
 split at h
 ·rename_i all o todo' h1
  split at h
  ·rename_i t x lo hi hgd hop
   split at h
   ·rename_i e _ _ _ _ b off len cap l ht hx hlo hd
    split at h
    ·rename_i ti m hti hhi;cases h;simp only at hc hk;refine Bm (fr:=[]) (wr:=[]) (rd:=[]) h1 ?_ hd (λc hc=>by rw [hop] at hc;cases hc) hk;intro I μ st1 ids1 a w hag hst hon;refine ⟨λ_=>?_,λhw=>by rw [A4 hgd] at hw;cases hw⟩;have hops:=AN hon;rw [hop] at hops;have e1:a.eval x = .slice (some ⟨b,off,none⟩) len cap:=(hops x (by simp [Op.operands]) _ hx).rawInv;obtain ⟨c1,c2,c3,c4⟩:=hc;obtain ⟨l',rfl⟩:∃k:Nat,l=k:=⟨l.toNat,by omega⟩
     obtain ⟨m',rfl⟩:∃k:Nat,m=k:=⟨m.toNat,by omega⟩
     have r1:=Ui (I:=I) (μ:=μ) (a:=a) hlo (λy hy=>hops y (by subst hy;simp [Op.operands]));have r2:=Ui (I:=I) (μ:=μ) (a:=a) hhi (λy hy=>hops y (by subst hy;cases lo <;> simp [Op.operands]));have hb:∀(k:IntKind) (x y:Nat) (c:BoundsCode),x<=y->(Instr.sliceBound (.int k x) y c).run P w = .ok x w:=by
      intro k x y c hxy;simp [Instr.sliceBound,asIntOf,hxy]
     have hl1:l'<=m':=by omega
     have hm1:m'<=cap:=by omega
     have hne:cap≠l':=by omega
     have hrun:(Instr.sliceAt t (.slice (some ⟨b,off,none⟩) len cap) (lo.map a.eval) (hi.map a.eval) none).run P w = .ok (.slice (some ⟨b,off+l'*ti.size,none⟩) (m'-l') (cap-l')) w:=by
      have hadd:(⟨b,off,none⟩:Addr).add (l'*ti.size)=⟨b,off+l'*ti.size,none⟩:=CQ _ _ _;rcases r1 with ⟨rfl,h1⟩ | ⟨y,k,rfl,h1⟩ <;> rcases r2 with ⟨rfl,h2⟩ | ⟨z,k2,rfl,h2⟩
      all_goals
       simp only [Option.map_none,Option.map_some]
       try rw [h1]
       try rw [h2]
      ·have hl0:l'=0:=by omega
       have hml:m'=len:=by omega
       subst hl0;subst hml;simp [Instr.sliceAt,run_underlying (htt.sh ht),Instr.slice,Instr.sliceBounds,hb _ _ _ _ hm1,(htt e ti hti).sizeOf w,hne,CQ]
      ·have hl0:l'=0:=by omega
       subst hl0;simp [Instr.sliceAt,run_underlying (htt.sh ht),Instr.slice,Instr.sliceBounds,hb _ _ _ _ hm1,(htt e ti hti).sizeOf w,hne,CQ]
      ·have hml:m'=len:=by omega
       subst hml;simp [Instr.sliceAt,run_underlying (htt.sh ht),Instr.slice,Instr.sliceBounds,hb _ _ _ _ hl1,hb _ _ _ _ hm1,(htt e ti hti).sizeOf w,hne,CQ]
      ·simp [Instr.sliceAt,run_underlying (htt.sh ht),Instr.slice,Instr.sliceBounds,hb _ _ _ _ hl1,hb _ _ _ _ hm1,(htt e ti hti).sizeOf w,hne,CQ]
     have hrun':(execOp a.eval o).run P w = .ok (.value (.slice (some ⟨b,off+l'*ti.size,none⟩) (m'-l') (cap-l'))) w:=by
      simp only [execOp,hop,e1,Option.map_none,Sem.run_bind,hrun,Result.andThen_ok,Sem.run_pure]
     rw [hrun'];exact ⟨I,μ,hst,.raw _ rfl,Mu.le_refl μ,Ext.refl _ _ _ _⟩
    ·cases h
   ·cases h
  ·cases h
 ·cases h
theorem jB (htt:TTok P tt) (id:Nat) {A:Asn} (A':Asn) {c:PRk} (h:gK tt env id todo=some c) (hl:lk st id=some (some (.hp A))) (hA:SY A A' c.b c.off (c.len*c.sz))
  (hk:G P n F Q c.todo env ((id,some (.hp A'))::st) ids):G P n F Q todo env st ids:=by
 unfold gK at h
 split at h
 ·rename_i all o todo' h1
  split at h
  ·rename_i x t hgd hdst hop
   split at h
   ·rename_i e _ _ _ _ b off len cap ht hx
    split at h
    ·rename_i ti hti
     split at h
     ·rename_i hlen hz;cases h;simp only at hA hk;have hlen:0<len:=by simpa [Nat.blt_eq] using hlen
      have hk:G P n F Q todo' (Bt o.dst (.undef) env) ([(id,some (.hp A'))]++st) ids:=by rw [hdst];exact hk
      refine Bm (fr:=[]) (wr:=[(id,some (.hp A'))]) (rd:=[id]) h1 ?_ (by simp [Bw,hdst]) (λc hc=>by rw [hop] at hc;cases hc) hk;intro I μ st1 ids1 a w hag hst hon;refine ⟨λ_=>?_,λhw=>by rw [A4 hgd] at hw;cases hw⟩;have hops:=AN hon;rw [hop] at hops;have e1:a.eval x = .slice (some ⟨b,off,none⟩) len cap:=(hops x (by simp [Op.operands,Call.operands]) _ hx).rawInv;have hl1:Aq st1 id (.hp A):=by unfold Aq;rw [hag id (by simp)];exact hl
      obtain ⟨gg,hg',us,bs,rfl,e2⟩:=hst.blk id _ hl1;obtain ⟨k1,cur,bt,k2,k3,k4⟩:=hA us I w bs e2;obtain ⟨inf,z,z1,z2,z3,z4,z5,z6⟩:=(htt e ti hti).info;have hzl:z.cells.size=ti.size:=by
       have:=(z5 (λ_=>none) noMu).1;rw [Nat.eq_of_beq_eq_true hz] at this;simpa using this
      have hnl:(Builtin.zeroCells z.cells len).toList.length=len*ti.size:=by rw [Array.length_toList,size_zeroCells,hzl]
      have hone:∀u∈(Builtin.zeroCells z.cells len).toList,u.oneCell'=true:=by
       intro u hu;simp only [Builtin.zeroCells,Array.toList_map,List.mem_map,Array.toList_range,List.mem_range] at hu;obtain ⟨q,hq,rfl⟩:=hu;have hpos:0<z.cells.size:=by
        rcases Nat.eq_zero_or_pos z.cells.size with h0 | h0
        ·rw [h0] at hq;simp at hq
        ·exact h0
       have hlt:q % z.cells.size<z.cells.size:=Nat.mod_lt _ hpos;rw [getElem!_pos z.cells _ hlt];exact z6 _ (by simp)
      have hst2:=run_storeCells_at P b off bt (Builtin.zeroCells z.cells len).toList 0 cur w k2 (by rw [hnl];simpa using k3) hone;simp only [Nat.add_zero] at hst2;rw [hnl] at hst2;have hrun:(execOp a.eval o).run P w = .ok (.value (.tuple #[])) (w.setRow b (cur.toList.take off++(Builtin.zeroCells z.cells len).toList++cur.toList.drop (off+len*ti.size)).toArray):=by
       obtain ⟨len',rfl⟩:∃l,len=l+1:=⟨len-1,by omega⟩
       simp only [execOp,hop,resolve,invoke,builtin,Sem.run_bind,Sem.run_pure,Result.andThen_ok,List.map_toArray,List.map_cons,List.map_nil,e1];simp [Builtin.clear_,run_underlying (htt.sh ht),zeroValue,typeInfo,z1,z4,hst2]
      rw [hrun];have hnew:BlkRep I μ (w.setRow b (cur.toList.take off++(Builtin.zeroCells z.cells len).toList++cur.toList.drop (off+len*ti.size)).toArray) (Mr us bs) (.hp A'):=⟨us,bs,rfl,k4 _ hnl hone⟩
      obtain ⟨q1,q2⟩:=hst.update (id:=id) (blk:=.hp A) (g:=Mr us bs) (b:=b) hl1 hg' (AI.2 k1) (w':=w.setRow b _) (setRow_size w b _) rfl rfl rfl (λk hk=>setRow_other w b k _ hk) hnew;exact ⟨I,μ,q1,.undef _,Mu.le_refl μ,q2⟩
     ·cases h
    ·cases h
   ·cases h
  ·cases h
 ·cases h
theorem N1 (id t j:Nat) {A:Asn} {e:TypeId} {sz:Nat} (es:List (List V)) {v:Value} (hl:lk st id=some (some (.hp A))) (ht:lk env t=some (.raw v))
  (hA:∀vs I w bs,A.P vs I w bs->∃xs,w.ownsRow 0 e sz v es.length xs/\RepVL I xs es.flatten/\(∀c∈es,c.length=sz)/\(∀c∈es,∀x∈c,V.one x=true)/\0<sz/\∀k,v.ownBlock=some k->k∈bs)
  (h:DGo P n F Q todo ((t,.own j es.length)::env) ((j,some (.row e sz es))::(id,none)::st) ids'):DGo P n F Q todo env st (j::ids'):=by
 refine CE λI μ a w hc=>?_;obtain ⟨g,hg,vs,bs,rfl,hP⟩:=hc.blk id _ hl;obtain ⟨xs,k1,k2,k3,k4,k5,k6⟩:=hA vs I w bs hP;have hown:∀b,CR v b->v.ownBlock=some b:=λb hb=>by
  rcases k1.2 with ⟨rfl,_⟩ | ⟨g,cap,cur,rfl,_⟩
  ·cases hb
  ·have:g=b:=hb;rw [<- this];rfl
 obtain ⟨q1,q2,q3⟩:=StRep.relay (R:=[id]) (new:=[(j,v,.row e sz es)]) (ids':=ids') hc.toStRep
  (λp hp b hb=>by
   rw [List.mem_singleton.1 hp] at hb;exact ⟨id,_,_,by simp,hl,hg,AI.2 (k6 b (hown b hb))⟩)
  (λp hp q hq b _ _=>by rw [List.mem_singleton.1 hp,List.mem_singleton.1 hq]) (Imm.le_refl I) hc.imm (λb o h=>.inl h)
  (λ_ p hp=>by rw [List.mem_singleton.1 hp];exact ⟨xs,k1,k2,k3,k4,k5⟩)
 refine ⟨I,_,_,_,ids',q2,λt' d hd=>?_,q3,.of_le q1,h⟩;by_cases e':t=t'
 ·subst e';rw [Ao] at hd;cases hd;have hv:=(hc.env t _ ht).rawInv;rw [hv];obtain ⟨ad,cap,rfl⟩:=Nb k1;exact .own j es.length ad cap (by simp [DF,lk])
 ·rw [Au _ _ e'] at hd;exact (hc.env t' d hd).mono (Imm.le_refl I) q1
end
end Go.Hk
namespace Go.Hk
open Go.Proofs
def eB:TT:=jN++[
 (177,⟨.struct [(0,26),(4,150),(7,174),(8,175)],true,9,136,[.imm (.int .i64 0),.imm (.int .i64 0),.imm (.str []),.nils,.imm (.int .i64 0),.imm (.int .i64 0),.imm (.str []),.nils,.nils]⟩),
 (109,⟨.ptr 177,false,1,8,[.imm .nilp]⟩),
 (174,⟨.sl 150,false,1,24,[.nils]⟩),
 (175,⟨.sl 109,false,1,24,[.nils]⟩),
 (107,⟨.struct [(0,35),(4,4)],true,5,64,[.imm (.int .i64 0),.imm (.int .i64 0),.imm (.str []),.nils,.imm (.bool false)]⟩),
 (170,⟨.struct [(0,39),(1,150)],true,4,56,[.nils,.imm (.int .i64 0),.imm (.int .i64 0),.imm (.str [])]⟩),
 (165,⟨.ptr 170,false,1,8,[.imm .nilp]⟩),
 (164,⟨.iface,false,1,16,[.imm .niliface]⟩),
 (111,⟨.sl 164,false,1,24,[.nils]⟩),
 (124,⟨.struct [(0,62)],true,4,56,[.imm (.int .i64 0),.imm (.int .i64 0),.imm (.str []),.nils]⟩),
 (182,⟨.struct [(0,62)],true,4,56,[.imm (.int .i64 0),.imm (.int .i64 0),.imm (.str []),.nils]⟩),
 (68,⟨.struct [(0,3),(1,39),(2,33),(3,66)],true,4,80,[.imm (.int .i64 0),.nils,.nils,.nils]⟩),
 (66,⟨.sl 68,false,1,24,[.nils]⟩),
 (136,⟨.struct [(0,102),(1,3)],true,2,16,[.imm .nilp,.imm (.int .i64 0)]⟩),
 (134,⟨.ptr 136,false,1,8,[.imm .nilp]⟩),
 (122,⟨.struct [(0,26),(4,33),(5,35),(9,120)],true,10,160,[.imm (.int .i64 0),.imm (.int .i64 0),.imm (.str []),.nils,.nils,.imm (.int .i64 0),.imm (.int .i64 0),.imm (.str []),.nils,.nils]⟩),
 (120,⟨.sl 122,false,1,24,[.nils]⟩),
 (46,⟨.struct [(0,4),(1,35)],true,5,64,[.imm (.bool false),.imm (.int .i64 0),.imm (.int .i64 0),.imm (.str []),.nils]⟩),
 (273,⟨.func,false,1,8,[.imm .nilfn]⟩)]
theorem Ah:TTok Tryz.prog eB:=.of_eq (l:=[4,3,9,186,26,62,183,27,5,24,23,193,184,60,188,192,90,22,190,87,85,36,35,32,33,29,55,101,181,150,221,178,179,39,102,114,250,207,155,177,109,174,175,107,170,165,164,111,124,182,68,66,136,134,122,120,46,273]) (by kernel_rfl)
section
variable {n:Nat} {F:List Nat} {Q:DQ} {env env':Env} {st st':St} {ids ids':List Nat} {k todo:List DI} {ob:List Prop}
theorem md (path:List Pt) (h:run eB n 300 path todo env st ids [] = .at k env' st' ids' ob) (hob:A7 ob) (hd:G Tryz.prog n F Q k env' st' ids'):DGo Tryz.prog n F Q todo env st ids:=Kb Ah Eb 300 path h hob hd
theorem mg (path:List Pt) (h:run eB n 300 path todo env st ids [] = .at k env' st' ids' ob) (hob:A7 ob) (hd:G Tryz.prog n F Q k env' st' ids'):G Tryz.prog n F Q todo env st ids:=IZ Ah Eb 300 path h hob hd
theorem iN (f:Nat) (h:run eB n f [] todo env st ids [] = .at k env' st' ids' ob) (hob:A7 ob) (hd:G Tryz.prog n F Q k env' st' ids'):DGo Tryz.prog n F Q todo env st ids:=Kb Ah Eb f [] h hob hd
theorem jL (f:Nat) (h:run eB n f [] todo env st ids [] = .at k env' st' ids' ob) (hob:A7 ob) (hd:G Tryz.prog n F Q k env' st' ids'):G Tryz.prog n F Q todo env st ids:=IZ Ah Eb f [] h hob hd
theorem mi {es:List (List V)} {m:Int} {sz:Nat} {e:TypeId} {g:Option (Bool×Bool)} {ob:List Prop} {t:Nat} {todo':List DI} {c:List V} (h:NG eB n env todo=some ⟨es,m,sz,e,g,ob,some t,todo'⟩)
  (hc:Ag g->0<=m/\es[m.toNat]?=some c/\c.length=sz) (hob:A7 ob) (hk:G Tryz.prog n F Q todo' ((t,gD g (.ip e c 0))::env) st ids):G Tryz.prog n F Q todo env st ids:=Fr Ah h hc hob hk
end
def Ba:Ty->Int
 | .mk f _ _ _=>f
def E4:Ty->Str
 | .mk _ _ x _=>x
def zT:Ty:=.mk 0 0 [] []
inductive Mi where
 | mk (ty:Ty) (nt:List Ty) (hd:Ty) (ks:List Mi)
def Mi.ty:Mi->Ty
 | .mk t _ _ _=>t
def Mi.nt:Mi->List Ty
 | .mk _ n _ _=>n
def Mi.hd:Mi->Ty
 | .mk _ _ h _=>h
def Mi.ks:Mi->List Mi
 | .mk _ _ _ k=>k
def As (t:Ty):Mi:=.mk t [] zT []
def A9 (ds:List Dt):Ty->List Ty
 | .mk so _ x _=>if so=2 then [.mk 2 0 [] [],.mk 2 1 [] []] else if so=3 then [.mk 3 0 [] []] else if so=8 then (match ds[(AP x 0 ds).toNat]? with
  | some d=>d.cons.map λc=>.mk 4 0 c.name []
  | none=>[]) else []
def B1 (l:List Ty) (h:Ty):Bool:=l.any λx=>AK x h
def AY (ds:List Dt) (m:Mi) (h:Ty):Mi:=.mk m.ty [] h ((Bj ds m.ty (E4 h)).1.map As)
def IP (ds:List Dt) (m:Mi):List Ty:=(A9 ds m.ty).filter λh=>!B1 m.nt h
def Af (ds:List Dt) (m:Mi):Mi:=if Ba m.hd≠0 then m else match IP ds m with
 | [h]=>AY ds m h
 | _=>m
def AH (ds:List Dt):Mi->List Int->Ty->Bool->Mi
 | m,[],h,true=>AY ds m h
 | m,[],h,false=>.mk m.ty (m.nt++[h]) m.hd m.ks
 | m,i::p,h,is=>match (Af ds m).ks[i.toNat]? with
  | some k=>.mk (Af ds m).ty (Af ds m).nt (Af ds m).hd ((Af ds m).ks.set i.toNat (AH ds k p h is))
  | none=>m
mutual
def A0 (ds:List Dt):Ty->Mi->Int×List Int×Ty
 | .mk f n x ps,m=>if f=1\/f=2 then (1,[],zT) else
  if Ba (Af ds m).hd=0/\B1 (Af ds m).nt (AJ (.mk f n x ps))=false then (2,[],AJ (.mk f n x ps)) else
  if Ba (Af ds m).hd=0\/AK (Af ds m).hd (AJ (.mk f n x ps))=false then (0,[],zT) else B8 ds 0 ps (Af ds m).ks
def B8 (ds:List Dt):Int->List Ty->List Mi->Int×List Int×Ty
 | _,[],_=>(1,[],zT)
 | _,_::_,[]=>(1,[],zT)
 | i,p::r,k::ks=>if (A0 ds p k).1=1 then B8 ds (i+1) r ks else ((A0 ds p k).1,i::(A0 ds p k).2.1,(A0 ds p k).2.2)
end
def Ng (nt:List Ty):Nat->Int->Ty
 | 0,i=>.mk 1 i [] []
 | f+1,i=>if B1 nt (.mk 1 i [] [])=false then .mk 1 i [] [] else if B1 nt (.mk 1 (0-i) [] [])=false then .mk 1 (0-i) [] [] else Ng nt f (i+1)
def Cy (nt:List Ty):Ty:=Ng nt nt.length 0
def Bl (ds:List Dt) (m:Mi) (h:Ty):Int:=if Ba h=4 then AA ds (Ds ds) 1 (Bj ds m.ty (E4 h)).1 else 1
def D2:Option (Ty×Int)->Int->Bool
 | none,_=>true
 | some p,n=>decide (n<p.2)
def Cb (ds:List Dt) (m:Mi):Option (Ty×Int)->List Ty->Option (Ty×Int)
 | b,[]=>b
 | b,h::r=>Cb ds m (if 0<Bl ds m h/\B1 m.nt h=false/\D2 b (Bl ds m h)=true then some (h,Bl ds m h) else b) r
def A8 (ds:List Dt) (m:Mi):Option Ty:=(Cb ds m none (A9 ds m.ty)).map (·.1)
def B4 (g:Mi->Option (Option Ty)):List Mi->Option (Option (List Ty))
 | []=>some (some [])
 | k::r=>match g k with
  | none=>none
  | some none=>some none
  | some (some v)=>match B4 g r with
   | none=>none
   | some none=>some none
   | some (some vs)=>some (some (v::vs))
def DT:Ty->List Ty->Ty
 | .mk a b c _,l=>.mk a b c l
def Bc (ds:List Dt):Nat->Mi->Option (Option Ty)
 | 0,_=>none
 | f+1,m=>if Ba m.hd=0 then
   (if Ba m.ty=1 then some (some (Cy m.nt)) else
   if Ba m.ty=4\/Ba m.ty=5\/Ba m.ty=6\/Ba m.ty=7 then some (some (.mk 5 0 [] [])) else
   match A8 ds m with
   | none=>some none
   | some h=>(B4 (Bc ds f) (AY ds m h).ks).map (·.map (DT h)))
  else (B4 (Bc ds f) m.ks).map (·.map (DT m.hd))
def EA (n:Int):Int:=if 0<n then 2*n-1 else -2*n
mutual
def Et (ds:List Dt):Ty->Ty->Int
 | .mk f n x ps,.mk _ n' x' ps'=>if f=1 then EA n-EA n' else if f=2 then n-n' else if f=4 then (if (CH ds x).2-(CH ds x').2≠0 then (CH ds x).2-(CH ds x').2 else Dw ds ps ps') else 0
def Dw (ds:List Dt):List Ty->List Ty->Int
 | [],_=>0
 | _::_,[]=>0
 | p::r,q::s=>if Et ds p q≠0 then Et ds p q else Dw ds r s
end
def JK (ds:List Dt) (a b:Ty):Bool:=if An a=An b then decide (Et ds a b<0) else decide (An a<An b)
def Gj (ds:List Dt):Option Ty->Option Ty->Option Ty
 | none,b=>b
 | some a,none=>some a
 | some a,some b=>if JK ds b a then some b else some a
def bN (ds:List Dt) (m:Mi):Option (Option Ty):=Bc ds 1000 m
def gC (ds:List Dt):Option (Option Ty)->Option (Option Ty)->Option (Option Ty)
 | some a,some b=>some (Gj ds a b)
 | _,_=>none
def Du (ds:List Dt):Nat->Mi->List (Ty×Int)->Option (Option Ty)
 | 0,_,_=>none
 | _+1,m,[]=>bN ds m
 | f+1,m,(p,b)::r=>if (A0 ds p m).1=2 then gC ds (Du ds f (AH ds m (A0 ds p m).2.1 (A0 ds p m).2.2 true) ((p,b)::r)) (Du ds f (AH ds m (A0 ds p m).2.1 (A0 ds p m).2.2 false) ((p,b)::r)) else
  if (A0 ds p m).1=b then Du ds f m r else some none
end Go.Hk
