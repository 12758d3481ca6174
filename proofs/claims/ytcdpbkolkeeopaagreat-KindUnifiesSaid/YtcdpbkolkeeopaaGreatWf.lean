/- hearthlaw03.KindUnifies returns true for all its arguments, and changes nothing: the most general solution of two types, and instances. No condition. (And what it stands on.) -/
import Derived.Test.YtcdpbkolkeeopaaGreatWe
import Derived.Test.YtcdpbkolkeeopaaGreatWd
import Derived.Test.YtcdpbkolkeeopaaGreatWb
import Derived.Maps.RangeRun
import Derived.Test.YtcdpbkolkeeopaaGreatWc
import Derived.Laws.StructEq
import Derived.WideLaws
import Derived.Laws.Entries
import Derived.Below
import Derived.ChangeSame
import Derived.ChangeOld
import Derived.Carry
import Derived.ChangeArms
import Derived.DataReads
import Derived.WideKeyArgs
import Derived.OpenShut
import Derived.RowKit
import Derived.ProofKit
import Derived.Test.YtcdpbkolkeeopaaGreatRows
import Derived.WalkKit
set_option linter.defProp false
set_option linter.unnecessarySimpa false
set_option linter.unusedSimpArgs false
set_option linter.unusedVariables false

set_option maxRecDepth 100000
set_option maxHeartbeats 4000000
namespace Go.Hk
open Go.Proofs
theorem QO {I:Imm} {w:World} {vs:List Value} {bs:List Nat} (h:(vF (.sl [])).P vs I w bs):(Ln []).P vs I w bs:=by
 obtain ⟨rfl,v,rfl,h1,h2⟩:=h;refine ST (λ_=>⟨v,rfl,rfl,?_,?_⟩) (λh=>absurd rfl h)
 ·obtain ⟨ad,len,cap,rfl,_,rfl⟩:=Pr h1;exact ⟨_,_,rfl⟩
 ·intro J;cases h1 with
  | slnil=>exact .slnil
  | sl0 a=>exact .sl0 a
  | sl b o len cap sz es vs hl hc hm _ _ _=>exact .sl b o len cap sz [] vs hl hc hm (λe he=>by cases he) (λi e j x hi=>by simp at hi) (λi e j x hi=>by simp at hi)
theorem Zd {I:Imm} {w:World} {vs:List Value} {bs:List Nat} {es:List (List V)} (hne:es≠[]) (h:(uX 25 4 es).P vs I w bs):(Ln es).P vs I w bs:=by
 obtain ⟨v,rfl,⟨_,h0,_⟩ | ⟨b,cap,cur,rfl,rfl,h1,h2,h3,h4,h5,h6,h7,h8⟩⟩:=h
 ·exact absurd h0 hne
 refine ST (λh=>absurd h hne) (λ_=>⟨b,cap,cur,rfl,rfl,h1,h2,h3,h4,λj e hj=>?_⟩);have he:=h6 e (AF hj);have hlt:=(AJ.1 hj).1;have hget:∀i,i<4->∃c x,cur.toList[j*4+i]?=some c/\e[i]?=some x/\RepV I c x/\c.oneCell'=true:=by
  intro i hi;obtain ⟨x,hx⟩:∃x,e[i]?=some x:=⟨_,Bi (by omega)⟩
  have hf:=Cu h6 j e i x hj hx;obtain ⟨c,hc⟩:∃c,cur.toList[j*4+i]?=some c:=⟨_,Bi (by simp;omega)⟩
  have hr:=h5.2 (j*4+i) c x (by rw [Dr,if_pos (by omega)];exact hc) hf;exact ⟨c,x,hc,hx,hr,hr.one (h7 e (AF hj) x (AF hx))⟩
 refine ⟨(cur.toList.drop (j*4)).take 4,λi c hc=>?_,⟨?_,λi c x hc hx=>?_⟩,λc hc=>?_,he⟩
 ·rw [Dr] at hc
  split at hc
  ·rw [EB] at hc;simpa using hc
  ·cases hc
 ·rw [Gx,IN,he];simp;omega
 ·rw [Dr] at hc
  split at hc
  ·rename_i hi;rw [EB] at hc;obtain ⟨c',x',k1,k2,k3,_⟩:=hget i hi;rw [k1] at hc;cases hc;rw [k2] at hx;cases hx;exact k3
  ·cases hc
 ·obtain ⟨i,hi⟩:=HX hc;rw [Dr] at hi
  split at hi
  ·rename_i hl;rw [EB] at hi;obtain ⟨c',x',k1,_,_,k4⟩:=hget i hl;rw [k1] at hi;cases hi;exact k4
  ·cases hi
theorem YJ (es:List (List V)) (hs:∀c∈es,c.length=4) (hlen:es.length<=1000000) :
  AK Tryz.prog 138 [.imm (.sl es)] [] (.ret (.hv 1 0) [(1,some (.hp (Ln es)))]):=by
 cases es with
 | nil =>
  refine Ac Ah Tryz.func138 (by decide +kernel) rfl [1] rfl rfl <| Ai rfl <| Kd Ah rfl λb hb=>?_;cases b with
  | true =>
   exact yd [.a] rfl (by simp) <| Oc (x:=.sl []) 2 1 rfl rfl rfl <| IG 1 (λ_:Unit=>Ln []) rfl (λvs I w bs h=>⟨(),QO h⟩) λ_=>Ag ⟨_,AD⟩
  | false =>
   exact yd [.a] rfl (by simp) <| SD Ah rfl <| Ai rfl <| Oc (x:=.sl []) 2 1 rfl rfl rfl <| IG 1 (λ_:Unit=>Ln []) rfl (λvs I w bs h=>⟨(),QO h⟩) λ_=>Ag ⟨_,AD⟩
 | cons e r =>
  refine Ac Ah Tryz.func138 (by decide +kernel) rfl [2,1] rfl rfl <| Ai rfl <| Kd Ah rfl λb hb=>?_;have hb:b=false:=hb (by simp);subst hb;exact yd [.a] rfl (by simp) <| B4 Ah rfl ⟨hs,by simp only [maxLen,BX] at *;omega,by simp only [BX] at *;omega,λc hc=>by simp at hc,by simp⟩ <| Ai rfl <| Wx 2 2 1 rfl rfl <| IG 1 (λ_:Unit=>Ln (e::r)) rfl (λvs I w bs h=>⟨(),Zd (by simp) h⟩) λ_=>Ag ⟨_,AD⟩
def uY (v:Value) (gs:List Tr) (i:Nat) (f n:Int) (x:Str) (ps:List Ty):Asn where
 P:=λ_ I w bs=>∃u ks,Ie ks ps/\(Fa v (gs.set i (.nd f n x u ks))).P [] I w bs
 mono:=λh ⟨u,ks,h1,h3⟩=>⟨u,ks,h1,(Fa v (gs.set i (.nd f n x u ks))).mono h h3⟩
 loc:=λh ⟨u,ks,h1,h3⟩=>⟨u,ks,h1,(Fa v (gs.set i (.nd f n x u ks))).loc h h3⟩
theorem P4 {v:Value} {gs:List Tr} {i:Nat} {g:Tr} {f n:Int} {x:Str} {ps:List Ty} {j:Nat} (hg:gs[i]?=some g) (h0:WT g=[]):Mw (Fa v gs) (IR ps) (uY v gs i f n x ps) j (Ff v) (i*4) [.imm (.int .i64 f),.imm (.int .i64 n),.imm (.str x),.hv j 0]:=by
 intro us vs I w b1 b2 h1 ⟨u,ks,k1,k2,k3⟩ hdis;subst k2;obtain ⟨q1,cur,q2,q3,bs,q4,q5⟩:=Xl (a:=.nd f n x u ks) h1 hg h0 ⟨k3.1,k3.2.1⟩ k3.2.2.1 k3.2.2.2 hdis;refine ⟨q1,cur,_,q2,q3,λcs hl hcs hone=>?_⟩;have e:cs=cT (.nd f n x u ks):=by
  match cs,hl with
  | [c0,c1,c2,c3],_ =>
   have e0:=(show RepD I noMu _ (.imm _) from hcs 0 _ _ rfl rfl).immInv.intInv;have e1:=(show RepD I noMu _ (.imm _) from hcs 1 _ _ rfl rfl).immInv.intInv;have e2:=(show RepD I noMu _ (.imm _) from hcs 2 _ _ rfl rfl).immInv.strEq;have e3:j=j/\[u][0]?=some c3:=hcs 3 _ _ rfl rfl;have e3:=e3.2;simp at e3;rw [e0,e1,e2,e3];rfl
 rw [e];exact ⟨bs,q4,u,ks,k1,q5⟩
theorem Qg:∀t:Ty,Cl t=true->AK Tryz.prog 82 [.imm (.agg (dTyc t))] [] (.ret (.agg [.imm (.int .i64 (BA t)),.imm (.int .i64 (num t)),.imm (.str (Ky t)),.hv 1 0]) [(1,some (.hp (IR (DZ t))))])
 | .mk f n x ps,hw=>by
  have hl3:=Gm hw;simp only [DZ] at hl3;have IH:∀t∈ps,AK Tryz.prog 82 [.imm (.agg (dTyc t))] [] (.ret (.agg [.imm (.int .i64 (BA t)),.imm (.int .i64 (num t)),.imm (.str (Ky t)),.hv 1 0]) [(1,some (.hp (IR (DZ t))))]):=λt ht=>Qg t (DB hw t (by simpa [DZ] using ht))
  refine Ac Ah Tryz.func82 (by decide +kernel) rfl [2,3,4,5,1,6,7,8] rfl rfl <| Ai rfl <| Ad (fr:=[4]) [] [(1,4)] rfl (by simp) (YJ (A2 ps) (λc hc=>by rw [Ck] at hc;obtain ⟨p,_,rfl⟩:=Cc.1 hc;simp) (by simp;omega)) trivial rfl rfl rfl rfl <| yg [] rfl (by simp <;> rfl) <| Q9 (ids':=[1,6,7,8]) 4 5 (λx:(Option Addr×Nat)×{ css:List (List Value) // css.length=(A2 ps).length }=>[.slice x.1.1 ps.length x.1.2]) (λx=>Fa (.slice x.1.1 ps.length x.1.2) (Qo x.2.1 (A2 ps))) rfl (λvs I w bs h=>?_) λy=>?_
  ·obtain ⟨v,css,h1,h2,h3⟩:=h;have hlen:(Qo css (A2 ps)).length=ps.length:=by rw [I8 h1];simp
   obtain ⟨a,cap,e1,_⟩:=L3 h3;rw [hlen] at e1;subst e1;exact ⟨((a,cap),⟨css,h1⟩),h2,h3⟩
  obtain ⟨⟨ad,cap⟩,⟨css,hcss⟩⟩:=y;have hlen0:(Qo css (A2 ps)).length=ps.length:=by rw [I8 hcss];simp
  have him0:∀(j:Nat) (p:Ty),ps[j]?=some p->∃cs,(Qo css (A2 ps))[j]?=some (.im cs (dTyc p)):=λj p hp=>by
   have hlt:=(AJ.1 hp).1;have hc:=Bi (l:=css) (i:=j) (by rw [hcss];simpa using hlt);exact ⟨_,by rw [ZW hcss,hc,A8 hp]⟩
  refine Aq rfl <| Ak (λy:Nat×List Tr=>[(12,.imm (.int .i64 y.1)),(11,.imm (.int .i64 ps.length)),(10,.raw (.slice ad ps.length cap)),(1,.ref 2 0),(2,.ref 3 0)])
   (λy=>[(2,some (.cells 25 4 [.imm (.int .i64 f),.imm (.int .i64 n),.imm (.str x),.raw (.slice ad ps.length cap)])),(3,some (.cells 25 4 [.imm (.int .i64 0),.imm (.int .i64 0),.imm (.str []),.nils])),
    (5,some (.hp (Fa (.slice ad ps.length cap) y.2)))]) [1,6,7,8] (λy=>ps.length-y.1) (λy=>y.1<=ps.length/\y.2.length=ps.length/\(∀(j:Nat) a p,j<y.1->y.2[j]?=some a->ps[j]?=some p->VL a p)/\(∀(j:Nat) p,y.1<=j->ps[j]?=some p->∃cs,y.2[j]?=some (.im cs (dTyc p)))) (0,Qo css (A2 ps))
   ⟨AL _,hlen0,λj a p h=>by omega,λj p _ hp=>him0 j p hp⟩ Bx AD rfl λy hi ih=>?_
  clear hlen0 him0;obtain ⟨i,gs⟩:=y;obtain ⟨hi1,hi2,hi3,hi4⟩:=hi;simp only at hi1 hi2 hi3 hi4;refine Aq rfl <| Aa rfl (λh=>?_) (λh=>?_)
  ·simp at h;obtain ⟨k,hk⟩:=Ao h;obtain ⟨cs,hgi⟩:=hi4 i k (B8 _) hk;refine IG 5 (λ_:{ b:Nat // ad=some ⟨b,0,none⟩ }=>Fa (.slice ad ps.length cap) gs) rfl (λvs I w bs h'=>?_) λz=>?_
   ·obtain ⟨a,cap',e1,e2⟩:=L3 h';simp only [Value.slice.injEq] at e1;obtain ⟨b,hb⟩:=e2 (by rw [hi2];omega);exact ⟨⟨b,by rw [e1.1,hb]⟩,h'⟩
   obtain ⟨b,rfl⟩:=z;have hC:=IH k (AF hk);obtain ⟨kf,kn,kx,kp⟩:=k;refine Aq rfl <| Me Ah rfl rfl (λ_=>⟨by simp,by simp;omega⟩) (by simp) <| Ai rfl <| aD Ah 5 ((dTyc (.mk kf kn kx kp)).map .imm) rfl rfl (λ_ vs I w bs h'=>by have:=Xn h' hgi;simpa [Ff] using this) rfl rfl (by simp) <| Ai rfl <| A4 (fr:=[6]) [] [(1,6)] [] (nm:=[6]) rfl trivial (by simp) hC trivial rfl trivial rfl rfl rfl <| Ai rfl <| Me Ah rfl rfl (λ_=>⟨by simp,by simp;omega⟩) (by simp) <| Ai rfl <| SC Ah 5 6 7 (uY (.slice (some ⟨b,0,none⟩) ps.length cap) gs i kf kn kx kp) rfl rfl rfl (by decide) (by
    have e:0+((i:Int)).toNat*4=i*4:=by simp
    show Mw _ _ _ 6 b (0+((i:Int)).toNat*4) _;rw [e];exact P4 hgi rfl) ?_
   refine yg [] rfl (by simp <;> rfl) <| IG 7 (λa:{ a:Tr // VL a (.mk kf kn kx kp) }=>Fa (.slice (some ⟨b,0,none⟩) ps.length cap) (gs.set i a.1)) rfl (λvs I w bs h'=>?_) λz=>?_
   ·obtain ⟨u,ks,h1,h2⟩:=h';exact ⟨⟨.nd kf kn kx u ks,by simpa [VL] using h1⟩,h2⟩
   obtain ⟨a,ha⟩:=z;refine AZ 5 7 rfl <| Ae (ih (i+1,gs.set i a) (by simp only;omega) ⟨by simp only;omega,by simpa using hi2,λj a' p hj ha' hp=>?_,λj p hj hp=>?_⟩) ⟨AA (Cb (by simp only;omega) (by simp only;omega)),BF⟩ AD rfl
   ·simp only at hj ha';by_cases e:i=j
    ·subst e;rw [K7 (by omega)] at ha';cases ha';rw [hk] at hp;cases hp;exact ha
    ·rw [K6 e] at ha';exact hi3 j a' p (by omega) ha' hp
   ·simp only at hj ⊢;rw [K6 (by omega)];exact hi4 j p (by omega) hp
  ·simp at h;have hl:i=ps.length:=by omega
   have his:Ie gs ps:=Id.2 ⟨hi2,λj a p ha hp=>hi3 j a p (by have:=(AJ.1 hp).1;omega) ha hp⟩;exact Aw rfl <| Aq rfl <| Nj 5 3 1 [.slice ad ps.length cap] (A:=IR ps) [.imm (.int .i64 f),.imm (.int .i64 n),.imm (.str x),.hv 1 0] rfl rfl (λus I w bs h=>⟨_,gs,his,rfl,h⟩) ⟨.inl rfl,.inl rfl,.inl rfl,.inr ⟨0,_,rfl,rfl,rfl⟩,trivial⟩ <| Ag ⟨_,AD⟩
termination_by t=>SizeOf.sizeOf t
decreasing_by
 all_goals
  have:=Cn ht;simp_wf;omega
end Go.Hk
namespace Go.Hk
section
variable {P:Program} {n:Nat} {F:List Nat} {Q:DQ} {env:Env} {st:St} {ids ids':List Nat} {todo:List DI}
end
end Go.Hk
namespace Go.Hk
section
variable {P:Program} {n:Nat} {F:List Nat} {Q:DQ} {tt:TT} {env env':Env} {st st':St} {ids ids':List Nat} {k todo todo':List DI} {I:Imm} {μ:Mu} {w:World} {a:Act} {Pn:V->Prop} {d:D} {cx:Prop} {ob:List Prop}
end
end Go.Hk
namespace Go.Hk
structure PMr where
 id:Nat
 kv:List (V×V)
 b:Nat
 es:Array MapEntry
 clock:Nat
 id':Nat
 ids':List Nat
 dst:Option Nat
 todo:List DI
def Z5 (tt:TT) (n:Nat) (env:Env) (st:St) (ids:List Nat) (todo:List DI):Option PMr :=
 match Ov todo,ids with
 | some o,id'::ids'=>match o.guard,o.op with
  | none,.range t x=>match lk tt t,DT env x with
   | some { sh:=.map _ _,.. },some (.mapr i)=>match lk st i,BB n o.dst,Bh todo ([i],[id']) with
    | some (some (.mapx kv b es clock)),true,some (_,_,todo')=>some ⟨i,kv,b,es,clock,id',ids',o.dst,todo'⟩
    | _,_,_=>none
   | _,_=>none
  | _,_=>none
 | _,_=>none
structure PMn where
 i:Nat
 kv:List (V×V)
 b:Nat
 b2:Nat
 es:Array MapEntry
 clock:Nat
 since:Nat
 seen:Array Nat
 c:Nat
 dst:Option Nat
 k:List DI
 all:List Oper
 rest:List Oper
def iM (n:Nat) (env:Env) (st:St) (m:Nat) (todo:List DI):Option PMn :=
 match todo with
 | .ops all (o::rest)::k=>match o.guard,o.op with
  | none,.next x false=>match DT env x,BB n o.dst,lk st m with
   | some (.iter i),true,some (some (.mapx kv b es clock))=>match lk st i with
    | some (some (.miter b' since seen c))=>some ⟨i,kv,b,b',es,clock,since,seen,c,o.dst,k,all,rest⟩
    | _=>none
   | _,_,_=>none
  | _,_=>none
 | _=>none
structure PMe where
 i:Nat
 kv:List (V×V)
 b:Nat
 b2:Nat
 es:Array MapEntry
 clock:Nat
 seen:Array Nat
 c:Nat
 dst:Option Nat
 todo:List DI
def Z6 (n:Nat) (env:Env) (st:St) (m:Nat) (todo:List DI):Option PMe :=
 match Ov todo with
 | some o=>match o.guard,o.op with
  | none,.entry x=>match DT env x,BB n o.dst,lk st m with
   | some (.iter i),true,some (some (.mapx kv b es clock))=>match lk st i,Bh todo ([i,m],[]) with
    | some (some (.miter b' _ seen c)),some (_,_,todo')=>some ⟨i,kv,b,b',es,clock,seen,c,o.dst,todo'⟩
    | _,_=>none
   | _,_,_=>none
  | _,_=>none
 | none=>none
section
variable {P:Program} {n:Nat} {F:List Nat} {Q:DQ} {tt:TT} {env env':Env} {st st':St} {ids ids':List Nat} {k todo todo':List DI} {I:Imm} {μ:Mu} {w:World} {a:Act} {Pn:V->Prop} {d:D} {cx:Prop} {ob:List Prop}
theorem qX {α:Type} {all rest:List Oper} {o:Oper} (d:α->D) (wr:α->St) (hg:o.guard=none) (hnd:∀c,o.op ≠ .defer c) (hn:BB n o.dst=true)
  (hl:∀I μ a w,StRep I μ st ids w->D6 I μ env a o.op->valX P ((execOp a.eval o).run P w) (λv w'=>∃x,∃I' μ',StRep I' μ' (wr x++st) ids w'/\RepD I' μ' v (d x)/\μ.le μ'/\Ext I μ st w I' μ' (wr x++st) w') (Ko (Kn Q) I μ st w))
  (h:∀x,DGo P n F Q (.ops all rest::k) (BD o.dst (d x) env) (wr x++st) ids):DGo P n F Q (.ops all (o::rest)::k) env st ids:=by
 have hn:∀t,o.dst=some t->t<n:=λt ht=>by
  unfold BB at hn;rw [ht] at hn;simpa [Ha] using hn
 intro b cs I μ a w items hd hc;obtain ⟨j,is,rfl,hr,hk⟩:=H9 hd;obtain ⟨hj,hr'⟩:=D9 hr;have hon:IQ (o.looksAt all.toArray) I μ env a:=λt _ d hl=>hc.env t d hl;have hlen:(o::rest).length=rest.length+1:=rfl;rw [hlen,NI];have hw:Region.wanted o (yielded all.toArray a.tmps)=true:=AG hg;refine Fq hj hw hnd (valX.upon ((hl I μ a w hc.toStRep (Bd hon)).mono ?_ ?_))
 ·rintro v w2 ⟨x,I',μ',q1,q2,q4,q3⟩;obtain ⟨p1,p2,p3⟩:=Hx (n:=n) (w:=w2) (dst:=o.dst) (λt d hl=>(hc.env t d hl).mono q3.imm q4) hc.size hn q2;have:=h x b cs I' μ' (a.put o.dst v) w2 (.inRegion all.toArray (List.range' (j+1) rest.length)::is) ⟨⟨rfl,j+1,hr',rfl⟩,hk⟩
   {q1 with size:=p2,env:=by cases hdst:o.dst <;> simpa [BD,hdst] using p1,defers:=by rw [p3];exact hc.defers.ext q3 }
  rw [p3] at this;exact this.mono λe a' w'' hp=>hp.back (.of_le q4) q3
 ·rintro chain w2 ⟨v,x,I2,q1,q2,q3,q4,q5⟩;refine ⟨.panic x,[],[],[],I2,μ,⟨v,q1,q3⟩,q2,?_,.refl _ _,q5,.refl _ _⟩;exact JD q4 hc.size (hc.defers.ext q5)
theorem StRep.retellAt {st1:St} (hst:StRep I μ st ids w) (h:∀i b,Az st1 i b->∃b0,Az st i b0/\∀g,μ i=some g->BlkRep I μ w g b0->BlkRep I μ w g b):StRep I μ st1 ids w/\Ext I μ st w I μ st1 w:=by
 refine ⟨{ imm:=hst.imm,blk:=λi b hl=>?_,apart:=λi b g k hl hg hk=>?_,inj:=λi j bi bj gi gj k hi hj=>?_,nodup:=hst.nodup,idsFree:=hst.idsFree },?_⟩
 ·obtain ⟨b0,h1,h2⟩:=h i b hl;obtain ⟨g,hg,hr⟩:=hst.blk i b0 h1;exact ⟨g,hg,h2 g hg hr⟩
 ·obtain ⟨b0,h1,_⟩:=h i b hl;exact hst.apart i b0 g k h1 hg hk
 ·obtain ⟨b0,h1,_⟩:=h i bi hi;obtain ⟨b1,h2,_⟩:=h j bj hj;exact hst.inj i j b0 b1 gi gj k h1 h2
 ·exact { imm:=Imm.le_refl I,os:=rfl,tape:=rfl,output:=rfl,size:=B8 _,block:=λ_ _ _=>rfl,old:=λ_ _ _=>rfl
          fresh:=λb _ ⟨i,bi,g,h1,h2⟩=>let ⟨b0,q,_⟩:=h i bi h1;⟨i,b0,g,q,h2⟩ }
theorem Il (id:Nat) {kv:List (V×V)} (hl:lk st id=some (some (.map kv)))
  (h:∀b es clock,es.size=kv.length->MapKept.Stamped es clock->DGo P n F Q todo env ((id,some (.mapx kv b es clock))::st) ids):DGo P n F Q todo env st ids:=by
 refine E2 λI μ a w hc=>?_;obtain ⟨g,hg,b,es,clock,rfl,h2,h3,h4,h5⟩:=hc.blk id _ hl;obtain ⟨q1,q2⟩:=hc.toStRep.retellAt (st1:=(id,some (.mapx kv b es clock))::st) λi c hlc=>by
  rcases A9.1 hlc with ⟨rfl,rfl⟩ | ⟨_,h⟩
  ·exact ⟨_,hl,λg' hg' _=>by rw [hg] at hg';cases hg';exact ⟨rfl,h2,h3,h4,h5⟩⟩
  ·exact ⟨c,h,λ_ _ h=>h⟩
 exact ⟨I,μ,env,_,ids,q1,hc.env,q2,.refl _ _,h b es clock h3 h4⟩
theorem Hg (id:Nat) {kv:List (V×V)} {b clock:Nat} {es:Array MapEntry} (hl:lk st id=some (some (.mapx kv b es clock)))
  (h:DGo P n F Q todo env ((id,some (.map kv))::st) ids):DGo P n F Q todo env st ids:=by
 refine E2 λI μ a w hc=>?_;obtain ⟨q1,q2⟩:=hc.toStRep.retellAt (st1:=(id,some (.map kv))::st) λi c hlc=>by
  rcases A9.1 hlc with ⟨rfl,rfl⟩ | ⟨_,h⟩
  ·exact ⟨_,hl,λg' hg' ⟨h1,h2,h3,h4,h5⟩=>⟨b,es,clock,h1,h2,h3,h4,h5⟩⟩
  ·exact ⟨c,h,λ_ _ h=>h⟩
 exact ⟨I,μ,env,_,ids,q1,hc.env,q2,.refl _ _,h⟩
theorem lZ (htt:TTok P tt) {i0:Nat} {kv:List (V×V)} {b:Nat} {es:Array MapEntry} {clock id0:Nat} {ids0:List Nat} {d0:Option Nat} {todo0:List DI} (h:Z5 tt n env st ids todo=some ⟨i0,kv,b,es,clock,id0,ids0,d0,todo0⟩)
  (hk:G P n F Q todo0 (BD d0 (.iter id0) env) ((id0,some (.miter b clock #[] clock))::st) ids0):G P n F Q todo env st ids:=by
 unfold Z5 at h
 split at h
 ·rename_i o id' ids' ho
  split at h
  ·rename_i t x hg hop
   split at h
   ·rename_i _ _ _ _ _ _ i ht hx
    split at h
    ·rename_i _ _ _ _ all o' todo' hl hd h1;cases h;have ho':o'=o:=Dc ho h1;subst ho';refine B9 (fr:=[id0]) (wr:=[(id0,some (.miter b clock #[] clock))]) (rd:=[i0]) h1 ?_ hd (λc hc=>by rw [hop] at hc;cases hc) hk;intro I μ st1 ids1 a w hag hst hon;refine ⟨λ_=>?_,λhw=>by rw [AG hg] at hw;cases hw⟩;have hops:=Bd hon;rw [hop] at hops;have hl1:Az st1 i0 (.mapx kv b es clock):=by unfold Az;rw [hag i0 (by simp)];exact hl
     obtain ⟨g,hgm,rfl,hheap,_⟩:=hst.blk i0 _ hl1;have hv:=hops x (by simp [Op.operands]) _ hx;have e1:a.eval x = .map (some b):=by
      generalize a.eval x=v at hv;cases hv with
      | mapr _ b' hm=>rw [hgm] at hm;cases hm;rfl
     have hu:=htt.sh ht;have hrun:(execOp a.eval o').run P w = .ok (.value (.pointer (some ⟨w.heap.size,0,none⟩))) (w.alloc (.mapIter (some b) clock #[] clock)):=by
      simp only [execOp,hop,e1];exact DE (run_range_map w _ _ _ b es clock hu hheap)
     rw [hrun];obtain ⟨μ',q1,q2,q3,q4⟩:=hst.allocO (.mapIter (some b) clock #[] clock) (.pointer (some ⟨w.heap.size,0,none⟩)) (λ_ h=>Eq.symm h) (.miter b clock #[] clock) (λμ' _=>⟨w.heap.size,rfl,Eh w _⟩);exact ⟨I,μ',q3,.iter _ _ q1,q2,q4⟩
    ·cases h
   ·cases h
  ·cases h
 ·cases h
theorem StRep.drew (hst:StRep I μ st ids w):StRep I μ st ids w.drew :=
 {imm:=hst.imm,blk:=λi b h=>let ⟨g,h1,h2⟩:=hst.blk i b h;⟨g,h1,h2.world λ_ _=>rfl⟩,apart:=hst.apart,inj:=hst.inj,nodup:=hst.nodup,idsFree:=hst.idsFree }
def nT (es:Array MapEntry) (seen:Array Nat):Option (Nat×MapEntry)->Prop
 | none=>(leftOf es seen).size=0
 | some (j,e)=>es[j]?=some e/\e∈(leftOf es seen).toList
def Vr (kv:List (V×V)):Option (Nat×MapEntry)->D
 | none=>.imm (.tup [.bool false])
 | some (j,_)=>match kv[j]? with
  | some p=>.imm (.tup [.bool true,p.1,p.2])
  | none=>.undef
def sF (i b since:Nat) (seen:Array Nat) (clock:Nat):Option (Nat×MapEntry)->St
 | none=>[]
 | some (_,e)=>[(i,some (.miter b since (seen.push e.born) clock))]
theorem qI (m:Nat) {i:Nat} {kv:List (V×V)} {b:Nat} {es:Array MapEntry} {clock since:Nat} {seen:Array Nat} {c:Nat} {d0:Option Nat} {k0:List DI} {all rest:List Oper} {b0:Nat} (h:iM n env st m todo=some ⟨i,kv,b,b0,es,clock,since,seen,c,d0,k0,all,rest⟩) (hbb:b0=b)
  (hold:∀x∈es.toList,x.born<since) (hsc:since<=c) (hne:i≠m)
  (hk:∀x,nT es seen x->DGo P n F Q (.ops all rest::k0) (BD d0 (Vr kv x) env) (sF i b since seen clock x++st) ids):DGo P n F Q todo env st ids:=by
 unfold iM at h
 split at h
 ·rename_i all' o rest' k'
  split at h
  ·rename_i x hg hop
   split at h
   ·rename_i i' kv' b1 es' clock' hx hd hm
    split at h
    ·rename_i b2 since' seen' c' hi
     ·cases h;subst hbb;refine qX (α:={ x:Option (Nat×MapEntry) // nT es seen x }) (λx=>Vr kv x.1) (λx=>sF i b0 since seen clock x.1) hg (λc hc=>by rw [hop] at hc;cases hc) hd (λI μ a w hst hops=>?_) λx=>hk x.1 x.2;rw [hop] at hops;obtain ⟨gm,hgm,rfl,hheap,hlen,hst2,hent⟩:=hst.blk m _ hm;obtain ⟨gi,hgi,r,rfl,hheapi⟩:=hst.blk i _ hi;obtain ⟨r',_,hmi⟩:=(hops x (by simp [Op.operands]) _ hx).iterInv;rw [hgi] at hmi;have e1:a.eval x = .pointer (some ⟨r,0,none⟩):=(NK hmi).symm;have hex:∀v w',(Instr.next (.pointer (some ⟨r,0,none⟩)) false o.type).run P w = .ok v w'->(execOp a.eval o).run P w = .ok (.value v) w':=λv w' hr=>by
       simp only [execOp,hop,e1];exact DE hr
      rcases run_next_at w o.type r b0 since c seen es clock hheapi hheap hold hsc with ⟨h0,hr⟩ | ⟨e,he,w1,hw1,hr⟩
      ·rw [hex _ _ hr];refine ⟨⟨none,h0⟩,I,μ,hst,.imm _ _ (.tup _ _ rfl λi c x hc hx=>?_),Mu.le_refl μ,Ext.refl _ _ _ _⟩
       match i,hc,hx with
       | 0,hc,hx=>cases hc;cases hx;exact .bool _
       | i+1,hc,hx=>simp at hx
      ·rw [hex _ _ hr];obtain ⟨he1,_⟩:=mem_left he;obtain ⟨j,hj⟩:=HX he1;have hj':es[j]?=some e:=by simpa using hj
       obtain ⟨p,hp⟩:∃p,kv[j]?=some p:=⟨_,Bi (by rw [<- hlen];exact (Gu.1 hj').1)⟩
       obtain ⟨k1,k2⟩:=hent j e p hj' hp;have hst1:StRep I μ st ids w1/\Ext I μ st w I μ st w1:=by
        rcases hw1 with rfl | rfl
        ·exact ⟨hst,Ext.refl _ _ _ _⟩
        ·exact ⟨hst.drew,Ext.drew I μ st w⟩
       have hheap1:w1.heap[r]?=some (.mapIter (some b0) since seen c):=by rcases hw1 with rfl | rfl <;> exact hheapi
       have hbl:=BN hheap1;obtain ⟨q1,q2⟩:=hst1.1.update (blk':=.miter b0 since (seen.push e.born) clock) (w':=ChangeMaps.setBlock w1 r (.mapIter (some b0) since (seen.push e.born) clock)) hi hgi rfl (by simp [ChangeMaps.setBlock]) rfl rfl rfl
        (λk hk=>F8 (Ne.symm hk)) ⟨r,rfl,by simp [ChangeMaps.setBlock,hbl]⟩
       refine ⟨⟨some (j,e),hj',he⟩,I,μ,q1,?_,Mu.le_refl μ,hst1.2.trans q2⟩;simp only [Vr,hp];refine .imm _ _ (.tup _ _ rfl λi c x hc hx=>?_)
       match i,hc,hx with
       | 0,hc,hx=>cases hc;cases hx;exact .bool _
       | 1,hc,hx=>cases hc;cases hx;exact k1
       | 2,hc,hx=>cases hc;cases hx;exact k2
       | i+3,hc,hx=>simp at hx
    ·cases h
   ·cases h
  ·cases h
 ·cases h
theorem mA (m:Nat) {i:Nat} {kv:List (V×V)} {es:Array MapEntry} {seen0:Array Nat} {d0:Option Nat} {todo0:List DI} {seen:Array Nat} {j:Nat} {e:MapEntry} {p:V×V} {b b0 clock c:Nat} (h:Z6 n env st m todo=some ⟨i,kv,b,b0,es,clock,seen0,c,d0,todo0⟩) (hbb:b0=b) (hcc:c=clock)
  (hs:seen0=seen.push e.born) (hj:es[j]?=some e) (hp:kv[j]?=some p) (hk:G P n F Q todo0 (BD d0 (.imm (.tup [p.1,p.2])) env) st ids):G P n F Q todo env st ids:=by
 unfold Z6 at h
 split at h
 ·rename_i o ho
  split at h
  ·rename_i x hg hop
   split at h
   ·rename_i i' kv' b1 es' clock' hx hd hm
    split at h
    ·rename_i b2 since' seen' c' all o' todo' hi h1
     ·cases h;subst hbb;subst hcc;subst hs;have ho':o'=o:=Dc ho h1;subst ho';refine B9 (fr:=[]) (wr:=[]) (rd:=[i,m]) h1 ?_ hd (λc hc=>by rw [hop] at hc;cases hc) hk;intro I μ st1 ids1 a w hag hst hon;refine ⟨λ_=>?_,λhw=>by rw [AG hg] at hw;cases hw⟩;have hops:=Bd hon;rw [hop] at hops;have hm1:Az st1 m (.mapx kv b0 es c):=by unfold Az;rw [hag m (by simp)];exact hm
      have hi1:Az st1 i (.miter b0 since' (seen.push e.born) c):=by unfold Az;rw [hag i (by simp)];exact hi
      obtain ⟨gm,hgm,rfl,hheap,hlen,hst2,hent⟩:=hst.blk m _ hm1;obtain ⟨gi,hgi,r,rfl,hheapi⟩:=hst.blk i _ hi1;obtain ⟨r',_,hmi⟩:=(hops x (by simp [Op.operands]) _ hx).iterInv;rw [hgi] at hmi;have e1:a.eval x = .pointer (some ⟨r,0,none⟩):=(NK hmi).symm;have he:e∈es.toList:=AF (by simpa using hj:es.toList[j]?=some e);have hrun:(execOp a.eval o').run P w = .ok (.value (.tuple #[e.key,e.val])) w:=by
       simp only [execOp,hop,e1];exact DE (run_entry_at w r b0 since' seen es c e hheapi hheap he hst2.2.1)
      rw [hrun];obtain ⟨k1,k2⟩:=hent j e p hj hp;refine ⟨I,μ,hst,.imm _ _ (.tup _ _ rfl λi c x hc hx=>?_),Mu.le_refl μ,Ext.refl _ _ _ _⟩
      match i,hc,hx with
      | 0,hc,hx=>cases hc;cases hx;exact k1
      | 1,hc,hx=>cases hc;cases hx;exact k2
      | i+2,hc,hx=>simp at hx
    ·cases h
   ·cases h
  ·cases h
 ·cases h
end
end Go.Hk
namespace Go.Hk
open Go.MapKept
structure PMt where
 id:Nat
 kv:List (V×V)
 b:Nat
 es:Array MapEntry
 clock:Nat
 kind:IntKind
 key:Int
 et:TypeId
 dst:Option Nat
 todo:List DI
def Z7 (tt:TT) (n:Nat) (env:Env) (st:St) (todo:List DI):Option PMt :=
 match Ov todo with
 | some o=>match o.guard,o.op with
  | none,.mapEntry t m k=>match lk tt t,DT env m,DT env k with
   | some { sh:=.map kt et,.. },some (.mapr id),some (.imm (.int ik i))=>match lk tt kt,lk st id,Bh todo ([id],[id]),BB n o.dst with
    | some { sh:=.int ik',.. },some (some (.mapx kv b es clock)),some (_,_,todo'),true=>bif decide (ik'=ik) then some ⟨id,kv,b,es,clock,ik,i,et,o.dst,todo'⟩ else none
    | _,_,_,_=>none
   | _,_,_=>none
  | _,_=>none
 | none=>none
structure PMu where
 id:Nat
 kv:List (V×V)
 b:Nat
 es:Array MapEntry
 clock:Nat
 stamp:Int
 x:V
 todo:List DI
def rY (env:Env) (st:St) (todo:List DI):Option PMu :=
 match Ov todo with
 | some o=>match o.guard,o.op,o.dst with
  | none,.entryStore _ m s x,none=>match DT env m,DT env s,DT env x with
   | some (.mapr id),some (.imm (.int _ i)),some (.imm vx)=>match lk st id,Bh todo ([id],[id]) with
    | some (some (.mapx kv b es clock)),some (_,_,todo')=>some ⟨id,kv,b,es,clock,i,vx,todo'⟩
    | _,_=>none
   | _,_,_=>none
  | _,_,_=>none
 | none=>none
def Nw:V->Value
 | .int k i=>.int k i
 | .bool b=>.bool b
 | _=>undef
def tK:V->Bool
 | .int _ _=>true
 | .bool _=>true
 | _=>false
theorem bE {I:Imm} {x:V} (h:tK x=true):RepV I (Nw x) x:=by
 cases x <;> first | exact .int _ _ | exact .bool _ | cases h
theorem fY {I:Imm} {x:V} {v:Value} (h:tK x=true) (hv:RepV I v x):v=Nw x:=by
 cases x <;> first | (cases h;done) | (cases hv;rfl)
section
variable {P:Program} {n:Nat} {F:List Nat} {Q:DQ} {tt:TT} {env env':Env} {st st':St} {ids ids':List Nat} {k todo todo':List DI} {I:Imm} {μ:Mu} {w:World} {a:Act} {Pn:V->Prop} {d:D} {cx:Prop} {ob:List Prop}
theorem eO {l:List MapEntry} (hn:(l.map (·.born)).Nodup) {j:Nat} {e0:MapEntry} (h:l[j]?=some e0):l.findIdx? (λe=>((e.born:Nat):Int) == ((e0.born:Nat):Int))=some j:=by
 induction l generalizing j with
 | nil=>simp at h
 | cons a r ih =>
  simp only [Cz,K4] at hn;cases j with
  | zero =>
   simp only [sK,BT] at h;subst h;simp [List.findIdx?_cons]
  | succ j =>
   simp only [kL] at h;have hne:a.born≠e0.born:=λe1=>hn.1 (Cc.2 ⟨e0,AF h,e1.symm⟩);have hb:(((a.born:Nat):Int) == ((e0.born:Nat):Int))=false:=by
    simp only [beq_eq_false_iff_ne,ne_eq,Int.natCast_inj];exact hne
   rw [List.findIdx?_cons,hb];simp [ih hn.2 h]
theorem mF (xs:Array MapEntry) (p:MapEntry->Bool):xs.findIdx? p=xs.toList.findIdx? p:=by
 cases xs;simp
theorem eE {h:Array Obj} {b:Nat} {o:Obj} (hb:h[b]?=some o):h.setIfInBounds b o=h:=by
 apply XT;intro i;by_cases e:b=i
 ·subst e;have hlt:=(Gu.1 hb).1;rw [kA hlt,hb]
 ·rw [F8 e]
theorem aE (htt:TTok P tt) (j:Nat) {c:PMt} {e:MapEntry} {p:V×V} (h:Z7 tt n env st todo=some c) (hkv:∀p∈c.kv,GA (.int c.kind) p.1=true) (hj:c.es[j]?=some e) (hp:c.kv[j]?=some p) (hpk:p.1 = .int c.kind c.key)
  (hg:G P n F Q c.todo (BD c.dst (.imm (.tup [p.2,.int .i64 e.born])) env) ((c.id,some (.mapx c.kv c.b c.es c.clock))::st) ids):G P n F Q todo env st ids:=by
 unfold Z7 at h
 split at h
 ·rename_i o ho
  split at h
  ·rename_i t m x hgd hop
   split at h
   ·rename_i kt et _ _ _ _ id ik i ht hm hx
    split at h
    ·rename_i ik' _ _ _ _ kv b es clock all o' todo' hi hl h1 hdo;cases hik:decide (ik'=ik) with
     | false=>rw [hik] at h;cases h
     | true =>
     rw [hik] at h;simp only [cond_true,BT] at h;have hik:=of_decide_eq_true hik;subst hik;subst h;simp only at hkv hj hp hpk hg;have ho':o'=o:=Dc ho h1;subst ho';refine B9 (fr:=[]) (wr:=[(id,some (.mapx kv b es clock))]) (rd:=[id]) h1 ?_ hdo (λc hc=>by rw [hop] at hc;cases hc) hg;intro I μ st1 ids1 a w hag hst hon;refine ⟨λ_=>?_,λhw=>by rw [AG hgd] at hw;cases hw⟩;have hops:=Bd hon;rw [hop] at hops;have hl1:Az st1 id (.mapx kv b es clock):=by unfold Az;rw [hag id (by simp)];exact hl
     obtain ⟨g,hmu,rfl,hheap,hlen,hst2,hent⟩:=hst.blk id _ hl1;have e1:a.eval m = .map (some b):=by
      have:=hops m (by simp [Op.operands]) _ hm;generalize a.eval m=v at this;cases this with
      | mapr _ b' hmm=>rw [hmm] at hmu;exact NK hmu
     have rx:=(hops x (by simp [Op.operands]) _ hx).immInv;have ex:=rx.intInv;have hu:P.underlying t=some (.map kt et):=htt.sh ht;have hd:II (.int ik')=some (.int ik'):=rfl;have hkd:P.underlying kt=some (.int ik'):=Kf hd (htt.sh hi);have hkx:GA (.int ik') (.int ik' i)=true:=by simp [GA]
     have hiky:=GM hd hkx rx;rcases J7 (I:=I) hd hkx rx es.toList kv 0 (by simpa using hlen) (λj e p h1 h2=>hent j e p (by simpa using h1) h2) hkv with ⟨q1,_,q3,q4⟩ | ⟨j',e',y',q1,q2,q3,_,q5,q6⟩
     ·exfalso;have hk1:=(hent j e p hj hp).1;rw [hpk] at hk1;exact q4 e (by simpa using AF (by simpa using hj:es.toList[j]?=some e)) (by rw [hk1.intInv,ex])
     ·have hj':es[j']?=some e':=by simpa using q2
      have ejj:j'=j:=by
       have hk1:=(hent j e p hj hp).1;rw [hpk] at hk1;have hkk:e.key=e'.key:=by rw [hk1.intInv,q3,ex]
       have hnd:=hst2.2.2;have h1':(es.toList.map (·.key))[j]?=some e.key:=by rw [Eg];simp [hj]
       have h2':(es.toList.map (·.key))[j']?=some e'.key:=by rw [Eg];simp [hj']
       have l1:=(AJ.1 h1')
       have l2:=(AJ.1 h2')
       obtain ⟨l1,g1⟩:=l1;obtain ⟨l2,g2⟩:=l2;exact (List.getElem?_inj l2 hnd).1 (by rw [h1',h2',hkk])
      subst ejj;rw [hj'] at hj;cases hj;have hsame:es.modify j' (λe=>{ e with key:=a.eval x })=es:=by
       apply XT;intro i';rw [TM];by_cases e2:j'=i'
       ·subst e2;rw [if_pos rfl,hj'];simp [<- q3]
       ·rw [if_neg e2]
      have hrun:(execOp a.eval o').run P w = .ok (.value (.tuple #[e.val,goInt e.born])) w:=by
       simp only [execOp,hop,e1];refine DE ?_;simp [Instr.mapEntry,run_underlying hu,MapKept.run_getObj_map hheap,MapKept.run_checkKey hkd hiky,MapKept.run_findKey hkd q1,hj',q3,MapKept.run_keyThatStays hiky,MapKept.run_setObj_map _ hheap,Result.andThen,hsame,eE hheap]
      rw [hrun];obtain ⟨r1,r2⟩:=hst.update (blk':=.mapx kv b es clock) (w':=w) hl1 hmu rfl (by simp) rfl rfl rfl (λk hk=>rfl) ⟨rfl,hheap,hlen,hst2,hent⟩;have hv:=(hent j' e p hj' hp).2;refine ⟨I,μ,r1,.imm _ _ (.tup _ _ rfl λi c x hc hx=>?_),Mu.le_refl μ,r2⟩
      match i,hc,hx with
      | 0,hc,hx=>cases hc;cases hx;exact hv
      | 1,hc,hx=>cases hc;cases hx;exact .int _ _
      | i+2,hc,hx=>simp at hx
    ·cases h
   ·cases h
  ·cases h
 ·cases h
theorem aF (htt:TTok P tt) {c:PMt} {z:Value} {zd:V} (h:Z7 tt n env st todo=some c) (hkv:∀p∈c.kv,GA (.int c.kind) p.1=true) (hno:Ga c.kv (.int c.kind c.key)=none) (hz:(P.info? c.et).bind (·.zero)=some z) (hzr:∀I,RepV I z zd)
  (hg:G P n F Q c.todo (BD c.dst (.imm (.tup [zd,.int .i64 c.clock])) env) ((c.id,some (.mapx (c.kv++[(.int c.kind c.key,zd)]) c.b (c.es.push ⟨.int c.kind c.key,z,c.clock⟩) (c.clock+1)))::st) ids):G P n F Q todo env st ids:=by
 unfold Z7 at h
 split at h
 ·rename_i o ho
  split at h
  ·rename_i t m x hgd hop
   split at h
   ·rename_i kt et _ _ _ _ id ik i ht hm hx
    split at h
    ·rename_i ik' _ _ _ _ kv b es clock all o' todo' hi hl h1 hdo;cases hik:decide (ik'=ik) with
     | false=>rw [hik] at h;cases h
     | true =>
     rw [hik] at h;simp only [cond_true,BT] at h;have hik:=of_decide_eq_true hik;subst hik;subst h;simp only at hkv hno hz hg;have ho':o'=o:=Dc ho h1;subst ho';refine B9 (fr:=[]) (wr:=[(id,some (.mapx (kv++[(.int ik' i,zd)]) b (es.push ⟨.int ik' i,z,clock⟩) (clock+1)))]) (rd:=[id]) h1 ?_ hdo (λc hc=>by rw [hop] at hc;cases hc) hg;intro I μ st1 ids1 a w hag hst hon;refine ⟨λ_=>?_,λhw=>by rw [AG hgd] at hw;cases hw⟩;have hops:=Bd hon;rw [hop] at hops;have hl1:Az st1 id (.mapx kv b es clock):=by unfold Az;rw [hag id (by simp)];exact hl
     obtain ⟨g,hmu,rfl,hheap,hlen,hst2,hent⟩:=hst.blk id _ hl1;have e1:a.eval m = .map (some b):=by
      have:=hops m (by simp [Op.operands]) _ hm;generalize a.eval m=v at this;cases this with
      | mapr _ b' hmm=>rw [hmm] at hmu;exact NK hmu
     have rx:=(hops x (by simp [Op.operands]) _ hx).immInv;have ex:=rx.intInv;have hu:P.underlying t=some (.map kt et):=htt.sh ht;have hd:II (.int ik')=some (.int ik'):=rfl;have hkd:P.underlying kt=some (.int ik'):=Kf hd (htt.sh hi);have hkx:GA (.int ik') (.int ik' i)=true:=by simp [GA]
     have hiky:=GM hd hkx rx;rcases J7 (I:=I) hd hkx rx es.toList kv 0 (by simpa using hlen) (λj e p h1 h2=>hent j e p (by simpa using h1) h2) hkv with ⟨q1,_,q3,q4⟩ | ⟨j',e',y',q1,q2,q3,q5,_,q6⟩
     ·rw [ex] at q1 q4 hiky;have hrun:(execOp a.eval o').run P w = .ok (.value (.tuple #[z,goInt clock])) { w with heap:=w.heap.setIfInBounds b (.map (es.push ⟨.int ik' i,z,clock⟩) (clock+1)) }:=by
       simp only [execOp,hop,e1,ex];refine DE ?_;simp [Instr.mapEntry,run_underlying hu,MapKept.run_getObj_map hheap,MapKept.run_checkKey hkd hiky,MapKept.run_findKey hkd q1,FH hz,MapKept.run_setObj_map _ hheap,Result.andThen]
      rw [hrun];have hbl:=BN hheap;obtain ⟨r1,r2⟩:=hst.update (blk':=.mapx (kv++[(.int ik' i,zd)]) b (es.push ⟨.int ik' i,z,clock⟩) (clock+1)) (w':={ w with heap:=w.heap.setIfInBounds b (.map (es.push ⟨.int ik' i,z,clock⟩) (clock+1)) }) hl1 hmu rfl (by simp) rfl rfl rfl (λk hk=>F8 (Ne.symm hk))
       ⟨rfl,by simp [hbl],by simp [hlen],stamped_push hst2 (key:=.int ik' i) (val:=z) q4,λi' e p h1 h2=>by
        rw [PS] at h1;rw [Le] at h2;by_cases hi:i'=es.size
        ·rw [if_pos hi] at h1;cases h1;rw [if_neg (by omega)] at h2;rw [show i'-kv.length=0 by omega] at h2;cases h2;exact ⟨.int _ _,hzr I⟩
        ·rw [if_neg hi] at h1;have:=(Gu.1 h1).1;rw [if_pos (by omega)] at h2;exact hent i' e p h1 h2⟩
      refine ⟨I,μ,r1,.imm _ _ (.tup _ _ rfl λi c x hc hx=>?_),Mu.le_refl μ,r2⟩
      match i,hc,hx with
      | 0,hc,hx=>cases hc;cases hx;exact hzr I
      | 1,hc,hx=>cases hc;cases hx;exact .int _ _
      | i+2,hc,hx=>simp at hx
     ·rw [q5] at hno;cases hno
    ·cases h
   ·cases h
  ·cases h
 ·cases h
theorem Uh (j:Nat) {c:PMu} {e:MapEntry} {p:V×V} (h:rY env st todo=some c) (hs:tK c.x=true) (hj:c.es[j]?=some e) (hb:(e.born:Int)=c.stamp) (hp:c.kv[j]?=some p)
  (hg:G P n F Q c.todo env ((c.id,some (.mapx (c.kv.set j (p.1,c.x)) c.b (c.es.modify j λe=>{ e with val:=Nw c.x }) c.clock))::st) ids):G P n F Q todo env st ids:=by
 unfold rY at h
 split at h
 ·rename_i o ho
  split at h
  ·rename_i t m s x hgd hop hdst
   split at h
   ·rename_i id ik i vx hm hsm hx
    split at h
    ·rename_i kv b es clock all o' todo' hl h1;cases h;simp only at hs hj hb hp hg;have ho':o'=o:=Dc ho h1;subst ho';have hg:G P n F Q todo' (BD o'.dst .undef env) ((id,some (.mapx (kv.set j (p.1,vx)) b (es.modify j λe=>{ e with val:=Nw vx }) clock))::st) ids:=by rw [hdst];exact hg
     refine B9 (fr:=[]) (wr:=[(id,some (.mapx (kv.set j (p.1,vx)) b (es.modify j λe=>{ e with val:=Nw vx }) clock))]) (rd:=[id]) h1 ?_ (by simp [BB,hdst]) (λc hc=>by rw [hop] at hc;cases hc) hg;intro I μ st1 ids1 a w hag hst hon;refine ⟨λ_=>?_,λhw=>by rw [AG hgd] at hw;cases hw⟩;have hops:=Bd hon;rw [hop] at hops;have hl1:Az st1 id (.mapx kv b es clock):=by unfold Az;rw [hag id (by simp)];exact hl
     obtain ⟨g,hmu,rfl,hheap,hlen,hst2,hent⟩:=hst.blk id _ hl1;have e1:a.eval m = .map (some b):=by
      have:=hops m (by simp [Op.operands]) _ hm;generalize a.eval m=v at this;cases this with
      | mapr _ b' hmm=>rw [hmm] at hmu;exact NK hmu
     have es':=(hops s (by simp [Op.operands]) _ hsm).immInv.intInv;have ex:=fY hs (hops x (by simp [Op.operands]) _ hx).immInv;have hidx:es.findIdx? (λe=>((e.born:Nat):Int) == i)=some j:=by
      rw [mF,<- hb];exact eO hst2.2.1 (by simpa using hj)
     have hbl:=BN hheap;have hrun:(execOp a.eval o').run P w = .ok .skip { w with heap:=w.heap.setIfInBounds b (.map (es.modify j λe=>{ e with val:=Nw vx }) clock) }:=by
      simp only [execOp,hop,e1,ex,es'];simp [Instr.entryStore,MapKept.run_getObj_map hheap,asInt,asIntOf,hidx,MapKept.run_setObj_map _ hheap,Result.andThen]
     rw [hrun];obtain ⟨r1,r2⟩:=hst.update (blk':=.mapx (kv.set j (p.1,vx)) b (es.modify j λe=>{ e with val:=Nw vx }) clock) (w':={ w with heap:=w.heap.setIfInBounds b (.map (es.modify j λe=>{ e with val:=Nw vx }) clock) }) hl1 hmu rfl (by simp) rfl rfl rfl (λk hk=>F8 (Ne.symm hk))
      ⟨rfl,by simp [hbl],by simp [hlen],stamped_modify hst2 _ _ (λ_ _=>rfl) (λe' _ he'=>rfl),λi' e' p' h1 h2=>by
       rw [TM] at h1;rw [TK] at h2;by_cases hi:j=i'
       ·subst hi;rw [if_pos rfl,hj] at h1;cases h1;rw [if_pos rfl] at h2
        split at h2
        ·cases h2;exact ⟨(hent j e p hj hp).1,bE hs⟩
        ·cases h2
       ·rw [if_neg hi] at h1 h2;exact hent i' e' p' h1 h2⟩
     exact ⟨I,μ,r1,.undef _,Mu.le_refl μ,r2⟩
    ·cases h
   ·cases h
  ·cases h
 ·cases h
end
end Go.Hk
namespace Go.Hk
open Go.Proofs
noncomputable def tkL (stay l:List Int):List Int:=stay++(List.range l.length).map λk=>(Ex stay k:Int)
noncomputable def byM (stay l:List Int):List (V×V):=l.zipIdx.map λp=>(.int .i64 p.1,.int .i64 (Ex stay p.2))
theorem WE (stay l:List Int):∀p∈byM stay l,GA (.int .i64) p.1=true:=λp hp=>by
 obtain ⟨q,_,rfl⟩:=Cc.1 hp;rfl
theorem rA (stay l:List Int):(byM stay l).length=l.length:=by simp [byM]
theorem nB (stay l:List Int) (h:Int):byM stay (l++[h])=byM stay l++[(.int .i64 h,.int .i64 (Ex stay l.length))]:=by
 simp [byM,List.zipIdx_append]
theorem gN (stay l:List Int) (h:Int):tkL stay (l++[h])=tkL stay l++[(Ex stay l.length:Int)]:=by
 simp [tkL,MT]
theorem WF {stay:List Int} (h:Int):∀(l:List Int) (k:Nat),Ga ((l.zipIdx k).map λp=>((.int .i64 p.1,.int .i64 (Ex stay p.2)):V×V)) (.int .i64 h)=if h∈l then some (.int .i64 (Ex stay (k+l.idxOf h))) else none
 | [],_=>rfl
 | x::r,k=>by
  have ih:=WF (stay:=stay) h r (k+1);simp only [jV,Cz,Ga,Ka];by_cases e:x=h
  ·subst e;simp
  ·have e':¬h=x:=λh=>e h.symm;have ed:decide (x=h)=false:=decide_eq_false e;rw [ed];simp only [Eo,if_false,ih,CC,e',false_or];by_cases hm:h∈r
   ·rw [if_pos hm,if_pos hm,show (x::r).idxOf h=r.idxOf h+1 by rw [List.idxOf_cons,show (x == h)=false by simpa using e];rfl,show k+1+r.idxOf h=k+(r.idxOf h+1) by omega]
   ·rw [if_neg hm,if_neg hm]
theorem WD {stay l:List Int} {h:Int}:Ga (byM stay l) (.int .i64 h)=if h∈l then some (.int .i64 (Ex stay (l.idxOf h))) else none:=by
 rw [byM,WF h l 0,Di]
theorem rB {stay l:List Int} {h:Int} (hm:h∈l):(byM stay l)[l.idxOf h]?=some (.int .i64 h,.int .i64 (Ex stay (l.idxOf h))):=by
 have hlt:=XL.2 hm;have hg:l[l.idxOf h]?=some h:=by rw [Bi hlt,List.getElem_idxOf]
 simp [byM,Eg,List.getElem?_zipIdx,hg]
theorem gW {l:List Int} {h:Int} (hm:h∈l):(D7 l)[l.idxOf h]?=some (.int .i64 h,.bool true):=by
 have hlt:=XL.2 hm;have hg:l[l.idxOf h]?=some h:=by rw [Bi hlt,List.getElem_idxOf]
 simp [D7,hg]
theorem Pu {α:Type}:∀{l:List α} {j:Nat} {a:α},l[j]?=some a->l.set j a=l
 | [],_,_,h=>by simp at h
 | b::r,0,a,h=>by simp at h;subst h;rfl
 | b::r,j+1,a,h=>by simp at h;simp [Pu h]
theorem tC {stay l:List Int} {j:Nat} (hj:j<=Ex stay l.length):(j:Int)∈tkL stay l↔j<Ex stay l.length:=by
 obtain ⟨h1,h2⟩:=LF stay l.length;constructor
 ·intro h;rcases Nat.lt_or_ge j (Ex stay l.length) with hl | hl
  ·exact hl
  ·exfalso;have e:j=Ex stay l.length:=by omega
   rw [tkL,BH] at h;rcases h with h | h
   ·rw [e] at h;exact h1 h
   ·obtain ⟨i,hi,he⟩:=Cc.1 h;have hi:=So.1 hi;have he:Ex stay i=Ex stay l.length:=by omega
    have:=(LF stay i).2;rw [he,h2] at this;omega
 ·intro hl;rw [tkL,BH];by_cases hs:(j:Int)∈stay
  ·exact .inl hs
  ·right;have hc:=Kg (stay:=stay) (show j+1<=Ex stay l.length from hl);rw [CP,if_neg hs,h2] at hc;refine Cc.2 ⟨Hl stay j,So.2 (by omega),?_⟩;have:NthF stay (Hl stay j) j:=⟨hs,rfl⟩
   have:=this.unique (LF stay (Hl stay j));omega
theorem pE {stay l:List Int} {k:Nat} (h:k<l.length):(Ex stay k:Int)∈tkL stay l:=by
 rw [tkL,BH];exact .inr (Cc.2 ⟨k,So.2 h,rfl⟩)
mutual
noncomputable def FZ (stay L:List Int):Ty->Ty
 | .mk f n x ps=>.mk (if f=10 then 9 else f) (if f=9 then Ex stay (L.idxOf n) else n) x (GZ stay L ps)
noncomputable def GZ (stay L:List Int):List Ty->List Ty
 | []=>[]
 | t::r=>FZ stay L t::GZ stay L r
end
theorem PI (stay L:List Int):∀l:List Ty,GZ stay L l=l.map (FZ stay L)
 | []=>rfl
 | t::r=>by simp [GZ,PI stay L r]
mutual
theorem lV:∀(t:Ty) (l:List Int),∃r,Dn t l=l++r
 | .mk f n x ps,l=>by
  simp only [Dn]
  split
  ·split
   ·exact ⟨[],by simp⟩
   ·exact ⟨[n],rfl⟩
  ·exact MY ps l
theorem MY:∀(ts:List Ty) (l:List Int),∃r,BY ts l=l++r
 | [],l=>⟨[],by simp [BY]⟩
 | t::r,l=>by
  obtain ⟨a,e1⟩:=lV t l;obtain ⟨b,e2⟩:=MY r (Dn t l);exact ⟨a++b,by rw [BY,e2,e1,CE]⟩
end
theorem IB:∀(a b:List Ty) (l:List Int),BY (a++b) l=BY b (BY a l)
 | [],_,_=>rfl
 | t::r,b,l=>by simp only [Db,BY];exact IB r b _
mutual
theorem Sm {stay:List Int}:∀(t:Ty) {L r:List Int},(∀h∈CA t,h∈L)->Cl t=true->FZ stay (L++r) t=FZ stay L t
 | .mk f n x ps,L,r,h,hw=>by
  have hwp:∀p∈ps,Cl p=true:=λp hp=>DB hw p (by simpa [DZ] using hp);by_cases h9:f=9
  ·subst h9;have hn:n∈L:=h n (by simp [CA]);have e:=DC hw rfl;simp only [As,num,Ty.mk.injEq] at e;obtain ⟨_,_,rfl,rfl⟩:=e;simp only [FZ,GZ,if_true];rw [List.idxOf_append,if_pos hn]
  ·simp only [FZ,if_neg h9];congr 1;exact PH ps (λp hp m hm=>h m (by simp only [CA,if_neg h9];exact Jm.2 ⟨p,hp,hm⟩)) hwp
theorem PH {stay:List Int}:∀(ts:List Ty) {L r:List Int},(∀t∈ts,∀h∈CA t,h∈L)->(∀t∈ts,Cl t=true)->GZ stay (L++r) ts=GZ stay L ts
 | [],_,_,_,_=>rfl
 | t::q,L,r,h,hw=>by
  simp only [GZ];rw [Sm t (h t (by simp)) (hw t (by simp)),PH q (λp hp=>h p (by simp [hp])) (λp hp=>hw p (by simp [hp]))]
end
noncomputable def nbS (stay l:List Int):St:=[(1,some (.cells 123 2 [.mapr 2,.mapr 3])),(2,some (.map (D7 (tkL stay l)))),(3,some (.map (byM stay l)))]
def ndD (f n:Int) (x:Str) (a:Nat):D:=.agg [.imm (.int .i64 f),.imm (.int .i64 n),.imm (.str x),.hv a 0]
def fK (stay l:List Int) (t:Ty):Prop :=
 AK Tryz.prog 81 [.ref 1 0,ndD (BA t) (num t) (Ky t) 4] (nbS stay l++[(4,some (.hp (IR (DZ t))))])
  (.ret (ndD (BA (FZ stay (Dn t l) t)) (num (FZ stay (Dn t l) t)) (Ky (FZ stay (Dn t l) t)) 5) (nbS stay (Dn t l)++[(5,some (.hp (IR (DZ (FZ stay (Dn t l) t)))))]))
theorem Pv {α:Type} (a b:α):∀l:List α,(l++[a]).set l.length b=l++[b]
 | []=>rfl
 | x::r=>by simp [Pv a b r]
theorem uD {a:Tr} {f n:Int} {x:Str} {ps:List Ty} (h:VL a (.mk f n x ps)):∃v ks,a = .nd f n x v ks/\Ie ks ps:=by
 cases a with
 | nd f' n' x' v ks=>simp only [VL] at h;obtain ⟨rfl,rfl,rfl,h⟩:=h;exact ⟨v,ks,rfl,h⟩
 | im _ _=>simp [VL] at h
 | gp _ _ _ _=>simp [VL] at h
theorem LE (stay:List Int) (f n:Int) (x:Str) (ps:List Ty) (l:List Int) (hl3:ps.length<=3) (hw:∀p∈ps,Cl p=true) (IH:∀p∈ps,∀l:List Int,(Dn p l).length<=1000000->fK stay l p) (hb:(BY ps l).length<=1000000) :
  DGo Tryz.prog Tryz.f81.ntmps [1,2,3,4] (Kv WS Tryz.f81.results.toList (.ret (ndD f n x 5) (nbS stay (BY ps l)++[(5,some (.hp (IR (GZ stay (BY ps l) ps))))])))
   [.code (FV Tryz.f81 2)] [(0,.ref 1 0),(3,.ref 6 0),(4,.ref 7 0)]
   ((6,some (.cells 25 4 [.imm (.int .i64 f),.imm (.int .i64 n),.imm (.str x),.hv 4 0]))::(7,some (.cells 25 4 [.imm (.int .i64 0),.imm (.int .i64 0),.imm (.str []),.nils]))::nbS stay l++[(4,some (.hp (IR ps)))]) [8,5,9,10,11,12,13]:=by
 refine Q9 (ids':=[5,9,10,11,12,13]) 4 8 (λx:(Option Addr×Nat)×{ gs:List Tr // Ie gs ps }=>[.slice x.1.1 ps.length x.1.2]) (λx=>Fa (.slice x.1.1 ps.length x.1.2) x.2.1) rfl (λvs I w bs h=>?_) λy=>?_
 ·obtain ⟨v,gs,h1,h2,h3⟩:=h;obtain ⟨a,cap,e1,_⟩:=L3 h3;rw [LW h1] at e1;subst e1;exact ⟨((a,cap),⟨gs,h1⟩),h2,h3⟩
 obtain ⟨⟨ad,cap⟩,⟨gs0,hgs0⟩⟩:=y;refine Aq rfl <| Ak (λy:Nat×List Tr=>[(60,.imm (.int .i64 y.1)),(59,.imm (.int .i64 ps.length)),(58,.raw (.slice ad ps.length cap)),(0,.ref 1 0),(3,.ref 6 0),(4,.ref 7 0)])
  (λy=>(6,some (.cells 25 4 [.imm (.int .i64 f),.imm (.int .i64 n),.imm (.str x),.raw (.slice ad ps.length cap)]))::(7,some (.cells 25 4 [.imm (.int .i64 0),.imm (.int .i64 0),.imm (.str []),.nils])) ::
   (8,some (.hp (Fa (.slice ad ps.length cap) y.2)))::nbS stay (BY (ps.take y.1) l)) [5,9,10,11,12,13] (λy=>ps.length-y.1) (λy=>y.1<=ps.length/\y.2.length=ps.length/\(∀(j:Nat) a p,j<y.1->y.2[j]?=some a->ps[j]?=some p->VL a (FZ stay (BY ps l) p))/\(∀(j:Nat) a p,y.1<=j->y.2[j]?=some a->ps[j]?=some p->VL a p)) (0,gs0)
  ⟨AL _,LW hgs0,λj a p h=>by omega,λj a p _ ha hp=>(Id.1 hgs0).2 j a p ha hp⟩ Gq Gq rfl λy hi ih=>?_
 clear hgs0;obtain ⟨i,gs⟩:=y;obtain ⟨hi1,hi2,hi3,hi4⟩:=hi;simp only at hi1 hi2 hi3 hi4;refine Aq rfl <| Aa rfl (λh=>?_) (λh=>?_)
 ·simp at h;obtain ⟨k,hk⟩:=Ao h;have hkm:=AF hk;obtain ⟨a,hga⟩:∃a,gs[i]?=some a:=⟨_,Bi (by omega)⟩
  have hak:=hi4 i a k (B8 _) hga hk;have htk:BY (ps.take (i+1)) l=Dn k (BY (ps.take i) l):=by rw [Be hk,IB];rfl
  obtain ⟨r,hr⟩:∃r,BY ps l=BY (ps.take (i+1)) l++r:=by
   obtain ⟨r,hr⟩:=MY (ps.drop (i+1)) (BY (ps.take (i+1)) l);exact ⟨r,by rw [<- hr,<- IB,ZO]⟩
  have hmore:FZ stay (BY ps l) k=FZ stay (Dn k (BY (ps.take i) l)) k:=by
   rw [hr,htk];exact Sm k (λh hh=>(TD k _).2 (.inr hh)) (hw k hkm)
  have hbl:(Dn k (BY (ps.take i) l)).length<=1000000:=by
   rw [hr,htk] at hb;simp only [Bw] at hb;omega
  have hC:=IH k hkm (BY (ps.take i) l) hbl;unfold fK at hC;rw [<- hmore,<- htk] at hC;generalize BY (ps.take i) l=l0 at *;obtain ⟨kf,kn,kx,kp⟩:=k;obtain ⟨v,ks,rfl,hks⟩:=uD hak;obtain ⟨t',ht'⟩:∃t',FZ stay (BY ps l) (.mk kf kn kx kp)=t':=⟨_,rfl⟩
  rw [ht'] at hC;refine IG 8 (λ_:{ b:Nat // ad=some ⟨b,0,none⟩ }=>Fa (.slice ad ps.length cap) gs) rfl (λvs I w bs h'=>?_) λz=>?_
  ·obtain ⟨a,cap',e1,e2⟩:=L3 h';simp only [Value.slice.injEq] at e1;obtain ⟨b,hb⟩:=e2 (by rw [hi2];omega);exact ⟨⟨b,by rw [e1.1,hb]⟩,h'⟩
  obtain ⟨b,rfl⟩:=z;refine qW (ids':=[10,11,12,13]) 8 5 9 (λ_:Unit=>Fa (.slice (some ⟨b,0,none⟩) ps.length cap) (gs.set i (.gp kf kn kx v))) (λ_=>Fa v ks) rfl (λvs I w bs h'=>?_) λ_=>?_
  ·obtain ⟨b1,b2,q1,q2,q3,q4,q5⟩:=Xm h' hga;exact ⟨(),b1,b2,q1,q2,q3,q4,q5⟩
  have hgi:(gs.set i (.gp kf kn kx v))[i]?=some (.gp kf kn kx v):=K7 (by omega)
  refine Aq rfl <| Me Ah rfl rfl (λ_=>⟨by simp,by simp;omega⟩) (by simp) <| Ai rfl <| aD Ah 5 [.imm (.int .i64 kf),.imm (.int .i64 kn),.imm (.str kx),.raw v] rfl rfl (λ_ vs I w bs h'=>by have:=Xo h' hgi;simpa [Ff] using this) rfl rfl (by simp) <| M5 4 rfl (by simp) <| Nj (ids':=[12,13]) 9 10 11 [v] (A:=IR kp) [.imm (.int .i64 kf),.imm (.int .i64 kn),.imm (.str kx),.hv 11 0] rfl rfl (λus I w bs h=>⟨_,ks,hks,rfl,h⟩) ⟨.inl rfl,.inl rfl,.inl rfl,.inr ⟨0,_,rfl,rfl,rfl⟩,trivial⟩ <| Aq rfl <| A4 (fr:=[12]) [(1,1),(2,2),(3,3),(11,4)] [(5,12)] [] (nm:=[1,2,3,12,1,2,3,11]) rfl trivial (by simp) hC Jg rfl trivial rfl rfl rfl <| Ai rfl <| Me Ah rfl rfl (λ_=>⟨by simp,by simp;omega⟩) (by simp) <| Ai rfl <| SC Ah 5 12 13 (uY (.slice (some ⟨b,0,none⟩) ps.length cap) (gs.set i (.gp kf kn kx v)) i (BA t') (num t') (Ky t') (DZ t')) rfl rfl rfl (by decide) (by
   have e:0+((i:Int)).toNat*4=i*4:=by simp
   show Mw _ _ _ 12 b (0+((i:Int)).toNat*4) _;rw [e];exact P4 hgi rfl) ?_
  refine yg [] rfl (by simp;rfl) <| IG 13 (λa:{ a:Tr // VL a t' }=>Fa (.slice (some ⟨b,0,none⟩) ps.length cap) (gs.set i a.1)) rfl (λvs I w bs h'=>?_) λz=>?_
  ·obtain ⟨u,ks,h1,h2⟩:=h';rw [List.set_set] at h2;obtain ⟨t1,t2,t3,t4⟩:=t';exact ⟨⟨.nd t1 t2 t3 u ks,by simpa [VL,DZ] using h1⟩,h2⟩
  obtain ⟨a,ha⟩:=z;refine AZ 8 13 rfl <| Ae (ih (i+1,gs.set i a) (by simp only;omega) ⟨by simp only;omega,by simpa using hi2,λj a' p hj ha' hp=>?_,λj a' p hj ha' hp=>?_⟩) ⟨AA (Cb (by simp only;omega) (by simp only;omega)),Bx⟩ Gq rfl
  ·simp only at hj ha';by_cases e:i=j
   ·subst e;rw [K7 (by omega)] at ha';cases ha';rw [hk] at hp;cases hp;rw [ht'];exact ha
   ·rw [K6 e] at ha';exact hi3 j a' p (by omega) ha' hp
  ·simp only at hj ha';rw [K6 (by omega)] at ha';exact hi4 j a' p (by omega) ha' hp
 ·simp at h;have hl:i=ps.length:=by omega
  subst hl;rw [Jr];have his:Ie gs (GZ stay (BY ps l) ps):=Id.2 ⟨by rw [PI,CW];exact hi2,λj a p ha hp=>by
   rw [PI,Eg] at hp;cases hq:ps[j]? with
   | none=>rw [hq] at hp;cases hp
   | some q =>
    rw [hq] at hp;simp only [ZN,BT] at hp;rw [<- hp];exact hi3 j a q (AJ.1 hq).1 ha hq⟩
  exact Aw rfl <| Aq rfl <| Nj (ids':=[9,10,11,12,13]) 8 7 5 [.slice ad ps.length cap] (A:=IR (GZ stay (BY ps l) ps)) [.imm (.int .i64 f),.imm (.int .i64 n),.imm (.str x),.hv 5 0] rfl rfl (λus I w bs h=>⟨_,gs,his,rfl,h⟩) ⟨.inl rfl,.inl rfl,.inl rfl,.inr ⟨0,_,rfl,rfl,rfl⟩,trivial⟩ <| Ag ⟨_,Gq⟩
theorem jD (stay:List Int) (hst:stay.length<=1000000):∀(t:Ty) (l:List Int),Cl t=true->(Dn t l).length<=1000000->fK stay l t
 | .mk f n x ps,l,hw,hb=>by
  have hl3:=Gm hw;have hwp:∀p∈ps,Cl p=true:=λp hp=>DB hw p (by simpa [DZ] using hp);have IH:∀p∈ps,∀l:List Int,(Dn p l).length<=1000000->fK stay l p:=λp hp l h=>jD stay hst p l (hwp p hp) h;simp only [DZ] at hl3;unfold fK;by_cases h9:f=9
  ·subst h9;have e:=DC hw rfl;simp only [As,num,Ty.mk.injEq] at e;obtain ⟨_,_,rfl,rfl⟩:=e;have e2:∀L,FZ stay L (.mk 9 n [] []) = .mk 9 (Ex stay (L.idxOf n)) [] []:=λL=>by simp [FZ,GZ]
   rw [e2];refine Ac Ah Tryz.func81 (by decide +kernel) rfl [6,7,8,5,9,10,11,12,13] rfl rfl <| Ai rfl <| Aa rfl (λh=>by exfalso;simp [BA] at h) (λh=>?_);refine Aq rfl <| Aa rfl (λh=>?_) (λh=>by exfalso;simp [BA] at h);refine Aq rfl ?_;by_cases hm:n∈l
   ·have eg:Dn (.mk 9 n [] []) l=l:=by simp [Dn,hm]
    rw [eg] at hb ⊢;have hT:=LE stay 9 (Ex stay (l.idxOf n)) [] [] l (by simp) (λp hp=>by simp at hp) (λp hp=>by simp at hp) (by simpa [BY] using hb);have hlk:=WD (stay:=stay) (l:=l) (h:=n);rw [if_pos hm] at hlk;have hgb:=rB (stay:=stay) hm;have htk:=pE (stay:=stay) (XL.2 hm);have hgt:=gW htk;have hkb:=WE stay l;have hkt:=C3 (tkL stay l);have hlb:=rA stay l;have hjt:=(AJ.1 hgt).1;have hjb:=(AJ.1 hgb).1;simp only [nbS,BY] at hT;simp only [nbS];generalize byM stay l=B at *;generalize (tkL stay l).idxOf ↑(Ex stay (l.idxOf n))=jt at *;generalize D7 (tkL stay l)=K at *;generalize Ex stay (l.idxOf n)=N at *;generalize l.idxOf n=jb at *
    refine C9 Ah 3 (z:=.int .i64 0) (zd:=.int .i64 0) (dr:=.imm (.tup [.int .i64 N,.bool true])) rfl rfl rfl hkb (by simp) rfl (λ_=>.int _ _) (by simp only [Fr];rw [show num (Ty.mk 9 n [] [])=n from rfl,hlk];rfl) <| yg [] rfl (by simp;rfl) <| Ak (λ_:Unit=>[(5,.imm (.int .i64 N)),(6,.imm (.bool true)),(0,.ref 1 0),(3,.ref 6 0),(4,.ref 7 0)])
     (λ_=>(6,some (.cells 25 4 [.imm (.int .i64 9),.imm (.int .i64 n),.imm (.str []),.hv 4 0]))::(7,some (.cells 25 4 [.imm (.int .i64 0),.imm (.int .i64 0),.imm (.str []),.nils]))::(1,some (.cells 123 2 [.mapr 2,.mapr 3]))::(2,some (.map K))::(3,some (.map B))::[(4,some (.hp (IR [])))])
     [8,5,9,10,11,12,13] (λ_=>0) (λ_=>True) () trivial Bx Gq rfl λ_ _ ih=>?_
    clear ih;refine Aq rfl <| Aa rfl (λh=>by exfalso;simp at h) (λh=>?_);refine Aw rfl <| Il 3 rfl λb1 es1 clock1 hs1 hst1=>Il 2 rfl λb2 es2 clock2 hs2 hst2=>?_;obtain ⟨x1,hx1⟩:∃e,es1[jb]?=some e:=⟨_,Ox (by omega)⟩
    obtain ⟨x2,hx2⟩:∃e,es2[jt]?=some e:=⟨_,Ox (by omega)⟩
    exact Aq rfl <| aE Ah jb (e:=x1) rfl hkb hx1 hgb rfl <| Ai rfl <| Uh jb (e:=x1) rfl rfl hx1 rfl hgb <| Ai rfl <| aE Ah jt (e:=x2) rfl hkt hx2 hgt rfl <| Ai rfl <| Uh jt (e:=x2) rfl rfl hx2 rfl hgt <| M5 2 rfl (by simp;rfl) <| Hg 2 rfl <| Hg 3 rfl <| vM 5 rfl (by simp) <| Ae hT AD ⟨rfl,rfl,rfl,congrArg Blk.map (Pu hgt),congrArg Blk.map (Pu hgb),AI⟩ rfl
   ·have eg:Dn (.mk 9 n [] []) l=l++[n]:=by simp [Dn,hm]
    have ei:(l++[n]).idxOf n=l.length:=by rw [List.idxOf_append,if_neg hm];simp
    rw [eg] at hb ⊢;rw [ei];have hT:=LE stay 9 (Ex stay l.length) [] [] (l++[n]) (by simp) (λp hp=>by simp at hp) (λp hp=>by simp at hp) (by simpa [BY] using hb);have hlk:=WD (stay:=stay) (l:=l) (h:=n);rw [if_neg hm] at hlk;have htk:=λ(j:Nat) (hj:j<=Ex stay l.length)=>tC (stay:=stay) (l:=l) hj;have hkb:=WE stay l;have hkt:=C3 (tkL stay l);have hNb:Ex stay l.length<=2000000:=by have:=pF stay l.length;simp at hb;omega
    have hlt:=ME (Ex stay l.length:Int) (tkL stay l);rw [if_neg (λh=>by have:=(htk _ (B8 _)).1 h;omega)] at hlt;have hq3:=Pv (.int .i64 n,.int .i64 0) (.int .i64 n,.int .i64 (Ex stay l.length:Int)) (byM stay l);rw [<- nB] at hq3;have hq2:=Pv (.int .i64 (Ex stay l.length:Int),.bool false) (.int .i64 (Ex stay l.length:Int),.bool true) (D7 (tkL stay l));have e2:D7 (tkL stay l)++[(.int .i64 (Ex stay l.length:Int),.bool true)]=D7 (tkL stay (l++[n])):=by rw [gN];simp [D7]
    rw [e2] at hq2;have hlook:=λ(j:Nat)=>FG (j:Int) (tkL stay l);clear e2;simp only [nbS,BY] at hT;simp only [nbS];generalize byM stay (l++[n])=B' at *;generalize byM stay l=B at *;generalize D7 (tkL stay (l++[n]))=K' at *;generalize hK:D7 (tkL stay l)=K at *;generalize Ex stay l.length=N at *;refine C9 Ah 3 (z:=.int .i64 0) (zd:=.int .i64 0) (dr:=.imm (.tup [.int .i64 0,.bool false])) rfl rfl rfl hkb (by simp) rfl (λ_=>.int _ _) (by simp only [Fr];rw [show num (Ty.mk 9 n [] [])=n from rfl,hlk];rfl) <| yg [] rfl (by simp;rfl) <| Ak (λz:Nat×Bool=>[(5,.imm (.int .i64 z.1)),(6,.imm (.bool z.2)),(0,.ref 1 0),(3,.ref 6 0),(4,.ref 7 0)])
     (λ_=>(6,some (.cells 25 4 [.imm (.int .i64 9),.imm (.int .i64 n),.imm (.str []),.hv 4 0]))::(7,some (.cells 25 4 [.imm (.int .i64 0),.imm (.int .i64 0),.imm (.str []),.nils]))::(1,some (.cells 123 2 [.mapr 2,.mapr 3]))::(2,some (.map K))::(3,some (.map B))::[(4,some (.hp (IR [])))])
     [8,5,9,10,11,12,13] (λz=>if z.2=true then 0 else N-z.1+1) (λz=>z.1<=N/\(z.2=true->z.1=N)) (0,false) ⟨AL _,λh=>nomatch h⟩ Bx Gq rfl λz hz ih=>?_
    obtain ⟨j,is⟩:=z;obtain ⟨hz1,hz2⟩:=hz;simp only at hz1 hz2;cases is with
    | false =>
     refine Aq rfl <| Aa rfl (λh=>?_) (λh=>by exfalso;simp at h);refine Aq rfl ?_;by_cases hjN:j<N
     ·have hd:decide ((j:Int)∈tkL stay l)=true:=decide_eq_true ((htk j hz1).2 hjN);refine C9 Ah 2 (z:=.bool false) (zd:=.bool false) (dr:=.imm (.bool true)) rfl rfl rfl hkt (by simp) rfl (λ_=>.bool _) (by rw [hlook,hd]) <| Ai rfl <| Aa rfl (λh=>?_) (λh=>by exfalso;simp at h);exact Aq rfl <| Ae (ih (j+1,false) (by simp;omega) ⟨by simp only;omega,λh=>nomatch h⟩) ⟨AA (Cb (by simp only;omega) (by simp only;omega)),BF⟩ Gq rfl
     ·have hd:decide ((j:Int)∈tkL stay l)=false:=decide_eq_false (λh=>hjN ((htk j hz1).1 h));refine C9 Ah 2 (z:=.bool false) (zd:=.bool false) (dr:=.imm (.bool false)) rfl rfl rfl hkt (by simp) rfl (λ_=>.bool _) (by rw [hlook,hd]) <| Ai rfl <| Aa rfl (λh=>by exfalso;simp at h) (λh=>?_);exact Aq rfl <| Ae (ih (j,true) (by simp) ⟨hz1,λ_=>by omega⟩) Bx Gq rfl
    | true =>
     have ej:=hz2 rfl;subst ej;clear ih;refine Aq rfl <| Aa rfl (λh=>by exfalso;simp at h) (λh=>?_)
     exact Aw rfl <| Il 3 rfl λb1 es1 clock1 hs1 hst1=>Il 2 rfl λb2 es2 clock2 hs2 hst2=>Aq rfl <| aF Ah (z:=.int .i64 0) (zd:=.int .i64 0) rfl hkb hlk rfl (λ_=>.int _ _) <| Ai rfl <| Uh B.length (e:=⟨.int .i64 n,.int .i64 0,clock1⟩) (p:=(.int .i64 n,.int .i64 0)) rfl rfl (by simp [<- hs1]) rfl (by simp) <| Ai rfl <| aF Ah (z:=.bool false) (zd:=.bool false) rfl hkt hlt rfl (λ_=>.bool _) <| Ai rfl <| Uh K.length (e:=⟨.int .i64 j,.bool false,clock2⟩) (p:=(.int .i64 j,.bool false)) rfl rfl (by simp [<- hs2]) rfl (by simp) <| M5 2 rfl (by simp;rfl) <| Hg 2 rfl <| Hg 3 rfl <| vM 5 rfl (by simp) <| Ae hT AD ⟨rfl,rfl,rfl,congrArg Blk.map hq2,congrArg Blk.map hq3,AI⟩ rfl
  ·have e1:Dn (.mk f n x ps) l=BY ps l:=by simp only [Dn,if_neg h9]
   have e2:∀L,FZ stay L (.mk f n x ps) = .mk (if f=10 then 9 else f) n x (GZ stay L ps):=λL=>by simp only [FZ,if_neg h9]
   rw [e1] at hb ⊢;rw [e2];refine Ac Ah Tryz.func81 (by decide +kernel) rfl [6,7,8,5,9,10,11,12,13] rfl rfl <| Ai rfl ?_;by_cases h10:f=10
   ·subst h10;have hT:=LE stay 9 n x ps l hl3 hwp IH hb;refine Aa rfl (λh=>?_) (λh=>by exfalso;simp [BA] at h);exact vM 5 rfl (by simp) <| Ae hT AD Gq rfl
   ·have hT:=LE stay f n x ps l hl3 hwp IH hb;rw [if_neg h10];refine Aa rfl (λh=>by exfalso;simp [BA] at h;exact h10 h) (λh=>?_);refine Aq rfl <| Aa rfl (λh=>by exfalso;simp [BA] at h;exact h9 h) (λh=>?_);exact vM 2 rfl (by simp) <| Ae hT AD Gq rfl
termination_by t=>SizeOf.sizeOf t
decreasing_by
 have:=Cn hp;simp_wf;omega
theorem YG (l:Ax) (f:FuncId) (a b:List V) (q:Str×Ty->Bool) (hq:∀t∈l,Al Tryz.prog f (a++[.agg (WU t)]++b) (.bool (q t))) :
  ∃i:Int,(0<=i↔l.any q=true)/\Al Tryz.prog 188 [.sl (Dq l),.clo (.func f) a b] (.int .i64 i):=by
 obtain ⟨i,h1,h2⟩:∃i:Int,(0<=i↔l.any q=true)/\((i = -1/\l.any q=false)\/∃(k:Nat) (t:Str×Ty),i=k/\l[k]?=some t/\q t=true/\(l.take k).any q=false):=by
  by_cases h:l.any q=true
  ·have key:∀(n:Nat),(l.take n).any q=true->∃(k:Nat) (t:Str×Ty),l[k]?=some t/\q t=true/\(l.take k).any q=false:=λn=>by
    induction n with
    | zero=>intro h;simp at h
    | succ n ih =>
     intro h;by_cases hn:(l.take n).any q=true
     ·exact ih hn
     ·by_cases hl:n<l.length
      ·obtain ⟨t,ht⟩:=Ao hl;rw [Be ht,Hb] at h;simp only [PQ] at hn;rw [hn,TF] at h;exact ⟨n,t,ht,by simpa using h,hn⟩
      ·rw [CD (by omega)] at h hn;exact absurd h hn
   obtain ⟨k,t,k1,k2,k3⟩:=key l.length (by rw [Jr];exact h);exact ⟨k,⟨λ_=>h,λ_=>by omega⟩,.inr ⟨k,t,rfl,k1,k2,k3⟩⟩
  ·exact ⟨-1,⟨λh'=>by omega,λh'=>absurd h' h⟩,.inl ⟨rfl,by simpa using h⟩⟩
 refine ⟨i,h1,?_⟩;clear h1;refine B1 λhv=>?_;simp [CL,Fh,maxLen] at hv;refine Ac Ah Tryz.func188 (by decide +kernel) rfl [1,2] rfl rfl <| Ai rfl <| Ak (λj:Nat=>[(8,.imm (.int .i64 j)),(7,.imm (.int .i64 l.length)),(0,.imm (.sl (Dq l))),(1,.imm (.clo (.func f) a b))]) (λ_=>[]) [1,2] (λj=>l.length-j) (λj=>j<=l.length/\(l.take j).any q=false) 0
  ⟨AL _,rfl⟩ ⟨rfl,AA (by simp),AM⟩ trivial rfl λj hj ih=>?_
 obtain ⟨hj1,hj2⟩:=hj;refine Aq rfl <| Aa rfl (λh=>?_) (λh=>?_)
 ·have hlt:j<l.length:=by simp at h;omega
  obtain ⟨t,ht⟩:=Ao hlt;have hg:=QI ht;have hQ:=hq t (AF ht);have htk:(l.take (j+1)).any q=q t:=by rw [Be ht,Hb,hj2];simp
  have hfound:q t=true->i=j:=λhqt=>by
   rcases h2 with ⟨_,h⟩ | ⟨k,u,rfl,k1,k2,k3⟩
   ·have:l.any q=true:=D2.2 ⟨t,AF ht,hqt⟩;rw [this] at h;cases h
   ·congr 1;rcases Lc k j with hc | hc | hc
    ·have:(l.take j).any q=true:=D2.2 ⟨u,D3.2 ⟨k,by rw [Dr,if_pos hc];exact k1⟩,k2⟩;rw [hj2] at this;cases this
    ·exact hc
    ·have:(l.take k).any q=true:=D2.2 ⟨t,D3.2 ⟨j,by rw [Dr,if_pos hc];exact ht⟩,hqt⟩;rw [k3] at this;cases this
  generalize q t=o at *;obtain ⟨y,⟨t1,t2,t3,t4⟩⟩:=t;refine Aq rfl <| yi rfl (c:=WU (y,.mk t1 t2 t3 t4)) (λ_=>⟨by simp,by simpa using hg,by simp⟩) (by simp) <| Ai rfl <| ON rfl (λ_=>hQ) (by simp) <| Ai rfl ?_;cases o with
  | true =>
   refine Aa rfl (λh=>?_) (λh=>by exfalso;simp at h);exact Aq rfl <| Ag ⟨_,rfl,tV (by rw [hfound rfl]),trivial⟩
  | false =>
   refine Aa rfl (λh=>by exfalso;simp at h) (λh=>?_);exact Aq rfl <| Ae (ih (j+1) (by omega) ⟨by omega,htk⟩) ⟨AA (Cb (by omega) (by omega)),AD⟩ trivial rfl
 ·have hlt:¬j<l.length:=by simp at h;omega
  rw [CD (by omega)] at hj2;have hi:i = -1:=by
   rcases h2 with ⟨h,_⟩ | ⟨k,u,_,k1,k2,_⟩
   ·exact h
   ·have:l.any q=true:=D2.2 ⟨u,AF k1,k2⟩;rw [hj2] at this;cases this
  exact Aw rfl <| Aq rfl <| Ag ⟨_,rfl,tV (by rw [hi]),trivial⟩
theorem Rq (l:Ax) (f:FuncId) (a b:List V) (q:Str×Ty->Bool) (hq:∀t∈l,Al Tryz.prog f (a++[.agg (WU t)]++b) (.bool (q t))) :
  Al Tryz.prog 129 [.sl (Dq l),.clo (.func f) a b] (.bool (l.any q)):=by
 obtain ⟨i,h1,h2⟩:=YG l f a b q hq;refine Ac Ah Tryz.func129 (by decide +kernel) rfl [1,2] rfl rfl <| Ai rfl <| Af rfl h2 <| Ai rfl <| Ab rfl rfl (congrArg _ ?_);rw [EU,<- h1];simp
theorem dY (g:FuncId) (q:Str×Ty->Bool) (t:Str×Ty) (hq:Al Tryz.prog g [.agg (WU t)] (.bool (q t))):Al Tryz.prog 130 [.agg (WU t),.ip 116 [.fn (.func g)] 0] (.bool (!q t)):=by
 generalize q t=o at *;obtain ⟨y,⟨t1,t2,t3,t4⟩⟩:=t;exact L5 <| Ac Ah Tryz.func130 (by decide +kernel) rfl [2,3,4,5] rfl rfl <| Ai rfl <| Af rfl hq <| Ai rfl <| Ab rfl rfl rfl
theorem lI (l:Ax) (g:FuncId) (q:Str×Ty->Bool) (hq:∀t∈l,Al Tryz.prog g [.agg (WU t)] (.bool (q t))):Al Tryz.prog 71 [.sl (Dq l),.fn (.func g)] (.bool (l.all q)):=by
 have hC:=Rq l 130 [] [.ip 116 [.fn (.func g)] 0] (λt=>!q t) λt ht=>dY g q t (hq t ht);refine Ac Ah Tryz.func71 (by decide +kernel) rfl [2,3,4,5] rfl rfl <| Ai rfl <| JV rfl (λ_=>hC) rfl (by simp) <| Ai rfl <| Ab rfl rfl (congrArg _ ?_);rw [EU];simp
def Ug (p:Str×Ty):Bool:=EA p.1&&AH true p.2
theorem YC (p:Str×Ty):Al Tryz.prog 72 [.agg (WU p)] (.bool (Ug p)):=by
 have hN:=FW p.1;have hC:=Er [p.2];simp only [Da,HH,HG] at hC;unfold Ug;generalize AH true p.2=o2 at *;generalize EA p.1=o1 at *;obtain ⟨y,⟨t1,t2,t3,t4⟩⟩:=p;refine Ac Ah Tryz.func72 (by decide +kernel) rfl [2,3,4,5] rfl rfl <| Ai rfl <| Af rfl hN <| BU rfl <| Bz rfl hC <| BU rfl ?_;exact Ag ⟨_,rfl,tV (by cases o1 <;> cases o2 <;> rfl),trivial⟩
def VS (m:Md) (Γ:Ax) (t:Tm) (T:List (Int×Ty)) (k:Int) (S:List Ty) (u:List V):St :=
 C8 m T k S++[(5,some (.cells 92 1 [.ref 1 0])),(6,some (.immb 49 5 (Bo t))),(7,some (.immb 118 1 [.sl (Dq Γ)])),(8,some (.immb 25 4 u))]
def sN (m:Md) (Γ:Ax) (t:Tm) (T:List (Int×Ty)) (k:Int) (S:List Ty) (u:List V):St :=
 Tk m T k S++[(5,some (.cells 92 1 [.ref 1 0])),(6,some (.immb 49 5 (Bo t))),(7,some (.immb 118 1 [.sl (Dq Γ)])),(8,some (.immb 25 4 u))]
theorem VH {m:Md} {Γ:Ax} {t:Tm} {τ:Ty} {T:List (Int×Ty)} {k:Int} {S:List Ty} (hI:En m Γ t [] 0 [] (some (τ,T,k,S))) {θ:Int->Ty} (hs:Sol (B6 T) θ) (hl:S.length<=1000000) (hp:(S.map (A7 θ)).all CS=true) :
  AK Tryz.prog 78 [.ref 5 0,.ref 6 0,.ref 7 0,.ref 8 0] (VS m Γ t [] 0 [] (dTyc F5)) (.ret (.imm (.tup [])) (sN m Γ t T k S (dTyc τ))):=by
 have hS:=LT m T k S hs hl hp;unfold En Co CT at hI;obtain ⟨t1,t2,t3,t4,t5⟩:=t;obtain ⟨u1,u2,u3,u4⟩:=τ;exact Ac Ah Tryz.func78 (by decide +kernel) rfl [4,9,10] rfl rfl <| Ai rfl <| Ad (fr:=[4]) [(1,1),(2,2),(3,3)] [(4,4)] rfl (by simp) hI Au rfl rfl rfl rfl <| Ai rfl <| Ad (fr:=[]) [(1,1),(2,2),(4,3)] [] rfl (by simp) hS Au rfl rfl rfl rfl <| Ai rfl <| BE ⟨[],cA⟩
theorem VI {m:Md} {Γ:Ax} {t:Tm} {τ:Ty} {T:List (Int×Ty)} {k:Int} {S:List Ty} (hI:En m Γ t [] 0 [] (some (τ,T,k,S))) {θ:Int->Ty} (hs:Sol (B6 T) θ) (hl:S.length<=1000000) (hp:(S.map (A7 θ)).all CS=false) :
  AK Tryz.prog 78 [.ref 5 0,.ref 6 0,.ref 7 0,.ref 8 0] (VS m Γ t [] 0 [] (dTyc F5)) (.pan FO):=by
 have hS:=NQ m T k S hs hl hp;unfold En Co CT at hI;obtain ⟨t1,t2,t3,t4,t5⟩:=t;obtain ⟨u1,u2,u3,u4⟩:=τ;exact Ac Ah Tryz.func78 (by decide +kernel) rfl [4,9,10] rfl rfl <| Ai rfl <| Ad (fr:=[4]) [(1,1),(2,2),(3,3)] [(4,4)] rfl (by simp) hI Au rfl rfl rfl rfl <| Ai rfl <| AU [(1,1),(2,2),(4,3)] rfl (by simp) hS Au rfl rfl rfl <| Ai rfl <| Bk 9 rfl
theorem YB {m:Md} {Γ:Ax} {t:Tm} (hI:En m Γ t [] 0 [] none) :
  AK Tryz.prog 78 [.ref 5 0,.ref 6 0,.ref 7 0,.ref 8 0] (VS m Γ t [] 0 [] (dTyc F5)) (.pan FO):=by
 unfold En Co CT at hI;obtain ⟨t1,t2,t3,t4,t5⟩:=t;exact Ac Ah Tryz.func78 (by decide +kernel) rfl [4,9,10] rfl rfl <| Ai rfl <| AV 3 [(1,1),(2,2),(3,3)] rfl (by simp) hI Au rfl rfl rfl <| Bc 7 3 rfl
end Go.Hk
namespace Go.Hk
section
variable {P:Program} {n:Nat} {tt:TT} {env env' env2 E:Env} {st st' st2 stx:St} {ids ids' ids2:List Nat} {c c':Code} {all rest:List Oper} {o:Oper} {ob:List Prop} {I:Imm} {μ:Mu} {w:World} {d:D}
theorem Q5 {L:M1} {p:Nat} {fc:Func} {d:D} {stB:St} {pend:Option Code} (hf:P.funcs[L.fn]?=some fc) (hps:L.ps = #[p]) (hsz:L.tmps.size=n)
  (hd:IT d=[]) (hp:p<n) (hfree:Q0 ids L.E stx L.F) (hasg:QZ P n L.asg ((p,d)::L.E) stx ids env st ids')
  (h:DGo P n (iD::(L.F++Vp L.E)) (xF pend stB) [.code L.body] env st ids'):Ns P [d] (CY L stx none) pend.isNone (CY L stB pend):=by
 intro I μ w b xs hμ hst hx;have hl0:Az (U2 1 (CY L stx none)) 0 .pin:=A9.2 (.inl ⟨rfl,rfl⟩);have hl1:Az (U2 1 (CY L stx none)) 1 (.bun 0 (CY L stx none)):=A9.2 (.inr ⟨by simp,A9.2 (.inl ⟨rfl,rfl⟩)⟩);obtain ⟨g1,hg1,b',bs,hb1,rfl,hP⟩:=hst.blk 1 _ hl1;rw [hμ] at hb1;cases hb1;have hbs:∀k∈bs,I k=none/\k<w.heap.size:=λk hk=>hst.apart 1 _ _ k hl1 hg1 (D0.2 hk);have hP0:=hP;obtain ⟨r,ν,bs0,e1,hr1,⟨hr2,hr3⟩,⟨hr4,hr5,hr6,hr7,hr8⟩,hE1,hS,hown,hnb,hF⟩:=WG hP hfree hst.imm hbs;subst e1;obtain ⟨x,rfl⟩:∃x,xs = #[x]:=by
  obtain ⟨l⟩:=xs;have:=hx.1
  match l,this with
  | [x],_=>exact ⟨x,rfl⟩
 have hxd1:RepD I ν x d:=(hx.2 0 x d rfl rfl).sub λj hj=>by rw [hd] at hj;cases hj
 have hszp:(#[x]:Array Value).size=r.params.size:=by rw [hr5,hps];rfl
 unfold xE;rw [run_yield hr1 hszp];refine MF (fc:=fc) (by rw [hr4];exact hf) λfb cs hbf hbr=>?_;rw [hr5,hps,hr6,hr7,hr8];have hfold:((#[p]:Array Nat).zip #[x]).foldl (λtmps (t,a)=>tmps.setIfInBounds t a) L.tmps=L.tmps.setIfInBounds p x:=by simp
 rw [hfold];obtain ⟨hIb,hblt⟩:=hbs b (by simp);have hnob0:¬Bg ν stx b:=λh=>hnb ((hown b).2 h);have hput:∀(w:World) (o:Obj),(w.putObj b o).heap=w.heap.setIfInBounds b o:=λw o=>by
  unfold World.putObj;by_cases hi:b<w.heap.size <;> simp [hi]
 have hoth:∀(w:World) (o:Obj) k,k≠b->(w.putObj b o).heap[k]?=w.heap[k]?:=λw o k hk=>by rw [hput,F8 (Ne.symm hk)]
 obtain ⟨c1,c2,c3⟩:=Hx (n:=n) (w:=w) (a:={ tmps:=L.tmps,defers:=[] }) (dst:=some p) hE1 hsz (λt ht=>by cases ht;exact hp) hxd1;have hc0:Conc n I ν ((p,d)::L.E) stx ids (Act.put { tmps:=L.tmps,defers:=[] } (some p) x) w:={ hS with size:=c2,env:=c1,defers:=by rw [c3];exact MarksOk.nil _ _ _ _ }
 refine hasg fb cs _ I ν _ w _ hc0 λIA νA aA wA hcA hmA heA=>?_;have hnob:¬Bg νA st b:=λh=>hnob0 (heA.fresh b hblt h);have hrA1:wA.heap[b]?=some (.loop r):=by rw [heA.block b hblt hnob0];exact hr1
 have hIbA:IA b=none:=by rw [heA.old b hblt hnob0];exact hIb
 have hbltA:b<wA.heap.size:=(Gu.1 hrA1).1;obtain ⟨w1,hw1⟩:∃w1:World,w1=wA.putObj b (.loop { r with state:=.busy }):=⟨_,rfl⟩
 have hbeg:=run_beginRound (P:=P) hrA1 hr2;refine Reach.step (stepR_beginRound hbr hbeg) ?_;rw [<- hw1];have hmarks:MarksOk IA νA st w1 aA.defers:=by
  obtain ⟨rs,m1,m2,m3⟩:=hcA.defers;refine ⟨rs,m1,m2,λk hk=>⟨?_,(m3 k hk).2⟩⟩;have h0:=(m3 k hk).1;rw [hw1,hoth _ _ k (λe=>by rw [e,hrA1] at h0;cases h0)];exact h0
 have hc:Conc n IA νA env st ids' aA w1 :=
  {hcA.toStRep.other (by rw [hw1,hput];simp) (λk o hk=>by rw [hw1];exact hoth _ _ k (λe=>by rw [e,hIbA] at hk;cases hk)) (λk hk=>by rw [hw1];exact hoth _ _ k (λe=>hnob (e ▸ hk))) with
   size:=hcA.size
   env:=hcA.env
   defers:=hmarks }
 have hgo:=h ⟨fb,.inl (by simp)⟩ cs IA νA _ w1 [.code L.body] AI hc;refine Reach.mono (λe a' w' hpost=>?_) hgo;obtain ⟨x',env',st',ids2,I',μ',p1,p2,p3,p4,p5,p6⟩:=hpost;have hb1:w1.heap[b]?=some (.loop { r with state:=.busy }):=by rw [hw1,hput];simp [hbltA]
 have hsz1:w1.heap.size=wA.heap.size:=by rw [hw1,hput];simp
 have hszA:w.heap.size<=wA.heap.size:=heA.size;have hno2:∀k,k<w.heap.size->¬Bg ν stx k->¬Bg νA st k:=λk hk ho hq=>ho (heA.fresh k hk hq);have hfr2:∀k,k<w.heap.size->Bg μ' st' k->Bg ν stx k:=λk hk ho=>heA.fresh k hk (p5.fresh k (by omega) ho);have hold2:∀k,k<w.heap.size->¬Bg ν stx k->I' k=I k:=λk hk ho=>(p5.old k (by omega) (hno2 k hk ho)).trans (heA.old k hk ho);have himm2:I.le I':=Imm.le_trans heA.imm p5.imm;have hb':w'.heap[b]?=some (.loop { r with state:=.busy }):=by rw [p5.block b (by omega) hnob];exact hb1
 have hno':¬Bg μ' st' b:=λho=>hnob (p5.fresh b (by omega) ho);have hI':I' b=none:=by rw [p5.old b (by omega) hnob];exact hIbA
 have hblt':b<w'.heap.size:=(Gu.1 hb').1;have fin:HQ st' stB->∃v w'',(Instr.endRound b pend).run P w' = .ok v w''/\(∃I2 μ2,RepD I2 μ2 v (.imm (.bool pend.isNone))/\StRep I2 μ2 (U2 2 (CY L stB pend)) [] w'' /\
   Pin (DJ (U2 1 (CY L stx none))) μ μ2/\Ext I μ (U2 1 (CY L stx none)) w I2 μ2 (U2 2 (CY L stB pend)) w''):=by
  intro hsub;have hSB:StRep I' μ' stB [] w':=p3.toStRep.less (ES hsub) .nil (λ_ h=>by simp at h);have hownB':∀k,Bg μ' stB k->Bg μ' st' k:=λk ⟨i,bi,g,q1,q2⟩=>⟨i,bi,g,ES hsub i bi q1,q2⟩
  have hnoB:¬Bg μ' stB b:=λh=>hno' (hownB' b h);obtain ⟨w2,hw2⟩:∃w2:World,w2=w'.putObj b (.loop { r with state:=if pend.isNone then .ready else .done,pending:=pend }):=⟨_,rfl⟩
  have hend:(Instr.endRound b pend).run P w' = .ok (.bool pend.isNone) w2:=by
   have:=run_endRound (P:=P) pend hb';rw [hw2];exact this
  have hw2s:w2.heap.size=w'.heap.size:=by rw [hw2,hput];simp
  have hw2o:∀k,k≠b->w2.heap[k]?=w'.heap[k]?:=λk hk=>by rw [hw2];exact hoth _ _ k hk
  have hSB2:StRep I' μ' stB [] w2:=hSB.other (by omega) (λk o hk=>hw2o k (λe=>by rw [e,hI'] at hk;cases hk)) (λk hk=>hw2o k (λe=>hnoB (e ▸ hk)));obtain ⟨bsN,hbsN⟩:=P8 μ' stB;have hPN:(CY L stB pend).P I' w2 b (b::bsN):=by
   refine ⟨{ r with state:=if pend.isNone then .ready else .done,pending:=pend },μ',bsN,rfl,by rw [hw2,hput];simp [hblt'],⟨by cases pend <;> rfl,rfl⟩,⟨hr4,hr5,hr6,hr7,hr8⟩,λt d hl=>?_,hSB2.blk,hSB2.inj,hbsN,λhm=>hnoB ((hbsN b).1 hm),λi hi=>?_⟩
   ·exact ((hE1 t d hl).mono himm2 (Mu.le_refl ν)).sub λj hj g hg=>p4 j (by simp [XA hl j hj]) g (hmA j g hg)
   ·exact λg hg0=>p4 i (by simp [hi]) g (hmA i g (hF i hi g hg0))
  obtain ⟨μ2,hμ2⟩:∃μ2:Mu,μ2=λi=>if i=2 then some (.agg (T8 (b::bsN))) else μ i:=⟨_,rfl⟩
  have hm0:μ2 0=some (.func (.yield b) #[] #[]):=by rw [hμ2];simpa using hμ
  have hm2:μ2 2=some (.agg (T8 (b::bsN))):=by rw [hμ2];simp
  have hold:∀k,k∈b::bsN->k<w.heap.size->k∈b::bs0:=λk hk hlt=>by
   rcases CC.1 hk with rfl | hk
   ·simp
   ·exact H3 _ ((hown k).2 (hfr2 k hlt (hownB' k ((hbsN k).1 hk))))
  have hnew:∀k∈b::bsN,I' k=none/\k<w2.heap.size:=λk hk=>by
   rcases CC.1 hk with rfl | hk
   ·exact ⟨hI',by omega⟩
   ·obtain ⟨i,bi,g,q1,q2,q3⟩:=(hbsN k).1 hk;exact hSB2.apart i bi g k q1 q2 q3
  have hownO:∀k,Bg μ (U2 1 (CY L stx none)) k↔k∈b::bs0:=λk=>by
   constructor
   ·rintro ⟨i,bi,g,q1,q2,q3⟩;rcases IU (by simp) q1 with ⟨rfl,rfl⟩ | ⟨rfl,rfl⟩
    ·rw [hμ] at q2;cases q2;exact q3.elim
    ·rw [hg1] at q2;cases q2;exact D0.1 q3
   ·intro hk;exact ⟨1,_,_,hl1,hg1,D0.2 hk⟩
  have hownN:∀k,Bg μ2 (U2 2 (CY L stB pend)) k->k∈b::bsN:=λk=>by
   rintro ⟨i,bi,g,q1,q2,q3⟩;rcases IU (by simp) q1 with ⟨rfl,rfl⟩ | ⟨rfl,rfl⟩
   ·rw [hm0] at q2;cases q2;exact q3.elim
   ·rw [hm2] at q2;cases q2;exact D0.1 q3
  refine ⟨_,w2,hend,I',μ2,.imm _ _ (.bool _),?_,?_,?_⟩
  ·refine { imm:=hSB2.imm,blk:=λi bi hl=>?_,apart:=λi bi g k hl hgi hk=>hnew k (hownN k ⟨i,bi,g,hl,hgi,hk⟩),inj:=λi j bi bj gi gj k hi hj hgi hgj hki hkj=>?_,nodup:=.nil,idsFree:=λ_ h=>by simp at h }
   ·rcases IU (by simp) hl with ⟨rfl,rfl⟩ | ⟨rfl,rfl⟩
    ·exact ⟨_,hm0,b,rfl⟩
    ·exact ⟨_,hm2,b,_,hm0,rfl,hPN⟩
   ·rcases IU (by simp) hi with ⟨rfl,rfl⟩ | ⟨rfl,rfl⟩ <;> rcases IU (by simp) hj with ⟨rfl,rfl⟩ | ⟨rfl,rfl⟩
    ·rfl
    ·rw [hm0] at hgi;cases hgi;exact hki.elim
    ·rw [hm0] at hgj;cases hgj;exact hkj.elim
    ·rfl
  ·intro i hi g hg;simp only [U2,DJ,Cz,HJ,CC,KY,or_false] at hi;have:i≠2:=by omega
   rw [hμ2];simp only [if_neg this];exact hg
  ·refine { imm:=himm2,os:=?_,tape:=?_,output:=?_,size:=?_,block:=λk hk hno=>?_,fresh:=λk hk ho=>(hownO k).2 (hold k (hownN k ho) hk),old:=λk hk hno=>hold2 k hk (λh=>hno ((hownO k).2 (H3 _ ((hown k).2 h)))) }
   ·have:=p5.os;rw [hw1] at this;rw [hw2,<- heA.os];unfold World.putObj at this ⊢;exact this
   ·have:=p5.tape;rw [hw1] at this;rw [hw2,<- heA.tape];unfold World.putObj at this ⊢;exact this
   ·have:=p5.output;rw [hw1] at this;rw [hw2,<- heA.output];unfold World.putObj at this ⊢;exact this
   ·have:=p5.size;omega
   ·have hkb:k≠b:=λe=>hno ((hownO k).2 (by simp [e]));have hno3:¬Bg ν stx k:=λh=>hno ((hownO k).2 (H3 _ ((hown k).2 h)));rw [hw2o k hkb,p5.block k (by omega) (hno2 k hk hno3),hw1,hoth _ _ k hkb,heA.block k hk hno3]
 cases e with
 | normal =>
  cases x' <;> simp only [Np] at p1;cases pend with
  | none=>exact fin p2
  | some c=>exact p2.elim
 | ret =>
  cases x' <;> simp only [Np] at p1;cases pend with
  | none=>exact p2.elim
  | some c=>cases c <;> first | exact p2.elim | exact fin p2
 | exit j =>
  cases x' <;> simp only [Np] at p1;cases pend with
  | none=>exact p2.elim
  | some c =>
   cases c <;> first | exact p2.elim | skip
   obtain ⟨q1,q2⟩:=p2;subst q1;subst p1;exact fin q2
 | goto l =>
  cases x' <;> simp only [Np] at p1;cases pend <;> exact p2.elim
 | panic chain =>
  cases x' <;> simp only [Np] at p1;cases pend <;> exact p2.elim
 | outgrown=>cases x' <;> simp only [Np] at p1
end
end Go.Hk
namespace Go.Hk
open Go.Proofs
def Lg (Γ:Ax):Ax:=Γ.map λp=>(p.1,Fv p.2)
theorem eM (Γ:Ax) (p:Str×Ty):Lg (Γ++[p])=Lg Γ++[(p.1,Fv p.2)]:=by simp [Lg]
def pL (l:List Int) (u:Ty):List Int:=if BA u=9 then (if num u∈l then l else l++[num u]) else l
theorem jJ (l:List Int) (f n:Int) (x:Str) (ps:List Ty):pL l (.mk f n x ps)=if f=9 then (if n∈l then l else l++[n]) else l:=rfl
mutual
theorem UE:∀(t:Ty) (l:List Int),Cl t=true->(Gn t).foldl pL l=Dn t l
 | .mk f n x ps,l,hw=>by
  simp only [Gn,NM,jJ,Dn];by_cases h9:f=9
  ·subst h9;have e:=DC hw rfl;simp only [As,num,Ty.mk.injEq] at e;obtain ⟨_,_,rfl,rfl⟩:=e;simp only [C5,XK,if_true]
  ·rw [if_neg h9,if_neg h9];exact RI ps l λp hp=>DB hw p (by simpa [DZ] using hp)
theorem RI:∀(ts:List Ty) (l:List Int),(∀t∈ts,Cl t=true)->(C5 ts).foldl pL l=BY ts l
 | [],_,_=>rfl
 | t::r,l,hw=>by
  simp only [C5,XJ,BY];rw [UE t l (hw t (by simp)),RI r _ λp hp=>hw p (by simp [hp])]
end
theorem Px {h:Int}:∀{l:List Int},h∈l->Fi (D7 l) (.int .i64 h) (.bool true)=D7 l
 | x::r,hm=>by
  simp only [D7,Cz,Fi,Ka];by_cases e:x=h
  ·subst e;simp
  ·have e':¬h=x:=λh=>e h.symm;have ih:=Px (l:=r) (by simpa [e'] using hm);simp only [D7] at ih;rw [show decide (x=h)=false from decide_eq_false e];simp only [Eo,if_false,ih]
def Va:Code->Option (Code×Code)
 | .rangeFunc _ _ a b=>some (a,b)
 | .seq x y=>match Va x with
  | some r=>some r
  | none=>Va y
 | .block _ c=>Va c
 | .loop c=>Va c
 | .cond _ x y=>match Va x with
  | some r=>some r
  | none=>Va y
 | _=>none
def iF (f:Func):Code:=match Va (FV f 0) with
 | some (a,_)=>a
 | none=>.skip
def Xq (f:Func):Code:=match Va (FV f 0) with
 | some (_,b)=>b
 | none=>.skip
def ZT (m:Md) (t:Tm) (Γ:Ax) (l:List Int):St :=
 [(11,some (.immb 43 3 (El m))),(12,some (.immb 49 5 (Bo t))),(13,some (.cells 25 4 [.imm (.int .i64 0),.imm (.int .i64 0),.imm (.str []),.nils])),
 (14,some (.immb 118 1 [.sl (Dq Γ)])),(15,some (.map (D7 l))),(16,some (.map [])),(17,some (.cells 123 2 [.mapr 15,.mapr 16])),(18,some (.cells 119 1 [.ref 17 0]))]
def wG (Γ:Ax) (i:Nat):Env:=[(42,.imm (.int .i64 i)),(41,.imm (.int .i64 Γ.length)),(40,.imm (.sl (Dq Γ))),(3,.ref 11 0),(5,.ref 12 0),(6,.ref 13 0),(8,.ref 14 0),(9,.ref 18 0)]
theorem Wd (m:Md) (t:Tm) (Γ0 Γ:Ax) (i:Nat) (l:List Int) (u:Ty) {L:M1} (h1:Tryz.prog.funcs[L.fn]?.isSome) (h2:L.tmps.size=Tryz.f26.ntmps) (h3:L.ps = #[56]) (h4:L.asg=iF Tryz.f26)
  (h5:L.body=Xq Tryz.f26) (h6:L.E=wG Γ0 i) (h7:L.F=[]):Ns Tryz.prog [.imm (.agg (dTyc u))] (CY L (ZT m t Γ l) none) true (CY L (ZT m t Γ (pL l u)) none):=by
 obtain ⟨fc,hf⟩:=XI.1 h1;obtain ⟨f,n,x,ps⟩:=u;have hfree:Q0 [21,22,23] L.E (ZT m t Γ l) L.F:=by
  rw [h6,h7];refine ⟨by decide,?_⟩;simp [ZT,wG,Vp,IT,Fj,TB,HU,DJ]
 have hkt:=C3 l;have hnew:n∉l->Fi (D7 l) (.int .i64 n) (.bool true)=D7 (l++[n]):=λh=>HS h;have hold:n∈l->Fi (D7 l) (.int .i64 n) (.bool true)=D7 l:=λh=>Px h;have hasg:∀stx,QZ Tryz.prog Tryz.f26.ntmps L.asg ((56,.imm (.agg (dTyc (.mk f n x ps))))::L.E) stx [21,22,23] _ _ _:=λstx=>by
  rw [h4];exact aS Ah rfl rfl rfl rfl (by simp) (by simp)
 refine Q5 (pend:=none) hf h3 h2 rfl (by decide) hfree (hasg _) ?_;rw [h5,h6,h7];rw [jJ];refine Aq rfl ?_;by_cases h9:f=9
 ·subst h9;rw [if_pos rfl];refine Aa rfl (λh=>?_) (λh=>by exfalso;simp at h);refine Aq rfl <| EW Ah rfl rfl rfl hkt ?_;by_cases hn:n∈l
  ·rw [hold hn,if_pos hn];exact yg [] rfl (by simp;rfl) <| BE (⟨rfl,rfl,rfl,rfl,rfl,rfl,rfl,rfl,trivial⟩:HQ _ (ZT m t Γ l))
  ·rw [hnew hn,if_neg hn];exact yg [] rfl (by simp;rfl) <| BE (⟨rfl,rfl,rfl,rfl,rfl,rfl,rfl,rfl,trivial⟩:HQ _ (ZT m t Γ (l++[n])))
 ·rw [if_neg h9];refine Aa rfl (λh=>by exfalso;simp at h;exact h9 h) (λh=>?_);exact Aq rfl <| BE (⟨rfl,rfl,rfl,rfl,rfl,rfl,rfl,rfl,trivial⟩:HQ _ (ZT m t Γ l))
theorem U8 (p q:Addr) (w:World) :
  CallsD Tryz.prog 119 #[.pointer (some p),.pointer (some q)] .returning w λe u' w'=>e = .returned (.tuple #[])/\u' = .returning/\w'=w:=by
 refine callsD_of_wpS Tryz.func119 rfl λc₀ cs hu=>?_;apply wpS_seq;apply wpS_region;simp [wpOpsS,go_sem,recoverD,hu,Tryz.ntmps119,Exit.thenS];apply wpS_seq;apply wpS_region;simp [wpOpsS,go_sem,Exit.thenS];refine wpS_cond (t:=false) (by simp [Act.eval,Array.replicate]) ?_;simp only [if_false,Eo];refine wpS_of_wp (wp_skip ?_);cases c₀;simp_all [bodyPostS,results,Tryz.results119]
def Fl:Array Value:=#[.int .i64 0,.int .i64 0,.string ⟨#[]⟩,.slice none 0 0]
def rJ (n:Nat) (w w':World):Prop:=w'.os=w.os/\w'.tape=w.tape/\w'.output=w.output/\w.heap.size<=w'.heap.size/\∀b,b<w.heap.size->b≠n+1->b≠n+2->w'.heap[b]?=w.heap[b]?
theorem Td (pb:Nat) (w:World) (h1:w.heap[pb+1]?=some (.cells Fl 25 (0,0))) (h2:w.heap[pb+2]?=some (.cells #[.bool false] 4 (0,0))) :
  CallsD Tryz.prog 119 #[.pointer (some ⟨pb+1,0,none⟩),.pointer (some ⟨pb+2,0,none⟩)] (.panicking [{ v:=.iface 171 (.agg #[]),recovered:=false }]) w λe u' w'=>e = .returned (.tuple #[]) /\
   u' = .panicking [{ v:=.iface 171 (.agg #[]),recovered:=true }]/\rJ pb w w'/\w'.heap[pb+1]?=some (.cells Fl 25 (0,0))/\w'.heap[pb+2]?=some (.cells #[.bool false] 4 (0,0)):=by
 refine callsD_of_wpS Tryz.func119 rfl λc₀ cs hu=>?_;change Code.wpS _ _ _ { tmps:=#[.pointer (some ⟨pb+1,0,none⟩),.pointer (some ⟨pb+2,0,none⟩),undef,undef,undef,undef,undef,undef,undef,undef,undef,undef,undef,undef,undef,undef,undef],defers:=[] } _ _;apply wpS_seq;apply wpS_region;simp [wpOpsS,go_sem,recoverD,hu,Tryz.ntmps119,Exit.thenS];apply wpS_seq;apply wpS_region;simp [wpOpsS,go_sem,Exit.thenS];refine wpS_cond (t:=true) (by simp [Act.eval,Array.replicate]) ?_;simp only [if_true];refine wpS_of_wp ?_;clear hu;have hta:∀w:World,(Instr.typeAssert (.iface 171 (.agg #[])) 20 171 true).run Tryz.prog w = .ok (.tuple #[.agg #[],.bool true]) w:=λ_=>by kernel_rfl
 have hsz1:pb+1<w.heap.size:=(Gu.1 h1).1;have hsz2:pb+2<w.heap.size:=(Gu.1 h2).1;have h1':(w.alloc (.cells #[] 171)).heap[pb+1]?=some (.cells Fl 25 (0,0)):=(CH w _ hsz1).trans h1;have h2':(w.alloc (.cells #[] 171)).heap[pb+2]?=some (.cells #[.bool false] 4 (0,0)):=(CH w _ hsz2).trans h2;have hc0:(w.alloc (.cells #[] 171)).cell? ⟨pb+1,0,none⟩=some (.int .i64 0):=by unfold World.cell?;simp [h1',Fl]
 have hz0:(w.alloc (.cells #[] 171)).frozen? ⟨pb+1,0,none⟩=false:=by unfold World.frozen?;simp [h1']
 have hc1:(w.alloc (.cells #[] 171)).cell? ⟨pb+1,1,none⟩=some (.int .i64 0):=by unfold World.cell?;simp [h1',Fl]
 have hz1:(w.alloc (.cells #[] 171)).frozen? ⟨pb+1,1,none⟩=false:=by unfold World.frozen?;simp [h1']
 have hc2:(w.alloc (.cells #[] 171)).cell? ⟨pb+1,2,none⟩=some (.string ⟨#[]⟩):=by unfold World.cell?;simp [h1',Fl]
 have hz2:(w.alloc (.cells #[] 171)).frozen? ⟨pb+1,2,none⟩=false:=by unfold World.frozen?;simp [h1']
 have hc3:(w.alloc (.cells #[] 171)).cell? ⟨pb+1,3,none⟩=some (.slice none 0 0):=by unfold World.cell?;simp [h1',Fl]
 have hz3:(w.alloc (.cells #[] 171)).frozen? ⟨pb+1,3,none⟩=false:=by unfold World.frozen?;simp [h1']
 have hcb:(w.alloc (.cells #[] 171)).cell? ⟨pb+2,0,none⟩=some (.bool false):=by unfold World.cell?;simp [h2']
 have hzb:(w.alloc (.cells #[] 171)).frozen? ⟨pb+2,0,none⟩=false:=by unfold World.frozen?;simp [h2']
 have h2'':((w.alloc (.cells #[] 171)).setRow (pb+1) Fl).heap[pb+2]?=some (.cells #[.bool false] 4 (0,0)):=(setRow_other _ _ _ _ (by omega)).trans h2';have hcb':((w.alloc (.cells #[] 171)).setRow (pb+1) Fl).cell? ⟨pb+2,0,none⟩=some (.bool false):=by unfold World.cell?;simp [h2'']
 have hzb':((w.alloc (.cells #[] 171)).setRow (pb+1) Fl).frozen? ⟨pb+2,0,none⟩=false:=by unfold World.frozen?;simp [h2'']
 refine wp_seq (wp_mono (Q:=λe a' w'=>e = .normal/\w'=(w.alloc (.cells #[] 171))/\∃t2 t3 t4 t5 t6 t7 t8 t9 t10 t11 t12 t13 t14 t15 t16,a'={ tmps:=#[.pointer (some ⟨pb+1,0,none⟩),.pointer (some ⟨pb+2,0,none⟩),t2,t3,t4,t5,t6,t7,t8,t9,t10,t11,t12,t13,t14,t15,t16],defers:=[] }) ?_ ?_)
 ·go_wp2
 ·rintro e a' w' ⟨rfl,rfl,t2,t3,t4,t5,t6,t7,t8,t9,t10,t11,t12,t13,t14,t15,t16,rfl⟩;have hbuilt:(Tryz.prog.built 25 []).getD #[]=Fl:=by kernel_rfl
  simp only [Exit.then];refine wp_region_lit <| wpList_build rfl 25 #[] rfl (by kernel_rfl) <| wpList_store_row rfl 25 (.tmp 0) (.tmp 16) rfl (pb+1) Fl rfl (by simp [Act.put,Act.eval,hbuilt]) 25 Fl h1' (by kernel_rfl) rfl (by simp [Fl];decide) ?_
  go_wp2
  have hset:=DW (v:=.bool false) h2'';have hsz:((w.alloc (.cells #[] 171)).setRow (pb+1) Fl).heap.size=w.heap.size+1:=by rw [setRow_size];simp
  rw [hset];refine ⟨rfl,_,rfl,.tuple #[],by simp [results,Tryz.results119],rfl,rfl,⟨rfl,rfl,rfl,?_,λb hb hb1 hb2=>?_⟩,?_,?_⟩
  ·simp [setRow_size]
  ·show (Array.setIfInBounds _ (pb+2) _)[b]?=_;rw [F8 (by omega),setRow_other _ _ _ _ hb1,CH w _ hb]
  ·show (Array.setIfInBounds _ (pb+2) _)[pb+1]?=_;rw [F8 (by omega)];have:=setRow_heap (w.alloc (.cells #[] 171)) (pb+1) Fl Fl _ _ h1';exact this
  ·show (Array.setIfInBounds _ (pb+2) _)[pb+2]?=_;rw [kA (by omega)]
def FD (w:World) (a b c d:Value):World:=(((w.alloc (.cells #[a,b,c,d] 25)).alloc (.cells Fl 25)).alloc (.cells #[.bool false] 4)).alloc (.cells #[.int .i64 12] 3)
theorem LS (sp a b c d:Value) (h1:a.oneCell'=true/\b.oneCell'=true/\c.oneCell'=true/\d.oneCell'=true) (w:World) (K:Value->World->Prop) (Kp:World->Prop)
  (hcall:Calls Tryz.prog 120 #[sp,.agg #[a,b,c,d],.pointer (some ⟨w.heap.size+3,0,none⟩)] (FD w a b c d) λe w'=>match e with
   | .returned u=>K u w'
   | .panicked chain=>chain=[{ v:=.iface 171 (.agg #[]),recovered:=false }]/\Kp w'
   | .outgrown=>False)
  (hK:∀u w',K u w'->(∃us:Array Value,u = .agg us/\us.size=4/\us.all (·.oneCell')=true)/\w'.heap[w.heap.size+1]?=some (.cells Fl 25 (0,0))/\w'.heap[w.heap.size+2]?=some (.cells #[.bool false] 4 (0,0)))
  (hKp:∀w',Kp w'->w'.heap[w.heap.size+1]?=some (.cells Fl 25 (0,0))/\w'.heap[w.heap.size+2]?=some (.cells #[.bool false] 4 (0,0))) :
  Calls Tryz.prog 58 #[sp,.agg #[a,b,c,d]] w λe w'=>(∃u w1,K u w1/\e = .returned (.tuple #[u,.bool true])/\rJ w.heap.size w1 w')\/(∃w1,Kp w1/\e = .returned (.tuple #[.agg Fl,.bool false])/\rJ w.heap.size w1 w'):=by
 go_enter_defers Tryz.func58,Tryz.ntmps58
 have xN:=wF
 go_wp2_with fail
 refine Calls.mono hcall ?_;intro e w' he;cases e with
 | outgrown=>exact he.elim
 | returned u =>
  obtain ⟨⟨us,rfl,hus,hone⟩,q1,q2⟩:=hK u w' he;have q2':(w'.setRow (w.heap.size+1) us).heap[w.heap.size+2]?=some (.cells #[.bool false] 4 (0,0)):=(setRow_other _ _ _ _ (by omega)).trans q2;have hcb:(w'.setRow (w.heap.size+1) us).cell? ⟨w.heap.size+1+1,0,none⟩=some (.bool false):=by unfold World.cell?;simp [q2']
  have hzb:(w'.setRow (w.heap.size+1) us).frozen? ⟨w.heap.size+1+1,0,none⟩=false:=by unfold World.frozen?;simp [q2']
  simp only;rename_i Kr hKr Ks hKs;apply hKs;refine wpList_store_row rfl 25 (.tmp 4) (.tmp 10) rfl (w.heap.size+1) us rfl rfl 25 Fl q1 ?_ (by rw [hus];rfl) hone ?_
  ·rw [hus];kernel_rfl
  go_wp2
  have hset:=DW (v:=.bool true) q2';have hsz:w.heap.size+2<w'.heap.size:=(Gu.1 q2).1;have hlo:(loadVar 25 ⟨w.heap.size+1,0,none⟩).run Tryz.prog ((w'.setRow (w.heap.size+1) us).setCell ⟨w.heap.size+1+1,0,none⟩ (.bool true)) = .ok (.agg us) ((w'.setRow (w.heap.size+1) us).setCell ⟨w.heap.size+1+1,0,none⟩ (.bool true)):=by
   obtain ⟨fs,hfs,_⟩:=(Ah 25 _ rfl).sh;refine run_loadVar_row _ _ 25 _ us (0,0) _ ?_ hfs rfl (by rw [hus];kernel_rfl);show ((w'.setRow (w.heap.size+1) us).setCell ⟨w.heap.size+2,0,none⟩ (.bool true)).heap[w.heap.size+1]?=_;rw [hset];show (Array.setIfInBounds _ (w.heap.size+2) _)[w.heap.size+1]?=_;rw [F8 (by omega)];exact setRow_heap w' (w.heap.size+1) Fl us _ _ q1
  have hlb:((w'.setRow (w.heap.size+1) us).setCell ⟨w.heap.size+1+1,0,none⟩ (.bool true)).cell? ⟨w.heap.size+1+1,0,none⟩=some (.bool true):=by
   show ((w'.setRow (w.heap.size+1) us).setCell ⟨w.heap.size+2,0,none⟩ (.bool true)).cell? ⟨w.heap.size+2,0,none⟩=_;rw [hset];unfold World.cell?;simp [setRow_size,hsz]
  have hlb2:(loadVar 4 ⟨w.heap.size+1+1,0,none⟩).run Tryz.prog ((w'.setRow (w.heap.size+1) us).setCell ⟨w.heap.size+1+1,0,none⟩ (.bool true)) = .ok (.bool true) ((w'.setRow (w.heap.size+1) us).setCell ⟨w.heap.size+1+1,0,none⟩ (.bool true)):=by simp [go_sem,hlb]
  refine leaves_cons (f:=119) (args:=#[.pointer (some ⟨w.heap.size+1,0,none⟩),.pointer (some ⟨w.heap.size+1+1,0,none⟩)]) (by simp) (by simp [go_sem]) <| (U8 _ _ _).mono ?_;rintro e u' w'' ⟨rfl,rfl,rfl⟩;simp [Leaves,settle,results,Tryz.results58,asAddr,hlo,hlb2];refine ⟨_,w',he,rfl,?_⟩;show rJ _ w' ((w'.setRow (w.heap.size+1) us).setCell ⟨w.heap.size+2,0,none⟩ (.bool true));rw [hset];refine ⟨rfl,rfl,rfl,by simp [setRow_size],λb hb hb1 hb2=>?_⟩;show (Array.setIfInBounds _ (w.heap.size+2) _)[b]?=_;rw [F8 (by omega),setRow_other _ _ _ _ hb1]
 | panicked chain =>
  obtain ⟨rfl,he⟩:=he;obtain ⟨q1,q2⟩:=hKp w' he;simp only;refine leaves_cons (f:=119) (args:=#[.pointer (some ⟨w.heap.size+1,0,none⟩),.pointer (some ⟨w.heap.size+1+1,0,none⟩)]) (by simp) (by simp [go_sem]) <| (Td w.heap.size _ q1 q2).mono ?_;rintro e u' w'' ⟨rfl,rfl,hn,p1,p2⟩;have hlo:(loadVar 25 ⟨w.heap.size+1,0,none⟩).run Tryz.prog w'' = .ok (.agg Fl) w'':=by
   obtain ⟨fs,hfs,_⟩:=(Ah 25 _ rfl).sh;exact run_loadVar_row _ _ 25 _ Fl (0,0) _ p1 hfs rfl (by kernel_rfl)
  have hlb:w''.cell? ⟨w.heap.size+1+1,0,none⟩=some (.bool false):=by unfold World.cell?;simp [p2]
  have hlb2:(loadVar 4 ⟨w.heap.size+1+1,0,none⟩).run Tryz.prog w'' = .ok (.bool false) w'':=by simp [go_sem,hlb]
  simp [Leaves,settle,results,Tryz.results58,asAddr,hlo,hlb2];exact ⟨w',he,hn⟩
end Go.Hk
namespace Go.Hk
section
variable {P:Program} {I J:Imm} {μ ν:Mu} {st:St} {ids:List Nat} {w w':World}
theorem G9:∀{st:St} {i:Nat} {b:Blk},Az st i b->i∈DJ st
 | [],i,b,h=>by simp [Az,lk] at h
 | (k,y)::r,i,b,h=>by
  by_cases hk:k=i
  ·subst hk;simp [DJ]
  ·have:Az r i b:=by unfold Az at h ⊢;rwa [A5 _ _ hk] at h
   simp only [DJ,Cz,CC];exact .inr (G9 this)
theorem StRep.restr (hst:StRep I μ st ids w) (hn:∀i∈Fj st,i∈DJ st) {l:List Nat} (hl:l.Nodup) (hf:∀i∈l,i∉DJ st) :
  ∃ν:Mu,(∀i∈DJ st,ν i=μ i)/\StRep I ν st l w/\∀b,Bg ν st b↔Bg μ st b:=by
 obtain ⟨ν,hν⟩:∃ν:Mu,ν=λi=>if EH (DJ st) i=true then μ i else none:=⟨_,rfl⟩
 have hν1:∀i∈DJ st,ν i=μ i:=λi hi=>by rw [hν];simp [BG.2 hi]
 refine ⟨ν,hν1,?_,λb=>?_⟩
 ·refine { imm:=hst.imm,blk:=λi b hl=>?_,apart:=λi bb g k hl hg hk=>hst.apart i bb g k hl (by rw [<- hν1 i (G9 hl)];exact hg) hk,inj:=λi j bi bj gi gj k hi hj hgi hgj=>hst.inj i j bi bj gi gj k hi hj (by rw [<- hν1 i (G9 hi)];exact hgi) (by rw [<- hν1 j (G9 hj)];exact hgj),nodup:=hl,idsFree:=λi hi=>?_ }
  ·obtain ⟨g,hg,hr⟩:=hst.blk i b hl;refine ⟨g,by rw [hν1 i (G9 hl)];exact hg,hr.sub λj hj g hgj=>?_⟩;rw [hν1 j (hn j ((Ez hl).2 j hj))];exact hgj
  ·rw [hν];have:=hf i hi;have hm:EH (DJ st) i=false:=by
    cases h:EH (DJ st) i with
    | false=>rfl
    | true=>exact absurd (BG.1 h) this
   simp [hm]
 ·constructor <;> rintro ⟨i,bi,g,h1,h2,h3⟩
  ·exact ⟨i,bi,g,h1,by rw [<- hν1 i (G9 h1)];exact h2,h3⟩
  ·exact ⟨i,bi,g,h1,by rw [hν1 i (G9 h1)];exact h2,h3⟩
end
end Go.Hk
namespace Go.Hk
open Go.Proofs
theorem Nu (w:World) (a b c d:Value):(FD w a b c d).heap.size=w.heap.size+4:=by simp [FD]
theorem Pb (w:World) (a b c d:Value) {i:Nat} (h:i<w.heap.size):(FD w a b c d).heap[i]?=w.heap[i]?:=by
 unfold FD;rw [CH _ _ (by simp;omega),CH _ _ (by simp;omega),CH _ _ (by simp;omega),CH _ _ h]
theorem Pa (w:World) (a b c d:Value):(FD w a b c d).heap[w.heap.size+1]?=some (.cells Fl 25 (0,0)):=by
 unfold FD;rw [CH _ _ (by simp),CH _ _ (by simp)];have:=Eh (w.alloc (.cells #[a,b,c,d] 25)) (.cells Fl 25);simpa using this
theorem R8 (w:World) (a b c d:Value):(FD w a b c d).heap[w.heap.size+2]?=some (.cells #[.bool false] 4 (0,0)):=by
 unfold FD;rw [CH _ _ (by simp)];have:=Eh ((w.alloc (.cells #[a,b,c,d] 25)).alloc (.cells Fl 25)) (.cells #[.bool false] 4);simpa using this
theorem Xd (m:Md) (T:List (Int×Ty)) (k:Int) (S:List Ty):(∀i∈Fj (C8 m T k S),i∈DJ (C8 m T k S))/\DJ (C8 m T k S)=[1,2,3]:=⟨EZ (a:=Fj (C8 m T k S)) (b:=DJ (C8 m T k S)) rfl,rfl⟩
theorem R5 {m:Md} {T:List (Int×Ty)} {k:Int} {S:List Ty} {I:Imm} {μ:Mu} {w:World} {sp a b c d:Value} {t:Ty} (hst:StRep I μ (C8 m T k S) [] w) (h1:RepD I μ sp (.ref 1 0)) (h2:RepV I (.agg #[a,b,c,d]) (.agg (dTyc t))) :
  ∃μ1:Mu,StRep I μ1 (Hr m T k S 12) [] (FD w a b c d)/\RepL I μ1 #[sp,.agg #[a,b,c,d],.pointer (some ⟨w.heap.size+3,0,none⟩)].toList [.ref 1 0,.imm (.agg (dTyc t)),.ref 4 0]/\Pin [1,2,3] μ μ1 /\
   (∀i,Bg μ1 (Hr m T k S 12) i->i=w.heap.size+3\/Bg μ (C8 m T k S) i)/\(∀i,Bg μ (C8 m T k S) i->i<w.heap.size)/\∀i,w.heap.size<=i->I i=none:=by
 obtain ⟨n1,n2⟩:=Xd m T k S;obtain ⟨ν,hν,hst1,hown⟩:=hst.restr (l:=[4]) n1 (by simp) (λi hi=>by rw [n2,AO.1 hi];decide);have hlt:∀i o,I i=some o->i<w.heap.size:=λi o h=>(Gu.1 (hst.imm i o h)).1;have hol:∀i,Bg μ (C8 m T k S) i->i<w.heap.size:=λi h=>DN hst h;obtain ⟨w3,hw3⟩:∃w3,w3=((w.alloc (.cells #[a,b,c,d] 25)).alloc (.cells Fl 25)).alloc (.cells #[.bool false] 4):=⟨_,rfl⟩
 have hsz3:w3.heap.size=w.heap.size+3:=by rw [hw3];simp
 have hold:∀i,i<w.heap.size->w3.heap[i]?=w.heap[i]?:=λi hi=>by
  rw [hw3,CH _ _ (by simp;omega),CH _ _ (by simp;omega),CH _ _ hi]
 have hst3:StRep I ν (C8 m T k S) [4] w3:=hst1.other (by omega) (λi o h=>hold i (hlt i o h)) (λi h=>hold i (hol i ((hown i).1 h)));have hws:FD w a b c d=w3.alloc (.cells #[.int .i64 12] 3):=by rw [hw3];rfl
 obtain ⟨μ1,g1,hle,hst4,_⟩:=hst3.allocO (.cells #[.int .i64 12] 3) (.pointer (some ⟨w3.heap.size,0,none⟩)) (λi hi=>hi.symm) (.immb 3 1 [.int .i64 12]) (λμ' _=>⟨rfl,w3.heap.size,#[.int .i64 12],rfl,Eh _ _,⟨rfl,λi v x p q=>by
   match i,p,q with
   | 0,p,q=>cases p;cases q;exact .int _ _
   | i+1,p,q=>simp at p⟩,λv hv=>by simp at hv;rw [hv];rfl⟩)
 have hpin:∀i∈[1,2,3],∀v,μ i=some v->μ1 i=some v:=λi hi v hv=>hle i v (by rw [hν i (by rw [n2];exact hi)];exact hv);refine ⟨μ1,by rw [hws];exact hst4,⟨rfl,λi v dd p q=>?_⟩,hpin,λi ⟨j,bj,g,q1,q2,q3⟩=>?_,hol,λi hi=>?_⟩
 ·match i,p,q with
  | 0,p,q =>
   cases p;cases q;cases h1 with
   | ref b id off hm=>exact .ref b 1 0 (hpin 1 (by decide) _ hm)
  | 1,p,q=>cases p;cases q;exact .imm _ _ h2
  | 2,p,q=>cases p;cases q;exact .ref _ 4 0 (by rw [<- hsz3];exact g1)
  | i+3,p,q=>simp at p
 ·rcases A9.1 q1 with ⟨rfl,rfl⟩ | ⟨hne,q1⟩
  ·rw [g1] at q2;cases q2;left;have:w3.heap.size=i:=q3;omega
  ·right;have hj:=G9 q1;obtain ⟨g0,hg0,_⟩:=hst3.blk j bj q1;have:=hle j g0 hg0;rw [q2] at this;cases this;exact (hown i).1 ⟨j,bj,g,q1,hg0,q3⟩
 ·cases h:I i with
  | none=>rfl
  | some o=>have:=hlt i o h;omega
theorem OY {I:Imm} {μ:Mu} {xs:Array Value} {t:Ty} (hxs:RepL I μ xs.toList [.ref 1 0,.imm (.agg (dTyc t))]) :
  ∃sp a b c d,xs = #[sp,.agg #[a,b,c,d]]/\RepD I μ sp (.ref 1 0)/\RepV I (.agg #[a,b,c,d]) (.agg (dTyc t))/\a.oneCell'=true/\b.oneCell'=true/\c.oneCell'=true/\d.oneCell'=true:=by
 obtain ⟨l,rfl⟩:∃l:List Value,xs=l.toArray:=⟨xs.toList,by simp⟩
 rw [LL] at hxs
 match l,hxs with
 | [v,u],hxs =>
  have h1:=hxs.2 0 v _ rfl rfl;have h2:=(hxs.2 1 u _ rfl rfl).immInv;have key:∀u,RepV I u (.agg (dTyc t))->∃a b c d,u = .agg #[a,b,c,d]/\a.oneCell'=true/\b.oneCell'=true/\c.oneCell'=true/\d.oneCell'=true:=λu hu=>by
   cases hu with
   | agg cs _ hl h1 _ =>
    have hl4:cs.toList.length=4:=by rw [Sp,hl];obtain ⟨t1,t2,t3,t4⟩:=t;rfl
    obtain ⟨l,rfl⟩:∃l:List Value,cs=l.toArray:=⟨cs.toList,by simp⟩
    rw [LL] at hl4 h1
    match l,hl4,h1 with
    | [a,b,c,d],_,h1=>exact ⟨a,b,c,d,rfl,h1 a (by simp),h1 b (by simp),h1 c (by simp),h1 d (by simp)⟩
  obtain ⟨a,b,c,d,rfl,q⟩:=key u h2;exact ⟨v,a,b,c,d,rfl,h1,h2,q⟩
 | [],hxs=>exact absurd hxs.1 (by simp)
 | [_],hxs=>exact absurd hxs.1 (by simp)
 | _::_::_::_,hxs=>exact absurd hxs.1 (by simp)
theorem bC {m:Md} {T:List (Int×Ty)} {k:Int} {S:List Ty} {t u:Ty} {c':Int} (hF:QY m T k S t 12 u c') :
  AK Tryz.prog 58 [.ref 1 0,.imm (.agg (dTyc t))] (C8 m T k S) (.ret (.imm (.tup [.agg (dTyc u),.bool true])) (C8 m T k S)):=by
 intro I μ w xs hst hxs;obtain ⟨sp,a,b,c,d,rfl,h1,h2,hone⟩:=OY hxs;obtain ⟨μ1,hst1,hx1,hpin,hown,hol,hIn⟩:=R5 hst h1 h2;rw [Bq Tryz.func58 (by decide +kernel) rfl];unfold QY at hF;have hcall:=hF I μ1 _ _ hst1 hx1;rw [Bq Tryz.func120 (by decide +kernel) rfl] at hcall;show Calls Tryz.prog _ _ w _;have hno1:¬Bg μ1 (Hr m T k S 12) (w.heap.size+1):=λh=>by
  rcases hown _ h with h | h
  ·omega
  ·have:=hol _ h;omega
 have hno2:¬Bg μ1 (Hr m T k S 12) (w.heap.size+2):=λh=>by
  rcases hown _ h with h | h
  ·omega
  ·have:=hol _ h;omega
 have hws:=Nu w a b c d;refine Calls.mono (LS sp a b c d hone w (λv w'=>∃I' μ',RepD I' μ' v (.imm (.agg (dTyc u)))/\StRep I' μ' (Hr m T k S c') [] w'/\Pin (DJ (Hr m T k S 12)) μ1 μ'/\Ext I μ1 (Hr m T k S 12) (FD w a b c d) I' μ' (Hr m T k S c') w') (λ_=>False) (Calls.mono hcall λe w' he=>?_) (λv w' ⟨I',μ',q1,q2,q3,q4⟩=>⟨?_,?_,?_⟩) (λ_ h=>h.elim)) ?_
 ·cases e with
  | returned v=>exact he
  | panicked=>exact he.elim
  | outgrown=>exact he.elim
 ·have key:∀v,RepV I' v (.agg (dTyc u))->∃us:Array Value,v = .agg us/\us.size=4/\us.all (·.oneCell')=true:=λv hv=>by
   cases hv with
   | agg cs _ hl h1 _=>exact ⟨cs,rfl,by rw [hl];obtain ⟨u1,u2,u3,u4⟩:=u;rfl,by rw [Array.all_eq_true_iff_forall_mem];exact λx hx=>h1 x (by simpa using hx)⟩
  exact key v q1.immInv
 ·exact (q4.block _ (by omega) hno1).trans (Pa w a b c d)
 ·exact (q4.block _ (by omega) hno2).trans (R8 w a b c d)
 ·rintro e w2 (⟨v,w1,⟨I',μ',q1,q2,q3,q4⟩,rfl,n1,n2,n3,n4,n5⟩ | ⟨_,hx,_⟩)
  ·have hI1:I' (w.heap.size+1)=none:=(q4.old _ (by omega) hno1).trans (hIn _ (by omega));have hI2:I' (w.heap.size+2)=none:=(q4.old _ (by omega) hno2).trans (hIn _ (by omega));have hsub:∀i bi,Az (C8 m T k S) i bi->Az (Hr m T k S c') i bi:=λi bi hl=>A9.2 (.inr ⟨λe=>by
    have:=G9 hl;rw [(Xd m T k S).2] at this;simp only [CC,KY,or_false] at this;omega,hl⟩)
   have hosub:∀i,Bg μ' (C8 m T k S) i->Bg μ' (Hr m T k S c') i:=λi ⟨j,bj,g,p1,p2,p3⟩=>⟨j,bj,g,hsub j bj p1,p2,p3⟩
   have hfr:∀i,Bg μ' (Hr m T k S c') i->i≠w.heap.size+1/\i≠w.heap.size+2:=λi hi=>⟨λe=>hno1 (e ▸ q4.fresh i (by omega) hi),λe=>hno2 (e ▸ q4.fresh i (by omega) hi)⟩
   refine ⟨I',μ',?_,?_,?_,?_⟩
   ·refine .imm _ _ (.tup _ _ rfl λi y x p q=>?_)
    match i,p,q with
    | 0,p,q=>cases p;cases q;exact q1.immInv
    | 1,p,q=>cases p;cases q;exact .bool true
    | i+2,p,q=>simp at p
   ·refine (q2.less hsub .nil (λi hi=>by cases hi)).other n4 (λi o h=>?_) (λi h=>?_)
    ·exact n5 i (Gu.1 (q2.imm i o h)).1 (λe=>by rw [e,hI1] at h;cases h) (λe=>by rw [e,hI2] at h;cases h)
    ·have:=hfr i (hosub i h);exact n5 i (DN q2 (hosub i h)) this.1 this.2
   ·intro i hi x hx;rw [(Xd m T k S).2] at hi;exact q3 i (H3 _ hi) x (hpin i hi x hx)
   ·have hnot:∀i,i<w.heap.size->¬Bg μ (C8 m T k S) i->¬Bg μ1 (Hr m T k S 12) i:=λi hi ho h=>by
     rcases hown i h with h | h
     ·omega
     ·exact ho h
    exact { imm:=q4.imm,os:=n1.trans q4.os,tape:=n2.trans q4.tape,output:=n3.trans q4.output,size:=by have:=q4.size;omega,
            block:=λi hi ho=>(n5 i (by have:=q4.size;omega) (by omega) (by omega)).trans ((q4.block i (by omega) (hnot i hi ho)).trans (Pb w a b c d hi)),
            fresh:=λi hi ho=>(hown i (q4.fresh i (by omega) (hosub i ho))).elim (λe=>by omega) id,
            old:=λi hi ho=>q4.old i (by omega) (hnot i hi ho) }
  ·exact hx.elim
theorem fU {m:Md} {T:List (Int×Ty)} {k:Int} {S:List Ty} {t:Ty} (hF:Uz m T k S t 12) :
  AK Tryz.prog 58 [.ref 1 0,.imm (.agg (dTyc t))] (C8 m T k S) (.ret (.imm (.tup [.agg (dTyc F5),.bool false])) []):=by
 intro I μ w xs hst hxs;obtain ⟨sp,a,b,c,d,rfl,h1,h2,hone⟩:=OY hxs;obtain ⟨μ1,hst1,hx1,hpin,hown,hol,hIn⟩:=R5 hst h1 h2;rw [Bq Tryz.func58 (by decide +kernel) rfl];unfold Uz at hF;have hcall:=hF I μ1 _ _ hst1 hx1;rw [Bq Tryz.func120 (by decide +kernel) rfl] at hcall;show Calls Tryz.prog _ _ w _;have hno1:¬Bg μ1 (Hr m T k S 12) (w.heap.size+1):=λh=>by
  rcases hown _ h with h | h
  ·omega
  ·have:=hol _ h;omega
 have hno2:¬Bg μ1 (Hr m T k S 12) (w.heap.size+2):=λh=>by
  rcases hown _ h with h | h
  ·omega
  ·have:=hol _ h;omega
 have hws:=Nu w a b c d;refine Calls.mono (LS sp a b c d hone w (λ_ _=>False) (λw'=>∃I',I'.ok w'/\Ext I μ1 (Hr m T k S 12) (FD w a b c d) I' μ1 [] w') (Calls.mono hcall λe w' he=>?_) (λ_ _ h=>h.elim) (λw' ⟨I',q2,q4⟩=>⟨?_,?_⟩)) ?_
 ·cases e with
  | returned v=>exact he.elim
  | panicked chain =>
   obtain ⟨v,x,I',e1,e2,e3,e4,e5⟩:=he;subst e2;have key:∀v,RepV I' v kT->v = .iface 171 (.agg #[]):=λv hv=>by
    cases hv with
    | iface _ v' _ hv =>
     cases hv with
     | agg cs _ hl _ _ =>
      have:cs = #[]:=XS (by simpa using hl);subst this;rfl
   rw [key v e3] at e1;exact ⟨e1,I',e4,e5⟩
  | outgrown=>exact he.elim
 ·exact (q4.block _ (by omega) hno1).trans (Pa w a b c d)
 ·exact (q4.block _ (by omega) hno2).trans (R8 w a b c d)
 ·rintro e w2 (⟨_,_,hx,_⟩ | ⟨w1,⟨I',q2,q4⟩,rfl,n1,n2,n3,n4,n5⟩)
  ·exact hx.elim
  ·have hI1:I' (w.heap.size+1)=none:=(q4.old _ (by omega) hno1).trans (hIn _ (by omega));have hI2:I' (w.heap.size+2)=none:=(q4.old _ (by omega) hno2).trans (hIn _ (by omega));have hnot:∀i,i<w.heap.size->¬Bg μ (C8 m T k S) i->¬Bg μ1 (Hr m T k S 12) i:=λi hi ho h=>by
    rcases hown i h with h | h
    ·omega
    ·exact ho h
   refine ⟨I',μ,?_,?_,Pin.refl _ _,?_⟩
   ·refine .imm _ _ (.tup _ _ rfl λi y x p q=>?_)
    match i,p,q with
    | 0,p,q =>
     cases p;cases q;exact Ht I'
    | 1,p,q=>cases p;cases q;exact .bool false
    | i+2,p,q=>simp at p
   ·exact { imm:=λi o h=>(n5 i (Gu.1 (q2 i o h)).1 (λe=>by rw [e,hI1] at h;cases h) (λe=>by rw [e,hI2] at h;cases h)).trans (q2 i o h),blk:=λid blk hl=>(by cases hl),apart:=λid blk g b hl=>(by cases hl),inj:=λi j bi bj gi gj b hl=>(by cases hl),nodup:=.nil,idsFree:=λid hi=>(by cases hi) }
   ·exact { imm:=q4.imm,os:=n1.trans q4.os,tape:=n2.trans q4.tape,output:=n3.trans q4.output,size:=by have:=q4.size;omega,
            block:=λi hi ho=>(n5 i (by have:=q4.size;omega) (by omega) (by omega)).trans ((q4.block i (by omega) (hnot i hi ho)).trans (Pb w a b c d hi)),
            fresh:=λi hi ⟨j,bj,g,hl,_⟩=>(by cases hl),
            old:=λi hi ho=>q4.old i (by omega) (hnot i hi ho) }
theorem Gc (m:Md) (k:Int):AK Tryz.prog 54 [.imm (.agg (El m)),.imm (.int .i64 k)] [] (.ret (.ref 1 0) (C8 m [] k [])):=by
 obtain ⟨m1,m2,m3⟩:=m;exact Ac Ah Tryz.func54 (by decide +kernel) rfl [4,2,1,3,5,6] rfl rfl <| Ai rfl <| Ei rfl <| M5 4 rfl (by simp) <| DH 1 3 (e:=25) (sz:=4) [.imm (.str m1),.imm (.sl (m2.map CK)),.imm (.sl (m3.map CG)),.mapr 2,.imm (.int .i64 k),.own 3 0] (by decide) rfl ⟨.inl rfl,.inl rfl,.inl rfl,.inl rfl,.inl rfl,.inr ⟨rfl,rfl⟩,trivial⟩ <| Aq rfl <| Ag ⟨_,Bx⟩
mutual
theorem PA:∀t:Ty,Bv t=Ek t
 | .mk _ _ _ ps=>by simp only [Bv,Ek,Sf ps]
theorem Sf:∀ps:List Ty,A0 ps=Dx ps
 | []=>rfl
 | t::r=>by simp only [A0,Dx,PA t,Sf r]
end
theorem eN {t:Ty} (h:AH true t=true):Ek t<=12:=by
 simp only [AH,A1,decide_eq_true_eq] at h;rw [<- PA];exact h.1
theorem R6 {m:Md} {T:List (Int×Ty)} {k:Int} {S:List Ty} {θ:Int->Ty} (hs:Sol (B6 T) θ) {t:Ty} (hw:Cl t=true) :
  (Ek (A7 θ t)<=12->AK Tryz.prog 58 [.ref 1 0,.imm (.agg (dTyc t))] (C8 m T k S) (.ret (.imm (.tup [.agg (dTyc (A7 θ t)),.bool true])) (C8 m T k S))) /\
  (12<Ek (A7 θ t)->AK Tryz.prog 58 [.ref 1 0,.imm (.agg (dTyc t))] (C8 m T k S) (.ret (.imm (.tup [.agg (dTyc F5),.bool false])) [])):=by
 obtain ⟨h1,h2⟩:=mC m T k S hs _ t (B8 _) hw 12 (by omega) (by omega);exact ⟨λh=>bC (h1 (by omega)),λh=>fU (h2 (by omega))⟩
def cS:List (Int×Ty)->Int
 | []=>-1
 | p::r=>max p.1 (cS r)
theorem jM {x:Int}:∀{T:List (Int×Ty)},(∀p∈T,p.1<=x)->(x = -1\/∃p∈T,p.1=x)->(∀p∈T,0<=p.1) -> -1<=x->cS T=x:=by
 have hle:∀{T:List (Int×Ty)},-1<=x->(∀p∈T,p.1<=x)->cS T<=x:=λ{T} hx h=>by
  induction T with
  | nil=>simpa [cS] using hx
  | cons p r ih=>simp only [cS];have:=h p (by simp);have:=ih λq hq=>h q (by simp [hq]);omega
 have hge:∀{T:List (Int×Ty)},(∃p∈T,p.1=x)->x<=cS T:=λ{T} h=>by
  induction T with
  | nil=>obtain ⟨p,hp,_⟩:=h;cases hp
  | cons p r ih =>
   obtain ⟨q,hq,e⟩:=h;simp only [cS];rcases CC.1 hq with rfl | hq
   ·omega
   ·have:=ih ⟨q,hq,e⟩;omega
 have hm1:∀{T:List (Int×Ty)},-1<=cS T:=λ{T}=>by
  induction T with
  | nil=>simp [cS]
  | cons p r ih=>simp only [cS];omega
 intro T h1 h2 h3 h4;have:=hle h4 h1;rcases h2 with rfl | h2
 ·have:=@hm1 T;omega
 ·have:=hge h2;omega
noncomputable def gC (T:List (Int×Ty)) (θ:Int->Ty):List Ty:=(List.range (cS T+1).toNat).map λi:Nat=>θ i
def Fk (n:Int):V:=.int .i64 n
theorem YA (a b:Ty) (h:(AH true a&&AH true b)=false):Al Tryz.prog 13 [.agg (dTyc a),.agg (dTyc b)] (.tup [.sl [],Fk 2]):=by
 have hK:=Er [a,b];simp only [Da,HH,HG] at hK;rw [h] at hK;obtain ⟨a1,a2,a3,a4⟩:=a;obtain ⟨b1,b2,b3,b4⟩:=b;refine Ac Ah Tryz.func13 (by decide +kernel) rfl [5,6,1,2,3,4] rfl rfl <| Ai rfl <| Af rfl hK <| Ai rfl <| Aa rfl (λh=>?_) (λh=>by exfalso;simp at h);exact Aq rfl <| Ab rfl rfl rfl
def pO:Md:=⟨[],[],[]⟩
theorem ZK {I:Imm} {μ:Mu} {v:Value} (h:RepD I μ v .nils):RepV I v (.sl []):=by
 cases h;exact .slnil
theorem pN {I:Imm} {μ:Mu} {v:Value} (h:RepD I μ v (.agg [.imm (.str []),.nils,.nils])):RepD I μ v (.imm (.agg (El pO))):=by
 cases h with
 | agg cs _ hl h1 h =>
  refine .imm _ _ (.agg cs _ hl h1 λi c x hc hx=>?_)
  match i,hx with
  | 0,hx=>cases hx;exact (h 0 c _ hc rfl).immInv
  | 1,hx=>cases hx;exact ZK (h 1 c _ hc rfl)
  | 2,hx=>cases hx;exact ZK (h 2 c _ hc rfl)
  | i+3,hx=>simp [El] at hx
theorem K9:AK Tryz.prog 54 [.agg [.imm (.str []),.nils,.nils],.imm (.int .i64 0)] [] (.ret (.ref 1 0) (C8 pO [] 0 [])):=λI μ w xs hst hx=>Gc pO 0 I μ w xs hst ⟨hx.1,λi v d p q=>by
 match i,q with
 | 0,q=>cases q;exact pN (hx.2 0 v _ p rfl)
 | 1,q=>cases q;exact hx.2 1 v _ p rfl
 | i+2,q=>simp at q⟩
theorem eA (a b:Ty) (h:(AH true a&&AH true b)=true) (hE:D8 pO [] 0 [] a b):Al Tryz.prog 13 [.agg (dTyc a),.agg (dTyc b)] (.tup [.sl [],Fk 7]):=by
 have hK:=Er [a,b];simp only [Da,HH,HG] at hK;rw [h] at hK;have hS:=K9;have hH:=J4 Tryz.func55 (by decide +kernel) rfl Fe Tryz.func56 (by decide +kernel) rfl (df:=[]) (dc:=[.ref 4 0,.ref 5 0,.ref 6 0]) (bH hE);obtain ⟨a1,a2,a3,a4⟩:=a;obtain ⟨b1,b2,b3,b4⟩:=b;refine Ac Ah Tryz.func13 (by decide +kernel) rfl [5,6,1,2,3,4,7] rfl rfl <| Ai rfl <| Af rfl hK <| Ai rfl <| Aa rfl (λh=>by exfalso;simp at h) (λh=>?_)
 refine Aq rfl <| Ad (fr:=[1,2,3]) [] [(1,1),(2,2),(3,3)] rfl (by simp) hS trivial rfl rfl rfl rfl <| Ai rfl <| Ad (fr:=[]) [(1,1),(2,2),(3,3),(4,4),(5,5),(6,6)] [] rfl (by simp) hH ⟨⟨rfl,rfl,rfl⟩,⟨rfl,rfl,rfl⟩,⟨rfl,rfl,rfl⟩,⟨rfl,rfl,rfl⟩,⟨rfl,rfl,rfl⟩,⟨rfl,rfl,rfl⟩,trivial⟩ rfl rfl rfl rfl <| Ai rfl <| Aa rfl (λh=>?_) (λh=>by exfalso;simp at h);exact Aq rfl <| Ab rfl rfl rfl
theorem Xj {vs:List Value} {I J:Imm} {w:World} {bs:List Nat} {v:Value} {ks:List Tr} {f n:Int} {x:Str} {ps:List Ty} (his:Ie ks ps) (h:(Fa v ks).P vs I w bs) (hle:I.le J) (hJ:∀b∈bs,J b=w.heap[b]?) (cs:List Value) (hc:RepL J noMu cs [.imm (.int .i64 f),.imm (.int .i64 n),.imm (.str x),.raw v]):RepVL J cs (dTyc (.mk f n x ps)):=by
 obtain ⟨h1,h2,h3,h4⟩:=h;have hv:RepV J v (.sl (A2 ps)):=UY h1 h2 (λk hk=>hJ k (by rw [h3];simp [hk])) his λi a t ha ht =>
  ZP ((Id.1 his).2 i a t ha ht) (EK.1 h2 i a ha).2 λk hk=>hJ k (by rw [h3];simp only [BH];exact .inr (LH.2 ⟨a,AF ha,hk⟩))
 obtain ⟨l1,l2⟩:=hc;refine ⟨l1,λi c y hi hy=>?_⟩
 match i,hy with
 | 0,hy=>cases hy;exact (l2 0 c _ hi rfl).immInv
 | 1,hy=>cases hy;exact (l2 1 c _ hi rfl).immInv
 | 2,hy=>cases hy;exact (l2 2 c _ hi rfl).immInv
 | 3,hy =>
  cases hy;have:=l2 3 c _ hi rfl;cases this with
  | raw _ _=>exact hv
 | i+4,hy=>simp at hy
def infE:Env:=[(3,.ref 11 0),(5,.ref 12 0),(6,.ref 13 0),(8,.ref 14 0),(9,.ref 18 0)]
def M2 (m:Md) (t:Tm) (Γ:Ax) (stay:List Int) (out:V):Prop :=
 DGo Tryz.prog Tryz.f26.ntmps (DJ []) (Kv WS Tryz.f26.results.toList (.ret (.imm out) [])) [.code (FV Tryz.f26 5)] infE (ZT m t Γ stay) [1,2,3,21,22,4,23,24,25,26,27]
theorem S8 (m:Md) (t:Tm) (Γ:Ax) (stay:List Int) (hE:AK Tryz.prog 78 [.ref 5 0,.ref 6 0,.ref 7 0,.ref 8 0] (VS m Γ t [] 0 [] (dTyc F5)) (.pan FO)):M2 m t Γ stay (.tup [.agg (dTyc F5),Fk 7]):=by
 have hS:=Gc m 0;have hH:=J4 Tryz.func55 (by decide +kernel) rfl Fe Tryz.func78 (by decide +kernel) rfl (df:=[]) (dc:=[.ref 5 0,.ref 6 0,.ref 7 0,.ref 8 0]) hE;clear hE;obtain ⟨m1,m2,m3⟩:=m;obtain ⟨t1,t2,t3,t4,t5⟩:=t;unfold M2;refine Aq rfl <| Ad (fr:=[1,2,3]) [] [(1,1),(2,2),(3,3)] rfl (by simp) hS trivial rfl rfl rfl rfl <| M5 6 rfl (by simp) <| QA 22 (t:=25) (sz:=4) (ds:=[.imm (.int .i64 0),.imm (.int .i64 0),.imm (.str []),.nils]) (dTyc F5) rfl rfl <| Aq rfl <| Ad (fr:=[]) [(1,1),(2,2),(3,3),(21,5),(12,6),(14,7),(22,8)] [] rfl (by simp) hH UU rfl rfl rfl rfl <| Ai rfl <| Aa rfl (λh=>?_) (λh=>by exfalso;simp at h);exact Aq rfl <| Ab rfl rfl rfl
mutual
theorem ZZ:∀(t:Ty) (l:List Int),(Dn t l).length<=l.length+Ek t
 | .mk f n x ps,l=>by
  simp only [Dn,Ek]
  split
  ·split
   ·omega
   ·simp only [Bw,Dh,BX];omega
  ·have:=Wc ps l;omega
theorem Wc:∀(ts:List Ty) (l:List Int),(BY ts l).length<=l.length+Dx ts
 | [],l=>by simp [BY]
 | t::r,l=>by
  simp only [BY,Dx];have h1:=ZZ t l;have h2:=Wc r (Dn t l);omega
end
noncomputable def NT (stay:List Int) (u:Ty):V :=
 if Ek u<=12 then (if AH true (FZ stay (Dn u []) u)=true then .tup [.agg (dTyc (FZ stay (Dn u []) u)),Fk 0] else .tup [.agg (dTyc F5),Fk 3]) else .tup [.agg (dTyc F5),Fk 3]
theorem VP (m:Md) (t:Tm) (Γ:Ax) (stay:List Int) {τ:Ty} {T:List (Int×Ty)} {k:Int} {S:List Ty} (hE:AK Tryz.prog 78 [.ref 5 0,.ref 6 0,.ref 7 0,.ref 8 0] (VS m Γ t [] 0 [] (dTyc F5)) (.ret (.imm (.tup [])) (sN m Γ t T k S (dTyc τ))))
  {θ:Int->Ty} (hs:Sol (B6 T) θ) (hw:Cl τ=true) (hst:stay.length<=1000000):M2 m t Γ stay (NT stay (A7 θ τ)):=by
 have hS:=Gc m 0;have hH:=Ih Tryz.func55 (by decide +kernel) rfl Fe Tryz.func78 (by decide +kernel) rfl (df:=[]) (dc:=[.ref 5 0,.ref 6 0,.ref 7 0,.ref 8 0]) hE;clear hE;obtain ⟨w1,w2⟩:=R6 (m:=m) (k:=k) (S:=S) hs hw;have huw:Cl (A7 θ τ)=true:=U6 (λn=>hs.wfθ n) _ hw;clear hs hw;generalize A7 θ τ=u at *;unfold NT;obtain ⟨m1,m2,m3⟩:=m;obtain ⟨t1,t2,t3,t4,t5⟩:=t;obtain ⟨a1,a2,a3,a4⟩:=τ;unfold M2
 refine Aq rfl <| Ad (fr:=[1,2,3]) [] [(1,1),(2,2),(3,3)] rfl (by simp) hS trivial rfl rfl rfl rfl <| M5 6 rfl (by simp) <| QA 22 (t:=25) (sz:=4) (ds:=[.imm (.int .i64 0),.imm (.int .i64 0),.imm (.str []),.nils]) (dTyc F5) rfl rfl <| Aq rfl <| Ad (fr:=[4]) [(1,1),(2,2),(3,3),(21,5),(12,6),(14,7),(22,8)] [(4,4)] rfl (by simp) hH UU rfl rfl rfl rfl <| Ai rfl <| Aa rfl (λh=>by exfalso;simp at h) (λh=>?_);refine Aq rfl ?_;by_cases hsz:Ek u<=12
 ·have hW:=w1 hsz;have hC:=Qg u huw;have hgl:(Dn u []).length<=1000000:=by have:=ZZ u [];simp at this;omega
  have hN:=jD stay hst u [] huw hgl;have hF:=Er [FZ stay (Dn u []) u];simp only [Da,HH,HG] at hF;rw [if_pos hsz];unfold fK at hN;have e0:tkL stay []=stay:=by simp [tkL]
  have e1:nbS stay []=[(1,some (.cells 123 2 [.mapr 2,.mapr 3])),(2,some (.map (D7 stay))),(3,some (.map []))]:=by rw [nbS,e0];rfl
  rw [e1] at hN;obtain ⟨nb,hnb⟩:∃x,nbS stay (Dn u [])=[(1,some (.cells 123 2 [.mapr 2,.mapr 3])),(2,some (.map x.1)),(3,some (.map x.2))]:=⟨(_,_),rfl⟩
  rw [hnb] at hN;generalize FZ stay (Dn u []) u=v at *;generalize hfo:AH true v=fo at *;clear w1 w2 e0 e1 hgl huw hnb hH;obtain ⟨u1,u2,u3,u4⟩:=u;obtain ⟨v1,v2,v3,v4⟩:=v;refine Ad (fr:=[]) [(1,1),(2,2),(4,3)] [] rfl (by simp) hW Au rfl rfl rfl rfl <| Ai rfl <| Aa rfl (λh=>by exfalso;simp at h) (λh=>?_)
  refine Aq rfl <| A4 (fr:=[24]) [] [(1,24)] [] (nm:=[24]) rfl trivial (by simp) hC trivial rfl trivial rfl rfl rfl <| Ai rfl <| A4 (fr:=[25]) [(17,1),(15,2),(16,3),(24,4)] [(5,25)] [] (nm:=[17,15,16,25,17,15,16,24]) rfl trivial (by simp) hN Jg rfl trivial rfl rfl rfl <| M5 3 rfl (by simp;rfl) <| Q9 (ids':=[27]) 25 26 (λx:Value×{ ks:List Tr // Ie ks v4 }=>[x.1]) (λx=>Fa x.1 x.2.1) rfl (λvs I w bs h=>by obtain ⟨v,ks,h1,h2,h3⟩:=h;exact ⟨(v,⟨ks,h1⟩),h2,h3⟩) λy=>?_;obtain ⟨vv,⟨ks,his⟩⟩:=y;refine Un 26 23 (dTyc (.mk v1 v2 v3 v4)) rfl rfl (λvs I J w bs h1 h2 h3 cs hc=>Xj his h1 h2 h3 cs hc) rfl <| Aq rfl <| Af rfl hF <| Ai rfl ?_;cases fo with
  | false =>
   refine Aa rfl (λh=>?_) (λh=>by exfalso;simp at h);exact Aq rfl <| Ab rfl rfl rfl
  | true =>
   refine Aa rfl (λh=>by exfalso;simp at h) (λh=>?_);exact Aq rfl <| Ab rfl rfl rfl
 ·have hW:=w2 (by omega);rw [if_neg hsz];refine Ad (fr:=[]) [(1,1),(2,2),(4,3)] [] rfl (by simp) hW Au rfl rfl rfl rfl <| Ai rfl <| Aa rfl (λh=>?_) (λh=>by exfalso;simp at h);exact Aq rfl <| Ab rfl rfl rfl
def LY (m:Md) (Γ:Ax) (t:Tm):Bool:=K3 m&&decide (Γ.length<=20)&&Γ.all Ug&&JF t
theorem MU (m:Md) (Γ:Ax) (t:Tm) (h:LY m Γ t=true) (hw:∀p∈Γ,Cl p.2=true) {out:V} (hT:M2 m t (Lg Γ) (FX Γ []) out):Al Tryz.prog 26 [.agg (El m),.sl (Dq Γ),.agg (Bo t)] out:=by
 have hM:=Ho m;have hA:=lI Γ 72 Ug λp _=>YC p;have hC:=WP t;unfold LY at h;simp only [A1,decide_eq_true_eq] at h;obtain ⟨⟨⟨q1,q2⟩,q3⟩,q4⟩:=h;unfold Rv at hM hC;rw [q1] at hM;rw [q3] at hA;rw [q4] at hC;clear q1 q3 q4;have hlen:(Dq Γ).length=Γ.length:=dKns_length Γ;obtain ⟨m1,m2,m3⟩:=m;obtain ⟨t1,t2,t3,t4,t5⟩:=t;refine Ac Ah Tryz.func26 (by decide +kernel) rfl [11,12,13,14,15,16,17,18,19,6,1,2,3,4,21,22,23,24,25,26,27] rfl rfl <| Ai rfl <| Af rfl hM <| BU rfl <| Bz rfl hA <| BU rfl <| Bz rfl hC <| BU rfl <| Aa rfl (λhh=>?_) (λhh=>?_)
 ·exfalso;rw [hlen] at hh;have:decide ((20:Int)<Γ.length)=false:=decide_eq_false (by omega);simp [this] at hh
 refine Aq rfl <| Ei rfl <| Ai rfl <| Ei rfl <| M5 6 rfl (by simp) <| QA 14 (t:=118) (sz:=1) (ds:=[.nils]) [.sl []] rfl rfl <| Aq rfl <| Ak (λi:Nat=>wG Γ i) (λi=>ZT ⟨m1,m2,m3⟩ (.mk t1 t2 t3 t4 t5) (Lg (Γ.take i)) (FX (Γ.take i) [])) [19,6,1,2,3,21,22,4,23,24,25,26,27] (λi=>Γ.length-i) (λi=>i<=Γ.length) 0 (AL _)
  ⟨rfl,AA (by simp),Gq⟩ P1 rfl λi hi ih=>?_
 refine Aq rfl <| Aa rfl (λh=>?_) (λh=>?_)
 ·have hlt:i<Γ.length:=by simp at h;omega
  obtain ⟨p,hp⟩:=Ao hlt;have hg:=QI hp;have hpm:=AF hp;have hF:=VE p.2 (hw p hpm);have hW:=Jx (Lg (Γ.take i)) p.1 (Fv p.2) (by simp [Lg];omega);have hN:=Su p.2;have hih:=ih (i+1) (by omega) (by omega);have hgv:=UE p.2 (FX (Γ.take i) []) (hw p hpm);have hst:FX (Γ.take (i+1)) []=Dn p.2 (FX (Γ.take i) []):=by rw [Be hp,Pl]
  have hfr:Lg (Γ.take (i+1))=Lg (Γ.take i)++[(p.1,Fv p.2)]:=by rw [Be hp,eM]
  rw [hst,hfr] at hih;clear ih hst hfr hM hA hC;generalize FX (Γ.take i) []=l at *;generalize Lg (Γ.take i)=Γ1 at *;obtain ⟨y,tp⟩:=p;simp only at hF hW hN hih hgv;generalize Γ1++[(y,Fv tp)]=Γ2 at *;obtain ⟨tf,htf⟩:∃x,Fv tp=x:=⟨_,rfl⟩
  rw [htf] at hF hW;obtain ⟨f1,f2,f3,f4⟩:=tf;obtain ⟨p1,p2,p3,p4⟩:=tp;refine Aq rfl <| yi rfl (c:=WU (y,.mk p1 p2 p3 p4)) (λ_=>⟨by simp,by simpa using hg,by simp⟩) (by simp) <| Ai rfl <| Af rfl hF <| Ai rfl <| Af rfl hW <| yg [] rfl (by simp;rfl) <| Ad (st0:=[]) (fr:=[6]) [] [(6,6)] rfl (by simp) hN trivial rfl rfl rfl rfl <| Ai rfl <| Ni (y:=3) (j:=4) (j2:=5) (stc:=FB (.mk p1 p2 p3 p4)) (stc':=FB (.mk p1 p2 p3 p4)) (stx:=ZT ⟨m1,m2,m3⟩ (.mk t1 t2 t3 t4 t5) Γ2 l) (stB:=ZT ⟨m1,m2,m3⟩ (.mk t1 t2 t3 t4 t5) Γ2 ((Gn (.mk p1 p2 p3 p4)).foldl pL l)) (pend:=none) (E:=wG Γ i) (ids':=[19,6,1,2,3,21,22,4,23,24,25,26,27]) (d:=.tup []) rfl Tryz.func139 (by decide +kernel) rfl (by decide) P1
   (ES cA) (λL h1 h2 h3 h4 h5 h6 h7=>MM (b:=true) (.mk p1 p2 p3 p4) ?_) ?_ ?_ ?_ ?_ ?_
  ·have:=Yields.all (P:=Tryz.prog) (l:=Dw (Gn (.mk p1 p2 p3 p4))) (λj=>CY L (ZT ⟨m1,m2,m3⟩ (.mk t1 t2 t3 t4 t5) Γ2 (((Gn (.mk p1 p2 p3 p4)).take j).foldl pL l)) none) λj d hj=>by
    rw [Dw,Eg] at hj;cases hu:(Gn (.mk p1 p2 p3 p4))[j]? with
    | none=>rw [hu] at hj;cases hj
    | some u =>
     rw [hu] at hj;cases hj;have e:((Gn (.mk p1 p2 p3 p4)).take (j+1)).foldl pL l=pL (((Gn (.mk p1 p2 p3 p4)).take j).foldl pL l) u:=by rw [Be hu,XJ];rfl
     rw [e];exact Wd _ _ Γ Γ2 i _ u h1 h2 h3 h4 h5 h6 h7
   have hl:(Dw (Gn (.mk p1 p2 p3 p4))).length=(Gn (.mk p1 p2 p3 p4)).length:=by simp [Dw]
   rw [hl] at this;simpa using this
  ·simp [FB,ZT,DJ]
  ·simp [FB,DJ]
  ·intro i hi;have e:HU (Fp (Ec (Bb []++[(6,6)])) []++Fp (Ec (Bb []++[(6,6)])) [.ref 6 0])=[6]:=rfl;rw [e] at hi;simpa [FB,DJ,Fj,TB,HU,IT] using hi
  ·refine ⟨by decide,?_⟩;simp [ZT,wG,Vp,IT,Fj,TB,HU,DJ]
  ·rw [hgv];exact Aq rfl <| Ae hih ⟨AA (Cb (by omega) (by omega)),Gw⟩ P1 rfl
 ·have hlt:¬i<Γ.length:=by simp at h;omega
  refine Aw rfl ?_;have e1:Γ.take i=Γ:=CD (by omega);rw [e1];exact Ae hT Bx P1 rfl
mutual
theorem mE:∀t:Ty,Cl t=true->inB 1000 t->Cl (Fv t)=true/\CA (Fv t)=[]
 | .mk f n x ps,hw,hi=>by
  by_cases e9:f=9
  ·subst e9;have hn:=hi.num rfl;simp only [num] at hn;have e:=DC hw rfl;simp only [As,num,Ty.mk.injEq] at e;obtain ⟨_,_,rfl,rfl⟩:=e;have h2:n<=1000000:=by omega
   have h1:0<=n:=by omega
   rw [Fv,if_pos rfl];refine ⟨?_,by simp [CA,Dm,KF]⟩;simp [Cl,FC,h1,h2,KF]
  ·have hp:=aG ps (DB hw) λp hp=>hi.part e9 hp;rw [Fv,if_neg e9];simp only [Cl,A1] at hw ⊢;refine ⟨⟨⟨⟨by simp [e9],hw.1.1.2⟩,hw.1.2.1,by rw [Qz,CW];exact hw.1.2.2⟩,hp.1⟩,by rw [CA,if_neg e9];exact hp.2⟩
theorem aG:∀l:List Ty,(∀t∈l,Cl t=true)->(∀t∈l,inB 1000 t)->FC (KF l)=true/\Dm (KF l)=[]
 | [],_,_=>by simp [KF,FC,Dm]
 | t::r,hw,hi=>by
  have h1:=mE t (hw t (by simp)) (hi t (by simp));have h2:=aG r (λp hp=>hw p (by simp [hp])) (λp hp=>hi p (by simp [hp]));simp [KF,FC,Dm,h1.1,h1.2,h2.1,h2.2]
end
theorem We {Γ:Ax} (h:∀p∈Γ,Cl p.2=true/\inB 1000 p.2):EnvCl (Lg Γ):=λp hp=>by
 obtain ⟨q,hq,rfl⟩:=Cc.1 hp;have:=mE q.2 (h q hq).1 (h q hq).2;exact ⟨this.2,this.1⟩
noncomputable def VA (stay:List Int):Option (Ty×Int×Sb×List Ty)->V
 | none=>.tup [.agg (dTyc F5),Fk 7]
 | some (τ,_,σ,N)=>if (N.map (A7 (thS σ))).all CS=true then NT stay (A7 (thS σ) τ) else .tup [.agg (dTyc F5),Fk 7]
theorem UK:StOk 0 (B6 []):=⟨Jt _,λn t h=>(nomatch h),As,Sol.mk (λn t h=>nomatch h) (λn h=>rfl) (λn t h=>nomatch h) (λn t h=>nomatch h)⟩
theorem eB {m:Md} (hm:Ev m) (Γ:Ax) (t:Tm) (h:LY m Γ t=true) (hΓ:∀p∈Γ,Cl p.2=true/\inB 1000 p.2) (ht:Cy t=true) (hz:JK t<=100000) :
  ∃r,BI m (Lg Γ) t 0 (λ_=>none) r/\Al Tryz.prog 26 [.agg (El m),.sl (Dq Γ),.agg (Bo t)] (VA (FX Γ []) r):=by
 have hcl:=We hΓ;have hl:Γ.length<=20:=by
  simp only [LY,A1,decide_eq_true_eq] at h;exact h.1.1.2
 have hst:(FX Γ []).length<=1000000:=by have:=Xa (B:=1000) λp hp=>(hΓ p hp).2;omega
 have hw:∀p∈Γ,Cl p.2=true:=λp hp=>(hΓ p hp).1;have hB:rP (Lg Γ) [] 0 [] (JK t):=⟨UK,λp hp=>⟨(hcl p hp).2,Ce (hcl p hp).1 _⟩,by omega,by simp;omega,by simp [Lg];omega⟩
 obtain ⟨r,c,g⟩:=VR hm (JK t) t (Lg Γ) [] 0 [] (B8 _) ht hB;cases r with
 | none=>exact ⟨none,g,MU m Γ t h hw (S8 m t _ _ (YB c))⟩
 | some z =>
  obtain ⟨τ,T,k,S⟩:=z;obtain ⟨N,g1,g2,g3,g4⟩:=g;simp only [Jp] at g2;subst g2;refine ⟨_,g1,?_⟩;obtain ⟨θ,hθ⟩:=g1.1.2.1.2.2;have hth:thS (B6 T)=θ:=Ph hθ;simp only [VA,hth];cases hp:(S.map (A7 θ)).all CS with
  | true =>
   rw [if_pos rfl];exact MU m Γ t h hw (VP m t _ _ (VH c hθ (by omega) hp) hθ g1.2.1 hst)
  | false =>
   rw [if_neg (by simp)];exact MU m Γ t h hw (S8 m t _ _ (VI c hθ (by omega) hp))
theorem YI (l:List Dt) (f:FuncId) (a b:List V) (q:Dt->Bool) (hq:∀t∈l,Al Tryz.prog f (a++[.agg (CK t)]++b) (.bool (q t))) :
  ∃i:Int,(0<=i↔l.any q=true)/\Al Tryz.prog 286 [.sl ((l.map CK)),.clo (.func f) a b] (.int .i64 i):=by
 obtain ⟨i,h1,h2⟩:∃i:Int,(0<=i↔l.any q=true)/\((i = -1/\l.any q=false)\/∃(k:Nat) (t:Dt),i=k/\l[k]?=some t/\q t=true/\(l.take k).any q=false):=by
  by_cases h:l.any q=true
  ·have key:∀(n:Nat),(l.take n).any q=true->∃(k:Nat) (t:Dt),l[k]?=some t/\q t=true/\(l.take k).any q=false:=λn=>by
    induction n with
    | zero=>intro h;simp at h
    | succ n ih =>
     intro h;by_cases hn:(l.take n).any q=true
     ·exact ih hn
     ·by_cases hl:n<l.length
      ·obtain ⟨t,ht⟩:=Ao hl;rw [Be ht,Hb] at h;simp only [PQ] at hn;rw [hn,TF] at h;exact ⟨n,t,ht,by simpa using h,hn⟩
      ·rw [CD (by omega)] at h hn;exact absurd h hn
   obtain ⟨k,t,k1,k2,k3⟩:=key l.length (by rw [Jr];exact h);exact ⟨k,⟨λ_=>h,λ_=>by omega⟩,.inr ⟨k,t,rfl,k1,k2,k3⟩⟩
  ·exact ⟨-1,⟨λh'=>by omega,λh'=>absurd h' h⟩,.inl ⟨rfl,by simpa using h⟩⟩
 refine ⟨i,h1,?_⟩;clear h1;refine B1 λhv=>?_;simp [CL,Fh,maxLen] at hv;refine Ac Ah Tryz.func286 (by decide +kernel) rfl [1,2] rfl rfl <| Ai rfl <| Ak (λj:Nat=>[(8,.imm (.int .i64 j)),(7,.imm (.int .i64 l.length)),(0,.imm (.sl ((l.map CK)))),(1,.imm (.clo (.func f) a b))]) (λ_=>[]) [1,2] (λj=>l.length-j) (λj=>j<=l.length/\(l.take j).any q=false) 0
  ⟨AL _,rfl⟩ ⟨rfl,AA (by simp),AM⟩ trivial rfl λj hj ih=>?_
 obtain ⟨hj1,hj2⟩:=hj;refine Aq rfl <| Aa rfl (λh=>?_) (λh=>?_)
 ·have hlt:j<l.length:=by simp at h;omega
  obtain ⟨t,ht⟩:=Ao hlt;have hg:=Uq ht;have hQ:=hq t (AF ht);have htk:(l.take (j+1)).any q=q t:=by rw [Be ht,Hb,hj2];simp
  have hfound:q t=true->i=j:=λhqt=>by
   rcases h2 with ⟨_,h⟩ | ⟨k,u,rfl,k1,k2,k3⟩
   ·have:l.any q=true:=D2.2 ⟨t,AF ht,hqt⟩;rw [this] at h;cases h
   ·congr 1;rcases Lc k j with hc | hc | hc
    ·have:(l.take j).any q=true:=D2.2 ⟨u,D3.2 ⟨k,by rw [Dr,if_pos hc];exact k1⟩,k2⟩;rw [hj2] at this;cases this
    ·exact hc
    ·have:(l.take k).any q=true:=D2.2 ⟨t,D3.2 ⟨j,by rw [Dr,if_pos hc];exact ht⟩,hqt⟩;rw [k3] at this;cases this
  generalize q t=o at *;obtain ⟨t1,t2⟩:=t;refine Aq rfl <| yi rfl (c:=CK ⟨t1,t2⟩) (λ_=>⟨by simp,by simpa using hg,by simp [CK]⟩) (by simp) <| Ai rfl <| ON rfl (λ_=>hQ) (by simp) <| Ai rfl ?_;cases o with
  | true =>
   refine Aa rfl (λh=>?_) (λh=>by exfalso;simp at h);exact Aq rfl <| Ag ⟨_,rfl,tV (by rw [hfound rfl]),trivial⟩
  | false =>
   refine Aa rfl (λh=>by exfalso;simp at h) (λh=>?_);exact Aq rfl <| Ae (ih (j+1) (by omega) ⟨by omega,htk⟩) ⟨AA (Cb (by omega) (by omega)),AD⟩ trivial rfl
 ·have hlt:¬j<l.length:=by simp at h;omega
  rw [CD (by omega)] at hj2;have hi:i = -1:=by
   rcases h2 with ⟨h,_⟩ | ⟨k,u,_,k1,k2,_⟩
   ·exact h
   ·have:l.any q=true:=D2.2 ⟨u,AF k1,k2⟩;rw [hj2] at this;cases this
  exact Aw rfl <| Aq rfl <| Ag ⟨_,rfl,tV (by rw [hi]),trivial⟩
theorem KC (l:List Dt) (f:FuncId) (a b:List V) (q:Dt->Bool) (hq:∀t∈l,Al Tryz.prog f (a++[.agg (CK t)]++b) (.bool (q t))) :
  Al Tryz.prog 265 [.sl ((l.map CK)),.clo (.func f) a b] (.bool (l.any q)):=by
 obtain ⟨i,h1,h2⟩:=YI l f a b q hq;refine Ac Ah Tryz.func265 (by decide +kernel) rfl [1,2] rfl rfl <| Ai rfl <| Af rfl h2 <| Ai rfl <| Ab rfl rfl (congrArg _ ?_);rw [EU,<- h1];simp
theorem YH (l:List Fd) (f:FuncId) (a b:List V) (q:Fd->Bool) (hq:∀t∈l,Al Tryz.prog f (a++[.agg (CG t)]++b) (.bool (q t))) :
  ∃i:Int,(0<=i↔l.any q=true)/\Al Tryz.prog 270 [.sl ((l.map CG)),.clo (.func f) a b] (.int .i64 i):=by
 obtain ⟨i,h1,h2⟩:∃i:Int,(0<=i↔l.any q=true)/\((i = -1/\l.any q=false)\/∃(k:Nat) (t:Fd),i=k/\l[k]?=some t/\q t=true/\(l.take k).any q=false):=by
  by_cases h:l.any q=true
  ·have key:∀(n:Nat),(l.take n).any q=true->∃(k:Nat) (t:Fd),l[k]?=some t/\q t=true/\(l.take k).any q=false:=λn=>by
    induction n with
    | zero=>intro h;simp at h
    | succ n ih =>
     intro h;by_cases hn:(l.take n).any q=true
     ·exact ih hn
     ·by_cases hl:n<l.length
      ·obtain ⟨t,ht⟩:=Ao hl;rw [Be ht,Hb] at h;simp only [PQ] at hn;rw [hn,TF] at h;exact ⟨n,t,ht,by simpa using h,hn⟩
      ·rw [CD (by omega)] at h hn;exact absurd h hn
   obtain ⟨k,t,k1,k2,k3⟩:=key l.length (by rw [Jr];exact h);exact ⟨k,⟨λ_=>h,λ_=>by omega⟩,.inr ⟨k,t,rfl,k1,k2,k3⟩⟩
  ·exact ⟨-1,⟨λh'=>by omega,λh'=>absurd h' h⟩,.inl ⟨rfl,by simpa using h⟩⟩
 refine ⟨i,h1,?_⟩;clear h1;refine B1 λhv=>?_;simp [CL,Fh,maxLen] at hv;refine Ac Ah Tryz.func270 (by decide +kernel) rfl [1,2] rfl rfl <| Ai rfl <| Ak (λj:Nat=>[(8,.imm (.int .i64 j)),(7,.imm (.int .i64 l.length)),(0,.imm (.sl ((l.map CG)))),(1,.imm (.clo (.func f) a b))]) (λ_=>[]) [1,2] (λj=>l.length-j) (λj=>j<=l.length/\(l.take j).any q=false) 0
  ⟨AL _,rfl⟩ ⟨rfl,AA (by simp),AM⟩ trivial rfl λj hj ih=>?_
 obtain ⟨hj1,hj2⟩:=hj;refine Aq rfl <| Aa rfl (λh=>?_) (λh=>?_)
 ·have hlt:j<l.length:=by simp at h;omega
  obtain ⟨t,ht⟩:=Ao hlt;have hg:=Mn ht;have hQ:=hq t (AF ht);have htk:(l.take (j+1)).any q=q t:=by rw [Be ht,Hb,hj2];simp
  have hfound:q t=true->i=j:=λhqt=>by
   rcases h2 with ⟨_,h⟩ | ⟨k,u,rfl,k1,k2,k3⟩
   ·have:l.any q=true:=D2.2 ⟨t,AF ht,hqt⟩;rw [this] at h;cases h
   ·congr 1;rcases Lc k j with hc | hc | hc
    ·have:(l.take j).any q=true:=D2.2 ⟨u,D3.2 ⟨k,by rw [Dr,if_pos hc];exact k1⟩,k2⟩;rw [hj2] at this;cases this
    ·exact hc
    ·have:(l.take k).any q=true:=D2.2 ⟨t,D3.2 ⟨j,by rw [Dr,if_pos hc];exact ht⟩,hqt⟩;rw [k3] at this;cases this
  generalize q t=o at *;obtain ⟨t1,t2,⟨a1,a2,a3,a4⟩,⟨b1,b2,b3,b4⟩,⟨c1,c2,c3,c4,c5⟩⟩:=t;refine Aq rfl <| yi rfl (c:=CG ⟨t1,t2,.mk a1 a2 a3 a4,.mk b1 b2 b3 b4,.mk c1 c2 c3 c4 c5⟩) (λ_=>⟨by simp,by simpa using hg,by simp [CG]⟩) (by simp) <| Ai rfl <| ON rfl (λ_=>hQ) (by simp) <| Ai rfl ?_;cases o with
  | true =>
   refine Aa rfl (λh=>?_) (λh=>by exfalso;simp at h);exact Aq rfl <| Ag ⟨_,rfl,tV (by rw [hfound rfl]),trivial⟩
  | false =>
   refine Aa rfl (λh=>by exfalso;simp at h) (λh=>?_);exact Aq rfl <| Ae (ih (j+1) (by omega) ⟨by omega,htk⟩) ⟨AA (Cb (by omega) (by omega)),AD⟩ trivial rfl
 ·have hlt:¬j<l.length:=by simp at h;omega
  rw [CD (by omega)] at hj2;have hi:i = -1:=by
   rcases h2 with ⟨h,_⟩ | ⟨k,u,_,k1,k2,_⟩
   ·exact h
   ·have:l.any q=true:=D2.2 ⟨u,AF k1,k2⟩;rw [hj2] at this;cases this
  exact Aw rfl <| Aq rfl <| Ag ⟨_,rfl,tV (by rw [hi]),trivial⟩
theorem KB (l:List Fd) (f:FuncId) (a b:List V) (q:Fd->Bool) (hq:∀t∈l,Al Tryz.prog f (a++[.agg (CG t)]++b) (.bool (q t))) :
  Al Tryz.prog 225 [.sl ((l.map CG)),.clo (.func f) a b] (.bool (l.any q)):=by
 obtain ⟨i,h1,h2⟩:=YH l f a b q hq;refine Ac Ah Tryz.func225 (by decide +kernel) rfl [1,2] rfl rfl <| Ai rfl <| Af rfl h2 <| Ai rfl <| Ab rfl rfl (congrArg _ ?_);rw [EU,<- h1];simp
theorem dW (d e:Dt):Al Tryz.prog 266 [.agg (CK e),.ip 113 (CK d) 0] (.bool (e.name == d.name)):=by
 obtain ⟨d1,d2⟩:=d;obtain ⟨e1,e2⟩:=e;exact L5 <| Ac Ah Tryz.func266 (by decide +kernel) rfl [2,3,4,5] rfl rfl <| Ai rfl <| Ab rfl rfl rfl
theorem lE (d e:Fd):Al Tryz.prog 268 [.agg (CG e),.ip 71 (CG d) 0] (.bool (e.name == d.name)):=by
 obtain ⟨d1,d2,⟨a1,a2,a3,a4⟩,⟨b1,b2,b3,b4⟩,⟨c1,c2,c3,c4,c5⟩⟩:=d;obtain ⟨e1,e2,⟨f1,f2,f3,f4⟩,⟨g1,g2,g3,g4⟩,⟨h1,h2,h3,h4,h5⟩⟩:=e;exact L5 <| Ac Ah Tryz.func268 (by decide +kernel) rfl [2,3,4,5] rfl rfl <| Ai rfl <| Ab rfl rfl rfl
theorem dH (e:Fd):Al Tryz.prog 226 [.agg (CG e)] (.bool (e.name == PG&&BA e.from_ == 3)):=by
 obtain ⟨e1,e2,⟨f1,f2,f3,f4⟩,⟨g1,g2,g3,g4⟩,⟨h1,h2,h3,h4,h5⟩⟩:=e;refine Ac Ah Tryz.func226 (by decide +kernel) rfl [2,3,4,5] rfl rfl <| Ai rfl <| Ab rfl rfl ?_;show V.bool (bif e1 == PG then f1 == 3 else false)=V.bool (e1 == PG&&f1 == 3);cases (e1 == PG) <;> rfl
theorem Yn (t:Ty) (e:Dt):Al Tryz.prog 287 [.agg (CK e),.ip 25 (dTyc t) 0] (.bool (e.name == Ky t)):=by
 obtain ⟨t1,t2,t3,t4⟩:=t;obtain ⟨e1,e2⟩:=e;exact L5 <| Ac Ah Tryz.func287 (by decide +kernel) rfl [2,3,4,5] rfl rfl <| Ai rfl <| Ab rfl rfl rfl
def Oo (m:Md):List V:=El m++[.mapv [],.int .i64 0,.sl []]
def MN (m:Md) (u:Ty):Bool:=!(BA u == 8 && !m.datas.any λd=>d.name == Ky u)
def Rn (m:Md) (b:Bool):St:=[(11,some (.immb 92 1 [.ip 98 (Oo m) 0])),(12,some (.immb 4 1 [.bool b]))]
def sL (l:List Ty) (i:Nat):Env:=[(10,.imm (.int .i64 i)),(9,.imm (.int .i64 l.length)),(8,.imm (.sl (A2 l))),(2,.ref 11 0),(4,.ref 12 0)]
theorem NR (m:Md) (l:List Ty) (i:Nat) (u:Ty) {L:M1} (h1:Tryz.prog.funcs[L.fn]?.isSome) (h2:L.tmps.size=Tryz.f267.ntmps) (h3:L.ps = #[16]) (h4:L.asg=iF Tryz.f267)
  (h5:L.body=Xq Tryz.f267) (h6:L.E=sL l i) (h7:L.F=[]) :
  (MN m u=true->Ns Tryz.prog [.imm (.agg (dTyc u))] (CY L (Rn m false) none) true (CY L (Rn m false) none)) /\
  (MN m u=false->Ns Tryz.prog [.imm (.agg (dTyc u))] (CY L (Rn m false) none) false (CY L (Rn m false) (some .ret))):=by
 obtain ⟨fc,hf⟩:=XI.1 h1;have hC:=KC m.datas 287 [] [.ip 25 (dTyc u) 0] (λd=>d.name == Ky u) λd _=>Yn u d;have hfree:Q0 [21,22,23] L.E (Rn m false) L.F:=by
  rw [h6,h7];refine ⟨by decide,?_⟩;simp [Rn,sL,Vp,IT,Fj,TB,HU,DJ]
 unfold MN;generalize (m.datas.any λd=>d.name == Ky u)=o at *;obtain ⟨m1,m2,m3⟩:=m;obtain ⟨f,n,x,ps⟩:=u;simp only [BA];have hasg:∀stx,QZ Tryz.prog Tryz.f267.ntmps L.asg ((16,.imm (.agg (dTyc (.mk f n x ps))))::L.E) stx [21,22,23] _ _ _:=λstx=>by
  rw [h4];exact aS Ah rfl rfl rfl rfl (by simp) (by simp)
 refine ⟨λhb=>?_,λhb=>?_⟩
 ·refine Q5 (pend:=none) hf h3 h2 rfl (by decide) hfree (hasg _) ?_;rw [h5,h6,h7];refine KM rfl <| JV rfl (λ_=>hC) rfl (by simp [Am]) <| BU rfl <| Aa rfl (λh=>?_) (λh=>?_)
  ·exfalso;by_cases h8:f=8
   ·subst h8;cases o <;> simp at h hb
   ·simp [h8] at h
  ·exact Aq rfl <| BE (⟨rfl,rfl,trivial⟩:HQ _ (Rn ⟨m1,m2,m3⟩ false))
 ·refine Q5 (pend:=some .ret) hf h3 h2 rfl (by decide) hfree (hasg _) ?_;rw [h5,h6,h7];refine KM rfl <| JV rfl (λ_=>hC) rfl (by simp [Am]) <| BU rfl ?_;have hb':f=8/\o=false:=by
   by_cases h8:f=8
   ·subst h8;cases o <;> simp at hb ⊢
   ·simp [h8] at hb
  obtain ⟨rfl,rfl⟩:=hb';refine Aa rfl (λh=>?_) (λh=>by exfalso;simp at h);exact Aq rfl <| Ag (⟨rfl,rfl,trivial⟩:HQ _ (Rn ⟨m1,m2,m3⟩ false))
theorem OV {P:Program} {S S':Bun} {q:Ty->Bool}:∀(l:List Ty),(∀u∈l,q u=true->Ns P [.imm (.agg (dTyc u))] S true S)->(∀u∈l,q u=false->Ns P [.imm (.agg (dTyc u))] S false S')->(l.all q=true->Yields P (Dw l) S true S)/\(l.all q=false->Yields P (Dw l) S false S')
 | [],_,_=>⟨λ_=>Yields.nil S,λh=>by simp at h⟩
 | u::r,h1,h2=>by
  have ih:=OV r (λv hv=>h1 v (by simp [hv])) (λv hv=>h2 v (by simp [hv]));refine ⟨λh=>?_,λh=>?_⟩
  ·simp only [Da,A1] at h;exact .cons (h1 u (by simp) h.1) (ih.1 h.2)
  ·simp only [Da,La] at h;cases hq:q u with
   | false=>exact .stop (h2 u (by simp) hq)
   | true =>
    rcases h with h | h
    ·rw [hq] at h;cases h
    ·exact .cons (h1 u (by simp) hq) (ih.2 h)
theorem Sv (m:Md) (l:List Ty) (hl:l.length<=1000000):Al Tryz.prog 267 [.ip 98 (Oo m) 0,.sl (A2 l)] (.bool ((C5 l).all (MN m))):=by
 refine Ac Ah Tryz.func267 (by decide +kernel) rfl [11,12,13,6,1,2,3] rfl rfl <| Ai rfl <| Ak (λi:Nat=>sL l i) (λ_=>Rn m false) [13,6,1,2,3] (λi=>l.length-i) (λi=>i<=l.length/\(C5 (l.take i)).all (MN m)=true) 0 ⟨AL _,rfl⟩
  ⟨rfl,AA (by simp),AD⟩ AM rfl λi hi ih=>?_
 obtain ⟨hi1,hi2⟩:=hi;refine Aq rfl <| Aa rfl (λh=>?_) (λh=>?_)
 ·have hlt:i<l.length:=by simp at h;omega
  obtain ⟨p,hp⟩:=Ao hlt;have hg:=A8 hp;have hN:=Su p;have htk:∀(a b:List Ty),C5 (a++b)=C5 a++C5 b:=λa b=>by
   induction a with
   | nil=>rfl
   | cons t r ih=>simp [C5,ih]
  have hnx:(C5 (l.take (i+1))).all (MN m)=(Gn p).all (MN m):=by rw [Be hp,htk,HI,hi2];simp [C5]
  have hno:(Gn p).all (MN m)=false->(C5 l).all (MN m)=false:=λh=>by
   have e:l=l.take i++p::l.drop (i+1):=by rw [<- Av hp,ZO]
   rw [e,htk,HI,C5,HI,h];simp
  have hR:∀{L:M1},Tryz.prog.funcs[L.fn]?.isSome->L.tmps.size=Tryz.f267.ntmps->L.ps = #[16]->L.asg=iF Tryz.f267->L.body=Xq Tryz.f267->L.E=sL l i->L.F=[] ->
   ((Gn p).all (MN m)=true->Yields Tryz.prog (Dw (Gn p)) (CY L (Rn m false) none) true (CY L (Rn m false) none))/\((Gn p).all (MN m)=false->Yields Tryz.prog (Dw (Gn p)) (CY L (Rn m false) none) false (CY L (Rn m false) (some .ret))):=λh1 h2 h3 h4 h5 h6 h7=>OV _ (λu _=>(NR m l i u h1 h2 h3 h4 h5 h6 h7).1) (λu _=>(NR m l i u h1 h2 h3 h4 h5 h6 h7).2)
  obtain ⟨p1,p2,p3,p4⟩:=p;refine Aq rfl <| yi rfl (c:=dTyc (.mk p1 p2 p3 p4)) (λ_=>⟨by simp,by simpa using hg,by simp⟩) (by simp) <| Ai rfl <| Ad (st0:=[]) (fr:=[6]) [] [(6,6)] rfl (by simp) hN trivial rfl rfl rfl rfl <| Ai rfl ?_;cases hb:(Gn (.mk p1 p2 p3 p4)).all (MN m) with
  | true =>
   rw [hb] at hnx;refine Ni (y:=3) (j:=4) (j2:=5) (stc:=FB (.mk p1 p2 p3 p4)) (stc':=FB (.mk p1 p2 p3 p4)) (stx:=Rn m false) (stB:=Rn m false) (pend:=none) (E:=sL l i) (ids':=[13,6,1,2,3]) (d:=.tup []) rfl Tryz.func139 (by decide +kernel) rfl (by decide) Bx
    (ES AD) (λL h1 h2 h3 h4 h5 h6 h7=>MM (.mk p1 p2 p3 p4) ((hR h1 h2 h3 h4 h5 h6 h7).1 hb)) ?_ ?_ ?_ ?_ ?_
   ·simp [FB,Rn,DJ]
   ·simp [FB,DJ]
   ·intro i hi;have e:HU (Fp (Ec (Bb []++[(6,6)])) []++Fp (Ec (Bb []++[(6,6)])) [.ref 6 0])=[6]:=rfl;rw [e] at hi;simpa [FB,DJ,Fj,TB,HU,IT] using hi
   ·refine ⟨by decide,?_⟩;simp [Rn,sL,Vp,IT,Fj,TB,HU,DJ]
   ·exact Aq rfl <| Ae (ih (i+1) (by omega) ⟨by omega,hnx⟩) ⟨AA (Cb (by omega) (by omega)),BF⟩ AM rfl
  | false =>
   have hno:=hno hb;refine Ni (y:=3) (j:=4) (j2:=5) (stc:=FB (.mk p1 p2 p3 p4)) (stc':=FB (.mk p1 p2 p3 p4)) (stx:=Rn m false) (stB:=Rn m false) (pend:=some .ret) (E:=sL l i) (ids':=[13,6,1,2,3]) (d:=.tup []) rfl Tryz.func139 (by decide +kernel) rfl (by decide) Bx
    (ES AD) (λL h1 h2 h3 h4 h5 h6 h7=>MM (.mk p1 p2 p3 p4) ((hR h1 h2 h3 h4 h5 h6 h7).2 hb)) ?_ ?_ ?_ ?_ ?_
   ·simp [FB,Rn,DJ]
   ·simp [FB,DJ]
   ·intro i hi;have e:HU (Fp (Ec (Bb []++[(6,6)])) []++Fp (Ec (Bb []++[(6,6)])) [.ref 6 0])=[6]:=rfl;rw [e] at hi;simpa [FB,DJ,Fj,TB,HU,IT] using hi
   ·refine ⟨by decide,?_⟩;simp [Rn,sL,Vp,IT,Fj,TB,HU,DJ]
   ·exact Ag ⟨_,rfl,tV (by rw [hno]),trivial⟩
 ·have hlt:¬i<l.length:=by simp at h;omega
  rw [CD (by omega)] at hi2;exact Aw rfl <| Aq rfl <| Ag ⟨_,rfl,tV (by rw [hi2]),trivial⟩
def J2 (l:List Str) (x:Str):List Str:=if BO l x=true then l else l++[x]
theorem UP {x:Str}:∀{l:List Str},BO l x=true->Fi (GW l) (.str x) (.bool true)=GW l
 | [],h=>by simp [BO] at h
 | y::r,h=>by
  simp only [BO,Hd,beq_iff_eq] at h;simp only [GW,Cz,Fi,fQ];by_cases e:x=y
  ·subst e;simp
  ·have ih:=UP (l:=r) (h.resolve_left λh=>e h.symm);simp only [GW] at ih;simp [e,ih]
theorem UR (l:List Str) (x:Str):Fi (GW l) (.str x) (.bool true)=GW (J2 l x):=by
 unfold J2;cases h:BO l x with
 | true=>rw [if_pos rfl];exact UP h
 | false=>rw [if_neg (by simp)];exact UQ l x h
def eW (m:Md) (z:Bool×List Str) (c:Cd):Bool×List Str:=(z.1 && !BO z.2 c.name&&(C5 c.args).all (MN m),J2 z.2 c.name)
def Ry (m:Md) (i:Nat) (d:Dt) (met:List Str):Bool×List Str:=d.cons.foldl (eW m) (!((m.datas.take i).any λe=>e.name == d.name),met)
theorem lG (m:Md) (i:Nat) (d:Dt) (met:List Str) (hd:m.datas[i]?=some d) (hl:∀c∈d.cons,c.args.length<=1000000) :
  AK Tryz.prog 223 [.imm (.ip 98 (Oo m) 0),.imm (.int .i64 i),.mapr 1] [(1,some (.map (GW met)))] (.ret (.imm (.bool (Ry m i d met).1)) [(1,some (.map (GW (Ry m i d met).2)))]):=by
 have hg:=Uq hd;have hC:=KC (m.datas.take i) 266 [] [.ip 113 (CK d) 0] (λe=>e.name == d.name) λe _=>dW d e;have hK:=λl hl=>Sv m l hl;unfold Ry;generalize ((m.datas.take i).any λe=>e.name == d.name)=o at *;generalize hm:MN m=q at *;have hdc:eW m=λz c=>(z.1 && !BO z.2 c.name&&(C5 c.args).all q,J2 z.2 c.name):=by funext z c;rw [eW,hm]
 rw [hdc];clear hdc hm;obtain ⟨m1,m2,m3⟩:=m;obtain ⟨d1,cs⟩:=d;simp only at hl;have hi:i<m2.length:=(AJ.1 hd).1;refine Ac Ah Tryz.func223 (by decide +kernel) rfl [2,3,4,5,6] rfl rfl <| Ai rfl <| yi rfl (c:=CK ⟨d1,cs⟩) (λ_=>⟨by simp,by simpa using hg,by simp [CK]⟩) (by simp) <| yg [] rfl (by simp;omega) ?_;simp only [TJ] at hC;refine JV rfl (λ_=>hC) rfl (by simp) <| Ai rfl ?_;clear hC;refine Fy (t:=30) rfl λhv=>?_;simp [Fh,maxLen] at hv;generalize hF:(λ(z:Bool×List Str) (c:Cd)=>(z.1 && !BO z.2 c.name&&(C5 c.args).all q,J2 z.2 c.name))=F at *;have hFe:∀(o:Bool) (me:List Str) (c:Cd),F (o,me) c=(o && !BO me c.name&&(C5 c.args).all q,J2 me c.name):=λo me c=>by rw [<- hF]
 clear hF;refine Ak (λz:Nat×Bool×List Str=>[(32,.imm (.int .i64 z.1)),(31,.imm (.int .i64 cs.length)),(30,.imm (.sl (cs.map EY))),(8,.imm (.bool z.2.1)),(2,.mapr 1),(0,.imm (.ip 98 (Oo ⟨m1,m2,m3⟩) 0))]) (λz=>[(1,some (.map (GW z.2.2)))]) [4,5,6] (λz=>cs.length-z.1)
  (λz=>z.1<=cs.length/\(cs.drop z.1).foldl F z.2=cs.foldl F (!o,met)) (0,!o,met)
  ⟨AL _,rfl⟩ ⟨rfl,AA (by simp),BF⟩ AI rfl λz hz ih=>?_
 obtain ⟨j,b,me⟩:=z;obtain ⟨hj1,hj2⟩:=hz;simp only at hj1 hj2 ih;generalize hR:cs.foldl F (!o,met)=R at *;clear hR;refine Aq rfl <| Aa rfl (λh=>?_) (λh=>?_)
 ·have hlt:j<cs.length:=by simp at h;omega
  obtain ⟨c,hc⟩:=Ao hlt;have hgc:=aL hc;have hk:=hK c.args (hl c (AF hc));have hn:=UR me c.name;rw [Av hc,NM,hFe] at hj2;obtain ⟨c1,ag⟩:=c;simp only at hk hj2 hn;generalize (C5 ag).all q=o3 at *;refine Aq rfl <| yi rfl (c:=EY ⟨c1,ag⟩) (λ_=>⟨by simp,by simpa using hgc,by simp [EY]⟩) (by simp) <| BU rfl <| C9 Ah 1 rfl rfl rfl (FF me) (by simp [Am]) (z:=.bool false) rfl (λ_=>.bool _) (JL me c1) <| BU rfl <| Bz rfl hk <| BU rfl <| EW Ah rfl rfl rfl (FF me) ?_;rw [hn];refine Ai rfl ?_;exact Ae (ih (j+1,b && !BO me c1&&o3,J2 me c1) (by simp only;omega) ⟨by simp only;omega,hj2⟩) ⟨AA (Cb (by omega) (by omega)),rfl,rfl,by cases b <;> cases BO me c1 <;> cases o3 <;> rfl,AM⟩ AI rfl
 ·have hlt:¬j<cs.length:=by simp at h;omega
  rw [Br (by omega)] at hj2;simp only [XK] at hj2;refine Aw rfl <| Aq rfl ?_;subst hj2;exact Ag ⟨_,AD⟩
theorem Up (a b:List Int):Io (a++b)=Io a++Io b:=by simp [Io]
structure xC (m:Md):Prop where
 datas:m.datas.length<=1000
 funs:m.funs.length<=1000
 cons:∀d∈m.datas,d.cons.length<=1000
structure OkM (m:Md):Prop where
 few:xC m
 closed:Ev m
 body:∀f∈m.funs,Cy f.body=true/\JK f.body<=100000
theorem Ue {m:Md} {t:Tm} {Γ:Ax} {τ:Ty} {S:List Ty}:Dj m [t] [(Γ,τ)] S↔C1 m t Γ τ S:=by
 simp only [Dj];constructor
 ·rintro ⟨S1,S2,h1,rfl,rfl⟩;rw [IM];exact h1
 ·intro h;exact ⟨S,[],h,rfl,by simp⟩
theorem Zc {m:Md} (hm:Ev m) {f:Fd} (hf:f∈m.funs):(CA f.from_=[]/\Cl f.from_=true)/\CA f.to_=[]/\Cl f.to_=true:=by
 obtain ⟨h1,h2⟩:=hm.1 f hf;simp only [Ba,CA,Dm] at h1;simp only [Ba,Cl,FC,A1] at h2;simp at h1;exact ⟨⟨h1.1,h2.2.1⟩,h1.2,h2.2.2.1⟩
def sP (m:Md) (f:Fd) (T:List (Int×Ty)) (k:Int) (S:List Ty):St:=C8 m T k S++[(5,some (.cells 92 1 [.ref 1 0])),(6,some (.immb 71 15 (CG f)))]
def wH (m:Md) (f:Fd) (T:List (Int×Ty)) (k:Int) (S:List Ty):St:=Tk m T k S++[(5,some (.cells 92 1 [.ref 1 0])),(6,some (.immb 71 15 (CG f)))]
theorem lD {m:Md} {f:Fd} {r:Hs} (h:Bs m [(f.param,f.from_)] [f.body] [f.to_] [] 0 [] r) {b:Bool}
  (hp:∀T k S,r=some (T,k,S)->S.length<=1000000/\∃θ,Sol (B6 T) θ/\(S.map (A7 θ)).all CS=b) (hn:r=none->b=false) :
  (b=true->∃T k S,AK Tryz.prog 269 [.ref 5 0,.ref 6 0] (sP m f [] 0 []) (.ret (.imm (.tup [])) (wH m f T k S)))/\(b=false->AK Tryz.prog 269 [.ref 5 0,.ref 6 0] (sP m f [] 0 []) (.pan FO)):=by
 obtain ⟨f1,f2,⟨a1,a2,a3,a4⟩,⟨b1,b2,b3,b4⟩,⟨t1,t2,t3,t4,t5⟩⟩:=f;rw [Bs] at h;rcases h with ⟨hI,rfl⟩ | ⟨⟨τ1,τ2,τ3,τ4⟩,T2,k2,S2,hI,h⟩
 ·have hb:=hn rfl;refine ⟨λh=>(by rw [hb] at h;cases h),λ_=>?_⟩;unfold En Co CT at hI;exact Ac Ah Tryz.func269 (by decide +kernel) rfl [4,9,10] rfl rfl <| Ai rfl <| AV 3 [(1,1),(2,2),(3,3)] rfl (by simp) hI Au rfl rfl rfl <| Ai rfl <| DS 12 (.imm (.tup [])) rfl D1 (λx h=>by cases h) <| yg [] rfl (by simp;rfl) <| Bc 12 3 rfl
 ·rcases h with ⟨hE,rfl⟩ | ⟨T3,hE,h⟩
  ·have hb:=hn rfl;refine ⟨λh=>(by rw [hb] at h;cases h),λ_=>?_⟩;unfold En Co CT at hI;unfold D8 at hE;exact Ac Ah Tryz.func269 (by decide +kernel) rfl [4,9,10] rfl rfl <| Ai rfl <| A4 (fr:=[4]) [(1,1),(2,2),(3,3)] [(4,4)] [] (nm:=[1,2,4,1,2,3]) rfl trivial (by simp) hI Au rfl trivial rfl rfl rfl <| Ai rfl <| AU [(1,1),(2,2),(4,3)] rfl (by simp) hE Au rfl rfl rfl <| M5 1 rfl (by simp;rfl) <| Bk 15 rfl
  ·simp only [Bs] at h;obtain ⟨hl,θ,hθ,hpl⟩:=hp _ _ _ h;unfold En Co CT at hI;unfold CU at hE;have hy:=LT m T3 k2 S2 hθ hl;have hno:=NQ m T3 k2 S2 hθ hl;rw [hpl] at hy hno;refine ⟨λhb=>⟨T3,k2,S2,?_⟩,λhb=>?_⟩
   ·have hS:=hy hb;exact Ac Ah Tryz.func269 (by decide +kernel) rfl [4,9,10] rfl rfl <| Ai rfl <| A4 (fr:=[4]) [(1,1),(2,2),(3,3)] [(4,4)] [] (nm:=[1,2,4,1,2,3]) rfl trivial (by simp) hI Au rfl trivial rfl rfl rfl <| Ai rfl <| A4 (fr:=[]) [(1,1),(2,2),(4,3)] [] [] (nm:=[1,2,4,1,2,4]) rfl trivial (by simp) hE Au rfl trivial rfl rfl rfl <| yg [] rfl (by simp;rfl) <| Ad (fr:=[]) [(1,1),(2,2),(4,3)] [] rfl (by simp) hS Au rfl rfl rfl rfl <| Ai rfl <| BE ⟨[],Gw⟩
   ·have hS:=hno hb;exact Ac Ah Tryz.func269 (by decide +kernel) rfl [4,9,10] rfl rfl <| Ai rfl <| A4 (fr:=[4]) [(1,1),(2,2),(3,3)] [(4,4)] [] (nm:=[1,2,4,1,2,3]) rfl trivial (by simp) hI Au rfl trivial rfl rfl rfl <| Ai rfl <| A4 (fr:=[]) [(1,1),(2,2),(4,3)] [] [] (nm:=[1,2,4,1,2,4]) rfl trivial (by simp) hE Au rfl trivial rfl rfl rfl <| yg [] rfl (by simp;rfl) <| AU [(1,1),(2,2),(4,3)] rfl (by simp) hS Au rfl rfl rfl <| Ai rfl <| Bk 17 rfl
theorem lH {m:Md} (hm:OkM m) {f:Fd} (hf:f∈m.funs):∃r,Bs m [(f.param,f.from_)] [f.body] [f.to_] [] 0 [] r/\(∀T k S,r=some (T,k,S)->S.length<=1000000/\∃θ,Sol (B6 T) θ/\(S.map (A7 θ)).all CS=Ku m f)/\(r=none->Ku m f=false):=by
 obtain ⟨⟨c1,c2⟩,c3,c4⟩:=Zc hm.closed hf;obtain ⟨n1,n2⟩:=hm.body f hf;have hcl:EnvCl [(f.param,f.from_)]:=λp hp=>by rw [AO.1 hp];exact ⟨c1,c2⟩
 have hsz:De [f.body]=JK f.body:=by simp [De]
 obtain ⟨r,k1,g1⟩:=GL (VR hm.closed (JK f.body)) [f.body] [f.to_] [(f.param,f.from_)] [] 0 [] rfl (by omega) (λt ht=>by rw [AO.1 ht];exact n1) (λu hu=>by rw [AO.1 hu];exact ⟨c4,Ce c3 _⟩)
  ⟨UK,λp hp=>by rw [AO.1 hp];exact ⟨c2,Ce c1 _⟩,by simp;omega,by simp;omega,by simp;omega⟩
 refine ⟨r,k1,?_⟩;clear k1;have hapK:∀η,Gz η ([f.to_].map λu=>([(f.param,f.from_)],u))=[([(f.param,f.from_)],f.to_)]:=λη=>by
  simp only [Gz,Cz,HJ];rw [hcl.ap,GP c3 c4]
 refine ⟨λT k S e=>?_,λe=>?_⟩
 ·subst e;obtain ⟨N,g1,g2,g3,g4⟩:=g1;simp only [Jp] at g2;subst g2;obtain ⟨θ,hθ⟩:=g1.1.2.1.2.2;refine ⟨by omega,θ,hθ,(nC ?_ λS' hS'=>?_).symm⟩
  ·have:Dj m [f.body] (Gz θ _) (S.map (A7 θ)):=(g1.1.2.2.1 θ hθ.eq).2;rw [hapK] at this;exact Ue.1 this
  ·obtain ⟨η',_,e1,e2⟩:=g1.1.2.2.2 As S' (λn t h=>nomatch h) (by show Dj m [f.body] (Gz As _) S';rw [hapK];exact Ue.2 hS');refine ⟨η',?_⟩;simp only at e2;rw [<- e2,XU];exact Js λu _=>hθ.mguT e1 u
 ·subst e;refine nD λS hS=>g1 As S (λn t h=>nomatch h) ?_;show Dj m [f.body] (Gz As _) S;rw [hapK];exact Ue.2 hS
theorem pZ {m:Md} (hm:OkM m) (i:Nat) (f:Fd) (hf:m.funs[i]?=some f):Al Tryz.prog 224 [.ip 98 (Oo m) 0,.int .i64 i] (.bool (!((m.funs.take i).any λe=>e.name == f.name)&&((C5 [f.from_,f.to_]).all (MN m)&&Ku m f))):=by
 have hg:=Mn hf;have hi:i<m.funs.length:=(AJ.1 hf).1;have hC:=KB (m.funs.take i) 268 [] [.ip 71 (CG f) 0] (λe=>e.name == f.name) λe _=>lE f e;have hK:=Sv m [f.from_,f.to_] (by simp);have hS:=Gc m 0;obtain ⟨r,k1,k2,k3⟩:=lH hm (AF hf);obtain ⟨y1,y2⟩:=lD k1 k2 k3;clear k1 k2 k3 hm;generalize Ku m f=B at *;generalize ((m.funs.take i).any λe=>e.name == f.name)=o at *;generalize (C5 [f.from_,f.to_]).all (MN m)=q at *;simp only [TJ] at hC;obtain ⟨m1,m2,m3⟩:=m;obtain ⟨f1,f2,⟨a1,a2,a3,a4⟩,⟨b1,b2,b3,b4⟩,⟨t1,t2,t3,t4,t5⟩⟩:=f;simp only at hi
 refine Ac Ah Tryz.func224 (by decide +kernel) rfl [6,1,2,3,5,4,7,8] rfl rfl <| Ai rfl <| yi rfl (c:=CG ⟨f1,f2,.mk a1 a2 a3 a4,.mk b1 b2 b3 b4,.mk t1 t2 t3 t4 t5⟩) (λ_=>⟨by simp,by simpa using hg,by simp [CG]⟩) (by simp) <| yg [] rfl (by simp;omega) <| JV rfl (λ_=>hC) rfl (by simp) <| BU rfl <| Bz rfl hK <| BU rfl ?_;clear hC hK hg;refine Aa rfl (λh=>?_) (λh=>?_)
 ·refine Aq rfl ?_;exact Ag ⟨_,rfl,tV (by cases o <;> cases q <;> simp at h ⊢),trivial⟩
 ·have e:(!o&&(q&&B))=B:=by cases o <;> cases q <;> simp at h ⊢
  rw [e];clear e h;refine Aq rfl <| Ad (fr:=[1,2,3]) [] [(1,1),(2,2),(3,3)] rfl (by simp) hS trivial rfl rfl rfl rfl <| Ai rfl ?_;cases B with
  | true =>
   obtain ⟨T,k,S,hE⟩:=y1 rfl;have hH:=Ih Tryz.func55 (by decide +kernel) rfl Fe Tryz.func269 (by decide +kernel) rfl (df:=[]) (dc:=[.ref 5 0,.ref 6 0]) hE;exact Ad (fr:=[4]) [(1,1),(2,2),(3,3),(5,5),(6,6)] [(4,4)] rfl (by simp) hH UT rfl rfl rfl rfl <| Ai rfl <| Ab rfl rfl rfl
  | false =>
   have hH:=J4 Tryz.func55 (by decide +kernel) rfl Fe Tryz.func269 (by decide +kernel) rfl (df:=[]) (dc:=[.ref 5 0,.ref 6 0]) (y2 rfl);exact Ad (fr:=[]) [(1,1),(2,2),(3,3),(5,5),(6,6)] [] rfl (by simp) hH UT rfl rfl rfl rfl <| Ai rfl <| Ab rfl rfl rfl
theorem eL (p:Nat->Bool) {i n:Nat} (h:i<n):IC p i (n-i)=if p i then some i else IC p (i+1) (n-(i+1)):=by
 rw [show n-i=(n-(i+1))+1 by omega];rfl
theorem mD (p:Nat->Bool) {i n:Nat} (h:n<=i):IC p i (n-i)=none:=by
 rw [show n-i=0 by omega];rfl
theorem Zl {m:Md} {i:Nat} {f:Fd} (h:m.funs[i]?=some f):U4 m i=((m.funs.take i).any (λg=>g.name == f.name) || !TC m f.from_ || !TC m f.to_ || !Ku m f):=by rw [U4,h]
theorem oY {P:Program} {f:FuncId} {g:Fn} {a v:V} (h:Al P f [a,.clo g [] []] v):Al P f [a,.fn g] v:=λI μ w xs hst hx=>h I μ w xs hst ⟨hx.1,λi v d p q=>by
 match i,q with
 | 0,q=>cases q;exact hx.2 0 v _ p rfl
 | 1,q =>
  cases q;have:=(hx.2 1 v _ p rfl).immInv;cases this;exact .imm _ _ (.clo _ _ _ _ _ rfl rfl (λi c x h=>by simp at h) (λi c x h=>by simp at h))
 | i+2,q=>simp at q⟩
def sW:Int×Int->V
 | (1,i)=>.iface 148 (.agg [.int .i64 i])
 | (2,i)=>.iface 149 (.agg [.int .i64 i])
 | (3,_)=>.iface 151 (.agg [])
 | _=>.niliface
def O7 (m:Md):Nat->Nat->List Str->Option Nat
 | _,0,_=>none
 | i,n+1,met=>match m.datas[i]? with
  | some d=>if (Ry m i d met).1=true then O7 m (i+1) n (Ry m i d met).2 else some i
  | none=>none
noncomputable def Rr (m:Md) (i:Nat):Bool:=match m.funs[i]? with
 | some f=>!(!((m.funs.take i).any λe=>e.name == f.name)&&((C5 [f.from_,f.to_]).all (MN m)&&Ku m f))
 | none=>false
noncomputable def FL (m:Md) (at_:Int):Int×Int :=
 if at_=0 then (match O7 m 0 m.datas.length [] with | some i=>(1,(i:Int)) | none=>(0,0))
 else if at_=1 then (match IC (Rr m) 0 m.funs.length with | some i=>(2,(i:Int)) | none=>(0,0))
 else if jP m=true then (0,0) else (3,0)
def nZ (m:Md):Prop:=∀d∈m.datas,∀c∈d.cons,c.args.length<=1000000
theorem dI {m:Md} (hf:xC m) (hA:nZ m):Al Tryz.prog 152 [.ip 98 (Oo m) 0,.int .i64 0] (sW (FL m 0)):=by
 have hl:=hf.datas;have hD:=λi d met hd=>lG m i d met hd (λc hc=>hA d (AF hd) c hc);have e:FL m 0=(match O7 m 0 m.datas.length [] with | some i=>(1,(i:Int)) | none=>(0,0)):=rfl;rw [e];clear e hA;refine Ac Ah Tryz.func152 (by decide +kernel) rfl [1,2,3,4] rfl rfl <| Ai rfl <| Aa rfl (λh=>?_) (λh=>by exfalso;simp at h);refine Aq rfl <| Ei rfl <| Ai rfl <| Ak (λz:Nat×List Str=>[(18,.imm (.int .i64 z.1)),(17,.imm (.int .i64 m.datas.length)),(5,.mapr 1),(0,.imm (.ip 98 (Oo m) 0))]) (λz=>[(1,some (.map (GW z.2)))]) [2,3,4] (λz=>m.datas.length-z.1)
  (λz=>z.1<=m.datas.length/\O7 m z.1 (m.datas.length-z.1) z.2=O7 m 0 m.datas.length []) (0,[])
  ⟨AL _,rfl⟩ ⟨rfl,AA (by simp),AM⟩ AI rfl λz hz ih=>?_
 obtain ⟨i,me⟩:=z;obtain ⟨hi1,hi2⟩:=hz;simp only at hi1 hi2 ih;generalize O7 m 0 m.datas.length []=R at *;refine Aq rfl <| Aa rfl (λh=>?_) (λh=>?_)
 ·have hlt:i<m.datas.length:=by simp at h;omega
  obtain ⟨d,hd⟩:=Ao hlt;have hC:=hD i d me hd;rw [show m.datas.length-i=(m.datas.length-(i+1))+1 by omega,O7,hd] at hi2;simp only at hi2;generalize Ry m i d me=w at *;obtain ⟨w1,w2⟩:=w;simp only at hC hi2;refine Aq rfl <| Ad (fr:=[]) [(1,1)] [] rfl (by simp) hC At rfl rfl rfl rfl <| Ai rfl ?_;cases w1 with
  | false =>
   refine Aa rfl (λh=>?_) (λh=>by exfalso;simp at h);rw [if_neg (by simp)] at hi2;rw [<- hi2];exact Aq rfl <| Ab rfl rfl rfl
  | true =>
   refine Aa rfl (λh=>by exfalso;simp at h) (λh=>?_);rw [if_pos rfl] at hi2;exact Aq rfl <| Ae (ih (i+1,w2) (by simp only;omega) ⟨by simp only;omega,hi2⟩) ⟨AA (Cb (by omega) (by omega)),AD⟩ AI rfl
 ·have hlt:¬i<m.datas.length:=by simp at h;omega
  rw [show m.datas.length-i=0 by omega,O7] at hi2;rw [<- hi2];exact Aw rfl <| Aq rfl <| Ab rfl rfl rfl
theorem Yl {m:Md} (hm:OkM m):Al Tryz.prog 152 [.ip 98 (Oo m) 0,.int .i64 1] (sW (FL m 1)):=by
 have hF:=λi f hf=>pZ hm i f hf;have hl:=hm.few.funs;have e:FL m 1=(match IC (Rr m) 0 m.funs.length with | some i=>(2,(i:Int)) | none=>(0,0)):=rfl;rw [e];clear e hm;refine Ac Ah Tryz.func152 (by decide +kernel) rfl [1,2,3,4] rfl rfl <| Ai rfl <| Aa rfl (λh=>by exfalso;simp at h) (λh=>?_);refine Aq rfl <| Aa rfl (λh=>?_) (λh=>by exfalso;simp at h);refine Aq rfl <| Ak (λi:Nat=>[(38,.imm (.int .i64 i)),(37,.imm (.int .i64 m.funs.length)),(0,.imm (.ip 98 (Oo m) 0))]) (λ_=>[]) [1,2,3,4] (λi=>m.funs.length-i)
  (λi=>i<=m.funs.length/\IC (Rr m) i (m.funs.length-i)=IC (Rr m) 0 m.funs.length) 0
  ⟨AL _,rfl⟩ ⟨rfl,AA (by simp),AI⟩ trivial rfl λi hi ih=>?_
 obtain ⟨hi1,hi2⟩:=hi;generalize IC (Rr m) 0 m.funs.length=R at *;refine Aq rfl <| Aa rfl (λh=>?_) (λh=>?_)
 ·have hlt:i<m.funs.length:=by simp at h;omega
  obtain ⟨f,hf⟩:=Ao hlt;have hC:=hF i f hf;have hw:Rr m i = !(!((m.funs.take i).any λe=>e.name == f.name)&&((C5 [f.from_,f.to_]).all (MN m)&&Ku m f)):=by rw [Rr,hf]
  rw [eL _ hlt,hw] at hi2;clear hw;generalize (!((m.funs.take i).any λe=>e.name == f.name)&&((C5 [f.from_,f.to_]).all (MN m)&&Ku m f))=o at *;refine Aq rfl <| Af rfl hC <| Ai rfl ?_;cases o with
  | false =>
   refine Aa rfl (λh=>?_) (λh=>by exfalso;simp at h);simp only [jX,if_true] at hi2;rw [<- hi2];exact Aq rfl <| Ab rfl rfl rfl
  | true =>
   refine Aa rfl (λh=>by exfalso;simp at h) (λh=>?_);simp only [Bool.not_true,Eo,if_false] at hi2;exact Aq rfl <| Ae (ih (i+1) (by omega) ⟨by omega,hi2⟩) ⟨AA (Cb (by omega) (by omega)),AM⟩ trivial rfl
 ·have hlt:¬i<m.funs.length:=by simp at h;omega
  rw [mD _ (by omega)] at hi2;rw [<- hi2];exact Aw rfl <| Aq rfl <| Ab rfl rfl rfl
theorem dG (m:Md):Al Tryz.prog 152 [.ip 98 (Oo m) 0,.int .i64 2] (sW (FL m 2)):=by
 have hC:=oY (KB m.funs 226 [] [] (λe=>e.name == PG&&BA e.from_ == 3) λe _=>dH e);have e:FL m 2=(if jP m=true then (0,0) else (3,0)):=rfl;rw [e];unfold jP;generalize (m.funs.any λe=>e.name == PG&&BA e.from_ == 3)=o at *;clear e;refine Ac Ah Tryz.func152 (by decide +kernel) rfl [1,2,3,4] rfl rfl <| Ai rfl <| Aa rfl (λh=>by exfalso;simp at h) (λh=>?_);refine Aq rfl <| Aa rfl (λh=>by exfalso;simp at h) (λh=>?_);refine Aq rfl <| Aa rfl (λh=>?_) (λh=>by exfalso;simp at h);refine Aq rfl <| Af rfl hC <| Ai rfl ?_;cases o with
 | false =>
  refine Aa rfl (λh=>?_) (λh=>by exfalso;simp at h);exact Aq rfl <| Ab rfl rfl rfl
 | true =>
  refine Aa rfl (λh=>by exfalso;simp at h) (λh=>?_);exact Aq rfl <| Ab rfl rfl rfl
end Go.Hk
namespace Go.Hk
structure PSeq where
 t:TypeId
 b:Bool
 g:Option (Bool×Bool)
 ob:List Prop
 dst:Option Nat
 todo:List DI
section
variable {P:Program} {n:Nat} {F:List Nat} {Q:DQ} {tt:TT} {env:Env} {st:St} {ids:List Nat} {todo:List DI} {I:Imm} {w:World}
end
end Go.Hk
namespace Go.Hk
def lM:D->Option Bool
 | .imm .niliface=>some true
 | .imm (.iface _ _)=>some false
 | _=>none
def rZ (n:Nat) (env:Env) (todo:List DI):Option PSeq :=
 match Bh todo ([],[]) with
 | some (all,o,todo')=>match o.op,Ca all env o with
  | .binOp op t x (.const .nilIface) _,some g=>match DT env x,BB n o.dst with
   | some dx,true=>match lM dx,op with
    | some b,.eql=>some ⟨t,b,g,[],o.dst,todo'⟩
    | some b,.neq=>some ⟨t,!b,g,[],o.dst,todo'⟩
    | _,_=>none
   | _,_=>none
  | _,_=>none
 | none=>none
section
variable {P:Program} {n:Nat} {F:List Nat} {Q:DQ} {env:Env} {st:St} {ids:List Nat} {todo:List DI}
theorem VN {t:TypeId} {x:Operand} {b0:Bool} {dx:D} {w:World} {v:Value} {I:Imm} {μ:Mu} (hu:P.underlying t=some (.interface (P.methodsAt t))) (hb:lM dx=some b0) (h:RepD I μ v dx) :
  ((do eqGuard .eql t x (.const .nilIface) v .nilIface;binOp .eql t v .nilIface:Sem Value).run P w = .ok (.bool b0) w)/\((do eqGuard .neq t x (.const .nilIface) v .nilIface;binOp .neq t v .nilIface:Sem Value).run P w = .ok (.bool (!b0)) w):=by
 unfold lM at hb
 split at hb
 ·cases hb;have:=h.immInv;cases this;rw [eqGuard_nil_constR,eqGuard_nil_constR];exact ⟨run_eql_nil_nil w t hu,run_neq_nil_nil w t hu⟩
 ·cases hb;have:=h.immInv;cases this with
  | iface u v x hv =>
  exact ⟨run_eql_held_nil w t _ _ hu,run_neq_held_nil w t _ _ hu⟩
 ·cases hb
theorem Na {t:TypeId} {b:Bool} {g:Option (Bool×Bool)} {ob:List Prop} {dst:Option Nat} {todo0:List DI} (h:rZ n env todo=some ⟨t,b,g,ob,dst,todo0⟩) (hu:P.underlying t=some (.interface (P.methodsAt t)))
  (hk:G P n F Q todo0 (BD dst (gD g (.imm (.bool b))) env) st ids):G P n F Q todo env st ids:=by
 unfold rZ at h
 split at h
 ·rename_i all o todo' h1
  split at h
  ·rename_i op t' x t2 g' hop hgd
   split at h
   ·rename_i dx hx hdo
    split at h
    ·rename_i b' hb;cases h;refine B9 (fr:=[]) (wr:=[]) (rd:=[]) h1 (Dl hgd λI μ st1 ids1 a w hag hst hops hcx=>?_) hdo (λc hc=>by rw [hop] at hc;cases hc) hk;rw [hop] at hops;have rx:=hops x (by simp [Op.operands]) _ hx;have hrun:(execOp a.eval o).run P w = .ok (.value (.bool b)) w:=by
      simp only [execOp,hop];exact A6 (VN hu hb rx).1
     rw [hrun];exact ⟨I,μ,hst,.imm _ _ (.bool _),Mu.le_refl μ,Ext.refl _ _ _ _⟩
    ·rename_i b' hb;cases h;refine B9 (fr:=[]) (wr:=[]) (rd:=[]) h1 (Dl hgd λI μ st1 ids1 a w hag hst hops hcx=>?_) hdo (λc hc=>by rw [hop] at hc;cases hc) hk;rw [hop] at hops;have rx:=hops x (by simp [Op.operands]) _ hx;have hrun:(execOp a.eval o).run P w = .ok (.value (.bool (!b'))) w:=by
      simp only [execOp,hop];exact A6 (VN hu hb rx).2
     rw [hrun];exact ⟨I,μ,hst,.imm _ _ (.bool _),Mu.le_refl μ,Ext.refl _ _ _ _⟩
    ·cases h
   ·cases h
  ·cases h
 ·cases h
end
end Go.Hk
namespace Go.Hk
open Go.Proofs
noncomputable def IS (m:Md):Int×Int:=if (FL m 0).1≠0 then FL m 0 else if (FL m 1).1≠0 then FL m 1 else FL m 2
theorem Tb {p:Int×Int} (h:p.1=0):sW p = .niliface:=by
 obtain ⟨a,b⟩:=p;simp only at h;subst h;rfl
theorem JO (m:Md) (j:Nat):(FL m j).1=0\/(∃i,FL m j=(1,i))\/(∃i,FL m j=(2,i))\/FL m j=(3,0):=by
 unfold FL
 split
 ·split
  ·exact .inr (.inl ⟨_,rfl⟩)
  ·exact .inl rfl
 ·split
  ·split
   ·exact .inr (.inr (.inl ⟨_,rfl⟩))
   ·exact .inl rfl
  ·split
   ·exact .inl rfl
   ·exact .inr (.inr (.inr rfl))
theorem dL {m:Md} (hm:OkM m) (hA:nZ m):Al Tryz.prog 97 [.agg (El m)] (sW (IS m)):=by
 have hS:=Gc m 0;have hL:∀j:Nat,j<3->Al Tryz.prog 152 [.ip 98 (Oo m) 0,.int .i64 j] (sW (FL m j)):=λj hj=>by
  match j,hj with
  | 0,_=>exact dI hm.few hA
  | 1,_=>exact Yl hm
  | 2,_=>exact dG m
 have hc:=JO m;have hW:∀j:Nat,j<3->(∀i:Nat,i<j->(FL m i).1=0)->(FL m j).1≠0->IS m=FL m j:=λj hj h1 h2=>by
  unfold IS
  match j,hj with
  | 0,_=>have h2:(FL m 0).1≠0:=h2;rw [if_pos h2];rfl
  | 1,_=>have h2:(FL m 1).1≠0:=h2;rw [if_neg (λh=>h (h1 0 (by omega))),if_pos h2];rfl
  | 2,_=>rw [if_neg (λh=>h (h1 0 (by omega))),if_neg (λh=>h (h1 1 (by omega)))];rfl
 have hN:(∀i:Nat,i<3->(FL m i).1=0)->sW (IS m) = .niliface:=λh=>by
  unfold IS;rw [if_neg (λh'=>h' (h 0 (by omega))),if_neg (λh'=>h' (h 1 (by omega)))];exact Tb (h 2 (by omega))
 clear hm hA;generalize IS m=R at *;have hS':Oo m=El m++[.mapv [],.int .i64 0,.sl []]:=rfl;generalize FL m=lk at *;obtain ⟨m1,m2,m3⟩:=m;refine Ac Ah Tryz.func97 (by decide +kernel) rfl [4,1,2,3,5] rfl rfl <| Ai rfl <| Ak (λj:Nat=>[(5,.imm (.int .i64 j)),(1,.ref 4 0)]) (λ_=>[(4,some (.immb 43 3 (El ⟨m1,m2,m3⟩)))]) [1,2,3,5] (λj=>3-j)
  (λj=>j<=3/\∀i:Nat,i<j->(lk i).1=0) 0
  ⟨by omega,λi h=>by omega⟩ AM AI rfl λj hj ih=>?_
 obtain ⟨hj1,hj2⟩:=hj;refine Aq rfl <| Aa rfl (λh=>?_) (λh=>?_)
 ·have hlt:j<3:=by simp at h;omega
  have hP:=hL j hlt;refine Aq rfl <| Ad (fr:=[1,2,3]) [] [(1,1),(2,2),(3,3)] rfl (by simp) hS trivial rfl rfl rfl rfl <| Ai rfl <| Wu 2 rfl <| By 3 rfl <| Wy 9 rfl rfl <| Aq rfl <| Af rfl hP ?_;have hcj:=hc j;have hWj:=hW j hlt hj2;clear hP hS hL hc hW hN;rcases hcj with hcj | hcj
  ·rw [Tb hcj];refine Ai rfl <| Na rfl (by kernel_rfl) <| Ai rfl <| Aa rfl (λh=>by cases h) (λh=>?_);exact Aq rfl <| Ae (ih (j+1) (by omega) ⟨by omega,λi hi=>if e:i=j then (e ▸ hcj) else hj2 i (by omega)⟩) ⟨AA (Cb (by omega) (by omega)),AI⟩ AI rfl
  ·rcases hcj with ⟨i,hi⟩ | ⟨i,hi⟩ | hi
   all_goals
    rw [hi] at hWj ⊢;rw [hWj (by simp)];refine Ai rfl <| Na rfl (by kernel_rfl) <| Ai rfl <| Aa rfl (λh=>?_) (λh=>by cases h);exact Aq rfl <| Ab rfl rfl rfl
 ·have hlt:¬j<3:=by simp at h;omega
  obtain rfl:j=3:=by omega
  exact Aw rfl <| Aq rfl <| Ag ⟨_,rfl,tV (hN hj2).symm,trivial⟩
theorem oM (i:Int):Al Tryz.prog 341 [.agg [.int .i64 i]] (.tup [.int .i64 1,.int .i64 i])/\Al Tryz.prog 342 [.agg [.int .i64 i]] (.tup [.int .i64 2,.int .i64 i])/\Al Tryz.prog 343 [.agg []] (.tup [.int .i64 3,.int .i64 0]):=by
 refine ⟨?_,?_,?_⟩
 ·exact Ac Ah Tryz.func341 (by decide +kernel) rfl [1,2] rfl rfl <| yg [] rfl (by simp;rfl) <| Ab rfl rfl rfl
 ·exact Ac Ah Tryz.func342 (by decide +kernel) rfl [1,2] rfl rfl <| yg [] rfl (by simp;rfl) <| Ab rfl rfl rfl
 ·exact Ac Ah Tryz.func343 (by decide +kernel) rfl [1,2] rfl rfl <| Ai rfl <| Ab rfl rfl rfl
theorem WV (m:Md):(IS m).1=0\/(∃i,IS m=(1,i))\/(∃i,IS m=(2,i))\/IS m=(3,0):=by
 unfold IS
 split
 ·exact JO m 0
 ·split
  ·exact JO m 1
  ·exact JO m 2
theorem dZ {m:Md} (hm:K3 m=true->OkM m/\nZ m):Al Tryz.prog 35 [.agg (El m)] (if K3 m=true then (if (IS m).1=0 then .tup [.int .i64 0,.int .i64 0,Fk 5] else .tup [.int .i64 (IS m).1,.int .i64 (IS m).2,Fk 0]) else .tup [.int .i64 0,.int .i64 0,Fk 2]):=by
 have hM:=Ho m;obtain ⟨t1,t2,t3⟩:=oM (IS m).2;have hc:=WV m;cases hb:K3 m with
 | false =>
  rw [if_neg (by simp)];rw [hb] at hM;clear t1 t2 t3 hc hm;obtain ⟨m1,m2,m3⟩:=m;refine Ac Ah Tryz.func35 (by decide +kernel) rfl [1,2] rfl rfl <| Ai rfl <| Af rfl hM <| Ai rfl <| Aa rfl (λh=>?_) (λh=>by exfalso;simp at h);exact Aq rfl <| Ab rfl rfl rfl
 | true =>
  rw [if_pos rfl];rw [hb] at hM;obtain ⟨h1,h2⟩:=hm hb;have hF:=dL h1 h2;clear h1 h2 hm;generalize IS m=R at *;obtain ⟨m1,m2,m3⟩:=m;refine Ac Ah Tryz.func35 (by decide +kernel) rfl [1,2] rfl rfl <| Ai rfl <| Af rfl hM <| Ai rfl <| Aa rfl (λh=>by exfalso;simp at h) (λh=>?_);refine Aq rfl <| Af rfl hF ?_;rcases hc with hc | hc
  ·rw [Tb hc,if_pos hc];refine Ai rfl <| Na rfl (by kernel_rfl) <| Ai rfl <| Aa rfl (λh=>?_) (λh=>by cases h);exact Aq rfl <| Ab rfl rfl rfl
  ·rcases hc with ⟨i,rfl⟩ | ⟨i,rfl⟩ | rfl
   ·rw [if_neg (by simp)];refine Ai rfl <| Na rfl (by kernel_rfl) <| Ai rfl <| Aa rfl (λh=>by cases h) (λh=>?_);exact Aq rfl <| Ui 341 rfl (by kernel_rfl) (λ_=>t1) (by simp) <| Ai rfl <| Ab rfl rfl rfl
   ·rw [if_neg (by simp)];refine Ai rfl <| Na rfl (by kernel_rfl) <| Ai rfl <| Aa rfl (λh=>by cases h) (λh=>?_);exact Aq rfl <| Ui 342 rfl (by kernel_rfl) (λ_=>t2) (by simp) <| Ai rfl <| Ab rfl rfl rfl
   ·rw [if_neg (by simp)];refine Ai rfl <| Na rfl (by kernel_rfl) <| Ai rfl <| Aa rfl (λh=>by cases h) (λh=>?_);exact Aq rfl <| Ui 343 rfl (by kernel_rfl) (λ_=>t3) (by simp) <| Ai rfl <| Ab rfl rfl rfl
theorem Ym {es:Array MapEntry} {seen:Array Nat} (h:(leftOf es seen).size=0) {j:Nat} {e:MapEntry} (he:es[j]?=some e):seen.contains e.born=true:=by
 have h2:leftOf es seen = #[]:=XS h;unfold leftOf at h2;rw [Array.filter_eq_empty_iff] at h2;have:=h2 e (Array.mem_of_getElem? he);simpa using this
noncomputable def Qb (L:List Ty):V:=if L.all (AH true)=true then .tup [.sl (A2 L),Fk 0] else .tup [.sl [],Fk 3]
theorem Y9 (a b:Ty) (h:(AH true a&&AH true b)=true) {T:List (Int×Ty)} (hE:CU pO [] 0 [] a b T) {θ:Int->Ty} (hs:Sol (B6 T) θ) (hk:∀p∈T,0<=p.1/\p.1<100) :
  Al Tryz.prog 13 [.agg (dTyc a),.agg (dTyc b)] (Qb (gC T θ)):=by
 have hK:=Er [a,b];simp only [Da,HH,HG] at hK;rw [h] at hK;have hS:=K9;have hH:=Ih Tryz.func55 (by decide +kernel) rfl Fe Tryz.func56 (by decide +kernel) rfl (df:=[]) (dc:=[.ref 4 0,.ref 5 0,.ref 6 0]) (WX hE);obtain ⟨a1,a2,a3,a4⟩:=a;obtain ⟨b1,b2,b3,b4⟩:=b;refine Ac Ah Tryz.func13 (by decide +kernel) rfl [5,6,1,2,3,4,7,8,9,10,11] rfl rfl <| Ai rfl <| Af rfl hK <| Ai rfl <| Aa rfl (λh=>by exfalso;simp at h) (λh=>?_)
 refine Aq rfl <| Ad (fr:=[1,2,3]) [] [(1,1),(2,2),(3,3)] rfl (by simp) hS trivial rfl rfl rfl rfl <| Ai rfl <| Ad (fr:=[]) [(1,1),(2,2),(3,3),(4,4),(5,5),(6,6)] [] rfl (by simp) hH ⟨⟨rfl,rfl,rfl⟩,⟨rfl,rfl,rfl⟩,⟨rfl,rfl,rfl⟩,⟨rfl,rfl,rfl⟩,⟨rfl,rfl,rfl⟩,⟨rfl,rfl,rfl⟩,trivial⟩ rfl rfl rfl rfl ?_;clear hH;refine Ai rfl <| Aa rfl (λh=>by exfalso;simp at h) (λh=>?_);refine Il 2 rfl λbm es clock hes hst=>Aq rfl <| lZ Ah rfl <| Ai rfl ?_;have hlen:es.size=T.length:=by simpa using hes
 refine Ak (λz:Array Nat×Int=>[(27,.iter 7),(8,.imm (.int .i64 z.2)),(6,.ref 4 0),(7,.nils)])
  (λz=>[(4,some (.cells 92 1 [.ref 1 0])),(1,some (bQ pO 0 2 3 0)),(2,some (.mapx (T.map fR) bm es clock)),(3,some (.row 25 4 [])),(7,some (.miter bm clock z.1 clock))]) [8,9,10,11]
  (λz=>(leftOf es z.1).size) (λz=>((z.2 = -1\/∃p∈T,p.1=z.2) /\ -1<=z.2/\z.2<100)/\∀(j:Nat) (e:MapEntry) (p:Int×Ty),es[j]?=some e->z.1.contains e.born=true->T[j]?=some p->p.1<=z.2) (#[],-1)
  ⟨⟨.inl rfl,by simp,by simp⟩,λj e p _ h=>by simp at h⟩ BF Bx rfl λz hz ih=>?_
 obtain ⟨seen,x⟩:=z;obtain ⟨⟨hz1,hz2,hz3⟩,hz4⟩:=hz;simp only at hz1 hz2 hz3 hz4;refine Aq rfl <| qI 2 rfl rfl (λx hx=>hst.1 x hx) (B8 _) (by decide) λz hz=>?_;rcases z with _ | ⟨j,e1⟩
 rotate_left
 ·obtain ⟨hy1,hy2⟩:=hz;obtain ⟨p,hp⟩:∃p,T[j]?=some p:=Ao (by rw [<- hlen];exact (Gu.1 hy1).1);have hkv:(T.map fR)[j]?=some (fR p):=by simp [hp]
  have hD:Vr (T.map fR) (some (j,e1)) = .imm (.tup [.bool true,.int .i64 p.1,.agg (dTyc p.2)]):=by simp only [Vr,hkv,fR]
  rw [hD];refine Aq rfl <| Aa rfl (λh=>?_) (λh=>by exfalso;simp at h);refine Aq rfl <| mA 2 rfl rfl rfl rfl hy1 hkv <| Ai rfl ?_;have hsh:=left_shrinks es seen e1 hy2;have hpm:=AF hp;obtain ⟨k1,k2⟩:=hk p hpm;refine Ae (ih (seen.push e1.born,if p.1 > x then p.1 else x) hsh ⟨⟨?_,?_,?_⟩,λj' e' p' q1 q2 q3=>?_⟩) BF Bx rfl
  ·simp only;split
   ·exact .inr ⟨p,hpm,rfl⟩
   ·exact hz1
  ·simp only;split <;> omega
  ·simp only;split <;> omega
  ·simp only at q2 ⊢;rw [contains_push,Hd] at q2;rcases q2 with q2 | q2
   ·have:=hz4 j' e' p' q1 q2 q3
    split <;> omega
   ·have hb:e'.born=e1.born:=by simpa using q2
    have hjj:j'=j:=by
     have hnd:=hst.2.1;have g1:(es.toList.map (·.born))[j']?=some e'.born:=by simp [q1]
     have g2:(es.toList.map (·.born))[j]?=some e1.born:=by simp [hy1]
     rw [hb] at g1;exact (List.getElem?_inj (AJ.1 g1).1 hnd).1 (g1.trans g2.symm)
    subst hjj;rw [q3] at hp;cases hp
    split <;> omega
 have hz:(leftOf es seen).size=0:=hz;have hmx:cS T=x:=jM (λp hp=>by
  obtain ⟨j,hj⟩:=HX hp;obtain ⟨e,he⟩:∃e,es[j]?=some e:=⟨_,Ox (by rw [hlen];exact (AJ.1 hj).1)⟩
  exact hz4 j e p he (Ym hz he) hj) hz1 (λp hp=>(hk p hp).1) hz2
 clear ih hz4 hz1;obtain ⟨N,hN⟩:∃N:Nat,x+1=N:=⟨(x+1).toNat,by omega⟩
 have hL:gC T θ=(List.range N).map λi:Nat=>θ i:=by rw [gC,hmx,hN,PR]
 rw [hL];have hN1:N<=100:=by omega
 refine Aq rfl <| Aa rfl (λh=>by exfalso;simp at h) (λh=>?_);refine Aw rfl <| Hg 2 rfl <| Aq rfl <| Gf (e:=25) (sz:=4) 7 8 (by decide) rfl <| Ak (λj:Nat=>[(37,.imm (.int .i64 j)),(36,.imm (.int .i64 N)),(6,.ref 4 0),(7,.own 8 (A2 ((List.range j).map λi:Nat=>θ i)).length)])
  (λj=>[(4,some (.cells 92 1 [.ref 1 0])),(1,some (bQ pO 0 2 3 0)),(2,some (UM T)),(3,some (.row 25 4 [])),(8,some (.row 25 4 (A2 ((List.range j).map λi:Nat=>θ i))))]) [9,10,11]
  (λj=>N-j) (λj=>j<=N/\((List.range j).map λi:Nat=>θ i).all (AH true)=true) 0
  ⟨AL _,rfl⟩ ⟨rfl,AA (by rw [Cb (by omega) (by omega)];exact hN),AM⟩ Bx rfl λj hj ih=>?_
 obtain ⟨hj1,hj2⟩:=hj;refine Aq rfl <| Aa rfl (λh=>?_) (λh=>?_)
 ·have hlt:j<N:=by simp at h;omega
  have hH:=VD j;obtain ⟨w1,w2⟩:=R6 (m:=pO) (k:=0) (S:=[]) hs (t:=As j) rfl;rw [CJ] at w1 w2;have hC:=Er [θ j];simp only [Da,HH,HG] at hC;have hall:∀f,AH true (θ j)=f->((List.range N).map λi:Nat=>θ i).all (AH true)=true->f=true:=λf hf h=>by
   rw [<- hf];exact EV.1 h _ (Cc.2 ⟨j,So.2 hlt,rfl⟩)
  have hnx:(List.range (j+1)).map (λi:Nat=>θ i)=((List.range j).map λi:Nat=>θ i)++[θ j]:=by rw [MT,C4];rfl
  refine Aq rfl <| Af rfl hH <| Ai rfl ?_;generalize hu:θ (j:Int)=u at w1 w2 hC hall hnx;by_cases hsz:Ek u<=12
  ·have hW:=w1 hsz;generalize hfo:AH true u=fo at hC;have hfo':=hall fo hfo;obtain ⟨t1,t2,t3,t4⟩:=u;refine A4 [(1,1),(2,2),(3,3)] [] [1,2,3] (fr:=[]) (nm:=[]) rfl trivial (by simp) hW Au rfl DM rfl rfl rfl <| yg [] rfl (by simp;rfl) <| Bz rfl hC <| BU rfl ?_;cases fo with
   | false =>
    refine Aa rfl (λh=>?_) (λh=>by exfalso;simp at h);refine Aq rfl <| Ab rfl rfl ?_;rw [Qb,if_neg (λh=>by cases hfo' h)];rfl
   | true =>
    refine Aa rfl (λh=>by exfalso;simp at h) (λh=>?_);refine Aq rfl <| B4 Ah rfl ⟨by simp,by simp [maxLen];omega,by simp;omega,trivial⟩ <| Ai rfl <| AZ 8 10 rfl ?_;have et:A2 ((List.range (j+1)).map λi:Nat=>θ i)=A2 ((List.range j).map λi:Nat=>θ i)++[dTyc (.mk t1 t2 t3 t4)]:=by rw [hnx,Eu];rfl
    refine Ae (ih (j+1) (by omega) ⟨by omega,?_⟩) ⟨AA (Cb (by omega) (by omega)),rfl,rfl,by rw [et];rfl,trivial⟩ ⟨rfl,rfl,rfl,rfl,by rw [et];rfl,trivial⟩ rfl;rw [hnx,HI,hj2];simpa using hfo
  ·have hW:=w2 (by omega);have hno:AH true u=false:=by
    cases hf:AH true u with
    | false=>rfl
    | true=>exact absurd (eN hf) hsz
   have hfo':=hall false hno;refine A4 [(1,1),(2,2),(3,3)] [] [] (fr:=[]) (nm:=[1,2,3]) rfl trivial (by simp) hW Au rfl trivial rfl rfl rfl <| yg [] rfl (by simp [Am];rfl) <| Aj (v:=.bool false) rfl (λhc=>by simp [Am] at hc) (by simp [Am]) <| BU rfl <| Aa rfl (λh=>?_) (λh=>by exfalso;simp at h);refine Aq rfl <| Ab rfl rfl ?_;rw [Qb,if_neg (λh=>by cases hfo' h)];rfl
 ·have hlt:j=N:=by simp at h;omega
  subst hlt;refine Aw rfl <| By 8 rfl <| Aq rfl <| Ab rfl rfl ?_;rw [Qb,if_pos hj2];rfl
theorem X9 {op n:Int} {x:Str} {k p:Nat} (h:C6 op n x k p=true):p<=5:=by
 unfold C6 at h;by_cases e0:op=1
 ·rw [if_pos e0] at h;simp [CB,F9] at h;omega
 rw [if_neg e0] at h;by_cases e1:op=2
 ·rw [if_pos e1] at h;simp [CB,F9] at h;omega
 rw [if_neg e1] at h;by_cases e2:op=3\/op=21\/op=25\/op=28
 ·rw [if_pos e2] at h;simp [CB,F9] at h;omega
 rw [if_neg e2] at h;by_cases e3:op=4
 ·rw [if_pos e3] at h;simp [CB,F9] at h;omega
 rw [if_neg e3] at h;by_cases e4:op=5\/op=27
 ·rw [if_pos e4] at h;simp [CB,F9] at h;omega
 rw [if_neg e4] at h;by_cases e5:op=7
 ·rw [if_pos e5] at h;simp [CB,F9] at h;omega
 rw [if_neg e5] at h;by_cases e6:op=8
 ·rw [if_pos e6] at h;simp [CB,F9] at h;omega
 rw [if_neg e6] at h;by_cases e7:op=14
 ·rw [if_pos e7] at h;simp [CB,F9] at h;omega
 rw [if_neg e7] at h;by_cases e8:op=15
 ·rw [if_pos e8] at h;simp [CB,F9] at h;omega
 rw [if_neg e8] at h;by_cases e9:op=16\/op=17\/op=19\/op=20\/op=23\/op=26
 ·rw [if_pos e9] at h;simp [CB,F9] at h;omega
 rw [if_neg e9] at h;by_cases e10:op=24
 ·rw [if_pos e10] at h;simp [CB,F9] at h;omega
 rw [if_neg e10] at h;by_cases e11:op=6\/op=9\/op=10\/op=11\/op=12\/op=13\/op=18\/op=22
 ·rw [if_pos e11] at h;simp [CB,F9] at h;omega
 rw [if_neg e11] at h;cases h
theorem RW:∀{l:List Ty},l.all Iy=true->Dx l<=12*l.length
 | [],_=>by simp [Dx]
 | t::r,h=>by
  simp only [Da,A1] at h;have h1:=h.1;simp only [Iy,A1,decide_eq_true_eq] at h1;have h2:=EJ t 12 h1.1.1;rw [PA] at h2;have h3:=RW h.2;simp only [Dx,Dh];omega
mutual
theorem Zs:∀(t:Tm) (l d:Int),0<=Bp t l d->Cy t=true->(JK t:Int)<=61*(l-Bp t l d)
 | .mk op n x ks ps,l,d,h,hn=>by
  simp only [Bp] at h ⊢;by_cases e:l<1\/d<1
  ·rw [if_pos e] at h;omega
  ·rw [if_neg e] at h ⊢;simp only [Cy,A1] at hn;have h1:=UF ks (l-1) (d-1) h hn.2;have h2:=X9 hn.1.1;have h3:=RW hn.1.2;simp only [JK];omega
theorem UF:∀(ts:List Tm) (l d:Int),0<=BK ts l d->Df ts=true->(De ts:Int)<=61*(l-BK ts l d)
 | [],l,d,h,_=>by simp [De,BK]
 | t::r,l,d,h,hn=>by
  simp only [BK] at h ⊢;by_cases e:0<=l
  ·rw [if_pos e] at h ⊢;simp only [Df,A1] at hn;have h0:0<=Bp t l d:=by
    by_cases e2:0<=Bp t l d
    ·exact e2
    ·have:=(IX r (Bp t l d) d (GQ t l d).1).2;omega
   have h1:=Zs t l d h0 hn.1;have h2:=UF r (Bp t l d) d h hn.2;simp only [De];omega
  ·rw [if_neg e] at h;omega
end
theorem bM {t:Tm} (h:RJ t=true):Cy t=true/\JK t<=100000:=by
 simp only [RJ,A1,decide_eq_true_eq] at h;have h1:=Zs t 60 14 h.1 h.2;exact ⟨h.2,by omega⟩
theorem OW {t:Ty} (h:Gl t=true):CA t=[]/\Cl t=true:=by
 simp only [Gl,A1] at h;have:=Lw t h.2;exact ⟨this.2.2 rfl,this.1⟩
theorem tT {m:Md} (h:Ef m=true):OkM m/\nZ m:=by
 simp only [Ef,A1,decide_eq_true_eq,F9] at h;obtain ⟨⟨⟨⟨h1,h2⟩,h3⟩,h4⟩,h5⟩:=h;have hf:∀f∈m.funs,Qw f=true:=EV.1 h5;have hd:∀d∈m.datas,IP d=true:=EV.1 h4;have hc:∀d∈m.datas,d.cons.length<=5/\∀c∈d.cons,O8 c=true:=λd hd'=>by
  have:=hd d hd';simp only [IP,A1,decide_eq_true_eq,F9] at this;exact ⟨by omega,EV.1 this.2⟩
 have ha:∀d∈m.datas,∀c∈d.cons,c.args.length<=3/\∀t∈c.args,Gl t=true:=λd hd' c hc'=>by
  have:=(hc d hd').2 c hc';simp only [O8,A1,decide_eq_true_eq] at this;exact ⟨by omega,EV.1 this.2⟩
 refine ⟨⟨⟨by omega,by omega,λd hd'=>by have:=(hc d hd').1;omega⟩,⟨λf hf'=>?_,λd hd' c hc' t ht=>OW ((ha d hd' c hc').2 t ht)⟩,λf hf'=>?_⟩,λd hd' c hc'=>by have:=(ha d hd' c hc').1;omega⟩
 ·have:=hf f hf';simp only [Qw,A1] at this;obtain ⟨a1,a2⟩:=OW this.1.1.2;obtain ⟨b1,b2⟩:=OW this.1.2;exact ⟨by simp [Ba,CA,Dm,a1,b1],by simp [Ba,Cl,FC,a2,b2]⟩
 ·have:=hf f hf';simp only [Qw,A1] at this;exact bM this.2
mutual
theorem tS (m:Md) {b:Bool}:∀t:Ty,C7 b t=true->(Gn t).all (MN m)=TC m t
 | .mk s n x ps,h=>by
  simp only [C7,A1] at h;simp only [Gn,Da,TC,OH m ps h.2];by_cases e:s=8
  ·subst e;have hp:ps=[]:=by
    have:=h.1;simp [Ct] at this;exact this.1.1
   subst hp;simp [MN,BA,Ky,Jl]
  ·rw [if_neg e];simp [MN,BA,e]
theorem OH (m:Md) {b:Bool}:∀l:List Ty,BW b l=true->(C5 l).all (MN m)=Jl m l
 | [],_=>rfl
 | t::r,h=>by
  simp only [BW,A1] at h;simp only [C5,HI,Jl,tS m t h.1,OH m r h.2]
end
theorem RN {b:Bool}:∀{l:List Ty},(∀t∈l,C7 b t=true)->BW b l=true
 | [],_=>rfl
 | t::r,h=>by simp only [BW,A1];exact ⟨h t (by simp),RN λu hu=>h u (by simp [hu])⟩
theorem lT {l:List Str} {x y:Str}:BO (J2 l x) y=(BO l y||x == y):=by
 unfold J2;split
 ·rename_i h;by_cases e:x=y
  ·subst e;simp [h]
  ·simp [e]
 ·rw [J5];simp [BO]
theorem W2 (m:Md) (cs:List Cd) (b:Bool) (met:List Str):∀j,j<=cs.length ->
  ((cs.take j).foldl (eW m) (b,met)).1=(b && !((List.range j).any λk=>match cs[k]? with | some c=>BO (met++(cs.take k).map (λc:Cd=>c.name)) c.name | none=>false)&&(cs.take j).all λc=>(C5 c.args).all (MN m)) /\
   ∀s,BO ((cs.take j).foldl (eW m) (b,met)).2 s=BO (met++(cs.take j).map (λc:Cd=>c.name)) s
 | 0,_=>by simp
 | j+1,h=>by
  obtain ⟨h1,h2⟩:=W2 m cs b met j (by omega);obtain ⟨c,hc⟩:=Ao (l:=cs) (i:=j) (by omega);rw [Be hc,XJ,NM,XK,MT,Hb];simp only [eW,h1,h2,XR,List.any_nil,hc,Bool.or_false,HI,Da,HH,HG,lT,C4,Cz,HJ];refine ⟨?_,λs=>?_⟩
  ·generalize (List.range j).any _=o1;generalize BO _ c.name=o2;generalize (cs.take j).all _=o3;generalize (C5 c.args).all _=o4;cases b <;> cases o1 <;> cases o2 <;> cases o3 <;> cases o4 <;> rfl
  ·rw [<- CE,J5 _ [c.name]];simp [BO]
theorem uP {m:Md} (hm:Ef m=true) {i:Nat} {d:Dt} (hd:m.datas[i]?=some d) {met:List Str} (hmet:∀s,BO met s=BO (uR (m.datas.take i)) s) :
  (Ry m i d met).1 = !U5 m i/\∀s,BO (Ry m i d met).2 s=BO (uR (m.datas.take (i+1))) s:=by
 obtain ⟨h1,h2⟩:=W2 m d.cons (!((m.datas.take i).any λe=>e.name == d.name)) met d.cons.length (B8 _);rw [Jr] at h1 h2;have hw:∀c∈d.cons,BW false c.args=true:=λc hc=>by
  simp only [Ef,A1] at hm;have:=EV.1 hm.1.2 d (AF hd);simp only [IP,A1] at this;have:=EV.1 this.2 c hc;simp only [O8,A1] at this;refine RN λt ht=>?_;have:=EV.1 this.2 t ht;simp only [Gl,A1] at this;exact this.2
 have e1:(d.cons.all λc=>(C5 c.args).all (MN m)) = !d.cons.any λc=>!Jl m c.args:=by
  have:∀l:List Cd,(∀c∈l,(C5 c.args).all (MN m)=Jl m c.args)->(l.all λc=>(C5 c.args).all (MN m)) = !l.any λc=>!Jl m c.args:=λl=>by
   induction l with
   | nil=>intro _;rfl
   | cons c r ih =>
    intro h;simp only [Da,XR,ih λx hx=>h x (by simp [hx]),h c (by simp)];cases Jl m c.args <;> simp
  exact this _ λc hc=>OH m c.args (hw c hc)
 have e2:∀k:Nat,(match d.cons[k]? with | some c=>BO (met++(d.cons.take k).map (λc:Cd=>c.name)) c.name | none=>false)=(match d.cons[k]? with | some c=>BO (uR (m.datas.take i)++(d.cons.take k).map (λc:Cd=>c.name)) c.name | none=>false):=λk=>by
  cases d.cons[k]? with
  | none=>rfl
  | some c=>simp only [J5,hmet]
 refine ⟨?_,λs=>?_⟩
 ·unfold Ry;rw [h1,e1];simp only [e2,U5,vN,hd];generalize (List.range d.cons.length).any _=o1;generalize (m.datas.take i).any _=o2;generalize d.cons.any _=o3;cases o1 <;> cases o2 <;> cases o3 <;> rfl
 ·unfold Ry;rw [h2,J5,hmet,Be hd];simp only [uR,C4,Yf,Cz,HJ,Jo,List.flatten_nil,IM,J5]
theorem aJ {m:Md} (hm:Ef m=true):∀(n i:Nat) (met:List Str),i+n=m.datas.length->(∀s,BO met s=BO (uR (m.datas.take i)) s)->O7 m i n met=IC (U5 m) i n
 | 0,_,_,_,_=>rfl
 | n+1,i,met,h,hmet=>by
  obtain ⟨d,hd⟩:=Ao (l:=m.datas) (i:=i) (by omega);obtain ⟨h1,h2⟩:=uP hm hd hmet;rw [O7,IC,hd];simp only [h1];cases U5 m i with
  | true=>rfl
  | false =>
   simp only [jX,if_true,Eo,if_false];exact aJ hm n (i+1) _ (by omega) h2
theorem sV {m:Md} (hm:Ef m=true):IS m=oE m:=by
 have e0:O7 m 0 m.datas.length []=IC (U5 m) 0 m.datas.length:=aJ hm _ 0 [] (by omega) λs=>by simp [uR]
 have e1:Rr m=U4 m:=funext λi=>by
  unfold Rr U4;cases hf:m.funs[i]? with
  | none=>rfl
  | some f =>
   simp only;have hw:BW false [f.from_,f.to_]=true:=by
    simp only [Ef,A1] at hm;have:=EV.1 hm.2 f (AF hf);simp only [Qw,Gl,A1] at this;simp [BW,this.1.1.2.2,this.1.2.2]
   have:=OH m _ hw;rw [this];simp only [Jl,HG];generalize (m.funs.take i).any _=o1;generalize TC m f.from_=o2;generalize TC m f.to_=o3;generalize Ku m f=o4;cases o1 <;> cases o2 <;> cases o3 <;> cases o4 <;> rfl
 have l0:FL m 0=(match O7 m 0 m.datas.length [] with | some i=>(1,(i:Int)) | none=>(0,0)):=rfl;have l1:FL m 1=(match IC (Rr m) 0 m.funs.length with | some i=>(2,(i:Int)) | none=>(0,0)):=rfl;have l2:FL m 2=if jP m=true then (0,0) else (3,0):=rfl
 unfold IS oE;rw [l0,l1,l2,e0,e1];cases IC (U5 m) 0 m.datas.length with
 | some i=>simp
 | none =>
  cases IC (U4 m) 0 m.funs.length with
  | some i=>simp
  | none=>simp
theorem PZ (σ:Sb):∀H,(∀i:Nat,i<H->(σ (i:Int)).isSome=true->i+1<=Gb σ H)/\(Gb σ H=0\/∃i:Nat,i<H/\Gb σ H=i+1/\(σ (i:Int)).isSome=true)
 | 0=>⟨λi h=>by omega,.inl rfl⟩
 | H+1=>by
  obtain ⟨h1,h2⟩:=PZ σ H;simp only [Gb]
  split
  ·rename_i hs;exact ⟨λi hi _=>by omega,.inr ⟨H,by omega,rfl,hs⟩⟩
  ·rename_i hs;refine ⟨λi hi his=>?_,h2.imp id λ⟨i,a,b,c⟩=>⟨i,by omega,b,c⟩⟩;by_cases e:i=H
   ·subst e;exact absurd his hs
   ·exact h1 i (by omega) his
theorem Tn {T:List (Int×Ty)} {n:Int}:(B6 T n).isSome=true↔∃p∈T,p.1=n:=by
 induction T with
 | nil=>simp [B6]
 | cons p r ih =>
  simp only [B6]
  split
  ·rename_i h;simp [h]
  ·rename_i h;simp [h,ih]
theorem jL {T:List (Int×Ty)} {H:Nat} (h:∀p∈T,0<=p.1/\p.1<H):cS T=(Gb (B6 T) H:Int)-1:=by
 obtain ⟨h1,h2⟩:=PZ (B6 T) H;refine jM (λp hp=>?_) ?_ (λp hp=>(h p hp).1) (by omega)
 ·obtain ⟨a,b⟩:=h p hp;have:=h1 p.1.toNat (by omega) (Tn.2 ⟨p,hp,by omega⟩)
  omega
 ·rcases h2 with h2 | ⟨i,a,b,c⟩
  ·left;omega
  ·right;obtain ⟨p,hp,e⟩:=Tn.1 c;exact ⟨p,hp,by omega⟩
noncomputable def V5 (H:Nat):Option Sb->V
 | some σ=>Qb (U9 σ H)
 | none=>.tup [.sl [],Fk 7]
mutual
theorem N6 {b:Bool}:∀t:Ty,C7 b t=true->Gp t=true
 | .mk s n x ps,h=>by
  simp only [C7,A1] at h;obtain ⟨h1,h2,h3,h4⟩:=Zw h.1;simp only [Gp,Lv ps h.2,HG,Hd,A1,decide_eq_true_eq,bne_iff_ne];by_cases e:s=9
  ·right;have:=h3 e;omega
  ·exact .inl e
theorem Lv {b:Bool}:∀l:List Ty,BW b l=true->FQ l=true
 | [],_=>rfl
 | t::r,h=>by
  simp only [BW,A1] at h;simp only [FQ,N6 t h.1,Lv r h.2,Bool.and_self]
end
theorem GC {t:Ty} (h:AH true t=true):Cl t=true/\inB 100 t/\Gp t=true:=by
 simp only [AH,A1] at h;have:=Lw t h.2;exact ⟨this.1,this.2.1,N6 t h.2⟩
theorem Sy {a b:Ty} (h:(AH true a&&AH true b)=true) {n:Nat} {r:Option Sb} (hE:M4 n (λ_=>none) a b r) {H:Nat} (hH:H<=100) (ha:inB H a) (hb:inB H b) :
  Al Tryz.prog 13 [.agg (dTyc a),.agg (dTyc b)] (V5 H r):=by
 have hf:=h;simp only [A1] at hf;obtain ⟨wa,_,_⟩:=GC hf.1;obtain ⟨wb,_,_⟩:=GC hf.2;have h0:Dom (H:Int) (B6 []):=λn t h=>(nomatch h)
 have hs0:Sol (B6 []) As:=Sol.mk (λn t h=>nomatch h) (λn h=>rfl) (λn t h=>nomatch h) (λn t h=>nomatch h);have hG:=aI pO 0 [] (H:=H) n [] a b r hE ⟨As,hs0⟩ h0 wa wb ha hb;have hU:=Q2 (H:=H) hE hs0 h0 wa wb ha hb;cases r with
 | none=>exact eA a b h hG
 | some σ' =>
  obtain ⟨T',hK,rfl⟩:=hG;obtain ⟨⟨θ,hθ⟩,hD,_⟩:=hU;have hk:∀p∈T',0<=p.1/\p.1<(H:Int):=λp hp=>by
   obtain ⟨t,ht⟩:=XI.1 (Tn.2 ⟨p,hp,rfl⟩);exact (hD _ _ ht).1
  have hY:=Y9 a b h hK hθ λp hp=>by have:=hk p hp;omega
  have e:gC T' θ=U9 (B6 T') H:=by
   rw [gC,U9,jL hk,Ph hθ];congr 2;omega
  rw [e] at hY;exact hY
def vO:Str:=[109,111,100,117,108,101,32,109,32,123,32,116,121,112,101,32,76,105,115,116,32,61,32,78,105,108,32,124,32,67,111,110,115,40,105,110,116,44,32,76,105,115,116,41,59,32,102,117,110,32,115,117,109,40,108,32,58,32,76,105,115,116,41,32,58,32,105,110,116,32,61,32,109,97,116,99,104,32,108,32,123,32,78,105,108,32,45,62,32,48,32,124,32,67,111,110,115,40,120,44,32,114,41,32,45,62,32,120,32,43,32,115,117,109,32,114,32,125,59,32,102,117,110,32,109,97,105,110,40,117,32,58,32,117,110,105,116,41,32,58,32,105,110,116,32,61,32,108,101,116,32,99,32,61,32,99,101,108,108,40,78,105,108,41,32,105,110,32,108,101,116,32,120,32,61,32,112,117,116,40,99,44,32,67,111,110,115,40,105,110,112,117,116,44,32,103,101,116,40,99,41,41,41,32,105,110,32,111,117,116,40,49,44,32,115,117,109,32,40,103,101,116,40,99,41,41,41,59,32,125]
def vR:Str:=[102,117,110,32,102,32,61,62,32,102,32,49]
def vQ:Str:=[102,117,110,32,120,32,61,62,32,120,32,120]
def vP:Str:=[115,117,109]
def Ci:Str:=[76,105,115,116]
def Zr (s:Str):List Tok:=(HO 200 s (E8 s 0)).getD []
def sumK:Fd:=⟨[115,117,109],[108],Bt Ci,AT,(.mk 15 0 [] [(.mk 4 0 [108] [] []),(.mk 1 0 [] [] []),(.mk 9 0 [] [(.mk 4 0 [120] [] []),(.mk 6 0 [] [(.mk 4 0 [115,117,109] [] []),(.mk 4 0 [114] [] [])] [])] [])] [.mk 6 0 [78,105,108] [],.mk 6 0 [67,111,110,115] [.mk 2 0 [120] [],.mk 2 0 [114] []]])⟩
def mainK:Fd:=⟨[109,97,105,110],[117],Ds,AT,(.mk 7 0 [99] [(.mk 16 0 [] [(.mk 14 0 [78,105,108] [] [])] []),(.mk 7 0 [120] [(.mk 18 0 [] [(.mk 4 0 [99] [] []),(.mk 14 0 [67,111,110,115] [(.mk 25 0 [] [] []),(.mk 17 0 [] [(.mk 4 0 [99] [] [])] [])] [])] []),(.mk 24 1 [] [(.mk 6 0 [] [(.mk 4 0 [115,117,109] [] []),(.mk 17 0 [] [(.mk 4 0 [99] [] [])] [])] [])] [])] [])] [])⟩
def mK:Md:=⟨[109],[⟨Ci,[⟨[78,105,108],[]⟩,⟨[67,111,110,115],[AT,Bt Ci]⟩]⟩],[sumK,mainK]⟩
def vL:Tm:=(.mk 5 0 [102] [(.mk 6 0 [] [(.mk 4 0 [102] [] []),(.mk 1 1 [] [] [])] [])] [])
def xI:Tm:=(.mk 5 0 [120] [(.mk 6 0 [] [(.mk 4 0 [120] [] []),(.mk 4 0 [120] [] [])] [])] [])
def vK:Tm:=(.mk 4 0 [115,117,109] [] [])
theorem XD:Al Tryz.prog 51 [] (.agg (El mK)):=by
 have hP:=QX (s:=vO) (l:=Zr vO) (g:=200) (f:=60) (t:=mK) (of_decide_eq_true (by kernel_rfl)) (by decide) (by kernel_rfl) (of_decide_eq_true (by kernel_rfl)) (by decide) (by kernel_rfl) (by kernel_rfl);exact Ac AE Tryz.func51 (by decide +kernel) rfl [1,2] rfl rfl <| Ap rfl <| Af rfl hP <| Ap rfl <| Ab rfl rfl rfl
theorem Pi {s:Str} {t:Tm} (h:Al Tryz.prog 111 [.str s] (.tup [.agg (Bo t),.int .i64 0])):Al Tryz.prog 52 [.str s] (.agg (Bo t)):=by
 obtain ⟨t1,t2,t3,t4,t5⟩:=t;exact Ac AE Tryz.func52 (by decide +kernel) rfl [1,2] rfl rfl <| Ap rfl <| Af rfl h <| Ap rfl <| Ab rfl rfl rfl
theorem tG:Al Tryz.prog 52 [.str vR] (.agg (Bo vL)):=Pi (IJ (l:=Zr vR) (g:=200) (f:=60) (of_decide_eq_true (by kernel_rfl)) (by decide) (by kernel_rfl) (of_decide_eq_true (by kernel_rfl)) (by decide) (by kernel_rfl) (by kernel_rfl))
theorem tF:Al Tryz.prog 52 [.str vQ] (.agg (Bo xI)):=Pi (IJ (l:=Zr vQ) (g:=200) (f:=60) (of_decide_eq_true (by kernel_rfl)) (by decide) (by kernel_rfl) (of_decide_eq_true (by kernel_rfl)) (by decide) (by kernel_rfl) (by kernel_rfl))
theorem tD:Al Tryz.prog 52 [.str vP] (.agg (Bo vK)):=Pi (IJ (l:=Zr vP) (g:=200) (f:=60) (of_decide_eq_true (by kernel_rfl)) (by decide) (by kernel_rfl) (of_decide_eq_true (by kernel_rfl)) (by decide) (by kernel_rfl) (by kernel_rfl))
theorem Xh {m:Md} {Γ:Ax} {op:Int} {x:Str} {ps:List Ty} {K:List (Ax×Ty)} {τ:Ty} {S:List Ty} (h:Bf m Γ op x ps K τ S) (h13:op≠13):S=[]:=by
 unfold Bf at h;by_cases e0:op=1\/op=25
 ·rw [if_pos e0] at h;exact h.2.2
 rw [if_neg e0] at h;by_cases e1:op=2
 ·rw [if_pos e1] at h;exact h.2.2
 rw [if_neg e1] at h;by_cases e2:op=3\/op=28
 ·rw [if_pos e2] at h;exact h.2.2
 rw [if_neg e2] at h;by_cases e3:op=4
 ·rw [if_pos e3] at h;exact h.2.2
 rw [if_neg e3] at h;by_cases e4:op=5
 ·rw [if_pos e4] at h;obtain ⟨_,_,h⟩:=h;exact h.2.2
 rw [if_neg e4] at h;by_cases e5:op=6
 ·rw [if_pos e5] at h;obtain ⟨_,h⟩:=h;exact h.2
 rw [if_neg e5] at h;by_cases e6:op=7
 ·rw [if_pos e6] at h;obtain ⟨_,h⟩:=h;exact h.2
 rw [if_neg e6] at h;by_cases e7:op=8
 ·rw [if_pos e7] at h;exact h.2
 rw [if_neg e7] at h;by_cases e8:op=9\/op=10\/op=11
 ·rw [if_pos e8] at h;exact h.2.2
 rw [if_neg e8] at h;by_cases e9:op=12
 ·rw [if_pos e9] at h;exact h.2.2
 rw [if_neg e9] at h;by_cases e10:op=13
 ·rw [if_pos e10] at h;exact absurd e10 h13
 rw [if_neg e10] at h;by_cases e11:op=14
 ·rw [if_pos e11] at h;obtain ⟨_,_,h⟩:=h;exact h.2.2.2
 rw [if_neg e11] at h;by_cases e12:op=15
 ·rw [if_pos e12] at h;obtain ⟨_,_,h⟩:=h;exact h.2.2
 rw [if_neg e12] at h;by_cases e13:op=16
 ·rw [if_pos e13] at h;obtain ⟨_,h⟩:=h;exact h.2.2
 rw [if_neg e13] at h;by_cases e14:op=17
 ·rw [if_pos e14] at h;exact h.2
 rw [if_neg e14] at h;by_cases e15:op=18
 ·rw [if_pos e15] at h;obtain ⟨_,h⟩:=h;exact h.2.2
 rw [if_neg e15] at h;by_cases e16:op=19
 ·rw [if_pos e16] at h;obtain ⟨_,h⟩:=h;exact h.2.2
 rw [if_neg e16] at h;by_cases e17:op=20
 ·rw [if_pos e17] at h;exact h.2
 rw [if_neg e17] at h;by_cases e18:op=21
 ·rw [if_pos e18] at h;obtain ⟨_,h⟩:=h;exact h.2.2
 rw [if_neg e18] at h;by_cases e19:op=22
 ·rw [if_pos e19] at h;obtain ⟨_,h⟩:=h;exact h.2.2
 rw [if_neg e19] at h;by_cases e20:op=23
 ·rw [if_pos e20] at h;exact h.2
 rw [if_neg e20] at h;by_cases e21:op=24
 ·rw [if_pos e21] at h;exact h.2.2
 rw [if_neg e21] at h;by_cases e22:op=26
 ·rw [if_pos e22] at h;exact h.2.2
 rw [if_neg e22] at h;by_cases e23:op=27
 ·rw [if_pos e23] at h;exact h.2
 rw [if_neg e23] at h;exact h.elim
mutual
theorem JS {m:Md}:∀(t:Tm) (Γ:Ax) (τ:Ty) (S:List Ty),NZ 13 t=false->C1 m t Γ τ S->S=[]
 | .mk op n x ks ps,Γ,τ,S,hd,⟨K,S1,S2,h1,h2,h3⟩=>by
  simp only [NZ,PT,beq_eq_false_iff_ne] at hd;rw [h3,Qs ks K S1 hd.2 h2,Xh h1 hd.1];rfl
theorem Qs {m:Md}:∀(ts:List Tm) (K:List (Ax×Ty)) (S:List Ty),Li 13 ts=false->Dj m ts K S->S=[]
 | [],[],S,_,hp=>hp
 | t::ts,k::ks,S,hd,⟨S1,S2,h1,h2,h3⟩=>by
  simp only [Li,PT] at hd;rw [h3,JS t k.1 k.2 S1 hd.1 h1,Qs ts ks S2 hd.2 h2];rfl
 | [],_::_,_,_,hp=>hp.elim
 | _::_,[],_,_,hp=>hp.elim
end
theorem tH {τ:Ty} {S:List Ty} (h:C1 mK vL [] τ S):∃b,τ=Ba (Ba AT b) b/\S=[]:=by
 have hS:=JS vL [] τ S (by decide) h;obtain ⟨K,S1,S2,h1,h2,_⟩:=h;have h1:∃a b,K=[([]++[([102],a)],b)]/\τ=Ba a b/\S2=[]:=by simpa [Bf] using h1
 obtain ⟨a,b,rfl,rfl,_⟩:=h1;obtain ⟨S3,_,⟨K,S4,S5,h3,h4,_⟩,_,_⟩:=h2;have h3:∃c,K=[([]++[([102],a)],Ba c b),([]++[([102],a)],c)]/\S5=[]:=by simpa [Bf] using h3
 obtain ⟨c,rfl,_⟩:=h3;obtain ⟨_,_,⟨_,_,_,h5,_,_⟩,⟨_,_,⟨_,_,_,h6,_,_⟩,_,_⟩,_⟩:=h4;have h5:a=Ba c b:=by
  simp [Bf,D4,M3] at h5;exact h5.2.1
 have h6:c=AT:=by
  simp [Bf] at h6;exact h6.2.1
 subst h6;subst h5;exact ⟨b,rfl,hS⟩
theorem Zt (b:Ty):C1 mK vL [] (Ba (Ba AT b) b) [] :=
 ⟨[([]++[([102],Ba AT b)],b)],[],[],(by simp [Bf];exact ⟨_,_,⟨rfl,rfl⟩,rfl⟩),⟨[],[],⟨[([]++[([102],Ba AT b)],Ba AT b),([]++[([102],Ba AT b)],AT)],[],[],by simp [Bf],
  ⟨[],[],⟨[],[],[],by simp [Bf,D4,M3],rfl,rfl⟩,⟨[],[],⟨[],[],[],by simp [Bf],rfl,rfl⟩,rfl,rfl⟩,rfl⟩,rfl⟩,rfl,rfl⟩,rfl⟩
theorem oP {τ:Ty} {S:List Ty}:¬C1 mK xI [] τ S:=by
 rintro ⟨K,S1,S2,h1,h2,_⟩;have h1:∃a b,K=[([]++[([120],a)],b)]/\τ=Ba a b/\S2=[]:=by simpa [Bf] using h1
 obtain ⟨a,b,rfl,rfl,_⟩:=h1;obtain ⟨S3,_,⟨K,S4,S5,h3,h4,_⟩,_,_⟩:=h2;have h3:∃c,K=[([]++[([120],a)],Ba c b),([]++[([120],a)],c)]/\S5=[]:=by simpa [Bf] using h3
 obtain ⟨c,rfl,_⟩:=h3;obtain ⟨_,_,⟨_,_,_,h5,_,_⟩,⟨_,_,⟨_,_,_,h6,_,_⟩,_,_⟩,_⟩:=h4;have h5:a=Ba c b:=by
  simp [Bf,D4,M3] at h5;exact h5.2.1
 have h6:a=c:=by
  simp [Bf,D4,M3] at h6;exact h6.2.1
 have:=congrArg Ek (h6.symm.trans h5);simp only [Ba,Ek,Dx] at this;omega
theorem tE {τ:Ty} {S:List Ty} (h:C1 mK vK [] τ S):τ=Ba (Bt Ci) AT/\S=[]:=by
 have hS:=JS vK [] τ S (by decide) h;obtain ⟨K,S1,S2,h1,h2,_⟩:=h;have h1:K=[]/\Ba (Bt Ci) AT=τ/\S2=[]:=by simpa [Bf,D4,M3,mK,O2,sumK] using h1
 exact ⟨h1.2.1.symm,hS⟩
theorem oO:C1 mK vK [] (Ba (Bt Ci) AT) [] :=
 ⟨[],[],[],by simp [Bf,D4,M3,mK,O2,sumK],rfl,rfl⟩
theorem gP:C1 mK sumK.body [(sumK.param,sumK.from_)] sumK.to_ []:=by
 have p1:Ir mK (.mk 6 0 [78,105,108] []) (Bt Ci) [([108],Bt Ci)] [([108],Bt Ci)]:=by
  simp [Ir,F0,Nk,mK];exact ⟨_,_,⟨rfl,rfl⟩,rfl,rfl,rfl⟩
 have p2:Ir mK (.mk 6 0 [67,111,110,115] [.mk 2 0 [120] [],.mk 2 0 [114] []]) (Bt Ci) [([108],Bt Ci)] [([108],Bt Ci),([120],AT),([114],Bt Ci)]:=by
  simp [Ir,F0,Nk,mK];exact ⟨_,_,⟨rfl,rfl⟩,rfl,rfl,⟨_,rfl,⟨_,rfl,rfl⟩⟩⟩
 have rw:Mz mK (Bt Ci) [([108],Bt Ci)] [.mk 6 0 [78,105,108] [],.mk 6 0 [67,111,110,115] [.mk 2 0 [120] [],.mk 2 0 [114] []]] [[([108],Bt Ci)],[([108],Bt Ci),([120],AT),([114],Bt Ci)]] :=
  ⟨_,_,p1,⟨_,_,p2,rfl,rfl⟩,rfl⟩
 have hn:∀(Γ:Ax) (x:Str) (τ:Ty),D4 mK Γ x=some τ->C1 mK (.mk 4 0 x [] []) Γ τ []:=λΓ x τ h=>⟨[],[],[],by simp [Bf,h],rfl,rfl⟩
 refine ⟨[([([108],Bt Ci)],Bt Ci),([([108],Bt Ci)],AT),([([108],Bt Ci),([120],AT),([114],Bt Ci)],AT)],[],[],?_,?_,rfl⟩
 ·show Bf mK _ 15 _ _ _ _ _;unfold Bf;exact ⟨_,_,rw,rfl,rfl⟩
 ·refine ⟨[],[],hn _ _ _ (by simp [D4,M3]),⟨[],[],⟨[],[],[],by simp [Bf,sumK],rfl,rfl⟩,⟨[],[],⟨[([([108],Bt Ci),([120],AT),([114],Bt Ci)],AT),([([108],Bt Ci),([120],AT),([114],Bt Ci)],AT)],[],[],by simp [Bf],?_,rfl⟩,rfl,rfl⟩,rfl⟩,rfl⟩;refine ⟨[],[],hn _ _ _ (by simp [D4,M3]),⟨[],[],⟨[([([108],Bt Ci),([120],AT),([114],Bt Ci)],Ba (Bt Ci) AT),([([108],Bt Ci),([120],AT),([114],Bt Ci)],Bt Ci)],[],[],by simp [Bf],⟨[],[],hn _ _ _ (by simp [D4,M3,O2,mK,sumK]),⟨[],[],hn _ _ _ (by simp [D4,M3]),rfl,rfl⟩,rfl⟩,rfl⟩,rfl,rfl⟩,rfl⟩
theorem cW (S:List Ty):¬C1 mK mainK.body [(mainK.param,mainK.from_)] mainK.to_ S:=by
 rintro ⟨K,S1,S2,h1,h2,_⟩;have h1:∃a,K=[([([117],Ds)],a),([([117],Ds)]++[([99],a)],AT)]/\S2=[]:=by simpa [Bf,mainK] using h1
 obtain ⟨a,rfl,_⟩:=h1;obtain ⟨_,_,_,⟨_,_,⟨K,S3,S4,h3,h4,_⟩,_,_⟩,_⟩:=h2;have h3:∃b,K=[([([117],Ds)]++[([99],a)],b),([([117],Ds)]++[([99],a)]++[([120],b)],AT)]/\S4=[]:=by simpa [Bf,mainK] using h3
 obtain ⟨b,rfl,_⟩:=h3;obtain ⟨_,_,_,⟨_,_,⟨K,S5,S6,h5,h6,_⟩,_,_⟩,_⟩:=h4;simp [Bf,AT,Ds] at h5
end Go.Hk
namespace Go.Hk
structure Bfs (m:Md) (a i:Nat) (l:List Nat):Prop where
 nd:l.Nodup
 lt:∀j∈l,j<m.funs.length
 has:a∈l
 rch:∀j∈l,Rch m a j
 done:∀p j f k g,p<i->l[p]?=some j->m.funs[j]?=some f->m.funs[k]?=some g->Uf 4 g.name f.body=true->k∈l
theorem Se {l:List Nat} {n:Nat} (h:l.Nodup) (hb:∀x∈l,x<n):l.length<=n:=by
 have:=Nl (l:=l.map λi:Nat=>(i:Int)) (n:=n) (List.Pairwise.map _ (λa b h e=>h (TG.1 e)) h) λx hx=>by
  obtain ⟨y,hy,rfl⟩:=Cc.1 hx;have:=hb y hy;omega
 rw [CW] at this;omega
theorem Bfs.len {m:Md} {a i:Nat} {l:List Nat} (h:Bfs m a i l):l.length<=m.funs.length:=Se h.nd h.lt
theorem Bfs.init {m:Md} {a:Nat} (h:a<m.funs.length):Bfs m a 0 [a] :=
 ⟨by simp,λj hj=>by rw [AO.1 hj];exact h,by simp,λj hj=>by rw [AO.1 hj];exact .base,λp j f k g hp=>by omega⟩
theorem Bfs.all {m:Md} {a i:Nat} {l:List Nat} (h:Bfs m a i l) (hi:l.length<=i):∀j,Rch m a j->j∈l:=by
 intro j hj
 induction hj with
 | base=>exact h.has
 | step _ hf hg hh ih =>
  obtain ⟨p,hp⟩:=D3.1 ih;exact h.done p _ _ _ _ (by have:=(AJ.1 hp).1;omega) hp hf hg hh
structure BfsK (m:Md) (a i k:Nat) (l:List Nat):Prop where
 b:Bfs m a i l
 now:∀j f k' g,l[i]?=some j->m.funs[j]?=some f->k'<k->m.funs[k']?=some g->Uf 4 g.name f.body=true->k'∈l
theorem Bfs.k {m:Md} {a i:Nat} {l:List Nat} (h:Bfs m a i l):BfsK m a i 0 l:=⟨h,λj f k' g _ _ hk=>by omega⟩
theorem BfsK.next {m:Md} {a i k:Nat} {l:List Nat} (h:BfsK m a i k l) (hk:m.funs.length<=k):Bfs m a (i+1) l:=by
 refine ⟨h.b.nd,h.b.lt,h.b.has,h.b.rch,λp j f k' g hp hj hf hg hh=>?_⟩;by_cases e:p=i
 ·subst e;exact h.now j f k' g hj hf (by have:=(AJ.1 hg).1;omega) hg hh
 ·exact h.b.done p j f k' g (by omega) hj hf hg hh
theorem BfsK.skip {m:Md} {a i k:Nat} {l:List Nat} (h:BfsK m a i k l) (hn:k∈l\/∀j f g,l[i]?=some j->m.funs[j]?=some f->m.funs[k]?=some g->Uf 4 g.name f.body=false):BfsK m a i (k+1) l:=by
 refine ⟨h.b,λj f k' g hj hf hk hg hh=>?_⟩;by_cases e:k'=k
 ·subst e;rcases hn with hn | hn
  ·exact hn
  ·have:=hn j f g hj hf hg;rw [hh] at this;cases this
 ·exact h.now j f k' g hj hf (by omega) hg hh
theorem BfsK.add {m:Md} {a i k:Nat} {l:List Nat} {j:Nat} {f g:Fd} (h:BfsK m a i k l) (hk:k∉l) (hj:l[i]?=some j) (hf:m.funs[j]?=some f) (hg:m.funs[k]?=some g) (hh:Uf 4 g.name f.body=true):BfsK m a i (k+1) (l++[k]):=by
 have hil:i<l.length:=(AJ.1 hj).1;have hsame:∀p,p<=i->(l++[k])[p]?=l[p]?:=λp hp=>PK (by omega);refine ⟨⟨?_,?_,?_,?_,?_⟩,?_⟩
 ·rw [Hc];exact ⟨h.b.nd,by simp,λx hx y hy e=>by rw [AO.1 hy] at e;exact hk (e ▸ hx)⟩
 ·intro x hx;rcases BH.1 hx with hx | hx
  ·exact h.b.lt x hx
  ·rw [AO.1 hx];exact (AJ.1 hg).1
 ·exact Ld _ h.b.has
 ·intro x hx;rcases BH.1 hx with hx | hx
  ·exact h.b.rch x hx
  ·rw [AO.1 hx];exact .step (h.b.rch j (AF hj)) hf hg hh
 ·intro p j' f' k' g' hp hj' hf' hg' hh';rw [hsame p (by omega)] at hj';exact Ld _ (h.b.done p j' f' k' g' hp hj' hf' hg' hh')
 ·intro j' f' k' g' hj' hf' hk' hg' hh';rw [hsame i (B8 _)] at hj';by_cases e:k'=k
  ·subst e;simp
  ·exact Ld _ (h.now j' f' k' g' hj' hf' (by omega) hg' hh')
def rF (m:Md) (op:Int) (l:List Nat):Bool:=l.any λj=>match m.funs[j]? with
 | some f=>NZ op f.body
 | none=>false
end Go.Hk
namespace Go.Hk
open Go.Proofs
def Qj (l:List Int) (x:Int):List Int:=if x∈l then l else l++[x]
theorem US (l:List Int) (x:Int):Fi (D7 l) (.int .i64 x) (.bool true)=D7 (Qj l x):=by
 unfold Qj;by_cases h:x∈l
 ·rw [if_pos h];exact Px h
 ·rw [if_neg h];exact HS h
theorem jN {l:List Int} {x y:Int}:y∈Qj l x↔y∈l\/x=y:=by
 unfold Qj;split
 ·rename_i h;exact ⟨.inl,λh'=>h'.elim id λe=>e ▸ h⟩
 ·simp [eq_comm]
theorem lS {l:List Str} {x y:Str}:BO (J2 l x) y=(BO l y||x == y):=by
 have ha:∀a b:List Str,BO (a++b) y=(BO a y||BO b y):=λa b=>by
  induction a with
  | nil=>rfl
  | cons z r ih=>simp only [Db,BO,ih,TH]
 unfold J2;split
 ·rename_i h;by_cases e:x=y
  ·subst e;simp [h]
  ·simp [e]
 ·rw [ha];simp [BO]
mutual
def O5:Tm->List Int×List Str->List Int×List Str
 | .mk op _ x ks _,z=>H8 ks (Qj z.1 op,if op=4 then J2 z.2 x else z.2)
def H8:List Tm->List Int×List Str->List Int×List Str
 | [],z=>z
 | t::r,z=>H8 r (O5 t z)
end
mutual
theorem Ng {y:Int}:∀(t:Tm) (z:List Int×List Str),y∈(O5 t z).1↔y∈z.1\/NZ y t=true
 | .mk op n x ks ps,z=>by
  simp only [O5,NZ,Q6 ks,jN,Hd,beq_iff_eq,or_assoc]
theorem Q6 {y:Int}:∀(ts:List Tm) (z:List Int×List Str),y∈(H8 ts z).1↔y∈z.1\/Li y ts=true
 | [],z=>by simp [H8,Li]
 | t::r,z=>by simp only [H8,Li,Q6 r,Ng t,Hd,or_assoc]
end
mutual
theorem Q7 {y:Str}:∀(t:Tm) (z:List Int×List Str),BO (O5 t z).2 y=(BO z.2 y||Uf 4 y t)
 | .mk op n x ks ps,z=>by
  simp only [O5,Uf,SN ks];by_cases e:op=4
  ·subst e;simp [lS,TH]
  ·simp [e,show (op == 4)=false by simpa using e]
theorem SN {y:Str}:∀(ts:List Tm) (z:List Int×List Str),BO (H8 ts z).2 y=(BO z.2 y||VZ 4 y ts)
 | [],z=>by simp [H8,VZ]
 | t::r,z=>by simp only [H8,VZ,SN r,Q7 t,TH]
end
theorem RK {t:Tm}:∀{l:List Tm},t∈l->JK t<=De l
 | x::r,h=>by
  simp only [De];rcases CC.1 h with rfl | h
  ·omega
  ·have:=RK h;omega
def eS (z:List Int×List Str):St:=[(1,some (.map (D7 z.1))),(2,some (.map (GW z.2)))]
theorem NU:∀(b:Nat) (t:Tm) (z:List Int×List Str),JK t<=b->AK Tryz.prog 93 [.imm (.agg (Bo t)),.mapr 1,.mapr 2] (eS z) (.ret (.imm (.tup [])) (eS (O5 t z)))
 | 0,t,z,hb=>by have:=Zv t;omega
 | b+1,.mk op n x ks ps,z,hb=>by
  have hI:=US z.1 op;have hK:=UR z.2 x;have hR:=λ(u:Tm) (hu:u∈ks) (z:List Int×List Str)=>NU b u z (by have:=RK hu;simp only [JK] at hb;omega);obtain ⟨d,nm⟩:=z;simp only [O5];refine E1 0 rfl λhok=>?_;simp [Fh,CL,maxLen,Bo] at hok;refine Ac Ah Tryz.func93 (by decide +kernel) rfl [3,4,5] rfl rfl <| Ai rfl <| EW Ah rfl rfl rfl (C3 d) ?_;rw [hI];refine Ai rfl ?_;have hn1:4=op->Fi (GW nm) (.str x) (.bool true)=GW (if op=4 then J2 nm x else nm):=λe=>by rw [hK,if_pos e.symm]
  have hn2:op≠4->nm=if op=4 then J2 nm x else nm:=λe=>by rw [if_neg e]
  have hB:∀nm',nm'=(if op=4 then J2 nm x else nm)->DGo Tryz.prog Tryz.f93.ntmps (DJ (eS (d,nm))) (Kv WS Tryz.f93.results.toList (.ret (.imm (.tup [])) (eS (H8 ks (Qj d op,if op=4 then J2 nm x else nm)))))
    [.code (FV Tryz.f93 3)] [(3,.ref 3 0),(1,.mapr 1),(2,.mapr 2)] ((3,some (.immb 49 5 (Bo (.mk op n x ks ps))))::eS (Qj d op,nm')) [4,5]:=by
   intro nm' e;subst e;generalize (if op=4 then J2 nm x else nm)=nm' at *;generalize Qj d op=d' at *;refine Aq rfl <| Ak (λz:Nat×List Int×List Str=>[(20,.imm (.int .i64 z.1)),(19,.imm (.int .i64 ks.length)),(18,.imm (.sl (E4 ks))),(1,.mapr 1),(2,.mapr 2)]) (λz=>eS z.2) [4,5] (λz=>ks.length-z.1)
    (λz=>z.1<=ks.length/\H8 (ks.drop z.1) z.2=H8 ks (d',nm')) (0,d',nm')
    ⟨AL _,rfl⟩ ⟨rfl,AA (by simp),AD⟩ AM rfl λz hz ih=>?_
   obtain ⟨j,d1,n1⟩:=z;obtain ⟨hj1,hj2⟩:=hz;simp only at hj1 hj2 ih;generalize H8 ks (d',nm')=E at *;refine Aq rfl <| Aa rfl (λh=>?_) (λh=>?_)
   ·have hlt:j<ks.length:=by simp at h;omega
    obtain ⟨u,hu⟩:=Ao hlt;have hg:=Fz hu;have hC:=hR u (AF hu) (d1,n1);rw [Av hu,H8] at hj2;generalize O5 u (d1,n1)=w at *;obtain ⟨u1,u2,u3,u4,u5⟩:=u;exact Aq rfl <| yi rfl (c:=Bo (.mk u1 u2 u3 u4 u5)) (λ_=>⟨by simp,by simpa using hg,by simp⟩) (by simp) <| Ai rfl <| Ad (fr:=[]) [(1,1),(2,2)] [] rfl (by simp) hC iB rfl rfl rfl rfl <| Ai rfl <| Ae (ih (j+1,w) (by simp only;omega) ⟨by simp only;omega,hj2⟩) ⟨AA (Cb (by omega) (by omega)),BF⟩ AM rfl
   ·have hlt:¬j<ks.length:=by simp at h;omega
    rw [Br (by omega)] at hj2;simp only [H8] at hj2;subst hj2;exact Aw rfl <| Aq rfl <| BE ⟨[],BF⟩
  clear hR;by_cases h4:op=4
  ·have hn:=hn1 h4.symm;refine Aa rfl (λh=>?_) (λh=>by exfalso;simp at h;exact h h4);refine Aq rfl <| EW Ah rfl rfl rfl (FF nm) ?_;rw [hn];refine Q8 <| IF ?_ ?_ ?_ (hB _ rfl)
   ·exact AD
   ·exact AD
   ·rfl
  ·have hn:=hn2 h4;refine Aa rfl (λh=>by exfalso;simp at h;exact h4 h) (λh=>?_);refine Mm <| IF ?_ ?_ ?_ (hB _ hn)
   ·exact AD
   ·exact AD
   ·rfl
def SQ (l:List Nat):List (List V):=Io (l.map λi:Nat=>(i:Int))
@[simp] theorem dNats_length (l:List Nat):(SQ l).length=l.length:=by simp [SQ]
theorem qZ (a b:List Nat):SQ (a++b)=SQ a++SQ b:=by simp [SQ,Io]
def jK (m:Md) (s:Str) (l:List Nat):Bool:=l.any λj=>match m.funs[j]? with
 | some f=>Uf 4 s f.body
 | none=>false
structure EfI (m:Md) (a:Nat) (l:List Nat) (z:List Int×List Str):Prop where
 nd:l.Nodup
 lt:∀j∈l,j<m.funs.length
 has:a∈l
 rch:∀j∈l,Rch m a j
 dos:∀y,y∈z.1↔rF m y l=true
 nam:∀s,BO z.2 s=jK m s l
theorem EfI.init {m:Md} {a:Nat} {f:Fd} (h:m.funs[a]?=some f):EfI m a [a] (O5 f.body ([],[])):=by
 have hlt:=(AJ.1 h).1;refine ⟨by simp,λj hj=>by rw [AO.1 hj];exact hlt,by simp,λj hj=>by rw [AO.1 hj];exact .base,λy=>?_,λs=>?_⟩
 ·rw [Ng];simp [rF,h]
 ·rw [Q7];simp [jK,h,BO]
theorem EfI.add {m:Md} {a k:Nat} {l:List Nat} {z:List Int×List Str} {g:Fd} (h:EfI m a l z) (hg:m.funs[k]?=some g) (hk:k∉l) (hn:BO z.2 g.name=true):EfI m a (l++[k]) (O5 g.body z):=by
 have hlt:=(AJ.1 hg).1;refine ⟨?_,λj hj=>?_,Ld _ h.has,λj hj=>?_,λy=>?_,λs=>?_⟩
 ·rw [Hc];exact ⟨h.nd,by simp,λx hx y hy e=>by rw [AO.1 hy] at e;exact hk (e ▸ hx)⟩
 ·rcases BH.1 hj with hj | hj
  ·exact h.lt j hj
  ·rw [AO.1 hj];exact hlt
 ·rcases BH.1 hj with hj | hj
  ·exact h.rch j hj
  ·rw [AO.1 hj];rw [h.nam,jK,D2] at hn;obtain ⟨i,h1,h2⟩:=hn;cases hf:m.funs[i]? with
   | none=>rw [hf] at h2;cases h2
   | some f=>rw [hf] at h2;exact .step (h.rch i h1) hf hg h2
 ·rw [Ng,h.dos];simp [rF,Hb,hg]
 ·rw [Q7,h.nam];simp [jK,Hb,hg]
open Classical in
theorem EfI.fin {m:Md} {a:Nat} {l:List Nat} {z:List Int×List Str} (h:EfI m a l z) (hc:∀(k:Nat) (g:Fd),m.funs[k]?=some g->BO z.2 g.name=true->k∈l) (op:Int):decide (op∈z.1)=mS m a op:=by
 have hall:∀j,Rch m a j->j∈l:=λj hj=>by
  induction hj with
  | base=>exact h.has
  | step _ hf hg hh ih =>
   refine hc _ _ hg ?_;rw [h.nam,jK,D2];exact ⟨_,ih,by rw [hf];exact hh⟩
 unfold mS;rw [decide_eq_decide,h.dos,rF,D2];constructor
 ·rintro ⟨j,h1,h2⟩;cases hf:m.funs[j]? with
  | none=>rw [hf] at h2;cases h2
  | some f=>rw [hf] at h2;exact ⟨j,f,h.rch j h1,hf,h2⟩
 ·rintro ⟨j,f,h1,h2,h3⟩;exact ⟨j,hall j h1,by rw [h2];exact h3⟩
theorem EfI.len {m:Md} {a:Nat} {l:List Nat} {z:List Int×List Str} (h:EfI m a l z):l.length<=m.funs.length:=Se h.nd h.lt
def Ow (l:List Nat):List Int:=l.map λi:Nat=>(i:Int)
theorem Vw {l:List Nat} {k:Nat}:(k:Int)∈Ow l↔k∈l:=by
 simp only [Ow,Cc,TG,exists_eq_right]
theorem VJ (m:Md) (a:Nat) (hm:K3 m=true) (ha:a<m.funs.length) (hl:m.funs.length<=1000000):Al Tryz.prog 32 [.agg (El m),.int .i64 a] (.tup [.sl (Io (qT m a)),Fk 0]):=by
 have hM:=Ho m;rw [hm] at hM;obtain ⟨f,hf⟩:=Ao ha;have hg:=Mn hf;have hE:=λt z=>NU (JK t) t z (B8 _);have hE0:=hE f.body ([],[]);have hI:=EfI.init hf;generalize O5 f.body ([],[])=z0 at *;obtain ⟨m1,m2,m3⟩:=m;obtain ⟨f1,f2,⟨a1,a2,a3,a4⟩,⟨b1,b2,b3,b4⟩,⟨t1,t2,t3,t4,t5⟩⟩:=f;simp only at hE0 ha hl;refine Ac Ah Tryz.func32 (by decide +kernel) rfl [6,1,2,3,7,8,9,10] rfl rfl <| Ai rfl <| Af rfl hM <| BU rfl <| Aa rfl (λhh=>?_) (λhh=>?_)
 ·exfalso;simp at hh;omega
 refine Aq rfl <| Ei rfl <| Ai rfl <| Ei rfl <| Ai rfl <| Ei rfl <| Ai rfl <| EW Ah rfl rfl rfl (C3 []) <| Ai rfl <| yi rfl (c:=CG ⟨f1,f2,.mk a1 a2 a3 a4,.mk b1 b2 b3 b4,.mk t1 t2 t3 t4 t5⟩) (λ_=>⟨by simp,by simpa using hg,by simp [CG]⟩) (by simp) <| Ai rfl <| Ad (fr:=[]) [(1,1),(2,2)] [] rfl (by simp) hE0 iB rfl rfl rfl rfl <| Ai rfl ?_;clear hE0 hM hh hg;refine Ak (λz:List Nat×List Int×List Str=>[(6,.mapr 1),(7,.mapr 2),(8,.mapr 3),(2,.ref 6 0)]) (λz=>[(1,some (.map (D7 z.2.1))),(2,some (.map (GW z.2.2))),(3,some (.map (D7 (Ow z.1)))),(6,some (.immb 43 3 (El ⟨m1,m2,m3⟩)))]) [7,8,9,10]
  (λz=>m3.length-z.1.length) (λz=>EfI ⟨m1,m2,m3⟩ a z.1 z.2) ([a],z0) hI BF BF rfl λz hz ih=>?_
 clear hI;obtain ⟨l,d,nm⟩:=z;simp only at hz ih;refine Aq rfl <| Ak (λi:Nat=>[(44,.imm (.int .i64 i)),(43,.imm (.int .i64 m3.length)),(42,.imm (.sl (m3.map CG))),(6,.mapr 1),(7,.mapr 2),(8,.mapr 3),(2,.ref 6 0)]) (λ_=>[(1,some (.map (D7 d))),(2,some (.map (GW nm))),(3,some (.map (D7 (Ow l)))),(6,some (.immb 43 3 (El ⟨m1,m2,m3⟩)))]) [7,8,9,10]
  (λi=>m3.length-i) (λi=>i<=m3.length/\∀(k:Nat) (g:Fd),k<i->m3[k]?=some g->BO nm g.name=true->k∈l) 0 ⟨AL _,λk g h=>by omega⟩
  ⟨rfl,AA (by simp),Bx⟩ BF rfl λi hi jh=>?_
 obtain ⟨hi1,hi2⟩:=hi;refine Aq rfl <| Aa rfl (λh=>?_) (λh=>?_)
 ·have hlt:i<m3.length:=by simp at h;omega
  obtain ⟨g,hg⟩:=Ao hlt;have hgg:=Mn hg;have hC:=hE g.body (d,nm);have hadd:=λh1 h2=>hz.add (k:=i) (g:=g) hg h1 h2;have hk3:Fi (D7 (Ow l)) (.int .i64 i) (.bool true)=D7 (Qj (Ow l) i):=US _ _;have hlk:decide ((i:Int)∈Ow l)=decide (i∈l):=by rw [decide_eq_decide];exact Vw
  obtain ⟨g1,g2,⟨c1,c2,c3,c4⟩,⟨d1,d2,d3,d4⟩,⟨u1,u2,u3,u4,u5⟩⟩:=g;simp only at hC hadd;generalize O5 (.mk u1 u2 u3 u4 u5) (d,nm)=z1 at *;refine Aq rfl <| yi rfl (c:=CG ⟨g1,g2,.mk c1 c2 c3 c4,.mk d1 d2 d3 d4,.mk u1 u2 u3 u4 u5⟩) (λ_=>⟨by simp,by simpa using hgg,by simp [CG]⟩) (by simp) <| Ai rfl <| C9 Ah 2 rfl rfl rfl (FF nm) (by simp [Am]) (z:=.bool false) rfl (λ_=>.bool _) (JL nm g1) <| BU rfl <| C9 Ah 3 rfl rfl rfl (C3 (Ow l)) (by simp [Am]) (z:=.bool false) rfl (λ_=>.bool _) (by rw [FG,hlk]) <| BU rfl ?_;generalize hb1:BO nm g1=b1 at *;refine Aa rfl (λh=>?_) (λh=>?_)
  ·have hb2:b1=true/\i∉l:=by
    by_cases e:i∈l
    ·cases b1 <;> simp [e] at h
    ·cases b1 <;> simp [e] at h ⊢
   obtain ⟨rfl,hnl⟩:=hb2;have hz1:=hadd hnl rfl;have hin:Qj (Ow l) i=Ow (l++[i]):=by
    unfold Qj;rw [if_neg (λh=>hnl (Vw.1 h))];simp [Ow]
   rw [hin] at hk3;have hle:=hz1.len;simp only [Bw,Dh,BX] at hle;refine Aq rfl <| EW Ah rfl rfl rfl (C3 (Ow l)) ?_;rw [hk3];exact Ai rfl <| Ad (fr:=[]) [(1,1),(2,2)] [] rfl (by simp) hC iB rfl rfl rfl rfl <| Ai rfl <| Ae (ih (l++[i],z1) (by simp only [Bw,Dh,BX];omega) hz1) BF BF rfl
  ·have hkk:∀(k:Nat) (g:Fd),k<i+1->m3[k]?=some g->BO nm g.name=true->k∈l:=λk g hk hg' hn=>by
    by_cases e:k=i
    ·subst e;rw [hg] at hg';cases hg';rw [hb1] at hn;subst hn;simpa using h
    ·exact hi2 k g (by omega) hg' hn
   exact Aq rfl <| Ae (jh (i+1) (by omega) ⟨by omega,hkk⟩) ⟨AA (Cb (by omega) (by omega)),Gq⟩ BF rfl
 ·have hlt:¬i<m3.length:=by simp at h;omega
  have hfin:=hz.fin λk g hg=>hi2 k g (by have:=(AJ.1 hg).1;simp only at this;omega) hg;clear ih jh hE hf;unfold qT;simp only at hfin;generalize mS ⟨m1,m2,m3⟩ a=eb at *;refine Aw rfl <| Aw rfl <| Aq rfl <| Gf (e:=45) (sz:=1) 11 7 (by decide) rfl ?_;generalize hL:(λq:Nat=>((List.range q).map λi:Nat=>16+(i:Int)).filter eb)=L at *;have hL13:(((List.range 13).map λi:Nat=>16+(i:Int)).filter eb)=L 13:=by rw [<- hL]
  have hL0:L 0=[]:=by rw [<- hL];rfl
  have hLs:∀q,L (q+1)=L q++if eb (16+(q:Int))=true then [16+(q:Int)] else []:=λq=>by
   rw [<- hL];simp only [MT,C4,List.filter_append,Cz,HJ,Ya,List.filter_nil]
  have hLl:∀q,(L q).length<=q:=λq=>by
   rw [<- hL];exact pP (List.length_filter_le _ _) (by simp)
  rw [hL13];clear hL hL13;refine Ak (λq:Nat=>[(12,.imm (.int .i64 (16+(q:Int)))),(11,.own 7 (Io (L q)).length),(6,.mapr 1)]) (λq=>[(1,some (.map (D7 d))),(7,some (.row 45 1 (Io (L q))))]) [8,9,10]
   (λq=>13-q) (λq=>q<=13) 0 (AL _)
   ⟨rfl,by rw [hL0];rfl,AI⟩ ⟨rfl,by rw [hL0];rfl,trivial⟩ rfl λq hq ih=>?_
  refine Aq rfl <| Aa rfl (λh=>?_) (λh=>?_)
  ·have hlt:q<13:=by simp at h;omega
   have hs:=hLs q;have hll:=hLl q;have hlk:=hfin (16+(q:Int));refine Aq rfl <| C9 Ah 1 rfl rfl rfl (C3 d) (by simp [Am]) (z:=.bool false) rfl (λ_=>.bool _) (by rw [FG,hlk]) ?_;generalize eb (16+(q:Int))=b at *;refine Ai rfl ?_;cases b with
   | false =>
    refine Aa rfl (λh=>by exfalso;simp at h) (λh=>?_);refine Aq rfl ?_;rw [if_neg (by simp),IM] at hs;exact Ae (ih (q+1) (by omega) (by omega)) ⟨AA (by rw [Cb (by omega) (by omega)];omega),by rw [hs];rfl,AI⟩ ⟨rfl,by rw [hs];rfl,trivial⟩ rfl
   | true =>
    refine Aa rfl (λh=>?_) (λh=>by exfalso;simp at h);refine Aq rfl <| B4 Ah rfl ⟨by simp,by simp [maxLen];omega,by simp;omega,trivial⟩ <| Ai rfl ?_;rw [if_pos rfl] at hs;have et:Io (L (q+1))=Io (L q)++[[.int .i64 (16+(q:Int))]]:=by rw [hs,Up];rfl
    exact AZ 7 8 rfl <| Ae (ih (q+1) (by omega) (by omega)) ⟨AA (by rw [Cb (by omega) (by omega)];omega),by rw [et];rfl,AI⟩ ⟨rfl,by rw [et];rfl,trivial⟩ rfl
  ·have hlt:q=13:=by simp at h;omega
   subst hlt;exact Aw rfl <| By 7 rfl <| Aq rfl <| Ab rfl rfl rfl
theorem jQ:Ef mK=true:=by kernel_rfl
theorem sH:OkM mK/\nZ mK:=tT jQ
theorem oD:oE mK=(2,1):=by
 have b0:Ku mK sumK=true:=by
  rw [nC (N:=[]) gP λS hS=>⟨As,(JS sumK.body _ _ S (by decide) hS).symm⟩];rfl
 have b1:Ku mK mainK=false:=nD cW;have d0:IC (U5 mK) 0 mK.datas.length=none:=by kernel_rfl
 have f0:U4 mK 0=false:=by
  rw [Zl (f:=sumK) rfl,b0];kernel_rfl
 have f1:U4 mK 1=true:=by
  rw [Zl (f:=mainK) rfl,b1];simp
 unfold oE;rw [d0];rw [show mK.funs.length=2 from rfl];simp [IC,f0,f1]
theorem qS:qT mK 0=[]:=by
 have hr:∀j,Rch mK 0 j->j=0:=λj h=>by
  induction h with
  | base=>rfl
  | @step j k f g _ hf hg hh ih =>
   subst ih;cases hf;have hk:k<2:=(AJ.1 hg).1
   match k,hk,hg with
   | 0,_,_=>rfl
   | 1,_,hg =>
    cases hg;exact absurd hh (by decide)
 unfold qT;rw [List.filter_eq_nil_iff];intro op hop h;simp only [mS,decide_eq_true_eq] at h;obtain ⟨j,f,h1,h2,h3⟩:=h;obtain rfl:=hr j h1;cases h2;simp only [Cc,So] at hop;obtain ⟨i,hi,rfl⟩:=hop;have:∀i:Nat,i<13->NZ (16+(i:Int)) sumK.body=false:=by decide
 rw [this i hi] at h3;cases h3
theorem W9:∀n,Hl [] n=n
 | 0=>rfl
 | n+1=>by rw [CP,W9 n];simp
theorem jE (k:Nat):Ex [] k=k:=by
 have:=(LF [] k).2
 rwa [W9] at this
theorem bG:Al Tryz.prog 13 [.agg (dTyc (Ba (As 0) AT)),.agg (dTyc (Ba BP (As 1)))] (.tup [.sl (A2 [BP,AT]),Fk 0]):=by
 have ia:inB (2:Nat) (Ba (As 0) AT):=by intro m hm;simp [Ba,AT,As,CA,Dm] at hm;omega
 have ib:inB (2:Nat) (Ba BP (As 1)):=by intro m hm;simp [Ba,BP,As,CA,Dm] at hm;omega
 have hs:StOk (2:Nat) (λ_=>none):=bP (by omega);obtain ⟨n,r,hE,hr⟩:=iG hs (a:=Ba (As 0) AT) (b:=Ba BP (As 1)) (by decide) (by decide) ia ib;have hU:=Sy (H:=2) (a:=Ba (As 0) AT) (b:=Ba BP (As 1)) (by decide) hE (by omega) ia ib;cases r with
 | none=>exact absurd rfl (hr (λn=>if n=0 then BP else AT) () (λn t h=>nomatch h))
 | some σ =>
  obtain ⟨_,⟨_,hD,θ,hθ⟩,h1,_⟩:=hr;have h2:=(h1 θ hθ.eq).2;simp only [Ba,AT,BP,As,A7,CO,Ty.mk.injEq,Ep] at h2;simp at h2;obtain ⟨e0,e1⟩:=h2;have hs1:(σ 1).isSome=true:=by
   cases e:σ 1 with
   | some t=>rfl
   | none =>
    have:=hθ.free 1 e;rw [<- e1] at this;cases this
  have hl:Gb σ 2=2:=by
   show (if (σ ((1:Nat):Int)).isSome then 1+1 else Gb σ 1)=2;exact if_pos hs1
  have hL:U9 σ 2=[BP,AT]:=by
   rw [U9,hl,Ph hθ];show [θ 0,θ 1]=[BP,AT];rw [e0,<- e1];rfl
  have hv:V5 2 (some σ) = .tup [.sl (A2 [BP,AT]),Fk 0]:=by
   rw [V5,hL,Qb,if_pos (by decide)]
  rw [hv] at hU;exact hU
theorem lL:Al Tryz.prog 14 [.agg (dTyc (Ba (As 0) (As 0))),.agg (dTyc (Ba AT BP))] (.tup [.bool false,.int .i64 0]):=by
 have h:=LV (Ba (As 0) (As 0)) (Ba AT BP);rw [show (AH true (Ba (As 0) (As 0))&&AH true (Ba AT BP)&&(LI (Ba (As 0) (As 0)) (Ba AT BP) λ_=>none).isSome)=false by kernel_rfl] at h;exact h
theorem Ud {t:Tm} (h:LY mK [] t=true) (ht:Cy t=true) (hz:JK t<=100000):∃r,BI mK [] t 0 (λ_=>none) r/\Al Tryz.prog 26 [.agg (El mK),.sl [],.agg (Bo t)] (VA [] r) :=
 eB sH.1.closed [] t h (λp hp=>by cases hp) ht hz
theorem S9 {t:Tm} {r:Option (Ty×Int×Sb×List Ty)} (hr:BI mK [] t 0 (λ_=>none) r) {T0:Ty} {S0:List Ty} (h0:C1 mK t [] T0 S0):∃T N,wY mK [] t T N/\Cl T=true/\VA [] r=if N.all CS=true then NT [] T else .tup [.agg (dTyc F5),Fk 7]:=by
 have hcl:EnvCl []:=λp hp=>by cases hp
 cases r with
 | none=>exact absurd h0 (uE hcl hr _ _)
 | some z =>
  obtain ⟨τ,k,σ,N⟩:=z;obtain ⟨θ,hθ⟩:=hr.1.2.1.2.2;refine ⟨A7 θ τ,N.map (A7 θ),VQ hcl hr hθ,U6 (λn=>hθ.wfθ n) _ hr.2.1,?_⟩;simp only [VA,Ph hθ]
theorem qE:Al Tryz.prog 26 [.agg (El mK),.sl [],.agg (Bo vL)] (.tup [.agg (dTyc (Ba (Ba AT (As 0)) (As 0))),Fk 0]):=by
 obtain ⟨r,hr,hP⟩:=Ud (t:=vL) (by kernel_rfl) (by kernel_rfl) (by decide);obtain ⟨T,N,hp,hw,hv⟩:=S9 hr (Zt (As 0));obtain ⟨b,rfl,hN⟩:=tH hp.1;subst hN;obtain ⟨η,he,_⟩:=hp.2 _ _ (Zt (As 0));have hb:∃n,b=As n:=by
  have hwb:Cl b=true:=DB hw b (by simp [Ba,DZ]);simp only [Ba,AT,As,A7,CO,Ty.mk.injEq,Ep] at he;simp at he;by_cases e:BA b=9
  ·exact ⟨num b,DC hwb e⟩
  ·obtain ⟨f,n,x,e1,e2,e3⟩:=SW (θ:=η) e;rw [e3] at he;simp at he;exact absurd he.1 e2
 obtain ⟨n,rfl⟩:=hb;rw [hv] at hP;have hf:(if ([]:List Ty).all CS=true then NT [] (Ba (Ba AT (As n)) (As n)) else .tup [.agg (dTyc F5),Fk 7]) = .tup [.agg (dTyc (Ba (Ba AT (As 0)) (As 0))),Fk 0]:=by
  have hg:Dn (Ba (Ba AT (As n)) (As n)) []=[n]:=by simp [Dn,BY,Ba,AT,As]
  have hl:FZ [] [n] (Ba (Ba AT (As n)) (As n))=Ba (Ba AT (As 0)) (As 0):=by
   simp [FZ,GZ,Ba,AT,As,jE]
  simp only [HH,if_true];rw [NT,hg,hl,if_pos (by simp [Ba,AT,As,Ek,Dx]),if_pos (by kernel_rfl)]
 rw [hf] at hP;exact hP
theorem qD:Al Tryz.prog 26 [.agg (El mK),.sl [],.agg (Bo xI)] (.tup [.agg (dTyc F5),Fk 7]):=by
 obtain ⟨r,hr,hP⟩:=Ud (t:=xI) (by kernel_rfl) (by kernel_rfl) (by decide);have hcl:EnvCl []:=λp hp=>by cases hp
 cases r with
 | none=>exact hP
 | some z =>
  obtain ⟨τ,k,σ,N⟩:=z;obtain ⟨θ,hθ⟩:=hr.1.2.1.2.2;exact absurd (VQ hcl hr hθ).1 oP
theorem qC:Al Tryz.prog 26 [.agg (El mK),.sl [],.agg (Bo vK)] (.tup [.agg (dTyc (Ba (Bt Ci) AT)),Fk 0]):=by
 obtain ⟨r,hr,hP⟩:=Ud (t:=vK) (by kernel_rfl) (by kernel_rfl) (by decide);obtain ⟨T,N,hp,hw,hv⟩:=S9 hr oO;obtain ⟨rfl,rfl⟩:=tE hp.1;rw [hv] at hP;have hl:FZ [] (Dn (Ba (Bt Ci) AT) []) (Ba (Bt Ci) AT)=Ba (Bt Ci) AT:=by
  simp [FZ,GZ,Ba,AT,Bt]
 have hf:(if ([]:List Ty).all CS=true then NT [] (Ba (Bt Ci) AT) else .tup [.agg (dTyc F5),Fk 7]) = .tup [.agg (dTyc (Ba (Bt Ci) AT)),Fk 0]:=by
  simp only [HH,if_true];rw [NT,hl,if_pos (by simp [Ba,AT,Bt,Ek,Dx]),if_pos (by kernel_rfl)]
 rw [hf] at hP;exact hP
theorem bB:Al Tryz.prog 35 [.agg (El mK)] (.tup [.int .i64 2,.int .i64 1,Fk 0]):=by
 have h:=dZ (m:=mK) λ_=>sH;rw [sV jQ,oD,if_pos (by kernel_rfl),if_neg (by decide)] at h;exact h
theorem qU:Al Tryz.prog 32 [.agg (El mK),.int .i64 0] (.tup [.sl [],Fk 0]):=by
 have h:=VJ mK 0 (by kernel_rfl) (by decide) (by decide);rw [qS] at h;exact h
theorem V8:Al Tryz.prog 12 [] (.bool true):=by
 have hH0:=OS 0;have hH1:=OS 1;have hI:=vD;have hB:=rO;have hF:=vG;have hM:=XD;have hS:∀a:Ty,Al Tryz.prog 21 [.agg (dTyc a),.agg (dTyc a)] (.bool true):=λa=>by
  have:=HC a a
  rwa [(Q3 a a).2 rfl] at this
 refine Ac Ah Tryz.func12 (by decide +kernel) rfl [1,2,3,4,5,6,7] rfl rfl <| Ai rfl <| Af rfl hH0 <| Ai rfl <| Af rfl hH1 <| Ai rfl <| Af rfl hI <| Ai rfl <| Aj rfl (λ_=>hF (As 0) AT) (by simp) <| Ai rfl <| Af rfl hB <| Ai rfl <| Aj rfl (λ_=>hF BP (As 1)) (by simp) <| Ai rfl <| Af rfl bG <| yg [] rfl (by simp;kernel_rfl) <| Aj rfl (λ_=>hF (As 0) (As 0)) (by simp) <| Ai rfl <| Af rfl hI <| Ai rfl <| Af rfl hB <| Ai rfl <| Aj rfl (λ_=>hF AT BP) (by simp) <| Ai rfl <| Af rfl lL <| Ai rfl <| Af rfl hM <| Ai rfl <| Af rfl tG <| Ai rfl <| Af rfl qE <| Ai rfl <| Af rfl hM <| Ai rfl <| Af rfl tF <| Ai rfl <| Af rfl qD <| Ai rfl <| Af rfl hM <| Ai rfl <| Af rfl tD <| Ai rfl <| Af rfl qC <| Ai rfl <| Af rfl hM <| Ai rfl <| Af rfl bB <| Ai rfl <| Af rfl hM <| Ai rfl <| Af rfl qU <| BU rfl <| Aa rfl (λh=>by cases h) (λh=>?_)
 exact Aq rfl <| yi rfl (c:=dTyc BP) (λ_=>⟨by simp,rfl,rfl⟩) (by simp) <| Ai rfl <| Af rfl hB <| Ai rfl <| Aj rfl (λ_=>hS BP) (by simp [Am]) <| BU rfl <| yi rfl (c:=dTyc AT) (λ_=>⟨by simp,rfl,rfl⟩) (by simp [Am]) <| BU rfl <| Bz rfl hI <| BU rfl <| Aj rfl (λ_=>hS AT) (by simp [Am]) <| BU rfl <| Bz rfl hI <| BU rfl <| Aj rfl (λ_=>hF AT (As 0)) (by simp [Am]) <| BU rfl <| Aj rfl (λ_=>hF (Ba AT (As 0)) (As 0)) (by simp [Am]) <| BU rfl <| Aj rfl (λ_=>hS (Ba (Ba AT (As 0)) (As 0))) (by simp [Am]) <| BU rfl <| Bz rfl hI <| BU rfl <| Aj rfl (λ_=>hF (Bt Ci) AT) (by simp [Am]) <| BU rfl <| Aj rfl (λ_=>hS (Ba (Bt Ci) AT)) (by simp [Am]) <| yg [] rfl (by simp [Am];kernel_rfl) <| Ab rfl rfl rfl
theorem gY (a b:List Ty):Al Tryz.prog 19 [.sl (A2 a),.sl (A2 b)] (.bool (Et a b)):=by
 refine B1 λhv=>?_;simp [CL,Fh,maxLen] at hv;refine Ac Ah Tryz.func19 (by decide +kernel) rfl [1,2] rfl rfl <| Ai rfl <| Aa rfl (λh=>?_) (λh=>?_)
 ·rw [Nf (λe=>by simp [e] at h)];exact Aq rfl <| Ab rfl rfl rfl
 have hl:a.length=b.length:=by simp at h;omega
 clear h;refine Aq rfl <| Ak (λi:Nat=>[(5,.imm (.int .i64 i)),(0,.imm (.sl (A2 a))),(1,.imm (.sl (A2 b)))]) (λ_=>[]) [1,2] (λi=>a.length-i) (λi=>i<=a.length/\Et a b=Et (a.drop i) (b.drop i)) 0 ⟨AL _,rfl⟩
  AD trivial rfl λi hi ih=>?_
 obtain ⟨hi1,hi2⟩:=hi;refine Aq rfl <| Aa rfl (λh=>?_) (λh=>?_)
 ·have hlt:i<a.length:=by simp at h;omega
  obtain ⟨p,hp⟩:=Ao hlt;obtain ⟨q,hq⟩:=Ao (l:=b) (i:=i) (by omega);have hgp:=A8 hp;have hgq:=A8 hq;have hS:=HC p q;rw [Av hp,Av hq,Et] at hi2;generalize Hq p q=o at *;obtain ⟨p1,p2,p3,p4⟩:=p;obtain ⟨q1,q2,q3,q4⟩:=q;refine Aq rfl <| yi rfl (c:=dTyc (.mk p1 p2 p3 p4)) (λ_=>⟨by simp,by simpa using hgp,by simp⟩) (by simp) <| Ai rfl <| yi rfl (c:=dTyc (.mk q1 q2 q3 q4)) (λ_=>⟨by simp,by simpa using hgq,by simp⟩) (by simp) <| Ai rfl <| Af rfl hS <| yg [] rfl (by simp;rfl) ?_;cases o with
  | false =>
   refine Aa rfl (λh=>?_) (λh=>by exfalso;simp at h);exact Aq rfl <| Ag ⟨_,rfl,tV (by rw [hi2];rfl),trivial⟩
  | true =>
   refine Aa rfl (λh=>by exfalso;simp at h) (λh=>?_);exact Aq rfl <| Ae (ih (i+1) (by omega) ⟨by omega,by simpa using hi2⟩) ⟨AA (Cb (by omega) (by omega)),AM⟩ trivial rfl
 ·have hge:a.length<=i:=by simp at h;omega
  rw [Br hge,Br (by omega)] at hi2;exact Aw rfl <| Aq rfl <| Ag ⟨_,rfl,tV (by rw [hi2];rfl),trivial⟩
theorem YN (l:List Ty):Al Tryz.prog 18 [.sl (A2 l)] (.bool (l.all IZ)):=by
 refine B1 λhv=>?_;simp [CL,Fh,maxLen] at hv;refine Ac Ah Tryz.func18 (by decide +kernel) rfl [1,2] rfl rfl <| Ai rfl <| Ak (λi:Nat=>[(3,.imm (.int .i64 i)),(0,.imm (.sl (A2 l)))]) (λ_=>[]) [1,2] (λi=>l.length-i) (λi=>i<=l.length/\l.all IZ=(l.drop i).all IZ) 0 ⟨AL _,rfl⟩
  AM trivial rfl λi hi ih=>?_
 obtain ⟨hi1,hi2⟩:=hi;refine Aq rfl <| Aa rfl (λh=>?_) (λh=>?_)
 ·have hlt:i<l.length:=by simp at h;omega
  obtain ⟨p,hp⟩:=Ao hlt;have hgp:=A8 hp;have hS:=Uu p;rw [Av hp,Da] at hi2;generalize IZ p=o at *;obtain ⟨p1,p2,p3,p4⟩:=p;refine Aq rfl <| yi rfl (c:=dTyc (.mk p1 p2 p3 p4)) (λ_=>⟨by simp,by simpa using hgp,by simp⟩) (by simp) <| Ai rfl <| Af rfl hS <| Ai rfl ?_;cases o with
  | false =>
   refine Aa rfl (λh=>?_) (λh=>by exfalso;simp at h);exact Aq rfl <| Ag ⟨_,rfl,tV (by rw [hi2];rfl),trivial⟩
  | true =>
   refine Aa rfl (λh=>by exfalso;simp at h) (λh=>?_);exact Aq rfl <| Ae (ih (i+1) (by omega) ⟨by omega,by simpa using hi2⟩) ⟨AA (Cb (by omega) (by omega)),AI⟩ trivial rfl
 ·have hge:l.length<=i:=by simp at h;omega
  rw [Br hge] at hi2;exact Aw rfl <| Aq rfl <| Ag ⟨_,rfl,tV (by rw [hi2];rfl),trivial⟩
theorem KindUnifies_pure (a b:Ty):Al Tryz.prog 3 [.agg (dTyc a),.agg (dTyc b)] (.bool true):=by
 have hK:=V8;have hsa:=My a;have hsb:=My b;have hTa:=Uu a;have hTb:=Uu b;have hIn:=LV a b;rw [<- NX] at hTa hTb;by_cases hab:(AH true a&&AH true b)=true
 case neg =>
  have hab:(AH true a&&AH true b)=false:=by simpa using hab
  have hU:=YA a b hab;rw [hab] at hIn;generalize AH true a=oa at *;generalize AH true b=ob at *;generalize FE a=sa at *;generalize FE b=sb at *;obtain ⟨a1,a2,a3,a4⟩:=a;obtain ⟨b1,b2,b3,b4⟩:=b;refine Ac Ah Tryz.func3 (by decide +kernel) rfl [1,2] rfl rfl <| Ai rfl <| Af rfl hsa <| BU rfl <| Bz rfl hsb <| BU rfl <| Aa rfl (λh=>?_) (λh=>?_)
  ·exact Aq rfl <| Af rfl hK <| Ai rfl <| Ab rfl rfl rfl
  refine Aq rfl <| Af rfl hU <| Ai rfl <| Af rfl hIn <| Ai rfl <| Af rfl hTa <| BU rfl <| Bz rfl hTb <| BU rfl <| Aa rfl (λh=>?_) (λh=>by exfalso;cases oa <;> cases ob <;> simp at h hab);exact KM rfl <| Bz rfl hK <| BU rfl <| Ab rfl rfl rfl
 case pos =>
  have hf:=hab;simp only [A1] at hf;obtain ⟨hfa,hfb⟩:=hf;obtain ⟨wa,_,sma⟩:=GC hfa;obtain ⟨wb,_,smb⟩:=GC hfb;obtain ⟨u0,u1,u2⟩:=KX a sma;obtain ⟨w0,w1,w2⟩:=KX b smb;obtain ⟨k,r,hE,hR⟩:=fH a b wa wb sma smb;have hU:=Sy (H:=(max (CV a) (CV b)).toNat) hab hE (by omega) (inB.mono u2 (by omega)) (inB.mono w2 (by omega));have hI:=Ux a b wb sma;rw [hab,KZ] at hIn;rw [hfa] at hTa;rw [hfb] at hTb;generalize (LI a b λ_=>none).isSome=oi at *;generalize (max (CV a) (CV b)).toNat=H at *;clear hE hab hfa hfb wa wb sma smb u0 u1 u2 w0 w1 w2;generalize FE a=sa at *;generalize FE b=sb at *;obtain ⟨a1,a2,a3,a4⟩:=a;obtain ⟨b1,b2,b3,b4⟩:=b
  refine Ac Ah Tryz.func3 (by decide +kernel) rfl [1,2] rfl rfl <| Ai rfl <| Af rfl hsa <| BU rfl <| Bz rfl hsb <| BU rfl <| Aa rfl (λh=>?_) (λh=>?_)
  ·exact Aq rfl <| Af rfl hK <| Ai rfl <| Ab rfl rfl rfl
  refine Aq rfl <| Af rfl hU ?_;cases r with
  | none =>
   unfold V5;unfold oG at hR;simp only at hR;refine Ai rfl <| Af rfl hIn <| Ai rfl <| Af rfl hTa <| BU rfl <| Bz rfl hTb <| BU rfl <| Aa rfl (λh=>by exfalso;simp at h) (λh=>?_);refine KM rfl <| Bz rfl hI <| BU rfl <| Aa rfl (λh=>by exfalso;cases oi <;> simp at h) (λh=>?_);refine Aq rfl <| Af rfl hR <| Ai rfl <| Aa rfl (λh=>?_) (λh=>by exfalso;simp at h);exact KM rfl <| Bz rfl hK <| BU rfl <| Ab rfl rfl rfl
  | some σ =>
   unfold V5 Qb;unfold oG at hR;simp only at hR ⊢;generalize U9 σ H=L at *;have hF:=YN L;have hS:=gY L L;rw [(JZ L L).2 rfl] at hS;rw [show L.all (AH true)=L.all IZ by rw [show AH true=IZ from funext NX]];generalize L.all IZ=ol at *;have e:(if ol=true then V.tup [.sl (A2 L),Fk 0] else .tup [.sl [],Fk 3]) = .tup [.sl (if ol=true then A2 L else []),Fk (if ol=true then 0 else 3)]:=by cases ol <;> rfl
   rw [e];refine Ai rfl <| Af rfl hIn <| Ai rfl <| Af rfl hTa <| BU rfl <| Bz rfl hTb <| BU rfl <| Aa rfl (λh=>by exfalso;simp at h) (λh=>?_);refine KM rfl <| Bz rfl hI <| BU rfl <| Aa rfl (λh=>by exfalso;cases oi <;> simp at h) (λh=>?_);refine Aq rfl <| Af rfl hR <| Ai rfl <| Aa rfl (λh=>by exfalso;simp at h) (λh=>?_);refine Aq rfl <| Af rfl hF <| Ai rfl ?_;cases ol with
   | false =>
    refine Aa rfl (λh=>?_) (λh=>by exfalso;simp at h);exact KM rfl <| Bz rfl hK <| BU rfl <| Ab rfl rfl rfl
   | true =>
    refine Aa rfl (λh=>by exfalso;simp at h) (λh=>?_);exact KM rfl <| Bz rfl hS <| BU rfl <| Bz rfl hK <| BU rfl <| Ab rfl rfl rfl
end Go.Hk
namespace Go.Hk
open Go.RowKit Go.WideShapes Go.ChangeShapes
theorem Ext.below {I I':Imm} {μ μ':Mu} {w w':World} {st':St} (h:Ext I μ [] w I' μ' st' w'):Below w.heap.size w w' :=
 ⟨h.os,h.tape,h.output,h.size,λk hk=>h.block k hk (by rintro ⟨id,blk,g,hl,_⟩;cases hl)⟩
theorem kS {H:Type} {enc:TypeId×Value->H} {P:Program} {f:Func} {s:ChangeSpec} {apart fresh handsOn again:Bool} {W W':World} {args:Array Value} {v:Value} {ds gs:List (DataW H)} {before pa pv:List MemPlace}
  (hW:DataW.Whole enc P f.params.toList s.vars apart W args.toList ds gs before) (hb:Below W.heap.size W W') (hps:before=pa++pv)
  (hres:∀(b:Nat) (sp:Nat->Bool) (hd:Bool),DataW.TrodAll enc P W' b sp hd f.resultTypes.toList (v.resultList f.resultTypes.size) (s.fn H (ds++gs)).results [])
  (hargs:∀sp:Nat->Bool,(∀p∈before,sp p.block=true)->DataW.TrodAll enc P W' 0 sp true f.params.toList args.toList (s.fn H (ds++gs)).args pa)
  (hvars:∀sp:Nat->Bool,(∀p∈before,sp p.block=true)->DataW.TrodVars enc P W' sp s.vars (s.fn H (ds++gs)).vars pv)
  (hok:∀(j:Nat) (t:TypeId) (r:Value),f.resultTypes[j]?=some t->(v.resultList f.resultTypes.size)[j]?=some r->Value.okWide P W' .any 0 t r) :
  s.post enc P f apart fresh handsOn again W args v W':=by
 have lt:∀p∈before,decide (p.block<W.heap.size)=true:=λp hp=>by simpa using hW.lt p hp
 refine ⟨ds,gs,before,[],pa,pv,hW,hres _ _ _,hargs (λb=>decide (b<W.heap.size)) lt,hvars (λb=>decide (b<W.heap.size)) lt,World.keptBut_mono (λp hp=>⟨hp,.inr ?_⟩) (hb.frame (· ∈ before)),λ_=>⟨hok,?_⟩⟩
 ·rw [hps] at hp;exact BH.1 hp
 ·have hlt:=hW.lt;obtain ⟨_,_,_,_,_,hz,hn⟩:=hW;refine ⟨(s.fn H (ds++gs)).results++(s.fn H (ds++gs)).args,(s.fn H (ds++gs)).vars,pa++pv,⟨pa,pv,?_,hvars _ (λ_ _=>rfl),rfl,λb off hp=>?_,λha=>?_⟩,λp hp _=>by rw [hps];exact hp⟩
  ·have:=trodAll_append (hargs (λ_=>true) λ_ _=>rfl) (hres 0 (λ_=>true) true);simpa using this
  ·have hin:MemPlace.cell b off∈before:=by rw [hps];exact hp
   rw [hb.frozen (hlt _ hin)];exact hz b off hin
  ·rw [<- hps];exact hn ha
end Go.Hk
namespace Go.Hk
def O1 (W:World):Imm:=λb=>W.heap[b]?
theorem qF (W:World):(O1 W).ok W:=λ_ _ h=>h
def Rds (P:Program) (W:World) (n:Nat) (t:TypeId) (cs:List Value):Prop :=
 ∃(H:Type) (enc:TypeId×Value->H) (x:DataW H×List MemPlace),DataW.trod enc P W 0 (λ_=>true) true n t cs=some x
def RV (W:World) (cs:List Value) (xs:List V):Prop:=RepVL (O1 W) cs xs/\∀c∈cs,c.oneCell'=true
theorem RV.app {W:World} {a b:List Value} {x y:List V} (h:RV W a x) (k:RV W b y):RV W (a++b) (x++y) :=
 ⟨h.1.append k.1,λc hc=>(BH.1 hc).elim (h.2 c) (k.2 c)⟩
theorem RV.one {W:World} {v:Value} {x:V} (h:RepV (O1 W) v x) (h1:v.oneCell'=true):RV W [v] [x] :=
 ⟨.mk h .nil,λc hc=>by simp at hc;rw [hc];exact h1⟩
theorem RV.agg {W:World} {cs:Array Value} {xs:List V} (h:RV W cs.toList xs):RepV (O1 W) (.agg cs) (.agg xs) :=
 .agg _ _ (by simpa using h.1.1) h.2 (λi c x a b=>h.1.2 i c x (by simpa using a) b)
theorem RV.len {W:World} {cs:List Value} {xs:List V} (h:RV W cs xs):cs.length=xs.length:=h.1.1
section
variable {P:Program} {W:World} {tt:TT} {n:Nat} {t:TypeId} {cs:List Value}
theorem Z3 {k:IntKind} {a:Bool} {sz by_:Nat} {z:List D} (htt:TTok P tt) (hl:lk tt t=some ⟨.int k,a,sz,by_,z⟩) (h:Rds P W n t cs):∃m,RV W cs [.int k m]/\(Lit.int k m).wf=true:=by
 obtain ⟨H,enc,x,h⟩:=h;have hu:P.underlying t=some (.int k):=htt.sh hl;cases n with
 | zero=>simp [DataW.trod] at h
 | succ n =>
  unfold DataW.trod at h;rw [hu] at h
  split at h <;> simp_all
  rename_i k' m heq;exact ⟨m,.one (.int _ _) rfl,h.1.2⟩
theorem oX {a:Bool} {sz by_:Nat} {z:List D} (htt:TTok P tt) (hl:lk tt t=some ⟨.str,a,sz,by_,z⟩) (h:Rds P W n t cs):∃s,RV W cs [.str s]/\s.length<=maxLen:=by
 obtain ⟨H,enc,x,h⟩:=h;have hu:P.underlying t=some .string:=htt.sh hl;cases n with
 | zero=>simp [DataW.trod] at h
 | succ n =>
  unfold DataW.trod at h;rw [hu] at h
  split at h <;> simp_all
  rename_i s;exact ⟨s.data.toList,.one (.str _ _ rfl) rfl,by have:=h.1;simpa using this⟩
theorem QP {a:Addr} {k:Nat} {cs':List Value} (h:W.cells? 0 a k=some cs') (hk:0<k):a.spot=none/\∀(j:Nat) (v:Value),cs'[j]?=some v->(O1 W).cell a.block (a.off+j)=some v:=by
 obtain ⟨_,h2,h3⟩:=World.cells?_some h;have cell:∀(b:Addr) (v:Value),W.cell? b=some v->b.spot=none/\(O1 W).cell b.block b.off=some v:=by
  intro b v hb;unfold World.cell? at hb
  split at hb
  ·rename_i c t0 fz hh
   split at hb
   ·cases hb
   ·rename_i hs;refine ⟨by cases h:b.spot with | none=>rfl | some _=>rw [h] at hs;exact absurd rfl hs,?_⟩;unfold Imm.cell O1;rw [hh];exact hb
  ·cases hb
 have hs:a.spot=none:=by
  have hlt:0<cs'.length:=by omega
  have:=h3 0 hk;rw [Bi hlt] at this;exact (cell (a.add 0) _ this).1
 refine ⟨hs,λj v hv=>?_⟩;have hj:=(AJ.1 hv).1;have:=(cell (a.add j) v (by rw [h3 j (by omega)];exact hv)).2;unfold Addr.add at this;by_cases h0:j=0
 ·subst h0;simpa using this
 ·rw [if_neg h0] at this;exact this
theorem cL {α:Type} {e:TypeId} {a:Bool} {sz by_:Nat} {z:List D} {i:TyI} {d:α->List V} (htt:TTok P tt) (hl:lk tt t=some ⟨.sl e,a,sz,by_,z⟩) (hi:lk tt e=some i) (hpos:0<i.size)
  (hd:∀x,(d x).length=i.size) (hel:∀m,m<n->∀cs',Rds P W m e cs'->∃x,RV W cs' (d x)) (h:Rds P W n t cs):∃xs:List α,RV W cs [.sl (xs.map d)]:=by
 obtain ⟨H,enc,x,h⟩:=h;have hu:P.underlying t=some (.slice e):=htt.sh hl;have hce:P.cellsOf e=i.size:=(htt e i hi).cellsOf;rcases DataW.trod_slice hu h with ⟨rfl,_⟩ | ⟨ad,len,cap,elems,rest,m,rfl,rfl,_,_,h1,h2,h3,h4,h5,_⟩
 ·exact ⟨[],.one .slnil rfl⟩
 rw [hce] at h4 h5;have he:∀k,k<len->∃(cs':List Value) (x:α),W.cells? 0 (ad.add (k*i.size)) i.size=some cs'/\RV W cs' (d x):=by
  intro k hk;have:=h4 k hk;rw [Bi (by omega)] at this;obtain ⟨cs',q1,q2⟩:=jZ.1 this;obtain ⟨x,hx⟩:=hel m (by omega) cs' ⟨H,enc,_,q2⟩;exact ⟨cs',x,q1,hx⟩
 have hch:∃(C:Nat->List Value) (X:Nat->Option α),∀k,k<len->∃x,X k=some x/\W.cells? 0 (ad.add (k*i.size)) i.size=some (C k)/\RV W (C k) (d x):=by
  classical
  refine ⟨λk=>if hk:k<len then (he k hk).choose else [],λk=>if hk:k<len then some ((he k hk).choose_spec.choose) else none,λk hk=>?_⟩;simp only [hk,dif_pos];exact ⟨_,rfl,(he k hk).choose_spec.choose_spec⟩
 obtain ⟨C,X,hCX⟩:=hch;have hlist:∀l,l<=len->∃xs:List α,xs.length=l/\∀k x,xs[k]?=some x->X k=some x:=by
  intro l
  induction l with
  | zero=>exact λ_=>⟨[],rfl,λk x h=>by simp at h⟩
  | succ l ih =>
   intro hl';obtain ⟨xs,q1,q2⟩:=ih (by omega);obtain ⟨x,hx,_⟩:=hCX l (by omega);refine ⟨xs++[x],by simp [q1],λk y hy=>?_⟩;by_cases hk:k<xs.length
   ·rw [PK hk] at hy;exact q2 k y hy
   ·rw [NL (by omega)] at hy;have:k-xs.length=0:=by
     have:=(AJ.1 hy).1;simp at this;omega
    rw [this] at hy;cases hy;have:k=l:=by omega
    rw [this];exact hx
 obtain ⟨xs,hx1,hx2⟩:=hlist len (B8 _);refine ⟨xs,.one ?_ rfl⟩;by_cases hcap:cap=0
 ·have:len=0:=by omega
  subst this;subst hcap;have:xs=[]:=K5 hx1;subst this;exact .sl0 ad
 have hspot:ad.spot=none:=by
  by_cases hlen:0<len
  ·obtain ⟨x,_,q,_⟩:=hCX 0 hlen;have:=(QP q hpos).1;simpa [Addr.add] using this
  ·have h6:=h5 rfl;have h7:=h6.2 0 (by omega);rw [Bi (by omega)] at h7;obtain ⟨cs',q1,q2⟩:=jZ.1 h7;have:=(QP q1 hpos).1;have hl0:len=0:=by omega
   subst hl0;simpa [Addr.add] using this
 obtain ⟨b,o,sp⟩:=ad;simp only at hspot;subst hspot;have hget:∀(k:Nat) (e:List V),(xs.map d)[k]?=some e->k<len/\∃x,X k=some x/\e=d x/\W.cells? 0 ⟨b,o+k*i.size,none⟩ i.size=some (C k)/\RV W (C k) (d x):=by
  intro k e hk;rw [Eg,NN] at hk;obtain ⟨x,q1,q2⟩:=hk;have hlt:=(AJ.1 q1).1;obtain ⟨y,r1,r2,r3⟩:=hCX k (by omega);rw [hx2 k x q1] at r1;cases r1;refine ⟨by omega,x,hx2 k x q1,q2.symm,?_,r3⟩;rw [<- r2];congr 1;unfold Addr.add;by_cases h0:k*i.size=0
  ·simp [h0]
  ·simp [h0]
 refine .sl b o len cap i.size _ (λk j=>(C k).getD j undef) (by simp [hx1]) h1 h2 (λe he=>?_) (λk e j x hk hj=>?_) (λk e j x hk hj=>?_)
 ·obtain ⟨x,_,rfl⟩:=Cc.1 he;exact hd x
 ·obtain ⟨_,y,_,rfl,q3,q4⟩:=hget k e hk;have hlt:j<(C k).length:=by rw [q4.len];exact (AJ.1 hj).1
  have hv:(C k)[j]?=some ((C k)[j]):=Bi hlt;have hD:(C k).getD j undef=(C k)[j]:=by simp [List.getD,hv]
  show (O1 W).cell b (o+k*i.size+j)=some ((C k).getD j undef)/\((C k).getD j undef).oneCell'=true;rw [hD];exact ⟨(QP q3 hpos).2 j _ hv,q4.2 _ (HZ _)⟩
 ·obtain ⟨_,y,_,rfl,q3,q4⟩:=hget k e hk;have hlt:j<(C k).length:=by rw [q4.len];exact (AJ.1 hj).1
  have hv:(C k)[j]?=some ((C k)[j]):=Bi hlt;have hD:(C k).getD j undef=(C k)[j]:=by simp [List.getD,hv]
  show RepV (O1 W) ((C k).getD j undef) x;rw [hD];exact q4.1.2 j _ x hv hj
theorem Xx {fs:List (Nat×TypeId)} {a:Bool} {sz by_:Nat} {z:List D} (htt:TTok P tt) (hl:lk tt t=some ⟨.struct fs,a,sz,by_,z⟩) (h:Rds P W n t cs) :
  cs.length=sz/\∃m,n=m+1/\∀(j off:Nat) (ft:TypeId) (i:TyI),fs[j]?=some (off,ft)->lk tt ft=some i->Rds P W m ft ((cs.drop off).take i.size):=by
 obtain ⟨H,enc,x,h⟩:=h;obtain ⟨fields,hu,hmap,_⟩:∃fields,P.underlying t=some (.struct fields)/\fields.toList.map (λf=>(f.offset,f.type))=fs/\∀f∈fields.toList,0<P.cellsOf f.type:=htt.sh hl;obtain ⟨xs,m,rfl,_,h1,h2,h3⟩:=DataW.trod_struct hu h;refine ⟨by rw [h1];exact (htt t _ hl).cellsOf,m,rfl,λj off ft i hj hi=>?_⟩;rw [<- hmap,Eg,NN] at hj;obtain ⟨f,q1,q2⟩:=hj;cases q2;have hf:fields[j]?=some f:=by rw [<- PM];exact q1
 have hlt:=(Gu.1 hf).1;have:=h3 j f hf;rw [Bi (by omega),(htt _ i hi).cellsOf] at this;exact ⟨H,enc,_,this⟩
end
end Go.Hk
namespace Go.Hk
open Go.Proofs
section
variable {W:World}
theorem four {α:Type} {l:List α} (h:l.length=4):∃a b c d,l=[a,b,c,d]:=by
 match l,h with
 | [a,b,c,d],_=>exact ⟨a,b,c,d,rfl⟩
theorem mW (l:List Ty):l.map dTyc=A2 l:=(Ck l).symm
theorem cH (tt0 ts tl:TypeId) (hs:lk Zo tt0=some ⟨.struct [(0,ts),(1,3),(2,9),(3,tl)],true,4,56,[.imm (.int .i64 0),.imm (.int .i64 0),.imm (.str []),.nils]⟩)
  (h1:lk Zo ts=some ⟨.int .i64,false,1,8,[.imm (.int .i64 0)]⟩) (h2:lk Zo tl=some ⟨.sl tt0,false,1,24,[.nils]⟩) :
  ∀(n:Nat) (cs:List Value),Rds Tryz.prog W n tt0 cs->∃t:Ty,RV W cs (dTyc t):=by
 intro n
 induction n using Nat.strongRecOn with
 | ind n ih =>
  intro cs h;obtain ⟨hl,m,rfl,hf⟩:=Xx BM hs h;obtain ⟨a,b,c,d,rfl⟩:=four hl;obtain ⟨s,r1,_⟩:=Z3 BM h1 (hf 0 0 ts _ rfl h1);obtain ⟨k,r2,_⟩:=Z3 BM rfl (hf 1 1 3 _ rfl rfl);obtain ⟨x,r3,_⟩:=oX BM rfl (hf 2 2 9 _ rfl rfl);obtain ⟨ps,r4⟩:=cL (d:=dTyc) BM h2 hs (show 0<4 by decide) dTyc_length (λm' hm cs'=>ih m' (by omega) cs') (hf 3 3 tl _ rfl h2);exact ⟨.mk s k x ps,by rw [dTyc,<- mW];exact ((r1.app r2).app r3).app r4⟩
theorem read_type (n:Nat) (cs:List Value) (h:Rds Tryz.prog W n 25 cs):∃t:Ty,RV W cs (dTyc t):=cH 25 22 23 rfl rfl rfl n cs h
end
end Go.Hk
namespace Go.Hk
open Go.RowKit Go.WideShapes Go.ChangeShapes Go.ChangeAt
theorem Ls {H:Type} {enc:TypeId×Value->H} {P:Program} (hl:laidOutB P=true) {W W':World} (hb:Below W.heap.size W W') {sp:Nat->Bool} :
  ∀{ts:List TypeId} {vs:List Value} {ds:List (DataW H)} {ps:List MemPlace},ts.all (λt=>P.readableRec t&&decide (t<P.types.size))=true->DataW.TrodAll enc P W 0 (λ_=>true) true ts vs ds ps ->
   (∀p∈ps,p.block<W.heap.size)->(∀p∈ps,sp p.block=true)->DataW.TrodAll enc P W' 0 sp true ts vs ds ps
 | [],[],[],_,_,h,_,_=>h
 | [],[],_::_,_,_,h,_,_=>h.elim
 | [],_::_,_,_,_,h,_,_=>h.elim
 | _::_,[],_,_,_,h,_,_=>h.elim
 | _::_,_::_,[],_,_,h,_,_=>h.elim
 | t::ts,v::vs,d::ds,ps,ht,h,hlt,hs=>by
  obtain ⟨p,q,h1,h2,rfl⟩:=h;rw [Da,A1,A1,decide_eq_true_eq] at ht;refine ⟨p,q,WideElems.Trod_stays hl ht.1.1 ht.1.2 h1 (λx hx=>hb.same (hlt x (Ld _ hx))) (λx hx=>hs x (Ld _ hx)),?_,rfl⟩;exact Ls hl hb ht.2 h2 (λx hx=>hlt x (Yh _ hx)) (λx hx=>hs x (Yh _ hx))
theorem Rds.of {H:Type} {enc:TypeId×Value->H} {P:Program} {W:World} {t:TypeId} {v:Value} {d:DataW H} {ps:List MemPlace} (h:DataW.Trod enc P W 0 (λ_=>true) true t v d ps):∃n,Rds P W n t v.cells.toList:=by
 obtain ⟨n,hn⟩:=h;exact ⟨n,H,enc,_,hn⟩
section
variable {H:Type} {enc:TypeId×Value->H} {P:Program} {W:World} {sp:Nat->Bool} {hd:Bool}
theorem trodAll0 {vs:List Value} {ds:List (DataW H)} {ps:List MemPlace} (h:DataW.TrodAll enc P W 0 sp hd [] vs ds ps):vs=[]/\ds=[]:=by
 cases vs with
 | nil=>cases ds with
  | nil=>exact ⟨rfl,rfl⟩
  | cons=>exact h.elim
 | cons=>cases ds <;> exact h.elim
theorem trodAllS {t:TypeId} {ts:List TypeId} {vs:List Value} {ds:List (DataW H)} {ps:List MemPlace} (h:DataW.TrodAll enc P W 0 sp hd (t::ts) vs ds ps) :
  ∃v vs' d ds' p q,vs=v::vs'/\ds=d::ds'/\DataW.Trod enc P W 0 sp hd t v d p/\DataW.TrodAll enc P W 0 sp hd ts vs' ds' q:=by
 cases vs with
 | nil=>cases ds <;> exact h.elim
 | cons v vs=>cases ds with
  | nil=>exact h.elim
  | cons d ds =>
   obtain ⟨p,q,h1,h2,_⟩:=h;exact ⟨v,vs,d,ds,p,q,rfl,rfl,h1,h2⟩
end
theorem agg_of {P:Program} {W:World} {base:Nat} {t:TypeId} {v:Value} {fs:Array Field} (hu:P.underlying t=some (.struct fs)) (h:Value.okWide P W .any base t v):∃cs,v = .agg cs:=by
 unfold Value.okWide at h;rw [hu] at h;obtain ⟨cs,e,_⟩:=h;exact ⟨cs,e⟩
theorem R2 {P : Program} {f : FuncId} {fn : Func} {c : Code} (hf : P.funcs[f]? = some fn) (hname : (fn.name == "runtime.NumGoroutine") = false) (hb : fn.body = some c) {W : World} {args : Array Value} {vs : List V} {b : Bool} (hv : RepVL (O1 W) args.toList vs) (hp : Al P f vs (.bool b)) :
  Calls P f args W λe W'=>e = .returned (.bool b)/\Below W.heap.size W W':=by
 have h:=hp (O1 W) (λ_=>none) W args { imm:=qF W,blk:=λid blk hl=>(by cases hl),apart:=λid blk g b hl=>(by cases hl),inj:=λi j bi bj gi gj b hl=>(by cases hl),nodup:=.nil,idsFree:=λid hi=>(by cases hi) }
  ⟨by simpa using hv.1,λi v d h1 h2=>by
   rw [Eg,NN] at h2;obtain ⟨x,q1,rfl⟩:=h2;exact .imm _ _ (hv.2 i v x h1 q1)⟩
 rw [Bq hf hname hb] at h;refine Calls.mono h λe w' he=>?_;cases e with
 | returned v =>
  obtain ⟨I',μ',h1,_,_,h4⟩:=he;cases h1 with
  | imm v x hx =>
   cases hx;exact ⟨rfl,h4.below⟩
 | panicked=>exact he.elim
 | outgrown=>exact he.elim
theorem law_done {H:Type} {enc:TypeId×Value->H} {P:Program} {f:FuncId} {fn:Func} {c:Code} {s:ChangeSpec} {apart fresh handsOn again:Bool} {W:World} {args:Array Value} {ds gs:List (DataW H)} {before:List MemPlace} {tb:TypeId} {vs:List V}
  (hW : DataW.Whole enc P fn.params.toList s.vars apart W args.toList ds gs before) (hv : s.vars = []) (hf : P.funcs[f]? = some fn) (hname : (fn.name == "runtime.NumGoroutine") = false) (hb : fn.body = some c) (hrt : fn.resultTypes = #[tb]) (hbool : P.underlying tb = some .bool)
  (hl:laidOutB P=true) (hpar:fn.params.toList.all (λt=>P.readableRec t&&decide (t<P.types.size))=true) (hs:s.fn H ds={ results:=[.lit (.bool true)],args:=ds }) (hx:RepVL (O1 W) args.toList vs) (hp:Al P f vs (.bool true)) :
  Calls P f args W λe W'=>∃v,e = .returned v/\s.post enc P fn apart fresh handsOn again W args v W':=by
 refine (R2 hf hname hb hx hp).mono λe W' ⟨he,hg⟩=>?_;subst he;have hW':=hW;obtain ⟨p,q,hA,hV,e1,hfz,hnd⟩:=hW;rw [hv] at hV;have hg0:gs=[]/\q=[]:=by
  cases gs with
  | nil=>exact ⟨rfl,hV⟩
  | cons=>exact hV.elim
 obtain ⟨rfl,rfl⟩:=hg0;rw [IM] at e1;subst e1;have hlt:=hW'.lt;refine ⟨_,rfl,kS (pa:=before) (pv:=[]) hW' hg (by simp) (λb sp hd=>?_) (λsp hsp=>?_) (λsp hsp=>?_) ?_⟩
 ·rw [IM,hs,hrt];exact trodAll_cons_mk (shut_bool hbool _) trodAll_mk0
 ·rw [IM,hs];exact Ls hl hg hpar hA hlt hsp
 ·rw [IM,hs,hv];rfl
 ·exact ok_one hrt rfl (okWide_bool_mk hbool _)
end Go.Hk
namespace Go.Proofs.YtcdpbkolkeeopaaGreat.kindUnifies
open Go.ChangeShapes Go.WideShapes Go.RowKit
set_option linter.unusedVariables false
theorem own:ownKnob Tryz.prog.godebug=none:=by kernel_rfl
theorem tW (os:Os) (started:os.Started) (H:Type) (enc:TypeId×Value->H) :
  ReturnsInHanded {} Tryz.checked os 3 .any (Rows.kindUnifiesSpec.pre6 enc Tryz.prog Tryz.f3 Rows.kindUnifiesRow.domain false) (Rows.kindUnifiesSpec.post enc Tryz.prog Tryz.f3 false true false false):=by
 refine returnsInHanded_of_change (C:=Tryz.checked) own started (by kernel_rfl) Tryz.func3
  (ChangeSpec.witness6 (enc:=enc) (C:=Tryz.checked) false ⟨#[],#[.agg #[.int .i64 0,.int .i64 0,.string ⟨#[]⟩,.slice none 0 0],.agg #[.int .i64 0,.int .i64 0,.string ⟨#[]⟩,.slice none 0 0]],[]⟩ 8 (by kernel_rfl) (by kernel_rfl) (by kernel_rfl) (by kernel_rfl)) ?_
 intro W base args ds gs before hval hW hcnd _;obtain ⟨p,q,hA,_⟩:=id hW;obtain ⟨v1,w1,d1,x1,p1,q1,e1,rfl,hd1,hA⟩:=Hk.trodAllS (t:=25) hA;obtain ⟨v2,w2,d2,x2,p2,q2,e2,rfl,hd2,hA⟩:=Hk.trodAllS (t:=25) hA;obtain ⟨rfl,rfl⟩:=Hk.trodAll0 hA;obtain ⟨args⟩:=args;simp only at e1;subst e2;subst e1;obtain ⟨n1,hn1⟩:=Hk.Rds.of hd1;obtain ⟨m1,hm1⟩:=Hk.read_type n1 _ hn1;obtain ⟨c1,rfl⟩:=Hk.agg_of Tryz.underlying25 (hval 0 25 v1 rfl rfl);obtain ⟨n2,hn2⟩:=Hk.Rds.of hd2;obtain ⟨m2,hm2⟩:=Hk.read_type n2 _ hn2;obtain ⟨c2,rfl⟩:=Hk.agg_of Tryz.underlying25 (hval 1 25 v2 rfl rfl)
 exact Hk.law_done hW rfl Tryz.func3 (by decide +kernel) rfl rfl Tryz.underlying4 (by kernel_rfl) (by kernel_rfl) rfl (vs:=[.agg (Hk.dTyc m1),.agg (Hk.dTyc m2)]) (.mk (Hk.RV.agg hm1) (.mk (Hk.RV.agg hm2) .nil)) (Hk.KindUnifies_pure m1 m2)
theorem wK:laidOutB Tryz.pinned.checked.prog=true:=by kernel_rfl
theorem wJ:mapsRowed Tryz.pinned.checked.prog=true:=by kernel_rfl
theorem uN:(Rows.kindUnifiesRow.inPlace == Tryz.pinned.checked.prog.inPlace 3)=true:=by kernel_rfl
theorem uM:(Rows.kindUnifiesRow.unfollowed == Tryz.pinned.checked.prog.unfollowed 3)=true:=by kernel_rfl
theorem uL:(Rows.kindUnifiesRow.recurses == Tryz.pinned.checked.prog.recurses 3)=true:=by kernel_rfl
theorem uK:(Rows.kindUnifiesRow.named == Tryz.pinned.checked.prog.varsNamed 3)=true:=by kernel_rfl
theorem closed:joinedFacts Tryz.pinned.checked.prog 3 Tryz.f3 Rows.kindUnifiesSpec Rows.kindUnifiesRow=true:=by
 unfold joinedFacts;simp only [Bool.and_eq_true];exact ⟨⟨⟨⟨⟨⟨⟨⟨⟨⟨⟨⟨⟨⟨⟨⟨⟨⟨⟨⟨⟨⟨⟨⟨⟨⟨⟨⟨⟨⟨⟨by kernel_rfl,wK⟩,wJ⟩,by kernel_rfl⟩,by kernel_rfl⟩,by kernel_rfl⟩,by kernel_rfl⟩,by kernel_rfl⟩,by kernel_rfl⟩,uN⟩,uM⟩,uL⟩,uK⟩,by kernel_rfl⟩,by kernel_rfl⟩,by kernel_rfl⟩,by kernel_rfl⟩,by kernel_rfl⟩,by kernel_rfl⟩,by kernel_rfl⟩,by kernel_rfl⟩,by kernel_rfl⟩,by kernel_rfl⟩,by kernel_rfl⟩,by kernel_rfl⟩,by kernel_rfl⟩,by kernel_rfl⟩,by kernel_rfl⟩,by kernel_rfl⟩,by kernel_rfl⟩,by kernel_rfl⟩,by kernel_rfl⟩
theorem over:Rows.kindUnifiesRow.holds Tryz.pinned (OpenSpec.ofChange Rows.kindUnifiesSpec) :=
 OpenClaim.holds_of_wide 3 Tryz.f3 rfl rfl rfl rfl rfl rfl rfl ⟨rfl,rfl,rfl,rfl,rfl⟩ rfl rfl rfl rfl rfl (by kernel_rfl) Tryz.func3 closed
  (of_decide_eq_true (by kernel_rfl)) (by unfold Func.isWrapper;first | (rw [if_pos (by decide +kernel)];kernel_rfl) | (rw [if_neg (by decide +kernel)];exact ⟨rfl,rfl⟩))
  (λos started H enc _=>tW os started H enc)
theorem proved:Rows.KindUnifiesSaid :=
 over
end Go.Proofs.YtcdpbkolkeeopaaGreat.kindUnifies
