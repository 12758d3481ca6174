/- Types put in place of holes: solutions (plain theory). -/
import Derived.Test.YtcdpbkolkeeopaaGreatRe
import Derived.Test.YtcdpbkolkeeopaaGreatRd
import Derived.Test.YtcdpbkolkeeopaaGreatRb
import Derived.Maps.RangeRun
import Derived.Test.YtcdpbkolkeeopaaGreatRc
import Derived.Laws.StructEq
import Derived.WideLaws
import Derived.Laws.Entries
set_option linter.all false
set_option maxRecDepth 100000
set_option maxHeartbeats 4000000
namespace Go.Hk
open Go.Proofs.Tryz
open Go.Proofs
open Go.MapKept
variable {m m':Md} {I J:Imm} {S ps:List Ty} {x y:Str} {P:Program} {n i a j c b0 H:Nat} {Γ:Au} {w w':World} {τ:Ty} {st st':St} {ids F l ids':List Nat} {μ ν:Mu} {env env' E:Env} {Q:DQ} {todo todo':List DI} {tt:TT} {b:Bool} {t:Tm} {T:List (Int×Ty)} {d:D} {ob:List Prop} {K:List (Au×Ty)} {p:Int->Int->Str->Nat->Bool} {v:Value} {Pn:V->Prop} {cx:Prop} {f g:Fd} {η θ q:Int->Ty} {es:Array MapEntry} {d0:Option Nat} {e:MapEntry} {h:Int} {vs:List Value} {α:Type} {o:Oper} {L:NB} {z:List Int×List Str} {c':Code}
theorem RT {bs:List Nat} (h:(zb4 (.sl [])).P vs I w bs):(Mp []).P vs I w bs:=by
 obtain ⟨rfl,v,rfl,h1,h2⟩:=h;refine U1 (λ_=>⟨v,rfl,rfl,?_,?_⟩) (λh=>absurd rfl h)
 ·obtain ⟨ad,len,cap,rfl,_,rfl⟩:=Q1 h1;exact ⟨_,_,rfl⟩
 ·intro J;cases h1 with
  | slnil=>exact .slnil
  | sl0 a=>exact .sl0 a
  | sl b o len cap sz es vs hl hc hm _ _ _=>exact .sl b o len cap sz [] vs hl hc hm (λe he=>by cases he) (λi e j x hi=>by simp at hi) (λi e j x hi=>by simp at hi)
theorem cF {bs:List Nat} {es:List (List V)} (hne:es≠[]) (h:(zbx 25 4 es).P vs I w bs):(Mp es).P vs I w bs:=by
 obtain ⟨v,rfl,⟨_,h0,_⟩ | ⟨b,cap,cur,rfl,rfl,h1,h2,h3,h4,h5,h6,h7,h8⟩⟩:=h
 ·exact absurd h0 hne
 refine U1 (λh=>absurd h hne) (λ_=>⟨b,cap,cur,rfl,rfl,h1,h2,h3,h4,λj e hj=>?_⟩);have he:=h6 e (AF hj);have hlt:=(AL.1 hj).1;have hget:∀i,i<4->∃c x,cur.toList[j*4+i]?=some c/\e[i]?=some x/\RepV I c x/\c.oneCell'=true:=by
  intro i hi;obtain ⟨x,hx⟩:∃x,e[i]?=some x:=⟨_,Br (by omega)⟩
  have hf:=C8 h6 j e i x hj hx;obtain ⟨c,hc⟩:∃c,cur.toList[j*4+i]?=some c:=⟨_,Br (by simp;omega)⟩
  have hr:=h5.2 (j*4+i) c x (by rw [D6,if_pos (by omega)];exact hc) hf;exact ⟨c,x,hc,hx,hr,hr.one (h7 e (AF hj) x (AF hx))⟩
 refine ⟨(cur.toList.drop (j*4)).take 4,λi c hc=>?_,⟨?_,λi c x hc hx=>?_⟩,λc hc=>?_,he⟩
 ·rw [D6] at hc
  split at hc
  ·rw [Fj] at hc;simpa using hc
  ·cases hc
 ·rw [HH,JJ,he];simp;omega
 ·rw [D6] at hc
  split at hc
  ·rename_i hi;rw [Fj] at hc;obtain ⟨c',x',k1,k2,k3,_⟩:=hget i hi;rw [k1] at hc;cases hc;rw [k2] at hx;cases hx;exact k3
  ·cases hc
 ·obtain ⟨i,hi⟩:=IN hc;rw [D6] at hi
  split at hi
  ·rename_i hl;rw [Fj] at hi;obtain ⟨c',x',k1,_,_,k4⟩:=hget i hl;rw [k1] at hi;cases hi;exact k4
  ·cases hi
theorem bH (es:List (List V)) (hs:∀c∈es,c.length=4) (hlen:es.length<=1000000) :
  Tq4 138 [.imm (.sl es)] [] (.ret (.hv 1 0) [(1,some (.hp (Mp es)))]):=by
 cases es with
 | nil =>
  refine Ad ttY_ok func138 rfl [1]<|Ai rfl<|Lj ttY_ok rfl λb hb=>?_;cases b with
  | true =>
   exact yd [.a] rfl (by simp)<|Pr (x:=.sl []) 2 1 rfl rfl rfl<|J9 1 (λ_:Unit=>Mp []) rfl (λvs I w bs h=>⟨(),RT h⟩) λ_=>Ah ⟨_,AC⟩
  | false =>
   exact yd [.a] rfl (by simp)<|Uk ttY_ok rfl<|Ai rfl<|Pr (x:=.sl []) 2 1 rfl rfl rfl<|J9 1 (λ_:Unit=>Mp []) rfl (λvs I w bs h=>⟨(),RT h⟩) λ_=>Ah ⟨_,AC⟩
 | cons e r =>
  refine Ad ttY_ok func138 rfl [2,1]<|Ai rfl<|Lj ttY_ok rfl λb hb=>?_;have hb:b=false:=hb (by simp);subst hb;exact yd [.a] rfl (by simp)<|B7 ttY_ok rfl ⟨hs,by simp only [maxLen,Cz] at *;omega,by simp only [Cz] at *;omega,λc hc=>by simp at hc,by simp⟩<|Ai rfl<|Yi 2 2 1 rfl rfl<|J9 1 (λ_:Unit=>Mp (e::r)) rfl (λvs I w bs h=>⟨(),cF (by simp) h⟩) λ_=>Ah ⟨_,AC⟩
def zby (v:Value) (gs:List Tr) (i:Nat) (f n:Int) (x:Str) (ps:List Ty):Asn where
 P:=λ_ I w bs=>∃u ks,IT ks ps/\(F9 v (gs.set i (.nd f n x u ks))).P [] I w bs
 mono:=λh ⟨u,ks,h1,h3⟩=>⟨u,ks,h1,(F9 v (gs.set i (.nd f n x u ks))).mono h h3⟩
 loc:=λh ⟨u,ks,h1,h3⟩=>⟨u,ks,h1,(F9 v (gs.set i (.nd f n x u ks))).loc h h3⟩
theorem QC {gs:List Tr} {g:Tr} {f n:Int} (hg:gs[i]?=some g) (h0:YE g=[]):N7 (F9 v gs) (JO ps) (zby v gs i f n x ps) j (FD v) (i*4) [.imm (.int .i64 f),.imm (.int .i64 n),.imm (.str x),.hv j 0]:=by
 intro us vs I w b1 b2 h1 ⟨u,ks,k1,k2,k3⟩ hdis;subst k2;obtain ⟨q1,cur,q2,q3,bs,q4,q5⟩:=YV (a:=.nd f n x u ks) h1 hg h0 ⟨k3.1,k3.2.1⟩ k3.2.2.1 k3.2.2.2 hdis;refine ⟨q1,cur,_,q2,q3,λcs hl hcs hone=>?_⟩;have e:cs=cT (.nd f n x u ks):=by
  match cs,hl with
  | [c0,c1,c2,c3],_ =>
   have e0:=(show RepD I noMu _ (.imm _) from hcs 0 _ _ rfl rfl).immInv.intInv;have e1:=(show RepD I noMu _ (.imm _) from hcs 1 _ _ rfl rfl).immInv.intInv;have e2:=(show RepD I noMu _ (.imm _) from hcs 2 _ _ rfl rfl).immInv.strEq;have e3:j=j/\[u][0]?=some c3:=hcs 3 _ _ rfl rfl;have e3:=e3.2;simp at e3;rw [e0,e1,e2,e3];rfl
 rw [e];exact ⟨bs,q4,u,ks,k1,q5⟩
theorem Ro:∀t:Ty,Ck t=true->Tq4 82 [.imm (.agg (dTyc t))] [] (.ret (.agg [.imm (.int .i64 (Cg t)),.imm (.int .i64 (num t)),.imm (.str (JY t)),.hv 1 0]) [(1,some (.hp (JO (Ft t))))])
 | .mk f n x ps,hw=>by
  have hl3:=I3 hw;simp only [Ft] at hl3;have IH:∀t∈ps,Tq4 82 [.imm (.agg (dTyc t))] [] (.ret (.agg [.imm (.int .i64 (Cg t)),.imm (.int .i64 (num t)),.imm (.str (JY t)),.hv 1 0]) [(1,some (.hp (JO (Ft t))))]):=λt ht=>Ro t (E3 hw t (by simpa [Ft] using ht));refine Ad ttY_ok func82 rfl [2,3,4,5,1,6,7,8]<|Ai rfl<|Aq [4] [] [(1,4)] rfl (bH (AA ps) (λc hc=>by rw [Dg] at hc;obtain ⟨p,_,rfl⟩:=C2.1 hc;simp) (by simp;omega)) trivial rfl rfl<|yg [] rfl (by simp <;> rfl)<|RI (ids':=[1,6,7,8]) 4 5 (λx:(Option Addr×Nat)×{ css:List (List Value) // css.length=(AA ps).length }=>[.slice x.1.1 ps.length x.1.2]) (λx=>F9 (.slice x.1.1 ps.length x.1.2) (Rz x.2.1 (AA ps))) rfl (λvs I w bs h=>?_) λy=>?_
  ·obtain ⟨v,css,h1,h2,h3⟩:=h;have hlen:(Rz css (AA ps)).length=ps.length:=by rw [J2 h1];simp
   obtain ⟨a,cap,e1,_⟩:=M6 h3;rw [hlen] at e1;subst e1;exact ⟨((a,cap),⟨css,h1⟩),h2,h3⟩
  obtain ⟨⟨ad,cap⟩,⟨css,hcss⟩⟩:=y;have hlen0:(Rz css (AA ps)).length=ps.length:=by rw [J2 hcss];simp
  have him0:∀(j:Nat) (p:Ty),ps[j]?=some p->∃cs,(Rz css (AA ps))[j]?=some (.im cs (dTyc p)):=λj p hp=>by
   have hlt:=(AL.1 hp).1;have hc:=Br (l:=css) (i:=j) (by rw [hcss];simpa using hlt);exact ⟨_,by rw [eY hcss,hc,AE hp]⟩
  refine As rfl<|Ak (λy:Nat×List Tr=>[(12,.imm (.int .i64 y.1)),(11,.imm (.int .i64 ps.length)),(10,.raw (.slice ad ps.length cap)),(1,.ref 2 0),(2,.ref 3 0)])
   (λy=>[(2,some (.cells 25 4 [.imm (.int .i64 f),.imm (.int .i64 n),.imm (.str x),.raw (.slice ad ps.length cap)])),(3,some (.cells 25 4 [.imm (.int .i64 0),.imm (.int .i64 0),.imm (.str []),.nils])),
    (5,some (.hp (F9 (.slice ad ps.length cap) y.2)))]) [1,6,7,8] (λy=>ps.length-y.1) (λy=>y.1<=ps.length/\y.2.length=ps.length/\(∀(j:Nat) a p,j<y.1->y.2[j]?=some a->ps[j]?=some p->X1 a p)/\(∀(j:Nat) p,y.1<=j->ps[j]?=some p->∃cs,y.2[j]?=some (.im cs (dTyc p)))) (0,Rz css (AA ps))
   ⟨AJ _,hlen0,λj a p h=>by omega,λj p _ hp=>him0 j p hp⟩ B6 AC rfl λy hi ih=>?_
  clear hlen0 him0;obtain ⟨i,gs⟩:=y;obtain ⟨hi1,hi2,hi3,hi4⟩:=hi;simp only at hi1 hi2 hi3 hi4;refine As rfl<|Ab rfl (λh=>?_) (λh=>?_)
  ·simp at h;obtain ⟨k,hk⟩:=Ao h;obtain ⟨cs,hgi⟩:=hi4 i k (BQ _) hk;refine J9 5 (λ_:{ b:Nat // ad=some ⟨b,0,none⟩ }=>F9 (.slice ad ps.length cap) gs) rfl (λvs I w bs h'=>?_) λz=>?_
   ·obtain ⟨a,cap',e1,e2⟩:=M6 h';simp only [Value.slice.injEq] at e1;obtain ⟨b,hb⟩:=e2 (by rw [hi2];omega);exact ⟨⟨b,by rw [e1.1,hb]⟩,h'⟩
   obtain ⟨b,rfl⟩:=z;have hC:=IH k (AF hk);obtain ⟨kf,kn,kx,kp⟩:=k;refine As rfl<|Nk ttY_ok rfl rfl (λ_=>⟨by simp,by simp;omega⟩) (by simp)<|Ai rfl<|fG ttY_ok 5 ((dTyc (.mk kf kn kx kp)).map .imm) rfl rfl (λ_ vs I w bs h'=>by have:=YX h' hgi;simpa [FD] using this) rfl rfl (by simp)<|Ai rfl<|A5 (fr:=[6]) [] [(1,6)] [] (nm:=[6]) rfl trivial (by simp) hC trivial rfl trivial rfl rfl rfl<|Ai rfl<|Nk ttY_ok rfl rfl (λ_=>⟨by simp,by simp;omega⟩) (by simp)<|Ai rfl<|Uj ttY_ok 5 6 7 (zby (.slice (some ⟨b,0,none⟩) ps.length cap) gs i kf kn kx kp) rfl rfl rfl (by decide) (by
    have e:0+((i:Int)).toNat*4=i*4:=by simp
    show N7 _ _ _ 6 b (0+((i:Int)).toNat*4) _;rw [e];exact QC hgi rfl) ?_
   refine yg [] rfl (by simp <;> rfl)<|J9 7 (λa:{ a:Tr // X1 a (.mk kf kn kx kp) }=>F9 (.slice (some ⟨b,0,none⟩) ps.length cap) (gs.set i a.1)) rfl (λvs I w bs h'=>?_) λz=>?_
   ·obtain ⟨u,ks,h1,h2⟩:=h';exact ⟨⟨.nd kf kn kx u ks,by simpa [X1] using h1⟩,h2⟩
   obtain ⟨a,ha⟩:=z;refine Bt 5 7 rfl<|Ac (ih (i+1,gs.set i a) (by simp only;omega) ⟨by simp only;omega,by simpa using hi2,λj a' p hj ha' hp=>?_,λj p hj hp=>?_⟩) ⟨BB (GR (by simp only;omega) (by simp only;omega)),Cb⟩ AC rfl
   ·simp only at hj ha';by_cases e:i=j
    ·subst e;rw [L9 (by omega)] at ha';cases ha';rw [hk] at hp;cases hp;exact ha
    ·rw [L8 e] at ha';exact hi3 j a' p (by omega) ha' hp
   ·simp only at hj ⊢;rw [L8 (by omega)];exact hi4 j p (by omega) hp
  ·simp at h;have hl:i=ps.length:=by omega
   have his:IT gs ps:=IS.2 ⟨hi2,λj a p ha hp=>hi3 j a p (by have:=(AL.1 hp).1;omega) ha hp⟩;exact Az rfl<|As rfl<|Ov 5 3 1 [.slice ad ps.length cap] (A:=JO ps) [.imm (.int .i64 f),.imm (.int .i64 n),.imm (.str x),.hv 1 0] rfl rfl (λus I w bs h=>⟨_,gs,his,rfl,h⟩) ⟨.inl rfl,.inl rfl,.inl rfl,.inr ⟨0,_,rfl,rfl,rfl⟩,trivial⟩<|Ah ⟨_,AC⟩
termination_by t=>SizeOf.sizeOf t
decreasing_by
 all_goals
  have:=Cj ht;simp_wf;omega
section
variable {k:List DI} {a:Act}
end
structure PMr where
 id:Nat
 kv:List (V×V)
 b:Nat
 es:Array MapEntry
 clock:Nat
 id':Nat
 ids':List Nat
 dst:Option Nat
 todo:List DI
def dR (tt:TT) (n:Nat) (env:Env) (st:St) (ids:List Nat) (todo:List DI):Option PMr :=
 match NU todo,ids with
 | some o,id'::ids'=>match o.guard,o.op with
  | none,.range t x=>match lk tt t,Eg env x with
   | some { sh:=.map _ _,.. },some (.mapr i)=>match lk st i,BM n o.dst,Bm todo ([i],[id']) with
    | some (some (.mapx kv b es clock)),true,some (_,_,todo')=>some ⟨i,kv,b,es,clock,id',ids',o.dst,todo'⟩
    | _,_,_=>none
   | _,_=>none
  | _,_=>none
 | _,_=>none
structure PMn where
 i:Nat
 kv:List (V×V)
 b:Nat
 b2:Nat
 es:Array MapEntry
 clock:Nat
 since:Nat
 seen:Array Nat
 c:Nat
 dst:Option Nat
 k:List DI
 all:List Oper
 rest:List Oper
def oT (n:Nat) (env:Env) (st:St) (m:Nat) (todo:List DI):Option PMn :=
 match todo with
 | .ops all (o::rest)::k=>match o.guard,o.op with
  | none,.next x false=>match Eg env x,BM n o.dst,lk st m with
   | some (.iter i),true,some (some (.mapx kv b es clock))=>match lk st i with
    | some (some (.miter b' since seen c))=>some ⟨i,kv,b,b',es,clock,since,seen,c,o.dst,k,all,rest⟩
    | _=>none
   | _,_,_=>none
  | _,_=>none
 | _=>none
structure PMe where
 i:Nat
 kv:List (V×V)
 b:Nat
 b2:Nat
 es:Array MapEntry
 clock:Nat
 seen:Array Nat
 c:Nat
 dst:Option Nat
 todo:List DI
def dS (n:Nat) (env:Env) (st:St) (m:Nat) (todo:List DI):Option PMe :=
 match NU todo with
 | some o=>match o.guard,o.op with
  | none,.entry x=>match Eg env x,BM n o.dst,lk st m with
   | some (.iter i),true,some (some (.mapx kv b es clock))=>match lk st i,Bm todo ([i,m],[]) with
    | some (some (.miter b' _ seen c)),some (_,_,todo')=>some ⟨i,kv,b,b',es,clock,seen,c,o.dst,todo'⟩
    | _,_=>none
   | _,_,_=>none
  | _,_=>none
 | none=>none
section
variable {k:List DI} {a:Act}
theorem xY {all rest:List Oper} (d:α->D) (wr:α->St) (hg:o.guard=none) (hnd:∀c,o.op ≠ .defer c) (hn:BM n o.dst=true) (hl:∀I μ a w,StRep I μ st ids w->DR I μ env a o.op->valX P ((execOp a.eval o).run P w) (λv w'=>∃x,∃I' μ',StRep I' μ' (wr x++st) ids w'/\RepD I' μ' v (d x)/\μ.le μ'/\Ext I μ st w I' μ' (wr x++st) w') (Lx (Lw Q) I μ st w)) (h:∀x,DGo P n F Q (.ops all rest::k) (BK o.dst (d x) env) (wr x++st) ids):DGo P n F Q (.ops all (o::rest)::k) env st ids:=by
 have hn:∀t,o.dst=some t->t<n:=λt ht=>by
  unfold BM at hn;rw [ht] at hn;simpa [HG] using hn
 intro b cs I μ a w items hd hc;obtain ⟨j,is,rfl,hr,hk⟩:=Iw hd;obtain ⟨hj,hr'⟩:=DW hr;have hon:JN (o.looksAt all.toArray) I μ env a:=λt _ d hl=>hc.env t d hl;have hlen:(o::rest).length=rest.length+1:=rfl;rw [hlen,OX];have hw:Region.wanted o (yielded all.toArray a.tmps)=true:=AH hg;refine FN hj hw hnd (valX.upon ((hl I μ a w hc.toStRep (Bj hon)).mono ?_ ?_))
 ·rintro v w2 ⟨x,I',μ',q1,q2,q4,q3⟩;obtain ⟨p1,p2,p3⟩:=Ij (n:=n) (w:=w2) (dst:=o.dst) (λt d hl=>(hc.env t d hl).mono q3.imm q4) hc.size hn q2;have:=h x b cs I' μ' (a.put o.dst v) w2 (.inRegion all.toArray (List.range' (j+1) rest.length)::is) ⟨⟨rfl,j+1,hr',rfl⟩,hk⟩
   {q1 with size:=p2,env:=by cases hdst:o.dst <;> simpa [BK,hdst] using p1,defers:=by rw [p3];exact hc.defers.ext q3 }
  rw [p3] at this;exact this.mono λe a' w'' hp=>hp.back (.of_le q4) q3
 ·rintro chain w2 ⟨v,x,I2,q1,q2,q3,q4,q5⟩;refine ⟨.panic x,[],[],[],I2,μ,⟨v,q1,q3⟩,q2,?_,.refl _ _,q5,.refl _ _⟩;exact KG q4 hc.size (hc.defers.ext q5)
theorem StRep.retellAt {st1:St} (hst:StRep I μ st ids w) (h:∀i b,A1 st1 i b->∃b0,A1 st i b0/\∀g,μ i=some g->BlkRep I μ w g b0->BlkRep I μ w g b):StRep I μ st1 ids w/\Ext I μ st w I μ st1 w:=by
 refine ⟨{ imm:=hst.imm,blk:=λi b hl=>?_,apart:=λi b g k hl hg hk=>?_,inj:=λi j bi bj gi gj k hi hj=>?_,nodup:=hst.nodup,idsFree:=hst.idsFree },?_⟩
 ·obtain ⟨b0,h1,h2⟩:=h i b hl;obtain ⟨g,hg,hr⟩:=hst.blk i b0 h1;exact ⟨g,hg,h2 g hg hr⟩
 ·obtain ⟨b0,h1,_⟩:=h i b hl;exact hst.apart i b0 g k h1 hg hk
 ·obtain ⟨b0,h1,_⟩:=h i bi hi;obtain ⟨b1,h2,_⟩:=h j bj hj;exact hst.inj i j b0 b1 gi gj k h1 h2
 ·exact { imm:=Imm.le_refl I,os:=rfl,tape:=rfl,output:=rfl,size:=BQ _,block:=λ_ _ _=>rfl,old:=λ_ _ _=>rfl
          fresh:=λb _ ⟨i,bi,g,h1,h2⟩=>let ⟨b0,q,_⟩:=h i bi h1;⟨i,b0,g,q,h2⟩ }
theorem IZ (id:Nat) {kv:List (V×V)} (hl:lk st id=some (some (.map kv)))
  (h:∀b es clock,es.size=kv.length->MapKept.Stamped es clock->DGo P n F Q todo env ((id,some (.mapx kv b es clock))::st) ids):DGo P n F Q todo env st ids:=by
 refine EY λI μ a w hc=>?_;obtain ⟨g,hg,b,es,clock,rfl,h2,h3,h4,h5⟩:=hc.blk id _ hl;obtain ⟨q1,q2⟩:=hc.toStRep.retellAt (st1:=(id,some (.mapx kv b es clock))::st) λi c hlc=>by
  rcases AB.1 hlc with ⟨rfl,rfl⟩ | ⟨_,h⟩
  ·exact ⟨_,hl,λg' hg' _=>by rw [hg] at hg';cases hg';exact ⟨rfl,h2,h3,h4,h5⟩⟩
  ·exact ⟨c,h,λ_ _ h=>h⟩
 exact ⟨I,μ,env,_,ids,q1,hc.env,q2,.refl _ _,h b es clock h3 h4⟩
theorem HR (id:Nat) {kv:List (V×V)} {b clock:Nat} (hl:lk st id=some (some (.mapx kv b es clock))) (h:DGo P n F Q todo env ((id,some (.map kv))::st) ids):DGo P n F Q todo env st ids:=by
 refine EY λI μ a w hc=>?_;obtain ⟨q1,q2⟩:=hc.toStRep.retellAt (st1:=(id,some (.map kv))::st) λi c hlc=>by
  rcases AB.1 hlc with ⟨rfl,rfl⟩ | ⟨_,h⟩
  ·exact ⟨_,hl,λg' hg' ⟨h1,h2,h3,h4,h5⟩=>⟨b,es,clock,h1,h2,h3,h4,h5⟩⟩
  ·exact ⟨c,h,λ_ _ h=>h⟩
 exact ⟨I,μ,env,_,ids,q1,hc.env,q2,.refl _ _,h⟩
theorem sP (htt:TTok P tt) {i0:Nat} {kv:List (V×V)} {b:Nat} {clock id0:Nat} {ids0:List Nat} {todo0:List DI} (h:dR tt n env st ids todo=some ⟨i0,kv,b,es,clock,id0,ids0,d0,todo0⟩) (hk:G P n F Q todo0 (BK d0 (.iter id0) env) ((id0,some (.miter b clock #[] clock))::st) ids0):G P n F Q todo env st ids:=by
 unfold dR at h
 split at h
 ·rename_i o id' ids' ho
  split at h
  ·rename_i t x hg hop
   split at h
   ·rename_i _ _ _ _ _ _ i ht hx
    split at h
    ·rename_i _ _ _ _ all o' todo' hl hd h1;cases h;have ho':o'=o:=Dk ho h1;subst ho';refine BF (fr:=[id0]) (wr:=[(id0,some (.miter b clock #[] clock))]) (rd:=[i0]) h1 ?_ hd (λc hc=>by rw [hop] at hc;cases hc) hk;intro I μ st1 ids1 a w hag hst hon;refine ⟨λ_=>?_,λhw=>by rw [AH hg] at hw;cases hw⟩;have hops:=Bj hon;rw [hop] at hops;have hl1:A1 st1 i0 (.mapx kv b es clock):=by unfold A1;rw [hag i0 (by simp)];exact hl
     obtain ⟨g,hgm,rfl,hheap,_⟩:=hst.blk i0 _ hl1;have hv:=hops x (by simp [Op.operands]) _ hx;have e1:a.eval x = .map (some b):=by
      generalize a.eval x=v at hv;cases hv with
      | mapr _ b' hm=>rw [hgm] at hm;cases hm;rfl
     have hu:=htt.sh ht;have hrun:(execOp a.eval o').run P w = .ok (.value (.pointer (some ⟨w.heap.size,0,none⟩))) (w.alloc (.mapIter (some b) clock #[] clock)):=by
      simp only [execOp,hop,e1];exact Ec (run_range_map w _ _ _ b es clock hu hheap)
     rw [hrun];obtain ⟨μ',q1,q2,q3,q4⟩:=hst.allocO (.mapIter (some b) clock #[] clock) (.pointer (some ⟨w.heap.size,0,none⟩)) (λ_ h=>Eq.symm h) (.miter b clock #[] clock) (λμ' _=>⟨w.heap.size,rfl,EC w _⟩);exact ⟨I,μ',q3,.iter _ _ q1,q2,q4⟩
    ·cases h
   ·cases h
  ·cases h
 ·cases h
theorem StRep.drew (hst:StRep I μ st ids w):StRep I μ st ids w.drew :=
 {imm:=hst.imm,blk:=λi b h=>let ⟨g,h1,h2⟩:=hst.blk i b h;⟨g,h1,h2.world λ_ _=>rfl⟩,apart:=hst.apart,inj:=hst.inj,nodup:=hst.nodup,idsFree:=hst.idsFree }
def uO (es:Array MapEntry) (seen:Array Nat):Option (Nat×MapEntry)->Prop
 | none=>(leftOf es seen).size=0
 | some (j,e)=>es[j]?=some e/\e∈(leftOf es seen).toList
def WW (kv:List (V×V)):Option (Nat×MapEntry)->D
 | none=>.imm (.tup [.bool false])
 | some (j,_)=>match kv[j]? with
  | some p=>.imm (.tup [.bool true,p.1,p.2])
  | none=>.undef
def zN (i b since:Nat) (seen:Array Nat) (clock:Nat):Option (Nat×MapEntry)->St
 | none=>[]
 | some (_,e)=>[(i,some (.miter b since (seen.push e.born) clock))]
theorem xG (m:Nat) {kv:List (V×V)} {b:Nat} {clock since:Nat} {seen:Array Nat} {k0:List DI} {all rest:List Oper} (h:oT n env st m todo=some ⟨i,kv,b,b0,es,clock,since,seen,c,d0,k0,all,rest⟩) (hbb:b0=b) (hold:∀x∈es.toList,x.born<since) (hsc:since<=c) (hne:i≠m) (hk:∀x,uO es seen x->DGo P n F Q (.ops all rest::k0) (BK d0 (WW kv x) env) (zN i b since seen clock x++st) ids):DGo P n F Q todo env st ids:=by
 unfold oT at h
 split at h
 ·rename_i all' o rest' k'
  split at h
  ·rename_i x hg hop
   split at h
   ·rename_i i' kv' b1 es' clock' hx hd hm
    split at h
    ·rename_i b2 since' seen' c' hi
     ·cases h;subst hbb;refine xY (α:={ x:Option (Nat×MapEntry) // uO es seen x }) (λx=>WW kv x.1) (λx=>zN i b0 since seen clock x.1) hg (λc hc=>by rw [hop] at hc;cases hc) hd (λI μ a w hst hops=>?_) λx=>hk x.1 x.2;rw [hop] at hops;obtain ⟨gm,hgm,rfl,hheap,hlen,hst2,hent⟩:=hst.blk m _ hm;obtain ⟨gi,hgi,r,rfl,hheapi⟩:=hst.blk i _ hi;obtain ⟨r',_,hmi⟩:=(hops x (by simp [Op.operands]) _ hx).iterInv;rw [hgi] at hmi;have e1:a.eval x = .pointer (some ⟨r,0,none⟩):=(OZ hmi).symm;have hex:∀v w',(Instr.next (.pointer (some ⟨r,0,none⟩)) false o.type).run P w = .ok v w'->(execOp a.eval o).run P w = .ok (.value v) w':=λv w' hr=>by
       simp only [execOp,hop,e1];exact Ec hr
      rcases run_next_at w o.type r b0 since c seen es clock hheapi hheap hold hsc with ⟨h0,hr⟩ | ⟨e,he,w1,hw1,hr⟩
      ·rw [hex _ _ hr];refine ⟨⟨none,h0⟩,I,μ,hst,.imm _ _ (.tup _ _ rfl λi c x hc hx=>?_),Mu.le_refl μ,Ext.refl _ _ _ _⟩
       match i,hc,hx with
       | 0,hc,hx=>cases hc;cases hx;exact .bool _
       | i+1,hc,hx=>simp at hx
      ·rw [hex _ _ hr];obtain ⟨he1,_⟩:=mem_left he;obtain ⟨j,hj⟩:=IN he1;have hj':es[j]?=some e:=by simpa using hj
       obtain ⟨p,hp⟩:∃p,kv[j]?=some p:=⟨_,Br (by rw [<- hlen];exact (GY.1 hj').1)⟩
       obtain ⟨k1,k2⟩:=hent j e p hj' hp;have hst1:StRep I μ st ids w1/\Ext I μ st w I μ st w1:=by
        rcases hw1 with rfl | rfl
        ·exact ⟨hst,Ext.refl _ _ _ _⟩
        ·exact ⟨hst.drew,Ext.drew I μ st w⟩
       have hheap1:w1.heap[r]?=some (.mapIter (some b0) since seen c):=by rcases hw1 with rfl | rfl <;> exact hheapi
       have hbl:=Cc hheap1;obtain ⟨q1,q2⟩:=hst1.1.update (blk':=.miter b0 since (seen.push e.born) clock) (w':=ChangeMaps.setBlock w1 r (.mapIter (some b0) since (seen.push e.born) clock)) hi hgi rfl (by simp [ChangeMaps.setBlock]) rfl rfl rfl
        (λk hk=>Gj (Ne.symm hk)) ⟨r,rfl,by simp [ChangeMaps.setBlock,hbl]⟩
       refine ⟨⟨some (j,e),hj',he⟩,I,μ,q1,?_,Mu.le_refl μ,hst1.2.trans q2⟩;simp only [WW,hp];refine .imm _ _ (.tup _ _ rfl λi c x hc hx=>?_)
       match i,hc,hx with
       | 0,hc,hx=>cases hc;cases hx;exact .bool _
       | 1,hc,hx=>cases hc;cases hx;exact k1
       | 2,hc,hx=>cases hc;cases hx;exact k2
       | i+3,hc,hx=>simp at hx
    ·cases h
   ·cases h
  ·cases h
 ·cases h
theorem sQ (m:Nat) {kv:List (V×V)} {seen0:Array Nat} {todo0:List DI} {seen:Array Nat} {p:V×V} {b clock:Nat} (h:dS n env st m todo=some ⟨i,kv,b,b0,es,clock,seen0,c,d0,todo0⟩) (hbb:b0=b) (hcc:c=clock) (hs:seen0=seen.push e.born) (hj:es[j]?=some e) (hp:kv[j]?=some p) (hk:G P n F Q todo0 (BK d0 (.imm (.tup [p.1,p.2])) env) st ids):G P n F Q todo env st ids:=by
 unfold dS at h
 split at h
 ·rename_i o ho
  split at h
  ·rename_i x hg hop
   split at h
   ·rename_i i' kv' b1 es' clock' hx hd hm
    split at h
    ·rename_i b2 since' seen' c' all o' todo' hi h1
     ·cases h;subst hbb;subst hcc;subst hs;have ho':o'=o:=Dk ho h1;subst ho';refine BF (fr:=[]) (wr:=[]) (rd:=[i,m]) h1 ?_ hd (λc hc=>by rw [hop] at hc;cases hc) hk;intro I μ st1 ids1 a w hag hst hon;refine ⟨λ_=>?_,λhw=>by rw [AH hg] at hw;cases hw⟩;have hops:=Bj hon;rw [hop] at hops;have hm1:A1 st1 m (.mapx kv b0 es c):=by unfold A1;rw [hag m (by simp)];exact hm
      have hi1:A1 st1 i (.miter b0 since' (seen.push e.born) c):=by unfold A1;rw [hag i (by simp)];exact hi
      obtain ⟨gm,hgm,rfl,hheap,hlen,hst2,hent⟩:=hst.blk m _ hm1;obtain ⟨gi,hgi,r,rfl,hheapi⟩:=hst.blk i _ hi1;obtain ⟨r',_,hmi⟩:=(hops x (by simp [Op.operands]) _ hx).iterInv;rw [hgi] at hmi;have e1:a.eval x = .pointer (some ⟨r,0,none⟩):=(OZ hmi).symm;have he:e∈es.toList:=AF (by simpa using hj:es.toList[j]?=some e);have hrun:(execOp a.eval o').run P w = .ok (.value (.tuple #[e.key,e.val])) w:=by
       simp only [execOp,hop,e1];exact Ec (run_entry_at w r b0 since' seen es c e hheapi hheap he hst2.2.1)
      rw [hrun];obtain ⟨k1,k2⟩:=hent j e p hj hp;refine ⟨I,μ,hst,.imm _ _ (.tup _ _ rfl λi c x hc hx=>?_),Mu.le_refl μ,Ext.refl _ _ _ _⟩
      match i,hc,hx with
      | 0,hc,hx=>cases hc;cases hx;exact k1
      | 1,hc,hx=>cases hc;cases hx;exact k2
      | i+2,hc,hx=>simp at hx
    ·cases h
   ·cases h
  ·cases h
 ·cases h
end
structure PMt where
 id:Nat
 kv:List (V×V)
 b:Nat
 es:Array MapEntry
 clock:Nat
 kind:IntKind
 key:Int
 et:TypeId
 dst:Option Nat
 todo:List DI
def dT (tt:TT) (n:Nat) (env:Env) (st:St) (todo:List DI):Option PMt :=
 match NU todo with
 | some o=>match o.guard,o.op with
  | none,.mapEntry t m k=>match lk tt t,Eg env m,Eg env k with
   | some { sh:=.map kt et,.. },some (.mapr id),some (.imm (.int ik i))=>match lk tt kt,lk st id,Bm todo ([id],[id]),BM n o.dst with
    | some { sh:=.int ik',.. },some (some (.mapx kv b es clock)),some (_,_,todo'),true=>bif decide (ik'=ik) then some ⟨id,kv,b,es,clock,ik,i,et,o.dst,todo'⟩ else none
    | _,_,_,_=>none
   | _,_,_=>none
  | _,_=>none
 | none=>none
structure PMu where
 id:Nat
 kv:List (V×V)
 b:Nat
 es:Array MapEntry
 clock:Nat
 stamp:Int
 x:V
 todo:List DI
def zG (env:Env) (st:St) (todo:List DI):Option PMu :=
 match NU todo with
 | some o=>match o.guard,o.op,o.dst with
  | none,.entryStore _ m s x,none=>match Eg env m,Eg env s,Eg env x with
   | some (.mapr id),some (.imm (.int _ i)),some (.imm vx)=>match lk st id,Bm todo ([id],[id]) with
    | some (some (.mapx kv b es clock)),some (_,_,todo')=>some ⟨id,kv,b,es,clock,i,vx,todo'⟩
    | _,_=>none
   | _,_,_=>none
  | _,_,_=>none
 | none=>none
def O7:V->Value
 | .int k i=>.int k i
 | .bool b=>.bool b
 | _=>undef
def zau:V->Bool
 | .int _ _=>true
 | .bool _=>true
 | _=>false
theorem gP {x:V} (h:zau x=true):RepV I (O7 x) x:=by
 cases x <;> first | exact .int _ _ | exact .bool _ | cases h
theorem mR {x:V} (h:zau x=true) (hv:RepV I v x):v=O7 x:=by
 cases x <;> first | (cases h;done) | (cases hv;rfl)
section
variable {k:List DI} {a:Act}
theorem lD {l:List MapEntry} (hn:(l.map (·.born)).Nodup) {e0:MapEntry} (h:l[j]?=some e0):l.findIdx? (λe=>((e.born:Nat):Int) == ((e0.born:Nat):Int))=some j:=by
 induction l generalizing j with
 | nil=>simp at h
 | cons a r ih =>
  simp only [C6,L6] at hn;cases j with
  | zero =>
   simp only [zS,Ce] at h;subst h;simp [List.findIdx?_cons]
  | succ j =>
   simp only [ZW] at h;have hne:a.born≠e0.born:=λe1=>hn.1 (C2.2 ⟨e0,AF h,e1.symm⟩);have hb:(((a.born:Nat):Int) == ((e0.born:Nat):Int))=false:=by
    simp only [beq_eq_false_iff_ne,ne_eq,Int.natCast_inj];exact hne
   rw [List.findIdx?_cons,hb];simp [ih hn.2 h]
theorem sV (xs:Array MapEntry) (p:MapEntry->Bool):xs.findIdx? p=xs.toList.findIdx? p:=by
 cases xs;simp
theorem kS {h:Array Obj} {b:Nat} {o:Obj} (hb:h[b]?=some o):h.setIfInBounds b o=h:=by
 apply ZI;intro i;by_cases e:b=i
 ·subst e;have hlt:=(GY.1 hb).1;rw [qL hlt,hb]
 ·rw [Gj e]
theorem fH (htt:TTok P tt) (j:Nat) {c:PMt} {p:V×V} (h:dT tt n env st todo=some c) (hkv:∀p∈c.kv,Hs (.int c.kind) p.1=true) (hj:c.es[j]?=some e) (hp:c.kv[j]?=some p) (hpk:p.1 = .int c.kind c.key) (hg:G P n F Q c.todo (BK c.dst (.imm (.tup [p.2,.int .i64 e.born])) env) ((c.id,some (.mapx c.kv c.b c.es c.clock))::st) ids):G P n F Q todo env st ids:=by
 unfold dT at h
 split at h
 ·rename_i o ho
  split at h
  ·rename_i t m x hgd hop
   split at h
   ·rename_i kt et _ _ _ _ id ik i ht hm hx
    split at h
    ·rename_i ik' _ _ _ _ kv b es clock all o' todo' hi hl h1 hdo;cases hik:decide (ik'=ik) with
     | false=>rw [hik] at h;cases h
     | true =>
     rw [hik] at h;simp only [cond_true,Ce] at h;have hik:=of_decide_eq_true hik;subst hik;subst h;simp only at hkv hj hp hpk hg;have ho':o'=o:=Dk ho h1;subst ho';refine BF (fr:=[]) (wr:=[(id,some (.mapx kv b es clock))]) (rd:=[id]) h1 ?_ hdo (λc hc=>by rw [hop] at hc;cases hc) hg;intro I μ st1 ids1 a w hag hst hon;refine ⟨λ_=>?_,λhw=>by rw [AH hgd] at hw;cases hw⟩;have hops:=Bj hon;rw [hop] at hops;have hl1:A1 st1 id (.mapx kv b es clock):=by unfold A1;rw [hag id (by simp)];exact hl
     obtain ⟨g,hmu,rfl,hheap,hlen,hst2,hent⟩:=hst.blk id _ hl1;have e1:a.eval m = .map (some b):=by
      have:=hops m (by simp [Op.operands]) _ hm;generalize a.eval m=v at this;cases this with
      | mapr _ b' hmm=>rw [hmm] at hmu;exact OZ hmu
     have rx:=(hops x (by simp [Op.operands]) _ hx).immInv;have ex:=rx.intInv;have hu:P.underlying t=some (.map kt et):=htt.sh ht;have hd:JA (.int ik')=some (.int ik'):=rfl;have hkd:P.underlying kt=some (.int ik'):=Ll hd (htt.sh hi);have hkx:Hs (.int ik') (.int ik' i)=true:=by simp [Hs]
     have hiky:=H4 hd hkx rx;rcases K6 (I:=I) hd hkx rx es.toList kv 0 (by simpa using hlen) (λj e p h1 h2=>hent j e p (by simpa using h1) h2) hkv with ⟨q1,_,q3,q4⟩ | ⟨j',e',y',q1,q2,q3,_,q5,q6⟩
     ·exfalso;have hk1:=(hent j e p hj hp).1;rw [hpk] at hk1;exact q4 e (by simpa using AF (by simpa using hj:es.toList[j]?=some e)) (by rw [hk1.intInv,ex])
     ·have hj':es[j']?=some e':=by simpa using q2
      have ejj:j'=j:=by
       have hk1:=(hent j e p hj hp).1;rw [hpk] at hk1;have hkk:e.key=e'.key:=by rw [hk1.intInv,q3,ex]
       have hnd:=hst2.2.2;have h1':(es.toList.map (·.key))[j]?=some e.key:=by rw [Ep];simp [hj]
       have h2':(es.toList.map (·.key))[j']?=some e'.key:=by rw [Ep];simp [hj']
       have l1:=(AL.1 h1')
       have l2:=(AL.1 h2')
       obtain ⟨l1,g1⟩:=l1;obtain ⟨l2,g2⟩:=l2;exact (List.getElem?_inj l2 hnd).1 (by rw [h1',h2',hkk])
      subst ejj;rw [hj'] at hj;cases hj;have hsame:es.modify j' (λe=>{ e with key:=a.eval x })=es:=by
       apply ZI;intro i';rw [Vn];by_cases e2:j'=i'
       ·subst e2;rw [if_pos rfl,hj'];simp [<- q3]
       ·rw [if_neg e2]
      have hrun:(execOp a.eval o').run P w = .ok (.value (.tuple #[e.val,goInt e.born])) w:=by
       simp only [execOp,hop,e1];refine Ec ?_;simp [Instr.mapEntry,run_underlying hu,MapKept.run_getObj_map hheap,MapKept.run_checkKey hkd hiky,MapKept.run_findKey hkd q1,hj',q3,MapKept.run_keyThatStays hiky,MapKept.run_setObj_map _ hheap,Result.andThen,hsame,kS hheap]
      rw [hrun];obtain ⟨r1,r2⟩:=hst.update (blk':=.mapx kv b es clock) (w':=w) hl1 hmu rfl (by simp) rfl rfl rfl (λk hk=>rfl) ⟨rfl,hheap,hlen,hst2,hent⟩;have hv:=(hent j' e p hj' hp).2;refine ⟨I,μ,r1,.imm _ _ (.tup _ _ rfl λi c x hc hx=>?_),Mu.le_refl μ,r2⟩
      match i,hc,hx with
      | 0,hc,hx=>cases hc;cases hx;exact hv
      | 1,hc,hx=>cases hc;cases hx;exact .int _ _
      | i+2,hc,hx=>simp at hx
    ·cases h
   ·cases h
  ·cases h
 ·cases h
theorem fI (htt:TTok P tt) {c:PMt} {z:Value} {zd:V} (h:dT tt n env st todo=some c) (hkv:∀p∈c.kv,Hs (.int c.kind) p.1=true) (hno:GH c.kv (.int c.kind c.key)=none) (hz:(P.info? c.et).bind (·.zero)=some z) (hzr:∀I,RepV I z zd)
  (hg:G P n F Q c.todo (BK c.dst (.imm (.tup [zd,.int .i64 c.clock])) env) ((c.id,some (.mapx (c.kv++[(.int c.kind c.key,zd)]) c.b (c.es.push ⟨.int c.kind c.key,z,c.clock⟩) (c.clock+1)))::st) ids):G P n F Q todo env st ids:=by
 unfold dT at h
 split at h
 ·rename_i o ho
  split at h
  ·rename_i t m x hgd hop
   split at h
   ·rename_i kt et _ _ _ _ id ik i ht hm hx
    split at h
    ·rename_i ik' _ _ _ _ kv b es clock all o' todo' hi hl h1 hdo;cases hik:decide (ik'=ik) with
     | false=>rw [hik] at h;cases h
     | true =>
     rw [hik] at h;simp only [cond_true,Ce] at h;have hik:=of_decide_eq_true hik;subst hik;subst h;simp only at hkv hno hz hg;have ho':o'=o:=Dk ho h1;subst ho';refine BF (fr:=[]) (wr:=[(id,some (.mapx (kv++[(.int ik' i,zd)]) b (es.push ⟨.int ik' i,z,clock⟩) (clock+1)))]) (rd:=[id]) h1 ?_ hdo (λc hc=>by rw [hop] at hc;cases hc) hg;intro I μ st1 ids1 a w hag hst hon;refine ⟨λ_=>?_,λhw=>by rw [AH hgd] at hw;cases hw⟩;have hops:=Bj hon;rw [hop] at hops;have hl1:A1 st1 id (.mapx kv b es clock):=by unfold A1;rw [hag id (by simp)];exact hl
     obtain ⟨g,hmu,rfl,hheap,hlen,hst2,hent⟩:=hst.blk id _ hl1;have e1:a.eval m = .map (some b):=by
      have:=hops m (by simp [Op.operands]) _ hm;generalize a.eval m=v at this;cases this with
      | mapr _ b' hmm=>rw [hmm] at hmu;exact OZ hmu
     have rx:=(hops x (by simp [Op.operands]) _ hx).immInv;have ex:=rx.intInv;have hu:P.underlying t=some (.map kt et):=htt.sh ht;have hd:JA (.int ik')=some (.int ik'):=rfl;have hkd:P.underlying kt=some (.int ik'):=Ll hd (htt.sh hi);have hkx:Hs (.int ik') (.int ik' i)=true:=by simp [Hs]
     have hiky:=H4 hd hkx rx;rcases K6 (I:=I) hd hkx rx es.toList kv 0 (by simpa using hlen) (λj e p h1 h2=>hent j e p (by simpa using h1) h2) hkv with ⟨q1,_,q3,q4⟩ | ⟨j',e',y',q1,q2,q3,q5,_,q6⟩
     ·rw [ex] at q1 q4 hiky;have hrun:(execOp a.eval o').run P w = .ok (.value (.tuple #[z,goInt clock])) { w with heap:=w.heap.setIfInBounds b (.map (es.push ⟨.int ik' i,z,clock⟩) (clock+1)) }:=by
       simp only [execOp,hop,e1,ex];refine Ec ?_;simp [Instr.mapEntry,run_underlying hu,MapKept.run_getObj_map hheap,MapKept.run_checkKey hkd hiky,MapKept.run_findKey hkd q1,ET hz,MapKept.run_setObj_map _ hheap,Result.andThen]
      rw [hrun];have hbl:=Cc hheap;obtain ⟨r1,r2⟩:=hst.update (blk':=.mapx (kv++[(.int ik' i,zd)]) b (es.push ⟨.int ik' i,z,clock⟩) (clock+1)) (w':={ w with heap:=w.heap.setIfInBounds b (.map (es.push ⟨.int ik' i,z,clock⟩) (clock+1)) }) hl1 hmu rfl (by simp) rfl rfl rfl (λk hk=>Gj (Ne.symm hk))
       ⟨rfl,by simp [hbl],by simp [hlen],stamped_push hst2 (key:=.int ik' i) (val:=z) q4,λi' e p h1 h2=>by
        rw [Ra] at h1;rw [Mg] at h2;by_cases hi:i'=es.size
        ·rw [if_pos hi] at h1;cases h1;rw [if_neg (by omega)] at h2;rw [show i'-kv.length=0 by omega] at h2;cases h2;exact ⟨.int _ _,hzr I⟩
        ·rw [if_neg hi] at h1;have:=(GY.1 h1).1;rw [if_pos (by omega)] at h2;exact hent i' e p h1 h2⟩
      refine ⟨I,μ,r1,.imm _ _ (.tup _ _ rfl λi c x hc hx=>?_),Mu.le_refl μ,r2⟩
      match i,hc,hx with
      | 0,hc,hx=>cases hc;cases hx;exact hzr I
      | 1,hc,hx=>cases hc;cases hx;exact .int _ _
      | i+2,hc,hx=>simp at hx
     ·rw [q5] at hno;cases hno
    ·cases h
   ·cases h
  ·cases h
 ·cases h
theorem VA (j:Nat) {c:PMu} {p:V×V} (h:zG env st todo=some c) (hs:zau c.x=true) (hj:c.es[j]?=some e) (hb:(e.born:Int)=c.stamp) (hp:c.kv[j]?=some p) (hg:G P n F Q c.todo env ((c.id,some (.mapx (c.kv.set j (p.1,c.x)) c.b (c.es.modify j λe=>{ e with val:=O7 c.x }) c.clock))::st) ids):G P n F Q todo env st ids:=by
 unfold zG at h
 split at h
 ·rename_i o ho
  split at h
  ·rename_i t m s x hgd hop hdst
   split at h
   ·rename_i id ik i vx hm hsm hx
    split at h
    ·rename_i kv b es clock all o' todo' hl h1;cases h;simp only at hs hj hb hp hg;have ho':o'=o:=Dk ho h1;subst ho';have hg:G P n F Q todo' (BK o'.dst .undef env) ((id,some (.mapx (kv.set j (p.1,vx)) b (es.modify j λe=>{ e with val:=O7 vx }) clock))::st) ids:=by rw [hdst];exact hg
     refine BF (fr:=[]) (wr:=[(id,some (.mapx (kv.set j (p.1,vx)) b (es.modify j λe=>{ e with val:=O7 vx }) clock))]) (rd:=[id]) h1 ?_ (by simp [BM,hdst]) (λc hc=>by rw [hop] at hc;cases hc) hg;intro I μ st1 ids1 a w hag hst hon;refine ⟨λ_=>?_,λhw=>by rw [AH hgd] at hw;cases hw⟩;have hops:=Bj hon;rw [hop] at hops;have hl1:A1 st1 id (.mapx kv b es clock):=by unfold A1;rw [hag id (by simp)];exact hl
     obtain ⟨g,hmu,rfl,hheap,hlen,hst2,hent⟩:=hst.blk id _ hl1;have e1:a.eval m = .map (some b):=by
      have:=hops m (by simp [Op.operands]) _ hm;generalize a.eval m=v at this;cases this with
      | mapr _ b' hmm=>rw [hmm] at hmu;exact OZ hmu
     have es':=(hops s (by simp [Op.operands]) _ hsm).immInv.intInv;have ex:=mR hs (hops x (by simp [Op.operands]) _ hx).immInv;have hidx:es.findIdx? (λe=>((e.born:Nat):Int) == i)=some j:=by
      rw [sV,<- hb];exact lD hst2.2.1 (by simpa using hj)
     have hbl:=Cc hheap;have hrun:(execOp a.eval o').run P w = .ok .skip { w with heap:=w.heap.setIfInBounds b (.map (es.modify j λe=>{ e with val:=O7 vx }) clock) }:=by
      simp only [execOp,hop,e1,ex,es'];simp [Instr.entryStore,MapKept.run_getObj_map hheap,asInt,asIntOf,hidx,MapKept.run_setObj_map _ hheap,Result.andThen]
     rw [hrun];obtain ⟨r1,r2⟩:=hst.update (blk':=.mapx (kv.set j (p.1,vx)) b (es.modify j λe=>{ e with val:=O7 vx }) clock) (w':={ w with heap:=w.heap.setIfInBounds b (.map (es.modify j λe=>{ e with val:=O7 vx }) clock) }) hl1 hmu rfl (by simp) rfl rfl rfl (λk hk=>Gj (Ne.symm hk))
      ⟨rfl,by simp [hbl],by simp [hlen],stamped_modify hst2 _ _ (λ_ _=>rfl) (λe' _ he'=>rfl),λi' e' p' h1 h2=>by
       rw [Vn] at h1;rw [Vl] at h2;by_cases hi:j=i'
       ·subst hi;rw [if_pos rfl,hj] at h1;cases h1;rw [if_pos rfl] at h2
        split at h2
        ·cases h2;exact ⟨(hent j e p hj hp).1,gP hs⟩
        ·cases h2
       ·rw [if_neg hi] at h1 h2;exact hent i' e' p' h1 h2⟩
     exact ⟨I,μ,r1,.undef _,Mu.le_refl μ,r2⟩
    ·cases h
   ·cases h
  ·cases h
 ·cases h
end
noncomputable def tkL (stay l:List Int):List Int:=stay++(List.range l.length).map λk=>(E7 stay k:Int)
noncomputable def byM (stay l:List Int):List (V×V):=l.zipIdx.map λp=>(.int .i64 p.1,.int .i64 (E7 stay p.2))
theorem Yy (stay l:List Int):∀p∈byM stay l,Hs (.int .i64) p.1=true:=λp hp=>by
 obtain ⟨q,_,rfl⟩:=C2.1 hp;rfl
theorem yC (stay l:List Int):(byM stay l).length=l.length:=by simp [byM]
theorem tU (stay l:List Int) (h:Int):byM stay (l++[h])=byM stay l++[(.int .i64 h,.int .i64 (E7 stay l.length))]:=by
 simp [byM,List.zipIdx_append]
theorem nE (stay l:List Int) (h:Int):tkL stay (l++[h])=tkL stay l++[(E7 stay l.length:Int)]:=by
 simp [tkL,Rb]
theorem Yz {stay:List Int} (h:Int):∀(l:List Int) (k:Nat),GH ((l.zipIdx k).map λp=>((.int .i64 p.1,.int .i64 (E7 stay p.2)):V×V)) (.int .i64 h)=if h∈l then some (.int .i64 (E7 stay (k+l.idxOf h))) else none
 | [],_=>rfl
 | x::r,k=>by
  have ih:=Yz (stay:=stay) h r (k+1);simp only [qG,C6,GH,Lg];by_cases e:x=h
  ·subst e;simp
  ·have e':¬h=x:=λh=>e h.symm;have ed:decide (x=h)=false:=decide_eq_false e;rw [ed];simp only [DK,if_false,ih,Cy,e',false_or];by_cases hm:h∈r
   ·rw [if_pos hm,if_pos hm,show (x::r).idxOf h=r.idxOf h+1 by rw [List.idxOf_cons,show (x == h)=false by simpa using e];rfl,show k+1+r.idxOf h=k+(r.idxOf h+1) by omega]
   ·rw [if_neg hm,if_neg hm]
theorem Yx {stay l:List Int}:GH (byM stay l) (.int .i64 h)=if h∈l then some (.int .i64 (E7 stay (l.idxOf h))) else none:=by
 rw [byM,Yz h l 0,Dh]
theorem yD {stay l:List Int} (hm:h∈l):(byM stay l)[l.idxOf h]?=some (.int .i64 h,.int .i64 (E7 stay (l.idxOf h))):=by
 have hlt:=Z8.2 hm;have hg:l[l.idxOf h]?=some h:=by rw [Br hlt,List.getElem_idxOf]
 simp [byM,Ep,List.getElem?_zipIdx,hg]
theorem nO {l:List Int} (hm:h∈l):(DT l)[l.idxOf h]?=some (.int .i64 h,.bool true):=by
 have hlt:=Z8.2 hm;have hg:l[l.idxOf h]?=some h:=by rw [Br hlt,List.getElem_idxOf]
 simp [DT,hg]
theorem Q3 {α:Type}:∀{l:List α} {j:Nat} {a:α},l[j]?=some a->l.set j a=l
 | [],_,_,h=>by simp at h
 | b::r,0,a,h=>by simp at h;subst h;rfl
 | b::r,j+1,a,h=>by simp at h;simp [Q3 h]
theorem zam {stay l:List Int} (hj:j<=E7 stay l.length):(j:Int)∈tkL stay l↔j<E7 stay l.length:=by
 obtain ⟨h1,h2⟩:=MK stay l.length;constructor
 ·intro h;rcases Nat.lt_or_ge j (E7 stay l.length) with hl | hl
  ·exact hl
  ·exfalso;have e:j=E7 stay l.length:=by omega
   rw [tkL,BN] at h;rcases h with h | h
   ·rw [e] at h;exact h1 h
   ·obtain ⟨i,hi,he⟩:=C2.1 h;have hi:=TO.1 hi;have he:E7 stay i=E7 stay l.length:=by omega
    have:=(MK stay i).2;rw [he,h2] at this;omega
 ·intro hl;rw [tkL,BN];by_cases hs:(j:Int)∈stay
  ·exact .inl hs
  ·right;have hc:=Ln (stay:=stay) (show j+1<=E7 stay l.length from hl);rw [Dl,if_neg hs,h2] at hc;refine C2.2 ⟨HX stay j,TO.2 (by omega),?_⟩;have:NthF stay (HX stay j) j:=⟨hs,rfl⟩
   have:=this.unique (MK stay (HX stay j));omega
theorem wB {stay l:List Int} {k:Nat} (h:k<l.length):(E7 stay k:Int)∈tkL stay l:=by
 rw [tkL,BN];exact .inr (C2.2 ⟨k,TO.2 h,rfl⟩)
mutual
noncomputable def F5 (stay L:List Int):Ty->Ty
 | .mk f n x ps=>.mk (if f=10 then 9 else f) (if f=9 then E7 stay (L.idxOf n) else n) x (GG stay L ps)
noncomputable def GG (stay L:List Int):List Ty->List Ty
 | []=>[]
 | t::r=>F5 stay L t::GG stay L r
end
theorem QT (stay L:List Int):∀l:List Ty,GG stay L l=l.map (F5 stay L)
 | []=>rfl
 | t::r=>by simp [GG,QT stay L r]
mutual
theorem sL:∀(t:Ty) (l:List Int),∃r,Df t l=l++r
 | .mk f n x ps,l=>by
  simp only [Df]
  split
  ·split
   ·exact ⟨[],by simp⟩
   ·exact ⟨[n],rfl⟩
  ·exact Ok ps l
theorem Ok:∀(ts:List Ty) (l:List Int),∃r,Cn ts l=l++r
 | [],l=>⟨[],by simp [Cn]⟩
 | t::r,l=>by
  obtain ⟨a,e1⟩:=sL t l;obtain ⟨b,e2⟩:=Ok r (Df t l);exact ⟨a++b,by rw [Cn,e2,e1,CF]⟩
end
theorem J4:∀(a b:List Ty) (l:List Int),Cn (a++b) l=Cn b (Cn a l)
 | [],_,_=>rfl
 | t::r,b,l=>by simp only [De,Cn];exact J4 r b _
mutual
theorem TM {stay:List Int}:∀(t:Ty) {L r:List Int},(∀h∈CL t,h∈L)->Ck t=true->F5 stay (L++r) t=F5 stay L t
 | .mk f n x ps,L,r,h,hw=>by
  have hwp:∀p∈ps,Ck p=true:=λp hp=>E3 hw p (by simpa [Ft] using hp);by_cases h9:f=9
  ·subst h9;have hn:n∈L:=h n (by simp [CL]);have e:=DZ hw rfl;simp only [Aw,num,Ty.mk.injEq] at e;obtain ⟨_,_,rfl,rfl⟩:=e;simp only [F5,GG,if_true];rw [List.idxOf_append,if_pos hn]
  ·simp only [F5,if_neg h9];congr 1;exact QS ps (λp hp m hm=>h m (by simp only [CL,if_neg h9];exact MQ.2 ⟨p,hp,hm⟩)) hwp
theorem QS {stay:List Int}:∀(ts:List Ty) {L r:List Int},(∀t∈ts,∀h∈CL t,h∈L)->(∀t∈ts,Ck t=true)->GG stay (L++r) ts=GG stay L ts
 | [],_,_,_,_=>rfl
 | t::q,L,r,h,hw=>by
  simp only [GG];rw [TM t (h t (by simp)) (hw t (by simp)),QS q (λp hp=>h p (by simp [hp])) (λp hp=>hw p (by simp [hp]))]
end
noncomputable def nbS (stay l:List Int):St:=[(1,some (.cells 123 2 [.mapr 2,.mapr 3])),(2,some (.map (DT (tkL stay l)))),(3,some (.map (byM stay l)))]
def ndD (f n:Int) (x:Str) (a:Nat):D:=.agg [.imm (.int .i64 f),.imm (.int .i64 n),.imm (.str x),.hv a 0]
def lZ (stay l:List Int) (t:Ty):Prop :=
 Tq4 81 [.ref 1 0,ndD (Cg t) (num t) (JY t) 4] (nbS stay l++[(4,some (.hp (JO (Ft t))))])
  (.ret (ndD (Cg (F5 stay (Df t l) t)) (num (F5 stay (Df t l) t)) (JY (F5 stay (Df t l) t)) 5) (nbS stay (Df t l)++[(5,some (.hp (JO (Ft (F5 stay (Df t l) t)))))]))
theorem Q4 {α:Type} (a b:α):∀l:List α,(l++[a]).set l.length b=l++[b]
 | []=>rfl
 | x::r=>by simp [Q4 a b r]
theorem zbc {a:Tr} {f n:Int} (h:X1 a (.mk f n x ps)):∃v ks,a = .nd f n x v ks/\IT ks ps:=by
 cases a with
 | nd f' n' x' v ks=>simp only [X1] at h;obtain ⟨rfl,rfl,rfl,h⟩:=h;exact ⟨v,ks,rfl,h⟩
 | im _ _=>simp [X1] at h
 | gp _ _ _ _=>simp [X1] at h
theorem MJ (stay:List Int) (f n:Int) (x:Str) (ps:List Ty) (l:List Int) (hl3:ps.length<=3) (hw:∀p∈ps,Ck p=true) (IH:∀p∈ps,∀l:List Int,(Df p l).length<=1000000->lZ stay l p) (hb:(Cn ps l).length<=1000000) :
  Tq2 Tryz.f81.ntmps [1,2,3,4] (JD Wa Tryz.f81.results.toList (.ret (ndD f n x 5) (nbS stay (Cn ps l)++[(5,some (.hp (JO (GG stay (Cn ps l) ps))))])))
   [.code (FK Tryz.f81 2)] [(0,.ref 1 0),(3,.ref 6 0),(4,.ref 7 0)]
   ((6,some (.cells 25 4 [.imm (.int .i64 f),.imm (.int .i64 n),.imm (.str x),.hv 4 0]))::(7,some (.cells 25 4 [.imm (.int .i64 0),.imm (.int .i64 0),.imm (.str []),.nils]))::nbS stay l++[(4,some (.hp (JO ps)))]) [8,5,9,10,11,12,13]:=by
 refine RI (ids':=[5,9,10,11,12,13]) 4 8 (λx:(Option Addr×Nat)×{ gs:List Tr // IT gs ps }=>[.slice x.1.1 ps.length x.1.2]) (λx=>F9 (.slice x.1.1 ps.length x.1.2) x.2.1) rfl (λvs I w bs h=>?_) λy=>?_
 ·obtain ⟨v,gs,h1,h2,h3⟩:=h;obtain ⟨a,cap,e1,_⟩:=M6 h3;rw [Nf h1] at e1;subst e1;exact ⟨((a,cap),⟨gs,h1⟩),h2,h3⟩
 obtain ⟨⟨ad,cap⟩,⟨gs0,hgs0⟩⟩:=y;refine As rfl<|Ak (λy:Nat×List Tr=>[(60,.imm (.int .i64 y.1)),(59,.imm (.int .i64 ps.length)),(58,.raw (.slice ad ps.length cap)),(0,.ref 1 0),(3,.ref 6 0),(4,.ref 7 0)])
  (λy=>(6,some (.cells 25 4 [.imm (.int .i64 f),.imm (.int .i64 n),.imm (.str x),.raw (.slice ad ps.length cap)]))::(7,some (.cells 25 4 [.imm (.int .i64 0),.imm (.int .i64 0),.imm (.str []),.nils])) ::
   (8,some (.hp (F9 (.slice ad ps.length cap) y.2)))::nbS stay (Cn (ps.take y.1) l)) [5,9,10,11,12,13] (λy=>ps.length-y.1) (λy=>y.1<=ps.length/\y.2.length=ps.length/\(∀(j:Nat) a p,j<y.1->y.2[j]?=some a->ps[j]?=some p->X1 a (F5 stay (Cn ps l) p))/\(∀(j:Nat) a p,y.1<=j->y.2[j]?=some a->ps[j]?=some p->X1 a p)) (0,gs0)
  ⟨AJ _,Nf hgs0,λj a p h=>by omega,λj a p _ ha hp=>(IS.1 hgs0).2 j a p ha hp⟩ GU GU rfl λy hi ih=>?_
 clear hgs0;obtain ⟨i,gs⟩:=y;obtain ⟨hi1,hi2,hi3,hi4⟩:=hi;simp only at hi1 hi2 hi3 hi4;refine As rfl<|Ab rfl (λh=>?_) (λh=>?_)
 ·simp at h;obtain ⟨k,hk⟩:=Ao h;have hkm:=AF hk;obtain ⟨a,hga⟩:∃a,gs[i]?=some a:=⟨_,Br (by omega)⟩
  have hak:=hi4 i a k (BQ _) hga hk;have htk:Cn (ps.take (i+1)) l=Df k (Cn (ps.take i) l):=by rw [Bp hk,J4];rfl
  obtain ⟨r,hr⟩:∃r,Cn ps l=Cn (ps.take (i+1)) l++r:=by
   obtain ⟨r,hr⟩:=Ok (ps.drop (i+1)) (Cn (ps.take (i+1)) l);exact ⟨r,by rw [<- hr,<- J4,eP]⟩
  have hmore:F5 stay (Cn ps l) k=F5 stay (Df k (Cn (ps.take i) l)) k:=by
   rw [hr,htk];exact TM k (λh hh=>(PU k _).2 (.inr hh)) (hw k hkm)
  have hbl:(Df k (Cn (ps.take i) l)).length<=1000000:=by
   rw [hr,htk] at hb;simp only [B5] at hb;omega
  have hC:=IH k hkm (Cn (ps.take i) l) hbl;unfold lZ at hC;rw [<- hmore,<- htk] at hC;generalize Cn (ps.take i) l=l0 at *;obtain ⟨kf,kn,kx,kp⟩:=k;obtain ⟨v,ks,rfl,hks⟩:=zbc hak;obtain ⟨t',ht'⟩:∃t',F5 stay (Cn ps l) (.mk kf kn kx kp)=t':=⟨_,rfl⟩
  rw [ht'] at hC;refine J9 8 (λ_:{ b:Nat // ad=some ⟨b,0,none⟩ }=>F9 (.slice ad ps.length cap) gs) rfl (λvs I w bs h'=>?_) λz=>?_
  ·obtain ⟨a,cap',e1,e2⟩:=M6 h';simp only [Value.slice.injEq] at e1;obtain ⟨b,hb⟩:=e2 (by rw [hi2];omega);exact ⟨⟨b,by rw [e1.1,hb]⟩,h'⟩
  obtain ⟨b,rfl⟩:=z;refine xX (ids':=[10,11,12,13]) 8 5 9 (λ_:Unit=>F9 (.slice (some ⟨b,0,none⟩) ps.length cap) (gs.set i (.gp kf kn kx v))) (λ_=>F9 v ks) rfl (λvs I w bs h'=>?_) λ_=>?_
  ·obtain ⟨b1,b2,q1,q2,q3,q4,q5⟩:=YW h' hga;exact ⟨(),b1,b2,q1,q2,q3,q4,q5⟩
  have hgi:(gs.set i (.gp kf kn kx v))[i]?=some (.gp kf kn kx v):=L9 (by omega)
  refine As rfl<|Nk ttY_ok rfl rfl (λ_=>⟨by simp,by simp;omega⟩) (by simp)<|Ai rfl<|fG ttY_ok 5 [.imm (.int .i64 kf),.imm (.int .i64 kn),.imm (.str kx),.raw v] rfl rfl (λ_ vs I w bs h'=>by have:=YY h' hgi;simpa [FD] using this) rfl rfl (by simp)<|ND 4 rfl (by simp)<|Ov (ids':=[12,13]) 9 10 11 [v] (A:=JO kp) [.imm (.int .i64 kf),.imm (.int .i64 kn),.imm (.str kx),.hv 11 0] rfl rfl (λus I w bs h=>⟨_,ks,hks,rfl,h⟩) ⟨.inl rfl,.inl rfl,.inl rfl,.inr ⟨0,_,rfl,rfl,rfl⟩,trivial⟩<|As rfl<|A5 (fr:=[12]) [(1,1),(2,2),(3,3),(11,4)] [(5,12)] [] (nm:=[1,2,3,12,1,2,3,11]) rfl trivial (by simp) hC Kc rfl trivial rfl rfl rfl<|Ai rfl<|Nk ttY_ok rfl rfl (λ_=>⟨by simp,by simp;omega⟩) (by simp)<|Ai rfl<|Uj ttY_ok 5 12 13 (zby (.slice (some ⟨b,0,none⟩) ps.length cap) (gs.set i (.gp kf kn kx v)) i (Cg t') (num t') (JY t') (Ft t')) rfl rfl rfl (by decide) (by
   have e:0+((i:Int)).toNat*4=i*4:=by simp
   show N7 _ _ _ 12 b (0+((i:Int)).toNat*4) _;rw [e];exact QC hgi rfl) ?_
  refine yg [] rfl (by simp;rfl)<|J9 13 (λa:{ a:Tr // X1 a t' }=>F9 (.slice (some ⟨b,0,none⟩) ps.length cap) (gs.set i a.1)) rfl (λvs I w bs h'=>?_) λz=>?_
  ·obtain ⟨u,ks,h1,h2⟩:=h';rw [List.set_set] at h2;obtain ⟨t1,t2,t3,t4⟩:=t';exact ⟨⟨.nd t1 t2 t3 u ks,by simpa [X1,Ft] using h1⟩,h2⟩
  obtain ⟨a,ha⟩:=z;refine Bt 8 13 rfl<|Ac (ih (i+1,gs.set i a) (by simp only;omega) ⟨by simp only;omega,by simpa using hi2,λj a' p hj ha' hp=>?_,λj a' p hj ha' hp=>?_⟩) ⟨BB (GR (by simp only;omega) (by simp only;omega)),B6⟩ GU rfl
  ·simp only at hj ha';by_cases e:i=j
   ·subst e;rw [L9 (by omega)] at ha';cases ha';rw [hk] at hp;cases hp;rw [ht'];exact ha
   ·rw [L8 e] at ha';exact hi3 j a' p (by omega) ha' hp
  ·simp only at hj ha';rw [L8 (by omega)] at ha';exact hi4 j a' p (by omega) ha' hp
 ·simp at h;have hl:i=ps.length:=by omega
  subst hl;rw [Jw];have his:IT gs (GG stay (Cn ps l) ps):=IS.2 ⟨by rw [QT,Dn];exact hi2,λj a p ha hp=>by
   rw [QT,Ep] at hp;cases hq:ps[j]? with
   | none=>rw [hq] at hp;cases hp
   | some q =>
    rw [hq] at hp;simp only [TN,Ce] at hp;rw [<- hp];exact hi3 j a q (AL.1 hq).1 ha hq⟩
  exact Az rfl<|As rfl<|Ov (ids':=[9,10,11,12,13]) 8 7 5 [.slice ad ps.length cap] (A:=JO (GG stay (Cn ps l) ps)) [.imm (.int .i64 f),.imm (.int .i64 n),.imm (.str x),.hv 5 0] rfl rfl (λus I w bs h=>⟨_,gs,his,rfl,h⟩) ⟨.inl rfl,.inl rfl,.inl rfl,.inr ⟨0,_,rfl,rfl,rfl⟩,trivial⟩<|Ah ⟨_,GU⟩
theorem pM (stay:List Int) (hst:stay.length<=1000000):∀(t:Ty) (l:List Int),Ck t=true->(Df t l).length<=1000000->lZ stay l t
 | .mk f n x ps,l,hw,hb=>by
  have hl3:=I3 hw;have hwp:∀p∈ps,Ck p=true:=λp hp=>E3 hw p (by simpa [Ft] using hp);have IH:∀p∈ps,∀l:List Int,(Df p l).length<=1000000->lZ stay l p:=λp hp l h=>pM stay hst p l (hwp p hp) h;simp only [Ft] at hl3;unfold lZ;by_cases h9:f=9
  ·subst h9;have e:=DZ hw rfl;simp only [Aw,num,Ty.mk.injEq] at e;obtain ⟨_,_,rfl,rfl⟩:=e;have e2:∀L,F5 stay L (.mk 9 n [] []) = .mk 9 (E7 stay (L.idxOf n)) [] []:=λL=>by simp [F5,GG]
   rw [e2];refine Ad ttY_ok func81 rfl [6,7,8,5,9,10,11,12,13]<|Ai rfl<|Ab rfl (λh=>by exfalso;simp [Cg] at h) (λh=>?_);refine As rfl<|Ab rfl (λh=>?_) (λh=>by exfalso;simp [Cg] at h);refine As rfl ?_;by_cases hm:n∈l
   ·have eg:Df (.mk 9 n [] []) l=l:=by simp [Df,hm]
    rw [eg] at hb ⊢;have hT:=MJ stay 9 (E7 stay (l.idxOf n)) [] [] l (by simp) (λp hp=>by simp at hp) (λp hp=>by simp at hp) (by simpa [Cn] using hb);have hlk:=Yx (stay:=stay) (l:=l) (h:=n);rw [if_pos hm] at hlk;have hgb:=yD (stay:=stay) hm;have htk:=wB (stay:=stay) (Z8.2 hm);have hgt:=nO htk;have hkb:=Yy stay l;have hkt:=CK (tkL stay l);have hlb:=yC stay l;have hjt:=(AL.1 hgt).1;have hjb:=(AL.1 hgb).1;simp only [nbS,Cn] at hT;simp only [nbS];generalize byM stay l=B at *;generalize (tkL stay l).idxOf ↑(E7 stay (l.idxOf n))=jt at *;generalize DT (tkL stay l)=K at *;generalize E7 stay (l.idxOf n)=N at *;generalize l.idxOf n=jb at *
    refine CR ttY_ok 3 (z:=.int .i64 0) (zd:=.int .i64 0) (dr:=.imm (.tup [.int .i64 N,.bool true])) rfl rfl rfl hkb (by simp) rfl (λ_=>.int _ _) (by simp only [FR];rw [show num (Ty.mk 9 n [] [])=n from rfl,hlk];rfl)<|yg [] rfl (by simp;rfl)<|Ak (λ_:Unit=>[(5,.imm (.int .i64 N)),(6,.imm (.bool true)),(0,.ref 1 0),(3,.ref 6 0),(4,.ref 7 0)])
     (λ_=>(6,some (.cells 25 4 [.imm (.int .i64 9),.imm (.int .i64 n),.imm (.str []),.hv 4 0]))::(7,some (.cells 25 4 [.imm (.int .i64 0),.imm (.int .i64 0),.imm (.str []),.nils]))::(1,some (.cells 123 2 [.mapr 2,.mapr 3]))::(2,some (.map K))::(3,some (.map B))::[(4,some (.hp (JO [])))])
     [8,5,9,10,11,12,13] (λ_=>0) (λ_=>True) () trivial B6 GU rfl λ_ _ ih=>?_
    clear ih;refine As rfl<|Ag rfl λh=>Az rfl<|IZ 3 rfl λb1 es1 clock1 hs1 hst1=>IZ 2 rfl λb2 es2 clock2 hs2 hst2=>?_;obtain ⟨x1,hx1⟩:∃e,es1[jb]?=some e:=⟨_,PB (by omega)⟩
    obtain ⟨x2,hx2⟩:∃e,es2[jt]?=some e:=⟨_,PB (by omega)⟩
    exact As rfl<|fH ttY_ok jb (e:=x1) rfl hkb hx1 hgb rfl<|Ai rfl<|VA jb (e:=x1) rfl rfl hx1 rfl hgb<|Ai rfl<|fH ttY_ok jt (e:=x2) rfl hkt hx2 hgt rfl<|Ai rfl<|VA jt (e:=x2) rfl rfl hx2 rfl hgt<|ND 2 rfl (by simp;rfl)<|HR 2 rfl<|HR 3 rfl<|ydf 5 rfl (by simp)<|Ac hT AC ⟨rfl,rfl,rfl,congrArg Blk.map (Q3 hgt),congrArg Blk.map (Q3 hgb),A9⟩ rfl
   ·have eg:Df (.mk 9 n [] []) l=l++[n]:=by simp [Df,hm]
    have ei:(l++[n]).idxOf n=l.length:=by rw [List.idxOf_append,if_neg hm];simp
    rw [eg] at hb ⊢;rw [ei];have hT:=MJ stay 9 (E7 stay l.length) [] [] (l++[n]) (by simp) (λp hp=>by simp at hp) (λp hp=>by simp at hp) (by simpa [Cn] using hb);have hlk:=Yx (stay:=stay) (l:=l) (h:=n);rw [if_neg hm] at hlk;have htk:=λ(j:Nat) (hj:j<=E7 stay l.length)=>zam (stay:=stay) (l:=l) hj;have hkb:=Yy stay l;have hkt:=CK (tkL stay l);have hNb:E7 stay l.length<=2000000:=by have:=wC stay l.length;simp at hb;omega
    have hlt:=NN (E7 stay l.length:Int) (tkL stay l);rw [if_neg (λh=>by have:=(htk _ (BQ _)).1 h;omega)] at hlt;have hq3:=Q4 (.int .i64 n,.int .i64 0) (.int .i64 n,.int .i64 (E7 stay l.length:Int)) (byM stay l);rw [<- tU] at hq3;have hq2:=Q4 (.int .i64 (E7 stay l.length:Int),.bool false) (.int .i64 (E7 stay l.length:Int),.bool true) (DT (tkL stay l));have e2:DT (tkL stay l)++[(.int .i64 (E7 stay l.length:Int),.bool true)]=DT (tkL stay (l++[n])):=by rw [nE];simp [DT]
    rw [e2] at hq2;have hlook:=λ(j:Nat)=>Gr (j:Int) (tkL stay l);clear e2;simp only [nbS,Cn] at hT;simp only [nbS];generalize byM stay (l++[n])=B' at *;generalize byM stay l=B at *;generalize DT (tkL stay (l++[n]))=K' at *;generalize hK:DT (tkL stay l)=K at *;generalize E7 stay l.length=N at *;refine CR ttY_ok 3 (z:=.int .i64 0) (zd:=.int .i64 0) (dr:=.imm (.tup [.int .i64 0,.bool false])) rfl rfl rfl hkb (by simp) rfl (λ_=>.int _ _) (by simp only [FR];rw [show num (Ty.mk 9 n [] [])=n from rfl,hlk];rfl)<|yg [] rfl (by simp;rfl)<|Ak (λz:Nat×Bool=>[(5,.imm (.int .i64 z.1)),(6,.imm (.bool z.2)),(0,.ref 1 0),(3,.ref 6 0),(4,.ref 7 0)])
     (λ_=>(6,some (.cells 25 4 [.imm (.int .i64 9),.imm (.int .i64 n),.imm (.str []),.hv 4 0]))::(7,some (.cells 25 4 [.imm (.int .i64 0),.imm (.int .i64 0),.imm (.str []),.nils]))::(1,some (.cells 123 2 [.mapr 2,.mapr 3]))::(2,some (.map K))::(3,some (.map B))::[(4,some (.hp (JO [])))])
     [8,5,9,10,11,12,13] (λz=>if z.2=true then 0 else N-z.1+1) (λz=>z.1<=N/\(z.2=true->z.1=N)) (0,false) ⟨AJ _,λh=>nomatch h⟩ B6 GU rfl λz hz ih=>?_
    obtain ⟨j,is⟩:=z;obtain ⟨hz1,hz2⟩:=hz;simp only at hz1 hz2;cases is with
    | false =>
     refine As rfl<|Al rfl λh=>As rfl ?_;by_cases hjN:j<N
     ·have hd:decide ((j:Int)∈tkL stay l)=true:=decide_eq_true ((htk j hz1).2 hjN);exact CR ttY_ok 2 (z:=.bool false) (zd:=.bool false) (dr:=.imm (.bool true)) rfl rfl rfl hkt (by simp) rfl (λ_=>.bool _) (by rw [hlook,hd])<|Ai rfl<|Al rfl λh=>As rfl<|Ac (ih (j+1,false) (by simp;omega) ⟨by simp only;omega,λh=>nomatch h⟩) ⟨BB (GR (by simp only;omega) (by simp only;omega)),Cb⟩ GU rfl
     ·have hd:decide ((j:Int)∈tkL stay l)=false:=decide_eq_false (λh=>hjN ((htk j hz1).1 h));exact CR ttY_ok 2 (z:=.bool false) (zd:=.bool false) (dr:=.imm (.bool false)) rfl rfl rfl hkt (by simp) rfl (λ_=>.bool _) (by rw [hlook,hd])<|Ai rfl<|Ag rfl λh=>As rfl<|Ac (ih (j,true) (by simp) ⟨hz1,λ_=>by omega⟩) B6 GU rfl
    | true =>
     have ej:=hz2 rfl;subst ej;clear ih
     exact As rfl<|Ag rfl λh=>Az rfl<|IZ 3 rfl λb1 es1 clock1 hs1 hst1=>IZ 2 rfl λb2 es2 clock2 hs2 hst2=>As rfl<|fI ttY_ok (z:=.int .i64 0) (zd:=.int .i64 0) rfl hkb hlk rfl (λ_=>.int _ _)<|Ai rfl<|VA B.length (e:=⟨.int .i64 n,.int .i64 0,clock1⟩) (p:=(.int .i64 n,.int .i64 0)) rfl rfl (by simp [<- hs1]) rfl (by simp)<|Ai rfl<|fI ttY_ok (z:=.bool false) (zd:=.bool false) rfl hkt hlt rfl (λ_=>.bool _)<|Ai rfl<|VA K.length (e:=⟨.int .i64 j,.bool false,clock2⟩) (p:=(.int .i64 j,.bool false)) rfl rfl (by simp [<- hs2]) rfl (by simp)<|ND 2 rfl (by simp;rfl)<|HR 2 rfl<|HR 3 rfl<|ydf 5 rfl (by simp)<|Ac hT AC ⟨rfl,rfl,rfl,congrArg Blk.map hq2,congrArg Blk.map hq3,A9⟩ rfl
  ·have e1:Df (.mk f n x ps) l=Cn ps l:=by simp only [Df,if_neg h9]
   have e2:∀L,F5 stay L (.mk f n x ps) = .mk (if f=10 then 9 else f) n x (GG stay L ps):=λL=>by simp only [F5,if_neg h9]
   rw [e1] at hb ⊢;rw [e2];refine Ad ttY_ok func81 rfl [6,7,8,5,9,10,11,12,13]<|Ai rfl ?_;by_cases h10:f=10
   ·subst h10;have hT:=MJ stay 9 n x ps l hl3 hwp IH hb;refine Ab rfl (λh=>?_) (λh=>by exfalso;simp [Cg] at h);exact ydf 5 rfl (by simp)<|Ac hT AC GU rfl
   ·have hT:=MJ stay f n x ps l hl3 hwp IH hb;rw [if_neg h10];refine Ab rfl (λh=>by exfalso;simp [Cg] at h;exact h10 h) (λh=>?_);refine As rfl<|Ab rfl (λh=>by exfalso;simp [Cg] at h;exact h9 h) (λh=>?_);exact ydf 2 rfl (by simp)<|Ac hT AC GU rfl
termination_by t=>SizeOf.sizeOf t
decreasing_by
 have:=Cj hp;simp_wf;omega
theorem bE (l:Au) (f:FuncId) (a b:List V) (q:Str×Ty->Bool) (hq:∀t∈l,Tq3 f (a++[.agg (fS t)]++b) (.bool (q t))) :
  ∃i:Int,(0<=i↔l.any q=true)/\Tq3 188 [.sl (D5 l),.clo (.func f) a b] (.int .i64 i):=by
 obtain ⟨i,h1,h2⟩:∃i:Int,(0<=i↔l.any q=true)/\((i = -1/\l.any q=false)\/∃(k:Nat) (t:Str×Ty),i=k/\l[k]?=some t/\q t=true/\(l.take k).any q=false):=by
  by_cases h:l.any q=true
  ·have key:∀(n:Nat),(l.take n).any q=true->∃(k:Nat) (t:Str×Ty),l[k]?=some t/\q t=true/\(l.take k).any q=false:=λn=>by
    induction n with
    | zero=>intro h;simp at h
    | succ n ih =>
     intro h;by_cases hn:(l.take n).any q=true
     ·exact ih hn
     ·by_cases hl:n<l.length
      ·obtain ⟨t,ht⟩:=Ao hl;rw [Bp ht,GZ] at h;simp only [QZ] at hn;rw [hn,QX] at h;exact ⟨n,t,ht,by simpa using h,hn⟩
      ·rw [Db (by omega)] at h hn;exact absurd h hn
   obtain ⟨k,t,k1,k2,k3⟩:=key l.length (by rw [Jw];exact h);exact ⟨k,⟨λ_=>h,λ_=>by omega⟩,.inr ⟨k,t,rfl,k1,k2,k3⟩⟩
  ·exact ⟨-1,⟨λh'=>by omega,λh'=>absurd h' h⟩,.inl ⟨rfl,by simpa using h⟩⟩
 refine ⟨i,h1,?_⟩;clear h1;refine B3 λhv=>?_;simp [CV,F0,maxLen] at hv;refine Ad ttY_ok func188 rfl [1,2]<|Ai rfl<|Ak (λj:Nat=>[(8,.imm (.int .i64 j)),(7,.imm (.int .i64 l.length)),(0,.imm (.sl (D5 l))),(1,.imm (.clo (.func f) a b))]) (λ_=>[]) [1,2] (λj=>l.length-j) (λj=>j<=l.length/\(l.take j).any q=false) 0
  ⟨AJ _,rfl⟩ ⟨rfl,BB (by simp),AK⟩ trivial rfl λj hj ih=>?_
 obtain ⟨hj1,hj2⟩:=hj;refine As rfl<|Ab rfl (λh=>?_) (λh=>?_)
 ·have hlt:j<l.length:=by simp at h;omega
  obtain ⟨t,ht⟩:=Ao hlt;have hg:=RO ht;have hQ:=hq t (AF ht);have htk:(l.take (j+1)).any q=q t:=by rw [Bp ht,GZ,hj2];simp
  have hfound:q t=true->i=j:=λhqt=>by
   rcases h2 with ⟨_,h⟩ | ⟨k,u,rfl,k1,k2,k3⟩
   ·have:l.any q=true:=DJ.2 ⟨t,AF ht,hqt⟩;rw [this] at h;cases h
   ·congr 1;rcases Mc k j with hc | hc | hc
    ·have:(l.take j).any q=true:=DJ.2 ⟨u,DL.2 ⟨k,by rw [D6,if_pos hc];exact k1⟩,k2⟩;rw [hj2] at this;cases this
    ·exact hc
    ·have:(l.take k).any q=true:=DJ.2 ⟨t,DL.2 ⟨j,by rw [D6,if_pos hc];exact ht⟩,hqt⟩;rw [k3] at this;cases this
  generalize q t=o at *;obtain ⟨y,⟨t1,t2,t3,t4⟩⟩:=t;refine As rfl<|Sl rfl hg<|Ai rfl<|PY rfl (λ_=>hQ) (by simp)<|Ai rfl ?_;cases o with
  | true =>
   exact Al rfl λh=>As rfl<|Ah ⟨_,rfl,tV (by rw [hfound rfl]),trivial⟩
  | false =>
   exact Ag rfl λh=>As rfl<|Ac (ih (j+1) (by omega) ⟨by omega,htk⟩) ⟨AU,AC⟩ trivial rfl
 ·have hlt:¬j<l.length:=by simp at h;omega
  rw [Db (by omega)] at hj2;have hi:i = -1:=by
   rcases h2 with ⟨h,_⟩ | ⟨k,u,_,k1,k2,_⟩
   ·exact h
   ·have:l.any q=true:=DJ.2 ⟨u,AF k1,k2⟩;rw [hj2] at this;cases this
  exact Az rfl<|As rfl<|Ah ⟨_,rfl,tV (by rw [hi]),trivial⟩
theorem SD (l:Au) (f:FuncId) (a b:List V) (q:Str×Ty->Bool) (hq:∀t∈l,Tq3 f (a++[.agg (fS t)]++b) (.bool (q t))) :
  Tq3 129 [.sl (D5 l),.clo (.func f) a b] (.bool (l.any q)):=by
 obtain ⟨i,h1,h2⟩:=bE l f a b q hq;refine Ad ttY_ok func129 rfl [1,2]<|Ai rfl<|Af rfl h2<|Ai rfl<|Aa rfl rfl (congrArg _ ?_);rw [Fq,<- h1];simp
theorem kL (g:FuncId) (q:Str×Ty->Bool) (t:Str×Ty) (hq:Tq3 g [.agg (fS t)] (.bool (q t))):Tq3 130 [.agg (fS t),.ip 116 [.fn (.func g)] 0] (.bool (!q t)):=by
 generalize q t=o at *;obtain ⟨y,⟨t1,t2,t3,t4⟩⟩:=t;exact M8<|Ad ttY_ok func130 rfl [2,3,4,5]<|Ai rfl<|Af rfl hq<|Ai rfl<|Aa rfl rfl rfl
theorem rY (l:Au) (g:FuncId) (q:Str×Ty->Bool) (hq:∀t∈l,Tq3 g [.agg (fS t)] (.bool (q t))):Tq3 71 [.sl (D5 l),.fn (.func g)] (.bool (l.all q)):=by
 have hC:=SD l 130 [] [.ip 116 [.fn (.func g)] 0] (λt=>!q t) λt ht=>kL g q t (hq t ht);refine Ad ttY_ok func71 rfl [2,3,4,5]<|Ai rfl<|Lc rfl (λ_=>hC) rfl (by simp)<|Ai rfl<|Aa rfl rfl (congrArg _ ?_);rw [Fq];simp
def Oj (p:Str×Ty):Bool:=DH p.1&&AO true p.2
theorem bB (p:Str×Ty):Tq3 72 [.agg (fS p)] (.bool (Oj p)):=by
 have hN:=GB p.1;have hC:=FC [p.2];simp only [Dd,Jv,HI] at hC;unfold Oj;generalize AO true p.2=o2 at *;generalize DH p.1=o1 at *;obtain ⟨y,⟨t1,t2,t3,t4⟩⟩:=p;refine Ad ttY_ok func72 rfl [2,3,4,5]<|Ai rfl<|Af rfl hN<|BH rfl<|AI rfl hC<|BH rfl ?_;exact Ah ⟨_,rfl,tV (by cases o1 <;> cases o2 <;> rfl),trivial⟩
def X7 (m:Md) (Γ:Au) (t:Tm) (T:List (Int×Ty)) (k:Int) (S:List Ty) (u:List V):St :=
 CP m T k S++[(5,some (.cells 92 1 [.ref 1 0])),(6,some (.immb 49 5 (dTmc t))),(7,some (.immb 118 1 [.sl (D5 Γ)])),(8,some (.immb 25 4 u))]
def zW (m:Md) (Γ:Au) (t:Tm) (T:List (Int×Ty)) (k:Int) (S:List Ty) (u:List V):St :=
 UH m T k S++[(5,some (.cells 92 1 [.ref 1 0])),(6,some (.immb 49 5 (dTmc t))),(7,some (.immb 118 1 [.sl (D5 Γ)])),(8,some (.immb 25 4 u))]
theorem Xx {k:Int} (hI:EI m Γ t [] 0 [] (some (τ,T,k,S))) (hs:Sol (BG T) θ) (hl:S.length<=1000000) (hp:(S.map (A8 θ)).all Dj=true) :
  Tq4 78 [.ref 5 0,.ref 6 0,.ref 7 0,.ref 8 0] (X7 m Γ t [] 0 [] (dTyc Hi)) (.ret (.imm (.tup [])) (zW m Γ t T k S (dTyc τ))):=by
 have hS:=Nb m T k S hs hl hp;unfold EI C0 Dp at hI;obtain ⟨t1,t2,t3,t4,t5⟩:=t;obtain ⟨u1,u2,u3,u4⟩:=τ;exact Ad ttY_ok func78 rfl [4,9,10]<|Ai rfl<|Aq [4] [(1,1),(2,2),(3,3)] [(4,4)] rfl hI Ay rfl rfl<|Ai rfl<|Aq [] [(1,1),(2,2),(4,3)] [] rfl hS Ay rfl rfl<|Ai rfl<|BR ⟨[],iN⟩
theorem Xy {k:Int} (hI:EI m Γ t [] 0 [] (some (τ,T,k,S))) (hs:Sol (BG T) θ) (hl:S.length<=1000000) (hp:(S.map (A8 θ)).all Dj=false) :
  Tq4 78 [.ref 5 0,.ref 6 0,.ref 7 0,.ref 8 0] (X7 m Γ t [] 0 [] (dTyc Hi)) (.pan G0):=by
 have hS:=Ph m T k S hs hl hp;unfold EI C0 Dp at hI;obtain ⟨t1,t2,t3,t4,t5⟩:=t;obtain ⟨u1,u2,u3,u4⟩:=τ;exact Ad ttY_ok func78 rfl [4,9,10]<|Ai rfl<|Aq [4] [(1,1),(2,2),(3,3)] [(4,4)] rfl hI Ay rfl rfl<|Ai rfl<|Bd [(1,1),(2,2),(4,3)] rfl (by simp) hS Ay rfl rfl rfl<|Ai rfl<|Bx 9 rfl
theorem bA (hI:EI m Γ t [] 0 [] none) :
  Tq4 78 [.ref 5 0,.ref 6 0,.ref 7 0,.ref 8 0] (X7 m Γ t [] 0 [] (dTyc Hi)) (.pan G0):=by
 unfold EI C0 Dp at hI;obtain ⟨t1,t2,t3,t4,t5⟩:=t;exact Ad ttY_ok func78 rfl [4,9,10]<|Ai rfl<|Bf 3 [(1,1),(2,2),(3,3)] rfl (by simp) hI Ay rfl rfl rfl<|Bn 7 3 rfl
section
variable {env2:Env} {st2 stx:St} {ids2:List Nat} {c:Code} {all rest:List Oper}
theorem RE {p:Nat} {fc:Func} {stB:St} {pend:Option Code} (hf:P.funcs[L.fn]?=some fc) (hps:L.ps = #[p]) (hsz:L.tmps.size=n) (hd:JQ d=[]) (hp:p<n) (hfree:RA ids L.E stx L.F) (hasg:Sk P n L.asg ((p,d)::L.E) stx ids env st ids') (h:DGo P n (nZ::(L.F++WU L.E)) (zdl pend stB) [.code L.body] env st ids'):O3 P [d] (Ds L stx none) pend.isNone (Ds L stB pend):=by
 intro I μ w b xs hμ hst hx;have hl0:A1 (VZ 1 (Ds L stx none)) 0 .pin:=AB.2 (.inl ⟨rfl,rfl⟩);have hl1:A1 (VZ 1 (Ds L stx none)) 1 (.bun 0 (Ds L stx none)):=AB.2 (.inr ⟨by simp,AB.2 (.inl ⟨rfl,rfl⟩)⟩);obtain ⟨g1,hg1,b',bs,hb1,rfl,hP⟩:=hst.blk 1 _ hl1;rw [hμ] at hb1;cases hb1;have hbs:∀k∈bs,I k=none/\k<w.heap.size:=λk hk=>hst.apart 1 _ _ k hl1 hg1 (DF.2 hk);have hP0:=hP;obtain ⟨r,ν,bs0,e1,hr1,⟨hr2,hr3⟩,⟨hr4,hr5,hr6,hr7,hr8⟩,hE1,hS,hown,hnb,hF⟩:=Y0 hP hfree hst.imm hbs;subst e1;obtain ⟨x,rfl⟩:∃x,xs = #[x]:=by
  obtain ⟨l⟩:=xs;have:=hx.1
  match l,this with
  | [x],_=>exact ⟨x,rfl⟩
 have hxd1:RepD I ν x d:=(hx.2 0 x d rfl rfl).sub λj hj=>by rw [hd] at hj;cases hj
 have hszp:(#[x]:Array Value).size=r.params.size:=by rw [hr5,hps];rfl
 unfold zdk;rw [run_yield hr1 hszp];refine NO (fc:=fc) (by rw [hr4];exact hf) λfb cs hbf hbr=>?_;rw [hr5,hps,hr6,hr7,hr8];have hfold:((#[p]:Array Nat).zip #[x]).foldl (λtmps (t,a)=>tmps.setIfInBounds t a) L.tmps=L.tmps.setIfInBounds p x:=by simp
 rw [hfold];obtain ⟨hIb,hblt⟩:=hbs b (by simp);have hnob0:¬Bq ν stx b:=λh=>hnb ((hown b).2 h);have hput:∀(w:World) (o:Obj),(w.putObj b o).heap=w.heap.setIfInBounds b o:=λw o=>by
  unfold World.putObj;by_cases hi:b<w.heap.size <;> simp [hi]
 have hoth:∀(w:World) (o:Obj) k,k≠b->(w.putObj b o).heap[k]?=w.heap[k]?:=λw o k hk=>by rw [hput,Gj (Ne.symm hk)]
 obtain ⟨c1,c2,c3⟩:=Ij (n:=n) (w:=w) (a:={ tmps:=L.tmps,defers:=[] }) (dst:=some p) hE1 hsz (λt ht=>by cases ht;exact hp) hxd1;have hc0:Conc n I ν ((p,d)::L.E) stx ids (Act.put { tmps:=L.tmps,defers:=[] } (some p) x) w:={ hS with size:=c2,env:=c1,defers:=by rw [c3];exact MarksOk.nil _ _ _ _ }
 refine hasg fb cs _ I ν _ w _ hc0 λIA νA aA wA hcA hmA heA=>?_;have hnob:¬Bq νA st b:=λh=>hnob0 (heA.fresh b hblt h);have hrA1:wA.heap[b]?=some (.loop r):=by rw [heA.block b hblt hnob0];exact hr1
 have hIbA:IA b=none:=by rw [heA.old b hblt hnob0];exact hIb
 have hbltA:b<wA.heap.size:=(GY.1 hrA1).1;obtain ⟨w1,hw1⟩:∃w1:World,w1=wA.putObj b (.loop { r with state:=.busy }):=⟨_,rfl⟩
 have hbeg:=run_beginRound (P:=P) hrA1 hr2;refine Reach.step (stepR_beginRound hbr hbeg) ?_;rw [<- hw1];have hmarks:MarksOk IA νA st w1 aA.defers:=by
  obtain ⟨rs,m1,m2,m3⟩:=hcA.defers;refine ⟨rs,m1,m2,λk hk=>⟨?_,(m3 k hk).2⟩⟩;have h0:=(m3 k hk).1;rw [hw1,hoth _ _ k (λe=>by rw [e,hrA1] at h0;cases h0)];exact h0
 have hc:Conc n IA νA env st ids' aA w1 :=
  {hcA.toStRep.other (by rw [hw1,hput];simp) (λk o hk=>by rw [hw1];exact hoth _ _ k (λe=>by rw [e,hIbA] at hk;cases hk)) (λk hk=>by rw [hw1];exact hoth _ _ k (λe=>hnob (e ▸ hk))) with
   size:=hcA.size
   env:=hcA.env
   defers:=hmarks }
 have hgo:=h ⟨fb,.inl (by simp)⟩ cs IA νA _ w1 [.code L.body] A9 hc;refine Reach.mono (λe a' w' hpost=>?_) hgo;obtain ⟨x',env',st',ids2,I',μ',p1,p2,p3,p4,p5,p6⟩:=hpost;have hb1:w1.heap[b]?=some (.loop { r with state:=.busy }):=by rw [hw1,hput];simp [hbltA]
 have hsz1:w1.heap.size=wA.heap.size:=by rw [hw1,hput];simp
 have hszA:w.heap.size<=wA.heap.size:=heA.size;have hno2:∀k,k<w.heap.size->¬Bq ν stx k->¬Bq νA st k:=λk hk ho hq=>ho (heA.fresh k hk hq);have hfr2:∀k,k<w.heap.size->Bq μ' st' k->Bq ν stx k:=λk hk ho=>heA.fresh k hk (p5.fresh k (by omega) ho);have hold2:∀k,k<w.heap.size->¬Bq ν stx k->I' k=I k:=λk hk ho=>(p5.old k (by omega) (hno2 k hk ho)).trans (heA.old k hk ho);have himm2:I.le I':=Imm.le_trans heA.imm p5.imm;have hb':w'.heap[b]?=some (.loop { r with state:=.busy }):=by rw [p5.block b (by omega) hnob];exact hb1
 have hno':¬Bq μ' st' b:=λho=>hnob (p5.fresh b (by omega) ho);have hI':I' b=none:=by rw [p5.old b (by omega) hnob];exact hIbA
 have hblt':b<w'.heap.size:=(GY.1 hb').1;have fin:IF st' stB->∃v w'',(Instr.endRound b pend).run P w' = .ok v w''/\(∃I2 μ2,RepD I2 μ2 v (.imm (.bool pend.isNone))/\StRep I2 μ2 (VZ 2 (Ds L stB pend)) [] w'' /\
   Pin (D8 (VZ 1 (Ds L stx none))) μ μ2/\Ext I μ (VZ 1 (Ds L stx none)) w I2 μ2 (VZ 2 (Ds L stB pend)) w''):=by
  intro hsub;have hSB:StRep I' μ' stB [] w':=p3.toStRep.less (F1 hsub) .nil (λ_ h=>by simp at h);have hownB':∀k,Bq μ' stB k->Bq μ' st' k:=λk ⟨i,bi,g,q1,q2⟩=>⟨i,bi,g,F1 hsub i bi q1,q2⟩
  have hnoB:¬Bq μ' stB b:=λh=>hno' (hownB' b h);obtain ⟨w2,hw2⟩:∃w2:World,w2=w'.putObj b (.loop { r with state:=if pend.isNone then .ready else .done,pending:=pend }):=⟨_,rfl⟩
  have hend:(Instr.endRound b pend).run P w' = .ok (.bool pend.isNone) w2:=by
   have:=run_endRound (P:=P) pend hb';rw [hw2];exact this
  have hw2s:w2.heap.size=w'.heap.size:=by rw [hw2,hput];simp
  have hw2o:∀k,k≠b->w2.heap[k]?=w'.heap[k]?:=λk hk=>by rw [hw2];exact hoth _ _ k hk
  have hSB2:StRep I' μ' stB [] w2:=hSB.other (by omega) (λk o hk=>hw2o k (λe=>by rw [e,hI'] at hk;cases hk)) (λk hk=>hw2o k (λe=>hnoB (e ▸ hk)));obtain ⟨bsN,hbsN⟩:=QI μ' stB;have hPN:(Ds L stB pend).P I' w2 b (b::bsN):=by
   refine ⟨{ r with state:=if pend.isNone then .ready else .done,pending:=pend },μ',bsN,rfl,by rw [hw2,hput];simp [hblt'],⟨by cases pend <;> rfl,rfl⟩,⟨hr4,hr5,hr6,hr7,hr8⟩,λt d hl=>?_,hSB2.blk,hSB2.inj,hbsN,λhm=>hnoB ((hbsN b).1 hm),λi hi=>?_⟩
   ·exact ((hE1 t d hl).mono himm2 (Mu.le_refl ν)).sub λj hj g hg=>p4 j (by simp [Zx hl j hj]) g (hmA j g hg)
   ·exact λg hg0=>p4 i (by simp [hi]) g (hmA i g (hF i hi g hg0))
  obtain ⟨μ2,hμ2⟩:∃μ2:Mu,μ2=λi=>if i=2 then some (.agg (UU (b::bsN))) else μ i:=⟨_,rfl⟩
  have hm0:μ2 0=some (.func (.yield b) #[] #[]):=by rw [hμ2];simpa using hμ
  have hm2:μ2 2=some (.agg (UU (b::bsN))):=by rw [hμ2];simp
  have hold:∀k,k∈b::bsN->k<w.heap.size->k∈b::bs0:=λk hk hlt=>by
   rcases Cy.1 hk with rfl | hk
   ·simp
   ·exact Ip _ ((hown k).2 (hfr2 k hlt (hownB' k ((hbsN k).1 hk))))
  have hnew:∀k∈b::bsN,I' k=none/\k<w2.heap.size:=λk hk=>by
   rcases Cy.1 hk with rfl | hk
   ·exact ⟨hI',by omega⟩
   ·obtain ⟨i,bi,g,q1,q2,q3⟩:=(hbsN k).1 hk;exact hSB2.apart i bi g k q1 q2 q3
  have hownO:∀k,Bq μ (VZ 1 (Ds L stx none)) k↔k∈b::bs0:=λk=>by
   constructor
   ·rintro ⟨i,bi,g,q1,q2,q3⟩;rcases JR (by simp) q1 with ⟨rfl,rfl⟩ | ⟨rfl,rfl⟩
    ·rw [hμ] at q2;cases q2;exact q3.elim
    ·rw [hg1] at q2;cases q2;exact DF.1 q3
   ·intro hk;exact ⟨1,_,_,hl1,hg1,DF.2 hk⟩
  have hownN:∀k,Bq μ2 (VZ 2 (Ds L stB pend)) k->k∈b::bsN:=λk=>by
   rintro ⟨i,bi,g,q1,q2,q3⟩;rcases JR (by simp) q1 with ⟨rfl,rfl⟩ | ⟨rfl,rfl⟩
   ·rw [hm0] at q2;cases q2;exact q3.elim
   ·rw [hm2] at q2;cases q2;exact DF.1 q3
  refine ⟨_,w2,hend,I',μ2,.imm _ _ (.bool _),?_,?_,?_⟩
  ·refine { imm:=hSB2.imm,blk:=λi bi hl=>?_,apart:=λi bi g k hl hgi hk=>hnew k (hownN k ⟨i,bi,g,hl,hgi,hk⟩),inj:=λi j bi bj gi gj k hi hj hgi hgj hki hkj=>?_,nodup:=.nil,idsFree:=λ_ h=>by simp at h }
   ·rcases JR (by simp) hl with ⟨rfl,rfl⟩ | ⟨rfl,rfl⟩
    ·exact ⟨_,hm0,b,rfl⟩
    ·exact ⟨_,hm2,b,_,hm0,rfl,hPN⟩
   ·rcases JR (by simp) hi with ⟨rfl,rfl⟩ | ⟨rfl,rfl⟩ <;> rcases JR (by simp) hj with ⟨rfl,rfl⟩ | ⟨rfl,rfl⟩
    ·rfl
    ·rw [hm0] at hgi;cases hgi;exact hki.elim
    ·rw [hm0] at hgj;cases hgj;exact hkj.elim
    ·rfl
  ·intro i hi g hg;simp only [VZ,D8,C6,HL,Cy,LZ,or_false] at hi;have:i≠2:=by omega
   rw [hμ2];simp only [if_neg this];exact hg
  ·refine { imm:=himm2,os:=?_,tape:=?_,output:=?_,size:=?_,block:=λk hk hno=>?_,fresh:=λk hk ho=>(hownO k).2 (hold k (hownN k ho) hk),old:=λk hk hno=>hold2 k hk (λh=>hno ((hownO k).2 (Ip _ ((hown k).2 h)))) }
   ·have:=p5.os;rw [hw1] at this;rw [hw2,<- heA.os];unfold World.putObj at this ⊢;exact this
   ·have:=p5.tape;rw [hw1] at this;rw [hw2,<- heA.tape];unfold World.putObj at this ⊢;exact this
   ·have:=p5.output;rw [hw1] at this;rw [hw2,<- heA.output];unfold World.putObj at this ⊢;exact this
   ·have:=p5.size;omega
   ·have hkb:k≠b:=λe=>hno ((hownO k).2 (by simp [e]));have hno3:¬Bq ν stx k:=λh=>hno ((hownO k).2 (Ip _ ((hown k).2 h)));rw [hw2o k hkb,p5.block k (by omega) (hno2 k hk hno3),hw1,hoth _ _ k hkb,heA.block k hk hno3]
 cases e with
 | normal =>
  cases x' <;> simp only [O0] at p1;cases pend with
  | none=>exact fin p2
  | some c=>exact p2.elim
 | ret =>
  cases x' <;> simp only [O0] at p1;cases pend with
  | none=>exact p2.elim
  | some c=>cases c <;> first | exact p2.elim | exact fin p2
 | exit j =>
  cases x' <;> simp only [O0] at p1;cases pend with
  | none=>exact p2.elim
  | some c =>
   cases c <;> first | exact p2.elim | skip
   obtain ⟨q1,q2⟩:=p2;subst q1;subst p1;exact fin q2
 | goto l =>
  cases x' <;> simp only [O0] at p1;cases pend <;> exact p2.elim
 | panic chain =>
  cases x' <;> simp only [O0] at p1;cases pend <;> exact p2.elim
 | outgrown=>cases x' <;> simp only [O0] at p1
end
def Mj (Γ:Au):Au:=Γ.map λp=>(p.1,FW p.2)
theorem lB (Γ:Au) (p:Str×Ty):Mj (Γ++[p])=Mj Γ++[(p.1,FW p.2)]:=by simp [Mj]
def wI (l:List Int) (u:Ty):List Int:=if Cg u=9 then (if num u∈l then l else l++[num u]) else l
theorem pS (l:List Int) (f n:Int) (x:Str) (ps:List Ty):wI l (.mk f n x ps)=if f=9 then (if n∈l then l else l++[n]) else l:=rfl
mutual
theorem Wi:∀(t:Ty) (l:List Int),Ck t=true->(GT t).foldl wI l=Df t l
 | .mk f n x ps,l,hw=>by
  simp only [GT,Pc,pS,Df];by_cases h9:f=9
  ·subst h9;have e:=DZ hw rfl;simp only [Aw,num,Ty.mk.injEq] at e;obtain ⟨_,_,rfl,rfl⟩:=e;simp only [CN,Z7,if_true]
  ·rw [if_neg h9,if_neg h9];exact Tg ps l λp hp=>E3 hw p (by simpa [Ft] using hp)
theorem Tg:∀(ts:List Ty) (l:List Int),(∀t∈ts,Ck t=true)->(CN ts).foldl wI l=Cn ts l
 | [],_,_=>rfl
 | t::r,l,hw=>by
  simp only [CN,Z6,Cn];rw [Wi t l (hw t (by simp)),Tg r _ λp hp=>hw p (by simp [hp])]
end
theorem Q6 {h:Int}:∀{l:List Int},h∈l->FF (DT l) (.int .i64 h) (.bool true)=DT l
 | x::r,hm=>by
  simp only [DT,C6,FF,Lg];by_cases e:x=h
  ·subst e;simp
  ·have e':¬h=x:=λh=>e h.symm;have ih:=Q6 (l:=r) (by simpa [e'] using hm);simp only [DT] at ih;rw [show decide (x=h)=false from decide_eq_false e];simp only [DK,if_false,ih]
def W9:Code->Option (Code×Code)
 | .rangeFunc _ _ a b=>some (a,b)
 | .seq x y=>match W9 x with
  | some r=>some r
  | none=>W9 y
 | .block _ c=>W9 c
 | .loop c=>W9 c
 | .cond _ x y=>match W9 x with
  | some r=>some r
  | none=>W9 y
 | _=>none
def oD (f:Func):Code:=match W9 (FK f 0) with
 | some (a,_)=>a
 | none=>.skip
def Za (f:Func):Code:=match W9 (FK f 0) with
 | some (_,b)=>b
 | none=>.skip
def eV (m:Md) (t:Tm) (Γ:Au) (l:List Int):St :=
 [(11,some (.immb 43 3 (dMdc m))),(12,some (.immb 49 5 (dTmc t))),(13,some (.cells 25 4 [.imm (.int .i64 0),.imm (.int .i64 0),.imm (.str []),.nils])),
 (14,some (.immb 118 1 [.sl (D5 Γ)])),(15,some (.map (DT l))),(16,some (.map [])),(17,some (.cells 123 2 [.mapr 15,.mapr 16])),(18,some (.cells 119 1 [.ref 17 0]))]
def inE (Γ:Au) (i:Nat):Env:=[(42,.imm (.int .i64 i)),(41,.imm (.int .i64 Γ.length)),(40,.imm (.sl (D5 Γ))),(3,.ref 11 0),(5,.ref 12 0),(6,.ref 13 0),(8,.ref 14 0),(9,.ref 18 0)]
theorem XK (m:Md) (t:Tm) (Γ0 Γ:Au) (i:Nat) (l:List Int) (u:Ty) (h1:prog.funcs[L.fn]?.isSome) (h2:L.tmps.size=Tryz.f26.ntmps) (h3:L.ps = #[56]) (h4:L.asg=oD Tryz.f26) (h5:L.body=Za Tryz.f26) (h6:L.E=inE Γ0 i) (h7:L.F=[]):O3 prog [.imm (.agg (dTyc u))] (Ds L (eV m t Γ l) none) true (Ds L (eV m t Γ (wI l u)) none):=by
 obtain ⟨fc,hf⟩:=Ve.1 h1;obtain ⟨f,n,x,ps⟩:=u;have hfree:RA [21,22,23] L.E (eV m t Γ l) L.F:=by
  rw [h6,h7];refine ⟨by decide,?_⟩;simp [eV,inE,WU,JQ,F4,UZ,IB,D8]
 have hkt:=CK l;have hnew:n∉l->FF (DT l) (.int .i64 n) (.bool true)=DT (l++[n]):=λh=>II h;have hold:n∈l->FF (DT l) (.int .i64 n) (.bool true)=DT l:=λh=>Q6 h;have hasg:∀stx,Sk prog Tryz.f26.ntmps L.asg ((56,.imm (.agg (dTyc (.mk f n x ps))))::L.E) stx [21,22,23] _ _ _:=λstx=>by
  rw [h4];exact gB ttY_ok rfl rfl rfl rfl (by simp) (by simp)
 refine RE (pend:=none) hf h3 h2 rfl (by decide) hfree (hasg _) ?_;rw [h5,h6,h7];rw [pS];refine As rfl ?_;by_cases h9:f=9
 ·subst h9;rw [if_pos rfl];refine Al rfl λh=>As rfl<|F6 ttY_ok rfl rfl rfl hkt ?_;by_cases hn:n∈l
  ·rw [hold hn,if_pos hn];exact yg [] rfl (by simp;rfl)<|BR (⟨rfl,rfl,rfl,rfl,rfl,rfl,rfl,rfl,trivial⟩:IF _ (eV m t Γ l))
  ·rw [hnew hn,if_neg hn];exact yg [] rfl (by simp;rfl)<|BR (⟨rfl,rfl,rfl,rfl,rfl,rfl,rfl,rfl,trivial⟩:IF _ (eV m t Γ (l++[n])))
 ·rw [if_neg h9];refine Ab rfl (λh=>by exfalso;simp at h;exact h9 h) (λh=>?_);exact As rfl<|BR (⟨rfl,rfl,rfl,rfl,rfl,rfl,rfl,rfl,trivial⟩:IF _ (eV m t Γ l))
theorem Wd (p q:Addr) (w:World) :
  CallsD prog 119 #[.pointer (some p),.pointer (some q)] .returning w λe u' w'=>e = .returned (.tuple #[])/\u' = .returning/\w'=w:=by
 refine callsD_of_wpS func119 rfl λc₀ cs hu=>?_;apply wpS_seq;apply wpS_region;simp [wpOpsS,go_sem,recoverD,hu,Tryz.ntmps119,Exit.thenS];apply wpS_seq;apply wpS_region;simp [wpOpsS,go_sem,Exit.thenS];refine wpS_cond (t:=false) (by simp [Act.eval,Array.replicate]) ?_;simp only [if_false,DK];refine wpS_of_wp (wp_skip ?_);cases c₀;simp_all [bodyPostS,results,Tryz.results119]
def FI:Array Value:=#[.int .i64 0,.int .i64 0,.string ⟨#[]⟩,.slice none 0 0]
def yO (n:Nat) (w w':World):Prop:=w'.os=w.os/\w'.tape=w.tape/\w'.output=w.output/\w.heap.size<=w'.heap.size/\∀b,b<w.heap.size->b≠n+1->b≠n+2->w'.heap[b]?=w.heap[b]?
theorem UA (pb:Nat) (w:World) (h1:w.heap[pb+1]?=some (.cells FI 25 (0,0))) (h2:w.heap[pb+2]?=some (.cells #[.bool false] 4 (0,0))) :
  CallsD prog 119 #[.pointer (some ⟨pb+1,0,none⟩),.pointer (some ⟨pb+2,0,none⟩)] (.panicking [{ v:=.iface 171 (.agg #[]),recovered:=false }]) w λe u' w'=>e = .returned (.tuple #[]) /\
   u' = .panicking [{ v:=.iface 171 (.agg #[]),recovered:=true }]/\yO pb w w'/\w'.heap[pb+1]?=some (.cells FI 25 (0,0))/\w'.heap[pb+2]?=some (.cells #[.bool false] 4 (0,0)):=by
 refine callsD_of_wpS func119 rfl λc₀ cs hu=>?_;change Code.wpS _ _ _ { tmps:=#[.pointer (some ⟨pb+1,0,none⟩),.pointer (some ⟨pb+2,0,none⟩),undef,undef,undef,undef,undef,undef,undef,undef,undef,undef,undef,undef,undef,undef,undef],defers:=[] } _ _;apply wpS_seq;apply wpS_region;simp [wpOpsS,go_sem,recoverD,hu,Tryz.ntmps119,Exit.thenS];apply wpS_seq;apply wpS_region;simp [wpOpsS,go_sem,Exit.thenS];refine wpS_cond (t:=true) (by simp [Act.eval,Array.replicate]) ?_;simp only [if_true];refine wpS_of_wp ?_;clear hu;have hta:∀w:World,(Instr.typeAssert (.iface 171 (.agg #[])) 20 171 true).run prog w = .ok (.tuple #[.agg #[],.bool true]) w:=λ_=>by kernel_rfl
 have hsz1:pb+1<w.heap.size:=(GY.1 h1).1;have hsz2:pb+2<w.heap.size:=(GY.1 h2).1;have h1':(w.alloc (.cells #[] 171)).heap[pb+1]?=some (.cells FI 25 (0,0)):=(CW w _ hsz1).trans h1;have h2':(w.alloc (.cells #[] 171)).heap[pb+2]?=some (.cells #[.bool false] 4 (0,0)):=(CW w _ hsz2).trans h2;have hc0:(w.alloc (.cells #[] 171)).cell? ⟨pb+1,0,none⟩=some (.int .i64 0):=by unfold World.cell?;simp [h1',FI]
 have hz0:(w.alloc (.cells #[] 171)).frozen? ⟨pb+1,0,none⟩=false:=by unfold World.frozen?;simp [h1']
 have hc1:(w.alloc (.cells #[] 171)).cell? ⟨pb+1,1,none⟩=some (.int .i64 0):=by unfold World.cell?;simp [h1',FI]
 have hz1:(w.alloc (.cells #[] 171)).frozen? ⟨pb+1,1,none⟩=false:=by unfold World.frozen?;simp [h1']
 have hc2:(w.alloc (.cells #[] 171)).cell? ⟨pb+1,2,none⟩=some (.string ⟨#[]⟩):=by unfold World.cell?;simp [h1',FI]
 have hz2:(w.alloc (.cells #[] 171)).frozen? ⟨pb+1,2,none⟩=false:=by unfold World.frozen?;simp [h1']
 have hc3:(w.alloc (.cells #[] 171)).cell? ⟨pb+1,3,none⟩=some (.slice none 0 0):=by unfold World.cell?;simp [h1',FI]
 have hz3:(w.alloc (.cells #[] 171)).frozen? ⟨pb+1,3,none⟩=false:=by unfold World.frozen?;simp [h1']
 have hcb:(w.alloc (.cells #[] 171)).cell? ⟨pb+2,0,none⟩=some (.bool false):=by unfold World.cell?;simp [h2']
 have hzb:(w.alloc (.cells #[] 171)).frozen? ⟨pb+2,0,none⟩=false:=by unfold World.frozen?;simp [h2']
 have h2'':((w.alloc (.cells #[] 171)).setRow (pb+1) FI).heap[pb+2]?=some (.cells #[.bool false] 4 (0,0)):=(setRow_other _ _ _ _ (by omega)).trans h2';have hcb':((w.alloc (.cells #[] 171)).setRow (pb+1) FI).cell? ⟨pb+2,0,none⟩=some (.bool false):=by unfold World.cell?;simp [h2'']
 have hzb':((w.alloc (.cells #[] 171)).setRow (pb+1) FI).frozen? ⟨pb+2,0,none⟩=false:=by unfold World.frozen?;simp [h2'']
 refine wp_seq (wp_mono (Q:=λe a' w'=>e = .normal/\w'=(w.alloc (.cells #[] 171))/\∃t2 t3 t4 t5 t6 t7 t8 t9 t10 t11 t12 t13 t14 t15 t16,a'={ tmps:=#[.pointer (some ⟨pb+1,0,none⟩),.pointer (some ⟨pb+2,0,none⟩),t2,t3,t4,t5,t6,t7,t8,t9,t10,t11,t12,t13,t14,t15,t16],defers:=[] }) ?_ ?_)
 ·go_wp2
 ·rintro e a' w' ⟨rfl,rfl,t2,t3,t4,t5,t6,t7,t8,t9,t10,t11,t12,t13,t14,t15,t16,rfl⟩;have hbuilt:(prog.built 25 []).getD #[]=FI:=by kernel_rfl
  simp only [Exit.then];refine wp_region_lit<|wpList_build rfl 25 #[] rfl (by kernel_rfl)<|wpList_store_row rfl 25 (.tmp 0) (.tmp 16) rfl (pb+1) FI rfl (by simp [Act.put,Act.eval,hbuilt]) 25 FI h1' (by kernel_rfl) rfl (by simp [FI];decide) ?_
  go_wp2
  have hset:=E0 (v:=.bool false) h2'';have hsz:((w.alloc (.cells #[] 171)).setRow (pb+1) FI).heap.size=w.heap.size+1:=by rw [setRow_size];simp
  rw [hset];refine ⟨rfl,_,rfl,.tuple #[],by simp [results,Tryz.results119],rfl,rfl,⟨rfl,rfl,rfl,?_,λb hb hb1 hb2=>?_⟩,?_,?_⟩
  ·simp [setRow_size]
  ·show (Array.setIfInBounds _ (pb+2) _)[b]?=_;rw [Gj (by omega),setRow_other _ _ _ _ hb1,CW w _ hb]
  ·show (Array.setIfInBounds _ (pb+2) _)[pb+1]?=_;rw [Gj (by omega)];have:=setRow_heap (w.alloc (.cells #[] 171)) (pb+1) FI FI _ _ h1';exact this
  ·show (Array.setIfInBounds _ (pb+2) _)[pb+2]?=_;rw [qL (by omega)]
def Gp (w:World) (a b c d:Value):World:=(((w.alloc (.cells #[a,b,c,d] 25)).alloc (.cells FI 25)).alloc (.cells #[.bool false] 4)).alloc (.cells #[.int .i64 12] 3)
theorem Na (sp a b c d:Value) (h1:a.oneCell'=true/\b.oneCell'=true/\c.oneCell'=true/\d.oneCell'=true) (w:World) (K:Value->World->Prop) (Kp:World->Prop)
  (hcall:Tq6 120 #[sp,.agg #[a,b,c,d],.pointer (some ⟨w.heap.size+3,0,none⟩)] (Gp w a b c d) λe w'=>match e with
   | .returned u=>K u w'
   | .panicked chain=>chain=[{ v:=.iface 171 (.agg #[]),recovered:=false }]/\Kp w'
   | .outgrown=>False)
  (hK:∀u w',K u w'->(∃us:Array Value,u = .agg us/\us.size=4/\us.all (·.oneCell')=true)/\w'.heap[w.heap.size+1]?=some (.cells FI 25 (0,0))/\w'.heap[w.heap.size+2]?=some (.cells #[.bool false] 4 (0,0)))
  (hKp:∀w',Kp w'->w'.heap[w.heap.size+1]?=some (.cells FI 25 (0,0))/\w'.heap[w.heap.size+2]?=some (.cells #[.bool false] 4 (0,0))) :
  Tq6 58 #[sp,.agg #[a,b,c,d]] w λe w'=>(∃u w1,K u w1/\e = .returned (.tuple #[u,.bool true])/\yO w.heap.size w1 w')\/(∃w1,Kp w1/\e = .returned (.tuple #[.agg FI,.bool false])/\yO w.heap.size w1 w'):=by
 go_enter_defers func58,Tryz.ntmps58
 have hmf:=zcu
 go_wp2_with fail
 refine Calls.mono hcall ?_;intro e w' he;cases e with
 | outgrown=>exact he.elim
 | returned u =>
  obtain ⟨⟨us,rfl,hus,hone⟩,q1,q2⟩:=hK u w' he;have q2':(w'.setRow (w.heap.size+1) us).heap[w.heap.size+2]?=some (.cells #[.bool false] 4 (0,0)):=(setRow_other _ _ _ _ (by omega)).trans q2;have hcb:(w'.setRow (w.heap.size+1) us).cell? ⟨w.heap.size+1+1,0,none⟩=some (.bool false):=by unfold World.cell?;simp [q2']
  have hzb:(w'.setRow (w.heap.size+1) us).frozen? ⟨w.heap.size+1+1,0,none⟩=false:=by unfold World.frozen?;simp [q2']
  simp only;rename_i Kr hKr Ks hKs;apply hKs;refine wpList_store_row rfl 25 (.tmp 4) (.tmp 10) rfl (w.heap.size+1) us rfl rfl 25 FI q1 ?_ (by rw [hus];rfl) hone ?_
  ·rw [hus];kernel_rfl
  go_wp2
  have hset:=E0 (v:=.bool true) q2';have hsz:w.heap.size+2<w'.heap.size:=(GY.1 q2).1;have hlo:(loadVar 25 ⟨w.heap.size+1,0,none⟩).run prog ((w'.setRow (w.heap.size+1) us).setCell ⟨w.heap.size+1+1,0,none⟩ (.bool true)) = .ok (.agg us) ((w'.setRow (w.heap.size+1) us).setCell ⟨w.heap.size+1+1,0,none⟩ (.bool true)):=by
   obtain ⟨fs,hfs,_⟩:=(ttY_ok 25 _ rfl).sh;refine run_loadVar_row _ _ 25 _ us (0,0) _ ?_ hfs rfl (by rw [hus];kernel_rfl);show ((w'.setRow (w.heap.size+1) us).setCell ⟨w.heap.size+2,0,none⟩ (.bool true)).heap[w.heap.size+1]?=_;rw [hset];show (Array.setIfInBounds _ (w.heap.size+2) _)[w.heap.size+1]?=_;rw [Gj (by omega)];exact setRow_heap w' (w.heap.size+1) FI us _ _ q1
  have hlb:((w'.setRow (w.heap.size+1) us).setCell ⟨w.heap.size+1+1,0,none⟩ (.bool true)).cell? ⟨w.heap.size+1+1,0,none⟩=some (.bool true):=by
   show ((w'.setRow (w.heap.size+1) us).setCell ⟨w.heap.size+2,0,none⟩ (.bool true)).cell? ⟨w.heap.size+2,0,none⟩=_;rw [hset];unfold World.cell?;simp [setRow_size,hsz]
  have hlb2:(loadVar 4 ⟨w.heap.size+1+1,0,none⟩).run prog ((w'.setRow (w.heap.size+1) us).setCell ⟨w.heap.size+1+1,0,none⟩ (.bool true)) = .ok (.bool true) ((w'.setRow (w.heap.size+1) us).setCell ⟨w.heap.size+1+1,0,none⟩ (.bool true)):=by simp [go_sem,hlb]
  refine leaves_cons (f:=119) (args:=#[.pointer (some ⟨w.heap.size+1,0,none⟩),.pointer (some ⟨w.heap.size+1+1,0,none⟩)]) (by simp) (by simp [go_sem])<|(Wd _ _ _).mono ?_;rintro e u' w'' ⟨rfl,rfl,rfl⟩;simp [Leaves,settle,results,Tryz.results58,asAddr,hlo,hlb2];refine ⟨_,w',he,rfl,?_⟩;show yO _ w' ((w'.setRow (w.heap.size+1) us).setCell ⟨w.heap.size+2,0,none⟩ (.bool true));rw [hset];refine ⟨rfl,rfl,rfl,by simp [setRow_size],λb hb hb1 hb2=>?_⟩;show (Array.setIfInBounds _ (w.heap.size+2) _)[b]?=_;rw [Gj (by omega),setRow_other _ _ _ _ hb1]
 | panicked chain =>
  obtain ⟨rfl,he⟩:=he;obtain ⟨q1,q2⟩:=hKp w' he;simp only;refine leaves_cons (f:=119) (args:=#[.pointer (some ⟨w.heap.size+1,0,none⟩),.pointer (some ⟨w.heap.size+1+1,0,none⟩)]) (by simp) (by simp [go_sem])<|(UA w.heap.size _ q1 q2).mono ?_;rintro e u' w'' ⟨rfl,rfl,hn,p1,p2⟩;have hlo:(loadVar 25 ⟨w.heap.size+1,0,none⟩).run prog w'' = .ok (.agg FI) w'':=by
   obtain ⟨fs,hfs,_⟩:=(ttY_ok 25 _ rfl).sh;exact run_loadVar_row _ _ 25 _ FI (0,0) _ p1 hfs rfl (by kernel_rfl)
  have hlb:w''.cell? ⟨w.heap.size+1+1,0,none⟩=some (.bool false):=by unfold World.cell?;simp [p2]
  have hlb2:(loadVar 4 ⟨w.heap.size+1+1,0,none⟩).run prog w'' = .ok (.bool false) w'':=by simp [go_sem,hlb]
  simp [Leaves,settle,results,Tryz.results58,asAddr,hlo,hlb2];exact ⟨w',he,hn⟩
theorem Hr:∀{st:St} {i:Nat} {b:Blk},A1 st i b->i∈D8 st
 | [],i,b,h=>by simp [A1,lk] at h
 | (k,y)::r,i,b,h=>by
  by_cases hk:k=i
  ·subst hk;simp [D8]
  ·have:A1 r i b:=by unfold A1 at h ⊢;rwa [A6 _ _ hk] at h
   simp only [D8,C6,Cy];exact .inr (Hr this)
theorem StRep.restr (hst:StRep I μ st ids w) (hn:∀i∈F4 st,i∈D8 st) (hl:l.Nodup) (hf:∀i∈l,i∉D8 st) :
  ∃ν:Mu,(∀i∈D8 st,ν i=μ i)/\StRep I ν st l w/\∀b,Bq ν st b↔Bq μ st b:=by
 obtain ⟨ν,hν⟩:∃ν:Mu,ν=λi=>if Fp (D8 st) i=true then μ i else none:=⟨_,rfl⟩
 have hν1:∀i∈D8 st,ν i=μ i:=λi hi=>by rw [hν];simp [BT.2 hi]
 refine ⟨ν,hν1,?_,λb=>?_⟩
 ·refine { imm:=hst.imm,blk:=λi b hl=>?_,apart:=λi bb g k hl hg hk=>hst.apart i bb g k hl (by rw [<- hν1 i (Hr hl)];exact hg) hk,inj:=λi j bi bj gi gj k hi hj hgi hgj=>hst.inj i j bi bj gi gj k hi hj (by rw [<- hν1 i (Hr hi)];exact hgi) (by rw [<- hν1 j (Hr hj)];exact hgj),nodup:=hl,idsFree:=λi hi=>?_ }
  ·obtain ⟨g,hg,hr⟩:=hst.blk i b hl;refine ⟨g,by rw [hν1 i (Hr hl)];exact hg,hr.sub λj hj g hgj=>?_⟩;rw [hν1 j (hn j ((EV hl).2 j hj))];exact hgj
  ·rw [hν];have:=hf i hi;have hm:Fp (D8 st) i=false:=by
    cases h:Fp (D8 st) i with
    | false=>rfl
    | true=>exact absurd (BT.1 h) this
   simp [hm]
 ·constructor <;> rintro ⟨i,bi,g,h1,h2,h3⟩
  ·exact ⟨i,bi,g,h1,by rw [<- hν1 i (Hr h1)];exact h2,h3⟩
  ·exact ⟨i,bi,g,h1,by rw [hν1 i (Hr h1)];exact h2,h3⟩
theorem O5 (w:World) (a b c d:Value):(Gp w a b c d).heap.size=w.heap.size+4:=by simp [Gp]
theorem Qm (w:World) (a b c d:Value) (h:i<w.heap.size):(Gp w a b c d).heap[i]?=w.heap[i]?:=by
 unfold Gp;rw [CW _ _ (by simp;omega),CW _ _ (by simp;omega),CW _ _ (by simp;omega),CW _ _ h]
theorem Ql (w:World) (a b c d:Value):(Gp w a b c d).heap[w.heap.size+1]?=some (.cells FI 25 (0,0)):=by
 unfold Gp;rw [CW _ _ (by simp),CW _ _ (by simp)];have:=EC (w.alloc (.cells #[a,b,c,d] 25)) (.cells FI 25);simpa using this
theorem SW (w:World) (a b c d:Value):(Gp w a b c d).heap[w.heap.size+2]?=some (.cells #[.bool false] 4 (0,0)):=by
 unfold Gp;rw [CW _ _ (by simp)];have:=EC ((w.alloc (.cells #[a,b,c,d] 25)).alloc (.cells FI 25)) (.cells #[.bool false] 4);simpa using this
theorem YN (m:Md) (T:List (Int×Ty)) (k:Int) (S:List Ty):(∀i∈F4 (CP m T k S),i∈D8 (CP m T k S))/\D8 (CP m T k S)=[1,2,3]:=⟨F8 (a:=F4 (CP m T k S)) (b:=D8 (CP m T k S)) rfl,rfl⟩
theorem SR {k:Int} {sp a b c d:Value} {t:Ty} (hst:StRep I μ (CP m T k S) [] w) (h1:RepD I μ sp (.ref 1 0)) (h2:RepV I (.agg #[a,b,c,d]) (.agg (dTyc t))) :
  ∃μ1:Mu,StRep I μ1 (Ic m T k S 12) [] (Gp w a b c d)/\RepL I μ1 #[sp,.agg #[a,b,c,d],.pointer (some ⟨w.heap.size+3,0,none⟩)].toList [.ref 1 0,.imm (.agg (dTyc t)),.ref 4 0]/\Pin [1,2,3] μ μ1 /\
   (∀i,Bq μ1 (Ic m T k S 12) i->i=w.heap.size+3\/Bq μ (CP m T k S) i)/\(∀i,Bq μ (CP m T k S) i->i<w.heap.size)/\∀i,w.heap.size<=i->I i=none:=by
 obtain ⟨n1,n2⟩:=YN m T k S;obtain ⟨ν,hν,hst1,hown⟩:=hst.restr (l:=[4]) n1 (by simp) (λi hi=>by rw [n2,AP.1 hi];decide);have hlt:∀i o,I i=some o->i<w.heap.size:=λi o h=>(GY.1 (hst.imm i o h)).1;have hol:∀i,Bq μ (CP m T k S) i->i<w.heap.size:=λi h=>Em hst h;obtain ⟨w3,hw3⟩:∃w3,w3=((w.alloc (.cells #[a,b,c,d] 25)).alloc (.cells FI 25)).alloc (.cells #[.bool false] 4):=⟨_,rfl⟩
 have hsz3:w3.heap.size=w.heap.size+3:=by rw [hw3];simp
 have hold:∀i,i<w.heap.size->w3.heap[i]?=w.heap[i]?:=λi hi=>by
  rw [hw3,CW _ _ (by simp;omega),CW _ _ (by simp;omega),CW _ _ hi]
 have hst3:StRep I ν (CP m T k S) [4] w3:=hst1.other (by omega) (λi o h=>hold i (hlt i o h)) (λi h=>hold i (hol i ((hown i).1 h)));have hws:Gp w a b c d=w3.alloc (.cells #[.int .i64 12] 3):=by rw [hw3];rfl
 obtain ⟨μ1,g1,hle,hst4,_⟩:=hst3.allocO (.cells #[.int .i64 12] 3) (.pointer (some ⟨w3.heap.size,0,none⟩)) (λi hi=>hi.symm) (.immb 3 1 [.int .i64 12]) (λμ' _=>⟨rfl,w3.heap.size,#[.int .i64 12],rfl,EC _ _,⟨rfl,λi v x p q=>by
   match i,p,q with
   | 0,p,q=>cases p;cases q;exact .int _ _
   | i+1,p,q=>simp at p⟩,λv hv=>by simp at hv;rw [hv];rfl⟩)
 have hpin:∀i∈[1,2,3],∀v,μ i=some v->μ1 i=some v:=λi hi v hv=>hle i v (by rw [hν i (by rw [n2];exact hi)];exact hv);refine ⟨μ1,by rw [hws];exact hst4,⟨rfl,λi v dd p q=>?_⟩,hpin,λi ⟨j,bj,g,q1,q2,q3⟩=>?_,hol,λi hi=>?_⟩
 ·match i,p,q with
  | 0,p,q =>
   cases p;cases q;cases h1 with
   | ref b id off hm=>exact .ref b 1 0 (hpin 1 (by decide) _ hm)
  | 1,p,q=>cases p;cases q;exact .imm _ _ h2
  | 2,p,q=>cases p;cases q;exact .ref _ 4 0 (by rw [<- hsz3];exact g1)
  | i+3,p,q=>simp at p
 ·rcases AB.1 q1 with ⟨rfl,rfl⟩ | ⟨hne,q1⟩
  ·rw [g1] at q2;cases q2;left;have:w3.heap.size=i:=q3;omega
  ·right;have hj:=Hr q1;obtain ⟨g0,hg0,_⟩:=hst3.blk j bj q1;have:=hle j g0 hg0;rw [q2] at this;cases this;exact (hown i).1 ⟨j,bj,g,q1,hg0,q3⟩
 ·cases h:I i with
  | none=>rfl
  | some o=>have:=hlt i o h;omega
theorem Qi {xs:Array Value} {t:Ty} (hxs:RepL I μ xs.toList [.ref 1 0,.imm (.agg (dTyc t))]) :
  ∃sp a b c d,xs = #[sp,.agg #[a,b,c,d]]/\RepD I μ sp (.ref 1 0)/\RepV I (.agg #[a,b,c,d]) (.agg (dTyc t))/\a.oneCell'=true/\b.oneCell'=true/\c.oneCell'=true/\d.oneCell'=true:=by
 obtain ⟨l,rfl⟩:∃l:List Value,xs=l.toArray:=⟨xs.toList,by simp⟩
 rw [MT] at hxs
 match l,hxs with
 | [v,u],hxs =>
  have h1:=hxs.2 0 v _ rfl rfl;have h2:=(hxs.2 1 u _ rfl rfl).immInv;have key:∀u,RepV I u (.agg (dTyc t))->∃a b c d,u = .agg #[a,b,c,d]/\a.oneCell'=true/\b.oneCell'=true/\c.oneCell'=true/\d.oneCell'=true:=λu hu=>by
   cases hu with
   | agg cs _ hl h1 _ =>
    have hl4:cs.toList.length=4:=by rw [TP,hl];obtain ⟨t1,t2,t3,t4⟩:=t;rfl
    obtain ⟨l,rfl⟩:∃l:List Value,cs=l.toArray:=⟨cs.toList,by simp⟩
    rw [MT] at hl4 h1
    match l,hl4,h1 with
    | [a,b,c,d],_,h1=>exact ⟨a,b,c,d,rfl,h1 a (by simp),h1 b (by simp),h1 c (by simp),h1 d (by simp)⟩
  obtain ⟨a,b,c,d,rfl,q⟩:=key u h2;exact ⟨v,a,b,c,d,rfl,h1,h2,q⟩
 | [],hxs=>exact absurd hxs.1 (by simp)
 | [_],hxs=>exact absurd hxs.1 (by simp)
 | _::_::_::_,hxs=>exact absurd hxs.1 (by simp)
theorem gO {k:Int} {t u:Ty} {c':Int} (hF:Si m T k S t 12 u c') :
  Tq4 58 [.ref 1 0,.imm (.agg (dTyc t))] (CP m T k S) (.ret (.imm (.tup [.agg (dTyc u),.bool true])) (CP m T k S)):=by
 intro I μ w xs hst hxs;obtain ⟨sp,a,b,c,d,rfl,h1,h2,hone⟩:=Qi hxs;obtain ⟨μ1,hst1,hx1,hpin,hown,hol,hIn⟩:=SR hst h1 h2;rw [B1 func58 (by decide +kernel) rfl];unfold Si at hF;have hcall:=hF I μ1 _ _ hst1 hx1;rw [B1 func120 (by decide +kernel) rfl] at hcall;show Tq6 _ _ w _;have hno1:¬Bq μ1 (Ic m T k S 12) (w.heap.size+1):=λh=>by
  rcases hown _ h with h | h
  ·omega
  ·have:=hol _ h;omega
 have hno2:¬Bq μ1 (Ic m T k S 12) (w.heap.size+2):=λh=>by
  rcases hown _ h with h | h
  ·omega
  ·have:=hol _ h;omega
 have hws:=O5 w a b c d;refine Calls.mono (Na sp a b c d hone w (λv w'=>∃I' μ',RepD I' μ' v (.imm (.agg (dTyc u)))/\StRep I' μ' (Ic m T k S c') [] w'/\Pin (D8 (Ic m T k S 12)) μ1 μ'/\Ext I μ1 (Ic m T k S 12) (Gp w a b c d) I' μ' (Ic m T k S c') w') (λ_=>False) (Calls.mono hcall λe w' he=>?_) (λv w' ⟨I',μ',q1,q2,q3,q4⟩=>⟨?_,?_,?_⟩) (λ_ h=>h.elim)) ?_
 ·cases e with
  | returned v=>exact he
  | panicked=>exact he.elim
  | outgrown=>exact he.elim
 ·have key:∀v,RepV I' v (.agg (dTyc u))->∃us:Array Value,v = .agg us/\us.size=4/\us.all (·.oneCell')=true:=λv hv=>by
   cases hv with
   | agg cs _ hl h1 _=>exact ⟨cs,rfl,by rw [hl];obtain ⟨u1,u2,u3,u4⟩:=u;rfl,by rw [Array.all_eq_true_iff_forall_mem];exact λx hx=>h1 x (by simpa using hx)⟩
  exact key v q1.immInv
 ·exact (q4.block _ (by omega) hno1).trans (Ql w a b c d)
 ·exact (q4.block _ (by omega) hno2).trans (SW w a b c d)
 ·rintro e w2 (⟨v,w1,⟨I',μ',q1,q2,q3,q4⟩,rfl,n1,n2,n3,n4,n5⟩ | ⟨_,hx,_⟩)
  ·have hI1:I' (w.heap.size+1)=none:=(q4.old _ (by omega) hno1).trans (hIn _ (by omega));have hI2:I' (w.heap.size+2)=none:=(q4.old _ (by omega) hno2).trans (hIn _ (by omega));have hsub:∀i bi,A1 (CP m T k S) i bi->A1 (Ic m T k S c') i bi:=λi bi hl=>AB.2 (.inr ⟨λe=>by
    have:=Hr hl;rw [(YN m T k S).2] at this;simp only [Cy,LZ,or_false] at this;omega,hl⟩)
   have hosub:∀i,Bq μ' (CP m T k S) i->Bq μ' (Ic m T k S c') i:=λi ⟨j,bj,g,p1,p2,p3⟩=>⟨j,bj,g,hsub j bj p1,p2,p3⟩
   have hfr:∀i,Bq μ' (Ic m T k S c') i->i≠w.heap.size+1/\i≠w.heap.size+2:=λi hi=>⟨λe=>hno1 (e ▸ q4.fresh i (by omega) hi),λe=>hno2 (e ▸ q4.fresh i (by omega) hi)⟩
   refine ⟨I',μ',?_,?_,?_,?_⟩
   ·refine .imm _ _ (.tup _ _ rfl λi y x p q=>?_)
    match i,p,q with
    | 0,p,q=>cases p;cases q;exact q1.immInv
    | 1,p,q=>cases p;cases q;exact .bool true
    | i+2,p,q=>simp at p
   ·refine (q2.less hsub .nil (λi hi=>by cases hi)).other n4 (λi o h=>?_) (λi h=>?_)
    ·exact n5 i (GY.1 (q2.imm i o h)).1 (λe=>by rw [e,hI1] at h;cases h) (λe=>by rw [e,hI2] at h;cases h)
    ·have:=hfr i (hosub i h);exact n5 i (Em q2 (hosub i h)) this.1 this.2
   ·intro i hi x hx;rw [(YN m T k S).2] at hi;exact q3 i (Ip _ hi) x (hpin i hi x hx)
   ·have hnot:∀i,i<w.heap.size->¬Bq μ (CP m T k S) i->¬Bq μ1 (Ic m T k S 12) i:=λi hi ho h=>by
     rcases hown i h with h | h
     ·omega
     ·exact ho h
    exact { imm:=q4.imm,os:=n1.trans q4.os,tape:=n2.trans q4.tape,output:=n3.trans q4.output,size:=by have:=q4.size;omega,
            block:=λi hi ho=>(n5 i (by have:=q4.size;omega) (by omega) (by omega)).trans ((q4.block i (by omega) (hnot i hi ho)).trans (Qm w a b c d hi)),
            fresh:=λi hi ho=>(hown i (q4.fresh i (by omega) (hosub i ho))).elim (λe=>by omega) id,
            old:=λi hi ho=>q4.old i (by omega) (hnot i hi ho) }
  ·exact hx.elim
theorem mM {k:Int} {t:Ty} (hF:VW m T k S t 12) :
  Tq4 58 [.ref 1 0,.imm (.agg (dTyc t))] (CP m T k S) (.ret (.imm (.tup [.agg (dTyc Hi),.bool false])) []):=by
 intro I μ w xs hst hxs;obtain ⟨sp,a,b,c,d,rfl,h1,h2,hone⟩:=Qi hxs;obtain ⟨μ1,hst1,hx1,hpin,hown,hol,hIn⟩:=SR hst h1 h2;rw [B1 func58 (by decide +kernel) rfl];unfold VW at hF;have hcall:=hF I μ1 _ _ hst1 hx1;rw [B1 func120 (by decide +kernel) rfl] at hcall;show Tq6 _ _ w _;have hno1:¬Bq μ1 (Ic m T k S 12) (w.heap.size+1):=λh=>by
  rcases hown _ h with h | h
  ·omega
  ·have:=hol _ h;omega
 have hno2:¬Bq μ1 (Ic m T k S 12) (w.heap.size+2):=λh=>by
  rcases hown _ h with h | h
  ·omega
  ·have:=hol _ h;omega
 have hws:=O5 w a b c d;refine Calls.mono (Na sp a b c d hone w (λ_ _=>False) (λw'=>∃I',I'.ok w'/\Ext I μ1 (Ic m T k S 12) (Gp w a b c d) I' μ1 [] w') (Calls.mono hcall λe w' he=>?_) (λ_ _ h=>h.elim) (λw' ⟨I',q2,q4⟩=>⟨?_,?_⟩)) ?_
 ·cases e with
  | returned v=>exact he.elim
  | panicked chain =>
   obtain ⟨v,x,I',e1,e2,e3,e4,e5⟩:=he;subst e2;have key:∀v,RepV I' v rI->v = .iface 171 (.agg #[]):=λv hv=>by
    cases hv with
    | iface _ v' _ hv =>
     cases hv with
     | agg cs _ hl _ _ =>
      have:cs = #[]:=ZH (by simpa using hl);subst this;rfl
   rw [key v e3] at e1;exact ⟨e1,I',e4,e5⟩
  | outgrown=>exact he.elim
 ·exact (q4.block _ (by omega) hno1).trans (Ql w a b c d)
 ·exact (q4.block _ (by omega) hno2).trans (SW w a b c d)
 ·rintro e w2 (⟨_,_,hx,_⟩ | ⟨w1,⟨I',q2,q4⟩,rfl,n1,n2,n3,n4,n5⟩)
  ·exact hx.elim
  ·have hI1:I' (w.heap.size+1)=none:=(q4.old _ (by omega) hno1).trans (hIn _ (by omega));have hI2:I' (w.heap.size+2)=none:=(q4.old _ (by omega) hno2).trans (hIn _ (by omega));have hnot:∀i,i<w.heap.size->¬Bq μ (CP m T k S) i->¬Bq μ1 (Ic m T k S 12) i:=λi hi ho h=>by
    rcases hown i h with h | h
    ·omega
    ·exact ho h
   refine ⟨I',μ,?_,?_,Pin.refl _ _,?_⟩
   ·refine .imm _ _ (.tup _ _ rfl λi y x p q=>?_)
    match i,p,q with
    | 0,p,q =>
     cases p;cases q;exact Ie I'
    | 1,p,q=>cases p;cases q;exact .bool false
    | i+2,p,q=>simp at p
   ·exact { imm:=λi o h=>(n5 i (GY.1 (q2 i o h)).1 (λe=>by rw [e,hI1] at h;cases h) (λe=>by rw [e,hI2] at h;cases h)).trans (q2 i o h),blk:=λid blk hl=>(by cases hl),apart:=λid blk g b hl=>(by cases hl),inj:=λi j bi bj gi gj b hl=>(by cases hl),nodup:=.nil,idsFree:=λid hi=>(by cases hi) }
   ·exact { imm:=q4.imm,os:=n1.trans q4.os,tape:=n2.trans q4.tape,output:=n3.trans q4.output,size:=by have:=q4.size;omega,
            block:=λi hi ho=>(n5 i (by have:=q4.size;omega) (by omega) (by omega)).trans ((q4.block i (by omega) (hnot i hi ho)).trans (Qm w a b c d hi)),
            fresh:=λi hi ⟨j,bj,g,hl,_⟩=>(by cases hl),
            old:=λi hi ho=>q4.old i (by omega) (hnot i hi ho) }
theorem GI (m:Md) (k:Int):Tq4 54 [.imm (.agg (dMdc m)),.imm (.int .i64 k)] [] (.ret (.ref 1 0) (CP m [] k [])):=by
 obtain ⟨m1,m2,m3⟩:=m;exact Ad ttY_ok func54 rfl [4,2,1,3,5,6]<|Ai rfl<|EF rfl<|ND 4 rfl (by simp)<|Ef 1 3 (e:=25) (sz:=4) [.imm (.str m1),.imm (.sl (m2.map C7)),.imm (.sl (m3.map CG)),.mapr 2,.imm (.int .i64 k),.own 3 0] (by decide) rfl ⟨.inl rfl,.inl rfl,.inl rfl,.inl rfl,.inl rfl,.inr ⟨rfl,rfl⟩,trivial⟩<|As rfl<|Ah ⟨_,B6⟩
mutual
theorem QK:∀t:Ty,Bl t=EK t
 | .mk _ _ _ ps=>by simp only [Bl,EK,TH ps]
theorem TH:∀ps:List Ty,A2 ps=DB ps
 | []=>rfl
 | t::r=>by simp only [A2,DB,QK t,TH r]
end
theorem lC {t:Ty} (h:AO true t=true):EK t<=12:=by
 simp only [AO,Ap,decide_eq_true_eq] at h;rw [<- QK];exact h.1
theorem SS {k:Int} (hs:Sol (BG T) θ) {t:Ty} (hw:Ck t=true) :
  (EK (A8 θ t)<=12->Tq4 58 [.ref 1 0,.imm (.agg (dTyc t))] (CP m T k S) (.ret (.imm (.tup [.agg (dTyc (A8 θ t)),.bool true])) (CP m T k S))) /\
  (12<EK (A8 θ t)->Tq4 58 [.ref 1 0,.imm (.agg (dTyc t))] (CP m T k S) (.ret (.imm (.tup [.agg (dTyc Hi),.bool false])) [])):=by
 obtain ⟨h1,h2⟩:=sS m T k S hs _ t (BQ _) hw 12 (by omega) (by omega);exact ⟨λh=>gO (h1 (by omega)),λh=>mM (h2 (by omega))⟩
def jG:List (Int×Ty)->Int
 | []=>-1
 | p::r=>max p.1 (jG r)
theorem pV {x:Int}:∀{T:List (Int×Ty)},(∀p∈T,p.1<=x)->(x = -1\/∃p∈T,p.1=x)->(∀p∈T,0<=p.1) -> -1<=x->jG T=x:=by
 have hle:∀{T:List (Int×Ty)},-1<=x->(∀p∈T,p.1<=x)->jG T<=x:=λ{T} hx h=>by
  induction T with
  | nil=>simpa [jG] using hx
  | cons p r ih=>simp only [jG];have:=h p (by simp);have:=ih λq hq=>h q (by simp [hq]);omega
 have hge:∀{T:List (Int×Ty)},(∃p∈T,p.1=x)->x<=jG T:=λ{T} h=>by
  induction T with
  | nil=>obtain ⟨p,hp,_⟩:=h;cases hp
  | cons p r ih =>
   obtain ⟨q,hq,e⟩:=h;simp only [jG];rcases Cy.1 hq with rfl | hq
   ·omega
   ·have:=ih ⟨q,hq,e⟩;omega
 have hm1:∀{T:List (Int×Ty)},-1<=jG T:=λ{T}=>by
  induction T with
  | nil=>simp [jG]
  | cons p r ih=>simp only [jG];omega
 intro T h1 h2 h3 h4;have:=hle h4 h1;rcases h2 with rfl | h2
 ·have:=@hm1 T;omega
 ·have:=hge h2;omega
noncomputable def mV (T:List (Int×Ty)) (θ:Int->Ty):List Ty:=(List.range (jG T+1).toNat).map λi:Nat=>θ i
def Es (n:Int):V:=.int .i64 n
def wL:Md:=⟨[],[],[]⟩
theorem eJ (h:RepD I μ v .nils):RepV I v (.sl []):=by
 cases h;exact .slnil
theorem wK (h:RepD I μ v (.agg [.imm (.str []),.nils,.nils])):RepD I μ v (.imm (.agg (dMdc wL))):=by
 cases h with
 | agg cs _ hl h1 h =>
  refine .imm _ _ (.agg cs _ hl h1 λi c x hc hx=>?_)
  match i,hx with
  | 0,hx=>cases hx;exact (h 0 c _ hc rfl).immInv
  | 1,hx=>cases hx;exact eJ (h 1 c _ hc rfl)
  | 2,hx=>cases hx;exact eJ (h 2 c _ hc rfl)
  | i+3,hx=>simp [dMdc] at hx
theorem LB:Tq4 54 [.agg [.imm (.str []),.nils,.nils],.imm (.int .i64 0)] [] (.ret (.ref 1 0) (CP wL [] 0 [])):=λI μ w xs hst hx=>GI wL 0 I μ w xs hst ⟨hx.1,λi v d p q=>by
 match i,q with
 | 0,q=>cases q;exact wK (hx.2 0 v _ p rfl)
 | 1,q=>cases q;exact hx.2 1 v _ p rfl
 | i+2,q=>simp at q⟩
theorem kN (a b:Ty) (h:(AO true a&&AO true b)=true) (hE:DU wL [] 0 [] a b):Tq3 13 [.agg (dTyc a),.agg (dTyc b)] (.tup [.sl [],Es 7]):=by
 have hK:=FC [a,b];simp only [Dd,Jv,HI] at hK;rw [h] at hK;have hS:=LB;have hH:=Kz func55 (by decide +kernel) rfl FB func56 (by decide +kernel) rfl (df:=[]) (dc:=[.ref 4 0,.ref 5 0,.ref 6 0]) (gS hE);obtain ⟨a1,a2,a3,a4⟩:=a;obtain ⟨b1,b2,b3,b4⟩:=b;exact Ad ttY_ok func13 rfl [5,6,1,2,3,4,7]<|Ai rfl<|Af rfl hK<|Ai rfl<|Ag rfl λh=>As rfl<|Aq [1,2,3] [] [(1,1),(2,2),(3,3)] rfl hS trivial rfl rfl<|Ai rfl<|Aq [] [(1,1),(2,2),(3,3),(4,4),(5,5),(6,6)] [] rfl hH ⟨⟨rfl,rfl,rfl⟩,⟨rfl,rfl,rfl⟩,⟨rfl,rfl,rfl⟩,⟨rfl,rfl,rfl⟩,⟨rfl,rfl,rfl⟩,⟨rfl,rfl,rfl⟩,trivial⟩ rfl rfl<|Ai rfl<|Al rfl λh=>As rfl<|Aa rfl rfl rfl
theorem YT {bs:List Nat} {ks:List Tr} {f n:Int} (his:IT ks ps) (h:(F9 v ks).P vs I w bs) (hle:I.le J) (hJ:∀b∈bs,J b=w.heap[b]?) (cs:List Value) (hc:RepL J noMu cs [.imm (.int .i64 f),.imm (.int .i64 n),.imm (.str x),.raw v]):RepVL J cs (dTyc (.mk f n x ps)):=by
 obtain ⟨h1,h2,h3,h4⟩:=h;have hv:RepV J v (.sl (AA ps)):=W7 h1 h2 (λk hk=>hJ k (by rw [h3];simp [hk])) his λi a t ha ht =>
  eR ((IS.1 his).2 i a t ha ht) (Fr.1 h2 i a ha).2 λk hk=>hJ k (by rw [h3];simp only [BN];exact .inr (MP.2 ⟨a,AF ha,hk⟩))
 obtain ⟨l1,l2⟩:=hc;refine ⟨l1,λi c y hi hy=>?_⟩
 match i,hy with
 | 0,hy=>cases hy;exact (l2 0 c _ hi rfl).immInv
 | 1,hy=>cases hy;exact (l2 1 c _ hi rfl).immInv
 | 2,hy=>cases hy;exact (l2 2 c _ hi rfl).immInv
 | 3,hy =>
  cases hy;have:=l2 3 c _ hi rfl;cases this with
  | raw _ _=>exact hv
 | i+4,hy=>simp at hy
def infE:Env:=[(3,.ref 11 0),(5,.ref 12 0),(6,.ref 13 0),(8,.ref 14 0),(9,.ref 18 0)]
def NC (m:Md) (t:Tm) (Γ:Au) (stay:List Int) (out:V):Prop :=
 Tq2 Tryz.f26.ntmps (D8 []) (JD Wa Tryz.f26.results.toList (.ret (.imm out) [])) [.code (FK Tryz.f26 5)] infE (eV m t Γ stay) [1,2,3,21,22,4,23,24,25,26,27]
theorem Ud (m:Md) (t:Tm) (Γ:Au) (stay:List Int) (hE:Tq4 78 [.ref 5 0,.ref 6 0,.ref 7 0,.ref 8 0] (X7 m Γ t [] 0 [] (dTyc Hi)) (.pan G0)):NC m t Γ stay (.tup [.agg (dTyc Hi),Es 7]):=by
 have hS:=GI m 0;have hH:=Kz func55 (by decide +kernel) rfl FB func78 (by decide +kernel) rfl (df:=[]) (dc:=[.ref 5 0,.ref 6 0,.ref 7 0,.ref 8 0]) hE;clear hE;obtain ⟨m1,m2,m3⟩:=m;obtain ⟨t1,t2,t3,t4,t5⟩:=t;unfold NC;exact As rfl<|Aq [1,2,3] [] [(1,1),(2,2),(3,3)] rfl hS trivial rfl rfl<|ND 6 rfl (by simp)<|RJ 22 (t:=25) (sz:=4) (ds:=[.imm (.int .i64 0),.imm (.int .i64 0),.imm (.str []),.nils]) (dTyc Hi) rfl rfl<|As rfl<|Aq [] [(1,1),(2,2),(3,3),(21,5),(12,6),(14,7),(22,8)] [] rfl hH W2 rfl rfl<|Ai rfl<|Al rfl λh=>As rfl<|Aa rfl rfl rfl
mutual
theorem fD:∀(t:Ty) (l:List Int),(Df t l).length<=l.length+EK t
 | .mk f n x ps,l=>by
  simp only [Df,EK]
  split
  ·split
   ·omega
   ·simp only [B5,Da,Cz];omega
  ·have:=XJ ps l;omega
theorem XJ:∀(ts:List Ty) (l:List Int),(Cn ts l).length<=l.length+DB ts
 | [],l=>by simp [Cn]
 | t::r,l=>by
  simp only [Cn,DB];have h1:=fD t l;have h2:=XJ r (Df t l);omega
end
noncomputable def Nc (stay:List Int) (u:Ty):V :=
 if EK u<=12 then (if AO true (F5 stay (Df u []) u)=true then .tup [.agg (dTyc (F5 stay (Df u []) u)),Es 0] else .tup [.agg (dTyc Hi),Es 3]) else .tup [.agg (dTyc Hi),Es 3]
theorem X5 (m:Md) (t:Tm) (Γ:Au) (stay:List Int) {k:Int} (hE:Tq4 78 [.ref 5 0,.ref 6 0,.ref 7 0,.ref 8 0] (X7 m Γ t [] 0 [] (dTyc Hi)) (.ret (.imm (.tup [])) (zW m Γ t T k S (dTyc τ)))) (hs:Sol (BG T) θ) (hw:Ck τ=true) (hst:stay.length<=1000000):NC m t Γ stay (Nc stay (A8 θ τ)):=by
 have hS:=GI m 0;have hH:=IV func55 (by decide +kernel) rfl FB func78 (by decide +kernel) rfl (df:=[]) (dc:=[.ref 5 0,.ref 6 0,.ref 7 0,.ref 8 0]) hE;clear hE;obtain ⟨w1,w2⟩:=SS (m:=m) (k:=k) (S:=S) hs hw;have huw:Ck (A8 θ τ)=true:=SU (λn=>hs.wfθ n) _ hw;clear hs hw;generalize A8 θ τ=u at *;unfold Nc;obtain ⟨m1,m2,m3⟩:=m;obtain ⟨t1,t2,t3,t4,t5⟩:=t;obtain ⟨a1,a2,a3,a4⟩:=τ;unfold NC
 refine As rfl<|Aq [1,2,3] [] [(1,1),(2,2),(3,3)] rfl hS trivial rfl rfl<|ND 6 rfl (by simp)<|RJ 22 (t:=25) (sz:=4) (ds:=[.imm (.int .i64 0),.imm (.int .i64 0),.imm (.str []),.nils]) (dTyc Hi) rfl rfl<|As rfl<|Aq [4] [(1,1),(2,2),(3,3),(21,5),(12,6),(14,7),(22,8)] [(4,4)] rfl hH W2 rfl rfl<|Ai rfl<|Ag rfl λh=>As rfl ?_;by_cases hsz:EK u<=12
 ·have hW:=w1 hsz;have hC:=Ro u huw;have hgl:(Df u []).length<=1000000:=by have:=fD u [];simp at this;omega
  have hN:=pM stay hst u [] huw hgl;have hF:=FC [F5 stay (Df u []) u];simp only [Dd,Jv,HI] at hF;rw [if_pos hsz];unfold lZ at hN;have e0:tkL stay []=stay:=by simp [tkL]
  have e1:nbS stay []=[(1,some (.cells 123 2 [.mapr 2,.mapr 3])),(2,some (.map (DT stay))),(3,some (.map []))]:=by rw [nbS,e0];rfl
  rw [e1] at hN;obtain ⟨nb,hnb⟩:∃x,nbS stay (Df u [])=[(1,some (.cells 123 2 [.mapr 2,.mapr 3])),(2,some (.map x.1)),(3,some (.map x.2))]:=⟨(_,_),rfl⟩
  rw [hnb] at hN;generalize F5 stay (Df u []) u=v at *;generalize hfo:AO true v=fo at *;clear w1 w2 e0 e1 hgl huw hnb hH;obtain ⟨u1,u2,u3,u4⟩:=u;obtain ⟨v1,v2,v3,v4⟩:=v;refine Aq [] [(1,1),(2,2),(4,3)] [] rfl hW Ay rfl rfl<|Ai rfl<|Ag rfl λh=>As rfl<|A5 (fr:=[24]) [] [(1,24)] [] (nm:=[24]) rfl trivial (by simp) hC trivial rfl trivial rfl rfl rfl<|Ai rfl<|A5 (fr:=[25]) [(17,1),(15,2),(16,3),(24,4)] [(5,25)] [] (nm:=[17,15,16,25,17,15,16,24]) rfl trivial (by simp) hN Kc rfl trivial rfl rfl rfl<|ND 3 rfl (by simp;rfl)<|RI (ids':=[27]) 25 26 (λx:Value×{ ks:List Tr // IT ks v4 }=>[x.1]) (λx=>F9 x.1 x.2.1) rfl (λvs I w bs h=>by obtain ⟨v,ks,h1,h2,h3⟩:=h;exact ⟨(v,⟨ks,h1⟩),h2,h3⟩) λy=>?_
  obtain ⟨vv,⟨ks,his⟩⟩:=y;refine VG 26 23 (dTyc (.mk v1 v2 v3 v4)) rfl rfl (λvs I J w bs h1 h2 h3 cs hc=>YT his h1 h2 h3 cs hc) rfl<|As rfl<|Af rfl hF<|Ai rfl ?_;cases fo with
  | false =>
   exact Al rfl λh=>As rfl<|Aa rfl rfl rfl
  | true =>
   exact Ag rfl λh=>As rfl<|Aa rfl rfl rfl
 ·have hW:=w2 (by omega);rw [if_neg hsz];exact Aq [] [(1,1),(2,2),(4,3)] [] rfl hW Ay rfl rfl<|Ai rfl<|Al rfl λh=>As rfl<|Aa rfl rfl rfl
def Is (m:Md) (Γ:Au) (t:Tm):Bool:=Hc m&&decide (Γ.length<=20)&&Γ.all Oj&&G3 t
theorem Od (m:Md) (Γ:Au) (t:Tm) (h:Is m Γ t=true) (hw:∀p∈Γ,Ck p.2=true) {out:V} (hT:NC m t (Mj Γ) (GC Γ []) out):Tq3 26 [.agg (dMdc m),.sl (D5 Γ),.agg (dTmc t)] out:=by
 have hM:=Gd m;have hA:=rY Γ 72 Oj λp _=>bB p;have hC:=YA t;unfold Is at h;simp only [Ap,decide_eq_true_eq] at h;obtain ⟨⟨⟨q1,q2⟩,q3⟩,q4⟩:=h;unfold SI at hM hC;rw [q1] at hM;rw [q3] at hA;rw [q4] at hC;clear q1 q3 q4;have hlen:(D5 Γ).length=Γ.length:=dKns_length Γ;obtain ⟨m1,m2,m3⟩:=m;obtain ⟨t1,t2,t3,t4,t5⟩:=t;refine Ad ttY_ok func26 rfl [11,12,13,14,15,16,17,18,19,6,1,2,3,4,21,22,23,24,25,26,27]<|Ai rfl<|Af rfl hM<|BH rfl<|AI rfl hA<|BH rfl<|AI rfl hC<|BH rfl<|Ab rfl (λhh=>?_) (λhh=>?_)
 ·exfalso;rw [hlen] at hh;have:decide ((20:Int)<Γ.length)=false:=decide_eq_false (by omega);simp [this] at hh
 refine As rfl<|EF rfl<|Ai rfl<|EF rfl<|ND 6 rfl (by simp)<|RJ 14 (t:=118) (sz:=1) (ds:=[.nils]) [.sl []] rfl rfl<|As rfl<|Ak (λi:Nat=>inE Γ i) (λi=>eV ⟨m1,m2,m3⟩ (.mk t1 t2 t3 t4 t5) (Mj (Γ.take i)) (GC (Γ.take i) [])) [19,6,1,2,3,21,22,4,23,24,25,26,27] (λi=>Γ.length-i) (λi=>i<=Γ.length) 0 (AJ _)
  ⟨rfl,BB (by simp),GU⟩ OK rfl λi hi ih=>?_
 refine As rfl<|Ab rfl (λh=>?_) (λh=>?_)
 ·have hlt:i<Γ.length:=by simp at h;omega
  obtain ⟨p,hp⟩:=Ao hlt;have hg:=RO hp;have hpm:=AF hp;have hF:=Xu p.2 (hw p hpm);have hW:=Ko (Mj (Γ.take i)) p.1 (FW p.2) (by simp [Mj];omega);have hN:=TV p.2;have hih:=ih (i+1) (by omega) (by omega);have hgv:=Wi p.2 (GC (Γ.take i) []) (hw p hpm);have hst:GC (Γ.take (i+1)) []=Df p.2 (GC (Γ.take i) []):=by rw [Bp hp,Qx]
  have hfr:Mj (Γ.take (i+1))=Mj (Γ.take i)++[(p.1,FW p.2)]:=by rw [Bp hp,lB]
  rw [hst,hfr] at hih;clear ih hst hfr hM hA hC;generalize GC (Γ.take i) []=l at *;generalize Mj (Γ.take i)=Γ1 at *;obtain ⟨y,tp⟩:=p;simp only at hF hW hN hih hgv;generalize Γ1++[(y,FW tp)]=Γ2 at *;obtain ⟨tf,htf⟩:∃x,FW tp=x:=⟨_,rfl⟩
  rw [htf] at hF hW;obtain ⟨f1,f2,f3,f4⟩:=tf;obtain ⟨p1,p2,p3,p4⟩:=tp;refine As rfl<|Sl rfl hg<|Ai rfl<|Af rfl hF<|Ai rfl<|Af rfl hW<|yg [] rfl (by simp;rfl)<|VC (st0:=[]) (fr:=[6]) [] [(6,6)] rfl (by simp) hN trivial rfl rfl rfl rfl<|Ai rfl<|Ou (y:=3) (j:=4) (j2:=5) (stc:=Gm (.mk p1 p2 p3 p4)) (stc':=Gm (.mk p1 p2 p3 p4)) (stx:=eV ⟨m1,m2,m3⟩ (.mk t1 t2 t3 t4 t5) Γ2 l) (stB:=eV ⟨m1,m2,m3⟩ (.mk t1 t2 t3 t4 t5) Γ2 ((GT (.mk p1 p2 p3 p4)).foldl wI l)) (pend:=none) (E:=inE Γ i) (ids':=[19,6,1,2,3,21,22,4,23,24,25,26,27]) (d:=.tup []) rfl func139 (by decide +kernel) rfl (by decide) OK
   (F1 iN) (λL h1 h2 h3 h4 h5 h6 h7=>NV (b:=true) (.mk p1 p2 p3 p4) ?_) ?_ ?_ ?_ ?_ ?_
  ·have:=Yields.all (P:=prog) (l:=DA (GT (.mk p1 p2 p3 p4))) (λj=>Ds L (eV ⟨m1,m2,m3⟩ (.mk t1 t2 t3 t4 t5) Γ2 (((GT (.mk p1 p2 p3 p4)).take j).foldl wI l)) none) λj d hj=>by
    rw [DA,Ep] at hj;cases hu:(GT (.mk p1 p2 p3 p4))[j]? with
    | none=>rw [hu] at hj;cases hj
    | some u =>
     rw [hu] at hj;cases hj;have e:((GT (.mk p1 p2 p3 p4)).take (j+1)).foldl wI l=wI (((GT (.mk p1 p2 p3 p4)).take j).foldl wI l) u:=by rw [Bp hu,Z6];rfl
     rw [e];exact XK _ _ Γ Γ2 i _ u h1 h2 h3 h4 h5 h6 h7
   have hl:(DA (GT (.mk p1 p2 p3 p4))).length=(GT (.mk p1 p2 p3 p4)).length:=by simp [DA]
   rw [hl] at this;simpa using this
  ·simp [Gm,eV,D8]
  ·simp [Gm,D8]
  ·intro i hi;have e:IB (F3 (DN (Bg []++[(6,6)])) []++F3 (DN (Bg []++[(6,6)])) [.ref 6 0])=[6]:=rfl;rw [e] at hi;simpa [Gm,D8,F4,UZ,IB,JQ] using hi
  ·refine ⟨by decide,?_⟩;simp [eV,inE,WU,JQ,F4,UZ,IB,D8]
  ·rw [hgv];exact As rfl<|Ac hih ⟨AU,GD⟩ OK rfl
 ·have hlt:¬i<Γ.length:=by simp at h;omega
  refine Az rfl ?_;have e1:Γ.take i=Γ:=Db (by omega);rw [e1];exact Ac hT B6 OK rfl
mutual
theorem sU:∀t:Ty,Ck t=true->inB 1000 t->Ck (FW t)=true/\CL (FW t)=[]
 | .mk f n x ps,hw,hi=>by
  by_cases e9:f=9
  ·subst e9;have hn:=hi.num rfl;simp only [num] at hn;have e:=DZ hw rfl;simp only [Aw,num,Ty.mk.injEq] at e;obtain ⟨_,_,rfl,rfl⟩:=e;have h2:n<=1000000:=by omega
   have h1:0<=n:=by omega
   rw [FW,if_pos rfl];refine ⟨?_,by simp [CL,Dc,LI]⟩;simp [Ck,EJ,h1,h2,LI]
  ·have hp:=fK ps (E3 hw) λp hp=>hi.part e9 hp;rw [FW,if_neg e9];simp only [Ck,Ap] at hw ⊢;refine ⟨⟨⟨⟨by simp [e9],hw.1.1.2⟩,hw.1.2.1,by rw [R9,Dn];exact hw.1.2.2⟩,hp.1⟩,by rw [CL,if_neg e9];exact hp.2⟩
theorem fK:∀l:List Ty,(∀t∈l,Ck t=true)->(∀t∈l,inB 1000 t)->EJ (LI l)=true/\Dc (LI l)=[]
 | [],_,_=>by simp [LI,EJ,Dc]
 | t::r,hw,hi=>by
  have h1:=sU t (hw t (by simp)) (hi t (by simp));have h2:=fK r (λp hp=>hw p (by simp [hp])) (λp hp=>hi p (by simp [hp]));simp [LI,EJ,Dc,h1.1,h1.2,h2.1,h2.2]
end
theorem XO (h:∀p∈Γ,Ck p.2=true/\inB 1000 p.2):EnvCl (Mj Γ):=λp hp=>by
 obtain ⟨q,hq,rfl⟩:=C2.1 hp;have:=sU q.2 (h q hq).1 (h q hq).2;exact ⟨this.2,this.1⟩
noncomputable def Rl (stay:List Int):Option (Ty×Int×Sb×List Ty)->V
 | none=>.tup [.agg (dTyc Hi),Es 7]
 | some (τ,_,σ,N)=>if (N.map (A8 (thS σ))).all Dj=true then Nc stay (A8 (thS σ) τ) else .tup [.agg (dTyc Hi),Es 7]
theorem Wo:StOk 0 (BG []):=⟨Kl _,λn t h=>(nomatch h),Aw,Sol.mk (λn t h=>nomatch h) (λn h=>rfl) (λn t h=>nomatch h) (λn t h=>nomatch h)⟩
theorem Ua (hm:DS m) (Γ:Au) (t:Tm) (h:Is m Γ t=true) (hΓ:∀p∈Γ,Ck p.2=true/\inB 1000 p.2) (ht:BU t=true) (hz:KQ t<=100000) :
  ∃r,BS m (Mj Γ) t 0 (λ_=>none) r/\Tq3 26 [.agg (dMdc m),.sl (D5 Γ),.agg (dTmc t)] (Rl (GC Γ []) r):=by
 have hcl:=XO hΓ;have hl:Γ.length<=20:=by
  simp only [Is,Ap,decide_eq_true_eq] at h;exact h.1.1.2
 have hst:(GC Γ []).length<=1000000:=by have:=YK (B:=1000) λp hp=>(hΓ p hp).2;omega
 have hw:∀p∈Γ,Ck p.2=true:=λp hp=>(hΓ p hp).1;have hB:yU (Mj Γ) [] 0 [] (KQ t):=⟨Wo,λp hp=>⟨(hcl p hp).2,Cr (hcl p hp).1 _⟩,by omega,by simp;omega,by simp [Mj];omega⟩
 obtain ⟨r,c,g⟩:=X6 hm (KQ t) t (Mj Γ) [] 0 [] (BQ _) ht hB;cases r with
 | none=>exact ⟨none,g,Od m Γ t h hw (Ud m t _ _ (bA c))⟩
 | some z =>
  obtain ⟨τ,T,k,S⟩:=z;obtain ⟨N,g1,g2,g3,g4⟩:=g;simp only [IO] at g2;subst g2;refine ⟨_,g1,?_⟩;obtain ⟨θ,hθ⟩:=g1.1.2.1.2.2;have hth:thS (BG T)=θ:=Qt hθ;simp only [Rl,hth];cases hp:(S.map (A8 θ)).all Dj with
  | true =>
   rw [if_pos rfl];exact Od m Γ t h hw (X5 m t _ _ (Xx c hθ (by omega) hp) hθ g1.2.1 hst)
  | false =>
   rw [if_neg (by simp)];exact Od m Γ t h hw (Ud m t _ _ (Xy c hθ (by omega) hp))
theorem bG (l:List Dt) (f:FuncId) (a b:List V) (q:Dt->Bool) (hq:∀t∈l,Tq3 f (a++[.agg (C7 t)]++b) (.bool (q t))) :
  ∃i:Int,(0<=i↔l.any q=true)/\Tq3 286 [.sl ((l.map C7)),.clo (.func f) a b] (.int .i64 i):=by
 obtain ⟨i,h1,h2⟩:∃i:Int,(0<=i↔l.any q=true)/\((i = -1/\l.any q=false)\/∃(k:Nat) (t:Dt),i=k/\l[k]?=some t/\q t=true/\(l.take k).any q=false):=by
  by_cases h:l.any q=true
  ·have key:∀(n:Nat),(l.take n).any q=true->∃(k:Nat) (t:Dt),l[k]?=some t/\q t=true/\(l.take k).any q=false:=λn=>by
    induction n with
    | zero=>intro h;simp at h
    | succ n ih =>
     intro h;by_cases hn:(l.take n).any q=true
     ·exact ih hn
     ·by_cases hl:n<l.length
      ·obtain ⟨t,ht⟩:=Ao hl;rw [Bp ht,GZ] at h;simp only [QZ] at hn;rw [hn,QX] at h;exact ⟨n,t,ht,by simpa using h,hn⟩
      ·rw [Db (by omega)] at h hn;exact absurd h hn
   obtain ⟨k,t,k1,k2,k3⟩:=key l.length (by rw [Jw];exact h);exact ⟨k,⟨λ_=>h,λ_=>by omega⟩,.inr ⟨k,t,rfl,k1,k2,k3⟩⟩
  ·exact ⟨-1,⟨λh'=>by omega,λh'=>absurd h' h⟩,.inl ⟨rfl,by simpa using h⟩⟩
 refine ⟨i,h1,?_⟩;clear h1;refine B3 λhv=>?_;simp [CV,F0,maxLen] at hv;refine Ad ttY_ok func286 rfl [1,2]<|Ai rfl<|Ak (λj:Nat=>[(8,.imm (.int .i64 j)),(7,.imm (.int .i64 l.length)),(0,.imm (.sl ((l.map C7)))),(1,.imm (.clo (.func f) a b))]) (λ_=>[]) [1,2] (λj=>l.length-j) (λj=>j<=l.length/\(l.take j).any q=false) 0
  ⟨AJ _,rfl⟩ ⟨rfl,BB (by simp),AK⟩ trivial rfl λj hj ih=>?_
 obtain ⟨hj1,hj2⟩:=hj;refine As rfl<|Ab rfl (λh=>?_) (λh=>?_)
 ·have hlt:j<l.length:=by simp at h;omega
  obtain ⟨t,ht⟩:=Ao hlt;have hg:=VL ht;have hQ:=hq t (AF ht);have htk:(l.take (j+1)).any q=q t:=by rw [Bp ht,GZ,hj2];simp
  have hfound:q t=true->i=j:=λhqt=>by
   rcases h2 with ⟨_,h⟩ | ⟨k,u,rfl,k1,k2,k3⟩
   ·have:l.any q=true:=DJ.2 ⟨t,AF ht,hqt⟩;rw [this] at h;cases h
   ·congr 1;rcases Mc k j with hc | hc | hc
    ·have:(l.take j).any q=true:=DJ.2 ⟨u,DL.2 ⟨k,by rw [D6,if_pos hc];exact k1⟩,k2⟩;rw [hj2] at this;cases this
    ·exact hc
    ·have:(l.take k).any q=true:=DJ.2 ⟨t,DL.2 ⟨j,by rw [D6,if_pos hc];exact ht⟩,hqt⟩;rw [k3] at this;cases this
  generalize q t=o at *;obtain ⟨t1,t2⟩:=t;refine As rfl<|yi rfl (c:=C7 ⟨t1,t2⟩) (λ_=>⟨by simp,by simpa using hg,by simp [C7]⟩) (by simp)<|Ai rfl<|PY rfl (λ_=>hQ) (by simp)<|Ai rfl ?_;cases o with
  | true =>
   exact Al rfl λh=>As rfl<|Ah ⟨_,rfl,tV (by rw [hfound rfl]),trivial⟩
  | false =>
   exact Ag rfl λh=>As rfl<|Ac (ih (j+1) (by omega) ⟨by omega,htk⟩) ⟨AU,AC⟩ trivial rfl
 ·have hlt:¬j<l.length:=by simp at h;omega
  rw [Db (by omega)] at hj2;have hi:i = -1:=by
   rcases h2 with ⟨h,_⟩ | ⟨k,u,_,k1,k2,_⟩
   ·exact h
   ·have:l.any q=true:=DJ.2 ⟨u,AF k1,k2⟩;rw [hj2] at this;cases this
  exact Az rfl<|As rfl<|Ah ⟨_,rfl,tV (by rw [hi]),trivial⟩
theorem LF (l:List Dt) (f:FuncId) (a b:List V) (q:Dt->Bool) (hq:∀t∈l,Tq3 f (a++[.agg (C7 t)]++b) (.bool (q t))) :
  Tq3 265 [.sl ((l.map C7)),.clo (.func f) a b] (.bool (l.any q)):=by
 obtain ⟨i,h1,h2⟩:=bG l f a b q hq;refine Ad ttY_ok func265 rfl [1,2]<|Ai rfl<|Af rfl h2<|Ai rfl<|Aa rfl rfl (congrArg _ ?_);rw [Fq,<- h1];simp
theorem bF (l:List Fd) (f:FuncId) (a b:List V) (q:Fd->Bool) (hq:∀t∈l,Tq3 f (a++[.agg (CG t)]++b) (.bool (q t))) :
  ∃i:Int,(0<=i↔l.any q=true)/\Tq3 270 [.sl ((l.map CG)),.clo (.func f) a b] (.int .i64 i):=by
 obtain ⟨i,h1,h2⟩:∃i:Int,(0<=i↔l.any q=true)/\((i = -1/\l.any q=false)\/∃(k:Nat) (t:Fd),i=k/\l[k]?=some t/\q t=true/\(l.take k).any q=false):=by
  by_cases h:l.any q=true
  ·have key:∀(n:Nat),(l.take n).any q=true->∃(k:Nat) (t:Fd),l[k]?=some t/\q t=true/\(l.take k).any q=false:=λn=>by
    induction n with
    | zero=>intro h;simp at h
    | succ n ih =>
     intro h;by_cases hn:(l.take n).any q=true
     ·exact ih hn
     ·by_cases hl:n<l.length
      ·obtain ⟨t,ht⟩:=Ao hl;rw [Bp ht,GZ] at h;simp only [QZ] at hn;rw [hn,QX] at h;exact ⟨n,t,ht,by simpa using h,hn⟩
      ·rw [Db (by omega)] at h hn;exact absurd h hn
   obtain ⟨k,t,k1,k2,k3⟩:=key l.length (by rw [Jw];exact h);exact ⟨k,⟨λ_=>h,λ_=>by omega⟩,.inr ⟨k,t,rfl,k1,k2,k3⟩⟩
  ·exact ⟨-1,⟨λh'=>by omega,λh'=>absurd h' h⟩,.inl ⟨rfl,by simpa using h⟩⟩
 refine ⟨i,h1,?_⟩;clear h1;refine B3 λhv=>?_;simp [CV,F0,maxLen] at hv;refine Ad ttY_ok func270 rfl [1,2]<|Ai rfl<|Ak (λj:Nat=>[(8,.imm (.int .i64 j)),(7,.imm (.int .i64 l.length)),(0,.imm (.sl ((l.map CG)))),(1,.imm (.clo (.func f) a b))]) (λ_=>[]) [1,2] (λj=>l.length-j) (λj=>j<=l.length/\(l.take j).any q=false) 0
  ⟨AJ _,rfl⟩ ⟨rfl,BB (by simp),AK⟩ trivial rfl λj hj ih=>?_
 obtain ⟨hj1,hj2⟩:=hj;refine As rfl<|Ab rfl (λh=>?_) (λh=>?_)
 ·have hlt:j<l.length:=by simp at h;omega
  obtain ⟨t,ht⟩:=Ao hlt;have hg:=Lm ht;have hQ:=hq t (AF ht);have htk:(l.take (j+1)).any q=q t:=by rw [Bp ht,GZ,hj2];simp
  have hfound:q t=true->i=j:=λhqt=>by
   rcases h2 with ⟨_,h⟩ | ⟨k,u,rfl,k1,k2,k3⟩
   ·have:l.any q=true:=DJ.2 ⟨t,AF ht,hqt⟩;rw [this] at h;cases h
   ·congr 1;rcases Mc k j with hc | hc | hc
    ·have:(l.take j).any q=true:=DJ.2 ⟨u,DL.2 ⟨k,by rw [D6,if_pos hc];exact k1⟩,k2⟩;rw [hj2] at this;cases this
    ·exact hc
    ·have:(l.take k).any q=true:=DJ.2 ⟨t,DL.2 ⟨j,by rw [D6,if_pos hc];exact ht⟩,hqt⟩;rw [k3] at this;cases this
  generalize q t=o at *;obtain ⟨t1,t2,⟨a1,a2,a3,a4⟩,⟨b1,b2,b3,b4⟩,⟨c1,c2,c3,c4,c5⟩⟩:=t;refine As rfl<|yi rfl (c:=CG ⟨t1,t2,.mk a1 a2 a3 a4,.mk b1 b2 b3 b4,.mk c1 c2 c3 c4 c5⟩) (λ_=>⟨by simp,by simpa using hg,by simp [CG]⟩) (by simp)<|Ai rfl<|PY rfl (λ_=>hQ) (by simp)<|Ai rfl ?_;cases o with
  | true =>
   exact Al rfl λh=>As rfl<|Ah ⟨_,rfl,tV (by rw [hfound rfl]),trivial⟩
  | false =>
   exact Ag rfl λh=>As rfl<|Ac (ih (j+1) (by omega) ⟨by omega,htk⟩) ⟨AU,AC⟩ trivial rfl
 ·have hlt:¬j<l.length:=by simp at h;omega
  rw [Db (by omega)] at hj2;have hi:i = -1:=by
   rcases h2 with ⟨h,_⟩ | ⟨k,u,_,k1,k2,_⟩
   ·exact h
   ·have:l.any q=true:=DJ.2 ⟨u,AF k1,k2⟩;rw [hj2] at this;cases this
  exact Az rfl<|As rfl<|Ah ⟨_,rfl,tV (by rw [hi]),trivial⟩
theorem LE (l:List Fd) (f:FuncId) (a b:List V) (q:Fd->Bool) (hq:∀t∈l,Tq3 f (a++[.agg (CG t)]++b) (.bool (q t))) :
  Tq3 225 [.sl ((l.map CG)),.clo (.func f) a b] (.bool (l.any q)):=by
 obtain ⟨i,h1,h2⟩:=bF l f a b q hq;refine Ad ttY_ok func225 rfl [1,2]<|Ai rfl<|Af rfl h2<|Ai rfl<|Aa rfl rfl (congrArg _ ?_);rw [Fq,<- h1];simp
theorem kJ (d e:Dt):Tq3 266 [.agg (C7 e),.ip 113 (C7 d) 0] (.bool (e.name == d.name)):=by
 obtain ⟨d1,d2⟩:=d;obtain ⟨e1,e2⟩:=e;exact M8<|Ad ttY_ok func266 rfl [2,3,4,5]<|Ai rfl<|Aa rfl rfl rfl
theorem rU (d e:Fd):Tq3 268 [.agg (CG e),.ip 71 (CG d) 0] (.bool (e.name == d.name)):=by
 obtain ⟨d1,d2,⟨a1,a2,a3,a4⟩,⟨b1,b2,b3,b4⟩,⟨c1,c2,c3,c4,c5⟩⟩:=d;obtain ⟨e1,e2,⟨f1,f2,f3,f4⟩,⟨g1,g2,g3,g4⟩,⟨h1,h2,h3,h4,h5⟩⟩:=e;exact M8<|Ad ttY_ok func268 rfl [2,3,4,5]<|Ai rfl<|Aa rfl rfl rfl
theorem jV (e:Fd):Tq3 226 [.agg (CG e)] (.bool (e.name == QR&&Cg e.from_ == 3)):=by
 obtain ⟨e1,e2,⟨f1,f2,f3,f4⟩,⟨g1,g2,g3,g4⟩,⟨h1,h2,h3,h4,h5⟩⟩:=e;refine Ad ttY_ok func226 rfl [2,3,4,5]<|Ai rfl<|Aa rfl rfl ?_;show V.bool (bif e1 == QR then f1 == 3 else false)=V.bool (e1 == QR&&f1 == 3);cases (e1 == QR) <;> rfl
theorem aD (t:Ty) (e:Dt):Tq3 287 [.agg (C7 e),.ip 25 (dTyc t) 0] (.bool (e.name == JY t)):=by
 obtain ⟨t1,t2,t3,t4⟩:=t;obtain ⟨e1,e2⟩:=e;exact M8<|Ad ttY_ok func287 rfl [2,3,4,5]<|Ai rfl<|Aa rfl rfl rfl
def P5 (m:Md):List V:=dMdc m++[.mapv [],.int .i64 0,.sl []]
def NW (m:Md) (u:Ty):Bool:=!(Cg u == 8 && !m.datas.any λd=>d.name == JY u)
def S9 (m:Md) (b:Bool):St:=[(11,some (.immb 92 1 [.ip 98 (P5 m) 0])),(12,some (.immb 4 1 [.bool b]))]
def zT (l:List Ty) (i:Nat):Env:=[(10,.imm (.int .i64 i)),(9,.imm (.int .i64 l.length)),(8,.imm (.sl (AA l))),(2,.ref 11 0),(4,.ref 12 0)]
theorem Pi (m:Md) (l:List Ty) (i:Nat) (u:Ty) (h1:prog.funcs[L.fn]?.isSome) (h2:L.tmps.size=Tryz.f267.ntmps) (h3:L.ps = #[16]) (h4:L.asg=oD Tryz.f267) (h5:L.body=Za Tryz.f267) (h6:L.E=zT l i) (h7:L.F=[]) :
  (NW m u=true->O3 prog [.imm (.agg (dTyc u))] (Ds L (S9 m false) none) true (Ds L (S9 m false) none)) /\
  (NW m u=false->O3 prog [.imm (.agg (dTyc u))] (Ds L (S9 m false) none) false (Ds L (S9 m false) (some .ret))):=by
 obtain ⟨fc,hf⟩:=Ve.1 h1;have hC:=LF m.datas 287 [] [.ip 25 (dTyc u) 0] (λd=>d.name == JY u) λd _=>aD u d;have hfree:RA [21,22,23] L.E (S9 m false) L.F:=by
  rw [h6,h7];refine ⟨by decide,?_⟩;simp [S9,zT,WU,JQ,F4,UZ,IB,D8]
 unfold NW;generalize (m.datas.any λd=>d.name == JY u)=o at *;obtain ⟨m1,m2,m3⟩:=m;obtain ⟨f,n,x,ps⟩:=u;simp only [Cg];have hasg:∀stx,Sk prog Tryz.f267.ntmps L.asg ((16,.imm (.agg (dTyc (.mk f n x ps))))::L.E) stx [21,22,23] _ _ _:=λstx=>by
  rw [h4];exact gB ttY_ok rfl rfl rfl rfl (by simp) (by simp)
 refine ⟨λhb=>?_,λhb=>?_⟩
 ·refine RE (pend:=none) hf h3 h2 rfl (by decide) hfree (hasg _) ?_;rw [h5,h6,h7];refine Sn rfl<|Lc rfl (λ_=>hC) rfl (by simp [Am])<|BH rfl<|Ab rfl (λh=>?_) (λh=>?_)
  ·exfalso;by_cases h8:f=8
   ·subst h8;cases o <;> simp at h hb
   ·simp [h8] at h
  ·exact As rfl<|BR (⟨rfl,rfl,trivial⟩:IF _ (S9 ⟨m1,m2,m3⟩ false))
 ·refine RE (pend:=some .ret) hf h3 h2 rfl (by decide) hfree (hasg _) ?_;rw [h5,h6,h7];refine Sn rfl<|Lc rfl (λ_=>hC) rfl (by simp [Am])<|BH rfl ?_;have hb':f=8/\o=false:=by
   by_cases h8:f=8
   ·subst h8;cases o <;> simp at hb ⊢
   ·simp [h8] at hb
  obtain ⟨rfl,rfl⟩:=hb';exact Al rfl λh=>As rfl<|Ah (⟨rfl,rfl,trivial⟩:IF _ (S9 ⟨m1,m2,m3⟩ false))
theorem Qf {P:Program} {S S':Bun} {q:Ty->Bool}:∀(l:List Ty),(∀u∈l,q u=true->O3 P [.imm (.agg (dTyc u))] S true S)->(∀u∈l,q u=false->O3 P [.imm (.agg (dTyc u))] S false S')->(l.all q=true->Yields P (DA l) S true S)/\(l.all q=false->Yields P (DA l) S false S')
 | [],_,_=>⟨λ_=>Yields.nil S,λh=>by simp at h⟩
 | u::r,h1,h2=>by
  have ih:=Qf r (λv hv=>h1 v (by simp [hv])) (λv hv=>h2 v (by simp [hv]));refine ⟨λh=>?_,λh=>?_⟩
  ·simp only [Dd,Ap] at h;exact .cons (h1 u (by simp) h.1) (ih.1 h.2)
  ·simp only [Dd,Ma] at h;cases hq:q u with
   | false=>exact .stop (h2 u (by simp) hq)
   | true =>
    rcases h with h | h
    ·rw [hq] at h;cases h
    ·exact .cons (h1 u (by simp) hq) (ih.2 h)
theorem TW (m:Md) (l:List Ty) (hl:l.length<=1000000):Tq3 267 [.ip 98 (P5 m) 0,.sl (AA l)] (.bool ((CN l).all (NW m))):=by
 refine Ad ttY_ok func267 rfl [11,12,13,6,1,2,3]<|Ai rfl<|Ak (λi:Nat=>zT l i) (λ_=>S9 m false) [13,6,1,2,3] (λi=>l.length-i) (λi=>i<=l.length/\(CN (l.take i)).all (NW m)=true) 0 ⟨AJ _,rfl⟩
  ⟨rfl,BB (by simp),AC⟩ AK rfl λi hi ih=>?_
 obtain ⟨hi1,hi2⟩:=hi;refine As rfl<|Ab rfl (λh=>?_) (λh=>?_)
 ·have hlt:i<l.length:=by simp at h;omega
  obtain ⟨p,hp⟩:=Ao hlt;have hg:=AE hp;have hN:=TV p;have htk:∀(a b:List Ty),CN (a++b)=CN a++CN b:=λa b=>by
   induction a with
   | nil=>rfl
   | cons t r ih=>simp [CN,ih]
  have hnx:(CN (l.take (i+1))).all (NW m)=(GT p).all (NW m):=by rw [Bp hp,htk,HJ,hi2];simp [CN]
  have hno:(GT p).all (NW m)=false->(CN l).all (NW m)=false:=λh=>by
   have e:l=l.take i++p::l.drop (i+1):=by rw [<- Av hp,eP]
   rw [e,htk,HJ,CN,HJ,h];simp
  have hR:∀{L:NB},prog.funcs[L.fn]?.isSome->L.tmps.size=Tryz.f267.ntmps->L.ps = #[16]->L.asg=oD Tryz.f267->L.body=Za Tryz.f267->L.E=zT l i->L.F=[] ->
   ((GT p).all (NW m)=true->Yields prog (DA (GT p)) (Ds L (S9 m false) none) true (Ds L (S9 m false) none))/\((GT p).all (NW m)=false->Yields prog (DA (GT p)) (Ds L (S9 m false) none) false (Ds L (S9 m false) (some .ret))):=λh1 h2 h3 h4 h5 h6 h7=>Qf _ (λu _=>(Pi m l i u h1 h2 h3 h4 h5 h6 h7).1) (λu _=>(Pi m l i u h1 h2 h3 h4 h5 h6 h7).2)
  obtain ⟨p1,p2,p3,p4⟩:=p;refine As rfl<|Sl rfl hg<|Ai rfl<|VC (st0:=[]) (fr:=[6]) [] [(6,6)] rfl (by simp) hN trivial rfl rfl rfl rfl<|Ai rfl ?_;cases hb:(GT (.mk p1 p2 p3 p4)).all (NW m) with
  | true =>
   rw [hb] at hnx;refine Ou (y:=3) (j:=4) (j2:=5) (stc:=Gm (.mk p1 p2 p3 p4)) (stc':=Gm (.mk p1 p2 p3 p4)) (stx:=S9 m false) (stB:=S9 m false) (pend:=none) (E:=zT l i) (ids':=[13,6,1,2,3]) (d:=.tup []) rfl func139 (by decide +kernel) rfl (by decide) B6
    (F1 AC) (λL h1 h2 h3 h4 h5 h6 h7=>NV (.mk p1 p2 p3 p4) ((hR h1 h2 h3 h4 h5 h6 h7).1 hb)) ?_ ?_ ?_ ?_ ?_
   ·simp [Gm,S9,D8]
   ·simp [Gm,D8]
   ·intro i hi;have e:IB (F3 (DN (Bg []++[(6,6)])) []++F3 (DN (Bg []++[(6,6)])) [.ref 6 0])=[6]:=rfl;rw [e] at hi;simpa [Gm,D8,F4,UZ,IB,JQ] using hi
   ·refine ⟨by decide,?_⟩;simp [S9,zT,WU,JQ,F4,UZ,IB,D8]
   ·exact As rfl<|Ac (ih (i+1) (by omega) ⟨by omega,hnx⟩) ⟨AU,Cb⟩ AK rfl
  | false =>
   have hno:=hno hb;refine Ou (y:=3) (j:=4) (j2:=5) (stc:=Gm (.mk p1 p2 p3 p4)) (stc':=Gm (.mk p1 p2 p3 p4)) (stx:=S9 m false) (stB:=S9 m false) (pend:=some .ret) (E:=zT l i) (ids':=[13,6,1,2,3]) (d:=.tup []) rfl func139 (by decide +kernel) rfl (by decide) B6
    (F1 AC) (λL h1 h2 h3 h4 h5 h6 h7=>NV (.mk p1 p2 p3 p4) ((hR h1 h2 h3 h4 h5 h6 h7).2 hb)) ?_ ?_ ?_ ?_ ?_
   ·simp [Gm,S9,D8]
   ·simp [Gm,D8]
   ·intro i hi;have e:IB (F3 (DN (Bg []++[(6,6)])) []++F3 (DN (Bg []++[(6,6)])) [.ref 6 0])=[6]:=rfl;rw [e] at hi;simpa [Gm,D8,F4,UZ,IB,JQ] using hi
   ·refine ⟨by decide,?_⟩;simp [S9,zT,WU,JQ,F4,UZ,IB,D8]
   ·exact Ah ⟨_,rfl,tV (by rw [hno]),trivial⟩
 ·have hlt:¬i<l.length:=by simp at h;omega
  rw [Db (by omega)] at hi2;exact Az rfl<|As rfl<|Ah ⟨_,rfl,tV (by rw [hi2]),trivial⟩
def Kw (l:List Str) (x:Str):List Str:=if BE l x=true then l else l++[x]
theorem Ww {x:Str}:∀{l:List Str},BE l x=true->FF (HD l) (.str x) (.bool true)=HD l
 | [],h=>by simp [BE] at h
 | y::r,h=>by
  simp only [BE,Ha,beq_iff_eq] at h;simp only [HD,C6,FF,mH];by_cases e:x=y
  ·subst e;simp
  ·have ih:=Ww (l:=r) (h.resolve_left λh=>e h.symm);simp only [HD] at ih;simp [e,ih]
theorem Wy (l:List Str) (x:Str):FF (HD l) (.str x) (.bool true)=HD (Kw l x):=by
 unfold Kw;cases h:BE l x with
 | true=>rw [if_pos rfl];exact Ww h
 | false=>rw [if_neg (by simp)];exact Wx l x h
def lL (m:Md) (z:Bool×List Str) (c:Cd):Bool×List Str:=(z.1 && !BE z.2 c.name&&(CN c.args).all (NW m),Kw z.2 c.name)
def SM (m:Md) (i:Nat) (d:Dt) (met:List Str):Bool×List Str:=d.cons.foldl (lL m) (!((m.datas.take i).any λe=>e.name == d.name),met)
theorem rW (m:Md) (i:Nat) (d:Dt) (met:List Str) (hd:m.datas[i]?=some d) (hl:∀c∈d.cons,c.args.length<=1000000) :
  Tq4 223 [.imm (.ip 98 (P5 m) 0),.imm (.int .i64 i),.mapr 1] [(1,some (.map (HD met)))] (.ret (.imm (.bool (SM m i d met).1)) [(1,some (.map (HD (SM m i d met).2)))]):=by
 have hg:=VL hd;have hC:=LF (m.datas.take i) 266 [] [.ip 113 (C7 d) 0] (λe=>e.name == d.name) λe _=>kJ d e;have hK:=λl hl=>TW m l hl;unfold SM;generalize ((m.datas.take i).any λe=>e.name == d.name)=o at *;generalize hm:NW m=q at *;have hdc:lL m=λz c=>(z.1 && !BE z.2 c.name&&(CN c.args).all q,Kw z.2 c.name):=by funext z c;rw [lL,hm]
 rw [hdc];clear hdc hm;obtain ⟨m1,m2,m3⟩:=m;obtain ⟨d1,cs⟩:=d;simp only at hl;have hi:i<m2.length:=(AL.1 hd).1;refine Ad ttY_ok func223 rfl [2,3,4,5,6]<|Ai rfl<|yi rfl (c:=C7 ⟨d1,cs⟩) (λ_=>⟨by simp,by simpa using hg,by simp [C7]⟩) (by simp)<|yg [] rfl (by simp;omega) ?_;simp only [ZF] at hC;refine Lc rfl (λ_=>hC) rfl (by simp)<|Ai rfl ?_;clear hC;refine FZ (t:=30) rfl λhv=>?_;simp [F0,maxLen] at hv;generalize hF:(λ(z:Bool×List Str) (c:Cd)=>(z.1 && !BE z.2 c.name&&(CN c.args).all q,Kw z.2 c.name))=F at *;have hFe:∀(o:Bool) (me:List Str) (c:Cd),F (o,me) c=(o && !BE me c.name&&(CN c.args).all q,Kw me c.name):=λo me c=>by rw [<- hF]
 clear hF;refine Ak (λz:Nat×Bool×List Str=>[(32,.imm (.int .i64 z.1)),(31,.imm (.int .i64 cs.length)),(30,.imm (.sl (cs.map Fa))),(8,.imm (.bool z.2.1)),(2,.mapr 1),(0,.imm (.ip 98 (P5 ⟨m1,m2,m3⟩) 0))]) (λz=>[(1,some (.map (HD z.2.2)))]) [4,5,6] (λz=>cs.length-z.1)
  (λz=>z.1<=cs.length/\(cs.drop z.1).foldl F z.2=cs.foldl F (!o,met)) (0,!o,met)
  ⟨AJ _,rfl⟩ ⟨rfl,BB (by simp),Cb⟩ A9 rfl λz hz ih=>?_
 obtain ⟨j,b,me⟩:=z;obtain ⟨hj1,hj2⟩:=hz;simp only at hj1 hj2 ih;generalize hR:cs.foldl F (!o,met)=R at *;clear hR;refine As rfl<|Ab rfl (λh=>?_) (λh=>?_)
 ·have hlt:j<cs.length:=by simp at h;omega
  obtain ⟨c,hc⟩:=Ao hlt;have hgc:=fT hc;have hk:=hK c.args (hl c (AF hc));have hn:=Wy me c.name;rw [Av hc,Pc,hFe] at hj2;obtain ⟨c1,ag⟩:=c;simp only at hk hj2 hn;generalize (CN ag).all q=o3 at *;refine As rfl<|yi rfl (c:=Fa ⟨c1,ag⟩) (λ_=>⟨by simp,by simpa using hgc,by simp [Fa]⟩) (by simp)<|BH rfl<|CR ttY_ok 1 rfl rfl rfl (Gq me) (by simp [Am]) (z:=.bool false) rfl (λ_=>.bool _) (KR me c1)<|BH rfl<|AI rfl hk<|BH rfl<|F6 ttY_ok rfl rfl rfl (Gq me) ?_;rw [hn];refine Ai rfl ?_;exact Ac (ih (j+1,b && !BE me c1&&o3,Kw me c1) (by simp only;omega) ⟨by simp only;omega,hj2⟩) ⟨AU,rfl,rfl,by cases b <;> cases BE me c1 <;> cases o3 <;> rfl,AK⟩ A9 rfl
 ·have hlt:¬j<cs.length:=by simp at h;omega
  rw [Bo (by omega)] at hj2;simp only [Z7] at hj2;refine Az rfl<|As rfl ?_;subst hj2;exact Ah ⟨_,AC⟩
theorem VK (a b:List Int):Jc (a++b)=Jc a++Jc b:=by simp [Jc]
structure zdi (m:Md):Prop where
 datas:m.datas.length<=1000
 funs:m.funs.length<=1000
 cons:∀d∈m.datas,d.cons.length<=1000
structure OkM (m:Md):Prop where
 few:zdi m
 closed:DS m
 body:∀f∈m.funs,BU f.body=true/\KQ f.body<=100000
theorem V6:C9 m [t] [(Γ,τ)] S↔Cf m t Γ τ S:=by
 simp only [C9];constructor
 ·rintro ⟨S1,S2,h1,rfl,rfl⟩;rw [JI];exact h1
 ·intro h;exact ⟨S,[],h,rfl,by simp⟩
theorem cE (hm:DS m) (hf:f∈m.funs):(CL f.from_=[]/\Ck f.from_=true)/\CL f.to_=[]/\Ck f.to_=true:=by
 obtain ⟨h1,h2⟩:=hm.1 f hf;simp only [AN,CL,Dc] at h1;simp only [AN,Ck,EJ,Ap] at h2;simp at h1;exact ⟨⟨h1.1,h2.2.1⟩,h1.2,h2.2.2.1⟩
def zY (m:Md) (f:Fd) (T:List (Int×Ty)) (k:Int) (S:List Ty):St:=CP m T k S++[(5,some (.cells 92 1 [.ref 1 0])),(6,some (.immb 71 15 (CG f)))]
def zcw (m:Md) (f:Fd) (T:List (Int×Ty)) (k:Int) (S:List Ty):St:=UH m T k S++[(5,some (.cells 92 1 [.ref 1 0])),(6,some (.immb 71 15 (CG f)))]
theorem rT {r:Id} (h:B2 m [(f.param,f.from_)] [f.body] [f.to_] [] 0 [] r) (hp:∀T k S,r=some (T,k,S)->S.length<=1000000/\∃θ,Sol (BG T) θ/\(S.map (A8 θ)).all Dj=b) (hn:r=none->b=false) :
  (b=true->∃T k S,Tq4 269 [.ref 5 0,.ref 6 0] (zY m f [] 0 []) (.ret (.imm (.tup [])) (zcw m f T k S)))/\(b=false->Tq4 269 [.ref 5 0,.ref 6 0] (zY m f [] 0 []) (.pan G0)):=by
 obtain ⟨f1,f2,⟨a1,a2,a3,a4⟩,⟨b1,b2,b3,b4⟩,⟨t1,t2,t3,t4,t5⟩⟩:=f;rw [B2] at h;rcases h with ⟨hI,rfl⟩ | ⟨⟨τ1,τ2,τ3,τ4⟩,T2,k2,S2,hI,h⟩
 ·have hb:=hn rfl;refine ⟨λh=>(by rw [hb] at h;cases h),λ_=>?_⟩;unfold EI C0 Dp at hI;exact Ad ttY_ok func269 rfl [4,9,10]<|Ai rfl<|Bf 3 [(1,1),(2,2),(3,3)] rfl (by simp) hI Ay rfl rfl rfl<|Ai rfl<|Et 12 (.imm (.tup [])) rfl DG (λx h=>by cases h)<|yg [] rfl (by simp;rfl)<|Bn 12 3 rfl
 ·rcases h with ⟨hE,rfl⟩ | ⟨T3,hE,h⟩
  ·have hb:=hn rfl;refine ⟨λh=>(by rw [hb] at h;cases h),λ_=>?_⟩;unfold EI C0 Dp at hI;unfold DU at hE;exact Ad ttY_ok func269 rfl [4,9,10]<|Ai rfl<|A5 (fr:=[4]) [(1,1),(2,2),(3,3)] [(4,4)] [] (nm:=[1,2,4,1,2,3]) rfl trivial (by simp) hI Ay rfl trivial rfl rfl rfl<|Ai rfl<|Bd [(1,1),(2,2),(4,3)] rfl (by simp) hE Ay rfl rfl rfl<|ND 1 rfl (by simp;rfl)<|Bx 15 rfl
  ·simp only [B2] at h;obtain ⟨hl,θ,hθ,hpl⟩:=hp _ _ _ h;unfold EI C0 Dp at hI;unfold Dq at hE;have hy:=Nb m T3 k2 S2 hθ hl;have hno:=Ph m T3 k2 S2 hθ hl;rw [hpl] at hy hno;refine ⟨λhb=>⟨T3,k2,S2,?_⟩,λhb=>?_⟩
   ·have hS:=hy hb;exact Ad ttY_ok func269 rfl [4,9,10]<|Ai rfl<|A5 (fr:=[4]) [(1,1),(2,2),(3,3)] [(4,4)] [] (nm:=[1,2,4,1,2,3]) rfl trivial (by simp) hI Ay rfl trivial rfl rfl rfl<|Ai rfl<|A5 (fr:=[]) [(1,1),(2,2),(4,3)] [] [] (nm:=[1,2,4,1,2,4]) rfl trivial (by simp) hE Ay rfl trivial rfl rfl rfl<|yg [] rfl (by simp;rfl)<|Aq [] [(1,1),(2,2),(4,3)] [] rfl hS Ay rfl rfl<|Ai rfl<|BR ⟨[],GD⟩
   ·have hS:=hno hb;exact Ad ttY_ok func269 rfl [4,9,10]<|Ai rfl<|A5 (fr:=[4]) [(1,1),(2,2),(3,3)] [(4,4)] [] (nm:=[1,2,4,1,2,3]) rfl trivial (by simp) hI Ay rfl trivial rfl rfl rfl<|Ai rfl<|A5 (fr:=[]) [(1,1),(2,2),(4,3)] [] [] (nm:=[1,2,4,1,2,4]) rfl trivial (by simp) hE Ay rfl trivial rfl rfl rfl<|yg [] rfl (by simp;rfl)<|Bd [(1,1),(2,2),(4,3)] rfl (by simp) hS Ay rfl rfl rfl<|Ai rfl<|Bx 17 rfl
theorem rX (hm:OkM m) (hf:f∈m.funs):∃r,B2 m [(f.param,f.from_)] [f.body] [f.to_] [] 0 [] r/\(∀T k S,r=some (T,k,S)->S.length<=1000000/\∃θ,Sol (BG T) θ/\(S.map (A8 θ)).all Dj=EH m f)/\(r=none->EH m f=false):=by
 obtain ⟨⟨c1,c2⟩,c3,c4⟩:=cE hm.closed hf;obtain ⟨n1,n2⟩:=hm.body f hf;have hcl:EnvCl [(f.param,f.from_)]:=λp hp=>by rw [AP.1 hp];exact ⟨c1,c2⟩
 have hsz:Dx [f.body]=KQ f.body:=by simp [Dx]
 obtain ⟨r,k1,g1⟩:=H3 (X6 hm.closed (KQ f.body)) [f.body] [f.to_] [(f.param,f.from_)] [] 0 [] rfl (by omega) (λt ht=>by rw [AP.1 ht];exact n1) (λu hu=>by rw [AP.1 hu];exact ⟨c4,Cr c3 _⟩)
  ⟨Wo,λp hp=>by rw [AP.1 hp];exact ⟨c2,Cr c1 _⟩,by simp;omega,by simp;omega,by simp;omega⟩
 refine ⟨r,k1,?_⟩;clear k1;have hapK:∀η,Hg η ([f.to_].map λu=>([(f.param,f.from_)],u))=[([(f.param,f.from_)],f.to_)]:=λη=>by
  simp only [Hg,C6,HL];rw [hcl.ap,Fe c3 c4]
 refine ⟨λT k S e=>?_,λe=>?_⟩
 ·subst e;obtain ⟨N,g1,g2,g3,g4⟩:=g1;simp only [IO] at g2;subst g2;obtain ⟨θ,hθ⟩:=g1.1.2.1.2.2;refine ⟨by omega,θ,hθ,(cL ?_ λS' hS'=>?_).symm⟩
  ·have:C9 m [f.body] (Hg θ _) (S.map (A8 θ)):=(g1.1.2.2.1 θ hθ.eq).2;rw [hapK] at this;exact V6.1 this
  ·obtain ⟨η',_,e1,e2⟩:=g1.1.2.2.2 Aw S' (λn t h=>nomatch h) (by show C9 m [f.body] (Hg Aw _) S';rw [hapK];exact V6.2 hS');refine ⟨η',?_⟩;simp only at e2;rw [<- e2,Rc];exact HK λu _=>hθ.mguT e1 u
 ·subst e;refine cM λS hS=>g1 Aw S (λn t h=>nomatch h) ?_;show C9 m [f.body] (Hg Aw _) S;rw [hapK];exact V6.2 hS
theorem wW (hm:OkM m) (i:Nat) (f:Fd) (hf:m.funs[i]?=some f):Tq3 224 [.ip 98 (P5 m) 0,.int .i64 i] (.bool (!((m.funs.take i).any λe=>e.name == f.name)&&((CN [f.from_,f.to_]).all (NW m)&&EH m f))):=by
 have hg:=Lm hf;have hi:i<m.funs.length:=(AL.1 hf).1;have hC:=LE (m.funs.take i) 268 [] [.ip 71 (CG f) 0] (λe=>e.name == f.name) λe _=>rU f e;have hK:=TW m [f.from_,f.to_] (by simp);have hS:=GI m 0;obtain ⟨r,k1,k2,k3⟩:=rX hm (AF hf);obtain ⟨y1,y2⟩:=rT k1 k2 k3;clear k1 k2 k3 hm;generalize EH m f=B at *;generalize ((m.funs.take i).any λe=>e.name == f.name)=o at *;generalize (CN [f.from_,f.to_]).all (NW m)=q at *;simp only [ZF] at hC;obtain ⟨m1,m2,m3⟩:=m;obtain ⟨f1,f2,⟨a1,a2,a3,a4⟩,⟨b1,b2,b3,b4⟩,⟨t1,t2,t3,t4,t5⟩⟩:=f;simp only at hi
 refine Ad ttY_ok func224 rfl [6,1,2,3,5,4,7,8]<|Ai rfl<|yi rfl (c:=CG ⟨f1,f2,.mk a1 a2 a3 a4,.mk b1 b2 b3 b4,.mk t1 t2 t3 t4 t5⟩) (λ_=>⟨by simp,by simpa using hg,by simp [CG]⟩) (by simp)<|yg [] rfl (by simp;omega)<|Lc rfl (λ_=>hC) rfl (by simp)<|BH rfl<|AI rfl hK<|BH rfl ?_;clear hC hK hg;refine Ab rfl (λh=>?_) (λh=>?_)
 ·refine As rfl ?_;exact Ah ⟨_,rfl,tV (by cases o <;> cases q <;> simp at h ⊢),trivial⟩
 ·have e:(!o&&(q&&B))=B:=by cases o <;> cases q <;> simp at h ⊢
  rw [e];clear e h;refine As rfl<|Aq [1,2,3] [] [(1,1),(2,2),(3,3)] rfl hS trivial rfl rfl<|Ai rfl ?_;cases B with
  | true =>
   obtain ⟨T,k,S,hE⟩:=y1 rfl;have hH:=IV func55 (by decide +kernel) rfl FB func269 (by decide +kernel) rfl (df:=[]) (dc:=[.ref 5 0,.ref 6 0]) hE;exact Aq [4] [(1,1),(2,2),(3,3),(5,5),(6,6)] [(4,4)] rfl hH W1 rfl rfl<|Ai rfl<|Aa rfl rfl rfl
  | false =>
   have hH:=Kz func55 (by decide +kernel) rfl FB func269 (by decide +kernel) rfl (df:=[]) (dc:=[.ref 5 0,.ref 6 0]) (y2 rfl);exact Aq [] [(1,1),(2,2),(3,3),(5,5),(6,6)] [] rfl hH W1 rfl rfl<|Ai rfl<|Aa rfl rfl rfl
theorem lA (p:Nat->Bool) (h:i<n):FV p i (n-i)=if p i then some i else FV p (i+1) (n-(i+1)):=by
 rw [show n-i=(n-(i+1))+1 by omega];rfl
theorem sT (p:Nat->Bool) (h:n<=i):FV p i (n-i)=none:=by
 rw [show n-i=0 by omega];rfl
theorem Mt (h:m.funs[i]?=some f):P4 m i=((m.funs.take i).any (λg=>g.name == f.name) || !Ge m f.from_ || !Ge m f.to_ || !EH m f):=by rw [P4,h]
theorem vU {f:FuncId} {g:Fn} {a v:V} (h:Hh P f [a,.clo g [] []] v):Hh P f [a,.fn g] v:=λI μ w xs hst hx=>h I μ w xs hst ⟨hx.1,λi v d p q=>by
 match i,q with
 | 0,q=>cases q;exact hx.2 0 v _ p rfl
 | 1,q =>
  cases q;have:=(hx.2 1 v _ p rfl).immInv;cases this;exact .imm _ _ (.clo _ _ _ _ _ rfl rfl (λi c x h=>by simp at h) (λi c x h=>by simp at h))
 | i+2,q=>simp at q⟩
def wrV:Int×Int->V
 | (1,i)=>.iface 148 (.agg [.int .i64 i])
 | (2,i)=>.iface 149 (.agg [.int .i64 i])
 | (3,_)=>.iface 151 (.agg [])
 | _=>.niliface
def PJ (m:Md):Nat->Nat->List Str->Option Nat
 | _,0,_=>none
 | i,n+1,met=>match m.datas[i]? with
  | some d=>if (SM m i d met).1=true then PJ m (i+1) n (SM m i d met).2 else some i
  | none=>none
noncomputable def SE (m:Md) (i:Nat):Bool:=match m.funs[i]? with
 | some f=>!(!((m.funs.take i).any λe=>e.name == f.name)&&((CN [f.from_,f.to_]).all (NW m)&&EH m f))
 | none=>false
noncomputable def Gx (m:Md) (at_:Int):Int×Int :=
 if at_=0 then (match PJ m 0 m.datas.length [] with | some i=>(1,(i:Int)) | none=>(0,0))
 else if at_=1 then (match FV (SE m) 0 m.funs.length with | some i=>(2,(i:Int)) | none=>(0,0))
 else if Vd m=true then (0,0) else (3,0)
def mA (m:Md):Prop:=∀d∈m.datas,∀c∈d.cons,c.args.length<=1000000
theorem jW (hf:zdi m) (hA:mA m):Tq3 152 [.ip 98 (P5 m) 0,.int .i64 0] (wrV (Gx m 0)):=by
 have hl:=hf.datas;have hD:=λi d met hd=>rW m i d met hd (λc hc=>hA d (AF hd) c hc);have e:Gx m 0=(match PJ m 0 m.datas.length [] with | some i=>(1,(i:Int)) | none=>(0,0)):=rfl;rw [e];clear e hA;refine Ad ttY_ok func152 rfl [1,2,3,4]<|Ai rfl<|Al rfl λh=>As rfl<|EF rfl<|Ai rfl<|Ak (λz:Nat×List Str=>[(18,.imm (.int .i64 z.1)),(17,.imm (.int .i64 m.datas.length)),(5,.mapr 1),(0,.imm (.ip 98 (P5 m) 0))]) (λz=>[(1,some (.map (HD z.2)))]) [2,3,4] (λz=>m.datas.length-z.1)
  (λz=>z.1<=m.datas.length/\PJ m z.1 (m.datas.length-z.1) z.2=PJ m 0 m.datas.length []) (0,[])
  ⟨AJ _,rfl⟩ ⟨rfl,BB (by simp),AK⟩ A9 rfl λz hz ih=>?_
 obtain ⟨i,me⟩:=z;obtain ⟨hi1,hi2⟩:=hz;simp only at hi1 hi2 ih;generalize PJ m 0 m.datas.length []=R at *;refine As rfl<|Ab rfl (λh=>?_) (λh=>?_)
 ·have hlt:i<m.datas.length:=by simp at h;omega
  obtain ⟨d,hd⟩:=Ao hlt;have hC:=hD i d me hd;rw [show m.datas.length-i=(m.datas.length-(i+1))+1 by omega,PJ,hd] at hi2;simp only at hi2;generalize SM m i d me=w at *;obtain ⟨w1,w2⟩:=w;simp only at hC hi2;refine As rfl<|Ae rfl hC Ax rfl<|Ai rfl ?_;cases w1 with
  | false =>
   refine Al rfl λh=>?_;rw [if_neg (by simp)] at hi2;rw [<- hi2];exact As rfl<|Aa rfl rfl rfl
  | true =>
   refine Ag rfl λh=>?_;rw [if_pos rfl] at hi2;exact As rfl<|Ac (ih (i+1,w2) (by simp only;omega) ⟨by simp only;omega,hi2⟩) ⟨AU,AC⟩ A9 rfl
 ·have hlt:¬i<m.datas.length:=by simp at h;omega
  rw [show m.datas.length-i=0 by omega,PJ] at hi2;rw [<- hi2];exact Az rfl<|As rfl<|Aa rfl rfl rfl
theorem aB (hm:OkM m):Tq3 152 [.ip 98 (P5 m) 0,.int .i64 1] (wrV (Gx m 1)):=by
 have hF:=λi f hf=>wW hm i f hf;have hl:=hm.few.funs;have e:Gx m 1=(match FV (SE m) 0 m.funs.length with | some i=>(2,(i:Int)) | none=>(0,0)):=rfl;rw [e];clear e hm;refine Ad ttY_ok func152 rfl [1,2,3,4]<|Ai rfl<|Ag rfl λh=>As rfl<|Al rfl λh=>As rfl<|Ak (λi:Nat=>[(38,.imm (.int .i64 i)),(37,.imm (.int .i64 m.funs.length)),(0,.imm (.ip 98 (P5 m) 0))]) (λ_=>[]) [1,2,3,4] (λi=>m.funs.length-i)
  (λi=>i<=m.funs.length/\FV (SE m) i (m.funs.length-i)=FV (SE m) 0 m.funs.length) 0
  ⟨AJ _,rfl⟩ ⟨rfl,BB (by simp),A9⟩ trivial rfl λi hi ih=>?_
 obtain ⟨hi1,hi2⟩:=hi;generalize FV (SE m) 0 m.funs.length=R at *;refine As rfl<|Ab rfl (λh=>?_) (λh=>?_)
 ·have hlt:i<m.funs.length:=by simp at h;omega
  obtain ⟨f,hf⟩:=Ao hlt;have hC:=hF i f hf;have hw:SE m i = !(!((m.funs.take i).any λe=>e.name == f.name)&&((CN [f.from_,f.to_]).all (NW m)&&EH m f)):=by rw [SE,hf]
  rw [lA _ hlt,hw] at hi2;clear hw;generalize (!((m.funs.take i).any λe=>e.name == f.name)&&((CN [f.from_,f.to_]).all (NW m)&&EH m f))=o at *;refine As rfl<|Af rfl hC<|Ai rfl ?_;cases o with
  | false =>
   refine Al rfl λh=>?_;simp only [qI,if_true] at hi2;rw [<- hi2];exact As rfl<|Aa rfl rfl rfl
  | true =>
   refine Ag rfl λh=>?_;simp only [Bool.not_true,DK,if_false] at hi2;exact As rfl<|Ac (ih (i+1) (by omega) ⟨by omega,hi2⟩) ⟨AU,AK⟩ trivial rfl
 ·have hlt:¬i<m.funs.length:=by simp at h;omega
  rw [sT _ (by omega)] at hi2;rw [<- hi2];exact Az rfl<|As rfl<|Aa rfl rfl rfl
theorem jU (m:Md):Tq3 152 [.ip 98 (P5 m) 0,.int .i64 2] (wrV (Gx m 2)):=by
 have hC:=vU (LE m.funs 226 [] [] (λe=>e.name == QR&&Cg e.from_ == 3) λe _=>jV e);have e:Gx m 2=(if Vd m=true then (0,0) else (3,0)):=rfl;rw [e];unfold Vd;generalize (m.funs.any λe=>e.name == QR&&Cg e.from_ == 3)=o at *;clear e;refine Ad ttY_ok func152 rfl [1,2,3,4]<|Ai rfl<|Ag rfl λh=>As rfl<|Ag rfl λh=>As rfl<|Al rfl λh=>As rfl<|Af rfl hC<|Ai rfl ?_;cases o with
 | false =>
  exact Al rfl λh=>As rfl<|Aa rfl rfl rfl
 | true =>
  exact Ag rfl λh=>As rfl<|Aa rfl rfl rfl
structure PSeq where
 t:TypeId
 b:Bool
 g:Option (Bool×Bool)
 ob:List Prop
 dst:Option Nat
 todo:List DI
def sD:D->Option Bool
 | .imm .niliface=>some true
 | .imm (.iface _ _)=>some false
 | _=>none
def zH (n:Nat) (env:Env) (todo:List DI):Option PSeq :=
 match Bm todo ([],[]) with
 | some (all,o,todo')=>match o.op,Cq all env o with
  | .binOp op t x (.const .nilIface) _,some g=>match Eg env x,BM n o.dst with
   | some dx,true=>match sD dx,op with
    | some b,.eql=>some ⟨t,b,g,[],o.dst,todo'⟩
    | some b,.neq=>some ⟨t,!b,g,[],o.dst,todo'⟩
    | _,_=>none
   | _,_=>none
  | _,_=>none
 | none=>none
theorem X3 {t:TypeId} {x:Operand} {b0:Bool} {dx:D} (hu:P.underlying t=some (.interface (P.methodsAt t))) (hb:sD dx=some b0) (h:RepD I μ v dx) :
  ((do eqGuard .eql t x (.const .nilIface) v .nilIface;binOp .eql t v .nilIface:Sem Value).run P w = .ok (.bool b0) w)/\((do eqGuard .neq t x (.const .nilIface) v .nilIface;binOp .neq t v .nilIface:Sem Value).run P w = .ok (.bool (!b0)) w):=by
 unfold sD at hb
 split at hb
 ·cases hb;have:=h.immInv;cases this;rw [eqGuard_nil_constR,eqGuard_nil_constR];exact ⟨run_eql_nil_nil w t hu,run_neq_nil_nil w t hu⟩
 ·cases hb;have:=h.immInv;cases this with
  | iface u v x hv =>
  exact ⟨run_eql_held_nil w t _ _ hu,run_neq_held_nil w t _ _ hu⟩
 ·cases hb
theorem Ol {t:TypeId} {g:Option (Bool×Bool)} {dst:Option Nat} {todo0:List DI} (h:zH n env todo=some ⟨t,b,g,ob,dst,todo0⟩) (hu:P.underlying t=some (.interface (P.methodsAt t))) (hk:G P n F Q todo0 (BK dst (gD g (.imm (.bool b))) env) st ids):G P n F Q todo env st ids:=by
 unfold zH at h
 split at h
 ·rename_i all o todo' h1
  split at h
  ·rename_i op t' x t2 g' hop hgd
   split at h
   ·rename_i dx hx hdo
    split at h
    ·rename_i b' hb;cases h;refine BF (fr:=[]) (wr:=[]) (rd:=[]) h1 (D3 hgd λI μ st1 ids1 a w hag hst hops hcx=>?_) hdo (λc hc=>by rw [hop] at hc;cases hc) hk;rw [hop] at hops;have rx:=hops x (by simp [Op.operands]) _ hx;have hrun:(execOp a.eval o).run P w = .ok (.value (.bool b)) w:=by
      simp only [execOp,hop];exact A7 (X3 hu hb rx).1
     rw [hrun];exact ⟨I,μ,hst,.imm _ _ (.bool _),Mu.le_refl μ,Ext.refl _ _ _ _⟩
    ·rename_i b' hb;cases h;refine BF (fr:=[]) (wr:=[]) (rd:=[]) h1 (D3 hgd λI μ st1 ids1 a w hag hst hops hcx=>?_) hdo (λc hc=>by rw [hop] at hc;cases hc) hk;rw [hop] at hops;have rx:=hops x (by simp [Op.operands]) _ hx;have hrun:(execOp a.eval o).run P w = .ok (.value (.bool (!b'))) w:=by
      simp only [execOp,hop];exact A7 (X3 hu hb rx).2
     rw [hrun];exact ⟨I,μ,hst,.imm _ _ (.bool _),Mu.le_refl μ,Ext.refl _ _ _ _⟩
    ·cases h
   ·cases h
  ·cases h
 ·cases h
def zcl (tt:TT) (n:Nat) (env:Env) (todo:List DI):Option (TypeId×Option Nat×List DI) :=
 match NU todo with
 | some o=>match o.guard,o.op with
  | none,.typeAssert x _ to_ true=>match Eg env x,lk tt to_,BM n o.dst,Bm todo ([],[]) with
   | some (.imm .niliface),some i,true,some (_,_,todo')=>match KF i.sh with
    | true=>some (to_,o.dst,todo')
    | false=>none
   | _,_,_,_=>none
  | _,_=>none
 | none=>none
theorem V9 (htt:TTok P tt) {to_:TypeId} {todo0:List DI} (h:zcl tt n env todo=some (to_,d0,todo0)) {z:Value} {zd:V} (hz:(P.info? to_).bind (·.zero)=some z) (hr:∀I,RepV I z zd) (hk:G P n F Q todo0 (BK d0 (.imm (.tup [zd,.bool false])) env) st ids):G P n F Q todo env st ids:=by
 unfold zcl at h
 split at h
 ·rename_i o ho
  split at h
  ·rename_i x from_ to' hg hop
   split at h
   ·rename_i i all o' todo' hx hi hd h1
    split at h
    ·rename_i hc;cases h;have ho':o'=o:=Dk ho h1;subst ho';refine BF (fr:=[]) (wr:=[]) (rd:=[]) h1 ?_ hd (λc hc=>by rw [hop] at hc;cases hc) hk;intro I μ st1 ids1 a w hag hst hon;refine ⟨λ_=>?_,λhw=>by rw [AH hg] at hw;cases hw⟩;have hops:=Bj hon;rw [hop] at hops;have rx:=(hops x (by simp [Op.operands]) _ hx).immInv;generalize hv:a.eval x=v at rx;cases rx;have hty:=htt _ _ hi;have hu:∃dd,P.underlying to_=some dd/\∀ms,dd ≠ .interface ms:=by
      have:=hty.sh;generalize i.sh=sh at this hc;cases sh <;> simp only [KF,DK] at hc <;> simp only [PL] at this
      case struct fs=>obtain ⟨f,h1,_⟩:=this;exact ⟨_,h1,λ_ h=>by cases h⟩
      case func=>obtain ⟨a,b,c,h1⟩:=this;exact ⟨_,h1,λ_ h=>by cases h⟩
      all_goals exact ⟨_,this,λ_ h=>by cases h⟩
     obtain ⟨dd,hd,hne⟩:=hu;have hz:=ET (w:=w) hz;have hta:(Instr.typeAssert .nilIface from_ to_ true).run P w = .ok (.tuple #[z,.bool false]) w:=by
      cases dd <;> first | exact absurd rfl (hne _) | simp [Instr.typeAssert,run_underlying hd,hz]
     have hrun:(execOp a.eval o').run P w = .ok (.value (.tuple #[z,.bool false])) w:=by
      simp only [execOp,hop,hv];exact A7 hta
     rw [hrun];refine ⟨I,μ,hst,.imm _ _ (.tup _ _ rfl λi c x hc hx=>?_),Mu.le_refl μ,Ext.refl _ _ _ _⟩
     match i,hc,hx with
     | 0,hc,hx=>cases hc;cases hx;exact hr I
     | 1,hc,hx=>cases hc;cases hx;exact .bool _
     | i+2,hc,hx=>simp at hx
    ·cases h
   ·cases h
  ·cases h
 ·cases h
noncomputable def IC (m:Md):Int×Int:=if (Gx m 0).1≠0 then Gx m 0 else if (Gx m 1).1≠0 then Gx m 1 else Gx m 2
theorem PN {p:Int×Int} (h:p.1=0):wrV p = .niliface:=by
 obtain ⟨a,b⟩:=p;simp only at h;subst h;rfl
theorem KV (m:Md) (j:Nat):(Gx m j).1=0\/(∃i,Gx m j=(1,i))\/(∃i,Gx m j=(2,i))\/Gx m j=(3,0):=by
 unfold Gx
 split
 ·split
  ·exact .inr (.inl ⟨_,rfl⟩)
  ·exact .inl rfl
 ·split
  ·split
   ·exact .inr (.inr (.inl ⟨_,rfl⟩))
   ·exact .inl rfl
  ·split
   ·exact .inl rfl
   ·exact .inr (.inr (.inr rfl))
theorem TY (hm:OkM m) (hA:mA m):Tq3 97 [.agg (dMdc m)] (wrV (IC m)):=by
 have hS:=GI m 0;have hL:∀j:Nat,j<3->Tq3 152 [.ip 98 (P5 m) 0,.int .i64 j] (wrV (Gx m j)):=λj hj=>by
  match j,hj with
  | 0,_=>exact jW hm.few hA
  | 1,_=>exact aB hm
  | 2,_=>exact jU m
 have hc:=KV m;have hW:∀j:Nat,j<3->(∀i:Nat,i<j->(Gx m i).1=0)->(Gx m j).1≠0->IC m=Gx m j:=λj hj h1 h2=>by
  unfold IC
  match j,hj with
  | 0,_=>have h2:(Gx m 0).1≠0:=h2;rw [if_pos h2];rfl
  | 1,_=>have h2:(Gx m 1).1≠0:=h2;rw [if_neg (λh=>h (h1 0 (by omega))),if_pos h2];rfl
  | 2,_=>rw [if_neg (λh=>h (h1 0 (by omega))),if_neg (λh=>h (h1 1 (by omega)))];rfl
 have hN:(∀i:Nat,i<3->(Gx m i).1=0)->wrV (IC m) = .niliface:=λh=>by
  unfold IC;rw [if_neg (λh'=>h' (h 0 (by omega))),if_neg (λh'=>h' (h 1 (by omega)))];exact PN (h 2 (by omega))
 clear hm hA;generalize IC m=R at *;have hS':P5 m=dMdc m++[.mapv [],.int .i64 0,.sl []]:=rfl;generalize Gx m=lk at *;obtain ⟨m1,m2,m3⟩:=m;refine Ad ttY_ok func97 rfl [4,1,2,3,5]<|Ai rfl<|Ak (λj:Nat=>[(5,.imm (.int .i64 j)),(1,.ref 4 0)]) (λ_=>[(4,some (.immb 43 3 (dMdc ⟨m1,m2,m3⟩)))]) [1,2,3,5] (λj=>3-j)
  (λj=>j<=3/\∀i:Nat,i<j->(lk i).1=0) 0
  ⟨by omega,λi h=>by omega⟩ AK A9 rfl λj hj ih=>?_
 obtain ⟨hj1,hj2⟩:=hj;refine As rfl<|Ab rfl (λh=>?_) (λh=>?_)
 ·have hlt:j<3:=by simp at h;omega
  have hP:=hL j hlt;refine As rfl<|Aq [1,2,3] [] [(1,1),(2,2),(3,3)] rfl hS trivial rfl rfl<|Ai rfl<|Yf 2 rfl<|BC 3 rfl<|Yj 9 rfl rfl<|As rfl<|Af rfl hP ?_;have hcj:=hc j;have hWj:=hW j hlt hj2;clear hP hS hL hc hW hN;rcases hcj with hcj | hcj
  ·rw [PN hcj];refine Ai rfl<|Ol rfl (by kernel_rfl)<|Ai rfl<|Ab rfl (λh=>by cases h) (λh=>?_);exact As rfl<|Ac (ih (j+1) (by omega) ⟨by omega,λi hi=>if e:i=j then (e ▸ hcj) else hj2 i (by omega)⟩) ⟨AU,A9⟩ A9 rfl
  ·rcases hcj with ⟨i,hi⟩ | ⟨i,hi⟩ | hi
   all_goals
    rw [hi] at hWj ⊢;rw [hWj (by simp)];refine Ai rfl<|Ol rfl (by kernel_rfl)<|Ai rfl<|Ab rfl (λh=>?_) (λh=>by cases h);exact As rfl<|Aa rfl rfl rfl
 ·have hlt:¬j<3:=by simp at h;omega
  obtain rfl:j=3:=by omega
  exact Az rfl<|As rfl<|Ah ⟨_,rfl,tV (hN hj2).symm,trivial⟩
theorem vH (i:Int):Tq3 341 [.agg [.int .i64 i]] (.tup [.int .i64 1,.int .i64 i])/\Tq3 342 [.agg [.int .i64 i]] (.tup [.int .i64 2,.int .i64 i])/\Tq3 343 [.agg []] (.tup [.int .i64 3,.int .i64 0]):=by
 refine ⟨?_,?_,?_⟩
 ·exact Ad ttY_ok func341 rfl [1,2]<|yg [] rfl (by simp;rfl)<|Aa rfl rfl rfl
 ·exact Ad ttY_ok func342 rfl [1,2]<|yg [] rfl (by simp;rfl)<|Aa rfl rfl rfl
 ·exact Ad ttY_ok func343 rfl [1,2]<|Ai rfl<|Aa rfl rfl rfl
theorem Qg (m:Md):(IC m).1=0\/(∃i,IC m=(1,i))\/(∃i,IC m=(2,i))\/IC m=(3,0):=by
 unfold IC
 split
 ·exact KV m 0
 ·split
  ·exact KV m 1
  ·exact KV m 2
theorem kM (hm:Hc m=true->OkM m/\mA m):Tq3 35 [.agg (dMdc m)] (if Hc m=true then (if (IC m).1=0 then .tup [.int .i64 0,.int .i64 0,Es 5] else .tup [.int .i64 (IC m).1,.int .i64 (IC m).2,Es 0]) else .tup [.int .i64 0,.int .i64 0,Es 2]):=by
 have hM:=Gd m;obtain ⟨t1,t2,t3⟩:=vH (IC m).2;have hc:=Qg m;cases hb:Hc m with
 | false =>
  rw [if_neg (by simp)];rw [hb] at hM;clear t1 t2 t3 hc hm;obtain ⟨m1,m2,m3⟩:=m;exact Ad ttY_ok func35 rfl [1,2]<|Ai rfl<|Af rfl hM<|Ai rfl<|Al rfl λh=>As rfl<|Aa rfl rfl rfl
 | true =>
  rw [if_pos rfl];rw [hb] at hM;obtain ⟨h1,h2⟩:=hm hb;have hF:=TY h1 h2;clear h1 h2 hm;generalize IC m=R at *;obtain ⟨m1,m2,m3⟩:=m;refine Ad ttY_ok func35 rfl [1,2]<|Ai rfl<|Af rfl hM<|Ai rfl<|Ag rfl λh=>As rfl<|Af rfl hF ?_;rcases hc with hc | hc
  ·rw [PN hc,if_pos hc];refine Ai rfl<|Ol rfl (by kernel_rfl)<|Ai rfl<|Ab rfl (λh=>?_) (λh=>by cases h);exact As rfl<|Aa rfl rfl rfl
  ·rcases hc with ⟨i,rfl⟩ | ⟨i,rfl⟩ | rfl
   ·rw [if_neg (by simp)];refine Ai rfl<|Ol rfl (by kernel_rfl)<|Ai rfl<|Ab rfl (λh=>by cases h) (λh=>?_);exact As rfl<|VB 341 rfl (by kernel_rfl) (λ_=>t1) (by simp)<|Ai rfl<|Aa rfl rfl rfl
   ·rw [if_neg (by simp)];refine Ai rfl<|Ol rfl (by kernel_rfl)<|Ai rfl<|Ab rfl (λh=>by cases h) (λh=>?_);exact As rfl<|VB 342 rfl (by kernel_rfl) (λ_=>t2) (by simp)<|Ai rfl<|Aa rfl rfl rfl
   ·rw [if_neg (by simp)];refine Ai rfl<|Ol rfl (by kernel_rfl)<|Ai rfl<|Ab rfl (λh=>by cases h) (λh=>?_);exact As rfl<|VB 343 rfl (by kernel_rfl) (λ_=>t3) (by simp)<|Ai rfl<|Aa rfl rfl rfl
theorem uY:∃z,((prog.info? 148).bind (·.zero)=some z/\(prog.info? 149).bind (·.zero)=some z)/\∀I,RepV I z (.agg [.int .i64 0]):=by
 refine ⟨.agg #[.int .i64 0],⟨by kernel_rfl,by kernel_rfl⟩,λI=>.agg _ _ rfl (by decide) λi c x hc hx=>?_⟩
 match i,hc,hx with
 | 0,hc,hx=>cases hc;cases hx;exact .int _ _
 | i+1,hc,hx=>simp at hx
theorem gK:∃z,(prog.info? 151).bind (·.zero)=some z/\∀I,RepV I z (.agg []) :=
 ⟨.agg #[],by kernel_rfl,λI=>.agg _ _ rfl (by decide) λi c x hc hx=>by simp at hx⟩
theorem Rp (hm:Hc m=true->OkM m/\mA m):Tq3 34 [.agg (dMdc m)] (if Hc m=true then (if (IC m).1=0 then Es 0 else Es 7) else Es 2):=by
 have hM:=Gd m;have hc:=Qg m;obtain ⟨z1,⟨q1,q2⟩,q3⟩:=uY;obtain ⟨z2,q4,q5⟩:=gK;cases hb:Hc m with
 | false =>
  rw [if_neg (by simp)];rw [hb] at hM;clear hc hm;obtain ⟨m1,m2,m3⟩:=m;exact Ad ttY_ok func34 rfl [1,2]<|Ai rfl<|Af rfl hM<|Ai rfl<|Al rfl λh=>As rfl<|Aa rfl rfl rfl
 | true =>
  rw [if_pos rfl];rw [hb] at hM;obtain ⟨h1,h2⟩:=hm hb;have hF:=TY h1 h2;clear h1 h2 hm;generalize IC m=R at *;obtain ⟨m1,m2,m3⟩:=m;refine Ad ttY_ok func34 rfl [1,2]<|Ai rfl<|Af rfl hM<|Ai rfl<|Ag rfl λh=>As rfl<|Af rfl hF ?_;rcases hc with hc | hc
  ·rw [PN hc,if_pos hc];refine Ai rfl<|V9 ttY_ok rfl q1 q3<|Ai rfl<|V9 ttY_ok rfl q2 q3<|Ai rfl<|V9 ttY_ok rfl q4 q5<|Ai rfl<|Ab rfl (λh=>by cases h) (λh=>?_);exact As rfl<|Aa rfl rfl rfl
  ·rcases hc with ⟨i,rfl⟩ | ⟨i,rfl⟩ | rfl
   ·rw [if_neg (by simp)];refine Ai rfl<|Dw ttY_ok rfl (.inl ⟨rfl,rfl⟩)<|Ai rfl<|Dw ttY_ok rfl (.inr ⟨by decide,_,_,q2,q3,rfl⟩)<|Ai rfl<|Dw ttY_ok rfl (.inr ⟨by decide,_,_,q4,q5,rfl⟩)<|Ai rfl<|Ab rfl (λh=>?_) (λh=>by cases h);exact As rfl<|Aa rfl rfl rfl
   ·rw [if_neg (by simp)];refine Ai rfl<|Dw ttY_ok rfl (.inr ⟨by decide,_,_,q1,q3,rfl⟩)<|Ai rfl<|Dw ttY_ok rfl (.inl ⟨rfl,rfl⟩)<|Ai rfl<|Dw ttY_ok rfl (.inr ⟨by decide,_,_,q4,q5,rfl⟩)<|Ai rfl<|Ab rfl (λh=>?_) (λh=>by cases h);exact As rfl<|Aa rfl rfl rfl
   ·rw [if_neg (by simp)];refine Ai rfl<|Dw ttY_ok rfl (.inr ⟨by decide,_,_,q1,q3,rfl⟩)<|Ai rfl<|Dw ttY_ok rfl (.inr ⟨by decide,_,_,q2,q3,rfl⟩)<|Ai rfl<|Dw ttY_ok rfl (.inl ⟨rfl,rfl⟩)<|Ai rfl<|Ab rfl (λh=>?_) (λh=>by cases h);exact As rfl<|Aa rfl rfl rfl
theorem aC {seen:Array Nat} (h:(leftOf es seen).size=0) (he:es[j]?=some e):seen.contains e.born=true:=by
 have h2:leftOf es seen = #[]:=ZH h;unfold leftOf at h2;rw [Array.filter_eq_empty_iff] at h2;have:=h2 e (Array.mem_of_getElem? he);simpa using this
noncomputable def TU (L:List Ty):V:=if L.all (AO true)=true then .tup [.sl (AA L),Es 0] else .tup [.sl [],Es 3]
theorem aZ (a b:Ty) (h:(AO true a&&AO true b)=true) (hE:Dq wL [] 0 [] a b T) (hs:Sol (BG T) θ) (hk:∀p∈T,0<=p.1/\p.1<100) :
  Tq3 13 [.agg (dTyc a),.agg (dTyc b)] (TU (mV T θ)):=by
 have hK:=FC [a,b];simp only [Dd,Jv,HI] at hK;rw [h] at hK;have hS:=LB;have hH:=IV func55 (by decide +kernel) rfl FB func56 (by decide +kernel) rfl (df:=[]) (dc:=[.ref 4 0,.ref 5 0,.ref 6 0]) (YH hE);obtain ⟨a1,a2,a3,a4⟩:=a;obtain ⟨b1,b2,b3,b4⟩:=b;refine Ad ttY_ok func13 rfl [5,6,1,2,3,4,7,8,9,10,11]<|Ai rfl<|Af rfl hK<|Ai rfl<|Ag rfl λh=>As rfl<|Aq [1,2,3] [] [(1,1),(2,2),(3,3)] rfl hS trivial rfl rfl<|Ai rfl<|Aq [] [(1,1),(2,2),(3,3),(4,4),(5,5),(6,6)] [] rfl hH ⟨⟨rfl,rfl,rfl⟩,⟨rfl,rfl,rfl⟩,⟨rfl,rfl,rfl⟩,⟨rfl,rfl,rfl⟩,⟨rfl,rfl,rfl⟩,⟨rfl,rfl,rfl⟩,trivial⟩ rfl rfl ?_;clear hH;refine Ai rfl<|Ag rfl λh=>IZ 2 rfl λbm es clock hes hst=>As rfl<|sP ttY_ok rfl<|Ai rfl ?_
 have hlen:es.size=T.length:=by simpa using hes
 refine Ak (λz:Array Nat×Int=>[(27,.iter 7),(8,.imm (.int .i64 z.2)),(6,.ref 4 0),(7,.nils)])
  (λz=>[(4,some (.cells 92 1 [.ref 1 0])),(1,some (iB wL 0 2 3 0)),(2,some (.mapx (T.map mI) bm es clock)),(3,some (.row 25 4 [])),(7,some (.miter bm clock z.1 clock))]) [8,9,10,11]
  (λz=>(leftOf es z.1).size) (λz=>((z.2 = -1\/∃p∈T,p.1=z.2) /\ -1<=z.2/\z.2<100)/\∀(j:Nat) (e:MapEntry) (p:Int×Ty),es[j]?=some e->z.1.contains e.born=true->T[j]?=some p->p.1<=z.2) (#[],-1)
  ⟨⟨.inl rfl,by simp,by simp⟩,λj e p _ h=>by simp at h⟩ Cb B6 rfl λz hz ih=>?_
 obtain ⟨seen,x⟩:=z;obtain ⟨⟨hz1,hz2,hz3⟩,hz4⟩:=hz;simp only at hz1 hz2 hz3 hz4;refine As rfl<|xG 2 rfl rfl (λx hx=>hst.1 x hx) (BQ _) (by decide) λz hz=>?_;rcases z with _ | ⟨j,e1⟩
 rotate_left
 ·obtain ⟨hy1,hy2⟩:=hz;obtain ⟨p,hp⟩:∃p,T[j]?=some p:=Ao (by rw [<- hlen];exact (GY.1 hy1).1);have hkv:(T.map mI)[j]?=some (mI p):=by simp [hp]
  have hD:WW (T.map mI) (some (j,e1)) = .imm (.tup [.bool true,.int .i64 p.1,.agg (dTyc p.2)]):=by simp only [WW,hkv,mI]
  rw [hD];refine As rfl<|Al rfl λh=>As rfl<|sQ 2 rfl rfl rfl rfl hy1 hkv<|Ai rfl ?_;have hsh:=left_shrinks es seen e1 hy2;have hpm:=AF hp;obtain ⟨k1,k2⟩:=hk p hpm;refine Ac (ih (seen.push e1.born,if p.1 > x then p.1 else x) hsh ⟨⟨?_,?_,?_⟩,λj' e' p' q1 q2 q3=>?_⟩) Cb B6 rfl
  ·simp only;split
   ·exact .inr ⟨p,hpm,rfl⟩
   ·exact hz1
  ·simp only;split <;> omega
  ·simp only;split <;> omega
  ·simp only at q2 ⊢;rw [contains_push,Ha] at q2;rcases q2 with q2 | q2
   ·have:=hz4 j' e' p' q1 q2 q3
    split <;> omega
   ·have hb:e'.born=e1.born:=by simpa using q2
    have hjj:j'=j:=by
     have hnd:=hst.2.1;have g1:(es.toList.map (·.born))[j']?=some e'.born:=by simp [q1]
     have g2:(es.toList.map (·.born))[j]?=some e1.born:=by simp [hy1]
     rw [hb] at g1;exact (List.getElem?_inj (AL.1 g1).1 hnd).1 (g1.trans g2.symm)
    subst hjj;rw [q3] at hp;cases hp
    split <;> omega
 have hz:(leftOf es seen).size=0:=hz;have hmx:jG T=x:=pV (λp hp=>by
  obtain ⟨j,hj⟩:=IN hp;obtain ⟨e,he⟩:∃e,es[j]?=some e:=⟨_,PB (by rw [hlen];exact (AL.1 hj).1)⟩
  exact hz4 j e p he (aC hz he) hj) hz1 (λp hp=>(hk p hp).1) hz2
 clear ih hz4 hz1;obtain ⟨N,hN⟩:∃N:Nat,x+1=N:=⟨(x+1).toNat,by omega⟩
 have hL:mV T θ=(List.range N).map λi:Nat=>θ i:=by rw [mV,hmx,hN,ZG]
 rw [hL];have hN1:N<=100:=by omega
 refine As rfl<|Ag rfl λh=>Az rfl<|HR 2 rfl<|As rfl<|K9 (e:=25) (sz:=4) 7 8 (by decide) rfl<|Ak (λj:Nat=>[(37,.imm (.int .i64 j)),(36,.imm (.int .i64 N)),(6,.ref 4 0),(7,.own 8 (AA ((List.range j).map λi:Nat=>θ i)).length)])
  (λj=>[(4,some (.cells 92 1 [.ref 1 0])),(1,some (iB wL 0 2 3 0)),(2,some (Wt T)),(3,some (.row 25 4 [])),(8,some (.row 25 4 (AA ((List.range j).map λi:Nat=>θ i))))]) [9,10,11]
  (λj=>N-j) (λj=>j<=N/\((List.range j).map λi:Nat=>θ i).all (AO true)=true) 0
  ⟨AJ _,rfl⟩ ⟨rfl,BB (by rw [GR (by omega) (by omega)];exact hN),AK⟩ B6 rfl λj hj ih=>?_
 obtain ⟨hj1,hj2⟩:=hj;refine As rfl<|Ab rfl (λh=>?_) (λh=>?_)
 ·have hlt:j<N:=by simp at h;omega
  have hH:=Xt j;obtain ⟨w1,w2⟩:=SS (m:=wL) (k:=0) (S:=[]) hs (t:=Aw j) rfl;rw [CH] at w1 w2;have hC:=FC [θ j];simp only [Dd,Jv,HI] at hC;have hall:∀f,AO true (θ j)=f->((List.range N).map λi:Nat=>θ i).all (AO true)=true->f=true:=λf hf h=>by
   rw [<- hf];exact CS.1 h _ (C2.2 ⟨j,TO.2 hlt,rfl⟩)
  have hnx:(List.range (j+1)).map (λi:Nat=>θ i)=((List.range j).map λi:Nat=>θ i)++[θ j]:=by rw [Rb,CE];rfl
  refine As rfl<|Af rfl hH<|Ai rfl ?_;generalize hu:θ (j:Int)=u at w1 w2 hC hall hnx;by_cases hsz:EK u<=12
  ·have hW:=w1 hsz;generalize hfo:AO true u=fo at hC;have hfo':=hall fo hfo;obtain ⟨t1,t2,t3,t4⟩:=u;refine A5 [(1,1),(2,2),(3,3)] [] [1,2,3] (fr:=[]) (nm:=[]) rfl trivial (by simp) hW Ay rfl El rfl rfl rfl<|yg [] rfl (by simp;rfl)<|AI rfl hC<|BH rfl ?_;cases fo with
   | false =>
    refine Al rfl λh=>As rfl<|Aa rfl rfl ?_;rw [TU,if_neg (λh=>by cases hfo' h)];rfl
   | true =>
    refine Ag rfl λh=>As rfl<|B7 ttY_ok rfl ⟨by simp,by simp [maxLen];omega,by simp;omega,trivial⟩<|Ai rfl<|Bt 8 10 rfl ?_;have et:AA ((List.range (j+1)).map λi:Nat=>θ i)=AA ((List.range j).map λi:Nat=>θ i)++[dTyc (.mk t1 t2 t3 t4)]:=by rw [hnx,GM];rfl
    refine Ac (ih (j+1) (by omega) ⟨by omega,?_⟩) ⟨AU,rfl,rfl,by rw [et];rfl,trivial⟩ ⟨rfl,rfl,rfl,rfl,by rw [et];rfl,trivial⟩ rfl;rw [hnx,HJ,hj2];simpa using hfo
  ·have hW:=w2 (by omega);have hno:AO true u=false:=by
    cases hf:AO true u with
    | false=>rfl
    | true=>exact absurd (lC hf) hsz
   have hfo':=hall false hno;refine A5 [(1,1),(2,2),(3,3)] [] [] (fr:=[]) (nm:=[1,2,3]) rfl trivial (by simp) hW Ay rfl trivial rfl rfl rfl<|yg [] rfl (by simp [Am];rfl)<|Aj (v:=.bool false) rfl (λhc=>by simp [Am] at hc) (by simp [Am])<|BH rfl<|Al rfl λh=>As rfl<|Aa rfl rfl ?_;rw [TU,if_neg (λh=>by cases hfo' h)];rfl
 ·have hlt:j=N:=by simp at h;omega
  subst hlt;refine Az rfl<|BC 8 rfl<|As rfl<|Aa rfl rfl ?_;rw [TU,if_pos hj2];rfl
theorem Zw {op n:Int} {k p:Nat} (h:Bv op n x k p=true):p<=5:=by
 unfold Bv at h;by_cases e0:op=1
 ·rw [if_pos e0] at h;simp [Bk,Dz] at h;omega
 rw [if_neg e0] at h;by_cases e1:op=2
 ·rw [if_pos e1] at h;simp [Bk,Dz] at h;omega
 rw [if_neg e1] at h;by_cases e2:op=3\/op=21\/op=25\/op=28
 ·rw [if_pos e2] at h;simp [Bk,Dz] at h;omega
 rw [if_neg e2] at h;by_cases e3:op=4
 ·rw [if_pos e3] at h;simp [Bk,Dz] at h;omega
 rw [if_neg e3] at h;by_cases e4:op=5\/op=27
 ·rw [if_pos e4] at h;simp [Bk,Dz] at h;omega
 rw [if_neg e4] at h;by_cases e5:op=7
 ·rw [if_pos e5] at h;simp [Bk,Dz] at h;omega
 rw [if_neg e5] at h;by_cases e6:op=8
 ·rw [if_pos e6] at h;simp [Bk,Dz] at h;omega
 rw [if_neg e6] at h;by_cases e7:op=14
 ·rw [if_pos e7] at h;simp [Bk,Dz] at h;omega
 rw [if_neg e7] at h;by_cases e8:op=15
 ·rw [if_pos e8] at h;simp [Bk,Dz] at h;omega
 rw [if_neg e8] at h;by_cases e9:op=16\/op=17\/op=19\/op=20\/op=23\/op=26
 ·rw [if_pos e9] at h;simp [Bk,Dz] at h;omega
 rw [if_neg e9] at h;by_cases e10:op=24
 ·rw [if_pos e10] at h;simp [Bk,Dz] at h;omega
 rw [if_neg e10] at h;by_cases e11:op=6\/op=9\/op=10\/op=11\/op=12\/op=13\/op=18\/op=22
 ·rw [if_pos e11] at h;simp [Bk,Dz] at h;omega
 rw [if_neg e11] at h;cases h
theorem T9:∀{l:List Ty},l.all EM=true->DB l<=12*l.length
 | [],_=>by simp [DB]
 | t::r,h=>by
  simp only [Dd,Ap] at h;have h1:=h.1;simp only [EM,Ap,decide_eq_true_eq] at h1;have h2:=Ex t 12 h1.1.1;rw [QK] at h2;have h3:=T9 h.2;simp only [DB,Da];omega
mutual
theorem dC:∀(t:Tm) (l d:Int),0<=AY t l d->BU t=true->(KQ t:Int)<=61*(l-AY t l d)
 | .mk op n x ks ps,l,d,h,hn=>by
  simp only [AY] at h ⊢;by_cases e:l<1\/d<1
  ·rw [if_pos e] at h;omega
  ·rw [if_neg e] at h ⊢;simp only [BU,Ap] at hn;have h1:=Wj ks (l-1) (d-1) h hn.2;have h2:=Zw hn.1.1;have h3:=T9 hn.1.2;simp only [KQ];omega
theorem Wj:∀(ts:List Tm) (l d:Int),0<=Bs ts l d->Cm ts=true->(Dx ts:Int)<=61*(l-Bs ts l d)
 | [],l,d,h,_=>by simp [Dx,Bs]
 | t::r,l,d,h,hn=>by
  simp only [Bs] at h ⊢;by_cases e:0<=l
  ·rw [if_pos e] at h ⊢;simp only [Cm,Ap] at hn;have h0:0<=AY t l d:=by
    by_cases e2:0<=AY t l d
    ·exact e2
    ·have:=(If r (AY t l d) d (Gn t l d).1).2;omega
   have h1:=dC t l d h0 hn.1;have h2:=Wj r (AY t l d) d h hn.2;simp only [Dx];omega
  ·rw [if_neg e] at h;omega
end
theorem Th (h:EB t=true):BU t=true/\KQ t<=100000:=by
 simp only [EB,Ap,decide_eq_true_eq] at h;have h1:=dC t 60 14 h.1 h.2;exact ⟨h.2,by omega⟩
theorem H7 {t:Ty} (h:Cw t=true):CL t=[]/\Ck t=true:=by
 simp only [Cw,Ap] at h;have:=M2 t h.2;exact ⟨this.2.2 rfl,this.1⟩
theorem Vb (h:BV m=true):OkM m/\mA m:=by
 simp only [BV,Ap,decide_eq_true_eq,Dz] at h;obtain ⟨⟨⟨⟨h1,h2⟩,h3⟩,h4⟩,h5⟩:=h;have hf:∀f∈m.funs,K5 f=true:=CS.1 h5;have hd:∀d∈m.datas,He d=true:=CS.1 h4;have hc:∀d∈m.datas,d.cons.length<=5/\∀c∈d.cons,Lz c=true:=λd hd'=>by
  have:=hd d hd';simp only [He,Ap,decide_eq_true_eq,Dz] at this;exact ⟨by omega,CS.1 this.2⟩
 have ha:∀d∈m.datas,∀c∈d.cons,c.args.length<=3/\∀t∈c.args,Cw t=true:=λd hd' c hc'=>by
  have:=(hc d hd').2 c hc';simp only [Lz,Ap,decide_eq_true_eq] at this;exact ⟨by omega,CS.1 this.2⟩
 refine ⟨⟨⟨by omega,by omega,λd hd'=>by have:=(hc d hd').1;omega⟩,⟨λf hf'=>?_,λd hd' c hc' t ht=>H7 ((ha d hd' c hc').2 t ht)⟩,λf hf'=>?_⟩,λd hd' c hc'=>by have:=(ha d hd' c hc').1;omega⟩
 ·have:=hf f hf';simp only [K5,Ap] at this;obtain ⟨a1,a2⟩:=H7 this.1.1.2;obtain ⟨b1,b2⟩:=H7 this.1.2;exact ⟨by simp [AN,CL,Dc,a1,b1],by simp [AN,Ck,EJ,a2,b2]⟩
 ·have:=hf f hf';simp only [K5,Ap] at this;exact Th this.2
mutual
theorem za2 (m:Md) {b:Bool}:∀t:Ty,BL b t=true->(GT t).all (NW m)=Ge m t
 | .mk s n x ps,h=>by
  simp only [BL,Ap] at h;simp only [GT,Dd,Ge,PT m ps h.2];by_cases e:s=8
  ·subst e;have hp:ps=[]:=by
    have:=h.1;simp [Ct] at this;exact this.1.1
   subst hp;simp [NW,Cg,JY,GF]
  ·rw [if_neg e];simp [NW,Cg,e]
theorem PT (m:Md) {b:Bool}:∀l:List Ty,B9 b l=true->(CN l).all (NW m)=GF m l
 | [],_=>rfl
 | t::r,h=>by
  simp only [B9,Ap] at h;simp only [CN,HJ,GF,za2 m t h.1,PT m r h.2]
end
theorem To {b:Bool}:∀{l:List Ty},(∀t∈l,BL b t=true)->B9 b l=true
 | [],_=>rfl
 | t::r,h=>by simp only [B9,Ap];exact ⟨h t (by simp),To λu hu=>h u (by simp [hu])⟩
theorem sJ {l:List Str}:BE (Kw l x) y=(BE l y||x == y):=by
 unfold Kw;split
 ·rename_i h;by_cases e:x=y
  ·subst e;simp [h]
  ·simp [e]
 ·rw [K0];simp [BE]
theorem Yo (m:Md) (cs:List Cd) (b:Bool) (met:List Str):∀j,j<=cs.length ->
  ((cs.take j).foldl (lL m) (b,met)).1=(b && !((List.range j).any λk=>match cs[k]? with | some c=>BE (met++(cs.take k).map (λc:Cd=>c.name)) c.name | none=>false)&&(cs.take j).all λc=>(CN c.args).all (NW m)) /\
   ∀s,BE ((cs.take j).foldl (lL m) (b,met)).2 s=BE (met++(cs.take j).map (λc:Cd=>c.name)) s
 | 0,_=>by simp
 | j+1,h=>by
  obtain ⟨h1,h2⟩:=Yo m cs b met j (by omega);obtain ⟨c,hc⟩:=Ao (l:=cs) (i:=j) (by omega);rw [Bp hc,Z6,Pc,Z7,Rb,GZ];simp only [lL,h1,h2,Vj,List.any_nil,hc,Bool.or_false,HJ,Dd,Jv,HI,sJ,CE,C6,HL];refine ⟨?_,λs=>?_⟩
  ·generalize (List.range j).any _=o1;generalize BE _ c.name=o2;generalize (cs.take j).all _=o3;generalize (CN c.args).all _=o4;cases b <;> cases o1 <;> cases o2 <;> cases o3 <;> cases o4 <;> rfl
  ·rw [<- CF,K0 _ [c.name]];simp [BE]
theorem zbn (hm:BV m=true) {d:Dt} (hd:m.datas[i]?=some d) {met:List Str} (hmet:∀s,BE met s=BE (cnN (m.datas.take i)) s) :
  (SM m i d met).1 = !Lt m i/\∀s,BE (SM m i d met).2 s=BE (cnN (m.datas.take (i+1))) s:=by
 obtain ⟨h1,h2⟩:=Yo m d.cons (!((m.datas.take i).any λe=>e.name == d.name)) met d.cons.length (BQ _);rw [Jw] at h1 h2;have hw:∀c∈d.cons,B9 false c.args=true:=λc hc=>by
  simp only [BV,Ap] at hm;have:=CS.1 hm.1.2 d (AF hd);simp only [He,Ap] at this;have:=CS.1 this.2 c hc;simp only [Lz,Ap] at this;refine To λt ht=>?_;have:=CS.1 this.2 t ht;simp only [Cw,Ap] at this;exact this.2
 have e1:(d.cons.all λc=>(CN c.args).all (NW m)) = !d.cons.any λc=>!GF m c.args:=by
  have:∀l:List Cd,(∀c∈l,(CN c.args).all (NW m)=GF m c.args)->(l.all λc=>(CN c.args).all (NW m)) = !l.any λc=>!GF m c.args:=λl=>by
   induction l with
   | nil=>intro _;rfl
   | cons c r ih =>
    intro h;simp only [Dd,Vj,ih λx hx=>h x (by simp [hx]),h c (by simp)];cases GF m c.args <;> simp
  exact this _ λc hc=>PT m c.args (hw c hc)
 have e2:∀k:Nat,(match d.cons[k]? with | some c=>BE (met++(d.cons.take k).map (λc:Cd=>c.name)) c.name | none=>false)=(match d.cons[k]? with | some c=>BE (cnN (m.datas.take i)++(d.cons.take k).map (λc:Cd=>c.name)) c.name | none=>false):=λk=>by
  cases d.cons[k]? with
  | none=>rfl
  | some c=>simp only [K0,hmet]
 refine ⟨?_,λs=>?_⟩
 ·unfold SM;rw [h1,e1];simp only [e2,Lt,zaj,hd];generalize (List.range d.cons.length).any _=o1;generalize (m.datas.take i).any _=o2;generalize d.cons.any _=o3;cases o1 <;> cases o2 <;> cases o3 <;> rfl
 ·unfold SM;rw [h2,K0,hmet,Bp hd];simp only [cnN,CE,ZS,C6,HL,Ki,List.flatten_nil,JI,K0]
theorem fQ {m:Md} (hm:BV m=true):∀(n i:Nat) (met:List Str),i+n=m.datas.length->(∀s,BE met s=BE (cnN (m.datas.take i)) s)->PJ m i n met=FV (Lt m) i n
 | 0,_,_,_,_=>rfl
 | n+1,i,met,h,hmet=>by
  obtain ⟨d,hd⟩:=Ao (l:=m.datas) (i:=i) (by omega);obtain ⟨h1,h2⟩:=zbn hm hd hmet;rw [PJ,FV,hd];simp only [h1];cases Lt m i with
  | true=>rfl
  | false =>
   simp only [qI,if_true,DK,if_false];exact fQ hm n (i+1) _ (by omega) h2
theorem YF (hm:BV m=true):IC m=JS m:=by
 have e0:PJ m 0 m.datas.length []=FV (Lt m) 0 m.datas.length:=fQ hm _ 0 [] (by omega) λs=>by simp [cnN]
 have e1:SE m=P4 m:=funext λi=>by
  unfold SE P4;cases hf:m.funs[i]? with
  | none=>rfl
  | some f =>
   simp only;have hw:B9 false [f.from_,f.to_]=true:=by
    simp only [BV,Ap] at hm;have:=CS.1 hm.2 f (AF hf);simp only [K5,Cw,Ap] at this;simp [B9,this.1.1.2.2,this.1.2.2]
   have:=PT m _ hw;rw [this];simp only [GF,HI];generalize (m.funs.take i).any _=o1;generalize Ge m f.from_=o2;generalize Ge m f.to_=o3;generalize EH m f=o4;cases o1 <;> cases o2 <;> cases o3 <;> cases o4 <;> rfl
 have l0:Gx m 0=(match PJ m 0 m.datas.length [] with | some i=>(1,(i:Int)) | none=>(0,0)):=rfl;have l1:Gx m 1=(match FV (SE m) 0 m.funs.length with | some i=>(2,(i:Int)) | none=>(0,0)):=rfl;have l2:Gx m 2=if Vd m=true then (0,0) else (3,0):=rfl
 unfold IC JS;rw [l0,l1,l2,e0,e1];cases FV (Lt m) 0 m.datas.length with
 | some i=>simp
 | none =>
  cases FV (P4 m) 0 m.funs.length with
  | some i=>simp
  | none=>simp
theorem Ri (σ:Sb):∀H,(∀i:Nat,i<H->(σ (i:Int)).isSome=true->i+1<=MZ σ H)/\(MZ σ H=0\/∃i:Nat,i<H/\MZ σ H=i+1/\(σ (i:Int)).isSome=true)
 | 0=>⟨λi h=>by omega,.inl rfl⟩
 | H+1=>by
  obtain ⟨h1,h2⟩:=Ri σ H;simp only [MZ]
  split
  ·rename_i hs;exact ⟨λi hi _=>by omega,.inr ⟨H,by omega,rfl,hs⟩⟩
  ·rename_i hs;refine ⟨λi hi his=>?_,h2.imp id λ⟨i,a,b,c⟩=>⟨i,by omega,b,c⟩⟩;by_cases e:i=H
   ·subst e;exact absurd his hs
   ·exact h1 i (by omega) his
theorem UJ {n:Int}:(BG T n).isSome=true↔∃p∈T,p.1=n:=by
 induction T with
 | nil=>simp [BG]
 | cons p r ih =>
  simp only [BG]
  split
  ·rename_i h;simp [h]
  ·rename_i h;simp [h,ih]
theorem pU (h:∀p∈T,0<=p.1/\p.1<H):jG T=(MZ (BG T) H:Int)-1:=by
 obtain ⟨h1,h2⟩:=Ri (BG T) H;refine pV (λp hp=>?_) ?_ (λp hp=>(h p hp).1) (by omega)
 ·obtain ⟨a,b⟩:=h p hp;have:=h1 p.1.toNat (by omega) (UJ.2 ⟨p,hp,by omega⟩)
  omega
 ·rcases h2 with h2 | ⟨i,a,b,c⟩
  ·left;omega
  ·right;obtain ⟨p,hp,e⟩:=UJ.1 c;exact ⟨p,hp,by omega⟩
noncomputable def rK (H:Nat):Option Sb->V
 | some σ=>TU (mW σ H)
 | none=>.tup [.sl [],Es 7]
mutual
theorem OE {b:Bool}:∀t:Ty,BL b t=true->HC t=true
 | .mk s n x ps,h=>by
  simp only [BL,Ap] at h;obtain ⟨h1,h2,h3,h4⟩:=PQ h.1;simp only [HC,M1 ps h.2,HI,Ha,Ap,decide_eq_true_eq,bne_iff_ne];by_cases e:s=9
  ·right;have:=h3 e;omega
  ·exact .inl e
theorem M1 {b:Bool}:∀l:List Ty,B9 b l=true->G6 l=true
 | [],_=>rfl
 | t::r,h=>by
  simp only [B9,Ap] at h;simp only [G6,OE t h.1,M1 r h.2,Bool.and_self]
end
theorem J5 {t:Ty} (h:AO true t=true):Ck t=true/\inB 100 t/\HC t=true:=by
 simp only [AO,Ap] at h;have:=M2 t h.2;exact ⟨this.1,this.2.1,OE t h.2⟩
theorem kO {a b:Ty} (h:(AO true a&&AO true b)=true) {r:Option Sb} (hE:U7 n (λ_=>none) a b r) (hH:H<=100) (ha:inB H a) (hb:inB H b) :
  Tq3 13 [.agg (dTyc a),.agg (dTyc b)] (rK H r):=by
 have hf:=h;simp only [Ap] at hf;obtain ⟨wa,_,_⟩:=J5 hf.1;obtain ⟨wb,_,_⟩:=J5 hf.2;have h0:Dom (H:Int) (BG []):=λn t h=>(nomatch h)
 have hs0:Sol (BG []) Aw:=Sol.mk (λn t h=>nomatch h) (λn h=>rfl) (λn t h=>nomatch h) (λn t h=>nomatch h);have hG:=fN wL 0 [] (H:=H) n [] a b r hE ⟨Aw,hs0⟩ h0 wa wb ha hb;have hU:=RC (H:=H) hE hs0 h0 wa wb ha hb;cases r with
 | none=>exact kN a b h hG
 | some σ' =>
  obtain ⟨T',hK,rfl⟩:=hG;obtain ⟨⟨θ,hθ⟩,hD,_⟩:=hU;have hk:∀p∈T',0<=p.1/\p.1<(H:Int):=λp hp=>by
   obtain ⟨t,ht⟩:=Ve.1 (UJ.2 ⟨p,hp,rfl⟩);exact (hD _ _ ht).1
  have hY:=aZ a b h hK hθ λp hp=>by have:=hk p hp;omega
  have e:mV T' θ=mW (BG T') H:=by
   rw [mV,mW,pU hk,Qt hθ];congr 2;omega
  rw [e] at hY;exact hY
def zcd:Str:=[109,111,100,117,108,101,32,109,32,123,32,116,121,112,101,32,76,105,115,116,32,61,32,78,105,108,32,124,32,67,111,110,115,40,105,110,116,44,32,76,105,115,116,41,59,32,102,117,110,32,115,117,109,40,108,32,58,32,76,105,115,116,41,32,58,32,105,110,116,32,61,32,109,97,116,99,104,32,108,32,123,32,78,105,108,32,45,62,32,48,32,124,32,67,111,110,115,40,120,44,32,114,41,32,45,62,32,120,32,43,32,115,117,109,32,114,32,125,59,32,102,117,110,32,109,97,105,110,40,117,32,58,32,117,110,105,116,41,32,58,32,105,110,116,32,61,32,108,101,116,32,99,32,61,32,99,101,108,108,40,78,105,108,41,32,105,110,32,108,101,116,32,120,32,61,32,112,117,116,40,99,44,32,67,111,110,115,40,105,110,112,117,116,44,32,103,101,116,40,99,41,41,41,32,105,110,32,111,117,116,40,49,44,32,115,117,109,32,40,103,101,116,40,99,41,41,41,59,32,125]
def zcg:Str:=[102,117,110,32,102,32,61,62,32,102,32,49]
def zcf:Str:=[102,117,110,32,120,32,61,62,32,120,32,120]
def zce:Str:=[115,117,109]
def Cu:Str:=[76,105,115,116]
def dB (s:Str):List Tok:=(ID 200 s (Fg s 0)).getD []
def sumK:Fd:=⟨[115,117,109],[108],Bw Cu,AR,(.mk 15 0 [] [(.mk 4 0 [108] [] []),(.mk 1 0 [] [] []),(.mk 9 0 [] [(.mk 4 0 [120] [] []),(.mk 6 0 [] [(.mk 4 0 [115,117,109] [] []),(.mk 4 0 [114] [] [])] [])] [])] [.mk 6 0 [78,105,108] [],.mk 6 0 [67,111,110,115] [.mk 2 0 [120] [],.mk 2 0 [114] []]])⟩
def mainK:Fd:=⟨[109,97,105,110],[117],Di,AR,(.mk 7 0 [99] [(.mk 16 0 [] [(.mk 14 0 [78,105,108] [] [])] []),(.mk 7 0 [120] [(.mk 18 0 [] [(.mk 4 0 [99] [] []),(.mk 14 0 [67,111,110,115] [(.mk 25 0 [] [] []),(.mk 17 0 [] [(.mk 4 0 [99] [] [])] [])] [])] []),(.mk 24 1 [] [(.mk 6 0 [] [(.mk 4 0 [115,117,109] [] []),(.mk 17 0 [] [(.mk 4 0 [99] [] [])] [])] [])] [])] [])] [])⟩
def mK:Md:=⟨[109],[⟨Cu,[⟨[78,105,108],[]⟩,⟨[67,111,110,115],[AR,Bw Cu]⟩]⟩],[sumK,mainK]⟩
def t1K:Tm:=(.mk 5 0 [102] [(.mk 6 0 [] [(.mk 4 0 [102] [] []),(.mk 1 1 [] [] [])] [])] [])
def t2K:Tm:=(.mk 5 0 [120] [(.mk 6 0 [] [(.mk 4 0 [120] [] []),(.mk 4 0 [120] [] [])] [])] [])
def t3K:Tm:=(.mk 4 0 [115,117,109] [] [])
theorem Z1:Tq3 51 [] (.agg (dMdc mK)):=by
 have hP:=Sg (s:=zcd) (l:=dB zcd) (g:=200) (f:=60) (t:=mK) (of_decide_eq_true (by kernel_rfl)) (by decide) (by kernel_rfl) (of_decide_eq_true (by kernel_rfl)) (by decide) (by kernel_rfl) (by kernel_rfl);exact Ad AG func51 rfl [1,2]<|At rfl<|Af rfl hP<|At rfl<|Aa rfl rfl rfl
theorem Qu {s:Str} (h:Tq3 111 [.str s] (.tup [.agg (dTmc t),.int .i64 0])):Tq3 52 [.str s] (.agg (dTmc t)):=by
 obtain ⟨t1,t2,t3,t4,t5⟩:=t;exact Ad AG func52 rfl [1,2]<|At rfl<|Af rfl h<|At rfl<|Aa rfl rfl rfl
theorem zaq:Tq3 52 [.str zcg] (.agg (dTmc t1K)):=Qu (JE (l:=dB zcg) (g:=200) (f:=60) (of_decide_eq_true (by kernel_rfl)) (by decide) (by kernel_rfl) (of_decide_eq_true (by kernel_rfl)) (by decide) (by kernel_rfl) (by kernel_rfl))
theorem zap:Tq3 52 [.str zcf] (.agg (dTmc t2K)):=Qu (JE (l:=dB zcf) (g:=200) (f:=60) (of_decide_eq_true (by kernel_rfl)) (by decide) (by kernel_rfl) (of_decide_eq_true (by kernel_rfl)) (by decide) (by kernel_rfl) (by kernel_rfl))
theorem zan:Tq3 52 [.str zce] (.agg (dTmc t3K)):=Qu (JE (l:=dB zce) (g:=200) (f:=60) (of_decide_eq_true (by kernel_rfl)) (by decide) (by kernel_rfl) (of_decide_eq_true (by kernel_rfl)) (by decide) (by kernel_rfl) (by kernel_rfl))
theorem YR {op:Int} (h:AT m Γ op x ps K τ S) (h13:op≠13):S=[]:=by
 unfold AT at h;by_cases e0:op=1\/op=25
 ·rw [if_pos e0] at h;exact h.2.2
 rw [if_neg e0] at h;by_cases e1:op=2
 ·rw [if_pos e1] at h;exact h.2.2
 rw [if_neg e1] at h;by_cases e2:op=3\/op=28
 ·rw [if_pos e2] at h;exact h.2.2
 rw [if_neg e2] at h;by_cases e3:op=4
 ·rw [if_pos e3] at h;exact h.2.2
 rw [if_neg e3] at h;by_cases e4:op=5
 ·rw [if_pos e4] at h;obtain ⟨_,_,h⟩:=h;exact h.2.2
 rw [if_neg e4] at h;by_cases e5:op=6
 ·rw [if_pos e5] at h;obtain ⟨_,h⟩:=h;exact h.2
 rw [if_neg e5] at h;by_cases e6:op=7
 ·rw [if_pos e6] at h;obtain ⟨_,h⟩:=h;exact h.2
 rw [if_neg e6] at h;by_cases e7:op=8
 ·rw [if_pos e7] at h;exact h.2
 rw [if_neg e7] at h;by_cases e8:op=9\/op=10\/op=11
 ·rw [if_pos e8] at h;exact h.2.2
 rw [if_neg e8] at h;by_cases e9:op=12
 ·rw [if_pos e9] at h;exact h.2.2
 rw [if_neg e9] at h;by_cases e10:op=13
 ·rw [if_pos e10] at h;exact absurd e10 h13
 rw [if_neg e10] at h;by_cases e11:op=14
 ·rw [if_pos e11] at h;obtain ⟨_,_,h⟩:=h;exact h.2.2.2
 rw [if_neg e11] at h;by_cases e12:op=15
 ·rw [if_pos e12] at h;obtain ⟨_,_,h⟩:=h;exact h.2.2
 rw [if_neg e12] at h;by_cases e13:op=16
 ·rw [if_pos e13] at h;obtain ⟨_,h⟩:=h;exact h.2.2
 rw [if_neg e13] at h;by_cases e14:op=17
 ·rw [if_pos e14] at h;exact h.2
 rw [if_neg e14] at h;by_cases e15:op=18
 ·rw [if_pos e15] at h;obtain ⟨_,h⟩:=h;exact h.2.2
 rw [if_neg e15] at h;by_cases e16:op=19
 ·rw [if_pos e16] at h;obtain ⟨_,h⟩:=h;exact h.2.2
 rw [if_neg e16] at h;by_cases e17:op=20
 ·rw [if_pos e17] at h;exact h.2
 rw [if_neg e17] at h;by_cases e18:op=21
 ·rw [if_pos e18] at h;obtain ⟨_,h⟩:=h;exact h.2.2
 rw [if_neg e18] at h;by_cases e19:op=22
 ·rw [if_pos e19] at h;obtain ⟨_,h⟩:=h;exact h.2.2
 rw [if_neg e19] at h;by_cases e20:op=23
 ·rw [if_pos e20] at h;exact h.2
 rw [if_neg e20] at h;by_cases e21:op=24
 ·rw [if_pos e21] at h;exact h.2.2
 rw [if_neg e21] at h;by_cases e22:op=26
 ·rw [if_pos e22] at h;exact h.2.2
 rw [if_neg e22] at h;by_cases e23:op=27
 ·rw [if_pos e23] at h;exact h.2
 rw [if_neg e23] at h;exact h.elim
mutual
theorem KZ {m:Md}:∀(t:Tm) (Γ:Au) (τ:Ty) (S:List Ty),Pp 13 t=false->Cf m t Γ τ S->S=[]
 | .mk op n x ks ps,Γ,τ,S,hd,⟨K,S1,S2,h1,h2,h3⟩=>by
  simp only [Pp,Kk,beq_eq_false_iff_ne] at hd;rw [h3,R5 ks K S1 hd.2 h2,YR h1 hd.1];rfl
theorem R5 {m:Md}:∀(ts:List Tm) (K:List (Au×Ty)) (S:List Ty),Ml 13 ts=false->C9 m ts K S->S=[]
 | [],[],S,_,hp=>hp
 | t::ts,k::ks,S,hd,⟨S1,S2,h1,h2,h3⟩=>by
  simp only [Ml,Kk] at hd;rw [h3,KZ t k.1 k.2 S1 hd.1 h1,R5 ts ks S2 hd.2 h2];rfl
 | [],_::_,_,_,hp=>hp.elim
 | _::_,[],_,_,hp=>hp.elim
end
theorem zar (h:Cf mK t1K [] τ S):∃b,τ=AN (AN AR b) b/\S=[]:=by
 have hS:=KZ t1K [] τ S (by decide) h;obtain ⟨K,S1,S2,h1,h2,_⟩:=h;have h1:∃a b,K=[([]++[([102],a)],b)]/\τ=AN a b/\S2=[]:=by simpa [AT] using h1
 obtain ⟨a,b,rfl,rfl,_⟩:=h1;obtain ⟨S3,_,⟨K,S4,S5,h3,h4,_⟩,_,_⟩:=h2;have h3:∃c,K=[([]++[([102],a)],AN c b),([]++[([102],a)],c)]/\S5=[]:=by simpa [AT] using h3
 obtain ⟨c,rfl,_⟩:=h3;obtain ⟨_,_,⟨_,_,_,h5,_,_⟩,⟨_,_,⟨_,_,_,h6,_,_⟩,_,_⟩,_⟩:=h4;have h5:a=AN c b:=by
  simp [AT,BO,HP] at h5;exact h5.2.1
 have h6:c=AR:=by
  simp [AT] at h6;exact h6.2.1
 subst h6;subst h5;exact ⟨b,rfl,hS⟩
theorem dD (b:Ty):Cf mK t1K [] (AN (AN AR b) b) [] :=
 ⟨[([]++[([102],AN AR b)],b)],[],[],(by simp [AT];exact ⟨_,_,⟨rfl,rfl⟩,rfl⟩),⟨[],[],⟨[([]++[([102],AN AR b)],AN AR b),([]++[([102],AN AR b)],AR)],[],[],by simp [AT],
  ⟨[],[],⟨[],[],[],by simp [AT,BO,HP],rfl,rfl⟩,⟨[],[],⟨[],[],[],by simp [AT],rfl,rfl⟩,rfl,rfl⟩,rfl⟩,rfl⟩,rfl,rfl⟩,rfl⟩
theorem vK:¬Cf mK t2K [] τ S:=by
 rintro ⟨K,S1,S2,h1,h2,_⟩;have h1:∃a b,K=[([]++[([120],a)],b)]/\τ=AN a b/\S2=[]:=by simpa [AT] using h1
 obtain ⟨a,b,rfl,rfl,_⟩:=h1;obtain ⟨S3,_,⟨K,S4,S5,h3,h4,_⟩,_,_⟩:=h2;have h3:∃c,K=[([]++[([120],a)],AN c b),([]++[([120],a)],c)]/\S5=[]:=by simpa [AT] using h3
 obtain ⟨c,rfl,_⟩:=h3;obtain ⟨_,_,⟨_,_,_,h5,_,_⟩,⟨_,_,⟨_,_,_,h6,_,_⟩,_,_⟩,_⟩:=h4;have h5:a=AN c b:=by
  simp [AT,BO,HP] at h5;exact h5.2.1
 have h6:a=c:=by
  simp [AT,BO,HP] at h6;exact h6.2.1
 have:=congrArg EK (h6.symm.trans h5);simp only [AN,EK,DB] at this;omega
theorem zao (h:Cf mK t3K [] τ S):τ=AN (Bw Cu) AR/\S=[]:=by
 have hS:=KZ t3K [] τ S (by decide) h;obtain ⟨K,S1,S2,h1,h2,_⟩:=h;have h1:K=[]/\AN (Bw Cu) AR=τ/\S2=[]:=by simpa [AT,BO,HP,mK,JP,sumK] using h1
 exact ⟨h1.2.1.symm,hS⟩
theorem vJ:Cf mK t3K [] (AN (Bw Cu) AR) [] :=
 ⟨[],[],[],by simp [AT,BO,HP,mK,JP,sumK],rfl,rfl⟩
theorem nG:Cf mK sumK.body [(sumK.param,sumK.from_)] sumK.to_ []:=by
 have p1:GP mK (.mk 6 0 [78,105,108] []) (Bw Cu) [([108],Bw Cu)] [([108],Bw Cu)]:=by
  simp [GP,FH,Ow,mK];exact ⟨_,_,⟨rfl,rfl⟩,rfl,rfl,rfl⟩
 have p2:GP mK (.mk 6 0 [67,111,110,115] [.mk 2 0 [120] [],.mk 2 0 [114] []]) (Bw Cu) [([108],Bw Cu)] [([108],Bw Cu),([120],AR),([114],Bw Cu)]:=by
  simp [GP,FH,Ow,mK];exact ⟨_,_,⟨rfl,rfl⟩,rfl,rfl,⟨_,rfl,⟨_,rfl,rfl⟩⟩⟩
 have rw:GO mK (Bw Cu) [([108],Bw Cu)] [.mk 6 0 [78,105,108] [],.mk 6 0 [67,111,110,115] [.mk 2 0 [120] [],.mk 2 0 [114] []]] [[([108],Bw Cu)],[([108],Bw Cu),([120],AR),([114],Bw Cu)]] :=
  ⟨_,_,p1,⟨_,_,p2,rfl,rfl⟩,rfl⟩
 have hn:∀(Γ:Au) (x:Str) (τ:Ty),BO mK Γ x=some τ->Cf mK (.mk 4 0 x [] []) Γ τ []:=λΓ x τ h=>⟨[],[],[],by simp [AT,h],rfl,rfl⟩
 refine ⟨[([([108],Bw Cu)],Bw Cu),([([108],Bw Cu)],AR),([([108],Bw Cu),([120],AR),([114],Bw Cu)],AR)],[],[],?_,?_,rfl⟩
 ·show AT mK _ 15 _ _ _ _ _;unfold AT;exact ⟨_,_,rw,rfl,rfl⟩
 ·refine ⟨[],[],hn _ _ _ (by simp [BO,HP]),⟨[],[],⟨[],[],[],by simp [AT,sumK],rfl,rfl⟩,⟨[],[],⟨[([([108],Bw Cu),([120],AR),([114],Bw Cu)],AR),([([108],Bw Cu),([120],AR),([114],Bw Cu)],AR)],[],[],by simp [AT],?_,rfl⟩,rfl,rfl⟩,rfl⟩,rfl⟩;refine ⟨[],[],hn _ _ _ (by simp [BO,HP]),⟨[],[],⟨[([([108],Bw Cu),([120],AR),([114],Bw Cu)],AN (Bw Cu) AR),([([108],Bw Cu),([120],AR),([114],Bw Cu)],Bw Cu)],[],[],by simp [AT],⟨[],[],hn _ _ _ (by simp [BO,HP,JP,mK,sumK]),⟨[],[],hn _ _ _ (by simp [BO,HP]),rfl,rfl⟩,rfl⟩,rfl⟩,rfl,rfl⟩,rfl⟩
theorem jK (S:List Ty):¬Cf mK mainK.body [(mainK.param,mainK.from_)] mainK.to_ S:=by
 rintro ⟨K,S1,S2,h1,h2,_⟩;have h1:∃a,K=[([([117],Di)],a),([([117],Di)]++[([99],a)],AR)]/\S2=[]:=by simpa [AT,mainK] using h1
 obtain ⟨a,rfl,_⟩:=h1;obtain ⟨_,_,_,⟨_,_,⟨K,S3,S4,h3,h4,_⟩,_,_⟩,_⟩:=h2;have h3:∃b,K=[([([117],Di)]++[([99],a)],b),([([117],Di)]++[([99],a)]++[([120],b)],AR)]/\S4=[]:=by simpa [AT,mainK] using h3
 obtain ⟨b,rfl,_⟩:=h3;obtain ⟨_,_,_,⟨_,_,⟨K,S5,S6,h5,h6,_⟩,_,_⟩,_⟩:=h4;simp [AT,AR,Di] at h5
structure Bfs (m:Md) (a i:Nat) (l:List Nat):Prop where
 nd:l.Nodup
 lt:∀j∈l,j<m.funs.length
 has:a∈l
 rch:∀j∈l,Rch m a j
 done:∀p j f k g,p<i->l[p]?=some j->m.funs[j]?=some f->m.funs[k]?=some g->V8 4 g.name f.body=true->k∈l
theorem TG (h:l.Nodup) (hb:∀x∈l,x<n):l.length<=n:=by
 have:=Ox (l:=l.map λi:Nat=>(i:Int)) (n:=n) (List.Pairwise.map _ (λa b h e=>h (Vh.1 e)) h) λx hx=>by
  obtain ⟨y,hy,rfl⟩:=C2.1 hx;have:=hb y hy;omega
 rw [Dn] at this;omega
theorem Bfs.len (h:Bfs m a i l):l.length<=m.funs.length:=TG h.nd h.lt
theorem Bfs.init (h:a<m.funs.length):Bfs m a 0 [a] :=
 ⟨by simp,λj hj=>by rw [AP.1 hj];exact h,by simp,λj hj=>by rw [AP.1 hj];exact .base,λp j f k g hp=>by omega⟩
theorem Bfs.all (h:Bfs m a i l) (hi:l.length<=i):∀j,Rch m a j->j∈l:=by
 intro j hj
 induction hj with
 | base=>exact h.has
 | step _ hf hg hh ih =>
  obtain ⟨p,hp⟩:=DL.1 ih;exact h.done p _ _ _ _ (by have:=(AL.1 hp).1;omega) hp hf hg hh
structure BfsK (m:Md) (a i k:Nat) (l:List Nat):Prop where
 b:Bfs m a i l
 now:∀j f k' g,l[i]?=some j->m.funs[j]?=some f->k'<k->m.funs[k']?=some g->V8 4 g.name f.body=true->k'∈l
theorem Bfs.k (h:Bfs m a i l):BfsK m a i 0 l:=⟨h,λj f k' g _ _ hk=>by omega⟩
theorem BfsK.next {k:Nat} (h:BfsK m a i k l) (hk:m.funs.length<=k):Bfs m a (i+1) l:=by
 refine ⟨h.b.nd,h.b.lt,h.b.has,h.b.rch,λp j f k' g hp hj hf hg hh=>?_⟩;by_cases e:p=i
 ·subst e;exact h.now j f k' g hj hf (by have:=(AL.1 hg).1;omega) hg hh
 ·exact h.b.done p j f k' g (by omega) hj hf hg hh
theorem BfsK.skip {k:Nat} (h:BfsK m a i k l) (hn:k∈l\/∀j f g,l[i]?=some j->m.funs[j]?=some f->m.funs[k]?=some g->V8 4 g.name f.body=false):BfsK m a i (k+1) l:=by
 refine ⟨h.b,λj f k' g hj hf hk hg hh=>?_⟩;by_cases e:k'=k
 ·subst e;rcases hn with hn | hn
  ·exact hn
  ·have:=hn j f g hj hf hg;rw [hh] at this;cases this
 ·exact h.now j f k' g hj hf (by omega) hg hh
theorem BfsK.add {k:Nat} (h:BfsK m a i k l) (hk:k∉l) (hj:l[i]?=some j) (hf:m.funs[j]?=some f) (hg:m.funs[k]?=some g) (hh:V8 4 g.name f.body=true):BfsK m a i (k+1) (l++[k]):=by
 have hil:i<l.length:=(AL.1 hj).1;have hsame:∀p,p<=i->(l++[k])[p]?=l[p]?:=λp hp=>Pb (by omega);refine ⟨⟨?_,?_,?_,?_,?_⟩,?_⟩
 ·rw [HM];exact ⟨h.b.nd,by simp,λx hx y hy e=>by rw [AP.1 hy] at e;exact hk (e ▸ hx)⟩
 ·intro x hx;rcases BN.1 hx with hx | hx
  ·exact h.b.lt x hx
  ·rw [AP.1 hx];exact (AL.1 hg).1
 ·exact Mf _ h.b.has
 ·intro x hx;rcases BN.1 hx with hx | hx
  ·exact h.b.rch x hx
  ·rw [AP.1 hx];exact .step (h.b.rch j (AF hj)) hf hg hh
 ·intro p j' f' k' g' hp hj' hf' hg' hh';rw [hsame p (by omega)] at hj';exact Mf _ (h.b.done p j' f' k' g' hp hj' hf' hg' hh')
 ·intro j' f' k' g' hj' hf' hk' hg' hh';rw [hsame i (BQ _)] at hj';by_cases e:k'=k
  ·subst e;simp
  ·exact Mf _ (h.now j' f' k' g' hj' hf' (by omega) hg' hh')
def yJ (m:Md) (op:Int) (l:List Nat):Bool:=l.any λj=>match m.funs[j]? with
 | some f=>Pp op f.body
 | none=>false
def Rs (l:List Int) (x:Int):List Int:=if x∈l then l else l++[x]
theorem Wz (l:List Int) (x:Int):FF (DT l) (.int .i64 x) (.bool true)=DT (Rs l x):=by
 unfold Rs;by_cases h:x∈l
 ·rw [if_pos h];exact Q6 h
 ·rw [if_neg h];exact II h
theorem pY {l:List Int} {x y:Int}:y∈Rs l x↔y∈l\/x=y:=by
 unfold Rs;split
 ·rename_i h;exact ⟨.inl,λh'=>h'.elim id λe=>e ▸ h⟩
 ·simp [eq_comm]
theorem sI {l:List Str}:BE (Kw l x) y=(BE l y||x == y):=by
 have ha:∀a b:List Str,BE (a++b) y=(BE a y||BE b y):=λa b=>by
  induction a with
  | nil=>rfl
  | cons z r ih=>simp only [De,BE,ih,Vi]
 unfold Kw;split
 ·rename_i h;by_cases e:x=y
  ·subst e;simp [h]
  ·simp [e]
 ·rw [ha];simp [BE]
mutual
def PH:Tm->List Int×List Str->List Int×List Str
 | .mk op _ x ks _,z=>Iv ks (Rs z.1 op,if op=4 then Kw z.2 x else z.2)
def Iv:List Tm->List Int×List Str->List Int×List Str
 | [],z=>z
 | t::r,z=>Iv r (PH t z)
end
mutual
theorem Or {y:Int}:∀(t:Tm) (z:List Int×List Str),y∈(PH t z).1↔y∈z.1\/Pp y t=true
 | .mk op n x ks ps,z=>by
  simp only [PH,Pp,RF ks,pY,Ha,beq_iff_eq,or_assoc]
theorem RF {y:Int}:∀(ts:List Tm) (z:List Int×List Str),y∈(Iv ts z).1↔y∈z.1\/Ml y ts=true
 | [],z=>by simp [Iv,Ml]
 | t::r,z=>by simp only [Iv,Ml,RF r,Or t,Ha,or_assoc]
end
mutual
theorem RG {y:Str}:∀(t:Tm) (z:List Int×List Str),BE (PH t z).2 y=(BE z.2 y||V8 4 y t)
 | .mk op n x ks ps,z=>by
  simp only [PH,V8,Uv ks];by_cases e:op=4
  ·subst e;simp [sI,Vi]
  ·simp [e,show (op == 4)=false by simpa using e]
theorem Uv {y:Str}:∀(ts:List Tm) (z:List Int×List Str),BE (Iv ts z).2 y=(BE z.2 y||XG 4 y ts)
 | [],z=>by simp [Iv,XG]
 | t::r,z=>by simp only [Iv,XG,Uv r,RG t,Vi]
end
theorem Tj {t:Tm}:∀{l:List Tm},t∈l->KQ t<=Dx l
 | x::r,h=>by
  simp only [Dx];rcases Cy.1 h with rfl | h
  ·omega
  ·have:=Tj h;omega
def lH (z:List Int×List Str):St:=[(1,some (.map (DT z.1))),(2,some (.map (HD z.2)))]
theorem Pk:∀(b:Nat) (t:Tm) (z:List Int×List Str),KQ t<=b->Tq4 93 [.imm (.agg (dTmc t)),.mapr 1,.mapr 2] (lH z) (.ret (.imm (.tup [])) (lH (PH t z)))
 | 0,t,z,hb=>by have:=dG t;omega
 | b+1,.mk op n x ks ps,z,hb=>by
  have hI:=Wz z.1 op;have hK:=Wy z.2 x;have hR:=λ(u:Tm) (hu:u∈ks) (z:List Int×List Str)=>Pk b u z (by have:=Tj hu;simp only [KQ] at hb;omega);obtain ⟨d,nm⟩:=z;simp only [PH];refine EX 0 rfl λhok=>?_;simp [F0,CV,maxLen,dTmc] at hok;refine Ad ttY_ok func93 rfl [3,4,5]<|Ai rfl<|F6 ttY_ok rfl rfl rfl (CK d) ?_;rw [hI];refine Ai rfl ?_;have hn1:4=op->FF (HD nm) (.str x) (.bool true)=HD (if op=4 then Kw nm x else nm):=λe=>by rw [hK,if_pos e.symm]
  have hn2:op≠4->nm=if op=4 then Kw nm x else nm:=λe=>by rw [if_neg e]
  have hB:∀nm',nm'=(if op=4 then Kw nm x else nm)->Tq2 Tryz.f93.ntmps (D8 (lH (d,nm))) (JD Wa Tryz.f93.results.toList (.ret (.imm (.tup [])) (lH (Iv ks (Rs d op,if op=4 then Kw nm x else nm)))))
    [.code (FK Tryz.f93 3)] [(3,.ref 3 0),(1,.mapr 1),(2,.mapr 2)] ((3,some (.immb 49 5 (dTmc (.mk op n x ks ps))))::lH (Rs d op,nm')) [4,5]:=by
   intro nm' e;subst e;generalize (if op=4 then Kw nm x else nm)=nm' at *;generalize Rs d op=d' at *;refine As rfl<|Ak (λz:Nat×List Int×List Str=>[(20,.imm (.int .i64 z.1)),(19,.imm (.int .i64 ks.length)),(18,.imm (.sl (EQ ks))),(1,.mapr 1),(2,.mapr 2)]) (λz=>lH z.2) [4,5] (λz=>ks.length-z.1)
    (λz=>z.1<=ks.length/\Iv (ks.drop z.1) z.2=Iv ks (d',nm')) (0,d',nm')
    ⟨AJ _,rfl⟩ ⟨rfl,BB (by simp),AC⟩ AK rfl λz hz ih=>?_
   obtain ⟨j,d1,n1⟩:=z;obtain ⟨hj1,hj2⟩:=hz;simp only at hj1 hj2 ih;generalize Iv ks (d',nm')=E at *;refine As rfl<|Ab rfl (λh=>?_) (λh=>?_)
   ·have hlt:j<ks.length:=by simp at h;omega
    obtain ⟨u,hu⟩:=Ao hlt;have hg:=Eu hu;have hC:=hR u (AF hu) (d1,n1);rw [Av hu,Iv] at hj2;generalize PH u (d1,n1)=w at *;obtain ⟨u1,u2,u3,u4,u5⟩:=u;exact As rfl<|Sl rfl hg<|Ai rfl<|Aq [] [(1,1),(2,2)] [] rfl hC nX rfl rfl<|Ai rfl<|Ac (ih (j+1,w) (by simp only;omega) ⟨by simp only;omega,hj2⟩) ⟨AU,Cb⟩ AK rfl
   ·have hlt:¬j<ks.length:=by simp at h;omega
    rw [Bo (by omega)] at hj2;simp only [Iv] at hj2;subst hj2;exact Az rfl<|As rfl<|BR ⟨[],Cb⟩
  clear hR;by_cases h4:op=4
  ·have hn:=hn1 h4.symm;refine Ab rfl (λh=>?_) (λh=>by exfalso;simp at h;exact h h4);refine As rfl<|F6 ttY_ok rfl rfl rfl (Gq nm) ?_;rw [hn];refine RH<|J8 ?_ ?_ ?_ (hB _ rfl)
   ·exact AC
   ·exact AC
   ·rfl
  ·have hn:=hn2 h4;refine Ab rfl (λh=>by exfalso;simp at h;exact h4 h) (λh=>?_);refine IX<|J8 ?_ ?_ ?_ (hB _ hn)
   ·exact AC
   ·exact AC
   ·rfl
def Uy (l:List Nat):List (List V):=Jc (l.map λi:Nat=>(i:Int))
@[simp] theorem dNats_length (l:List Nat):(Uy l).length=l.length:=by simp [Uy]
theorem yA (a b:List Nat):Uy (a++b)=Uy a++Uy b:=by simp [Uy,Jc]
def pT (m:Md) (s:Str) (l:List Nat):Bool:=l.any λj=>match m.funs[j]? with
 | some f=>V8 4 s f.body
 | none=>false
structure EfI (m:Md) (a:Nat) (l:List Nat) (z:List Int×List Str):Prop where
 nd:l.Nodup
 lt:∀j∈l,j<m.funs.length
 has:a∈l
 rch:∀j∈l,Rch m a j
 dos:∀y,y∈z.1↔yJ m y l=true
 nam:∀s,BE z.2 s=pT m s l
theorem EfI.init (h:m.funs[a]?=some f):EfI m a [a] (PH f.body ([],[])):=by
 have hlt:=(AL.1 h).1;refine ⟨by simp,λj hj=>by rw [AP.1 hj];exact hlt,by simp,λj hj=>by rw [AP.1 hj];exact .base,λy=>?_,λs=>?_⟩
 ·rw [Or];simp [yJ,h]
 ·rw [RG];simp [pT,h,BE]
theorem EfI.add {k:Nat} (h:EfI m a l z) (hg:m.funs[k]?=some g) (hk:k∉l) (hn:BE z.2 g.name=true):EfI m a (l++[k]) (PH g.body z):=by
 have hlt:=(AL.1 hg).1;refine ⟨?_,λj hj=>?_,Mf _ h.has,λj hj=>?_,λy=>?_,λs=>?_⟩
 ·rw [HM];exact ⟨h.nd,by simp,λx hx y hy e=>by rw [AP.1 hy] at e;exact hk (e ▸ hx)⟩
 ·rcases BN.1 hj with hj | hj
  ·exact h.lt j hj
  ·rw [AP.1 hj];exact hlt
 ·rcases BN.1 hj with hj | hj
  ·exact h.rch j hj
  ·rw [AP.1 hj];rw [h.nam,pT,DJ] at hn;obtain ⟨i,h1,h2⟩:=hn;cases hf:m.funs[i]? with
   | none=>rw [hf] at h2;cases h2
   | some f=>rw [hf] at h2;exact .step (h.rch i h1) hf hg h2
 ·rw [Or,h.dos];simp [yJ,GZ,hg]
 ·rw [RG,h.nam];simp [pT,GZ,hg]
open Classical in
theorem EfI.fin (h:EfI m a l z) (hc:∀(k:Nat) (g:Fd),m.funs[k]?=some g->BE z.2 g.name=true->k∈l) (op:Int):decide (op∈z.1)=tH m a op:=by
 have hall:∀j,Rch m a j->j∈l:=λj hj=>by
  induction hj with
  | base=>exact h.has
  | step _ hf hg hh ih =>
   refine hc _ _ hg ?_;rw [h.nam,pT,DJ];exact ⟨_,ih,by rw [hf];exact hh⟩
 unfold tH;rw [decide_eq_decide,h.dos,yJ,DJ];constructor
 ·rintro ⟨j,h1,h2⟩;cases hf:m.funs[j]? with
  | none=>rw [hf] at h2;cases h2
  | some f=>rw [hf] at h2;exact ⟨j,f,h.rch j h1,hf,h2⟩
 ·rintro ⟨j,f,h1,h2,h3⟩;exact ⟨j,hall j h1,by rw [h2];exact h3⟩
theorem EfI.len (h:EfI m a l z):l.length<=m.funs.length:=TG h.nd h.lt
def PA (l:List Nat):List Int:=l.map λi:Nat=>(i:Int)
theorem Xb {k:Nat}:(k:Int)∈PA l↔k∈l:=by
 simp only [PA,C2,Vh,exists_eq_right]
theorem Xz (m:Md) (a:Nat) (hm:Hc m=true) (ha:a<m.funs.length) (hl:m.funs.length<=1000000):Tq3 32 [.agg (dMdc m),.int .i64 a] (.tup [.sl (Jc (xU m a)),Es 0]):=by
 have hM:=Gd m;rw [hm] at hM;obtain ⟨f,hf⟩:=Ao ha;have hg:=Lm hf;have hE:=λt z=>Pk (KQ t) t z (BQ _);have hE0:=hE f.body ([],[]);have hI:=EfI.init hf;generalize PH f.body ([],[])=z0 at *;obtain ⟨m1,m2,m3⟩:=m;obtain ⟨f1,f2,⟨a1,a2,a3,a4⟩,⟨b1,b2,b3,b4⟩,⟨t1,t2,t3,t4,t5⟩⟩:=f;simp only at hE0 ha hl;refine Ad ttY_ok func32 rfl [6,1,2,3,7,8,9,10]<|Ai rfl<|Af rfl hM<|BH rfl<|Ab rfl (λhh=>?_) (λhh=>?_)
 ·exfalso;simp at hh;omega
 refine As rfl<|EF rfl<|Ai rfl<|EF rfl<|Ai rfl<|EF rfl<|Ai rfl<|F6 ttY_ok rfl rfl rfl (CK [])<|Ai rfl<|yi rfl (c:=CG ⟨f1,f2,.mk a1 a2 a3 a4,.mk b1 b2 b3 b4,.mk t1 t2 t3 t4 t5⟩) (λ_=>⟨by simp,by simpa using hg,by simp [CG]⟩) (by simp)<|Ai rfl<|Aq [] [(1,1),(2,2)] [] rfl hE0 nX rfl rfl<|Ai rfl ?_;clear hE0 hM hh hg;refine Ak (λz:List Nat×List Int×List Str=>[(6,.mapr 1),(7,.mapr 2),(8,.mapr 3),(2,.ref 6 0)]) (λz=>[(1,some (.map (DT z.2.1))),(2,some (.map (HD z.2.2))),(3,some (.map (DT (PA z.1)))),(6,some (.immb 43 3 (dMdc ⟨m1,m2,m3⟩)))]) [7,8,9,10]
  (λz=>m3.length-z.1.length) (λz=>EfI ⟨m1,m2,m3⟩ a z.1 z.2) ([a],z0) hI Cb Cb rfl λz hz ih=>?_
 clear hI;obtain ⟨l,d,nm⟩:=z;simp only at hz ih;refine As rfl<|Ak (λi:Nat=>[(44,.imm (.int .i64 i)),(43,.imm (.int .i64 m3.length)),(42,.imm (.sl (m3.map CG))),(6,.mapr 1),(7,.mapr 2),(8,.mapr 3),(2,.ref 6 0)]) (λ_=>[(1,some (.map (DT d))),(2,some (.map (HD nm))),(3,some (.map (DT (PA l)))),(6,some (.immb 43 3 (dMdc ⟨m1,m2,m3⟩)))]) [7,8,9,10]
  (λi=>m3.length-i) (λi=>i<=m3.length/\∀(k:Nat) (g:Fd),k<i->m3[k]?=some g->BE nm g.name=true->k∈l) 0 ⟨AJ _,λk g h=>by omega⟩
  ⟨rfl,BB (by simp),B6⟩ Cb rfl λi hi jh=>?_
 obtain ⟨hi1,hi2⟩:=hi;refine As rfl<|Ab rfl (λh=>?_) (λh=>?_)
 ·have hlt:i<m3.length:=by simp at h;omega
  obtain ⟨g,hg⟩:=Ao hlt;have hgg:=Lm hg;have hC:=hE g.body (d,nm);have hadd:=λh1 h2=>hz.add (k:=i) (g:=g) hg h1 h2;have hk3:FF (DT (PA l)) (.int .i64 i) (.bool true)=DT (Rs (PA l) i):=Wz _ _;have hlk:decide ((i:Int)∈PA l)=decide (i∈l):=by rw [decide_eq_decide];exact Xb
  obtain ⟨g1,g2,⟨c1,c2,c3,c4⟩,⟨d1,d2,d3,d4⟩,⟨u1,u2,u3,u4,u5⟩⟩:=g;simp only at hC hadd;generalize PH (.mk u1 u2 u3 u4 u5) (d,nm)=z1 at *;refine As rfl<|yi rfl (c:=CG ⟨g1,g2,.mk c1 c2 c3 c4,.mk d1 d2 d3 d4,.mk u1 u2 u3 u4 u5⟩) (λ_=>⟨by simp,by simpa using hgg,by simp [CG]⟩) (by simp)<|Ai rfl<|CR ttY_ok 2 rfl rfl rfl (Gq nm) (by simp [Am]) (z:=.bool false) rfl (λ_=>.bool _) (KR nm g1)<|BH rfl<|CR ttY_ok 3 rfl rfl rfl (CK (PA l)) (by simp [Am]) (z:=.bool false) rfl (λ_=>.bool _) (by rw [Gr,hlk])<|BH rfl ?_;generalize hb1:BE nm g1=b1 at *;refine Ab rfl (λh=>?_) (λh=>?_)
  ·have hb2:b1=true/\i∉l:=by
    by_cases e:i∈l
    ·cases b1 <;> simp [e] at h
    ·cases b1 <;> simp [e] at h ⊢
   obtain ⟨rfl,hnl⟩:=hb2;have hz1:=hadd hnl rfl;have hin:Rs (PA l) i=PA (l++[i]):=by
    unfold Rs;rw [if_neg (λh=>hnl (Xb.1 h))];simp [PA]
   rw [hin] at hk3;have hle:=hz1.len;simp only [B5,Da,Cz] at hle;refine As rfl<|F6 ttY_ok rfl rfl rfl (CK (PA l)) ?_;rw [hk3];exact Ai rfl<|Aq [] [(1,1),(2,2)] [] rfl hC nX rfl rfl<|Ai rfl<|Ac (ih (l++[i],z1) (by simp only [B5,Da,Cz];omega) hz1) Cb Cb rfl
  ·have hkk:∀(k:Nat) (g:Fd),k<i+1->m3[k]?=some g->BE nm g.name=true->k∈l:=λk g hk hg' hn=>by
    by_cases e:k=i
    ·subst e;rw [hg] at hg';cases hg';rw [hb1] at hn;subst hn;simpa using h
    ·exact hi2 k g (by omega) hg' hn
   exact As rfl<|Ac (jh (i+1) (by omega) ⟨by omega,hkk⟩) ⟨AU,GU⟩ Cb rfl
 ·have hlt:¬i<m3.length:=by simp at h;omega
  have hfin:=hz.fin λk g hg=>hi2 k g (by have:=(AL.1 hg).1;simp only at this;omega) hg;clear ih jh hE hf;unfold xU;simp only at hfin;generalize tH ⟨m1,m2,m3⟩ a=eb at *;refine Az rfl<|Az rfl<|As rfl<|K9 (e:=45) (sz:=1) 11 7 (by decide) rfl ?_;generalize hL:(λq:Nat=>((List.range q).map λi:Nat=>16+(i:Int)).filter eb)=L at *;have hL13:(((List.range 13).map λi:Nat=>16+(i:Int)).filter eb)=L 13:=by rw [<- hL]
  have hL0:L 0=[]:=by rw [<- hL];rfl
  have hLs:∀q,L (q+1)=L q++if eb (16+(q:Int))=true then [16+(q:Int)] else []:=λq=>by
   rw [<- hL];simp only [Rb,CE,List.filter_append,C6,HL,ZO,List.filter_nil]
  have hLl:∀q,(L q).length<=q:=λq=>by
   rw [<- hL];exact wM (List.length_filter_le _ _) (by simp)
  rw [hL13];clear hL hL13;refine Ak (λq:Nat=>[(12,.imm (.int .i64 (16+(q:Int)))),(11,.own 7 (Jc (L q)).length),(6,.mapr 1)]) (λq=>[(1,some (.map (DT d))),(7,some (.row 45 1 (Jc (L q))))]) [8,9,10]
   (λq=>13-q) (λq=>q<=13) 0 (AJ _)
   ⟨rfl,by rw [hL0];rfl,A9⟩ ⟨rfl,by rw [hL0];rfl,trivial⟩ rfl λq hq ih=>?_
  refine As rfl<|Ab rfl (λh=>?_) (λh=>?_)
  ·have hlt:q<13:=by simp at h;omega
   have hs:=hLs q;have hll:=hLl q;have hlk:=hfin (16+(q:Int));refine As rfl<|CR ttY_ok 1 rfl rfl rfl (CK d) (by simp [Am]) (z:=.bool false) rfl (λ_=>.bool _) (by rw [Gr,hlk]) ?_;generalize eb (16+(q:Int))=b at *;refine Ai rfl ?_;cases b with
   | false =>
    refine Ag rfl λh=>As rfl ?_;rw [if_neg (by simp),JI] at hs;exact Ac (ih (q+1) (by omega) (by omega)) ⟨BB (by rw [GR (by omega) (by omega)];omega),by rw [hs];rfl,A9⟩ ⟨rfl,by rw [hs];rfl,trivial⟩ rfl
   | true =>
    refine Al rfl λh=>As rfl<|B7 ttY_ok rfl ⟨by simp,by simp [maxLen];omega,by simp;omega,trivial⟩<|Ai rfl ?_;rw [if_pos rfl] at hs;have et:Jc (L (q+1))=Jc (L q)++[[.int .i64 (16+(q:Int))]]:=by rw [hs,VK];rfl
    exact Bt 7 8 rfl<|Ac (ih (q+1) (by omega) (by omega)) ⟨BB (by rw [GR (by omega) (by omega)];omega),by rw [et];rfl,A9⟩ ⟨rfl,by rw [et];rfl,trivial⟩ rfl
  ·have hlt:q=13:=by simp at h;omega
   subst hlt;exact Az rfl<|BC 7 rfl<|As rfl<|Aa rfl rfl rfl
theorem qB:BV mK=true:=by kernel_rfl
theorem zP:OkM mK/\mA mK:=Vb qB
theorem vB:JS mK=(2,1):=by
 have b0:EH mK sumK=true:=by
  rw [cL (N:=[]) nG λS hS=>⟨Aw,(KZ sumK.body _ _ S (by decide) hS).symm⟩];rfl
 have b1:EH mK mainK=false:=cM jK;have d0:FV (Lt mK) 0 mK.datas.length=none:=by kernel_rfl
 have f0:P4 mK 0=false:=by
  rw [Mt (f:=sumK) rfl,b0];kernel_rfl
 have f1:P4 mK 1=true:=by
  rw [Mt (f:=mainK) rfl,b1];simp
 unfold JS;rw [d0];rw [show mK.funs.length=2 from rfl];simp [FV,f0,f1]
theorem xT:xU mK 0=[]:=by
 have hr:∀j,Rch mK 0 j->j=0:=λj h=>by
  induction h with
  | base=>rfl
  | @step j k f g _ hf hg hh ih =>
   subst ih;cases hf;have hk:k<2:=(AL.1 hg).1
   match k,hk,hg with
   | 0,_,_=>rfl
   | 1,_,hg =>
    cases hg;exact absurd hh (by decide)
 unfold xU;rw [List.filter_eq_nil_iff];intro op hop h;simp only [tH,decide_eq_true_eq] at h;obtain ⟨j,f,h1,h2,h3⟩:=h;obtain rfl:=hr j h1;cases h2;simp only [C2,TO] at hop;obtain ⟨i,hi,rfl⟩:=hop;have:∀i:Nat,i<13->Pp (16+(i:Int)) sumK.body=false:=by decide
 rw [this i hi] at h3;cases h3
theorem Ys:∀n,HX [] n=n
 | 0=>rfl
 | n+1=>by rw [Dl,Ys n];simp
theorem WQ (k:Nat):E7 [] k=k:=by
 have:=(MK [] k).2
 rwa [Ys] at this
theorem gR:Tq3 13 [.agg (dTyc (AN (Aw 0) AR)),.agg (dTyc (AN BW (Aw 1)))] (.tup [.sl (AA [BW,AR]),Es 0]):=by
 have ia:inB (2:Nat) (AN (Aw 0) AR):=by intro m hm;simp [AN,AR,Aw,CL,Dc] at hm;omega
 have ib:inB (2:Nat) (AN BW (Aw 1)):=by intro m hm;simp [AN,BW,Aw,CL,Dc] at hm;omega
 have hs:StOk (2:Nat) (λ_=>none):=iA (by omega);obtain ⟨n,r,hE,hr⟩:=oE hs (a:=AN (Aw 0) AR) (b:=AN BW (Aw 1)) (by decide) (by decide) ia ib;have hU:=kO (H:=2) (a:=AN (Aw 0) AR) (b:=AN BW (Aw 1)) (by decide) hE (by omega) ia ib;cases r with
 | none=>exact absurd rfl (hr (λn=>if n=0 then BW else AR) () (λn t h=>nomatch h))
 | some σ =>
  obtain ⟨_,⟨_,hD,θ,hθ⟩,h1,_⟩:=hr;have h2:=(h1 θ hθ.eq).2;simp only [AN,AR,BW,Aw,A8,Ca,Ty.mk.injEq,DM] at h2;simp at h2;obtain ⟨e0,e1⟩:=h2;have hs1:(σ 1).isSome=true:=by
   cases e:σ 1 with
   | some t=>rfl
   | none =>
    have:=hθ.free 1 e;rw [<- e1] at this;cases this
  have hl:MZ σ 2=2:=by
   show (if (σ ((1:Nat):Int)).isSome then 1+1 else MZ σ 1)=2;exact if_pos hs1
  have hL:mW σ 2=[BW,AR]:=by
   rw [mW,hl,Qt hθ];show [θ 0,θ 1]=[BW,AR];rw [e0,<- e1];rfl
  have hv:rK 2 (some σ) = .tup [.sl (AA [BW,AR]),Es 0]:=by
   rw [rK,hL,TU,if_pos (by decide)]
  rw [hv] at hU;exact hU
theorem sC:Tq3 14 [.agg (dTyc (AN (Aw 0) (Aw 0))),.agg (dTyc (AN AR BW))] (.tup [.bool false,.int .i64 0]):=by
 have h:=V0 (AN (Aw 0) (Aw 0)) (AN AR BW);rw [show (AO true (AN (Aw 0) (Aw 0))&&AO true (AN AR BW)&&(I5 (AN (Aw 0) (Aw 0)) (AN AR BW) λ_=>none).isSome)=false by kernel_rfl] at h;exact h
theorem V5 (h:Is mK [] t=true) (ht:BU t=true) (hz:KQ t<=100000):∃r,BS mK [] t 0 (λ_=>none) r/\Tq3 26 [.agg (dMdc mK),.sl [],.agg (dTmc t)] (Rl [] r) :=
 Ua zP.1.closed [] t h (λp hp=>by cases hp) ht hz
theorem Ue {r:Option (Ty×Int×Sb×List Ty)} (hr:BS mK [] t 0 (λ_=>none) r) {T0:Ty} {S0:List Ty} (h0:Cf mK t [] T0 S0):∃T N,yN mK [] t T N/\Ck T=true/\Rl [] r=if N.all Dj=true then Nc [] T else .tup [.agg (dTyc Hi),Es 7]:=by
 have hcl:EnvCl []:=λp hp=>by cases hp
 cases r with
 | none=>exact absurd h0 (sE hcl hr _ _)
 | some z =>
  obtain ⟨τ,k,σ,N⟩:=z;obtain ⟨θ,hθ⟩:=hr.1.2.1.2.2;refine ⟨A8 θ τ,N.map (A8 θ),Ru hcl hr hθ,SU (λn=>hθ.wfθ n) _ hr.2.1,?_⟩;simp only [Rl,Qt hθ]
theorem xB:Tq3 26 [.agg (dMdc mK),.sl [],.agg (dTmc t1K)] (.tup [.agg (dTyc (AN (AN AR (Aw 0)) (Aw 0))),Es 0]):=by
 obtain ⟨r,hr,hP⟩:=V5 (t:=t1K) (by kernel_rfl) (by kernel_rfl) (by decide);obtain ⟨T,N,hp,hw,hv⟩:=Ue hr (dD (Aw 0));obtain ⟨b,rfl,hN⟩:=zar hp.1;subst hN;obtain ⟨η,he,_⟩:=hp.2 _ _ (dD (Aw 0));have hb:∃n,b=Aw n:=by
  have hwb:Ck b=true:=E3 hw b (by simp [AN,Ft]);simp only [AN,AR,Aw,A8,Ca,Ty.mk.injEq,DM] at he;simp at he;by_cases e:Cg b=9
  ·exact ⟨num b,DZ hwb e⟩
  ·obtain ⟨f,n,x,e1,e2,e3⟩:=Y4 (θ:=η) e;rw [e3] at he;simp at he;exact absurd he.1 e2
 obtain ⟨n,rfl⟩:=hb;rw [hv] at hP;have hf:(if ([]:List Ty).all Dj=true then Nc [] (AN (AN AR (Aw n)) (Aw n)) else .tup [.agg (dTyc Hi),Es 7]) = .tup [.agg (dTyc (AN (AN AR (Aw 0)) (Aw 0))),Es 0]:=by
  have hg:Df (AN (AN AR (Aw n)) (Aw n)) []=[n]:=by simp [Df,Cn,AN,AR,Aw]
  have hl:F5 [] [n] (AN (AN AR (Aw n)) (Aw n))=AN (AN AR (Aw 0)) (Aw 0):=by
   simp [F5,GG,AN,AR,Aw,WQ]
  simp only [Jv,if_true];rw [Nc,hg,hl,if_pos (by simp [AN,AR,Aw,EK,DB]),if_pos (by kernel_rfl)]
 rw [hf] at hP;exact hP
theorem xA:Tq3 26 [.agg (dMdc mK),.sl [],.agg (dTmc t2K)] (.tup [.agg (dTyc Hi),Es 7]):=by
 obtain ⟨r,hr,hP⟩:=V5 (t:=t2K) (by kernel_rfl) (by kernel_rfl) (by decide);have hcl:EnvCl []:=λp hp=>by cases hp
 cases r with
 | none=>exact hP
 | some z =>
  obtain ⟨τ,k,σ,N⟩:=z;obtain ⟨θ,hθ⟩:=hr.1.2.1.2.2;exact absurd (Ru hcl hr hθ).1 vK
theorem wZ:Tq3 26 [.agg (dMdc mK),.sl [],.agg (dTmc t3K)] (.tup [.agg (dTyc (AN (Bw Cu) AR)),Es 0]):=by
 obtain ⟨r,hr,hP⟩:=V5 (t:=t3K) (by kernel_rfl) (by kernel_rfl) (by decide);obtain ⟨T,N,hp,hw,hv⟩:=Ue hr vJ;obtain ⟨rfl,rfl⟩:=zao hp.1;rw [hv] at hP;have hl:F5 [] (Df (AN (Bw Cu) AR) []) (AN (Bw Cu) AR)=AN (Bw Cu) AR:=by
  simp [F5,GG,AN,AR,Bw]
 have hf:(if ([]:List Ty).all Dj=true then Nc [] (AN (Bw Cu) AR) else .tup [.agg (dTyc Hi),Es 7]) = .tup [.agg (dTyc (AN (Bw Cu) AR)),Es 0]:=by
  simp only [Jv,if_true];rw [Nc,hl,if_pos (by simp [AN,AR,Bw,EK,DB]),if_pos (by kernel_rfl)]
 rw [hf] at hP;exact hP
theorem gN:Tq3 35 [.agg (dMdc mK)] (.tup [.int .i64 2,.int .i64 1,Es 0]):=by
 have h:=kM (m:=mK) λ_=>zP;rw [YF qB,vB,if_pos (by kernel_rfl),if_neg (by decide)] at h;exact h
theorem xV:Tq3 32 [.agg (dMdc mK),.int .i64 0] (.tup [.sl [],Es 0]):=by
 have h:=Xz mK 0 (by kernel_rfl) (by decide) (by decide);rw [xT] at h;exact h
theorem Xp:Tq3 12 [] (.bool true):=by
 have hH0:=gI 0;have hH1:=gI 1;have hI:=zb2;have hB:=yS;have hF:=uT;have hM:=Z1;have hS:∀a:Ty,Tq3 21 [.agg (dTyc a),.agg (dTyc a)] (.bool true):=λa=>by
  have:=KM a a
  rwa [(K7 a a).2 rfl] at this
 refine Ad ttY_ok func12 rfl [1,2,3,4,5,6,7]<|Ai rfl<|Af rfl hH0<|Ai rfl<|Af rfl hH1<|Ai rfl<|Af rfl hI<|Ai rfl<|Aj rfl (λ_=>hF (Aw 0) AR) (by simp)<|Ai rfl<|Af rfl hB<|Ai rfl<|Aj rfl (λ_=>hF BW (Aw 1)) (by simp)<|Ai rfl<|Af rfl gR<|yg [] rfl (by simp;kernel_rfl)<|Aj rfl (λ_=>hF (Aw 0) (Aw 0)) (by simp)<|Ai rfl<|Af rfl hI<|Ai rfl<|Af rfl hB<|Ai rfl<|Aj rfl (λ_=>hF AR BW) (by simp)<|Ai rfl<|Af rfl sC<|Ai rfl<|Af rfl hM<|Ai rfl<|Af rfl zaq<|Ai rfl<|Af rfl xB<|Ai rfl<|Af rfl hM<|Ai rfl<|Af rfl zap<|Ai rfl<|Af rfl xA<|Ai rfl<|Af rfl hM<|Ai rfl<|Af rfl zan<|Ai rfl<|Af rfl wZ<|Ai rfl<|Af rfl hM<|Ai rfl<|Af rfl gN<|Ai rfl<|Af rfl hM<|Ai rfl<|Af rfl xV<|BH rfl<|Ab rfl (λh=>by cases h) (λh=>?_)
 exact As rfl<|yi rfl (c:=dTyc BW) (λ_=>⟨by simp,rfl,rfl⟩) (by simp)<|Ai rfl<|Af rfl hB<|Ai rfl<|Aj rfl (λ_=>hS BW) (by simp [Am])<|BH rfl<|yi rfl (c:=dTyc AR) (λ_=>⟨by simp,rfl,rfl⟩) (by simp [Am])<|BH rfl<|AI rfl hI<|BH rfl<|Aj rfl (λ_=>hS AR) (by simp [Am])<|BH rfl<|AI rfl hI<|BH rfl<|Aj rfl (λ_=>hF AR (Aw 0)) (by simp [Am])<|BH rfl<|Aj rfl (λ_=>hF (AN AR (Aw 0)) (Aw 0)) (by simp [Am])<|BH rfl<|Aj rfl (λ_=>hS (AN (AN AR (Aw 0)) (Aw 0))) (by simp [Am])<|BH rfl<|AI rfl hI<|BH rfl<|Aj rfl (λ_=>hF (Bw Cu) AR) (by simp [Am])<|BH rfl<|Aj rfl (λ_=>hS (AN (Bw Cu) AR)) (by simp [Am])<|yg [] rfl (by simp [Am];kernel_rfl)<|Aa rfl rfl rfl
theorem Vs:∀(Γ Δ:Au) (x:Str),HP (Γ++Δ) x=match HP Δ x with | some t=>some t | none=>HP Γ x
 | [],Δ,x=>by simp only [IO,HP];cases HP Δ x <;> rfl
 | (y,t)::r,Δ,x=>by
  simp only [De,HP,Vs r Δ x];cases HP Δ x <;> rfl
def Sm (Γ:Au):List Str:=Γ.map (·.1)
theorem ZY:∀(Γ:Au) (x:Str),(HP Γ x).isSome=true↔x∈Sm Γ
 | [],x=>by simp [HP,Sm]
 | (y,t)::r,x=>by
  have ih:=ZY r x;simp only [Sm] at ih;simp only [HP,Sm,C6,Cy];cases h:HP r x with
  | some u=>rw [h] at ih;simp [<- ih]
  | none =>
   rw [h] at ih;by_cases e:y=x
   ·simp [e]
   ·have:¬x∈r.map (·.1):=λh'=>by simpa using ih.2 h'
    rw [if_neg e];simp [this];exact λh=>e h.symm
theorem qY {Γ' E:Au} (h:x∉Sm E->BO m' Γ' x=BO m Γ x):BO m' (Γ'++E) x=BO m (Γ++E) x:=by
 simp only [BO,Vs] at h ⊢;cases e:HP E x with
 | some t=>rfl
 | none=>exact h λhx=>by have:=(ZY E x).2 hx;rw [e] at this;cases this
theorem qX {E:Au} (h:x∉Sm E):BO m (Γ++E) x=BO m Γ x:=by
 simp only [BO,Vs];cases e:HP E x with
 | some t=>exact absurd ((ZY E x).1 (by rw [e];rfl)) h
 | none=>rfl
theorem jF {f n:Int} (h:CZ (.mk f n x ps)=true) (h6:f≠6) (h2:f≠2):AV (.mk f n x ps)=[]:=by
 simp only [CZ,Ap] at h;have h1:=h.1;unfold Fo at h1;have:ps=[]:=by
  cases ps with
  | nil=>rfl
  | cons a r =>
   exfalso;have hz:((((a::r).length:Nat):Int) == 0)=false:=by simp only [Da,beq_eq_false_iff_ne,ne_eq];omega
   rw [hz] at h1;simp [h6,h2] at h1
 subst this;simp [AV,h2,AM]
mutual
theorem dY {m:Md}:∀(p τ:Ty) (Γ Γ1:Au),CZ p=true->GP m p τ Γ Γ1->∃E,Γ1=Γ++E/\Sm E=AV p/\∀(m':Md) (Γ':Au),m'.datas=m.datas->GP m' p τ Γ' (Γ'++E)
 | .mk f n x ps,τ,Γ,Γ1,hp,h=>by
  simp only [GP] at h ⊢;by_cases e2:f=2
  ·simp only [if_pos e2] at h ⊢;exact ⟨_,h,by simp [Sm,AV,e2],λ_ _ _=>rfl⟩
  by_cases e6:f=6
  ·have e3:¬f=3:=by omega
   have e4:¬f=4:=by omega
   have e5:¬f=5:=by omega
   simp only [if_neg e2,if_neg e3,if_neg e4,if_neg e5,if_pos e6] at h ⊢;obtain ⟨c,d,q1,q2,q3,q4⟩:=h;simp only [CZ,Ap] at hp;obtain ⟨E,r1,r2,r3⟩:=WL ps c.args Γ Γ1 hp.2 q4;exact ⟨E,r1,by rw [r2];simp [AV,e2],λm' Γ' hd=>⟨c,d,by rw [hd];exact q1,q2,q3,r3 m' Γ' hd⟩⟩
  ·have hn:=jF hp e6 e2;rw [hn];by_cases e3:f=3
   ·simp only [if_neg e2,if_pos e3] at h ⊢;exact ⟨[],by simp [h.2],rfl,λ_ _ _=>⟨h.1,by simp⟩⟩
   by_cases e4:f=4
   ·simp only [if_neg e2,if_neg e3,if_pos e4] at h ⊢;exact ⟨[],by simp [h.2],rfl,λ_ _ _=>⟨h.1,by simp⟩⟩
   by_cases e5:f=5
   ·simp only [if_neg e2,if_neg e3,if_neg e4,if_pos e5] at h ⊢;exact ⟨[],by simp [h.2],rfl,λ_ _ _=>⟨h.1,by simp⟩⟩
   simp only [if_neg e2,if_neg e3,if_neg e4,if_neg e5,if_neg e6] at h ⊢;exact ⟨[],by simp [h],rfl,λ_ _ _=>by simp⟩
theorem WL {m:Md}:∀(ps ts:List Ty) (Γ Γ1:Au),CQ ps=true->Jg m ps ts Γ Γ1->∃E,Γ1=Γ++E/\Sm E=AM ps/\∀(m':Md) (Γ':Au),m'.datas=m.datas->Jg m' ps ts Γ' (Γ'++E)
 | [],[],Γ,Γ1,_,h=>by simp only [Jg] at h;exact ⟨[],by simp [h],rfl,λ_ _ _=>by simp [Jg]⟩
 | p::ps,t::ts,Γ,Γ1,hp,⟨Γ2,h1,h2⟩=>by
  simp only [CQ,Ap] at hp;obtain ⟨E1,a1,a2,a3⟩:=dY p t Γ Γ2 hp.1 h1;obtain ⟨E2,b1,b2,b3⟩:=WL ps ts Γ2 Γ1 hp.2 h2;refine ⟨E1++E2,by rw [b1,a1,CF],?_,λm' Γ' hd=>⟨Γ'++E1,a3 m' Γ' hd,?_⟩⟩
  ·simp only [Sm,CE,AM] at a2 b2 ⊢;rw [a2,b2]
  ·rw [<- CF];exact b3 m' _ hd
 | [],_::_,_,_,_,h=>h.elim
 | _::_,[],_,_,_,h=>h.elim
end
theorem W3 {m:Md} {τ:Ty} {Γ:Au}:∀(ps:List Ty) (l:List Au),(∀p∈ps,CZ p=true)->GO m τ Γ ps l->∃E:List Au,l=E.map (λe=>Γ++e)/\E.map Sm=ps.map AV/\∀(m':Md) (Γ':Au),m'.datas=m.datas->GO m' τ Γ' ps (E.map λe=>Γ'++e)
 | [],l,_,h=>by simp only [GO] at h;exact ⟨[],by simp [h],rfl,λ_ _ _=>by simp [GO]⟩
 | p::ps,l,hp,⟨Γ1,l1,h1,h2,h3⟩=>by
  obtain ⟨E,a1,a2,a3⟩:=dY p τ Γ Γ1 (hp p (by simp)) h1;obtain ⟨L,b1,b2,b3⟩:=W3 ps l1 (λq hq=>hp q (by simp [hq])) h2;exact ⟨E::L,by rw [h3,a1,b1];rfl,by simp [a2,b2],λm' Γ' hd=>⟨_,_,a3 m' Γ' hd,b3 m' Γ' hd,rfl⟩⟩
theorem iK {op:Int} (h4:op≠4) (h5:op≠5) (h7:op≠7) (h15:op≠15) (h27:op≠27) (hR:AT m Γ op x ps K τ S) :
  ∃us:List Ty,K=us.map (λu=>(Γ,u))/\∀(m':Md) (Γ':Au),m'.datas=m.datas->AT m' Γ' op x ps (us.map λu=>(Γ',u)) τ S:=by
 unfold AT at hR ⊢;simp only [if_neg h4,if_neg h5,if_neg h7,if_neg h15,if_neg h27] at hR ⊢;by_cases c0:op=1\/op=25
 ·simp only [if_pos c0] at hR ⊢;exact ⟨[],hR.1,λ_ _ _=>⟨rfl,hR.2⟩⟩
 simp only [if_neg c0] at hR ⊢;by_cases c1:op=2
 ·simp only [if_pos c1] at hR ⊢;exact ⟨[],hR.1,λ_ _ _=>⟨rfl,hR.2⟩⟩
 simp only [if_neg c1] at hR ⊢;by_cases c2:op=3\/op=28
 ·simp only [if_pos c2] at hR ⊢;exact ⟨[],hR.1,λ_ _ _=>⟨rfl,hR.2⟩⟩
 simp only [if_neg c2] at hR ⊢;by_cases c5:op=6
 ·simp only [if_pos c5] at hR ⊢;obtain ⟨a,q,r⟩:=hR;exact ⟨[_,_],q,λ_ _ _=>⟨a,rfl,r⟩⟩
 simp only [if_neg c5] at hR ⊢;by_cases c7:op=8
 ·simp only [if_pos c7] at hR ⊢;exact ⟨[_,_,_],hR.1,λ_ _ _=>⟨rfl,hR.2⟩⟩
 simp only [if_neg c7] at hR ⊢;by_cases c8:op=9\/op=10\/op=11
 ·simp only [if_pos c8] at hR ⊢;exact ⟨[_,_],hR.1,λ_ _ _=>⟨rfl,hR.2⟩⟩
 simp only [if_neg c8] at hR ⊢;by_cases c9:op=12
 ·simp only [if_pos c9] at hR ⊢;exact ⟨[_,_],hR.1,λ_ _ _=>⟨rfl,hR.2⟩⟩
 simp only [if_neg c9] at hR ⊢;by_cases c10:op=13
 ·simp only [if_pos c10] at hR ⊢;obtain ⟨a,q,r⟩:=hR;exact ⟨[_,_],q,λ_ _ _=>⟨a,rfl,r⟩⟩
 simp only [if_neg c10] at hR ⊢;by_cases c11:op=14
 ·simp only [if_pos c11] at hR ⊢;obtain ⟨c,d,q,r1,r2⟩:=hR;exact ⟨c.args,r1,λm' _ hd=>⟨c,d,by rw [hd];exact q,rfl,r2⟩⟩
 simp only [if_neg c11] at hR ⊢;by_cases c13:op=16
 ·simp only [if_pos c13] at hR ⊢;obtain ⟨a,q,r⟩:=hR;exact ⟨[_],q,λ_ _ _=>⟨a,rfl,r⟩⟩
 simp only [if_neg c13] at hR ⊢;by_cases c14:op=17
 ·simp only [if_pos c14] at hR ⊢;exact ⟨[_],hR.1,λ_ _ _=>⟨rfl,hR.2⟩⟩
 simp only [if_neg c14] at hR ⊢;by_cases c15:op=18
 ·simp only [if_pos c15] at hR ⊢;obtain ⟨a,q,r⟩:=hR;exact ⟨[_,_],q,λ_ _ _=>⟨a,rfl,r⟩⟩
 simp only [if_neg c15] at hR ⊢;by_cases c16:op=19
 ·simp only [if_pos c16] at hR ⊢;obtain ⟨a,q,r⟩:=hR;exact ⟨[_],q,λ_ _ _=>⟨a,rfl,r⟩⟩
 simp only [if_neg c16] at hR ⊢;by_cases c17:op=20
 ·simp only [if_pos c17] at hR ⊢;exact ⟨[_],hR.1,λ_ _ _=>⟨rfl,hR.2⟩⟩
 simp only [if_neg c17] at hR ⊢;by_cases c18:op=21
 ·simp only [if_pos c18] at hR ⊢;obtain ⟨a,q,r⟩:=hR;exact ⟨[],q,λ_ _ _=>⟨a,rfl,r⟩⟩
 simp only [if_neg c18] at hR ⊢;by_cases c19:op=22
 ·simp only [if_pos c19] at hR ⊢;obtain ⟨a,q,r⟩:=hR;exact ⟨[_,_],q,λ_ _ _=>⟨a,rfl,r⟩⟩
 simp only [if_neg c19] at hR ⊢;by_cases c20:op=23
 ·simp only [if_pos c20] at hR ⊢;exact ⟨[_],hR.1,λ_ _ _=>⟨rfl,hR.2⟩⟩
 simp only [if_neg c20] at hR ⊢;by_cases c21:op=24
 ·simp only [if_pos c21] at hR ⊢;exact ⟨[_],hR.1,λ_ _ _=>⟨rfl,hR.2⟩⟩
 simp only [if_neg c21] at hR ⊢;by_cases c22:op=26
 ·simp only [if_pos c22] at hR ⊢;exact ⟨[_],hR.1,λ_ _ _=>⟨rfl,hR.2⟩⟩
 simp only [if_neg c22] at hR
theorem yY:AT m Γ 4 x ps K τ S=(K=[]/\BO m Γ x=some τ/\S=[]):=rfl
theorem nU:AT m Γ 5 x ps K τ S=∃a b,K=[(Γ++[(x,a)],b)]/\τ=AN a b/\S=[]:=rfl
theorem yX:AT m Γ 7 x ps K τ S=∃a,K=[(Γ,a),(Γ++[(x,a)],τ)]/\S=[]:=rfl
theorem nW:AT m Γ 15 x ps K τ S=∃a l,GO m a Γ ps l/\K=(Γ,a)::l.map (λΔ=>(Δ,τ))/\S=[]:=rfl
theorem nV:AT m Γ 27 x ps K τ S=(K=[(Γ++[(x,AN τ AR)],AR)]/\S=[]):=rfl
theorem lV (n:Int) (x:Str) (ks:List Tm) (ps:List Ty) (j:Nat):BX (.mk 15 n x ks ps) ((j+1:Nat):Int)=match ps[j]? with | some p=>AV p | none=>[]:=by
 have h3:((((j+1:Nat):Int)-1).toNat)=j:=by omega
 have h4:Gi 15 ((j+1:Nat):Int)=true:=by simp only [Gi,beq_self_eq_true,Jx,decide_eq_true_eq];omega
 have h5:FP 15 ((j+1:Nat):Int)=false:=by simp [FP]
 simp only [BX,h3,h4,h5,DK,if_false,if_true];cases ps[j]? <;> rfl
theorem W0 {op:Int} (hp:∀p∈ps,CZ p=true) (hR:AT m Γ op x ps K τ S) :
  ∃E:List (Au×Ty),K=E.map (λp=>(Γ++p.1,p.2))/\(∀(i:Nat) e,E[i]?=some e->∀n ks,Sm e.1=BX (.mk op n x ks ps) i)/\(op=4->E=[]/\BO m Γ x=some τ) /\
   ∀(m':Md) (Γ':Au),m'.datas=m.datas->(op=4->BO m' Γ' x=BO m Γ x)->AT m' Γ' op x ps (E.map λp=>(Γ'++p.1,p.2)) τ S:=by
 by_cases h4:op=4
 ·subst h4;rw [yY] at hR;exact ⟨[],hR.1,λi e h=>by simp at h,λ_=>⟨rfl,hR.2.1⟩,λm' Γ' _ hl=>by rw [yY];exact ⟨rfl,by rw [hl rfl];exact hR.2.1,hR.2.2⟩⟩
 by_cases h5:op=5
 ·subst h5;rw [nU] at hR;obtain ⟨a,b,q1,q2,q3⟩:=hR;refine ⟨[([(x,a)],b)],by simp [q1],λi e he n ks=>?_,λh=>absurd h h4,λm' Γ' _ _=>by rw [nU];exact ⟨a,b,rfl,q2,q3⟩⟩;rcases i with _ | i <;> simp at he;subst he;simp [Sm,BX,FP]
 by_cases h7:op=7
 ·subst h7;rw [yX] at hR;obtain ⟨a,q1,q2⟩:=hR;refine ⟨[([],a),([(x,a)],τ)],by simp [q1],λi e he n ks=>?_,λh=>absurd h h4,λm' Γ' _ _=>by rw [yX];exact ⟨a,by simp,q2⟩⟩;rcases i with _ | _ | i <;> simp at he
  ·subst he;simp [Sm,BX,FP,Gi]
  ·subst he;simp [Sm,BX,FP]
 by_cases h27:op=27
 ·subst h27;rw [nV] at hR;obtain ⟨q1,q2⟩:=hR;refine ⟨[([(x,AN τ AR)],AR)],by simp [q1],λi e he n ks=>?_,λh=>absurd h h4,λm' Γ' _ _=>by rw [nV];exact ⟨rfl,q2⟩⟩;rcases i with _ | i <;> simp at he;subst he;simp [Sm,BX,FP]
 by_cases h15:op=15
 ·subst h15;rw [nW] at hR;obtain ⟨a,l,q1,q2,q3⟩:=hR;obtain ⟨E,r1,r2,r3⟩:=W3 ps l hp q1;refine ⟨([],a)::E.map λe=>(e,τ),by simp [q2,r1,Function.comp_def],λi e he n ks=>?_,λh=>absurd h h4,λm' Γ' hd _=>by rw [nW];exact ⟨a,_,r3 m' Γ' hd,by simp [Function.comp_def],q3⟩⟩;rcases i with _ | i
  ·simp at he;subst he;simp [Sm,BX,FP,Gi]
  ·simp at he;obtain ⟨e',h1,rfl⟩:=he;have h2:(E.map Sm)[i]?=(ps.map AV)[i]?:=by rw [r2]
   simp only [Ep,h1,TN] at h2;rw [lV];cases hpi:ps[i]? with
   | none=>rw [hpi] at h2;cases h2
   | some p =>
    rw [hpi] at h2;simpa using h2
 obtain ⟨us,q1,q2⟩:=iK h4 h5 h7 h15 h27 hR;refine ⟨us.map λu=>([],u),by simp [q1],λi e he n ks=>?_,λh=>absurd h h4,λm' Γ' hd _=>?_⟩
 ·simp at he;obtain ⟨u,_,rfl⟩:=he;simp [Sm,BX,FP,Gi,h5,h7,h27,h15]
 ·have:=q2 m' Γ' hd;simpa [Function.comp_def] using this
mutual
theorem XF {m:Md}:∀(t:Tm) (Γ:Au) (τ:Ty) (S:List Ty),Fv t->Cf m t Γ τ S->∀y,mG t y->(BO m Γ y).isSome=true
 | .mk op n x ks ps,Γ,τ,S,hp,⟨K,S1,S2,h1,h2,h3⟩,y,hy=>by
  obtain ⟨E,rfl,e2,e3,_⟩:=W0 hp.1 h1;simp only [mG] at hy;by_cases h4:op=4
  ·rw [if_pos h4] at hy;rw [hy,(e3 h4).2];rfl
  ·rw [if_neg h4] at hy;exact Uh ks (.mk op n x ks ps) 0 E Γ S1 hp.2 (λj e he=>by rw [Dh];exact e2 j e he n ks) h2 y hy
theorem Uh {m:Md}:∀(ts:List Tm) (T:Tm) (i:Nat) (E:List (Au×Ty)) (Γ:Au) (S:List Ty),Kd ts->(∀(j:Nat) e,E[j]?=some e->Sm e.1=BX T (i+j:Nat))->C9 m ts (E.map λp=>(Γ++p.1,p.2)) S->∀y,Ry T i ts y->(BO m Γ y).isSome=true
 | [],_,_,_,_,_,_,_,_,_,hy=>by simp [Ry] at hy
 | t::ts,T,i,[],Γ,S,_,_,h,_,_=>by simp [C9] at h
 | t::ts,T,i,e::E,Γ,S,hp,hE,⟨S1,S2,h1,h2,_⟩,y,hy=>by
  simp only [Ry] at hy;rcases hy with ⟨hy,hb⟩ | hy
  ·have:=XF t _ _ _ hp.1 h1 y hy;have hn:y∉Sm e.1:=by
    have h0:=hE 0 e rfl;rw [Iq] at h0;rw [h0];intro hm;rw [Oi.2 hm] at hb;cases hb
   simpa [qX hn] using this
  ·exact Uh ts T (i+1) E Γ S2 hp.2 (λj e' he=>by rw [show i+1+j=i+(j+1) by omega];exact hE (j+1) e' (by simpa using he)) h2 y hy
end
mutual
theorem V7 {m m':Md} (hd:m'.datas=m.datas):∀(t:Tm) (Γ Γ':Au) (τ:Ty) (S:List Ty),Fv t->(∀y,mG t y->BO m' Γ' y=BO m Γ y)->Cf m t Γ τ S->Cf m' t Γ' τ S
 | .mk op n x ks ps,Γ,Γ',τ,S,hp,hl,⟨K,S1,S2,h1,h2,h3⟩=>by
  obtain ⟨E,rfl,e2,e3,e4⟩:=W0 hp.1 h1;refine ⟨_,S1,S2,e4 m' Γ' hd λh4=>hl x (by simp [mG,h4]),?_,h3⟩;by_cases h4:op=4
  ·rw [(e3 h4).1] at h2 ⊢;cases ks with
   | nil=>exact h2
   | cons a r=>exact h2.elim
  ·exact XD hd ks (.mk op n x ks ps) 0 E Γ Γ' S1 hp.2 (λj e he=>by rw [Dh];exact e2 j e he n ks) (λy hy=>hl y (by simp [mG,h4];exact hy)) h2
theorem XD {m m':Md} (hd:m'.datas=m.datas):∀(ts:List Tm) (T:Tm) (i:Nat) (E:List (Au×Ty)) (Γ Γ':Au) (S:List Ty),Kd ts->(∀(j:Nat) e,E[j]?=some e->Sm e.1=BX T (i+j:Nat))->(∀y,Ry T i ts y->BO m' Γ' y=BO m Γ y) ->
  C9 m ts (E.map λp=>(Γ++p.1,p.2)) S->C9 m' ts (E.map λp=>(Γ'++p.1,p.2)) S
 | [],_,_,[],_,_,_,_,_,_,h=>h
 | [],_,_,_::_,_,_,_,_,_,_,h=>h.elim
 | t::ts,T,i,[],Γ,Γ',S,_,_,_,h=>h.elim
 | t::ts,T,i,e::E,Γ,Γ',S,hp,hE,hl,⟨S1,S2,h1,h2,h3⟩=>by
  refine ⟨S1,S2,V7 hd t _ _ _ _ hp.1 (λy hy=>qY λhn=>hl y ?_) h1,XD hd ts T (i+1) E Γ Γ' S2 hp.2 (λj e' he=>by rw [show i+1+j=i+(j+1) by omega];exact hE (j+1) e' (by simpa using he)) (λy hy=>hl y (by simp only [Ry];exact .inr hy)) h2,h3⟩;simp only [Ry];refine .inl ⟨hy,?_⟩;cases hb:BE (BX T i) y with
  | false=>rfl
  | true=>exact absurd (by rw [hE 0 e rfl];exact Oi.1 hb) hn
end
mutual
def nK:Tm->Bool
 | .mk op _ _ ks _=>Ws ks||op == 13
def Ws:List Tm->Bool
 | []=>false
 | t::r=>nK t||Ws r
end
theorem iJ {op:Int} (h:op≠13) (hR:AT m Γ op x ps K τ S):S=[]:=by
 unfold AT at hR;rw [if_neg h] at hR;by_cases c0:op=1\/op=25
 ·rw [if_pos c0] at hR;exact hR.2.2
 rw [if_neg c0] at hR;by_cases c1:op=2
 ·rw [if_pos c1] at hR;exact hR.2.2
 rw [if_neg c1] at hR;by_cases c2:op=3\/op=28
 ·rw [if_pos c2] at hR;exact hR.2.2
 rw [if_neg c2] at hR;by_cases c3:op=4
 ·rw [if_pos c3] at hR;exact hR.2.2
 rw [if_neg c3] at hR;by_cases c4:op=5
 ·rw [if_pos c4] at hR;(obtain ⟨a,b,q⟩:=hR;exact q.2.2)
 rw [if_neg c4] at hR;by_cases c5:op=6
 ·rw [if_pos c5] at hR;(obtain ⟨a,q⟩:=hR;exact q.2)
 rw [if_neg c5] at hR;by_cases c6:op=7
 ·rw [if_pos c6] at hR;(obtain ⟨a,q⟩:=hR;exact q.2)
 rw [if_neg c6] at hR;by_cases c7:op=8
 ·rw [if_pos c7] at hR;exact hR.2
 rw [if_neg c7] at hR;by_cases c8:op=9\/op=10\/op=11
 ·rw [if_pos c8] at hR;exact hR.2.2
 rw [if_neg c8] at hR;by_cases c9:op=12
 ·rw [if_pos c9] at hR;exact hR.2.2
 rw [if_neg c9] at hR;by_cases c10:op=14
 ·rw [if_pos c10] at hR;(obtain ⟨a,b,q⟩:=hR;exact q.2.2.2)
 rw [if_neg c10] at hR;by_cases c11:op=15
 ·rw [if_pos c11] at hR;(obtain ⟨a,b,q⟩:=hR;exact q.2.2)
 rw [if_neg c11] at hR;by_cases c12:op=16
 ·rw [if_pos c12] at hR;(obtain ⟨a,q⟩:=hR;exact q.2.2)
 rw [if_neg c12] at hR;by_cases c13:op=17
 ·rw [if_pos c13] at hR;exact hR.2
 rw [if_neg c13] at hR;by_cases c14:op=18
 ·rw [if_pos c14] at hR;(obtain ⟨a,q⟩:=hR;exact q.2.2)
 rw [if_neg c14] at hR;by_cases c15:op=19
 ·rw [if_pos c15] at hR;(obtain ⟨a,q⟩:=hR;exact q.2.2)
 rw [if_neg c15] at hR;by_cases c16:op=20
 ·rw [if_pos c16] at hR;exact hR.2
 rw [if_neg c16] at hR;by_cases c17:op=21
 ·rw [if_pos c17] at hR;(obtain ⟨a,q⟩:=hR;exact q.2.2)
 rw [if_neg c17] at hR;by_cases c18:op=22
 ·rw [if_pos c18] at hR;(obtain ⟨a,q⟩:=hR;exact q.2.2)
 rw [if_neg c18] at hR;by_cases c19:op=23
 ·rw [if_pos c19] at hR;exact hR.2
 rw [if_neg c19] at hR;by_cases c20:op=24
 ·rw [if_pos c20] at hR;exact hR.2.2
 rw [if_neg c20] at hR;by_cases c21:op=26
 ·rw [if_pos c21] at hR;exact hR.2.2
 rw [if_neg c21] at hR;by_cases c22:op=27
 ·rw [if_pos c22] at hR;exact hR.2
 rw [if_neg c22] at hR;exact hR.elim
mutual
theorem XE {m:Md}:∀(t:Tm) (Γ:Au) (τ:Ty) (S:List Ty),nK t=false->Cf m t Γ τ S->S=[]
 | .mk op n x ks ps,Γ,τ,S,h,⟨K,S1,S2,h1,h2,h3⟩=>by
  simp only [nK,Kk,beq_eq_false_iff_ne] at h;rw [h3,iJ h.2 h1,Ug ks K S1 h.1 h2];rfl
theorem Ug {m:Md}:∀(ts:List Tm) (K:List (Au×Ty)) (S:List Ty),Ws ts=false->C9 m ts K S->S=[]
 | [],[],S,_,h=>h
 | [],_::_,_,_,h=>h.elim
 | _::_,[],_,_,h=>h.elim
 | t::ts,k::K,S,h,⟨S1,S2,h1,h2,h3⟩=>by
  simp only [Ws,Kk] at h;rw [h3,XE t _ _ S1 h.1 h1,Ug ts K S2 h.2 h2];rfl
end
def datB (m:Md):Ty->Bool
 | .mk f n x ps=>datBs m ps&&(f != 8||m.datas.any λd=>d.name == x)
where datBs (m:Md):List Ty->Bool
 | []=>true
 | t::r=>datB m t&&datBs m r
mutual
theorem VI (m:Md) {b:Bool}:∀t:Ty,BL b t=true->datB m t=Ge m t
 | .mk f n x ps,h=>by
  simp only [BL,Ap] at h;simp only [datB,Ge,Yn m ps h.2];by_cases e:f=8
  ·subst e;have hp:ps=[]:=by
    have:=h.1;simp [Ct] at this;exact this.1.1
   subst hp;simp [GF]
  ·simp [e]
theorem Yn (m:Md) {b:Bool}:∀l:List Ty,B9 b l=true->datB.datBs m l=GF m l
 | [],_=>rfl
 | t::r,h=>by
  simp only [B9,Ap] at h;simp only [datB.datBs,GF,VI m t h.1,Yn m r h.2]
end
theorem zbp {l:List Dt} {d:Dt} (h:l[i]?=some d):(l.map C7)[i]?=some (C7 d):=by simp [h]
theorem VJ (m:Md) (hm:m.datas.length<=1000000):∀t:Ty,Ck t=true->Tq3 42 [.agg (dMdc m),.agg (dTyc t)] (.bool (datB m t))
 | .mk f n x ps,hw=>by
  have hl:=I3 hw;have hwp:=E3 hw;simp only [Ft] at hl hwp;have hrec:=λ(p:Ty) (hp:p∈ps)=>VJ m hm p (hwp p hp);have hsp:datB m (.mk f n x ps)=(datB.datBs m ps&&(f != 8||m.datas.any λd=>d.name == x)):=by rw [datB]
  rw [hsp];clear hsp hw hwp;obtain ⟨m1,m2,m3⟩:=m;simp only at hm hrec ⊢;refine Ad ttY_ok func42 rfl [1,2,3,4]<|Ai rfl<|Ak (λi:Nat=>[(5,.imm (.int .i64 i)),(2,.ref 1 0),(3,.ref 2 0)]) (λ_=>[(1,some (.immb 43 3 (dMdc ⟨m1,m2,m3⟩))),(2,some (.immb 25 4 (dTyc (.mk f n x ps))))]) [3,4] (λi=>ps.length-i) (λi=>i<=ps.length/\datB.datBs ⟨m1,m2,m3⟩ ps=datB.datBs ⟨m1,m2,m3⟩ (ps.drop i)) 0
   ⟨AJ _,rfl⟩ AC AK rfl λi hi ih=>?_
  obtain ⟨hi1,hi2⟩:=hi;refine As rfl<|Ab rfl (λh=>?_) (λh=>?_)
  ·have hlt:i<ps.length:=by simp at h;omega
   obtain ⟨p,hp⟩:=Ao hlt;have hR:=hrec p (AF hp);have hg:=AE hp;rw [Av hp] at hi2;simp only [datB.datBs] at hi2;have hih:=ih (i+1) (by omega);generalize datB ⟨m1,m2,m3⟩ p=o at *;obtain ⟨p1,p2,p3,p4⟩:=p;refine As rfl<|Sl rfl hg<|Ai rfl<|Af rfl hR<|yg [] rfl (by simp;kernel_rfl) ?_;cases o with
   | false =>
    exact Al rfl λh=>As rfl<|Ah ⟨_,rfl,tV (congrArg _ (by rw [hi2];rfl)),trivial⟩
   | true =>
    exact Ag rfl λh=>As rfl<|Ac (hih ⟨by omega,by rw [hi2,Jx]⟩) ⟨AU,AK⟩ AK rfl
  ·have hlt:¬i<ps.length:=by simp at h;omega
   rw [Bo (by omega)] at hi2;rw [hi2,show datB.datBs ⟨m1,m2,m3⟩ []=true from rfl,Jx];clear ih hi2 hrec;refine Az rfl<|As rfl ?_;by_cases e8:f=8
   ·subst e8;refine Ag rfl λh=>?_;rw [show ((8:Int) != 8||m2.any λd=>d.name == x)=m2.any λd=>d.name == x by simp];refine As rfl<|Ak (λi:Nat=>[(6,.imm (.int .i64 i)),(2,.ref 1 0),(3,.ref 2 0)]) (λ_=>[(1,some (.immb 43 3 (dMdc ⟨m1,m2,m3⟩))),(2,some (.immb 25 4 (dTyc (.mk 8 n x ps))))]) [3,4] (λi=>m2.length-i) (λi=>i<=m2.length/\(m2.any λd=>d.name == x)=(m2.drop i).any λd=>d.name == x) 0
     ⟨AJ _,rfl⟩ AC AK rfl λj hj jh=>?_
    obtain ⟨hj1,hj2⟩:=hj;refine As rfl<|Ab rfl (λh=>?_) (λh=>?_)
    ·have hlt:j<m2.length:=by simp at h;omega
     obtain ⟨d,hd⟩:=Ao hlt;have hg:=zbp hd;rw [Av hd,Vj] at hj2;obtain ⟨d1,d2⟩:=d;refine As rfl<|yi rfl (c:=C7 ⟨d1,d2⟩) (λ_=>⟨by simp,by simpa using hg,by simp [C7]⟩) (by simp)<|yg [] rfl (by simp;rfl) ?_;by_cases hx:d1=x
     ·refine Ab rfl (λh=>?_) (λh=>by exfalso;simp at h;exact h hx);exact As rfl<|Ah ⟨_,rfl,tV (congrArg _ (by rw [hj2];simp [hx])),trivial⟩
     ·refine Ab rfl (λh=>by exfalso;simp at h;exact hx h) (λh=>?_);exact As rfl<|Ac (jh (j+1) (by omega) ⟨by omega,by rw [hj2];simp [hx]⟩) ⟨AU,AK⟩ AK rfl
    ·have hlt:¬j<m2.length:=by simp at h;omega
     exact Az rfl<|As rfl<|Ah ⟨_,rfl,tV (congrArg _ (by rw [hj2,Bo (by omega)];rfl)),trivial⟩
   ·refine Ab rfl (λh=>?_) (λh=>by exfalso;simp at h;exact e8 h);exact As rfl<|Ah ⟨_,rfl,tV (congrArg _ (by simp [e8])),trivial⟩
termination_by t=>SizeOf.sizeOf t
decreasing_by
 have:=Cj hp;simp_wf;omega
theorem WJ:∀t:Tm,KT t->Tq3 40 [.agg (dTmc t)] (.bool (nK t))
 | .mk op n x ks ps,hk=>by
  obtain ⟨hk1,_,hk3⟩:=hk;have hrec:=λ(k:Tm) (h:k∈ks)=>WJ k (Jp hk3 h);refine Ad ttY_ok func40 rfl [1,2,3]<|Ai rfl<|Ak (λi:Nat=>[(3,.imm (.int .i64 i)),(1,.ref 1 0)]) (λ_=>[(1,some (.immb 49 5 (dTmc (.mk op n x ks ps))))]) [2,3] (λi=>ks.length-i) (λi=>i<=ks.length/\Ws ks=Ws (ks.drop i)) 0
   ⟨AJ _,rfl⟩ AK A9 rfl λi hi ih=>?_
  obtain ⟨hi1,hi2⟩:=hi;refine As rfl<|Ab rfl (λh=>?_) (λh=>?_)
  ·have hlt:i<ks.length:=by simp at h;omega
   obtain ⟨k,hk⟩:=Ao hlt;have hR:=hrec k (AF hk);have hg:=Eu hk;rw [Av hk] at hi2;simp only [Ws] at hi2;have hih:=ih (i+1) (by omega);generalize nK k=o at *;obtain ⟨k1,k2,k3,k4,k5⟩:=k;refine As rfl<|Sl rfl hg<|Ai rfl<|Af rfl hR<|Ai rfl ?_;cases o with
   | true =>
    exact Al rfl λh=>As rfl<|Ah ⟨_,rfl,tV (congrArg _ (by rw [nK,hi2];rfl)),trivial⟩
   | false =>
    exact Ag rfl λh=>As rfl<|Ac (hih ⟨by omega,by rw [hi2,QX]⟩) ⟨AU,A9⟩ A9 rfl
  ·have hlt:¬i<ks.length:=by simp at h;omega
   rw [Bo (by omega)] at hi2;exact Az rfl<|As rfl<|Ah ⟨_,rfl,tV (congrArg _ (by rw [nK,hi2];rfl)),trivial⟩
termination_by t=>SizeOf.sizeOf t
decreasing_by
 have:=Cj h;simp_wf;omega
mutual
def Va (p:Int->Int->Str->Nat->Bool) (q:Int->Ty):Ty->Ty
 | .mk f n x ps=>if p f n x ps.length then q n else .mk f n x (MO p q ps)
def MO (p:Int->Int->Str->Nat->Bool) (q:Int->Ty):List Ty->List Ty
 | []=>[]
 | t::r=>Va p q t::MO p q r
end
mutual
def eI (p:Int->Int->Str->Nat->Bool):Ty->Bool
 | .mk f n x ps=>!p f n x ps.length&&QL p ps
def QL (p:Int->Int->Str->Nat->Bool):List Ty->Bool
 | []=>true
 | t::r=>eI p t&&QL p r
end
mutual
theorem pX {p:Int->Int->Str->Nat->Bool} {q:Int->Ty}:∀t:Ty,eI p t=true->Va p q t=t
 | .mk f n x ps,h=>by
  simp only [eI,Ap,HN] at h;rw [Va,if_neg (by rw [h.1];simp),pW ps h.2]
theorem pW {p:Int->Int->Str->Nat->Bool} {q:Int->Ty}:∀l:List Ty,QL p l=true->MO p q l=l
 | [],_=>rfl
 | t::r,h=>by
  simp only [QL,Ap] at h;rw [MO,pX t h.1,pW r h.2]
end
def cR (p:Int->Int->Str->Nat->Bool):Prop:=∀f x l,1<=f->f<=8->p f 0 x l=false
mutual
theorem Wq {p:Int->Int->Str->Nat->Bool} (hp:cR p) {b:Bool} (hb:b=false\/∀n,p 9 n [] 0=false):∀t:Ty,BL b t=true->eI p t=true
 | .mk f n x ps,h=>by
  simp only [BL,Ap] at h;rw [eI,Tn hp hb ps h.2,HI,HN];have h1:=h.1;simp only [Ct] at h1
  split at h1
  ·simp only [Ap,beq_iff_eq] at h1;rw [h1.1.2];exact hp _ _ _ (by omega) (by omega)
  split at h1
  ·simp only [Ap,beq_iff_eq] at h1;rw [h1.1.2];exact hp _ _ _ (by omega) (by omega)
  split at h1
  ·simp only [Ap,beq_iff_eq] at h1;rw [h1.1.2];exact hp _ _ _ (by omega) (by omega)
  split at h1
  ·simp only [Ap,beq_iff_eq] at h1;rw [h1.1.2];exact hp _ _ _ (by omega) (by omega)
  split at h1
  ·rename_i e9;subst e9;simp only [Ap,beq_iff_eq] at h1;obtain ⟨⟨⟨hb',hk⟩,hx⟩,_⟩:=h1;rcases hb with hb | hb
   ·rw [hb] at hb';cases hb'
   ·have:ps.length=0:=by omega
    rw [hx,this];exact hb n
  ·cases h1
theorem Tn {p:Int->Int->Str->Nat->Bool} (hp:cR p) {b:Bool} (hb:b=false\/∀n,p 9 n [] 0=false):∀l:List Ty,B9 b l=true->QL p l=true
 | [],_=>rfl
 | t::r,h=>by
  simp only [B9,Ap] at h;rw [QL,Wq hp hb t h.1,Tn hp hb r h.2];rfl
end
def cQ (m:Md):Prop:=(∀f∈m.funs,Cw f.from_=true/\Cw f.to_=true)/\∀d∈m.datas,∀c∈d.cons,∀t∈c.args,Cw t=true
theorem xK (hm:cQ m) (hp:cR p) (q:Int->Ty):N6 m (Va p q):=by
 have hw:∀t,Cw t=true->Va p q t=t:=λt h=>by
  simp only [Cw,Ap] at h;exact pX t (Wq hp (.inl rfl) t h.2)
 have hf:∀a b,Va p q (AN a b)=AN (Va p q a) (Va p q b):=λa b=>by simp [AN,Va,MO,hp 4]
 refine ⟨by simp [AR,Va,MO,hp 1],by simp [BW,Va,MO,hp 2],by simp [Di,Va,MO,hp 3],hf,λa=>by simp [GJ,Va,MO,hp 5],λa=>by simp [GJ,Va,MO,hp 6],λa=>by simp [GJ,Va,MO,hp 7],λx=>by simp [Bw,Va,MO,hp 8],λf h=>?_,λd h1 c h2 t h3=>hw t (hm.2 d h1 c h2 t h3)⟩;rw [hf,hw _ (hm.1 f h).1,hw _ (hm.1 f h).2]
mutual
theorem Yt {p:Int->Int->Str->Nat->Bool} (hp:cR p) (h9:∀n,p 9 n [] 0=false) {η:Int->Ty}:∀t:Ty,Ck t=true->A8 η t=Va p (λ_=>AR) t->eI p t=true
 | .mk f n x ps,hw,h=>by
  by_cases e9:f=9
  ·subst e9;have hq:=DZ hw rfl;simp only [Aw,num,Ty.mk.injEq] at hq;obtain ⟨_,_,rfl,rfl⟩:=hq;simp [eI,QL,h9]
  ·rw [A8,if_neg e9,Va] at h;by_cases hpn:p f n x ps.length=true
   ·rw [if_pos hpn] at h;simp only [AR,Ty.mk.injEq] at h;obtain ⟨rfl,rfl,_⟩:=h;rw [hp 1 x _ (by omega) (by omega)] at hpn;cases hpn
   ·rw [if_neg hpn] at h;simp only [Ty.mk.injEq,true_and] at h;have hw2:EJ ps=true:=by simp only [Ck,Ap] at hw;exact hw.2
    rw [eI,U2 hp h9 ps hw2 h,HI];simpa using hpn
theorem U2 {p:Int->Int->Str->Nat->Bool} (hp:cR p) (h9:∀n,p 9 n [] 0=false) {η:Int->Ty}:∀l:List Ty,EJ l=true->Ca η l=MO p (λ_=>AR) l->QL p l=true
 | [],_,_=>rfl
 | t::r,hw,h=>by
  simp only [EJ,Ap] at hw;simp only [Ca,MO,DM] at h;rw [QL,Yt hp h9 t hw.1 h.1,U2 hp h9 r hw.2 h.2];rfl
end
theorem Zi (hm:cQ m) {T:Ty} {N:List Ty} (hP:yN m Γ t T N) (hT:Ck T=true) (hp:cR p) (h9:∀n,p 9 n [] 0=false) (hΓ:∀e∈Γ,eI p e.2=true):eI p T=true:=by
 have h:=bL (xK hm hp λ_=>AR) t Γ T N hP.1;rw [show Sx (Va p λ_=>AR) Γ=Γ from (HK (g:=id) λe he=>by rw [pX _ (hΓ e he)];rfl).trans (Vo _)] at h;obtain ⟨η,h1,_⟩:=hP.2 _ _ h;exact Yt hp h9 T hT h1
mutual
theorem mO {η:Int->Ty}:∀t:Ty,Ck (A8 η t)=true->∀h∈CL t,Ck (η h)=true
 | .mk f n x ps,hw,h,hh=>by
  by_cases e9:f=9
  ·simp only [CL,if_pos e9,AP] at hh;rw [A8,if_pos e9] at hw;rw [hh];exact hw
  ·simp only [CL,if_neg e9] at hh;rw [A8,if_neg e9] at hw;simp only [Ck,Ap] at hw;exact cS ps hw.2 h hh
theorem cS {η:Int->Ty}:∀l:List Ty,EJ (Ca η l)=true->∀h∈Dc l,Ck (η h)=true
 | [],_,h,hh=>by simp [Dc] at hh
 | t::r,hw,h,hh=>by
  simp only [Ca,EJ,Ap] at hw;simp only [Dc,BN] at hh;exact hh.elim (mO t hw.1 h) (cS r hw.2 h)
end
def Mi (f _:Int) (_:Str) (_:Nat):Bool:=f == 10
theorem fitF:cR Mi:=λf x l h1 h2=>by simp [Mi];omega
mutual
theorem eN {η:Int->Ty}:∀(a:Ty) (σ:Sb),(∀n v,σ n=some v->v=η n)->∃σ',I5 a (A8 η a) σ=some σ'/\∀n v,σ' n=some v->v=η n
 | .mk f n x ps,σ,h=>by
  by_cases e9:f=9
  ·subst e9;rw [A8,if_pos rfl,I5,if_pos rfl];cases hv:σ n with
   | none =>
    refine ⟨_,rfl,λk v hk=>?_⟩;rw [Ea] at hk;by_cases e:k=n
    ·subst e;rw [if_pos rfl] at hk;cases hk;rfl
    ·rw [if_neg e] at hk;exact h k v hk
   | some v =>
    refine ⟨σ,?_,h⟩;simp only;rw [if_pos ((K7 v (η n)).2 (h n v hv))]
  ·obtain ⟨σ',h1,h2⟩:=Xd ps σ h;refine ⟨σ',?_,h2⟩;rw [A8,if_neg e9,I5,if_neg e9];show (if f=f/\x=x/\ps.length=(Ca η ps).length then IL ps (Ca η ps) σ else none)=some σ';rw [if_pos ⟨rfl,rfl,by rw [Iz,Dn]⟩,h1]
theorem Xd {η:Int->Ty}:∀(l:List Ty) (σ:Sb),(∀n v,σ n=some v->v=η n)->∃σ',IL l (Ca η l) σ=some σ'/\∀n v,σ' n=some v->v=η n
 | [],σ,h=>⟨σ,rfl,h⟩
 | t::r,σ,h=>by
  obtain ⟨σ1,h1,h2⟩:=eN t σ h;obtain ⟨σ2,h3,h4⟩:=Xd r σ1 h2;refine ⟨σ2,?_,h4⟩;rw [Ca,IL,h1];exact h3
end
end Go.Hk
