/- Contracts of hearthref01: patterns and terms that are formed. (And what it stands on.) -/
import Derived.Test.YtcdpbkolkeeopaaGreatBa
import Derived.Test.YtcdpbkolkeeopaaGreatProg
set_option linter.all false
set_option maxRecDepth 100000
set_option maxHeartbeats 4000000
namespace Go.Hk
open Go.Proofs.Tryz
open Go.Proofs
variable {k n q A m k' H k0 s:Int} {st au bk a7:St} {P:Program} {aa F Kr fr l:K1} {Q:DQ} {tt:TT} {d z:D} {todo av:S6} {I J:TA} {μ ν:Mu} {w w':World} {i sz off j:Nat} {ob h:T0} {v:Value} {o:Oper} {a6:Env} {Pn:V->Prop} {f:FuncId} {g:Option (Bool×Bool)} {ds hU:R1} {B:Prop} {x:V} {es:L1 (G2)} {σ τ1 τ:L1 (Nat×Nat)} {t e:TypeId} {a:Act} {α β r y:Type} {b:fp} {vs c cs:G2} {dst:g6} {ρ:Nat->Nat} {xs:R0} {ts:Array TypeId}
inductive xi where
 |at(todo:List DI) (env:Env) (st:St) (aa:List Nat) (ob:List Prop)
 |bad
inductive Pt where
 |t
 |f
 |a
 |s
def DL:Nat->L1 Pt->L1 Pt
 |0,l=>l
 |n+1,l=>.a::DL n l
def run (tt:TT) (n:Nat):Nat->L1 Pt->L1 DI->Env->St->L1 Nat->L1 Prop->xi
 |0,_,k,env,st,aa,ob=>.at k env st aa ob
 |f+1,u,todo,env,st,aa,ob=>match todo with
  |.code (.seq a b)::k=>run tt n f u (.code a::.code b::k) env st aa ob
  |.code .skip::k=>run tt n f u k env st aa ob
  |.code (.label _)::k=>run tt n f u k env st aa ob
  |.inBlock _::k=>match u with
   |.s::_=>.at k env st aa ob
   |_=>run tt n f u k env st aa ob
  |.inScope _::k=>run tt n f u k env st aa ob
  |.code (.block id c)::k=>run tt n f u (.code c::.inBlock id::k) env st aa ob
  |.code (.scope c)::k=>run tt n f u (.code c::.inScope c::k) env st aa ob
  |.code (.exit id)::k=>match NJ id k with
   |some k'=>run tt n f u k' env st aa ob
   |none=>.at (.code (.exit id)::k) env st aa ob
  |.code (.region _ ⟨B⟩ false)::k=>run tt n f u (.ops B B::k) env st aa ob
  |.code (.region _ ⟨B⟩ true)::k=>run tt n f u (.je B B []::k) env st aa ob
  |.ops _ []::k=>run tt n f u k env st aa ob
  |.ops z (o::r)::k=>match Hz tt n z o env st aa with
   |.y _ a6 []=>run tt n f u (.ops z r::k) a6 st aa ob
   |.y _ a6 [p]=>run tt n f u (.ops z r::k) a6 st aa (p::ob)
   |.y _ a6 [p,q]=>run tt n f u (.ops z r::k) a6 st aa (p::q::ob)
   |.y _ a6 (p::q::l)=>run tt n f u (.ops z r::k) a6 st aa (p::q::LC l ob)
   |.e a6 au Kr []=>run tt n f u (.ops z r::k) a6 au Kr ob
   |.e a6 au Kr [p]=>run tt n f u (.ops z r::k) a6 au Kr (p::ob)
   |.e a6 au Kr (p::l)=>run tt n f u (.ops z r::k) a6 au Kr (p::LC l ob)
   |.no=>.at (.ops z (o::r)::k) env st aa ob
  |.je z [] C::k=>run tt n f u k env st aa ((Rw z C.reverse=true)::ob)
  |.je z (o::r) C::k=>match Hz tt n z o env st aa,VM env o.op with
   |.y _ a6 [],[]=>run tt n f u (.je z r (([],[])::C)::k) a6 st aa ob
   |.y _ a6 [],[i]=>run tt n f u (.je z r (([i],[])::C)::k) a6 st aa ob
   |.y _ a6 [p],[]=>run tt n f u (.je z r (([],[])::C)::k) a6 st aa (p::ob)
   |.y _ a6 [p],[i]=>run tt n f u (.je z r (([i],[])::C)::k) a6 st aa (p::ob)
   |.y _ a6 (p::l),rd=>run tt n f u (.je z r ((rd,[])::C)::k) a6 st aa (p::LC l ob)
   |.e a6 ((i,x)::au) Kr h,[]=>run tt n f u (.je z r (([],[i])::C)::k) a6 ((i,x)::au) Kr (LC h ob)
   |.e a6 ((i,x)::au) Kr h,[j]=>run tt n f u (.je z r (([j],[i])::C)::k) a6 ((i,x)::au) Kr (LC h ob)
   |_,_=>.at (.je z (o::r) C::k) env st aa ob
  |.code (.cond c x y)::k=>match u,Fi env c with
   |.t::A,some (.Kp (.bool t))=>run tt n f A (.code x::k) env st aa ((t=true)::ob)
   |.f::A,some (.Kp (.bool t))=>run tt n f A (.code y::k) env st aa ((t=false)::ob)
   |.a::A,some (.Kp (.bool t))=>run tt n f A (.code (bif t then x else y)::k) env st aa ob
   |_,_=>.at (.code (.cond c x y)::k) env st aa ob
  |k=>.at k env st aa ob
def G (P:Program) (n:Nat) (F:L1 Nat) (Q:DQ) (todo:L1 DI) (env:Env) (st:St) (aa:L1 Nat):Prop :=
 match todo with
 |.je p h q::k=>DD P n F Q p h q.reverse k env st aa
 |todo=>ek P n F Q todo env st aa
section
variable {n:Nat} {env:Env} {k:S6}
def G.go (h:G P n F Q todo env st aa):ek P n F Q todo env st aa:=by unfold G at h;split at h;intro b cs I μ a w p q u;obtain⟨i,y,rfl,r,_⟩:=JQ q;cases i<;>exact r.elim;exact h
def LD.xj {all:L1 Oper} {rd:K1} (h:∀au,jf rd st au->YD P all o env au d):LD P Pn all o env st rd [] [] d:=by intro I μ a7 y a w p q r;let⟨z,A⟩:=h a7 p I μ _ a w q r;exact⟨λu=>((z u).mono λv w' ⟨B,C,D,E⟩=>⟨B,μ,C,D,Mu.le_refl μ,E⟩).x,λu=>⟨rfl,rfl,A u⟩⟩
def Tg {all:L1 Oper} {rd:Bool} (h:Hz tt n all o env st aa=.y rd a6 ob) (p:jf (VM env o.op) st au):Hz tt n all o env au aa=.y rd a6 ob:=by unfold Hz at h ⊢;split at h;rename_i q;simp only[aD p];split at h;exact h;exact h;split at h;exact absurd h iG;cases h;rename_i j r q;simp only[aD p];exact h
def ax:=@true_and
def be:=@and_true
def zeo (h:Cn dst d env=Cn dst z env):dst=none\/d=z:=by cases dst with|none=>exact .inl O|some t=>{simp only[Cn,Cr,AP,ax,be]at h;exact .inr h}
def zaw (q:dv P tt) {all:L1 Oper} {rd:Bool} (h:Hz tt n all o env st aa=.y rd a6 ob) (r:A8 ob):∃d,a6=Cn o.dst d env/\(∀t,o.dst=some t->t<n)/\(∀c,o.op≠.defer c)/\YD P all o env st d/\LD P Pn all o env st (VM env o.op) [] [] d:=by let⟨d,D,U,R,S,_⟩:=UJ q h r;cases p:o.dst with|some t=>refine⟨d,by rw[D,p],λT E=>U T (by rw[p];exact E),R,S,LD.xj λau u=>?_⟩;let⟨z,C,_,_,y,_⟩:=UJ q (Tg h u) r;rw[D]at C;rcases zeo C with h|h;rw[p]at h;cases h;rw[h];exact y|none=>{refine⟨.undef,(by rw[D,p];rfl),(λT E=>by cases E),R,?_,LD.xj λau u=>?_⟩;intro I μ aa a w A B;let⟨G,_⟩:=S I μ aa a w A B;exact⟨λK=>(G K).mono λv w' ⟨L,M,_,N⟩=>⟨L,M,.undef _,N⟩,λ_=>.undef _⟩;let⟨z,_,_,_,y,_⟩:=UJ q (Tg h u) r;intro I μ aa a w A B;let⟨G,_⟩:=y I μ aa a w A B;exact⟨λK=>(G K).mono λv w' ⟨L,M,_,N⟩=>⟨L,M,.undef _,N⟩,λ_=>.undef _⟩}
abbrev g9:=Option fp
def ZG (z:dv P tt) {all:L1 Oper} {x:g9} (h:Hz tt n all o env st aa=.e a6 ((i,x)::au) Kr ob) (A:A8 ob):∃d fr,au=st/\aa=fr++Kr/\a6=Cn o.dst d env/\(∀t,o.dst=some t->t<n)/\(∀c,o.op≠.defer c)/\ED P all o env st aa d ((i,x)::au) Kr/\LD P Pn all o env st (VM env o.op) fr [(i,x)] d:=by have g:=h;unfold Hz at h;split at h;{rename_i R;split at h;exact absurd h Km;exact absurd h Km;{split at h;{rename_i d s j T B;obtain⟨rfl,rfl,rfl,U,V⟩:=zep h;let⟨fr,E,W,G,_,b⟩:=aE B;(have K:E=[(i,x)]/\au=st:=by{(have q:∀(L:Op) (env:Env) {d:D} {s:St} {i:K1} {ob:T0},tA tt env st aa L=.e d s i ob->∃p,s=p::st:=by{intro L env d s i ob h;let⟨fr,E,k,l,m,v⟩:=aE h;cases L<;>simp only[tA,Tc,reduceCtorEq]at h;all_goals (repeat' split at h)<;>first|(cases h;done)|(cases h;exact⟨_,rfl⟩)});let⟨p,e⟩:=q _ _ B;cases e;have:E.length=1:=by{have:=af List.length G;simp at this;omega};match E,this with|[y],_=>{simp at G;exact⟨by rw[G],rfl⟩}});obtain⟨rfl,rfl⟩:=K;have M:∀c,o.op≠.defer c:=λc f=>by{rw[f,aF]at B;cases B};refine⟨d,fr,rfl,W,U,V,M,λI μ a w r u=>⟨AO R,sZ z r (B3 u) B A⟩,λI μ a7 C a w N r u=>⟨λ_=>?_,λS=>?_⟩⟩;exact(sZ z r (B3 u) (b a7 C N) A).x;rw[AO R]at S;cases S};cases h}};split at h;split at h;split at h;exact absurd h Km;exact absurd h Km;cases h;cases h;cases h
abbrev S0:=L1 Pt
def EW (jw:dv P tt) (hm:P.follows .mixedOrders=true):∀(f:Nat) (path:S0) (todo:S6) (env:Env) (st:St) (aa:K1) (nt:T0) {av:S6} {a6:Env} {au:St} {Kr:K1} {ob:T0},
  run tt n f path todo env st aa nt=.at av a6 au Kr ob->A8 ob->A8 nt/\(G P n F Q av a6 au Kr->G P n F Q todo env st aa)
 |0,path,todo,env,st,aa,nt,av,a6,au,Kr,ob,h,kz=>by
  simp only[run,xi.at.injEq]at h;obtain⟨rfl,rfl,rfl,rfl,rfl⟩:=h;exact⟨kz,id⟩
 |f+1,path,todo,env,st,aa,nt,av,a6,au,Kr,ob,h,kz=>by
  simp only[run]at h;have stop:∀{t:S6},xi.at t env st aa nt=.at av a6 au Kr ob->A8 nt/\(G P n F Q av a6 au Kr->G P n F Q t env st aa):=by
   intro t h;simp only[xi.at.injEq]at h;obtain⟨rfl,rfl,rfl,rfl,rfl⟩:=h;exact⟨kz,id⟩
  split at h
  ·obtain⟨h1,h2⟩:=EW jw hm f _ _ _ _ _ _ h kz;exact⟨h1,λhd=>zly (h2 hd)⟩
  ·obtain⟨h1,h2⟩:=EW jw hm f _ _ _ _ _ _ h kz;exact⟨h1,λhd=>Fe (h2 hd).go⟩
  ·obtain⟨h1,h2⟩:=EW jw hm f _ _ _ _ _ _ h kz;exact⟨h1,λhd=>zcg (h2 hd).go⟩
  ·split at h
   ·simp only[xi.at.injEq]at h;obtain⟨rfl,rfl,rfl,rfl,rfl⟩:=h;exact⟨kz,λhd=>Uf hd.go⟩
   ·obtain⟨h1,h2⟩:=EW jw hm f _ _ _ _ _ _ h kz;exact⟨h1,λhd=>Uf (h2 hd).go⟩
  ·obtain⟨h1,h2⟩:=EW jw hm f _ _ _ _ _ _ h kz;exact⟨h1,λhd=>mG (h2 hd).go⟩
  ·obtain⟨h1,h2⟩:=EW jw hm f _ _ _ _ _ _ h kz;exact⟨h1,λhd=>zch (h2 hd)⟩
  ·obtain⟨h1,h2⟩:=EW jw hm f _ _ _ _ _ _ h kz;exact⟨h1,λhd=>zcf (h2 hd)⟩
  ·split at h
   ·rename_i he;obtain⟨h1,h2⟩:=EW jw hm f _ _ _ _ _ _ h kz;exact⟨h1,λhd=>Aw he (h2 hd).go⟩
   ·exact stop h
  ·obtain⟨h1,h2⟩:=EW jw hm f _ _ _ _ _ _ h kz;exact⟨h1,λhd=>tI (h2 hd)⟩
  ·obtain⟨h1,h2⟩:=EW jw hm f _ _ _ _ _ _ h kz;exact⟨h1,λhd=>zh2 hm (h2 hd)⟩
  ·obtain⟨h1,h2⟩:=EW jw hm f _ _ _ _ _ _ h kz;exact⟨h1,λhd=>PP (h2 hd).go⟩
  ·rename_i all o r k;have hY:∀{rd:Bool} {kw:Env} {n9 oq:T0},Hz tt n all o env st aa=.y rd kw n9->(A8 oq->A8 n9/\A8 nt) ->
     (run tt n f path (.ops all r::k) kw st aa oq=.at av a6 au Kr ob)->A8 nt/\(G P n F Q av a6 au Kr->G P n F Q (.ops all (o::r)::k) env st aa):=by
    intro rd kw n9 oq hs ot iu;obtain⟨h1,h2⟩:=EW jw hm f _ _ _ _ _ _ iu kz;obtain⟨h3,h4⟩:=ot h1;obtain⟨d,e1,e2,e3,e4,_⟩:=UJ jw hs h3;subst e1;exact⟨h4,λhd=>zqo e3 e4 e2 (h2 hd)⟩
   have hE:∀{kw:Env} {a7:St} {k8:K1} {n9 oq:T0},Hz tt n all o env st aa=.e kw a7 k8 n9->(A8 oq->A8 n9/\A8 nt) ->
     (run tt n f path (.ops all r::k) kw a7 k8 oq=.at av a6 au Kr ob)->A8 nt/\(G P n F Q av a6 au Kr->G P n F Q (.ops all (o::r)::k) env st aa):=by
    intro kw a7 k8 n9 oq hs ot iu;obtain⟨h1,h2⟩:=EW jw hm f _ _ _ _ _ _ iu kz;obtain⟨h3,h4⟩:=ot h1;obtain⟨d,e1,e2,e3,e4⟩:=zjt jw hs h3;subst e1;exact⟨h4,λhd=>zqq e3 e4 e2 (h2 hd)⟩
   split at h
   ·rename_i hs;refine hY hs ?_ h;intro q;exact⟨ab,q⟩
   ·rename_i hs;refine hY hs ?_ h;intro q;exact⟨⟨q.1,ab⟩,q.2⟩
   ·rename_i hs;refine hY hs ?_ h;intro q;exact⟨⟨q.1,q.2.1,ab⟩,q.2.2⟩
   ·rename_i hs;refine hY hs ?_ h;intro q;exact⟨⟨q.1,q.2.1,(BS q.2.2).1⟩,(BS q.2.2).2⟩
   ·rename_i hs;refine hE hs ?_ h;intro q;exact⟨ab,q⟩
   ·rename_i hs;refine hE hs ?_ h;intro q;exact⟨⟨q.1,ab⟩,q.2⟩
   ·rename_i hs;refine hE hs ?_ h;intro q;exact⟨⟨q.1,(BS q.2).1⟩,(BS q.2).2⟩
   ·exact stop h
  ·obtain⟨h1,h2⟩:=EW jw hm f _ _ _ _ _ _ h kz;exact⟨h1.2,λhd=>zo3 h1.1 (h2 hd).go⟩
  ·rename_i all o r fs k;have hY:∀{rd:Bool} {kw:Env} {n9 oq:T0} {tv:K1},Hz tt n all o env st aa=.y rd kw n9->VM env o.op=tv->(A8 oq->A8 n9/\A8 nt) ->
     (run tt n f path (.je all r ((tv,[])::fs)::k) kw st aa oq=.at av a6 au Kr ob)->A8 nt/\(G P n F Q av a6 au Kr->G P n F Q (.je all (o::r) fs::k) env st aa):=by
    intro rd kw n9 oq tv hs hrd ot iu;obtain⟨h1,h2⟩:=EW jw hm f _ _ _ _ _ _ iu kz;obtain⟨h3,h4⟩:=ot h1;obtain⟨d,e1,e2,e3,_,e5⟩:=zaw jw hs h3;subst e1;rw[hrd]at e5;refine⟨h4,λhd=>?_⟩;have:=h2 hd;simp only[G,rB]at this ⊢;exact eL (Kr:=aa) e5 e2 e3 this
   have hE:∀{kw:Env} {a7:St} {k8:K1} {n9:T0} {tv:K1} {i:Nat} {x:g9},Hz tt n all o env st aa=.e kw ((i,x)::a7) k8 n9->VM env o.op=tv ->
     (run tt n f path (.je all r ((tv,[i])::fs)::k) kw ((i,x)::a7) k8 (LC n9 nt)=.at av a6 au Kr ob)->A8 nt/\(G P n F Q av a6 au Kr->G P n F Q (.je all (o::r) fs::k) env st aa):=by
    intro kw a7 k8 n9 tv i x hs hrd iu;obtain⟨h1,h2⟩:=EW jw hm f _ _ _ _ _ _ iu kz;obtain⟨h3,h4⟩:=(XE _ _).1 h1;obtain⟨d,fr,rfl,rfl,e1,e2,e3,_,e5⟩:=ZG jw hs h3;subst e1;rw[hrd]at e5;refine⟨h4,λhd=>?_⟩;have:=h2 hd;simp only[G,rB]at this ⊢;exact eL e5 e2 e3 this
   split at h
   ·rename_i hs hr;refine hY hs hr ?_ h;intro q;exact⟨ab,q⟩
   ·rename_i hs hr;refine hY hs hr ?_ h;intro q;exact⟨ab,q⟩
   ·rename_i hs hr;refine hY hs hr ?_ h;intro q;exact⟨⟨q.1,ab⟩,q.2⟩
   ·rename_i hs hr;refine hY hs hr ?_ h;intro q;exact⟨⟨q.1,ab⟩,q.2⟩
   ·rename_i hs _ _;refine hY hs O ?_ h;intro q;exact⟨⟨q.1,(BS q.2).1⟩,(BS q.2).2⟩
   ·rename_i hs hr;exact hE hs hr h
   ·rename_i hs hr;exact hE hs hr h
   ·exact stop h
  ·split at h
   ·rename_i t hc;obtain⟨h1,h2⟩:=EW jw hm f _ _ _ _ _ _ h kz;exact⟨h1.2,λhd=>Aa hc (λ_=>(h2 hd).go) (λhf=>by rw[h1.1]at hf;cases hf)⟩
   ·rename_i t hc;obtain⟨h1,h2⟩:=EW jw hm f _ _ _ _ _ _ h kz;exact⟨h1.2,λhd=>Aa hc (λht=>by rw[h1.1]at ht;cases ht) (λ_=>(h2 hd).go)⟩
   ·rename_i t hc;obtain⟨h1,h2⟩:=EW jw hm f _ _ _ _ _ _ h kz;refine⟨h1,λhd=>Aa hc (λht=>?_) (λht=>?_)⟩
    ·subst ht;exact(h2 hd).go
    ·subst ht;exact(h2 hd).go
   ·exact stop h
  ·exact stop h
def Jf (q:dv P tt) (u:P.follows .mixedOrders=true) (f:Nat) (p:S0) (h:run tt n f p todo env st aa []=.at k a6 au Kr ob) (r:A8 ob) (y:G P n F Q k a6 au Kr):G P n F Q todo env st aa:=(EW q u f p todo env st aa [] h r).2 y
end
mutual
def GH:D->L1 Nat
 |.ref id _=>[id]
 |.own id _=>[id]
 |.ky id _ _ _=>[id]
 |.hv id _=>[id]
 |.cf id=>[id]
 |.iter id=>[id]
 |.ml id _ _ _=>[id]
 |.jv id=>[id]
 |.agg cs=>FO cs
 |.cg cs=>FO cs
 |.fn _ a b=>FO a++FO b
 |.iface _ d=>GH d
 |.guard _ _ d=>GH d
 |_=>[]
def FO:L1 D->L1 Nat
 |[]=>[]
 |d::r=>GH d++FO r
end
mutual
def LO (ρ:Nat->Nat):D->D
 |.ref id off=>.ref (ρ id) off
 |.own id n=>.own (ρ id) n
 |.ky id k sz f=>.ky (ρ id) k sz f
 |.cf id=>.cf (ρ id)
 |.iter id=>.iter (ρ id)
 |.agg cs=>.agg (EX ρ cs)
 |.cg cs=>.cg (EX ρ cs)
 |.fn f a b=>.fn f (EX ρ a) (EX ρ b)
 |.iface t d=>.iface t (LO ρ d)
 |.guard c w d=>.guard c w (LO ρ d)
 |.undef=>.undef
 |.Kp x=>.Kp x
 |.NB=>.NB
 |.ip t cs off=>.ip t cs off
 |.gt es=>.gt es
 |.ml id off n c=>.ml (ρ id) off n c
 |.jv id=>.jv (ρ id)
 |.eR v=>.eR v
 |.hv id i=>.hv (ρ id) i
def EX (ρ:Nat->Nat):L1 D->L1 D
 |[]=>[]
 |d::r=>LO ρ d::EX ρ r
end
def OS:Env->L1 Nat
 |[]=>[]
 |(_,d)::r=>GH d++OS r
def zW (ρ:Nat->Nat):Env->Env
 |[]=>[]
 |(t,d)::r=>(t,LO ρ d)::zW ρ r
def vJ {ρ:Nat->Nat}:∀{env:Env} {t:Nat} {d:D},lk (zW ρ env) t=some d->∃d0,lk env t=some d0/\d=LO ρ d0
 |[],t,d,h=>by simp[zW,lk]at h
 |(s,x)::r,t,d,h=>by simp only[zW]at h;by_cases p:s=t;subst p;rw[A6]at h ⊢;cases h;exact⟨x,rfl,rfl⟩;rw[AC _ _ p]at h ⊢;exact vJ h
def cV:∀{env:Env} {t:Nat} {d:D},lk env t=some d->∀i∈GH d,i∈OS env
 |[],t,d,h,_,_=>by simp[lk]at h
 |(s,x)::r,t,d,h,i,p=>by simp only[OS,AT];by_cases q:s=t;subst q;rw[A6]at h;cases h;exact .inl p;rw[AC _ _ q]at h;exact .inr<|cV h i p
def Iv (ρ:Nat->Nat):∀l:R1,EX ρ l=l.map (LO ρ)
 |[]=>rfl
 |d::r=>by simp[EX,Iv ρ r]
def LX {d:D} {i:Nat}:∀{l:R1},d∈l->i∈GH d->i∈FO l
 |[],h,_=>by simp at h
 |x::r,h,p=>by simp only[FO,AT];rcases Cu.1 h with rfl|h;exact .inl p;exact .inr<|LX h p
def X.ou (h:X I μ v d):(∀i∈GH d,∀g,μ i=some g->ν (ρ i)=some g)->X I ν v (LO ρ d):=by have B:∀{l:R1} {i:Nat} {x:D},(EX ρ l)[i]?=some x->∃y,l[i]?=some y/\x=LO ρ y:=by{intro l i x z;rw[Iv,Cx]at z;cases C:l[i]? with|none=>rw[C]at z;cases z|some y=>{rw[C]at z;cases z;exact⟨y,rfl,rfl⟩}};induction h with|undef v=>intro _;exact .undef v|Kp v x z=>intro _;exact .Kp v x z|NB=>intro _;exact .NB|ref b id off q=>intro p;exact .ref b _ off (p id (by simp[GH]) _ q)|ip b o t cs off vs E N=>intro _;exact .ip b o t cs off vs E N|agg cs ds C G _ K=>intro p;refine .agg cs _ (by rw[Iv,CD,C]) G λi c x L z=>?_;obtain⟨y,A,rfl⟩:=B z;exact K i c y L A λj M=>p j (by simp only[GH];exact LX (AE A) M)|cg cs ds C _ K=>intro p;refine .cg cs _ (by rw[Iv,CD,C]) λi c x L z=>?_;obtain⟨y,A,rfl⟩:=B z;exact K i c y L A λj M=>p j (by simp only[GH];exact LX (AE A) M)|own id r a u q=>intro p;exact .own _ r a u (p id (by simp[GH]) _ q)|ky b id r u k sz f q=>intro p;exact .ky b _ r u k sz f (p id (by simp[GH]) _ q)|cf id b q=>intro p;exact .cf _ b (p id (by simp[GH]) _ q)|iter id b q=>intro p;exact .iter _ b (p id (by simp[GH]) _ q)|fn f first u s w V L _ _ S T=>intro p;refine .fn f first u _ _ (by rw[Iv,CD,V]) (by rw[Iv,CD,L]) (λi c x G U=>?_) λi c x G U=>?_;obtain⟨y,A,rfl⟩:=B U;exact S i c y G A λj M=>p j (by simp only[GH];exact Im _<|LX (AE A) M);obtain⟨y,A,rfl⟩:=B U;exact T i c y G A λj M=>p j (by simp only[GH];exact Il _<|LX (AE A) M)|iface t v d _ K=>intro p;exact .iface t v _ (K p)|guard c R v d _ W K=>intro p;exact .guard c R v _ (λL=>K L p) W|gt a r es e=>intro _;exact .gt a r es e|ml b id off r u q C z=>intro p;exact .ml b _ off r u (p id (by simp[GH]) _ q) C z|jv b id q=>intro p;exact .jv b _ (p id (by simp[GH]) _ q)|eR v h=>intro _;exact .eR v h|hv v id i vs m q n G=>{intro p;exact .hv v _ i vs m (p id (by simp[GH]) _ q) n G}
def TB.ou {vs:R0} (h:TB I μ vs ds) (r:∀i∈FO ds,∀g,μ i=some g->ν (ρ i)=some g):TB I ν vs<|EX ρ ds:=by refine⟨by rw[Iv,CD,h.1],λi v x u p=>?_⟩;rw[Iv,Cx]at p;cases q:ds[i]? with|none=>rw[q]at p;cases p|some y=>{rw[q]at p;cases p;exact(h.2 i v y u q).ou λj z=>r j<|LX (AE q) z}
def KU:fp->L1 Nat
 |.cells _ _ cs=>FO cs
 |.hV id _=>[id]
 |.qy id _=>[id]
 |_=>[]
def cJ (ρ:Nat->Nat):fp->fp
 |.cells t sz cs=>.cells t sz (EX ρ cs)
 |.map h=>.map h
 |.NA t sz xs=>.NA t sz xs
 |.row t sz es=>.row t sz es
 |.ie s p=>.ie s p
 |.ig=>.ig
 |.hV id S=>.hV (ρ id) S
 |.hp A=>.hp A
 |.qy id b=>.qy (ρ id) b
 |.gw h b es c=>.gw h b es c
 |.ii b s z c=>.ii b s z c
def eb.ou {g:Value} {SB:fp} (h:eb I μ w g SB) (p:∀i∈KU SB,∀g,μ i=some g->ν (ρ i)=some g):eb I ν w g<|cJ ρ SB:=by cases SB with|NA t sz xs=>exact h|cells t sz cs=>obtain⟨y,b,vs,q,r,u,B⟩:=h;exact⟨by rw[Iv,CD,y],b,vs,q,r,u.ou p,B⟩|row t sz es=>exact h|map C=>exact h|ie s D=>exact h|ig=>exact h|hV id S=>obtain⟨b,E,q,r,u⟩:=h;exact⟨b,E,p id (by simp[KU]) _ q,r,u⟩|hp A=>exact h|qy id b=>exact⟨h.1,p id (by simp[KU]) _ h.2⟩|gw C b es c=>exact h|ii b s z c=>{exact h}
def X.sub (h:X I μ v d) (q:∀i∈GH d,∀g,μ i=some g->ν i=some g):X I ν v d:=by have:=h.ou (ν:=ν) (ρ:=λi=>i) q;have p:∀d,LO (λi=>i) d=d:=by{intro d;refine D.rec (motive_1:=λd=>LO (λi=>i) d=d) (motive_2:=λl=>EX (λi=>i) l=l) ?_ ?_ ?_ ?_ ?_ ?_ ?_ ?_ ?_ ?_ ?_ ?_ ?_ ?_ ?_ ?_ ?_ ?_ ?_ ?_ ?_ d<;>intros<;>simp_all [LO,EX]};rwa [p]at this
inductive Out where
 |ret (d:D) (st:St)
 |ix (x:V)
def CB (st:St):L1 Nat:=st.map (·.1)
def GL (P:Program) (f:FuncId) (ds:L1 D) (st:St) (q:Out):Prop :=
 ∀I μ w (xs:Array Value),No I μ st [] w->TB I μ xs.toList ds->hG P ((callFunc f xs).run P w)
  (λu w'=>match q with
   |.ret d au=>∃r h,X r h u d/\No r h au [] w'/\l4 (CB st) μ h/\fi I μ st w r h au w'
   |.ix _=>False)
  (λp w'=>match q with
   |.ret _ _=>False
   |.ix x=>OF (· = x) I μ st w p w')
def Ji (P:Program) (f:FuncId) (vs:L1 V) (v:V):Prop:=GL P f (vs.map .Kp) []<|.ret (.Kp v) []
def DW (l:L1<|Nat×Nat) (i:Nat):Nat:=match lk l i with
 |some j=>j
 |none=>i
def AZ:L1 (Nat×Nat)->L1 (Nat×Nat)
 |[]=>[]
 |(a,b)::r=>(b,a)::AZ r
def Er (σ τ:L1<|Nat×Nat):L1 Nat->Bool
 |[]=>true
 |i::r=>(match lk σ i with
  |some j=>(match lk τ j with
   |some k=>Nat.beq k i
   |none=>false)
  |none=>false)&&Er σ τ r
abbrev T2:=L1 (Nat×Nat)
def NP {σ τ:T2}:∀{l:K1},Er σ τ l=true->∀i∈l,∃j,lk σ i=some j/\lk τ j=some i
 |[],_,i,hi=>by simp at hi
 |x::r,h,i,hi=>by simp only[Er,Am]at h;rcases Cu.1 hi with rfl|hi;cases q:lk σ i with|none=>simp[q]at h|some j=>{cases p:lk τ j with|none=>simp[q,p]at h|some k=>{simp only[q,p]at h;rw[Dm h.1]at p;exact⟨j,rfl,p⟩}};exact NP h.2 i hi
def DB:St->L1 Nat
 |[]=>[]
 |(i,some b)::r=>i::(KU b++DB r)
 |(i,none)::r=>i::DB r
def Fl (τ:L1<|Nat×Nat):St->St
 |[]=>[]
 |(i,some b)::r=>(DW τ i,some<|cJ (DW τ) b)::Fl τ r
 |(i,none)::r=>(DW τ i,none)::Fl τ r
def FK (σ:L1<|Nat×Nat) (st:St):St->Prop
 |[]=>True
 | (i,some b)::r=>(match lk (AZ σ) i with
  |some a=>(match lk σ a with
   |some j=>Nat.beq j i=true
   |none=>False)/\(match lk st a with
   |some (some h)=>cJ (DW σ) h=b/\Er σ (AZ σ) (KU h)=true
   |_=>False)
  |none=>False)/\FK σ st r
 |(_,none)::_=>False
def KD {σ:T2} {st:St}:∀{bk:St},FK σ st bk->∀i b,A2 bk i b->∃a p,lk (AZ σ) i=some a/\lk σ a=some i/\A2 st a p/\cJ (DW σ) p=b/\Er σ (AZ σ) (KU p)=true
 |[],_,i,b,h=>by simp[A2,lk]at h
 |(k,none)::r,h,_,_,_=>h.elim
 |(k,some x)::r,h,i,b,q=>by obtain⟨z,E⟩:=h;by_cases C:k=i;subst C;have:x=b:=by{unfold A2 at q;rw[A6]at q;cases q;rfl};subst this;cases D:lk (AZ σ) k with|none=>simp[D]at z|some a=>{simp only[D]at z;obtain⟨A,u⟩:=z;cases B:lk σ a with|none=>simp[B]at A|some j=>{simp only[B]at A;cases y:lk st a with|none=>simp[y]at u|some ob=>{cases ob with|none=>simp[y]at u|some p=>{simp only[y]at u;exact⟨a,p,rfl,by rw[B,Dm A],y,u.1,u.2⟩}}}};refine KD E i b ?_;unfold A2 at q ⊢;rwa [AC _ _ C]at q
def CO:L1 Nat->St
 |[]=>[]
 |a::r=>(a,none)::CO r
def PQ (h:A2 (CO l++st) i b):i∉l/\A2 st i b:=by induction l with|nil=>exact⟨by simp,h⟩|cons a r p=>{simp only[CO,DV]at h;let⟨q,u⟩:=BX.1 h;let⟨y,z⟩:=p u;exact⟨by simp[q,y],z⟩}
def Px {τ:T2} {st:St} {i:Nat} {b:fp}:∀{a7:St},A2 (Fl τ a7++st) i b->(∃j p,A2 a7 j p/\i=DW τ j/\b=cJ (DW τ) p)\/A2 st i b
 |[],h=>.inr h
 |(k,some x)::r,h=>by simp only[Fl,DV]at h;rcases A7.1 h with⟨u,y⟩|⟨u,y⟩;exact .inl ⟨k,x,by unfold A2;rw[A6],u,y⟩;rcases Px y with⟨j,p,z,A,B⟩|q;refine .inl ⟨j,p,?_,A,B⟩;unfold A2 at z ⊢;rw[AC _ _ (λe=>by subst e;exact u A)];exact z;exact .inr q
 |(k,none)::r,h=>by simp only[Fl,DV]at h;let⟨u,y⟩:=BX.1 h;rcases Px y with⟨j,p,z,A,B⟩|q;refine .inl ⟨j,p,?_,A,B⟩;unfold A2 at z ⊢;rw[AC _ _ (λe=>by subst e;exact u A)];exact z;exact .inr q
def Nr:∀{σ:T2} {i a:Nat},lk (AZ σ) i=some a->(a,i)∈σ
 |[],i,a,h=>by simp[AZ,lk]at h
 |(x,y)::r,i,a,h=>by simp only[AZ]at h;by_cases p:y=i;subst p;rw[A6]at h;cases h;simp;rw[AC _ _ p]at h;exact H4 _<|Nr h
def W5:∀{σ:T2} {i a:Nat},lk σ i=some a->(i,a)∈σ
 |[],i,a,h=>by simp[lk]at h
 |(x,y)::r,i,a,h=>by by_cases p:x=i;subst p;rw[A6]at h;cases h;simp;rw[AC _ _ p]at h;exact H4 _<|W5 h
def QM {l m:T2}:(∃a,lk l i=some a/\lk (l++m) i=some a)\/(lk l i=none/\lk (l++m) i=lk m i):=by induction l with|nil=>exact .inr ⟨rfl,rfl⟩|cons p r q=>{obtain⟨x,y⟩:=p;by_cases h:x=i;subst h;exact .inl ⟨y,A6 _ _ _,A6 _ _ _⟩;rw[AC _ _ h,DV,AC _ _ h];exact q}
structure yJ (σ τ1:List (Nat×Nat)) (hU:List D) (bk:St) (d:D) (a7:St) (fr:List Nat):Prop where
 args:Er σ (AZ σ) (FO hU)=true
 inv:Er σ (AZ σ) (σ.map (·.1))=true
 r7:∀p∈σ,p.2∈CB bk
 res:Er (AZ σ++τ1) (σ++AZ τ1) (GH d)=true
 now:Er (AZ σ++τ1) (σ++AZ τ1) (DB a7)=true
 new:∀p∈τ1,p.2∈fr
def Gr:∀{st:St} {i:Nat} {b:fp},A2 st i b->i∈DB st/\∀j∈KU b,j∈DB st
 |[],i,b,h=>by simp[A2,lk]at h
 |(k,x)::r,i,b,h=>by by_cases q:k=i;subst q;unfold A2 at h;rw[A6]at h;cases h;simp only[DB];exact⟨by simp,λj p=>by simp[p]⟩;have A:A2 r i b:=by{unfold A2 at h ⊢;rwa [AC _ _ q]at h};let⟨u,z⟩:=Gr A;cases x with|none=>simp only[DB,Cu];exact⟨.inr u,λj p=>.inr<|z j p⟩|some y=>{simp only[DB,Cu,AT];exact⟨.inr<|.inr u,λj p=>.inr<|.inr<|z j p⟩}
def JD (σ:L1<|Nat×Nat) (μ:Mu):Mu:=λj=>match lk (AZ σ) j with
 |some a=>μ a
 |none=>none
def X8 (h:Er σ τ l=true) (p:i∈l):lk τ (DW σ i)=some i:=by let⟨j,q,r⟩:=NP h i p;simp[DW,q,r]
def Iq (q:No I μ st aa w) (S:FK σ st bk) (W:Er σ (AZ σ) (FO hU)=true) (c:TB I μ xs hU):No I (JD σ μ) bk [] w/\TB I (JD σ μ) xs (EX (DW σ) hU)/\∀b,Ba (JD σ μ) bk b->Ba μ st b:=by have T:∀{l:K1},Er σ (AZ σ) l=true->∀i∈l,∀g,μ i=some g->JD σ μ (DW σ i)=some g:=by{intro l A i B g y;unfold JD;rw[X8 A B];exact y};have A:∀i b g,A2 bk i b->JD σ μ i=some g->∃a p,A2 st a p/\μ a=some g/\lk σ a=some i:=by{intro i b g B y;let⟨a,p,r,u,z,_⟩:=KD S i b B;exact⟨a,p,z,by simpa[JD,r]using y,u⟩};refine⟨{ Kp:=q.Kp,SB:=λi b h=>?_,apart:=λi b g k h y d=>?_,inj:=λi j D e U V k B f E G K L=>?_,nodup:=.nil,PA:=λ_ h=>by simp at h },c.ou<|T W,?_⟩;let⟨a,p,r,u,z,m,n⟩:=KD S i b h;let⟨g,y,o⟩:=q.SB a p z;refine⟨g,by simp[JD,r,y],?_⟩;rw[<- m];exact o.ou<|T n;let⟨a,p,r,u,_⟩:=A i b g h y;exact q.apart a p g k r u d;let⟨a,p,r,u,z⟩:=A i D U B E;let⟨s,M,N,R,C⟩:=A j e V f G;have:=q.inj a s p M U V k r N u R K L;subst this;rw[z]at C;cases C;rfl;rintro b ⟨i,D,g,r,u,z⟩;let⟨a,p,t,v,_⟩:=A i D g r u;exact⟨a,p,g,t,v,z⟩
def O7 (q:No I μ st (fr++Kr) w) (hb:FK σ st bk) (P:yJ σ τ1 hU bk d a7 fr) {Q:TA} {N:Mu} {u:Value} (hu:X Q N u d) (T:No Q N a7 [] w') (hp:l4 (CB bk) (JD σ μ) N) (U:fi I (JD σ μ) bk w Q N a7 w') (f:∀b,Ba (JD σ μ) bk b->Ba μ st b):∃ν,No Q ν (Fl (AZ σ++τ1) a7++CO (σ.map (·.1))++st) Kr w'/\X Q ν u (LO (DW<|AZ σ++τ1) d)/\μ.le ν/\fi I μ st w Q ν (Fl (AZ σ++τ1) a7++CO (σ.map (·.1))++st) w':=by have m:∀i∈fr,μ i=none:=λi t=>q.PA i (by simp[t]);have V:∀i j,lk σ i=some j->lk (AZ σ) j=some i/\∃g,μ i=some g:=by{intro i j L;have H:lk (AZ σ) j=some i:=by{let⟨j',C,D⟩:=NP P.inv i<|CC.2 ⟨(i,j),W5 L,rfl⟩;rw[L]at C;cases C;exact D};refine⟨H,?_⟩;have C:=P.r7 _<|W5 L;let⟨⟨j',x⟩,D,E⟩:=CC.1 C;have E:j'=j:=E;subst E;have:∀{bk:St},FK σ st bk->(j',x)∈bk->∃g,μ i=some g:=by{intro bk;induction bk with|nil=>intro _ h;simp at h|cons p r ih=>{obtain⟨k,y⟩:=p;intro h hm;cases y with|none=>exact h.elim|some y=>{rcases Cu.1 hm with e|e;cases e;have C:=h.1;simp only[H]at C;have h4:=C.2;cases hb:lk st i with|none=>simp[hb]at h4|some ob=>{cases ob with|none=>simp[hb]at h4|some ba=>{let⟨g,z,_⟩:=q.SB i ba hb;exact⟨g,z⟩}};exact ih h.2 e}}};exact this hb D};obtain⟨ν,v⟩:∃ν:Mu,ν=λi=>match lk (σ++AZ τ1) i with|some j=>N j|none=>μ i:=⟨_,rfl⟩;have J:∀{l:K1},Er (AZ σ++τ1) (σ++AZ τ1) l=true->∀i∈l,∀g,N i=some g->ν (DW (AZ σ++τ1) i)=some g:=by{intro l hl i t g z;rw[v];simp only[X8 hl t];exact z};have hσ:∀i j,lk σ i=some j->∀g,μ i=some g->ν i=some g:=by{intro i j L g z;have D:=(V i j L).1;rw[v];rcases QM (l:=σ) (m:=AZ τ1) (i:=i)with⟨a,E,h4⟩|⟨E,_⟩;rw[L]at E;cases E;simp only[h4];exact hp j (P.r7 _<|W5 L) g (by simp[JD,D,z]);rw[L]at E;cases E};have xk:∀i,(∃j,lk σ i=some j)\/i∈fr\/ν i=μ i:=by{intro i;rcases QM (l:=σ) (m:=AZ τ1) (i:=i)with⟨a,C,_⟩|⟨C,D⟩;exact .inl ⟨a,C⟩;cases h:lk (AZ τ1) i with|none=>refine .inr<|.inr ?_;rw[v];simp[D,h]|some j=>{exact .inr<|.inl<|P.new _<|Nr h}};have hle:μ.le ν:=by{intro i g z;rcases xk i with⟨j,h⟩|h|h;exact hσ i j h g z;rw[m i h]at z;cases z;rw[h];exact z};have B:∀i b,A2 (Fl (AZ σ++τ1) a7++CO (σ.map (·.1))++st) i b->(∃j W,A2 a7 j W/\(b=cJ (DW<|AZ σ++τ1) W/\i=DW (AZ σ++τ1) j)/\∀g,ν i=some g↔N j=some g)\/((∀j,lk σ i≠some j)/\A2 st i b/\ν i=μ i):=by{intro i b hl;rw[CV]at hl;rcases Px hl with⟨j,W,C,D,E⟩|h;refine .inl ⟨j,W,C,⟨E,D⟩,λg=>?_⟩;rw[D,v];simp only[X8 P.now (Gr C).1];let⟨C,D⟩:=PQ h;have E:∀j,lk σ i≠some j:=λj hj=>C<|CC.2 ⟨(i,j),W5 hj,rfl⟩;refine .inr ⟨E,D,?_⟩;rcases xk i with⟨j,h⟩|h|h;exact absurd h (E j);let⟨g,z,_⟩:=q.SB i b D;rw[m i h]at z;cases z;exact h};have A:∀i b g k,(∀j,lk σ i≠some j)->A2 st i b->μ i=some g->EY g k->¬Ba (JD σ μ) bk k:=by{rintro i b g k C D E h4 ⟨j,bj,F,h5,h6,h7⟩;let⟨a,ba,M,G,K,_⟩:=KD hb j bj h5;simp only[JD,M]at h6;have:=q.inj i a b ba g F k D K E h6 h4 h7;subst this;exact C j G};have hext:fi I μ st w Q ν (Fl (AZ σ++τ1) a7++CO (σ.map (·.1))++st) w':=by{refine { Kp:=U.Kp,os:=U.os,tape:=U.tape,output:=U.output,size:=U.size,block:=λb n ho=>U.block b n λh=>ho<|f b h,fresh:=λb n ho=>?_,gz:=λb n ho=>U.gz b n (λh=>ho<|f b h) };obtain⟨i,bi,g,C,D,E⟩:=ho;rcases B i bi C with⟨j,W,M,_,K⟩|⟨_,G,K⟩;exact f b<|U.fresh b n ⟨j,W,g,M,(K g).1 D,E⟩;exact⟨i,bi,g,G,by rw[<- K];exact D,E⟩};refine⟨ν,?_,hu.ou<|J P.res,hle,hext⟩;refine { Kp:=T.Kp,SB:=λi b h=>?_,apart:=λi b g k h z c=>?_,inj:=λi j bi bj gi F k t hj R S o s=>?_,nodup:=(D2.1 q.nodup).2.1,PA:=λi t=>?_ };rcases B i b h with⟨j,W,M,G,K⟩|⟨M,G,K⟩;let⟨g,z,hr⟩:=T.SB j W M;exact⟨g,(K g).2 z,by rw[G.1];exact hr.ou λk c=>J P.now k<|(Gr M).2 k c⟩;let⟨g,z,hr⟩:=q.SB i b G;refine⟨g,by rw[K];exact z,(hr.mono U.Kp hle).world λk c=>?_⟩;exact U.block k (q.apart i b g k G z c).2 (A i b g k M G z c);rcases B i b h with⟨j,W,M,G,K⟩|⟨M,G,K⟩;exact T.apart j W g k M ((K g).1 z) c;rw[K]at z;let⟨C,D⟩:=q.apart i b g k G z c;exact⟨by rw[U.gz k D<|A i b g k M G z c];exact C,Yj D U.size⟩;rcases B i bi t with⟨i1,W,M,G,K⟩|⟨M,G,K⟩<;>rcases B j bj hj with⟨j1,b2,p1,p2,p3⟩|⟨p1,p2,p3⟩;have:=T.inj i1 j1 W b2 gi F k M p1 ((K gi).1 R) ((p3 F).1 S) o s;subst this;rw[G.2,p2.2];rw[p3]at S;have c:=(q.apart j bj F k p2 S s).2;exact absurd (U.fresh k c ⟨i1,W,gi,M,(K gi).1 R,o⟩) (A j bj F k p1 p2 S s);rw[K]at R;have c:=(q.apart i bi gi k G R o).2;exact absurd (U.fresh k c ⟨j1,b2,F,p1,(p3 F).1 S,s⟩) (A i bi gi k M G R o);rw[K]at R;rw[p3]at S;exact q.inj i j bi bj gi F k G p2 R S o s;rcases xk i with⟨j,h⟩|h|h;let⟨_,g,z⟩:=V i j h;rw[q.PA i<|by simp[t]]at z;cases z;exact absurd rfl ((D2.1 q.nodup).2.2 i h i t);rw[h];exact q.PA i (by simp[t])
def KQ (B:Prop) (env:Env):L1 Operand->Option (L1 D×L1 Prop)
 |[]=>some ([],[])
 |x::r=>match Fi env x,KQ B env r with
  |some (.guard c w d),some (ds,o)=>some (d::ds,(B->c=w)::o)
  |some d,some (ds,o)=>some (d::ds,o)
  |_,_=>none
def B4:L1 DI->L1 Nat×L1 Nat->Option (L1 Oper×Oper×L1 DI)
 |.ops h (o::r)::k,_=>some (h,o,.ops h r::k)
 |.je h (o::r) p::k,f=>some (h,o,.je h r (f::p)::k)
 |_,_=>none
def Cs (n:Nat):Option Nat->Bool
 |some t=>Nat.blt t n
 |none=>true
def A1:Option (Bool×Bool)->Prop
 |none=>True
 |some (c,w)=>c=w
def gD:Option (Bool×Bool)->D->D
 |none,d=>d
 |some (c,w),d=>.guard c w d
def CQ (all:L1 Oper) (env:Env) (o:Oper):Option (Option<|Bool×Bool) :=
 match o.guard with
 |none=>some none
 |some (j,w)=>match PZ all j with
  |some { dst:=some g,.. }=>match x0 (lk env g) w with
   |some c=>some (some (c,w))
   |none=>none
  |_=>none
structure yI where
 f:FuncId
 vs:List V
 g:Option (Bool×Bool)
 ob:List Prop
 dst:Option Nat
 todo:List DI
def vV (n:Nat) (env:Env) (todo:L1 DI):Option yI :=
 match B4 todo ([],[])with
 |some (h,o,av)=>match o.op,CQ h env o with
  |.call { callee:=.value (.func f),args:=⟨args⟩,.. },some g=>match KQ (A1 g) env args with
   |some (ds,ob)=>match O9 ds,Cs n o.dst with
    |some vs,true=>match o.dst with
     |some t=>some ⟨f,vs,g,ob,some t,av⟩
     |none=>some ⟨f,vs,g,ob,none,av⟩
    |_,_=>none
   |none=>none
  |.call { callee:=.value (.tmp t),args:=⟨args⟩,.. },some g=>match lk env t,KQ (A1 g) env args with
   |some (.Kp (.fn (.func f))),some (ds,ob)=>match O9 ds,Cs n o.dst with
    |some vs,true=>match o.dst with
     |some t=>some ⟨f,vs,g,ob,some t,av⟩
     |none=>some ⟨f,vs,g,ob,none,av⟩
    |_,_=>none
   |_,_=>none
  |_,_=>none
 |none=>none
section
variable {n:Nat} {env:Env} {k:S6}
def PB.nq {f:Fn} (h:PB I v<|.fn f):v=.func f #[] #[]:=by cases h;rfl
def II (q:B):∀{args:c8} {ds:R1} {ob:T0},KQ B env args=some (ds,ob)->A8 ob->(∀x∈args,∀d,Fi env x=some d->X I μ (a.eval x) d)->TB I μ (args.map a.eval) ds
 |[],ds,ob,h,_,_=>by cases h;exact .nil
 |x::r,ds,ob,h,p,u=>by have E:∀y∈r,∀d,Fi env y=some d->X I μ (a.eval y) d:=λy G=>u y (by simp[G]);simp only[KQ]at h;split at h;rename_i c L d z K A C;cases h;exact .mk ((u x (by simp) _ A).gy<|p.1 q)<|II q C p.2 E;rename_i d z K _ A C;cases h;exact .mk (u x (by simp) _ A)<|II q C p E;cases h
def HX:∀{vs:R0} {ds:R1} {xs:G2},HY ds=some xs->TB I μ vs ds->Ts I vs xs
 |[],ds,xs,h,p=>by cases ds with|nil=>cases h;exact .nil|cons d ds=>{simp[TB]at p}
 |v::vs,ds,xs,h,p=>by cases ds with|nil=>simp[TB]at p|cons d ds=>{obtain⟨q,r⟩:=p.cons;cases d<;>simp only[HY,reduceCtorEq]at h;{split at h;{cases h;exact .mk q.Ks<|HX (by assumption) r};cases h};{split at h;{cases h;cases q;exact .mk .slnil<|HX (by assumption) r};cases h}}
def X.ipV (h:X I μ v<|.ip t cs off):PB I v<|.ip t cs off:=by cases h with|ip b o _ _ _ vs p q=>{exact .ip b o t cs off vs p q}
def PB.ipD (h:PB I v<|.ip t cs off):X I μ v<|.ip t cs off:=by cases h with|ip b o _ _ _ vs p q=>{exact .ip b o t cs off vs p q}
def zdl (h:zns d=some x) (p:X I μ v d):PB I v x:=by unfold zns at h;split at h;cases h;exact p.Ks;cases h;cases p;exact .slnil;split at h;rename_i xs q;cases h;obtain⟨cs,rfl,r,u⟩:=p.ju;have:=HX q r;exact .agg cs xs (by have:=this.1;simpa using this) u λi c x y q=>this.2 i c x (by simpa using y) q;cases h;cases h;exact p.ipV;cases h
def LG:∀{vs:R0} {ds:R1} {xs:G2},Pp ds=some xs->TB I μ vs ds->Ts I vs xs
 |[],[],xs,h,r=>by simp only[Pp,Co]at h;subst h;exact⟨rfl,λi v x h=>by simp at h⟩
 |v::vs,d::ds,xs,h,r=>by simp only[Pp]at h;split at h;rename_i x A B C;cases h;have z:=LG (vs:=vs) C ⟨by simpa using r.1,λi v d p q=>r.2 (i+1) v d (by simpa using p)<|by simpa using q⟩;refine⟨by simp[z.1],λi u y p q=>?_⟩;cases i with|zero=>simp at p q;rw[<- p,<- q];exact zdl B (r.2 0 v d O O)|succ i=>{exact z.2 i u y (by simpa using p)<|by simpa using q};cases h
 |[],_::_,_,_,r=>by have:=r.1;simp at this
 |_::_,[],_,_,r=>by have:=r.1;simp at this
def UI (h:toV d=some x) (q:X I μ v d):PB I v x:=by unfold toV at h;split at h;cases h;exact q.Ks;cases h;cases q;exact .slnil;split at h;rename_i xs p;cases h;obtain⟨cs,rfl,r,u⟩:=q.ju;have:=HX p r;exact .agg cs xs (by have:=this.1;simpa using this) u λi c x y p=>this.2 i c x (by simpa using y) p;cases h;split at h;rename_i ds _ xs p;cases h;generalize K:D.cg ds=z at q;cases q<;>cases K;rename_i cs L h;have:=LG (vs:=cs.toList) p ⟨by simpa using L,λi c x y p=>h i c x (by simpa using y) p⟩;exact .cg cs xs (by have:=this.1;simpa using this) λi c x y p=>this.2 i c x (by simpa using y) p;cases h;cases h;exact q.ipV;{cases h;cases q;assumption};{split at h;{rename_i xs M p N;cases h;cases q with|fn g first A S T R y r u=>{have E:=LG (vs:=first.toList) p ⟨by simpa using R,λi v d B C=>r i v d (by simpa using B) C⟩;have G:=LG (vs:=A.toList) N ⟨by simpa using y,λi v d B C=>u i v d (by simpa using B) C⟩;exact .lj _ first A xs M (by simpa using E.1) (by simpa using G.1) (λi c x r u=>E.2 i c x (by simpa using r) u) λi c x r u=>G.2 i c x (by simpa using r) u}};cases h};cases h
def Vs:∀{vs:R0} {ds:R1} {xs:G2},O9 ds=some xs->TB I μ vs ds->Ts I vs xs
 |[],ds,xs,h,p=>by cases ds with|nil=>cases h;exact .nil|cons d ds=>{simp[TB]at p}
 |v::vs,ds,xs,h,p=>by cases ds with|nil=>simp[TB]at p|cons d ds=>{obtain⟨q,r⟩:=p.cons;simp only[O9]at h;split at h;{cases h;exact .mk (UI (by assumption) q)<|Vs (by assumption) r};cases h}
def Lh {f:K1×K1} {all:L1 Oper} (h:B4 todo f=some (all,o,av)):(∃r k,todo=.ops all (o::r)::k/\av=.ops all r::k)\/∃r fs k,todo=.je all (o::r) fs::k/\av=.je all r (f::fs)::k:=by unfold B4 at h;split at h;cases h;exact .inl ⟨_,_,rfl,rfl⟩;cases h;exact .inr ⟨_,_,_,rfl,rfl⟩;cases h
def Cc {rd:K1} {wr:St} {all:L1 Oper} (z:B4 todo (rd,wr.map (·.1))=some (all,o,av)) (y:LD P (OE Q) all o env st rd fr wr d) (u:Cs n o.dst=true) (p:∀c,o.op≠.defer c) (h:G P n F Q av (Cn o.dst d env) (wr++st) Kr):G P n F Q todo env st<|fr++Kr:=by have q:∀t,o.dst=some t->t<n:=λt A=>by{unfold Cs at u;rw[A]at u;simpa[Kz]using u};rcases Lh z with⟨r,k,rfl,rfl⟩|⟨r,B,k,rfl,rfl⟩;exact zqp y q p h;simp only[G,rB]at h ⊢;exact eL y q p h
def Gz (P:Program) (o:Oper) (env:Env) (f:FuncId) (hU:L1 D) (B:Prop):Prop :=
 ∀I μ a w,Fg I μ env a o.op->B->∃xs:Array Value,TB I μ xs.toList hU/\(execOp a.eval o).run P w=(callFunc f xs).run P w
def HH {args:c8} (q:o.op=.call { callee:=.value<|.func f,args:=⟨args⟩,argTypes:=ts }) (r:KQ B env args=some (ds,ob)) (p:A8 ob):Gz P o env f ds B:=by intro I μ a w h u;rw[q]at h;refine⟨(args.map a.eval).toArray,by simpa using II u r p λx y=>h x<|by simp[Op.operands,Call.operands,y],?_⟩;simp only[execOp,q,resolve,Act.eval,Deferred.ofValue,ak,al,ah,invoke];congr 2;simp
def GR {t:Nat} {args:c8} (q:o.op=.call { callee:=.value<|.tmp t,args:=⟨args⟩,argTypes:=ts }) (r:lk env t=some (.Kp<|.fn<|.func f)) (u:KQ B env args=some (ds,ob)) (p:A8 ob):Gz P o env f ds B:=by intro I μ a w h y;rw[q]at h;refine⟨(args.map a.eval).toArray,by simpa using II y u p λx z=>h x<|by simp[Op.operands,Call.operands,z],?_⟩;have A:a.eval (.tmp t)=.func (.func f) #[] #[]:=(h (.tmp t) (by simp[Op.operands,Call.operands]) _ r).Ks.nq;simp only[execOp,q,resolve,A,Deferred.ofValue,ak,al,ah,invoke];congr 2;simp
def KR {t:Nat} {args:c8} {df dc:R1} (y:o.op=.call { callee:=.value<|.tmp t,args:=⟨args⟩,argTypes:=ts }) (A:lk env t=some (.fn (.func f) df dc)) (C:KQ B env args=some (ds,ob)) (r:A8 ob):Gz P o env f (df++ds++dc) B:=by intro I μ a w h E;rw[y]at h;have p:=II (I:=I) (μ:=μ) (a:=a) E C r λx G=>h x (by simp[Op.operands,Call.operands,G]);have z:=h (.tmp t) (by simp[Op.operands,Call.operands]) _ A;generalize q:a.eval (.tmp t)=v at z;cases z with|fn _ first u _ _ K L M N=>{refine⟨first++(args.map a.eval).toArray++u,?_,?_⟩;simp only[Nl];refine TB.append (TB.append ⟨by simpa using K,λi v d q p=>M i v d (by simpa using q) p⟩ p) ⟨by simpa using L,λi v d q p=>N i v d (by simpa using q) p⟩;simp only[execOp,y,resolve,q,Deferred.ofValue,ak,al,ah,invoke];congr 3;simp}
def H8 {all:L1 Oper} (h:CQ all env o=some g) (q:∀t∈o.looksAt all.toArray,∀d,lk env t=some d->X I μ (a.tmps.getD t undef) d):Region.wanted o (yielded all.toArray a.tmps)=true↔A1 g:=by unfold CQ at h;split at h;rename_i p;cases h;simp[A1,AO p];rename_i j y p;split at h;rename_i z _ _ _ _ _ r;split at h;rename_i c u;cases h;rw[Ih]at r;exact Xv p r O u q;cases h;cases h
def UP {all:L1 Oper} {v:V} (S:CQ all env o=some g) (K:Gz P o env f hU<|A1 g) (T:O9 hU=some vs) (U:A1 g->Ji P f vs v):LD P Pn all o env st [] [] []<|gD g<|.Kp v:=by
 have L:∀I μ a7 q a w,No I μ a7 q w->Fg I μ env a o.op->A1 g->hG P ((execOp a.eval o).run P w) (λu w'=>∃D z,No D z a7 q w'/\X D z u (gD g<|.Kp v)/\μ.le z/\fi I μ a7 w D z a7 w') (OF Pn I μ a7 w):=by
  intro I μ a7 q a w A M B;let⟨xs,W,b⟩:=K I μ a w M B;have c:=Vs T W;let⟨d,N,e⟩:=Iq (σ:=[]) (bk:=[]) A ab (hU:=vs.map .Kp) (by
   have:∀vs:G2,FO (vs.map .Kp)=[]:=λvs=>by induction vs with
    |nil=>rfl
    |cons x r i=>simp[FO,GH,i]
   rw[this];rfl) c.Kp
  have E:EX (DW []) (vs.map .Kp)=vs.map .Kp:=by
   rw[Iv];simp[LO]
  rw[E]at N;rw[b];refine(U B I _ w xs d N).mono (λu w' j=>?_) λ_ _ h=>h.elim;obtain⟨D,z,k,l,m,n⟩:=j;let⟨ν,s,R,t,F⟩:=O7 (fr:=[]) (Kr:=q) (σ:=[]) (τ1:=[]) (hU:=[]) (bk:=[]) A ab ⟨rfl,rfl,λ_ h=>by simp at h,rfl,rfl,λ_ h=>by simp at h⟩ k l m n e;refine⟨D,ν,s,?_,t,F⟩;cases g with
  |none=>exact R
  |some p=>exact .guard _ _ _ _ (λ_=>R) λH=>absurd B H
 intro I μ a7 q a w _ A G;have y:=H8 S G;refine⟨λC=>L I μ a7 q a w A (B3 G)<|y.1 C,λC=>⟨rfl,rfl,?_⟩⟩;cases g with
 |none=>rw[y.2 ab]at C;cases C
 |some p=>exact .guard _ _ _ _ (λK=>by rw[y.2 K]at C;cases C) λ_=>rfl
def CL {v:V} (h:vV n env todo=some ⟨f,vs,g,ob,dst,av⟩) (S:A1 g->Ji P f vs v) (q:A8 ob) (T:G P n F Q av (Cn dst (gD g<|.Kp v) env) st aa):G P n F Q todo env st aa:=by
 unfold vV at h;have r:∀{all:L1 Oper} {o:Oper} {p:S6} {x:yI},(match o.dst with
   |some t=>some (⟨x.f,x.vs,x.g,x.ob,some t,p⟩:yI)
   |none=>some ⟨x.f,x.vs,x.g,x.ob,none,p⟩)=some ⟨f,vs,g,ob,dst,av⟩->x.f=f/\x.vs=vs/\x.g=g/\x.ob=ob/\o.dst=dst/\p=av:=by
  intro all o p x U
  split at U<;>(rename_i u;cases U;exact⟨rfl,rfl,rfl,rfl,u,rfl⟩)
 split at h
 ·rename_i all o p W;have y:∀a,o.op=.call a->∀c,o.op≠.defer c:=λa h c b=>by rw[h]at b;cases b
  split at h
  ·rename_i f z ts g A K
   split at h
   ·rename_i ds ob L
    split at h
    ·rename_i vs M u;let⟨B,C,D,E,N,R⟩:=r (all:=all) (x:=⟨f,vs,g,ob,none,p⟩) h
     dsimp only at B C D E
     subst B;subst C;subst D;subst E;subst N;subst R;exact Cc (fr:=[]) (wr:=[]) W (UP K (HH A L q) M S) u (y _ A) T
    ·cases h
   ·cases h
  ·rename_i t z ts g A K
   split at h
   ·rename_i f ds ob d L
    split at h
    ·rename_i vs M u;let⟨B,C,D,E,N,R⟩:=r (all:=all) (x:=⟨f,vs,g,ob,none,p⟩) h
     dsimp only at B C D E
     subst B;subst C;subst D;subst E;subst N;subst R;exact Cc (fr:=[]) (wr:=[]) W (UP K (GR A d L q) M S) u (y _ A) T
    ·cases h
   ·cases h
  ·cases h
 ·cases h
def Al {v:V} (h:vV n env todo=some ⟨f,vs,g,ob,dst,av⟩) (q:Ji P f vs v) (r:G P n F Q av (Cn dst (gD g<|.Kp v) env) st aa) (p:A8 ob:=by simp[A1]):G P n F Q todo env st aa:=CL h (λ_=>q) p r
def Ac {v:V} (h:vV n env todo=some ⟨f,vs,g,ob,dst,av⟩) (q:Ji P f vs v) (r:G P n F Q av (Cn dst (gD g<|.Kp v) env) st aa) (p:A8 ob:=by simp):G P n F Q todo env st aa:=CL h (λ_=>q) p r
end
def dI (tt:TT) (st:St) (h:TypeId):D->Option D
 |.ref id off=>match lk tt h,lk st id with
  |some i,some (some (.NA _ sz xs))=>QL i (Nat.beq sz i.size) xs off
  |some i,some (some (.cells _ sz cs))=>Je i (Nat.beq sz i.size) cs off
  |_,_=>none
 |_=>none
def zfd:D->Bool
 |.guard ..=>false
 |_=>true
def U1 (tt:TT) (env:Env) (st:St):L1 ResultVar->Option (L1 D)
 |[]=>some []
 |.tmp t::r=>match lk env t,U1 tt env st r with
  |some d,some ds=>match zfd d with
   |true=>some (d::ds)
   |false=>none
  |_,_=>none
 |.cell t h::r=>match lk env t,U1 tt env st r with
  |some a,some ds=>match dI tt st h a with
   |some d=>some (d::ds)
   |none=>none
  |_,_=>none
def Kl:L1 D->D
 |[d]=>d
 |ds=>.cg ds
def Qe (d:D):D->Prop
 |.Kp v=>toV d=some v
 |z=>d=z
def Hh (st:St):St->Prop
 |[]=>True
 |(i,some b)::r=>lk st i=some (some b)/\Hh st r
 |(_,none)::_=>False
def IZ (tt:TT) (p:L1 ResultVar) (h:Out):DQ:=λx env st _=>match x,h with
 |.ret,.ret d au=>∃ds,U1 tt env st p=some ds/\Qe (Kl ds) d/\Hh st au
 |.norm,.ret d au=>∃ds,U1 tt env st p=some ds/\Qe (Kl ds) d/\Hh st au
 |.panic x,.ix y=>x=y
 |_,_=>False
def NQ:Nat->L1 D->Env
 |_,[]=>[]
 |i,d::r=>(i,d)::NQ (i+1) r
section
variable {env:Env}
def Cz:∀{au:St},Hh st au->∀i b,A2 au i b->A2 st i b
 |[],_,i,b,h=>by simp[A2,lk]at h
 |(k,none)::r,h,_,_,_=>h.elim
 |(k,some x)::r,h,i,b,p=>by by_cases q:k=i;subst q;unfold A2 at p;rw[A6]at p;cases p;exact h.1;refine Cz h.2 i b ?_;unfold A2 at p ⊢;rwa [AC _ _ q]at p
def No.less (p:No I μ st aa w) (h:∀i b,A2 au i b->A2 st i b) (u:Kr.Nodup) (q:∀i∈Kr,μ i=none):No I μ au Kr w:={Kp:=p.Kp,SB:=λid SB r=>p.SB id SB<|h _ _ r,apart:=λid SB g b r=>p.apart id SB g b<|h _ _ r,inj:=λi j y z A B b q C=>p.inj i j y z A B b (h _ _ q)<|h _ _ C,nodup:=u,PA:=q }
def rC (G:dv P tt) (K:No I μ st aa w) {C:TypeId} {U:D} (A:X I μ v U) (h:dI tt st C U=some d):∃b u,v=.pointer (some b)/\(loadVar C b).run P w=.ok u w/\X I μ u d:=by unfold dI at h;split at h;{rename_i id off;obtain⟨b,V,W⟩:=A.lx;have conv:∀{u:Value},(Instr.loadAt C<|.pointer<|some ⟨b,off,none⟩).run P w=.ok u w->(loadVar C ⟨b,off,none⟩).run P w=.ok u w:=λh=>by{simpa[Instr.loadAt,Instr.sureAddr]using h};split at h;{rename_i i a sz xs N R;let⟨g,L,r,c,vs,B,q,p,y⟩:=K.SB id _ R;rw[W]at L;cases L;cases B;let⟨u,M,S⟩:=QK (P:=P) (w:=w) (I:=I) (μ:=μ) (G C i N) (b:=b) (o:=0) (off:=off) (xs:=xs) (vs:=λj=>vs.toList.getD j undef) (same:=Nat.beq sz i.size) (λj x E=>by{have z:j<xs.length:=(A9.1 E).1;have A:vs.toList[j]?=some (vs.toList[j]'(by rw[p.1];exact z)):=Bi _;rw[BU];have e:vs.toList.getD j undef=vs.toList[j]'(by rw[p.1];exact z):=by{simp[List.getD,A]};rw[e];exact⟨Gx q j _ A,y _<|K0 _⟩}) (λj x E=>by{have z:j<xs.length:=(A9.1 E).1;have A:vs.toList[j]?=some (vs.toList[j]'(by rw[p.1];exact z)):=Bi _;have e:vs.toList.getD j undef=vs.toList[j]'(by rw[p.1];exact z):=by{simp[List.getD,A]};rw[e];exact p.2 j _ _ A E}) (λ_ T _=>by rw[r];exact Dm T) h;rw[BU]at M;exact⟨_,u,V,conv M,S⟩};{rename_i i a sz cs N R;let⟨g,L,r,c,vs,B,q,p,y⟩:=K.SB id _ R;rw[W]at L;cases L;cases B;let⟨u,M,S⟩:=jN (P:=P) (w:=w) (I:=I) (μ:=μ) (G C i N) (b:=b) (off:=off) (cs:=cs) (vs:=vs.toList) (same:=Nat.beq sz i.size) (λj v E=>Gx q j v E) y p (λ_ T _=>by rw[r];exact Dm T) h;exact⟨_,u,V,conv M,S⟩};cases h};cases h
def oL (b:Addr):(asAddr<|.pointer<|some b).run P w=.ok b w:=by simp[asAddr]
def cH (p:dv P tt) (q:No I μ st aa w) {tmps:Array Value} (y:∀t d,lk env t=some d->X I μ (tmps.getD t undef) d) {g:ResultVar->Sem Value} (z:∀t,g (.tmp t)=pure (tmps.getD t undef)) (A:∀a t,g (.cell a t)=do loadVar t (<- asAddr (tmps.getD a undef))):∀{L:L1 ResultVar} {ds:R1},U1 tt env st L=some ds->∃vs,(L.mapM g).run P w=.ok vs w/\TB I μ vs ds
 |[],ds,h=>by cases h;exact⟨[],by simp,.nil⟩
 |.tmp t::r,ds,h=>by simp only[U1]at h;split at h;rename_i d B C E;split at h;cases h;let⟨vs,G,K⟩:=cH p q y z A E;exact⟨_,by simp only[zfp,z,ak,al,ah,G],.mk (y t d C) K⟩;cases h;cases h
 |.cell t T::r,ds,h=>by simp only[U1]at h;split at h;rename_i a B C E;split at h;rename_i d M;cases h;let⟨vs,G,K⟩:=cH p q y z A E;let⟨b,u,N,R,S⟩:=rC p q (y t a C) M;exact⟨_,by simp only[zfp,A,ak,al,ah,G,N,oL,R],.mk S K⟩;cases h;cases h
def pA (p:dv P tt) (r:No I μ st aa w) {tmps:Array Value} (y:∀t d,lk env t=some d->X I μ (tmps.getD t undef) d) {fn:Func} (h:U1 tt env st fn.results.toList=some ds):∃vs:R0,(results fn tmps).run P w=.ok (if h:vs.toArray.size=1 then vs.toArray[0]else .tuple vs.toArray) w/\TB I μ vs ds:=by have z:∀(f:ResultVar->Sem Value) (vs:R0),(fn.results.toList.mapM f).run P w=.ok vs w->(fn.results.mapM f).run P w=.ok vs.toArray w:=λf vs A=>by{rw[Array.mapM_eq_mapM_toList];change Sem.run P (List.mapM f fn.results.toList >>= λl=>pure l.toArray) w=_;simp only[ak,A,al,ah]};refine Exists.imp (λvs u=>⟨?_,u.2⟩)<|cH (g:=fun|.tmp t=>pure (tmps.getD t undef)|.cell a t=>do loadVar t (<- asAddr (tmps.getD a undef))) p r y (λ_=>rfl) (λ_ _=>rfl) h;have q:=z _ vs u.1;unfold results;simp only[ak];exact Eq.trans (af (Result.andThen · (λvs w=>Sem.run P (pure (if h:vs.size=1 then vs[0]else .tuple vs)) w)) q) (by simp)
def zV {vs:R0} (h:TB I μ vs ds):X I μ (if h:vs.toArray.size=1 then vs.toArray[0]else .tuple vs.toArray)<|Kl ds:=by have p:X I μ (.tuple vs.toArray)<|.cg ds:=.cg _ _ (by simpa using h.1) λi c x q u=>h.2 i c x (by simpa using q) u;match vs,ds,h,p with|[],[],_,p=>simpa[Kl]using p|[v],[d],h,_=>simpa[Kl]using h.2 0 v d O O|v::y::r,d::z::s,_,p=>simpa[Kl]using p|[],_::_,h,_=>simp[TB]at h|_::_,[],h,_=>simp[TB]at h|[_],_::_::_,h,_=>simp[TB]at h|_::_::_,[_],h,_=>{simp[TB]at h}
def Vr (h:Qe d z) (p:X I μ v d):X I μ v z:=by cases z with|Kp x=>exact .Kp _ _ (UI h p)|_=>{(have h:d=_:=h);rw[<- h];exact p}
def cn {f: FuncId} {fn: Func} {c: Code} (p:P.funcs[f]? = some fn) (h:(fn.name=="runtime.NumGoroutine")=false) (q:fn.body=some c) (xs:Array Value) :
  (callFunc f xs).run P w=.ok (.enter f xs) w:=by
 have r:¬ fn.name = "runtime.NumGoroutine" := by simpa using h
 simp[callFunc,p,r,q]
def ZB:∀{ds:R1} {i t:Nat} {d:D},lk (NQ i ds) t=some d->∃j,t=i+j/\ds[j]?=some d
 |[],i,t,d,h=>by simp[NQ,lk]at h
 |x::r,i,t,d,h=>by simp only[NQ]at h;by_cases p:i=t;subst p;rw[A6]at h;cases h;exact⟨0,rfl,rfl⟩;rw[AC _ _ p]at h;let⟨j,u,q⟩:=ZB h;exact⟨j+1,by omega,by simpa using q⟩
def Pj:L1 Nat->L1 Nat->Bool
 |[],_=>true
 |x::r,l=>F6 l x&&Pj r l
def He:∀{a b:K1},Pj a b=true->∀i∈a,i∈b
 |[],_,_,i,h=>by simp at h
 |x::r,b,h,i,hi=>by simp only[Pj,Am]at h;rcases Cu.1 hi with rfl|hi;exact BK.1 h.1;exact He h.2 i hi
def LW:L1 Nat->Bool
 |[]=>true
 |x::r=>!F6 r x&&LW r
def Kq:∀{a:K1},LW a=true->a.Nodup
 |[],_=>.nil
 |x::r,h=>by simp only[LW,Am,KN]at h;exact GI.2 ⟨λp=>(by rw[BK.2 p]at h;cases h.1),Kq h.2⟩
def TB.sub {vs:R0} (h:TB I μ vs ds) (q:∀i∈FO ds,∀g,μ i=some g->ν i=some g):TB I ν vs ds:=⟨h.1,λi v d r p=>(h.2 i v d r p).sub λj u=>q j<|LX (AE p) u⟩
def eb.sub {g:Value} {SB:fp} (h:eb I μ w g SB) (p:∀i∈KU SB,∀g,μ i=some g->ν i=some g):eb I ν w g SB:=by cases SB with|NA t sz xs=>exact h|cells t sz cs=>obtain⟨y,b,vs,q,r,u,B⟩:=h;exact⟨y,b,vs,q,r,u.sub p,B⟩|row t sz es=>exact h|map C=>exact h|ie s D=>exact h|ig=>exact h|hV id S=>obtain⟨b,E,q,r,u⟩:=h;exact⟨b,E,p id (by simp[KU]) _ q,r,u⟩|hp A=>exact h|qy id b=>exact⟨h.1,p id (by simp[KU]) _ h.2⟩|gw C b es c=>exact h|ii b s z c=>{exact h}
def RetL (tt:TT) (p:L1 ResultVar) (h:Out):DQ:=λx env st _=>match x,h with
 |.ret,.ret d au=>∃ds,U1 tt env st p=some ds/\Qe (Kl ds) d/\∀i b,A2 au i b->A2 st i b
 |.norm,.ret d au=>∃ds,U1 tt env st p=some ds/\Qe (Kl ds) d/\∀i b,A2 au i b->A2 st i b
 |.panic x,.ix y=>x=y
 |_,_=>False
def zhz {f: FuncId} {fn: Func} {c: Code} {ds: R1} {bk: St} {C: Out} (jw:dv P tt) (hf:P.funcs[f]? = some fn) (H:(fn.name=="runtime.NumGoroutine")=false) (L:fn.body=some c) (aa:K1) (kq:Nat.ble ds.length fn.ntmps=true) (hn1:aa.Nodup) (hn2:∀i∈aa,i∉CB bk) (hn3:∀i∈FO ds,i∈CB bk) (hn4:∀i∈DB bk,i∈CB bk) (h:ek P fn.ntmps (CB bk) (RetL tt fn.results.toList C) [.code c] (NQ 0 ds) bk aa):GL P f ds bk C:=by
 intro I μ w xs W hx;rw[cn hf H L];refine UG hf L λb cs hbf _ xm=>?_;obtain⟨ν,hν⟩:∃ν:Mu,ν=λi=>if F6 (CB bk) i=true then μ i else none:=⟨_,rfl⟩
 have u:∀i∈CB bk,ν i=μ i:=λi a=>by rw[hν];simp[BK.2 a]
 have z:∀i b,A2 bk i b->i∈CB bk:=by
  intro i b M;have:∀{bk:St},A2 bk i b->i∈CB bk:=by
   intro bk
   induction bk with
   |nil=>intro h;simp[A2,lk]at h
   |cons p r ih=>
    obtain⟨k,y⟩:=p;intro h;by_cases hk:k=i
    ·subst hk;simp[CB]
    ·have:A2 r i b:=by unfold A2 at h ⊢;rwa [AC _ _ hk]at h
     simp only[CB,CK,Cu];exact .inr (ih this)
  exact this M
 have hst1:No I ν bk aa w:=by
  refine { Kp:=W.Kp,SB:=λi b M=>?_,apart:=λi J g k M S hk=>W.apart i J g k M (by rw[<- u i (z i J M)];exact S) hk,inj:=λi j T bj gi gj k a Q py ls=>W.inj i j T bj gi gj k a Q (by rw[<- u i (z i T a)];exact py) (by rw[<- u j (z j bj Q)];exact ls),nodup:=hn1,PA:=λi a=>?_ }
  ·let⟨g,S,hr⟩:=W.SB i b M;refine⟨g,by rw[u i (z i b M)];exact S,hr.sub λj Q g ls=>?_⟩;rw[u j (hn4 j ((Gr M).2 j Q))];exact ls
  ·rw[hν];have:=hn2 i a;have hm:F6 (CB bk) i=false:=by
    cases h:F6 (CB bk) i with
    |false=>rfl
    |true=>exact absurd (BK.1 h) this
   simp[hm]
 have xn:TB I ν xs.toList ds:=hx.sub λj Q g S=>by rw[u j (hn3 j Q)];exact S
 have hlen:xs.size=ds.length:=by have:=hx.1;simpa using this
 have hsz':ds.length<=fn.ntmps:=by simpa[Nat.ble_eq]using kq
 have hc:ij fn.ntmps I ν (NQ 0 ds) bk aa { tmps:=xs++Array.replicate (fn.ntmps-xs.size) undef,defers:=[] } w :=
  {hst1 with
   size:=(by simp;omega)
   env:=λt d M=>by
    obtain⟨j,rfl,hd⟩:=ZB M;have Q:j<ds.length:=(A9.1 hd).1;have hjx:j<xs.size:=by omega
    have e:(xs++Array.replicate (fn.ntmps-xs.size) undef).getD (0+j) undef=xs[j]:=by
     rw[BU];simp[Array.getD,Array.getElem_append_left hjx];omega
    rw[e];exact xn.2 j _ d (by simp[hjx]) hd
   defers:=fz.nil _ _ _ _ }
 have E:∀b,Ba ν bk b↔Ba μ bk b:=λb=>by
  constructor<;>rintro ⟨i,T,g,n,h2,h3⟩
  ·exact⟨i,T,g,n,by rw[<- u i (z i T n)];exact h2,h3⟩
  ·exact⟨i,T,g,n,by rw[u i (z i T n)];exact h2,h3⟩
 have iu:=h ⟨b,.inr ⟨xm,fn,by rw[hbf];exact hf⟩⟩ cs I ν { tmps:=xs++Array.replicate (fn.ntmps-xs.size) undef,defers:=[] } w [.code c] AD hc;refine iu.mono λe a' w' hp=>?_;obtain⟨x,a6,au,Kr,s,G,p1,V,F,p4,K,p6⟩:=hp;obtain⟨rs,m1,m2,m3⟩:=F.defers;have hrs:∀r∈rs,w.heap.size<=r:=λr hr=>by
  rcases p6 r (by rw[m1];exact CC.2 ⟨r,hr,rfl⟩)with h|h
  ·simp at h
  ·exact h
 let⟨w2,q,A,k3,k4,k5,k6⟩:=Z2 (P:=P) rs w' m2 (λr hr=>(m3 r hr).1);have hS2:No s G au Kr w2 :=
  {Kp:=λb o h=>by rw[k6 b (λhm=>by rw[(m3 b hm).2.1]at h;cases h)];exact F.Kp b o h
   SB:=λi b M=>by
    let⟨g,S,hr⟩:=F.SB i b M;exact⟨g,S,hr.world λJ hbb=>k6 J λhm=>(m3 J hm).2.2 ⟨i,b,g,M,S,hbb⟩⟩
   apart:=λi b g J M S hbb=>by rw[k5];exact F.apart i b g J M S hbb
   inj:=F.inj
   nodup:=F.nodup
   PA:=F.PA }
 have N:fi I ν bk w s G au w2 :=
  {Kp:=K.Kp,os:=A.trans K.os,tape:=k3.trans K.tape,output:=k4.trans K.output,size:=by rw[k5];exact K.size
   block:=λb L m=>(k6 b λhm=>by have:=hrs b hm;omega).trans (K.block b L m),fresh:=K.fresh,gz:=K.gz }
 have fin:∀d a7,C=.ret d a7->(∃ds,U1 tt a6 au fn.results.toList=some ds/\Qe (Kl ds) d/\∀i b,A2 a7 i b->A2 au i b)->∃R v,bA P a'.defers w' R/\(results fn a'.tmps).run P R=.ok v R /\
   (match (Ending.returned v) with
    |.returned v=>(match C with
     |.ret d au=>∃s G,X s G v d/\No s G au [] R/\l4 (CB bk) μ G/\fi I μ bk w s G au R
     |.ix _=>False)
    |.panicked U=>(match C with
     |.ret _ _=>False
     |.ix x=>OF (· = x) I μ bk w U R)
    |.outgrown=>False):=by
  rintro d a7 rfl ⟨ds',r1,r2,r3⟩;let⟨vs,q1,q2⟩:=pA jw hS2 F.env r1;refine⟨w2,_,by rw[m1];exact q,q1,s,G,Vr r2 (zV q2),hS2.less (r3) .nil (λ_ h=>by simp at h),λi a g S=>p4 i a g (by rw[u i a];exact S),?_⟩;exact { Kp:=N.Kp,os:=N.os,tape:=N.tape,output:=N.output,size:=N.size,block:=λb L m=>N.block b L (λh=>m ((E b).1 h)),fresh:=λb L ⟨i,T,g,n,h2⟩=>(E b).1 (N.fresh b L ⟨i,T,g,r3 i T n,h2⟩),gz:=λb L m=>N.gz b L (λh=>m ((E b).1 h)) }
 cases e with
 |normal=>
  cases x<;>simp only[Mw]at p1;cases B:C with
  |ret d a7=>subst B;exact fin d a7 O V
  |ix y=>subst B;exact V.elim
 |ret=>
  cases x<;>simp only[Mw]at p1;cases B:C with
  |ret d a7=>subst B;exact fin d a7 O V
  |ix y=>subst B;exact V.elim
 |panic U=>
  cases x<;>simp only[Mw]at p1;rename_i x;obtain⟨v,rfl,hv⟩:=p1;cases B:C with
  |ret d a7=>subst B;exact V.elim
  |ix y=>
   subst B;have V:x=y:=V;subst V;refine⟨w2,by rw[m1];exact q,v,x,s,rfl,rfl,hv,hS2.Kp,?_⟩;exact { Kp:=N.Kp,os:=N.os,tape:=N.tape,output:=N.output,size:=N.size,block:=λb L m=>N.block b L (λh=>m ((E b).1 h)),fresh:=λb L ⟨i,T,g,n,h2⟩=>by simp[A2,lk]at n,gz:=λb L m=>N.gz b L (λh=>m ((E b).1 h)) }
 |exit id=>
  cases x<;>simp only[Mw]at p1;exact V.elim
 |goto l=>
  cases x<;>simp only[Mw]at p1;exact V.elim
 |outgrown=>cases x<;>simp only[Mw]at p1
def Oz {f: FuncId} {fn: Func} {c: Code} {ds: R1} {bk: St} {p: Out} (u:dv P tt) (K:P.funcs[f]? = some fn) (q:(fn.name=="runtime.NumGoroutine")=false) (L:fn.body=some c) (aa:K1) (y:Nat.ble ds.length fn.ntmps=true) (E:(LW aa&&Rl aa (CB bk)&&Pj (FO ds) (CB bk)&&Pj (DB bk) (CB bk))=true) (h:G P fn.ntmps (CB bk) (IZ tt fn.results.toList p) [.code c] (NQ 0 ds) bk aa):GL P f ds bk p:=by
 simp only[Am]at E;obtain⟨⟨⟨z,A⟩,B⟩,C⟩:=E;refine zhz u K q L aa y (Kq z) (O0.1 A) (He B) (He C) (h.go.mono λx env st aa r=>?_);cases x<;>cases p<;>first
  |exact r
  |exact r.elim
  |exact⟨r.choose,r.choose_spec.1,r.choose_spec.2.1,λi b M=>Cz r.choose_spec.2.2 i b M⟩
def Ae {fn:Func} {c:Code} {q:Out} (r:dv P tt) (y:P.funcs[f]?=some fn) (z:fn.body=some c) (aa:K1) (h:G P fn.ntmps (CB bk) (IZ tt fn.results.toList q) [.code c] (NQ 0 ds) bk aa) (p:(fn.name=="runtime.NumGoroutine")=false:=by decide +kernel) (u:Nat.ble ds.length fn.ntmps=true:=by rfl) (A:(LW aa&&Rl aa (CB bk)&&Pj (FO ds) (CB bk)&&Pj (DB bk) (CB bk))=true:=by rfl):GL P f ds bk q:=Oz r y p z aa u A h
end
mutual
def GA:V->Prop
 |.sl es=>es.length<=maxLen/\Vm es
 |.agg cs=>DF cs
 |.cg cs=>DF cs
 |.iface _ x=>GA x
 |_=>True
def DF:L1 V->Prop
 |[]=>True
 |x::r=>GA x/\DF r
def Vm:L1 (L1 V)->Prop
 |[]=>True
 |e::r=>DF e/\Vm r
end
def MH:∀{l:G2},DF l↔∀x∈l,GA x
 |[]=>by simp[DF]
 |x::r=>by simp[DF,MH (l:=r)]
def YB:∀{l:L1<|G2},Vm l↔∀e∈l,DF e
 |[]=>by simp[Vm]
 |x::r=>by simp[Vm,YB (l:=r)]
def zA (env:Env):Env->Prop
 |[]=>True
 | (t,z)::r=>(match lk env t with
  |some d=>Qe d z
  |none=>False)/\zA env r
def uN:fp->fp->Prop
 |.cells t sz cs,.NA p h xs=>t=p/\sz=h/\HY cs=some xs
 |.NA t sz xs,.cells p h cs=>t=p/\sz=h/\xs.map .Kp=cs
 |b,q=>b=q
def xp (st:St):St->Prop
 |[]=>True
 | (i,some h)::r=>(match lk st i with
  |some (some b)=>uN b h
  |_=>False)/\xp st r
 |(_,none)::_=>False
def ZR (aa l:L1 Nat):L1 Nat->Bool
 |[]=>true
 |i::r=>(F6 aa i||!F6 l i)&&ZR aa l r
def WQ {aa l:K1}:∀{m:K1},ZR aa l m=true->∀i∈m,i∈aa\/i∉l
 |[],_,i,h=>by simp at h
 |x::r,h,i,hi=>by simp only[ZR,Am,EJ,KN]at h;rcases Cu.1 hi with rfl|hi;exact h.1.imp (λh=>BK.1 h) λh p=>by{rw[BK.2 p]at h;cases h};exact WQ h.2 i hi
section
variable {n:Nat} {env:Env} {k:S6}
def PB.ok (h:PB I v x):GA x:=by induction h with|agg cs xs y _ _ p=>simp only[GA,MH];intro x u;let⟨i,q⟩:=EI.1 u;have r:i<cs.size:=by{rw[y];exact(A9.1 q).1};exact p i cs[i] x (by simp[r]) q|cg cs xs y _ p=>simp only[GA,MH];intro x u;let⟨i,q⟩:=EI.1 u;have r:i<cs.size:=by{rw[y];exact(A9.1 q).1};exact p i cs[i] x (by simp[r]) q|slnil=>simp[GA,Vm]|mq=>simp[GA,Vm]|sl b o A B sz es vs y G K C z _ p=>simp only[GA,YB,MH];refine⟨by omega,λe D x u=>?_⟩;let⟨i,q⟩:=EI.1 D;let⟨j,E⟩:=EI.1 u;exact p i e j x q E|iface t v x _ p=>exact p|_=>{trivial}
def RH:∀{a6:Env},zA env a6->∀t z,lk a6 t=some z->∃d,lk env t=some d/\Qe d z
 |[],_,t,z,h=>by simp[lk]at h
 |(s,x)::r,h,t,z,p=>by by_cases u:s=t;{subst u;rw[A6]at p;cases p;have q:=h.1;split at q;{exact⟨_,by assumption,q⟩};exact q.elim};rw[AC _ _ u]at p;exact RH h.2 t z p
def RI:∀{au:St},xp st au->∀i q,A2 au i q->∃b,A2 st i b/\uN b q
 |[],_,i,b,h=>by simp[A2,lk]at h
 |(s,none)::r,h,_,_,_=>h.elim
 |(s,some x)::r,h,i,q,p=>by by_cases y:s=i;{subst y;unfold A2 at p;rw[A6]at p;cases p;have u:=h.1;split at u;{exact⟨_,by assumption,u⟩};exact u.elim};refine RI h.2 i q ?_;unfold A2 at p ⊢;rwa [AC _ _ y]at p
def yX {g:Value} {B:fp} (h:uN b B) (q:eb I μ w g b):eb I μ w g B:=by unfold uN at h;split at h;obtain⟨rfl,rfl,h⟩:=h;obtain⟨r,u,vs,y,z,p,A⟩:=q;have:=HX h p;exact⟨by rw[<- r,<- p.1,this.1],u,vs,y,z,this,A⟩;obtain⟨rfl,rfl,rfl⟩:=h;obtain⟨r,u,vs,y,z,p,A⟩:=q;exact⟨by simpa using r,u,vs,y,z,p.Kp,A⟩;subst h;exact q
def Mr (hE:zA env a6) (v:xp st au) (H:(LW Kr&&ZR aa (OS a6++DB au++F) Kr)=true) (h:ek P n F Q todo a6 au Kr):ek P n F Q todo env st aa:=by
 intro b cs I μ a w N hd M;simp only[Am]at H;obtain⟨V,W⟩:=H;obtain⟨ν,R⟩:∃ν:Mu,ν=λi=>if F6 Kr i=true then none else μ i:=⟨_,rfl⟩
 have G:∀i∈OS a6++DB au++F,∀g,μ i=some g->ν i=some g:=by
  intro i E g A;rw[R];have:F6 Kr i=false:=by
   cases U:F6 Kr i with
   |false=>rfl
   |true=>
    rcases WQ W i (BK.1 U)with h|h
    ·rw[M.PA i h]at A;cases A
    ·exact absurd E h
  simp[this,A]
 have u:∀i g,ν i=some g->μ i=some g:=by
  intro i g A;rw[R]at A;by_cases U:F6 Kr i=true
  ·simp[U]at A
  ·simpa[U]using A
 have y:∀i K,A2 au i K->∃b,A2 st i b:=λi K L=>let⟨b,B,_⟩:=RI v i K L;⟨b,B⟩
 have C:∀{env:Env} {t:Nat} {d:D},lk env t=some d->∀i∈GH d,i∈OS env:=by
  intro env
  induction env with
  |nil=>intro t d h;simp[lk]at h
  |cons p r ih=>
   obtain⟨s,x⟩:=p;intro t d h i E;simp only[OS,AT];by_cases J:s=t
   ·subst J;rw[A6]at h;cases h;exact .inl E
   ·rw[AC _ _ J]at h;exact .inr<|ih h i E
 have hEx:fi I μ st w I ν au w :=
  {Kp:=TA.le_refl I,os:=rfl,tape:=rfl,output:=rfl,size:=B6 _,block:=λ_ _ _=>rfl,
     fresh:=λb _ ⟨i,K,g,B,S,h3⟩=>let⟨bb,q⟩:=y i K B;⟨i,bb,g,q,u i g S,h3⟩,gz:=λ_ _ _=>rfl }
 have c:ij n I ν a6 au Kr a w :=
  {Kp:=M.Kp
   SB:=λi K L=>by
    let⟨b,B,S⟩:=RI v i K L;let⟨g,A,hr⟩:=M.SB i b B;let⟨q1,q2⟩:=Gr L;exact⟨g,G i (by simp[q1]) g A,(yX S hr).sub λj T g A=>G j (by simp[q2 j T]) g A⟩
   apart:=λi K g k L A hk=>by
    let⟨b,B⟩:=y i K L;exact M.apart i b g k B (u i g A) hk
   inj:=λi j bi bj gi gj k E T f l m o=>by
    let⟨b1,B⟩:=y i bi E;let⟨b2,S⟩:=y j bj T;exact M.inj i j b1 b2 gi gj k B S (u i gi f) (u j gj l) m o
   nodup:=Kq V
   PA:=λi E=>by rw[R];simp[BK.2 E]
   size:=M.size
   env:=λt z L=>by
    let⟨d,B,S⟩:=RH hE t z L;exact(Vr S<|M.env t d B).sub λj T g A=>G j (by simp[C L j T]) g A
   defers:=M.defers.ext hEx }
 exact(h b cs I ν a w N hd c).mono λe a' w' hp=>hp.back (λi E g A=>G i (by simp[E]) g A)<|hEx
def Ad (h:ek P n F Q todo a6 au Kr) (p:zA env a6) (q:xp st au) (r:(LW Kr&&ZR aa (OS a6++DB au++F) Kr)=true):ek P n F Q todo env st aa:=Mr p q r h
def mF {c:Code} (E:α->Env) (S:α->St) (Kr:K1) (m:α->Nat) (Inv:α->Prop) (step:∀x,Inv x->(∀p,m p<m x->Inv p->ek P n F Q (.inLoop c::k) (E p) (S p) Kr)->ek P n F Q (.code c::.inLoop c::k) (E x) (S x) Kr):∀x,Inv x->ek P n F Q (.inLoop c::k) (E x) (S x) Kr:=by have:∀b x,m x<b->Inv x->ek P n F Q (.inLoop c::k) (E x) (S x) Kr:=by{intro b;induction b with|zero=>intro x h;omega|succ b u=>{intro x z q;exact tJ<|step x q λp y r=>u p (by omega) r}};intro x q;exact this (m x+1) x (by omega) q
def Ak {c:Code} (E:α->Env) (S:α->St) (Kr:K1) (m:α->Nat) (Inv:α->Prop) (h:α) (q:Inv h) (r:zA env<|E h) (u:xp st<|S h) (y:(LW Kr&&ZR aa (OS (E h)++DB (S h)++F) Kr)=true) (step:∀x,Inv x->(∀p,m p<m x->Inv p->ek P n F Q (.inLoop c::k) (E p) (S p) Kr)->ek P n F Q (.code c::.inLoop c::k) (E x) (S x) Kr):ek P n F Q (.code (.loop c)::k) env st aa:=Yu<|Mr r u y<|mF E S Kr m Inv step h q
def GK {t:Nat} (r:lk env t=some (.Kp x)) (h:GA x->ek P n F Q todo env st aa):ek P n F Q todo env st aa:=λb cs I μ a w p u q=>h (q.env t _ r).Ks.ok b cs I μ a w p u q
def BJ {v:V} (h:DF vs->Ji P f vs v):Ji P f vs v:=by intro I μ w xs p q;refine h (MH.2 λx r=>?_) I μ w xs p q;let⟨j,y⟩:=EI.1 r;have u:j<xs.toList.length:=by{rw[q.1];simpa using(A9.1 y).1};exact(q.2 j _ (.Kp x) (Bi u)<|by simp[y]).Ks.ok
end
def U3:L1 DI->Option Oper
 |.ops _ (o::_)::_=>some o
 |.je _ (o::_) _::_=>some o
 |_=>none
def KS (st:St):D->Option (L1 Nat×L1 (L1 V))
 |.NB=>some ([],[])
 |.own id _=>match lk st id with
  |some (some (.row _ _ es))=>some ([id],es)
  |_=>none
 |.gt es=>some ([],es)
 |_=>none
def Qi:D->Option (L1<|L1 V)
 |.Kp (.sl es)=>some es
 |.NB=>some []
 |_=>none
def zio (sz bytes:Nat) (p:D) (es h:L1<|L1 V):Prop :=
 (∀c∈h,c.length=sz)/\es.length+h.length<=maxLen/\(es.length+h.length)*bytes<=140737488355328 /\
 match p with
 |.gt _=>(∀c∈es,c.length=sz)/\h≠[]
 |.own _ _=>True
 |_=>True
section
variable {n:Nat} {env:Env} {k:S6}
def PB.tw (h:PB I v x) (p:v.oneCell'=true):V.one x=true:=by cases h<;>first|rfl|simp[Value.oneCell']at p
def UL (U:I.ok w) (h:PB I v<|.sl es) (M:∀c∈es,c.length=sz) (W:0<sz):((∃ad,v=.slice ad 0 0)/\es=[])\/∃b o c r,v=.slice (some ⟨b,o,none⟩) es.length c/\es.length<=c/\c<=maxLen/\r.length=es.length*sz/\(∀j u,r[j]?=some u->w.cell? ((⟨b,o,none⟩:Addr).add j)=some u)/\(∀u∈r,u.oneCell'=true)/\Ts I r es.flatten/\(∀e∈es,∀x∈e,V.one x=true):=by cases h with|slnil=>exact .inl ⟨⟨_,rfl⟩,rfl⟩|mq ad=>exact .inl ⟨⟨_,rfl⟩,rfl⟩|sl b o a N B _ vs d f g R p C=>{subst d;refine .inr ⟨b,o,N,(List.range<|es.length*sz).map λq=>vs (q / sz)<|q % sz,rfl,f,g,by simp,?_,?_,?_,?_⟩;(all_goals(have z:∀j,j<es.length*sz->∃e x,es[j / sz]?=some e/\e[j % sz]?=some x/\e.length=sz/\B=sz:=by{intro j G;have D:j / sz<es.length:=zf3 (by rw[W0];exact G);have E:j % sz<sz:=gf _ W;have L:=M es[j / sz]<|K0 _;have l:=R es[j / sz]<|K0 _;exact⟨es[j / sz],(es[j / sz])[j % sz],Bi D,Bi<|by omega,L,by omega⟩}));intro j u K;obtain⟨A,rfl⟩:=Iy K;obtain⟨e,x,D,E,_,rfl⟩:=z j A;have:=TA.kr U (p _ _ _ _ D E).1;rw[JV];rw[show o+j=o+j / B*B+j % B by rw[Z6,W0,rA]];exact this;intro u K;let⟨j,G⟩:=EI.1 K;obtain⟨A,rfl⟩:=Iy G;obtain⟨e,x,D,E,_,rfl⟩:=z j A;exact(p _ _ _ _ D E).2;refine⟨by rw[BL M];simp,λj u x K S=>?_⟩;obtain⟨A,rfl⟩:=Iy K;obtain⟨e,y,D,E,_,rfl⟩:=z j A;have L:=Dc M _ _ _ _ D E;rw[W0,rA,S]at L;cases L;exact C _ _ _ _ D E;intro e k x S;let⟨i,T⟩:=EI.1 k;let⟨j,G⟩:=EI.1 S;exact(C _ _ _ _ T G).tw (p _ _ _ _ T G).2}
def No.renew {iz:Nat} (q:No I μ st (iz::aa) w) {rd:K1} {v':Value} {it:fp} {row:g6} (T:w.grownBy w' row) (E:∀b,row=some b->∃id SB g,id∈rd/\A2 st id SB/\μ id=some g/\EY g b) (G:∀b,EY v' b->b<w'.heap.size/\(w.heap.size<=b\/∃id SB g,id∈rd/\A2 st id SB/\μ id=some g/\EY g b)) (n:∀C,eb I C w' v' it):∃C,C iz=some v'/\μ.le C/\No I C ((iz,some it)::CO rd++st) aa w'/\fi I μ st w I C ((iz,some it)::CO rd++st) w':=by have F:μ iz=none:=q.PA iz (by simp);have l:μ.le λi=>if i=iz then some v' else μ i:=λi v h=>by{have:i≠iz:=λe=>by{rw[e,F]at h;cases h};simp[this,h]};have U:∀b,row=some b->I b=none:=λb H=>by{let⟨id,SB,g,_,A,y,L⟩:=E b H;exact(q.apart id SB g b A y L).1};have u:∀i b,A2 ((iz,some it)::CO rd++st) i b->(i=iz/\b=it)\/(i≠iz/\i∉rd/\A2 st i b):=by{intro i b h;rcases A7.1 h with h|⟨z,A⟩;exact .inl h;let⟨y,L⟩:=PQ A;exact .inr ⟨z,y,L⟩};have p:∀i g,i≠iz->(if i=iz then some v' else μ i)=some g->μ i=some g:=λi g V h=>by{rwa [ac V]at h};have W:∀i b g k,i∉rd->A2 st i b->μ i=some g->EY g k->w'.heap[k]?=w.heap[k]?:=by{intro i b g k z A y L;refine T.block k (q.apart i b g k A y L).2 λD=>?_;let⟨id,SB,M,d,K,N,R⟩:=E k D.symm;have:=q.inj i id b SB g M k A K y N L R;subst this;exact z d};have B:∀i b g k,i∉rd->A2 st i b->μ i=some g->EY g k->¬EY v' k:=by{intro i b g k z A y L h5;rcases(G k h5).2 with h|⟨id,SB,M,d,K,N,R⟩;have:=(q.apart i b g k A y L).2;omega;have:=q.inj i id b SB g M k A K y N L R;subst this;exact z d};refine⟨λi=>if i=iz then some v' else μ i,by simp,l,?_,?_⟩;refine { Kp:=λb o h=>?_,SB:=λi b m=>?_,apart:=λi b g k m r D=>?_,inj:=λi j f J s t k x hj r S a c=>?_,nodup:=(GI.1 q.nodup).2,PA:=λi x=>?_ };have z:=q.Kp b o h;rw[T.block b (C7 z) (λD=>by rw[U b D.symm]at h;cases h)];exact z;rcases u i b m with⟨rfl,rfl⟩|⟨z,A,y⟩;exact⟨v',by simp,n _⟩;let⟨g,r,H⟩:=q.SB i b y;exact⟨g,by simp[z,r],(H.mono (TA.le_refl I) l).world λk D=>W i b g k A y r D⟩;rcases u i b m with⟨rfl,rfl⟩|⟨z,A,y⟩;simp at r;subst r;let⟨z,A⟩:=G k D;refine⟨?_,z⟩;rcases A with A|⟨id,SB,M,d,K,N,R⟩;cases h:I k with|none=>rfl|some o=>{have:=C7<|q.Kp _ _ h;omega};exact(q.apart id SB M k K N R).1;let⟨d,K⟩:=q.apart i b g k y (p i g z r) D;exact⟨d,Yj K T.size⟩;rcases u i f x with⟨rfl,rfl⟩|⟨z,A,y⟩<;>rcases u j J hj with⟨rfl,rfl⟩|⟨Q,p2,p3⟩;rfl;simp at r;subst r;exact absurd a (B j J t k p2 p3 (p j t Q S) c);simp at S;subst S;exact absurd c (B i f s k A y (p i s z r) a);exact q.inj i j f J s t k y p3 (p i s z r) (p j t Q S) a c;have V:i≠iz:=λe=>(GI.1 q.nodup).1 (e▸x);simp[V,q.PA i<|by simp[x]];refine { Kp:=TA.le_refl I,os:=T.os,tape:=T.tape,output:=T.output,size:=T.size,block:=λb n P=>T.block b n λD=>?_,fresh:=λb n P=>?_,gz:=λ_ _ _=>rfl };let⟨id,SB,M,_,K,N,R⟩:=E b D.symm;exact P ⟨id,SB,M,K,N,R⟩;obtain⟨i,f,g,m,r,D⟩:=P;rcases u i f m with⟨rfl,rfl⟩|⟨z,A,y⟩;simp at r;subst r;rcases(G b D).2 with h|⟨id,SB,M,_,K,N,R⟩;omega;exact⟨id,SB,M,K,N,R⟩;exact⟨i,f,g,y,p i g z r,D⟩
def ze5 {b:Nat} {k:Nat} (h:w.ownsRow 0 t sz v k xs) (p:EY v b):v.ownBlock=some b:=by rcases h.2 with⟨rfl,_⟩|⟨g,q,r,rfl,_⟩;simp[EY]at p;simpa[EY,Value.ownBlock]using p
def ze4 {b:Nat} (h:v.ownBlock=some b):EY v b:=by unfold Value.ownBlock at h;split at h;cases h;rfl;cases h
def iO {k:Nat} (h:w.ownsRow 0 t sz v k xs):∃a cap,v=.slice a k cap:=by rcases h.2 with⟨rfl,rfl⟩|⟨g,cap,p,rfl,_⟩;exact⟨none,0,rfl⟩;exact⟨_,cap,rfl⟩
def cb:=@World.ownsRow_nil
def fa:=@grownCap_le_maxLen
def fu:=@Array.size_append
def zax (jw:dv P tt) {all:L1 Oper} {x y:Operand} {ti i:kh} {dx dy:D} {rd:K1} {iz:Nat} {p:L1<|G2} (hg:o.guard=none) (ho:o.op=.call { callee:=.builtin .append,args:=⟨[x,y]⟩,argTypes:=⟨[t,t]⟩ }) (ht:lk tt t=some ti) (xq:ti.sh=.sl e) (hi:lk tt e=some i) (hz:(Nat.beq i.zero.length i.size&&Nat.blt 0 i.size)=true) (hx:Fi env x=some dx) (K:KS st dx=some (rd,es)) (F:∀id,rd=[id]->lk st id=some (some<|.row e i.size es)) (hy:Fi env y=some dy) (hs:Qi dy=some p) (hok:zio i.size i.bytes dx es p) :
  LD P Pn all o env st rd [iz] ((iz,some<|.row e i.size<|es++p)::CO rd) (.own iz (es++p).length):=by
 intro I μ a7 S a w lr U mv;refine⟨λ_=>?_,λhw=>by rw[AO hg]at hw;cases hw⟩;have Q:=B3 mv;rw[ho]at Q;have s:=Q x (by simp[Op.operands,Call.operands]) _ hx;have ry:=Q y (by simp[Op.operands,Call.operands]) _ hy;obtain⟨inf,z,z1,z2,z3,z4,z5,z6⟩:=(jw e i hi).lw;have hu:P.underlying t=some (.slice e):=by have:=jw.sh ht;rwa [xq]at this
 simp only[Am,Kz]at hz;have xr:z.cells.size=i.size:=by
  have:=(z5 I μ).1;rw[Dm hz.1]at this;simpa using this
 obtain⟨q,A,k3,k4⟩:=hok;have hyv:PB I (a.eval y)<|.sl p:=by
  cases dy<;>simp only[Qi,reduceCtorEq,Co]at hs
  ·rename_i vx;cases vx<;>simp only[Qi,reduceCtorEq,Co]at hs;subst hs;exact ry.Ks
  ·subst hs;have:=ry;generalize a.eval y=v at this;cases this;exact .slnil
 have iu:∀{u w'},(Builtin.append_ #[t,t] o.type #[a.eval x,a.eval y]).run P w=.ok u w'->(execOp a.eval o).run P w=.ok (.value u) w':=by
  intro u w' h;simp only[execOp,ho,resolve,invoke,builtin,ak,al,ah,OU,CK,KM,h]
 have W:∀{u:Value} {w':World} {xs:R0} {row:g6},(Builtin.append_ #[t,t] o.type #[a.eval x,a.eval y]).run P w=.ok u w'->w'.ownsRow 0 e i.size u (es.length+p.length) xs->w.grownBy w' row ->
   (∀b,row=some b->∃id SB g,id∈rd/\A2 a7 id SB/\μ id=some g/\EY g b)->(∀b,u.ownBlock=some b->row=some b\/w.heap.size<=b)->Ts I xs (es++p).flatten->(∀c∈es++p,c.length=i.size) ->
   (∀c∈es++p,∀x∈c,V.one x=true) ->
   hG P ((execOp a.eval o).run P w) (λv w'=>∃d B,No d B ((iz,some<|.row e i.size<|es++p)::CO rd++a7) S w'/\X d B v (.own iz (es++p).length)/\μ.le B/\fi I μ a7 w d B ((iz,some<|.row e i.size<|es++p)::CO rd++a7) w') (OF Pn I μ a7 w):=by
  intro u w' xs row h1 h2 h3 h4 h5 h6 h7 h8;rw[iu h1];let⟨B,q1,q2,q3,q4⟩:=No.renew (iz:=iz) (aa:=S) (rd:=rd) (v':=u) (it:=.row e i.size<|es++p) U h3 h4 (λb K=>by
   have r8:=ze5 h2 K;refine⟨(h2.lt b r8).2,?_⟩;rcases h5 b r8 with h|h
   ·exact .inr<|h4 b h
   ·exact .inl h) λB=>⟨xs,by rw[Bo];exact h2,h6,h7,h8,hz.2⟩
  refine⟨I,B,q3,?_,q2,q4⟩;obtain⟨ad,r,rfl⟩:=iO h2;rw[Bo];exact .own _ _ _ _ q1
 rcases UL U.Kp hyv q hz.2 with⟨⟨ady,ey⟩,rfl⟩|⟨yb,yo,yc,C,ey,_,_,n1,n2,n3,n4,n5⟩
 ·have f:∀(v:Value),a.eval x=v->(∃ad E r,v=.slice ad E r/\E<=r)->(Builtin.append_ #[t,t] o.type #[a.eval x,a.eval y]).run P w=.ok v w:=by
   rintro v L ⟨ad,E,r,rfl,hle⟩;rw[L,ey];cases ad<;>cases ady<;>simp[Builtin.append_,aj hu,sizeOf,typeInfo,z1,Builtin.lenOf,hle,Builtin.firstCells,loadCells,loadCellsFrom,storeCells]
  have G:w.grownBy w none:=⟨rfl,rfl,rfl,B6 _,λ_ _ _=>rfl⟩
  cases dx with
  |NB=>
   simp only[KS,Co,AP]at K;obtain⟨rfl,rfl⟩:=K;have L:a.eval x=.slice none 0 0:=by
    generalize a.eval x=v at s;cases s;rfl
   exact W (f _ L ⟨_,_,_,rfl,B6 _⟩) (cb w 0 e i.size) G (λb h=>by cases h) (λb h=>by simp[Value.ownBlock]at h) (xs:=[]) .nil (by simp) (by simp)
  |own id nn=>
   simp only[KS]at K
   split at K
   ·rename_i bt sz es0 hl;cases K;have hl':=F id O;have l:A2 a7 id<|.row e i.size es:=by unfold A2;rw[lr id<|by simp];exact hl'
    let⟨g,N,xs,H,r2,r3,r4,_⟩:=U.SB id _ l;have L:a.eval x=g:=by
     generalize a.eval x=v at s;cases s with
     |own _ _ ad r hm=>rw[hm]at N;cases N;rfl
    have hr0:∃ad E r,g=.slice ad E r/\E<=r:=by
     rcases H.2 with⟨rfl,h⟩|⟨J,r,T,rfl,_,_,h,_⟩
     ·exact⟨_,_,_,rfl,B6 _⟩
     ·exact⟨_,_,_,rfl,h⟩
    exact W (row:=g.ownBlock) (f g L hr0) (by simpa using H) ⟨rfl,rfl,rfl,B6 _,λ_ _ _=>rfl⟩ (λb h=>⟨id,_,g,by simp,l,N,ze4 h⟩) (λb h=>.inl h) (xs:=xs) (by simpa using r2) (by simpa using r3) (by simpa using r4)
   ·cases K
  |gt r9=>exact absurd rfl k4.2
  |_=>simp[KS]at K
 ·have tz:∀{xs:R0},Ts I xs es.flatten->Ts I (xs++C) (es++p).flatten:=λh=>by rw[zf2];exact h.append n4
  have m:a.eval x=.slice none 0 0->es=[] ->
    hG P ((execOp a.eval o).run P w) (λv w'=>∃d B,No d B ((iz,some<|.row e i.size<|es++p)::CO rd++a7) S w'/\X d B v (.own iz (es++p).length)/\μ.le B/\fi I μ a7 w d B ((iz,some<|.row e i.size<|es++p)::CO rd++a7) w') (OF Pn I μ a7 w):=λL he=>by
   subst he;let⟨v',w',q1,q2,q3,_⟩:=run_append_own (P:=P) w w.heap.size t o.type e inf z i.size i.bytes hu z1 z4 z2 z3 xr hz.2 (.slice none 0 0) 0 [] (cb w _ e i.size) ⟨yb,yo,none⟩ p.length yc C n1 n2 n3
    (by simpa using A) (by simpa using k3) (B6 _)
   have q2':w'.ownsRow 0 e i.size v' (0+p.length) C:=⟨q2.1,q2.2.imp id λ⟨g,r,T,a1,_,a2⟩=>⟨g,r,T,a1,AK _,a2⟩⟩
   exact W (row:=none) (by rw[L,ey];exact q1) q2' ⟨q3.os,q3.tape,q3.output,q3.size,λb K _=>q3.block b K<|by simp[Value.ownBlock]⟩ (λb h=>by cases h) (λb h=>.inr (q2.lt b h).1) (tz .nil) (by simpa using q) (by simpa using n5)
  have G:∀(ad:Addr) (r:Nat) (xs:R0),a.eval x=.slice (some ad) es.length r->xs.length=es.length*i.size->(∀j u,xs[j]?=some u->w.cell? (ad.add j)=some u)->r<es.length+p.length->Ts I xs es.flatten->(∀c∈es,c.length=i.size)->(∀c∈es,∀x∈c,V.one x=true) ->
    hG P ((execOp a.eval o).run P w) (λv w'=>∃d B,No d B ((iz,some<|.row e i.size<|es++p)::CO rd++a7) S w'/\X d B v (.own iz (es++p).length)/\μ.le B/\fi I μ a7 w d B ((iz,some<|.row e i.size<|es++p)::CO rd++a7) w') (OF Pn I μ a7 w):=λad r xs L hl np mc hr kq h1=>by
   have u0:es.length+p.length<=9223372036854775807:=by simp only[maxLen]at A;omega
   have xt:=run_append_grow (P:=P) w t o.type e inf z hu z1 z4 ad es.length r xs (by rw[z2];exact hl) np ⟨yb,yo,none⟩ p.length yc C (by rw[z2];exact n1) n2 mc (by omega) (by rw[z3];exact growslice_fits mc k3);have hge:=grownCap_ge w (es.length+p.length) r e;have na:grownCap w (es.length+p.length) r e<=maxLen:=fa w _ r e A;have M:(xs++C).length=(es.length+p.length)*i.size:=by rw[Bo,hl,n1,Wq]
   refine W (row:=none) (by rw[L,ey];exact xt) (xs:=xs++C) ⟨M,.inr ⟨w.heap.size,_,_,rfl,AK _,FR w.drew _,hge,na,?_,?_⟩⟩ ⟨rfl,rfl,rfl,by simp,λk hk _=>DO w.drew _ hk⟩ (λb h=>by cases h)
    (λb h=>by simp[Value.ownBlock]at h;exact .inr<|by omega) (tz hr) (λc hc=>(AT.1 hc).elim (kq c)<|q c) λc hc=>(AT.1 hc).elim (h1 c)<|n5 c
   ·simp only[fu,dG,size_zeroCells,xr,hl,n1,<- Wq];congr 1;omega
   ·simp only[Nl,CV];rw[<- CV,<- M];exact qZ
  cases dx with
  |NB=>
   simp only[KS,Co,AP]at K;obtain⟨rfl,rfl⟩:=K;have L:a.eval x=.slice none 0 0:=by
    generalize a.eval x=v at s;cases s;rfl
   exact m L O
  |own id nn=>
   simp only[KS]at K
   split at K
   ·rename_i bt sz es0 hl;cases K;have hl':=F id O;have l:A2 a7 id<|.row e i.size es:=by unfold A2;rw[lr id<|by simp];exact hl'
    let⟨g,N,xs,H,r2,r3,r4,_⟩:=U.SB id _ l;have L:a.eval x=g:=by
     generalize a.eval x=v at s;cases s with
     |own _ _ ad r hm=>rw[hm]at N;cases N;rfl
    rcases H.2 with⟨eg,h⟩|⟨J,r,T,eg,_,n,hle,na,ov,xu⟩
    ·exact m (L.trans eg)<|Jb h
    ·by_cases R:es.length+p.length<=r
     ·have qa:es.length*i.size+C.length<=T.size:=by rw[n1,ov,<- Wq];exact IW _ R
      have hr:=run_append_room (P:=P) w t o.type e inf hu z1 J es.length r T n ⟨yb,yo,none⟩ p.length yc C (by rw[z2];exact n1) n2 n3 R (by rw[z2];exact qa);rw[z2]at hr;have M:(xs++C).length=(es.length+p.length)*i.size:=by rw[Bo,H.1,n1,Wq]
      refine W (row:=some J) (by rw[L,eg,ey];exact hr) (xs:=xs++C) ⟨M,.inr ⟨J,r,_,rfl,AK _,cv w J T _ e _ n,R,na,?_,?_⟩⟩ ⟨rfl,rfl,rfl,by simp,λk _ hk=>ay w J k _ λe=>hk<|by simp[e]⟩
       (λb h=>by cases h;exact⟨id,_,g,by simp,l,N,by rw[eg];rfl⟩) (λb h=>by simp[Value.ownBlock]at h;exact .inl<|by rw[h]) (tz r2) (λc hc=>(AT.1 hc).elim (r3 c)<|q c) λc hc=>(AT.1 hc).elim (r4 c)<|n5 c
      ·simp only[dG,Bo,HR,JI,QJ];omega
      ·rw[xu,<- M];exact qZ
     ·exact G ⟨J,0,none⟩ r xs (L.trans eg) H.1 (by rw[eg]at H;exact H.cells (g:=J) O) (by omega) r2 r3 r4
   ·cases K
  |gt r9=>
   simp only[KS,Co,AP]at K;obtain⟨rfl,rfl⟩:=K;have rx':∃ad E,a.eval x=.slice ad E E/\PB I (.slice ad E E) (.sl r9):=by
    generalize a.eval x=v at s;cases s with
    |gt ad E _ h=>exact⟨ad,E,rfl,h⟩
   obtain⟨ad,E,L,hr⟩:=rx';rcases UL U.Kp hr k4.1 hz.2 with⟨⟨adx,ex⟩,e0⟩|⟨xb,xo,xc,xs,ex,_,_,p1,p2,p3,p4,p5⟩
   ·cases adx with
    |none=>exact m (L.trans ex) e0
    |some adx=>
     have tj:0<p.length:=zf1.2 k4.2;subst e0;exact G adx 0 [] (L.trans ex) (by simp) (λj u h=>by simp at h) (by simp;omega) .nil (by simp) (by simp)
   ·cases ex;have tj:0<p.length:=zf1.2 k4.2;exact G ⟨xb,xo,none⟩ _ xs L p1 p2 (by omega) p4 k4.1 p5
  |_=>simp[KS]at K
end
def Qb (B:Prop) (env:Env) (x:Operand):Option<|D×L1 Prop:=match Fi env x with
 |some (.guard c w d)=>some (d,[B->c=w])
 |some d=>some (d,[])
 |none=>none
structure zq3 where
 dx:D
 es:List (List V)
 vh:List (List V)
 sz:Nat
 bytes:Nat
 e:TypeId
 rd:List Nat
 iz:Nat
 Kr:List Nat
 dst:Option Nat
 todo:List DI
def zmr (st:St) (e:TypeId) (sz:Nat):L1 Nat->Bool
 |[]=>true
 |[id]=>match lk st id with
  |some (some (.row p h _))=>Nat.beq e p&&Nat.beq sz h
  |_=>false
 |_=>false
def zqa (tt:TT) (n:Nat) (env:Env) (st:St) (aa:L1 Nat) (todo:L1 DI):Option zq3 :=
 match U3 todo,aa with
 |some o,h::Kr=>match o.guard,o.op with
  |none,.call { callee:=.builtin .append,args:=⟨[x,y]⟩,argTypes:=⟨[t,r]⟩ }=>match Nat.beq t r,lk tt t,Fi env x,Fi env y with
   |true,some { sh:=.sl e,.. },some q,some u=>match lk tt e,KS st q,Qi u with
    |some i,some (rd,es),some p=>match Nat.beq i.zero.length i.size&&Nat.blt 0 i.size,zmr st e i.size rd,Cs n o.dst,B4 todo (rd,h::rd)with
     |true,true,true,some (_,_,av)=>some ⟨q,es,p,i.size,i.bytes,e,rd,h,Kr,o.dst,av⟩
     |_,_,_,_=>none
    |_,_,_=>none
   |_,_,_,_=>none
  |_,_=>none
 |_,_=>none
section
variable {n:Nat} {env:Env} {k:S6}
def ER {x:Operand} (h:Qb B env x=some (d,ob)) (p:A8 ob) (u:B) (r:∀d,Fi env x=some d->X I μ v d):X I μ v d:=by unfold Qb at h;split at h;cases h;rename_i q;exact(r _ q).gy<|p.1 u;cases h;rename_i q;exact r _ q;cases h
def NK:∀l:K1,(CO l).map (·.1)=l
 |[]=>rfl
 |x::r=>by simp[CO,NK r]
def E0 {f:K1×K1} {q:Oper} {all:L1 Oper} (h:U3 todo=some o) (p:B4 todo f=some (all,q,av)):q=o:=by unfold U3 at h;split at h;simp[B4]at p;cases h;exact p.2.1.symm;simp[B4]at p;cases h;exact p.2.1.symm;cases h
def B1 (A:dv P tt) {c:zq3} (h:zqa tt n env st aa todo=some c) (B:zio c.sz c.bytes c.dx c.es c.vh) (S:G P n F Q c.todo (Cn c.dst (.own c.iz (c.es++c.vh).length) env) ((c.iz,some<|.row c.e c.sz<|c.es++c.vh)::CO c.rd++st) c.Kr):G P n F Q todo env st aa:=by unfold zqa at h;split at h;rename_i o r Kr T;split at h;rename_i x y t w U u;split at h;rename_i e _ _ _ _ V H z W a b;have:=Dm z;subst this;split at h;rename_i i rd es C d p f;split at h;rename_i g j av k q l N;cases h;have D:j=o:=E0 T N;subst D;refine Cc (fr:=[r]) (wr:=(r,some<|.row e i.size<|es++C)::CO rd) (rd:=rd) (by rw[CK,NK];exact N) ?_ l (λc R=>by rw[u]at R;cases R) S;refine zax A U u W O d k a p (λid E=>?_) b f B;subst E;simp only[zmr]at q;split at q;rename_i I m K L;simp only[Am]at q;rw[Dm q.1,Dm q.2,L];have:K=es:=by{cases V<;>simp only[KS,reduceCtorEq,Co,AP]at p;cases p.1;split at p;rename_i M;simp only[Co,AP,Cr,be]at p;obtain⟨s,v⟩:=p;subst s;rw[M]at L;cases L;exact v;cases p;cases p.1};rw[this];cases q;cases h;cases h;cases h;cases h;cases h
def Eo {all:L1 Oper} {rd:K1} (K:CQ all env o=some g) (key:∀I μ a7 r a w,jf rd st a7->No I μ a7 r w->Fg I μ env a o.op->A1 g->hG P ((execOp a.eval o).run P w) (λu w'=>∃A y,No A y a7 r w'/\X A y u d/\μ.le y/\fi I μ a7 w A y a7 w') (OF Pn I μ a7 w)):LD P Pn all o env st rd [] []<|gD g d:=by intro I μ a7 r a w D E B;have q:=H8 K B;refine⟨λz=>?_,λz=>⟨rfl,rfl,?_⟩⟩;have C:=q.1 z;refine(key I μ a7 r a w D E (B3 B) C).mono (λv w' ⟨A,y,L,G,M,N⟩=>⟨A,y,L,?_,M,N⟩) λ_ _ h=>h;cases g with|none=>exact G|some p=>{exact .guard _ _ _ _ (λ_=>G) λR=>absurd C R};cases g with|none=>rw[q.2 ab]at z;cases z|some p=>{exact .guard _ _ _ _ (λS=>by rw[q.2 S]at z;cases z) λ_=>rfl}
structure PIdx where
 es:List (List V)
 i:Int
 sz:Nat
 e:TypeId
 g:Option (Bool×Bool)
 ob:List Prop
 dst:Option Nat
 todo:List DI
def FY (tt:TT) (n:Nat) (env:Env) (todo:L1 DI):Option PIdx :=
 match B4 todo ([],[])with
 |some (h,o,av)=>match o.op,CQ h env o with
  |.indexAddr t x i,some g=>match lk tt t,Qb (A1 g) env x,Qb (A1 g) env i with
   |some { sh:=.sl e,.. },some (.Kp (.sl es),p),some (.Kp (.int _ i),q)=>match lk tt e,Cs n o.dst with
    |some ti,true=>match o.dst with
     |some t=>some ⟨es,i,ti.size,e,g,LC p q,some t,av⟩
     |none=>none
    |_,_=>none
   |_,_,_=>none
  |_,_=>none
 |none=>none
def Sq {i:kh} (h:P.underlying t=some (.slice e)) (p:jp P e i) {b len cap:Nat} {kk:IntKind} (q:0<=m) (r:m<len):(Instr.indexAt t (.slice (some ⟨b,off,none⟩) len cap)<|.int kk m).run P w=.ok (.pointer<|some ⟨b,off+m.toNat*i.size,none⟩) w:=by simp only[Instr.indexAt,ak,asIntOf,al,ah,aj h];simp[q,r,p.sizeOf w,JV]
def H9 (y:dv P tt) {t:Nat} (h:FY tt n env todo=some ⟨es,m,sz,e,g,ob,some t,av⟩) (D:A1 g->0<=m/\es[m.toNat]?=some c/\c.length=sz) (K:A8 ob) (L:G P n F Q av ((t,gD g<|.ip e c 0)::env) st aa):G P n F Q todo env st aa:=by unfold FY at h;split at h;rename_i f o av k;split at h;rename_i t x i g q l;split at h;rename_i e _ _ _ _ es o1 kk m o2 s H J;split at h;rename_i ti M hd;split at h;rename_i t' z;cases h;have L:G P n F Q av (Cn o.dst (gD g<|.ip e c 0) env) st aa:=by{rw[z];exact L};refine Cc (fr:=[]) (wr:=[]) (rd:=[]) k (Eo l λI μ a7 V a w _ N p r=>?_) hd (λc D=>by rw[q]at D;cases D) L;rw[q]at p;let⟨R,S⟩:=BS K;have W:=(ER H R r<|p x<|by simp[Op.operands]).Ks;have ri:=(ER J S r<|p i<|by simp[Op.operands]).Ks.da;let⟨c0,E,c2⟩:=D r;have hu:P.underlying t=some (.slice e):=y.sh s;have A:=(A9.1 E).1;simp only[execOp,q,ri];generalize hv:a.eval x=v at W;cases W with|slnil=>simp at A|mq=>simp at A|sl b off len cap sz _ vs hl d hm T u B=>{have hs:sz=ti.size:=by{rw[<- T c (AE E),c2]};subst hs;have hr:=Sq (w:=w) hu (y e ti M) (b:=b) (off:=off) (len:=len) (cap:=cap) (kk:=kk) c0 (by omega);have C:(do pure (.value (<- Instr.indexAt t (.slice (some ⟨b,off,none⟩) len cap) (.int kk m))):Sem Next).run P w=.ok (.value<|.pointer<|some ⟨b,off+m.toNat*ti.size,none⟩) w:=AG hr;rw[C];refine⟨I,μ,N,?_,Mu.le_refl μ,fi.refl _ _ _ _⟩;have:=X.ip (I:=I) (μ:=μ) b (off+m.toNat*ti.size) e c 0 (vs m.toNat) (λj x U=>u m.toNat c j x E U) λj x U=>B m.toNat c j x E U;simpa using this};cases h;cases h;cases h;cases h;cases h
end
def UH:L1 Value->Option (L1 D)
 |[]=>some []
 |v::r=>match wJ v,v.oneCell',UH r with
  |some d,true,some ds=>some (d::ds)
  |_,_,_=>none
def zp2 (P:Program):TypeDesc->Option Sh
 |.bool=>some .bool
 |.int k=>some (.int k)
 |.string=>some .str
 |.pointer e=>some (.ptr e)
 |.slice e=>some (.sl e)
 |.map k e=>some (.map k e)
 |.array n e=>some (.wz n e)
 |.func _ _ _=>some .func
 |.interface _=>some .iface
 |.struct h=>match h.toList.all λf=>Nat.blt 0 (P.cellsOf f.type)with
  |true=>some (.struct<|h.toList.map λf=>(f.offset,f.type))
  |false=>none
 |_=>none
def zqy:TypeDesc->Bool
 |.struct _=>true
 |.array _ _=>true
 |_=>false
def znq (P:Program) (t:TypeId):Option kh:=match P.info? t,P.underlying t with
 |some h,some u=>match h.zero,zp2 P u with
  |some z,some sh=>match UH z.cells.toList with
   |some ds=>some { sh,agg:=zqy u,size:=h.size,bytes:=h.bytes,zero:=ds }
   |none=>none
  |_,_=>none
 |_,_=>none
def yW (P:Program):L1 TypeId->TT
 |[]=>[]
 |t::r=>match znq P t with
  |some i=>(t,i)::yW P r
  |none=>yW P r
def UZ:∀{vs:R0} {ds:R1},UH vs=some ds->(∀I μ,TB I μ vs ds)/\∀v∈vs,v.oneCell'=true
 |[],ds,h=>by cases h;exact⟨λ_ _=>.nil,λ_ h=>by simp at h⟩
 |v::r,ds,h=>by simp only[UH]at h;split at h;rename_i d p q y z;cases h;let⟨A,B⟩:=UZ z;exact⟨λI μ=>.mk (Zs q I μ)<|A I μ,λu C=>(Cu.1 C).elim (λe=>e▸y)<|B u⟩;cases h
def zjm {i:kh} (h:znq P t=some i):jp P t i:=by
 unfold znq at h
 split at h
 ·rename_i y u A q
  split at h
  ·rename_i z K B p
   split at h
   ·rename_i ds C;cases h;obtain⟨D,E⟩:=UZ C;refine⟨⟨y,z,A,rfl,rfl,B,D,E⟩,?_,?_⟩
    ·funext w;simp only[isAgg,ak,aj q,ah];cases u<;>rfl
    ·unfold zp2 at p
     split at p<;>first|(cases p;exact q)|(cases p;exact⟨_,_,_,q⟩)|(cases p;exact⟨_,q⟩)|skip
     ·split at p
      ·rename_i r;cases p;refine⟨_,q,rfl,λf G=>?_⟩;have:=Du.1 r f G;simpa[Kz]using this
      ·cases p
     ·cases p
   ·cases h
  ·cases h
 ·cases h
def bI {P:Program}:∀{l:L1 TypeId},dv P (yW P l)
 |[],t,i,h=>by simp[yW,lk]at h
 |x::r,t,i,h=>by simp only[yW]at h;split at h;rename_i j q;by_cases p:x=t;subst p;rw[A6]at h;cases h;exact zjm q;rw[AC _ _ p]at h;exact bI t i h;exact bI t i h
def dv.of_eq {l:L1 TypeId} (h:tt=yW P l):dv P tt:=h▸bI
attribute [simp] A8 LC
def Gi {x:Int} (h : -9223372036854775808<=x) (p:x<=9223372036854775807):IntKind.i64.wrap x=x:=by simp only[IntKind.wrap,IntKind.bits,IntKind.signed];simp;omega
def B2 {k:IntKind} {a b:Int} (h:a=b):Qe (.Kp<|.int k a)<|.Kp<|.int k b:=by rw[h];rfl
def Bc {x:Int} (h : -9223372036854775808<=x:=by omega) (p:x<=9223372036854775807:=by omega):Qe (.Kp<|.int .i64<|IntKind.i64.wrap x)<|.Kp<|.int .i64 x:=B2<|Gi h p
def tV {a b:V} (h:a=b):Qe (.Kp a)<|.Kp b:=by rw[h];rfl
def Ab {n:Nat} {k:S6} {env:Env} {h:L1 ResultVar} {v u:V} (p:U1 tt env st h=some ds) (q:toV (Kl ds)=some u) (r:u=v):ek P n F (IZ tt h<|.ret (.Kp v) []) (.code .ret::k) env st aa:=Ah ⟨ds,p,(show toV (Kl ds)=some v by rw[q,r]),ab⟩
section
variable {n:Nat} {env:Env} {k:S6}
def JS (q:dv P tt) (u:P.follows .mixedOrders=true) (f:Nat) (p:S0) (h:run tt n f p todo env st aa []=.at k a6 au Kr ob) (r:A8 ob) (y:G P n F Q k a6 au Kr):ek P n F Q todo env st aa:=(Jf q u f p h r y).go
end
mutual
def Xd (id:Nat) (es:L1<|L1 V):D->D
 |.own i n=>bif Nat.beq i id then .Kp (.sl es)else .own i n
 |.agg cs=>Kv (UA id es cs)
 |.cg cs=>.cg (UA id es cs)
 |.fn f a b=>.fn f (UA id es a) (UA id es b)
 |.iface t d=>match Xd id es d with
  |.Kp x=>.Kp (.iface t x)
  |z=>.iface t z
 |.guard c w d=>.guard c w (Xd id es d)
 |d=>d
def UA (id:Nat) (es:L1<|L1 V):L1 D->L1 D
 |[]=>[]
 |d::r=>Xd id es d::UA id es r
end
def vi (id:Nat) (es:L1<|L1 V):Env->Env
 |[]=>[]
 |(t,d)::r=>(t,Xd id es d)::vi id es r
def zlj (id:Nat) (es:L1<|L1 V):fp->fp
 |.cells t sz cs=>TG t sz (UA id es cs)
 |b=>b
def Yq (id:Nat) (es:L1<|L1 V):St->St
 |[]=>[]
 |(i,some b)::r=>(i,some<|zlj id es b)::Yq id es r
 |(i,none)::r=>(i,none)::Yq id es r
def HA (id:Nat) (es:L1<|G2):∀l:R1,UA id es l=l.map (Xd id es)
 |[]=>rfl
 |d::r=>by simp[UA,HA id es r]
section
variable {n:Nat} {env:Env} {id:Nat} {g:Value}
def X.xv (h:X I μ v d) (C:I.le J) (V:μ id=some g) (R:PB J g<|.sl es):X J μ v<|Xd id es d:=by have z:∀{l:R1} {i:Nat} {x:D},(UA id es l)[i]?=some x->∃y,l[i]?=some y/\x=Xd id es y:=by{intro l i x q;rw[HA,Cx]at q;cases B:l[i]? with|none=>rw[B]at q;cases q|some y=>{rw[B]at q;cases q;exact⟨y,rfl,rfl⟩}};induction h with|undef v=>exact .undef v|Kp v x q=>exact .Kp v x (q.mono C)|NB=>exact .NB|ref b id off p=>exact .ref b id off p|ip b o t cs off vs E L=>exact(X.ip b o t cs off vs E L).mono C (Mu.le_refl μ)|agg cs ds B G _ A=>have:X J μ (.agg cs.toList.toArray)<|Kv<|UA id es ds:=J2 ⟨by rw[HA,CD,<- B];simp,λi c x M q=>by{obtain⟨y,K,rfl⟩:=z q;exact A i c y (by simpa using M) K}⟩ G;simpa[Xd]using this|cg cs ds B _ A=>refine .cg cs _ (by rw[HA,CD,B]) λi c x M q=>?_;obtain⟨y,K,rfl⟩:=z q;exact A i c y M K|own i r a u p=>{simp only[Xd];cases W:Nat.beq i id with|false=>exact .own i r a u p|true=>{rw[Dm W,V]at p;cases p;exact .Kp _ _ R}}|ky b id r u k sz f p=>exact .ky b id r u k sz f p|cf id b p=>exact .cf id b p|iter id b p=>exact .iter id b p|fn f first u s w e M _ _ S T=>refine .fn f first u _ _ (by rw[HA,CD,e]) (by rw[HA,CD,M]) (λi c x G U=>?_) λi c x G U=>?_;obtain⟨y,K,rfl⟩:=z U;exact S i c y G K;obtain⟨y,K,rfl⟩:=z U;exact T i c y G K|iface t v d _ A=>simp only[Xd];split;rename_i x q;rw[q]at A;exact .Kp _ _<|.iface t v x A.Ks;exact .iface t v _ A|guard c N v d _ j A=>exact .guard c N v _ A j|gt a r es R=>exact .gt a r es (R.mono C)|ml b id off r u p B q=>exact .ml b id off r u p B q|jv b id p=>exact .jv b id p|eR v h=>exact .eR v h|hv v id i vs m p n G=>{exact .hv v id i vs m p n G}
def eb.xv {u:Value} {SB:fp} (h:eb I μ w u SB) (p:I.le J) (A:μ id=some g) (B:PB J g<|.sl es):eb J μ w u<|zlj id es SB:=by cases SB with|cells t sz cs=>{obtain⟨C,b,vs,rfl,D,z,E⟩:=h;refine J1 D ⟨by rw[HA,CD,z.1],λi v x G q=>?_⟩ E (by rw[HA,CD,C]);rw[HA,Cx]at q;cases r:cs[i]? with|none=>rw[r]at q;cases q|some y=>{rw[r]at q;cases q;exact(z.2 i v y G r).xv p A B}}|_=>{exact h.mono p<|Mu.le_refl μ}
def S9 {i:Nat} {b:fp}:∀{st:St},A2 (Yq id es st) i b->∃p,A2 st i p/\b=zlj id es p
 |[],h=>by simp[Yq,A2,lk]at h
 |(k,some x)::r,h=>by simp only[Yq]at h;rcases A7.1 h with⟨q,u⟩|⟨q,u⟩;exact⟨x,by unfold A2;rw[q,A6],u⟩;let⟨p,y,z⟩:=S9 u;exact⟨p,A7.2<|.inr ⟨q,y⟩,z⟩
 |(k,none)::r,h=>by simp only[Yq]at h;let⟨q,u⟩:=BX.1 h;let⟨p,y,z⟩:=S9 u;exact⟨p,BX.2 ⟨q,y⟩,z⟩
def BR (id:Nat) (hl:lk st id=some (some<|.row e sz es)) (h:ek P n F Q todo (vi id es env) ((id,none)::Yq id es st) aa):ek P n F Q todo env st aa:=by
 intro b cs I μ a w T hd A;have u:A2 st id<|.row e sz es:=hl;let⟨g,hg,xs,nx,L,kq,u6,hp⟩:=A.SB id _ u;obtain⟨J,hJ,hJr,U⟩:∃J:TA,I.le J/\PB J g (.sl es)/\(∀k o,J k=some o->(I k=some o\/(EY g k/\w.heap[k]?=some o))):=by
  rcases nx.2 with⟨rfl,h0⟩|⟨gb,cap,W,rfl,_,f,hle,na,ov,l⟩
  ·have:es=[]:=Jb h0;subst this;exact⟨I,TA.le_refl I,.slnil,λk o h=>.inl h⟩
  ·have l7:=(A.apart id _ _ gb u hg O).1;have M:I.le λk=>if k=gb then some (.cells W e (0,0))else I k:=λk o h=>by
    have:k≠gb:=λe=>by rw[e,l7]at h;cases h
    simp[this,h]
   refine⟨_,M,?_,λk o h=>?_⟩
   ·have C:∀(i:Nat) (c:G2) (j:Nat) (x:V),es[i]?=some c->c[j]?=some x->∃v,xs[i*sz+j]?=some v/\W[i*sz+j]?=some v/\PB I v x/\v.oneCell'=true:=by
     intro i c j x N R;have B:=Dc kq i c j x N R;have m:i*sz+j<xs.length:=by rw[L.1];exact(A9.1 B).1
     obtain⟨v,hv⟩:∃v,xs[i*sz+j]?=some v:=⟨_,Bi m⟩
     have hr:=L.2 _ _ _ hv B;refine⟨v,hv,?_,hr,?_⟩
     ·rw[<- l,Ea]at hv
      split at hv
      ·simpa using hv
      ·cases hv
     ·have:=u6 c (AE N) x<|AE R;exact hr.one this
    refine .sl gb 0 _ cap sz es (λi j=>(W[i*sz+j]?).getD undef) O hle na kq (λi c j x N R=>?_) λi c j x N R=>?_
    ·let⟨v,_,y,_,h4⟩:=C i c j x N R;simp[TA.cell,y,h4]
    ·let⟨v,_,y,h3,_⟩:=C i c j x N R;simp only[y,ID];exact h3.mono M
   ·by_cases hk:k=gb
    ·subst hk;simp at h;subst h;exact .inr ⟨rfl,f⟩
    ·simp[hk]at h;exact .inl h
 have D:∀i E,A2 ((id,none)::Yq id es st) i E->i≠id/\∃K,A2 st i K/\E=zlj id es K:=λi E h=>by
  let⟨B,y⟩:=BX.1 h;exact⟨B,S9 y⟩
 have hE:fi I μ st w J μ ((id,none)::Yq id es st) w :=
  {Kp:=hJ,os:=rfl,tape:=rfl,output:=rfl,size:=B6 _
   block:=λ_ _ _=>rfl
   fresh:=λk _ ⟨i,E,S,B,y,h3⟩=>let⟨_,K,q,_⟩:=D i E B;⟨i,K,S,q,y,h3⟩
   gz:=λk _ ho=>by
      cases G:J k with
      |none=>
       cases hIk:I k with
       |none=>rfl
       |some o=>rw[hJ k o hIk]at G;cases G
      |some o=>
       rcases U k o G with h|⟨h,_⟩
       ·exact h.symm
       ·exact absurd ⟨id,_,g,u,hg,h⟩ ho }
 have xw:ij n J μ (vi id es env) ((id,none)::Yq id es st) aa a w :=
  {Kp:=λk o h=>(U k o h).elim (λh=>A.Kp k o h) λh=>h.2
   SB:=λi E H=>by
    obtain⟨_,K,y,rfl⟩:=D i E H;let⟨S,z,hr⟩:=A.SB i K y;exact⟨S,z,hr.xv hJ hg hJr⟩
   apart:=λi E S k H z hk=>by
    obtain⟨B,K,y,rfl⟩:=D i E H;let⟨q1,q2⟩:=A.apart i K S k y z hk;refine⟨?_,q2⟩;cases G:J k with
    |none=>rfl
    |some o=>
     rcases U k o G with h|⟨h,_⟩
     ·rw[q1]at h;cases h
     ·exact absurd (A.inj i id K _ S g k y u z hg hk h) B
   inj:=λi j E bj S gj k N R z ls qf mw=>by
    obtain⟨_,b1,B,rfl⟩:=D i E N;obtain⟨_,b2,y,rfl⟩:=D j bj R;exact A.inj i j b1 b2 S gj k B y z ls qf mw
   nodup:=A.nodup
   PA:=A.PA
   size:=A.size
   env:=λt d m=>by
    have:∀{env:Env},lk (vi id es env) t=some d->∃d0,lk env t=some d0/\d=Xd id es d0:=by
     intro env
     induction env with
     |nil=>intro h;simp[vi,lk]at h
     |cons p r ih=>
      obtain⟨s,x⟩:=p;intro h;simp only[vi]at h;by_cases hs:s=t
      ·subst hs;rw[A6]at h;cases h;exact⟨x,A6 _ _ _,rfl⟩
      ·rw[AC _ _ hs]at h;rw[AC _ _ hs];exact ih h
    obtain⟨d0,B,rfl⟩:=this m;exact(A.env t d0 B).xv hJ hg hJr
   defers:=A.defers.ext hE }
 exact(h b cs J μ a w T hd xw).mono λe' a' w' hp=>hp.back (.refl _ _)<|hE
end
structure Ut where
 f:FuncId
 hU:List D
 ob:List Prop
 dst:Option Nat
 o:Oper
 all:List Oper
def Ud (n:Nat) (env:Env) (todo:L1 DI):Option Ut :=
 match B4 todo ([],[])with
 |some (h,o,_)=>match o.guard,o.op with
  |none,.call { callee:=.value (.func f),args:=⟨args⟩,.. }=>match KQ True env args,Cs n o.dst with
   |some (ds,ob),true=>some ⟨f,ds,ob,o.dst,o,h⟩
   |_,_=>none
  |none,.call { callee:=.value (.tmp t),args:=⟨args⟩,.. }=>match lk env t,KQ True env args,Cs n o.dst with
   |some (.Kp (.fn (.func f))),some (ds,ob),true=>some ⟨f,ds,ob,o.dst,o,h⟩
   |some (.fn (.func f) p q),some (ds,ob),true=>some ⟨f,p++ds++q,ob,o.dst,o,h⟩
   |_,_,_=>none
  |_,_=>none
 |none=>none
def xy:L1 (Nat×Nat)->L1 Nat
 |[]=>[]
 |(_,b)::r=>b::xy r
def Gd:L1 (Nat×Nat)->L1 Nat
 |[]=>[]
 |(a,_)::r=>a::Gd r
def LZ (σ τ1:L1<|Nat×Nat) (hU:L1 D) (bk:St) (d:D) (a7:St) (fr:L1 Nat):Bool :=
 Er σ (AZ σ) (FO hU)&&Er σ (AZ σ) (Gd σ)&&Pj (xy σ) (CB bk)&&Er (AZ σ++τ1) (σ++AZ τ1) (GH d)&&Er (AZ σ++τ1) (σ++AZ τ1) (DB a7)&&Pj (xy τ1) fr
def bR:∀l:T2,xy l=l.map (·.2)
 |[]=>rfl
 |(a,b)::r=>by simp[xy,bR r]
def Ot:∀l:T2,Gd l=l.map (·.1)
 |[]=>rfl
 |(a,b)::r=>by simp[Gd,Ot r]
section
variable {n:Nat} {env:Env} {k:S6}
def RY (h:LZ σ τ1 hU bk d a7 fr=true):yJ σ τ1 hU bk d a7 fr:=by simp only[LZ,Am]at h;obtain⟨⟨⟨⟨⟨r,u⟩,y⟩,z⟩,A⟩,B⟩:=h;exact⟨r,by rw[<- Ot];exact u,λp q=>He y _ (by rw[bR];exact Wz q),z,A,λp q=>He B _ (by rw[bR];exact Wz q)⟩
def HI (p:jf (Gd σ) st a7):∀{bk:St},FK σ st bk->FK σ a7 bk
 |[],_=>trivial
 |(i,none)::_,h=>h.elim
 |(i,some b)::r,h=>by refine⟨?_,HI p h.2⟩;have q:=h.1;cases u:lk (AZ σ) i with|none=>simp[u]at q|some a=>{simp only[u]at q ⊢;refine⟨q.1,?_⟩;have y:a∈Gd σ:=by{rw[Ot];exact CC.2 ⟨(a,i),Nr u,rfl⟩};rw[p a y];exact q.2}
def zkw {all:L1 Oper} (E:o.guard=none) (G:Gz P o env f hU True) (K:GL P f (EX (DW σ) hU) bk<|.ret d a7) (L:FK σ st bk) (M:LZ σ τ1 hU bk d a7 fr=true):LD P Pn all o env st (Gd σ) fr (Fl (AZ σ++τ1) a7++CO (Gd σ))<|LO (DW<|AZ σ++τ1) d:=by intro I μ N z a w r p y;refine⟨λ_=>?_,λA=>by rw[AO E]at A;cases A⟩;let⟨xs,R,S⟩:=G I μ a w (B3 y) ab;have q:=HI r L;have B:=RY M;let⟨T,U,V⟩:=Iq p q B.args R;rw[S];refine(K I _ w xs T U).mono (λu w' W=>?_) λ_ _ h=>h.elim;obtain⟨b,c,e,g,i,j⟩:=W;let⟨ν,C,k,l,D⟩:=O7 p q B e g i j V;rw[<- Ot]at C D;exact⟨b,ν,C,k,l,D⟩
def Rj {c:Ut} (h:Ud n env todo=some c) (y:A8 c.ob):(∀f,∃av,B4 todo f=some (c.all,c.o,av))/\c.o.guard=none/\Gz P c.o env c.f c.hU True/\Cs n c.dst=true/\(∀x,c.o.op≠.defer x)/\c.dst=c.o.dst:=by unfold Ud at h;have p:∀{q:L1 Oper} {o:Oper} {t:S6},B4 todo ([],[])=some (q,o,t)->∀f,∃av,B4 todo f=some (q,o,av):=by{intro q o t h f;rcases Lh h with⟨r,k,rfl,_⟩|⟨r,K,k,rfl,_⟩;exact⟨_,rfl⟩;exact⟨_,rfl⟩};split at h;rename_i q o t E;split at h;rename_i f A ts D z;split at h;rename_i ds ob B C;cases h;exact⟨p E,D,HH z B y,C,(λx u=>by rw[z]at u;cases u),rfl⟩;cases h;rename_i L A ts D z;split at h;rename_i f ds ob G B C;cases h;exact⟨p E,D,GR z G B y,C,(λx u=>by rw[z]at u;cases u),rfl⟩;rename_i f M N ds ob G B C;cases h;exact⟨p E,D,KR z G B y,C,(λx u=>by rw[z]at u;cases u),rfl⟩;cases h;cases h;cases h
def FJ {c:Ut} (σ τ1:T2) {nm:K1} (h:Ud n env todo=some c) (q:A8 c.ob) (z:GL P c.f (EX (DW σ) c.hU) bk<|.ret d a7) (A:FK σ st bk) (B:LZ σ τ1 c.hU bk d a7 fr=true) (r:(Fl (AZ σ++τ1) a7++CO (Gd σ)).map (·.1)=nm) (C:B4 todo (Gd σ,nm)=some (c.all,c.o,av)) (p:aa=fr++Kr) (u:G P n F Q av (Cn c.dst (LO (DW<|AZ σ++τ1) d) env) (Fl (AZ σ++τ1) a7++CO (Gd σ)++st) Kr):G P n F Q todo env st aa:=by let⟨_,D,E,y,K,L⟩:=Rj (P:=P) h q;subst p;rw[L]at y u;subst r;exact Cc C (zkw D E z A B) y K u
def Af {n:Nat} {env:Env} {p:S6} {c:Ut} (h:Ud n env todo=some c) (r:GL P c.f (EX (DW [(1,1)]) c.hU) bk<|.ret d a7) (u:FK [(1,1)] st bk) (y:B4 todo (Gd [(1,1)],(Fl (AZ [(1,1)]++[]) a7++CO (Gd [(1,1)])).map (·.1))=some (c.all,c.o,p)) (z:G P n F Q p (Cn c.dst (LO (DW<|AZ [(1,1)]++[]) d) env) (Fl (AZ [(1,1)]++[]) a7++CO (Gd [(1,1)])++st) aa) (A:LZ [(1,1)] [] c.hU bk d a7 []=true:=by rfl) (q:A8 c.ob:=by simp):G P n F Q todo env st aa:=FJ (fr:=[]) [(1,1)] [] h q r u A O y O z
def Ao {n:Nat} {env:Env} {q:K1} {p:S6} (fr:K1) {c:Ut} (σ τ1:T2) (h:Ud n env todo=some c) (y:GL P c.f (EX (DW σ) c.hU) bk<|.ret d a7) (z:FK σ st bk) (A:B4 todo (Gd σ,(Fl (AZ σ++τ1) a7++CO (Gd σ)).map (·.1))=some (c.all,c.o,p)) (r:aa=fr++q) (B:G P n F Q p (Cn c.dst (LO (DW<|AZ σ++τ1) d) env) (Fl (AZ σ++τ1) a7++CO (Gd σ)++st) q) (C:LZ σ τ1 c.hU bk d a7 fr=true:=by rfl) (u:A8 c.ob:=by simp):G P n F Q todo env st aa:=FJ (fr:=fr) σ τ1 h u y z C O A r B
def AM {c:Ut} {all rest:L1 Oper} (σ:T2) (h:Ud n env (.ops all (o::rest)::k)=some c) (B:A8 c.ob) (N:GL P c.f (EX (DW σ) c.hU) bk<|.ix x) (q:FK σ st bk) (R:Er σ (AZ σ) (FO c.hU)=true) (S:OE Q x):ek P n F Q (.ops all (o::rest)::k) env st aa:=by let⟨T,U,V,q4,W,_⟩:=Rj (P:=P) h B;let⟨t,K⟩:=T ([],[]);simp only[B4,Co,AP]at K;obtain⟨_,r,_⟩:=K;subst r;intro b cs I μ a w C e A;obtain⟨j,is,rfl,f,hk⟩:=KA e;let⟨l,_⟩:=Fm f;have D:M8 (c.o.looksAt all.toArray) I μ env a:=λt _ d m=>A.env t d m;have u:(c.o::rest).length=rest.length+1:=rfl;rw[u,OT];refine GF l (AO U) W ?_;let⟨xs,E,s⟩:=V I μ a w (B3 D) ab;let⟨H,J,L⟩:=Iq A.toNo q R E;rw[s];refine hG.upon<|(N I _ w xs H J).mono (λ_ _ h=>h.elim) λG w' hp=>?_;obtain⟨v,y,M,r1,r2,r3,r4,p⟩:=hp;subst r2;have z:fi I μ st w M μ [] w':={ Kp:=p.Kp,os:=p.os,tape:=p.tape,output:=p.output,size:=p.size,block:=λb q r=>p.block b q λh=>r<|L b h,fresh:=λb q ⟨i,bi,g,E,_⟩=>by simp[A2,lk]at E,gz:=λb q r=>p.gz b q (λh=>r<|L b h) };exact⟨.panic y,[],[],[],M,μ,⟨v,r1,r3⟩,S,NN r4 A.size<|A.defers.ext z,.refl _ _,z,.refl _ _⟩
end
def mixed:prog.follows .mixedOrders=true:=by kernel_rfl
def nV:TT:=[
 (4,⟨.bool,false,1,1,[.Kp<|.bool false]⟩),
 (3,⟨.int .i64,false,1,8,[.Kp<|.int .i64 0]⟩),
 (9,⟨.str,false,1,16,[.Kp<|.str []]⟩),
 (49,⟨.struct [(0,45),(1,3),(2,9),(3,46),(4,47)],true,5,80,[.Kp<|.int .i64 0,.Kp<|.int .i64 0,.Kp<|.str [],.NB,.NB]⟩),
 (25,⟨.struct [(0,22),(1,3),(2,9),(3,23)],true,4,56,[.Kp<|.int .i64 0,.Kp<|.int .i64 0,.Kp<|.str [],.NB]⟩),
 (182,⟨.struct [(0,180),(1,3),(2,9),(3,47)],true,4,56,[.Kp<|.int .i64 0,.Kp<|.int .i64 0,.Kp<|.str [],.NB]⟩),
 (45,⟨.int .i64,false,1,8,[.Kp<|.int .i64 0]⟩),
 (47,⟨.sl 182,false,1,24,[.NB]⟩),
 (5,⟨.int .u8,false,1,1,[.Kp<|.int .u8 0]⟩),
 (23,⟨.sl 25,false,1,24,[.NB]⟩),
 (22,⟨.int .i64,false,1,8,[.Kp<|.int .i64 0]⟩),
 (73,⟨.sl 9,false,1,24,[.NB]⟩),
 (46,⟨.sl 49,false,1,24,[.NB]⟩),
 (180,⟨.int .i64,false,1,8,[.Kp<|.int .i64 0]⟩),
 (71,⟨.struct [(0,9),(1,9),(2,25),(6,25),(10,49)],true,15,224,[.Kp<|.str [],.Kp<|.str [],.Kp<|.int .i64 0,.Kp<|.int .i64 0,.Kp<|.str [],.NB,.Kp<|.int .i64 0,.Kp<|.int .i64 0,.Kp<|.str [],.NB,.Kp<|.int .i64 0,.Kp<|.int .i64 0,.Kp<|.str [],.NB,.NB]⟩),
 (43,⟨.struct [(0,9),(1,40),(2,41)],true,3,64,[.Kp<|.str [],.NB,.NB]⟩),
 (178,⟨.struct [(0,9),(1,23)],true,2,40,[.Kp<|.str [],.NB]⟩),
 (40,⟨.sl 113,false,1,24,[.NB]⟩),
 (41,⟨.sl 71,false,1,24,[.NB]⟩),
 (113,⟨.struct [(0,9),(1,111)],true,2,40,[.Kp<|.str [],.NB]⟩),
 (111,⟨.sl 178,false,1,24,[.NB]⟩),
 (28,⟨.int .i64,false,1,8,[.Kp<|.int .i64 0]⟩)]
def Br:dv prog nV:=.of_eq (l:=[4,3,9,49,25,182,45,47,5,23,22,73,46,180,71,43,178,40,41,113,111,28]) (by kernel_rfl)
def zp3:Code->Code
 |.seq _ b=>b
 |_=>.skip
def Ek (f:Func):Nat->Code
 |0=>match f.body with
  |some c=>c
  |none=>.skip
 |k+1=>zp3<|Ek f k
section
variable {n:Nat} {env:Env} {k:S6}
abbrev ia:=ek prog
abbrev cx:=G prog
def kd (p:S0) (h:run nV n 300 p todo env st aa []=.at k a6 au Kr ob) (q:A8 ob) (r:cx n F Q k a6 au Kr):ia n F Q todo env st aa:=JS Br mixed 300 p h q r
def Bk (h:run nV n 300 [] todo env st aa []=.at k a6 au Kr ob) (q:cx n F Q k a6 au Kr) (p:A8 ob:=by simp):ia n F Q todo env st aa:=kd [] h p q
def kg (p:S0) (h:run nV n 300 p todo env st aa []=.at k a6 au Kr ob) (q:A8 ob) (r:cx n F Q k a6 au Kr):cx n F Q todo env st aa:=Jf Br mixed 300 p h q r
def C2 (p:S0) (h:run nV n 300 p todo env st aa []=.at k a6 au Kr ob) (r:cx n F Q k a6 au Kr) (q:A8 ob:=by simp):cx n F Q todo env st aa:=kg p h q r
def AU (h:run nV n 300 [] todo env st aa []=.at k a6 au Kr ob) (q:cx n F Q k a6 au Kr) (p:A8 ob:=by simp):cx n F Q todo env st aa:=kg [] h p q
def ki {t:Nat} (h:FY nV n env todo=some ⟨es,m,sz,e,g,ob,some t,av⟩) (q:A1 g->0<=m/\es[m.toNat]?=some c/\c.length=sz) (p:A8 ob) (r:cx n F Q av ((t,gD g<|.ip e c 0)::env) st aa):cx n F Q todo env st aa:=H9 Br h q p r
def Ym {t:Nat} (h:FY nV n env todo=some ⟨es,(i:Int),sz,e,g,ob,some t,av⟩) (q:es[i]?=some c) (r:cx n F Q av ((t,gD g<|.ip e c 0)::env) st aa) (u:c.length=sz:=by simp) (p:A8 ob:=by simp):cx n F Q todo env st aa:=ki h (λ_=>⟨by omega,by simpa using q,u⟩) p r
def kizc {t:Nat} (h:FY nV n env todo=some ⟨es,(i:Int),sz,e,g,ob,some t,av⟩) (q:es[i]?=some c) (r:cx n F Q av ((t,gD g<|.ip e c 0)::env) st aa) (u:c.length=sz:=by simp) (p:A8 ob:=by simp[A1]):cx n F Q todo env st aa:=ki h (λ_=>⟨by omega,by simpa using q,u⟩) p r
end
abbrev Z:=L1 UInt8
inductive Y where
 |mk (s n:Int) (x:Z) (ps:List Y)
mutual
def As:Y->L1 V
 |.mk s n x h=>[.int .i64 s,.int .i64 n,.str x,.sl<|A3 h]
def A3:L1 Y->L1 (L1 V)
 |[]=>[]
 |t::r=>As t::A3 r
end
inductive Tm where
 |mk (op n:Int) (x:Z) (ks:List Tm) (ps:List Y)
mutual
def dTmc:Tm->L1 V
 |.mk h n x p q=>[.int .i64 h,.int .i64 n,.str x,.sl<|Ci p,.sl<|A3 q]
def Ci:L1 Tm->L1 (L1 V)
 |[]=>[]
 |t::r=>dTmc t::Ci r
end
structure Cd where
 name:Z
 args:List Y
structure Dt where
 name:Z
 cons:List Cd
structure Fd where
 name:Z
 il:Z
 from_:Y
 kj:Y
 body:Tm
structure Md where
 name:Z
 SA:List Dt
 cc:List Fd
def Gv (c:Cd):L1 V:=[.str c.name,.sl<|A3 c.args]
def DE (d:Dt):L1 V:=[.str d.name,.sl<|d.cons.map Gv]
def Ed (f:Fd):L1 V:=[.str f.name,.str f.il]++As f.from_++As f.kj++dTmc f.body
def dMdc (m:Md):L1 V:=[.str m.name,.sl<|m.SA.map DE,.sl<|m.cc.map Ed]
def BP (l:L1 Z):L1<|L1 V:=l.map λs=>[.str s]
abbrev E1:=L1 Y
def DC:∀l:E1,A3 l=l.map As
 |[]=>rfl
 |t::r=>by simp[A3,DC r]
abbrev E2:=L1 Z
abbrev G1:=L1 Tm
def GQ:∀l:G1,Ci l=l.map dTmc
 |[]=>rfl
 |t::r=>by simp[Ci,GQ r]
@[simp] theorem jj (l:E1):(A3 l).length=l.length:=by rw[DC];simp
@[simp] theorem ra (l:G1):(Ci l).length=l.length:=by rw[GQ];simp
@[simp] theorem k9 (t:Y):(As t).length=4:=by cases t;rfl
@[simp] theorem my (t:Tm):(dTmc t).length=5:=by cases t;rfl
@[simp] theorem rb (l:E2):(BP l).length=l.length:=by simp[BP]
def AS {l:E1} {t:Y} (h:l[i]?=some t):(A3 l)[i]?=some (As t):=by rw[DC];simp[h]
def Ec {l:G1} {t:Tm} (h:l[i]?=some t):(Ci l)[i]?=some (dTmc t):=by rw[GQ];simp[h]
def Gf {l:E2} {t:Z} (h:l[i]?=some t):(BP l)[i]?=some [.str t]:=by simp[BP,h]
def Ge (a b:E1):A3 (a++b)=A3 a++A3 b:=by simp[DC]
def KC (a b:G1):Ci (a++b)=Ci a++Ci b:=by simp[GQ]
def Hp (a b:E2):BP (a++b)=BP a++BP b:=by simp[BP]
def Av {l:L1 α} {t:α} (h:l[i]?=some t):l.drop i=t::l.drop (i+1):=by let⟨p,q⟩:=A9.1 h;rw[<- q];exact List.drop_eq_getElem_cons p
def Bm {l:L1 α} {t:α} (h:l[i]?=some t):l.take (i+1)=l.take i++[t]:=by rw[List.take_add_one,h];rfl
def Aq {l:L1 α} (h:i<l.length):∃t,l[i]?=some t:=⟨_,Bi h⟩
def Ay (n:Int):Y:=.mk 9 n [] []
def CS:Y->Int
 |.mk f _ _ _=>f
def num:Y->Int
 |.mk _ n _ _=>n
def HJ:Y->L1 Y
 |.mk _ _ _ h=>h
mutual
def AI (θ:Int->Y):Y->Y
 |.mk f n x h=>if f=9 then θ n else .mk f n x<|Dq θ h
def Dq (θ:Int->Y):L1 Y->L1 Y
 |[]=>[]
 |t::r=>AI θ t::Dq θ r
end
mutual
def Dv:Y->L1 Int
 |.mk f n _ h=>if f=9 then[n]else D4 h
def D4:L1 Y->L1 Int
 |[]=>[]
 |t::r=>Dv t++D4 r
end
mutual
def CY:Y->Bool
 |.mk f n x h=>((f != 9||(x==[]&&h.length==0))&&(f==9||(decide (0<=n)&&decide (n<=1000000))))&&(f != 0&&decide (h.length<=3))&&GT h
def GT:L1 Y->Bool
 |[]=>true
 |t::r=>CY t&&GT r
end
mutual
def Fz:Y->Nat
 |.mk _ _ _ h=>1+Ex h
def Ex:L1 Y->Nat
 |[]=>0
 |t::r=>Fz t+Ex r
end
def Mv (θ:Int->Y):∀l:E1,Dq θ l=l.map (AI θ)
 |[]=>rfl
 |t::r=>by simp[Dq,Mv θ r]
def QD {m:Int}:∀{l:E1},m∈D4 l↔∃t∈l,m∈Dv t
 |[]=>by simp[D4]
 |t::r=>by simp[D4,QD (l:=r)]
def fL:∀{l:E1},GT l=true↔∀t∈l,CY t=true
 |[]=>by simp[GT]
 |t::r=>by simp[GT,fL (l:=r)]
def NX (t:Y):1<=Fz t:=by cases t;simp only[Fz];omega
def Vw {t:Y}:∀{l:E1},t∈l->Fz t<=Ex l
 |x::r,h=>by simp only[Ex];rcases Cu.1 h with rfl|h;omega;have:=Vw h;omega
def Fp {t:Y} (h:CY t=true) (p:CS t=9):t=Ay (num t):=by obtain⟨f,n,x,r⟩:=t;simp only[CS]at p;subst p;simp[CY]at h;obtain⟨⟨⟨rfl,q⟩,_⟩,_⟩:=h;subst q;rfl
def am:=@decide_eq_true_eq
def MD {t:Y} (h:CY t=true):(HJ t).length<=3:=by obtain⟨f,n,x,p⟩:=t;simp only[CY,Am,am]at h;exact h.1.2.2
def GS {t:Y} (h:CY t=true):∀p∈HJ t,CY p=true:=by obtain⟨f,n,x,q⟩:=t;simp only[CY,Am]at h;exact fL.1 h.2
def Dn (θ:Int->Y) (n:Int):AI θ (Ay n)=θ n:=by simp[Ay,AI]
def IM {θ:Int->Y} {t:Y} (h:CS t=9):AI θ t=θ (num t):=by obtain⟨f,n,x,p⟩:=t;simp only[CS]at h;subst h;simp[AI,num]
def nE {θ:Int->Y} {t:Y} (h:CS t≠9):∃f n x,t=.mk f n x (HJ t)/\f≠9/\AI θ t=.mk f n x ((HJ t).map<|AI θ):=by obtain⟨f,n,x,p⟩:=t;exact⟨f,n,x,rfl,h,by simp only[AI,ac (show¬f=9 from h),Mv,HJ]⟩
mutual
def nF:∀t:Y,CY t=true->AI Ay t=t
 |.mk f n x p,h=>by by_cases e:f=9;subst e;have:=Fp h O;simp only[num]at this;rw[this];simp[AI,Ay];simp only[CY,Am]at h;simp only[AI,ac e,zim p h.2]
def zim:∀l:E1,GT l=true->Dq Ay l=l
 |[],_=>rfl
 |t::r,h=>by simp only[GT,Am]at h;simp only[Dq,nF t h.1,zim r h.2]
end
mutual
def Mt (η θ:Int->Y):∀t:Y,AI η (AI θ t)=AI (λn=>AI η<|θ n) t
 |.mk f n x h=>by by_cases e:f=9;simp only[AI,ae e];simp only[AI,ac e,nC η θ h]
def nC (η θ:Int->Y):∀l:E1,Dq η (Dq θ l)=Dq (λn=>AI η<|θ n) l
 |[]=>rfl
 |t::r=>by simp only[Dq,Mt η θ t,nC η θ r]
end
mutual
def Gg {η θ:Int->Y}:∀t:Y,(∀m∈Dv t,η m=θ m)->AI η t=AI θ t
 |.mk f n x p,h=>by by_cases e:f=9;simp only[AI,ae e];exact h n (by simp[Dv,e]);simp only[AI,ac e];rw[aX p λm q=>h m (by simp only[Dv,ac e];exact q)]
def aX {η θ:Int->Y}:∀l:E1,(∀m∈D4 l,η m=θ m)->Dq η l=Dq θ l
 |[],_=>rfl
 |t::r,h=>by simp only[Dq,Gg t λm p=>h m<|by simp[D4,p],aX r λm p=>h m<|by simp[D4,p]]
end
mutual
def zg4 {θ:Int->Y} {m:Int}:∀t:Y,m∈Dv (AI θ t)↔∃n∈Dv t,m∈Dv (θ n)
 |.mk f n x h=>by by_cases e:f=9;simp[AI,Dv,e];simp only[AI,Dv,ac e];exact xC h
def xC {θ:Int->Y} {m:Int}:∀l:E1,m∈D4 (Dq θ l)↔∃n∈D4 l,m∈Dv (θ n)
 |[]=>by simp[D4,Dq]
 |t::r=>by simp only[Dq,D4,AT,zg4 t,xC r];grind
end
mutual
def zn0 {θ:Int->Y} {n:Int}:∀t:Y,n∈Dv t->Fz (θ n)<=Fz (AI θ t)
 |.mk f m x p,h=>by by_cases e:f=9;simp only[Dv,ae e,AJ]at h;simp only[AI,ae e,h];omega;simp only[Dv,ac e]at h;have:=bK (θ:=θ) p h;simp only[AI,ac e,Fz];omega
def bK {θ:Int->Y} {n:Int}:∀l:E1,n∈D4 l->Fz (θ n)<=Ex (Dq θ l)
 |[],h=>by simp[D4]at h
 |t::r,h=>by simp only[D4,AT]at h;simp only[Dq,Ex];rcases h with h|h;have:=zn0 (θ:=θ) t h;omega;have:=bK (θ:=θ) r h;omega
end
def uS {θ:Int->Y} {t:Y} (p:CS t≠9) (h:n∈Dv t):Fz (θ n)<Fz (AI θ t):=by obtain⟨f,m,x,q⟩:=t;have e:¬f=9:=p;simp only[Dv,ac e]at h;have:=bK (θ:=θ) q h;simp only[AI,ac e,Fz];omega
def uR {θ:Int->Y} {t p:Y} (q:CS t≠9) (h:p∈HJ t):Fz (AI θ p)<Fz (AI θ t):=by obtain⟨f,m,x,r⟩:=t;have e:¬f=9:=q;have:=Vw<|Wz (f:=AI θ) h;simp only[AI,ac e,Fz,Mv,HJ]at *;omega
mutual
def Vh {θ:Int->Y} (p:∀n,CY (θ n)=true):∀t:Y,CY t=true->CY (AI θ t)=true
 |.mk f n x q,h=>by by_cases e:f=9;simp only[AI,ae e];exact p n;simp only[CY,Am]at h;simp only[AI,ac e,CY,Am];exact⟨⟨⟨by simp[e],h.1.1.2⟩,h.1.2.1,by rw[Mv,CD];exact h.1.2.2⟩,zc7 p q h.2⟩
def zc7 {θ:Int->Y} (p:∀n,CY (θ n)=true):∀l:E1,GT l=true->GT (Dq θ l)=true
 |[],_=>rfl
 |t::r,h=>by simp only[GT,Am]at h;simp only[Dq,GT,Am];exact⟨Vh p t h.1,zc7 p r h.2⟩
end
abbrev Sb:=Int->Option Y
def Gj (σ:Sb) (n:Int) (t:Y):Sb:=λm=>if m=n then some t else σ m
def UY (η:Int->Y) (σ:Sb):Prop:=∀n t,σ n=some t->η n=AI η t
structure fv (σ:Sb) (θ:Int->Y):Prop where
 eq:UY θ σ
 free:∀n,σ n=none->θ n=Ay n
 wf:∀n t,σ n=some t->CY t=true
 down:∀n t,σ n=some t->CS t=9->0<=num t/\num t<n
def fv.ind {σ:Sb} {θ:Int->Y} (h:fv σ θ) {P:Int->Prop} (p:∀n,σ n=none->P n) (C:∀n t,σ n=some t->(∀m∈Dv t,P m)->P n):∀n,P n:=by have y:∀(s k:Nat) (n:Int),Fz (θ n)<=s->n.toNat<=k->P n:=by{intro s;induction s with|zero=>intro k n z _;have:=NX<|θ n;omega|succ s r=>{intro k;induction k with|zero=>{intro n z E;cases e:σ n with|none=>exact p n e|some t=>{refine C n t e λm u=>?_;by_cases q:CS t=9;have:=h.down n t e q;omega;have:=uS (θ:=θ) q u;rw[<- h.eq n t e]at this;exact r _ m (by omega)<|B6 _}}|succ k A=>{intro n z E;cases e:σ n with|none=>exact p n e|some t=>{refine C n t e λm u=>?_;by_cases q:CS t=9;have G:=h.down n t e q;have B:m=num t:=by{obtain⟨f,a,x,K⟩:=t;simp only[CS]at q;subst q;simpa[Dv,num]using u};have D:=h.eq n t e;rw[IM q]at D;subst B;exact A _ (by rw[<- D];exact z) (by omega);have:=uS (θ:=θ) q u;rw[<- h.eq n t e]at this;exact r _ m (by omega)<|B6 _}}}};intro n;exact y _ _ n (B6 _)<|B6 _
def fv.mgu {σ:Sb} {θ η:Int->Y} (h:fv σ θ) (p:UY η σ) (n:Int):η n=AI η (θ n):=by refine h.ind (P:=λn=>η n=AI η (θ n)) (λn e=>?_) (λn t e q=>?_) n;rw[h.free n e,Dn];rw[p n t e,h.eq n t e,Mt];exact Gg t q
def fv.qh {σ:Sb} {θ η:Int->Y} (h:fv σ θ) (p:UY η σ) (t:Y):AI η (AI θ t)=AI η t:=by rw[Mt];exact Gg t λm _=>(h.mgu p m).symm
def fv.range {σ:Sb} {θ:Int->Y} (h:fv σ θ) (n:Int):∀m∈Dv (θ n),σ m=none:=by refine h.ind (P:=λn=>∀m∈Dv (θ n),σ m=none) (λn e m p=>?_) (λn t e q m p=>?_) n;rw[h.free n e]at p;simp[Ay,Dv]at p;rw[p];exact e;rw[h.eq n t e]at p;obtain⟨k,r,p⟩:=(zg4 t).1 p;exact q k r m p
def fv.ny {σ:Sb} {θ:Int->Y} (h:fv σ θ) (n:Int):CY (θ n)=true:=by refine h.ind (P:=λn=>CY (θ n)=true) (λn e=>by rw[h.free n e];rfl) (λn t e p=>?_) n;rw[h.eq n t e,Gg (θ:=λm=>if CY (θ m)=true then θ m else Ay m) t λm q=>by rw[ae<|p m q]];exact Vh (λm=>by split;assumption;rfl) t<|h.wf n t e
def fv.qi {σ:Sb} {θ p:Int->Y} (h:fv σ θ) (q:∀m,σ m=none->p m=Ay m) (t:Y):AI p (AI θ t)=AI θ t:=by rw[Mt];refine Gg t λm _=>?_;rw[Gg (θ:=Ay) (θ m) λk r=>q k<|h.range m k r];exact nF _<|h.ny m
def fv.unique {σ:Sb} {θ p:Int->Y} (h:fv σ θ) (q:fv σ p):θ=p:=by funext n;have u:=h.mgu q.eq n;have r:=h.qi q.free<|Ay n;rw[Dn]at r;rw[u,r]
def fv.bind {σ:Sb} {θ:Int->Y} (h:fv σ θ) {t:Y} (z:σ n=none) (y:CY t=true) (A:CS t=9->0<=num t/\num t<n) (B:n∉Dv (AI θ t)) :
  fv (Gj σ n t) λm=>AI (λk=>if k=n then AI θ t else Ay k)<|θ m:=by
 have q:AI (λk=>if k=n then AI θ t else Ay k) (AI θ t)=AI θ t:=by
  rw[Gg (θ:=Ay) (AI θ t) λk C=>by
   by_cases e:k=n
   ·exact absurd (e▸C) B
   ·rw[ac e]]
  exact nF _<|Vh h.ny t y
 refine⟨λm u p=>?_,λm r=>?_,λm u p=>?_,λm u p=>?_⟩
 ·simp only[Gj]at p;rw[<- Mt];by_cases e:m=n
  ·rw[ae e]at p;subst e;cases p;rw[h.free m z,Dn,ae O,q]
  ·rw[ac e]at p;rw[h.eq m u p]
 ·simp only[Gj]at r;by_cases e:m=n
  ·rw[ae e]at r;cases r
  ·rw[ac e]at r;rw[h.free m r,Dn,ac e]
 ·simp only[Gj]at p;by_cases e:m=n
  ·rw[ae e]at p;cases p;exact y
  ·rw[ac e]at p;exact h.wf m u p
 ·simp only[Gj]at p;by_cases e:m=n
  ·rw[ae e]at p;cases p;rw[e];exact A
  ·rw[ac e]at p;exact h.down m u p
def zjw {η:Int->Y} {σ:Sb} {t:Y} (q:σ n=none):UY η (Gj σ n t)↔UY η σ/\η n=AI η t:=by constructor;intro h;refine⟨λm u p=>h m u ?_,h n t<|by simp[Gj]⟩;simp only[Gj];rw[ac (λe=>by rw[e,q]at p;cases p)];exact p;rintro ⟨r,y⟩ m u p;simp only[Gj]at p;by_cases e:m=n;rw[ae e]at p;cases p;rw[e];exact y;rw[ac e]at p;exact r m u p
def fv.never {σ:Sb} {θ η:Int->Y} (h:fv σ θ) (p:UY η σ) {t:Y} (r:CS t≠9) (u:n∈Dv (AI θ t)):η n≠AI η t:=by intro e;have y:=h.qh p t;have q:CS (AI θ t)≠9:=by{let⟨f,m,x,_,z,A⟩:=nE (θ:=θ) r;rw[A];exact z};have:=uS (θ:=η) q u;rw[y,e]at this;omega
inductive iv (σ:Sb):Y->Y->Prop
 |stop {t:Y}:(CS t=9->σ (num t)=none)->iv σ t t
 |step {t u v:Y}:CS t=9->σ (num t)=some u->iv σ u v->iv σ t v
def iv.m6 {σ:Sb} {t u:Y} (h:iv σ t u):CS u=9->σ (num u)=none:=by induction h with|stop h=>exact h|step _ _ _ p=>{exact p}
def iv.ap {σ:Sb} {η:Int->Y} (p:UY η σ) {t u:Y} (h:iv σ t u):AI η t=AI η u:=by induction h with|stop _=>rfl|step q r _ y=>{rw[IM q,p _ _ r,y]}
def iv.wf {σ:Sb} {θ:Int->Y} (p:fv σ θ) {t u:Y} (h:iv σ t u) (q:CY t=true):CY u=true:=by induction h with|stop _=>exact q|step _ r _ y=>{exact y<|p.wf _ _ r}
def uM {σ:Sb} {θ:Int->Y} (p:fv σ θ):∀(k:Nat) (t:Y),(CS t=9->(num t).toNat<k)->∃u,iv σ t u
 |0,t,h=>⟨t,.stop λq=>absurd (h q) (by omega)⟩
 |k+1,t,h=>by by_cases q:CS t=9;cases e:σ (num t)with|none=>exact⟨t,.stop λ_=>e⟩|some u=>{let⟨v,r⟩:=uM p k u λy=>by{have:=p.down _ u e y;have:=h q;omega};exact⟨v,.step q e r⟩};exact⟨t,.stop λh=>absurd h q⟩
def RF {σ:Sb} {θ:Int->Y} (h:fv σ θ) (t:Y):∃u,iv σ t u:=uM h ((num t).toNat+1) t λ_=>by omega
def uL {σ:Sb} {t u v:Y} (h:iv σ t u) (r:iv σ t v):u=v:=by induction h with|stop h=>{cases r with|stop=>rfl|step y p _=>{rw[h y]at p;cases p}}|step y p _ z=>{cases r with|stop h=>rw[h y]at p;cases p|step _ q r=>{rw[p]at q;cases q;exact z r}}
def fQ {σ:Sb} {t u:Y} (h:iv σ t u):iv σ u u:=.stop h.m6
def ow (σ:Sb) (n:Int) (t:Y):Prop:=∃h,fv σ h/\n∈Dv (AI h t)
def fv.rc {σ:Sb} {θ:Int->Y} (h:fv σ θ) {t:Y}:ow σ n t↔n∈Dv (AI θ t):=⟨λ⟨_,p,q⟩=>by rw[h.unique p];exact q,λp=>⟨θ,h,p⟩⟩
def oz:Y->Z
 |.mk _ _ x _=>x
def JF (a b:Y):Prop:=CS a=CS b/\num a=num b/\oz a=oz b/\(HJ a).length=(HJ b).length
def XP (E:Sb->Y->Y->Option Sb->Prop):Sb->L1 Y->L1 Y->Option Sb->Prop
 |σ,[],[],r=>r=some σ
 |σ,a::xs,b::p,r=>(E σ a b none/\r=none)\/∃h,E σ a b (some h)/\XP E h xs p r
 |_,_,_,_=>False
def EC (E:Sb->Y->Y->Option Sb->Prop) (σ:Sb) (u v:Y) (r:Option Sb):Prop :=
 (CS u=9/\CS v=9/\num u=num v/\r=some σ) \/
 (CS u=9/\CS v=9/\num u≠num v/\r=some (Gj σ (max (num u) (num v))<|Ay<|min (num u) (num v))) \/
 (CS u=9/\CS v≠9/\ow σ (num u) v/\r=none)\/(CS u=9/\CS v≠9/\¬ow σ (num u) v/\r=some (Gj σ (num u) v)) \/
 (CS u≠9/\CS v=9/\ow σ (num v) u/\r=none)\/(CS u≠9/\CS v=9/\¬ow σ (num v) u/\r=some (Gj σ (num v) u)) \/
 (CS u≠9/\CS v≠9/\¬JF u v/\r=none)\/(CS u≠9/\CS v≠9/\JF u v/\XP E σ (HJ u) (HJ v) r)
def bB:Nat->Sb->Y->Y->Option Sb->Prop
 |0,_,_,_,_=>False
 |k+1,σ,a,b,r=>∃u v,iv σ a u/\iv σ b v/\EC (bB k) σ u v r
abbrev g5:=Option Sb
def SH {E z:Sb->Y->Y->g5->Prop} (h:∀σ a b r,E σ a b r->z σ a b r):∀{xs ys:E1} {σ:Sb} {r:g5},XP E σ xs ys r->XP z σ xs ys r
 |[],[],_,_,p=>p
 |a::xs,b::ys,σ,r,p=>by rcases p with⟨q,u⟩|⟨y,q,u⟩;exact .inl ⟨h _ _ _ _ q,u⟩;exact .inr ⟨y,h _ _ _ _ q,SH h u⟩
 |[],_::_,_,_,p=>p.elim
 |_::_,[],_,_,p=>p.elim
def tD {E p:Sb->Y->Y->g5->Prop} (h:∀σ a b r,E σ a b r->p σ a b r) {σ:Sb} {u v:Y} {r:g5} (hr:EC E σ u v r):EC p σ u v r:=by rcases hr with hr|hr|hr|hr|hr|hr|hr|⟨q,y,z,A⟩;exact .inl hr;exact .inr<|.inl hr;exact .inr<|.inr<|.inl hr;exact .inr<|.inr<|.inr<|.inl hr;exact .inr<|.inr<|.inr<|.inr<|.inl hr;exact .inr<|.inr<|.inr<|.inr<|.inr<|.inl hr;exact .inr<|.inr<|.inr<|.inr<|.inr<|.inr<|.inl hr;exact .inr<|.inr<|.inr<|.inr<|.inr<|.inr<|.inr ⟨q,y,z,SH h A⟩
def lY:∀(k:Nat) (σ:Sb) (a b:Y) (r:g5),bB k σ a b r->bB (k+1) σ a b r
 |0,_,_,_,_,h=>h.elim
 |k+1,σ,a,b,r,⟨u,v,p,q,y⟩=>⟨u,v,p,q,tD (lY k) y⟩
def Rf {k:Nat} (h:k<=j) {σ:Sb} {a b:Y} {r:g5} (p:bB k σ a b r):bB j σ a b r:=by induction h with|refl=>exact p|step _ q=>{exact lY _ _ _ _ _ q}
def gr (H:Int) (t:Y):Prop:=∀m∈Dv t,0<=m/\m<H
def mb (H:Int) (σ:Sb):Prop:=∀n t,σ n=some t->(0<=n/\n<H)/\gr H t
def gr.part {t p:Y} (h:gr H t) (q:CS t≠9) (r:p∈HJ t):gr H p:=λm u=>h m (by
 obtain⟨f,n,x,y⟩:=t;simp only[Dv,ac (show¬f=9 from q)];exact QD.2 ⟨p,r,u⟩)
def gr.num {t:Y} (h:gr H t) (p:CS t=9):0<=num t/\num t<H:=h _ (by
 obtain⟨f,n,x,q⟩:=t;simp only[CS]at p;subst p;simp[Dv,Go.Hk.num])
def N0 (h:0<=n/\n<H):gr H<|Ay n:=λm p=>by
 simp[Ay,Dv]at p;rw[p];exact h
def iv.gr {σ:Sb} (p:mb H σ) {t u:Y} (h:iv σ t u) (q:Go.Hk.gr H t):Go.Hk.gr H u:=by induction h with|stop _=>exact q|step _ r _ y=>{exact y (p _ _ r).2}
def mb.set {σ:Sb} (p:mb H σ) {t:Y} (q:0<=n/\n<H) (r:gr H t):mb H<|Gj σ n t:=λm u h=>by{simp only[Gj]at h;by_cases e:m=n;rw[ae e]at h;cases h;rw[e];exact⟨q,r⟩;rw[ac e]at h;exact p m u h}
def YF (H:Nat) (σ:Sb):Nat:=((List.range H).filter λi:Nat=>(σ (i:Int)).isNone).length
def aC {α:Type} {p q:α->Bool}:∀{l:L1 α},(∀x∈l,q x=true->p x=true)->(∃x∈l,p x=true/\q x=false)->(l.filter q).length<(l.filter p).length
 |[],_,⟨_,h,_⟩=>by cases h
 |y::r,h,u=>by have D:(r.filter q).length<=(r.filter p).length:=by{clear u;have A:∀x∈r,q x=true->p x=true:=λx u=>h x (by simp[u]);clear h;induction r with|nil=>simp|cons z r E=>{have:=E λx u=>A x (by simp[u]);simp only[qY];cases e:q z with|true=>rw[A z (by simp) e];simp;omega|false=>{simp only[En,aq];split<;>simp<;>omega}}};simp only[qY];obtain⟨x,u,B,C⟩:=u;by_cases e:x=y;subst e;rw[B,C];simp;omega;have:=aC (l:=r) (λx u=>h x<|by simp[u]) ⟨x,(Cu.1 u).resolve_left e,B,C⟩;cases G:q y with|true=>rw[h y (by simp) G];simp;omega|false=>{simp only[En,aq];split<;>simp<;>omega}
def zjk {H:Nat} {σ:Sb} {t:Y} (q:σ n=none) (h:0<=n/\n<(H:Int)):YF H (Gj σ n t)<YF H σ:=by refine aC (λi r p=>?_) ⟨n.toNat,by simp;omega,?_,?_⟩;simp only[Gj]at p;split at p;simp at p;exact p;rw[show((n.toNat:Nat):Int)=n by omega,q];rfl;rw[show((n.toNat:Nat):Int)=n by omega];simp[Gj]
def zmc (H:Nat) (σ:Sb) (a b:Y):Option Sb->Prop
 |some h=>(∃q,fv h q)/\mb H h/\(h=σ\/YF H h<YF H σ)/\∀p,UY p h↔UY p σ/\AI p a=AI p b
 |none=>∀p,UY p σ->AI p a≠AI p b
def zqz (H:Nat) (σ:Sb) (xs ys:L1 Y):Option Sb->Prop
 |some h=>(∃q,fv h q)/\mb H h/\(h=σ\/YF H h<YF H σ)/\∀p,UY p h↔UY p σ/\xs.map (AI p)=ys.map (AI p)
 |none=>∀p,UY p σ->xs.map (AI p)≠ys.map (AI p)
def lX {H:Nat} {L:Y->Prop} (q:Sb) (U:Nat) (K:∀σ θ a b,fv σ θ->mb H σ->YF H σ<=U->(YF H σ=U->σ=q/\L a)->CY a=true->CY b=true->gr H a->gr H b->∃k r,bB k σ a b r/\zmc H σ a b r) :
  ∀(xs ys:E1) (σ:Sb) (θ:Int->Y),xs.length=ys.length->fv σ θ->mb H σ->YF H σ<=U->(YF H σ=U->σ=q/\∀a∈xs,L a)->(∀a∈xs,CY a=true/\gr H a)->(∀b∈ys,CY b=true/\gr H b) ->
   ∃k r,XP (bB k) σ xs ys r/\zqz H σ xs ys r
 |[],[],σ,θ,_,B,C,_,_,_,_=>⟨0,some σ,rfl,⟨θ,B⟩,C,.inl O,λp=>by simp⟩
 |a::xs,b::ys,σ,θ,V,B,C,W,A,D,E=>by
  let⟨k,r,M,N⟩:=K σ θ a b B C W (λe=>⟨(A e).1,(A e).2 a<|by simp⟩) (D a<|by simp).1 (E b<|by simp).1 (D a<|by simp).2 (E b<|by simp).2;cases r with
  |none=>exact⟨k,none,.inl ⟨M,rfl⟩,λp u e=>N p u (by simp at e;exact e.1)⟩
  |some y=>
   obtain⟨⟨G,c⟩,d,g3,R⟩:=N;let⟨j,S,f,T⟩:=lX q U K xs ys y G (by simpa using V) c d (by rcases g3 with rfl|g3<;>omega) (λe=>by
    rcases g3 with rfl|g3
    ·exact⟨(A e).1,λx z=>(A e).2 x<|by simp[z]⟩
    ·omega) (λx z=>D x<|by simp[z]) λx z=>E x (by simp[z])
   refine⟨max k j,S,.inr ⟨y,Rf (Nat.le_max_left _ _) M,SH (λ_ _ _ _ h=>Rf (Nat.le_max_right _ _) h) f⟩,?_⟩;cases S with
   |none=>
    intro p u e;simp only[CK,Cr]at e;exact T p ((R p).2 ⟨u,e.1⟩) e.2
   |some g=>
    obtain⟨i,l,q3,m⟩:=T;refine⟨i,l,?_,λp=>?_⟩
    ·rcases q3 with rfl|q3
     ·exact g3
     ·rcases g3 with rfl|g3
      ·exact .inr q3
      ·exact .inr (by omega)
    ·rw[m p,R p,ep];simp only[CK,Cr]
def fq:=@eq_comm
def xU (H:Nat):∀(U s:Nat) (σ:Sb) (θ:Int->Y) (a b:Y),fv σ θ->mb H σ->YF H σ<=U->(YF H σ=U->Fz (AI θ a)<=s)->CY a=true->CY b=true->gr H a->gr H b->∃k r,bB k σ a b r/\zmc H σ a b r:=by
 intro U
 induction U using Nat.strongRecOn with
 |ind U S=>
 intro s
 induction s with
 |zero=>
  intro σ θ a b D N hu d j l m o;by_cases e:YF H σ=U
  ·have:=d e;have:=NX<|AI θ a;omega
  ·exact S (YF H σ) (by omega) (Fz<|AI θ a) σ θ a b D N (B6 _) (λ_=>B6 _) j l m o
 |succ s J=>
  intro σ θ a b D N hu d j l m o;by_cases e:YF H σ=U
  case neg=>exact S (YF H σ) (by omega) (Fz<|AI θ a) σ θ a b D N (B6 _) (λ_=>B6 _) j l m o
  have d:=d e;let⟨u,A⟩:=RF D a;let⟨v,y⟩:=RF D b;have wu:=A.wf D j;have wv:=y.wf D l;have w:=A.gr N m;have F:=y.gr N o;have R:=λ{η} (q:UY η σ)=>A.ap q;have T:=λ{η} (q:UY η σ)=>y.ap q;have one:∀{n:Int} {t:Y},σ n=none->0<=n/\n<(H:Int)->CY t=true->(CS t=9->0<=num t/\num t<n)->n∉Dv (AI θ t)->gr H t->(∀η,UY η σ->(η n=AI η t↔AI η a=AI η b))->zmc H σ a b (some<|Gj σ n t):=λP hr ht h9 K hi q=>
   ⟨⟨_,D.bind P ht h9 K⟩,N.set hr hi,.inr<|zjk P hr,λη=>by rw[zjw P];exact⟨λ⟨E,G⟩=>⟨E,(q η E).1 G⟩,λ⟨E,G⟩=>⟨E,(q η E).2 G⟩⟩⟩
  by_cases B:CS u=9
  ·have Q:=A.m6 B;by_cases C:CS v=9
   ·have I:=y.m6 C;by_cases en:num u=num v
    ·refine⟨1,some σ,⟨u,v,A,y,.inl ⟨B,C,en,rfl⟩⟩,⟨θ,D⟩,N,.inl O,λη=>⟨λh=>⟨h,?_⟩,λh=>h.1⟩⟩;rw[R h,T h,IM B,IM C,en]
    ·have bu:=w.num B;have bv:=F.num C;refine⟨1,_,⟨u,v,A,y,.inr<|.inl ⟨B,C,en,rfl⟩⟩,one ?_ (by omega) O (λ_=>by show 0<=min (num u) (num v)/\min (num u) (num v)<max (num u) (num v);omega) ?_ (N0<|by omega) λη q=>?_⟩
     ·rcases qX (num u) (num v)with h|h
      ·rw[qW h];exact I
      ·rw[qV h];exact Q
     ·rw[Dn];have:θ (min (num u) (num v))=Ay (min (num u) (num v)):=by
       rcases qX (num u) (num v)with h|h
       ·rw[qU h];exact D.free _ Q
       ·rw[qT h];exact D.free _ I
      rw[this];simp[Ay,Dv];omega
     ·rw[R q,T q,IM B,IM C,Dn];rcases qX (num u) (num v)with h|h
      ·rw[qW h,qU h];exact fq
      ·rw[qV h,qT h]
   ·by_cases K:ow σ (num u) v
    ·refine⟨1,none,⟨u,v,A,y,.inr<|.inr<|.inl ⟨B,C,K,rfl⟩⟩,λη q e=>?_⟩;rw[R q,T q,IM B]at e;exact D.never q C (D.rc.1 K) e
    ·refine⟨1,_,⟨u,v,A,y,.inr<|.inr<|.inr<|.inl ⟨B,C,K,rfl⟩⟩,one Q (w.num B) wv (λh=>absurd h C) (λh=>K<|D.rc.2 h) F λη q=>?_⟩;rw[R q,T q,IM B]
  ·by_cases C:CS v=9
   ·have I:=y.m6 C;by_cases K:ow σ (num v) u
    ·refine⟨1,none,⟨u,v,A,y,.inr<|.inr<|.inr<|.inr<|.inl ⟨B,C,K,rfl⟩⟩,λη q e=>?_⟩;rw[R q,T q,IM C]at e;exact D.never q B (D.rc.1 K) e.symm
    ·refine⟨1,_,⟨u,v,A,y,.inr<|.inr<|.inr<|.inr<|.inr<|.inl ⟨B,C,K,rfl⟩⟩,one I (F.num C) wu (λh=>absurd h B) (λh=>K<|D.rc.2 h) w λη q=>?_⟩;rw[R q,T q,IM C];exact fq
   ·let⟨f,n,x,e1,hf,e2⟩:=nE (θ:=θ) B;have M:∀η,UY η σ->(AI η a=AI η b↔(CS u=CS v/\num u=num v/\oz u=oz v)/\(HJ u).map (AI η)=(HJ v).map (AI η)):=λη q=>by
     rw[R q,T q];obtain⟨f1,n1,x1,ps1⟩:=u;obtain⟨f2,n2,x2,ps2⟩:=v;simp only[AI,ac (show¬f1=9 from B),ac (show¬f2=9 from C),Mv,CS,num,HJ,oz,Y.mk.injEq];grind
    by_cases V:JF u v
    ·have au':Fz (AI θ u)<=s+1:=by rw[<- R D.eq];exact d
     let⟨k,r,E,G⟩:=lX (L:=λp=>Fz (AI θ p)<=s) σ U (λL W a' b' s' z u' l' wa wb g i=>by
      by_cases e':YF H L=U
      ·obtain⟨rfl,hL⟩:=l' e';obtain rfl:=s'.unique D;exact J L W a' b' s' z u' (λ_=>hL) wa wb g i
      ·exact S (YF H L) (by omega) (Fz<|AI W a') L W a' b' s' z (B6 _) (λ_=>B6 _) wa wb g i) (HJ u) (HJ v) σ θ V.2.2.2 D N hu (λ_=>⟨rfl,λp c=>by have:=uR (θ:=θ) B c;omega⟩)
      (λp c=>⟨GS wu p c,w.part B c⟩) λp c=>⟨GS wv p c,F.part C c⟩
     refine⟨k+1,r,⟨u,v,A,y,.inr<|.inr<|.inr<|.inr<|.inr<|.inr<|.inr ⟨B,C,V,E⟩⟩,?_⟩;cases r with
     |none=>exact λη q e=>G η q ((M η q).1 e).2
     |some L=>
      obtain⟨q1,q2,q3,q4⟩:=G;exact⟨q1,q2,q3,λη=>by rw[q4 η];exact⟨λ⟨E,G⟩=>⟨E,(M η E).2 ⟨⟨V.1,V.2.1,V.2.2.1⟩,G⟩⟩,λ⟨E,G⟩=>⟨E,((M η E).1 G).2⟩⟩⟩
    ·refine⟨1,none,⟨u,v,A,y,.inr<|.inr<|.inr<|.inr<|.inr<|.inr<|.inl ⟨B,C,V,rfl⟩⟩,λη q e=>V ?_⟩;obtain⟨⟨E,G,h3⟩,h4⟩:=(M η q).1 e;exact⟨E,G,h3,by simpa using af List.length h4⟩
def km (k:Int) (η η':Int->Y):Prop:=∀n,n<k->η' n=η n
def km.refl (k:Int) (η:Int->Y):km k η η:=λ_ _=>rfl
def km.trans {a b c:Int->Y} (h:km k a b) (p:km q b c) (u:k<=q):km k a c:=λn r=>(p n<|by omega).trans<|h n r
def km.ap {η η':Int->Y} (h:km k η η') {t:Y} (p:gr k t):AI η' t=AI η t:=Gg t λm q=>h m (p m q).2
def km.slv {η η':Int->Y} (h:km k η η') {σ:Sb} (q:mb k σ) (r:UY η σ):UY η' σ:=λn t p=>by
 let⟨⟨_,u⟩,y⟩:=q n t p;rw[h n u,h.ap y,r n t p]
def gr.mono {t:Y} (h:gr k t) (q:k<=k'):gr k' t:=λm p=>⟨(h m p).1,by have:=(h m p).2;omega⟩
def mb.mono {σ:Sb} (h:mb k σ) (p:k<=k'):mb k' σ:=λn t q=>by
 let⟨⟨r,y⟩,u⟩:=h n t q;exact⟨⟨r,by omega⟩,u.mono p⟩
def hQ (k:Int) (σ:Sb):Prop:=0<=k/\mb k σ/\∃h,fv σ h
def gl (k:Int) (σ:Sb) (k':Int) (p:Sb) {β:Type} (v:(Int->Y)->β) (G:(Int->Y)->β->Prop):Prop :=
 k<=k'/\hQ k' p/\(∀h,UY h p->UY h σ/\G h (v h))/\∀h w,UY h σ->G h w->∃q,km k h q/\UY q p/\v q=w
def fm (σ:Sb) {β:Type} (G:(Int->Y)->β->Prop):Prop:=∀h w,UY h σ->¬G h w
def gl.bind {σ z B:Sb} {v:(Int->Y)->β} {E:(Int->Y)->r} {K:(Int->Y)->y} {G:(Int->Y)->β->Prop} {L:(Int->Y)->r->Prop} {M:(Int->Y)->y->Prop} (S:gl k σ q z E L) (T:gl q z A B K M) (U:∀η,L η (E η)->M η (K η)->G η (v η)) (V:∀η w,G η w->∃C,L η C/\∀p,km k η p->E p=C->∃D,M p D/\∀u,km q p u->km k η u->K u=D->v u=w):gl k σ A B v G:=by obtain⟨R,s,W,a⟩:=S;obtain⟨t,b,c,d⟩:=T;refine⟨by omega,b,λη h=>?_,λη w N e=>?_⟩;let⟨f,g⟩:=c η h;let⟨d1,d2⟩:=W η f;exact⟨d1,U η d2 g⟩;let⟨C,i,j⟩:=V η w e;let⟨p,f1,f2,f3⟩:=a η C N i;let⟨D,l,m⟩:=j p f1 f3;let⟨u,l1,n,o⟩:=d p D f2 l;exact⟨u,f1.trans l1 R,n,m u l1 (f1.trans l1 R) o⟩
def fm.first {σ:Sb} {G:(Int->Y)->β->Prop} {u:(Int->Y)->r->Prop} (y:fm σ u) (z:∀η w,G η w->∃p,u η p):fm σ G:=λη w q A=>by
 let⟨p,h⟩:=z η w A;exact y η p q h
def fm.gv {σ p:Sb} {B:(Int->Y)->r} {G:(Int->Y)->β->Prop} {C:(Int->Y)->r->Prop} {D:(Int->Y)->y->Prop} (E:gl k σ q p B C) (K:fm p D) (L:∀η w,G η w->∃u,C η u/\∀h,km k η h->B h=u->∃z,D h z):fm σ G:=λη w A M=>by
 let⟨u,N,R⟩:=L η w M;let⟨h,f1,f2,f3⟩:=E.2.2.2 η u A N;let⟨z,g⟩:=R h f1 f3;exact K h z f2 g
def gl.weaken {σ p:Sb} {r:Type} {v:(Int->Y)->β} {v':(Int->Y)->r} {G:(Int->Y)->β->Prop} {u:(Int->Y)->r->Prop} (h:gl k σ q p v G) (A:∀η,G η (v η)->u η (v' η)) (B:∀η w',u η w'->∃w,G η w/\∀η',km k η η'->v η'=w->v' η'=w'):gl k σ q p v' u:=by obtain⟨C,D,z,E⟩:=h;refine⟨C,D,λη h=>⟨(z η h).1,A η (z η h).2⟩,λη w' y K=>?_⟩;let⟨w,L,M⟩:=B η w' K;let⟨η',f1,f2,f3⟩:=E η w y L;exact⟨η',f1,f2,M η' f1 f3⟩
def NZ {σ:Sb} (h:hQ k σ) {v:(Int->Y)->β} {G:(Int->Y)->β->Prop} (q:∀η w,G η w↔w=v η):gl k σ k σ v G:=⟨PF _,h,λη p=>⟨p,(q η _).2 O⟩,λη w p r=>⟨η,km.refl _ _,p,((q η w).1 r).symm⟩⟩
def RO {σ:Sb} (h:hQ k σ):gl k σ (k+1) σ (λη=>η k) λ_ _=>True:=by refine⟨by omega,⟨by have:=h.1;omega,h.2.1.mono<|by omega,h.2.2⟩,λη p=>⟨p,ab⟩,λη w p _=>?_⟩;have q:km k η λn=>if n=k then w else η n:=λn r=>by{simp only;rw[ac<|by omega]};exact⟨_,q,q.slv h.2.1 p,by simp⟩
def zeg {σ:Sb} {a b:Y} (h:hQ k σ) (K:CY a=true) (L:CY b=true) (y:gr k a) (z:gr k b) :
  ∃n r,bB n σ a b r/\match r with
   |some u=>gl k σ k u (λ_=>()) (λp _=>AI p a=AI p b)
   |none=>fm σ (β:=Unit) λp _=>AI p a=AI p b:=by
 obtain⟨M,A,B,N⟩:=h;have C:((k.toNat:Nat):Int)=k:=by omega
 rw[<- C]at A y z;let⟨n,r,R,D⟩:=xU k.toNat (YF k.toNat σ) (Fz<|AI B a) σ B a b N A (B6 _) (λ_=>B6 _) K L y z;refine⟨n,r,R,?_⟩;cases r with
 |none=>exact λp _ q=>D p q
 |some u=>
  obtain⟨S,E,U,G⟩:=D;rw[C]at E;exact⟨PF _,⟨M,E,S⟩,λp q=>(G p).1 q,λp _ q T=>⟨p,km.refl _ _,(G p).2 ⟨q,T⟩,rfl⟩⟩
def Be:Y:=.mk 1 0 [] []
def CE:Y:=.mk 2 0 [] []
def EN:Y:=.mk 3 0 [] []
def By (a b:Y):Y:=.mk 4 0 [] [a,b]
def Lo (s:Int) (a:Y):Y:=.mk s 0 [] [a]
def BQ (x:Z):Y:=.mk 8 0 x []
abbrev At:=L1 (Z×Y)
def Iz:At->Z->Option Y
 |[],_=>none
 |(y,t)::r,x=>match Iz r x with
  |some u=>some u
  |none=>if y=x then some t else none
def U9:L1 Fd->Z->Option Y
 |[],_=>none
 |f::r,x=>if f.name=x then some (By f.from_ f.kj)else U9 r x
def B5 (m:Md) (Γ:At) (x:Z):Option Y:=match Iz Γ x with
 |some t=>some t
 |none=>U9 m.cc x
def SM:L1 Cd->Z->Option Cd
 |[],_=>none
 |c::r,x=>if c.name=x then some c else SM r x
def HG:L1 Dt->Z->Option (Cd×Z)
 |[],_=>none
 |d::r,x=>match SM d.cons x with
  |some c=>some (c,d.name)
  |none=>HG r x
mutual
def Hv (m:Md):Y->Y->At->At->Prop
 |.mk f _ x q,τ,p,h=>
  if f=2 then h=p++[(x,τ)]
  else if f=3 then τ=Be/\h=p
  else if f=4 then τ=CE/\h=p
  else if f=5 then τ=EN/\h=p
  else if f=6 then ∃c d,HG m.SA x=some (c,d)/\c.args.length=q.length/\τ=BQ d/\KG m q c.args p h
  else h=p
def KG (m:Md):L1 Y->L1 Y->At->At->Prop
 |[],[],r,h=>h=r
 |p::u,t::ts,r,h=>∃q,Hv m p t r q/\KG m u ts q h
 |_,_,_,_=>False
end
def HU (m:Md) (τ:Y) (Γ:At):L1 Y->L1 At->Prop
 |[],l=>l=[]
 |p::q,l=>∃h l1,Hv m p τ Γ h/\HU m τ Γ q l1/\l=h::l1
def Bd (m:Md) (Γ:At) (op:Int) (x:Z) (ps:L1 Y) (kids:L1<|At×Y) (τ:Y) (S:L1 Y):Prop :=
 if op=1\/op=25 then kids=[]/\τ=Be/\S=[]
 else if op=2 then kids=[]/\τ=CE/\S=[]
 else if op=3\/op=28 then kids=[]/\τ=EN/\S=[]
 else if op=4 then kids=[]/\B5 m Γ x=some τ/\S=[]
 else if op=5 then ∃a b,kids=[(Γ++[(x,a)],b)]/\τ=By a b/\S=[]
 else if op=6 then ∃a,kids=[(Γ,By a τ),(Γ,a)]/\S=[]
 else if op=7 then ∃a,kids=[(Γ,a),(Γ++[(x,a)],τ)]/\S=[]
 else if op=8 then kids=[(Γ,CE),(Γ,τ),(Γ,τ)]/\S=[]
 else if op=9\/op=10\/op=11 then kids=[(Γ,Be),(Γ,Be)]/\τ=Be/\S=[]
 else if op=12 then kids=[(Γ,Be),(Γ,Be)]/\τ=CE/\S=[]
 else if op=13 then ∃a,kids=[(Γ,a),(Γ,a)]/\τ=CE/\S=[a]
 else if op=14 then ∃c d,HG m.SA x=some (c,d)/\kids=c.args.map (λt=>(Γ,t))/\τ=BQ d/\S=[]
 else if op=15 then ∃a l,HU m a Γ ps l/\kids=(Γ,a)::l.map (λh=>(h,τ))/\S=[]
 else if op=16 then ∃a,kids=[(Γ,a)]/\τ=Lo 5 a/\S=[]
 else if op=17 then kids=[(Γ,Lo 5 τ)]/\S=[]
 else if op=18 then ∃a,kids=[(Γ,Lo 5 a),(Γ,a)]/\τ=EN/\S=[]
 else if op=19 then ∃a,kids=[(Γ,By EN a)]/\τ=Lo 7 a/\S=[]
 else if op=20 then kids=[(Γ,Lo 7 τ)]/\S=[]
 else if op=21 then ∃a,kids=[]/\τ=Lo 6 a/\S=[]
 else if op=22 then ∃a,kids=[(Γ,Lo 6 a),(Γ,a)]/\τ=EN/\S=[]
 else if op=23 then kids=[(Γ,Lo 6 τ)]/\S=[]
 else if op=24 then kids=[(Γ,Be)]/\τ=EN/\S=[]
 else if op=26 then kids=[(Γ,Be)]/\τ=Be/\S=[]
 else if op=27 then kids=[(Γ++[(x,By τ Be)],Be)]/\S=[]
 else False
mutual
def Do (m:Md):Tm->At->Y->L1 Y->Prop
 |.mk q _ x r u,y,τ,S=>∃h S1 p,Bd m y q x u h τ p/\Ee m r h S1/\S=S1++p
def Ee (m:Md):L1 Tm->L1 (At×Y)->L1 Y->Prop
 |[],[],S=>S=[]
 |t::ts,k::p,S=>∃S1 h,Do m t k.1 k.2 S1/\Ee m ts p h/\S=S1++h
 |_,_,_=>False
end
def Hr (η:Int->Y) (Γ:At):At:=Γ.map λp=>(p.1,AI η p.2)
def Jh (η:Int->Y) (l:L1<|At×Y):L1<|At×Y:=l.map λp=>(Hr η p.1,AI η p.2)
def ev (k:Int) (Γ:At):Prop:=∀p∈Γ,CY p.2=true/\gr k p.2
def ja (k:Int) (l:L1 Y):Prop:=∀t∈l,CY t=true/\gr k t
def ka (k:Int) (l:L1<|At×Y):Prop:=∀p∈l,ev k p.1/\CY p.2=true/\gr k p.2
def ev.mono {Γ:At} (h:ev k Γ) (r:k<=k'):ev k' Γ:=λp q=>⟨(h p q).1,(h p q).2.mono r⟩
def ja.mono {l:E1} (h:ja k l) (r:k<=k'):ja k' l:=λp q=>⟨(h p q).1,(h p q).2.mono r⟩
abbrev T5:=L1 (At×Y)
def ka.mono {l:T5} (h:ka k l) (r:k<=k'):ka k' l:=λp q=>⟨(h p q).1.mono r,(h p q).2.1,(h p q).2.2.mono r⟩
def ja.append {l r:E1} (h:ja k l) (p:ja k r):ja k<|l++r:=λt q=>(AT.1 q).elim (h t)<|p t
def ev.add {Γ:At} {x:Z} {t:Y} (h:ev k Γ) (q:CY t=true) (r:gr k t):ev k<|Γ++[(x,t)]:=λp hp=>by{rcases AT.1 hp with hp|hp;exact h p hp;rw[AJ.1 hp];exact⟨q,r⟩}
def km.env {η η':Int->Y} (h:km k η η') {Γ:At} (q:ev k Γ):Hr η' Γ=Hr η Γ:=Mc λp r=>by rw[h.ap (q p r).2]
def km.mh {η η':Int->Y} (h:km k η η') {l:E1} (q:ja k l):l.map (AI η')=l.map (AI η):=Mc λp r=>h.ap (q p r).2
def km.kids {η η':Int->Y} (h:km k η η') {l:T5} (q:ka k l):Jh η' l=Jh η l:=Mc λp r=>by rw[h.env (q p r).1,h.ap (q p r).2.2]
def Jt (η:Int->Y) (Γ:At) (x:Z) (t:Y):Hr η (Γ++[(x,t)])=Hr η Γ++[(x,AI η t)]:=by simp[Hr]
def CW {t:Y} (h:Dv t=[]) (k:Int):gr k t:=λm p=>by rw[h]at p;cases p
def Is {t:Y} (h:Dv t=[]) (q:CY t=true) (η:Int->Y):AI η t=t:=by rw[Gg (θ:=Ay) t λm p=>by rw[h]at p;cases p];exact nF t q
def Ct (m:Md) (Γ:At) (t:Tm) (k:Int) (σ:Sb):Option (Y×Int×Sb×L1 Y)->Prop
 |some (τ,k',p,N)=>gl k σ k' p (λh=>(AI h τ,N.map<|AI h)) (λh w=>Do m t (Hr h Γ) w.1 w.2)/\CY τ=true/\gr k' τ/\ja k' N
 |none=>fm σ (β:=Y×L1 Y) λh w=>Do m t (Hr h Γ) w.1 w.2
def KI (m:Md) (ts:L1 Tm) (kids:L1<|At×Y) (k:Int) (σ:Sb):Option (Int×Sb×L1 Y)->Prop
 |some (k',p,N)=>gl k σ k' p (λh=>N.map<|AI h) (λh w=>Ee m ts (Jh h kids) w)/\ja k' N
 |none=>fm σ (β:=L1 Y) λh w=>Ee m ts (Jh h kids) w
def zgp {m:Md} {σ:Sb} (h:hQ k σ):KI m [] [] k σ<|some (k,σ,[]):=⟨NZ h λq w=>by simp[Jh,Ee],λt p=>by cases p⟩
def za6 {m:Md} {ts:G1} {kids:T5} {σ:Sb} (h:ts.length≠kids.length):KI m ts kids k σ none:=by intro z w _ p;have:∀(ts:G1) (l:T5) (S:E1),Ee m ts l S->ts.length=l.length:=by{intro ts;induction ts with|nil=>{intro l S h;cases l with|nil=>rfl|cons a r=>{exact h.elim}}|cons t r q=>{intro l S h;cases l with|nil=>exact h.elim|cons a l=>{obtain⟨S1,u,_,y,_⟩:=h;simp[q l u y]}}};exact h (by simpa[Jh]using this _ _ _ p)
def U7 {m:Md} {t:Tm} {ts:G1} {Γ:At} {p:Y} {kids:T5} {σ:Sb} (h:Ct m Γ t k σ none):KI m (t::ts) ((Γ,p)::kids) k σ none:=by refine fm.first h λu w q=>?_;obtain⟨S1,y,r,_⟩:=q;exact⟨(_,S1),r⟩
def dN {m:Md} {t:Tm} {ts:G1} {Γ:At} {p τ:Y} {kids:T5} {σ r:Sb} {z:E1} (h:Ct m Γ t k σ<|some (τ,q,r,z)) (A:gr k p) (B:fm r (β:=Unit) λη _=>AI η τ=AI η p):KI m (t::ts) ((Γ,p)::kids) k σ none:=by refine fm.gv h.1 B λη w u=>?_;obtain⟨S1,G,C,_⟩:=u;refine⟨(AI η p,S1),C,λD E y=>⟨(),?_⟩⟩;simp only[AP]at y;rw[y.1,E.ap A]
abbrev g7:=Option (Int×Sb×E1)
def ZK {m:Md} {t:Tm} {ts:G1} {Γ:At} {u τ:Y} {kids:T5} {σ C y:Sb} {K:E1} {r:g7} (W:ka k<|(Γ,u)::kids) (h:Ct m Γ t k σ<|some (τ,q,C,K)) (e:gl q C q y (λ_=>()) λη _=>AI η τ=AI η u) (a:KI m ts kids q y r):KI m (t::ts) ((Γ,u)::kids) k σ<|r.map λx=>(x.1,x.2.1,K++x.2.2):=by obtain⟨b,n,o,L⟩:=h;have f:=b.1;have g:=(W (Γ,u)<|by simp).2.2;have D:ka k kids:=λp i=>W p (by simp[i]);have c:gl k σ q y (λη=>K.map<|AI η) λη w=>Do m t (Hr η Γ) (AI η u) w:=by{refine b.bind e (λη z A=>by rw[<- A];exact z) λη w M=>⟨(AI η u,w),M,λE G B=>⟨(),?_,λN R S _=>?_⟩⟩;simp only[AP]at B;rw[B.1,G.ap g];simp only[AP]at B;rw[R.mh L,B.2]};cases r with|none=>refine fm.gv c a λη w T=>?_;obtain⟨S1,U,z,A,_⟩:=T;exact⟨S1,z,λE G _=>⟨U,by rw[G.kids D];exact A⟩⟩|some x=>{obtain⟨s,j,v⟩:=x;obtain⟨d,l⟩:=a;refine⟨c.bind d (λη z A=>?_) λη w M=>?_,(L.mono d.1).append l⟩;simp only[CG];exact⟨_,_,z,A,rfl⟩;obtain⟨S1,U,z,A,rfl⟩:=M;refine⟨S1,z,λE G B=>⟨U,by rw[G.kids D];exact A,λN R S V=>?_⟩⟩;simp only[CG];rw[R.mh L,B,V]}
def zpc (m:Md) (Γ:At) (op:Int) (x:Z) (ps:L1 Y) (k q:Int) (kids:L1<|At×Y) (τ:Y) (S:L1 Y):Prop :=
 (∀p,Bd m (Hr p Γ) op x ps (Jh p kids) (AI p τ)<|S.map<|AI p)/\∀p K r u,Bd m (Hr p Γ) op x ps K r u->∃f:Int->Y,∀h,km k p h->(∀n,k<=n->n<q->h n=f n)->Jh h kids=K/\AI h τ=r/\S.map (AI h)=u
def iA {σ:Sb} (h:hQ k σ) (n:Nat):gl k σ (k+n) σ (λη (i:Int)=>if k<=i/\i<k+n then η i else Ay 0) (λ_ (f:Int->Y)=>∀i,¬(k<=i/\i<k+n)->f i=Ay 0):=by refine⟨by omega,⟨by have:=h.1;omega,h.2.1.mono<|by omega,h.2.2⟩,λη p=>⟨p,λi q=>by simp only;rw[ac q]⟩,λη f p u=>?_⟩;have r:km k η λi=>if k<=i/\i<k+n then f i else η i:=λi q=>by{simp only;rw[ac<|by omega]};refine⟨_,r,r.slv h.2.1 p,funext λi=>?_⟩;by_cases e:k<=i/\i<k+n;simp only[ae e];simp only[ac e];exact(u i e).symm
def WK {m:Md} {Γ:At} {op:Int} {x:Z} {ks:G1} {ps:E1} {σ:Sb} {kids:T5} {τ:Y} {S:E1} {r:g7} (h:hQ k σ) (b:zpc m Γ op x ps k (k+j) kids τ S) (P:ka (k+j) kids) (c:CY τ=true) (U:gr (k+j) τ) (V:ja (k+j) S) (W:KI m ks kids (k+j) σ r):Ct m Γ (.mk op n x ks ps) k σ<|r.map λy=>(τ,y.1,y.2.1,y.2.2++S):=by have C:=iA h j;obtain⟨d,e⟩:=b;have z:∀u (w:Y×E1),Do m (.mk op n x ks ps) (Hr u Γ) w.1 w.2->∃f:Int->Y,(∀i,¬(k<=i/\i<k+j)->f i=Ay 0)/\∀p,km k u p->(λi:Int=>if k<=i/\i<k+j then p i else Ay 0)=f->∃S1,Ee m ks (Jh p kids) S1/\AI p τ=w.1/\S1++S.map (AI p)=w.2:=by{intro u w D;obtain⟨K,S1,g,l,o,s⟩:=D;let⟨f,C⟩:=e u K w.1 g l;refine⟨λi=>if k<=i/\i<k+j then f i else Ay 0,λi t=>by simp only;rw[ac t],λp A B=>?_⟩;let⟨E,G,L⟩:=C p A λi M N=>by{have:=congrFun B i;simp only[ae<|And.intro M N]at this;exact this};exact⟨S1,by rw[E];exact o,G,by rw[L,s]⟩};cases r with|none=>refine fm.gv C W λu w D=>?_;let⟨f,f1,f2⟩:=z u w D;exact⟨f,f1,λp A B=>let⟨S1,q,_⟩:=f2 p A B;⟨S1,q⟩⟩|some y=>{obtain⟨Q,v,N3⟩:=y;obtain⟨R,F⟩:=W;refine⟨C.bind R (λu _ H=>?_) λu w I=>?_,c,U.mono R.1,F.append<|V.mono R.1⟩;simp only[CG];exact⟨_,_,_,d u,H,rfl⟩;let⟨f,f1,f2⟩:=z u w I;refine⟨f,f1,λp A B=>?_⟩;let⟨S1,E,G,L⟩:=f2 p A B;refine⟨S1,E,λJ a _ T=>?_⟩;simp only[CG];rw[a.ap U,G,T,a.mh V,L]}
def Gh (m:Md):Prop:=(∀f∈m.cc,Dv (By f.from_ f.kj)=[]/\CY (By f.from_ f.kj)=true)/\∀d∈m.SA,∀c∈d.cons,∀t∈c.args,Dv t=[]/\CY t=true
def zf7 (η:Int->Y):∀(Γ:At) (x:Z),Iz (Hr η Γ) x=(Iz Γ x).map (AI η)
 |[],x=>rfl
 |(y,t)::r,x=>by simp only[Hr,CK,Iz];rw[show r.map (λp=>(p.1,AI η p.2))=Hr η r from rfl,zf7 η r x];cases Iz r x with|some u=>rfl|none=>{simp only[dF];split<;>rfl}
def WY:∀{l:L1 Fd} {x:Z} {t:Y},U9 l x=some t->∃f∈l,t=By f.from_ f.kj
 |f::r,x,t,h=>by simp only[U9]at h;split at h;cases h;exact⟨f,by simp,rfl⟩;let⟨g,p,q⟩:=WY h;exact⟨g,by simp[p],q⟩
def W2 {m:Md} (h:Gh m) (η:Int->Y) (Γ:At) (x:Z):B5 m (Hr η Γ) x=(B5 m Γ x).map (AI η):=by simp only[B5,zf7];cases Iz Γ x with|some t=>rfl|none=>{simp only[dF];cases e:U9 m.cc x with|none=>rfl|some t=>{obtain⟨f,p,rfl⟩:=WY e;simp only[FQ,Is (h.1 f p).1 (h.1 f p).2]}}
def zf6 {k:Int}:∀{Γ:At} {x:Z} {t:Y},ev k Γ->Iz Γ x=some t->CY t=true/\gr k t
 |(y,u)::r,x,t,h,q=>by simp only[Iz]at q;cases e:Iz r x with|some v=>rw[e]at q;cases q;exact zf6 (λp z=>h p<|by simp[z]) e|none=>{rw[e]at q;simp only at q;split at q;cases q;exact h (y,u) (by simp);cases q}
def zf5 {m:Md} (q:Gh m) {Γ:At} {x:Z} {t:Y} (h:ev k Γ) (p:B5 m Γ x=some t):CY t=true/\gr k t:=by simp only[B5]at p;cases e:Iz Γ x with|some u=>rw[e]at p;cases p;exact zf6 h e|none=>{rw[e]at p;obtain⟨f,r,rfl⟩:=WY p;exact⟨(q.1 f r).2,CW (q.1 f r).1 k⟩}
def mL:∀{l:L1 Cd} {x:Z} {c:Cd},SM l x=some c->c∈l
 |c::r,x,d,h=>by simp only[SM]at h;split at h;cases h;simp;exact H4 _<|mL h
def xZ:∀{l:L1 Dt} {x:Z} {c:Cd} {y:Z},HG l x=some (c,y)->∃d∈l,c∈d.cons
 |d::r,x,c,y,h=>by simp only[HG]at h;cases e:SM d.cons x with|some u=>rw[e]at h;cases h;exact⟨d,by simp,mL e⟩|none=>{rw[e]at h;let⟨z,p,q⟩:=xZ h;exact⟨z,by simp[p],q⟩}
def L6 {m:Md} (p:Gh m) {x:Z} {c:Cd} {y:Z} (h:HG m.SA x=some (c,y)):∀t∈c.args,Dv t=[]/\CY t=true:=by let⟨d,q,r⟩:=xZ h;exact p.2 d q c r
def B8 (op:Int) (a:Y):L1 Y×Y×L1 Y :=
 if op=1\/op=25 then([],Be,[])
 else if op=2 then([],CE,[])
 else if op=3\/op=28 then([],EN,[])
 else if op=8 then([CE,a,a],a,[])
 else if op=9\/op=10\/op=11 then([Be,Be],Be,[])
 else if op=12 then([Be,Be],CE,[])
 else if op=13 then([a,a],CE,[a])
 else if op=16 then([a],Lo 5 a,[])
 else if op=17 then([Lo 5 a],a,[])
 else if op=18 then([Lo 5 a,a],EN,[])
 else if op=19 then([By EN a],Lo 7 a,[])
 else if op=20 then([Lo 7 a],a,[])
 else if op=21 then([],Lo 6 a,[])
 else if op=22 then([Lo 6 a,a],EN,[])
 else if op=23 then([Lo 6 a],a,[])
 else if op=24 then([Be],EN,[])
 else([Be],Be,[])
def CU (op:Int):Prop:=op=1\/op=25\/op=2\/op=3\/op=28\/op=8\/op=9\/op=10\/op=11\/op=12\/op=13\/op=16\/op=17\/op=18\/op=19\/op=20\/op=21\/op=22\/op=23\/op=24\/op=26
def Dl (op:Int):Prop:=op=8\/op=13\/op=16\/op=17\/op=18\/op=19\/op=20\/op=21\/op=22\/op=23
@[simp] theorem ap_kInt (h:Int->Y):AI h Be=Be:=by simp[Be,AI,Dq]
@[simp] theorem xz (h:Int->Y):AI h CE=CE:=by simp[CE,AI,Dq]
@[simp] theorem y0 (h:Int->Y):AI h EN=EN:=by simp[EN,AI,Dq]
@[simp] theorem y5 (h:Int->Y) (x:Z):AI h (BQ x)=BQ x:=by simp[BQ,AI,Dq]
@[simp] theorem lu (h:Int->Y) (a b:Y):AI h (By a b)=By (AI h a) (AI h b):=by simp[By,AI,Dq]
def uF (η:Int->Y) (s:Int) (h:s≠9) (a:Y):AI η (Lo s a)=Lo s (AI η a):=by simp[Lo,AI,Dq,h]
@[simp] theorem re (η:Int->Y) (a:Y):AI η (Lo 5 a)=Lo 5 (AI η a):=uF η 5 (by decide) a
@[simp] theorem ap_k6 (η:Int->Y) (a:Y):AI η (Lo 6 a)=Lo 6 (AI η a):=uF η 6 (by decide) a
@[simp] theorem ap_k7 (η:Int->Y) (a:Y):AI η (Lo 7 a)=Lo 7 (AI η a):=uF η 7 (by decide) a
@[simp] theorem y6 (η:Int->Y) (n:Int):AI η (Ay n)=η n:=Dn η n
def zd2 {m:Md} {Γ:At} {op:Int} {x:Z} {ps:E1} (h:CU op) (N:Dl op->k<q) (G:ev k Γ):zpc m Γ op x ps k q ((B8 op<|Ay k).1.map λt=>(Γ,t)) (B8 op<|Ay k).2.1 (B8 op<|Ay k).2.2:=by constructor;{intro D;rcases h with rfl|rfl|rfl|rfl|rfl|rfl|rfl|rfl|rfl|rfl|rfl|rfl|rfl|rfl|rfl|rfl|rfl|rfl|rfl|rfl|rfl<;>simp[Bd,B8,Jh]<;>first|exact⟨_,rfl,rfl⟩|exact⟨_,rfl⟩};intro D K A E r;have B:∀p,km k D p->Hr p Γ=Hr D Γ:=λp u=>u.env G;have C:∀(w:Y),Dl op->(∀p,km k D p->p k=w->Jh p ((B8 op<|Ay k).1.map λt=>(Γ,t))=K/\AI p (B8 op<|Ay k).2.1=A/\(B8 op<|Ay k).2.2.map (AI p)=E)->∃f:Int->Y,∀p,km k D p->(∀n,k<=n->n<q->p n=f n)->Jh p ((B8 op<|Ay k).1.map λt=>(Γ,t))=K/\AI p (B8 op<|Ay k).2.1=A/\(B8 op<|Ay k).2.2.map (AI p)=E:=λw L M=> ⟨λ_=>w,λp u R=>M p u<|R k (PF _)<|N L⟩;have y:(∀p,km k D p->Jh p ((B8 op<|Ay k).1.map λt=>(Γ,t))=K/\AI p (B8 op<|Ay k).2.1=A/\(B8 op<|Ay k).2.2.map (AI p)=E)->∃f:Int->Y,∀p,km k D p->(∀n,k<=n->n<q->p n=f n)->Jh p ((B8 op<|Ay k).1.map λt=>(Γ,t))=K/\AI p (B8 op<|Ay k).2.1=A/\(B8 op<|Ay k).2.2.map (AI p)=E:=λM=> ⟨λ_=>Ay 0,λp u _=>M p u⟩;rcases h with rfl|rfl|rfl|rfl|rfl|rfl|rfl|rfl|rfl|rfl|rfl|rfl|rfl|rfl|rfl|rfl|rfl|rfl|rfl|rfl|rfl;simp[Bd]at r;obtain⟨rfl,rfl,rfl⟩:=r;exact y λp u=>by{simp[B8,Jh]};simp[Bd]at r;obtain⟨rfl,rfl,rfl⟩:=r;exact y λp u=>by{simp[B8,Jh]};simp[Bd]at r;obtain⟨rfl,rfl,rfl⟩:=r;exact y λp u=>by{simp[B8,Jh]};simp[Bd]at r;obtain⟨rfl,rfl,rfl⟩:=r;exact y λp u=>by{simp[B8,Jh]};simp[Bd]at r;obtain⟨rfl,rfl,rfl⟩:=r;exact y λp u=>by{simp[B8,Jh]};simp[Bd]at r;obtain⟨rfl,rfl⟩:=r;exact C A (by simp[Dl]) λp u z=>by{simp[B8,Jh,B p u,z]};simp[Bd]at r;obtain⟨rfl,rfl,rfl⟩:=r;exact y λp u=>by{simp[B8,Jh,B p u]};simp[Bd]at r;obtain⟨rfl,rfl,rfl⟩:=r;exact y λp u=>by{simp[B8,Jh,B p u]};simp[Bd]at r;obtain⟨rfl,rfl,rfl⟩:=r;exact y λp u=>by{simp[B8,Jh,B p u]};simp[Bd]at r;obtain⟨rfl,rfl,rfl⟩:=r;exact y λp u=>by{simp[B8,Jh,B p u]};simp[Bd]at r;obtain⟨a,rfl,rfl,rfl⟩:=r;exact C a (by simp[Dl]) λp u z=>by{simp[B8,Jh,B p u,z]};simp[Bd]at r;obtain⟨a,rfl,rfl,rfl⟩:=r;exact C a (by simp[Dl]) λp u z=>by{simp[B8,Jh,B p u,z]};simp[Bd]at r;obtain⟨rfl,rfl⟩:=r;exact C A (by simp[Dl]) λp u z=>by{simp[B8,Jh,B p u,z]};simp[Bd]at r;obtain⟨⟨a,rfl⟩,rfl,rfl⟩:=r;exact C a (by simp[Dl]) λp u z=>by{simp[B8,Jh,B p u,z]};simp[Bd]at r;obtain⟨a,rfl,rfl,rfl⟩:=r;exact C a (by simp[Dl]) λp u z=>by{simp[B8,Jh,B p u,z]};simp[Bd]at r;obtain⟨rfl,rfl⟩:=r;exact C A (by simp[Dl]) λp u z=>by{simp[B8,Jh,B p u,z]};simp[Bd]at r;obtain⟨rfl,⟨a,rfl⟩,rfl⟩:=r;exact C a (by simp[Dl]) λp u z=>by{simp[B8,Jh,B p u,z]};simp[Bd]at r;obtain⟨⟨a,rfl⟩,rfl,rfl⟩:=r;exact C a (by simp[Dl]) λp u z=>by{simp[B8,Jh,B p u,z]};simp[Bd]at r;obtain⟨rfl,rfl⟩:=r;exact C A (by simp[Dl]) λp u z=>by{simp[B8,Jh,B p u,z]};simp[Bd]at r;obtain⟨rfl,rfl,rfl⟩:=r;exact y λp u=>by{simp[B8,Jh,B p u]};simp[Bd]at r;obtain⟨rfl,rfl,rfl⟩:=r;exact y λp u=>by{simp[B8,Jh,B p u]}
def gl.lower {σ p:Sb} {v:(Int->Y)->β} {G:(Int->Y)->β->Prop} (h:gl k0 σ q p v G) (D:k<=k0):gl k σ q p v G:=by obtain⟨E,y,z,A⟩:=h;refine⟨by omega,y,z,λB w r C=>?_⟩;let⟨u,f1,f2,f3⟩:=A B w r C;exact⟨u,λn K=>f1 n<|by omega,f2,f3⟩
def kS {a b:Y} (p:gr k a) (q:gr k b):gr k<|By a b:=λm h=>by
 simp[By,Dv,D4]at h;exact h.elim (p m)<|q m
def wZ (p:s≠9) {a:Y} (q:gr k a):gr k<|Lo s a:=λm h=>by
 simp[Lo,Dv,D4,p]at h;exact q m h
def uI {a b:Y} (h:CY a=true) (p:CY b=true):CY (By a b)=true:=by simp[By,CY,GT,h,p]
def zc9 (h:s≠9) (p:s≠0) {a:Y} (q:CY a=true):CY (Lo s a)=true:=by simp[Lo,CY,GT,q,h,p]
def zg1 {m:Md} (p:Gh m) {Γ:At} {x:Z} {ps:E1} {σ:Sb} (h:hQ k σ) (q:ev k Γ):Ct m Γ (.mk 4 n x [] ps) k σ<|(B5 m Γ x).map λτ=>(τ,k,σ,[]):=by cases e:B5 m Γ x with|none=>intro C w _ ⟨K,S1,D,r,u,G⟩;simp[Bd,W2 p,e]at r|some τ=>{let⟨r,u⟩:=zf5 p q e;refine⟨NZ h λC w=>?_,r,u,λt E=>by cases E⟩;constructor;rintro ⟨K,S1,D,y,z,A⟩;simp[Bd,W2 p,e]at y;obtain⟨rfl,B,rfl⟩:=y;simp only[Ee]at z;subst z;obtain⟨L,M⟩:=w;simp only at A B ⊢;rw[A,B];rfl;rintro rfl;exact⟨[],[],[],by simp[Bd,W2 p,e],rfl,rfl⟩}
def dY {m:Md} {Γ:At} {x:Z} {ks:G1} {ps:E1} {σ:Sb} (h:HG m.SA x=none):Ct m Γ (.mk 14 n x ks ps) k σ none:=by intro q w _ ⟨K,S1,r,p,_⟩;simp[Bd,h]at p
def ci:=@Function.comp_def
def dZ {m:Md} (M:Gh m) {Γ:At} {x y:Z} {c:Cd} {ks:G1} {ps:E1} {σ:Sb} {r:g7} (N:hQ k σ) (B:ev k Γ) (h:HG m.SA x=some (c,y)) (R:KI m ks (c.args.map λt=>(Γ,t)) k σ r):Ct m Γ (.mk 14 n x ks ps) k σ<|r.map λz=>(BQ y,z):=by have A:=L6 M h;have S:∀q,c.args.map (λt=>(Hr q Γ,AI q t))=c.args.map λt=>(Hr q Γ,t):=λq=>Mc λt u=>by{rw[Is (A t u).1 (A t u).2]};have C:=WK (m:=m) (Γ:=Γ) (op:=14) (n:=n) (x:=x) (ks:=ks) (ps:=ps) (j:=0) (kids:=c.args.map λt=>(Γ,t)) (τ:=BQ y) (S:=[]) (r:=r) N ⟨λq=>?_,λq K T V D=>?_⟩ (λp U=>?_) (by rfl) (CW O _) (λt u=>by cases u) (by simpa using R);cases r with|none=>exact C|some z=>{simpa using C};simp only[Bd,h];simp[Jh,ci,S q];exact⟨_,_,⟨rfl,rfl⟩,rfl,rfl⟩;simp only[Bd,h]at D;simp at D;obtain⟨_,_,⟨rfl,rfl⟩,rfl,rfl,rfl⟩:=D;exact⟨λ_=>Ay 0,λE G _=>by{simp[Jh,ci,G.env B];exact λa L=>Is (A a L).1 (A a L).2 E}⟩;obtain⟨t,u,rfl⟩:=CC.1 U;exact⟨by simpa using B,(A t u).2,CW (A t u).1 _⟩
abbrev j0:=Option (Y×Int×Sb×E1)
def wX {m:Md} {Γ:At} {x:Z} {t:Tm} {ps:E1} {σ:Sb} {r:j0} (G:hQ k σ) (q:ev k Γ) (L:Ct m (Γ++[(x,Ay k)]) t (k+1) σ r):Ct m Γ (.mk 5 n x [t] ps) k σ<|r.map λz=>(By (Ay k) z.1,z.2):=by have M:=RO G;have u:∀h (w:Y×E1),Do m (.mk 5 n x [t] ps) (Hr h Γ) w.1 w.2->∃a b,w.1=By a b/\Do m t (Hr h Γ++[(x,a)]) b w.2:=by{rintro h ⟨c,d⟩ ⟨K,S1,H,R,e,S⟩;simp[Bd]at R;obtain⟨a,b,rfl,rfl,rfl⟩:=R;obtain⟨I,J,f,T,U⟩:=e;simp only[Ee]at T;subst T;simp at S U;subst S;subst U;exact⟨a,b,rfl,f⟩};cases r with|none=>refine fm.gv M L λh w B=>?_;let⟨a,b,_,C⟩:=u h w B;exact⟨a,ab,λD E y=>⟨(b,w.2),by rw[Jt,Dn,y,E.env q];exact C⟩⟩|some z=>{obtain⟨b,A,i,N⟩:=z;obtain⟨V,C,j,l⟩:=L;have P:=V.1;refine⟨M.bind V (λh _ g=>?_) λh w B=>?_,uI O C,kS (N0 ⟨G.1,by omega⟩) j,l⟩;rw[Jt,Dn]at g;exact⟨[(Hr h Γ++[(x,h k)],AI h b)],N.map<|AI h,[],by simp[Bd];exact⟨_,_,⟨rfl,rfl⟩,rfl⟩,⟨N.map<|AI h,[],g,rfl,by simp⟩,by simp⟩;let⟨a,o,W,s⟩:=u h w B;refine⟨a,ab,λD E y=>⟨(o,w.2),by rw[Jt,Dn,y,E.env q];exact s,λv F _ p=>?_⟩⟩;simp only[AP]at p;obtain⟨c,d⟩:=w;simp only at W p ⊢;rw[lu,Dn,F k<|by omega,y,p.1,p.2,W]}
def wW {m:Md} {Γ:At} {x:Z} {t0 t1:Tm} {ps:E1} {σ C:Sb} {p:Y} {G:E1} {r:j0} (i:k<=k0) (D:ev k Γ) (j:Ct m Γ t0 k0 σ<|some (p,q,C,G)) (U:Ct m (Γ++[(x,p)]) t1 q C r):Ct m Γ (.mk 7 n x [t0,t1] ps) k σ<|r.map λz=>(z.1,z.2.1,z.2.2.1,G++z.2.2.2):=by obtain⟨l,a2,a3,V⟩:=j;have L:=l.lower i;have o:=L.1;have E:∀h (w:Y×E1),Do m (.mk 7 n x [t0,t1] ps) (Hr h Γ) w.1 w.2->∃a S1 y,Do m t0 (Hr h Γ) a S1/\Do m t1 (Hr h Γ++[(x,a)]) w.1 y/\w.2=S1++y:=by{rintro h ⟨s,t⟩ ⟨K,S1,y,W,v,b⟩;simp[Bd]at W;obtain⟨⟨a,rfl⟩,rfl⟩:=W;obtain⟨F,H,I,⟨T3,T4,J,c,d⟩,P⟩:=v;simp only[Ee]at c;subst c;simp at b d;subst d;subst P;subst b;exact⟨a,F,H,I,J,rfl⟩};cases r with|none=>refine fm.gv L U λh w M=>?_;let⟨a,S1,y,N,R,_⟩:=E h w M;refine⟨(a,S1),N,λS T B=>⟨(w.1,y),?_⟩⟩;simp only[AP]at B;rw[Jt,B.1,T.env D];exact R|some z=>{obtain⟨τ,A,Q,N2⟩:=z;obtain⟨e,h2,h3,h4⟩:=U;refine⟨L.bind e (λh g1 f=>?_) λh w M=>?_,h2,h3,(V.mono e.1).append h4⟩;rw[Jt]at f;simp only[CG];exact⟨[(Hr h Γ,AI h p),(Hr h Γ++[(x,AI h p)],AI h τ)],G.map (AI h)++N2.map (AI h),[],by simp[Bd],⟨_,_,g1,⟨_,[],f,rfl,rfl⟩,by simp⟩,by simp⟩;let⟨a,S1,y,N,R,g⟩:=E h w M;refine⟨(a,S1),N,λS T B=>?_⟩;simp only[AP]at B;refine⟨(w.1,y),by rw[Jt,B.1,T.env D];exact R,λη2 hb _ u=>?_⟩;simp only[AP]at u;obtain⟨s,t⟩:=w;simp only at g u ⊢;rw[u.1,g,CG,hb.mh V,B.2,u.2]}
def dX {m:Md} {Γ:At} {x:Z} {t0 t1:Tm} {ps:E1} {σ:Sb} (p:Ct m Γ t0 k0 σ none):Ct m Γ (.mk 7 n x [t0,t1] ps) k σ none:=by refine fm.first p λz w q=>?_;obtain⟨K,S1,A,h,r,B⟩:=q;simp[Bd]at h;obtain⟨⟨a,rfl⟩,rfl⟩:=h;obtain⟨u,C,y,_⟩:=r;exact⟨(a,u),y⟩
def PW (m:Md) (p τ:Y) (Γ:At) (k:Int) (σ:Sb):Option (At×Sb)->Prop
 |some (q,r)=>gl k σ k r (λh=>Hr h q) (λh u=>Hv m p (AI h τ) (Hr h Γ) u)/\ev k q
 |none=>fm σ (β:=At) λh u=>Hv m p (AI h τ) (Hr h Γ) u
def XM (m:Md) (ps ts:L1 Y) (Γ:At) (k:Int) (σ:Sb):Option (At×Sb)->Prop
 |some (p,q)=>gl k σ k q (λh=>Hr h p) (λh r=>KG m ps (ts.map<|AI h) (Hr h Γ) r)/\ev k p
 |none=>fm σ (β:=At) λh r=>KG m ps (ts.map<|AI h) (Hr h Γ) r
def zez {m:Md} {x:Z} {ps:E1} {τ:Y} {Γ:At} {σ:Sb} (h:hQ k σ) (p:ev k Γ) (q:CY τ=true) (r:gr k τ):PW m (.mk 2 n x ps) τ Γ k σ<|some (Γ++[(x,τ)],σ):=⟨NZ h λu w=>by simp[Hv,Jt],p.add q r⟩
def zj9 {m:Md} {f:Int} {x:Z} {ps:E1} {τ:Y} {Γ:At} {σ:Sb} (h:hQ k σ) (p:ev k Γ) (q:f≠2/\f≠3/\f≠4/\f≠5/\f≠6):PW m (.mk f n x ps) τ Γ k σ<|some (Γ,σ):=⟨NZ h λr w=>by simp[Hv,q],p⟩
def U5 (f:Int):Y:=if f=3 then Be else if f=4 then CE else EN
def vY {m:Md} {f:Int} {x:Z} {ps:E1} {τ:Y} {Γ:At} {σ:Sb} {r:g5} (q:ev k Γ) (A:f=3\/f=4\/f=5) (z:match r with|some h=>gl k σ k h (λ_=>()) (λη _=>AI η τ=AI η (U5 f))|none=>fm σ (β:=Unit) λη _=>AI η τ=AI η (U5 f)):PW m (.mk f n x ps) τ Γ k σ<|r.map λh=>(Γ,h):=by have p:∀η u,Hv m (.mk f n x ps) (AI η τ) (Hr η Γ) u↔AI η τ=AI η (U5 f)/\u=Hr η Γ:=λη u=>by{rcases A with rfl|rfl|rfl<;>simp[Hv,U5]};cases r with|none=>exact fm.first z λη w y=>⟨(),((p η w).1 y).1⟩|some h=>{refine⟨z.weaken (λη g=>(p η _).2 ⟨g,rfl⟩) λη w y=>?_,q⟩;obtain⟨B,C⟩:=(p η w).1 y;exact⟨(),B,λD E _=>by rw[E.env q,C]⟩}
def Qz {m:Md} {x:Z} {ps:E1} {τ:Y} {Γ:At} {σ:Sb} (h:HG m.SA x=none\/∃c y,HG m.SA x=some (c,y)/\c.args.length≠ps.length):PW m (.mk 6 n x ps) τ Γ k σ none:=by intro z w _ q;simp only[Hv]at q;simp at q;obtain⟨c,d,p,r,_⟩:=q;rcases h with h|⟨A,y,h,u⟩;rw[h]at p;cases p;rw[h]at p;cases p;exact u r
def pO {m:Md} {x y:Z} {c:Cd} {ps:E1} {τ:Y} {Γ:At} {σ:Sb} (h:HG m.SA x=some (c,y)) (q:fm σ (β:=Unit) λη _=>AI η τ=AI η (BQ y)):PW m (.mk 6 n x ps) τ Γ k σ none:=by refine fm.first q λη w p=>⟨(),?_⟩;simp only[Hv]at p;simp[h]at p;obtain⟨_,_,⟨rfl,rfl⟩,_,r,_⟩:=p;simpa using r
def wC {m:Md} (V:Gh m) {x y:Z} {c:Cd} {ps:E1} {τ:Y} {Γ:At} {σ u:Sb} {r:Option<|At×Sb} (h:HG m.SA x=some (c,y)) (W:c.args.length=ps.length) (A:ev k Γ) (N:gl k σ k u (λ_=>()) λη _=>AI η τ=AI η (BQ y)) (R:XM m ps c.args Γ k u r):PW m (.mk 6 n x ps) τ Γ k σ r:=by have S:=L6 V h;have B:∀η,c.args.map (AI η)=c.args:=λη=>(Mc (g:=id) λt T=>Is (S t T).1 (S t T).2 η).trans<|List.map_id _;have p:∀η C,Hv m (.mk 6 n x ps) (AI η τ) (Hr η Γ) C↔AI η τ=AI η (BQ y)/\KG m ps c.args (Hr η Γ) C:=λη C=>by{simp only[Hv];simp[h];constructor;rintro ⟨_,_,⟨rfl,rfl⟩,_,D,E⟩;exact⟨D,E⟩;rintro ⟨D,E⟩;exact⟨_,_,⟨rfl,rfl⟩,W,D,E⟩};cases r with|none=>refine fm.gv N R λη w G=>?_;obtain⟨K,L⟩:=(p η w).1 G;exact⟨(),K,λM q _=>⟨w,by rw[B,q.env A];exact L⟩⟩|some z=>{obtain⟨a,b⟩:=z;obtain⟨d,e⟩:=R;refine⟨N.bind d (λη f U=>(p η _).2 ⟨f,by rw[B]at U;exact U⟩) λη w G=>?_,e⟩;obtain⟨K,L⟩:=(p η w).1 G;exact⟨(),K,λM q _=>⟨w,by rw[B,q.env A];exact L,λg _ _ i=>i⟩⟩}
def zey {m:Md} {Γ:At} {σ:Sb} (h:hQ k σ) (p:ev k Γ):XM m [] [] Γ k σ<|some (Γ,σ):=⟨NZ h λq w=>by simp[KG],p⟩
def zaf {m:Md} {p t:Y} {ps ts:E1} {Γ:At} {σ:Sb} (h:PW m p t Γ k σ none):XM m (p::ps) (t::ts) Γ k σ none:=fm.first h λy w q=>let⟨r,u,_⟩:=q;⟨r,u⟩
def Zm {m:Md} {p t:Y} {ps ts:E1} {Γ q:At} {σ u:Sb} {r:Option<|At×Sb} (L:ja k ts) (h:PW m p t Γ k σ<|some (q,u)) (M:XM m ps ts q k u r):XM m (p::ps) (t::ts) Γ k σ r:=by obtain⟨N,c⟩:=h;cases r with|none=>refine fm.gv N M λR w y=>?_;obtain⟨A,B,C⟩:=y;exact⟨A,B,λD E G=>⟨w,by rw[G,E.mh L];exact C⟩⟩|some z=>{obtain⟨S,T⟩:=z;obtain⟨U,V⟩:=M;refine⟨N.bind U (λR W a=>⟨_,W,a⟩) λR w y=>?_,V⟩;obtain⟨A,B,C⟩:=y;exact⟨A,B,λD E G=>⟨w,by rw[G,E.mh L];exact C,λb _ _ K=>K⟩⟩}
def Pk (m:Md) (b a:Y) (Γ:At) (ps:L1 Y) (ts:L1 Tm) (k:Int) (σ:Sb):Option (Int×Sb×L1 Y)->Prop
 |some (k',p,N)=>gl k σ k' p (λh=>N.map<|AI h) (λh S=>∃l,HU m (AI h b) (Hr h Γ) ps l/\Ee m ts (l.map λq=>(q,AI h a)) S)/\ja k' N
 |none=>fm σ (β:=L1 Y) (λh S=>∃l,HU m (AI h b) (Hr h Γ) ps l/\Ee m ts (l.map λq=>(q,AI h a)) S)
def zea {m:Md} {b a:Y} {Γ:At} {σ:Sb} (h:hQ k σ):Pk m b a Γ [] [] k σ<|some (k,σ,[]):=⟨NZ h λq w=>by simp[HU,Ee],λt p=>by cases p⟩
def La {m:Md} {b a:Y} {Γ:At} {p:Y} {ps:E1} {t:Tm} {ts:G1} {η:Int->Y} {S:E1}:(∃l,HU m (AI η b) (Hr η Γ) (p::ps) l/\Ee m (t::ts) (l.map λh=>(h,AI η a)) S)↔∃h S1 q,Hv m p (AI η b) (Hr η Γ) h/\Do m t h (AI η a) S1/\(∃l,HU m (AI η b) (Hr η Γ) ps l/\Ee m ts (l.map λh=>(h,AI η a)) q)/\S=S1++q:=by constructor;rintro ⟨l,⟨h,l1,r,u,rfl⟩,S1,q,y,z,A⟩;exact⟨h,S1,q,r,y,⟨l1,u,z⟩,A⟩;rintro ⟨h,S1,q,r,y,⟨l1,u,z⟩,A⟩;exact⟨h::l1,⟨h,l1,r,u,rfl⟩,S1,q,y,z,A⟩
def Yb {m:Md} {b a:Y} {Γ:At} {p:Y} {ps:E1} {t:Tm} {ts:G1} {σ:Sb} (h:PW m p b Γ k σ none):Pk m b a Γ (p::ps) (t::ts) k σ none:=fm.first h λy w q=>let⟨r,_,_,u,_⟩:=La.1 q;⟨r,u⟩
def Uz {m:Md} {b a:Y} {Γ q:At} {p:Y} {ps:E1} {t:Tm} {ts:G1} {σ r:Sb} (h:PW m p b Γ k σ<|some (q,r)) (u:Ct m q t k r none):Pk m b a Γ (p::ps) (t::ts) k σ none:=fm.gv h.1 u λy w z=>let⟨A,S1,G,B,C,_⟩:=La.1 z;⟨A,B,λD K E=>⟨(AI y a,S1),by rw[E];exact C⟩⟩
def zj3 {m:Md} {b a τ:Y} {Γ y:At} {p:Y} {t:Tm} {σ z r B:Sb} {N:E1} (U:gr k a) (h:PW m p b Γ k σ<|some (y,z)) (V:Ct m y t k z<|some (τ,A,r,N)) (W:gl A r A B (λ_=>()) λη _=>AI η τ=AI η a):gl k σ A B (λη=>N.map<|AI η) (λη S=>∃q,Hv m p (AI η b) (Hr η Γ) q/\Do m t q (AI η a) S):=by obtain⟨c,_⟩:=h;obtain⟨d,j,l,e⟩:=V;have f:gl k σ A r (λη=>(AI η τ,N.map<|AI η)) (λη w=>∃q,Hv m p (AI η b) (Hr η Γ) q/\Do m t q w.1 w.2):=c.bind d (λη D E=>⟨_,D,E⟩) λη w G=>let⟨q,K,L⟩:=G;⟨q,K,λM C u=>⟨w,by rw[u];exact L,λR _ _ T=>T⟩⟩;refine f.bind W (λη ⟨q,D,E⟩ g=>⟨q,D,by rw[<- g];exact E⟩) λη w G=>?_;obtain⟨q,K,L⟩:=G;refine⟨(AI η a,w),⟨q,K,L⟩,λM C u=>⟨(),?_,λR i _ _=>?_⟩⟩;simp only[AP]at u;rw[u.1,C.ap U];simp only[AP]at u;rw[i.mh e,u.2]
def cF {m:Md} {b a τ:Y} {Γ u:At} {p:Y} {ps:E1} {t:Tm} {ts:G1} {σ y q:Sb} {N:E1} (K:gr k a) (h:PW m p b Γ k σ<|some (u,y)) (L:Ct m u t k y<|some (τ,A,q,N)) (M:fm q (β:=Unit) λη _=>AI η τ=AI η a):Pk m b a Γ (p::ps) (t::ts) k σ none:=by have R:gl k σ A q (λη=>(AI η τ,N.map<|AI η)) (λη w=>∃r,Hv m p (AI η b) (Hr η Γ) r/\Do m t r w.1 w.2):=h.1.bind L.1 (λη S T=>⟨_,S,T⟩) λη w U=>let⟨r,C,D⟩:=U;⟨r,C,λE z B=>⟨w,by rw[B];exact D,λV _ _ G=>G⟩⟩;refine fm.gv R M λη w W=>?_;let⟨r,S1,c,C,D,_⟩:=La.1 W;refine⟨(AI η a,S1),⟨r,C,D⟩,λE z B=>⟨(),?_⟩⟩;simp only[AP]at B;rw[B.1,z.ap K]
def Zb {m:Md} {b a τ:Y} {Γ u:At} {p:Y} {ps:E1} {t:Tm} {ts:G1} {σ y B C:Sb} {N:E1} {r:g7} (G:gr k a) (V:gr k b) (D:ev k Γ) (h:PW m p b Γ k σ<|some (u,y)) (W:Ct m u t k y<|some (τ,A,B,N)) (g:gl A B A C (λ_=>()) λη _=>AI η τ=AI η a) (c:Pk m b a Γ ps ts A C r):Pk m b a Γ (p::ps) (t::ts) k σ<|r.map λx=>(x.1,x.2.1,N++x.2.2):=by have d:=zj3 G h W g;have e:=W.2.2.2;cases r with|none=>refine fm.gv d c λη w i=>?_;let⟨E,S1,K,L,M,R,_⟩:=La.1 i;exact⟨S1,⟨E,L,M⟩,λS q _=>⟨K,by rw[q.ap V,q.ap G,q.env D];exact R⟩⟩|some z=>{obtain⟨I,j,J⟩:=z;obtain⟨f,l⟩:=c;refine⟨d.bind f (λη ⟨E,n,o⟩ s=>?_) λη w v=>?_,(e.mono f.1).append l⟩;simp only[CG];exact La.2 ⟨E,_,_,n,o,s,rfl⟩;obtain⟨E,S1,K,L,M,R,rfl⟩:=La.1 v;refine⟨S1,⟨E,L,M⟩,λS q F=>⟨K,by rw[q.ap V,q.ap G,q.env D];exact R,λH T _ U=>?_⟩⟩;simp only[CG];rw[T.mh e,F,U]}
def Oe {m:Md} {Γ:At} {x:Z} {t0:Tm} {ts:G1} {ps:E1} {τ:Y} {S:E1}:Do m (.mk 15 n x (t0::ts) ps) Γ τ S↔∃b S1 h,Do m t0 Γ b S1/\(∃l,HU m b Γ ps l/\Ee m ts (l.map λp=>(p,τ)) h)/\S=S1++h:=by constructor;rintro ⟨K,S1,h,y,z,rfl⟩;simp[Bd]at y;obtain⟨a,l,q,rfl,rfl⟩:=y;obtain⟨A,B,r,u,rfl⟩:=z;exact⟨a,A,B,r,⟨l,q,u⟩,by simp⟩;rintro ⟨b,S1,h,q,⟨l,r,u⟩,rfl⟩;exact⟨(Γ,b)::l.map λp=>(p,τ),S1++h,[],by simp only[Bd];simp;exact⟨b,l,r,rfl,rfl⟩,⟨S1,h,q,u,rfl⟩,by simp⟩
def WL {m:Md} {Γ:At} {x:Z} {t0:Tm} {ts:G1} {ps:E1} {σ:Sb} (h:Ct m Γ t0 k0 σ none):Ct m Γ (.mk 15 n x (t0::ts) ps) k σ none:=fm.first h λr w p=>let⟨b,S1,_,q,_⟩:=Oe.1 p;⟨(b,S1),q⟩
def qD {m:Md} {Γ:At} {x:Z} {t0:Tm} {ts:G1} {ps:E1} {h:Int} {σ u:Sb} {b:Y} {D:E1} {r:g7} (y:ev k Γ) (S:0<=h/\h<q) (T:ja q D) (j:gr q b) (U:gl k σ q u (λη=>(η h,AI η b,D.map<|AI η)) λη (w:Y×Y×E1)=>Do m t0 (Hr η Γ) w.2.1 w.2.2) (V:Pk m b (Ay h) Γ ps ts q u r):Ct m Γ (.mk 15 n x (t0::ts) ps) k σ<|r.map λz=>(Ay h,z.1,z.2.1,D++z.2.2):=by cases r with|none=>refine fm.gv U V λη w a=>?_;let⟨E,S1,G,K,L,_⟩:=Oe.1 a;refine⟨(w.1,E,S1),K,λM N p=>⟨G,?_⟩⟩;simp only[AP]at p;rw[p.2.1,Dn,p.1,N.env y];exact L|some z=>{obtain⟨A,c,l⟩:=z;obtain⟨R,d⟩:=V;refine⟨U.bind R (λη e f=>?_) λη w g=>?_,rfl,(N0 S).mono R.1,(T.mono R.1).append d⟩;simp only[CG];exact Oe.2 ⟨_,_,_,e,f,rfl⟩;let⟨E,S1,G,K,L,W⟩:=Oe.1 g;refine⟨(w.1,E,S1),K,λM N p=>?_⟩;simp only[AP]at p;refine⟨G,by rw[p.2.1,Dn,p.1,N.env y];exact L,λi B _ C=>?_⟩;obtain⟨o,s⟩:=w;simp only at W p C ⊢;rw[Dn,B h S.2,p.1,CG,B.mh T,p.2.2,C,W]}
def Pc {m:Md} {Γ:At} {x:Z} {t0:Tm} {ts:G1} {ps:E1} {σ h:Sb} {b:Y} {B:E1} {r:g7} (u:ev k Γ) (K:Ct m Γ t0 k σ<|some (b,q,h,B)) (L:Pk m b (Ay q) Γ ps ts (q+1) h r):Ct m Γ (.mk 15 n x (t0::ts) ps) k σ<|r.map λz=>(Ay q,z.1,z.2.1,B++z.2.2):=by obtain⟨C,T,D,E⟩:=K;have p:=C.2.1;refine qD u ⟨p.1,by omega⟩ (E.mono<|by omega) (D.mono<|by omega) ?_ L;refine C.bind (RO p) (λM g _=>g) λM w N=>⟨w.2,N,λR U y=>⟨w.1,ab,λS G _ A=>?_⟩⟩;obtain⟨V,W,a⟩:=w;simp only[AP]at y ⊢;exact⟨A,by rw[G.ap D,y.1],by rw[G.mh E,y.2]⟩
def zI {m:Md} {Γ:At} {x:Z} {ps:E1} (u:k<q) (h:ev k Γ):zpc m Γ 27 x ps k q [(Γ++[(x,By (Ay k) Be)],Be)] (Ay k) []:=by refine⟨λy=>by simp[Bd,Jh,Jt],λy K p C r=>?_⟩;simp[Bd]at r;obtain⟨rfl,rfl⟩:=r;exact⟨λ_=>p,λz A B=>by simp[Jh,Jt,A.env h,B k (PF _) u]⟩
def L8 {m:Md} {Γ:At} {x:Z} {t0 t1:Tm} {ps:E1} {τ:Y} {S:E1}:Do m (.mk 6 n x [t0,t1] ps) Γ τ S↔∃a S1 h,Do m t0 Γ (By a τ) S1/\Do m t1 Γ a h/\S=S1++h:=by constructor;rintro ⟨K,S1,h,r,y,rfl⟩;simp[Bd]at r;obtain⟨⟨a,rfl⟩,rfl⟩:=r;obtain⟨z,D,p,⟨A,E,q,u,B⟩,C⟩:=y;simp only[Ee]at u;subst u;subst B;subst C;exact⟨a,z,A,p,q,by simp⟩;rintro ⟨a,S1,h,p,q,rfl⟩;exact⟨[(Γ,By a τ),(Γ,a)],S1++h,[],by simp[Bd],⟨S1,h,p,⟨h,[],q,rfl,by simp⟩,rfl⟩,by simp⟩
def fO {m:Md} {Γ:At} {t0 t1:Tm} {σ p r:Sb} {f a:Y} {z B:E1} (u:ev k Γ) (E:Ct m Γ t0 k σ<|some (f,q,p,z)) (G:Ct m Γ t1 q p<|some (a,A,r,B)):gl k σ A r (λη=>(AI η f,AI η a,z.map<|AI η,B.map<|AI η)) λη (w:Y×Y×E1×E1)=>Do m t0 (Hr η Γ) w.1 w.2.2.1/\Do m t1 (Hr η Γ) w.2.1 w.2.2.2:=by obtain⟨K,V,L,M⟩:=E;refine K.bind G.1 (λη N R=>⟨N,R⟩) λη w C=>⟨(w.1,w.2.2.1),C.1,λS T y=>⟨(w.2.1,w.2.2.2),by rw[T.env u];exact C.2,λU D _ h=>?_⟩⟩;obtain⟨W,b,c,d⟩:=w;simp only[AP]at y h ⊢;exact⟨by rw[D.ap L,y.1],h.1,by rw[D.mh M,y.2],h.2⟩
def zgq {m:Md} {Γ:At} {t:Tm} {σ:Sb} {p:Tm} (h:Ct m Γ t k0 σ none) (q:∀η (w:Y×E1),Do m p (Hr η Γ) w.1 w.2->∃a S,Do m t (Hr η Γ) a S):Ct m Γ p k σ none:=fm.first h λη w r=>let⟨a,S,u⟩:=q η w r;⟨(a,S),u⟩
def za8 {m:Md} {Γ:At} {t0 t1 u:Tm} {σ h:Sb} {f:Y} {y:E1} (p:ev k Γ) (z:Ct m Γ t0 k σ<|some (f,q,h,y)) (r:Ct m Γ t1 q h none) (A:∀η (w:Y×E1),Do m u (Hr η Γ) w.1 w.2->(∃a S,Do m t0 (Hr η Γ) a S)/\∃a S,Do m t1 (Hr η Γ) a S):Ct m Γ u k σ none:=fm.gv z.1 r λη w B=>let⟨⟨a,S,r⟩,b,C,D⟩:=A η w B;⟨(a,S),r,λE G _=>⟨(b,C),by rw[G.env p];exact D⟩⟩
def Pd {m:Md} {Γ:At} {x:Z} {t0 t1:Tm} {ps:E1} {σ B p:Sb} {f a:Y} {G K:E1} {r:g5} (L:ev k Γ) (b:Ct m Γ t0 k σ<|some (f,q,B,G)) (c:Ct m Γ t1 q B<|some (a,A,p,K)) (d:match r with|some u=>gl (A+1) p (A+1) u (λ_=>()) (λη _=>AI η f=AI η (By a<|Ay A))|none=>fm p (β:=Unit) λη _=>AI η f=AI η (By a<|Ay A)):Ct m Γ (.mk 6 n x [t0,t1] ps) k σ<|r.map λu=>(Ay A,A+1,u,G++K):=by have e:=fO L b c;have C:=e.2.1;obtain⟨_,_,f3,f4⟩:=b;obtain⟨i,_,v,M⟩:=c;have N:=f3.mono i.1;have z:=f4.mono i.1;have j:gl k σ (A+1) p (λη=>(η A,AI η f,AI η a,G.map<|AI η,K.map<|AI η)) λη (w:Y×Y×Y×E1×E1)=>Do m t0 (Hr η Γ) w.2.1 w.2.2.2.1/\Do m t1 (Hr η Γ) w.2.2.1 w.2.2.2.2:=e.bind (RO C) (λη g _=>g) λη w R=>⟨w.2,R,λD l h=>⟨w.1,ab,λS y _ T=>by{obtain⟨F,H,J,P,Q⟩:=w;simp only[AP]at h ⊢;exact⟨T,by rw[y.ap N,h.1],by rw[y.ap v,h.2.1],by rw[y.mh z,h.2.2.1],by rw[y.mh M,h.2.2.2]⟩}⟩⟩;cases r with|none=>refine fm.gv j d λη w I=>?_;let⟨E,S1,U,V,W,_⟩:=L8.1 I;refine⟨(w.1,By E w.1,E,S1,U),⟨V,W⟩,λD l h=>⟨(),?_⟩⟩;simp only[AP]at h;rw[lu,Dn,h.1,h.2.1,h.2.2.1]|some u=>{refine⟨j.bind d (λη o s=>?_) λη w R=>?_,rfl,N0 ⟨C.1,by omega⟩,(z.append M).mono<|by omega⟩;simp only[CG];rw[lu,Dn]at s;exact L8.2 ⟨_,_,_,by rw[Dn,<- s];exact o.1,o.2,rfl⟩;let⟨E,S1,U,V,W,t⟩:=L8.1 R;refine⟨(w.1,By E w.1,E,S1,U),⟨V,W⟩,λD l h=>?_⟩;simp only[AP]at h;refine⟨(),by rw[lu,Dn,h.1,h.2.1,h.2.2.1],λS y _ _=>?_⟩;obtain⟨F,H⟩:=w;simp only at h t ⊢;rw[Dn,y A<|by omega,h.1,CG,y.mh<|z.mono<|by omega,y.mh<|M.mono<|by omega,h.2.2.2.1,h.2.2.2.2,t]}
def Su {m:Md} {Γ:At} {x:Z} {t0 t1 t2:Tm} {ps:E1} {τ:Y} {S:E1}:Do m (.mk 8 n x [t0,t1,t2] ps) Γ τ S↔∃S1 h p,Ee m [t0] [(Γ,CE)] S1/\Do m t1 Γ τ h/\Do m t2 Γ τ p/\S=S1++(h++p):=by constructor;rintro ⟨K,S1,h,B,C,rfl⟩;simp[Bd]at B;obtain⟨rfl,rfl⟩:=B;obtain⟨q,D,y,⟨E,N,r,⟨G,R,z,u,A⟩,L⟩,M⟩:=C;simp only[Ee]at u;subst u;subst A;subst L;subst M;exact⟨q,E,G,⟨q,[],y,rfl,by simp⟩,r,z,by simp⟩;rintro ⟨S1,h,p,⟨q,D,y,r,z⟩,u,A,rfl⟩;simp only[Ee]at r;subst r;subst z;exact⟨[(Γ,CE),(Γ,τ),(Γ,τ)],q++(h++p),[],by simp[Bd],⟨q,h++p,y,⟨h,p,u,⟨p,[],A,rfl,by simp⟩,rfl⟩,rfl⟩,by simp⟩
def WM {m:Md} {Γ:At} {x:Z} {t0 t1 t2:Tm} {ps:E1} {B:Int} {σ C D u:Sb} {f a:Y} {N R S:E1} {r:g5} (E:ev k Γ) (J:KI m [t0] [(Γ,CE)] k σ<|some (q,C,N)) (j:Ct m Γ t1 q C<|some (f,A,D,R)) (l:Ct m Γ t2 A D<|some (a,B,u,S)) (o:match r with|some y=>gl B u B y (λ_=>()) (λη _=>AI η f=AI η a)|none=>fm u (β:=Unit) λη _=>AI η f=AI η a):Ct m Γ (.mk 8 n x [t0,t1,t2] ps) k σ<|r.map λy=>(f,B,y,N++(R++S)):=by obtain⟨s,T⟩:=J;have U:=fO (E.mono s.1) j l;obtain⟨_,P,t,v⟩:=j;obtain⟨L,b2,b3,F⟩:=l;have H:gl k σ B u (λη=>(AI η f,AI η a,N.map<|AI η,R.map<|AI η,S.map<|AI η)) λη (w:Y×Y×E1×E1×E1)=>Ee m [t0] [(Hr η Γ,CE)] w.2.2.1/\Do m t1 (Hr η Γ) w.1 w.2.2.2.1/\Do m t2 (Hr η Γ) w.2.1 w.2.2.2.2:=s.bind U (λη G V=>⟨by simpa[Jh]using G,V⟩) λη w M=>⟨w.2.2.1,by simpa[Jh]using M.1,λK W h=>⟨(w.1,w.2.1,w.2.2.2.1,w.2.2.2.2),by rw[W.env E];exact M.2,λb z _ p=>by{obtain⟨Q,w2,w3,w4,w5⟩:=w;simp only[AP]at p ⊢;exact⟨p.1,p.2.1,by rw[z.mh T,h],p.2.2.1,p.2.2.2⟩}⟩⟩;cases r with|none=>refine fm.gv H o λη w hw=>?_;let⟨S1,c,d,e,g,i,_⟩:=Su.1 hw;refine⟨(w.1,w.1,S1,c,d),⟨e,g,i⟩,λK W h=>⟨(),?_⟩⟩;simp only[AP]at h;rw[h.1,h.2.1]|some y=>{refine⟨H.bind o (λη G V=>?_) λη w M=>?_,P,t.mono L.1,(T.mono U.1).append<|(v.mono L.1).append F⟩;simp only[CG];exact Su.2 ⟨_,_,_,G.1,G.2.1,by rw[V];exact G.2.2,rfl⟩;let⟨S1,c,d,e,g,i,I⟩:=Su.1 M;refine⟨(w.1,w.1,S1,c,d),⟨e,g,i⟩,λK W h=>?_⟩;simp only[AP]at h;refine⟨(),by rw[h.1,h.2.1],λb z _ _=>?_⟩;obtain⟨Q,w2⟩:=w;simp only at h I ⊢;rw[z.ap<|t.mono L.1,h.1,CG,CG,z.mh<|T.mono U.1,z.mh<|v.mono L.1,z.mh F,h.2.2.1,h.2.2.2.1,h.2.2.2.2,I]}
def QU {m:Md} {Γ:At} {x:Z} {t:Tm} {ps:E1} {σ:Sb} {r:j0} (h:Ct m Γ t k σ r):Ct m Γ (.mk 16 n x [t] ps) k σ<|r.map λz=>(Lo 5 z.1,z.2):=by have p:∀{Γ τ S},Do m (.mk 16 n x [t] ps) Γ τ S↔∃a,τ=Lo 5 a/\Do m t Γ a S:=by{intro Γ τ S;constructor;rintro ⟨K,S1,U,C,G,rfl⟩;simp[Bd]at C;obtain⟨a,rfl,rfl,rfl⟩:=C;obtain⟨V,W,q,u,A⟩:=G;simp only[Ee]at u;subst u;subst A;exact⟨a,rfl,by simpa using q⟩;rintro ⟨a,rfl,h⟩;exact⟨[(Γ,a)],S,[],by simp[Bd],⟨S,[],h,rfl,by simp⟩,by simp⟩};cases r with|none=>exact fm.first h λD w B=>let⟨a,_,q⟩:=p.1 B;⟨(a,w.2),q⟩|some z=>{obtain⟨τ,k',L,N⟩:=z;obtain⟨q,u,A,M⟩:=h;refine⟨q.weaken (λD g=>p.2 ⟨_,by rw[re],g⟩) λD w B=>?_,zc9 (by decide) (by decide) u,wZ (by decide) A,M⟩;let⟨a,E,R⟩:=p.1 B;refine⟨(a,w.2),R,λT _ y=>?_⟩;simp only[AP]at y;obtain⟨b,c⟩:=w;simp only at E y ⊢;rw[re,y.1,y.2,E]}
def zq1 (m:Md) (Γ:At) (t:Tm) (T:Y) (N:L1 Y):Prop:=Do m t Γ T N/\∀τ S,Do m t Γ τ S->∃h,AI h T=τ/\N.map (AI h)=S
def kb (Γ:At):Prop:=∀p∈Γ,Dv p.2=[]/\CY p.2=true
def kb.ap {Γ:At} (h:kb Γ) (η:Int->Y):Hr η Γ=Γ:=(Mc (g:=id) λp q=>by rw[Is (h p q).1 (h p q).2];rfl).trans<|List.map_id _
def Lr {m:Md} {Γ:At} {t:Tm} {q:Sb} {τ:Y} {N:E1} (r:kb Γ) (h:Ct m Γ t k (λ_=>none)<|some (τ,k',q,N)) {θ:Int->Y} (p:fv q θ):zq1 m Γ t (AI θ τ)<|N.map<|AI θ:=by obtain⟨A,K,L,M⟩:=h;obtain⟨_,_,B,C⟩:=A;refine⟨?_,λu S D=>?_⟩;have:=(B θ p.eq).2;simp only[r.ap]at this;exact this;let⟨E,_,z,y⟩:=C Ay (u,S) (λn t G=>by cases G) (by simp only[r.ap];exact D);simp only[AP]at y;refine⟨E,by rw[p.qh z,y.1],?_⟩;rw[Wy,<- y.2];exact Mc λt _=>p.qh z t
def sR {m:Md} {Γ:At} {t:Tm} (p:kb Γ) (h:Ct m Γ t k (λ_=>none) none) (τ:Y) (S:E1):¬Do m t Γ τ S:=λq=>h Ay (τ,S) (λn t r=>by cases r) (by simp only[p.ap];exact q)
def zB (p:0<=k):hQ k λ_=>none:=by refine⟨p,?_,Ay,?_,?_,?_,?_⟩;intro n t h;cases h;intro n t h;cases h;intro n _;rfl;intro n t h;cases h;intro n t h;cases h
def AR:L1 Z->Z->Bool
 |[],_=>false
 |x::r,s=>x==s||AR r s
abbrev ca:=Ji prog
abbrev i7 (i:Int):D:=.Kp (.int .i64 i)
def fA (l:E2) (s:Z):ca 38 [.sl<|BP l,.str s]<|.bool<|AR l s:=by refine BJ λr=>?_;simp[DF,GA,maxLen]at r;refine Ae Br func38 O [1,2]<|AU O<|Ak (λi:Nat=>[(5,i7 i),(0,.Kp<|.sl<|BP l),(1,.Kp<|.str s)]) (λ_=>[]) [1] (λi=>l.length-i) (λi=>i<=l.length/\AR l s=AR (l.drop i) s) 0 ⟨AK _,rfl⟩ AB ab O λi p u=>?_;refine Bk O<|Aa O (λh=>?_) λh=>?_;simp at h;let⟨t,q⟩:=Aq h;refine Bk O<|ki O (c:=[.str t]) (λ_=>⟨by simp,by simpa using Gf q,rfl⟩) (by simp)<|AU O ?_;have e:=p.2;rw[Av q]at e;refine Aa O (λh=>?_) λh=>?_;refine Bk O<|Ab O O (af _ ?_);rw[e];simp[AR,h];refine Bk O<|Ad (u (i+1) (by omega) ⟨by omega,by rw[e];simp[AR,h]⟩) ⟨Bc,AL⟩ ab O;refine Bk O<|Ab O O (af _ ?_);simp at h;rw[p.2,Bt<|by omega];rfl
def GV (s:Z):Bool:=s.all λc=>97<=c&&c<=122
def Tl {s:Z} {c:UInt8} (h:s[i]?=some c):GV (s.drop i)=((97<=c&&c<=122)&&GV (s.drop<|i+1)):=by rw[Av h];simp[GV]
def ar:=@UInt8.le_iff_toNat_le
def gA (s:Z) (y:s.length<=9223372036854775806):ca 101 [.str s]<|.bool<|GV s:=by refine Ae Br func101 O [1,2]<|AU O<|Ak (λi:Nat=>[(3,i7 i),(0,.Kp<|.str s)]) (λ_=>[]) [1] (λi=>s.length-i) (λi=>i<=s.length/\GV s=GV (s.drop i)) 0 ⟨AK _,rfl⟩ AL ab O λi p u=>?_;refine Bk O<|Aa O (λh=>?_) λh=>?_;simp at h;let⟨c,q⟩:=Aq h;have e:=p.2;rw[Tl q]at e;have r:s[i]?.getD 0=c:=by{rw[q];rfl};refine kd [] O (by simp[h])<|Aa O (λh=>?_) λh=>?_;refine Bk O<|Ab O O (af _ ?_);rw[e];simp[r]at h;simp[ar];omega;refine Bk O<|Ad (u (i+1) (by omega) ⟨by omega,?_⟩) ⟨Bc,AD⟩ ab O;rw[e];simp[r]at h;simp[ar];omega;refine Bk O<|Ab O O (af _ ?_);simp at h;rw[p.2,Bt<|by omega];rfl
def Ln:L1 Z:=[[98,111,111,108],[99,101,108,108],[99,104,97,110],[101,108,115,101],[102,97,108,115,101],[102,117,110],[103,101,116],[105,102],[105,110],[105,110,112,117,116],[105,110,116],[106,111,105,110],[108,101,116],[109,97,116,99,104],[109,111,100,117,108,101],[111,117,116],[112,97,117,115,101],[112,117,116],[114,101,115,101,116],[115,101,110,100],[115,104,105,102,116],[115,112,97,119,110],[116,97,107,101],[116,97,115,107],[116,104,101,110],[116,114,117,101],[116,121,112,101],[117,110,105,116]]
def kD:ca 154 []<|.sl<|BP Ln:=by refine Ae Br func154 O [1,2]<|AU O<|Ah ⟨_,rfl,?_,ab⟩;rfl
def WD (s:Z):Bool:=AR Ln s
def zi8 (s:Z):ca 102 [.str s]<|.bool<|WD s:=by exact Ae Br func102 O [1,2]<|AU O<|Ac O kD<|AU O<|Ac O (fA Ln s)<|AU O<|Ab O O O
def BW (s:Z):Bool:=decide (1<=s.length)&&decide (s.length<=8)&&GV s&&!WD s
def Gc (s:Z):Bool:=decide (1<=s.length)&&decide (s.length<=8)&&(65<=s.getD 0 0&&s.getD 0 0<=90)&&GV (s.drop 1)
def EK (x h p:Int):Bool:=decide (h<=x)&&decide (x<=p)
def I4 (s:Z):ca 37 [.str s]<|.bool<|BW s:=by refine Ae Br func37 O [1,2]<|AU O<|CL O (v:=.bool<|GV s) (λh=>gA s ?_) (by simp[A1]) ?_;simp[A1]at h;omega;refine AU O<|CL O (v:=.bool<|WD s) (λh=>zi8 s) (by simp[A1])<|AU O<|Ab O O (af _ ?_);simp[BW];norm_cast
def QV (x h p:Int):ca 83 [.int .i64 x,.int .i64 h,.int .i64 p]<|.bool<|EK x h p:=by refine Ae Br func83 O [1,2]<|AU O<|Ab O O (af _ ?_);simp[EK]
def NU (s:Z):ca 122 [.str s]<|.bool<|Gc s:=by refine Ae Br func122 O [1,2]<|kg [] O (by simp[A1];omega)<|CL O (v:=.bool<|GV<|s.drop 1) (λh=>gA _ ?_) (by simp[A1]) ?_;simp[A1]at h;simp;omega;refine AU O<|Ab O O (af _ ?_);simp[Gc,ar,PE];norm_cast
mutual
def Cv:Y->Int->Int
 |.mk _ _ _ h,l=>if l<1 then -1 else Cw h<|l-1
def Cw:L1 Y->Int->Int
 |[],l=>l
 |t::r,l=>if 0<=l then Cw r (Cv t l)else l
end
mutual
def LF:∀(t:Y) (l:Int),-1<=Cv t l/\(-1<=l->Cv t l<=l)
 |.mk _ _ _ p,l=>by simp only[Cv];by_cases h:l<1;rw[ae h];omega;rw[ac h];have:=MF p (l-1) (by omega);omega
def MF:∀(ts:E1) (l:Int),-1<=l->-1<=Cw ts l/\Cw ts l<=l
 |[],l,h=>by simp[Cw,h]
 |t::r,l,h=>by simp only[Cw];by_cases p:0<=l;rw[ae p];have q:=LF t l;have u:=MF r (Cv t l) q.1;omega;rw[ac p];omega
end
def Ju:∀(t:Y) (l:Int),-9223372036854775808<=l->l<=9223372036854775807->ca 46 [.agg<|As t,.int .i64 l] (.int .i64<|Cv t l)
 |.mk s n x q,l,C,D=>by refine BJ λE=>?_;simp[DF,GA,As,maxLen]at E;refine Ae Br func46 O [1,2,3]<|AU O<|Aa O (λh=>?_) λh=>?_;refine Bk O<|Ab O O (af _ ?_);simp at h;simp[Cv,h];simp at h;refine Bk O<|Ak (λx:Nat×Int=>[(5,i7 x.1),(1,i7 x.2),(2,.ref 1 0)]) (λ_=>[(1,some<|.NA 25 4<|As<|.mk s n x q)]) [2,3] (λx=>q.length-x.1) (λy=>y.1<=q.length/\Cv (.mk s n x q) l=Cw (q.drop y.1) y.2/\-1<=y.2/\y.2<l) (0,l-1) ⟨AK _,by simp[Cv];omega,by simp only;omega,by simp only;omega⟩ ⟨rfl,Bc,AD⟩ AD O λy G K=>?_;obtain⟨i,m⟩:=y;obtain⟨u,p,z,A⟩:=G;simp only at u p z A;refine Bk O<|Aa O (λh=>?_) λh=>?_;simp at h;let⟨t,r⟩:=Aq (l:=q) (i:=i) (by omega);rw[Av r]at p;refine Bk O<|Ym O (AS r)<|AU O<|Ac O (Ju t m (by omega)<|by omega)<|AU O ?_;have L:=LF t m;refine Ad (K (i+1,Cv t m) (by simp only;omega) ⟨by simp only;omega,by simp only;rw[p];simp[Cw];omega,by simp only;omega,by simp only;omega⟩) ⟨Bc,AL⟩ AD O;refine Bk O<|Ab O O (af _ ?_);rw[p];simp at h;by_cases B:i<q.length;let⟨t,r⟩:=Aq B;rw[Av r];simp[Cw];omega;rw[Bt<|by omega];simp[Cw]
termination_by t=>SizeOf.sizeOf t
decreasing_by have:=C8<|AE r;simp_wf;omega
def NR:∀(t:Y) (l:Int),-9223372036854775808<=l->l<=9223372036854775807->ca 179 [.agg<|As t,.int .i64 l] (.int .i64<|Cv t l)
 |.mk s n x q,l,C,D=>by refine BJ λE=>?_;simp[DF,GA,As,maxLen]at E;refine Ae Br func179 O [1,2,3]<|AU O<|Aa O (λh=>?_) λh=>?_;refine Bk O<|Ab O O (af _ ?_);simp at h;simp[Cv,h];simp at h;refine Bk O<|Ak (λx:Nat×Int=>[(5,i7 x.1),(1,i7 x.2),(2,.ref 1 0)]) (λ_=>[(1,some<|.NA 182 4<|As<|.mk s n x q)]) [2,3] (λx=>q.length-x.1) (λy=>y.1<=q.length/\Cv (.mk s n x q) l=Cw (q.drop y.1) y.2/\-1<=y.2/\y.2<l) (0,l-1) ⟨AK _,by simp[Cv];omega,by simp only;omega,by simp only;omega⟩ ⟨rfl,Bc,AD⟩ AD O λy G K=>?_;obtain⟨i,m⟩:=y;obtain⟨u,p,z,A⟩:=G;simp only at u p z A;refine Bk O<|Aa O (λh=>?_) λh=>?_;simp at h;let⟨t,r⟩:=Aq (l:=q) (i:=i) (by omega);rw[Av r]at p;refine Bk O<|Ym O (AS r)<|AU O<|Ac O (NR t m (by omega)<|by omega)<|AU O ?_;have L:=LF t m;refine Ad (K (i+1,Cv t m) (by simp only;omega) ⟨by simp only;omega,by simp only;rw[p];simp[Cw];omega,by simp only;omega,by simp only;omega⟩) ⟨Bc,AL⟩ AD O;refine Bk O<|Ab O O (af _ ?_);rw[p];simp at h;by_cases B:i<q.length;let⟨t,r⟩:=Aq B;rw[Av r];simp[Cw];omega;rw[Bt<|by omega];simp[Cw]
termination_by t=>SizeOf.sizeOf t
decreasing_by have:=C8<|AE r;simp_wf;omega
def Dw (h:Bool) (s n:Int) (x:Z) (k:Nat):Bool :=
 if s=1\/s=2\/s=3 then((k:Int)==0)&&n==0&&x==[]
 else if s=4 then((k:Int)==2)&&n==0&&x==[]
 else if s=5\/s=6\/s=7 then((k:Int)==1)&&n==0&&x==[]
 else if s=8 then((k:Int)==0)&&n==0&&Gc x
 else if s=9 then h&&((k:Int)==0)&&x==[]&&EK n 0 99
 else false
mutual
def DN (h:Bool):Y->Bool
 |.mk s n x p=>Dw h s n x p.length&&DG h p
def DG (h:Bool):L1 Y->Bool
 |[]=>true
 |t::r=>DN h t&&DG h r
end
def V3 (p:Bool):∀(t:Y),ca 61 [.agg<|As t,.bool p] (.bool<|DN p t)
 |.mk s n x q=>by refine BJ λT=>?_;simp[DF,GA,As,maxLen]at T;refine Ae Br func61 O [1,2,3] ?_;have J:∀u:Bool,u=Dw p s n x q.length->ia Tryz.f61.ntmps (CB []) (IZ nV Tryz.f61.results.toList<|.ret (.Kp<|.bool<|DN p<|.mk s n x q) []) [.code<|Ek Tryz.f61 4] [(6,.Kp<|.bool u),(5,i7 q.length),(1,.Kp<|.bool p),(2,.ref 1 0)] [(1,some<|.NA 25 4<|As<|.mk s n x q)] [2,3]:=by{intro u z;refine Bk O<|Ak (λy:Nat×Bool=>[(7,i7 y.1),(6,.Kp<|.bool y.2),(5,i7 q.length),(1,.Kp<|.bool p),(2,.ref 1 0)]) (λ_=>[(1,some<|.NA 25 4<|As<|.mk s n x q)]) [2,3] (λy=>q.length-y.1) (λy=>y.1<=q.length/\DN p (.mk s n x q)=(y.2&&DG p (q.drop y.1))) (0,u) ⟨AK _,by simp[DN,z]⟩ BA AD O λy U V=>?_;obtain⟨i,b⟩:=y;obtain⟨A,r⟩:=U;simp only at A r;refine Bk O<|Aa O (λh=>?_) λh=>?_;simp at h;let⟨t,B⟩:=Aq (l:=q) (i:=i) (by omega);rw[Av B]at r;refine Bk O<|Ym O (AS B)<|AU O<|Ac O (V3 p t)<|AU O<|Ad (V (i+1,DN p t) (by simp only;omega) ⟨by simp only;omega,by simp only;rw[r,h.2];simp[DG]⟩) ⟨Bc,B9⟩ AD O;refine Bk O<|Ab O O (af _ ?_);rw[r];simp at h;by_cases C:i<q.length;rw[h C];rfl;rw[Bt<|by omega];simp[DG]};by_cases D:s=1;subst D;exact C2 [.a,.a,.s] O<|Ad (J _<|by simp[Dw]) ⟨rfl,B2<|by simp,AL⟩ AD O;by_cases E:s=2;subst E;exact C2 [.a,.a,.a,.s] O<|Ad (J _<|by simp[Dw]) ⟨rfl,B2<|by simp,AL⟩ AD O;by_cases G:s=3;subst G;exact C2 [.a,.a,.a,.s] O<|Ad (J _<|by simp[Dw]) ⟨rfl,B2<|by simp,AL⟩ AD O;by_cases K:s=4;subst K;exact C2 (DL 4 [.s]) O<|Ad (J _<|by simp[Dw]) ⟨rfl,B2<|by simp,AL⟩ AD O;by_cases L:s=5;subst L;exact C2 (DL 6 [.s]) O<|Ad (J _<|by simp[Dw]) ⟨rfl,B2<|by simp,AL⟩ AD O;by_cases M:s=6;subst M;exact C2 (DL 7 [.s]) O<|Ad (J _<|by simp[Dw]) ⟨rfl,B2<|by simp,AL⟩ AD O;by_cases N:s=7;subst N;exact C2 (DL 7 [.s]) O<|Ad (J _<|by simp[Dw]) ⟨rfl,B2<|by simp,AL⟩ AD O;by_cases R:s=8;subst R;exact C2 (DL 7 [.a]) O<|Al O (NU x)<|C2 [.s] O<|Ad (J _<|by simp[Dw]) ⟨rfl,B2<|by simp,AL⟩ AD O;by_cases S:s=9;subst S;exact C2 (DL 8 [.a]) O<|Al O (QV n 0 99)<|C2 [.s] O<|Ad (J _<|by simp[Dw]) ⟨rfl,B2<|by simp,AL⟩ AD O;exact kg [.f,.f,.f,.f,.f,.f,.f,.f,.f,.s] O (by simp[D,E,G,K,L,M,N,R,S])<|Ad (J _<|by simp[Dw,D,E,G,K,L,M,N,R,S]) ⟨rfl,B2<|by simp,AL⟩ AD O
termination_by t=>SizeOf.sizeOf t
decreasing_by have:=C8<|AE B;simp_wf;omega
mutual
def Kj:Y->Bool
 |.mk _ _ x h=>F0 h&&decide (x.length<=30)
def F0:L1 Y->Bool
 |[]=>true
 |t::r=>Kj t&&F0 r
end
def Qk:∀(t:Y),ca 47 [.agg<|As t] (.bool<|Kj t)
 |.mk s n x p=>by refine BJ λu=>?_;simp[DF,GA,As,maxLen]at u;refine Ae Br func47 O [1,2,3]<|AU O<|Ak (λi:Nat=>[(3,i7 i),(1,.ref 1 0)]) (λ_=>[(1,some<|.NA 25 4<|As<|.mk s n x p)]) [2,3] (λi=>p.length-i) (λi=>i<=p.length/\F0 p=F0 (p.drop i)) 0 ⟨AK _,rfl⟩ AL AD O λi r y=>?_;refine Bk O<|Aa O (λh=>?_) λh=>?_;simp at h;let⟨t,q⟩:=Aq h;have e:=r.2;rw[Av q]at e;refine Bk O<|Ym O (AS q)<|AU O<|Ac O (Qk t)<|AU O<|Aa O (λh=>?_) λh=>?_;refine Bk O<|Ab O O (af _ ?_);simp at h;simp[Kj,e,F0,h];refine Bk O ?_;simp at h;exact Ad (y (i+1) (by omega) ⟨by omega,by rw[e];simp[F0,h]⟩) ⟨Bc,AD⟩ AD O;refine Bk O<|Ab O O (af _ ?_);simp at h;simp only[Kj];rw[r.2,Bt<|by omega];simp[F0];norm_cast
termination_by t=>SizeOf.sizeOf t
decreasing_by have:=C8<|AE q;simp_wf;omega
def Tn:∀(t:Y),ca 180 [.agg<|As t] (.bool<|Kj t)
 |.mk s n x p=>by refine BJ λu=>?_;simp[DF,GA,As,maxLen]at u;refine Ae Br func180 O [1,2,3]<|AU O<|Ak (λi:Nat=>[(3,i7 i),(1,.ref 1 0)]) (λ_=>[(1,some<|.NA 182 4<|As<|.mk s n x p)]) [2,3] (λi=>p.length-i) (λi=>i<=p.length/\F0 p=F0 (p.drop i)) 0 ⟨AK _,rfl⟩ AL AD O λi r y=>?_;refine Bk O<|Aa O (λh=>?_) λh=>?_;simp at h;let⟨t,q⟩:=Aq h;have e:=r.2;rw[Av q]at e;refine Bk O<|Ym O (AS q)<|AU O<|Ac O (Tn t)<|AU O<|Aa O (λh=>?_) λh=>?_;refine Bk O<|Ab O O (af _ ?_);simp at h;simp[Kj,e,F0,h];refine Bk O ?_;simp at h;exact Ad (y (i+1) (by omega) ⟨by omega,by rw[e];simp[F0,h]⟩) ⟨Bc,AD⟩ AD O;refine Bk O<|Ab O O (af _ ?_);simp at h;simp only[Kj];rw[r.2,Bt<|by omega];simp[F0];norm_cast
termination_by t=>SizeOf.sizeOf t
decreasing_by have:=C8<|AE q;simp_wf;omega
def KV (t:Y):Bool:=decide (0<=Cv t 12)&&DN true t
def zmd (t:Y):ca 15 [.agg<|As t]<|.bool<|KV t:=by refine Ae Br func15 O [1,2,3]<|AU O<|Ac O (Ju t 12 (by decide)<|by decide)<|AU O<|Al O (V3 true t)<|AU O<|Ab O O (af _ ?_);simp[KV]
def FF (t:Y):Bool:=decide (0<=Cv t 12)&&DN false t
def R3 (t:Y):ca 20 [.agg<|As t]<|.bool<|FF t:=by refine Ae Br func20 O [1,2,3]<|AU O<|Ac O (Ju t 12 (by decide)<|by decide)<|AU O<|Al O (V3 false t)<|AU O<|Ab O O (af _ ?_);simp[FF]
def C0 (t:Y):Bool:=decide (0<=Cv t 16)&&Kj t
def Jv (t:Y):ca 11 [.agg<|As t]<|.bool<|C0 t:=by refine Ae Br func11 O [1,2,3]<|AU O<|Ac O (Ju t 16 (by decide)<|by decide)<|AU O<|Al O (Qk t)<|AU O<|Ab O O (af _ ?_);simp[C0]
def nJ (t:Y):ca 126 [.agg<|As t]<|.bool<|C0 t:=by refine Ae Br func126 O [1,2,3]<|AU O<|Ac O (NR t 16 (by decide)<|by decide)<|AU O<|Al O (Tn t)<|AU O<|Ab O O (af _ ?_);simp[C0]
def F2 (s n:Int) (x:Z) (k:Nat):Bool :=
 if s=1\/s=5 then((k:Int)==0)&&n==0&&x==[]
 else if s=2 then((k:Int)==0)&&n==0&&BW x
 else if s=3 then((k:Int)==0)&&x==[]&&EK n (-1000000000) 1000000000
 else if s=4 then((k:Int)==0)&&x==[]&&EK n 0 1
 else if s=6 then decide ((k:Int)<=3)&&n==0&&Gc x
 else false
mutual
def BH:Y->Bool
 |.mk s n x h=>F2 s n x h.length&&BT h
def BT:L1 Y->Bool
 |[]=>true
 |t::r=>BH t&&BT r
end
def vW:∀(t:Y),ca 217 [.agg<|As t] (.bool<|BH t)
 |.mk s n x p=>by refine BJ λM=>?_;simp[DF,GA,As,maxLen]at M;refine Ae Br func217 O [1,2,3] ?_;have J:∀r:Bool,r=F2 s n x p.length->ia Tryz.f217.ntmps (CB []) (IZ nV Tryz.f217.results.toList<|.ret (.Kp<|.bool<|BH<|.mk s n x p) []) [.code<|Ek Tryz.f217 4] [(4,.Kp<|.bool r),(3,i7 p.length),(1,.ref 1 0)] [(1,some<|.NA 182 4<|As<|.mk s n x p)] [2,3]:=by{intro r u;refine Bk O<|Ak (λy:Nat×Bool=>[(5,i7 y.1),(4,.Kp<|.bool y.2),(3,i7 p.length),(1,.ref 1 0)]) (λ_=>[(1,some<|.NA 182 4<|As<|.mk s n x p)]) [2,3] (λy=>p.length-y.1) (λy=>y.1<=p.length/\BH (.mk s n x p)=(y.2&&BT (p.drop y.1))) (0,r) ⟨AK _,by simp[BH,u]⟩ B9 AD O λy N R=>?_;obtain⟨i,b⟩:=y;obtain⟨z,q⟩:=N;simp only at z q;refine Bk O<|Aa O (λh=>?_) λh=>?_;simp at h;let⟨t,A⟩:=Aq (l:=p) (i:=i) (by omega);rw[Av A]at q;exact Bk O<|Ym O (AS A)<|AU O<|Ac O (vW t)<|AU O<|Ad (R (i+1,BH t) (by simp only;omega) ⟨by simp only;omega,by simp only;rw[q,h.2];simp[BT]⟩) ⟨Bc,AB⟩ AD O;refine Bk O<|Ab O O (af _ ?_);rw[q];simp at h;by_cases B:i<p.length;rw[h B];rfl;rw[Bt<|by omega];simp[BT]};by_cases C:s=1;subst C;exact C2 [.a,.a,.s] O<|Ad (J _<|by simp[F2]) ⟨rfl,B2<|by simp,AD⟩ AD O;by_cases D:s=2;subst D;exact C2 [.a,.a,.a] O<|Al O (I4 x)<|C2 [.s] O<|Ad (J _<|by simp[F2]) ⟨rfl,B2<|by simp,AD⟩ AD O;by_cases E:s=3;subst E;exact C2 [.a,.a,.a,.a] O<|Al O (QV n (-1000000000) 1000000000)<|C2 [.s] O<|Ad (J _<|by simp[F2]) ⟨rfl,B2<|by simp,AD⟩ AD O;by_cases G:s=4;subst G;exact C2 (DL 4 [.a]) O<|Al O (QV n 0 1)<|C2 [.s] O<|Ad (J _<|by simp[F2]) ⟨rfl,B2<|by simp,AD⟩ AD O;by_cases K:s=5;subst K;exact C2 [.a,.a,.s] O<|Ad (J _<|by simp[F2]) ⟨rfl,B2<|by simp,AD⟩ AD O;by_cases L:s=6;subst L;exact C2 (DL 5 [.a]) O<|Al O (NU x)<|C2 [.s] O<|Ad (J _<|by simp[F2]) ⟨rfl,B2<|by simp,AD⟩ AD O;exact kg [.f,.f,.f,.f,.f,.f,.s] O (by simp[C,D,E,G,K,L])<|Ad (J _<|by simp[F2,C,D,E,G,K,L]) ⟨rfl,B2<|by simp,AD⟩ AD O
termination_by t=>SizeOf.sizeOf t
decreasing_by have:=C8<|AE A;simp_wf;omega
mutual
def B0:Tm->Int->Int->Int
 |.mk _ _ _ h _,l,d=>if l<1\/d<1 then -1 else Cf h (l-1)<|d-1
def Cf:L1 Tm->Int->Int->Int
 |[],l,_=>l
 |t::r,l,d=>if 0<=l then Cf r (B0 t l d) d else l
end
mutual
def HV:∀(t:Tm) (l d:Int),-1<=B0 t l d/\(-1<=l->B0 t l d<=l)
 |.mk _ _ _ p _,l,d=>by simp only[B0];by_cases h:l<1\/d<1;rw[ae h];omega;rw[ac h];have:=Kf p (l-1) (d-1) (by omega);omega
def Kf:∀(ts:G1) (l d:Int),-1<=l->-1<=Cf ts l d/\Cf ts l d<=l
 |[],l,d,h=>by simp[Cf,h]
 |t::r,l,d,h=>by simp only[Cf];by_cases p:0<=l;rw[ae p];have q:=HV t l d;have u:=Kf r (B0 t l d) d q.1;omega;rw[ac p];omega
end
def XI:∀(t:Tm) (l d:Int),-9223372036854775808<=l->l<=9223372036854775807->-9223372036854775807<=d->d<=9223372036854775807->ca 68 [.agg<|dTmc t,.int .i64 l,.int .i64 d] (.int .i64<|B0 t l d)
 |.mk C n x q D,l,d,E,G,K,L=>by refine BJ λM=>?_;simp[DF,GA,dTmc,maxLen]at M;refine Ae Br func68 O [1,2,3]<|AU O<|Aa O (λh=>?_) λh=>?_;refine Bk O<|Ab O O (af _ ?_);simp at h;simp only[B0];rw[ae<|by omega];simp at h;refine Bk O<|Ak (λx:Nat×Int=>[(7,i7 x.1),(1,i7 x.2),(2,i7 d),(3,.ref 1 0)]) (λ_=>[(1,some<|.NA 49 5<|dTmc<|.mk C n x q D)]) [2,3] (λx=>q.length-x.1) (λy=>y.1<=q.length/\B0 (.mk C n x q D) l d=Cf (q.drop y.1) y.2 (d-1)/\-1<=y.2/\y.2<l) (0,l-1) ⟨AK _,by simp only[B0,jK];rw[ac<|by omega],by simp only;omega,by simp only;omega⟩ ⟨rfl,Bc,AL⟩ AD O λy N R=>?_;obtain⟨i,m⟩:=y;obtain⟨u,p,z,A⟩:=N;simp only at u p z A;refine Bk O<|Aa O (λh=>?_) λh=>?_;simp at h;let⟨t,r⟩:=Aq (l:=q) (i:=i) (by omega);rw[Av r]at p;refine Bk O<|Ym O (Ec r)<|AU O ?_;have S:IntKind.i64.wrap (d-1)=d-1:=Gi (by omega) (by omega);refine CL O (v:=.int .i64<|B0 t m<|d-1) (λ_=>by rw[S];exact XI t m (d-1) (by omega) (by omega) (by omega)<|by omega) (by simp)<|AU O ?_;have T:=HV t m<|d-1;exact Ad (R (i+1,B0 t m<|d-1) (by simp only;omega) ⟨by simp only;omega,by simp only;rw[p];simp only[Cf];rw[ae h.2],by simp only;omega,by simp only;omega⟩) ⟨Bc,AB⟩ AD O;refine Bk O<|Ab O O (af _ ?_);rw[p];simp at h;by_cases B:i<q.length;let⟨t,r⟩:=Aq B;rw[Av r];simp only[Cf];rw[ac<|by omega];rw[Bt<|by omega];simp[Cf]
termination_by t=>SizeOf.sizeOf t
decreasing_by have:=C8<|AE r;simp_wf;omega
mutual
def Jn:Tm->Bool
 |.mk _ _ x p h=>decide (x.length<=30)&&decide (h.length<=8)&&h.all C0&&FW p
def FW:L1 Tm->Bool
 |[]=>true
 |t::r=>Jn t&&FW r
end
def Bs (n:Int) (x:Z) (p:Nat) (fn h q:Bool):Bool:=(fn||n==0)&&(h||x==[])&&(q||((p:Int)==0))
def Ql:∀(t:Tm),ca 69 [.agg<|dTmc t] (.bool<|Jn t)
 |.mk C n x q p=>by refine BJ λD=>?_;simp[DF,GA,dTmc,maxLen]at D;refine Ae Br func69 O [1,2,3]<|AU O<|Aa O (λh=>?_) λh=>?_;refine Bk O<|Ab O O (af _ ?_);simp at h;simp only[Jn];by_cases E:x.length<=30;have G:¬p.length<=8:=by{omega};simp[G];simp[E];simp at h;have A:x.length<=30/\p.length<=8:=by{omega};clear h;refine Bk O<|Ak (λi:Nat=>[(3,i7 i),(1,.ref 1 0)]) (λ_=>[(1,some<|.NA 49 5<|dTmc<|.mk C n x q p)]) [2,3] (λi=>p.length-i) (λi=>i<=p.length/\(List.all · C0) p=(List.all · C0) (p.drop i)) 0 ⟨AK _,rfl⟩ AL AD O λi r z=>?_;refine Bk O<|Aa O (λh=>?_) λh=>?_;simp at h;let⟨t,y⟩:=Aq h;have e:=r.2;rw[Av y]at e;refine Bk O<|Ym O (AS y)<|AU O<|Ac O (nJ t)<|AU O<|Aa O (λh=>?_) λh=>?_;refine Bk O<|Ab O O (af _ ?_);simp at h;simp[Jn,A,e,FW,Em,h];refine Bk O ?_;simp at h;exact Ad (z (i+1) (by omega) ⟨by omega,by rw[e];simp[FW,Em,h]⟩) ⟨Bc,AD⟩ AD O;simp at h;have u:(List.all · C0) p=true:=by{rw[r.2,Bt<|by omega];rfl};clear z r h;refine Bk O<|Ak (λi:Nat=>[(4,i7 i),(1,.ref 1 0)]) (λ_=>[(1,some<|.NA 49 5<|dTmc<|.mk C n x q p)]) [2,3] (λi=>q.length-i) (λi=>i<=q.length/\FW q=FW (q.drop i)) 0 ⟨AK _,rfl⟩ AL AD O λi r z=>?_;refine Bk O<|Aa O (λh=>?_) λh=>?_;simp at h;let⟨t,y⟩:=Aq h;have e:=r.2;rw[Av y]at e;refine Bk O<|Ym O (Ec y)<|AU O<|Ac O (Ql t)<|AU O<|Aa O (λh=>?_) λh=>?_;refine Bk O<|Ab O O (af _ ?_);simp at h;simp[Jn,A,e,FW,Em,h];refine Bk O ?_;simp at h;exact Ad (z (i+1) (by omega) ⟨by omega,by rw[e];simp[FW,Em,h]⟩) ⟨Bc,AD⟩ AD O;simp at h;have B:FW q=true:=by{rw[r.2,Bt<|by omega];rfl};clear z r h;refine Bk O<|Ab O O (af _ ?_);simp only[Jn];have u:p.all C0=true:=u;rw[u,B];simp[A]
termination_by t=>SizeOf.sizeOf t
decreasing_by have:=C8<|AE y;simp_wf;omega
def Fq (t:Tm):Bool:=decide (0<=B0 t 80 16)&&Jn t
def Mx (t:Tm):ca 25 [.agg<|dTmc t]<|.bool<|Fq t:=by refine Ae Br func25 O [1,2,3]<|AU O<|Ac O (XI t 80 16 (by decide) (by decide) (by decide)<|by decide)<|AU O<|Al O (Ql t)<|AU O<|Ab O O (af _ ?_);simp[Fq]
def Cg (op n:Int) (x:Z) (ks:G1) (ps:E1) (a b c:Bool):ca 216 [.agg<|dTmc<|.mk op n x ks ps,.bool a,.bool b,.bool c]<|.bool<|Bs n x ps.length a b c:=by refine Ae Br func216 O [1,2,3]<|kg [] O (by cases a<;>cases b<;>cases c<;>simp)<|Ab O O (af _ ?_);cases a<;>cases b<;>cases c<;>simp[Bs]
def Tf (i j k:Nat):Nat:=bif Nat.beq k i then j else bif Nat.beq k j then i else k
def Jm (i j k:Nat):Tf i j (Tf i j k)=k:=by have r:∀a b:Nat,Nat.beq a b=decide (a=b):=λa b=>by{cases h:Nat.beq a b with|true=>simp[Dm h]|false=>{have:a≠b:=λe=>by{subst e;simp at h};simp[this]}};unfold Tf;simp only[r];by_cases q:k=i;subst q;simp only[decide_true,az];by_cases p:j=k;subst p;simp;simp[p];by_cases p:k=j;subst p;simp[q];simp[q,p]
def cI (ρ:Nat->Nat):St->St
 |[]=>[]
 |(i,some b)::r=>(ρ i,some<|cJ ρ b)::cI ρ r
 |(i,none)::r=>(ρ i,none)::cI ρ r
def Ie {i j:Nat} {k:Nat} {b:fp}:∀{st:St},A2 (cI (Tf i j) st) k b->∃q,A2 st (Tf i j k) q/\b=cJ (Tf i j) q
 |[],h=>by simp[cI,A2,lk]at h
 |(a,some x)::r,h=>by simp only[cI]at h;unfold A2 at h ⊢;by_cases p:Tf i j a=k;subst p;rw[A6]at h;rw[Jm,A6];cases h;exact⟨x,rfl,rfl⟩;rw[AC _ _ p]at h;rw[AC _ _ λe=>p<|by rw[e,Jm]];exact Ie h
 |(a,none)::r,h=>by simp only[cI]at h;unfold A2 at h ⊢;by_cases p:Tf i j a=k;subst p;rw[A6]at h;cases h;rw[AC _ _ p]at h;rw[AC _ _ λe=>p<|by rw[e,Jm]];exact Ie h
def fw:=@List.Pairwise.map
def AV {n:Nat} {env:Env} (i j:Nat) (B:(F6 F i||F6 F j)=false) (h:ek P n F Q todo (zW (Tf i j) env) (cI (Tf i j) st)<|aa.map<|Tf i j):ek P n F Q todo env st aa:=by
 intro b cs I μ a w A W u;have U:∀k g,μ k=some g->(λk=>μ<|Tf i j k) (Tf i j k)=some g:=λk g p=>by simp only[Jm];exact p
 have hE:fi I μ st w I (λk=>μ<|Tf i j k) (cI (Tf i j) st) w :=
  {Kp:=TA.le_refl I,os:=rfl,tape:=rfl,output:=rfl,size:=B6 _,block:=λ_ _ _=>rfl,
     fresh:=λb _ ⟨k,V,g,r,C,c⟩=>let⟨D,q,_⟩:=Ie r;⟨_,D,g,q,C,c⟩,gz:=λ_ _ _=>rfl }
 have K:ij n I (λk=>μ<|Tf i j k) (zW (Tf i j) env) (cI (Tf i j) st) (aa.map<|Tf i j) a w :=
  {Kp:=u.Kp
   SB:=λk V E=>by
    obtain⟨D,r,rfl⟩:=Ie E;let⟨g,p,f⟩:=u.SB _ D r;exact⟨g,p,f.ou λx _ g p=>U x g p⟩
   apart:=λk V g m E p z=>by
    obtain⟨D,r,rfl⟩:=Ie E;exact u.apart _ D g m r p z
   inj:=λk k' bi bj l o m s v L M N R=>by
    let⟨H,r,_⟩:=Ie s;let⟨J,C,_⟩:=Ie v;have:=u.inj _ _ H J l o m r C L M N R;have e:=af (Tf i j) this
    rwa [Jm,Jm]at e
   nodup:=by
    have:=u.nodup;rw[List.nodup_iff_pairwise_ne]at this ⊢;exact fw _ (λx y S e=>S (by have e:=af (Tf i j) e;rwa [Jm,Jm]at e)) this
   PA:=λk z=>by
    obtain⟨x,hx,rfl⟩:=CC.1 z;show μ (Tf i j<|Tf i j x)=none;rw[Jm];exact u.PA x hx
   size:=u.size
   env:=λt d E=>by
    obtain⟨d0,r,rfl⟩:=vJ E;exact(u.env t d0 r).ou λx _ g p=>U x g p
   defers:=u.defers.ext hE }
 simp only[Mb]at B;have G:∀k∈F,Tf i j k=k:=λk z=>by
  have r:Nat.beq k i=false:=by
   cases T:Nat.beq k i with
   |false=>rfl
   |true=>rw[<- Dm T,BK.2 z]at B;cases B.1
  have C:Nat.beq k j=false:=by
   cases T:Nat.beq k j with
   |false=>rfl
   |true=>rw[<- Dm T,BK.2 z]at B;cases B.2
  simp[Tf,r,C]
 exact(h b cs I _ a w A W K).mono λe a' w' hp=>hp.back (λk z g p=>by show μ (Tf i j k)=some g;rw[G k z];exact p)<|hE
mutual
def Bn:Y->Nat
 |.mk _ _ _ h=>1+A5 h
def A5:L1 Y->Nat
 |[]=>0
 |t::r=>Bn t+A5 r
end
mutual
def EF:∀(t:Y) (l:Int),0<=Cv t l->Cv t l+Bn t=l
 |.mk _ _ _ q,l,h=>by simp only[Cv]at h ⊢;by_cases p:l<1;rw[ae p]at h;omega;rw[ac p]at h ⊢;have:=ME q (l-1) h;simp only[Bn];omega
def ME:∀(ts:E1) (l:Int),0<=Cw ts l->Cw ts l+A5 ts=l
 |[],l,h=>by simp[Cw,A5]
 |t::r,l,h=>by simp only[Cw]at h ⊢;by_cases p:0<=l;rw[ae p]at h ⊢;have q:=ME r (Cv t l) h;have u:=MF r (Cv t l) (LF t l).1;have y:=EF t l (by omega);simp only[A5];omega;rw[ac p]at h;omega
end
mutual
def AN:Y->L1 Z
 |.mk s _ x h=>if s=2 then[x]else AH h
def AH:L1 Y->L1 Z
 |[]=>[]
 |t::r=>AN t++AH r
end
mutual
def P6:∀t:Y,(AN t).length<=Bn t
 |.mk s _ x h=>by simp only[AN,Bn];split;simp;have:=Ku h;omega
def Ku:∀ts:E1,(AH ts).length<=A5 ts
 |[]=>by simp[AH]
 |t::r=>by have h:=P6 t;have p:=Ku r;simp only[AH,A5,Bo];omega
end
def GO (a b:E1):AH (a++b)=AH a++AH b:=by induction a with|nil=>rfl|cons t r h=>{simp[AH,h]}
def F4 (a b:E1):A5 (a++b)=A5 a+A5 b:=by induction a with|nil=>simp[A5]|cons t r h=>{simp[A5,h];omega}
def Gq {ps:E1} {t:Y} (h:ps[i]?=some t):A5 (ps.take i)+Bn t<=A5 ps:=by have e:ps=ps.take i++t::ps.drop (i+1):=by{rw[<- Av h,wQ]};have:=af A5 e;rw[F4]at this;simp only[A5]at this;omega
def Rp (l:E2):∀c∈BP l,c.length=1:=by intro c h;simp only[BP,CC]at h;obtain⟨a,_,rfl⟩:=h;rfl
def KH:∀(t:Y),Bn t<=1000000->ca 155 [.agg<|As t] (.sl<|BP<|AN t)
 |.mk s n x u,G=>by refine BJ λK=>?_;simp[DF,GA,As,maxLen]at K;refine Ae Br func155 O [1,2,3,4,5]<|AU O<|Aa O (λh=>?_) λh=>?_;refine Bk O<|Ab O O (af _ ?_);simp at h;simp[AN,h,BP];simp at h;have L:A5 u<=1000000:=by{simp only[Bn]at G;omega};refine Bk O<|Ak (λy:Nat×Bool×L1 (G2)=>[(4,i7 y.1),(3,match y.2.1 with|false=>.NB|true=>.own 2 y.2.2.length),(1,.ref 1 0)]) (λy=>match y.2.1 with|false=>[(1,some<|.NA 182 4<|As<|.mk s n x u)]|true=>[(2,some<|.row 9 1 y.2.2),(1,some<|.NA 182 4<|As<|.mk s n x u)]) [3,4] (λy=>u.length-y.1) (λy=>y.1<=u.length/\BP (AH<|u.take y.1)=y.2.2/\(y.2.1=false->y.2.2=[])) (0,false,[]) ⟨AK _,rfl,λ_=>rfl⟩ AB AD O λy M E=>?_;obtain⟨i,b,es⟩:=y;obtain⟨A,p,r⟩:=M;simp only at A p r;cases b with|false=>{have r:=r O;subst r;refine Bk O<|Aa O (λh=>?_) λh=>?_;simp at h;let⟨t,z⟩:=Aq h;have B:=Gq z;have C:=P6 t;have D:=Ku<|u.take i;have q:=af List.length p;simp at q;exact Bk O<|Ym O (AS z)<|AU O<|Ac O (KH t<|by omega)<|AU O<|B1 Br O ⟨Rp _,by simp[maxLen];omega,by simp;omega,ab⟩<|AU O<|AV 2 3 O<|Ad (E (i+1,true,[]++BP (AN t)) (by simp only;omega) ⟨by simp only;omega,by simp only;rw[Bm z,GO,Hp,p];simp[AH],λh=>by cases h⟩) ⟨B2<|Gi (by simp only;omega) (by simp only;omega),AL⟩ AL O;{refine Bk O<|Ah ⟨_,rfl,?_,ab⟩;simp at h;rw[Df<|by omega]at p;simp only[AN];rw[ac<|by assumption,p];rfl}}|true=>{refine Bk O<|Aa O (λh=>?_) λh=>?_;simp at h;let⟨t,z⟩:=Aq h;have B:=Gq z;have C:=P6 t;have D:=Ku<|u.take i;have q:=af List.length p;simp at q;exact Bk O<|Ym O (AS z)<|AU O<|Ac O (KH t<|by omega)<|AU O<|B1 Br O ⟨Rp _,by simp[maxLen];omega,by simp;omega,ab⟩<|AU O<|AV 2 3 O<|Ad (E (i+1,true,es++BP (AN t)) (by simp only;omega) ⟨by simp only;omega,by simp only;rw[Bm z,GO,Hp,p];simp[AH],λh=>by cases h⟩) ⟨B2<|Gi (by simp only;omega) (by simp only;omega),AL⟩ AL O;{refine BR 2 O<|Bk O<|Ah ⟨_,rfl,?_,ab⟩;simp at h;rw[Df<|by omega]at p;simp only[AN];rw[ac<|by assumption,p];rfl}}
termination_by t=>SizeOf.sizeOf t
decreasing_by all_goals(have:=C8<|AE z;simp_wf;omega)
def BZ (h:L1 Z):L1 Z->Bool
 |[]=>true
 |x::r=>!AR h x&&BZ (h++[x]) r
def K8 (l:L1 Z):Bool:=BZ [] l
def aN (l:E2) (n:Nat):(BP l).take n=BP (l.take n):=by simp[BP,qS]
def zc1 (l:E2):ca 218 [.sl<|BP l]<|.bool<|K8 l:=by refine BJ λr=>?_;simp[DF,GA,maxLen]at r;refine Ae Br func218 O [1,2]<|AU O<|Ak (λi:Nat=>[(3,i7 i),(0,.Kp<|.sl<|BP l)]) (λ_=>[]) [1] (λi=>l.length-i) (λi=>i<=l.length/\K8 l=BZ (l.take i) (l.drop i)) 0 ⟨AK _,rfl⟩ AL ab O λi q u=>?_;refine Bk O<|Aa O (λh=>?_) λh=>?_;{simp at h;let⟨t,p⟩:=Aq h;have e:=q.2;rw[Av p]at e;refine kd [] O (by simp;exact⟨by omega,Rp l⟩)<|ki O (c:=[.str t]) (λ_=>⟨by simp,by simpa using Gf p,rfl⟩) (by simp)<|AU O<|CL O (v:=.bool<|AR (l.take i) t) (λ_=>?_) (by simp) ?_;have:=fA (l.take i) t;rw[<- aN]at this;exact this;refine kg [] O (by first|exact⟨by kernel_rfl,ab⟩|simp)<|Aa O (λh=>?_) λh=>?_;refine Bk O<|Ab O O (af _ ?_);rw[e];simp[BZ,h];exact Bk O<|Ad (u (i+1) (by omega) ⟨by omega,by rw[e,Bm p];simp[BZ,h]⟩) ⟨Bc,AD⟩ ab O};refine Bk O<|Ab O O (af _ ?_);simp at h;rw[q.2,Bt<|by omega];rfl
def CM (t:Y):Bool:=decide (0<=Cv t 12)&&BH t&&K8 (AN t)
def zpe (t:Y):ca 144 [.agg<|As t]<|.bool<|CM t:=by refine Ae Br func144 O [1,2,3]<|AU O<|Ac O (NR t 12 (by decide)<|by decide)<|AU O<|Al O (vW t)<|AU O<|CL O (v:=.sl<|BP<|AN t) (λh=>KH t ?_) (by simp[A1]) ?_;simp[A1]at h;have:=EF t 12 h.1;omega;refine AU O<|Al O (zc1<|AN t)<|AU O<|Ab O O (af _ ?_);simp[CM]
def Bl (op n:Int) (x:Z) (k p:Nat):Bool :=
 if op=1 then((k:Int)==0)&&Bs n x p true false false&&EK n (-1000000000) 1000000000
 else if op=2 then((k:Int)==0)&&Bs n x p true false false&&EK n 0 1
 else if op=3\/op=21\/op=25\/op=28 then((k:Int)==0)&&Bs n x p false false false
 else if op=4 then((k:Int)==0)&&Bs n x p false true false&&BW x
 else if op=5\/op=27 then((k:Int)==1)&&Bs n x p false true false&&BW x
 else if op=7 then((k:Int)==2)&&Bs n x p false true false&&BW x
 else if op=8 then((k:Int)==3)&&Bs n x p false false false
 else if op=14 then decide ((k:Int)<=3)&&Bs n x p false true false&&Gc x
 else if op=15 then EK p 1 5&&((k:Int)==1+(p:Int))&&Bs n x p false false true
 else if op=16\/op=17\/op=19\/op=20\/op=23\/op=26 then((k:Int)==1)&&Bs n x p false false false
 else if op=24 then((k:Int)==1)&&Bs n x p true false false&&EK n 0 3
 else if op=6\/op=9\/op=10\/op=11\/op=12\/op=13\/op=18\/op=22 then((k:Int)==2)&&Bs n x p false false false
 else false
def zkg (op n:Int) (x:Z) (ks:G1) (ps:E1):ca 143 [.agg<|dTmc<|.mk op n x ks ps]<|.bool<|Bl op n x ks.length ps.length:=by refine BJ λf=>?_;simp[DF,GA,dTmc,maxLen]at f;refine Ae Br func143 O [1,2,3] ?_;by_cases T:op=1;subst T;exact C2 [.a] O<|Al O (Cg 1 n x ks ps true false false)<|AU O<|Al O (QV n (-1000000000) 1000000000)<|AU O<|Ah ⟨_,rfl,tV<|af _<|by simp[Bl],ab⟩;by_cases U:op=2;subst U;exact C2 [.a,.a] O<|Al O (Cg 2 n x ks ps true false false)<|AU O<|Al O (QV n 0 1)<|AU O<|Ah ⟨_,rfl,tV<|af _<|by simp[Bl],ab⟩;by_cases V:op=3;subst V;exact C2 [.a,.a,.a,.a] O<|Al O (Cg 3 n x ks ps false false false)<|AU O<|Ah ⟨_,rfl,tV<|af _<|by simp[Bl],ab⟩;by_cases h:op=21;subst h;exact C2 (DL 4 [.a]) O<|Al O (Cg 21 n x ks ps false false false)<|AU O<|Ah ⟨_,rfl,tV<|af _<|by simp[Bl],ab⟩;by_cases p:op=25;subst p;exact C2 (DL 5 [.a]) O<|Al O (Cg 25 n x ks ps false false false)<|AU O<|Ah ⟨_,rfl,tV<|af _<|by simp[Bl],ab⟩;by_cases q:op=28;subst q;exact C2 (DL 5 [.a]) O<|Al O (Cg 28 n x ks ps false false false)<|AU O<|Ah ⟨_,rfl,tV<|af _<|by simp[Bl],ab⟩;by_cases W:op=4;subst W;exact C2 (DL 6 [.a]) O<|Al O (Cg 4 n x ks ps false true false)<|AU O<|Al O (I4 x)<|AU O<|Ah ⟨_,rfl,tV<|af _<|by simp[Bl],ab⟩;by_cases a:op=5;subst a;exact C2 (DL 8 [.a]) O<|Al O (Cg 5 n x ks ps false true false)<|AU O<|Al O (I4 x)<|AU O<|Ah ⟨_,rfl,tV<|af _<|by simp[Bl],ab⟩;by_cases r:op=27;subst r;exact C2 (DL 8 [.a]) O<|Al O (Cg 27 n x ks ps false true false)<|AU O<|Al O (I4 x)<|AU O<|Ah ⟨_,rfl,tV<|af _<|by simp[Bl],ab⟩;by_cases b:op=7;subst b;exact C2 (DL 9 [.a]) O<|Al O (Cg 7 n x ks ps false true false)<|AU O<|Al O (I4 x)<|AU O<|Ah ⟨_,rfl,tV<|af _<|by simp[Bl],ab⟩;by_cases c:op=8;subst c;exact C2 (DL 10 [.a]) O<|Al O (Cg 8 n x ks ps false false false)<|AU O<|Ah ⟨_,rfl,tV<|af _<|by simp[Bl],ab⟩;by_cases u:op=14;subst u;exact C2 (DL 11 [.a]) O<|Al O (Cg 14 n x ks ps false true false)<|AU O<|Al O (NU x)<|AU O<|Ah ⟨_,rfl,tV<|af _<|by simp[Bl],ab⟩;by_cases y:op=15;subst y;refine C2 (DL 12 [.a]) O<|CL O (v:=.bool<|EK ps.length 1 5) (λ_=>by have:=QV ps.length 1 5;simpa using this) (by simp[A1])<|AU O<|Al O (Cg 15 n x ks ps false false true)<|AU O ?_;have hw:IntKind.i64.wrap (1+(ps.length:Int))=1+ps.length\/EK ps.length 1 5=false:=by{by_cases g:ps.length<=5;exact .inl<|Gi (by omega) (by omega);exact .inr (by simp[EK];omega)};refine Ab O O<|af _ ?_;rcases hw with hw|hw<;>simp[Bl,hw];by_cases z:op=16;subst z;exact C2 (DL 14 [.a]) O<|Al O (Cg 16 n x ks ps false false false)<|AU O<|Ah ⟨_,rfl,tV<|af _<|by simp[Bl],ab⟩;by_cases A:op=17;subst A;exact C2 (DL 15 [.a]) O<|Al O (Cg 17 n x ks ps false false false)<|AU O<|Ah ⟨_,rfl,tV<|af _<|by simp[Bl],ab⟩;by_cases B:op=19;subst B;exact C2 (DL 16 [.a]) O<|Al O (Cg 19 n x ks ps false false false)<|AU O<|Ah ⟨_,rfl,tV<|af _<|by simp[Bl],ab⟩;by_cases C:op=20;subst C;exact C2 (DL 17 [.a]) O<|Al O (Cg 20 n x ks ps false false false)<|AU O<|Ah ⟨_,rfl,tV<|af _<|by simp[Bl],ab⟩;by_cases D:op=23;subst D;exact C2 (DL 18 [.a]) O<|Al O (Cg 23 n x ks ps false false false)<|AU O<|Ah ⟨_,rfl,tV<|af _<|by simp[Bl],ab⟩;by_cases E:op=26;subst E;exact C2 (DL 18 [.a]) O<|Al O (Cg 26 n x ks ps false false false)<|AU O<|Ah ⟨_,rfl,tV<|af _<|by simp[Bl],ab⟩;by_cases G:op=24;subst G;exact C2 (DL 19 [.a]) O<|Al O (Cg 24 n x ks ps true false false)<|AU O<|Al O (QV n 0 3)<|AU O<|Ah ⟨_,rfl,tV<|af _<|by simp[Bl],ab⟩;by_cases d:op=6;subst d;exact C2 (DL 21 [.a]) O<|Al O (Cg 6 n x ks ps false false false)<|AU O<|Ah ⟨_,rfl,tV<|af _<|by simp[Bl],ab⟩;by_cases e:op=9;subst e;exact C2 (DL 22 [.a]) O<|Al O (Cg 9 n x ks ps false false false)<|AU O<|Ah ⟨_,rfl,tV<|af _<|by simp[Bl],ab⟩;by_cases K:op=10;subst K;exact C2 (DL 23 [.a]) O<|Al O (Cg 10 n x ks ps false false false)<|AU O<|Ah ⟨_,rfl,tV<|af _<|by simp[Bl],ab⟩;by_cases L:op=11;subst L;exact C2 (DL 24 [.a]) O<|Al O (Cg 11 n x ks ps false false false)<|AU O<|Ah ⟨_,rfl,tV<|af _<|by simp[Bl],ab⟩;by_cases M:op=12;subst M;exact C2 (DL 25 [.a]) O<|Al O (Cg 12 n x ks ps false false false)<|AU O<|Ah ⟨_,rfl,tV<|af _<|by simp[Bl],ab⟩;by_cases N:op=13;subst N;exact C2 (DL 26 [.a]) O<|Al O (Cg 13 n x ks ps false false false)<|AU O<|Ah ⟨_,rfl,tV<|af _<|by simp[Bl],ab⟩;by_cases R:op=18;subst R;exact C2 (DL 27 [.a]) O<|Al O (Cg 18 n x ks ps false false false)<|AU O<|Ah ⟨_,rfl,tV<|af _<|by simp[Bl],ab⟩;by_cases S:op=22;subst S;exact C2 (DL 27 [.a]) O<|Al O (Cg 22 n x ks ps false false false)<|AU O<|Ah ⟨_,rfl,tV<|af _<|by simp[Bl],ab⟩;exact kg [.f,.f,.f,.f,.f,.f,.f,.f,.f,.f,.f,.f,.f,.f,.f,.f,.f,.f,.f,.f,.f,.f,.f,.f,.f,.f,.f,.f] O (by simp[T,U,V,h,p,q,W,a,r,b,c,u,y,z,A,B,C,D,E,G,d,e,K,L,M,N,R,S])<|Ah ⟨_,rfl,tV<|af _<|by simp[Bl,T,U,V,h,p,q,W,a,r,b,c,u,y,z,A,B,C,D,E,G,d,e,K,L,M,N,R,S],ab⟩
mutual
def Ax:Tm->Bool
 |.mk q n x h p=>Bl q n x h.length p.length&&p.all CM&&Bb h
def Bb:L1 Tm->Bool
 |[]=>true
 |t::r=>Ax t&&Bb r
end
def iT:∀(t:Tm),ca 85 [.agg<|dTmc t] (.bool<|Ax t)
 |.mk A n x q p=>by refine BJ λD=>?_;simp[DF,GA,dTmc,maxLen]at D;refine Ae Br func85 O [1,2,3]<|AU O<|Ac O (zkg A n x q p)<|AU O<|Aa O (λh=>?_) λh=>?_;refine Bk O<|Ab O O (af _ ?_);simp at h;simp[Ax,h];simp at h;have B:Bl A n x q.length p.length=true:=h;clear h;refine Bk O<|Ak (λi:Nat=>[(3,i7 i),(1,.ref 1 0)]) (λ_=>[(1,some<|.NA 49 5<|dTmc<|.mk A n x q p)]) [2,3] (λi=>p.length-i) (λi=>i<=p.length/\(List.all · CM) p=(List.all · CM) (p.drop i)) 0 ⟨AK _,rfl⟩ AL AD O λi r z=>?_;refine Bk O<|Aa O (λh=>?_) λh=>?_;simp at h;let⟨t,y⟩:=Aq h;have e:=r.2;rw[Av y]at e;refine Bk O<|Ym O (AS y)<|AU O<|Ac O (zpe t)<|AU O<|Aa O (λh=>?_) λh=>?_;refine Bk O<|Ab O O (af _ ?_);simp at h;simp[Ax,B,e,Bb,Em,h];refine Bk O ?_;simp at h;exact Ad (z (i+1) (by omega) ⟨by omega,by rw[e];simp[Bb,Em,h]⟩) ⟨Bc,AD⟩ AD O;simp at h;have u:(List.all · CM) p=true:=by{rw[r.2,Bt<|by omega];rfl};clear z r h;refine Bk O<|Ak (λi:Nat=>[(4,i7 i),(1,.ref 1 0)]) (λ_=>[(1,some<|.NA 49 5<|dTmc<|.mk A n x q p)]) [2,3] (λi=>q.length-i) (λi=>i<=q.length/\Bb q=Bb (q.drop i)) 0 ⟨AK _,rfl⟩ AL AD O λi r z=>?_;refine Bk O<|Aa O (λh=>?_) λh=>?_;simp at h;let⟨t,y⟩:=Aq h;have e:=r.2;rw[Av y]at e;refine Bk O<|Ym O (Ec y)<|AU O<|Ac O (iT t)<|AU O<|Aa O (λh=>?_) λh=>?_;refine Bk O<|Ab O O (af _ ?_);simp at h;simp[Ax,B,e,Bb,Em,h];refine Bk O ?_;simp at h;exact Ad (z (i+1) (by omega) ⟨by omega,by rw[e];simp[Bb,Em,h]⟩) ⟨Bc,AD⟩ AD O;simp at h;have C:Bb q=true:=by{rw[r.2,Bt<|by omega];rfl};clear z r h;refine Bk O<|Ab O O (af _ ?_);simp only[Ax];have u:p.all CM=true:=u;rw[u,C];simp[B]
termination_by t=>SizeOf.sizeOf t
decreasing_by have:=C8<|AE y;simp_wf;omega
def Cy (t:Tm):Bool:=decide (0<=B0 t 60 14)&&Ax t
def UX (t:Tm):ca 29 [.agg<|dTmc t]<|.bool<|Cy t:=by refine Ae Br func29 O [1,2,3]<|AU O<|Ac O (XI t 60 14 (by decide) (by decide) (by decide)<|by decide)<|AU O<|Al O (iT t)<|AU O<|Ab O O (af _ ?_);simp[Cy]
end Go.Hk
