/- Contracts of hearthref01. -/
import Derived.Test.YtcdpbkolkeeopaaGreatJa
import Derived.Test.YtcdpbkolkeeopaaGreatProg
set_option linter.all false
set_option maxRecDepth 100000
set_option maxHeartbeats 4000000
namespace Go.Hk
open Go.Proofs.Tryz
open Go.Proofs
variable {k n A B m k' H k0 s:Int} {st au bl a8:St} {P:Program} {aa F ids' fr l:L1 Nat} {Q:DQ} {tt:TT} {d z:D} {todo av:L1 DI} {I J:U} {μ ν:Mu} {w w':World} {i sz off j:Nat} {ob h:L1 Prop} {v:Value} {o:Oper} {a7:Env} {Pn:V->Prop} {f:FuncId} {g:Option (Bool×Bool)} {ds das:L1 D} {C:Prop} {x:V} {es:G1} {σ τ1 τ:L1 (Nat×Nat)} {t e:TypeId} {a:Act} {α β r y:Type} {b:Blk} {vs c cs:L1 V} {dst:Option Nat} {ρ:Nat->Nat} {xs:L1 Value} {q:Array TypeId}
inductive Res where
 |at(todo:List DI) (env:Env) (st:St) (aa:List Nat) (ob:List Prop)
 |bad
inductive Pt where
 |t
 |f
 |a
 |s
def D7:Nat->L1 Pt->L1 Pt
 |0,l=>l
 |n+1,l=>.a::D7 n l
def run (tt:TT) (n:Nat):Nat->L1 Pt->L1 DI->Env->St->L1 Nat->L1 Prop->Res
 |0,_,k,env,st,aa,ob=>.at k env st aa ob
 |f+1,u,todo,env,st,aa,ob=>match todo with
  |.code (.seq a b)::k=>run tt n f u (.code a::.code b::k) env st aa ob
  |.code .skip::k=>run tt n f u k env st aa ob
  |.code (.label _)::k=>run tt n f u k env st aa ob
  |.inBlock _::k=>match u with
   |.s::_=>.at k env st aa ob
   |_=>run tt n f u k env st aa ob
  |.inScope _::k=>run tt n f u k env st aa ob
  |.code (.block id c)::k=>run tt n f u (.code c::.inBlock id::k) env st aa ob
  |.code (.scope c)::k=>run tt n f u (.code c::.inScope c::k) env st aa ob
  |.code (.exit id)::k=>match MN id k with
   |some k'=>run tt n f u k' env st aa ob
   |none=>.at (.code (.exit id)::k) env st aa ob
  |.code (.region _ ⟨B⟩ false)::k=>run tt n f u (.ops B B::k) env st aa ob
  |.code (.region _ ⟨B⟩ true)::k=>run tt n f u (.dops B B []::k) env st aa ob
  |.ops _ []::k=>run tt n f u k env st aa ob
  |.ops z (o::r)::k=>match GW tt n z o env st aa with
   |.y _ a7 []=>run tt n f u (.ops z r::k) a7 st aa ob
   |.y _ a7 [p]=>run tt n f u (.ops z r::k) a7 st aa (p::ob)
   |.y _ a7 [p,q]=>run tt n f u (.ops z r::k) a7 st aa (p::q::ob)
   |.y _ a7 (p::q::l)=>run tt n f u (.ops z r::k) a7 st aa (p::q::Lb l ob)
   |.e a7 au ids' []=>run tt n f u (.ops z r::k) a7 au ids' ob
   |.e a7 au ids' [p]=>run tt n f u (.ops z r::k) a7 au ids' (p::ob)
   |.e a7 au ids' (p::l)=>run tt n f u (.ops z r::k) a7 au ids' (p::Lb l ob)
   |.no=>.at (.ops z (o::r)::k) env st aa ob
  |.dops z [] C::k=>run tt n f u k env st aa ((Q8 z C.reverse=true)::ob)
  |.dops z (o::r) C::k=>match GW tt n z o env st aa,UI env o.op with
   |.y _ a7 [],[]=>run tt n f u (.dops z r (([],[])::C)::k) a7 st aa ob
   |.y _ a7 [],[i]=>run tt n f u (.dops z r (([i],[])::C)::k) a7 st aa ob
   |.y _ a7 [p],[]=>run tt n f u (.dops z r (([],[])::C)::k) a7 st aa (p::ob)
   |.y _ a7 [p],[i]=>run tt n f u (.dops z r (([i],[])::C)::k) a7 st aa (p::ob)
   |.y _ a7 (p::l),rd=>run tt n f u (.dops z r ((rd,[])::C)::k) a7 st aa (p::Lb l ob)
   |.e a7 ((i,x)::au) ids' h,[]=>run tt n f u (.dops z r (([],[i])::C)::k) a7 ((i,x)::au) ids' (Lb h ob)
   |.e a7 ((i,x)::au) ids' h,[j]=>run tt n f u (.dops z r (([j],[i])::C)::k) a7 ((i,x)::au) ids' (Lb h ob)
   |_,_=>.at (.dops z (o::r) C::k) env st aa ob
  |.code (.cond c x y)::k=>match u,EM env c with
   |.t::A,some (.imm (.bool t))=>run tt n f A (.code x::k) env st aa ((t=true)::ob)
   |.f::A,some (.imm (.bool t))=>run tt n f A (.code y::k) env st aa ((t=false)::ob)
   |.a::A,some (.imm (.bool t))=>run tt n f A (.code (bif t then x else y)::k) env st aa ob
   |_,_=>.at (.code (.cond c x y)::k) env st aa ob
  |k=>.at k env st aa ob
def G (P:Program) (n:Nat) (F:L1 Nat) (Q:DQ) (todo:L1 DI) (env:Env) (st:St) (aa:L1 Nat):Prop :=
 match todo with
 |.dops p h q::k=>DD P n F Q p h q.reverse k env st aa
 |todo=>DGo P n F Q todo env st aa
section
variable {n:Nat} {env:Env} {k:L1 DI}
def G.go (h:G P n F Q todo env st aa):DGo P n F Q todo env st aa:=by unfold G at h;split at h;intro b cs I μ a w p q u;obtain⟨i,y,rfl,r,_⟩:=Jr q;cases i<;>exact r.elim;exact h
def LD.ld_y {all:L1 Oper} {rd:L1 Nat} (h:∀au,Agree rd st au->YD P all o env au d):LD P Pn all o env st rd [] [] d:=by intro I μ a8 y a w p q r;let⟨z,A⟩:=h a8 p I μ _ a w q r;exact⟨λu=>((z u).mono λv w' ⟨B,C,D,E⟩=>⟨B,μ,C,D,Mu.le_refl μ,E⟩).x,λu=>⟨rfl,rfl,A u⟩⟩
def RZ {all:L1 Oper} {rd:Bool} (h:GW tt n all o env st aa=.y rd a7 ob) (p:Agree (UI env o.op) st au):GW tt n all o env au aa=.y rd a7 ob:=by unfold GW at h ⊢;split at h;rename_i q;simp only[YF p];split at h;exact h;exact h;split at h;exact absurd h eH;cases h;rename_i j r q;simp only[YF p];exact h
def ay:=@true_and
def be:=@and_true
def zdg (h:Ca dst d env=Ca dst z env):dst=none\/d=z:=by cases dst with|none=>exact .inl O|some t=>{simp only[Ca,BP,AN,ay,be]at h;exact .inr h}
def yN (q:TTok P tt) {all:L1 Oper} {rd:Bool} (h:GW tt n all o env st aa=.y rd a7 ob) (r:A8 ob):∃d,a7=Ca o.dst d env/\(∀t,o.dst=some t->t<n)/\(∀c,o.op≠.defer c)/\YD P all o env st d/\LD P Pn all o env st (UI env o.op) [] [] d:=by let⟨d,D,W,S,T,_⟩:=TM q h r;cases p:o.dst with|some t=>refine⟨d,by rw[D,p],λV E=>W V (by rw[p];exact E),S,T,LD.ld_y λau u=>?_⟩;let⟨z,C,_,_,y,_⟩:=TM q (RZ h u) r;rw[D]at C;rcases zdg C with h|h;rw[p]at h;cases h;rw[h];exact y|none=>{refine⟨.undef,(by rw[D,p];rfl),(λV E=>by cases E),S,?_,LD.ld_y λau u=>?_⟩;intro I μ aa a w A B;let⟨G,_⟩:=T I μ aa a w A B;exact⟨λK=>(G K).mono λv w' ⟨L,N,_,R⟩=>⟨L,N,.undef _,R⟩,λ_=>.undef _⟩;let⟨z,_,_,_,y,_⟩:=TM q (RZ h u) r;intro I μ aa a w A B;let⟨G,_⟩:=y I μ aa a w A B;exact⟨λK=>(G K).mono λv w' ⟨L,N,_,R⟩=>⟨L,N,.undef _,R⟩,λ_=>.undef _⟩}
def Yt (z:TTok P tt) {all:L1 Oper} {x:Option Blk} (h:GW tt n all o env st aa=.e a7 ((i,x)::au) ids' ob) (A:A8 ob):∃d fr,au=st/\aa=fr++ids'/\a7=Ca o.dst d env/\(∀t,o.dst=some t->t<n)/\(∀c,o.op≠.defer c)/\ED P all o env st aa d ((i,x)::au) ids'/\LD P Pn all o env st (UI env o.op) fr [(i,x)] d:=by have k:=h;unfold GW at h;split at h;{rename_i S;split at h;exact absurd h JF;exact absurd h JF;{split at h;{rename_i d s l V B;obtain⟨rfl,rfl,rfl,W,b⟩:=zdh h;let⟨fr,E,e,G,_,f⟩:=YG B;(have K:E=[(i,x)]/\au=st:=by{(have q:∀(L:Op) (env:Env) {d:D} {s:St} {i:L1 Nat} {ob:L1 Prop},qE tt env st aa L=.e d s i ob->∃p,s=p::st:=by{intro L env d s i ob h;let⟨fr,E,m,v,F,H⟩:=YG h;cases L<;>simp only[qE,RT,reduceCtorEq]at h;all_goals (repeat' split at h)<;>first|(cases h;done)|(cases h;exact⟨_,rfl⟩)});let⟨p,g⟩:=q _ _ B;cases g;have:E.length=1:=by{have:=af List.length G;simp at this;omega};match E,this with|[y],_=>{simp at G;exact⟨by rw[G],rfl⟩}});obtain⟨rfl,rfl⟩:=K;have N:∀c,o.op≠.defer c:=λc j=>by{rw[j,YH]at B;cases B};refine⟨d,fr,rfl,e,W,b,N,λI μ a w r u=>⟨AJ S,qD z r (Bx u) B A⟩,λI μ a8 C a w R r u=>⟨λ_=>?_,λT=>?_⟩⟩;exact(qD z r (Bx u) (f a8 C R) A).x;rw[AJ S]at T;cases T};cases h}};split at h;split at h;split at h;exact absurd h JF;exact absurd h JF;cases h;cases h;cases h
def EF (htt:TTok P tt) (hm:P.follows .mixedOrders=true):∀(f:Nat) (path:L1 Pt) (todo:L1 DI) (env:Env) (st:St) (aa:L1 Nat) (ob0:L1 Prop) {av:L1 DI} {a7:Env} {au:St} {ids':L1 Nat} {ob:L1 Prop},
  run tt n f path todo env st aa ob0=.at av a7 au ids' ob->A8 ob->A8 ob0/\(G P n F Q av a7 au ids'->G P n F Q todo env st aa)
 |0,path,todo,env,st,aa,ob0,av,a7,au,ids',ob,h,hob=>by
  simp only[run,Res.at.injEq]at h;obtain⟨rfl,rfl,rfl,rfl,rfl⟩:=h;exact⟨hob,id⟩
 |f+1,path,todo,env,st,aa,ob0,av,a7,au,ids',ob,h,hob=>by
  simp only[run]at h;have stop:∀{t:L1 DI},Res.at t env st aa ob0=.at av a7 au ids' ob->A8 ob0/\(G P n F Q av a7 au ids'->G P n F Q t env st aa):=by
   intro t h;simp only[Res.at.injEq]at h;obtain⟨rfl,rfl,rfl,rfl,rfl⟩:=h;exact⟨hob,id⟩
  split at h
  ·obtain⟨h1,h2⟩:=EF htt hm f _ _ _ _ _ _ h hob;exact⟨h1,λhd=>zkv (h2 hd)⟩
  ·obtain⟨h1,h2⟩:=EF htt hm f _ _ _ _ _ _ h hob;exact⟨h1,λhd=>Gu (h2 hd).go⟩
  ·obtain⟨h1,h2⟩:=EF htt hm f _ _ _ _ _ _ h hob;exact⟨h1,λhd=>zau (h2 hd).go⟩
  ·split at h
   ·simp only[Res.at.injEq]at h;obtain⟨rfl,rfl,rfl,rfl,rfl⟩:=h;exact⟨hob,λhd=>ST hd.go⟩
   ·obtain⟨h1,h2⟩:=EF htt hm f _ _ _ _ _ _ h hob;exact⟨h1,λhd=>ST (h2 hd).go⟩
  ·obtain⟨h1,h2⟩:=EF htt hm f _ _ _ _ _ _ h hob;exact⟨h1,λhd=>jF (h2 hd).go⟩
  ·obtain⟨h1,h2⟩:=EF htt hm f _ _ _ _ _ _ h hob;exact⟨h1,λhd=>zav (h2 hd)⟩
  ·obtain⟨h1,h2⟩:=EF htt hm f _ _ _ _ _ _ h hob;exact⟨h1,λhd=>zat (h2 hd)⟩
  ·split at h
   ·rename_i he;obtain⟨h1,h2⟩:=EF htt hm f _ _ _ _ _ _ h hob;exact⟨h1,λhd=>Az he (h2 hd).go⟩
   ·exact stop h
  ·obtain⟨h1,h2⟩:=EF htt hm f _ _ _ _ _ _ h hob;exact⟨h1,λhd=>qL (h2 hd)⟩
  ·obtain⟨h1,h2⟩:=EF htt hm f _ _ _ _ _ _ h hob;exact⟨h1,λhd=>zg3 hm (h2 hd)⟩
  ·obtain⟨h1,h2⟩:=EF htt hm f _ _ _ _ _ _ h hob;exact⟨h1,λhd=>Wc (h2 hd).go⟩
  ·rename_i all o r k;have hY:∀{rd:Bool} {env1:Env} {ob1 ob2:L1 Prop},GW tt n all o env st aa=.y rd env1 ob1->(A8 ob2->A8 ob1/\A8 ob0) ->
     (run tt n f path (.ops all r::k) env1 st aa ob2=.at av a7 au ids' ob)->A8 ob0/\(G P n F Q av a7 au ids'->G P n F Q (.ops all (o::r)::k) env st aa):=by
    intro rd env1 ob1 ob2 hs hobs hrun;obtain⟨h1,h2⟩:=EF htt hm f _ _ _ _ _ _ hrun hob;obtain⟨h3,h4⟩:=hobs h1;obtain⟨d,e1,e2,e3,e4,_⟩:=TM htt hs h3;subst e1;exact⟨h4,λhd=>zpo e3 e4 e2 (h2 hd)⟩
   have hE:∀{env1:Env} {a8:St} {ids1:L1 Nat} {ob1 ob2:L1 Prop},GW tt n all o env st aa=.e env1 a8 ids1 ob1->(A8 ob2->A8 ob1/\A8 ob0) ->
     (run tt n f path (.ops all r::k) env1 a8 ids1 ob2=.at av a7 au ids' ob)->A8 ob0/\(G P n F Q av a7 au ids'->G P n F Q (.ops all (o::r)::k) env st aa):=by
    intro env1 a8 ids1 ob1 ob2 hs hobs hrun;obtain⟨h1,h2⟩:=EF htt hm f _ _ _ _ _ _ hrun hob;obtain⟨h3,h4⟩:=hobs h1;obtain⟨d,e1,e2,e3,e4⟩:=zir htt hs h3;subst e1;exact⟨h4,λhd=>zpq e3 e4 e2 (h2 hd)⟩
   split at h
   ·rename_i hs;refine hY hs ?_ h;intro q;exact⟨ab,q⟩
   ·rename_i hs;refine hY hs ?_ h;intro q;exact⟨⟨q.1,ab⟩,q.2⟩
   ·rename_i hs;refine hY hs ?_ h;intro q;exact⟨⟨q.1,q.2.1,ab⟩,q.2.2⟩
   ·rename_i hs;refine hY hs ?_ h;intro q;exact⟨⟨q.1,q.2.1,(BL q.2.2).1⟩,(BL q.2.2).2⟩
   ·rename_i hs;refine hE hs ?_ h;intro q;exact⟨ab,q⟩
   ·rename_i hs;refine hE hs ?_ h;intro q;exact⟨⟨q.1,ab⟩,q.2⟩
   ·rename_i hs;refine hE hs ?_ h;intro q;exact⟨⟨q.1,(BL q.2).1⟩,(BL q.2).2⟩
   ·exact stop h
  ·obtain⟨h1,h2⟩:=EF htt hm f _ _ _ _ _ _ h hob;exact⟨h1.2,λhd=>zn0 h1.1 (h2 hd).go⟩
  ·rename_i all o r fs k;have hY:∀{rd:Bool} {env1:Env} {ob1 ob2:L1 Prop} {rds:L1 Nat},GW tt n all o env st aa=.y rd env1 ob1->UI env o.op=rds->(A8 ob2->A8 ob1/\A8 ob0) ->
     (run tt n f path (.dops all r ((rds,[])::fs)::k) env1 st aa ob2=.at av a7 au ids' ob)->A8 ob0/\(G P n F Q av a7 au ids'->G P n F Q (.dops all (o::r) fs::k) env st aa):=by
    intro rd env1 ob1 ob2 rds hs hrd hobs hrun;obtain⟨h1,h2⟩:=EF htt hm f _ _ _ _ _ _ hrun hob;obtain⟨h3,h4⟩:=hobs h1;obtain⟨d,e1,e2,e3,_,e5⟩:=yN htt hs h3;subst e1;rw[hrd]at e5;refine⟨h4,λhd=>?_⟩;have:=h2 hd;simp only[G,Vu]at this ⊢;exact bJ (ids':=aa) e5 e2 e3 this
   have hE:∀{env1:Env} {a8:St} {ids1:L1 Nat} {ob1:L1 Prop} {rds:L1 Nat} {i:Nat} {x:Option Blk},GW tt n all o env st aa=.e env1 ((i,x)::a8) ids1 ob1->UI env o.op=rds ->
     (run tt n f path (.dops all r ((rds,[i])::fs)::k) env1 ((i,x)::a8) ids1 (Lb ob1 ob0)=.at av a7 au ids' ob)->A8 ob0/\(G P n F Q av a7 au ids'->G P n F Q (.dops all (o::r) fs::k) env st aa):=by
    intro env1 a8 ids1 ob1 rds i x hs hrd hrun;obtain⟨h1,h2⟩:=EF htt hm f _ _ _ _ _ _ hrun hob;obtain⟨h3,h4⟩:=(W3 _ _).1 h1;obtain⟨d,fr,rfl,rfl,e1,e2,e3,_,e5⟩:=Yt htt hs h3;subst e1;rw[hrd]at e5;refine⟨h4,λhd=>?_⟩;have:=h2 hd;simp only[G,Vu]at this ⊢;exact bJ e5 e2 e3 this
   split at h
   ·rename_i hs hr;refine hY hs hr ?_ h;intro q;exact⟨ab,q⟩
   ·rename_i hs hr;refine hY hs hr ?_ h;intro q;exact⟨ab,q⟩
   ·rename_i hs hr;refine hY hs hr ?_ h;intro q;exact⟨⟨q.1,ab⟩,q.2⟩
   ·rename_i hs hr;refine hY hs hr ?_ h;intro q;exact⟨⟨q.1,ab⟩,q.2⟩
   ·rename_i hs _ _;refine hY hs O ?_ h;intro q;exact⟨⟨q.1,(BL q.2).1⟩,(BL q.2).2⟩
   ·rename_i hs hr;exact hE hs hr h
   ·rename_i hs hr;exact hE hs hr h
   ·exact stop h
  ·split at h
   ·rename_i t hc;obtain⟨h1,h2⟩:=EF htt hm f _ _ _ _ _ _ h hob;exact⟨h1.2,λhd=>Aa hc (λ_=>(h2 hd).go) (λhf=>by rw[h1.1]at hf;cases hf)⟩
   ·rename_i t hc;obtain⟨h1,h2⟩:=EF htt hm f _ _ _ _ _ _ h hob;exact⟨h1.2,λhd=>Aa hc (λht=>by rw[h1.1]at ht;cases ht) (λ_=>(h2 hd).go)⟩
   ·rename_i t hc;obtain⟨h1,h2⟩:=EF htt hm f _ _ _ _ _ _ h hob;refine⟨h1,λhd=>Aa hc (λht=>?_) (λht=>?_)⟩
    ·subst ht;exact(h2 hd).go
    ·subst ht;exact(h2 hd).go
   ·exact stop h
  ·exact stop h
def Iw (q:TTok P tt) (u:P.follows .mixedOrders=true) (f:Nat) (p:L1 Pt) (h:run tt n f p todo env st aa []=.at k a7 au ids' ob) (r:A8 ob) (y:G P n F Q k a7 au ids'):G P n F Q todo env st aa:=(EF q u f p todo env st aa [] h r).2 y
end
mutual
def Hb:D->L1 Nat
 |.ref id _=>[id]
 |.own id _=>[id]
 |.elp id _ _ _=>[id]
 |.hv id _=>[id]
 |.mapr id=>[id]
 |.iter id=>[id]
 |.slc id _ _ _=>[id]
 |.yld id=>[id]
 |.agg cs=>FQ cs
 |.tup cs=>FQ cs
 |.fn _ a b=>FQ a++FQ b
 |.iface _ d=>Hb d
 |.guard _ _ d=>Hb d
 |_=>[]
def FQ:L1 D->L1 Nat
 |[]=>[]
 |d::r=>Hb d++FQ r
end
mutual
def Lj (ρ:Nat->Nat):D->D
 |.ref id off=>.ref (ρ id) off
 |.own id n=>.own (ρ id) n
 |.elp id k sz f=>.elp (ρ id) k sz f
 |.mapr id=>.mapr (ρ id)
 |.iter id=>.iter (ρ id)
 |.agg cs=>.agg (F1 ρ cs)
 |.tup cs=>.tup (F1 ρ cs)
 |.fn f a b=>.fn f (F1 ρ a) (F1 ρ b)
 |.iface t d=>.iface t (Lj ρ d)
 |.guard c w d=>.guard c w (Lj ρ d)
 |.undef=>.undef
 |.imm x=>.imm x
 |.nils=>.nils
 |.ip t cs off=>.ip t cs off
 |.clip es=>.clip es
 |.slc id off n c=>.slc (ρ id) off n c
 |.yld id=>.yld (ρ id)
 |.raw v=>.raw v
 |.hv id i=>.hv (ρ id) i
def F1 (ρ:Nat->Nat):L1 D->L1 D
 |[]=>[]
 |d::r=>Lj ρ d::F1 ρ r
end
def PM:Env->L1 Nat
 |[]=>[]
 |(_,d)::r=>Hb d++PM r
def xN (ρ:Nat->Nat):Env->Env
 |[]=>[]
 |(t,d)::r=>(t,Lj ρ d)::xN ρ r
def sM {ρ:Nat->Nat}:∀{env:Env} {t:Nat} {d:D},lk (xN ρ env) t=some d->∃d0,lk env t=some d0/\d=Lj ρ d0
 |[],t,d,h=>by simp[xN,lk]at h
 |(s,x)::r,t,d,h=>by simp only[xN]at h;by_cases p:s=t;subst p;rw[A7]at h ⊢;cases h;exact⟨x,rfl,rfl⟩;rw[AB _ _ p]at h ⊢;exact sM h
def ZJ:∀{env:Env} {t:Nat} {d:D},lk env t=some d->∀i∈Hb d,i∈PM env
 |[],t,d,h,_,_=>by simp[lk]at h
 |(s,x)::r,t,d,h,i,p=>by simp only[PM,B2];by_cases q:s=t;subst q;rw[A7]at h;cases h;exact .inl p;rw[AB _ _ q]at h;exact .inr (ZJ h i p)
def HM (ρ:Nat->Nat):∀l:L1 D,F1 ρ l=l.map (Lj ρ)
 |[]=>rfl
 |d::r=>by simp[F1,HM ρ r]
def JH {d:D} {i:Nat}:∀{l:L1 D},d∈l->i∈Hb d->i∈FQ l
 |[],h,_=>by simp at h
 |x::r,h,p=>by simp only[FQ,B2];rcases Ck.1 h with rfl|h;exact .inl p;exact .inr (JH h p)
def X.ren (h:X I μ v d):(∀i∈Hb d,∀g,μ i=some g->ν (ρ i)=some g)->X I ν v (Lj ρ d):=by have B:∀{l:L1 D} {i:Nat} {x:D},(F1 ρ l)[i]?=some x->∃y,l[i]?=some y/\x=Lj ρ y:=by{intro l i x z;rw[HM,Ct]at z;cases C:l[i]? with|none=>rw[C]at z;cases z|some y=>{rw[C]at z;cases z;exact⟨y,rfl,rfl⟩}};induction h with|undef v=>intro _;exact .undef v|imm v x z=>intro _;exact .imm v x z|nils=>intro _;exact .nils|ref b id off q=>intro p;exact .ref b _ off (p id (by simp[Hb]) _ q)|ip b o t cs off vs E R=>intro _;exact .ip b o t cs off vs E R|agg cs ds C G _ K=>intro p;refine .agg cs _ (by rw[HM,C6,C]) G λi c x L z=>?_;obtain⟨y,A,rfl⟩:=B z;exact K i c y L A λj N=>p j (by simp only[Hb];exact JH (AF A) N)|tup cs ds C _ K=>intro p;refine .tup cs _ (by rw[HM,C6,C]) λi c x L z=>?_;obtain⟨y,A,rfl⟩:=B z;exact K i c y L A λj N=>p j (by simp only[Hb];exact JH (AF A) N)|own id r a u q=>intro p;exact .own _ r a u (p id (by simp[Hb]) _ q)|elp b id r u k sz f q=>intro p;exact .elp b _ r u k sz f (p id (by simp[Hb]) _ q)|mapr id b q=>intro p;exact .mapr _ b (p id (by simp[Hb]) _ q)|iter id b q=>intro p;exact .iter _ b (p id (by simp[Hb]) _ q)|fn f first u F H e L _ _ T V=>intro p;refine .fn f first u _ _ (by rw[HM,C6,e]) (by rw[HM,C6,L]) (λi c x G W=>?_) (λi c x G W=>?_);obtain⟨y,A,rfl⟩:=B W;exact T i c y G A λj N=>p j (by simp only[Hb];exact Ko _ (JH (AF A) N));obtain⟨y,A,rfl⟩:=B W;exact V i c y G A λj N=>p j (by simp only[Hb];exact OU _ (JH (AF A) N))|iface t v d _ K=>intro p;exact .iface t v _ (K p)|guard c S v d _ m K=>intro p;exact .guard c S v _ (λL=>K L p) m|clip a r es n=>intro _;exact .clip a r es n|slc b id off r u q C z=>intro p;exact .slc b _ off r u (p id (by simp[Hb]) _ q) C z|yld b id q=>intro p;exact .yld b _ (p id (by simp[Hb]) _ q)|raw v h=>intro _;exact .raw v h|hv v id i vs s q w G=>{intro p;exact .hv v _ i vs s (p id (by simp[Hb]) _ q) w G}
def RepL.ren {vs:L1 Value} (h:RepL I μ vs ds) (r:∀i∈FQ ds,∀g,μ i=some g->ν (ρ i)=some g):RepL I ν vs (F1 ρ ds):=by refine⟨by rw[HM,C6,h.1],λi v x u p=>?_⟩;rw[HM,Ct]at p;cases q:ds[i]? with|none=>rw[q]at p;cases p|some y=>{rw[q]at p;cases p;exact(h.2 i v y u q).ren λj z=>r j (JH (AF q) z)}
def LM:Blk->L1 Nat
 |.cells _ _ cs=>FQ cs
 |.bun id _=>[id]
 |.adr id _=>[id]
 |_=>[]
def Z8 (ρ:Nat->Nat):Blk->Blk
 |.cells t sz cs=>.cells t sz (F1 ρ cs)
 |.map h=>.map h
 |.immb t sz xs=>.immb t sz xs
 |.row t sz es=>.row t sz es
 |.siter s p=>.siter s p
 |.pin=>.pin
 |.bun id S=>.bun (ρ id) S
 |.hp A=>.hp A
 |.adr id b=>.adr (ρ id) b
 |.mapx h b es c=>.mapx h b es c
 |.miter b s z c=>.miter b s z c
def BlkRep.ren {g:Value} {blk:Blk} (h:BlkRep I μ w g blk) (p:∀i∈LM blk,∀g,μ i=some g->ν (ρ i)=some g):BlkRep I ν w g (Z8 ρ blk):=by cases blk with|immb t sz xs=>exact h|cells t sz cs=>obtain⟨y,b,vs,q,r,u,B⟩:=h;exact⟨by rw[HM,C6,y],b,vs,q,r,u.ren p,B⟩|row t sz es=>exact h|map C=>exact h|siter s D=>exact h|pin=>exact h|bun id S=>obtain⟨b,E,q,r,u⟩:=h;exact⟨b,E,p id (by simp[LM]) _ q,r,u⟩|hp A=>exact h|adr id b=>exact⟨h.1,p id (by simp[LM]) _ h.2⟩|mapx C b es c=>exact h|miter b s z c=>{exact h}
def X.sub (h:X I μ v d) (q:∀i∈Hb d,∀g,μ i=some g->ν i=some g):X I ν v d:=by have:=h.ren (ν:=ν) (ρ:=λi=>i) q;have p:∀d,Lj (λi=>i) d=d:=by{intro d;refine D.rec (motive_1:=λd=>Lj (λi=>i) d=d) (motive_2:=λl=>F1 (λi=>i) l=l) ?_ ?_ ?_ ?_ ?_ ?_ ?_ ?_ ?_ ?_ ?_ ?_ ?_ ?_ ?_ ?_ ?_ ?_ ?_ ?_ ?_ d<;>intros<;>simp_all [Lj,F1]};rwa [p]at this
inductive Out where
 |ret (d:D) (st:St)
 |pan (x:V)
def CT (st:St):L1 Nat:=st.map (·.1)
def Ht (P:Program) (f:FuncId) (ds:L1 D) (st:St) (q:Out):Prop :=
 ∀I μ w (xs:Array Value),StRep I μ st [] w->RepL I μ xs.toList ds->valX P ((callFunc f xs).run P w)
  (λu w'=>match q with
   |.ret d au=>∃r h,X r h u d/\StRep r h au [] w'/\Pin (CT st) μ h/\Ext I μ st w r h au w'
   |.pan _=>False)
  (λp w'=>match q with
   |.ret _ _=>False
   |.pan x=>NS (· = x) I μ st w p w')
def Iz (P:Program) (f:FuncId) (vs:L1 V) (v:V):Prop:=Ht P f (vs.map .imm) [] (.ret (.imm v) [])
def DZ (l:L1 (Nat×Nat)) (i:Nat):Nat:=match lk l i with
 |some j=>j
 |none=>i
def Bg:L1 (Nat×Nat)->L1 (Nat×Nat)
 |[]=>[]
 |(a,b)::r=>(b,a)::Bg r
def Ec (σ τ:L1 (Nat×Nat)):L1 Nat->Bool
 |[]=>true
 |i::r=>(match lk σ i with
  |some j=>(match lk τ j with
   |some k=>Nat.beq k i
   |none=>false)
  |none=>false)&&Ec σ τ r
abbrev G2:=L1 (Nat×Nat)
def MV {σ τ:G2}:∀{l:L1 Nat},Ec σ τ l=true->∀i∈l,∃j,lk σ i=some j/\lk τ j=some i
 |[],_,i,hi=>by simp at hi
 |x::r,h,i,hi=>by simp only[Ec,Am]at h;rcases Ck.1 hi with rfl|hi;cases q:lk σ i with|none=>simp[q]at h|some j=>{cases p:lk τ j with|none=>simp[q,p]at h|some k=>{simp only[q,p]at h;rw[CU h.1]at p;exact⟨j,rfl,p⟩}};exact MV h.2 i hi
def Dx:St->L1 Nat
 |[]=>[]
 |(i,some b)::r=>i::(LM b++Dx r)
 |(i,none)::r=>i::Dx r
def ET (τ:L1 (Nat×Nat)):St->St
 |[]=>[]
 |(i,some b)::r=>(DZ τ i,some (Z8 (DZ τ) b))::ET τ r
 |(i,none)::r=>(DZ τ i,none)::ET τ r
def F3 (σ:L1 (Nat×Nat)) (st:St):St->Prop
 |[]=>True
 | (i,some b)::r=>(match lk (Bg σ) i with
  |some a=>(match lk σ a with
   |some j=>Nat.beq j i=true
   |none=>False)/\(match lk st a with
   |some (some h)=>Z8 (DZ σ) h=b/\Ec σ (Bg σ) (LM h)=true
   |_=>False)
  |none=>False)/\F3 σ st r
 |(_,none)::_=>False
def Kb {σ:G2} {st:St}:∀{bl:St},F3 σ st bl->∀i b,Aw bl i b->∃a p,lk (Bg σ) i=some a/\lk σ a=some i/\Aw st a p/\Z8 (DZ σ) p=b/\Ec σ (Bg σ) (LM p)=true
 |[],_,i,b,h=>by simp[Aw,lk]at h
 |(k,none)::r,h,_,_,_=>h.elim
 |(k,some x)::r,h,i,b,q=>by obtain⟨z,E⟩:=h;by_cases C:k=i;subst C;have:x=b:=by{unfold Aw at q;rw[A7]at q;cases q;rfl};subst this;cases D:lk (Bg σ) k with|none=>simp[D]at z|some a=>{simp only[D]at z;obtain⟨A,u⟩:=z;cases B:lk σ a with|none=>simp[B]at A|some j=>{simp only[B]at A;cases y:lk st a with|none=>simp[y]at u|some ob=>{cases ob with|none=>simp[y]at u|some p=>{simp only[y]at u;exact⟨a,p,rfl,by rw[B,CU A],y,u.1,u.2⟩}}}};refine Kb E i b ?_;unfold Aw at q ⊢;rwa [AB _ _ C]at q
def CC:L1 Nat->St
 |[]=>[]
 |a::r=>(a,none)::CC r
def Pb (h:Aw (CC l++st) i b):i∉l/\Aw st i b:=by induction l with|nil=>exact⟨by simp,h⟩|cons a r p=>{simp only[CC,Dj]at h;let⟨q,u⟩:=B3.1 h;let⟨y,z⟩:=p u;exact⟨by simp[q,y],z⟩}
def OF {τ:G2} {st:St} {i:Nat} {b:Blk}:∀{a8:St},Aw (ET τ a8++st) i b->(∃j p,Aw a8 j p/\i=DZ τ j/\b=Z8 (DZ τ) p)\/Aw st i b
 |[],h=>.inr h
 |(k,some x)::r,h=>by simp only[ET,Dj]at h;rcases A1.1 h with⟨u,y⟩|⟨u,y⟩;exact .inl ⟨k,x,by unfold Aw;rw[A7],u,y⟩;rcases OF y with⟨j,p,z,A,B⟩|q;refine .inl ⟨j,p,?_,A,B⟩;unfold Aw at z ⊢;rw[AB _ _ (λe=>by subst e;exact u A)];exact z;exact .inr q
 |(k,none)::r,h=>by simp only[ET,Dj]at h;let⟨u,y⟩:=B3.1 h;rcases OF y with⟨j,p,z,A,B⟩|q;refine .inl ⟨j,p,?_,A,B⟩;unfold Aw at z ⊢;rw[AB _ _ (λe=>by subst e;exact u A)];exact z;exact .inr q
def M3:∀{σ:G2} {i a:Nat},lk (Bg σ) i=some a->(a,i)∈σ
 |[],i,a,h=>by simp[Bg,lk]at h
 |(x,y)::r,i,a,h=>by simp only[Bg]at h;by_cases p:y=i;subst p;rw[A7]at h;cases h;simp;rw[AB _ _ p]at h;exact Gr _ (M3 h)
def V0:∀{σ:G2} {i a:Nat},lk σ i=some a->(i,a)∈σ
 |[],i,a,h=>by simp[lk]at h
 |(x,y)::r,i,a,h=>by by_cases p:x=i;subst p;rw[A7]at h;cases h;simp;rw[AB _ _ p]at h;exact Gr _ (V0 h)
def PZ {l m:G2}:(∃a,lk l i=some a/\lk (l++m) i=some a)\/(lk l i=none/\lk (l++m) i=lk m i):=by induction l with|nil=>exact .inr ⟨rfl,rfl⟩|cons p r q=>{obtain⟨x,y⟩:=p;by_cases h:x=i;subst h;exact .inl ⟨y,A7 _ _ _,A7 _ _ _⟩;rw[AB _ _ h,Dj,AB _ _ h];exact q}
structure vT (σ τ1:List (Nat×Nat)) (das:List D) (bl:St) (d:D) (a8:St) (fr:List Nat):Prop where
 args:Ec σ (Bg σ) (FQ das)=true
 inv:Ec σ (Bg σ) (σ.map (·.1))=true
 given:∀p∈σ,p.2∈CT bl
 res:Ec (Bg σ++τ1) (σ++Bg τ1) (Hb d)=true
 now:Ec (Bg σ++τ1) (σ++Bg τ1) (Dx a8)=true
 new:∀p∈τ1,p.2∈fr
def D9:∀{st:St} {i:Nat} {b:Blk},Aw st i b->i∈Dx st/\∀j∈LM b,j∈Dx st
 |[],i,b,h=>by simp[Aw,lk]at h
 |(k,x)::r,i,b,h=>by by_cases q:k=i;subst q;unfold Aw at h;rw[A7]at h;cases h;simp only[Dx];exact⟨by simp,λj p=>by simp[p]⟩;have A:Aw r i b:=by{unfold Aw at h ⊢;rwa [AB _ _ q]at h};let⟨u,z⟩:=D9 A;cases x with|none=>simp only[Dx,Ck];exact⟨.inr u,λj p=>.inr (z j p)⟩|some y=>{simp only[Dx,Ck,B2];exact⟨.inr (.inr u),λj p=>.inr (.inr (z j p))⟩}
def IZ (σ:L1 (Nat×Nat)) (μ:Mu):Mu:=λj=>match lk (Bg σ) j with
 |some a=>μ a
 |none=>none
def Wv (h:Ec σ τ l=true) (p:i∈l):lk τ (DZ σ i)=some i:=by let⟨j,q,r⟩:=MV h i p;simp[DZ,q,r]
def HI (q:StRep I μ st aa w) (T:F3 σ st bl) (d:Ec σ (Bg σ) (FQ das)=true) (e:RepL I μ xs das):StRep I (IZ σ μ) bl [] w/\RepL I (IZ σ μ) xs (F1 (DZ σ) das)/\∀b,AX (IZ σ μ) bl b->AX μ st b:=by have V:∀{l:L1 Nat},Ec σ (Bg σ) l=true->∀i∈l,∀g,μ i=some g->IZ σ μ (DZ σ i)=some g:=by{intro l A i B g y;unfold IZ;rw[Wv A B];exact y};have A:∀i b g,Aw bl i b->IZ σ μ i=some g->∃a p,Aw st a p/\μ a=some g/\lk σ a=some i:=by{intro i b g B y;let⟨a,p,r,u,z,_⟩:=Kb T i b B;exact⟨a,p,z,by simpa[IZ,r]using y,u⟩};refine⟨{ imm:=q.imm,blk:=λi b h=>?_,apart:=λi b g k h y f=>?_,inj:=λi j D m W c k B n E G K L=>?_,nodup:=.nil,idsFree:=λ_ h=>by simp at h },e.ren (V d),?_⟩;let⟨a,p,r,u,z,o,s⟩:=Kb T i b h;let⟨g,y,t⟩:=q.blk a p z;refine⟨g,by simp[IZ,r,y],?_⟩;rw[<- o];exact t.ren (V s);let⟨a,p,r,u,_⟩:=A i b g h y;exact q.apart a p g k r u f;let⟨a,p,r,u,z⟩:=A i D W B E;let⟨v,N,R,S,C⟩:=A j m c n G;have:=q.inj a v p N W c k r R u S K L;subst this;rw[z]at C;cases C;rfl;rintro b ⟨i,D,g,r,u,z⟩;let⟨a,p,x,F,_⟩:=A i D g r u;exact⟨a,p,g,x,F,z⟩
def NK (q:StRep I μ st (fr++ids') w) (hb:F3 σ st bl) (hn:vT σ τ1 das bl d a8 fr) {I':U} {R:Mu} {u:Value} (hu:X I' R u d) (V:StRep I' R a8 [] w') (hp:Pin (CT bl) (IZ σ μ) R) (W:Ext I (IZ σ μ) bl w I' R a8 w') (n:∀b,AX (IZ σ μ) bl b->AX μ st b):∃ν,StRep I' ν (ET (Bg σ++τ1) a8++CC (σ.map (·.1))++st) ids' w'/\X I' ν u (Lj (DZ (Bg σ++τ1)) d)/\μ.le ν/\Ext I μ st w I' ν (ET (Bg σ++τ1) a8++CC (σ.map (·.1))++st) w':=by have o:∀i∈fr,μ i=none:=λi F=>q.idsFree i (by simp[F]);have c:∀i j,lk σ i=some j->lk (Bg σ) j=some i/\∃g,μ i=some g:=by{intro i j L;have P:lk (Bg σ) j=some i:=by{let⟨j',C,D⟩:=MV hn.inv i (C7.2 ⟨(i,j),V0 L,rfl⟩);rw[L]at C;cases C;exact D};refine⟨P,?_⟩;have C:=hn.given _ (V0 L);let⟨⟨j',x⟩,D,E⟩:=C7.1 C;have E:j'=j:=E;subst E;have:∀{bl:St},F3 σ st bl->(j',x)∈bl->∃g,μ i=some g:=by{intro bl;induction bl with|nil=>intro _ h;simp at h|cons p r ih=>{obtain⟨k,y⟩:=p;intro h hm;cases y with|none=>exact h.elim|some y=>{rcases Ck.1 hm with e|e;cases e;have C:=h.1;simp only[P]at C;have h4:=C.2;cases hb:lk st i with|none=>simp[hb]at h4|some ob=>{cases ob with|none=>simp[hb]at h4|some ba=>{let⟨g,z,_⟩:=q.blk i ba hb;exact⟨g,z⟩}};exact ih h.2 e}}};exact this hb D};obtain⟨ν,H⟩:∃ν:Mu,ν=λi=>match lk (σ++Bg τ1) i with|some j=>R j|none=>μ i:=⟨_,rfl⟩;have Q:∀{l:L1 Nat},Ec (Bg σ++τ1) (σ++Bg τ1) l=true->∀i∈l,∀g,R i=some g->ν (DZ (Bg σ++τ1) i)=some g:=by{intro l hl i F g z;rw[H];simp only[Wv hl F];exact z};have hσ:∀i j,lk σ i=some j->∀g,μ i=some g->ν i=some g:=by{intro i j L g z;have D:=(c i j L).1;rw[H];rcases PZ (l:=σ) (m:=Bg τ1) (i:=i)with⟨a,E,h4⟩|⟨E,_⟩;rw[L]at E;cases E;simp only[h4];exact hp j (hn.given _ (V0 L)) g (by simp[IZ,D,z]);rw[L]at E;cases E};have hin:∀i,(∃j,lk σ i=some j)\/i∈fr\/ν i=μ i:=by{intro i;rcases PZ (l:=σ) (m:=Bg τ1) (i:=i)with⟨a,C,_⟩|⟨C,D⟩;exact .inl ⟨a,C⟩;cases h:lk (Bg τ1) i with|none=>refine .inr (.inr ?_);rw[H];simp[D,h]|some j=>{exact .inr (.inl (hn.new _ (M3 h)))}};have hle:μ.le ν:=by{intro i g z;rcases hin i with⟨j,h⟩|h|h;exact hσ i j h g z;rw[o i h]at z;cases z;rw[h];exact z};have B:∀i b,Aw (ET (Bg σ++τ1) a8++CC (σ.map (·.1))++st) i b->(∃j f,Aw a8 j f/\(b=Z8 (DZ (Bg σ++τ1)) f/\i=DZ (Bg σ++τ1) j)/\∀g,ν i=some g↔R j=some g)\/((∀j,lk σ i≠some j)/\Aw st i b/\ν i=μ i):=by{intro i b hl;rw[Cl]at hl;rcases OF hl with⟨j,f,C,D,E⟩|h;refine .inl ⟨j,f,C,⟨E,D⟩,λg=>?_⟩;rw[D,H];simp only[Wv hn.now (D9 C).1];let⟨C,D⟩:=Pb h;have E:∀j,lk σ i≠some j:=λj hj=>C (C7.2 ⟨(i,j),V0 hj,rfl⟩);refine .inr ⟨E,D,?_⟩;rcases hin i with⟨j,h⟩|h|h;exact absurd h (E j);let⟨g,z,_⟩:=q.blk i b D;rw[o i h]at z;cases z;exact h};have A:∀i b g k,(∀j,lk σ i≠some j)->Aw st i b->μ i=some g->Ek g k->¬AX (IZ σ μ) bl k:=by{rintro i b g k C D E h4 ⟨j,bj,J,h5,h6,h7⟩;let⟨a,ba,N,G,K,_⟩:=Kb hb j bj h5;simp only[IZ,N]at h6;have:=q.inj i a b ba g J k D K E h6 h4 h7;subst this;exact C j G};have hext:Ext I μ st w I' ν (ET (Bg σ++τ1) a8++CC (σ.map (·.1))++st) w':=by{refine { imm:=W.imm,os:=W.os,tape:=W.tape,output:=W.output,size:=W.size,block:=λb s ho=>W.block b s (λh=>ho (n b h)),fresh:=λb s ho=>?_,old:=λb s ho=>W.old b s (λh=>ho (n b h)) };obtain⟨i,bi,g,C,D,E⟩:=ho;rcases B i bi C with⟨j,f,N,_,K⟩|⟨_,G,K⟩;exact n b (W.fresh b s ⟨j,f,g,N,(K g).1 D,E⟩);exact⟨i,bi,g,G,by rw[<- K];exact D,E⟩};refine⟨ν,?_,hu.ren (Q hn.res),hle,hext⟩;refine { imm:=V.imm,blk:=λi b h=>?_,apart:=λi b g k h z m=>?_,inj:=λi j bi bj gi J k F hj S T t v=>?_,nodup:=(CV.1 q.nodup).2.1,idsFree:=λi F=>?_ };rcases B i b h with⟨j,f,N,G,K⟩|⟨N,G,K⟩;let⟨g,z,hr⟩:=V.blk j f N;exact⟨g,(K g).2 z,by rw[G.1];exact hr.ren λk m=>Q hn.now k ((D9 N).2 k m)⟩;let⟨g,z,hr⟩:=q.blk i b G;refine⟨g,by rw[K];exact z,(hr.mono W.imm hle).world λk m=>?_⟩;exact W.block k (q.apart i b g k G z m).2 (A i b g k N G z m);rcases B i b h with⟨j,f,N,G,K⟩|⟨N,G,K⟩;exact V.apart j f g k N ((K g).1 z) m;rw[K]at z;let⟨C,D⟩:=q.apart i b g k G z m;exact⟨by rw[W.old k D (A i b g k N G z m)];exact C,ZM D W.size⟩;rcases B i bi F with⟨i1,f,N,G,K⟩|⟨N,G,K⟩<;>rcases B j bj hj with⟨j1,b2,p1,p2,p3⟩|⟨p1,p2,p3⟩;have:=V.inj i1 j1 f b2 gi J k N p1 ((K gi).1 S) ((p3 J).1 T) t v;subst this;rw[G.2,p2.2];rw[p3]at T;have m:=(q.apart j bj J k p2 T v).2;exact absurd (W.fresh k m ⟨i1,f,gi,N,(K gi).1 S,t⟩) (A j bj J k p1 p2 T v);rw[K]at S;have m:=(q.apart i bi gi k G S t).2;exact absurd (W.fresh k m ⟨j1,b2,J,p1,(p3 J).1 T,v⟩) (A i bi gi k N G S t);rw[K]at S;rw[p3]at T;exact q.inj i j bi bj gi J k G p2 S T t v;rcases hin i with⟨j,h⟩|h|h;let⟨_,g,z⟩:=c i j h;rw[q.idsFree i (by simp[F])]at z;cases z;exact absurd rfl ((CV.1 q.nodup).2.2 i h i F);rw[h];exact q.idsFree i (by simp[F])
def Kv (C:Prop) (env:Env):L1 Operand->Option (L1 D×L1 Prop)
 |[]=>some ([],[])
 |x::r=>match EM env x,Kv C env r with
  |some (.guard c w d),some (ds,o)=>some (d::ds,(C->c=w)::o)
  |some d,some (ds,o)=>some (d::ds,o)
  |_,_=>none
def B1:L1 DI->L1 Nat×L1 Nat->Option (L1 Oper×Oper×L1 DI)
 |.ops h (o::r)::k,_=>some (h,o,.ops h r::k)
 |.dops h (o::r) p::k,f=>some (h,o,.dops h r (f::p)::k)
 |_,_=>none
def Ce (n:Nat):Option Nat->Bool
 |some t=>Nat.blt t n
 |none=>true
def Ap:Option (Bool×Bool)->Prop
 |none=>True
 |some (c,w)=>c=w
def gD:Option (Bool×Bool)->D->D
 |none,d=>d
 |some (c,w),d=>.guard c w d
def CF (all:L1 Oper) (env:Env) (o:Oper):Option (Option (Bool×Bool)) :=
 match o.guard with
 |none=>some none
 |some (j,w)=>match OM all j with
  |some { dst:=some g,.. }=>match ctl (lk env g) w with
   |some c=>some (some (c,w))
   |none=>none
  |_=>none
structure vS where
 f:FuncId
 vs:List V
 g:Option (Bool×Bool)
 ob:List Prop
 dst:Option Nat
 todo:List DI
def sZ (n:Nat) (env:Env) (todo:L1 DI):Option vS :=
 match B1 todo ([],[])with
 |some (h,o,av)=>match o.op,CF h env o with
  |.call { callee:=.value (.func f),args:=⟨args⟩,.. },some g=>match Kv (Ap g) env args with
   |some (ds,ob)=>match O8 ds,Ce n o.dst with
    |some vs,true=>match o.dst with
     |some t=>some ⟨f,vs,g,ob,some t,av⟩
     |none=>some ⟨f,vs,g,ob,none,av⟩
    |_,_=>none
   |none=>none
  |.call { callee:=.value (.tmp t),args:=⟨args⟩,.. },some g=>match lk env t,Kv (Ap g) env args with
   |some (.imm (.fn (.func f))),some (ds,ob)=>match O8 ds,Ce n o.dst with
    |some vs,true=>match o.dst with
     |some t=>some ⟨f,vs,g,ob,some t,av⟩
     |none=>some ⟨f,vs,g,ob,none,av⟩
    |_,_=>none
   |_,_=>none
  |_,_=>none
 |none=>none
section
variable {n:Nat} {env:Env} {k:L1 DI}
def M.fnInv {f:Fn} (h:M I v (.fn f)):v=.func f #[] #[]:=by cases h;rfl
def Ie (q:C):∀{args:L1 Operand} {ds:L1 D} {ob:L1 Prop},Kv C env args=some (ds,ob)->A8 ob->(∀x∈args,∀d,EM env x=some d->X I μ (a.eval x) d)->RepL I μ (args.map a.eval) ds
 |[],ds,ob,h,_,_=>by cases h;exact .nil
 |x::r,ds,ob,h,p,u=>by have E:∀y∈r,∀d,EM env y=some d->X I μ (a.eval y) d:=λy G=>u y (by simp[G]);simp only[Kv]at h;split at h;rename_i c L d z K A B;cases h;exact .mk ((u x (by simp) _ A).guardInv (p.1 q)) (Ie q B p.2 E);rename_i d z K _ A B;cases h;exact .mk (u x (by simp) _ A) (Ie q B p E);cases h
def H1:∀{vs:L1 Value} {ds:L1 D} {xs:L1 V},H2 ds=some xs->RepL I μ vs ds->RepVL I vs xs
 |[],ds,xs,h,p=>by cases ds with|nil=>cases h;exact .nil|cons d ds=>{simp[RepL]at p}
 |v::vs,ds,xs,h,p=>by cases ds with|nil=>simp[RepL]at p|cons d ds=>{obtain⟨q,r⟩:=p.cons;cases d<;>simp only[H2,reduceCtorEq]at h;{split at h;{cases h;exact .mk q.immInv (H1 (by assumption) r)};cases h};{split at h;{cases h;cases q;exact .mk .slnil (H1 (by assumption) r)};cases h}}
def X.ipV (h:X I μ v (.ip t cs off)):M I v (.ip t cs off):=by cases h with|ip b o _ _ _ vs p q=>{exact .ip b o t cs off vs p q}
def M.ipD (h:M I v (.ip t cs off)):X I μ v (.ip t cs off):=by cases h with|ip b o _ _ _ vs p q=>{exact .ip b o t cs off vs p q}
def zb4 (h:zmq d=some x) (p:X I μ v d):M I v x:=by unfold zmq at h;split at h;cases h;exact p.immInv;cases h;cases p;exact .slnil;split at h;rename_i xs q;cases h;obtain⟨cs,rfl,r,u⟩:=p.aggDInv;have:=H1 q r;exact .agg cs xs (by have:=this.1;simpa using this) u λi c x y q=>this.2 i c x (by simpa using y) q;cases h;cases h;exact p.ipV;cases h
def Le:∀{vs:L1 Value} {ds:L1 D} {xs:L1 V},O6 ds=some xs->RepL I μ vs ds->RepVL I vs xs
 |[],[],xs,h,r=>by simp only[O6,Ci]at h;subst h;exact⟨rfl,λi v x h=>by simp at h⟩
 |v::vs,d::ds,xs,h,r=>by simp only[O6]at h;split at h;rename_i x A B C;cases h;have z:=Le (vs:=vs) C ⟨by simpa using r.1,λi v d p q=>r.2 (i+1) v d (by simpa using p) (by simpa using q)⟩;refine⟨by simp[z.1],λi u y p q=>?_⟩;cases i with|zero=>simp at p q;rw[<- p,<- q];exact zb4 B (r.2 0 v d O O)|succ i=>{exact z.2 i u y (by simpa using p) (by simpa using q)};cases h
 |[],_::_,_,_,r=>by have:=r.1;simp at this
 |_::_,[],_,_,r=>by have:=r.1;simp at this
def TL (h:toV d=some x) (q:X I μ v d):M I v x:=by unfold toV at h;split at h;cases h;exact q.immInv;cases h;cases q;exact .slnil;split at h;rename_i xs p;cases h;obtain⟨cs,rfl,r,u⟩:=q.aggDInv;have:=H1 p r;exact .agg cs xs (by have:=this.1;simpa using this) u λi c x y p=>this.2 i c x (by simpa using y) p;cases h;split at h;rename_i ds _ xs p;cases h;generalize K:D.tup ds=z at q;cases q<;>cases K;rename_i cs L h;have:=Le (vs:=cs.toList) p ⟨by simpa using L,λi c x y p=>h i c x (by simpa using y) p⟩;exact .tup cs xs (by have:=this.1;simpa using this) λi c x y p=>this.2 i c x (by simpa using y) p;cases h;cases h;exact q.ipV;{cases h;cases q;assumption};{split at h;{rename_i xs N p R;cases h;cases q with|fn g first A T V S y r u=>{have E:=Le (vs:=first.toList) p ⟨by simpa using S,λi v d B C=>r i v d (by simpa using B) C⟩;have G:=Le (vs:=A.toList) R ⟨by simpa using y,λi v d B C=>u i v d (by simpa using B) C⟩;exact .clo _ first A xs N (by simpa using E.1) (by simpa using G.1) (λi c x r u=>E.2 i c x (by simpa using r) u) (λi c x r u=>G.2 i c x (by simpa using r) u)}};cases h};cases h
def cO:∀{vs:L1 Value} {ds:L1 D} {xs:L1 V},O8 ds=some xs->RepL I μ vs ds->RepVL I vs xs
 |[],ds,xs,h,p=>by cases ds with|nil=>cases h;exact .nil|cons d ds=>{simp[RepL]at p}
 |v::vs,ds,xs,h,p=>by cases ds with|nil=>simp[RepL]at p|cons d ds=>{obtain⟨q,r⟩:=p.cons;simp only[O8]at h;split at h;{cases h;exact .mk (TL (by assumption) q) (cO (by assumption) r)};cases h}
def KA {f:L1 Nat×L1 Nat} {all:L1 Oper} (h:B1 todo f=some (all,o,av)):(∃r k,todo=.ops all (o::r)::k/\av=.ops all r::k)\/∃r fs k,todo=.dops all (o::r) fs::k/\av=.dops all r (f::fs)::k:=by unfold B1 at h;split at h;cases h;exact .inl ⟨_,_,rfl,rfl⟩;cases h;exact .inr ⟨_,_,_,rfl,rfl⟩;cases h
def BQ {rd:L1 Nat} {wr:St} {all:L1 Oper} (z:B1 todo (rd,wr.map (·.1))=some (all,o,av)) (y:LD P (NR Q) all o env st rd fr wr d) (u:Ce n o.dst=true) (p:∀c,o.op≠.defer c) (h:G P n F Q av (Ca o.dst d env) (wr++st) ids'):G P n F Q todo env st (fr++ids'):=by have q:∀t,o.dst=some t->t<n:=λt A=>by{unfold Ce at u;rw[A]at u;simpa[JO]using u};rcases KA z with⟨r,k,rfl,rfl⟩|⟨r,B,k,rfl,rfl⟩;exact zpp y q p h;simp only[G,Vu]at h ⊢;exact bJ y q p h
def Ga (P:Program) (o:Oper) (env:Env) (f:FuncId) (das:L1 D) (C:Prop):Prop :=
 ∀I μ a w,EN I μ env a o.op->C->∃xs:Array Value,RepL I μ xs.toList das/\(execOp a.eval o).run P w=(callFunc f xs).run P w
def Ho {args:L1 Operand} (r:o.op=.call { callee:=.value (.func f),args:=⟨args⟩,argTypes:=q }) (u:Kv C env args=some (ds,ob)) (p:A8 ob):Ga P o env f ds C:=by intro I μ a w h y;rw[r]at h;refine⟨(args.map a.eval).toArray,by simpa using Ie y u p λx z=>h x (by simp[Op.operands,Call.operands,z]),?_⟩;simp only[execOp,r,resolve,Act.eval,Deferred.ofValue,aj,am,ah,invoke];congr 2;simp
def G5 {t:Nat} {args:L1 Operand} (r:o.op=.call { callee:=.value (.tmp t),args:=⟨args⟩,argTypes:=q }) (u:lk env t=some (.imm (.fn (.func f)))) (y:Kv C env args=some (ds,ob)) (p:A8 ob):Ga P o env f ds C:=by intro I μ a w h z;rw[r]at h;refine⟨(args.map a.eval).toArray,by simpa using Ie z y p λx A=>h x (by simp[Op.operands,Call.operands,A]),?_⟩;have B:a.eval (.tmp t)=.func (.func f) #[] #[]:=(h (.tmp t) (by simp[Op.operands,Call.operands]) _ u).immInv.fnInv;simp only[execOp,r,resolve,B,Deferred.ofValue,aj,am,ah,invoke];congr 2;simp
def Kw {t:Nat} {args:L1 Operand} {df dc:L1 D} (z:o.op=.call { callee:=.value (.tmp t),args:=⟨args⟩,argTypes:=q }) (B:lk env t=some (.fn (.func f) df dc)) (E:Kv C env args=some (ds,ob)) (u:A8 ob):Ga P o env f (df++ds++dc) C:=by intro I μ a w h G;rw[z]at h;have p:=Ie (I:=I) (μ:=μ) (a:=a) G E u λx K=>h x (by simp[Op.operands,Call.operands,K]);have A:=h (.tmp t) (by simp[Op.operands,Call.operands]) _ B;generalize r:a.eval (.tmp t)=v at A;cases A with|fn _ first y _ _ L N R S=>{refine⟨first++(args.map a.eval).toArray++y,?_,?_⟩;simp only[M1];refine RepL.append (RepL.append ⟨by simpa using L,λi v d r p=>R i v d (by simpa using r) p⟩ p) ⟨by simpa using N,λi v d r p=>S i v d (by simpa using r) p⟩;simp only[execOp,z,resolve,r,Deferred.ofValue,aj,am,ah,invoke];congr 3;simp}
def Hi {all:L1 Oper} (h:CF all env o=some g) (q:∀t∈o.looksAt all.toArray,∀d,lk env t=some d->X I μ (a.tmps.getD t undef) d):Region.wanted o (yielded all.toArray a.tmps)=true↔Ap g:=by unfold CF at h;split at h;rename_i p;cases h;simp[Ap,AJ p];rename_i j y p;split at h;rename_i z _ _ _ _ _ r;split at h;rename_i c u;cases h;rw[HB]at r;exact Wj p r O u q;cases h;cases h
def TV {all:L1 Oper} {v:V} (T:CF all env o=some g) (K:Ga P o env f das (Ap g)) (W:O8 das=some vs) (b:Ap g->Iz P f vs v):LD P Pn all o env st [] [] [] (gD g (.imm v)):=by
 have L:∀I μ a8 q a w,StRep I μ a8 q w->EN I μ env a o.op->Ap g->valX P ((execOp a.eval o).run P w) (λu w'=>∃D z,StRep D z a8 q w'/\X D z u (gD g (.imm v))/\μ.le z/\Ext I μ a8 w D z a8 w') (NS Pn I μ a8 w):=by
  intro I μ a8 q a w A N B;let⟨xs,c,d⟩:=K I μ a w N B;have e:=cO W c;let⟨i,R,j⟩:=HI (σ:=[]) (bl:=[]) A ab (das:=vs.map .imm) (by
   have:∀vs:L1 V,FQ (vs.map .imm)=[]:=λvs=>by induction vs with
    |nil=>rfl
    |cons x r k=>simp[FQ,Hb,k]
   rw[this];rfl) e.imm
  have E:F1 (DZ []) (vs.map .imm)=vs.map .imm:=by
   rw[HM];simp[Lj]
  rw[E]at R;rw[d];refine(b B I _ w xs i R).mono (λu w' l=>?_) (λ_ _ h=>h.elim);obtain⟨D,z,m,n,s,t⟩:=l;let⟨ν,F,S,H,J⟩:=NK (fr:=[]) (ids':=q) (σ:=[]) (τ1:=[]) (das:=[]) (bl:=[]) A ab ⟨rfl,rfl,λ_ h=>by simp at h,rfl,rfl,λ_ h=>by simp at h⟩ m n s t j;refine⟨D,ν,F,?_,H,J⟩;cases g with
  |none=>exact S
  |some p=>exact .guard _ _ _ _ (λ_=>S) (λQ=>absurd B Q)
 intro I μ a8 q a w _ A G;have y:=Hi T G;refine⟨λC=>L I μ a8 q a w A (Bx G) (y.1 C),λC=>⟨rfl,rfl,?_⟩⟩;cases g with
 |none=>rw[y.2 ab]at C;cases C
 |some p=>exact .guard _ _ _ _ (λK=>by rw[y.2 K]at C;cases C) (λ_=>rfl)
def Ai {v:V} (h:sZ n env todo=some ⟨f,vs,g,ob,dst,av⟩) (W:Ap g->Iz P f vs v) (r:A8 ob) (a:G P n F Q av (Ca dst (gD g (.imm v)) env) st aa):G P n F Q todo env st aa:=by
 unfold sZ at h;have u:∀{all:L1 Oper} {o:Oper} {p:L1 DI} {x:vS},(match o.dst with
   |some t=>some (⟨x.f,x.vs,x.g,x.ob,some t,p⟩:vS)
   |none=>some ⟨x.f,x.vs,x.g,x.ob,none,p⟩)=some ⟨f,vs,g,ob,dst,av⟩->x.f=f/\x.vs=vs/\x.g=g/\x.ob=ob/\o.dst=dst/\p=av:=by
  intro all o p x b
  split at b<;>(rename_i y;cases b;exact⟨rfl,rfl,rfl,rfl,y,rfl⟩)
 split at h
 ·rename_i all o p d;have z:∀e,o.op=.call e->∀c,o.op≠.defer c:=λe h c i=>by rw[h]at i;cases i
  split at h
  ·rename_i f A q g B L
   split at h
   ·rename_i ds ob N
    split at h
    ·rename_i vs R y;let⟨C,D,E,K,S,T⟩:=u (all:=all) (x:=⟨f,vs,g,ob,none,p⟩) h
     dsimp only at C D E K
     subst C;subst D;subst E;subst K;subst S;subst T;exact BQ (fr:=[]) (wr:=[]) d (TV L (Ho B N r) R W) y (z _ B) a
    ·cases h
   ·cases h
  ·rename_i t A q g B L
   split at h
   ·rename_i f ds ob j N
    split at h
    ·rename_i vs R y;let⟨C,D,E,K,S,T⟩:=u (all:=all) (x:=⟨f,vs,g,ob,none,p⟩) h
     dsimp only at C D E K
     subst C;subst D;subst E;subst K;subst S;subst T;exact BQ (fr:=[]) (wr:=[]) d (TV L (G5 B j N r) R W) y (z _ B) a
    ·cases h
   ·cases h
  ·cases h
 ·cases h
def Bt {v:V} (h:sZ n env todo=some ⟨f,vs,g,ob,dst,av⟩) (q:Iz P f vs v) (r:G P n F Q av (Ca dst (gD g (.imm v)) env) st aa) (p:A8 ob:=by simp[Ap]):G P n F Q todo env st aa:=Ai h (λ_=>q) p r
def Ah {v:V} (h:sZ n env todo=some ⟨f,vs,g,ob,dst,av⟩) (q:Iz P f vs v) (r:G P n F Q av (Ca dst (gD g (.imm v)) env) st aa) (p:A8 ob:=by simp):G P n F Q todo env st aa:=Ai h (λ_=>q) p r
end
def aC (tt:TT) (st:St) (h:TypeId):D->Option D
 |.ref id off=>match lk tt h,lk st id with
  |some i,some (some (.immb _ sz xs))=>PY i (Nat.beq sz i.size) xs off
  |some i,some (some (.cells _ sz cs))=>Iv i (Nat.beq sz i.size) cs off
  |_,_=>none
 |_=>none
def zd5:D->Bool
 |.guard ..=>false
 |_=>true
def Tp (tt:TT) (env:Env) (st:St):L1 ResultVar->Option (L1 D)
 |[]=>some []
 |.tmp t::r=>match lk env t,Tp tt env st r with
  |some d,some ds=>match zd5 d with
   |true=>some (d::ds)
   |false=>none
  |_,_=>none
 |.cell t h::r=>match lk env t,Tp tt env st r with
  |some a,some ds=>match aC tt st h a with
   |some d=>some (d::ds)
   |none=>none
  |_,_=>none
def JD:L1 D->D
 |[d]=>d
 |ds=>.tup ds
def Pq (d:D):D->Prop
 |.imm v=>toV d=some v
 |z=>d=z
def Gl (st:St):St->Prop
 |[]=>True
 |(i,some b)::r=>lk st i=some (some b)/\Gl st r
 |(_,none)::_=>False
def KZ (tt:TT) (p:L1 ResultVar) (h:Out):DQ:=λx env st _=>match x,h with
 |.ret,.ret d au=>∃ds,Tp tt env st p=some ds/\Pq (JD ds) d/\Gl st au
 |.norm,.ret d au=>∃ds,Tp tt env st p=some ds/\Pq (JD ds) d/\Gl st au
 |.panic x,.pan y=>x=y
 |_,_=>False
def MW:Nat->L1 D->Env
 |_,[]=>[]
 |i,d::r=>(i,d)::MW (i+1) r
section
variable {env:Env}
def CH:∀{au:St},Gl st au->∀i b,Aw au i b->Aw st i b
 |[],_,i,b,h=>by simp[Aw,lk]at h
 |(k,none)::r,h,_,_,_=>h.elim
 |(k,some x)::r,h,i,b,p=>by by_cases q:k=i;subst q;unfold Aw at p;rw[A7]at p;cases p;exact h.1;refine CH h.2 i b ?_;unfold Aw at p ⊢;rwa [AB _ _ q]at p
def StRep.less (p:StRep I μ st aa w) (h:∀i b,Aw au i b->Aw st i b) (u:ids'.Nodup) (q:∀i∈ids',μ i=none):StRep I μ au ids' w:={imm:=p.imm,blk:=λid blk r=>p.blk id blk (h _ _ r),apart:=λid blk g b r=>p.apart id blk g b (h _ _ r),inj:=λi j y z A B b q C=>p.inj i j y z A B b (h _ _ q) (h _ _ C),nodup:=u,idsFree:=q }
def oF (G:TTok P tt) (K:StRep I μ st aa w) {C:TypeId} {W:D} (A:X I μ v W) (h:aC tt st C W=some d):∃b u,v=.pointer (some b)/\(loadVar C b).run P w=.ok u w/\X I μ u d:=by unfold aC at h;split at h;{rename_i id off;obtain⟨b,a,c⟩:=A.refInv;have conv:∀{u:Value},(Instr.loadAt C (.pointer (some ⟨b,off,none⟩))).run P w=.ok u w->(loadVar C ⟨b,off,none⟩).run P w=.ok u w:=λh=>by{simpa[Instr.loadAt,Instr.sureAddr]using h};split at h;{rename_i i f sz xs R S;let⟨g,L,r,k,vs,B,q,p,y⟩:=K.blk id _ S;rw[c]at L;cases L;cases B;let⟨u,N,T⟩:=PX (P:=P) (w:=w) (I:=I) (μ:=μ) (G C i R) (b:=b) (o:=0) (off:=off) (xs:=xs) (vs:=λj=>vs.toList.getD j undef) (same:=Nat.beq sz i.size) (λj x E=>by{have z:j<xs.length:=(A9.1 E).1;have A:vs.toList[j]?=some (vs.toList[j]'(by rw[p.1];exact z)):=Bq _;rw[BS];have e:vs.toList.getD j undef=vs.toList[j]'(by rw[p.1];exact z):=by{simp[List.getD,A]};rw[e];exact⟨FX q j _ A,y _ (KG _)⟩}) (λj x E=>by{have z:j<xs.length:=(A9.1 E).1;have A:vs.toList[j]?=some (vs.toList[j]'(by rw[p.1];exact z)):=Bq _;have e:vs.toList.getD j undef=vs.toList[j]'(by rw[p.1];exact z):=by{simp[List.getD,A]};rw[e];exact p.2 j _ _ A E}) (λ_ V _=>by rw[r];exact CU V) h;rw[BS]at N;exact⟨_,u,a,conv N,T⟩};{rename_i i f sz cs R S;let⟨g,L,r,k,vs,B,q,p,y⟩:=K.blk id _ S;rw[c]at L;cases L;cases B;let⟨u,N,T⟩:=fQ (P:=P) (w:=w) (I:=I) (μ:=μ) (G C i R) (b:=b) (off:=off) (cs:=cs) (vs:=vs.toList) (same:=Nat.beq sz i.size) (λj v E=>FX q j v E) y p (λ_ V _=>by rw[r];exact CU V) h;exact⟨_,u,a,conv N,T⟩};cases h};cases h
def lO (b:Addr):(asAddr (.pointer (some b))).run P w=.ok b w:=by simp[asAddr]
def Z6 (p:TTok P tt) (q:StRep I μ st aa w) {tmps:Array Value} (y:∀t d,lk env t=some d->X I μ (tmps.getD t undef) d) {g:ResultVar->Sem Value} (z:∀t,g (.tmp t)=pure (tmps.getD t undef)) (A:∀a t,g (.cell a t)=do loadVar t (<- asAddr (tmps.getD a undef))):∀{L:L1 ResultVar} {ds:L1 D},Tp tt env st L=some ds->∃vs,(L.mapM g).run P w=.ok vs w/\RepL I μ vs ds
 |[],ds,h=>by cases h;exact⟨[],by simp,.nil⟩
 |.tmp t::r,ds,h=>by simp only[Tp]at h;split at h;rename_i d B C E;split at h;cases h;let⟨vs,G,K⟩:=Z6 p q y z A E;exact⟨_,by simp only[zel,z,aj,am,ah,G],.mk (y t d C) K⟩;cases h;cases h
 |.cell t V::r,ds,h=>by simp only[Tp]at h;split at h;rename_i a B C E;split at h;rename_i d N;cases h;let⟨vs,G,K⟩:=Z6 p q y z A E;let⟨b,u,R,S,T⟩:=oF p q (y t a C) N;exact⟨_,by simp only[zel,A,aj,am,ah,G,R,lO,S],.mk T K⟩;cases h;cases h
def mC (p:TTok P tt) (r:StRep I μ st aa w) {tmps:Array Value} (y:∀t d,lk env t=some d->X I μ (tmps.getD t undef) d) {fn:Func} (h:Tp tt env st fn.results.toList=some ds):∃vs:L1 Value,(results fn tmps).run P w=.ok (if h:vs.toArray.size=1 then vs.toArray[0]else .tuple vs.toArray) w/\RepL I μ vs ds:=by have z:∀(f:ResultVar->Sem Value) (vs:L1 Value),(fn.results.toList.mapM f).run P w=.ok vs w->(fn.results.mapM f).run P w=.ok vs.toArray w:=λf vs A=>by{rw[Array.mapM_eq_mapM_toList];change Sem.run P (List.mapM f fn.results.toList >>= λl=>pure l.toArray) w=_;simp only[aj,A,am,ah]};refine Exists.imp (λvs u=>⟨?_,u.2⟩) (Z6 (g:=fun|.tmp t=>pure (tmps.getD t undef)|.cell a t=>do loadVar t (<- asAddr (tmps.getD a undef))) p r y (λ_=>rfl) (λ_ _=>rfl) h);have q:=z _ vs u.1;unfold results;simp only[aj];exact Eq.trans (af (Result.andThen · (λvs w=>Sem.run P (pure (if h:vs.size=1 then vs[0]else .tuple vs)) w)) q) (by simp)
def xM {vs:L1 Value} (h:RepL I μ vs ds):X I μ (if h:vs.toArray.size=1 then vs.toArray[0]else .tuple vs.toArray) (JD ds):=by have p:X I μ (.tuple vs.toArray) (.tup ds):=.tup _ _ (by simpa using h.1) λi c x q u=>h.2 i c x (by simpa using q) u;match vs,ds,h,p with|[],[],_,p=>simpa[JD]using p|[v],[d],h,_=>simpa[JD]using h.2 0 v d O O|v::y::r,d::z::s,_,p=>simpa[JD]using p|[],_::_,h,_=>simp[RepL]at h|_::_,[],h,_=>simp[RepL]at h|[_],_::_::_,h,_=>simp[RepL]at h|_::_::_,[_],h,_=>{simp[RepL]at h}
def Ur (h:Pq d z) (p:X I μ v d):X I μ v z:=by cases z with|imm x=>exact .imm _ _ (TL h p)|_=>{(have h:d=_:=h);rw[<- h];exact p}
def run_callFunc_body {f: FuncId} {fn: Func} {c: Code} (p:P.funcs[f]? = some fn) (h:(fn.name=="runtime.NumGoroutine")=false) (q:fn.body=some c) (xs:Array Value) :
  (callFunc f xs).run P w=.ok (.enter f xs) w:=by
 have r:¬ fn.name = "runtime.NumGoroutine" := by simpa using h
 simp[callFunc,p,r,q]
def Yp:∀{ds:L1 D} {i t:Nat} {d:D},lk (MW i ds) t=some d->∃j,t=i+j/\ds[j]?=some d
 |[],i,t,d,h=>by simp[MW,lk]at h
 |x::r,i,t,d,h=>by simp only[MW]at h;by_cases p:i=t;subst p;rw[A7]at h;cases h;exact⟨0,rfl,rfl⟩;rw[AB _ _ p]at h;let⟨j,u,q⟩:=Yp h;exact⟨j+1,by omega,by simpa using q⟩
def Oy:L1 Nat->L1 Nat->Bool
 |[],_=>true
 |x::r,l=>Gg l x&&Oy r l
def GH:∀{a b:L1 Nat},Oy a b=true->∀i∈a,i∈b
 |[],_,_,i,h=>by simp at h
 |x::r,b,h,i,hi=>by simp only[Oy,Am]at h;rcases Ck.1 hi with rfl|hi;exact Cp.1 h.1;exact GH h.2 i hi
def Lp:L1 Nat->Bool
 |[]=>true
 |x::r=>!Gg r x&&Lp r
def JG:∀{a:L1 Nat},Lp a=true->a.Nodup
 |[],_=>.nil
 |x::r,h=>by simp only[Lp,Am,Kq]at h;exact Fr.2 ⟨λp=>(by rw[Cp.2 p]at h;cases h.1),JG h.2⟩
def RepL.sub {vs:L1 Value} (h:RepL I μ vs ds) (q:∀i∈FQ ds,∀g,μ i=some g->ν i=some g):RepL I ν vs ds:=⟨h.1,λi v d r p=>(h.2 i v d r p).sub λj u=>q j (JH (AF p) u)⟩
def BlkRep.sub {g:Value} {blk:Blk} (h:BlkRep I μ w g blk) (p:∀i∈LM blk,∀g,μ i=some g->ν i=some g):BlkRep I ν w g blk:=by cases blk with|immb t sz xs=>exact h|cells t sz cs=>obtain⟨y,b,vs,q,r,u,B⟩:=h;exact⟨y,b,vs,q,r,u.sub p,B⟩|row t sz es=>exact h|map C=>exact h|siter s D=>exact h|pin=>exact h|bun id S=>obtain⟨b,E,q,r,u⟩:=h;exact⟨b,E,p id (by simp[LM]) _ q,r,u⟩|hp A=>exact h|adr id b=>exact⟨h.1,p id (by simp[LM]) _ h.2⟩|mapx C b es c=>exact h|miter b s z c=>{exact h}
def RetL (tt:TT) (p:L1 ResultVar) (h:Out):DQ:=λx env st _=>match x,h with
 |.ret,.ret d au=>∃ds,Tp tt env st p=some ds/\Pq (JD ds) d/\∀i b,Aw au i b->Aw st i b
 |.norm,.ret d au=>∃ds,Tp tt env st p=some ds/\Pq (JD ds) d/\∀i b,Aw au i b->Aw st i b
 |.panic x,.pan y=>x=y
 |_,_=>False
def zg0 {f: FuncId} {fn: Func} {c: Code} {ds: L1 D} {bl: St} {C: Out} (htt:TTok P tt) (hf:P.funcs[f]? = some fn) (Q:(fn.name=="runtime.NumGoroutine")=false) (L:fn.body=some c) (aa:L1 Nat) (hsz:Nat.ble ds.length fn.ntmps=true) (hn1:aa.Nodup) (hn2:∀i∈aa,i∉CT bl) (hn3:∀i∈FQ ds,i∈CT bl) (hn4:∀i∈Dx bl,i∈CT bl) (h:DGo P fn.ntmps (CT bl) (RetL tt fn.results.toList C) [.code c] (MW 0 ds) bl aa):Ht P f ds bl C:=by
 intro I μ w xs m hx;rw[run_callFunc_body hf Q L];refine TH hf L λb cs hbf _ hbr=>?_;obtain⟨ν,hν⟩:∃ν:Mu,ν=λi=>if Gg (CT bl) i=true then μ i else none:=⟨_,rfl⟩
 have q:∀i∈CT bl,ν i=μ i:=λi n=>by rw[hν];simp[Cp.2 n]
 have u:∀i b,Aw bl i b->i∈CT bl:=by
  intro i b N;have:∀{bl:St},Aw bl i b->i∈CT bl:=by
   intro bl
   induction bl with
   |nil=>intro h;simp[Aw,lk]at h
   |cons p r ih=>
    obtain⟨k,y⟩:=p;intro h;by_cases hk:k=i
    ·subst hk;simp[CT]
    ·have:Aw r i b:=by unfold Aw at h ⊢;rwa [AB _ _ hk]at h
     simp only[CT,C0,Ck];exact .inr (ih this)
  exact this N
 have hst1:StRep I ν bl aa w:=by
  refine { imm:=m.imm,blk:=λi b N=>?_,apart:=λi bb g k N T hk=>m.apart i bb g k N (by rw[<- q i (u i bb N)];exact T) hk,inj:=λi j V bj gi gj k n hj hgi hgj=>m.inj i j V bj gi gj k n hj (by rw[<- q i (u i V n)];exact hgi) (by rw[<- q j (u j bj hj)];exact hgj),nodup:=hn1,idsFree:=λi n=>?_ }
  ·let⟨g,T,hr⟩:=m.blk i b N;refine⟨g,by rw[q i (u i b N)];exact T,hr.sub λj hj g hgj=>?_⟩;rw[q j (hn4 j ((D9 N).2 j hj))];exact hgj
  ·rw[hν];have:=hn2 i n;have hm:Gg (CT bl) i=false:=by
    cases h:Gg (CT bl) i with
    |false=>rfl
    |true=>exact absurd (Cp.1 h) this
   simp[hm]
 have hx1:RepL I ν xs.toList ds:=hx.sub λj hj g T=>by rw[q j (hn3 j hj)];exact T
 have hlen:xs.size=ds.length:=by have:=hx.1;simpa using this
 have hsz':ds.length<=fn.ntmps:=by simpa[Nat.ble_eq]using hsz
 have hc:Conc fn.ntmps I ν (MW 0 ds) bl aa { tmps:=xs++Array.replicate (fn.ntmps-xs.size) undef,defers:=[] } w :=
  {hst1 with
   size:=(by simp;omega)
   env:=λt d N=>by
    obtain⟨j,rfl,hd⟩:=Yp N;have hj:j<ds.length:=(A9.1 hd).1;have hjx:j<xs.size:=by omega
    have e:(xs++Array.replicate (fn.ntmps-xs.size) undef).getD (0+j) undef=xs[j]:=by
     rw[BS];simp[Array.getD,Array.getElem_append_left hjx];omega
    rw[e];exact hx1.2 j _ d (by simp[hjx]) hd
   defers:=MarksOk.nil _ _ _ _ }
 have E:∀b,AX ν bl b↔AX μ bl b:=λb=>by
  constructor<;>rintro ⟨i,V,g,F,h2,h3⟩
  ·exact⟨i,V,g,F,by rw[<- q i (u i V F)];exact h2,h3⟩
  ·exact⟨i,V,g,F,by rw[q i (u i V F)];exact h2,h3⟩
 have hrun:=h ⟨b,.inr ⟨hbr,fn,by rw[hbf];exact hf⟩⟩ cs I ν { tmps:=xs++Array.replicate (fn.ntmps-xs.size) undef,defers:=[] } w [.code c] AG hc;refine hrun.mono λe a' w' hp=>?_;obtain⟨x,a7,au,ids',H,G,p1,a,J,p4,K,p6⟩:=hp;obtain⟨rs,m1,m2,m3⟩:=J.defers;have hrs:∀r∈rs,w.heap.size<=r:=λr hr=>by
  rcases p6 r (by rw[m1];exact C7.2 ⟨r,hr,rfl⟩)with h|h
  ·simp at h
  ·exact h
 let⟨w2,A,B,k3,k4,k5,k6⟩:=Yj (P:=P) rs w' m2 (λr hr=>(m3 r hr).1);have hS2:StRep H G au ids' w2 :=
  {imm:=λb o h=>by rw[k6 b (λhm=>by rw[(m3 b hm).2.1]at h;cases h)];exact J.imm b o h
   blk:=λi b N=>by
    let⟨g,T,hr⟩:=J.blk i b N;exact⟨g,T,hr.world λbb hbb=>k6 bb λhm=>(m3 bb hm).2.2 ⟨i,b,g,N,T,hbb⟩⟩
   apart:=λi b g bb N T hbb=>by rw[k5];exact J.apart i b g bb N T hbb
   inj:=J.inj
   nodup:=J.nodup
   idsFree:=J.idsFree }
 have R:Ext I ν bl w H G au w2 :=
  {imm:=K.imm,os:=B.trans K.os,tape:=k3.trans K.tape,output:=k4.trans K.output,size:=by rw[k5];exact K.size
   block:=λb L s=>(k6 b λhm=>by have:=hrs b hm;omega).trans (K.block b L s),fresh:=K.fresh,old:=K.old }
 have fin:∀d a8,C=.ret d a8->(∃ds,Tp tt a7 au fn.results.toList=some ds/\Pq (JD ds) d/\∀i b,Aw a8 i b->Aw au i b)->∃S v,Zb P a'.defers w' S/\(results fn a'.tmps).run P S=.ok v S /\
   (match (Ending.returned v) with
    |.returned v=>(match C with
     |.ret d au=>∃H G,X H G v d/\StRep H G au [] S/\Pin (CT bl) μ G/\Ext I μ bl w H G au S
     |.pan _=>False)
    |.panicked W=>(match C with
     |.ret _ _=>False
     |.pan x=>NS (· = x) I μ bl w W S)
    |.outgrown=>False):=by
  rintro d a8 rfl ⟨ds',r1,r2,r3⟩;let⟨vs,q1,q2⟩:=mC htt hS2 J.env r1;refine⟨w2,_,by rw[m1];exact A,q1,H,G,Ur r2 (xM q2),hS2.less (r3) .nil (λ_ h=>by simp at h),λi n g T=>p4 i n g (by rw[q i n];exact T),?_⟩;exact { imm:=R.imm,os:=R.os,tape:=R.tape,output:=R.output,size:=R.size,block:=λb L s=>R.block b L (λh=>s ((E b).1 h)),fresh:=λb L ⟨i,V,g,F,h2⟩=>(E b).1 (R.fresh b L ⟨i,V,g,r3 i V F,h2⟩),old:=λb L s=>R.old b L (λh=>s ((E b).1 h)) }
 cases e with
 |normal=>
  cases x<;>simp only[LJ]at p1;cases z:C with
  |ret d a8=>subst z;exact fin d a8 O a
  |pan y=>subst z;exact a.elim
 |ret=>
  cases x<;>simp only[LJ]at p1;cases z:C with
  |ret d a8=>subst z;exact fin d a8 O a
  |pan y=>subst z;exact a.elim
 |panic W=>
  cases x<;>simp only[LJ]at p1;rename_i x;obtain⟨v,rfl,hv⟩:=p1;cases z:C with
  |ret d a8=>subst z;exact a.elim
  |pan y=>
   subst z;have a:x=y:=a;subst a;refine⟨w2,by rw[m1];exact A,v,x,H,rfl,rfl,hv,hS2.imm,?_⟩;exact { imm:=R.imm,os:=R.os,tape:=R.tape,output:=R.output,size:=R.size,block:=λb L s=>R.block b L (λh=>s ((E b).1 h)),fresh:=λb L ⟨i,V,g,F,h2⟩=>by simp[Aw,lk]at F,old:=λb L s=>R.old b L (λh=>s ((E b).1 h)) }
 |exit id=>
  cases x<;>simp only[LJ]at p1;exact a.elim
 |goto l=>
  cases x<;>simp only[LJ]at p1;exact a.elim
 |outgrown=>cases x<;>simp only[LJ]at p1
def uY {f: FuncId} {fn: Func} {c: Code} {ds: L1 D} {bl: St} {p: Out} (u:TTok P tt) (K:P.funcs[f]? = some fn) (q:(fn.name=="runtime.NumGoroutine")=false) (L:fn.body=some c) (aa:L1 Nat) (y:Nat.ble ds.length fn.ntmps=true) (E:(Lp aa&&Q0 aa (CT bl)&&Oy (FQ ds) (CT bl)&&Oy (Dx bl) (CT bl))=true) (h:G P fn.ntmps (CT bl) (KZ tt fn.results.toList p) [.code c] (MW 0 ds) bl aa):Ht P f ds bl p:=by
 simp only[Am]at E;obtain⟨⟨⟨z,A⟩,B⟩,C⟩:=E;refine zg0 u K q L aa y (JG z) (NE.1 A) (GH B) (GH C) (h.go.mono λx env st aa r=>?_);cases x<;>cases p<;>first
  |exact r
  |exact r.elim
  |exact⟨r.choose,r.choose_spec.1,r.choose_spec.2.1,λi b N=>CH r.choose_spec.2.2 i b N⟩
def Ac {fn:Func} {c:Code} {q:Out} (r:TTok P tt) (y:P.funcs[f]?=some fn) (z:fn.body=some c) (aa:L1 Nat) (h:G P fn.ntmps (CT bl) (KZ tt fn.results.toList q) [.code c] (MW 0 ds) bl aa) (p:(fn.name=="runtime.NumGoroutine")=false:=by decide +kernel) (u:Nat.ble ds.length fn.ntmps=true:=by rfl) (A:(Lp aa&&Q0 aa (CT bl)&&Oy (FQ ds) (CT bl)&&Oy (Dx bl) (CT bl))=true:=by rfl):Ht P f ds bl q:=uY r y p z aa u A h
end
mutual
def Gy:V->Prop
 |.sl es=>es.length<=maxLen/\Uo es
 |.agg cs=>D8 cs
 |.tup cs=>D8 cs
 |.iface _ x=>Gy x
 |_=>True
def D8:L1 V->Prop
 |[]=>True
 |x::r=>Gy x/\D8 r
def Uo:L1 (L1 V)->Prop
 |[]=>True
 |e::r=>D8 e/\Uo r
end
def LY:∀{l:L1 V},D8 l↔∀x∈l,Gy x
 |[]=>by simp[D8]
 |x::r=>by simp[D8,LY (l:=r)]
def Xx:∀{l:G1},Uo l↔∀e∈l,D8 e
 |[]=>by simp[Uo]
 |x::r=>by simp[Uo,Xx (l:=r)]
def wP (env:Env):Env->Prop
 |[]=>True
 | (t,z)::r=>(match lk env t with
  |some d=>Pq d z
  |none=>False)/\wP env r
def X2:Blk->Blk->Prop
 |.cells t sz cs,.immb p h xs=>t=p/\sz=h/\H2 cs=some xs
 |.immb t sz xs,.cells p h cs=>t=p/\sz=h/\xs.map .imm=cs
 |b,q=>b=q
def zcb (st:St):St->Prop
 |[]=>True
 | (i,some h)::r=>(match lk st i with
  |some (some b)=>X2 b h
  |_=>False)/\zcb st r
 |(_,none)::_=>False
def Y5 (aa l:L1 Nat):L1 Nat->Bool
 |[]=>true
 |i::r=>(Gg aa i||!Gg l i)&&Y5 aa l r
def VI {aa l:L1 Nat}:∀{m:L1 Nat},Y5 aa l m=true->∀i∈m,i∈aa\/i∉l
 |[],_,i,h=>by simp at h
 |x::r,h,i,hi=>by simp only[Y5,Am,Fg,Kq]at h;rcases Ck.1 hi with rfl|hi;exact h.1.imp (λh=>Cp.1 h) λh p=>by{rw[Cp.2 p]at h;cases h};exact VI h.2 i hi
section
variable {n:Nat} {env:Env} {k:L1 DI}
def M.ok (h:M I v x):Gy x:=by induction h with|agg cs xs y _ _ p=>simp only[Gy,LY];intro x u;let⟨i,q⟩:=DW.1 u;have r:i<cs.size:=by{rw[y];exact(A9.1 q).1};exact p i cs[i] x (by simp[r]) q|tup cs xs y _ p=>simp only[Gy,LY];intro x u;let⟨i,q⟩:=DW.1 u;have r:i<cs.size:=by{rw[y];exact(A9.1 q).1};exact p i cs[i] x (by simp[r]) q|slnil=>simp[Gy,Uo]|sl0=>simp[Gy,Uo]|sl b o A B sz es vs y G K C z _ p=>simp only[Gy,Xx,LY];refine⟨by omega,λe D x u=>?_⟩;let⟨i,q⟩:=DW.1 D;let⟨j,E⟩:=DW.1 u;exact p i e j x q E|iface t v x _ p=>exact p|_=>{trivial}
def QT:∀{a7:Env},wP env a7->∀t z,lk a7 t=some z->∃d,lk env t=some d/\Pq d z
 |[],_,t,z,h=>by simp[lk]at h
 |(s,x)::r,h,t,z,p=>by by_cases u:s=t;{subst u;rw[A7]at p;cases p;have q:=h.1;split at q;{exact⟨_,by assumption,q⟩};exact q.elim};rw[AB _ _ u]at p;exact QT h.2 t z p
def QU:∀{au:St},zcb st au->∀i q,Aw au i q->∃b,Aw st i b/\X2 b q
 |[],_,i,b,h=>by simp[Aw,lk]at h
 |(s,none)::r,h,_,_,_=>h.elim
 |(s,some x)::r,h,i,q,p=>by by_cases y:s=i;{subst y;unfold Aw at p;rw[A7]at p;cases p;have u:=h.1;split at u;{exact⟨_,by assumption,u⟩};exact u.elim};refine QU h.2 i q ?_;unfold Aw at p ⊢;rwa [AB _ _ y]at p
def wM {g:Value} {B:Blk} (h:X2 b B) (q:BlkRep I μ w g b):BlkRep I μ w g B:=by unfold X2 at h;split at h;obtain⟨rfl,rfl,h⟩:=h;obtain⟨r,u,vs,y,z,p,A⟩:=q;have:=H1 h p;exact⟨by rw[<- r,<- p.1,this.1],u,vs,y,z,this,A⟩;obtain⟨rfl,rfl,rfl⟩:=h;obtain⟨r,u,vs,y,z,p,A⟩:=q;exact⟨by simpa using r,u,vs,y,z,p.imm,A⟩;subst h;exact q
def LC (hE:wP env a7) (J:zcb st au) (hI:(Lp ids'&&Y5 aa (PM a7++Dx au++F) ids')=true) (h:DGo P n F Q todo a7 au ids'):DGo P n F Q todo env st aa:=by
 intro b cs I μ a w R hd N;simp only[Am]at hI;obtain⟨c,f⟩:=hI;obtain⟨ν,S⟩:∃ν:Mu,ν=λi=>if Gg ids' i=true then none else μ i:=⟨_,rfl⟩
 have G:∀i∈PM a7++Dx au++F,∀g,μ i=some g->ν i=some g:=by
  intro i E g A;rw[S];have:Gg ids' i=false:=by
   cases W:Gg ids' i with
   |false=>rfl
   |true=>
    rcases VI f i (Cp.1 W)with h|h
    ·rw[N.idsFree i h]at A;cases A
    ·exact absurd E h
  simp[this,A]
 have u:∀i g,ν i=some g->μ i=some g:=by
  intro i g A;rw[S]at A;by_cases W:Gg ids' i=true
  ·simp[W]at A
  ·simpa[W]using A
 have y:∀i K,Aw au i K->∃b,Aw st i b:=λi K L=>let⟨b,B,_⟩:=QU J i K L;⟨b,B⟩
 have C:∀{env:Env} {t:Nat} {d:D},lk env t=some d->∀i∈Hb d,i∈PM env:=by
  intro env
  induction env with
  |nil=>intro t d h;simp[lk]at h
  |cons p r ih=>
   obtain⟨s,x⟩:=p;intro t d h i E;simp only[PM,B2];by_cases hs:s=t
   ·subst hs;rw[A7]at h;cases h;exact .inl E
   ·rw[AB _ _ hs]at h;exact .inr (ih h i E)
 have hEx:Ext I μ st w I ν au w :=
  {imm:=U.le_refl I,os:=rfl,tape:=rfl,output:=rfl,size:=BO _,block:=λ_ _ _=>rfl,
     fresh:=λb _ ⟨i,K,g,B,T,h3⟩=>let⟨bb,q⟩:=y i K B;⟨i,bb,g,q,u i g T,h3⟩,old:=λ_ _ _=>rfl }
 have l:Conc n I ν a7 au ids' a w :=
  {imm:=N.imm
   blk:=λi K L=>by
    let⟨b,B,T⟩:=QU J i K L;let⟨g,A,hr⟩:=N.blk i b B;let⟨q1,q2⟩:=D9 L;exact⟨g,G i (by simp[q1]) g A,(wM T hr).sub λj V g A=>G j (by simp[q2 j V]) g A⟩
   apart:=λi K g k L A hk=>by
    let⟨b,B⟩:=y i K L;exact N.apart i b g k B (u i g A) hk
   inj:=λi j bi bj gi gj k E V m o v H=>by
    let⟨b1,B⟩:=y i bi E;let⟨b2,T⟩:=y j bj V;exact N.inj i j b1 b2 gi gj k B T (u i gi m) (u j gj o) v H
   nodup:=JG c
   idsFree:=λi E=>by rw[S];simp[Cp.2 E]
   size:=N.size
   env:=λt z L=>by
    let⟨d,B,T⟩:=QT hE t z L;exact(Ur T (N.env t d B)).sub λj V g A=>G j (by simp[C L j V]) g A
   defers:=N.defers.ext hEx }
 exact(h b cs I ν a w R hd l).mono λe a' w' hp=>hp.back (λi E g A=>G i (by simp[E]) g A)<|hEx
def Ad (h:DGo P n F Q todo a7 au ids') (p:wP env a7) (q:zcb st au) (r:(Lp ids'&&Y5 aa (PM a7++Dx au++F) ids')=true):DGo P n F Q todo env st aa:=LC p q r h
def jE {c:Code} (E:α->Env) (S:α->St) (ids':L1 Nat) (m:α->Nat) (Inv:α->Prop) (step:∀x,Inv x->(∀x',m x'<m x->Inv x'->DGo P n F Q (.inLoop c::k) (E x') (S x') ids')->DGo P n F Q (.code c::.inLoop c::k) (E x) (S x) ids'):∀x,Inv x->DGo P n F Q (.inLoop c::k) (E x) (S x) ids':=by have:∀b x,m x<b->Inv x->DGo P n F Q (.inLoop c::k) (E x) (S x) ids':=by{intro b;induction b with|zero=>intro x h;omega|succ b r=>{intro x y p;exact qM (step x p λx' u q=>r x' (by omega) q)}};intro x p;exact this (m x+1) x (by omega) p
def Al {c:Code} (E:α->Env) (S:α->St) (ids':L1 Nat) (m:α->Nat) (Inv:α->Prop) (h:α) (p:Inv h) (q:wP env (E h)) (r:zcb st (S h)) (u:(Lp ids'&&Y5 aa (PM (E h)++Dx (S h)++F) ids')=true) (step:∀x,Inv x->(∀x',m x'<m x->Inv x'->DGo P n F Q (.inLoop c::k) (E x') (S x') ids')->DGo P n F Q (.code c::.inLoop c::k) (E x) (S x) ids'):DGo P n F Q (.code (.loop c)::k) env st aa:=Xh (LC q r u (jE E S ids' m Inv step h p))
def Gv {t:Nat} (r:lk env t=some (.imm x)) (h:Gy x->DGo P n F Q todo env st aa):DGo P n F Q todo env st aa:=λb cs I μ a w p u q=>h (q.env t _ r).immInv.ok b cs I μ a w p u q
def BH {v:V} (h:D8 vs->Iz P f vs v):Iz P f vs v:=by intro I μ w xs p q;refine h (LY.2 λx r=>?_) I μ w xs p q;let⟨j,y⟩:=DW.1 r;have u:j<xs.toList.length:=by{rw[q.1];simpa using(A9.1 y).1};exact(q.2 j _ (.imm x) (Bq u) (by simp[y])).immInv.ok
end
def OK:L1 DI->Option Oper
 |.ops _ (o::_)::_=>some o
 |.dops _ (o::_) _::_=>some o
 |_=>none
def Kx (st:St):D->Option (L1 Nat×L1 (L1 V))
 |.nils=>some ([],[])
 |.own id _=>match lk st id with
  |some (some (.row _ _ es))=>some ([id],es)
  |_=>none
 |.clip es=>some ([],es)
 |_=>none
def Pr:D->Option (L1 (L1 V))
 |.imm (.sl es)=>some es
 |.nils=>some []
 |_=>none
def zhl (sz bytes:Nat) (p:D) (es h:L1 (L1 V)):Prop :=
 (∀c∈h,c.length=sz)/\es.length+h.length<=maxLen/\(es.length+h.length)*bytes<=140737488355328 /\
 match p with
 |.clip _=>(∀c∈es,c.length=sz)/\h≠[]
 |.own _ _=>True
 |_=>True
section
variable {n:Nat} {env:Env} {k:L1 DI}
def M.oneV (h:M I v x) (p:v.oneCell'=true):V.one x=true:=by cases h<;>first|rfl|simp[Value.oneCell']at p
def TO (a:I.ok w) (h:M I v (.sl es)) (N:∀c∈es,c.length=sz) (d:0<sz):((∃ad,v=.slice ad 0 0)/\es=[])\/∃b o c r,v=.slice (some ⟨b,o,none⟩) es.length c/\es.length<=c/\c<=maxLen/\r.length=es.length*sz/\(∀j u,r[j]?=some u->w.cell? ((⟨b,o,none⟩:Addr).add j)=some u)/\(∀u∈r,u.oneCell'=true)/\RepVL I r es.flatten/\(∀e∈es,∀x∈e,V.one x=true):=by cases h with|slnil=>exact .inl ⟨⟨_,rfl⟩,rfl⟩|sl0 ad=>exact .inl ⟨⟨_,rfl⟩,rfl⟩|sl b o f R B _ vs g k l S p C=>{subst g;refine .inr ⟨b,o,R,(List.range (es.length*sz)).map λq=>vs (q / sz) (q % sz),rfl,k,l,by simp,?_,?_,?_,?_⟩;(all_goals(have z:∀j,j<es.length*sz->∃e x,es[j / sz]?=some e/\e[j % sz]?=some x/\e.length=sz/\B=sz:=by{intro j G;have D:j / sz<es.length:=zey (by rw[Vt];exact G);have E:j % sz<sz:=gc _ d;have L:=N es[j / sz] (KG _);have n:=S es[j / sz] (KG _);exact⟨es[j / sz],(es[j / sz])[j % sz],Bq D,Bq (by omega),L,by omega⟩}));intro j u K;obtain⟨A,rfl⟩:=HP K;obtain⟨e,x,D,E,_,rfl⟩:=z j A;have:=U.cell_world a (p _ _ _ _ D E).1;rw[Jx];rw[show o+j=o+j / B*B+j % B by rw[Yo,Vt,oC]];exact this;intro u K;let⟨j,G⟩:=DW.1 K;obtain⟨A,rfl⟩:=HP G;obtain⟨e,x,D,E,_,rfl⟩:=z j A;exact(p _ _ _ _ D E).2;refine⟨by rw[BF N];simp,λj u x K T=>?_⟩;obtain⟨A,rfl⟩:=HP K;obtain⟨e,y,D,E,_,rfl⟩:=z j A;have L:=CO N _ _ _ _ D E;rw[Vt,oC,T]at L;cases L;exact C _ _ _ _ D E;intro e m x T;let⟨i,W⟩:=DW.1 m;let⟨j,G⟩:=DW.1 T;exact(C _ _ _ _ W G).oneV (p _ _ _ _ W G).2}
def StRep.renew {id':Nat} (q:StRep I μ st (id'::aa) w) {rd:L1 Nat} {v':Value} {blk':Blk} {row:Option Nat} (V:w.grownBy w' row) (E:∀b,row=some b->∃id blk g,id∈rd/\Aw st id blk/\μ id=some g/\Ek g b) (G:∀b,Ek v' b->b<w'.heap.size/\(w.heap.size<=b\/∃id blk g,id∈rd/\Aw st id blk/\μ id=some g/\Ek g b)) (t:∀C,BlkRep I C w' v' blk'):∃C,C id'=some v'/\μ.le C/\StRep I C ((id',some blk')::CC rd++st) aa w'/\Ext I μ st w I C ((id',some blk')::CC rd++st) w':=by have J:μ id'=none:=q.idsFree id' (by simp);have n:μ.le (λi=>if i=id' then some v' else μ i):=λi v h=>by{have:i≠id':=λe=>by{rw[e,J]at h;cases h};simp[this,h]};have W:∀b,row=some b->I b=none:=λb P=>by{let⟨id,blk,g,_,A,y,L⟩:=E b P;exact(q.apart id blk g b A y L).1};have u:∀i b,Aw ((id',some blk')::CC rd++st) i b->(i=id'/\b=blk')\/(i≠id'/\i∉rd/\Aw st i b):=by{intro i b h;rcases A1.1 h with h|⟨z,A⟩;exact .inl h;let⟨y,L⟩:=Pb A;exact .inr ⟨z,y,L⟩};have p:∀i g,i≠id'->(if i=id' then some v' else μ i)=some g->μ i=some g:=λi g a h=>by{rwa [ac a]at h};have c:∀i b g k,i∉rd->Aw st i b->μ i=some g->Ek g k->w'.heap[k]?=w.heap[k]?:=by{intro i b g k z A y L;refine V.block k (q.apart i b g k A y L).2 λD=>?_;let⟨id,blk,N,l,K,R,S⟩:=E k D.symm;have:=q.inj i id b blk g N k A K y R L S;subst this;exact z l};have B:∀i b g k,i∉rd->Aw st i b->μ i=some g->Ek g k->¬Ek v' k:=by{intro i b g k z A y L h5;rcases(G k h5).2 with h|⟨id,blk,N,l,K,R,S⟩;have:=(q.apart i b g k A y L).2;omega;have:=q.inj i id b blk g N k A K y R L S;subst this;exact z l};refine⟨λi=>if i=id' then some v' else μ i,by simp,n,?_,?_⟩;refine { imm:=λb o h=>?_,blk:=λi b s=>?_,apart:=λi b g k s r D=>?_,inj:=λi j m Q x F k H hj r T d f=>?_,nodup:=(Fr.1 q.nodup).2,idsFree:=λi H=>?_ };have z:=q.imm b o h;rw[V.block b (Cx z) (λD=>by rw[W b D.symm]at h;cases h)];exact z;rcases u i b s with⟨rfl,rfl⟩|⟨z,A,y⟩;exact⟨v',by simp,t _⟩;let⟨g,r,P⟩:=q.blk i b y;exact⟨g,by simp[z,r],(P.mono (U.le_refl I) n).world λk D=>c i b g k A y r D⟩;rcases u i b s with⟨rfl,rfl⟩|⟨z,A,y⟩;simp at r;subst r;let⟨z,A⟩:=G k D;refine⟨?_,z⟩;rcases A with A|⟨id,blk,N,l,K,R,S⟩;cases h:I k with|none=>rfl|some o=>{have:=Cx (q.imm _ _ h);omega};exact(q.apart id blk N k K R S).1;let⟨l,K⟩:=q.apart i b g k y (p i g z r) D;exact⟨l,ZM K V.size⟩;rcases u i m H with⟨rfl,rfl⟩|⟨z,A,y⟩<;>rcases u j Q hj with⟨rfl,rfl⟩|⟨p1,p2,p3⟩;rfl;simp at r;subst r;exact absurd d (B j Q F k p2 p3 (p j F p1 T) f);simp at T;subst T;exact absurd f (B i m x k A y (p i x z r) d);exact q.inj i j m Q x F k y p3 (p i x z r) (p j F p1 T) d f;have a:i≠id':=λe=>(Fr.1 q.nodup).1 (e▸H);simp[a,q.idsFree i (by simp[H])];refine { imm:=U.le_refl I,os:=V.os,tape:=V.tape,output:=V.output,size:=V.size,block:=λb t ho=>V.block b t (λD=>?_),fresh:=λb t ho=>?_,old:=λ_ _ _=>rfl };let⟨id,blk,N,_,K,R,S⟩:=E b D.symm;exact ho ⟨id,blk,N,K,R,S⟩;obtain⟨i,m,g,s,r,D⟩:=ho;rcases u i m s with⟨rfl,rfl⟩|⟨z,A,y⟩;simp at r;subst r;rcases(G b D).2 with h|⟨id,blk,N,_,K,R,S⟩;omega;exact⟨id,blk,N,K,R,S⟩;exact⟨i,m,g,y,p i g z r,D⟩
def zdw {b:Nat} {k:Nat} (h:w.ownsRow 0 t sz v k xs) (p:Ek v b):v.ownBlock=some b:=by rcases h.2 with⟨rfl,_⟩|⟨g,q,r,rfl,_⟩;simp[Ek]at p;simpa[Ek,Value.ownBlock]using p
def zdv {b:Nat} (h:v.ownBlock=some b):Ek v b:=by unfold Value.ownBlock at h;split at h;cases h;rfl;cases h
def eP {k:Nat} (h:w.ownsRow 0 t sz v k xs):∃a cap,v=.slice a k cap:=by rcases h.2 with⟨rfl,rfl⟩|⟨g,cap,p,rfl,_⟩;exact⟨none,0,rfl⟩;exact⟨_,cap,rfl⟩
def b6:=@World.ownsRow_nil
def dz:=@grownCap_le_maxLen
def fd:=@Array.size_append
def yO (htt:TTok P tt) {all:L1 Oper} {x y:Operand} {ti i:TyI} {dx dy:D} {rd:L1 Nat} {id':Nat} {p:G1} (hg:o.guard=none) (ho:o.op=.call { callee:=.builtin .append,args:=⟨[x,y]⟩,argTypes:=⟨[t,t]⟩ }) (ht:lk tt t=some ti) (hsh:ti.sh=.sl e) (hi:lk tt e=some i) (hz:(Nat.beq i.zero.length i.size&&Nat.blt 0 i.size)=true) (hx:EM env x=some dx) (K:Kx st dx=some (rd,es)) (J:∀id,rd=[id]->lk st id=some (some (.row e i.size es))) (hy:EM env y=some dy) (hs:Pr dy=some p) (hok:zhl i.size i.bytes dx es p) :
  LD P Pn all o env st rd [id'] ((id',some (.row e i.size (es++p)))::CC rd) (.own id' (es++p).length):=by
 intro I μ a8 T a w hag d hon;refine⟨λ_=>?_,λhw=>by rw[AJ hg]at hw;cases hw⟩;have hop:=Bx hon;rw[ho]at hop;have H:=hop x (by simp[Op.operands,Call.operands]) _ hx;have ry:=hop y (by simp[Op.operands,Call.operands]) _ hy;obtain⟨inf,z,z1,z2,z3,z4,z5,z6⟩:=(htt e i hi).info;have hu:P.underlying t=some (.slice e):=by have:=htt.sh ht;rwa [hsh]at this
 simp only[Am,JO]at hz;have hzl:z.cells.size=i.size:=by
  have:=(z5 I μ).1;rw[CU hz.1]at this;simpa using this
 obtain⟨A,B,k3,k4⟩:=hok;have hyv:M I (a.eval y) (.sl p):=by
  cases dy<;>simp only[Pr,reduceCtorEq,Ci]at hs
  ·rename_i vx;cases vx<;>simp only[Pr,reduceCtorEq,Ci]at hs;subst hs;exact ry.immInv
  ·subst hs;have:=ry;generalize a.eval y=v at this;cases this;exact .slnil
 have hrun:∀{u w'},(Builtin.append_ #[t,t] o.type #[a.eval x,a.eval y]).run P w=.ok u w'->(execOp a.eval o).run P w=.ok (.value u) w':=by
  intro u w' h;simp only[execOp,ho,resolve,invoke,builtin,aj,am,ah,PS,C0,Jk,h]
 have f:∀{u:Value} {w':World} {xs:L1 Value} {row:Option Nat},(Builtin.append_ #[t,t] o.type #[a.eval x,a.eval y]).run P w=.ok u w'->w'.ownsRow 0 e i.size u (es.length+p.length) xs->w.grownBy w' row ->
   (∀b,row=some b->∃id blk g,id∈rd/\Aw a8 id blk/\μ id=some g/\Ek g b)->(∀b,u.ownBlock=some b->row=some b\/w.heap.size<=b)->RepVL I xs (es++p).flatten->(∀c∈es++p,c.length=i.size) ->
   (∀c∈es++p,∀x∈c,V.one x=true) ->
   valX P ((execOp a.eval o).run P w) (λv w'=>∃l r,StRep l r ((id',some (.row e i.size (es++p)))::CC rd++a8) T w'/\X l r v (.own id' (es++p).length)/\μ.le r/\Ext I μ a8 w l r ((id',some (.row e i.size (es++p)))::CC rd++a8) w') (NS Pn I μ a8 w):=by
  intro u w' xs row h1 h2 h3 h4 h5 h6 h7 h8;rw[hrun h1];let⟨r,q1,q2,q3,q4⟩:=StRep.renew (id':=id') (aa:=T) (rd:=rd) (v':=u) (blk':=.row e i.size (es++p)) d h3 h4 (λb K=>by
   have hb':=zdw h2 K;refine⟨(h2.lt b hb').2,?_⟩;rcases h5 b hb' with h|h
   ·exact .inr (h4 b h)
   ·exact .inl h) (λr=>⟨xs,by rw[AZ];exact h2,h6,h7,h8,hz.2⟩)
  refine⟨I,r,q3,?_,q2,q4⟩;obtain⟨ad,q,rfl⟩:=eP h2;rw[AZ];exact .own _ _ _ _ q1
 rcases TO d.imm hyv A hz.2 with⟨⟨ady,ey⟩,rfl⟩|⟨yb,yo,yc,C,ey,_,_,n1,n2,n3,n4,n5⟩
 ·-- nothing
  have m:∀(v:Value),a.eval x=v->(∃ad E q,v=.slice ad E q/\E<=q)->(Builtin.append_ #[t,t] o.type #[a.eval x,a.eval y]).run P w=.ok v w:=by
   rintro v L ⟨ad,E,q,rfl,hle⟩;rw[L,ey];cases ad<;>cases ady<;>simp[Builtin.append_,ak hu,sizeOf,typeInfo,z1,Builtin.lenOf,hle,Builtin.firstCells,loadCells,loadCellsFrom,storeCells]
  have G:w.grownBy w none:=⟨rfl,rfl,rfl,BO _,λ_ _ _=>rfl⟩
  cases dx with
  |nils=>
   simp only[Kx,Ci,AN]at K;obtain⟨rfl,rfl⟩:=K;have L:a.eval x=.slice none 0 0:=by
    generalize a.eval x=v at H;cases H;rfl
   exact f (m _ L ⟨_,_,_,rfl,BO _⟩) (b6 w 0 e i.size) G (λb h=>by cases h) (λb h=>by simp[Value.ownBlock]at h) (xs:=[]) .nil (by simp) (by simp)
  |own id nn=>
   simp only[Kx]at K
   split at K
   ·rename_i bt sz es0 hl;cases K;have hl':=J id O;have n:Aw a8 id (.row e i.size es):=by unfold Aw;rw[hag id (by simp)];exact hl'
    let⟨g,R,xs,Q,r2,r3,r4,_⟩:=d.blk id _ n;have L:a.eval x=g:=by
     generalize a.eval x=v at H;cases H with
     |own _ _ ad q hm=>rw[hm]at R;cases R;rfl
    have hr0:∃ad E q,g=.slice ad E q/\E<=q:=by
     rcases Q.2 with⟨rfl,h⟩|⟨gb,q,W,rfl,_,_,h,_⟩
     ·exact⟨_,_,_,rfl,BO _⟩
     ·exact⟨_,_,_,rfl,h⟩
    exact f (row:=g.ownBlock) (m g L hr0) (by simpa using Q) ⟨rfl,rfl,rfl,BO _,λ_ _ _=>rfl⟩ (λb h=>⟨id,_,g,by simp,n,R,zdv h⟩) (λb h=>.inl h) (xs:=xs) (by simpa using r2) (by simpa using r3) (by simpa using r4)
   ·cases K
  |clip es'=>exact absurd rfl k4.2
  |_=>simp[Kx]at K
 ·have hfl:∀{xs:L1 Value},RepVL I xs es.flatten->RepVL I (xs++C) (es++p).flatten:=λh=>by rw[oB];exact h.append n4
  have s:a.eval x=.slice none 0 0->es=[] ->
    valX P ((execOp a.eval o).run P w) (λv w'=>∃l r,StRep l r ((id',some (.row e i.size (es++p)))::CC rd++a8) T w'/\X l r v (.own id' (es++p).length)/\μ.le r/\Ext I μ a8 w l r ((id',some (.row e i.size (es++p)))::CC rd++a8) w') (NS Pn I μ a8 w):=λL he=>by
   subst he;let⟨v',w',q1,q2,q3,_⟩:=run_append_own (P:=P) w w.heap.size t o.type e inf z i.size i.bytes hu z1 z4 z2 z3 hzl hz.2 (.slice none 0 0) 0 [] (b6 w _ e i.size) ⟨yb,yo,none⟩ p.length yc C n1 n2 n3
    (by simpa using B) (by simpa using k3) (BO _)
   have q2':w'.ownsRow 0 e i.size v' (0+p.length) C:=⟨q2.1,q2.2.imp id λ⟨g,q,W,a1,_,a2⟩=>⟨g,q,W,a1,AK _,a2⟩⟩
   exact f (row:=none) (by rw[L,ey];exact q1) q2' ⟨q3.os,q3.tape,q3.output,q3.size,λb K _=>q3.block b K (by simp[Value.ownBlock])⟩ (λb h=>by cases h) (λb h=>.inr (q2.lt b h).1) (hfl .nil) (by simpa using A) (by simpa using n5)
  have G:∀(ad:Addr) (q:Nat) (xs:L1 Value),a.eval x=.slice (some ad) es.length q->xs.length=es.length*i.size->(∀j u,xs[j]?=some u->w.cell? (ad.add j)=some u)->q<es.length+p.length->RepVL I xs es.flatten->(∀c∈es,c.length=i.size)->(∀c∈es,∀x∈c,V.one x=true) ->
    valX P ((execOp a.eval o).run P w) (λv w'=>∃l r,StRep l r ((id',some (.row e i.size (es++p)))::CC rd++a8) T w'/\X l r v (.own id' (es++p).length)/\μ.le r/\Ext I μ a8 w l r ((id',some (.row e i.size (es++p)))::CC rd++a8) w') (NS Pn I μ a8 w):=λad q xs L hl hcell hlt hr hsz h1=>by
   have hsmall:es.length+p.length<=9223372036854775807:=by simp only[maxLen]at B;omega
   have hr':=run_append_grow (P:=P) w t o.type e inf z hu z1 z4 ad es.length q xs (by rw[z2];exact hl) hcell ⟨yb,yo,none⟩ p.length yc C (by rw[z2];exact n1) n2 hlt (by omega) (by rw[z3];exact growslice_fits hlt k3);have hge:=grownCap_ge w (es.length+p.length) q e;have hcm:grownCap w (es.length+p.length) q e<=maxLen:=dz w _ q e B;have N:(xs++C).length=(es.length+p.length)*i.size:=by rw[AZ,hl,n1,Vh]
   refine f (row:=none) (by rw[L,ey];exact hr') (xs:=xs++C) ⟨N,.inr ⟨w.heap.size,_,_,rfl,AK _,Fi w.drew _,hge,hcm,?_,?_⟩⟩ ⟨rfl,rfl,rfl,by simp,λk hk _=>DB w.drew _ hk⟩ (λb h=>by cases h)
    (λb h=>by simp[Value.ownBlock]at h;exact .inr (by omega)) (hfl hr) (λc hc=>(B2.1 hc).elim (hsz c) (A c)) (λc hc=>(B2.1 hc).elim (h1 c) (n5 c))
   ·simp only[fd,aB,size_zeroCells,hzl,hl,n1,<- Vh];congr 1;omega
   ·simp only[M1,Cl];rw[<- Cl,<- N];exact oA
  cases dx with
  |nils=>
   simp only[Kx,Ci,AN]at K;obtain⟨rfl,rfl⟩:=K;have L:a.eval x=.slice none 0 0:=by
    generalize a.eval x=v at H;cases H;rfl
   exact s L O
  |own id nn=>
   simp only[Kx]at K
   split at K
   ·rename_i bt sz es0 hl;cases K;have hl':=J id O;have n:Aw a8 id (.row e i.size es):=by unfold Aw;rw[hag id (by simp)];exact hl'
    let⟨g,R,xs,Q,r2,r3,r4,_⟩:=d.blk id _ n;have L:a.eval x=g:=by
     generalize a.eval x=v at H;cases H with
     |own _ _ ad q hm=>rw[hm]at R;cases R;rfl
    rcases Q.2 with⟨eg,h⟩|⟨gb,q,W,eg,_,F,hle,hcm,hcs,htake⟩
    ·exact s (L.trans eg) (Iu h)
    ·by_cases S:es.length+p.length<=q
     ·have hfit:es.length*i.size+C.length<=W.size:=by rw[n1,hcs,<- Vh];exact Ip _ S
      have hr:=run_append_room (P:=P) w t o.type e inf hu z1 gb es.length q W F ⟨yb,yo,none⟩ p.length yc C (by rw[z2];exact n1) n2 n3 S (by rw[z2];exact hfit);rw[z2]at hr;have N:(xs++C).length=(es.length+p.length)*i.size:=by rw[AZ,Q.1,n1,Vh]
      refine f (row:=some gb) (by rw[L,eg,ey];exact hr) (xs:=xs++C) ⟨N,.inr ⟨gb,q,_,rfl,AK _,b8 w gb W _ e _ F,S,hcm,?_,?_⟩⟩ ⟨rfl,rfl,rfl,by simp,λk _ hk=>az w gb k _ (λe=>hk (by simp[e]))⟩
       (λb h=>by cases h;exact⟨id,_,g,by simp,n,R,by rw[eg];rfl⟩) (λb h=>by simp[Value.ownBlock]at h;exact .inl (by rw[h])) (hfl r2) (λc hc=>(B2.1 hc).elim (r3 c) (A c)) (λc hc=>(B2.1 hc).elim (r4 c) (n5 c))
      ·simp only[aB,AZ,Gt,Jg,PV];omega
      ·rw[htake,<- N];exact oA
     ·exact G ⟨gb,0,none⟩ q xs (L.trans eg) Q.1 (by rw[eg]at Q;exact Q.cells (g:=gb) O) (by omega) r2 r3 r4
   ·cases K
  |clip es'=>
   simp only[Kx,Ci,AN]at K;obtain⟨rfl,rfl⟩:=K;have rx':∃ad E,a.eval x=.slice ad E E/\M I (.slice ad E E) (.sl es'):=by
    generalize a.eval x=v at H;cases H with
    |clip ad E _ h=>exact⟨ad,E,rfl,h⟩
   obtain⟨ad,E,L,hr⟩:=rx';rcases TO d.imm hr k4.1 hz.2 with⟨⟨adx,ex⟩,e0⟩|⟨xb,xo,xc,xs,ex,_,_,p1,p2,p3,p4,p5⟩
   ·cases adx with
    |none=>exact s (L.trans ex) e0
    |some adx=>
     have hpos:0<p.length:=zex.2 k4.2;subst e0;exact G adx 0 [] (L.trans ex) (by simp) (λj u h=>by simp at h) (by simp;omega) .nil (by simp) (by simp)
   ·cases ex;have hpos:0<p.length:=zex.2 k4.2;exact G ⟨xb,xo,none⟩ _ xs L p1 p2 (by omega) p4 k4.1 p5
  |_=>simp[Kx]at K
end
def Pm (C:Prop) (env:Env) (x:Operand):Option (D×L1 Prop):=match EM env x with
 |some (.guard c w d)=>some (d,[C->c=w])
 |some d=>some (d,[])
 |none=>none
structure zp3 where
 dx:D
 es:List (List V)
 es2:List (List V)
 sz:Nat
 bytes:Nat
 e:TypeId
 rd:List Nat
 id':Nat
 ids':List Nat
 dst:Option Nat
 todo:List DI
def zln (st:St) (e:TypeId) (sz:Nat):L1 Nat->Bool
 |[]=>true
 |[id]=>match lk st id with
  |some (some (.row p h _))=>Nat.beq e p&&Nat.beq sz h
  |_=>false
 |_=>false
def zo9 (tt:TT) (n:Nat) (env:Env) (st:St) (aa:L1 Nat) (todo:L1 DI):Option zp3 :=
 match OK todo,aa with
 |some o,h::ids'=>match o.guard,o.op with
  |none,.call { callee:=.builtin .append,args:=⟨[x,y]⟩,argTypes:=⟨[t,r]⟩ }=>match Nat.beq t r,lk tt t,EM env x,EM env y with
   |true,some { sh:=.sl e,.. },some q,some u=>match lk tt e,Kx st q,Pr u with
    |some i,some (rd,es),some p=>match Nat.beq i.zero.length i.size&&Nat.blt 0 i.size,zln st e i.size rd,Ce n o.dst,B1 todo (rd,h::rd)with
     |true,true,true,some (_,_,av)=>some ⟨q,es,p,i.size,i.bytes,e,rd,h,ids',o.dst,av⟩
     |_,_,_,_=>none
    |_,_,_=>none
   |_,_,_,_=>none
  |_,_=>none
 |_,_=>none
section
variable {n:Nat} {env:Env} {k:L1 DI}
def E6 {x:Operand} (h:Pm C env x=some (d,ob)) (p:A8 ob) (u:C) (r:∀d,EM env x=some d->X I μ v d):X I μ v d:=by unfold Pm at h;split at h;cases h;rename_i q;exact(r _ q).guardInv (p.1 u);cases h;rename_i q;exact r _ q;cases h
def MO:∀l:L1 Nat,(CC l).map (·.1)=l
 |[]=>rfl
 |x::r=>by simp[CC,MO r]
def Dp {f:L1 Nat×L1 Nat} {q:Oper} {all:L1 Oper} (h:OK todo=some o) (p:B1 todo f=some (all,q,av)):q=o:=by unfold OK at h;split at h;simp[B1]at p;cases h;exact p.2.1.symm;simp[B1]at p;cases h;exact p.2.1.symm;cases h
def BK (A:TTok P tt) {c:zp3} (h:zo9 tt n env st aa todo=some c) (B:zhl c.sz c.bytes c.dx c.es c.es2) (T:G P n F Q c.todo (Ca c.dst (.own c.id' (c.es++c.es2).length) env) ((c.id',some (.row c.e c.sz (c.es++c.es2)))::CC c.rd++st) c.ids'):G P n F Q todo env st aa:=by unfold zo9 at h;split at h;rename_i o r ids' V;split at h;rename_i x y t I W u;split at h;rename_i e _ _ _ _ a J z b d f;have:=CU z;subst this;split at h;rename_i i rd es C g p j;split at h;rename_i k l av m q s R;cases h;have D:l=o:=Dp V R;subst D;refine BQ (fr:=[r]) (wr:=(r,some (.row e i.size (es++C)))::CC rd) (rd:=rd) (by rw[C0,MO];exact R) ?_ s (λc S=>by rw[u]at S;cases S) T;refine yO A W u b O g m d p (λid E=>?_) f j B;subst E;simp only[zln]at q;split at q;rename_i e' v K L;simp only[Am]at q;rw[CU q.1,CU q.2,L];have:K=es:=by{cases a<;>simp only[Kx,reduceCtorEq,Ci,AN]at p;cases p.1;split at p;rename_i N;simp only[Ci,AN,BP,be]at p;obtain⟨w,H⟩:=p;subst w;rw[N]at L;cases L;exact H;cases p;cases p.1};rw[this];cases q;cases h;cases h;cases h;cases h;cases h
def Ea {all:L1 Oper} {rd:L1 Nat} (K:CF all env o=some g) (key:∀I μ a8 r a w,Agree rd st a8->StRep I μ a8 r w->EN I μ env a o.op->Ap g->valX P ((execOp a.eval o).run P w) (λu w'=>∃A y,StRep A y a8 r w'/\X A y u d/\μ.le y/\Ext I μ a8 w A y a8 w') (NS Pn I μ a8 w)):LD P Pn all o env st rd [] [] (gD g d):=by intro I μ a8 r a w D E B;have q:=Hi K B;refine⟨λz=>?_,λz=>⟨rfl,rfl,?_⟩⟩;have C:=q.1 z;refine(key I μ a8 r a w D E (Bx B) C).mono (λv w' ⟨A,y,L,G,N,R⟩=>⟨A,y,L,?_,N,R⟩) (λ_ _ h=>h);cases g with|none=>exact G|some p=>{exact .guard _ _ _ _ (λ_=>G) (λS=>absurd C S)};cases g with|none=>rw[q.2 ab]at z;cases z|some p=>{exact .guard _ _ _ _ (λT=>by rw[q.2 T]at z;cases z) (λ_=>rfl)}
structure PIdx where
 es:List (List V)
 i:Int
 sz:Nat
 e:TypeId
 g:Option (Bool×Bool)
 ob:List Prop
 dst:Option Nat
 todo:List DI
def Fm (tt:TT) (n:Nat) (env:Env) (todo:L1 DI):Option PIdx :=
 match B1 todo ([],[])with
 |some (h,o,av)=>match o.op,CF h env o with
  |.indexAddr t x i,some g=>match lk tt t,Pm (Ap g) env x,Pm (Ap g) env i with
   |some { sh:=.sl e,.. },some (.imm (.sl es),p),some (.imm (.int _ i),q)=>match lk tt e,Ce n o.dst with
    |some ti,true=>match o.dst with
     |some t=>some ⟨es,i,ti.size,e,g,Lb p q,some t,av⟩
     |none=>none
    |_,_=>none
   |_,_,_=>none
  |_,_=>none
 |none=>none
def Rw {i:TyI} (h:P.underlying t=some (.slice e)) (p:TyOk P e i) {b len cap:Nat} {kk:IntKind} (q:0<=m) (r:m<len):(Instr.indexAt t (.slice (some ⟨b,off,none⟩) len cap) (.int kk m)).run P w=.ok (.pointer (some ⟨b,off+m.toNat*i.size,none⟩)) w:=by simp only[Instr.indexAt,aj,asIntOf,am,ah,ak h];simp[q,r,p.sizeOf w,Jx]
def G4 (y:TTok P tt) {t:Nat} (h:Fm tt n env todo=some ⟨es,m,sz,e,g,ob,some t,av⟩) (D:Ap g->0<=m/\es[m.toNat]?=some c/\c.length=sz) (K:A8 ob) (L:G P n F Q av ((t,gD g (.ip e c 0))::env) st aa):G P n F Q todo env st aa:=by unfold Fm at h;split at h;rename_i l o av s;split at h;rename_i t x i g q H;split at h;rename_i e _ _ _ _ es o1 kk m o2 J hx hi;split at h;rename_i ti N hd;split at h;rename_i t' z;cases h;have L:G P n F Q av (Ca o.dst (gD g (.ip e c 0)) env) st aa:=by{rw[z];exact L};refine BQ (fr:=[]) (wr:=[]) (rd:=[]) s (Ea H λI μ a8 d a w _ R p r=>?_) hd (λc D=>by rw[q]at D;cases D) L;rw[q]at p;let⟨S,T⟩:=BL K;have f:=(E6 hx S r (p x (by simp[Op.operands]))).immInv;have ri:=(E6 hi T r (p i (by simp[Op.operands]))).immInv.intInv;let⟨c0,E,c2⟩:=D r;have hu:P.underlying t=some (.slice e):=y.sh J;have A:=(A9.1 E).1;simp only[execOp,q,ri];generalize hv:a.eval x=v at f;cases f with|slnil=>simp at A|sl0=>simp at A|sl b off len cap sz _ vs hl k hm V u B=>{have hs:sz=ti.size:=by{rw[<- V c (AF E),c2]};subst hs;have hr:=Rw (w:=w) hu (y e ti N) (b:=b) (off:=off) (len:=len) (cap:=cap) (kk:=kk) c0 (by omega);have C:(do pure (.value (<- Instr.indexAt t (.slice (some ⟨b,off,none⟩) len cap) (.int kk m))):Sem Next).run P w=.ok (.value (.pointer (some ⟨b,off+m.toNat*ti.size,none⟩))) w:=AE hr;rw[C];refine⟨I,μ,R,?_,Mu.le_refl μ,Ext.refl _ _ _ _⟩;have:=X.ip (I:=I) (μ:=μ) b (off+m.toNat*ti.size) e c 0 (vs m.toNat) (λj x W=>u m.toNat c j x E W) (λj x W=>B m.toNat c j x E W);simpa using this};cases h;cases h;cases h;cases h;cases h
end
def TK:L1 Value->Option (L1 D)
 |[]=>some []
 |v::r=>match tL v,v.oneCell',TK r with
  |some d,true,some ds=>some (d::ds)
  |_,_,_=>none
def zo0 (P:Program):TypeDesc->Option Sh
 |.bool=>some .bool
 |.int k=>some (.int k)
 |.string=>some .str
 |.pointer e=>some (.ptr e)
 |.slice e=>some (.sl e)
 |.map k e=>some (.map k e)
 |.array n e=>some (.arr n e)
 |.func _ _ _=>some .func
 |.interface _=>some .iface
 |.struct h=>match h.toList.all λf=>Nat.blt 0 (P.cellsOf f.type)with
  |true=>some (.struct (h.toList.map λf=>(f.offset,f.type)))
  |false=>none
 |_=>none
def zpy:TypeDesc->Bool
 |.struct _=>true
 |.array _ _=>true
 |_=>false
def zmo (P:Program) (t:TypeId):Option TyI:=match P.info? t,P.underlying t with
 |some h,some u=>match h.zero,zo0 P u with
  |some z,some sh=>match TK z.cells.toList with
   |some ds=>some { sh,agg:=zpy u,size:=h.size,bytes:=h.bytes,zero:=ds }
   |none=>none
  |_,_=>none
 |_,_=>none
def wL (P:Program):L1 TypeId->TT
 |[]=>[]
 |t::r=>match zmo P t with
  |some i=>(t,i)::wL P r
  |none=>wL P r
def Ud:∀{vs:L1 Value} {ds:L1 D},TK vs=some ds->(∀I μ,RepL I μ vs ds)/\∀v∈vs,v.oneCell'=true
 |[],ds,h=>by cases h;exact⟨λ_ _=>.nil,λ_ h=>by simp at h⟩
 |v::r,ds,h=>by simp only[TK]at h;split at h;rename_i d p q y z;cases h;let⟨A,B⟩:=Ud z;exact⟨λI μ=>.mk (XZ q I μ) (A I μ),λu C=>(Ck.1 C).elim (λe=>e▸y) (B u)⟩;cases h
def zii {i:TyI} (h:zmo P t=some i):TyOk P t i:=by
 unfold zmo at h
 split at h
 ·rename_i y u A q
  split at h
  ·rename_i z K B p
   split at h
   ·rename_i ds C;cases h;obtain⟨D,E⟩:=Ud C;refine⟨⟨y,z,A,rfl,rfl,B,D,E⟩,?_,?_⟩
    ·funext w;simp only[isAgg,aj,ak q,ah];cases u<;>rfl
    ·unfold zo0 at p
     split at p<;>first|(cases p;exact q)|(cases p;exact⟨_,_,_,q⟩)|(cases p;exact⟨_,q⟩)|skip
     ·split at p
      ·rename_i r;cases p;refine⟨_,q,rfl,λf G=>?_⟩;have:=CJ.1 r f G;simpa[JO]using this
      ·cases p
     ·cases p
   ·cases h
  ·cases h
 ·cases h
def Zj {P:Program}:∀{l:L1 TypeId},TTok P (wL P l)
 |[],t,i,h=>by simp[wL,lk]at h
 |x::r,t,i,h=>by simp only[wL]at h;split at h;rename_i j q;by_cases p:x=t;subst p;rw[A7]at h;cases h;exact zii q;rw[AB _ _ p]at h;exact Zj t i h;exact Zj t i h
def TTok.of_eq {l:L1 TypeId} (h:tt=wL P l):TTok P tt:=h▸Zj
attribute [simp] A8 Lb
def Gx {x:Int} (h : -9223372036854775808<=x) (p:x<=9223372036854775807):IntKind.i64.wrap x=x:=by simp only[IntKind.wrap,IntKind.bits,IntKind.signed];simp;omega
def B8 {k:IntKind} {a b:Int} (h:a=b):Pq (.imm (.int k a)) (.imm (.int k b)):=by rw[h];rfl
def Bf {x:Int} (h : -9223372036854775808<=x:=by omega) (p:x<=9223372036854775807:=by omega):Pq (.imm (.int .i64 (IntKind.i64.wrap x))) (.imm (.int .i64 x)):=B8 (Gx h p)
def tV {a b:V} (h:a=b):Pq (.imm a) (.imm b):=by rw[h];rfl
def Ab {n:Nat} {k:L1 DI} {env:Env} {h:L1 ResultVar} {v u:V} (p:Tp tt env st h=some ds) (q:toV (JD ds)=some u) (r:u=v):DGo P n F (KZ tt h (.ret (.imm v) [])) (.code .ret::k) env st aa:=Af ⟨ds,p,(show toV (JD ds)=some v by rw[q,r]),ab⟩
section
variable {n:Nat} {env:Env} {k:L1 DI}
def JY (q:TTok P tt) (u:P.follows .mixedOrders=true) (f:Nat) (p:L1 Pt) (h:run tt n f p todo env st aa []=.at k a7 au ids' ob) (r:A8 ob) (y:G P n F Q k a7 au ids'):DGo P n F Q todo env st aa:=(Iw q u f p h r y).go
end
mutual
def VQ (id:Nat) (es:L1 (L1 V)):D->D
 |.own i n=>bif Nat.beq i id then .imm (.sl es)else .own i n
 |.agg cs=>JJ (Xd id es cs)
 |.tup cs=>.tup (Xd id es cs)
 |.fn f a b=>.fn f (Xd id es a) (Xd id es b)
 |.iface t d=>match VQ id es d with
  |.imm x=>.imm (.iface t x)
  |z=>.iface t z
 |.guard c w d=>.guard c w (VQ id es d)
 |d=>d
def Xd (id:Nat) (es:L1 (L1 V)):L1 D->L1 D
 |[]=>[]
 |d::r=>VQ id es d::Xd id es r
end
def zad (id:Nat) (es:L1 (L1 V)):Env->Env
 |[]=>[]
 |(t,d)::r=>(t,VQ id es d)::zad id es r
def zkh (id:Nat) (es:L1 (L1 V)):Blk->Blk
 |.cells t sz cs=>Sx t sz (Xd id es cs)
 |b=>b
def Xc (id:Nat) (es:L1 (L1 V)):St->St
 |[]=>[]
 |(i,some b)::r=>(i,some (zkh id es b))::Xc id es r
 |(i,none)::r=>(i,none)::Xc id es r
def IB (id:Nat) (es:G1):∀l:L1 D,Xd id es l=l.map (VQ id es)
 |[]=>rfl
 |d::r=>by simp[Xd,IB id es r]
section
variable {n:Nat} {env:Env} {id:Nat} {g:Value}
def X.frz (h:X I μ v d) (C:I.le J) (e:μ id=some g) (S:M J g (.sl es)):X J μ v (VQ id es d):=by have z:∀{l:L1 D} {i:Nat} {x:D},(Xd id es l)[i]?=some x->∃y,l[i]?=some y/\x=VQ id es y:=by{intro l i x q;rw[IB,Ct]at q;cases B:l[i]? with|none=>rw[B]at q;cases q|some y=>{rw[B]at q;cases q;exact⟨y,rfl,rfl⟩}};induction h with|undef v=>exact .undef v|imm v x q=>exact .imm v x (q.mono C)|nils=>exact .nils|ref b id off p=>exact .ref b id off p|ip b o t cs off vs E L=>exact(X.ip b o t cs off vs E L).mono C (Mu.le_refl μ)|agg cs ds B G _ A=>have:X J μ (.agg cs.toList.toArray) (JJ (Xd id es ds)):=IP ⟨by rw[IB,C6,<- B];simp,λi c x N q=>by{obtain⟨y,K,rfl⟩:=z q;exact A i c y (by simpa using N) K}⟩ G;simpa[VQ]using this|tup cs ds B _ A=>refine .tup cs _ (by rw[IB,C6,B]) λi c x N q=>?_;obtain⟨y,K,rfl⟩:=z q;exact A i c y N K|own i r a u p=>{simp only[VQ];cases j:Nat.beq i id with|false=>exact .own i r a u p|true=>{rw[CU j,e]at p;cases p;exact .imm _ _ S}}|elp b id r u k sz f p=>exact .elp b id r u k sz f p|mapr id b p=>exact .mapr id b p|iter id b p=>exact .iter id b p|fn f first u F H m N _ _ T V=>refine .fn f first u _ _ (by rw[IB,C6,m]) (by rw[IB,C6,N]) (λi c x G W=>?_) (λi c x G W=>?_);obtain⟨y,K,rfl⟩:=z W;exact T i c y G K;obtain⟨y,K,rfl⟩:=z W;exact V i c y G K|iface t v d _ A=>simp only[VQ];split;rename_i x q;rw[q]at A;exact .imm _ _ (.iface t v x A.immInv);exact .iface t v _ A|guard c R v d _ n A=>exact .guard c R v _ A n|clip a r es S=>exact .clip a r es (S.mono C)|slc b id off r u p B q=>exact .slc b id off r u p B q|yld b id p=>exact .yld b id p|raw v h=>exact .raw v h|hv v id i vs s p w G=>{exact .hv v id i vs s p w G}
def BlkRep.frz {u:Value} {blk:Blk} (h:BlkRep I μ w u blk) (p:I.le J) (A:μ id=some g) (B:M J g (.sl es)):BlkRep J μ w u (zkh id es blk):=by cases blk with|cells t sz cs=>{obtain⟨C,b,vs,rfl,D,z,E⟩:=h;refine IO D ⟨by rw[IB,C6,z.1],λi v x G q=>?_⟩ E (by rw[IB,C6,C]);rw[IB,Ct]at q;cases r:cs[i]? with|none=>rw[r]at q;cases q|some y=>{rw[r]at q;cases q;exact(z.2 i v y G r).frz p A B}}|_=>{exact h.mono p (Mu.le_refl μ)}
def R6 {i:Nat} {b:Blk}:∀{st:St},Aw (Xc id es st) i b->∃p,Aw st i p/\b=zkh id es p
 |[],h=>by simp[Xc,Aw,lk]at h
 |(k,some x)::r,h=>by simp only[Xc]at h;rcases A1.1 h with⟨q,u⟩|⟨q,u⟩;exact⟨x,by unfold Aw;rw[q,A7],u⟩;let⟨p,y,z⟩:=R6 u;exact⟨p,A1.2 (.inr ⟨q,y⟩),z⟩
 |(k,none)::r,h=>by simp only[Xc]at h;let⟨q,u⟩:=B3.1 h;let⟨p,y,z⟩:=R6 u;exact⟨p,B3.2 ⟨q,y⟩,z⟩
def Cn (id:Nat) (hl:lk st id=some (some (.row e sz es))) (h:DGo P n F Q todo (zad id es env) ((id,none)::Xc id es st) aa):DGo P n F Q todo env st aa:=by
 intro b cs I μ a w W hd A;have u:Aw st id (.row e sz es):=hl;let⟨g,hg,xs,hown,L,hsz,hone,hp⟩:=A.blk id _ u;obtain⟨J,hJ,hJr,f⟩:∃J:U,I.le J/\M J g (.sl es)/\(∀k o,J k=some o->(I k=some o\/(Ek g k/\w.heap[k]?=some o))):=by
  rcases hown.2 with⟨rfl,h0⟩|⟨gb,cap,l,rfl,_,m,hle,hcm,hcs,H⟩
  ·have:es=[]:=Iu h0;subst this;exact⟨I,U.le_refl I,.slnil,λk o h=>.inl h⟩
  ·have hno:=(A.apart id _ _ gb u hg O).1;have N:I.le (λk=>if k=gb then some (.cells l e (0,0))else I k):=λk o h=>by
    have:k≠gb:=λe=>by rw[e,hno]at h;cases h
    simp[this,h]
   refine⟨_,N,?_,λk o h=>?_⟩
   ·have C:∀(i:Nat) (c:L1 V) (j:Nat) (x:V),es[i]?=some c->c[j]?=some x->∃v,xs[i*sz+j]?=some v/\l[i*sz+j]?=some v/\M I v x/\v.oneCell'=true:=by
     intro i c j x R S;have B:=CO hsz i c j x R S;have hlt:i*sz+j<xs.length:=by rw[L.1];exact(A9.1 B).1
     obtain⟨v,hv⟩:∃v,xs[i*sz+j]?=some v:=⟨_,Bq hlt⟩
     have hr:=L.2 _ _ _ hv B;refine⟨v,hv,?_,hr,?_⟩
     ·rw[<- H,DO]at hv
      split at hv
      ·simpa using hv
      ·cases hv
     ·have:=hone c (AF R) x (AF S);exact hr.one this
    refine .sl gb 0 _ cap sz es (λi j=>(l[i*sz+j]?).getD undef) O hle hcm hsz (λi c j x R S=>?_) (λi c j x R S=>?_)
    ·let⟨v,_,y,_,h4⟩:=C i c j x R S;simp[U.cell,y,h4]
    ·let⟨v,_,y,h3,_⟩:=C i c j x R S;simp only[y,KF];exact h3.mono N
   ·by_cases hk:k=gb
    ·subst hk;simp at h;subst h;exact .inr ⟨rfl,m⟩
    ·simp[hk]at h;exact .inl h
 have D:∀i E,Aw ((id,none)::Xc id es st) i E->i≠id/\∃K,Aw st i K/\E=zkh id es K:=λi E h=>by
  let⟨B,y⟩:=B3.1 h;exact⟨B,R6 y⟩
 have hE:Ext I μ st w J μ ((id,none)::Xc id es st) w :=
  {imm:=hJ,os:=rfl,tape:=rfl,output:=rfl,size:=BO _
   block:=λ_ _ _=>rfl
   fresh:=λk _ ⟨i,E,T,B,y,h3⟩=>let⟨_,K,q,_⟩:=D i E B;⟨i,K,T,q,y,h3⟩
   old:=λk _ ho=>by
      cases G:J k with
      |none=>
       cases hIk:I k with
       |none=>rfl
       |some o=>rw[hJ k o hIk]at G;cases G
      |some o=>
       rcases f k o G with h|⟨h,_⟩
       ·exact h.symm
       ·exact absurd ⟨id,_,g,u,hg,h⟩ ho }
 have hc':Conc n J μ (zad id es env) ((id,none)::Xc id es st) aa a w :=
  {imm:=λk o h=>(f k o h).elim (λh=>A.imm k o h) λh=>h.2
   blk:=λi E hli=>by
    obtain⟨_,K,y,rfl⟩:=D i E hli;let⟨T,z,hr⟩:=A.blk i K y;exact⟨T,z,hr.frz hJ hg hJr⟩
   apart:=λi E T k hli z hk=>by
    obtain⟨B,K,y,rfl⟩:=D i E hli;let⟨q1,q2⟩:=A.apart i K T k y z hk;refine⟨?_,q2⟩;cases G:J k with
    |none=>rfl
    |some o=>
     rcases f k o G with h|⟨h,_⟩
     ·rw[q1]at h;cases h
     ·exact absurd (A.inj i id K _ T g k y u z hg hk h) B
   inj:=λi j E bj T gj k R S z hgj hki hkj=>by
    obtain⟨_,b1,B,rfl⟩:=D i E R;obtain⟨_,b2,y,rfl⟩:=D j bj S;exact A.inj i j b1 b2 T gj k B y z hgj hki hkj
   nodup:=A.nodup
   idsFree:=A.idsFree
   size:=A.size
   env:=λt d hlt=>by
    have:∀{env:Env},lk (zad id es env) t=some d->∃d0,lk env t=some d0/\d=VQ id es d0:=by
     intro env
     induction env with
     |nil=>intro h;simp[zad,lk]at h
     |cons p r ih=>
      obtain⟨s,x⟩:=p;intro h;simp only[zad]at h;by_cases hs:s=t
      ·subst hs;rw[A7]at h;cases h;exact⟨x,A7 _ _ _,rfl⟩
      ·rw[AB _ _ hs]at h;rw[AB _ _ hs];exact ih h
    obtain⟨d0,B,rfl⟩:=this hlt;exact(A.env t d0 B).frz hJ hg hJr
   defers:=A.defers.ext hE }
 exact(h b cs J μ a w W hd hc').mono λe' a' w' hp=>hp.back (.refl _ _)<|hE
end
structure Tg where
 f:FuncId
 das:List D
 ob:List Prop
 dst:Option Nat
 o:Oper
 all:List Oper
def SQ (n:Nat) (env:Env) (todo:L1 DI):Option Tg :=
 match B1 todo ([],[])with
 |some (h,o,_)=>match o.guard,o.op with
  |none,.call { callee:=.value (.func f),args:=⟨args⟩,.. }=>match Kv True env args,Ce n o.dst with
   |some (ds,ob),true=>some ⟨f,ds,ob,o.dst,o,h⟩
   |_,_=>none
  |none,.call { callee:=.value (.tmp t),args:=⟨args⟩,.. }=>match lk env t,Kv True env args,Ce n o.dst with
   |some (.imm (.fn (.func f))),some (ds,ob),true=>some ⟨f,ds,ob,o.dst,o,h⟩
   |some (.fn (.func f) p q),some (ds,ob),true=>some ⟨f,p++ds++q,ob,o.dst,o,h⟩
   |_,_,_=>none
  |_,_=>none
 |none=>none
def zce:L1 (Nat×Nat)->L1 Nat
 |[]=>[]
 |(_,b)::r=>b::zce r
def FE:L1 (Nat×Nat)->L1 Nat
 |[]=>[]
 |(a,_)::r=>a::FE r
def Lr (σ τ1:L1 (Nat×Nat)) (das:L1 D) (bl:St) (d:D) (a8:St) (fr:L1 Nat):Bool :=
 Ec σ (Bg σ) (FQ das)&&Ec σ (Bg σ) (FE σ)&&Oy (zce σ) (CT bl)&&Ec (Bg σ++τ1) (σ++Bg τ1) (Hb d)&&Ec (Bg σ++τ1) (σ++Bg τ1) (Dx a8)&&Oy (zce τ1) fr
def Zr:∀l:G2,zce l=l.map (·.2)
 |[]=>rfl
 |(a,b)::r=>by simp[zce,Zr r]
def N6:∀l:G2,FE l=l.map (·.1)
 |[]=>rfl
 |(a,b)::r=>by simp[FE,N6 r]
section
variable {n:Nat} {env:Env} {k:L1 DI}
def Rj (h:Lr σ τ1 das bl d a8 fr=true):vT σ τ1 das bl d a8 fr:=by simp only[Lr,Am]at h;obtain⟨⟨⟨⟨⟨r,u⟩,y⟩,z⟩,A⟩,B⟩:=h;exact⟨r,by rw[<- N6];exact u,λp q=>GH y _ (by rw[Zr];exact Vs q),z,A,λp q=>GH B _ (by rw[Zr];exact Vs q)⟩
def Hp (p:Agree (FE σ) st a8):∀{bl:St},F3 σ st bl->F3 σ a8 bl
 |[],_=>trivial
 |(i,none)::_,h=>h.elim
 |(i,some b)::r,h=>by refine⟨?_,Hp p h.2⟩;have q:=h.1;cases u:lk (Bg σ) i with|none=>simp[u]at q|some a=>{simp only[u]at q ⊢;refine⟨q.1,?_⟩;have y:a∈FE σ:=by{rw[N6];exact C7.2 ⟨(a,i),M3 u,rfl⟩};rw[p a y];exact q.2}
def zju {all:L1 Oper} (E:o.guard=none) (G:Ga P o env f das True) (K:Ht P f (F1 (DZ σ) das) bl (.ret d a8)) (L:F3 σ st bl) (N:Lr σ τ1 das bl d a8 fr=true):LD P Pn all o env st (FE σ) fr (ET (Bg σ++τ1) a8++CC (FE σ)) (Lj (DZ (Bg σ++τ1)) d):=by intro I μ R z a w r p y;refine⟨λ_=>?_,λA=>by rw[AJ E]at A;cases A⟩;let⟨xs,S,T⟩:=G I μ a w (Bx y) ab;have q:=Hp r L;have B:=Rj N;let⟨V,W,b⟩:=HI p q B.args S;rw[T];refine(K I _ w xs V W).mono (λu w' c=>?_) (λ_ _ h=>h.elim);obtain⟨e,g,i,j,k,l⟩:=c;let⟨ν,C,m,n,D⟩:=NK p q B i j k l b;rw[<- N6]at C D;exact⟨e,ν,C,m,n,D⟩
def Qy {c:Tg} (h:SQ n env todo=some c) (z:A8 c.ob):(∀f,∃av,B1 todo f=some (c.all,c.o,av))/\c.o.guard=none/\Ga P c.o env c.f c.das True/\Ce n c.dst=true/\(∀x,c.o.op≠.defer x)/\c.dst=c.o.dst:=by unfold SQ at h;have p:∀{u:L1 Oper} {o:Oper} {t:L1 DI},B1 todo ([],[])=some (u,o,t)->∀f,∃av,B1 todo f=some (u,o,av):=by{intro u o t h f;rcases KA h with⟨r,k,rfl,_⟩|⟨r,L,k,rfl,_⟩;exact⟨_,rfl⟩;exact⟨_,rfl⟩};split at h;rename_i u o t G;split at h;rename_i f B q E A;split at h;rename_i ds ob C D;cases h;exact⟨p G,E,Ho A C z,D,(λx y=>by rw[A]at y;cases y),rfl⟩;cases h;rename_i N B q E A;split at h;rename_i f ds ob K C D;cases h;exact⟨p G,E,G5 A K C z,D,(λx y=>by rw[A]at y;cases y),rfl⟩;rename_i f R S ds ob K C D;cases h;exact⟨p G,E,Kw A K C z,D,(λx y=>by rw[A]at y;cases y),rfl⟩;cases h;cases h;cases h
def L6 {c:Tg} (σ τ1:G2) {nm:L1 Nat} (h:SQ n env todo=some c) (q:A8 c.ob) (z:Ht P c.f (F1 (DZ σ) c.das) bl (.ret d a8)) (A:F3 σ st bl) (B:Lr σ τ1 c.das bl d a8 fr=true) (r:(ET (Bg σ++τ1) a8++CC (FE σ)).map (·.1)=nm) (C:B1 todo (FE σ,nm)=some (c.all,c.o,av)) (p:aa=fr++ids') (u:G P n F Q av (Ca c.dst (Lj (DZ (Bg σ++τ1)) d) env) (ET (Bg σ++τ1) a8++CC (FE σ)++st) ids'):G P n F Q todo env st aa:=by let⟨_,D,E,y,K,L⟩:=Qy (P:=P) h q;subst p;rw[L]at y u;subst r;exact BQ C (zju D E z A B) y K u
def Ae {n:Nat} {env:Env} {p:L1 DI} {c:Tg} (h:SQ n env todo=some c) (r:Ht P c.f (F1 (DZ [(1,1)]) c.das) bl (.ret d a8)) (u:F3 [(1,1)] st bl) (y:B1 todo (FE [(1,1)],(ET (Bg [(1,1)]++[]) a8++CC (FE [(1,1)])).map (·.1))=some (c.all,c.o,p)) (z:G P n F Q p (Ca c.dst (Lj (DZ (Bg [(1,1)]++[])) d) env) (ET (Bg [(1,1)]++[]) a8++CC (FE [(1,1)])++st) aa) (A:Lr [(1,1)] [] c.das bl d a8 []=true:=by rfl) (q:A8 c.ob:=by simp):G P n F Q todo env st aa:=L6 (fr:=[]) [(1,1)] [] h q r u A O y O z
def Ao {n:Nat} {env:Env} {q:L1 Nat} {p:L1 DI} (fr:L1 Nat) {c:Tg} (σ τ1:G2) (h:SQ n env todo=some c) (y:Ht P c.f (F1 (DZ σ) c.das) bl (.ret d a8)) (z:F3 σ st bl) (A:B1 todo (FE σ,(ET (Bg σ++τ1) a8++CC (FE σ)).map (·.1))=some (c.all,c.o,p)) (r:aa=fr++q) (B:G P n F Q p (Ca c.dst (Lj (DZ (Bg σ++τ1)) d) env) (ET (Bg σ++τ1) a8++CC (FE σ)++st) q) (C:Lr σ τ1 c.das bl d a8 fr=true:=by rfl) (u:A8 c.ob:=by simp):G P n F Q todo env st aa:=L6 (fr:=fr) σ τ1 h u y z C O A r B
def AM {c:Tg} {all rest:L1 Oper} (σ:G2) (h:SQ n env (.ops all (o::rest)::k)=some c) (B:A8 c.ob) (R:Ht P c.f (F1 (DZ σ) c.das) bl (.pan x)) (q:F3 σ st bl) (S:Ec σ (Bg σ) (FQ c.das)=true) (T:NR Q x):DGo P n F Q (.ops all (o::rest)::k) env st aa:=by let⟨V,W,e,q4,f,_⟩:=Qy (P:=P) h B;let⟨t,K⟩:=V ([],[]);simp only[B1,Ci,AN]at K;obtain⟨_,r,_⟩:=K;subst r;intro b cs I μ a w C l A;obtain⟨j,is,rfl,m,hk⟩:=JX l;let⟨s,_⟩:=EW m;have D:LR (c.o.looksAt all.toArray) I μ env a:=λt _ d H=>A.env t d H;have u:(c.o::rest).length=rest.length+1:=rfl;rw[u,Ms];refine Gq s (AJ W) f ?_;let⟨xs,E,J⟩:=e I μ a w (Bx D) ab;let⟨p1,p2,L⟩:=HI A.toStRep q S E;rw[J];refine valX.upon ((R I _ w xs p1 p2).mono (λ_ _ h=>h.elim) λG w' hp=>?_);obtain⟨v,y,N,r1,r2,r3,r4,p⟩:=hp;subst r2;have z:Ext I μ st w N μ [] w':={ imm:=p.imm,os:=p.os,tape:=p.tape,output:=p.output,size:=p.size,block:=λb q r=>p.block b q (λh=>r (L b h)),fresh:=λb q ⟨i,bi,g,E,_⟩=>by simp[Aw,lk]at E,old:=λb q r=>p.old b q (λh=>r (L b h)) };exact⟨.panic y,[],[],[],N,μ,⟨v,r1,r3⟩,T,MS r4 A.size (A.defers.ext z),.refl _ _,z,.refl _ _⟩
end
def mixed:prog.follows .mixedOrders=true:=by kernel_rfl
def kQ:TT:=[
 (4,⟨.bool,false,1,1,[.imm (.bool false)]⟩),
 (3,⟨.int .i64,false,1,8,[.imm (.int .i64 0)]⟩),
 (9,⟨.str,false,1,16,[.imm (.str [])]⟩),
 (49,⟨.struct [(0,45),(1,3),(2,9),(3,46),(4,47)],true,5,80,[.imm (.int .i64 0),.imm (.int .i64 0),.imm (.str []),.nils,.nils]⟩),
 (25,⟨.struct [(0,22),(1,3),(2,9),(3,23)],true,4,56,[.imm (.int .i64 0),.imm (.int .i64 0),.imm (.str []),.nils]⟩),
 (182,⟨.struct [(0,180),(1,3),(2,9),(3,47)],true,4,56,[.imm (.int .i64 0),.imm (.int .i64 0),.imm (.str []),.nils]⟩),
 (45,⟨.int .i64,false,1,8,[.imm (.int .i64 0)]⟩),
 (47,⟨.sl 182,false,1,24,[.nils]⟩),
 (5,⟨.int .u8,false,1,1,[.imm (.int .u8 0)]⟩),
 (23,⟨.sl 25,false,1,24,[.nils]⟩),
 (22,⟨.int .i64,false,1,8,[.imm (.int .i64 0)]⟩),
 (73,⟨.sl 9,false,1,24,[.nils]⟩),
 (46,⟨.sl 49,false,1,24,[.nils]⟩),
 (180,⟨.int .i64,false,1,8,[.imm (.int .i64 0)]⟩),
 (71,⟨.struct [(0,9),(1,9),(2,25),(6,25),(10,49)],true,15,224,[.imm (.str []),.imm (.str []),.imm (.int .i64 0),.imm (.int .i64 0),.imm (.str []),.nils,.imm (.int .i64 0),.imm (.int .i64 0),.imm (.str []),.nils,.imm (.int .i64 0),.imm (.int .i64 0),.imm (.str []),.nils,.nils]⟩),
 (43,⟨.struct [(0,9),(1,40),(2,41)],true,3,64,[.imm (.str []),.nils,.nils]⟩),
 (178,⟨.struct [(0,9),(1,23)],true,2,40,[.imm (.str []),.nils]⟩),
 (40,⟨.sl 113,false,1,24,[.nils]⟩),
 (41,⟨.sl 71,false,1,24,[.nils]⟩),
 (113,⟨.struct [(0,9),(1,111)],true,2,40,[.imm (.str []),.nils]⟩),
 (111,⟨.sl 178,false,1,24,[.nils]⟩),
 (28,⟨.int .i64,false,1,8,[.imm (.int .i64 0)]⟩)]
def Bp:TTok prog kQ:=.of_eq (l:=[4,3,9,49,25,182,45,47,5,23,22,73,46,180,71,43,178,40,41,113,111,28]) (by kernel_rfl)
def zo1:Code->Code
 |.seq _ b=>b
 |_=>.skip
def ES (f:Func):Nat->Code
 |0=>match f.body with
  |some c=>c
  |none=>.skip
 |k+1=>zo1 (ES f k)
section
variable {n:Nat} {env:Env} {k:L1 DI}
abbrev Tq2:=DGo prog
abbrev Tq1:=G prog
def kd (p:L1 Pt) (h:run kQ n 300 p todo env st aa []=.at k a7 au ids' ob) (q:A8 ob) (r:Tq1 n F Q k a7 au ids'):Tq2 n F Q todo env st aa:=JY Bp mixed 300 p h q r
def Bj (h:run kQ n 300 [] todo env st aa []=.at k a7 au ids' ob) (q:Tq1 n F Q k a7 au ids') (p:A8 ob:=by simp):Tq2 n F Q todo env st aa:=kd [] h p q
def kg (p:L1 Pt) (h:run kQ n 300 p todo env st aa []=.at k a7 au ids' ob) (q:A8 ob) (r:Tq1 n F Q k a7 au ids'):Tq1 n F Q todo env st aa:=Iw Bp mixed 300 p h q r
def TR (p:L1 Pt) (h:run kQ n 300 p todo env st aa []=.at k a7 au ids' ob) (r:Tq1 n F Q k a7 au ids') (q:A8 ob:=by simp):Tq1 n F Q todo env st aa:=kg p h q r
def AU (h:run kQ n 300 [] todo env st aa []=.at k a7 au ids' ob) (q:Tq1 n F Q k a7 au ids') (p:A8 ob:=by simp):Tq1 n F Q todo env st aa:=kg [] h p q
def ki {t:Nat} (h:Fm kQ n env todo=some ⟨es,m,sz,e,g,ob,some t,av⟩) (q:Ap g->0<=m/\es[m.toNat]?=some c/\c.length=sz) (p:A8 ob) (r:Tq1 n F Q av ((t,gD g (.ip e c 0))::env) st aa):Tq1 n F Q todo env st aa:=G4 Bp h q p r
def WX {t:Nat} (h:Fm kQ n env todo=some ⟨es,(i:Int),sz,e,g,ob,some t,av⟩) (q:es[i]?=some c) (r:Tq1 n F Q av ((t,gD g (.ip e c 0))::env) st aa) (u:c.length=sz:=by simp) (p:A8 ob:=by simp):Tq1 n F Q todo env st aa:=ki h (λ_=>⟨by omega,by simpa using q,u⟩) p r
def kizc {t:Nat} (h:Fm kQ n env todo=some ⟨es,(i:Int),sz,e,g,ob,some t,av⟩) (q:es[i]?=some c) (r:Tq1 n F Q av ((t,gD g (.ip e c 0))::env) st aa) (u:c.length=sz:=by simp) (p:A8 ob:=by simp[Ap]):Tq1 n F Q todo env st aa:=ki h (λ_=>⟨by omega,by simpa using q,u⟩) p r
end
abbrev Z:=L1 UInt8
inductive Y where
 |mk (s n:Int) (x:Z) (ps:List Y)
mutual
def As:Y->L1 V
 |.mk s n x h=>[.int .i64 s,.int .i64 n,.str x,.sl (A4 h)]
def A4:L1 Y->L1 (L1 V)
 |[]=>[]
 |t::r=>As t::A4 r
end
inductive Tm where
 |mk (op n:Int) (x:Z) (ks:List Tm) (ps:List Y)
mutual
def dTmc:Tm->L1 V
 |.mk h n x p q=>[.int .i64 h,.int .i64 n,.str x,.sl (Cz p),.sl (A4 q)]
def Cz:L1 Tm->L1 (L1 V)
 |[]=>[]
 |t::r=>dTmc t::Cz r
end
structure Cd where
 name:Z
 args:List Y
structure Dt where
 name:Z
 cons:List Cd
structure Fd where
 name:Z
 param:Z
 from_:Y
 to_:Y
 body:Tm
structure Md where
 name:Z
 datas:List Dt
 funs:List Fd
def FW (c:Cd):L1 V:=[.str c.name,.sl (A4 c.args)]
def D2 (d:Dt):L1 V:=[.str d.name,.sl (d.cons.map FW)]
def DJ (f:Fd):L1 V:=[.str f.name,.str f.param]++As f.from_++As f.to_++dTmc f.body
def dMdc (m:Md):L1 V:=[.str m.name,.sl (m.datas.map D2),.sl (m.funs.map DJ)]
def Cq (l:L1 Z):L1 (L1 V):=l.map λs=>[.str s]
def D1:∀l:L1 Y,A4 l=l.map As
 |[]=>rfl
 |t::r=>by simp[A4,D1 r]
def LF:∀l:L1 Tm,Cz l=l.map dTmc
 |[]=>rfl
 |t::r=>by simp[Cz,LF r]
@[simp] theorem dTys_length (l:L1 Y):(A4 l).length=l.length:=by rw[D1];simp
@[simp] theorem dTms_length (l:L1 Tm):(Cz l).length=l.length:=by rw[LF];simp
@[simp] theorem dTyc_length (t:Y):(As t).length=4:=by cases t;rfl
@[simp] theorem dTmc_length (t:Tm):(dTmc t).length=5:=by cases t;rfl
@[simp] theorem dStr_length (l:L1 Z):(Cq l).length=l.length:=by simp[Cq]
def AQ {l:L1 Y} {t:Y} (h:l[i]?=some t):(A4 l)[i]?=some (As t):=by rw[D1];simp[h]
def Et {l:L1 Tm} {t:Tm} (h:l[i]?=some t):(Cz l)[i]?=some (dTmc t):=by rw[LF];simp[h]
def MQ {l:L1 Z} {t:Z} (h:l[i]?=some t):(Cq l)[i]?=some [.str t]:=by simp[Cq,h]
def FH (a b:L1 Y):A4 (a++b)=A4 a++A4 b:=by simp[D1]
def JZ (a b:L1 Tm):Cz (a++b)=Cz a++Cz b:=by simp[LF]
def Ka (a b:L1 Z):Cq (a++b)=Cq a++Cq b:=by simp[Cq]
def Au {l:L1 α} {t:α} (h:l[i]?=some t):l.drop i=t::l.drop (i+1):=by let⟨p,q⟩:=A9.1 h;rw[<- q];exact List.drop_eq_getElem_cons p
def fe:=@List.take_add_one
def Ba {l:L1 α} {t:α} (h:l[i]?=some t):l.take (i+1)=l.take i++[t]:=by rw[fe,h];rfl
def At {l:L1 α} (h:i<l.length):∃t,l[i]?=some t:=⟨_,Bq h⟩
def Ay (n:Int):Y:=.mk 9 n [] []
def CD:Y->Int
 |.mk f _ _ _=>f
def num:Y->Int
 |.mk _ n _ _=>n
def Hr:Y->L1 Y
 |.mk _ _ _ h=>h
mutual
def AH (θ:Int->Y):Y->Y
 |.mk f n x h=>if f=9 then θ n else .mk f n x (Df θ h)
def Df (θ:Int->Y):L1 Y->L1 Y
 |[]=>[]
 |t::r=>AH θ t::Df θ r
end
mutual
def Dc:Y->L1 Int
 |.mk f n _ h=>if f=9 then[n]else Dq h
def Dq:L1 Y->L1 Int
 |[]=>[]
 |t::r=>Dc t++Dq r
end
mutual
def CL:Y->Bool
 |.mk f n x h=>((f != 9||(x==[]&&h.length==0))&&(f==9||(decide (0<=n)&&decide (n<=1000000))))&&(f != 0&&decide (h.length<=3))&&G8 h
def G8:L1 Y->Bool
 |[]=>true
 |t::r=>CL t&&G8 r
end
mutual
def Fw:Y->Nat
 |.mk _ _ _ h=>1+Ei h
def Ei:L1 Y->Nat
 |[]=>0
 |t::r=>Fw t+Ei r
end
def LI (θ:Int->Y):∀l:L1 Y,Df θ l=l.map (AH θ)
 |[]=>rfl
 |t::r=>by simp[Df,LI θ r]
def PO {m:Int}:∀{l:L1 Y},m∈Dq l↔∃t∈l,m∈Dc t
 |[]=>by simp[Dq]
 |t::r=>by simp[Dq,PO (l:=r)]
def cI:∀{l:L1 Y},G8 l=true↔∀t∈l,CL t=true
 |[]=>by simp[G8]
 |t::r=>by simp[G8,cI (l:=r)]
def Ng (t:Y):1<=Fw t:=by cases t;simp only[Fw];omega
def Uv {t:Y}:∀{l:L1 Y},t∈l->Fw t<=Ei l
 |x::r,h=>by simp only[Ei];rcases Ck.1 h with rfl|h;omega;have:=Uv h;omega
def Fa {t:Y} (h:CL t=true) (p:CD t=9):t=Ay (num t):=by obtain⟨f,n,x,r⟩:=t;simp only[CD]at p;subst p;simp[CL]at h;obtain⟨⟨⟨rfl,q⟩,_⟩,_⟩:=h;subst q;rfl
def al:=@decide_eq_true_eq
def LV {t:Y} (h:CL t=true):(Hr t).length<=3:=by obtain⟨f,n,x,p⟩:=t;simp only[CL,Am,al]at h;exact h.1.2.2
def G7 {t:Y} (h:CL t=true):∀p∈Hr t,CL p=true:=by obtain⟨f,n,x,q⟩:=t;simp only[CL,Am]at h;exact cI.1 h.2
def De (θ:Int->Y) (n:Int):AH θ (Ay n)=θ n:=by simp[Ay,AH]
def Ih {θ:Int->Y} {t:Y} (h:CD t=9):AH θ t=θ (num t):=by obtain⟨f,n,x,p⟩:=t;simp only[CD]at h;subst h;simp[AH,num]
def kH {θ:Int->Y} {t:Y} (h:CD t≠9):∃f n x,t=.mk f n x (Hr t)/\f≠9/\AH θ t=.mk f n x ((Hr t).map (AH θ)):=by obtain⟨f,n,x,p⟩:=t;exact⟨f,n,x,rfl,h,by simp only[AH,ac (show¬f=9 from h),LI,Hr]⟩
mutual
def kI:∀t:Y,CL t=true->AH Ay t=t
 |.mk f n x p,h=>by by_cases e:f=9;subst e;have:=Fa h O;simp only[num]at this;rw[this];simp[AH,Ay];simp only[CL,Am]at h;simp only[AH,ac e,zhj p h.2]
def zhj:∀l:L1 Y,G8 l=true->Df Ay l=l
 |[],_=>rfl
 |t::r,h=>by simp only[G8,Am]at h;simp only[Df,kI t h.1,zhj r h.2]
end
mutual
def LH (η θ:Int->Y):∀t:Y,AH η (AH θ t)=AH (λn=>AH η (θ n)) t
 |.mk f n x h=>by by_cases e:f=9;simp only[AH,ae e];simp only[AH,ac e,kF η θ h]
def kF (η θ:Int->Y):∀l:L1 Y,Df η (Df θ l)=Df (λn=>AH η (θ n)) l
 |[]=>rfl
 |t::r=>by simp only[Df,LH η θ t,kF η θ r]
end
mutual
def FJ {η θ:Int->Y}:∀t:Y,(∀m∈Dc t,η m=θ m)->AH η t=AH θ t
 |.mk f n x p,h=>by by_cases e:f=9;simp only[AH,ae e];exact h n (by simp[Dc,e]);simp only[AH,ac e];rw[YZ p (λm q=>h m (by simp only[Dc,ac e];exact q))]
def YZ {η θ:Int->Y}:∀l:L1 Y,(∀m∈Dq l,η m=θ m)->Df η l=Df θ l
 |[],_=>rfl
 |t::r,h=>by simp only[Df,FJ t (λm p=>h m (by simp[Dq,p])),YZ r (λm p=>h m (by simp[Dq,p]))]
end
mutual
def zfz {θ:Int->Y} {m:Int}:∀t:Y,m∈Dc (AH θ t)↔∃n∈Dc t,m∈Dc (θ n)
 |.mk f n x h=>by by_cases e:f=9;simp[AH,Dc,e];simp only[AH,Dc,ac e];exact uF h
def uF {θ:Int->Y} {m:Int}:∀l:L1 Y,m∈Dq (Df θ l)↔∃n∈Dq l,m∈Dc (θ n)
 |[]=>by simp[Dq,Df]
 |t::r=>by simp only[Df,Dq,B2,zfz t,uF r];grind
end
mutual
def zmz {θ:Int->Y} {n:Int}:∀t:Y,n∈Dc t->Fw (θ n)<=Fw (AH θ t)
 |.mk f m x p,h=>by by_cases e:f=9;simp only[Dc,ae e,AL]at h;simp only[AH,ae e,h];omega;simp only[Dc,ac e]at h;have:=Zl (θ:=θ) p h;simp only[AH,ac e,Fw];omega
def Zl {θ:Int->Y} {n:Int}:∀l:L1 Y,n∈Dq l->Fw (θ n)<=Ei (Df θ l)
 |[],h=>by simp[Dq]at h
 |t::r,h=>by simp only[Dq,B2]at h;simp only[Df,Ei];rcases h with h|h;have:=zmz (θ:=θ) t h;omega;have:=Zl (θ:=θ) r h;omega
end
def sA {θ:Int->Y} {t:Y} (p:CD t≠9) (h:n∈Dc t):Fw (θ n)<Fw (AH θ t):=by obtain⟨f,m,x,q⟩:=t;have e:¬f=9:=p;simp only[Dc,ac e]at h;have:=Zl (θ:=θ) q h;simp only[AH,ac e,Fw];omega
def rZ {θ:Int->Y} {t p:Y} (q:CD t≠9) (h:p∈Hr t):Fw (AH θ p)<Fw (AH θ t):=by obtain⟨f,m,x,r⟩:=t;have e:¬f=9:=q;have:=Uv (Vs (f:=AH θ) h);simp only[AH,ac e,Fw,LI,Hr]at *;omega
mutual
def Ui {θ:Int->Y} (p:∀n,CL (θ n)=true):∀t:Y,CL t=true->CL (AH θ t)=true
 |.mk f n x q,h=>by by_cases e:f=9;simp only[AH,ae e];exact p n;simp only[CL,Am]at h;simp only[AH,ac e,CL,Am];exact⟨⟨⟨by simp[e],h.1.1.2⟩,h.1.2.1,by rw[LI,C6];exact h.1.2.2⟩,zbq p q h.2⟩
def zbq {θ:Int->Y} (p:∀n,CL (θ n)=true):∀l:L1 Y,G8 l=true->G8 (Df θ l)=true
 |[],_=>rfl
 |t::r,h=>by simp only[G8,Am]at h;simp only[Df,G8,Am];exact⟨Ui p t h.1,zbq p r h.2⟩
end
abbrev Sb:=Int->Option Y
def FL (σ:Sb) (n:Int) (t:Y):Sb:=λm=>if m=n then some t else σ m
def Uc (η:Int->Y) (σ:Sb):Prop:=∀n t,σ n=some t->η n=AH η t
structure Sol (σ:Sb) (θ:Int->Y):Prop where
 eq:Uc θ σ
 free:∀n,σ n=none->θ n=Ay n
 wf:∀n t,σ n=some t->CL t=true
 down:∀n t,σ n=some t->CD t=9->0<=num t/\num t<n
def Sol.ind {σ:Sb} {θ:Int->Y} (h:Sol σ θ) {P:Int->Prop} (p:∀n,σ n=none->P n) (C:∀n t,σ n=some t->(∀m∈Dc t,P m)->P n):∀n,P n:=by have y:∀(s k:Nat) (n:Int),Fw (θ n)<=s->n.toNat<=k->P n:=by{intro s;induction s with|zero=>intro k n z _;have:=Ng (θ n);omega|succ s r=>{intro k;induction k with|zero=>{intro n z E;cases e:σ n with|none=>exact p n e|some t=>{refine C n t e λm u=>?_;by_cases q:CD t=9;have:=h.down n t e q;omega;have:=sA (θ:=θ) q u;rw[<- h.eq n t e]at this;exact r _ m (by omega) (BO _)}}|succ k A=>{intro n z E;cases e:σ n with|none=>exact p n e|some t=>{refine C n t e λm u=>?_;by_cases q:CD t=9;have G:=h.down n t e q;have B:m=num t:=by{obtain⟨f,a,x,K⟩:=t;simp only[CD]at q;subst q;simpa[Dc,num]using u};have D:=h.eq n t e;rw[Ih q]at D;subst B;exact A _ (by rw[<- D];exact z) (by omega);have:=sA (θ:=θ) q u;rw[<- h.eq n t e]at this;exact r _ m (by omega) (BO _)}}}};intro n;exact y _ _ n (BO _) (BO _)
def Sol.mgu {σ:Sb} {θ η:Int->Y} (h:Sol σ θ) (p:Uc η σ) (n:Int):η n=AH η (θ n):=by refine h.ind (P:=λn=>η n=AH η (θ n)) (λn e=>?_) (λn t e q=>?_) n;rw[h.free n e,De];rw[p n t e,h.eq n t e,LH];exact FJ t q
def Sol.mguT {σ:Sb} {θ η:Int->Y} (h:Sol σ θ) (p:Uc η σ) (t:Y):AH η (AH θ t)=AH η t:=by rw[LH];exact FJ t λm _=>(h.mgu p m).symm
def Sol.range {σ:Sb} {θ:Int->Y} (h:Sol σ θ) (n:Int):∀m∈Dc (θ n),σ m=none:=by refine h.ind (P:=λn=>∀m∈Dc (θ n),σ m=none) (λn e m p=>?_) (λn t e q m p=>?_) n;rw[h.free n e]at p;simp[Ay,Dc]at p;rw[p];exact e;rw[h.eq n t e]at p;obtain⟨k,r,p⟩:=(zfz t).1 p;exact q k r m p
def Sol.wfθ {σ:Sb} {θ:Int->Y} (h:Sol σ θ) (n:Int):CL (θ n)=true:=by refine h.ind (P:=λn=>CL (θ n)=true) (λn e=>by rw[h.free n e];rfl) (λn t e p=>?_) n;rw[h.eq n t e,FJ (θ:=λm=>if CL (θ m)=true then θ m else Ay m) t λm q=>by rw[ae (p m q)]];exact Ui (λm=>by split;assumption;rfl) t (h.wf n t e)
def Sol.free_id {σ:Sb} {θ p:Int->Y} (h:Sol σ θ) (q:∀m,σ m=none->p m=Ay m) (t:Y):AH p (AH θ t)=AH θ t:=by rw[LH];refine FJ t λm _=>?_;rw[FJ (θ:=Ay) (θ m) λk r=>q k (h.range m k r)];exact kI _ (h.wfθ m)
def Sol.unique {σ:Sb} {θ p:Int->Y} (h:Sol σ θ) (q:Sol σ p):θ=p:=by funext n;have u:=h.mgu q.eq n;have r:=h.free_id q.free (Ay n);rw[De]at r;rw[u,r]
def Sol.bind {σ:Sb} {θ:Int->Y} (h:Sol σ θ) {t:Y} (z:σ n=none) (y:CL t=true) (A:CD t=9->0<=num t/\num t<n) (B:n∉Dc (AH θ t)) :
  Sol (FL σ n t) (λm=>AH (λk=>if k=n then AH θ t else Ay k) (θ m)):=by
 have q:AH (λk=>if k=n then AH θ t else Ay k) (AH θ t)=AH θ t:=by
  rw[FJ (θ:=Ay) (AH θ t) λk C=>by
   by_cases e:k=n
   ·exact absurd (e▸C) B
   ·rw[ac e]]
  exact kI _ (Ui h.wfθ t y)
 refine⟨λm u p=>?_,λm r=>?_,λm u p=>?_,λm u p=>?_⟩
 ·simp only[FL]at p;rw[<- LH];by_cases e:m=n
  ·rw[ae e]at p;subst e;cases p;rw[h.free m z,De,ae O,q]
  ·rw[ac e]at p;rw[h.eq m u p]
 ·simp only[FL]at r;by_cases e:m=n
  ·rw[ae e]at r;cases r
  ·rw[ac e]at r;rw[h.free m r,De,ac e]
 ·simp only[FL]at p;by_cases e:m=n
  ·rw[ae e]at p;cases p;exact y
  ·rw[ac e]at p;exact h.wf m u p
 ·simp only[FL]at p;by_cases e:m=n
  ·rw[ae e]at p;cases p;rw[e];exact A
  ·rw[ac e]at p;exact h.down m u p
def zit {η:Int->Y} {σ:Sb} {t:Y} (q:σ n=none):Uc η (FL σ n t)↔Uc η σ/\η n=AH η t:=by constructor;intro h;refine⟨λm u p=>h m u ?_,h n t (by simp[FL])⟩;simp only[FL];rw[ac (λe=>by rw[e,q]at p;cases p)];exact p;rintro ⟨r,y⟩ m u p;simp only[FL]at p;by_cases e:m=n;rw[ae e]at p;cases p;rw[e];exact y;rw[ac e]at p;exact r m u p
def Sol.never {σ:Sb} {θ η:Int->Y} (h:Sol σ θ) (p:Uc η σ) {t:Y} (r:CD t≠9) (u:n∈Dc (AH θ t)):η n≠AH η t:=by intro e;have y:=h.mguT p t;have q:CD (AH θ t)≠9:=by{let⟨f,m,x,_,z,A⟩:=kH (θ:=θ) r;rw[A];exact z};have:=sA (θ:=η) q u;rw[y,e]at this;omega
inductive Top (σ:Sb):Y->Y->Prop
 |stop {t:Y}:(CD t=9->σ (num t)=none)->Top σ t t
 |step {t u v:Y}:CD t=9->σ (num t)=some u->Top σ u v->Top σ t v
def Top.end_ {σ:Sb} {t u:Y} (h:Top σ t u):CD u=9->σ (num u)=none:=by induction h with|stop h=>exact h|step _ _ _ p=>{exact p}
def Top.ap {σ:Sb} {η:Int->Y} (p:Uc η σ) {t u:Y} (h:Top σ t u):AH η t=AH η u:=by induction h with|stop _=>rfl|step q r _ y=>{rw[Ih q,p _ _ r,y]}
def Top.wf {σ:Sb} {θ:Int->Y} (p:Sol σ θ) {t u:Y} (h:Top σ t u) (q:CL t=true):CL u=true:=by induction h with|stop _=>exact q|step _ r _ y=>{exact y (p.wf _ _ r)}
def rV {σ:Sb} {θ:Int->Y} (p:Sol σ θ):∀(k:Nat) (t:Y),(CD t=9->(num t).toNat<k)->∃u,Top σ t u
 |0,t,h=>⟨t,.stop λq=>absurd (h q) (by omega)⟩
 |k+1,t,h=>by by_cases q:CD t=9;cases e:σ (num t)with|none=>exact⟨t,.stop λ_=>e⟩|some u=>{let⟨v,r⟩:=rV p k u λy=>by{have:=p.down _ u e y;have:=h q;omega};exact⟨v,.step q e r⟩};exact⟨t,.stop λh=>absurd h q⟩
def QR {σ:Sb} {θ:Int->Y} (h:Sol σ θ) (t:Y):∃u,Top σ t u:=rV h ((num t).toNat+1) t λ_=>by omega
def rU {σ:Sb} {t u v:Y} (h:Top σ t u) (r:Top σ t v):u=v:=by induction h with|stop h=>{cases r with|stop=>rfl|step y p _=>{rw[h y]at p;cases p}}|step y p _ z=>{cases r with|stop h=>rw[h y]at p;cases p|step _ q r=>{rw[p]at q;cases q;exact z r}}
def cN {σ:Sb} {t u:Y} (h:Top σ t u):Top σ u u:=.stop h.end_
def Occ (σ:Sb) (n:Int) (t:Y):Prop:=∃h,Sol σ h/\n∈Dc (AH h t)
def Sol.occ {σ:Sb} {θ:Int->Y} (h:Sol σ θ) {t:Y}:Occ σ n t↔n∈Dc (AH θ t):=⟨λ⟨_,p,q⟩=>by rw[h.unique p];exact q,λp=>⟨θ,h,p⟩⟩
def txt:Y->Z
 |.mk _ _ x _=>x
def Jb (a b:Y):Prop:=CD a=CD b/\num a=num b/\txt a=txt b/\(Hr a).length=(Hr b).length
def WD (E:Sb->Y->Y->Option Sb->Prop):Sb->L1 Y->L1 Y->Option Sb->Prop
 |σ,[],[],r=>r=some σ
 |σ,a::xs,b::p,r=>(E σ a b none/\r=none)\/∃h,E σ a b (some h)/\WD E h xs p r
 |_,_,_,_=>False
def Ew (E:Sb->Y->Y->Option Sb->Prop) (σ:Sb) (u v:Y) (r:Option Sb):Prop :=
 (CD u=9/\CD v=9/\num u=num v/\r=some σ) \/
 (CD u=9/\CD v=9/\num u≠num v/\r=some (FL σ (max (num u) (num v)) (Ay (min (num u) (num v))))) \/
 (CD u=9/\CD v≠9/\Occ σ (num u) v/\r=none)\/(CD u=9/\CD v≠9/\¬Occ σ (num u) v/\r=some (FL σ (num u) v)) \/
 (CD u≠9/\CD v=9/\Occ σ (num v) u/\r=none)\/(CD u≠9/\CD v=9/\¬Occ σ (num v) u/\r=some (FL σ (num v) u)) \/
 (CD u≠9/\CD v≠9/\¬Jb u v/\r=none)\/(CD u≠9/\CD v≠9/\Jb u v/\WD E σ (Hr u) (Hr v) r)
def Zc:Nat->Sb->Y->Y->Option Sb->Prop
 |0,_,_,_,_=>False
 |k+1,σ,a,b,r=>∃u v,Top σ a u/\Top σ b v/\Ew (Zc k) σ u v r
def RB {E z:Sb->Y->Y->Option Sb->Prop} (h:∀σ a b r,E σ a b r->z σ a b r):∀{xs ys:L1 Y} {σ:Sb} {r:Option Sb},WD E σ xs ys r->WD z σ xs ys r
 |[],[],_,_,p=>p
 |a::xs,b::ys,σ,r,p=>by rcases p with⟨q,u⟩|⟨y,q,u⟩;exact .inl ⟨h _ _ _ _ q,u⟩;exact .inr ⟨y,h _ _ _ _ q,RB h u⟩
 |[],_::_,_,_,p=>p.elim
 |_::_,[],_,_,p=>p.elim
def qH {E p:Sb->Y->Y->Option Sb->Prop} (h:∀σ a b r,E σ a b r->p σ a b r) {σ:Sb} {u v:Y} {r:Option Sb} (hr:Ew E σ u v r):Ew p σ u v r:=by rcases hr with hr|hr|hr|hr|hr|hr|hr|⟨q,y,z,A⟩;exact .inl hr;exact .inr (.inl hr);exact .inr (.inr (.inl hr));exact .inr (.inr (.inr (.inl hr)));exact .inr (.inr (.inr (.inr (.inl hr))));exact .inr (.inr (.inr (.inr (.inr (.inl hr)))));exact .inr (.inr (.inr (.inr (.inr (.inr (.inl hr))))));exact .inr (.inr (.inr (.inr (.inr (.inr (.inr ⟨q,y,z,RB h A⟩))))))
def iV:∀(k:Nat) (σ:Sb) (a b:Y) (r:Option Sb),Zc k σ a b r->Zc (k+1) σ a b r
 |0,_,_,_,_,h=>h.elim
 |k+1,σ,a,b,r,⟨u,v,p,q,y⟩=>⟨u,v,p,q,qH (iV k) y⟩
def Qv {k:Nat} (h:k<=j) {σ:Sb} {a b:Y} {r:Option Sb} (p:Zc k σ a b r):Zc j σ a b r:=by induction h with|refl=>exact p|step _ q=>{exact iV _ _ _ _ _ q}
def inB (H:Int) (t:Y):Prop:=∀m∈Dc t,0<=m/\m<H
def Dom (H:Int) (σ:Sb):Prop:=∀n t,σ n=some t->(0<=n/\n<H)/\inB H t
def inB.part {t p:Y} (h:inB H t) (q:CD t≠9) (r:p∈Hr t):inB H p:=λm u=>h m (by
 obtain⟨f,n,x,y⟩:=t;simp only[Dc,ac (show¬f=9 from q)];exact PO.2 ⟨p,r,u⟩)
def inB.num {t:Y} (h:inB H t) (p:CD t=9):0<=num t/\num t<H:=h _ (by
 obtain⟨f,n,x,q⟩:=t;simp only[CD]at p;subst p;simp[Dc,Go.Hk.num])
def MD (h:0<=n/\n<H):inB H (Ay n):=λm p=>by
 simp[Ay,Dc]at p;rw[p];exact h
def Top.inB {σ:Sb} (p:Dom H σ) {t u:Y} (h:Top σ t u) (q:Go.Hk.inB H t):Go.Hk.inB H u:=by induction h with|stop _=>exact q|step _ r _ y=>{exact y (p _ _ r).2}
def Dom.set {σ:Sb} (p:Dom H σ) {t:Y} (q:0<=n/\n<H) (r:inB H t):Dom H (FL σ n t):=λm u h=>by{simp only[FL]at h;by_cases e:m=n;rw[ae e]at h;cases h;rw[e];exact⟨q,r⟩;rw[ac e]at h;exact p m u h}
def Xz (H:Nat) (σ:Sb):Nat:=((List.range H).filter λi:Nat=>(σ (i:Int)).isNone).length
def YE {α:Type} {p q:α->Bool}:∀{l:L1 α},(∀x∈l,q x=true->p x=true)->(∃x∈l,p x=true/\q x=false)->(l.filter q).length<(l.filter p).length
 |[],_,⟨_,h,_⟩=>by cases h
 |y::r,h,u=>by have D:(r.filter q).length<=(r.filter p).length:=by{clear u;have A:∀x∈r,q x=true->p x=true:=λx u=>h x (by simp[u]);clear h;induction r with|nil=>simp|cons z r E=>{have:=E λx u=>A x (by simp[u]);simp only[nZ];cases e:q z with|true=>rw[A z (by simp) e];simp;omega|false=>{simp only[DN,aw];split<;>simp<;>omega}}};simp only[nZ];obtain⟨x,u,B,C⟩:=u;by_cases e:x=y;subst e;rw[B,C];simp;omega;have:=YE (l:=r) (λx u=>h x (by simp[u])) ⟨x,(Ck.1 u).resolve_left e,B,C⟩;cases G:q y with|true=>rw[h y (by simp) G];simp;omega|false=>{simp only[DN,aw];split<;>simp<;>omega}
def zig {H:Nat} {σ:Sb} {t:Y} (q:σ n=none) (h:0<=n/\n<(H:Int)):Xz H (FL σ n t)<Xz H σ:=by refine YE (λi r p=>?_) ⟨n.toNat,by simp;omega,?_,?_⟩;simp only[FL]at p;split at p;simp at p;exact p;rw[show((n.toNat:Nat):Int)=n by omega,q];rfl;rw[show((n.toNat:Nat):Int)=n by omega];simp[FL]
def zk7 (H:Nat) (σ:Sb) (a b:Y):Option Sb->Prop
 |some h=>(∃q,Sol h q)/\Dom H h/\(h=σ\/Xz H h<Xz H σ)/\∀p,Uc p h↔Uc p σ/\AH p a=AH p b
 |none=>∀p,Uc p σ->AH p a≠AH p b
def zpz (H:Nat) (σ:Sb) (xs ys:L1 Y):Option Sb->Prop
 |some h=>(∃q,Sol h q)/\Dom H h/\(h=σ\/Xz H h<Xz H σ)/\∀p,Uc p h↔Uc p σ/\xs.map (AH p)=ys.map (AH p)
 |none=>∀p,Uc p σ->xs.map (AH p)≠ys.map (AH p)
def iU {H:Nat} {L:Y->Prop} (u:Sb) (p:Nat) (N:∀σ θ a b,Sol σ θ->Dom H σ->Xz H σ<=p->(Xz H σ=p->σ=u/\L a)->CL a=true->CL b=true->inB H a->inB H b->∃k r,Zc k σ a b r/\zk7 H σ a b r) :
  ∀(xs ys:L1 Y) (σ:Sb) (θ:Int->Y),xs.length=ys.length->Sol σ θ->Dom H σ->Xz H σ<=p->(Xz H σ=p->σ=u/\∀a∈xs,L a)->(∀a∈xs,CL a=true/\inB H a)->(∀b∈ys,CL b=true/\inB H b) ->
   ∃k r,WD (Zc k) σ xs ys r/\zpz H σ xs ys r
 |[],[],σ,θ,_,C,D,_,_,_,_=>⟨0,some σ,rfl,⟨θ,C⟩,D,.inl O,λq=>by simp⟩
 |a::xs,b::ys,σ,θ,c,C,D,d,B,E,G=>by
  let⟨k,r,R,S⟩:=N σ θ a b C D d (λe=>⟨(B e).1,(B e).2 a (by simp)⟩) (E a (by simp)).1 (G b (by simp)).1 (E a (by simp)).2 (G b (by simp)).2;cases r with
  |none=>exact⟨k,none,.inl ⟨R,rfl⟩,λq y e=>S q y (by simp at e;exact e.1)⟩
  |some z=>
   obtain⟨⟨K,f⟩,g,g3,T⟩:=S;let⟨j,V,i,W⟩:=iU u p N xs ys z K (by simpa using c) f g (by rcases g3 with rfl|g3<;>omega) (λe=>by
    rcases g3 with rfl|g3
    ·exact⟨(B e).1,λx A=>(B e).2 x (by simp[A])⟩
    ·omega) (λx A=>E x (by simp[A])) (λx A=>G x (by simp[A]))
   refine⟨max k j,V,.inr ⟨z,Qv (Nat.le_max_left _ _) R,RB (λ_ _ _ _ h=>Qv (Nat.le_max_right _ _) h) i⟩,?_⟩;cases V with
   |none=>
    intro q y e;simp only[C0,BP]at e;exact W q ((T q).2 ⟨y,e.1⟩) e.2
   |some l=>
    obtain⟨m,n,q3,o⟩:=W;refine⟨m,n,?_,λq=>?_⟩
    ·rcases q3 with rfl|q3
     ·exact g3
     ·rcases g3 with rfl|g3
      ·exact .inr q3
      ·exact .inr (by omega)
    ·rw[o q,T q,dn];simp only[C0,BP]
def fa:=@eq_comm
def uX (H:Nat):∀(q s:Nat) (σ:Sb) (θ:Int->Y) (a b:Y),Sol σ θ->Dom H σ->Xz H σ<=q->(Xz H σ=q->Fw (AH θ a)<=s)->CL a=true->CL b=true->inB H a->inB H b->∃k r,Zc k σ a b r/\zk7 H σ a b r:=by
 intro q
 induction q using Nat.strongRecOn with
 |ind q V=>
 intro s
 induction s with
 |zero=>
  intro σ θ a b E S hu i m o w F;by_cases e:Xz H σ=q
  ·have:=i e;have:=Ng (AH θ a);omega
  ·exact V (Xz H σ) (by omega) (Fw (AH θ a)) σ θ a b E S (BO _) (λ_=>BO _) m o w F
 |succ s Q=>
  intro σ θ a b E S hu i m o w F;by_cases e:Xz H σ=q
  case neg=>exact V (Xz H σ) (by omega) (Fw (AH θ a)) σ θ a b E S (BO _) (λ_=>BO _) m o w F
  have i:=i e;let⟨u,B⟩:=QR E a;let⟨v,A⟩:=QR E b;have wu:=B.wf E m;have wv:=A.wf E o;have I:=B.inB S w;have J:=A.inB S F;have T:=λ{η} (y:Uc η σ)=>B.ap y;have W:=λ{η} (y:Uc η σ)=>A.ap y;have one:∀{n:Int} {t:Y},σ n=none->0<=n/\n<(H:Int)->CL t=true->(CD t=9->0<=num t/\num t<n)->n∉Dc (AH θ t)->inB H t->(∀η,Uc η σ->(η n=AH η t↔AH η a=AH η b))->zk7 H σ a b (some (FL σ n t)):=λhn hr ht h9 L hi y=>
   ⟨⟨_,E.bind hn ht h9 L⟩,S.set hr hi,.inr (zig hn hr),λη=>by rw[zit hn];exact⟨λ⟨G,K⟩=>⟨G,(y η G).1 K⟩,λ⟨G,K⟩=>⟨G,(y η G).2 K⟩⟩⟩
  by_cases C:CD u=9
  ·have un:=B.end_ C;by_cases D:CD v=9
   ·have P:=A.end_ D;by_cases en:num u=num v
    ·refine⟨1,some σ,⟨u,v,B,A,.inl ⟨C,D,en,rfl⟩⟩,⟨θ,E⟩,S,.inl O,λη=>⟨λh=>⟨h,?_⟩,λh=>h.1⟩⟩;rw[T h,W h,Ih C,Ih D,en]
    ·have bu:=I.num C;have bv:=J.num D;refine⟨1,_,⟨u,v,B,A,.inr (.inl ⟨C,D,en,rfl⟩)⟩,one ?_ (by omega) O (λ_=>by show 0<=min (num u) (num v)/\min (num u) (num v)<max (num u) (num v);omega) ?_ (MD (by omega)) λη y=>?_⟩
     ·rcases nY (num u) (num v)with h|h
      ·rw[nX h];exact P
      ·rw[nW h];exact un
     ·rw[De];have:θ (min (num u) (num v))=Ay (min (num u) (num v)):=by
       rcases nY (num u) (num v)with h|h
       ·rw[nV h];exact E.free _ un
       ·rw[nU h];exact E.free _ P
      rw[this];simp[Ay,Dc];omega
     ·rw[T y,W y,Ih C,Ih D,De];rcases nY (num u) (num v)with h|h
      ·rw[nX h,nV h];exact fa
      ·rw[nW h,nU h]
   ·by_cases L:Occ σ (num u) v
    ·refine⟨1,none,⟨u,v,B,A,.inr (.inr (.inl ⟨C,D,L,rfl⟩))⟩,λη y e=>?_⟩;rw[T y,W y,Ih C]at e;exact E.never y D (E.occ.1 L) e
    ·refine⟨1,_,⟨u,v,B,A,.inr (.inr (.inr (.inl ⟨C,D,L,rfl⟩)))⟩,one un (I.num C) wv (λh=>absurd h D) (λh=>L (E.occ.2 h)) J λη y=>?_⟩;rw[T y,W y,Ih C]
  ·by_cases D:CD v=9
   ·have P:=A.end_ D;by_cases L:Occ σ (num v) u
    ·refine⟨1,none,⟨u,v,B,A,.inr (.inr (.inr (.inr (.inl ⟨C,D,L,rfl⟩))))⟩,λη y e=>?_⟩;rw[T y,W y,Ih D]at e;exact E.never y C (E.occ.1 L) e.symm
    ·refine⟨1,_,⟨u,v,B,A,.inr (.inr (.inr (.inr (.inr (.inl ⟨C,D,L,rfl⟩)))))⟩,one P (J.num D) wu (λh=>absurd h C) (λh=>L (E.occ.2 h)) I λη y=>?_⟩;rw[T y,W y,Ih D];exact fa
   ·let⟨f,n,x,e1,hf,e2⟩:=kH (θ:=θ) C;have R:∀η,Uc η σ->(AH η a=AH η b↔(CD u=CD v/\num u=num v/\txt u=txt v)/\(Hr u).map (AH η)=(Hr v).map (AH η)):=λη y=>by
     rw[T y,W y];obtain⟨f1,n1,x1,ps1⟩:=u;obtain⟨f2,n2,x2,ps2⟩:=v;simp only[AH,ac (show¬f1=9 from C),ac (show¬f2=9 from D),LI,CD,num,Hr,txt,Y.mk.injEq];grind
    by_cases c:Jb u v
    ·have au':Fw (AH θ u)<=s+1:=by rw[<- T E.eq];exact i
     let⟨k,r,G,K⟩:=iU (L:=λp=>Fw (AH θ p)<=s) σ q (λN d a' b' s' z u' l' wa wb j l=>by
      by_cases e':Xz H N=q
      ·obtain⟨rfl,hL⟩:=l' e';obtain rfl:=s'.unique E;exact Q N d a' b' s' z u' (λ_=>hL) wa wb j l
      ·exact V (Xz H N) (by omega) (Fw (AH d a')) N d a' b' s' z (BO _) (λ_=>BO _) wa wb j l) (Hr u) (Hr v) σ θ c.2.2.2 E S hu (λ_=>⟨rfl,λp g=>by have:=rZ (θ:=θ) C g;omega⟩)
      (λp g=>⟨G7 wu p g,I.part C g⟩) (λp g=>⟨G7 wv p g,J.part D g⟩)
     refine⟨k+1,r,⟨u,v,B,A,.inr (.inr (.inr (.inr (.inr (.inr (.inr ⟨C,D,c,G⟩))))))⟩,?_⟩;cases r with
     |none=>exact λη y e=>K η y ((R η y).1 e).2
     |some N=>
      obtain⟨q1,q2,q3,q4⟩:=K;exact⟨q1,q2,q3,λη=>by rw[q4 η];exact⟨λ⟨G,K⟩=>⟨G,(R η G).2 ⟨⟨c.1,c.2.1,c.2.2.1⟩,K⟩⟩,λ⟨G,K⟩=>⟨G,((R η G).1 K).2⟩⟩⟩
    ·refine⟨1,none,⟨u,v,B,A,.inr (.inr (.inr (.inr (.inr (.inr (.inl ⟨C,D,c,rfl⟩))))))⟩,λη y e=>c ?_⟩;obtain⟨⟨G,K,h3⟩,h4⟩:=(R η y).1 e;exact⟨G,K,h3,by simpa using af List.length h4⟩
def Agr (k:Int) (η η':Int->Y):Prop:=∀n,n<k->η' n=η n
def Agr.refl (k:Int) (η:Int->Y):Agr k η η:=λ_ _=>rfl
def Agr.trans {a b c:Int->Y} (h:Agr k a b) (p:Agr A b c) (r:k<=A):Agr k a c:=λn q=>(p n (by omega)).trans (h n q)
def Agr.ap {η η':Int->Y} (h:Agr k η η') {t:Y} (p:inB k t):AH η' t=AH η t:=FJ t λm q=>h m (p m q).2
def Agr.slv {η η':Int->Y} (h:Agr k η η') {σ:Sb} (q:Dom k σ) (r:Uc η σ):Uc η' σ:=λn t p=>by
 let⟨⟨_,u⟩,y⟩:=q n t p;rw[h n u,h.ap y,r n t p]
def inB.mono {t:Y} (h:inB k t) (q:k<=k'):inB k' t:=λm p=>⟨(h m p).1,by have:=(h m p).2;omega⟩
def Dom.mono {σ:Sb} (h:Dom k σ) (p:k<=k'):Dom k' σ:=λn t q=>by
 let⟨⟨r,y⟩,u⟩:=h n t q;exact⟨⟨r,by omega⟩,u.mono p⟩
def StOk (k:Int) (σ:Sb):Prop:=0<=k/\Dom k σ/\∃h,Sol σ h
def StpR (k:Int) (σ:Sb) (k':Int) (p:Sb) {β:Type} (v:(Int->Y)->β) (G:(Int->Y)->β->Prop):Prop :=
 k<=k'/\StOk k' p/\(∀h,Uc h p->Uc h σ/\G h (v h))/\∀h w,Uc h σ->G h w->∃q,Agr k h q/\Uc q p/\v q=w
def StpN (σ:Sb) {β:Type} (G:(Int->Y)->β->Prop):Prop:=∀h w,Uc h σ->¬G h w
def StpR.bind {σ u z:Sb} {v:(Int->Y)->β} {E:(Int->Y)->r} {K:(Int->Y)->y} {G:(Int->Y)->β->Prop} {L:(Int->Y)->r->Prop} {N:(Int->Y)->y->Prop} (T:StpR k σ A u E L) (V:StpR A u B z K N) (W:∀η,L η (E η)->N η (K η)->G η (v η)) (a:∀η w,G η w->∃C,L η C/\∀p,Agr k η p->E p=C->∃D,N p D/\∀q,Agr A p q->Agr k η q->K q=D->v q=w):StpR k σ B z v G:=by obtain⟨S,x,b,c⟩:=T;obtain⟨F,d,e,f⟩:=V;refine⟨by omega,d,λη h=>?_,λη w R g=>?_⟩;let⟨i,j⟩:=e η h;let⟨d1,d2⟩:=b η i;exact⟨d1,W η d2 j⟩;let⟨C,l,m⟩:=a η w g;let⟨p,f1,f2,f3⟩:=c η C R l;let⟨D,n,o⟩:=m p f1 f3;let⟨q,l1,s,t⟩:=f p D f2 n;exact⟨q,f1.trans l1 S,s,o q l1 (f1.trans l1 S) t⟩
def StpN.first {σ:Sb} {G:(Int->Y)->β->Prop} {u:(Int->Y)->r->Prop} (y:StpN σ u) (z:∀η w,G η w->∃p,u η p):StpN σ G:=λη w q A=>by
 let⟨p,h⟩:=z η w A;exact y η p q h
def StpN.second {σ p:Sb} {B:(Int->Y)->r} {G:(Int->Y)->β->Prop} {C:(Int->Y)->r->Prop} {D:(Int->Y)->y->Prop} (E:StpR k σ A p B C) (K:StpN p D) (L:∀η w,G η w->∃q,C η q/\∀h,Agr k η h->B h=q->∃u,D h u):StpN σ G:=λη w z N=>by
 let⟨q,R,S⟩:=L η w N;let⟨h,f1,f2,f3⟩:=E.2.2.2 η q z R;let⟨u,g⟩:=S h f1 f3;exact K h u f2 g
def StpR.weaken {σ p:Sb} {q:Type} {v:(Int->Y)->β} {v':(Int->Y)->q} {G:(Int->Y)->β->Prop} {r:(Int->Y)->q->Prop} (h:StpR k σ A p v G) (z:∀η,G η (v η)->r η (v' η)) (B:∀η w',r η w'->∃w,G η w/\∀η',Agr k η η'->v η'=w->v' η'=w'):StpR k σ A p v' r:=by obtain⟨C,D,y,E⟩:=h;refine⟨C,D,λη h=>⟨(y η h).1,z η (y η h).2⟩,λη w' u K=>?_⟩;let⟨w,L,N⟩:=B η w' K;let⟨η',f1,f2,f3⟩:=E η w u L;exact⟨η',f1,f2,N η' f1 f3⟩
def Ni {σ:Sb} (h:StOk k σ) {v:(Int->Y)->β} {G:(Int->Y)->β->Prop} (q:∀η w,G η w↔w=v η):StpR k σ k σ v G:=⟨M0 _,h,λη p=>⟨p,(q η _).2 O⟩,λη w p r=>⟨η,Agr.refl _ _,p,((q η w).1 r).symm⟩⟩
def QY {σ:Sb} (h:StOk k σ):StpR k σ (k+1) σ (λη=>η k) (λ_ _=>True):=by refine⟨by omega,⟨by have:=h.1;omega,h.2.1.mono (by omega),h.2.2⟩,λη p=>⟨p,ab⟩,λη w p _=>?_⟩;have q:Agr k η (λn=>if n=k then w else η n):=λn r=>by{simp only;rw[ac (by omega)]};exact⟨_,q,q.slv h.2.1 p,by simp⟩
def zc9 {σ:Sb} {a b:Y} (h:StOk k σ) (K:CL a=true) (L:CL b=true) (y:inB k a) (z:inB k b) :
  ∃n r,Zc n σ a b r/\match r with
   |some u=>StpR k σ k u (λ_=>()) (λp _=>AH p a=AH p b)
   |none=>StpN σ (β:=Unit) (λp _=>AH p a=AH p b):=by
 obtain⟨N,A,B,R⟩:=h;have C:((k.toNat:Nat):Int)=k:=by omega
 rw[<- C]at A y z;let⟨n,r,S,D⟩:=uX k.toNat (Xz k.toNat σ) (Fw (AH B a)) σ B a b R A (BO _) (λ_=>BO _) K L y z;refine⟨n,r,S,?_⟩;cases r with
 |none=>exact λp _ q=>D p q
 |some u=>
  obtain⟨T,E,W,G⟩:=D;rw[C]at E;exact⟨M0 _,⟨N,E,T⟩,λp q=>(G p).1 q,λp _ q V=>⟨p,Agr.refl _ _,(G p).2 ⟨q,V⟩,rfl⟩⟩
def Bk:Y:=.mk 1 0 [] []
def C1:Y:=.mk 2 0 [] []
def E2:Y:=.mk 3 0 [] []
def Bz (a b:Y):Y:=.mk 4 0 [] [a,b]
def KK (s:Int) (a:Y):Y:=.mk s 0 [] [a]
def BJ (x:Z):Y:=.mk 8 0 x []
abbrev Ax:=L1 (Z×Y)
def JP:Ax->Z->Option Y
 |[],_=>none
 |(y,t)::r,x=>match JP r x with
  |some u=>some u
  |none=>if y=x then some t else none
def T7:L1 Fd->Z->Option Y
 |[],_=>none
 |f::r,x=>if f.name=x then some (Bz f.from_ f.to_)else T7 r x
def CG (m:Md) (Γ:Ax) (x:Z):Option Y:=match JP Γ x with
 |some t=>some t
 |none=>T7 m.funs x
def RG:L1 Cd->Z->Option Cd
 |[],_=>none
 |c::r,x=>if c.name=x then some c else RG r x
def Hm:L1 Dt->Z->Option (Cd×Z)
 |[],_=>none
 |d::r,x=>match RG d.cons x with
  |some c=>some (c,d.name)
  |none=>Hm r x
mutual
def HJ (m:Md):Y->Y->Ax->Ax->Prop
 |.mk f _ x q,τ,p,h=>
  if f=2 then h=p++[(x,τ)]
  else if f=3 then τ=Bk/\h=p
  else if f=4 then τ=C1/\h=p
  else if f=5 then τ=E2/\h=p
  else if f=6 then ∃c d,Hm m.datas x=some (c,d)/\c.args.length=q.length/\τ=BJ d/\O1 m q c.args p h
  else h=p
def O1 (m:Md):L1 Y->L1 Y->Ax->Ax->Prop
 |[],[],u,h=>h=u
 |p::y,t::q,u,h=>∃r,HJ m p t u r/\O1 m y q r h
 |_,_,_,_=>False
end
def Kf (m:Md) (τ:Y) (Γ:Ax):L1 Y->L1 Ax->Prop
 |[],l=>l=[]
 |p::q,l=>∃h l1,HJ m p τ Γ h/\Kf m τ Γ q l1/\l=h::l1
def Bc (m:Md) (Γ:Ax) (op:Int) (x:Z) (ps:L1 Y) (kids:L1 (Ax×Y)) (τ:Y) (S:L1 Y):Prop :=
 if op=1\/op=25 then kids=[]/\τ=Bk/\S=[]
 else if op=2 then kids=[]/\τ=C1/\S=[]
 else if op=3\/op=28 then kids=[]/\τ=E2/\S=[]
 else if op=4 then kids=[]/\CG m Γ x=some τ/\S=[]
 else if op=5 then ∃a b,kids=[(Γ++[(x,a)],b)]/\τ=Bz a b/\S=[]
 else if op=6 then ∃a,kids=[(Γ,Bz a τ),(Γ,a)]/\S=[]
 else if op=7 then ∃a,kids=[(Γ,a),(Γ++[(x,a)],τ)]/\S=[]
 else if op=8 then kids=[(Γ,C1),(Γ,τ),(Γ,τ)]/\S=[]
 else if op=9\/op=10\/op=11 then kids=[(Γ,Bk),(Γ,Bk)]/\τ=Bk/\S=[]
 else if op=12 then kids=[(Γ,Bk),(Γ,Bk)]/\τ=C1/\S=[]
 else if op=13 then ∃a,kids=[(Γ,a),(Γ,a)]/\τ=C1/\S=[a]
 else if op=14 then ∃c d,Hm m.datas x=some (c,d)/\kids=c.args.map (λt=>(Γ,t))/\τ=BJ d/\S=[]
 else if op=15 then ∃a l,Kf m a Γ ps l/\kids=(Γ,a)::l.map (λh=>(h,τ))/\S=[]
 else if op=16 then ∃a,kids=[(Γ,a)]/\τ=KK 5 a/\S=[]
 else if op=17 then kids=[(Γ,KK 5 τ)]/\S=[]
 else if op=18 then ∃a,kids=[(Γ,KK 5 a),(Γ,a)]/\τ=E2/\S=[]
 else if op=19 then ∃a,kids=[(Γ,Bz E2 a)]/\τ=KK 7 a/\S=[]
 else if op=20 then kids=[(Γ,KK 7 τ)]/\S=[]
 else if op=21 then ∃a,kids=[]/\τ=KK 6 a/\S=[]
 else if op=22 then ∃a,kids=[(Γ,KK 6 a),(Γ,a)]/\τ=E2/\S=[]
 else if op=23 then kids=[(Γ,KK 6 τ)]/\S=[]
 else if op=24 then kids=[(Γ,Bk)]/\τ=E2/\S=[]
 else if op=26 then kids=[(Γ,Bk)]/\τ=Bk/\S=[]
 else if op=27 then kids=[(Γ++[(x,Bz τ Bk)],Bk)]/\S=[]
 else False
mutual
def Cv (m:Md):Tm->Ax->Y->L1 Y->Prop
 |.mk q _ x r u,y,τ,S=>∃h S1 p,Bc m y q x u h τ p/\DR m r h S1/\S=S1++p
def DR (m:Md):L1 Tm->L1 (Ax×Y)->L1 Y->Prop
 |[],[],S=>S=[]
 |t::q,k::p,S=>∃S1 h,Cv m t k.1 k.2 S1/\DR m q p h/\S=S1++h
 |_,_,_=>False
end
def GR (η:Int->Y) (Γ:Ax):Ax:=Γ.map λp=>(p.1,AH η p.2)
def Iy (η:Int->Y) (l:L1 (Ax×Y)):L1 (Ax×Y):=l.map λp=>(GR η p.1,AH η p.2)
def EnvOk (k:Int) (Γ:Ax):Prop:=∀p∈Γ,CL p.2=true/\inB k p.2
def TysOk (k:Int) (l:L1 Y):Prop:=∀t∈l,CL t=true/\inB k t
def KidsOk (k:Int) (l:L1 (Ax×Y)):Prop:=∀p∈l,EnvOk k p.1/\CL p.2=true/\inB k p.2
def EnvOk.mono {Γ:Ax} (h:EnvOk k Γ) (r:k<=k'):EnvOk k' Γ:=λp q=>⟨(h p q).1,(h p q).2.mono r⟩
def TysOk.mono {l:L1 Y} (h:TysOk k l) (r:k<=k'):TysOk k' l:=λp q=>⟨(h p q).1,(h p q).2.mono r⟩
abbrev K2:=L1 (Ax×Y)
def KidsOk.mono {l:K2} (h:KidsOk k l) (r:k<=k'):KidsOk k' l:=λp q=>⟨(h p q).1.mono r,(h p q).2.1,(h p q).2.2.mono r⟩
def TysOk.append {l r:L1 Y} (h:TysOk k l) (p:TysOk k r):TysOk k (l++r):=λt q=>(B2.1 q).elim (h t) (p t)
def EnvOk.add {Γ:Ax} {x:Z} {t:Y} (h:EnvOk k Γ) (q:CL t=true) (r:inB k t):EnvOk k (Γ++[(x,t)]):=λp hp=>by{rcases B2.1 hp with hp|hp;exact h p hp;rw[AL.1 hp];exact⟨q,r⟩}
def Agr.env {η η':Int->Y} (h:Agr k η η') {Γ:Ax} (q:EnvOk k Γ):GR η' Γ=GR η Γ:=Kn λp r=>by rw[h.ap (q p r).2]
def Agr.tys {η η':Int->Y} (h:Agr k η η') {l:L1 Y} (q:TysOk k l):l.map (AH η')=l.map (AH η):=Kn λp r=>h.ap (q p r).2
def Agr.kids {η η':Int->Y} (h:Agr k η η') {l:K2} (q:KidsOk k l):Iy η' l=Iy η l:=Kn λp r=>by rw[h.env (q p r).1,h.ap (q p r).2.2]
def IC (η:Int->Y) (Γ:Ax) (x:Z) (t:Y):GR η (Γ++[(x,t)])=GR η Γ++[(x,AH η t)]:=by simp[GR]
def CK {t:Y} (h:Dc t=[]) (k:Int):inB k t:=λm p=>by rw[h]at p;cases p
def IV {t:Y} (h:Dc t=[]) (q:CL t=true) (η:Int->Y):AH η t=t:=by rw[FJ (θ:=Ay) t λm p=>by rw[h]at p;cases p];exact kI t q
def Cm (m:Md) (Γ:Ax) (t:Tm) (k:Int) (σ:Sb):Option (Y×Int×Sb×L1 Y)->Prop
 |some (τ,k',p,N)=>StpR k σ k' p (λh=>(AH h τ,N.map (AH h))) (λh w=>Cv m t (GR h Γ) w.1 w.2)/\CL τ=true/\inB k' τ/\TysOk k' N
 |none=>StpN σ (β:=Y×L1 Y) (λh w=>Cv m t (GR h Γ) w.1 w.2)
def Kg (m:Md) (q:L1 Tm) (kids:L1 (Ax×Y)) (k:Int) (σ:Sb):Option (Int×Sb×L1 Y)->Prop
 |some (k',p,N)=>StpR k σ k' p (λh=>N.map (AH h)) (λh w=>DR m q (Iy h kids) w)/\TysOk k' N
 |none=>StpN σ (β:=L1 Y) (λh w=>DR m q (Iy h kids) w)
def zfj {m:Md} {σ:Sb} (h:StOk k σ):Kg m [] [] k σ (some (k,σ,[])):=⟨Ni h λq w=>by simp[Iy,DR],λt p=>by cases p⟩
def yX {m:Md} {q:L1 Tm} {kids:K2} {σ:Sb} (h:q.length≠kids.length):Kg m q kids k σ none:=by intro A w _ p;have:∀(q:L1 Tm) (l:K2) (S:L1 Y),DR m q l S->q.length=l.length:=by{intro q;induction q with|nil=>{intro l S h;cases l with|nil=>rfl|cons a r=>{exact h.elim}}|cons t r u=>{intro l S h;cases l with|nil=>exact h.elim|cons a l=>{obtain⟨S1,y,_,z,_⟩:=h;simp[u l y z]}}};exact h (by simpa[Iy]using this _ _ _ p)
def Tx {m:Md} {t:Tm} {q:L1 Tm} {Γ:Ax} {p:Y} {kids:K2} {σ:Sb} (h:Cm m Γ t k σ none):Kg m (t::q) ((Γ,p)::kids) k σ none:=by refine StpN.first h λy w r=>?_;obtain⟨S1,z,u,_⟩:=r;exact⟨(_,S1),u⟩
def aK {m:Md} {t:Tm} {q:L1 Tm} {Γ:Ax} {p τ:Y} {kids:K2} {σ r:Sb} {z:L1 Y} (h:Cm m Γ t k σ (some (τ,A,r,z))) (B:inB k p) (C:StpN r (β:=Unit) (λη _=>AH η τ=AH η p)):Kg m (t::q) ((Γ,p)::kids) k σ none:=by refine StpN.second h.1 C λη w u=>?_;obtain⟨S1,K,D,_⟩:=u;refine⟨(AH η p,S1),D,λE G y=>⟨(),?_⟩⟩;simp only[AN]at y;rw[y.1,G.ap B]
abbrev S4:=Option (Int×Sb×L1 Y)
def Yy {m:Md} {t:Tm} {q:L1 Tm} {Γ:Ax} {u τ:Y} {kids:K2} {σ D y:Sb} {L:L1 Y} {r:S4} (c:KidsOk k ((Γ,u)::kids)) (h:Cm m Γ t k σ (some (τ,A,D,L))) (i:StpR A D A y (λ_=>()) (λη _=>AH η τ=AH η u)) (d:Kg m q kids A y r):Kg m (t::q) ((Γ,u)::kids) k σ (r.map λx=>(x.1,x.2.1,L++x.2.2)):=by obtain⟨e,v,F,N⟩:=h;have j:=e.1;have l:=(c (Γ,u) (by simp)).2.2;have E:KidsOk k kids:=λp n=>c p (by simp[n]);have f:StpR k σ A y (λη=>L.map (AH η)) (λη w=>Cv m t (GR η Γ) (AH η u) w):=by{refine e.bind i (λη z B=>by rw[<- B];exact z) λη w R=>⟨(AH η u,w),R,λG K C=>⟨(),?_,λS T V _=>?_⟩⟩;simp only[AN]at C;rw[C.1,K.ap l];simp only[AN]at C;rw[T.tys N,C.2]};cases r with|none=>refine StpN.second f d λη w W=>?_;obtain⟨S1,a,z,B,_⟩:=W;exact⟨S1,z,λG K _=>⟨a,by rw[K.kids E];exact B⟩⟩|some x=>{obtain⟨H,o,I⟩:=x;obtain⟨g,s⟩:=d;refine⟨f.bind g (λη z B=>?_) λη w R=>?_,(N.mono g.1).append s⟩;simp only[Cy];exact⟨_,_,z,B,rfl⟩;obtain⟨S1,a,z,B,rfl⟩:=R;refine⟨S1,z,λG K C=>⟨a,by rw[K.kids E];exact B,λS T V b=>?_⟩⟩;simp only[Cy];rw[T.tys N,C,b]}
def zob (m:Md) (Γ:Ax) (op:Int) (x:Z) (ps:L1 Y) (k A:Int) (kids:L1 (Ax×Y)) (τ:Y) (S:L1 Y):Prop :=
 (∀p,Bc m (GR p Γ) op x ps (Iy p kids) (AH p τ) (S.map (AH p)))/\∀p K q r,Bc m (GR p Γ) op x ps K q r->∃f:Int->Y,∀h,Agr k p h->(∀n,k<=n->n<A->h n=f n)->Iy h kids=K/\AH h τ=q/\S.map (AH h)=r
def eA {σ:Sb} (h:StOk k σ) (n:Nat):StpR k σ (k+n) σ (λη (i:Int)=>if k<=i/\i<k+n then η i else Ay 0) (λ_ (f:Int->Y)=>∀i,¬(k<=i/\i<k+n)->f i=Ay 0):=by refine⟨by omega,⟨by have:=h.1;omega,h.2.1.mono (by omega),h.2.2⟩,λη p=>⟨p,λi q=>by simp only;rw[ac q]⟩,λη f p u=>?_⟩;have r:Agr k η (λi=>if k<=i/\i<k+n then f i else η i):=λi q=>by{simp only;rw[ac (by omega)]};refine⟨_,r,r.slv h.2.1 p,funext λi=>?_⟩;by_cases e:k<=i/\i<k+n;simp only[ae e];simp only[ac e];exact(u i e).symm
def VC {m:Md} {Γ:Ax} {op:Int} {x:Z} {ks:L1 Tm} {ps:L1 Y} {σ:Sb} {kids:K2} {τ:Y} {S:L1 Y} {r:S4} (h:StOk k σ) (d:zob m Γ op x ps k (k+j) kids τ S) (hk:KidsOk (k+j) kids) (e:CL τ=true) (W:inB (k+j) τ) (a:TysOk (k+j) S) (b:Kg m ks kids (k+j) σ r):Cm m Γ (.mk op n x ks ps) k σ (r.map λy=>(τ,y.1,y.2.1,y.2.2++S)):=by have C:=eA h j;obtain⟨g,l⟩:=d;have z:∀u (w:Y×L1 Y),Cv m (.mk op n x ks ps) (GR u Γ) w.1 w.2->∃f:Int->Y,(∀i,¬(k<=i/\i<k+j)->f i=Ay 0)/\∀p,Agr k u p->(λi:Int=>if k<=i/\i<k+j then p i else Ay 0)=f->∃S1,DR m ks (Iy p kids) S1/\AH p τ=w.1/\S1++S.map (AH p)=w.2:=by{intro u w D;obtain⟨K,S1,o,s,t,v⟩:=D;let⟨f,C⟩:=l u K w.1 o s;refine⟨λi=>if k<=i/\i<k+j then f i else Ay 0,λi F=>by simp only;rw[ac F],λp A B=>?_⟩;let⟨E,G,L⟩:=C p A λi N R=>by{have:=congrFun B i;simp only[ae (And.intro N R)]at this;exact this};exact⟨S1,by rw[E];exact t,G,by rw[L,v]⟩};cases r with|none=>refine StpN.second C b λu w D=>?_;let⟨f,f1,f2⟩:=z u w D;exact⟨f,f1,λp A B=>let⟨S1,q,_⟩:=f2 p A B;⟨S1,q⟩⟩|some y=>{obtain⟨k3,H,N3⟩:=y;obtain⟨T,I⟩:=b;refine⟨C.bind T (λu _ J=>?_) λu w P=>?_,e,W.mono T.1,I.append (a.mono T.1)⟩;simp only[Cy];exact⟨_,_,_,g u,J,rfl⟩;let⟨f,f1,f2⟩:=z u w P;refine⟨f,f1,λp A B=>?_⟩;let⟨S1,E,G,L⟩:=f2 p A B;refine⟨S1,E,λQ c _ V=>?_⟩;simp only[Cy];rw[c.ap W,G,V,c.tys a,L]}
def FK (m:Md):Prop:=(∀f∈m.funs,Dc (Bz f.from_ f.to_)=[]/\CL (Bz f.from_ f.to_)=true)/\∀d∈m.datas,∀c∈d.cons,∀t∈c.args,Dc t=[]/\CL t=true
def ze4 (η:Int->Y):∀(Γ:Ax) (x:Z),JP (GR η Γ) x=(JP Γ x).map (AH η)
 |[],x=>rfl
 |(y,t)::r,x=>by simp only[GR,C0,JP];rw[show r.map (λp=>(p.1,AH η p.2))=GR η r from rfl,ze4 η r x];cases JP r x with|some u=>rfl|none=>{simp only[ZZ];split<;>rfl}
def VO:∀{l:L1 Fd} {x:Z} {t:Y},T7 l x=some t->∃f∈l,t=Bz f.from_ f.to_
 |f::r,x,t,h=>by simp only[T7]at h;split at h;cases h;exact⟨f,by simp,rfl⟩;let⟨g,p,q⟩:=VO h;exact⟨g,by simp[p],q⟩
def Vx {m:Md} (h:FK m) (η:Int->Y) (Γ:Ax) (x:Z):CG m (GR η Γ) x=(CG m Γ x).map (AH η):=by simp only[CG,ze4];cases JP Γ x with|some t=>rfl|none=>{simp only[ZZ];cases e:T7 m.funs x with|none=>rfl|some t=>{obtain⟨f,p,rfl⟩:=VO e;simp only[HX,IV (h.1 f p).1 (h.1 f p).2]}}
def ze3 {k:Int}:∀{Γ:Ax} {x:Z} {t:Y},EnvOk k Γ->JP Γ x=some t->CL t=true/\inB k t
 |(y,u)::r,x,t,h,q=>by simp only[JP]at q;cases e:JP r x with|some v=>rw[e]at q;cases q;exact ze3 (λp z=>h p (by simp[z])) e|none=>{rw[e]at q;simp only at q;split at q;cases q;exact h (y,u) (by simp);cases q}
def ze1 {m:Md} (q:FK m) {Γ:Ax} {x:Z} {t:Y} (h:EnvOk k Γ) (p:CG m Γ x=some t):CL t=true/\inB k t:=by simp only[CG]at p;cases e:JP Γ x with|some u=>rw[e]at p;cases p;exact ze3 h e|none=>{rw[e]at p;obtain⟨f,r,rfl⟩:=VO p;exact⟨(q.1 f r).2,CK (q.1 f r).1 k⟩}
def jK:∀{l:L1 Cd} {x:Z} {c:Cd},RG l x=some c->c∈l
 |c::r,x,d,h=>by simp only[RG]at h;split at h;cases h;simp;exact Gr _ (jK h)
def vH:∀{l:L1 Dt} {x:Z} {c:Cd} {y:Z},Hm l x=some (c,y)->∃d∈l,c∈d.cons
 |d::r,x,c,y,h=>by simp only[Hm]at h;cases e:RG d.cons x with|some u=>rw[e]at h;cases h;exact⟨d,by simp,jK e⟩|none=>{rw[e]at h;let⟨z,p,q⟩:=vH h;exact⟨z,by simp[p],q⟩}
def KX {m:Md} (p:FK m) {x:Z} {c:Cd} {y:Z} (h:Hm m.datas x=some (c,y)):∀t∈c.args,Dc t=[]/\CL t=true:=by let⟨d,q,r⟩:=vH h;exact p.2 d q c r
def B9 (op:Int) (a:Y):L1 Y×Y×L1 Y :=
 if op=1\/op=25 then([],Bk,[])
 else if op=2 then([],C1,[])
 else if op=3\/op=28 then([],E2,[])
 else if op=8 then([C1,a,a],a,[])
 else if op=9\/op=10\/op=11 then([Bk,Bk],Bk,[])
 else if op=12 then([Bk,Bk],C1,[])
 else if op=13 then([a,a],C1,[a])
 else if op=16 then([a],KK 5 a,[])
 else if op=17 then([KK 5 a],a,[])
 else if op=18 then([KK 5 a,a],E2,[])
 else if op=19 then([Bz E2 a],KK 7 a,[])
 else if op=20 then([KK 7 a],a,[])
 else if op=21 then([],KK 6 a,[])
 else if op=22 then([KK 6 a,a],E2,[])
 else if op=23 then([KK 6 a],a,[])
 else if op=24 then([Bk],E2,[])
 else([Bk],Bk,[])
def CS (op:Int):Prop:=op=1\/op=25\/op=2\/op=3\/op=28\/op=8\/op=9\/op=10\/op=11\/op=12\/op=13\/op=16\/op=17\/op=18\/op=19\/op=20\/op=21\/op=22\/op=23\/op=24\/op=26
def Db (op:Int):Prop:=op=8\/op=13\/op=16\/op=17\/op=18\/op=19\/op=20\/op=21\/op=22\/op=23
@[simp] theorem ap_kInt (h:Int->Y):AH h Bk=Bk:=by simp[Bk,AH,Df]
@[simp] theorem ap_kBool (h:Int->Y):AH h C1=C1:=by simp[C1,AH,Df]
@[simp] theorem ap_kUnit (h:Int->Y):AH h E2=E2:=by simp[E2,AH,Df]
@[simp] theorem ap_kData (h:Int->Y) (x:Z):AH h (BJ x)=BJ x:=by simp[BJ,AH,Df]
@[simp] theorem ap_kFun (h:Int->Y) (a b:Y):AH h (Bz a b)=Bz (AH h a) (AH h b):=by simp[Bz,AH,Df]
def rJ (η:Int->Y) (s:Int) (h:s≠9) (a:Y):AH η (KK s a)=KK s (AH η a):=by simp[KK,AH,Df,h]
@[simp] theorem ap_k5 (η:Int->Y) (a:Y):AH η (KK 5 a)=KK 5 (AH η a):=rJ η 5 (by decide) a
@[simp] theorem ap_k6 (η:Int->Y) (a:Y):AH η (KK 6 a)=KK 6 (AH η a):=rJ η 6 (by decide) a
@[simp] theorem ap_k7 (η:Int->Y) (a:Y):AH η (KK 7 a)=KK 7 (AH η a):=rJ η 7 (by decide) a
@[simp] theorem ap_hole' (η:Int->Y) (n:Int):AH η (Ay n)=η n:=De η n
def zcl {m:Md} {Γ:Ax} {op:Int} {x:Z} {ps:L1 Y} (h:CS op) (R:Db op->k<A) (G:EnvOk k Γ):zob m Γ op x ps k A ((B9 op (Ay k)).1.map λt=>(Γ,t)) (B9 op (Ay k)).2.1 (B9 op (Ay k)).2.2:=by constructor;{intro D;rcases h with rfl|rfl|rfl|rfl|rfl|rfl|rfl|rfl|rfl|rfl|rfl|rfl|rfl|rfl|rfl|rfl|rfl|rfl|rfl|rfl|rfl<;>simp[Bc,B9,Iy]<;>first|exact⟨_,rfl,rfl⟩|exact⟨_,rfl⟩};intro D K z E q;have B:∀p,Agr k D p->GR p Γ=GR D Γ:=λp r=>r.env G;have C:∀(w:Y),Db op->(∀p,Agr k D p->p k=w->Iy p ((B9 op (Ay k)).1.map λt=>(Γ,t))=K/\AH p (B9 op (Ay k)).2.1=z/\(B9 op (Ay k)).2.2.map (AH p)=E)->∃f:Int->Y,∀p,Agr k D p->(∀n,k<=n->n<A->p n=f n)->Iy p ((B9 op (Ay k)).1.map λt=>(Γ,t))=K/\AH p (B9 op (Ay k)).2.1=z/\(B9 op (Ay k)).2.2.map (AH p)=E:=λw L N=> ⟨λ_=>w,λp r S=>N p r (S k (M0 _) (R L))⟩;have u:(∀p,Agr k D p->Iy p ((B9 op (Ay k)).1.map λt=>(Γ,t))=K/\AH p (B9 op (Ay k)).2.1=z/\(B9 op (Ay k)).2.2.map (AH p)=E)->∃f:Int->Y,∀p,Agr k D p->(∀n,k<=n->n<A->p n=f n)->Iy p ((B9 op (Ay k)).1.map λt=>(Γ,t))=K/\AH p (B9 op (Ay k)).2.1=z/\(B9 op (Ay k)).2.2.map (AH p)=E:=λN=> ⟨λ_=>Ay 0,λp r _=>N p r⟩;rcases h with rfl|rfl|rfl|rfl|rfl|rfl|rfl|rfl|rfl|rfl|rfl|rfl|rfl|rfl|rfl|rfl|rfl|rfl|rfl|rfl|rfl;simp[Bc]at q;obtain⟨rfl,rfl,rfl⟩:=q;exact u λp r=>by{simp[B9,Iy]};simp[Bc]at q;obtain⟨rfl,rfl,rfl⟩:=q;exact u λp r=>by{simp[B9,Iy]};simp[Bc]at q;obtain⟨rfl,rfl,rfl⟩:=q;exact u λp r=>by{simp[B9,Iy]};simp[Bc]at q;obtain⟨rfl,rfl,rfl⟩:=q;exact u λp r=>by{simp[B9,Iy]};simp[Bc]at q;obtain⟨rfl,rfl,rfl⟩:=q;exact u λp r=>by{simp[B9,Iy]};simp[Bc]at q;obtain⟨rfl,rfl⟩:=q;exact C z (by simp[Db]) λp r y=>by{simp[B9,Iy,B p r,y]};simp[Bc]at q;obtain⟨rfl,rfl,rfl⟩:=q;exact u λp r=>by{simp[B9,Iy,B p r]};simp[Bc]at q;obtain⟨rfl,rfl,rfl⟩:=q;exact u λp r=>by{simp[B9,Iy,B p r]};simp[Bc]at q;obtain⟨rfl,rfl,rfl⟩:=q;exact u λp r=>by{simp[B9,Iy,B p r]};simp[Bc]at q;obtain⟨rfl,rfl,rfl⟩:=q;exact u λp r=>by{simp[B9,Iy,B p r]};simp[Bc]at q;obtain⟨a,rfl,rfl,rfl⟩:=q;exact C a (by simp[Db]) λp r y=>by{simp[B9,Iy,B p r,y]};simp[Bc]at q;obtain⟨a,rfl,rfl,rfl⟩:=q;exact C a (by simp[Db]) λp r y=>by{simp[B9,Iy,B p r,y]};simp[Bc]at q;obtain⟨rfl,rfl⟩:=q;exact C z (by simp[Db]) λp r y=>by{simp[B9,Iy,B p r,y]};simp[Bc]at q;obtain⟨⟨a,rfl⟩,rfl,rfl⟩:=q;exact C a (by simp[Db]) λp r y=>by{simp[B9,Iy,B p r,y]};simp[Bc]at q;obtain⟨a,rfl,rfl,rfl⟩:=q;exact C a (by simp[Db]) λp r y=>by{simp[B9,Iy,B p r,y]};simp[Bc]at q;obtain⟨rfl,rfl⟩:=q;exact C z (by simp[Db]) λp r y=>by{simp[B9,Iy,B p r,y]};simp[Bc]at q;obtain⟨rfl,⟨a,rfl⟩,rfl⟩:=q;exact C a (by simp[Db]) λp r y=>by{simp[B9,Iy,B p r,y]};simp[Bc]at q;obtain⟨⟨a,rfl⟩,rfl,rfl⟩:=q;exact C a (by simp[Db]) λp r y=>by{simp[B9,Iy,B p r,y]};simp[Bc]at q;obtain⟨rfl,rfl⟩:=q;exact C z (by simp[Db]) λp r y=>by{simp[B9,Iy,B p r,y]};simp[Bc]at q;obtain⟨rfl,rfl,rfl⟩:=q;exact u λp r=>by{simp[B9,Iy,B p r]};simp[Bc]at q;obtain⟨rfl,rfl,rfl⟩:=q;exact u λp r=>by{simp[B9,Iy,B p r]}
def StpR.lower {σ p:Sb} {v:(Int->Y)->β} {G:(Int->Y)->β->Prop} (h:StpR k0 σ A p v G) (D:k<=k0):StpR k σ A p v G:=by obtain⟨E,u,y,z⟩:=h;refine⟨by omega,u,y,λB w q C=>?_⟩;let⟨r,f1,f2,f3⟩:=z B w q C;exact⟨r,λn K=>f1 n (by omega),f2,f3⟩
def gU {a b:Y} (p:inB k a) (q:inB k b):inB k (Bz a b):=λm h=>by
 simp[Bz,Dc,Dq]at h;exact h.elim (p m) (q m)
def uB (p:s≠9) {a:Y} (q:inB k a):inB k (KK s a):=λm h=>by
 simp[KK,Dc,Dq,p]at h;exact q m h
def rQ {a b:Y} (h:CL a=true) (p:CL b=true):CL (Bz a b)=true:=by simp[Bz,CL,G8,h,p]
def zbs (h:s≠9) (p:s≠0) {a:Y} (q:CL a=true):CL (KK s a)=true:=by simp[KK,CL,G8,q,h,p]
def zfv {m:Md} (p:FK m) {Γ:Ax} {x:Z} {ps:L1 Y} {σ:Sb} (h:StOk k σ) (q:EnvOk k Γ):Cm m Γ (.mk 4 n x [] ps) k σ ((CG m Γ x).map λτ=>(τ,k,σ,[])):=by cases e:CG m Γ x with|none=>intro C w _ ⟨K,S1,D,r,u,G⟩;simp[Bc,Vx p,e]at r|some τ=>{let⟨r,u⟩:=ze1 p q e;refine⟨Ni h λC w=>?_,r,u,λt E=>by cases E⟩;constructor;rintro ⟨K,S1,D,y,z,A⟩;simp[Bc,Vx p,e]at y;obtain⟨rfl,B,rfl⟩:=y;simp only[DR]at z;subst z;obtain⟨L,N⟩:=w;simp only at A B ⊢;rw[A,B];rfl;rintro rfl;exact⟨[],[],[],by simp[Bc,Vx p,e],rfl,rfl⟩}
def aU {m:Md} {Γ:Ax} {x:Z} {ks:L1 Tm} {ps:L1 Y} {σ:Sb} (h:Hm m.datas x=none):Cm m Γ (.mk 14 n x ks ps) k σ none:=by intro q w _ ⟨K,S1,r,p,_⟩;simp[Bc,h]at p
def ff:=@Function.comp_def
def aV {m:Md} (N:FK m) {Γ:Ax} {x y:Z} {c:Cd} {ks:L1 Tm} {ps:L1 Y} {σ:Sb} {r:S4} (R:StOk k σ) (B:EnvOk k Γ) (h:Hm m.datas x=some (c,y)) (S:Kg m ks (c.args.map λt=>(Γ,t)) k σ r):Cm m Γ (.mk 14 n x ks ps) k σ (r.map λz=>(BJ y,z)):=by have A:=KX N h;have T:∀q,c.args.map (λt=>(GR q Γ,AH q t))=c.args.map λt=>(GR q Γ,t):=λq=>Kn λt u=>by{rw[IV (A t u).1 (A t u).2]};have C:=VC (m:=m) (Γ:=Γ) (op:=14) (n:=n) (x:=x) (ks:=ks) (ps:=ps) (j:=0) (kids:=c.args.map λt=>(Γ,t)) (τ:=BJ y) (S:=[]) (r:=r) R ⟨λq=>?_,λq K V b D=>?_⟩ (λp W=>?_) (by rfl) (CK O _) (λt u=>by cases u) (by simpa using S);cases r with|none=>exact C|some z=>{simpa using C};simp only[Bc,h];simp[Iy,ff,T q];exact⟨_,_,⟨rfl,rfl⟩,rfl,rfl⟩;simp only[Bc,h]at D;simp at D;obtain⟨_,_,⟨rfl,rfl⟩,rfl,rfl,rfl⟩:=D;exact⟨λ_=>Ay 0,λE G _=>by{simp[Iy,ff,G.env B];exact λa L=>IV (A a L).1 (A a L).2 E}⟩;obtain⟨t,u,rfl⟩:=C7.1 W;exact⟨by simpa using B,(A t u).2,CK (A t u).1 _⟩
abbrev S5:=Option (Y×Int×Sb×L1 Y)
def tY {m:Md} {Γ:Ax} {x:Z} {t:Tm} {ps:L1 Y} {σ:Sb} {r:S5} (G:StOk k σ) (q:EnvOk k Γ) (L:Cm m (Γ++[(x,Ay k)]) t (k+1) σ r):Cm m Γ (.mk 5 n x [t] ps) k σ (r.map λz=>(Bz (Ay k) z.1,z.2)):=by have R:=QY G;have u:∀h (w:Y×L1 Y),Cv m (.mk 5 n x [t] ps) (GR h Γ) w.1 w.2->∃a b,w.1=Bz a b/\Cv m t (GR h Γ++[(x,a)]) b w.2:=by{rintro h ⟨e,f⟩ ⟨K,S1,J,S,i,T⟩;simp[Bc]at S;obtain⟨a,b,rfl,rfl,rfl⟩:=S;obtain⟨P,Q,j,V,W⟩:=i;simp only[DR]at V;subst V;simp at T W;subst T;subst W;exact⟨a,b,rfl,j⟩};cases r with|none=>refine StpN.second R L λh w A=>?_;let⟨a,b,_,C⟩:=u h w A;exact⟨a,ab,λD E y=>⟨(b,w.2),by rw[IC,De,y,E.env q];exact C⟩⟩|some z=>{obtain⟨b,B,l,N⟩:=z;obtain⟨c,C,o,s⟩:=L;have hk:=c.1;refine⟨R.bind c (λh _ g=>?_) λh w A=>?_,rQ O C,gU (MD ⟨G.1,by omega⟩) o,s⟩;rw[IC,De]at g;exact⟨[(GR h Γ++[(x,h k)],AH h b)],N.map (AH h),[],by simp[Bc];exact⟨_,_,⟨rfl,rfl⟩,rfl⟩,⟨N.map (AH h),[],g,rfl,by simp⟩,by simp⟩;let⟨a,v,d,F⟩:=u h w A;refine⟨a,ab,λD E y=>⟨(v,w.2),by rw[IC,De,y,E.env q];exact F,λH I _ p=>?_⟩⟩;simp only[AN]at p;obtain⟨e,f⟩:=w;simp only at d p ⊢;rw[ap_kFun,De,I k (by omega),y,p.1,p.2,d]}
def tX {m:Md} {Γ:Ax} {x:Z} {t0 t1:Tm} {ps:L1 Y} {σ C:Sb} {p:Y} {G:L1 Y} {r:S5} (l:k<=k0) (D:EnvOk k Γ) (o:Cm m Γ t0 k0 σ (some (p,A,C,G))) (W:Cm m (Γ++[(x,p)]) t1 A C r):Cm m Γ (.mk 7 n x [t0,t1] ps) k σ (r.map λz=>(z.1,z.2.1,z.2.2.1,G++z.2.2.2)):=by obtain⟨s,a2,a3,b⟩:=o;have L:=s.lower l;have t:=L.1;have E:∀h (w:Y×L1 Y),Cv m (.mk 7 n x [t0,t1] ps) (GR h Γ) w.1 w.2->∃a S1 u,Cv m t0 (GR h Γ) a S1/\Cv m t1 (GR h Γ++[(x,a)]) w.1 u/\w.2=S1++u:=by{rintro h ⟨v,F⟩ ⟨K,S1,u,c,H,d⟩;simp[Bc]at c;obtain⟨⟨a,rfl⟩,rfl⟩:=c;obtain⟨I,J,P,⟨T3,T4,Q,e,f⟩,q8⟩:=H;simp only[DR]at e;subst e;simp at d f;subst f;subst q8;subst d;exact⟨a,I,J,P,Q,rfl⟩};cases r with|none=>refine StpN.second L W λh w N=>?_;let⟨a,S1,u,R,S,_⟩:=E h w N;refine⟨(a,S1),R,λT V y=>⟨(w.1,u),?_⟩⟩;simp only[AN]at y;rw[IC,y.1,V.env D];exact S|some z=>{obtain⟨τ,B,σ2,N2⟩:=z;obtain⟨g,h2,h3,h4⟩:=W;refine⟨L.bind g (λh g1 i=>?_) λh w N=>?_,h2,h3,(b.mono g.1).append h4⟩;rw[IC]at i;simp only[Cy];exact⟨[(GR h Γ,AH h p),(GR h Γ++[(x,AH h p)],AH h τ)],G.map (AH h)++N2.map (AH h),[],by simp[Bc],⟨_,_,g1,⟨_,[],i,rfl,rfl⟩,by simp⟩,by simp⟩;let⟨a,S1,u,R,S,j⟩:=E h w N;refine⟨(a,S1),R,λT V y=>?_⟩;simp only[AN]at y;refine⟨(w.1,u),by rw[IC,y.1,V.env D];exact S,λη2 hb _ q=>?_⟩;simp only[AN]at q;obtain⟨v,F⟩:=w;simp only at j q ⊢;rw[q.1,j,Cy,hb.tys b,y.2,q.2]}
def aT {m:Md} {Γ:Ax} {x:Z} {t0 t1:Tm} {ps:L1 Y} {σ:Sb} (p:Cm m Γ t0 k0 σ none):Cm m Γ (.mk 7 n x [t0,t1] ps) k σ none:=by refine StpN.first p λz w q=>?_;obtain⟨K,S1,A,h,r,B⟩:=q;simp[Bc]at h;obtain⟨⟨a,rfl⟩,rfl⟩:=h;obtain⟨u,C,y,_⟩:=r;exact⟨(a,u),y⟩
def Pi (m:Md) (p τ:Y) (Γ:Ax) (k:Int) (σ:Sb):Option (Ax×Sb)->Prop
 |some (q,r)=>StpR k σ k r (λh=>GR h q) (λh u=>HJ m p (AH h τ) (GR h Γ) u)/\EnvOk k q
 |none=>StpN σ (β:=Ax) (λh u=>HJ m p (AH h τ) (GR h Γ) u)
def WA (m:Md) (ps q:L1 Y) (Γ:Ax) (k:Int) (σ:Sb):Option (Ax×Sb)->Prop
 |some (p,r)=>StpR k σ k r (λh=>GR h p) (λh u=>O1 m ps (q.map (AH h)) (GR h Γ) u)/\EnvOk k p
 |none=>StpN σ (β:=Ax) (λh u=>O1 m ps (q.map (AH h)) (GR h Γ) u)
def zdr {m:Md} {x:Z} {ps:L1 Y} {τ:Y} {Γ:Ax} {σ:Sb} (h:StOk k σ) (p:EnvOk k Γ) (q:CL τ=true) (r:inB k τ):Pi m (.mk 2 n x ps) τ Γ k σ (some (Γ++[(x,τ)],σ)):=⟨Ni h λu w=>by simp[HJ,IC],p.add q r⟩
def zi7 {m:Md} {f:Int} {x:Z} {ps:L1 Y} {τ:Y} {Γ:Ax} {σ:Sb} (h:StOk k σ) (p:EnvOk k Γ) (q:f≠2/\f≠3/\f≠4/\f≠5/\f≠6):Pi m (.mk f n x ps) τ Γ k σ (some (Γ,σ)):=⟨Ni h λr w=>by simp[HJ,q],p⟩
def Tv (f:Int):Y:=if f=3 then Bk else if f=4 then C1 else E2
def tC {m:Md} {f:Int} {x:Z} {ps:L1 Y} {τ:Y} {Γ:Ax} {σ:Sb} {r:Option Sb} (q:EnvOk k Γ) (A:f=3\/f=4\/f=5) (z:match r with|some h=>StpR k σ k h (λ_=>()) (λη _=>AH η τ=AH η (Tv f))|none=>StpN σ (β:=Unit) (λη _=>AH η τ=AH η (Tv f))):Pi m (.mk f n x ps) τ Γ k σ (r.map λh=>(Γ,h)):=by have p:∀η u,HJ m (.mk f n x ps) (AH η τ) (GR η Γ) u↔AH η τ=AH η (Tv f)/\u=GR η Γ:=λη u=>by{rcases A with rfl|rfl|rfl<;>simp[HJ,Tv]};cases r with|none=>exact StpN.first z λη w y=>⟨(),((p η w).1 y).1⟩|some h=>{refine⟨z.weaken (λη g=>(p η _).2 ⟨g,rfl⟩) λη w y=>?_,q⟩;obtain⟨B,C⟩:=(p η w).1 y;exact⟨(),B,λD E _=>by rw[E.env q,C]⟩}
def P8 {m:Md} {x:Z} {ps:L1 Y} {τ:Y} {Γ:Ax} {σ:Sb} (h:Hm m.datas x=none\/∃c y,Hm m.datas x=some (c,y)/\c.args.length≠ps.length):Pi m (.mk 6 n x ps) τ Γ k σ none:=by intro z w _ q;simp only[HJ]at q;simp at q;obtain⟨c,d,p,r,_⟩:=q;rcases h with h|⟨A,y,h,u⟩;rw[h]at p;cases p;rw[h]at p;cases p;exact u r
def mP {m:Md} {x y:Z} {c:Cd} {ps:L1 Y} {τ:Y} {Γ:Ax} {σ:Sb} (h:Hm m.datas x=some (c,y)) (q:StpN σ (β:=Unit) (λη _=>AH η τ=AH η (BJ y))):Pi m (.mk 6 n x ps) τ Γ k σ none:=by refine StpN.first q λη w p=>⟨(),?_⟩;simp only[HJ]at p;simp[h]at p;obtain⟨_,_,⟨rfl,rfl⟩,_,r,_⟩:=p;simpa using r
def tD {m:Md} (a:FK m) {x y:Z} {c:Cd} {ps:L1 Y} {τ:Y} {Γ:Ax} {σ u:Sb} {r:Option (Ax×Sb)} (h:Hm m.datas x=some (c,y)) (b:c.args.length=ps.length) (A:EnvOk k Γ) (R:StpR k σ k u (λ_=>()) (λη _=>AH η τ=AH η (BJ y))) (S:WA m ps c.args Γ k u r):Pi m (.mk 6 n x ps) τ Γ k σ r:=by have T:=KX a h;have B:∀η,c.args.map (AH η)=c.args:=λη=>(Kn (g:=id) λt V=>IV (T t V).1 (T t V).2 η).trans (List.map_id _);have p:∀η C,HJ m (.mk 6 n x ps) (AH η τ) (GR η Γ) C↔AH η τ=AH η (BJ y)/\O1 m ps c.args (GR η Γ) C:=λη C=>by{simp only[HJ];simp[h];constructor;rintro ⟨_,_,⟨rfl,rfl⟩,_,D,E⟩;exact⟨D,E⟩;rintro ⟨D,E⟩;exact⟨_,_,⟨rfl,rfl⟩,b,D,E⟩};cases r with|none=>refine StpN.second R S λη w G=>?_;obtain⟨K,L⟩:=(p η w).1 G;exact⟨(),K,λN q _=>⟨w,by rw[B,q.env A];exact L⟩⟩|some z=>{obtain⟨d,e⟩:=z;obtain⟨f,g⟩:=S;refine⟨R.bind f (λη i W=>(p η _).2 ⟨i,by rw[B]at W;exact W⟩) λη w G=>?_,g⟩;obtain⟨K,L⟩:=(p η w).1 G;exact⟨(),K,λN q _=>⟨w,by rw[B,q.env A];exact L,λj _ _ l=>l⟩⟩}
def zdq {m:Md} {Γ:Ax} {σ:Sb} (h:StOk k σ) (p:EnvOk k Γ):WA m [] [] Γ k σ (some (Γ,σ)):=⟨Ni h λq w=>by simp[O1],p⟩
def xW {m:Md} {p t:Y} {ps q:L1 Y} {Γ:Ax} {σ:Sb} (h:Pi m p t Γ k σ none):WA m (p::ps) (t::q) Γ k σ none:=StpN.first h λz w r=>let⟨u,y,_⟩:=r;⟨u,y⟩
def XT {m:Md} {p t:Y} {ps q:L1 Y} {Γ u:Ax} {σ y:Sb} {r:Option (Ax×Sb)} (N:TysOk k q) (h:Pi m p t Γ k σ (some (u,y))) (R:WA m ps q u k y r):WA m (p::ps) (t::q) Γ k σ r:=by obtain⟨S,f⟩:=h;cases r with|none=>refine StpN.second S R λT w A=>?_;obtain⟨B,C,D⟩:=A;exact⟨B,C,λE G K=>⟨w,by rw[K,G.tys N];exact D⟩⟩|some z=>{obtain⟨V,W⟩:=z;obtain⟨a,b⟩:=R;refine⟨S.bind a (λT c d=>⟨_,c,d⟩) λT w A=>?_,b⟩;obtain⟨B,C,D⟩:=A;exact⟨B,C,λE G K=>⟨w,by rw[K,G.tys N];exact D,λe _ _ L=>L⟩⟩}
def O0 (m:Md) (b a:Y) (Γ:Ax) (ps:L1 Y) (q:L1 Tm) (k:Int) (σ:Sb):Option (Int×Sb×L1 Y)->Prop
 |some (k',p,N)=>StpR k σ k' p (λh=>N.map (AH h)) (λh S=>∃l,Kf m (AH h b) (GR h Γ) ps l/\DR m q (l.map λr=>(r,AH h a)) S)/\TysOk k' N
 |none=>StpN σ (β:=L1 Y) (λh S=>∃l,Kf m (AH h b) (GR h Γ) ps l/\DR m q (l.map λr=>(r,AH h a)) S)
def zcw {m:Md} {b a:Y} {Γ:Ax} {σ:Sb} (h:StOk k σ):O0 m b a Γ [] [] k σ (some (k,σ,[])):=⟨Ni h λq w=>by simp[Kf,DR],λt p=>by cases p⟩
def K6 {m:Md} {b a:Y} {Γ:Ax} {p:Y} {ps:L1 Y} {t:Tm} {q:L1 Tm} {η:Int->Y} {S:L1 Y}:(∃l,Kf m (AH η b) (GR η Γ) (p::ps) l/\DR m (t::q) (l.map λh=>(h,AH η a)) S)↔∃h S1 r,HJ m p (AH η b) (GR η Γ) h/\Cv m t h (AH η a) S1/\(∃l,Kf m (AH η b) (GR η Γ) ps l/\DR m q (l.map λh=>(h,AH η a)) r)/\S=S1++r:=by constructor;rintro ⟨l,⟨h,l1,u,y,rfl⟩,S1,r,z,A,B⟩;exact⟨h,S1,r,u,z,⟨l1,y,A⟩,B⟩;rintro ⟨h,S1,r,u,z,⟨l1,y,A⟩,B⟩;exact⟨h::l1,⟨h,l1,u,y,rfl⟩,S1,r,z,A,B⟩
def WP {m:Md} {b a:Y} {Γ:Ax} {p:Y} {ps:L1 Y} {t:Tm} {q:L1 Tm} {σ:Sb} (h:Pi m p b Γ k σ none):O0 m b a Γ (p::ps) (t::q) k σ none:=StpN.first h λz w r=>let⟨u,_,_,y,_⟩:=K6.1 r;⟨u,y⟩
def Tn {m:Md} {b a:Y} {Γ r:Ax} {p:Y} {ps:L1 Y} {t:Tm} {q:L1 Tm} {σ u:Sb} (h:Pi m p b Γ k σ (some (r,u))) (y:Cm m r t k u none):O0 m b a Γ (p::ps) (t::q) k σ none:=StpN.second h.1 y λz w A=>let⟨B,S1,K,C,D,_⟩:=K6.1 A;⟨B,C,λE L G=>⟨(AH z a,S1),by rw[G];exact D⟩⟩
def ziz {m:Md} {b a τ:Y} {Γ y:Ax} {p:Y} {t:Tm} {σ z r A:Sb} {N:L1 Y} (W:inB k a) (h:Pi m p b Γ k σ (some (y,z))) (c:Cm m y t k z (some (τ,B,r,N))) (d:StpR B r B A (λ_=>()) (λη _=>AH η τ=AH η a)):StpR k σ B A (λη=>N.map (AH η)) (λη S=>∃q,HJ m p (AH η b) (GR η Γ) q/\Cv m t q (AH η a) S):=by obtain⟨e,_⟩:=h;obtain⟨f,n,o,g⟩:=c;have i:StpR k σ B r (λη=>(AH η τ,N.map (AH η))) (λη w=>∃q,HJ m p (AH η b) (GR η Γ) q/\Cv m t q w.1 w.2):=e.bind f (λη D E=>⟨_,D,E⟩) λη w G=>let⟨q,K,L⟩:=G;⟨q,K,λR C u=>⟨w,by rw[u];exact L,λT _ _ V=>V⟩⟩;refine i.bind d (λη ⟨q,D,E⟩ j=>⟨q,D,by rw[<- j];exact E⟩) λη w G=>?_;obtain⟨q,K,L⟩:=G;refine⟨(AH η a,w),⟨q,K,L⟩,λR C u=>⟨(),?_,λT l _ _=>?_⟩⟩;simp only[AN]at u;rw[u.1,C.ap W];simp only[AN]at u;rw[l.tys g,u.2]
def Z4 {m:Md} {b a τ:Y} {Γ y:Ax} {p:Y} {ps:L1 Y} {t:Tm} {q:L1 Tm} {σ z r:Sb} {N:L1 Y} (L:inB k a) (h:Pi m p b Γ k σ (some (y,z))) (R:Cm m y t k z (some (τ,B,r,N))) (S:StpN r (β:=Unit) (λη _=>AH η τ=AH η a)):O0 m b a Γ (p::ps) (t::q) k σ none:=by have T:StpR k σ B r (λη=>(AH η τ,N.map (AH η))) (λη w=>∃u,HJ m p (AH η b) (GR η Γ) u/\Cv m t u w.1 w.2):=h.1.bind R.1 (λη V W=>⟨_,V,W⟩) λη w c=>let⟨u,D,E⟩:=c;⟨u,D,λG A C=>⟨w,by rw[C];exact E,λd _ _ K=>K⟩⟩;refine StpN.second T S λη w e=>?_;let⟨u,S1,f,D,E,_⟩:=K6.1 e;refine⟨(AH η a,S1),⟨u,D,E⟩,λG A C=>⟨(),?_⟩⟩;simp only[AN]at C;rw[C.1,A.ap L]
def XJ {m:Md} {b a τ:Y} {Γ y:Ax} {p:Y} {ps:L1 Y} {t:Tm} {q:L1 Tm} {σ A C D:Sb} {N:L1 Y} {r:S4} (K:inB k a) (d:inB k b) (E:EnvOk k Γ) (h:Pi m p b Γ k σ (some (y,A))) (e:Cm m y t k A (some (τ,B,C,N))) (l:StpR B C B D (λ_=>()) (λη _=>AH η τ=AH η a)) (f:O0 m b a Γ ps q B D r):O0 m b a Γ (p::ps) (t::q) k σ (r.map λx=>(x.1,x.2.1,N++x.2.2)):=by have g:=ziz K h e l;have i:=e.2.2.2;cases r with|none=>refine StpN.second g f λη w n=>?_;let⟨G,S1,L,R,S,T,_⟩:=K6.1 n;exact⟨S1,⟨G,R,S⟩,λV u _=>⟨L,by rw[u.ap d,u.ap K,u.env E];exact T⟩⟩|some z=>{obtain⟨Q,o,N4⟩:=z;obtain⟨j,s⟩:=f;refine⟨g.bind j (λη ⟨G,v,F⟩ H=>?_) λη w I=>?_,(i.mono j.1).append s⟩;simp only[Cy];exact K6.2 ⟨G,_,_,v,F,H,rfl⟩;obtain⟨G,S1,L,R,S,T,rfl⟩:=K6.1 I;refine⟨S1,⟨G,R,S⟩,λV u J=>⟨L,by rw[u.ap d,u.ap K,u.env E];exact T,λP W _ c=>?_⟩⟩;simp only[Cy];rw[W.tys i,J,c]}
def Nq {m:Md} {Γ:Ax} {x:Z} {t0:Tm} {q:L1 Tm} {ps:L1 Y} {τ:Y} {S:L1 Y}:Cv m (.mk 15 n x (t0::q) ps) Γ τ S↔∃b S1 h,Cv m t0 Γ b S1/\(∃l,Kf m b Γ ps l/\DR m q (l.map λp=>(p,τ)) h)/\S=S1++h:=by constructor;rintro ⟨K,S1,h,z,A,rfl⟩;simp[Bc]at z;obtain⟨a,l,r,rfl,rfl⟩:=z;obtain⟨B,C,u,y,rfl⟩:=A;exact⟨a,B,C,u,⟨l,r,y⟩,by simp⟩;rintro ⟨b,S1,h,r,⟨l,u,y⟩,rfl⟩;exact⟨(Γ,b)::l.map (λp=>(p,τ)),S1++h,[],by simp only[Bc];simp;exact⟨b,l,u,rfl,rfl⟩,⟨S1,h,r,y,rfl⟩,by simp⟩
def VD {m:Md} {Γ:Ax} {x:Z} {t0:Tm} {q:L1 Tm} {ps:L1 Y} {σ:Sb} (h:Cm m Γ t0 k0 σ none):Cm m Γ (.mk 15 n x (t0::q) ps) k σ none:=StpN.first h λu w p=>let⟨b,S1,_,r,_⟩:=Nq.1 p;⟨(b,S1),r⟩
def nD {m:Md} {Γ:Ax} {x:Z} {t0:Tm} {q:L1 Tm} {ps:L1 Y} {h:Int} {σ u:Sb} {b:Y} {E:L1 Y} {r:S4} (y:EnvOk k Γ) (V:0<=h/\h<A) (W:TysOk A E) (s:inB A b) (a:StpR k σ A u (λη=>(η h,AH η b,E.map (AH η))) (λη (w:Y×Y×L1 Y)=>Cv m t0 (GR η Γ) w.2.1 w.2.2)) (c:O0 m b (Ay h) Γ ps q A u r):Cm m Γ (.mk 15 n x (t0::q) ps) k σ (r.map λz=>(Ay h,z.1,z.2.1,E++z.2.2)):=by cases r with|none=>refine StpN.second a c λη w e=>?_;let⟨G,S1,K,L,N,_⟩:=Nq.1 e;refine⟨(w.1,G,S1),L,λR S p=>⟨K,?_⟩⟩;simp only[AN]at p;rw[p.2.1,De,p.1,S.env y];exact N|some z=>{obtain⟨B,f,t⟩:=z;obtain⟨T,g⟩:=c;refine⟨a.bind T (λη i j=>?_) λη w l=>?_,rfl,(MD V).mono T.1,(W.mono T.1).append g⟩;simp only[Cy];exact Nq.2 ⟨_,_,_,i,j,rfl⟩;let⟨G,S1,K,L,N,d⟩:=Nq.1 l;refine⟨(w.1,G,S1),L,λR S p=>?_⟩;simp only[AN]at p;refine⟨K,by rw[p.2.1,De,p.1,S.env y];exact N,λo C _ D=>?_⟩;obtain⟨v,F⟩:=w;simp only at d p D ⊢;rw[De,C h V.2,p.1,Cy,C.tys W,p.2.2,D,d]}
def On {m:Md} {Γ:Ax} {x:Z} {t0:Tm} {q:L1 Tm} {ps:L1 Y} {σ h:Sb} {b:Y} {C:L1 Y} {r:S4} (u:EnvOk k Γ) (L:Cm m Γ t0 k σ (some (b,A,h,C))) (N:O0 m b (Ay A) Γ ps q (A+1) h r):Cm m Γ (.mk 15 n x (t0::q) ps) k σ (r.map λz=>(Ay A,z.1,z.2.1,C++z.2.2)):=by obtain⟨D,W,E,G⟩:=L;have p:=D.2.1;refine nD u ⟨p.1,by omega⟩ (G.mono (by omega)) (E.mono (by omega)) ?_ N;refine D.bind (QY p) (λR g _=>g) λR w S=>⟨w.2,S,λT a y=>⟨w.1,ab,λV K _ B=>?_⟩⟩;obtain⟨c,d,e⟩:=w;simp only[AN]at y ⊢;exact⟨B,by rw[K.ap E,y.1],by rw[K.tys G,y.2]⟩
def wY {m:Md} {Γ:Ax} {x:Z} {ps:L1 Y} (r:k<A) (h:EnvOk k Γ):zob m Γ 27 x ps k A [(Γ++[(x,Bz (Ay k) Bk)],Bk)] (Ay k) []:=by refine⟨λu=>by simp[Bc,Iy,IC],λu K p C q=>?_⟩;simp[Bc]at q;obtain⟨rfl,rfl⟩:=q;exact⟨λ_=>p,λy z B=>by simp[Iy,IC,z.env h,B k (M0 _) r]⟩
def KY {m:Md} {Γ:Ax} {x:Z} {t0 t1:Tm} {ps:L1 Y} {τ:Y} {S:L1 Y}:Cv m (.mk 6 n x [t0,t1] ps) Γ τ S↔∃a S1 h,Cv m t0 Γ (Bz a τ) S1/\Cv m t1 Γ a h/\S=S1++h:=by constructor;rintro ⟨K,S1,h,r,y,rfl⟩;simp[Bc]at r;obtain⟨⟨a,rfl⟩,rfl⟩:=r;obtain⟨z,D,p,⟨A,E,q,u,B⟩,C⟩:=y;simp only[DR]at u;subst u;subst B;subst C;exact⟨a,z,A,p,q,by simp⟩;rintro ⟨a,S1,h,p,q,rfl⟩;exact⟨[(Γ,Bz a τ),(Γ,a)],S1++h,[],by simp[Bc],⟨S1,h,p,⟨h,[],q,rfl,by simp⟩,rfl⟩,by simp⟩
def cL {m:Md} {Γ:Ax} {t0 t1:Tm} {σ p q:Sb} {f a:Y} {y z:L1 Y} (r:EnvOk k Γ) (E:Cm m Γ t0 k σ (some (f,A,p,y))) (G:Cm m Γ t1 A p (some (a,B,q,z))):StpR k σ B q (λη=>(AH η f,AH η a,y.map (AH η),z.map (AH η))) (λη (w:Y×Y×L1 Y×L1 Y)=>Cv m t0 (GR η Γ) w.1 w.2.2.1/\Cv m t1 (GR η Γ) w.2.1 w.2.2.2):=by obtain⟨K,b,L,N⟩:=E;refine K.bind G.1 (λη R S=>⟨R,S⟩) λη w C=>⟨(w.1,w.2.2.1),C.1,λT V u=>⟨(w.2.1,w.2.2.2),by rw[V.env r];exact C.2,λW D _ h=>?_⟩⟩;obtain⟨c,d,e,g⟩:=w;simp only[AN]at u h ⊢;exact⟨by rw[D.ap L,u.1],h.1,by rw[D.tys N,u.2],h.2⟩
def zfk {m:Md} {Γ:Ax} {t:Tm} {σ:Sb} {p:Tm} (h:Cm m Γ t k0 σ none) (q:∀η (w:Y×L1 Y),Cv m p (GR η Γ) w.1 w.2->∃a S,Cv m t (GR η Γ) a S):Cm m Γ p k σ none:=StpN.first h λη w r=>let⟨a,S,u⟩:=q η w r;⟨(a,S),u⟩
def yY {m:Md} {Γ:Ax} {t0 t1 r:Tm} {σ h:Sb} {f:Y} {u:L1 Y} (p:EnvOk k Γ) (y:Cm m Γ t0 k σ (some (f,A,h,u))) (q:Cm m Γ t1 A h none) (z:∀η (w:Y×L1 Y),Cv m r (GR η Γ) w.1 w.2->(∃a S,Cv m t0 (GR η Γ) a S)/\∃a S,Cv m t1 (GR η Γ) a S):Cm m Γ r k σ none:=StpN.second y.1 q λη w B=>let⟨⟨a,S,q⟩,b,C,D⟩:=z η w B;⟨(a,S),q,λE G _=>⟨(b,C),by rw[G.env p];exact D⟩⟩
def Oo {m:Md} {Γ:Ax} {x:Z} {t0 t1:Tm} {ps:L1 Y} {σ z p:Sb} {f a:Y} {G K:L1 Y} {r:Option Sb} (L:EnvOk k Γ) (d:Cm m Γ t0 k σ (some (f,A,z,G))) (e:Cm m Γ t1 A z (some (a,B,p,K))) (i:match r with|some q=>StpR (B+1) p (B+1) q (λ_=>()) (λη _=>AH η f=AH η (Bz a (Ay B)))|none=>StpN p (β:=Unit) (λη _=>AH η f=AH η (Bz a (Ay B)))):Cm m Γ (.mk 6 n x [t0,t1] ps) k σ (r.map λq=>(Ay B,B+1,q,G++K)):=by have j:=cL L d e;have C:=j.2.1;obtain⟨_,_,f3,f4⟩:=d;obtain⟨l,_,H,N⟩:=e;have R:=f3.mono l.1;have y:=f4.mono l.1;have o:StpR k σ (B+1) p (λη=>(η B,AH η f,AH η a,G.map (AH η),K.map (AH η))) (λη (w:Y×Y×Y×L1 Y×L1 Y)=>Cv m t0 (GR η Γ) w.2.1 w.2.2.2.1/\Cv m t1 (GR η Γ) w.2.2.1 w.2.2.2.2):=j.bind (QY C) (λη g _=>g) λη w S=>⟨w.2,S,λD s h=>⟨w.1,ab,λT u _ V=>by{obtain⟨I,J,Q,w4,w5⟩:=w;simp only[AN]at h ⊢;exact⟨V,by rw[u.ap R,h.1],by rw[u.ap H,h.2.1],by rw[u.tys y,h.2.2.1],by rw[u.tys N,h.2.2.2]⟩}⟩⟩;cases r with|none=>refine StpN.second o i λη w P=>?_;let⟨E,S1,W,b,c,_⟩:=KY.1 P;refine⟨(w.1,Bz E w.1,E,S1,W),⟨b,c⟩,λD s h=>⟨(),?_⟩⟩;simp only[AN]at h;rw[ap_kFun,De,h.1,h.2.1,h.2.2.1]|some q=>{refine⟨o.bind i (λη t v=>?_) λη w S=>?_,rfl,MD ⟨C.1,by omega⟩,(y.append N).mono (by omega)⟩;simp only[Cy];rw[ap_kFun,De]at v;exact KY.2 ⟨_,_,_,by rw[De,<- v];exact t.1,t.2,rfl⟩;let⟨E,S1,W,b,c,F⟩:=KY.1 S;refine⟨(w.1,Bz E w.1,E,S1,W),⟨b,c⟩,λD s h=>?_⟩;simp only[AN]at h;refine⟨(),by rw[ap_kFun,De,h.1,h.2.1,h.2.2.1],λT u _ _=>?_⟩;obtain⟨I,J⟩:=w;simp only at h F ⊢;rw[De,u B (by omega),h.1,Cy,u.tys (y.mono (by omega)),u.tys (N.mono (by omega)),h.2.2.2.1,h.2.2.2.2,F]}
def Ry {m:Md} {Γ:Ax} {x:Z} {t0 t1 t2:Tm} {ps:L1 Y} {τ:Y} {S:L1 Y}:Cv m (.mk 8 n x [t0,t1,t2] ps) Γ τ S↔∃S1 h p,DR m [t0] [(Γ,C1)] S1/\Cv m t1 Γ τ h/\Cv m t2 Γ τ p/\S=S1++(h++p):=by constructor;rintro ⟨K,S1,h,B,C,rfl⟩;simp[Bc]at B;obtain⟨rfl,rfl⟩:=B;obtain⟨q,D,y,⟨E,R,r,⟨G,T,z,u,A⟩,L⟩,N⟩:=C;simp only[DR]at u;subst u;subst A;subst L;subst N;exact⟨q,E,G,⟨q,[],y,rfl,by simp⟩,r,z,by simp⟩;rintro ⟨S1,h,p,⟨q,D,y,r,z⟩,u,A,rfl⟩;simp only[DR]at r;subst r;subst z;exact⟨[(Γ,C1),(Γ,τ),(Γ,τ)],q++(h++p),[],by simp[Bc],⟨q,h++p,y,⟨h,p,u,⟨p,[],A,rfl,by simp⟩,rfl⟩,rfl⟩,by simp⟩
def VE {m:Md} {Γ:Ax} {x:Z} {t0 t1 t2:Tm} {ps:L1 Y} {z:Int} {σ C D q:Sb} {f a:Y} {R S T:L1 Y} {r:Option Sb} (E:EnvOk k Γ) (Q:Kg m [t0] [(Γ,C1)] k σ (some (A,C,R))) (o:Cm m Γ t1 A C (some (f,B,D,S))) (s:Cm m Γ t2 B D (some (a,z,q,T))) (t:match r with|some u=>StpR z q z u (λ_=>()) (λη _=>AH η f=AH η a)|none=>StpN q (β:=Unit) (λη _=>AH η f=AH η a)):Cm m Γ (.mk 8 n x [t0,t1,t2] ps) k σ (r.map λu=>(f,z,u,R++(S++T))):=by obtain⟨v,V⟩:=Q;have W:=cL (E.mono v.1) o s;obtain⟨_,c2,F,H⟩:=o;obtain⟨L,b2,b3,I⟩:=s;have J:StpR k σ z q (λη=>(AH η f,AH η a,R.map (AH η),S.map (AH η),T.map (AH η))) (λη (w:Y×Y×L1 Y×L1 Y×L1 Y)=>DR m [t0] [(GR η Γ,C1)] w.2.2.1/\Cv m t1 (GR η Γ) w.1 w.2.2.2.1/\Cv m t2 (GR η Γ) w.2.1 w.2.2.2.2):=v.bind W (λη G b=>⟨by simpa[Iy]using G,b⟩) λη w N=>⟨w.2.2.1,by simpa[Iy]using N.1,λK c h=>⟨(w.1,w.2.1,w.2.2.2.1,w.2.2.2.2),by rw[c.env E];exact N.2,λd y _ p=>by{obtain⟨w1,w2,w3,w4,w5⟩:=w;simp only[AN]at p ⊢;exact⟨p.1,p.2.1,by rw[y.tys V,h],p.2.2.1,p.2.2.2⟩}⟩⟩;cases r with|none=>refine StpN.second J t λη w hw=>?_;let⟨S1,e,g,i,j,l,_⟩:=Ry.1 hw;refine⟨(w.1,w.1,S1,e,g),⟨i,j,l⟩,λK c h=>⟨(),?_⟩⟩;simp only[AN]at h;rw[h.1,h.2.1]|some u=>{refine⟨J.bind t (λη G b=>?_) λη w N=>?_,c2,F.mono L.1,(V.mono W.1).append ((H.mono L.1).append I)⟩;simp only[Cy];exact Ry.2 ⟨_,_,_,G.1,G.2.1,by rw[b];exact G.2.2,rfl⟩;let⟨S1,e,g,i,j,l,P⟩:=Ry.1 N;refine⟨(w.1,w.1,S1,e,g),⟨i,j,l⟩,λK c h=>?_⟩;simp only[AN]at h;refine⟨(),by rw[h.1,h.2.1],λd y _ _=>?_⟩;obtain⟨w1,w2⟩:=w;simp only at h P ⊢;rw[y.ap (F.mono L.1),h.1,Cy,Cy,y.tys (V.mono W.1),y.tys (H.mono L.1),y.tys I,h.2.2.1,h.2.2.2.1,h.2.2.2.2,P]}
def Qh {m:Md} {Γ:Ax} {x:Z} {t:Tm} {ps:L1 Y} {σ:Sb} {r:S5} (h:Cm m Γ t k σ r):Cm m Γ (.mk 16 n x [t] ps) k σ (r.map λz=>(KK 5 z.1,z.2)):=by have p:∀{Γ τ S},Cv m (.mk 16 n x [t] ps) Γ τ S↔∃a,τ=KK 5 a/\Cv m t Γ a S:=by{intro Γ τ S;constructor;rintro ⟨K,S1,W,C,G,rfl⟩;simp[Bc]at C;obtain⟨a,rfl,rfl,rfl⟩:=C;obtain⟨b,c,q,u,A⟩:=G;simp only[DR]at u;subst u;subst A;exact⟨a,rfl,by simpa using q⟩;rintro ⟨a,rfl,h⟩;exact⟨[(Γ,a)],S,[],by simp[Bc],⟨S,[],h,rfl,by simp⟩,by simp⟩};cases r with|none=>exact StpN.first h λD w B=>let⟨a,_,q⟩:=p.1 B;⟨(a,w.2),q⟩|some z=>{obtain⟨τ,k',L,N⟩:=z;obtain⟨q,u,A,R⟩:=h;refine⟨q.weaken (λD g=>p.2 ⟨_,by rw[ap_k5],g⟩) λD w B=>?_,zbs (by decide) (by decide) u,uB (by decide) A,R⟩;let⟨a,E,T⟩:=p.1 B;refine⟨(a,w.2),T,λV _ y=>?_⟩;simp only[AN]at y;obtain⟨d,e⟩:=w;simp only at E y ⊢;rw[ap_k5,y.1,y.2,E]}
def zp1 (m:Md) (Γ:Ax) (t:Tm) (T:Y) (N:L1 Y):Prop:=Cv m t Γ T N/\∀τ S,Cv m t Γ τ S->∃h,AH h T=τ/\N.map (AH h)=S
def EnvCl (Γ:Ax):Prop:=∀p∈Γ,Dc p.2=[]/\CL p.2=true
def EnvCl.ap {Γ:Ax} (h:EnvCl Γ) (η:Int->Y):GR η Γ=Γ:=(Kn (g:=id) λp q=>by rw[IV (h p q).1 (h p q).2];rfl).trans (List.map_id _)
def MC {m:Md} {Γ:Ax} {t:Tm} {q:Sb} {τ:Y} {N:L1 Y} (r:EnvCl Γ) (h:Cm m Γ t k (λ_=>none) (some (τ,k',q,N))) {θ:Int->Y} (p:Sol q θ):zp1 m Γ t (AH θ τ) (N.map (AH θ)):=by obtain⟨A,K,L,R⟩:=h;obtain⟨_,_,B,C⟩:=A;refine⟨?_,λu S D=>?_⟩;have:=(B θ p.eq).2;simp only[r.ap]at this;exact this;let⟨E,_,z,y⟩:=C Ay (u,S) (λn t G=>by cases G) (by simp only[r.ap];exact D);simp only[AN]at y;refine⟨E,by rw[p.mguT z,y.1],?_⟩;rw[Vr,<- y.2];exact Kn λt _=>p.mguT z t
def pT {m:Md} {Γ:Ax} {t:Tm} (p:EnvCl Γ) (h:Cm m Γ t k (λ_=>none) none) (τ:Y) (S:L1 Y):¬Cv m t Γ τ S:=λq=>h Ay (τ,S) (λn t r=>by cases r) (by simp only[p.ap];exact q)
def wR (p:0<=k):StOk k (λ_=>none):=by refine⟨p,?_,Ay,?_,?_,?_,?_⟩;intro n t h;cases h;intro n t h;cases h;intro n _;rfl;intro n t h;cases h;intro n t h;cases h
def Bm:L1 Z->Z->Bool
 |[],_=>false
 |x::r,s=>x==s||Bm r s
abbrev Tq3:=Iz prog
abbrev i7 (i:Int):D:=.imm (.int .i64 i)
def zh2 (l:L1 Z) (s:Z):Tq3 38 [.sl (Cq l),.str s] (.bool (Bm l s)):=by refine BH λr=>?_;simp[D8,Gy,maxLen]at r;refine Ac Bp func38 O [1,2]<|AU O<|Al (λi:Nat=>[(5,i7 i),(0,.imm (.sl (Cq l))),(1,.imm (.str s))]) (λ_=>[]) [1] (λi=>l.length-i) (λi=>i<=l.length/\Bm l s=Bm (l.drop i) s) 0 ⟨AK _,rfl⟩ AC ab O λi p u=>?_;refine Bj O<|Aa O (λh=>?_) (λh=>?_);simp at h;let⟨t,q⟩:=At h;refine Bj O<|ki O (c:=[.str t]) (λ_=>⟨by simp,by simpa using MQ q,rfl⟩) (by simp)<|AU O ?_;have e:=p.2;rw[Au q]at e;refine Aa O (λh=>?_) (λh=>?_);refine Bj O<|Ab O O (af _ ?_);rw[e];simp[Bm,h];refine Bj O<|Ad (u (i+1) (by omega) ⟨by omega,by rw[e];simp[Bm,h]⟩) ⟨Bf,AP⟩ ab O;refine Bj O<|Ab O O (af _ ?_);simp at h;rw[p.2,Bu (by omega)];rfl
def G9 (s:Z):Bool:=s.all λc=>97<=c&&c<=122
def Sd {s:Z} {c:UInt8} (h:s[i]?=some c):G9 (s.drop i)=((97<=c&&c<=122)&&G9 (s.drop (i+1))):=by rw[Au h];simp[G9]
def ax:=@UInt8.le_iff_toNat_le
def cZ (s:Z) (y:s.length<=9223372036854775806):Tq3 101 [.str s] (.bool (G9 s)):=by refine Ac Bp func101 O [1,2]<|AU O<|Al (λi:Nat=>[(3,i7 i),(0,.imm (.str s))]) (λ_=>[]) [1] (λi=>s.length-i) (λi=>i<=s.length/\G9 s=G9 (s.drop i)) 0 ⟨AK _,rfl⟩ AP ab O λi p u=>?_;refine Bj O<|Aa O (λh=>?_) (λh=>?_);simp at h;let⟨c,q⟩:=At h;have e:=p.2;rw[Sd q]at e;have r:s[i]?.getD 0=c:=by{rw[q];rfl};refine kd [] O (by simp[h])<|Aa O (λh=>?_) (λh=>?_);refine Bj O<|Ab O O (af _ ?_);rw[e];simp[r]at h;simp[ax];omega;refine Bj O<|Ad (u (i+1) (by omega) ⟨by omega,?_⟩) ⟨Bf,AG⟩ ab O;rw[e];simp[r]at h;simp[ax];omega;refine Bj O<|Ab O O (af _ ?_);simp at h;rw[p.2,Bu (by omega)];rfl
def KJ:L1 Z:=[[98,111,111,108],[99,101,108,108],[99,104,97,110],[101,108,115,101],[102,97,108,115,101],[102,117,110],[103,101,116],[105,102],[105,110],[105,110,112,117,116],[105,110,116],[106,111,105,110],[108,101,116],[109,97,116,99,104],[109,111,100,117,108,101],[111,117,116],[112,97,117,115,101],[112,117,116],[114,101,115,101,116],[115,101,110,100],[115,104,105,102,116],[115,112,97,119,110],[116,97,107,101],[116,97,115,107],[116,104,101,110],[116,114,117,101],[116,121,112,101],[117,110,105,116]]
def gG:Tq3 154 [] (.sl (Cq KJ)):=by refine Ac Bp func154 O [1,2]<|AU O<|Af ⟨_,rfl,?_,ab⟩;rfl
def V6 (s:Z):Bool:=Bm KJ s
def zh1 (s:Z):Tq3 102 [.str s] (.bool (V6 s)):=by exact Ac Bp func102 O [1,2]<|AU O<|Ah O gG<|AU O<|Ah O (zh2 KJ s)<|AU O<|Ab O O O
def BV (s:Z):Bool:=decide (1<=s.length)&&decide (s.length<=8)&&G9 s&&!V6 s
def CW (s:Z):Bool:=decide (1<=s.length)&&decide (s.length<=8)&&(65<=s.getD 0 0&&s.getD 0 0<=90)&&G9 (s.drop 1)
def DP (x h p:Int):Bool:=decide (h<=x)&&decide (x<=p)
def II (s:Z):Tq3 37 [.str s] (.bool (BV s)):=by refine Ac Bp func37 O [1,2]<|AU O<|Ai O (v:=.bool (G9 s)) (λh=>cZ s ?_) (by simp[Ap]) ?_;simp[Ap]at h;omega;refine AU O<|Ai O (v:=.bool (V6 s)) (λh=>zh1 s) (by simp[Ap])<|AU O<|Ab O O (af _ ?_);simp[BV];norm_cast
def Qi (x h p:Int):Tq3 83 [.int .i64 x,.int .i64 h,.int .i64 p] (.bool (DP x h p)):=by refine Ac Bp func83 O [1,2]<|AU O<|Ab O O (af _ ?_);simp[DP]
def Nb (s:Z):Tq3 122 [.str s] (.bool (CW s)):=by refine Ac Bp func122 O [1,2]<|kg [] O (by simp[Ap];omega)<|Ai O (v:=.bool (G9 (s.drop 1))) (λh=>cZ _ ?_) (by simp[Ap]) ?_;simp[Ap]at h;simp;omega;refine AU O<|Ab O O (af _ ?_);simp[CW,ax,OT];norm_cast
mutual
def B6:Y->Int->Int
 |.mk _ _ _ h,l=>if l<1 then -1 else BA h (l-1)
def BA:L1 Y->Int->Int
 |[],l=>l
 |t::r,l=>if 0<=l then BA r (B6 t l)else l
end
mutual
def Ld:∀(t:Y) (l:Int),-1<=B6 t l/\(-1<=l->B6 t l<=l)
 |.mk _ _ _ p,l=>by simp only[B6];by_cases h:l<1;rw[ae h];omega;rw[ac h];have:=LX p (l-1) (by omega);omega
def LX:∀(q:L1 Y) (l:Int),-1<=l->-1<=BA q l/\BA q l<=l
 |[],l,h=>by simp[BA,h]
 |t::r,l,h=>by simp only[BA];by_cases p:0<=l;rw[ae p];have u:=Ld t l;have y:=LX r (B6 t l) u.1;omega;rw[ac p];omega
end
def IE:∀(t:Y) (l:Int),-9223372036854775808<=l->l<=9223372036854775807->Tq3 46 [.agg (As t),.int .i64 l] (.int .i64 (B6 t l))
 |.mk s n x q,l,C,D=>by refine BH λE=>?_;simp[D8,Gy,As,maxLen]at E;refine Ac Bp func46 O [1,2,3]<|AU O<|Aa O (λh=>?_) (λh=>?_);refine Bj O<|Ab O O (af _ ?_);simp at h;simp[B6,h];simp at h;refine Bj O<|Al (λx:Nat×Int=>[(5,i7 x.1),(1,i7 x.2),(2,.ref 1 0)]) (λ_=>[(1,some (.immb 25 4 (As (.mk s n x q))))]) [2,3] (λx=>q.length-x.1) (λy=>y.1<=q.length/\B6 (.mk s n x q) l=BA (q.drop y.1) y.2/\-1<=y.2/\y.2<l) (0,l-1) ⟨AK _,by simp[B6];omega,by simp only;omega,by simp only;omega⟩ ⟨rfl,Bf,AG⟩ AG O λy G K=>?_;obtain⟨i,m⟩:=y;obtain⟨u,p,z,A⟩:=G;simp only at u p z A;refine Bj O<|Aa O (λh=>?_) (λh=>?_);simp at h;let⟨t,r⟩:=At (l:=q) (i:=i) (by omega);rw[Au r]at p;refine Bj O<|WX O (AQ r)<|AU O<|Ah O (IE t m (by omega) (by omega))<|AU O ?_;have L:=Ld t m;refine Ad (K (i+1,B6 t m) (by simp only;omega) ⟨by simp only;omega,by simp only;rw[p];simp[BA];omega,by simp only;omega,by simp only;omega⟩) ⟨Bf,AP⟩ AG O;refine Bj O<|Ab O O (af _ ?_);rw[p];simp at h;by_cases B:i<q.length;let⟨t,r⟩:=At B;rw[Au r];simp[BA];omega;rw[Bu (by omega)];simp[BA]
termination_by t=>SizeOf.sizeOf t
decreasing_by have:=Cr (AF r);simp_wf;omega
def MY:∀(t:Y) (l:Int),-9223372036854775808<=l->l<=9223372036854775807->Tq3 179 [.agg (As t),.int .i64 l] (.int .i64 (B6 t l))
 |.mk s n x q,l,C,D=>by refine BH λE=>?_;simp[D8,Gy,As,maxLen]at E;refine Ac Bp func179 O [1,2,3]<|AU O<|Aa O (λh=>?_) (λh=>?_);refine Bj O<|Ab O O (af _ ?_);simp at h;simp[B6,h];simp at h;refine Bj O<|Al (λx:Nat×Int=>[(5,i7 x.1),(1,i7 x.2),(2,.ref 1 0)]) (λ_=>[(1,some (.immb 182 4 (As (.mk s n x q))))]) [2,3] (λx=>q.length-x.1) (λy=>y.1<=q.length/\B6 (.mk s n x q) l=BA (q.drop y.1) y.2/\-1<=y.2/\y.2<l) (0,l-1) ⟨AK _,by simp[B6];omega,by simp only;omega,by simp only;omega⟩ ⟨rfl,Bf,AG⟩ AG O λy G K=>?_;obtain⟨i,m⟩:=y;obtain⟨u,p,z,A⟩:=G;simp only at u p z A;refine Bj O<|Aa O (λh=>?_) (λh=>?_);simp at h;let⟨t,r⟩:=At (l:=q) (i:=i) (by omega);rw[Au r]at p;refine Bj O<|WX O (AQ r)<|AU O<|Ah O (MY t m (by omega) (by omega))<|AU O ?_;have L:=Ld t m;refine Ad (K (i+1,B6 t m) (by simp only;omega) ⟨by simp only;omega,by simp only;rw[p];simp[BA];omega,by simp only;omega,by simp only;omega⟩) ⟨Bf,AP⟩ AG O;refine Bj O<|Ab O O (af _ ?_);rw[p];simp at h;by_cases B:i<q.length;let⟨t,r⟩:=At B;rw[Au r];simp[BA];omega;rw[Bu (by omega)];simp[BA]
termination_by t=>SizeOf.sizeOf t
decreasing_by have:=Cr (AF r);simp_wf;omega
def Dg (h:Bool) (s n:Int) (x:Z) (k:Nat):Bool :=
 if s=1\/s=2\/s=3 then((k:Int)==0)&&n==0&&x==[]
 else if s=4 then((k:Int)==2)&&n==0&&x==[]
 else if s=5\/s=6\/s=7 then((k:Int)==1)&&n==0&&x==[]
 else if s=8 then((k:Int)==0)&&n==0&&CW x
 else if s=9 then h&&((k:Int)==0)&&x==[]&&DP n 0 99
 else false
mutual
def Dv (h:Bool):Y->Bool
 |.mk s n x p=>Dg h s n x p.length&&C8 h p
def C8 (h:Bool):L1 Y->Bool
 |[]=>true
 |t::r=>Dv h t&&C8 h r
end
def U0 (p:Bool):∀(t:Y),Tq3 61 [.agg (As t),.bool p] (.bool (Dv p t))
 |.mk s n x q=>by refine BH λV=>?_;simp[D8,Gy,As,maxLen]at V;refine Ac Bp func61 O [1,2,3] ?_;have J:∀u:Bool,u=Dg p s n x q.length->Tq2 Tryz.f61.ntmps (CT []) (KZ kQ Tryz.f61.results.toList (.ret (.imm (.bool (Dv p (.mk s n x q)))) [])) [.code (ES Tryz.f61 4)] [(6,.imm (.bool u)),(5,i7 q.length),(1,.imm (.bool p)),(2,.ref 1 0)] [(1,some (.immb 25 4 (As (.mk s n x q))))] [2,3]:=by{intro u z;refine Bj O<|Al (λy:Nat×Bool=>[(7,i7 y.1),(6,.imm (.bool y.2)),(5,i7 q.length),(1,.imm (.bool p)),(2,.ref 1 0)]) (λ_=>[(1,some (.immb 25 4 (As (.mk s n x q))))]) [2,3] (λy=>q.length-y.1) (λy=>y.1<=q.length/\Dv p (.mk s n x q)=(y.2&&C8 p (q.drop y.1))) (0,u) ⟨AK _,by simp[Dv,z]⟩ BD AG O λy W a=>?_;obtain⟨i,b⟩:=y;obtain⟨A,r⟩:=W;simp only at A r;refine Bj O<|Aa O (λh=>?_) (λh=>?_);simp at h;let⟨t,B⟩:=At (l:=q) (i:=i) (by omega);rw[Au B]at r;refine Bj O<|WX O (AQ B)<|AU O<|Ah O (U0 p t)<|AU O<|Ad (a (i+1,Dv p t) (by simp only;omega) ⟨by simp only;omega,by simp only;rw[r,h.2];simp[C8]⟩) ⟨Bf,B0⟩ AG O;refine Bj O<|Ab O O (af _ ?_);rw[r];simp at h;by_cases C:i<q.length;rw[h C];rfl;rw[Bu (by omega)];simp[C8]};by_cases D:s=1;subst D;exact TR [.a,.a,.s] O<|Ad (J _ (by simp[Dg])) ⟨rfl,B8 (by simp),AP⟩ AG O;by_cases E:s=2;subst E;exact TR [.a,.a,.a,.s] O<|Ad (J _ (by simp[Dg])) ⟨rfl,B8 (by simp),AP⟩ AG O;by_cases G:s=3;subst G;exact TR [.a,.a,.a,.s] O<|Ad (J _ (by simp[Dg])) ⟨rfl,B8 (by simp),AP⟩ AG O;by_cases K:s=4;subst K;exact TR (D7 4 [.s]) O<|Ad (J _ (by simp[Dg])) ⟨rfl,B8 (by simp),AP⟩ AG O;by_cases L:s=5;subst L;exact TR (D7 6 [.s]) O<|Ad (J _ (by simp[Dg])) ⟨rfl,B8 (by simp),AP⟩ AG O;by_cases N:s=6;subst N;exact TR (D7 7 [.s]) O<|Ad (J _ (by simp[Dg])) ⟨rfl,B8 (by simp),AP⟩ AG O;by_cases R:s=7;subst R;exact TR (D7 7 [.s]) O<|Ad (J _ (by simp[Dg])) ⟨rfl,B8 (by simp),AP⟩ AG O;by_cases S:s=8;subst S;exact TR (D7 7 [.a]) O<|Bt O (Nb x)<|TR [.s] O<|Ad (J _ (by simp[Dg])) ⟨rfl,B8 (by simp),AP⟩ AG O;by_cases T:s=9;subst T;exact TR (D7 8 [.a]) O<|Bt O (Qi n 0 99)<|TR [.s] O<|Ad (J _ (by simp[Dg])) ⟨rfl,B8 (by simp),AP⟩ AG O;exact kg [.f,.f,.f,.f,.f,.f,.f,.f,.f,.s] O (by simp[D,E,G,K,L,N,R,S,T])<|Ad (J _ (by simp[Dg,D,E,G,K,L,N,R,S,T])) ⟨rfl,B8 (by simp),AP⟩ AG O
termination_by t=>SizeOf.sizeOf t
decreasing_by have:=Cr (AF B);simp_wf;omega
mutual
def HL:Y->Bool
 |.mk _ _ x h=>En h&&decide (x.length<=30)
def En:L1 Y->Bool
 |[]=>true
 |t::r=>HL t&&En r
end
def Pu:∀(t:Y),Tq3 47 [.agg (As t)] (.bool (HL t))
 |.mk s n x p=>by refine BH λu=>?_;simp[D8,Gy,As,maxLen]at u;refine Ac Bp func47 O [1,2,3]<|AU O<|Al (λi:Nat=>[(3,i7 i),(1,.ref 1 0)]) (λ_=>[(1,some (.immb 25 4 (As (.mk s n x p))))]) [2,3] (λi=>p.length-i) (λi=>i<=p.length/\En p=En (p.drop i)) 0 ⟨AK _,rfl⟩ AP AG O λi r y=>?_;refine Bj O<|Aa O (λh=>?_) (λh=>?_);simp at h;let⟨t,q⟩:=At h;have e:=r.2;rw[Au q]at e;refine Bj O<|WX O (AQ q)<|AU O<|Ah O (Pu t)<|AU O<|Aa O (λh=>?_) (λh=>?_);refine Bj O<|Ab O O (af _ ?_);simp at h;simp[HL,e,En,h];refine Bj O ?_;simp at h;exact Ad (y (i+1) (by omega) ⟨by omega,by rw[e];simp[En,h]⟩) ⟨Bf,AG⟩ AG O;refine Bj O<|Ab O O (af _ ?_);simp at h;simp only[HL];rw[r.2,Bu (by omega)];simp[En];norm_cast
termination_by t=>SizeOf.sizeOf t
decreasing_by have:=Cr (AF q);simp_wf;omega
def Se:∀(t:Y),Tq3 180 [.agg (As t)] (.bool (HL t))
 |.mk s n x p=>by refine BH λu=>?_;simp[D8,Gy,As,maxLen]at u;refine Ac Bp func180 O [1,2,3]<|AU O<|Al (λi:Nat=>[(3,i7 i),(1,.ref 1 0)]) (λ_=>[(1,some (.immb 182 4 (As (.mk s n x p))))]) [2,3] (λi=>p.length-i) (λi=>i<=p.length/\En p=En (p.drop i)) 0 ⟨AK _,rfl⟩ AP AG O λi r y=>?_;refine Bj O<|Aa O (λh=>?_) (λh=>?_);simp at h;let⟨t,q⟩:=At h;have e:=r.2;rw[Au q]at e;refine Bj O<|WX O (AQ q)<|AU O<|Ah O (Se t)<|AU O<|Aa O (λh=>?_) (λh=>?_);refine Bj O<|Ab O O (af _ ?_);simp at h;simp[HL,e,En,h];refine Bj O ?_;simp at h;exact Ad (y (i+1) (by omega) ⟨by omega,by rw[e];simp[En,h]⟩) ⟨Bf,AG⟩ AG O;refine Bj O<|Ab O O (af _ ?_);simp at h;simp only[HL];rw[r.2,Bu (by omega)];simp[En];norm_cast
termination_by t=>SizeOf.sizeOf t
decreasing_by have:=Cr (AF q);simp_wf;omega
def NY (t:Y):Bool:=decide (0<=B6 t 12)&&Dv true t
def zk8 (t:Y):Tq3 15 [.agg (As t)] (.bool (NY t)):=by refine Ac Bp func15 O [1,2,3]<|AU O<|Ah O (IE t 12 (by decide) (by decide))<|AU O<|Bt O (U0 true t)<|AU O<|Ab O O (af _ ?_);simp[NY]
def G6 (t:Y):Bool:=decide (0<=B6 t 12)&&Dv false t
def W6 (t:Y):Tq3 20 [.agg (As t)] (.bool (G6 t)):=by refine Ac Bp func20 O [1,2,3]<|AU O<|Ah O (IE t 12 (by decide) (by decide))<|AU O<|Bt O (U0 false t)<|AU O<|Ab O O (af _ ?_);simp[G6]
def BW (t:Y):Bool:=decide (0<=B6 t 16)&&HL t
def IF (t:Y):Tq3 11 [.agg (As t)] (.bool (BW t)):=by refine Ac Bp func11 O [1,2,3]<|AU O<|Ah O (IE t 16 (by decide) (by decide))<|AU O<|Bt O (Pu t)<|AU O<|Ab O O (af _ ?_);simp[BW]
def kL (t:Y):Tq3 126 [.agg (As t)] (.bool (BW t)):=by refine Ac Bp func126 O [1,2,3]<|AU O<|Ah O (MY t 16 (by decide) (by decide))<|AU O<|Bt O (Se t)<|AU O<|Ab O O (af _ ?_);simp[BW]
def Fc (s n:Int) (x:Z) (k:Nat):Bool :=
 if s=1\/s=5 then((k:Int)==0)&&n==0&&x==[]
 else if s=2 then((k:Int)==0)&&n==0&&BV x
 else if s=3 then((k:Int)==0)&&x==[]&&DP n (-1000000000) 1000000000
 else if s=4 then((k:Int)==0)&&x==[]&&DP n 0 1
 else if s=6 then decide ((k:Int)<=3)&&n==0&&CW x
 else false
mutual
def BI:Y->Bool
 |.mk s n x h=>Fc s n x h.length&&BX h
def BX:L1 Y->Bool
 |[]=>true
 |t::r=>BI t&&BX r
end
def tA:∀(t:Y),Tq3 217 [.agg (As t)] (.bool (BI t))
 |.mk s n x p=>by refine BH λN=>?_;simp[D8,Gy,As,maxLen]at N;refine Ac Bp func217 O [1,2,3] ?_;have J:∀r:Bool,r=Fc s n x p.length->Tq2 Tryz.f217.ntmps (CT []) (KZ kQ Tryz.f217.results.toList (.ret (.imm (.bool (BI (.mk s n x p)))) [])) [.code (ES Tryz.f217 4)] [(4,.imm (.bool r)),(3,i7 p.length),(1,.ref 1 0)] [(1,some (.immb 182 4 (As (.mk s n x p))))] [2,3]:=by{intro r u;refine Bj O<|Al (λy:Nat×Bool=>[(5,i7 y.1),(4,.imm (.bool y.2)),(3,i7 p.length),(1,.ref 1 0)]) (λ_=>[(1,some (.immb 182 4 (As (.mk s n x p))))]) [2,3] (λy=>p.length-y.1) (λy=>y.1<=p.length/\BI (.mk s n x p)=(y.2&&BX (p.drop y.1))) (0,r) ⟨AK _,by simp[BI,u]⟩ B0 AG O λy R S=>?_;obtain⟨i,b⟩:=y;obtain⟨z,q⟩:=R;simp only at z q;refine Bj O<|Aa O (λh=>?_) (λh=>?_);simp at h;let⟨t,A⟩:=At (l:=p) (i:=i) (by omega);rw[Au A]at q;exact Bj O<|WX O (AQ A)<|AU O<|Ah O (tA t)<|AU O<|Ad (S (i+1,BI t) (by simp only;omega) ⟨by simp only;omega,by simp only;rw[q,h.2];simp[BX]⟩) ⟨Bf,AC⟩ AG O;refine Bj O<|Ab O O (af _ ?_);rw[q];simp at h;by_cases B:i<p.length;rw[h B];rfl;rw[Bu (by omega)];simp[BX]};by_cases C:s=1;subst C;exact TR [.a,.a,.s] O<|Ad (J _ (by simp[Fc])) ⟨rfl,B8 (by simp),AG⟩ AG O;by_cases D:s=2;subst D;exact TR [.a,.a,.a] O<|Bt O (II x)<|TR [.s] O<|Ad (J _ (by simp[Fc])) ⟨rfl,B8 (by simp),AG⟩ AG O;by_cases E:s=3;subst E;exact TR [.a,.a,.a,.a] O<|Bt O (Qi n (-1000000000) 1000000000)<|TR [.s] O<|Ad (J _ (by simp[Fc])) ⟨rfl,B8 (by simp),AG⟩ AG O;by_cases G:s=4;subst G;exact TR (D7 4 [.a]) O<|Bt O (Qi n 0 1)<|TR [.s] O<|Ad (J _ (by simp[Fc])) ⟨rfl,B8 (by simp),AG⟩ AG O;by_cases K:s=5;subst K;exact TR [.a,.a,.s] O<|Ad (J _ (by simp[Fc])) ⟨rfl,B8 (by simp),AG⟩ AG O;by_cases L:s=6;subst L;exact TR (D7 5 [.a]) O<|Bt O (Nb x)<|TR [.s] O<|Ad (J _ (by simp[Fc])) ⟨rfl,B8 (by simp),AG⟩ AG O;exact kg [.f,.f,.f,.f,.f,.f,.s] O (by simp[C,D,E,G,K,L])<|Ad (J _ (by simp[Fc,C,D,E,G,K,L])) ⟨rfl,B8 (by simp),AG⟩ AG O
termination_by t=>SizeOf.sizeOf t
decreasing_by have:=Cr (AF A);simp_wf;omega
mutual
def Be:Tm->Int->Int->Int
 |.mk _ _ _ h _,l,d=>if l<1\/d<1 then -1 else B7 h (l-1) (d-1)
def B7:L1 Tm->Int->Int->Int
 |[],l,_=>l
 |t::r,l,d=>if 0<=l then B7 r (Be t l d) d else l
end
mutual
def Hz:∀(t:Tm) (l d:Int),-1<=Be t l d/\(-1<=l->Be t l d<=l)
 |.mk _ _ _ p _,l,d=>by simp only[Be];by_cases h:l<1\/d<1;rw[ae h];omega;rw[ac h];have:=J7 p (l-1) (d-1) (by omega);omega
def J7:∀(q:L1 Tm) (l d:Int),-1<=l->-1<=B7 q l d/\B7 q l d<=l
 |[],l,d,h=>by simp[B7,h]
 |t::r,l,d,h=>by simp only[B7];by_cases p:0<=l;rw[ae p];have u:=Hz t l d;have y:=J7 r (Be t l d) d u.1;omega;rw[ac p];omega
end
def W7:∀(t:Tm) (l d:Int),-9223372036854775808<=l->l<=9223372036854775807->-9223372036854775807<=d->d<=9223372036854775807->Tq3 68 [.agg (dTmc t),.int .i64 l,.int .i64 d] (.int .i64 (Be t l d))
 |.mk C n x q D,l,d,E,G,K,L=>by refine BH λN=>?_;simp[D8,Gy,dTmc,maxLen]at N;refine Ac Bp func68 O [1,2,3]<|AU O<|Aa O (λh=>?_) (λh=>?_);refine Bj O<|Ab O O (af _ ?_);simp at h;simp only[Be];rw[ae (by omega)];simp at h;refine Bj O<|Al (λx:Nat×Int=>[(7,i7 x.1),(1,i7 x.2),(2,i7 d),(3,.ref 1 0)]) (λ_=>[(1,some (.immb 49 5 (dTmc (.mk C n x q D))))]) [2,3] (λx=>q.length-x.1) (λy=>y.1<=q.length/\Be (.mk C n x q D) l d=B7 (q.drop y.1) y.2 (d-1)/\-1<=y.2/\y.2<l) (0,l-1) ⟨AK _,by simp only[Be,Yn];rw[ac (by omega)],by simp only;omega,by simp only;omega⟩ ⟨rfl,Bf,AP⟩ AG O λy R S=>?_;obtain⟨i,m⟩:=y;obtain⟨u,p,z,A⟩:=R;simp only at u p z A;refine Bj O<|Aa O (λh=>?_) (λh=>?_);simp at h;let⟨t,r⟩:=At (l:=q) (i:=i) (by omega);rw[Au r]at p;refine Bj O<|WX O (Et r)<|AU O ?_;have T:IntKind.i64.wrap (d-1)=d-1:=Gx (by omega) (by omega);refine Ai O (v:=.int .i64 (Be t m (d-1))) (λ_=>by rw[T];exact W7 t m (d-1) (by omega) (by omega) (by omega) (by omega)) (by simp)<|AU O ?_;have V:=Hz t m (d-1);exact Ad (S (i+1,Be t m (d-1)) (by simp only;omega) ⟨by simp only;omega,by simp only;rw[p];simp only[B7];rw[ae h.2],by simp only;omega,by simp only;omega⟩) ⟨Bf,AC⟩ AG O;refine Bj O<|Ab O O (af _ ?_);rw[p];simp at h;by_cases B:i<q.length;let⟨t,r⟩:=At B;rw[Au r];simp only[B7];rw[ac (by omega)];rw[Bu (by omega)];simp[B7]
termination_by t=>SizeOf.sizeOf t
decreasing_by have:=Cr (AF r);simp_wf;omega
mutual
def GX:Tm->Bool
 |.mk _ _ x p h=>decide (x.length<=30)&&decide (h.length<=8)&&h.all BW&&E9 p
def E9:L1 Tm->Bool
 |[]=>true
 |t::r=>GX t&&E9 r
end
def AT (n:Int) (x:Z) (p:Nat) (fn h q:Bool):Bool:=(fn||n==0)&&(h||x==[])&&(q||((p:Int)==0))
def Pv:∀(t:Tm),Tq3 69 [.agg (dTmc t)] (.bool (GX t))
 |.mk C n x q p=>by refine BH λD=>?_;simp[D8,Gy,dTmc,maxLen]at D;refine Ac Bp func69 O [1,2,3]<|AU O<|Aa O (λh=>?_) (λh=>?_);refine Bj O<|Ab O O (af _ ?_);simp at h;simp only[GX];by_cases E:x.length<=30;have G:¬p.length<=8:=by{omega};simp[G];simp[E];simp at h;have A:x.length<=30/\p.length<=8:=by{omega};clear h;refine Bj O<|Al (λi:Nat=>[(3,i7 i),(1,.ref 1 0)]) (λ_=>[(1,some (.immb 49 5 (dTmc (.mk C n x q p))))]) [2,3] (λi=>p.length-i) (λi=>i<=p.length/\(List.all · BW) p=(List.all · BW) (p.drop i)) 0 ⟨AK _,rfl⟩ AP AG O λi r z=>?_;refine Bj O<|Aa O (λh=>?_) (λh=>?_);simp at h;let⟨t,y⟩:=At h;have e:=r.2;rw[Au y]at e;refine Bj O<|WX O (AQ y)<|AU O<|Ah O (kL t)<|AU O<|Aa O (λh=>?_) (λh=>?_);refine Bj O<|Ab O O (af _ ?_);simp at h;simp[GX,A,e,E9,D4,h];refine Bj O ?_;simp at h;exact Ad (z (i+1) (by omega) ⟨by omega,by rw[e];simp[E9,D4,h]⟩) ⟨Bf,AG⟩ AG O;simp at h;have u:(List.all · BW) p=true:=by{rw[r.2,Bu (by omega)];rfl};clear z r h;refine Bj O<|Al (λi:Nat=>[(4,i7 i),(1,.ref 1 0)]) (λ_=>[(1,some (.immb 49 5 (dTmc (.mk C n x q p))))]) [2,3] (λi=>q.length-i) (λi=>i<=q.length/\E9 q=E9 (q.drop i)) 0 ⟨AK _,rfl⟩ AP AG O λi r z=>?_;refine Bj O<|Aa O (λh=>?_) (λh=>?_);simp at h;let⟨t,y⟩:=At h;have e:=r.2;rw[Au y]at e;refine Bj O<|WX O (Et y)<|AU O<|Ah O (Pv t)<|AU O<|Aa O (λh=>?_) (λh=>?_);refine Bj O<|Ab O O (af _ ?_);simp at h;simp[GX,A,e,E9,D4,h];refine Bj O ?_;simp at h;exact Ad (z (i+1) (by omega) ⟨by omega,by rw[e];simp[E9,D4,h]⟩) ⟨Bf,AG⟩ AG O;simp at h;have B:E9 q=true:=by{rw[r.2,Bu (by omega)];rfl};clear z r h;refine Bj O<|Ab O O (af _ ?_);simp only[GX];have u:p.all BW=true:=u;rw[u,B];simp[A]
termination_by t=>SizeOf.sizeOf t
decreasing_by have:=Cr (AF y);simp_wf;omega
def DU (t:Tm):Bool:=decide (0<=Be t 80 16)&&GX t
def IG (t:Tm):Tq3 25 [.agg (dTmc t)] (.bool (DU t)):=by refine Ac Bp func25 O [1,2,3]<|AU O<|Ah O (W7 t 80 16 (by decide) (by decide) (by decide) (by decide))<|AU O<|Bt O (Pv t)<|AU O<|Ab O O (af _ ?_);simp[DU]
def BZ (op n:Int) (x:Z) (ks:L1 Tm) (ps:L1 Y) (a b c:Bool):Tq3 216 [.agg (dTmc (.mk op n x ks ps)),.bool a,.bool b,.bool c] (.bool (AT n x ps.length a b c)):=by refine Ac Bp func216 O [1,2,3]<|kg [] O (by cases a<;>cases b<;>cases c<;>simp)<|Ab O O (af _ ?_);cases a<;>cases b<;>cases c<;>simp[AT]
def RY (i j k:Nat):Nat:=bif Nat.beq k i then j else bif Nat.beq k j then i else k
def I4 (i j k:Nat):RY i j (RY i j k)=k:=by have r:∀a b:Nat,Nat.beq a b=decide (a=b):=λa b=>by{cases h:Nat.beq a b with|true=>simp[CU h]|false=>{have:a≠b:=λe=>by{subst e;simp at h};simp[this]}};unfold RY;simp only[r];by_cases q:k=i;subst q;simp only[decide_true,bg];by_cases p:j=k;subst p;simp;simp[p];by_cases p:k=j;subst p;simp[q];simp[q,p]
def Z7 (ρ:Nat->Nat):St->St
 |[]=>[]
 |(i,some b)::r=>(ρ i,some (Z8 ρ b))::Z7 ρ r
 |(i,none)::r=>(ρ i,none)::Z7 ρ r
def HA {i j:Nat} {k:Nat} {b:Blk}:∀{st:St},Aw (Z7 (RY i j) st) k b->∃q,Aw st (RY i j k) q/\b=Z8 (RY i j) q
 |[],h=>by simp[Z7,Aw,lk]at h
 |(a,some x)::r,h=>by simp only[Z7]at h;unfold Aw at h ⊢;by_cases p:RY i j a=k;subst p;rw[A7]at h;rw[I4,A7];cases h;exact⟨x,rfl,rfl⟩;rw[AB _ _ p]at h;rw[AB _ _ (λe=>p (by rw[e,I4]))];exact HA h
 |(a,none)::r,h=>by simp only[Z7]at h;unfold Aw at h ⊢;by_cases p:RY i j a=k;subst p;rw[A7]at h;cases h;rw[AB _ _ p]at h;rw[AB _ _ (λe=>p (by rw[e,I4]))];exact HA h
def fh:=@List.Pairwise.map
def AR {n:Nat} {env:Env} (i j:Nat) (B:(Gg F i||Gg F j)=false) (h:DGo P n F Q todo (xN (RY i j) env) (Z7 (RY i j) st) (aa.map (RY i j))):DGo P n F Q todo env st aa:=by
 intro b cs I μ a w A f u;have W:∀k g,μ k=some g->(λk=>μ (RY i j k)) (RY i j k)=some g:=λk g p=>by simp only[I4];exact p
 have hE:Ext I μ st w I (λk=>μ (RY i j k)) (Z7 (RY i j) st) w :=
  {imm:=U.le_refl I,os:=rfl,tape:=rfl,output:=rfl,size:=BO _,block:=λ_ _ _=>rfl,
     fresh:=λb _ ⟨k,c,g,r,C,l⟩=>let⟨D,q,_⟩:=HA r;⟨_,D,g,q,C,l⟩,old:=λ_ _ _=>rfl }
 have K:Conc n I (λk=>μ (RY i j k)) (xN (RY i j) env) (Z7 (RY i j) st) (aa.map (RY i j)) a w :=
  {imm:=u.imm
   blk:=λk c E=>by
    obtain⟨D,r,rfl⟩:=HA E;let⟨g,p,o⟩:=u.blk _ D r;exact⟨g,p,o.ren λx _ g p=>W x g p⟩
   apart:=λk c g m E p z=>by
    obtain⟨D,r,rfl⟩:=HA E;exact u.apart _ D g m r p z
   inj:=λk k' bi bj s v m H J L N R S=>by
    let⟨b1,r,_⟩:=HA H;let⟨b2,C,_⟩:=HA J;have:=u.inj _ _ b1 b2 s v m r C L N R S;have e:=af (RY i j) this
    rwa [I4,I4]at e
   nodup:=by
    have:=u.nodup;rw[List.nodup_iff_pairwise_ne]at this ⊢;exact fh _ (λx y T e=>T (by have e:=af (RY i j) e;rwa [I4,I4]at e)) this
   idsFree:=λk z=>by
    obtain⟨x,hx,rfl⟩:=C7.1 z;show μ (RY i j (RY i j x))=none;rw[I4];exact u.idsFree x hx
   size:=u.size
   env:=λt d E=>by
    obtain⟨d0,r,rfl⟩:=sM E;exact(u.env t d0 r).ren λx _ g p=>W x g p
   defers:=u.defers.ext hE }
 simp only[Lu]at B;have G:∀k∈F,RY i j k=k:=λk z=>by
  have r:Nat.beq k i=false:=by
   cases V:Nat.beq k i with
   |false=>rfl
   |true=>rw[<- CU V,Cp.2 z]at B;cases B.1
  have C:Nat.beq k j=false:=by
   cases V:Nat.beq k j with
   |false=>rfl
   |true=>rw[<- CU V,Cp.2 z]at B;cases B.2
  simp[RY,r,C]
 exact(h b cs I _ a w A f K).mono λe a' w' hp=>hp.back (λk z g p=>by show μ (RY i j k)=some g;rw[G k z];exact p)<|hE
mutual
def Bn:Y->Nat
 |.mk _ _ _ h=>1+A6 h
def A6:L1 Y->Nat
 |[]=>0
 |t::r=>Bn t+A6 r
end
mutual
def Ey:∀(t:Y) (l:Int),0<=B6 t l->B6 t l+Bn t=l
 |.mk _ _ _ q,l,h=>by simp only[B6]at h ⊢;by_cases p:l<1;rw[ae p]at h;omega;rw[ac p]at h ⊢;have:=LW q (l-1) h;simp only[Bn];omega
def LW:∀(q:L1 Y) (l:Int),0<=BA q l->BA q l+A6 q=l
 |[],l,h=>by simp[BA,A6]
 |t::r,l,h=>by simp only[BA]at h ⊢;by_cases p:0<=l;rw[ae p]at h ⊢;have u:=LW r (B6 t l) h;have y:=LX r (B6 t l) (Ld t l).1;have z:=Ey t l (by omega);simp only[A6];omega;rw[ac p]at h;omega
end
mutual
def AS:Y->L1 Z
 |.mk s _ x h=>if s=2 then[x]else AI h
def AI:L1 Y->L1 Z
 |[]=>[]
 |t::r=>AS t++AI r
end
mutual
def OO:∀t:Y,(AS t).length<=Bn t
 |.mk s _ x h=>by simp only[AS,Bn];split;simp;have:=JI h;omega
def JI:∀q:L1 Y,(AI q).length<=A6 q
 |[]=>by simp[AI]
 |t::r=>by have h:=OO t;have p:=JI r;simp only[AI,A6,AZ];omega
end
def G0 (a b:L1 Y):AI (a++b)=AI a++AI b:=by induction a with|nil=>rfl|cons t r h=>{simp[AI,h]}
def Fp (a b:L1 Y):A6 (a++b)=A6 a+A6 b:=by induction a with|nil=>simp[A6]|cons t r h=>{simp[A6,h];omega}
def FP {ps:L1 Y} {t:Y} (h:ps[i]?=some t):A6 (ps.take i)+Bn t<=A6 ps:=by have e:ps=ps.take i++t::ps.drop (i+1):=by{rw[<- Au h,fM]};have:=af A6 e;rw[Fp]at this;simp only[A6]at this;omega
def Wh (l:L1 Z):∀c∈Cq l,c.length=1:=by intro c h;simp only[Cq,C7]at h;obtain⟨a,_,rfl⟩:=h;rfl
def Na:∀(t:Y),Bn t<=1000000->Tq3 155 [.agg (As t)] (.sl (Cq (AS t)))
 |.mk s n x u,G=>by refine BH λK=>?_;simp[D8,Gy,As,maxLen]at K;refine Ac Bp func155 O [1,2,3,4,5]<|AU O<|Aa O (λh=>?_) (λh=>?_);refine Bj O<|Ab O O (af _ ?_);simp at h;simp[AS,h,Cq];simp at h;have L:A6 u<=1000000:=by{simp only[Bn]at G;omega};refine Bj O<|Al (λy:Nat×Bool×G1=>[(4,i7 y.1),(3,match y.2.1 with|false=>.nils|true=>.own 2 y.2.2.length),(1,.ref 1 0)]) (λy=>match y.2.1 with|false=>[(1,some (.immb 182 4 (As (.mk s n x u))))]|true=>[(2,some (.row 9 1 y.2.2)),(1,some (.immb 182 4 (As (.mk s n x u))))]) [3,4] (λy=>u.length-y.1) (λy=>y.1<=u.length/\Cq (AI (u.take y.1))=y.2.2/\(y.2.1=false->y.2.2=[])) (0,false,[]) ⟨AK _,rfl,λ_=>rfl⟩ AC AG O λy N E=>?_;obtain⟨i,b,es⟩:=y;obtain⟨A,p,r⟩:=N;simp only at A p r;cases b with|false=>{have r:=r O;subst r;refine Bj O<|Aa O (λh=>?_) (λh=>?_);simp at h;let⟨t,z⟩:=At h;have B:=FP z;have C:=OO t;have D:=JI (u.take i);have q:=af List.length p;simp at q;exact Bj O<|WX O (AQ z)<|AU O<|Ah O (Na t (by omega))<|AU O<|BK Bp O ⟨Wh _,by simp[maxLen];omega,by simp;omega,ab⟩<|AU O<|AR 2 3 O<|Ad (E (i+1,true,[]++Cq (AS t)) (by simp only;omega) ⟨by simp only;omega,by simp only;rw[Ba z,G0,Ka,p];simp[AI],λh=>by cases h⟩) ⟨B8 (Gx (by simp only;omega) (by simp only;omega)),AP⟩ AP O;{refine Bj O<|Af ⟨_,rfl,?_,ab⟩;simp at h;rw[CA (by omega)]at p;simp only[AS];rw[ac (by assumption),p];rfl}}|true=>{refine Bj O<|Aa O (λh=>?_) (λh=>?_);simp at h;let⟨t,z⟩:=At h;have B:=FP z;have C:=OO t;have D:=JI (u.take i);have q:=af List.length p;simp at q;exact Bj O<|WX O (AQ z)<|AU O<|Ah O (Na t (by omega))<|AU O<|BK Bp O ⟨Wh _,by simp[maxLen];omega,by simp;omega,ab⟩<|AU O<|AR 2 3 O<|Ad (E (i+1,true,es++Cq (AS t)) (by simp only;omega) ⟨by simp only;omega,by simp only;rw[Ba z,G0,Ka,p];simp[AI],λh=>by cases h⟩) ⟨B8 (Gx (by simp only;omega) (by simp only;omega)),AP⟩ AP O;{refine Cn 2 O<|Bj O<|Af ⟨_,rfl,?_,ab⟩;simp at h;rw[CA (by omega)]at p;simp only[AS];rw[ac (by assumption),p];rfl}}
termination_by t=>SizeOf.sizeOf t
decreasing_by all_goals(have:=Cr (AF z);simp_wf;omega)
def BU (h:L1 Z):L1 Z->Bool
 |[]=>true
 |x::r=>!Bm h x&&BU (h++[x]) r
def JV (l:L1 Z):Bool:=BU [] l
def zay (l:L1 Z) (n:Nat):(Cq l).take n=Cq (l.take n):=by simp[Cq,nT]
def zbj (l:L1 Z):Tq3 218 [.sl (Cq l)] (.bool (JV l)):=by refine BH λr=>?_;simp[D8,Gy,maxLen]at r;refine Ac Bp func218 O [1,2]<|AU O<|Al (λi:Nat=>[(3,i7 i),(0,.imm (.sl (Cq l)))]) (λ_=>[]) [1] (λi=>l.length-i) (λi=>i<=l.length/\JV l=BU (l.take i) (l.drop i)) 0 ⟨AK _,rfl⟩ AP ab O λi q u=>?_;refine Bj O<|Aa O (λh=>?_) (λh=>?_);{simp at h;let⟨t,p⟩:=At h;have e:=q.2;rw[Au p]at e;refine kd [] O (by simp;exact⟨by omega,Wh l⟩)<|ki O (c:=[.str t]) (λ_=>⟨by simp,by simpa using MQ p,rfl⟩) (by simp)<|AU O<|Ai O (v:=.bool (Bm (l.take i) t)) (λ_=>?_) (by simp) ?_;have:=zh2 (l.take i) t;rw[<- zay]at this;exact this;refine kg [] O (by first|exact⟨by kernel_rfl,ab⟩|simp)<|Aa O (λh=>?_) (λh=>?_);refine Bj O<|Ab O O (af _ ?_);rw[e];simp[BU,h];exact Bj O<|Ad (u (i+1) (by omega) ⟨by omega,by rw[e,Ba p];simp[BU,h]⟩) ⟨Bf,AG⟩ ab O};refine Bj O<|Ab O O (af _ ?_);simp at h;rw[q.2,Bu (by omega)];rfl
def CI (t:Y):Bool:=decide (0<=B6 t 12)&&BI t&&JV (AS t)
def zod (t:Y):Tq3 144 [.agg (As t)] (.bool (CI t)):=by refine Ac Bp func144 O [1,2,3]<|AU O<|Ah O (MY t 12 (by decide) (by decide))<|AU O<|Bt O (tA t)<|AU O<|Ai O (v:=.sl (Cq (AS t))) (λh=>Na t ?_) (by simp[Ap]) ?_;simp[Ap]at h;have:=Ey t 12 h.1;omega;refine AU O<|Bt O (zbj (AS t))<|AU O<|Ab O O (af _ ?_);simp[CI]
def Bl (op n:Int) (x:Z) (k p:Nat):Bool :=
 if op=1 then((k:Int)==0)&&AT n x p true false false&&DP n (-1000000000) 1000000000
 else if op=2 then((k:Int)==0)&&AT n x p true false false&&DP n 0 1
 else if op=3\/op=21\/op=25\/op=28 then((k:Int)==0)&&AT n x p false false false
 else if op=4 then((k:Int)==0)&&AT n x p false true false&&BV x
 else if op=5\/op=27 then((k:Int)==1)&&AT n x p false true false&&BV x
 else if op=7 then((k:Int)==2)&&AT n x p false true false&&BV x
 else if op=8 then((k:Int)==3)&&AT n x p false false false
 else if op=14 then decide ((k:Int)<=3)&&AT n x p false true false&&CW x
 else if op=15 then DP p 1 5&&((k:Int)==1+(p:Int))&&AT n x p false false true
 else if op=16\/op=17\/op=19\/op=20\/op=23\/op=26 then((k:Int)==1)&&AT n x p false false false
 else if op=24 then((k:Int)==1)&&AT n x p true false false&&DP n 0 3
 else if op=6\/op=9\/op=10\/op=11\/op=12\/op=13\/op=18\/op=22 then((k:Int)==2)&&AT n x p false false false
 else false
def zje (op n:Int) (x:Z) (ks:L1 Tm) (ps:L1 Y):Tq3 143 [.agg (dTmc (.mk op n x ks ps))] (.bool (Bl op n x ks.length ps.length)):=by refine BH λi=>?_;simp[D8,Gy,dTmc,maxLen]at i;refine Ac Bp func143 O [1,2,3] ?_;by_cases V:op=1;subst V;exact TR [.a] O<|Bt O (BZ 1 n x ks ps true false false)<|AU O<|Bt O (Qi n (-1000000000) 1000000000)<|AU O<|Af ⟨_,rfl,tV (af _ (by simp[Bl])),ab⟩;by_cases W:op=2;subst W;exact TR [.a,.a] O<|Bt O (BZ 2 n x ks ps true false false)<|AU O<|Bt O (Qi n 0 1)<|AU O<|Af ⟨_,rfl,tV (af _ (by simp[Bl])),ab⟩;by_cases a:op=3;subst a;exact TR [.a,.a,.a,.a] O<|Bt O (BZ 3 n x ks ps false false false)<|AU O<|Af ⟨_,rfl,tV (af _ (by simp[Bl])),ab⟩;by_cases h:op=21;subst h;exact TR (D7 4 [.a]) O<|Bt O (BZ 21 n x ks ps false false false)<|AU O<|Af ⟨_,rfl,tV (af _ (by simp[Bl])),ab⟩;by_cases p:op=25;subst p;exact TR (D7 5 [.a]) O<|Bt O (BZ 25 n x ks ps false false false)<|AU O<|Af ⟨_,rfl,tV (af _ (by simp[Bl])),ab⟩;by_cases q:op=28;subst q;exact TR (D7 5 [.a]) O<|Bt O (BZ 28 n x ks ps false false false)<|AU O<|Af ⟨_,rfl,tV (af _ (by simp[Bl])),ab⟩;by_cases b:op=4;subst b;exact TR (D7 6 [.a]) O<|Bt O (BZ 4 n x ks ps false true false)<|AU O<|Bt O (II x)<|AU O<|Af ⟨_,rfl,tV (af _ (by simp[Bl])),ab⟩;by_cases c:op=5;subst c;exact TR (D7 8 [.a]) O<|Bt O (BZ 5 n x ks ps false true false)<|AU O<|Bt O (II x)<|AU O<|Af ⟨_,rfl,tV (af _ (by simp[Bl])),ab⟩;by_cases r:op=27;subst r;exact TR (D7 8 [.a]) O<|Bt O (BZ 27 n x ks ps false true false)<|AU O<|Bt O (II x)<|AU O<|Af ⟨_,rfl,tV (af _ (by simp[Bl])),ab⟩;by_cases d:op=7;subst d;exact TR (D7 9 [.a]) O<|Bt O (BZ 7 n x ks ps false true false)<|AU O<|Bt O (II x)<|AU O<|Af ⟨_,rfl,tV (af _ (by simp[Bl])),ab⟩;by_cases e:op=8;subst e;exact TR (D7 10 [.a]) O<|Bt O (BZ 8 n x ks ps false false false)<|AU O<|Af ⟨_,rfl,tV (af _ (by simp[Bl])),ab⟩;by_cases u:op=14;subst u;exact TR (D7 11 [.a]) O<|Bt O (BZ 14 n x ks ps false true false)<|AU O<|Bt O (Nb x)<|AU O<|Af ⟨_,rfl,tV (af _ (by simp[Bl])),ab⟩;by_cases y:op=15;subst y;refine TR (D7 12 [.a]) O<|Ai O (v:=.bool (DP ps.length 1 5)) (λ_=>by have:=Qi ps.length 1 5;simpa using this) (by simp[Ap])<|AU O<|Bt O (BZ 15 n x ks ps false false true)<|AU O ?_;have hw:IntKind.i64.wrap (1+(ps.length:Int))=1+ps.length\/DP ps.length 1 5=false:=by{by_cases j:ps.length<=5;exact .inl (Gx (by omega) (by omega));exact .inr (by simp[DP];omega)};refine Ab O O (af _ ?_);rcases hw with hw|hw<;>simp[Bl,hw];by_cases z:op=16;subst z;exact TR (D7 14 [.a]) O<|Bt O (BZ 16 n x ks ps false false false)<|AU O<|Af ⟨_,rfl,tV (af _ (by simp[Bl])),ab⟩;by_cases A:op=17;subst A;exact TR (D7 15 [.a]) O<|Bt O (BZ 17 n x ks ps false false false)<|AU O<|Af ⟨_,rfl,tV (af _ (by simp[Bl])),ab⟩;by_cases B:op=19;subst B;exact TR (D7 16 [.a]) O<|Bt O (BZ 19 n x ks ps false false false)<|AU O<|Af ⟨_,rfl,tV (af _ (by simp[Bl])),ab⟩;by_cases C:op=20;subst C;exact TR (D7 17 [.a]) O<|Bt O (BZ 20 n x ks ps false false false)<|AU O<|Af ⟨_,rfl,tV (af _ (by simp[Bl])),ab⟩;by_cases D:op=23;subst D;exact TR (D7 18 [.a]) O<|Bt O (BZ 23 n x ks ps false false false)<|AU O<|Af ⟨_,rfl,tV (af _ (by simp[Bl])),ab⟩;by_cases E:op=26;subst E;exact TR (D7 18 [.a]) O<|Bt O (BZ 26 n x ks ps false false false)<|AU O<|Af ⟨_,rfl,tV (af _ (by simp[Bl])),ab⟩;by_cases G:op=24;subst G;exact TR (D7 19 [.a]) O<|Bt O (BZ 24 n x ks ps true false false)<|AU O<|Bt O (Qi n 0 3)<|AU O<|Af ⟨_,rfl,tV (af _ (by simp[Bl])),ab⟩;by_cases f:op=6;subst f;exact TR (D7 21 [.a]) O<|Bt O (BZ 6 n x ks ps false false false)<|AU O<|Af ⟨_,rfl,tV (af _ (by simp[Bl])),ab⟩;by_cases g:op=9;subst g;exact TR (D7 22 [.a]) O<|Bt O (BZ 9 n x ks ps false false false)<|AU O<|Af ⟨_,rfl,tV (af _ (by simp[Bl])),ab⟩;by_cases K:op=10;subst K;exact TR (D7 23 [.a]) O<|Bt O (BZ 10 n x ks ps false false false)<|AU O<|Af ⟨_,rfl,tV (af _ (by simp[Bl])),ab⟩;by_cases L:op=11;subst L;exact TR (D7 24 [.a]) O<|Bt O (BZ 11 n x ks ps false false false)<|AU O<|Af ⟨_,rfl,tV (af _ (by simp[Bl])),ab⟩;by_cases N:op=12;subst N;exact TR (D7 25 [.a]) O<|Bt O (BZ 12 n x ks ps false false false)<|AU O<|Af ⟨_,rfl,tV (af _ (by simp[Bl])),ab⟩;by_cases R:op=13;subst R;exact TR (D7 26 [.a]) O<|Bt O (BZ 13 n x ks ps false false false)<|AU O<|Af ⟨_,rfl,tV (af _ (by simp[Bl])),ab⟩;by_cases S:op=18;subst S;exact TR (D7 27 [.a]) O<|Bt O (BZ 18 n x ks ps false false false)<|AU O<|Af ⟨_,rfl,tV (af _ (by simp[Bl])),ab⟩;by_cases T:op=22;subst T;exact TR (D7 27 [.a]) O<|Bt O (BZ 22 n x ks ps false false false)<|AU O<|Af ⟨_,rfl,tV (af _ (by simp[Bl])),ab⟩;exact kg [.f,.f,.f,.f,.f,.f,.f,.f,.f,.f,.f,.f,.f,.f,.f,.f,.f,.f,.f,.f,.f,.f,.f,.f,.f,.f,.f,.f] O (by simp[V,W,a,h,p,q,b,c,r,d,e,u,y,z,A,B,C,D,E,G,f,g,K,L,N,R,S,T])<|Af ⟨_,rfl,tV (af _ (by simp[Bl,V,W,a,h,p,q,b,c,r,d,e,u,y,z,A,B,C,D,E,G,f,g,K,L,N,R,S,T])),ab⟩
mutual
def AV:Tm->Bool
 |.mk q n x h p=>Bl q n x h.length p.length&&p.all CI&&Br h
def Br:L1 Tm->Bool
 |[]=>true
 |t::r=>AV t&&Br r
end
def eU:∀(t:Tm),Tq3 85 [.agg (dTmc t)] (.bool (AV t))
 |.mk A n x q p=>by refine BH λD=>?_;simp[D8,Gy,dTmc,maxLen]at D;refine Ac Bp func85 O [1,2,3]<|AU O<|Ah O (zje A n x q p)<|AU O<|Aa O (λh=>?_) (λh=>?_);refine Bj O<|Ab O O (af _ ?_);simp at h;simp[AV,h];simp at h;have B:Bl A n x q.length p.length=true:=h;clear h;refine Bj O<|Al (λi:Nat=>[(3,i7 i),(1,.ref 1 0)]) (λ_=>[(1,some (.immb 49 5 (dTmc (.mk A n x q p))))]) [2,3] (λi=>p.length-i) (λi=>i<=p.length/\(List.all · CI) p=(List.all · CI) (p.drop i)) 0 ⟨AK _,rfl⟩ AP AG O λi r z=>?_;refine Bj O<|Aa O (λh=>?_) (λh=>?_);simp at h;let⟨t,y⟩:=At h;have e:=r.2;rw[Au y]at e;refine Bj O<|WX O (AQ y)<|AU O<|Ah O (zod t)<|AU O<|Aa O (λh=>?_) (λh=>?_);refine Bj O<|Ab O O (af _ ?_);simp at h;simp[AV,B,e,Br,D4,h];refine Bj O ?_;simp at h;exact Ad (z (i+1) (by omega) ⟨by omega,by rw[e];simp[Br,D4,h]⟩) ⟨Bf,AG⟩ AG O;simp at h;have u:(List.all · CI) p=true:=by{rw[r.2,Bu (by omega)];rfl};clear z r h;refine Bj O<|Al (λi:Nat=>[(4,i7 i),(1,.ref 1 0)]) (λ_=>[(1,some (.immb 49 5 (dTmc (.mk A n x q p))))]) [2,3] (λi=>q.length-i) (λi=>i<=q.length/\Br q=Br (q.drop i)) 0 ⟨AK _,rfl⟩ AP AG O λi r z=>?_;refine Bj O<|Aa O (λh=>?_) (λh=>?_);simp at h;let⟨t,y⟩:=At h;have e:=r.2;rw[Au y]at e;refine Bj O<|WX O (Et y)<|AU O<|Ah O (eU t)<|AU O<|Aa O (λh=>?_) (λh=>?_);refine Bj O<|Ab O O (af _ ?_);simp at h;simp[AV,B,e,Br,D4,h];refine Bj O ?_;simp at h;exact Ad (z (i+1) (by omega) ⟨by omega,by rw[e];simp[Br,D4,h]⟩) ⟨Bf,AG⟩ AG O;simp at h;have C:Br q=true:=by{rw[r.2,Bu (by omega)];rfl};clear z r h;refine Bj O<|Ab O O (af _ ?_);simp only[AV];have u:p.all CI=true:=u;rw[u,C];simp[B]
termination_by t=>SizeOf.sizeOf t
decreasing_by have:=Cr (AF y);simp_wf;omega
def Cs (t:Tm):Bool:=decide (0<=Be t 60 14)&&AV t
def Ub (t:Tm):Tq3 29 [.agg (dTmc t)] (.bool (Cs t)):=by refine Ac Bp func29 O [1,2,3]<|AU O<|Ah O (W7 t 60 14 (by decide) (by decide) (by decide) (by decide))<|AU O<|Bt O (eU t)<|AU O<|Ab O O (af _ ?_);simp[Cs]
end Go.Hk
