/- Strings that are gone through, rune by rune; maps that are owned. (And what it stands on.) -/
import Derived.Test.YtcdpbkolkeeopaaGreatRa
import Derived.Test.YtcdpbkolkeeopaaGreatProg
import Derived.KernelRfl
import Derived.RowKit3
import Derived.MapKept
set_option linter.all false
set_option maxRecDepth 100000
set_option maxHeartbeats 4000000
namespace Go.Hk
open Go.Proofs.Tryz
open Go.Proofs
variable {k n k1 m k2 k' H k0 s:Int} {st st' st0 st1:St} {P:Program} {ids F ids' fr l:List Nat} {I J:Imm} {μ ν:Mu} {Q:DQ} {d d':D} {w w':World} {tt:TT} {todo todo':List DI} {v:Value} {ob ob':List Prop} {o:Oper} {i sz off j i0 p0:Nat} {env':Env} {Pn:V->Prop} {f:FuncId} {t e:TypeId} {cx:Prop} {ds das:List D} {g:Option (Bool×Bool)} {x:V} {a:Act} {es:List (List V)} {σ τ1 τ:List (Nat×Nat)} {α β β1 β2:Type} {b:Blk} {vs c cs:List V} {dst d0:Option Nat} {ρ:Nat->Nat} {xs:List Value} {ts:Array TypeId} {s0:List UInt8}
inductive Res where
 | at (todo:List DI) (env:Env) (st:St) (ids:List Nat) (ob:List Prop)
 | bad
inductive Pt where
 | t
 | f
 | a
 | s
def CU:Nat->List Pt->List Pt
 | 0,l=>l
 | n+1,l=>.a::CU n l
def run (tt:TT) (n:Nat):Nat->List Pt->List DI->Env->St->List Nat->List Prop->Res
 | 0,_,k,env,st,ids,ob=>.at k env st ids ob
 | f+1,path,todo,env,st,ids,ob=>match todo with
  | .code (.seq a b)::k=>run tt n f path (.code a :: .code b::k) env st ids ob
  | .code .skip::k=>run tt n f path k env st ids ob
  | .code (.label _)::k=>run tt n f path k env st ids ob
  | .inBlock _::k=>match path with
   | .s::_=>.at k env st ids ob
   | _=>run tt n f path k env st ids ob
  | .inScope _::k=>run tt n f path k env st ids ob
  | .code (.block id c)::k=>run tt n f path (.code c :: .inBlock id::k) env st ids ob
  | .code (.scope c)::k=>run tt n f path (.code c :: .inScope c::k) env st ids ob
  | .code (.exit id)::k=>match KA id k with
   | some k'=>run tt n f path k' env st ids ob
   | none=>.at (.code (.exit id)::k) env st ids ob
  | .code (.region _ ⟨ops⟩ false)::k=>run tt n f path (.ops ops ops::k) env st ids ob
  | .code (.region _ ⟨ops⟩ true)::k=>run tt n f path (.dops ops ops []::k) env st ids ob
  | .ops _ []::k=>run tt n f path k env st ids ob
  | .ops all (o::r)::k=>match FL tt n all o env st ids with
   | .y _ env' []=>run tt n f path (.ops all r::k) env' st ids ob
   | .y _ env' [p]=>run tt n f path (.ops all r::k) env' st ids (p::ob)
   | .y _ env' [p,q]=>run tt n f path (.ops all r::k) env' st ids (p::q::ob)
   | .y _ env' (p::q::l)=>run tt n f path (.ops all r::k) env' st ids (p::q::Jh l ob)
   | .e env' st' ids' []=>run tt n f path (.ops all r::k) env' st' ids' ob
   | .e env' st' ids' [p]=>run tt n f path (.ops all r::k) env' st' ids' (p::ob)
   | .e env' st' ids' (p::l)=>run tt n f path (.ops all r::k) env' st' ids' (p::Jh l ob)
   | .no=>.at (.ops all (o::r)::k) env st ids ob
  | .dops all [] fs::k=>run tt n f path k env st ids ((Ny all fs.reverse=true)::ob)
  | .dops all (o::r) fs::k=>match FL tt n all o env st ids,QB env o.op with
   | .y _ env' [],[]=>run tt n f path (.dops all r (([],[])::fs)::k) env' st ids ob
   | .y _ env' [],[i]=>run tt n f path (.dops all r (([i],[])::fs)::k) env' st ids ob
   | .y _ env' [p],[]=>run tt n f path (.dops all r (([],[])::fs)::k) env' st ids (p::ob)
   | .y _ env' [p],[i]=>run tt n f path (.dops all r (([i],[])::fs)::k) env' st ids (p::ob)
   | .y _ env' (p::l),rd=>run tt n f path (.dops all r ((rd,[])::fs)::k) env' st ids (p::Jh l ob)
   | .e env' ((i,x)::st') ids' ob',[]=>run tt n f path (.dops all r (([],[i])::fs)::k) env' ((i,x)::st') ids' (Jh ob' ob)
   | .e env' ((i,x)::st') ids' ob',[j]=>run tt n f path (.dops all r (([j],[i])::fs)::k) env' ((i,x)::st') ids' (Jh ob' ob)
   | _,_=>.at (.dops all (o::r) fs::k) env st ids ob
  | .code (.cond c x y)::k=>match path,Eg env c with
   | .t::path',some (.imm (.bool t))=>run tt n f path' (.code x::k) env st ids ((t=true)::ob)
   | .f::path',some (.imm (.bool t))=>run tt n f path' (.code y::k) env st ids ((t=false)::ob)
   | .a::path',some (.imm (.bool t))=>run tt n f path' (.code (bif t then x else y)::k) env st ids ob
   | _,_=>.at (.code (.cond c x y)::k) env st ids ob
  | k=>.at k env st ids ob
def G (P:Program) (n:Nat) (F:List Nat) (Q:DQ) (todo:List DI) (env:Env) (st:St) (ids:List Nat):Prop :=
 match todo with
 | .dops all rest fs::k=>DD P n F Q all rest fs.reverse k env st ids
 | todo=>DGo P n F Q todo env st ids
section
variable {n:Nat} {env:Env} {k:List DI}
theorem G.go (h:G P n F Q todo env st ids):DGo P n F Q todo env st ids:=by
 unfold G at h
 split at h
 ·intro b cs I μ a w items hd hc;obtain ⟨i,is,rfl,h1,_⟩:=HT hd;cases i <;> exact h1.elim
 ·exact h
theorem LD.ld_y {all:List Oper} {rd:List Nat} (h:∀st',Agree rd st st'->YD P all o env st' d):LD P Pn all o env st rd [] [] d:=by
 intro I μ st1 ids1 a w hag hst hon;obtain ⟨h1,h2⟩:=h st1 hag I μ _ a w hst hon;exact ⟨λhw=>((h1 hw).mono λv w' ⟨I',q1,q2,q3⟩=>⟨I',μ,q1,q2,Mu.le_refl μ,q3⟩).x,λhw=>⟨rfl,rfl,h2 hw⟩⟩
theorem OD {all:List Oper} {rd:Bool} (h:FL tt n all o env st ids = .y rd env' ob) (hag:Agree (QB env o.op) st st'):FL tt n all o env st' ids = .y rd env' ob:=by
 unfold FL at h ⊢
 split at h
 ·rename_i hg;simp only [Up hag]
  split at h
  ·exact h
  ·exact h
  ·split at h
   ·exact absurd h WH
   ·cases h
 ·rename_i j w0 hg;simp only [Up hag];exact h
theorem oN (h:BK dst d env=BK dst d' env):dst=none\/d=d':=by
 cases dst with
 | none=>exact .inl rfl
 | some t=>simp only [BK,DM,Bc,true_and,and_true] at h;exact .inr h
theorem jN (htt:TTok P tt) {all:List Oper} {rd:Bool} (h:FL tt n all o env st ids = .y rd env' ob) (hob:A4 ob) :
  ∃d,env'=BK o.dst d env/\(∀t,o.dst=some t->t<n)/\(∀c,o.op ≠ .defer c)/\YD P all o env st d/\LD P Pn all o env st (QB env o.op) [] [] d:=by
 obtain ⟨d,e1,e2,e3,e4,_⟩:=PP htt h hob;cases hdst:o.dst with
 | some t =>
  refine ⟨d,by rw [e1,hdst],λt' ht=>e2 t' (by rw [hdst];exact ht),e3,e4,LD.ld_y λst' hag=>?_⟩;obtain ⟨d',e1',_,_,e4',_⟩:=PP htt (OD h hag) hob;rw [e1] at e1';rcases oN e1' with h | h
  ·rw [hdst] at h;cases h
  ·rw [h];exact e4'
 | none =>
  refine ⟨.undef,(by rw [e1,hdst];rfl),(λt' ht=>by cases ht),e3,?_,LD.ld_y λst' hag=>?_⟩
  ·intro I μ ids a w hst hon;obtain ⟨h1,_⟩:=e4 I μ ids a w hst hon;exact ⟨λhw=>(h1 hw).mono λv w' ⟨I',q1,_,q3⟩=>⟨I',q1,.undef _,q3⟩,λ_=>.undef _⟩
  ·obtain ⟨d',_,_,_,e4',_⟩:=PP htt (OD h hag) hob;intro I μ ids a w hst hon;obtain ⟨h1,_⟩:=e4' I μ ids a w hst hon;exact ⟨λhw=>(h1 hw).mono λv w' ⟨I',q1,_,q3⟩=>⟨I',q1,.undef _,q3⟩,λ_=>.undef _⟩
theorem TS (htt:TTok P tt) {all:List Oper} {x:Option Blk} (h:FL tt n all o env st ids = .e env' ((i,x)::st') ids' ob) (hob:A4 ob) :
  ∃d fr,st'=st/\ids=fr++ids'/\env'=BK o.dst d env/\(∀t,o.dst=some t->t<n)/\(∀c,o.op ≠ .defer c)/\ED P all o env st ids d ((i,x)::st') ids'/\LD P Pn all o env st (QB env o.op) fr [(i,x)] d:=by
 have h0:=h;unfold FL at h
 split at h
 ·rename_i hg
  split at h
  ·exact absurd h Ik
  ·exact absurd h Ik
  ·split at h
   ·rename_i d s i2 ob2 he;obtain ⟨rfl,rfl,rfl,e1,e2⟩:=oO h;obtain ⟨fr,wr,q1,q2,_,q4⟩:=Uq he;have hwr:wr=[(i,x)]/\st'=st:=by
     have hcons:∀(op:Op) (env:Env) {d:D} {s:St} {i:List Nat} {ob:List Prop},bU tt env st ids op = .e d s i ob->∃p,s=p::st:=by
      intro op env d s i ob h;obtain ⟨fr,wr,a1,a2,a3,a4⟩:=Uq h;cases op <;> simp only [bU,O8,reduceCtorEq] at h
      all_goals (repeat' split at h) <;> first | (cases h;done) | (cases h;exact ⟨_,rfl⟩)
     obtain ⟨p,hp⟩:=hcons _ _ he;cases hp;have:wr.length=1:=by have:=congrArg List.length q2;simp at this;omega
     match wr,this with
     | [y],_=>simp at q2;exact ⟨by rw [q2],rfl⟩
    obtain ⟨rfl,rfl⟩:=hwr;have hnd:∀c,o.op ≠ .defer c:=λc hc=>by rw [hc,Ur] at he;cases he
    refine ⟨d,fr,rfl,q1,e1,e2,hnd,λI μ a w hst hon=>⟨AH hg,bT htt hst (Bj hon) he hob⟩,λI μ st1 ids1 a w hag hst hon=>⟨λ_=>?_,λhw=>?_⟩⟩
    ·exact (bT htt hst (Bj hon) (q4 st1 ids1 hag) hob).x
    ·rw [AH hg] at hw;cases hw
   ·cases h
 ·split at h
  ·split at h
   ·split at h
    ·exact absurd h Ik
    ·exact absurd h Ik
    ·cases h
   ·cases h
  ·cases h
theorem DE (htt:TTok P tt) (hm:P.follows .mixedOrders=true):∀(f:Nat) (path:List Pt) (todo:List DI) (env:Env) (st:St) (ids:List Nat) (ob0:List Prop) {todo':List DI} {env':Env} {st':St} {ids':List Nat} {ob:List Prop},
  run tt n f path todo env st ids ob0 = .at todo' env' st' ids' ob->A4 ob->A4 ob0/\(G P n F Q todo' env' st' ids'->G P n F Q todo env st ids)
 | 0,path,todo,env,st,ids,ob0,todo',env',st',ids',ob,h,hob=>by
  simp only [run,Res.at.injEq] at h;obtain ⟨rfl,rfl,rfl,rfl,rfl⟩:=h;exact ⟨hob,id⟩
 | f+1,path,todo,env,st,ids,ob0,todo',env',st',ids',ob,h,hob=>by
  simp only [run] at h;have stop:∀{t:List DI},Res.at t env st ids ob0 = .at todo' env' st' ids' ob->A4 ob0/\(G P n F Q todo' env' st' ids'->G P n F Q t env st ids):=by
   intro t h;simp only [Res.at.injEq] at h;obtain ⟨rfl,rfl,rfl,rfl,rfl⟩:=h;exact ⟨hob,id⟩
  split at h
  ·obtain ⟨h1,h2⟩:=DE htt hm f _ _ _ _ _ _ h hob;exact ⟨h1,λhd=>xW (h2 hd)⟩
  ·obtain ⟨h1,h2⟩:=DE htt hm f _ _ _ _ _ _ h hob;exact ⟨h1,λhd=>IX (h2 hd).go⟩
  ·obtain ⟨h1,h2⟩:=DE htt hm f _ _ _ _ _ _ h hob;exact ⟨h1,λhd=>lJ (h2 hd).go⟩
  ·split at h
   ·simp only [Res.at.injEq] at h;obtain ⟨rfl,rfl,rfl,rfl,rfl⟩:=h;exact ⟨hob,λhd=>Pq hd.go⟩
   ·obtain ⟨h1,h2⟩:=DE htt hm f _ _ _ _ _ _ h hob;exact ⟨h1,λhd=>Pq (h2 hd).go⟩
  ·obtain ⟨h1,h2⟩:=DE htt hm f _ _ _ _ _ _ h hob;exact ⟨h1,λhd=>Yh (h2 hd).go⟩
  ·obtain ⟨h1,h2⟩:=DE htt hm f _ _ _ _ _ _ h hob;exact ⟨h1,λhd=>lK (h2 hd)⟩
  ·obtain ⟨h1,h2⟩:=DE htt hm f _ _ _ _ _ _ h hob;exact ⟨h1,λhd=>lI (h2 hd)⟩
  ·split at h
   ·rename_i he;obtain ⟨h1,h2⟩:=DE htt hm f _ _ _ _ _ _ h hob;exact ⟨h1,λhd=>Az he (h2 hd).go⟩
   ·exact stop h
  ·obtain ⟨h1,h2⟩:=DE htt hm f _ _ _ _ _ _ h hob;exact ⟨h1,λhd=>bY (h2 hd)⟩
  ·obtain ⟨h1,h2⟩:=DE htt hm f _ _ _ _ _ _ h hob;exact ⟨h1,λhd=>tJ hm (h2 hd)⟩
  ·obtain ⟨h1,h2⟩:=DE htt hm f _ _ _ _ _ _ h hob;exact ⟨h1,λhd=>RH (h2 hd).go⟩
  ·rename_i all o r k;have hY:∀{rd:Bool} {env1:Env} {ob1 ob2:List Prop},FL tt n all o env st ids = .y rd env1 ob1->(A4 ob2->A4 ob1/\A4 ob0) ->
     (run tt n f path (.ops all r::k) env1 st ids ob2 = .at todo' env' st' ids' ob)->A4 ob0/\(G P n F Q todo' env' st' ids'->G P n F Q (.ops all (o::r)::k) env st ids):=by
    intro rd env1 ob1 ob2 hs hobs hrun;obtain ⟨h1,h2⟩:=DE htt hm f _ _ _ _ _ _ hrun hob;obtain ⟨h3,h4⟩:=hobs h1;obtain ⟨d,e1,e2,e3,e4,_⟩:=PP htt hs h3;subst e1;exact ⟨h4,λhd=>zc3 e3 e4 e2 (h2 hd)⟩
   have hE:∀{env1:Env} {st1:St} {ids1:List Nat} {ob1 ob2:List Prop},FL tt n all o env st ids = .e env1 st1 ids1 ob1->(A4 ob2->A4 ob1/\A4 ob0) ->
     (run tt n f path (.ops all r::k) env1 st1 ids1 ob2 = .at todo' env' st' ids' ob)->A4 ob0/\(G P n F Q todo' env' st' ids'->G P n F Q (.ops all (o::r)::k) env st ids):=by
    intro env1 st1 ids1 ob1 ob2 hs hobs hrun;obtain ⟨h1,h2⟩:=DE htt hm f _ _ _ _ _ _ hrun hob;obtain ⟨h3,h4⟩:=hobs h1;obtain ⟨d,e1,e2,e3,e4⟩:=vL htt hs h3;subst e1;exact ⟨h4,λhd=>zc5 e3 e4 e2 (h2 hd)⟩
   split at h
   ·rename_i hs;refine hY hs ?_ h;intro q;exact ⟨trivial,q⟩
   ·rename_i hs;refine hY hs ?_ h;intro q;exact ⟨⟨q.1,trivial⟩,q.2⟩
   ·rename_i hs;refine hY hs ?_ h;intro q;exact ⟨⟨q.1,q.2.1,trivial⟩,q.2.2⟩
   ·rename_i hs;refine hY hs ?_ h;intro q;exact ⟨⟨q.1,q.2.1,(B4 q.2.2).1⟩,(B4 q.2.2).2⟩
   ·rename_i hs;refine hE hs ?_ h;intro q;exact ⟨trivial,q⟩
   ·rename_i hs;refine hE hs ?_ h;intro q;exact ⟨⟨q.1,trivial⟩,q.2⟩
   ·rename_i hs;refine hE hs ?_ h;intro q;exact ⟨⟨q.1,(B4 q.2).1⟩,(B4 q.2).2⟩
   ·exact stop h
  ·obtain ⟨h1,h2⟩:=DE htt hm f _ _ _ _ _ _ h hob;exact ⟨h1.2,λhd=>zbm h1.1 (h2 hd).go⟩
  ·rename_i all o r fs k;have hY:∀{rd:Bool} {env1:Env} {ob1 ob2:List Prop} {rds:List Nat},FL tt n all o env st ids = .y rd env1 ob1->QB env o.op=rds->(A4 ob2->A4 ob1/\A4 ob0) ->
     (run tt n f path (.dops all r ((rds,[])::fs)::k) env1 st ids ob2 = .at todo' env' st' ids' ob)->A4 ob0/\(G P n F Q todo' env' st' ids'->G P n F Q (.dops all (o::r) fs::k) env st ids):=by
    intro rd env1 ob1 ob2 rds hs hrd hobs hrun;obtain ⟨h1,h2⟩:=DE htt hm f _ _ _ _ _ _ hrun hob;obtain ⟨h3,h4⟩:=hobs h1;obtain ⟨d,e1,e2,e3,_,e5⟩:=jN htt hs h3;subst e1;rw [hrd] at e5;refine ⟨h4,λhd=>?_⟩;have:=h2 hd;simp only [G,ZV] at this ⊢;exact VH (ids':=ids) e5 e2 e3 this
   have hE:∀{env1:Env} {st1:St} {ids1:List Nat} {ob1:List Prop} {rds:List Nat} {i:Nat} {x:Option Blk},FL tt n all o env st ids = .e env1 ((i,x)::st1) ids1 ob1->QB env o.op=rds ->
     (run tt n f path (.dops all r ((rds,[i])::fs)::k) env1 ((i,x)::st1) ids1 (Jh ob1 ob0) = .at todo' env' st' ids' ob)->A4 ob0/\(G P n F Q todo' env' st' ids'->G P n F Q (.dops all (o::r) fs::k) env st ids):=by
    intro env1 st1 ids1 ob1 rds i x hs hrd hrun;obtain ⟨h1,h2⟩:=DE htt hm f _ _ _ _ _ _ hrun hob;obtain ⟨h3,h4⟩:=(RZ _ _).1 h1;obtain ⟨d,fr,rfl,rfl,e1,e2,e3,_,e5⟩:=TS htt hs h3;subst e1;rw [hrd] at e5;refine ⟨h4,λhd=>?_⟩;have:=h2 hd;simp only [G,ZV] at this ⊢;exact VH e5 e2 e3 this
   split at h
   ·rename_i hs hr;refine hY hs hr ?_ h;intro q;exact ⟨trivial,q⟩
   ·rename_i hs hr;refine hY hs hr ?_ h;intro q;exact ⟨trivial,q⟩
   ·rename_i hs hr;refine hY hs hr ?_ h;intro q;exact ⟨⟨q.1,trivial⟩,q.2⟩
   ·rename_i hs hr;refine hY hs hr ?_ h;intro q;exact ⟨⟨q.1,trivial⟩,q.2⟩
   ·rename_i hs _ _;refine hY hs rfl ?_ h;intro q;exact ⟨⟨q.1,(B4 q.2).1⟩,(B4 q.2).2⟩
   ·rename_i hs hr;exact hE hs hr h
   ·rename_i hs hr;exact hE hs hr h
   ·exact stop h
  ·split at h
   ·rename_i t hc;obtain ⟨h1,h2⟩:=DE htt hm f _ _ _ _ _ _ h hob;exact ⟨h1.2,λhd=>Ab hc (λ_=>(h2 hd).go) (λhf=>by rw [h1.1] at hf;cases hf)⟩
   ·rename_i t hc;obtain ⟨h1,h2⟩:=DE htt hm f _ _ _ _ _ _ h hob;exact ⟨h1.2,λhd=>Ab hc (λht=>by rw [h1.1] at ht;cases ht) (λ_=>(h2 hd).go)⟩
   ·rename_i t hc;obtain ⟨h1,h2⟩:=DE htt hm f _ _ _ _ _ _ h hob;refine ⟨h1,λhd=>Ab hc (λht=>?_) (λht=>?_)⟩
    ·subst ht;exact (h2 hd).go
    ·subst ht;exact (h2 hd).go
   ·exact stop h
  ·exact stop h
theorem JL (htt:TTok P tt) (hm:P.follows .mixedOrders=true) (f:Nat) (path:List Pt) (h:run tt n f path todo env st ids [] = .at k env' st' ids' ob) (hob:A4 ob) (hd:G P n F Q k env' st' ids'):G P n F Q todo env st ids :=
 (DE htt hm f path todo env st ids [] h hob).2 hd
end
mutual
def JQ:D->List Nat
 | .ref id _=>[id]
 | .own id _=>[id]
 | .elp id _ _ _=>[id]
 | .hv id _=>[id]
 | .mapr id=>[id]
 | .iter id=>[id]
 | .slc id _ _ _=>[id]
 | .yld id=>[id]
 | .agg cs=>IB cs
 | .tup cs=>IB cs
 | .fn _ a b=>IB a++IB b
 | .iface _ d=>JQ d
 | .guard _ _ d=>JQ d
 | _=>[]
def IB:List D->List Nat
 | []=>[]
 | d::r=>JQ d++IB r
end
mutual
def Jn (ρ:Nat->Nat):D->D
 | .ref id off=>.ref (ρ id) off
 | .own id n=>.own (ρ id) n
 | .elp id k sz f=>.elp (ρ id) k sz f
 | .mapr id=>.mapr (ρ id)
 | .iter id=>.iter (ρ id)
 | .agg cs=>.agg (F3 ρ cs)
 | .tup cs=>.tup (F3 ρ cs)
 | .fn f a b=>.fn f (F3 ρ a) (F3 ρ b)
 | .iface t d=>.iface t (Jn ρ d)
 | .guard c w d=>.guard c w (Jn ρ d)
 | .undef=>.undef
 | .imm x=>.imm x
 | .nils=>.nils
 | .ip t cs off=>.ip t cs off
 | .clip es=>.clip es
 | .slc id off n c=>.slc (ρ id) off n c
 | .yld id=>.yld (ρ id)
 | .raw v=>.raw v
 | .hv id i=>.hv (ρ id) i
def F3 (ρ:Nat->Nat):List D->List D
 | []=>[]
 | d::r=>Jn ρ d::F3 ρ r
end
def WU:Env->List Nat
 | []=>[]
 | (_,d)::r=>JQ d++WU r
def iR (ρ:Nat->Nat):Env->Env
 | []=>[]
 | (t,d)::r=>(t,Jn ρ d)::iR ρ r
theorem dN {ρ:Nat->Nat}:∀{env:Env} {t:Nat} {d:D},lk (iR ρ env) t=some d->∃d0,lk env t=some d0/\d=Jn ρ d0
 | [],t,d,h=>by simp [iR,lk] at h
 | (s,x)::r,t,d,h=>by
  simp only [iR] at h;by_cases hs:s=t
  ·subst hs;rw [A0] at h ⊢;cases h;exact ⟨x,rfl,rfl⟩
  ·rw [A6 _ _ hs] at h ⊢;exact dN h
theorem Zx:∀{env:Env} {t:Nat} {d:D},lk env t=some d->∀i∈JQ d,i∈WU env
 | [],t,d,h,_,_=>by simp [lk] at h
 | (s,x)::r,t,d,h,i,hi=>by
  simp only [WU,BN];by_cases hs:s=t
  ·subst hs;rw [A0] at h;cases h;exact .inl hi
  ·rw [A6 _ _ hs] at h;exact .inr (Zx h i hi)
theorem G7 (ρ:Nat->Nat):∀l:List D,F3 ρ l=l.map (Jn ρ)
 | []=>rfl
 | d::r=>by simp [F3,G7 ρ r]
theorem Js {d:D} {i:Nat}:∀{l:List D},d∈l->i∈JQ d->i∈IB l
 | [],h,_=>by simp at h
 | x::r,h,hi=>by
  simp only [IB,BN];rcases Cy.1 h with rfl | h
  ·exact .inl hi
  ·exact .inr (Js h hi)
theorem RepD.ren (h:RepD I μ v d):(∀i∈JQ d,∀g,μ i=some g->ν (ρ i)=some g)->RepD I ν v (Jn ρ d):=by
 have at_:∀{l:List D} {i:Nat} {x:D},(F3 ρ l)[i]?=some x->∃y,l[i]?=some y/\x=Jn ρ y:=by
  intro l i x hx;rw [G7,Ep] at hx;cases hl:l[i]? with
  | none=>rw [hl] at hx;cases hx
  | some y=>rw [hl] at hx;cases hx;exact ⟨y,rfl,rfl⟩
 induction h with
 | undef v=>intro _;exact .undef v
 | imm v x hx=>intro _;exact .imm v x hx
 | nils=>intro _;exact .nils
 | ref b id off hm=>intro hn;exact .ref b _ off (hn id (by simp [JQ]) _ hm)
 | ip b o t cs off vs hcell hrep=>intro _;exact .ip b o t cs off vs hcell hrep
 | agg cs ds hl h1 _ ih =>
  intro hn;refine .agg cs _ (by rw [G7,Dn,hl]) h1 λi c x hc hx=>?_;obtain ⟨y,hy,rfl⟩:=at_ hx;exact ih i c y hc hy λj hj=>hn j (by simp only [JQ];exact Js (AF hy) hj)
 | tup cs ds hl _ ih =>
  intro hn;refine .tup cs _ (by rw [G7,Dn,hl]) λi c x hc hx=>?_;obtain ⟨y,hy,rfl⟩:=at_ hx;exact ih i c y hc hy λj hj=>hn j (by simp only [JQ];exact Js (AF hy) hj)
 | own id len a cap hm=>intro hn;exact .own _ len a cap (hn id (by simp [JQ]) _ hm)
 | elp b id len cap k sz f hm=>intro hn;exact .elp b _ len cap k sz f (hn id (by simp [JQ]) _ hm)
 | mapr id b hm=>intro hn;exact .mapr _ b (hn id (by simp [JQ]) _ hm)
 | iter id b hm=>intro hn;exact .iter _ b (hn id (by simp [JQ]) _ hm)
 | fn f first cap df dc hf hc _ _ ih1 ih2 =>
  intro hn;refine .fn f first cap _ _ (by rw [G7,Dn,hf]) (by rw [G7,Dn,hc]) (λi c x h1 h2=>?_) (λi c x h1 h2=>?_)
  ·obtain ⟨y,hy,rfl⟩:=at_ h2;exact ih1 i c y h1 hy λj hj=>hn j (by simp only [JQ];exact Mf _ (Js (AF hy) hj))
  ·obtain ⟨y,hy,rfl⟩:=at_ h2;exact ih2 i c y h1 hy λj hj=>hn j (by simp only [JQ];exact ZU _ (Js (AF hy) hj))
 | iface t v d _ ih=>intro hn;exact .iface t v _ (ih hn)
 | guard c want v d _ hu ih=>intro hn;exact .guard c want v _ (λhc=>ih hc hn) hu
 | clip a len es hr=>intro _;exact .clip a len es hr
 | slc b id off len cap hm hl hx=>intro hn;exact .slc b _ off len cap (hn id (by simp [JQ]) _ hm) hl hx
 | yld b id hm=>intro hn;exact .yld b _ (hn id (by simp [JQ]) _ hm)
 | raw v h=>intro _;exact .raw v h
 | hv v id i vs bs hm hi h1=>intro hn;exact .hv v _ i vs bs (hn id (by simp [JQ]) _ hm) hi h1
theorem RepL.ren {vs:List Value} (h:RepL I μ vs ds) (hn:∀i∈IB ds,∀g,μ i=some g->ν (ρ i)=some g):RepL I ν vs (F3 ρ ds):=by
 refine ⟨by rw [G7,Dn,h.1],λi v x hv hx=>?_⟩;rw [G7,Ep] at hx;cases hl:ds[i]? with
 | none=>rw [hl] at hx;cases hx
 | some y =>
  rw [hl] at hx;cases hx;exact (h.2 i v y hv hl).ren λj hj=>hn j (Js (AF hl) hj)
def UZ:Blk->List Nat
 | .cells _ _ cs=>IB cs
 | .bun id _=>[id]
 | .adr id _=>[id]
 | _=>[]
def UP (ρ:Nat->Nat):Blk->Blk
 | .cells t sz cs=>.cells t sz (F3 ρ cs)
 | .map kv=>.map kv
 | .immb t sz xs=>.immb t sz xs
 | .row t sz es=>.row t sz es
 | .siter s pos=>.siter s pos
 | .pin=>.pin
 | .bun id S=>.bun (ρ id) S
 | .hp A=>.hp A
 | .adr id b=>.adr (ρ id) b
 | .mapx kv b es c=>.mapx kv b es c
 | .miter b s z c=>.miter b s z c
theorem BlkRep.ren {g:Value} {blk:Blk} (h:BlkRep I μ w g blk) (hn:∀i∈UZ blk,∀g,μ i=some g->ν (ρ i)=some g):BlkRep I ν w g (UP ρ blk):=by
 cases blk with
 | immb t sz xs=>exact h
 | cells t sz cs =>
  obtain ⟨hs,b,vs,h1,h2,h3,h4⟩:=h;exact ⟨by rw [G7,Dn,hs],b,vs,h1,h2,h3.ren hn,h4⟩
 | row t sz es=>exact h
 | map kv=>exact h
 | siter s pos=>exact h
 | pin=>exact h
 | bun id S =>
  obtain ⟨b,bs,h1,h2,h3⟩:=h;exact ⟨b,bs,hn id (by simp [UZ]) _ h1,h2,h3⟩
 | hp A=>exact h
 | adr id b=>exact ⟨h.1,hn id (by simp [UZ]) _ h.2⟩
 | mapx kv b es c=>exact h
 | miter b s z c=>exact h
theorem RepD.sub (h:RepD I μ v d) (hn:∀i∈JQ d,∀g,μ i=some g->ν i=some g):RepD I ν v d:=by
 have:=h.ren (ν:=ν) (ρ:=λi=>i) hn;have hid:∀d,Jn (λi=>i) d=d:=by
  intro d;refine D.rec (motive_1:=λd=>Jn (λi=>i) d=d) (motive_2:=λl=>F3 (λi=>i) l=l) ?_ ?_ ?_ ?_ ?_ ?_ ?_ ?_ ?_ ?_ ?_ ?_ ?_ ?_ ?_ ?_ ?_ ?_ ?_ ?_ ?_ d <;> intros <;> simp_all [Jn,F3]
 rwa [hid] at this
inductive Out where
 | ret (d:D) (st:St)
 | pan (x:V)
def D8 (st:St):List Nat:=st.map (·.1)
def Hy (P:Program) (f:FuncId) (ds:List D) (st:St) (out:Out):Prop :=
 ∀I μ w (xs:Array Value),StRep I μ st [] w->RepL I μ xs.toList ds->valX P ((callFunc f xs).run P w)
  (λu w'=>match out with
   | .ret d st'=>∃I' μ',RepD I' μ' u d/\StRep I' μ' st' [] w'/\Pin (D8 st) μ μ'/\Ext I μ st w I' μ' st' w'
   | .pan _=>False)
  (λchain w'=>match out with
   | .ret _ _=>False
   | .pan x=>Lx (· = x) I μ st w chain w')
def Hh (P:Program) (f:FuncId) (vs:List V) (v:V):Prop:=Hy P f (vs.map .imm) [] (.ret (.imm v) [])
def DN (l:List (Nat×Nat)) (i:Nat):Nat:=match lk l i with
 | some j=>j
 | none=>i
def Bg:List (Nat×Nat)->List (Nat×Nat)
 | []=>[]
 | (a,b)::r=>(b,a)::Bg r
def Do (σ τ:List (Nat×Nat)):List Nat->Bool
 | []=>true
 | i::r=>(match lk σ i with
  | some j=>(match lk τ j with
   | some k=>Nat.beq k i
   | none=>false)
  | none=>false)&&Do σ τ r
theorem KI {σ τ:List (Nat×Nat)}:∀{l:List Nat},Do σ τ l=true->∀i∈l,∃j,lk σ i=some j/\lk τ j=some i
 | [],_,i,hi=>by simp at hi
 | x::r,h,i,hi=>by
  simp only [Do,Ap] at h;rcases Cy.1 hi with rfl | hi
  ·cases h1:lk σ i with
   | none=>simp [h1] at h
   | some j =>
    cases h2:lk τ j with
    | none=>simp [h1,h2] at h
    | some k =>
     simp only [h1,h2] at h;rw [CD h.1] at h2;exact ⟨j,rfl,h2⟩
  ·exact KI h.2 i hi
def F4:St->List Nat
 | []=>[]
 | (i,some b)::r=>i::(UZ b++F4 r)
 | (i,none)::r=>i::F4 r
def DV (τ:List (Nat×Nat)):St->St
 | []=>[]
 | (i,some b)::r=>(DN τ i,some (UP (DN τ) b))::DV τ r
 | (i,none)::r=>(DN τ i,none)::DV τ r
def E8 (σ:List (Nat×Nat)) (st:St):St->Prop
 | []=>True
 | (i,some b)::r=>(match lk (Bg σ) i with
  | some a=>(match lk σ a with
   | some j=>Nat.beq j i=true
   | none=>False)/\(match lk st a with
   | some (some ba)=>UP (DN σ) ba=b/\Do σ (Bg σ) (UZ ba)=true
   | _=>False)
  | none=>False)/\E8 σ st r
 | (_,none)::_=>False
theorem Iy {σ:List (Nat×Nat)} {st:St}:∀{st0:St},E8 σ st st0->∀i b,A1 st0 i b ->
  ∃a ba,lk (Bg σ) i=some a/\lk σ a=some i/\A1 st a ba/\UP (DN σ) ba=b/\Do σ (Bg σ) (UZ ba)=true
 | [],_,i,b,h=>by simp [A1,lk] at h
 | (k,none)::r,h,_,_,_=>h.elim
 | (k,some x)::r,h,i,b,hl=>by
  obtain ⟨h1,h2⟩:=h;by_cases hk:k=i
  ·subst hk;have:x=b:=by unfold A1 at hl;rw [A0] at hl;cases hl;rfl
   subst this;cases ha:lk (Bg σ) k with
   | none=>simp [ha] at h1
   | some a =>
    simp only [ha] at h1;obtain ⟨h3,h4⟩:=h1;cases hj:lk σ a with
    | none=>simp [hj] at h3
    | some j =>
     simp only [hj] at h3;cases hb:lk st a with
     | none=>simp [hb] at h4
     | some ob =>
      cases ob with
      | none=>simp [hb] at h4
      | some ba =>
       simp only [hb] at h4;exact ⟨a,ba,rfl,by rw [hj,CD h3],hb,h4.1,h4.2⟩
  ·refine Iy h2 i b ?_;unfold A1 at hl ⊢
   rwa [A6 _ _ hk] at hl
def Co:List Nat->St
 | []=>[]
 | a::r=>(a,none)::Co r
theorem Mm (h:A1 (Co l++st) i b):i∉l/\A1 st i b:=by
 induction l with
 | nil=>exact ⟨by simp,h⟩
 | cons a r ih =>
  simp only [Co,De] at h;obtain ⟨h1,h2⟩:=BZ.1 h;obtain ⟨h3,h4⟩:=ih h2;exact ⟨by simp [h1,h3],h4⟩
theorem LU {τ:List (Nat×Nat)} {st:St} {i:Nat} {b:Blk}:∀{st1:St},A1 (DV τ st1++st) i b ->
  (∃j b1,A1 st1 j b1/\i=DN τ j/\b=UP (DN τ) b1)\/A1 st i b
 | [],h=>.inr h
 | (k,some x)::r,h=>by
  simp only [DV,De] at h;rcases AB.1 h with ⟨h1,h2⟩ | ⟨h1,h2⟩
  ·exact .inl ⟨k,x,by unfold A1;rw [A0],h1,h2⟩
  ·rcases LU h2 with ⟨j,b1,q1,q2,q3⟩ | q
   ·refine .inl ⟨j,b1,?_,q2,q3⟩;unfold A1 at q1 ⊢;rw [A6 _ _ (λe=>by subst e;exact h1 q2)];exact q1
   ·exact .inr q
 | (k,none)::r,h=>by
  simp only [DV,De] at h;obtain ⟨h1,h2⟩:=BZ.1 h;rcases LU h2 with ⟨j,b1,q1,q2,q3⟩ | q
  ·refine .inl ⟨j,b1,?_,q2,q3⟩;unfold A1 at q1 ⊢;rw [A6 _ _ (λe=>by subst e;exact h1 q2)];exact q1
  ·exact .inr q
theorem Kn:∀{σ:List (Nat×Nat)} {i a:Nat},lk (Bg σ) i=some a->(a,i)∈σ
 | [],i,a,h=>by simp [Bg,lk] at h
 | (x,y)::r,i,a,h=>by
  simp only [Bg] at h;by_cases hy:y=i
  ·subst hy;rw [A0] at h;cases h;simp
  ·rw [A6 _ _ hy] at h;exact Ip _ (Kn h)
theorem Rg:∀{σ:List (Nat×Nat)} {i a:Nat},lk σ i=some a->(i,a)∈σ
 | [],i,a,h=>by simp [lk] at h
 | (x,y)::r,i,a,h=>by
  by_cases hy:x=i
  ·subst hy;rw [A0] at h;cases h;simp
  ·rw [A6 _ _ hy] at h;exact Ip _ (Rg h)
theorem MY {l m:List (Nat×Nat)}:(∃a,lk l i=some a/\lk (l++m) i=some a)\/(lk l i=none/\lk (l++m) i=lk m i):=by
 induction l with
 | nil=>exact .inr ⟨rfl,rfl⟩
 | cons p r ih =>
  obtain ⟨x,y⟩:=p;by_cases hx:x=i
  ·subst hx;exact .inl ⟨y,A0 _ _ _,A0 _ _ _⟩
  ·rw [A6 _ _ hx,De,A6 _ _ hx];exact ih
structure gH (σ τ1:List (Nat×Nat)) (das:List D) (st0:St) (d:D) (st1:St) (fr:List Nat):Prop where
 args:Do σ (Bg σ) (IB das)=true
 inv:Do σ (Bg σ) (σ.map (·.1))=true
 given:∀p∈σ,p.2∈D8 st0
 res:Do (Bg σ++τ1) (σ++Bg τ1) (JQ d)=true
 now:Do (Bg σ++τ1) (σ++Bg τ1) (F4 st1)=true
 new:∀p∈τ1,p.2∈fr
theorem EV:∀{st:St} {i:Nat} {b:Blk},A1 st i b->i∈F4 st/\∀j∈UZ b,j∈F4 st
 | [],i,b,h=>by simp [A1,lk] at h
 | (k,x)::r,i,b,h=>by
  by_cases hk:k=i
  ·subst hk;unfold A1 at h;rw [A0] at h;cases h;simp only [F4];exact ⟨by simp,λj hj=>by simp [hj]⟩
  ·have h':A1 r i b:=by unfold A1 at h ⊢;rwa [A6 _ _ hk] at h
   obtain ⟨h1,h2⟩:=EV h';cases x with
   | none=>simp only [F4,Cy];exact ⟨.inr h1,λj hj=>.inr (h2 j hj)⟩
   | some y=>simp only [F4,Cy,BN];exact ⟨.inr (.inr h1),λj hj=>.inr (.inr (h2 j hj))⟩
def HA (σ:List (Nat×Nat)) (μ:Mu):Mu:=λj=>match lk (Bg σ) j with
 | some a=>μ a
 | none=>none
theorem RY (h:Do σ τ l=true) (hi:i∈l):lk τ (DN σ i)=some i:=by
 obtain ⟨j,h1,h2⟩:=KI h i hi;simp [DN,h1,h2]
theorem G4 (hst:StRep I μ st ids w) (hb:E8 σ st st0) (hd:Do σ (Bg σ) (IB das)=true) (hx:RepL I μ xs das) :
  StRep I (HA σ μ) st0 [] w/\RepL I (HA σ μ) xs (F3 (DN σ) das)/\∀b,Bq (HA σ μ) st0 b->Bq μ st b:=by
 have hn:∀{l:List Nat},Do σ (Bg σ) l=true->∀i∈l,∀g,μ i=some g->HA σ μ (DN σ i)=some g:=by
  intro l hl i hi g hg;unfold HA;rw [RY hl hi];exact hg
 have hl:∀i b g,A1 st0 i b->HA σ μ i=some g->∃a ba,A1 st a ba/\μ a=some g/\lk σ a=some i:=by
  intro i b g hi hg;obtain ⟨a,ba,h1,h2,h3,_⟩:=Iy hb i b hi;exact ⟨a,ba,h3,by simpa [HA,h1] using hg,h2⟩
 refine ⟨{ imm:=hst.imm,blk:=λi b h=>?_,apart:=λi b g k h hg hk=>?_,inj:=λi j bi bj gi gj k hi hj hgi hgj hki hkj=>?_,nodup:=.nil,idsFree:=λ_ h=>by simp at h },hx.ren (hn hd),?_⟩
 ·obtain ⟨a,ba,h1,h2,h3,h4,h5⟩:=Iy hb i b h;obtain ⟨g,hg,hr⟩:=hst.blk a ba h3;refine ⟨g,by simp [HA,h1,hg],?_⟩;rw [<- h4];exact hr.ren (hn h5)
 ·obtain ⟨a,ba,h1,h2,_⟩:=hl i b g h hg;exact hst.apart a ba g k h1 h2 hk
 ·obtain ⟨a,ba,h1,h2,h3⟩:=hl i bi gi hi hgi;obtain ⟨a',ba',h1',h2',h3'⟩:=hl j bj gj hj hgj;have:=hst.inj a a' ba ba' gi gj k h1 h1' h2 h2' hki hkj;subst this;rw [h3] at h3';cases h3';rfl
 ·rintro b ⟨i,bi,g,h1,h2,h3⟩;obtain ⟨a,ba,q1,q2,_⟩:=hl i bi g h1 h2;exact ⟨a,ba,g,q1,q2,h3⟩
theorem Lq (hst:StRep I μ st (fr++ids') w) (hb:E8 σ st st0) (hn:gH σ τ1 das st0 d st1 fr) {I':Imm} {μ':Mu} {u:Value} (hu:RepD I' μ' u d) (hst':StRep I' μ' st1 [] w') (hp:Pin (D8 st0) (HA σ μ) μ') (he:Ext I (HA σ μ) st0 w I' μ' st1 w') (hsub:∀b,Bq (HA σ μ) st0 b->Bq μ st b) :
  ∃ν,StRep I' ν (DV (Bg σ++τ1) st1++Co (σ.map (·.1))++st) ids' w'/\RepD I' ν u (Jn (DN (Bg σ++τ1)) d)/\μ.le ν /\
   Ext I μ st w I' ν (DV (Bg σ++τ1) st1++Co (σ.map (·.1))++st) w':=by
 have hfree:∀i∈fr,μ i=none:=λi hi=>hst.idsFree i (by simp [hi]);have hgiven:∀i j,lk σ i=some j->lk (Bg σ) j=some i/\∃g,μ i=some g:=by
  intro i j hij;have hinv:lk (Bg σ) j=some i:=by
   obtain ⟨j',h1,h2⟩:=KI hn.inv i (C2.2 ⟨(i,j),Rg hij,rfl⟩);rw [hij] at h1;cases h1;exact h2
  refine ⟨hinv,?_⟩;have h1:=hn.given _ (Rg hij);obtain ⟨⟨j',x⟩,h2,h3⟩:=C2.1 h1;have h3:j'=j:=h3;subst h3;have:∀{st0:St},E8 σ st st0->(j',x)∈st0->∃g,μ i=some g:=by
   intro st0
   induction st0 with
   | nil=>intro _ h;simp at h
   | cons p r ih =>
    obtain ⟨k,y⟩:=p;intro h hm;cases y with
    | none=>exact h.elim
    | some y =>
     rcases Cy.1 hm with e | e
     ·cases e;have h1:=h.1;simp only [hinv] at h1;have h4:=h1.2;cases hb:lk st i with
      | none=>simp [hb] at h4
      | some ob =>
       cases ob with
       | none=>simp [hb] at h4
       | some ba =>
        obtain ⟨g,hg,_⟩:=hst.blk i ba hb;exact ⟨g,hg⟩
     ·exact ih h.2 e
  exact this hb h2
 obtain ⟨ν,hν⟩:∃ν:Mu,ν=λi=>match lk (σ++Bg τ1) i with | some j=>μ' j | none=>μ i:=⟨_,rfl⟩
 have hν1:∀{l:List Nat},Do (Bg σ++τ1) (σ++Bg τ1) l=true->∀i∈l,∀g,μ' i=some g->ν (DN (Bg σ++τ1) i)=some g:=by
  intro l hl i hi g hg;rw [hν];simp only [RY hl hi];exact hg
 have hσ:∀i j,lk σ i=some j->∀g,μ i=some g->ν i=some g:=by
  intro i j hij g hg;have h2:=(hgiven i j hij).1;rw [hν];rcases MY (l:=σ) (m:=Bg τ1) (i:=i) with ⟨a,h3,h4⟩ | ⟨h3,_⟩
  ·rw [hij] at h3;cases h3;simp only [h4];exact hp j (hn.given _ (Rg hij)) g (by simp [HA,h2,hg])
  ·rw [hij] at h3;cases h3
 have hin:∀i,(∃j,lk σ i=some j)\/i∈fr\/ν i=μ i:=by
  intro i;rcases MY (l:=σ) (m:=Bg τ1) (i:=i) with ⟨a,h1,_⟩ | ⟨h1,h2⟩
  ·exact .inl ⟨a,h1⟩
  ·cases h:lk (Bg τ1) i with
   | none=>refine .inr (.inr ?_);rw [hν];simp [h2,h]
   | some j=>exact .inr (.inl (hn.new _ (Kn h)))
 have hle:μ.le ν:=by
  intro i g hg;rcases hin i with ⟨j,h⟩ | h | h
  ·exact hσ i j h g hg
  ·rw [hfree i h] at hg;cases hg
  ·rw [h];exact hg
 have hlive:∀i b,A1 (DV (Bg σ++τ1) st1++Co (σ.map (·.1))++st) i b ->
   (∃j b1,A1 st1 j b1/\(b=UP (DN (Bg σ++τ1)) b1/\i=DN (Bg σ++τ1) j)/\∀g,ν i=some g↔μ' j=some g)\/((∀j,lk σ i≠some j)/\A1 st i b/\ν i=μ i):=by
  intro i b hl;rw [CF] at hl;rcases LU hl with ⟨j,b1,h1,h2,h3⟩ | h
  ·refine .inl ⟨j,b1,h1,⟨h3,h2⟩,λg=>?_⟩;rw [h2,hν];simp only [RY hn.now (EV h1).1]
  ·obtain ⟨h1,h2⟩:=Mm h;have h3:∀j,lk σ i≠some j:=λj hj=>h1 (C2.2 ⟨(i,j),Rg hj,rfl⟩);refine .inr ⟨h3,h2,?_⟩;rcases hin i with ⟨j,h⟩ | h | h
   ·exact absurd h (h3 j)
   ·obtain ⟨g,hg,_⟩:=hst.blk i b h2;rw [hfree i h] at hg;cases hg
   ·exact h
 have hframe:∀i b g k,(∀j,lk σ i≠some j)->A1 st i b->μ i=some g->E6 g k->¬Bq (HA σ μ) st0 k:=by
  rintro i b g k h1 h2 h3 h4 ⟨j,bj,gj,h5,h6,h7⟩;obtain ⟨a,ba,q1,q2,q3,_⟩:=Iy hb j bj h5;simp only [HA,q1] at h6;have:=hst.inj i a b ba g gj k h2 q3 h3 h6 h4 h7;subst this;exact h1 j q2
 have hext:Ext I μ st w I' ν (DV (Bg σ++τ1) st1++Co (σ.map (·.1))++st) w':=by
  refine { imm:=he.imm,os:=he.os,tape:=he.tape,output:=he.output,size:=he.size,block:=λb hb' ho=>he.block b hb' (λh=>ho (hsub b h)),fresh:=λb hb' ho=>?_,old:=λb hb' ho=>he.old b hb' (λh=>ho (hsub b h)) };obtain ⟨i,bi,g,h1,h2,h3⟩:=ho;rcases hlive i bi h1 with ⟨j,b1,q1,_,q3⟩ | ⟨_,q2,q3⟩
  ·exact hsub b (he.fresh b hb' ⟨j,b1,g,q1,(q3 g).1 h2,h3⟩)
  ·exact ⟨i,bi,g,q2,by rw [<- q3];exact h2,h3⟩
 refine ⟨ν,?_,hu.ren (hν1 hn.res),hle,hext⟩;refine { imm:=hst'.imm,blk:=λi b h=>?_,apart:=λi b g k h hg hk=>?_,inj:=λi j bi bj gi gj k hi hj hgi hgj hki hkj=>?_,nodup:=(HM.1 hst.nodup).2.1,idsFree:=λi hi=>?_ }
 ·rcases hlive i b h with ⟨j,b1,q1,q2,q3⟩ | ⟨q1,q2,q3⟩
  ·obtain ⟨g,hg,hr⟩:=hst'.blk j b1 q1;exact ⟨g,(q3 g).2 hg,by rw [q2.1];exact hr.ren λk hk=>hν1 hn.now k ((EV q1).2 k hk)⟩
  ·obtain ⟨g,hg,hr⟩:=hst.blk i b q2;refine ⟨g,by rw [q3];exact hg,(hr.mono he.imm hle).world λk hk=>?_⟩;exact he.block k (hst.apart i b g k q2 hg hk).2 (hframe i b g k q1 q2 hg hk)
 ·rcases hlive i b h with ⟨j,b1,q1,q2,q3⟩ | ⟨q1,q2,q3⟩
  ·exact hst'.apart j b1 g k q1 ((q3 g).1 hg) hk
  ·rw [q3] at hg;obtain ⟨h1,h2⟩:=hst.apart i b g k q2 hg hk;exact ⟨by rw [he.old k h2 (hframe i b g k q1 q2 hg hk)];exact h1,Z5 h2 he.size⟩
 ·rcases hlive i bi hi with ⟨i1,b1,q1,q2,q3⟩ | ⟨q1,q2,q3⟩ <;> rcases hlive j bj hj with ⟨j1,b2,p1,p2,p3⟩ | ⟨p1,p2,p3⟩
  ·have:=hst'.inj i1 j1 b1 b2 gi gj k q1 p1 ((q3 gi).1 hgi) ((p3 gj).1 hgj) hki hkj;subst this;rw [q2.2,p2.2]
  ·rw [p3] at hgj;have hk:=(hst.apart j bj gj k p2 hgj hkj).2;exact absurd (he.fresh k hk ⟨i1,b1,gi,q1,(q3 gi).1 hgi,hki⟩) (hframe j bj gj k p1 p2 hgj hkj)
  ·rw [q3] at hgi;have hk:=(hst.apart i bi gi k q2 hgi hki).2;exact absurd (he.fresh k hk ⟨j1,b2,gj,p1,(p3 gj).1 hgj,hkj⟩) (hframe i bi gi k q1 q2 hgi hki)
  ·rw [q3] at hgi;rw [p3] at hgj;exact hst.inj i j bi bj gi gj k q2 p2 hgi hgj hki hkj
 ·rcases hin i with ⟨j,h⟩ | h | h
  ·obtain ⟨_,g,hg⟩:=hgiven i j h;rw [hst.idsFree i (by simp [hi])] at hg;cases hg
  ·exact absurd rfl ((HM.1 hst.nodup).2.2 i h i hi)
  ·rw [h];exact hst.idsFree i (by simp [hi])
def I7 (cx:Prop) (env:Env):List Operand->Option (List D×List Prop)
 | []=>some ([],[])
 | x::r=>match Eg env x,I7 cx env r with
  | some (.guard c w d),some (ds,o)=>some (d::ds,(cx->c=w)::o)
  | some d,some (ds,o)=>some (d::ds,o)
  | _,_=>none
def Bm:List DI->List Nat×List Nat->Option (List Oper×Oper×List DI)
 | .ops all (o::r)::k,_=>some (all,o,.ops all r::k)
 | .dops all (o::r) fs::k,f=>some (all,o,.dops all r (f::fs)::k)
 | _,_=>none
def BM (n:Nat):Option Nat->Bool
 | some t=>Nat.blt t n
 | none=>true
def Am:Option (Bool×Bool)->Prop
 | none=>True
 | some (c,w)=>c=w
def gD:Option (Bool×Bool)->D->D
 | none,d=>d
 | some (c,w),d=>.guard c w d
def Cq (all:List Oper) (env:Env) (o:Oper):Option (Option (Bool×Bool)) :=
 match o.guard with
 | none=>some none
 | some (j,w)=>match Ms all j with
  | some { dst:=some g,.. }=>match ctl (lk env g) w with
   | some c=>some (some (c,w))
   | none=>none
  | _=>none
structure gG where
 f:FuncId
 vs:List V
 g:Option (Bool×Bool)
 ob:List Prop
 dst:Option Nat
 todo:List DI
def dU (n:Nat) (env:Env) (todo:List DI):Option gG :=
 match Bm todo ([],[]) with
 | some (all,o,todo')=>match o.op,Cq all env o with
  | .call { callee:=.value (.func f),args:=⟨args⟩,.. },some g=>match I7 (Am g) env args with
   | some (ds,ob)=>match LR ds,BM n o.dst with
    | some vs,true=>match o.dst with
     | some t=>some ⟨f,vs,g,ob,some t,todo'⟩
     | none=>some ⟨f,vs,g,ob,none,todo'⟩
    | _,_=>none
   | none=>none
  | .call { callee:=.value (.tmp t),args:=⟨args⟩,.. },some g=>match lk env t,I7 (Am g) env args with
   | some (.imm (.fn (.func f))),some (ds,ob)=>match LR ds,BM n o.dst with
    | some vs,true=>match o.dst with
     | some t=>some ⟨f,vs,g,ob,some t,todo'⟩
     | none=>some ⟨f,vs,g,ob,none,todo'⟩
    | _,_=>none
   | _,_=>none
  | _,_=>none
 | none=>none
section
variable {n:Nat} {env:Env} {k:List DI}
theorem RepV.fnInv {f:Fn} (h:RepV I v (.fn f)):v = .func f #[] #[]:=by cases h;rfl
theorem GK (hc:cx):∀{args:List Operand} {ds:List D} {ob:List Prop},I7 cx env args=some (ds,ob)->A4 ob->(∀x∈args,∀d,Eg env x=some d->RepD I μ (a.eval x) d) ->
  RepL I μ (args.map a.eval) ds
 | [],ds,ob,h,_,_=>by cases h;exact .nil
 | x::r,ds,ob,h,hob,hx=>by
  have hr:∀y∈r,∀d,Eg env y=some d->RepD I μ (a.eval y) d:=λy hy=>hx y (by simp [hy]);simp only [I7] at h
  split at h
  ·rename_i c w0 d ds' o' h1 h2;cases h;exact .mk ((hx x (by simp) _ h1).guardInv (hob.1 hc)) (GK hc h2 hob.2 hr)
  ·rename_i d ds' o' _ h1 h2;cases h;exact .mk (hx x (by simp) _ h1) (GK hc h2 hob hr)
  ·cases h
theorem Fz:∀{vs:List Value} {ds:List D} {xs:List V},FJ ds=some xs->RepL I μ vs ds->RepVL I vs xs
 | [],ds,xs,h,hr=>by
  cases ds with
  | nil=>cases h;exact .nil
  | cons d ds=>simp [RepL] at hr
 | v::vs,ds,xs,h,hr=>by
  cases ds with
  | nil=>simp [RepL] at hr
  | cons d ds =>
   obtain ⟨h1,h2⟩:=hr.cons;cases d <;> simp only [FJ,reduceCtorEq] at h
   ·split at h
    ·cases h;exact .mk h1.immInv (Fz (by assumption) h2)
    ·cases h
   ·split at h
    ·cases h;cases h1;exact .mk .slnil (Fz (by assumption) h2)
    ·cases h
theorem RepD.ipV (h:RepD I μ v (.ip t cs off)):RepV I v (.ip t cs off):=by
 cases h with
 | ip b o _ _ _ vs h1 h2=>exact .ip b o t cs off vs h1 h2
theorem RepV.ipD (h:RepV I v (.ip t cs off)):RepD I μ v (.ip t cs off):=by
 cases h with
 | ip b o _ _ _ vs h1 h2=>exact .ip b o t cs off vs h1 h2
theorem nB (h:zal d=some x) (hr:RepD I μ v d):RepV I v x:=by
 unfold zal at h
 split at h
 ·cases h;exact hr.immInv
 ·cases h;cases hr;exact .slnil
 ·split at h
  ·rename_i xs hx;cases h;obtain ⟨cs,rfl,h1,h2⟩:=hr.aggDInv;have:=Fz hx h1;exact .agg cs xs (by have:=this.1;simpa using this) h2 λi c x hc hx=>this.2 i c x (by simpa using hc) hx
  ·cases h
 ·cases h;exact hr.ipV
 ·cases h
theorem Jj:∀{vs:List Value} {ds:List D} {xs:List V},LP ds=some xs->RepL I μ vs ds->RepVL I vs xs
 | [],[],xs,h,hr=>by
  simp only [LP,Ce] at h;subst h;exact ⟨rfl,λi v x h=>by simp at h⟩
 | v::vs,d::ds,xs,h,hr=>by
  simp only [LP] at h
  split at h
  ·rename_i x xs' h1 h2;cases h;have ih:=Jj (vs:=vs) h2 ⟨by simpa using hr.1,λi v d p q=>hr.2 (i+1) v d (by simpa using p) (by simpa using q)⟩;refine ⟨by simp [ih.1],λi u y p q=>?_⟩;cases i with
   | zero=>simp at p q;rw [<- p,<- q];exact nB h1 (hr.2 0 v d rfl rfl)
   | succ i=>exact ih.2 i u y (by simpa using p) (by simpa using q)
  ·cases h
 | [],_::_,_,_,hr=>by have:=hr.1;simp at this
 | _::_,[],_,_,hr=>by have:=hr.1;simp at this
theorem PO (h:vI d=some x) (hr:RepD I μ v d):RepV I v x:=by
 unfold vI at h
 split at h
 ·cases h;exact hr.immInv
 ·cases h;cases hr;exact .slnil
 ·split at h
  ·rename_i xs hx;cases h;obtain ⟨cs,rfl,h1,h2⟩:=hr.aggDInv;have:=Fz hx h1;exact .agg cs xs (by have:=this.1;simpa using this) h2 λi c x hc hx=>this.2 i c x (by simpa using hc) hx
  ·cases h
 ·split at h
  ·rename_i ds _ xs hx;cases h;generalize hd:D.tup ds=d' at hr;cases hr <;> cases hd;rename_i cs hl h;have:=Jj (vs:=cs.toList) hx ⟨by simpa using hl,λi c x hc hx=>h i c x (by simpa using hc) hx⟩;exact .tup cs xs (by have:=this.1;simpa using this) λi c x hc hx=>this.2 i c x (by simpa using hc) hx
  ·cases h
 ·cases h;exact hr.ipV
 ·cases h;cases hr;assumption
 ·split at h
  ·rename_i xs ys hx hy;cases h;cases hr with
   | fn g first cap df dc hf hc h1 h2 =>
    have q1:=Jj (vs:=first.toList) hx ⟨by simpa using hf,λi v d e1 e2=>h1 i v d (by simpa using e1) e2⟩;have q2:=Jj (vs:=cap.toList) hy ⟨by simpa using hc,λi v d e1 e2=>h2 i v d (by simpa using e1) e2⟩;exact .clo _ first cap xs ys (by simpa using q1.1) (by simpa using q2.1) (λi c x h1 h2=>q1.2 i c x (by simpa using h1) h2) (λi c x h1 h2=>q2.2 i c x (by simpa using h1) h2)
  ·cases h
 ·cases h
theorem Wh:∀{vs:List Value} {ds:List D} {xs:List V},LR ds=some xs->RepL I μ vs ds->RepVL I vs xs
 | [],ds,xs,h,hr=>by
  cases ds with
  | nil=>cases h;exact .nil
  | cons d ds=>simp [RepL] at hr
 | v::vs,ds,xs,h,hr=>by
  cases ds with
  | nil=>simp [RepL] at hr
  | cons d ds =>
   obtain ⟨h1,h2⟩:=hr.cons;simp only [LR] at h
   split at h
   ·cases h;exact .mk (PO (by assumption) h1) (Wh (by assumption) h2)
   ·cases h
theorem IK {f:List Nat×List Nat} {all:List Oper} (h:Bm todo f=some (all,o,todo')) :
  (∃r k,todo = .ops all (o::r)::k/\todo' = .ops all r::k)\/∃r fs k,todo = .dops all (o::r) fs::k/\todo' = .dops all r (f::fs)::k:=by
 unfold Bm at h
 split at h
 ·cases h;exact .inl ⟨_,_,rfl,rfl⟩
 ·cases h;exact .inr ⟨_,_,_,rfl,rfl⟩
 ·cases h
theorem BF {rd:List Nat} {wr:St} {all:List Oper} (h1:Bm todo (rd,wr.map (·.1))=some (all,o,todo')) (hl:LD P (Lw Q) all o env st rd fr wr d) (hn:BM n o.dst=true) (hnd:∀c,o.op ≠ .defer c) (h:G P n F Q todo' (BK o.dst d env) (wr++st) ids'):G P n F Q todo env st (fr++ids'):=by
 have hn':∀t,o.dst=some t->t<n:=λt ht=>by
  unfold BM at hn;rw [ht] at hn;simpa [HG] using hn
 rcases IK h1 with ⟨r,k,rfl,rfl⟩ | ⟨r,fs,k,rfl,rfl⟩
 ·exact zc4 hl hn' hnd h
 ·simp only [G,ZV] at h ⊢;exact VH hl hn' hnd h
def Ff (P:Program) (o:Oper) (env:Env) (f:FuncId) (das:List D) (cx:Prop):Prop :=
 ∀I μ a w,DR I μ env a o.op->cx->∃xs:Array Value,RepL I μ xs.toList das/\(execOp a.eval o).run P w=(callFunc f xs).run P w
theorem Ga {args:List Operand} (ho:o.op = .call { callee:=.value (.func f),args:=⟨args⟩,argTypes:=ts }) (ha:I7 cx env args=some (ds,ob)) (hob:A4 ob) :
  Ff P o env f ds cx:=by
 intro I μ a w hop hc;rw [ho] at hop;refine ⟨(args.map a.eval).toArray,by simpa using GK hc ha hob λx hx=>hop x (by simp [Op.operands,Call.operands,hx]),?_⟩;simp only [execOp,ho,resolve,Act.eval,Deferred.ofValue,Sem.run_bind,Sem.run_pure,Result.andThen_ok,invoke];congr 2;simp
theorem Fy {t:Nat} {args:List Operand} (ho:o.op = .call { callee:=.value (.tmp t),args:=⟨args⟩,argTypes:=ts }) (ht:lk env t=some (.imm (.fn (.func f)))) (ha:I7 cx env args=some (ds,ob)) (hob:A4 ob):Ff P o env f ds cx:=by
 intro I μ a w hop hc;rw [ho] at hop;refine ⟨(args.map a.eval).toArray,by simpa using GK hc ha hob λx hx=>hop x (by simp [Op.operands,Call.operands,hx]),?_⟩;have hv:a.eval (.tmp t) = .func (.func f) #[] #[]:=(hop (.tmp t) (by simp [Op.operands,Call.operands]) _ ht).immInv.fnInv;simp only [execOp,ho,resolve,hv,Deferred.ofValue,Sem.run_bind,Sem.run_pure,Result.andThen_ok,invoke];congr 2;simp
theorem I8 {t:Nat} {args:List Operand} {df dc:List D} (ho:o.op = .call { callee:=.value (.tmp t),args:=⟨args⟩,argTypes:=ts }) (ht:lk env t=some (.fn (.func f) df dc)) (ha:I7 cx env args=some (ds,ob)) (hob:A4 ob):Ff P o env f (df++ds++dc) cx:=by
 intro I μ a w hop hc;rw [ho] at hop;have hd:=GK (I:=I) (μ:=μ) (a:=a) hc ha hob λx hx=>hop x (by simp [Op.operands,Call.operands,hx]);have hf:=hop (.tmp t) (by simp [Op.operands,Call.operands]) _ ht;generalize hv:a.eval (.tmp t)=v at hf;cases hf with
 | fn _ first cap _ _ h1 h2 h3 h4 =>
  refine ⟨first++(args.map a.eval).toArray++cap,?_,?_⟩
  ·simp only [Km];refine RepL.append (RepL.append ⟨by simpa using h1,λi v d hv hd=>h3 i v d (by simpa using hv) hd⟩ hd) ⟨by simpa using h2,λi v d hv hd=>h4 i v d (by simpa using hv) hd⟩
  ·simp only [execOp,ho,resolve,hv,Deferred.ofValue,Sem.run_bind,Sem.run_pure,Result.andThen_ok,invoke];congr 3;simp
theorem FT {all:List Oper} (hg:Cq all env o=some g) (hon:∀t∈o.looksAt all.toArray,∀d,lk env t=some d->RepD I μ (a.tmps.getD t undef) d) :
  Region.wanted o (yielded all.toArray a.tmps)=true↔Am g:=by
 unfold Cq at hg
 split at hg
 ·rename_i hgd;cases hg;simp [Am,AH hgd]
 ·rename_i j w0 hgd
  split at hg
  ·rename_i gs _ _ _ _ _ hj
   split at hg
   ·rename_i c hl;cases hg;rw [Gv] at hj;exact RQ hgd hj rfl hl hon
   ·cases hg
  ·cases hg
theorem PV {all:List Oper} {v:V} (hg:Cq all env o=some g) (hc:Ff P o env f das (Am g)) (hv:LR das=some vs) (hE:Am g->Hh P f vs v):LD P Pn all o env st [] [] [] (gD g (.imm v)):=by
 have key:∀I μ st1 ids1 a w,StRep I μ st1 ids1 w->DR I μ env a o.op->Am g->valX P ((execOp a.eval o).run P w) (λu w'=>∃I' μ',StRep I' μ' st1 ids1 w'/\RepD I' μ' u (gD g (.imm v))/\μ.le μ'/\Ext I μ st1 w I' μ' st1 w') (Lx Pn I μ st1 w):=by
  intro I μ st1 ids1 a w hst hop hcx;obtain ⟨xs,h1,h2⟩:=hc I μ a w hop hcx;have hx:=Wh hv h1;obtain ⟨q1,q2,q3⟩:=G4 (σ:=[]) (st0:=[]) hst trivial (das:=vs.map .imm) (by
   have:∀vs:List V,IB (vs.map .imm)=[]:=λvs=>by induction vs with
    | nil=>rfl
    | cons x r ih=>simp [IB,JQ,ih]
   rw [this];rfl) hx.imm
  have hren:F3 (DN []) (vs.map .imm)=vs.map .imm:=by
   rw [G7];simp [Jn]
  rw [hren] at q2;rw [h2];refine (hE hcx I _ w xs q1 q2).mono (λu w' hu=>?_) (λ_ _ h=>h.elim);obtain ⟨I',μ',r1,r2,r3,r4⟩:=hu;obtain ⟨ν,s1,s2,s3,s4⟩:=Lq (fr:=[]) (ids':=ids1) (σ:=[]) (τ1:=[]) (das:=[]) (st0:=[]) hst trivial ⟨rfl,rfl,λ_ h=>by simp at h,rfl,rfl,λ_ h=>by simp at h⟩ r1 r2 r3 r4 q3;refine ⟨I',ν,s1,?_,s3,s4⟩;cases g with
  | none=>exact s2
  | some p=>exact .guard _ _ _ _ (λ_=>s2) (λhn=>absurd hcx hn)
 intro I μ st1 ids1 a w _ hst hon;have hwant:=FT hg hon;refine ⟨λhw=>key I μ st1 ids1 a w hst (Bj hon) (hwant.1 hw),λhw=>⟨rfl,rfl,?_⟩⟩;cases g with
 | none=>rw [hwant.2 trivial] at hw;cases hw
 | some p=>exact .guard _ _ _ _ (λhc=>by rw [hwant.2 hc] at hw;cases hw) (λ_=>rfl)
theorem Aj {v:V} (h:dU n env todo=some ⟨f,vs,g,ob,dst,todo'⟩) (hE:Am g->Hh P f vs v) (hob:A4 ob) (hk:G P n F Q todo' (BK dst (gD g (.imm v)) env) st ids):G P n F Q todo env st ids:=by
 unfold dU at h;have fin:∀{all:List Oper} {o:Oper} {todo1:List DI} {x:gG},(match o.dst with
   | some t=>some (⟨x.f,x.vs,x.g,x.ob,some t,todo1⟩:gG)
   | none=>some ⟨x.f,x.vs,x.g,x.ob,none,todo1⟩)=some ⟨f,vs,g,ob,dst,todo'⟩->x.f=f/\x.vs=vs/\x.g=g/\x.ob=ob/\o.dst=dst/\todo1=todo':=by
  intro all o todo1 x hx
  split at hx <;> (rename_i hd;cases hx;exact ⟨rfl,rfl,rfl,rfl,hd,rfl⟩)
 split at h
 ·rename_i all o todo1 h1;have hnd:∀cc,o.op = .call cc->∀c,o.op ≠ .defer c:=λcc h c h'=>by rw [h] at h';cases h'
  split at h
  ·rename_i f args ts g ho hg
   split at h
   ·rename_i ds ob ha
    split at h
    ·rename_i vs hv hd;obtain ⟨e1,e2,e3,e4,e5,e6⟩:=fin (all:=all) (x:=⟨f,vs,g,ob,none,todo1⟩) h
     dsimp only at e1 e2 e3 e4
     subst e1;subst e2;subst e3;subst e4;subst e5;subst e6;exact BF (fr:=[]) (wr:=[]) h1 (PV hg (Ga ho ha hob) hv hE) hd (hnd _ ho) hk
    ·cases h
   ·cases h
  ·rename_i t args ts g ho hg
   split at h
   ·rename_i f ds ob ht ha
    split at h
    ·rename_i vs hv hd;obtain ⟨e1,e2,e3,e4,e5,e6⟩:=fin (all:=all) (x:=⟨f,vs,g,ob,none,todo1⟩) h
     dsimp only at e1 e2 e3 e4
     subst e1;subst e2;subst e3;subst e4;subst e5;subst e6;exact BF (fr:=[]) (wr:=[]) h1 (PV hg (Fy ho ht ha hob) hv hE) hd (hnd _ ho) hk
    ·cases h
   ·cases h
  ·cases h
 ·cases h
theorem AI {v:V} (h:dU n env todo=some ⟨f,vs,g,ob,dst,todo'⟩) (hE:Hh P f vs v) (hk:G P n F Q todo' (BK dst (gD g (.imm v)) env) st ids) (hob:A4 ob:=by simp [Am]):G P n F Q todo env st ids:=Aj h (λ_=>hE) hob hk
theorem Af {v:V} (h:dU n env todo=some ⟨f,vs,g,ob,dst,todo'⟩) (hE:Hh P f vs v) (hk:G P n F Q todo' (BK dst (gD g (.imm v)) env) st ids) (hob:A4 ob:=by simp):G P n F Q todo env st ids:=Aj h (λ_=>hE) hob hk
end
def Vr (tt:TT) (st:St) (ty:TypeId):D->Option D
 | .ref id off=>match lk tt ty,lk st id with
  | some i,some (some (.immb _ sz xs))=>MX i (Nat.beq sz i.size) xs off
  | some i,some (some (.cells _ sz cs))=>HO i (Nat.beq sz i.size) cs off
  | _,_=>none
 | _=>none
def pN:D->Bool
 | .guard ..=>false
 | _=>true
def P8 (tt:TT) (env:Env) (st:St):List ResultVar->Option (List D)
 | []=>some []
 | .tmp t::r=>match lk env t,P8 tt env st r with
  | some d,some ds=>match pN d with
   | true=>some (d::ds)
   | false=>none
  | _,_=>none
 | .cell t ty::r=>match lk env t,P8 tt env st r with
  | some a,some ds=>match Vr tt st ty a with
   | some d=>some (d::ds)
   | none=>none
  | _,_=>none
def Ii:List D->D
 | [d]=>d
 | ds=>.tup ds
def My (d:D):D->Prop
 | .imm v=>vI d=some v
 | d'=>d=d'
def IF (st:St):St->Prop
 | []=>True
 | (i,some b)::r=>lk st i=some (some b)/\IF st r
 | (_,none)::_=>False
def JD (tt:TT) (rs:List ResultVar) (out:Out):DQ:=λx env st _=>match x,out with
 | .ret,.ret d st'=>∃ds,P8 tt env st rs=some ds/\My (Ii ds) d/\IF st st'
 | .norm,.ret d st'=>∃ds,P8 tt env st rs=some ds/\My (Ii ds) d/\IF st st'
 | .panic x,.pan y=>x=y
 | _,_=>False
def KJ:Nat->List D->Env
 | _,[]=>[]
 | i,d::r=>(i,d)::KJ (i+1) r
section
variable {env:Env}
theorem F1:∀{st':St},IF st st'->∀i b,A1 st' i b->A1 st i b
 | [],_,i,b,h=>by simp [A1,lk] at h
 | (k,none)::r,h,_,_,_=>h.elim
 | (k,some x)::r,h,i,b,hl=>by
  by_cases hk:k=i
  ·subst hk;unfold A1 at hl;rw [A0] at hl;cases hl;exact h.1
  ·refine F1 h.2 i b ?_;unfold A1 at hl ⊢;rwa [A6 _ _ hk] at hl
theorem StRep.less (hs:StRep I μ st ids w) (h:∀i b,A1 st' i b->A1 st i b) (hn:ids'.Nodup) (hi:∀i∈ids',μ i=none):StRep I μ st' ids' w :=
 {imm:=hs.imm,blk:=λid blk hl=>hs.blk id blk (h _ _ hl),apart:=λid blk g b hl=>hs.apart id blk g b (h _ _ hl),
  inj:=λi j bi bj gi gj b hi hj=>hs.inj i j bi bj gi gj b (h _ _ hi) (h _ _ hj),nodup:=hn,idsFree:=hi }
theorem ZX (htt:TTok P tt) (hst:StRep I μ st ids w) {ty:TypeId} {da:D} (hv:RepD I μ v da) (h:Vr tt st ty da=some d) :
  ∃b u,v = .pointer (some b)/\(loadVar ty b).run P w = .ok u w/\RepD I μ u d:=by
 unfold Vr at h
 split at h
 ·rename_i id off;obtain ⟨b,e1,e2⟩:=hv.refInv;have conv:∀{u:Value},(Instr.loadAt ty (.pointer (some ⟨b,off,none⟩))).run P w = .ok u w->(loadVar ty ⟨b,off,none⟩).run P w = .ok u w:=λh=>by
   simpa [Instr.loadAt,Instr.sureAddr] using h
  split at h
  ·rename_i i bt sz xs hi hl;obtain ⟨g,hg,hlen,b',vs,hg2,hheap,hrep,hone⟩:=hst.blk id _ hl;rw [e2] at hg;cases hg;cases hg2;obtain ⟨u,h1,h2⟩:=MW (P:=P) (w:=w) (I:=I) (μ:=μ) (htt ty i hi) (b:=b) (o:=0) (off:=off) (xs:=xs) (vs:=λj=>vs.toList.getD j undef) (same:=Nat.beq sz i.size)
    (λj x hj=>by
     have hlt:j<xs.length:=(AL.1 hj).1;have hv:vs.toList[j]?=some (vs.toList[j]'(by rw [hrep.1];exact hlt)):=Br _;rw [Dh];have e:vs.toList.getD j undef=vs.toList[j]'(by rw [hrep.1];exact hlt):=by simp [List.getD,hv]
     rw [e];exact ⟨Fb hheap j _ hv,hone _ (IP _)⟩)
    (λj x hj=>by
     have hlt:j<xs.length:=(AL.1 hj).1;have hv:vs.toList[j]?=some (vs.toList[j]'(by rw [hrep.1];exact hlt)):=Br _;have e:vs.toList.getD j undef=vs.toList[j]'(by rw [hrep.1];exact hlt):=by simp [List.getD,hv]
     rw [e];exact hrep.2 j _ _ hv hj)
    (λ_ hs _=>by rw [hlen];exact CD hs) h
   rw [Dh] at h1;exact ⟨_,u,e1,conv h1,h2⟩
  ·rename_i i bt sz cs hi hl;obtain ⟨g,hg,hlen,b',vs,hg2,hheap,hrep,hone⟩:=hst.blk id _ hl;rw [e2] at hg;cases hg;cases hg2;obtain ⟨u,h1,h2⟩:=Xk (P:=P) (w:=w) (I:=I) (μ:=μ) (htt ty i hi) (b:=b) (off:=off) (cs:=cs) (vs:=vs.toList) (same:=Nat.beq sz i.size)
    (λj v hj=>Fb hheap j v hj) hone hrep (λ_ hs _=>by rw [hlen];exact CD hs) h
   exact ⟨_,u,e1,conv h1,h2⟩
  ·cases h
 ·cases h
theorem YQ (b:Addr):(asAddr (.pointer (some b))).run P w = .ok b w:=by simp [asAddr]
theorem UN (htt:TTok P tt) (hst:StRep I μ st ids w) {tmps:Array Value} (he:∀t d,lk env t=some d->RepD I μ (tmps.getD t undef) d) {g:ResultVar->Sem Value} (g1:∀t,g (.tmp t)=pure (tmps.getD t undef))
  (g2:∀a t,g (.cell a t)=do loadVar t (<- asAddr (tmps.getD a undef))):∀{rs:List ResultVar} {ds:List D},P8 tt env st rs=some ds->∃vs,(rs.mapM g).run P w = .ok vs w/\RepL I μ vs ds
 | [],ds,h=>by cases h;exact ⟨[],by simp,.nil⟩
 | .tmp t::r,ds,h=>by
  simp only [P8] at h
  split at h
  ·rename_i d ds' h1 h2
   split at h
   ·cases h;obtain ⟨vs,h3,h4⟩:=UN htt hst he g1 g2 h2;exact ⟨_,by simp only [qD,g1,Sem.run_bind,Sem.run_pure,Result.andThen_ok,h3],.mk (he t d h1) h4⟩
   ·cases h
  ·cases h
 | .cell t ty::r,ds,h=>by
  simp only [P8] at h
  split at h
  ·rename_i a ds' h1 h2
   split at h
   ·rename_i d hd;cases h;obtain ⟨vs,h3,h4⟩:=UN htt hst he g1 g2 h2;obtain ⟨b,u,e1,e2,e3⟩:=ZX htt hst (he t a h1) hd;exact ⟨_,by simp only [qD,g2,Sem.run_bind,Sem.run_pure,Result.andThen_ok,h3,e1,YQ,e2],.mk e3 h4⟩
   ·cases h
  ·cases h
theorem Zb (htt:TTok P tt) (hst:StRep I μ st ids w) {tmps:Array Value} (he:∀t d,lk env t=some d->RepD I μ (tmps.getD t undef) d) {fn:Func} (h:P8 tt env st fn.results.toList=some ds) :
  ∃vs:List Value,(results fn tmps).run P w = .ok (if h:vs.toArray.size=1 then vs.toArray[0] else .tuple vs.toArray) w/\RepL I μ vs ds:=by
 have hm:∀(f:ResultVar->Sem Value) (vs:List Value),(fn.results.toList.mapM f).run P w = .ok vs w->(fn.results.mapM f).run P w = .ok vs.toArray w:=λf vs hf=>by
  rw [Array.mapM_eq_mapM_toList];change Sem.run P (List.mapM f fn.results.toList >>= λl=>pure l.toArray) w=_;simp only [Sem.run_bind,hf,Sem.run_pure,Result.andThen_ok]
 refine Exists.imp (λvs hv=>⟨?_,hv.2⟩) (UN (g:=fun | .tmp t=>pure (tmps.getD t undef) | .cell a t=>do loadVar t (<- asAddr (tmps.getD a undef))) htt hst he (λ_=>rfl) (λ_ _=>rfl) h);have q:=hm _ vs hv.1;unfold results;simp only [Sem.run_bind];exact Eq.trans (congrArg (Result.andThen · (λvs w=>Sem.run P (pure (if h:vs.size=1 then vs[0] else .tuple vs)) w)) q) (by simp)
theorem iQ {vs:List Value} (h:RepL I μ vs ds):RepD I μ (if h:vs.toArray.size=1 then vs.toArray[0] else .tuple vs.toArray) (Ii ds):=by
 have tup:RepD I μ (.tuple vs.toArray) (.tup ds):=.tup _ _ (by simpa using h.1) λi c x hc hx=>h.2 i c x (by simpa using hc) hx
 match vs,ds,h,tup with
 | [],[],_,tup=>simpa [Ii] using tup
 | [v],[d],h,_=>simpa [Ii] using h.2 0 v d rfl rfl
 | v::v'::r,d::d'::s,_,tup=>simpa [Ii] using tup
 | [],_::_,h,_=>simp [RepL] at h
 | _::_,[],h,_=>simp [RepL] at h
 | [_],_::_::_,h,_=>simp [RepL] at h
 | _::_::_,[_],h,_=>simp [RepL] at h
theorem Qr (h:My d d') (hr:RepD I μ v d):RepD I μ v d':=by
 cases d' with
 | imm x=>exact .imm _ _ (PO h hr)
 | _=>(have h:d=_:=h);rw [<- h];exact hr
theorem B1 {f: FuncId} {fn: Func} {c: Code} (hf : P.funcs[f]? = some fn) (hname : (fn.name == "runtime.NumGoroutine") = false) (hb : fn.body = some c) (xs : Array Value) :
  (callFunc f xs).run P w = .ok (.enter f xs) w:=by
 have hn : ¬ fn.name = "runtime.NumGoroutine" := by simpa using hname
 simp [callFunc,hf,hn,hb]
theorem TQ:∀{ds:List D} {i t:Nat} {d:D},lk (KJ i ds) t=some d->∃j,t=i+j/\ds[j]?=some d
 | [],i,t,d,h=>by simp [KJ,lk] at h
 | x::r,i,t,d,h=>by
  simp only [KJ] at h;by_cases hi:i=t
  ·subst hi;rw [A0] at h;cases h;exact ⟨0,rfl,rfl⟩
  ·rw [A6 _ _ hi] at h;obtain ⟨j,h1,h2⟩:=TQ h;exact ⟨j+1,by omega,by simpa using h2⟩
def LN:List Nat->List Nat->Bool
 | [],_=>true
 | x::r,l=>Fp l x&&LN r l
theorem F8:∀{a b:List Nat},LN a b=true->∀i∈a,i∈b
 | [],_,_,i,h=>by simp at h
 | x::r,b,h,i,hi=>by
  simp only [LN,Ap] at h;rcases Cy.1 hi with rfl | hi
  ·exact BT.1 h.1
  ·exact F8 h.2 i hi
def Jr:List Nat->Bool
 | []=>true
 | x::r=>!Fp r x&&Jr r
theorem Il:∀{a:List Nat},Jr a=true->a.Nodup
 | [],_=>.nil
 | x::r,h=>by
  simp only [Jr,Ap,HN] at h;exact L6.2 ⟨λhm=>(by rw [BT.2 hm] at h;cases h.1),Il h.2⟩
theorem RepL.sub {vs:List Value} (h:RepL I μ vs ds) (hn:∀i∈IB ds,∀g,μ i=some g->ν i=some g):RepL I ν vs ds :=
 ⟨h.1,λi v d hv hd=>(h.2 i v d hv hd).sub λj hj=>hn j (Js (AF hd) hj)⟩
theorem BlkRep.sub {g:Value} {blk:Blk} (h:BlkRep I μ w g blk) (hn:∀i∈UZ blk,∀g,μ i=some g->ν i=some g):BlkRep I ν w g blk:=by
 cases blk with
 | immb t sz xs=>exact h
 | cells t sz cs =>
  obtain ⟨hs,b,vs,h1,h2,h3,h4⟩:=h;exact ⟨hs,b,vs,h1,h2,h3.sub hn,h4⟩
 | row t sz es=>exact h
 | map kv=>exact h
 | siter s pos=>exact h
 | pin=>exact h
 | bun id S =>
  obtain ⟨b,bs,h1,h2,h3⟩:=h;exact ⟨b,bs,hn id (by simp [UZ]) _ h1,h2,h3⟩
 | hp A=>exact h
 | adr id b=>exact ⟨h.1,hn id (by simp [UZ]) _ h.2⟩
 | mapx kv b es c=>exact h
 | miter b s z c=>exact h
def RetL (tt:TT) (rs:List ResultVar) (out:Out):DQ:=λx env st _=>match x,out with
 | .ret,.ret d st'=>∃ds,P8 tt env st rs=some ds/\My (Ii ds) d/\∀i b,A1 st' i b->A1 st i b
 | .norm,.ret d st'=>∃ds,P8 tt env st rs=some ds/\My (Ii ds) d/\∀i b,A1 st' i b->A1 st i b
 | .panic x,.pan y=>x=y
 | _,_=>False
theorem tG {f: FuncId} {fn: Func} {c: Code} {ds: List D} {st0: St} {out: Out} (htt : TTok P tt) (hf : P.funcs[f]? = some fn) (hname : (fn.name == "runtime.NumGoroutine") = false) (hb : fn.body = some c) (ids:List Nat) (hsz:Nat.ble ds.length fn.ntmps=true) (hn1:ids.Nodup) (hn2:∀i∈ids,i∉D8 st0) (hn3:∀i∈IB ds,i∈D8 st0) (hn4:∀i∈F4 st0,i∈D8 st0) (h:DGo P fn.ntmps (D8 st0) (RetL tt fn.results.toList out) [.code c] (KJ 0 ds) st0 ids):Hy P f ds st0 out:=by
 intro I μ w xs hst hx;rw [B1 hf hname hb];refine PK hf hb λb cs hbf _ hbr=>?_;obtain ⟨ν,hν⟩:∃ν:Mu,ν=λi=>if Fp (D8 st0) i=true then μ i else none:=⟨_,rfl⟩
 have hν1:∀i∈D8 st0,ν i=μ i:=λi hi=>by rw [hν];simp [BT.2 hi]
 have hlive:∀i b,A1 st0 i b->i∈D8 st0:=by
  intro i b hl;have:∀{st0:St},A1 st0 i b->i∈D8 st0:=by
   intro st0
   induction st0 with
   | nil=>intro h;simp [A1,lk] at h
   | cons p r ih =>
    obtain ⟨k,y⟩:=p;intro h;by_cases hk:k=i
    ·subst hk;simp [D8]
    ·have:A1 r i b:=by unfold A1 at h ⊢;rwa [A6 _ _ hk] at h
     simp only [D8,C6,Cy];exact .inr (ih this)
  exact this hl
 have hst1:StRep I ν st0 ids w:=by
  refine { imm:=hst.imm,blk:=λi b hl=>?_,apart:=λi bb g k hl hg hk=>hst.apart i bb g k hl (by rw [<- hν1 i (hlive i bb hl)];exact hg) hk,inj:=λi j bi bj gi gj k hi hj hgi hgj=>hst.inj i j bi bj gi gj k hi hj (by rw [<- hν1 i (hlive i bi hi)];exact hgi) (by rw [<- hν1 j (hlive j bj hj)];exact hgj),nodup:=hn1,idsFree:=λi hi=>?_ }
  ·obtain ⟨g,hg,hr⟩:=hst.blk i b hl;refine ⟨g,by rw [hν1 i (hlive i b hl)];exact hg,hr.sub λj hj g hgj=>?_⟩;rw [hν1 j (hn4 j ((EV hl).2 j hj))];exact hgj
  ·rw [hν];have:=hn2 i hi;have hm:Fp (D8 st0) i=false:=by
    cases h:Fp (D8 st0) i with
    | false=>rfl
    | true=>exact absurd (BT.1 h) this
   simp [hm]
 have hx1:RepL I ν xs.toList ds:=hx.sub λj hj g hg=>by rw [hν1 j (hn3 j hj)];exact hg
 have hlen:xs.size=ds.length:=by have:=hx.1;simpa using this
 have hsz':ds.length<=fn.ntmps:=by simpa [Nat.ble_eq] using hsz
 have hc:Conc fn.ntmps I ν (KJ 0 ds) st0 ids { tmps:=xs++Array.replicate (fn.ntmps-xs.size) undef,defers:=[] } w :=
  {hst1 with
   size:=(by simp;omega)
   env:=λt d hl=>by
    obtain ⟨j,rfl,hd⟩:=TQ hl;have hj:j<ds.length:=(AL.1 hd).1;have hjx:j<xs.size:=by omega
    have e:(xs++Array.replicate (fn.ntmps-xs.size) undef).getD (0+j) undef=xs[j]:=by
     rw [Dh];simp [Array.getD,Array.getElem_append_left hjx];omega
    rw [e];exact hx1.2 j _ d (by simp [hjx]) hd
   defers:=MarksOk.nil _ _ _ _ }
 have hown:∀b,Bq ν st0 b↔Bq μ st0 b:=λb=>by
  constructor <;> rintro ⟨i,bi,g,h1,h2,h3⟩
  ·exact ⟨i,bi,g,h1,by rw [<- hν1 i (hlive i bi h1)];exact h2,h3⟩
  ·exact ⟨i,bi,g,h1,by rw [hν1 i (hlive i bi h1)];exact h2,h3⟩
 have hrun:=h ⟨b,.inr ⟨hbr,fn,by rw [hbf];exact hf⟩⟩ cs I ν { tmps:=xs++Array.replicate (fn.ntmps-xs.size) undef,defers:=[] } w [.code c] A9 hc;refine hrun.mono λe a' w' hp=>?_;obtain ⟨x,env',st',ids',I',μ',p1,p2,p3,p4,p5',p6⟩:=hp;obtain ⟨rs,m1,m2,m3⟩:=p3.defers;have hrs:∀r∈rs,w.heap.size<=r:=λr hr=>by
  rcases p6 r (by rw [m1];exact C2.2 ⟨r,hr,rfl⟩) with h | h
  ·simp at h
  ·exact h
 obtain ⟨w2,k1,k2,k3,k4,k5,k6⟩:=TL (P:=P) rs w' m2 (λr hr=>(m3 r hr).1);have hS2:StRep I' μ' st' ids' w2 :=
  {imm:=λb o h=>by rw [k6 b (λhm=>by rw [(m3 b hm).2.1] at h;cases h)];exact p3.imm b o h
   blk:=λi b hl=>by
    obtain ⟨g,hg,hr⟩:=p3.blk i b hl;exact ⟨g,hg,hr.world λbb hbb=>k6 bb λhm=>(m3 bb hm).2.2 ⟨i,b,g,hl,hg,hbb⟩⟩
   apart:=λi b g bb hl hg hbb=>by rw [k5];exact p3.apart i b g bb hl hg hbb
   inj:=p3.inj
   nodup:=p3.nodup
   idsFree:=p3.idsFree }
 have p5:Ext I ν st0 w I' μ' st' w2 :=
  {imm:=p5'.imm,os:=k2.trans p5'.os,tape:=k3.trans p5'.tape,output:=k4.trans p5'.output,size:=by rw [k5];exact p5'.size
   block:=λb hb ho=>(k6 b λhm=>by have:=hrs b hm;omega).trans (p5'.block b hb ho),fresh:=p5'.fresh,old:=p5'.old }
 have fin:∀d st1,out = .ret d st1->(∃ds,P8 tt env' st' fn.results.toList=some ds/\My (Ii ds) d/\∀i b,A1 st1 i b->A1 st' i b)->∃w'' v,U6 P a'.defers w' w''/\(results fn a'.tmps).run P w'' = .ok v w'' /\
   (match (Ending.returned v) with
    | .returned v=>(match out with
     | .ret d st'=>∃I' μ',RepD I' μ' v d/\StRep I' μ' st' [] w''/\Pin (D8 st0) μ μ'/\Ext I μ st0 w I' μ' st' w''
     | .pan _=>False)
    | .panicked chain=>(match out with
     | .ret _ _=>False
     | .pan x=>Lx (· = x) I μ st0 w chain w'')
    | .outgrown=>False):=by
  rintro d st1 rfl ⟨ds',r1,r2,r3⟩;obtain ⟨vs,q1,q2⟩:=Zb htt hS2 p3.env r1;refine ⟨w2,_,by rw [m1];exact k1,q1,I',μ',Qr r2 (iQ q2),hS2.less (r3) .nil (λ_ h=>by simp at h),λi hi g hg=>p4 i hi g (by rw [hν1 i hi];exact hg),?_⟩;exact { imm:=p5.imm,os:=p5.os,tape:=p5.tape,output:=p5.output,size:=p5.size,block:=λb hb ho=>p5.block b hb (λh=>ho ((hown b).1 h)),fresh:=λb hb ⟨i,bi,g,h1,h2⟩=>(hown b).1 (p5.fresh b hb ⟨i,bi,g,r3 i bi h1,h2⟩),old:=λb hb ho=>p5.old b hb (λh=>ho ((hown b).1 h)) }
 cases e with
 | normal =>
  cases x <;> simp only [O0] at p1;cases hout:out with
  | ret d st1=>subst hout;exact fin d st1 rfl p2
  | pan y=>subst hout;exact p2.elim
 | ret =>
  cases x <;> simp only [O0] at p1;cases hout:out with
  | ret d st1=>subst hout;exact fin d st1 rfl p2
  | pan y=>subst hout;exact p2.elim
 | panic chain =>
  cases x <;> simp only [O0] at p1;rename_i x;obtain ⟨v,rfl,hv⟩:=p1;cases hout:out with
  | ret d st1=>subst hout;exact p2.elim
  | pan y =>
   subst hout;have p2:x=y:=p2;subst p2;refine ⟨w2,by rw [m1];exact k1,v,x,I',rfl,rfl,hv,hS2.imm,?_⟩;exact { imm:=p5.imm,os:=p5.os,tape:=p5.tape,output:=p5.output,size:=p5.size,block:=λb hb ho=>p5.block b hb (λh=>ho ((hown b).1 h)),fresh:=λb hb ⟨i,bi,g,h1,h2⟩=>by simp [A1,lk] at h1,old:=λb hb ho=>p5.old b hb (λh=>ho ((hown b).1 h)) }
 | exit id =>
  cases x <;> simp only [O0] at p1;exact p2.elim
 | goto l =>
  cases x <;> simp only [O0] at p1;exact p2.elim
 | outgrown=>cases x <;> simp only [O0] at p1
theorem fP {f: FuncId} {fn: Func} {c: Code} {ds: List D} {st0: St} {out: Out} (htt : TTok P tt) (hf : P.funcs[f]? = some fn) (hname : (fn.name == "runtime.NumGoroutine") = false) (hb : fn.body = some c) (ids:List Nat) (hsz:Nat.ble ds.length fn.ntmps=true) (hn:(Jr ids&&Ns ids (D8 st0)&&LN (IB ds) (D8 st0)&&LN (F4 st0) (D8 st0))=true) (h:G P fn.ntmps (D8 st0) (JD tt fn.results.toList out) [.code c] (KJ 0 ds) st0 ids):Hy P f ds st0 out:=by
 simp only [Ap] at hn;obtain ⟨⟨⟨hn1,hn2⟩,hn3⟩,hn4⟩:=hn;refine tG htt hf hname hb ids hsz (Il hn1) (Lh.1 hn2) (F8 hn3) (F8 hn4) (h.go.mono λx env st ids hq=>?_);cases x <;> cases out <;> first
  | exact hq
  | exact hq.elim
  | exact ⟨hq.choose,hq.choose_spec.1,hq.choose_spec.2.1,λi b hl=>F1 hq.choose_spec.2.2 i b hl⟩
theorem Ad {fn:Func} {c:Code} {out:Out} (htt:TTok P tt) (hf:P.funcs[f]?=some fn) (hb:fn.body=some c) (ids : List Nat) (h : G P fn.ntmps (D8 st0) (JD tt fn.results.toList out) [.code c] (KJ 0 ds) st0 ids) (hname : (fn.name == "runtime.NumGoroutine") = false := by decide +kernel) (hsz:Nat.ble ds.length fn.ntmps=true:=by rfl) (hn:(Jr ids&&Ns ids (D8 st0)&&LN (IB ds) (D8 st0)&&LN (F4 st0) (D8 st0))=true:=by rfl):Hy P f ds st0 out:=fP htt hf hname hb ids hsz hn h
end
mutual
def F0:V->Prop
 | .sl es=>es.length<=maxLen/\Qn es
 | .agg cs=>CV cs
 | .tup cs=>CV cs
 | .iface _ x=>F0 x
 | _=>True
def CV:List V->Prop
 | []=>True
 | x::r=>F0 x/\CV r
def Qn:List (List V)->Prop
 | []=>True
 | e::r=>CV e/\Qn r
end
theorem JV:∀{l:List V},CV l↔∀x∈l,F0 x
 | []=>by simp [CV]
 | x::r=>by simp [CV,JV (l:=r)]
theorem SZ:∀{l:List (List V)},Qn l↔∀e∈l,CV e
 | []=>by simp [Qn]
 | x::r=>by simp [Qn,SZ (l:=r)]
def hZ (env:Env):Env->Prop
 | []=>True
 | (t,d')::r=>(match lk env t with
  | some d=>My d d'
  | none=>False)/\hZ env r
def dA:Blk->Blk->Prop
 | .cells t sz cs,.immb t' sz' xs=>t=t'/\sz=sz'/\FJ cs=some xs
 | .immb t sz xs,.cells t' sz' cs=>t=t'/\sz=sz'/\xs.map .imm=cs
 | b,b'=>b=b'
def nH (st:St):St->Prop
 | []=>True
 | (i,some b')::r=>(match lk st i with
  | some (some b)=>dA b b'
  | _=>False)/\nH st r
 | (_,none)::_=>False
def Uf (ids l:List Nat):List Nat->Bool
 | []=>true
 | i::r=>(Fp ids i || !Fp l i)&&Uf ids l r
theorem R3 {ids l:List Nat}:∀{m:List Nat},Uf ids l m=true->∀i∈m,i∈ids\/i∉l
 | [],_,i,h=>by simp at h
 | x::r,h,i,hi=>by
  simp only [Uf,Ap,Ha,HN] at h;rcases Cy.1 hi with rfl | hi
  ·exact h.1.imp (λh=>BT.1 h) λh hm=>by rw [BT.2 hm] at h;cases h
  ·exact R3 h.2 i hi
section
variable {n:Nat} {env:Env} {k:List DI}
theorem RepV.ok (h:RepV I v x):F0 x:=by
 induction h with
 | agg cs xs hl _ _ ih =>
  simp only [F0,JV];intro x hx;obtain ⟨i,hi⟩:=DL.1 hx;have hlt:i<cs.size:=by rw [hl];exact (AL.1 hi).1
  exact ih i cs[i] x (by simp [hlt]) hi
 | tup cs xs hl _ ih =>
  simp only [F0,JV];intro x hx;obtain ⟨i,hi⟩:=DL.1 hx;have hlt:i<cs.size:=by rw [hl];exact (AL.1 hi).1
  exact ih i cs[i] x (by simp [hlt]) hi
 | slnil=>simp [F0,Qn]
 | sl0=>simp [F0,Qn]
 | sl b o len cap sz es vs hl hc hm hsz hcell _ ih =>
  simp only [F0,SZ,JV];refine ⟨by omega,λe he x hx=>?_⟩;obtain ⟨i,hi⟩:=DL.1 he;obtain ⟨j,hj⟩:=DL.1 hx;exact ih i e j x hi hj
 | iface t v x _ ih=>exact ih
 | _=>trivial
theorem NK:∀{env':Env},hZ env env'->∀t d',lk env' t=some d'->∃d,lk env t=some d/\My d d'
 | [],_,t,d',h=>by simp [lk] at h
 | (s,x)::r,h,t,d',hl=>by
  by_cases hs:s=t
  ·subst hs;rw [A0] at hl;cases hl;have h1:=h.1
   split at h1
   ·exact ⟨_,by assumption,h1⟩
   ·exact h1.elim
  ·rw [A6 _ _ hs] at hl;exact NK h.2 t d' hl
theorem NL:∀{st':St},nH st st'->∀i b',A1 st' i b'->∃b,A1 st i b/\dA b b'
 | [],_,i,b,h=>by simp [A1,lk] at h
 | (s,none)::r,h,_,_,_=>h.elim
 | (s,some x)::r,h,i,b',hl=>by
  by_cases hs:s=i
  ·subst hs;unfold A1 at hl;rw [A0] at hl;cases hl;have h1:=h.1
   split at h1
   ·exact ⟨_,by assumption,h1⟩
   ·exact h1.elim
  ·refine NL h.2 i b' ?_;unfold A1 at hl ⊢;rwa [A6 _ _ hs] at hl
theorem gX {g:Value} {b':Blk} (h:dA b b') (hr:BlkRep I μ w g b):BlkRep I μ w g b':=by
 unfold dA at h
 split at h
 ·obtain ⟨rfl,rfl,h⟩:=h;obtain ⟨hs,bb,vs,h1,h2,h3,h4⟩:=hr;have:=Fz h h3;exact ⟨by rw [<- hs,<- h3.1,this.1],bb,vs,h1,h2,this,h4⟩
 ·obtain ⟨rfl,rfl,rfl⟩:=h;obtain ⟨hs,bb,vs,h1,h2,h3,h4⟩:=hr;exact ⟨by simpa using hs,bb,vs,h1,h2,h3.imm,h4⟩
 ·subst h;exact hr
theorem J8 (hE:hZ env env') (hS:nH st st') (hI:(Jr ids'&&Uf ids (WU env'++F4 st'++F) ids')=true) (h:DGo P n F Q todo env' st' ids'):DGo P n F Q todo env st ids:=by
 intro b cs I μ a w items hd hc;simp only [Ap] at hI;obtain ⟨hI1,hI2⟩:=hI;obtain ⟨ν,hν⟩:∃ν:Mu,ν=λi=>if Fp ids' i=true then none else μ i:=⟨_,rfl⟩
 have hno:∀i∈WU env'++F4 st'++F,∀g,μ i=some g->ν i=some g:=by
  intro i hi g hg;rw [hν];have:Fp ids' i=false:=by
   cases hm:Fp ids' i with
   | false=>rfl
   | true =>
    rcases R3 hI2 i (BT.1 hm) with h | h
    ·rw [hc.idsFree i h] at hg;cases hg
    ·exact absurd hi h
  simp [this,hg]
 have hback:∀i g,ν i=some g->μ i=some g:=by
  intro i g hg;rw [hν] at hg;by_cases hm:Fp ids' i=true
  ·simp [hm] at hg
  ·simpa [hm] using hg
 have hlive:∀i b',A1 st' i b'->∃b,A1 st i b:=λi b' hl=>let ⟨b,h1,_⟩:=NL hS i b' hl;⟨b,h1⟩
 have nmE_mem:∀{env:Env} {t:Nat} {d:D},lk env t=some d->∀i∈JQ d,i∈WU env:=by
  intro env
  induction env with
  | nil=>intro t d h;simp [lk] at h
  | cons p r ih =>
   obtain ⟨s,x⟩:=p;intro t d h i hi;simp only [WU,BN];by_cases hs:s=t
   ·subst hs;rw [A0] at h;cases h;exact .inl hi
   ·rw [A6 _ _ hs] at h;exact .inr (ih h i hi)
 have hEx:Ext I μ st w I ν st' w :=
  {imm:=Imm.le_refl I,os:=rfl,tape:=rfl,output:=rfl,size:=BQ _,block:=λ_ _ _=>rfl,
     fresh:=λb _ ⟨i,b',g,h1,h2,h3⟩=>let ⟨bb,q⟩:=hlive i b' h1;⟨i,bb,g,q,hback i g h2,h3⟩,old:=λ_ _ _=>rfl }
 have hc':Conc n I ν env' st' ids' a w :=
  {imm:=hc.imm
   blk:=λi b' hl=>by
    obtain ⟨b,h1,h2⟩:=NL hS i b' hl;obtain ⟨g,hg,hr⟩:=hc.blk i b h1;obtain ⟨q1,q2⟩:=EV hl;exact ⟨g,hno i (by simp [q1]) g hg,(gX h2 hr).sub λj hj g hg=>hno j (by simp [q2 j hj]) g hg⟩
   apart:=λi b' g k hl hg hk=>by
    obtain ⟨b,h1⟩:=hlive i b' hl;exact hc.apart i b g k h1 (hback i g hg) hk
   inj:=λi j bi bj gi gj k hi hj hgi hgj hki hkj=>by
    obtain ⟨b1,h1⟩:=hlive i bi hi;obtain ⟨b2,h2⟩:=hlive j bj hj;exact hc.inj i j b1 b2 gi gj k h1 h2 (hback i gi hgi) (hback j gj hgj) hki hkj
   nodup:=Il hI1
   idsFree:=λi hi=>by rw [hν];simp [BT.2 hi]
   size:=hc.size
   env:=λt d' hl=>by
    obtain ⟨d,h1,h2⟩:=NK hE t d' hl;exact (Qr h2 (hc.env t d h1)).sub λj hj g hg=>hno j (by simp [nmE_mem hl j hj]) g hg
   defers:=hc.defers.ext hEx }
 exact (h b cs I ν a w items hd hc').mono λe a' w' hp=>hp.back (λi hi g hg=>hno i (by simp [hi]) g hg)<|hEx
theorem Ac (h:DGo P n F Q todo env' st' ids') (hE:hZ env env') (hS:nH st st') (hI:(Jr ids'&&Uf ids (WU env'++F4 st'++F) ids')=true):DGo P n F Q todo env st ids:=J8 hE hS hI h
theorem Yg {c:Code} (E:α->Env) (S:α->St) (ids':List Nat) (m:α->Nat) (Inv:α->Prop) (step:∀x,Inv x->(∀x',m x'<m x->Inv x'->DGo P n F Q (.inLoop c::k) (E x') (S x') ids')->DGo P n F Q (.code c :: .inLoop c::k) (E x) (S x) ids') :
  ∀x,Inv x->DGo P n F Q (.inLoop c::k) (E x) (S x) ids':=by
 have:∀b x,m x<b->Inv x->DGo P n F Q (.inLoop c::k) (E x) (S x) ids':=by
  intro b
  induction b with
  | zero=>intro x h;omega
  | succ b ih=>intro x hm hx;exact bZ (step x hx λx' hm' hx'=>ih x' (by omega) hx')
 intro x hx;exact this (m x+1) x (by omega) hx
theorem Ak {c:Code} (E:α->Env) (S:α->St) (ids':List Nat) (m:α->Nat) (Inv:α->Prop) (x0:α) (h0:Inv x0) (hE:hZ env (E x0)) (hS:nH st (S x0)) (hI:(Jr ids'&&Uf ids (WU (E x0)++F4 (S x0)++F) ids')=true) (step:∀x,Inv x->(∀x',m x'<m x->Inv x'->DGo P n F Q (.inLoop c::k) (E x') (S x') ids')->DGo P n F Q (.code c :: .inLoop c::k) (E x) (S x) ids') :
  DGo P n F Q (.code (.loop c)::k) env st ids :=
 SL (J8 hE hS hI (Yg E S ids' m Inv step x0 h0))
theorem FZ {t:Nat} (hl:lk env t=some (.imm x)) (h:F0 x->DGo P n F Q todo env st ids):DGo P n F Q todo env st ids :=
 λb cs I μ a w items hd hc=>h (hc.env t _ hl).immInv.ok b cs I μ a w items hd hc
theorem B3 {v:V} (h:CV vs->Hh P f vs v):Hh P f vs v:=by
 intro I μ w xs hst hx;refine h (JV.2 λx hxm=>?_) I μ w xs hst hx;obtain ⟨j,hj⟩:=DL.1 hxm;have hlt:j<xs.toList.length:=by rw [hx.1];simpa using (AL.1 hj).1
 exact (hx.2 j _ (.imm x) (Br hlt) (by simp [hj])).immInv.ok
end
def NU:List DI->Option Oper
 | .ops _ (o::_)::_=>some o
 | .dops _ (o::_) _::_=>some o
 | _=>none
def I9 (st:St):D->Option (List Nat×List (List V))
 | .nils=>some ([],[])
 | .own id _=>match lk st id with
  | some (some (.row _ _ es))=>some ([id],es)
  | _=>none
 | .clip es=>some ([],es)
 | _=>none
def M0:D->Option (List (List V))
 | .imm (.sl es)=>some es
 | .nils=>some []
 | _=>none
def uD (sz bytes:Nat) (base:D) (es es2:List (List V)):Prop :=
 (∀c∈es2,c.length=sz)/\es.length+es2.length<=maxLen/\(es.length+es2.length)*bytes<=140737488355328 /\
 match base with
 | .clip _=>(∀c∈es,c.length=sz)/\es2≠[]
 | .own _ _=>True
 | _=>True
section
variable {n:Nat} {env:Env} {k:List DI}
theorem RepV.oneV (h:RepV I v x) (h1:v.oneCell'=true):V.one x=true:=by
 cases h <;> first | rfl | simp [Value.oneCell'] at h1
theorem PR (hI:I.ok w) (h:RepV I v (.sl es)) (hs:∀c∈es,c.length=sz) (hp:0<sz) :
  ((∃ad,v = .slice ad 0 0)/\es=[])\/∃b o c news,v = .slice (some ⟨b,o,none⟩) es.length c/\es.length<=c/\c<=maxLen/\news.length=es.length*sz/\(∀j u,news[j]?=some u->w.cell? ((⟨b,o,none⟩:Addr).add j)=some u) /\
   (∀u∈news,u.oneCell'=true)/\RepVL I news es.flatten/\(∀e∈es,∀x∈e,V.one x=true):=by
 cases h with
 | slnil=>exact .inl ⟨⟨_,rfl⟩,rfl⟩
 | sl0 ad=>exact .inl ⟨⟨_,rfl⟩,rfl⟩
 | sl b o len cap sz' _ vs hl hc hm hsz hcell hrep =>
  subst hl;refine .inr ⟨b,o,cap,(List.range (es.length*sz)).map λq=>vs (q / sz) (q % sz),rfl,hc,hm,by simp,?_,?_,?_,?_⟩
  all_goals
   have hget:∀j,j<es.length*sz->∃e x,es[j / sz]?=some e/\e[j % sz]?=some x/\e.length=sz/\sz'=sz:=by
    intro j hj;have h1:j / sz<es.length:=qU (by rw [Rd];exact hj);have h2:j % sz<sz:=Vq _ hp;have h3:=hs es[j / sz] (IP _);have h4:=hsz es[j / sz] (IP _);exact ⟨es[j / sz],(es[j / sz])[j % sz],Br h1,Br (by omega),h3,by omega⟩
  ·intro j u hu;obtain ⟨hlt,rfl⟩:=G9 hu;obtain ⟨e,x,h1,h2,_,rfl⟩:=hget j hlt;have:=Imm.cell_world hI (hcell _ _ _ _ h1 h2).1;rw [HY];rw [show o+j=o+j / sz'*sz'+j % sz' by rw [Xh,Rd,ZT]];exact this
  ·intro u hu;obtain ⟨j,hj⟩:=DL.1 hu;obtain ⟨hlt,rfl⟩:=G9 hj;obtain ⟨e,x,h1,h2,_,rfl⟩:=hget j hlt;exact (hcell _ _ _ _ h1 h2).2
  ·refine ⟨by rw [B0 hs];simp,λj u x hu hx=>?_⟩;obtain ⟨hlt,rfl⟩:=G9 hu;obtain ⟨e,y,h1,h2,_,rfl⟩:=hget j hlt;have h3:=C8 hs _ _ _ _ h1 h2;rw [Rd,ZT,hx] at h3;cases h3;exact hrep _ _ _ _ h1 h2
  ·intro e he x hx;obtain ⟨i,hi⟩:=DL.1 he;obtain ⟨j,hj⟩:=DL.1 hx;exact (hrep _ _ _ _ hi hj).oneV (hcell _ _ _ _ hi hj).2
theorem StRep.renew {id':Nat} (hst:StRep I μ st (id'::ids) w) {rd:List Nat} {v':Value} {blk':Blk} {row:Option Nat} (hg:w.grownBy w' row) (hrow:∀b,row=some b->∃id blk g,id∈rd/\A1 st id blk/\μ id=some g/\E6 g b) (hnew:∀b,E6 v' b->b<w'.heap.size/\(w.heap.size<=b\/∃id blk g,id∈rd/\A1 st id blk/\μ id=some g/\E6 g b)) (hb:∀μ',BlkRep I μ' w' v' blk') :
  ∃μ',μ' id'=some v'/\μ.le μ'/\StRep I μ' ((id',some blk')::Co rd++st) ids w'/\Ext I μ st w I μ' ((id',some blk')::Co rd++st) w':=by
 have hid:μ id'=none:=hst.idsFree id' (by simp);have hle:μ.le (λi=>if i=id' then some v' else μ i):=λi v h=>by
  have:i≠id':=λe=>by rw [e,hid] at h;cases h
  simp [this,h]
 have hrowI:∀b,row=some b->I b=none:=λb hr=>by
  obtain ⟨id,blk,g,_,h2,h3,h4⟩:=hrow b hr;exact (hst.apart id blk g b h2 h3 h4).1
 have hlive:∀i b,A1 ((id',some blk')::Co rd++st) i b->(i=id'/\b=blk')\/(i≠id'/\i∉rd/\A1 st i b):=by
  intro i b h;rcases AB.1 h with h | ⟨h1,h2⟩
  ·exact .inl h
  ·obtain ⟨h3,h4⟩:=Mm h2;exact .inr ⟨h1,h3,h4⟩
 have hother:∀i g,i≠id'->(if i=id' then some v' else μ i)=some g->μ i=some g:=λi g hne h=>by rwa [if_neg hne] at h
 have hkeep:∀i b g k,i∉rd->A1 st i b->μ i=some g->E6 g k->w'.heap[k]?=w.heap[k]?:=by
  intro i b g k h1 h2 h3 h4;refine hg.block k (hst.apart i b g k h2 h3 h4).2 λhk=>?_;obtain ⟨id,blk,g',q1,q2,q3,q4⟩:=hrow k hk.symm;have:=hst.inj i id b blk g g' k h2 q2 h3 q3 h4 q4;subst this;exact h1 q1
 have hclash:∀i b g k,i∉rd->A1 st i b->μ i=some g->E6 g k->¬E6 v' k:=by
  intro i b g k h1 h2 h3 h4 h5;rcases (hnew k h5).2 with h | ⟨id,blk,g',q1,q2,q3,q4⟩
  ·have:=(hst.apart i b g k h2 h3 h4).2;omega
  ·have:=hst.inj i id b blk g g' k h2 q2 h3 q3 h4 q4;subst this;exact h1 q1
 refine ⟨λi=>if i=id' then some v' else μ i,by simp,hle,?_,?_⟩
 ·refine { imm:=λb o h=>?_,blk:=λi b hl=>?_,apart:=λi b g k hl hgi hk=>?_,inj:=λi j bi bj gi gj k hi hj hgi hgj hki hkj=>?_,nodup:=(L6.1 hst.nodup).2,idsFree:=λi hi=>?_ }
  ·have h1:=hst.imm b o h;rw [hg.block b (Cc h1) (λhk=>by rw [hrowI b hk.symm] at h;cases h)];exact h1
  ·rcases hlive i b hl with ⟨rfl,rfl⟩ | ⟨h1,h2,h3⟩
   ·exact ⟨v',by simp,hb _⟩
   ·obtain ⟨g,hgi,hr⟩:=hst.blk i b h3;exact ⟨g,by simp [h1,hgi],(hr.mono (Imm.le_refl I) hle).world λk hk=>hkeep i b g k h2 h3 hgi hk⟩
  ·rcases hlive i b hl with ⟨rfl,rfl⟩ | ⟨h1,h2,h3⟩
   ·simp at hgi;subst hgi;obtain ⟨h1,h2⟩:=hnew k hk;refine ⟨?_,h1⟩;rcases h2 with h2 | ⟨id,blk,g',q1,q2,q3,q4⟩
    ·cases h:I k with
     | none=>rfl
     | some o=>have:=Cc (hst.imm _ _ h);omega
    ·exact (hst.apart id blk g' k q2 q3 q4).1
   ·obtain ⟨q1,q2⟩:=hst.apart i b g k h3 (hother i g h1 hgi) hk;exact ⟨q1,Z5 q2 hg.size⟩
  ·rcases hlive i bi hi with ⟨rfl,rfl⟩ | ⟨h1,h2,h3⟩ <;> rcases hlive j bj hj with ⟨rfl,rfl⟩ | ⟨p1,p2,p3⟩
   ·rfl
   ·simp at hgi;subst hgi;exact absurd hki (hclash j bj gj k p2 p3 (hother j gj p1 hgj) hkj)
   ·simp at hgj;subst hgj;exact absurd hkj (hclash i bi gi k h2 h3 (hother i gi h1 hgi) hki)
   ·exact hst.inj i j bi bj gi gj k h3 p3 (hother i gi h1 hgi) (hother j gj p1 hgj) hki hkj
  ·have hne:i≠id':=λe=>(L6.1 hst.nodup).1 (e ▸ hi);simp [hne,hst.idsFree i (by simp [hi])]
 ·refine { imm:=Imm.le_refl I,os:=hg.os,tape:=hg.tape,output:=hg.output,size:=hg.size,block:=λb hb ho=>hg.block b hb (λhk=>?_),fresh:=λb hb ho=>?_,old:=λ_ _ _=>rfl }
  ·obtain ⟨id,blk,g',_,q2,q3,q4⟩:=hrow b hk.symm;exact ho ⟨id,blk,g',q2,q3,q4⟩
  ·obtain ⟨i,bi,g,hl,hgi,hk⟩:=ho;rcases hlive i bi hl with ⟨rfl,rfl⟩ | ⟨h1,h2,h3⟩
   ·simp at hgi;subst hgi;rcases (hnew b hk).2 with h | ⟨id,blk,g',_,q2,q3,q4⟩
    ·omega
    ·exact ⟨id,blk,g',q2,q3,q4⟩
   ·exact ⟨i,bi,g,h3,hother i g h1 hgi,hk⟩
theorem pI {b:Nat} {k:Nat} (h:w.ownsRow 0 t sz v k xs) (hb:E6 v b):v.ownBlock=some b:=by
 rcases h.2 with ⟨rfl,_⟩ | ⟨g,cap,cur,rfl,_⟩
 ·simp [E6] at hb
 ·simpa [E6,Value.ownBlock] using hb
theorem pH {b:Nat} (hb:v.ownBlock=some b):E6 v b:=by
 unfold Value.ownBlock at hb
 split at hb
 ·cases hb;rfl
 ·cases hb
theorem WO {k:Nat} (h:w.ownsRow 0 t sz v k xs):∃a cap,v = .slice a k cap:=by
 rcases h.2 with ⟨rfl,rfl⟩ | ⟨g,cap,cur,rfl,_⟩
 ·exact ⟨none,0,rfl⟩
 ·exact ⟨_,cap,rfl⟩
theorem jO (htt:TTok P tt) {all:List Oper} {x y:Operand} {ti i:TyI} {dx dy:D} {rd:List Nat} {id':Nat} {es2:List (List V)} (hg:o.guard=none) (ho:o.op = .call { callee:=.builtin .append,args:=⟨[x,y]⟩,argTypes:=⟨[t,t]⟩ }) (ht:lk tt t=some ti) (hsh:ti.sh = .sl e) (hi:lk tt e=some i) (hz:(Nat.beq i.zero.length i.size&&Nat.blt 0 i.size)=true) (hx:Eg env x=some dx) (hb:I9 st dx=some (rd,es)) (hrow:∀id,rd=[id]->lk st id=some (some (.row e i.size es))) (hy:Eg env y=some dy) (hs:M0 dy=some es2) (hok:uD i.size i.bytes dx es es2) :
  LD P Pn all o env st rd [id'] ((id',some (.row e i.size (es++es2)))::Co rd) (.own id' (es++es2).length):=by
 intro I μ st1 ids1 a w hag hst hon;refine ⟨λ_=>?_,λhw=>by rw [AH hg] at hw;cases hw⟩;have hop:=Bj hon;rw [ho] at hop;have rx:=hop x (by simp [Op.operands,Call.operands]) _ hx;have ry:=hop y (by simp [Op.operands,Call.operands]) _ hy;obtain ⟨inf,z,z1,z2,z3,z4,z5,z6⟩:=(htt e i hi).info;have hu:P.underlying t=some (.slice e):=by have:=htt.sh ht;rwa [hsh] at this
 simp only [Ap,HG] at hz;have hzl:z.cells.size=i.size:=by
  have:=(z5 I μ).1;rw [CD hz.1] at this;simpa using this
 obtain ⟨k1,k2,k3,k4⟩:=hok;have hyv:RepV I (a.eval y) (.sl es2):=by
  cases dy <;> simp only [M0,reduceCtorEq,Ce] at hs
  ·rename_i vx;cases vx <;> simp only [M0,reduceCtorEq,Ce] at hs;subst hs;exact ry.immInv
  ·subst hs;have:=ry;generalize a.eval y=v at this;cases this;exact .slnil
 have hrun:∀{u w'},(Builtin.append_ #[t,t] o.type #[a.eval x,a.eval y]).run P w = .ok u w'->(execOp a.eval o).run P w = .ok (.value u) w':=by
  intro u w' h;simp only [execOp,ho,resolve,invoke,builtin,Sem.run_bind,Sem.run_pure,Result.andThen_ok,MU,C6,HL,h]
 have fin:∀{u:Value} {w':World} {xs:List Value} {row:Option Nat},(Builtin.append_ #[t,t] o.type #[a.eval x,a.eval y]).run P w = .ok u w'->w'.ownsRow 0 e i.size u (es.length+es2.length) xs->w.grownBy w' row ->
   (∀b,row=some b->∃id blk g,id∈rd/\A1 st1 id blk/\μ id=some g/\E6 g b)->(∀b,u.ownBlock=some b->row=some b\/w.heap.size<=b)->RepVL I xs (es++es2).flatten->(∀c∈es++es2,c.length=i.size) ->
   (∀c∈es++es2,∀x∈c,V.one x=true) ->
   valX P ((execOp a.eval o).run P w) (λv w'=>∃I' μ',StRep I' μ' ((id',some (.row e i.size (es++es2)))::Co rd++st1) ids1 w'/\RepD I' μ' v (.own id' (es++es2).length)/\μ.le μ'/\Ext I μ st1 w I' μ' ((id',some (.row e i.size (es++es2)))::Co rd++st1) w') (Lx Pn I μ st1 w):=by
  intro u w' xs row h1 h2 h3 h4 h5 h6 h7 h8;rw [hrun h1];obtain ⟨μ',q1,q2,q3,q4⟩:=StRep.renew (id':=id') (ids:=ids1) (rd:=rd) (v':=u) (blk':=.row e i.size (es++es2)) hst h3 h4 (λb hb=>by
   have hb':=pI h2 hb;refine ⟨(h2.lt b hb').2,?_⟩;rcases h5 b hb' with h | h
   ·exact .inr (h4 b h)
   ·exact .inl h) (λμ'=>⟨xs,by rw [B5];exact h2,h6,h7,h8,hz.2⟩)
  refine ⟨I,μ',q3,?_,q2,q4⟩;obtain ⟨ad,cap,rfl⟩:=WO h2;rw [B5];exact .own _ _ _ _ q1
 rcases PR hst.imm hyv k1 hz.2 with ⟨⟨ady,ey⟩,rfl⟩ | ⟨yb,yo,yc,news,ey,_,_,n1,n2,n3,n4,n5⟩
 ·-- nothing
  have hsame:∀(v:Value),a.eval x=v->(∃ad len cap,v = .slice ad len cap/\len<=cap)->(Builtin.append_ #[t,t] o.type #[a.eval x,a.eval y]).run P w = .ok v w:=by
   rintro v hv ⟨ad,len,cap,rfl,hle⟩;rw [hv,ey];cases ad <;> cases ady <;> simp [Builtin.append_,run_underlying hu,sizeOf,typeInfo,z1,Builtin.lenOf,hle,Builtin.firstCells,loadCells,loadCellsFrom,storeCells]
  have hgrow:w.grownBy w none:=⟨rfl,rfl,rfl,BQ _,λ_ _ _=>rfl⟩
  cases dx with
  | nils =>
   simp only [I9,Ce,Bc] at hb;obtain ⟨rfl,rfl⟩:=hb;have hv:a.eval x = .slice none 0 0:=by
    generalize a.eval x=v at rx;cases rx;rfl
   exact fin (hsame _ hv ⟨_,_,_,rfl,BQ _⟩) (World.ownsRow_nil w 0 e i.size) hgrow (λb h=>by cases h) (λb h=>by simp [Value.ownBlock] at h) (xs:=[]) .nil (by simp) (by simp)
  | own id nn =>
   simp only [I9] at hb
   split at hb
   ·rename_i bt sz es0 hl;cases hb;have hl':=hrow id rfl;have hl1:A1 st1 id (.row e i.size es):=by unfold A1;rw [hag id (by simp)];exact hl'
    obtain ⟨g,hg1,xs,r1,r2,r3,r4,_⟩:=hst.blk id _ hl1;have hv:a.eval x=g:=by
     generalize a.eval x=v at rx;cases rx with
     | own _ _ ad cap hm=>rw [hm] at hg1;cases hg1;rfl
    have hr0:∃ad len cap,g = .slice ad len cap/\len<=cap:=by
     rcases r1.2 with ⟨rfl,h⟩ | ⟨gb,cap,cur,rfl,_,_,h,_⟩
     ·exact ⟨_,_,_,rfl,BQ _⟩
     ·exact ⟨_,_,_,rfl,h⟩
    exact fin (row:=g.ownBlock) (hsame g hv hr0) (by simpa using r1) ⟨rfl,rfl,rfl,BQ _,λ_ _ _=>rfl⟩ (λb h=>⟨id,_,g,by simp,hl1,hg1,pH h⟩) (λb h=>.inl h) (xs:=xs) (by simpa using r2) (by simpa using r3) (by simpa using r4)
   ·cases hb
  | clip es'=>exact absurd rfl k4.2
  | _=>simp [I9] at hb
 ·have hfl:∀{xs:List Value},RepVL I xs es.flatten->RepVL I (xs++news) (es++es2).flatten:=λh=>by rw [ZS];exact h.append n4
  have hnil:a.eval x = .slice none 0 0->es=[] ->
    valX P ((execOp a.eval o).run P w) (λv w'=>∃I' μ',StRep I' μ' ((id',some (.row e i.size (es++es2)))::Co rd++st1) ids1 w'/\RepD I' μ' v (.own id' (es++es2).length)/\μ.le μ'/\Ext I μ st1 w I' μ' ((id',some (.row e i.size (es++es2)))::Co rd++st1) w') (Lx Pn I μ st1 w):=λhv he=>by
   subst he;obtain ⟨v',w',q1,q2,q3,_⟩:=run_append_own (P:=P) w w.heap.size t o.type e inf z i.size i.bytes hu z1 z4 z2 z3 hzl hz.2 (.slice none 0 0) 0 [] (World.ownsRow_nil w _ e i.size) ⟨yb,yo,none⟩ es2.length yc news n1 n2 n3
    (by simpa using k2) (by simpa using k3) (BQ _)
   have q2':w'.ownsRow 0 e i.size v' (0+es2.length) news:=⟨q2.1,q2.2.imp id λ⟨g,cap,cur,a1,_,a2⟩=>⟨g,cap,cur,a1,AJ _,a2⟩⟩
   exact fin (row:=none) (by rw [hv,ey];exact q1) q2' ⟨q3.os,q3.tape,q3.output,q3.size,λb hb _=>q3.block b hb (by simp [Value.ownBlock])⟩ (λb h=>by cases h) (λb h=>.inr (q2.lt b h).1) (hfl .nil) (by simpa using k1) (by simpa using n5)
  have hgrow:∀(ad:Addr) (cap:Nat) (xs:List Value),a.eval x = .slice (some ad) es.length cap->xs.length=es.length*i.size->(∀j u,xs[j]?=some u->w.cell? (ad.add j)=some u)->cap<es.length+es2.length->RepVL I xs es.flatten->(∀c∈es,c.length=i.size)->(∀c∈es,∀x∈c,V.one x=true) ->
    valX P ((execOp a.eval o).run P w) (λv w'=>∃I' μ',StRep I' μ' ((id',some (.row e i.size (es++es2)))::Co rd++st1) ids1 w'/\RepD I' μ' v (.own id' (es++es2).length)/\μ.le μ'/\Ext I μ st1 w I' μ' ((id',some (.row e i.size (es++es2)))::Co rd++st1) w') (Lx Pn I μ st1 w):=λad cap xs hv hl hcell hlt hr hsz h1=>by
   have hsmall:es.length+es2.length<=9223372036854775807:=by simp only [maxLen] at k2;omega
   have hr':=run_append_grow (P:=P) w t o.type e inf z hu z1 z4 ad es.length cap xs (by rw [z2];exact hl) hcell ⟨yb,yo,none⟩ es2.length yc news (by rw [z2];exact n1) n2 hlt (by omega) (by rw [z3];exact growslice_fits hlt k3);have hge:=grownCap_ge w (es.length+es2.length) cap e;have hcm:grownCap w (es.length+es2.length) cap e<=maxLen:=grownCap_le_maxLen w _ cap e k2;have hlen:(xs++news).length=(es.length+es2.length)*i.size:=by rw [B5,hl,n1,QV]
   refine fin (row:=none) (by rw [hv,ey];exact hr') (xs:=xs++news) ⟨hlen,.inr ⟨w.heap.size,_,_,rfl,AJ _,EC w.drew _,hge,hcm,?_,?_⟩⟩ ⟨rfl,rfl,rfl,by simp,λk hk _=>CW w.drew _ hk⟩ (λb h=>by cases h)
    (λb h=>by simp [Value.ownBlock] at h;exact .inr (by omega)) (hfl hr) (λc hc=>(BN.1 hc).elim (hsz c) (k1 c)) (λc hc=>(BN.1 hc).elim (h1 c) (n5 c))
   ·simp only [Array.size_append,ZR,size_zeroCells,hzl,hl,n1,<- QV];congr 1;omega
   ·simp only [Km,CF];rw [<- CF,<- hlen];exact ZQ
  cases dx with
  | nils =>
   simp only [I9,Ce,Bc] at hb;obtain ⟨rfl,rfl⟩:=hb;have hv:a.eval x = .slice none 0 0:=by
    generalize a.eval x=v at rx;cases rx;rfl
   exact hnil hv rfl
  | own id nn =>
   simp only [I9] at hb
   split at hb
   ·rename_i bt sz es0 hl;cases hb;have hl':=hrow id rfl;have hl1:A1 st1 id (.row e i.size es):=by unfold A1;rw [hag id (by simp)];exact hl'
    obtain ⟨g,hg1,xs,r1,r2,r3,r4,_⟩:=hst.blk id _ hl1;have hv:a.eval x=g:=by
     generalize a.eval x=v at rx;cases rx with
     | own _ _ ad cap hm=>rw [hm] at hg1;cases hg1;rfl
    rcases r1.2 with ⟨eg,h⟩ | ⟨gb,cap,cur,eg,_,hheap,hle,hcm,hcs,htake⟩
    ·exact hnil (hv.trans eg) (L7 h)
    ·by_cases hroom:es.length+es2.length<=cap
     ·have hfit:es.length*i.size+news.length<=cur.size:=by rw [n1,hcs,<- QV];exact ZP _ hroom
      have hr:=run_append_room (P:=P) w t o.type e inf hu z1 gb es.length cap cur hheap ⟨yb,yo,none⟩ es2.length yc news (by rw [z2];exact n1) n2 n3 hroom (by rw [z2];exact hfit);rw [z2] at hr;have hlen:(xs++news).length=(es.length+es2.length)*i.size:=by rw [B5,r1.1,n1,QV]
      refine fin (row:=some gb) (by rw [hv,eg,ey];exact hr) (xs:=xs++news) ⟨hlen,.inr ⟨gb,cap,_,rfl,AJ _,setRow_heap w gb cur _ e _ hheap,hroom,hcm,?_,?_⟩⟩ ⟨rfl,rfl,rfl,by simp,λk _ hk=>setRow_other w gb k _ (λe=>hk (by simp [e]))⟩
       (λb h=>by cases h;exact ⟨id,_,g,by simp,hl1,hg1,by rw [eg];rfl⟩) (λb h=>by simp [Value.ownBlock] at h;exact .inl (by rw [h])) (hfl r2) (λc hc=>(BN.1 hc).elim (r3 c) (k1 c)) (λc hc=>(BN.1 hc).elim (r4 c) (n5 c))
      ·simp only [ZR,B5,HH,JJ,TP];omega
      ·rw [htake,<- hlen];exact ZQ
     ·exact hgrow ⟨gb,0,none⟩ cap xs (hv.trans eg) r1.1 (by rw [eg] at r1;exact r1.cells (g:=gb) rfl) (by omega) r2 r3 r4
   ·cases hb
  | clip es' =>
   simp only [I9,Ce,Bc] at hb;obtain ⟨rfl,rfl⟩:=hb;have rx':∃ad len,a.eval x = .slice ad len len/\RepV I (.slice ad len len) (.sl es'):=by
    generalize a.eval x=v at rx;cases rx with
    | clip ad len _ h=>exact ⟨ad,len,rfl,h⟩
   obtain ⟨ad,len,hv,hr⟩:=rx';rcases PR hst.imm hr k4.1 hz.2 with ⟨⟨adx,ex⟩,e0⟩ | ⟨xb,xo,xc,xs,ex,_,_,p1,p2,p3,p4,p5⟩
   ·cases adx with
    | none=>exact hnil (hv.trans ex) e0
    | some adx =>
     have hpos:0<es2.length:=qT.2 k4.2;subst e0;exact hgrow adx 0 [] (hv.trans ex) (by simp) (λj u h=>by simp at h) (by simp;omega) .nil (by simp) (by simp)
   ·cases ex;have hpos:0<es2.length:=qT.2 k4.2;exact hgrow ⟨xb,xo,none⟩ _ xs hv p1 p2 (by omega) p4 k4.1 p5
  | _=>simp [I9] at hb
end
def Mv (cx:Prop) (env:Env) (x:Operand):Option (D×List Prop):=match Eg env x with
 | some (.guard c w d)=>some (d,[cx->c=w])
 | some d=>some (d,[])
 | none=>none
structure zdg where
 dx:D
 es:List (List V)
 es2:List (List V)
 sz:Nat
 bytes:Nat
 e:TypeId
 rd:List Nat
 id':Nat
 ids':List Nat
 dst:Option Nat
 todo:List DI
def yZ (st:St) (e:TypeId) (sz:Nat):List Nat->Bool
 | []=>true
 | [id]=>match lk st id with
  | some (some (.row e' sz' _))=>Nat.beq e e'&&Nat.beq sz sz'
  | _=>false
 | _=>false
def zcr (tt:TT) (n:Nat) (env:Env) (st:St) (ids:List Nat) (todo:List DI):Option zdg :=
 match NU todo,ids with
 | some o,id'::ids'=>match o.guard,o.op with
  | none,.call { callee:=.builtin .append,args:=⟨[x,y]⟩,argTypes:=⟨[t,t']⟩ }=>match Nat.beq t t',lk tt t,Eg env x,Eg env y with
   | true,some { sh:=.sl e,.. },some dx,some dy=>match lk tt e,I9 st dx,M0 dy with
    | some i,some (rd,es),some es2=>match Nat.beq i.zero.length i.size&&Nat.blt 0 i.size,yZ st e i.size rd,BM n o.dst,Bm todo (rd,id'::rd) with
     | true,true,true,some (_,_,todo')=>some ⟨dx,es,es2,i.size,i.bytes,e,rd,id',ids',o.dst,todo'⟩
     | _,_,_,_=>none
    | _,_,_=>none
   | _,_,_,_=>none
  | _,_=>none
 | _,_=>none
section
variable {n:Nat} {env:Env} {k:List DI}
theorem Eh {x:Operand} (h:Mv cx env x=some (d,ob)) (hob:A4 ob) (hc:cx) (hv:∀d,Eg env x=some d->RepD I μ v d):RepD I μ v d:=by
 unfold Mv at h
 split at h
 ·cases h;rename_i hx;exact (hv _ hx).guardInv (hob.1 hc)
 ·cases h;rename_i hx;exact hv _ hx
 ·cases h
theorem KB:∀l:List Nat,(Co l).map (·.1)=l
 | []=>rfl
 | x::r=>by simp [Co,KB r]
theorem Dk {f:List Nat×List Nat} {o':Oper} {all:List Oper} (h:NU todo=some o) (h':Bm todo f=some (all,o',todo')):o'=o:=by
 unfold NU at h
 split at h
 ·simp [Bm] at h';cases h;exact h'.2.1.symm
 ·simp [Bm] at h';cases h;exact h'.2.1.symm
 ·cases h
theorem B7 (htt:TTok P tt) {c:zdg} (h:zcr tt n env st ids todo=some c) (hok:uD c.sz c.bytes c.dx c.es c.es2)
  (hk:G P n F Q c.todo (BK c.dst (.own c.id' (c.es++c.es2).length) env) ((c.id',some (.row c.e c.sz (c.es++c.es2)))::Co c.rd++st) c.ids'):G P n F Q todo env st ids:=by
 unfold zcr at h
 split at h
 ·rename_i o id' ids' ho
  split at h
  ·rename_i x y t t' hg hop
   split at h
   ·rename_i e _ _ _ _ dx dy htt' ht hx hy;have:=CD htt';subst this
    split at h
    ·rename_i i rd es es2 hi hb hs
     split at h
     ·rename_i all o' todo' hz hr hd h1;cases h;have ho':o'=o:=Dk ho h1;subst ho';refine BF (fr:=[id']) (wr:=(id',some (.row e i.size (es++es2)))::Co rd) (rd:=rd) (by rw [C6,KB];exact h1) ?_ hd (λc hc=>by rw [hop] at hc;cases hc) hk;refine jO htt hg hop ht rfl hi hz hx hb (λid hid=>?_) hy hs hok;subst hid;simp only [yZ] at hr
      split at hr
      ·rename_i e' sz' es' hl;simp only [Ap] at hr;rw [CD hr.1,CD hr.2,hl];have:es'=es:=by
        cases dx <;> simp only [I9,reduceCtorEq,Ce,Bc] at hb
        ·cases hb.1
        ·split at hb
         ·rename_i hl2;simp only [Ce,Bc,DM,and_true] at hb;obtain ⟨e1,e2⟩:=hb;subst e1;rw [hl2] at hl;cases hl;exact e2
         ·cases hb
        ·cases hb.1
       rw [this]
      ·cases hr
     ·cases h
    ·cases h
   ·cases h
  ·cases h
 ·cases h
theorem D3 {all:List Oper} {rd:List Nat} (hg:Cq all env o=some g) (key:∀I μ st1 ids1 a w,Agree rd st st1->StRep I μ st1 ids1 w->DR I μ env a o.op->Am g ->
   valX P ((execOp a.eval o).run P w) (λu w'=>∃I' μ',StRep I' μ' st1 ids1 w'/\RepD I' μ' u d/\μ.le μ'/\Ext I μ st1 w I' μ' st1 w') (Lx Pn I μ st1 w)) :
  LD P Pn all o env st rd [] [] (gD g d):=by
 intro I μ st1 ids1 a w hag hst hon;have hwant:=FT hg hon;refine ⟨λhw=>?_,λhw=>⟨rfl,rfl,?_⟩⟩
 ·have hcx:=hwant.1 hw;refine (key I μ st1 ids1 a w hag hst (Bj hon) hcx).mono (λv w' ⟨I',μ',q1,q2,q3,q4⟩=>⟨I',μ',q1,?_,q3,q4⟩) (λ_ _ h=>h);cases g with
  | none=>exact q2
  | some p=>exact .guard _ _ _ _ (λ_=>q2) (λhn=>absurd hcx hn)
 ·cases g with
  | none=>rw [hwant.2 trivial] at hw;cases hw
  | some p=>exact .guard _ _ _ _ (λhc=>by rw [hwant.2 hc] at hw;cases hw) (λ_=>rfl)
structure PIdx where
 es:List (List V)
 i:Int
 sz:Nat
 e:TypeId
 g:Option (Bool×Bool)
 ob:List Prop
 dst:Option Nat
 todo:List DI
def FO (tt:TT) (n:Nat) (env:Env) (todo:List DI):Option PIdx :=
 match Bm todo ([],[]) with
 | some (all,o,todo')=>match o.op,Cq all env o with
  | .indexAddr t x i,some g=>match lk tt t,Mv (Am g) env x,Mv (Am g) env i with
   | some { sh:=.sl e,.. },some (.imm (.sl es),o1),some (.imm (.int _ i),o2)=>match lk tt e,BM n o.dst with
    | some ti,true=>match o.dst with
     | some t=>some ⟨es,i,ti.size,e,g,Jh o1 o2,some t,todo'⟩
     | none=>none
    | _,_=>none
   | _,_,_=>none
  | _,_=>none
 | none=>none
theorem Of {i:TyI} (hu:P.underlying t=some (.slice e)) (hi:TyOk P e i) {b len cap:Nat} {kk:IntKind} (h0:0<=m) (hm:m<len) :
  (Instr.indexAt t (.slice (some ⟨b,off,none⟩) len cap) (.int kk m)).run P w = .ok (.pointer (some ⟨b,off+m.toNat*i.size,none⟩)) w:=by
 simp only [Instr.indexAt,Sem.run_bind,asIntOf,Sem.run_pure,Result.andThen_ok,run_underlying hu];simp [h0,hm,hi.sizeOf w,HY]
theorem Ht (htt:TTok P tt) {t:Nat} (h:FO tt n env todo=some ⟨es,m,sz,e,g,ob,some t,todo'⟩) (hc:Am g->0<=m/\es[m.toNat]?=some c/\c.length=sz) (hob:A4 ob) (hk:G P n F Q todo' ((t,gD g (.ip e c 0))::env) st ids):G P n F Q todo env st ids:=by
 unfold FO at h
 split at h
 ·rename_i all o todo' h1
  split at h
  ·rename_i t x i g hop hg
   split at h
   ·rename_i e _ _ _ _ es o1 kk m o2 ht hx hi
    split at h
    ·rename_i ti hti hd
     split at h
     ·rename_i t' hdst;cases h;have hk:G P n F Q todo' (BK o.dst (gD g (.ip e c 0)) env) st ids:=by rw [hdst];exact hk
      refine BF (fr:=[]) (wr:=[]) (rd:=[]) h1 (D3 hg λI μ st1 ids1 a w _ hst hops hcx=>?_) hd (λc hc=>by rw [hop] at hc;cases hc) hk;rw [hop] at hops;obtain ⟨ho1,ho2⟩:=B4 hob;have rx:=(Eh hx ho1 hcx (hops x (by simp [Op.operands]))).immInv;have ri:=(Eh hi ho2 hcx (hops i (by simp [Op.operands]))).immInv.intInv;obtain ⟨c0,c1,c2⟩:=hc hcx;have hu:P.underlying t=some (.slice e):=htt.sh ht;have hlt:=(AL.1 c1).1;simp only [execOp,hop,ri];generalize hv:a.eval x=v at rx;cases rx with
      | slnil=>simp at hlt
      | sl0=>simp at hlt
      | sl b off len cap sz _ vs hl hcap hm hsz hcell hrep =>
       have hs:sz=ti.size:=by rw [<- hsz c (AF c1),c2]
       subst hs;have hr:=Of (w:=w) hu (htt e ti hti) (b:=b) (off:=off) (len:=len) (cap:=cap) (kk:=kk) c0 (by omega);have hrun:(do pure (.value (<- Instr.indexAt t (.slice (some ⟨b,off,none⟩) len cap) (.int kk m))):Sem Next).run P w = .ok (.value (.pointer (some ⟨b,off+m.toNat*ti.size,none⟩))) w:=A7 hr;rw [hrun];refine ⟨I,μ,hst,?_,Mu.le_refl μ,Ext.refl _ _ _ _⟩;have:=RepD.ip (I:=I) (μ:=μ) b (off+m.toNat*ti.size) e c 0 (vs m.toNat) (λj x hj=>hcell m.toNat c j x c1 hj) (λj x hj=>hrep m.toNat c j x c1 hj);simpa using this
     ·cases h
    ·cases h
   ·cases h
  ·cases h
 ·cases h
end
def PM:List Value->Option (List D)
 | []=>some []
 | v::r=>match eG v,v.oneCell',PM r with
  | some d,true,some ds=>some (d::ds)
  | _,_,_=>none
def zch (P:Program):TypeDesc->Option Sh
 | .bool=>some .bool
 | .int k=>some (.int k)
 | .string=>some .str
 | .pointer e=>some (.ptr e)
 | .slice e=>some (.sl e)
 | .map k e=>some (.map k e)
 | .array n e=>some (.arr n e)
 | .func _ _ _=>some .func
 | .interface _=>some .iface
 | .struct fs=>match fs.toList.all λf=>Nat.blt 0 (P.cellsOf f.type) with
  | true=>some (.struct (fs.toList.map λf=>(f.offset,f.type)))
  | false=>none
 | _=>none
def zdc:TypeDesc->Bool
 | .struct _=>true
 | .array _ _=>true
 | _=>false
def zai (P:Program) (t:TypeId):Option TyI:=match P.info? t,P.underlying t with
 | some inf,some u=>match inf.zero,zch P u with
  | some z,some sh=>match PM z.cells.toList with
   | some ds=>some { sh,agg:=zdc u,size:=inf.size,bytes:=inf.bytes,zero:=ds }
   | none=>none
  | _,_=>none
 | _,_=>none
def gW (P:Program):List TypeId->TT
 | []=>[]
 | t::r=>match zai P t with
  | some i=>(t,i)::gW P r
  | none=>gW P r
theorem Qe:∀{vs:List Value} {ds:List D},PM vs=some ds->(∀I μ,RepL I μ vs ds)/\∀v∈vs,v.oneCell'=true
 | [],ds,h=>by cases h;exact ⟨λ_ _=>.nil,λ_ h=>by simp at h⟩
 | v::r,ds,h=>by
  simp only [PM] at h
  split at h
  ·rename_i d ds' h1 h2 h3;cases h;obtain ⟨q1,q2⟩:=Qe h3;exact ⟨λI μ=>.mk (TF h1 I μ) (q1 I μ),λu hu=>(Cy.1 hu).elim (λe=>e ▸ h2) (q2 u)⟩
  ·cases h
theorem vF {i:TyI} (h:zai P t=some i):TyOk P t i:=by
 unfold zai at h
 split at h
 ·rename_i inf u h1 h2
  split at h
  ·rename_i z sh h3 h4
   split at h
   ·rename_i ds h5;cases h;obtain ⟨q1,q2⟩:=Qe h5;refine ⟨⟨inf,z,h1,rfl,rfl,h3,q1,q2⟩,?_,?_⟩
    ·funext w;simp only [isAgg,Sem.run_bind,run_underlying h2,Result.andThen_ok];cases u <;> rfl
    ·unfold zch at h4
     split at h4 <;> first | (cases h4;exact h2) | (cases h4;exact ⟨_,_,_,h2⟩) | (cases h4;exact ⟨_,h2⟩) | skip
     ·split at h4
      ·rename_i hall;cases h4;refine ⟨_,h2,rfl,λf hf=>?_⟩;have:=CS.1 hall f hf;simpa [HG] using this
      ·cases h4
     ·cases h4
   ·cases h
  ·cases h
 ·cases h
theorem UB {P:Program}:∀{l:List TypeId},TTok P (gW P l)
 | [],t,i,h=>by simp [gW,lk] at h
 | x::r,t,i,h=>by
  simp only [gW] at h
  split at h
  ·rename_i j hj;by_cases hx:x=t
   ·subst hx;rw [A0] at h;cases h;exact vF hj
   ·rw [A6 _ _ hx] at h;exact UB t i h
  ·exact UB t i h
theorem TTok.of_eq {l:List TypeId} (h:tt=gW P l):TTok P tt:=h ▸ UB
attribute [simp] A4 Jh
theorem GR {x:Int} (h0 : -9223372036854775808<=x) (h1:x<=9223372036854775807):IntKind.i64.wrap x=x:=by
 simp only [IntKind.wrap,IntKind.bits,IntKind.signed];simp;omega
theorem BB {k:IntKind} {a b:Int} (h:a=b):My (.imm (.int k a)) (.imm (.int k b)):=by rw [h];rfl
theorem AU {x:Int} (h0 : -9223372036854775808<=x:=by omega) (h1:x<=9223372036854775807:=by omega):My (.imm (.int .i64 (IntKind.i64.wrap x))) (.imm (.int .i64 x)):=BB (GR h0 h1)
theorem tV {a b:V} (h:a=b):My (.imm a) (.imm b):=by rw [h];rfl
theorem Aa {n:Nat} {k:List DI} {env:Env} {rs:List ResultVar} {v u:V} (h1:P8 tt env st rs=some ds) (h2:vI (Ii ds)=some u) (h3:u=v):DGo P n F (JD tt rs (.ret (.imm v) [])) (.code .ret::k) env st ids:=Ah ⟨ds,h1,(show vI (Ii ds)=some v by rw [h2,h3]),trivial⟩
section
variable {n:Nat} {env:Env} {k:List DI}
theorem KC (htt:TTok P tt) (hm:P.follows .mixedOrders=true) (f:Nat) (path:List Pt)
  (h:run tt n f path todo env st ids [] = .at k env' st' ids' ob) (hob:A4 ob) (hd:G P n F Q k env' st' ids'):DGo P n F Q todo env st ids:=(JL htt hm f path h hob hd).go
end
mutual
def R8 (id:Nat) (es:List (List V)):D->D
 | .own i n=>bif Nat.beq i id then .imm (.sl es) else .own i n
 | .agg cs=>In (SG id es cs)
 | .tup cs=>.tup (SG id es cs)
 | .fn f a b=>.fn f (SG id es a) (SG id es b)
 | .iface t d=>match R8 id es d with
  | .imm x=>.imm (.iface t x)
  | d'=>.iface t d'
 | .guard c w d=>.guard c w (R8 id es d)
 | d=>d
def SG (id:Nat) (es:List (List V)):List D->List D
 | []=>[]
 | d::r=>R8 id es d::SG id es r
end
def kZ (id:Nat) (es:List (List V)):Env->Env
 | []=>[]
 | (t,d)::r=>(t,R8 id es d)::kZ id es r
def xJ (id:Nat) (es:List (List V)):Blk->Blk
 | .cells t sz cs=>OV t sz (SG id es cs)
 | b=>b
def SF (id:Nat) (es:List (List V)):St->St
 | []=>[]
 | (i,some b)::r=>(i,some (xJ id es b))::SF id es r
 | (i,none)::r=>(i,none)::SF id es r
theorem Hu (id:Nat) (es:List (List V)):∀l:List D,SG id es l=l.map (R8 id es)
 | []=>rfl
 | d::r=>by simp [SG,Hu id es r]
section
variable {n:Nat} {env:Env} {id:Nat} {g:Value}
theorem RepD.frz (h:RepD I μ v d) (hIJ:I.le J) (hg:μ id=some g) (hr:RepV J g (.sl es)):RepD J μ v (R8 id es d):=by
 have at_:∀{l:List D} {i:Nat} {x:D},(SG id es l)[i]?=some x->∃y,l[i]?=some y/\x=R8 id es y:=by
  intro l i x hx;rw [Hu,Ep] at hx;cases hl:l[i]? with
  | none=>rw [hl] at hx;cases hx
  | some y=>rw [hl] at hx;cases hx;exact ⟨y,rfl,rfl⟩
 induction h with
 | undef v=>exact .undef v
 | imm v x hx=>exact .imm v x (hx.mono hIJ)
 | nils=>exact .nils
 | ref b id off hm=>exact .ref b id off hm
 | ip b o t cs off vs hcell hrep=>exact (RepD.ip b o t cs off vs hcell hrep).mono hIJ (Mu.le_refl μ)
 | agg cs ds hl h1 _ ih =>
  have:RepD J μ (.agg cs.toList.toArray) (In (SG id es ds)):=H1 ⟨by rw [Hu,Dn,<- hl];simp,λi c x hc hx=>by
   obtain ⟨y,hy,rfl⟩:=at_ hx;exact ih i c y (by simpa using hc) hy⟩ h1
  simpa [R8] using this
 | tup cs ds hl _ ih =>
  refine .tup cs _ (by rw [Hu,Dn,hl]) λi c x hc hx=>?_;obtain ⟨y,hy,rfl⟩:=at_ hx;exact ih i c y hc hy
 | own i len a cap hm =>
  simp only [R8];cases hb:Nat.beq i id with
  | false=>exact .own i len a cap hm
  | true =>
   rw [CD hb,hg] at hm;cases hm;exact .imm _ _ hr
 | elp b id len cap k sz f hm=>exact .elp b id len cap k sz f hm
 | mapr id b hm=>exact .mapr id b hm
 | iter id b hm=>exact .iter id b hm
 | fn f first cap df dc hf hc _ _ ih1 ih2 =>
  refine .fn f first cap _ _ (by rw [Hu,Dn,hf]) (by rw [Hu,Dn,hc]) (λi c x h1 h2=>?_) (λi c x h1 h2=>?_)
  ·obtain ⟨y,hy,rfl⟩:=at_ h2;exact ih1 i c y h1 hy
  ·obtain ⟨y,hy,rfl⟩:=at_ h2;exact ih2 i c y h1 hy
 | iface t v d _ ih =>
  simp only [R8]
  split
  ·rename_i x hx;rw [hx] at ih;exact .imm _ _ (.iface t v x ih.immInv)
  ·exact .iface t v _ ih
 | guard c want v d _ hu ih=>exact .guard c want v _ ih hu
 | clip a len es hr=>exact .clip a len es (hr.mono hIJ)
 | slc b id off len cap hm hl hx=>exact .slc b id off len cap hm hl hx
 | yld b id hm=>exact .yld b id hm
 | raw v h=>exact .raw v h
 | hv v id i vs bs hm hi h1=>exact .hv v id i vs bs hm hi h1
theorem BlkRep.frz {gb:Value} {blk:Blk} (h:BlkRep I μ w gb blk) (hIJ:I.le J) (hg:μ id=some g) (hr:RepV J g (.sl es)):BlkRep J μ w gb (xJ id es blk):=by
 cases blk with
 | cells t sz cs =>
  obtain ⟨hs,b,vs,rfl,h2,h3,h4⟩:=h;refine H0 h2 ⟨by rw [Hu,Dn,h3.1],λi v x hv hx=>?_⟩ h4 (by rw [Hu,Dn,hs]);rw [Hu,Ep] at hx;cases hl:cs[i]? with
  | none=>rw [hl] at hx;cases hx
  | some y=>rw [hl] at hx;cases hx;exact (h3.2 i v y hv hl).frz hIJ hg hr
 | _=>exact h.mono hIJ (Mu.le_refl μ)
theorem Om {i:Nat} {b:Blk}:∀{st:St},A1 (SF id es st) i b->∃b0,A1 st i b0/\b=xJ id es b0
 | [],h=>by simp [SF,A1,lk] at h
 | (k,some x)::r,h=>by
  simp only [SF] at h;rcases AB.1 h with ⟨h1,h2⟩ | ⟨h1,h2⟩
  ·exact ⟨x,by unfold A1;rw [h1,A0],h2⟩
  ·obtain ⟨b0,q1,q2⟩:=Om h2;exact ⟨b0,AB.2 (.inr ⟨h1,q1⟩),q2⟩
 | (k,none)::r,h=>by
  simp only [SF] at h;obtain ⟨h1,h2⟩:=BZ.1 h;obtain ⟨b0,q1,q2⟩:=Om h2;exact ⟨b0,BZ.2 ⟨h1,q1⟩,q2⟩
theorem BC (id:Nat) (hl:lk st id=some (some (.row e sz es))) (h:DGo P n F Q todo (kZ id es env) ((id,none)::SF id es st) ids):DGo P n F Q todo env st ids:=by
 intro b cs I μ a w items hd hc;have hlive:A1 st id (.row e sz es):=hl;obtain ⟨g,hg,xs,hown,hrep,hsz,hone,hp⟩:=hc.blk id _ hlive;obtain ⟨J,hJ,hJr,hJo⟩:∃J:Imm,I.le J/\RepV J g (.sl es)/\(∀k o,J k=some o->(I k=some o\/(E6 g k/\w.heap[k]?=some o))):=by
  rcases hown.2 with ⟨rfl,h0⟩ | ⟨gb,cap,cur,rfl,_,hheap,hle,hcm,hcs,htake⟩
  ·have:es=[]:=L7 h0;subst this;exact ⟨I,Imm.le_refl I,.slnil,λk o h=>.inl h⟩
  ·have hno:=(hc.apart id _ _ gb hlive hg rfl).1;have hle':I.le (λk=>if k=gb then some (.cells cur e (0,0)) else I k):=λk o h=>by
    have:k≠gb:=λe=>by rw [e,hno] at h;cases h
    simp [this,h]
   refine ⟨_,hle',?_,λk o h=>?_⟩
   ·have hcell:∀(i:Nat) (c:List V) (j:Nat) (x:V),es[i]?=some c->c[j]?=some x->∃v,xs[i*sz+j]?=some v/\cur[i*sz+j]?=some v/\RepV I v x/\v.oneCell'=true:=by
     intro i c j x hi hj;have h1:=C8 hsz i c j x hi hj;have hlt:i*sz+j<xs.length:=by rw [hrep.1];exact (AL.1 h1).1
     obtain ⟨v,hv⟩:∃v,xs[i*sz+j]?=some v:=⟨_,Br hlt⟩
     have hr:=hrep.2 _ _ _ hv h1;refine ⟨v,hv,?_,hr,?_⟩
     ·rw [<- htake,D6] at hv
      split at hv
      ·simpa using hv
      ·cases hv
     ·have:=hone c (AF hi) x (AF hj);exact hr.one this
    refine .sl gb 0 _ cap sz es (λi j=>(cur[i*sz+j]?).getD undef) rfl hle hcm hsz (λi c j x hi hj=>?_) (λi c j x hi hj=>?_)
    ·obtain ⟨v,_,h2,_,h4⟩:=hcell i c j x hi hj;simp [Imm.cell,h2,h4]
    ·obtain ⟨v,_,h2,h3,_⟩:=hcell i c j x hi hj;simp only [h2,MV];exact h3.mono hle'
   ·by_cases hk:k=gb
    ·subst hk;simp at h;subst h;exact .inr ⟨rfl,hheap⟩
    ·simp [hk] at h;exact .inl h
 have hst:∀i bi,A1 ((id,none)::SF id es st) i bi->i≠id/\∃b0,A1 st i b0/\bi=xJ id es b0:=λi bi h=>by
  obtain ⟨h1,h2⟩:=BZ.1 h;exact ⟨h1,Om h2⟩
 have hE:Ext I μ st w J μ ((id,none)::SF id es st) w :=
  {imm:=hJ,os:=rfl,tape:=rfl,output:=rfl,size:=BQ _
   block:=λ_ _ _=>rfl
   fresh:=λk _ ⟨i,bi,gi,h1,h2,h3⟩=>let ⟨_,b0,q,_⟩:=hst i bi h1;⟨i,b0,gi,q,h2,h3⟩
   old:=λk _ ho=>by
      cases hJk:J k with
      | none =>
       cases hIk:I k with
       | none=>rfl
       | some o=>rw [hJ k o hIk] at hJk;cases hJk
      | some o =>
       rcases hJo k o hJk with h | ⟨h,_⟩
       ·exact h.symm
       ·exact absurd ⟨id,_,g,hlive,hg,h⟩ ho }
 have hc':Conc n J μ (kZ id es env) ((id,none)::SF id es st) ids a w :=
  {imm:=λk o h=>(hJo k o h).elim (λh=>hc.imm k o h) λh=>h.2
   blk:=λi bi hli=>by
    obtain ⟨_,b0,h2,rfl⟩:=hst i bi hli;obtain ⟨gi,hgi,hr⟩:=hc.blk i b0 h2;exact ⟨gi,hgi,hr.frz hJ hg hJr⟩
   apart:=λi bi gi k hli hgi hk=>by
    obtain ⟨h1,b0,h2,rfl⟩:=hst i bi hli;obtain ⟨q1,q2⟩:=hc.apart i b0 gi k h2 hgi hk;refine ⟨?_,q2⟩;cases hJk:J k with
    | none=>rfl
    | some o =>
     rcases hJo k o hJk with h | ⟨h,_⟩
     ·rw [q1] at h;cases h
     ·exact absurd (hc.inj i id b0 _ gi g k h2 hlive hgi hg hk h) h1
   inj:=λi j bi bj gi gj k hi hj hgi hgj hki hkj=>by
    obtain ⟨_,b1,h1,rfl⟩:=hst i bi hi;obtain ⟨_,b2,h2,rfl⟩:=hst j bj hj;exact hc.inj i j b1 b2 gi gj k h1 h2 hgi hgj hki hkj
   nodup:=hc.nodup
   idsFree:=hc.idsFree
   size:=hc.size
   env:=λt d hlt=>by
    have:∀{env:Env},lk (kZ id es env) t=some d->∃d0,lk env t=some d0/\d=R8 id es d0:=by
     intro env
     induction env with
     | nil=>intro h;simp [kZ,lk] at h
     | cons p r ih =>
      obtain ⟨s,x⟩:=p;intro h;simp only [kZ] at h;by_cases hs:s=t
      ·subst hs;rw [A0] at h;cases h;exact ⟨x,A0 _ _ _,rfl⟩
      ·rw [A6 _ _ hs] at h;rw [A6 _ _ hs];exact ih h
    obtain ⟨d0,h1,rfl⟩:=this hlt;exact (hc.env t d0 h1).frz hJ hg hJr
   defers:=hc.defers.ext hE }
 exact (h b cs J μ a w items hd hc').mono λe' a' w' hp=>hp.back (.refl _ _)<|hE
end
structure P2 where
 f:FuncId
 das:List D
 ob:List Prop
 dst:Option Nat
 o:Oper
 all:List Oper
def Po (n:Nat) (env:Env) (todo:List DI):Option P2 :=
 match Bm todo ([],[]) with
 | some (all,o,_)=>match o.guard,o.op with
  | none,.call { callee:=.value (.func f),args:=⟨args⟩,.. }=>match I7 True env args,BM n o.dst with
   | some (ds,ob),true=>some ⟨f,ds,ob,o.dst,o,all⟩
   | _,_=>none
  | none,.call { callee:=.value (.tmp t),args:=⟨args⟩,.. }=>match lk env t,I7 True env args,BM n o.dst with
   | some (.imm (.fn (.func f))),some (ds,ob),true=>some ⟨f,ds,ob,o.dst,o,all⟩
   | some (.fn (.func f) df dc),some (ds,ob),true=>some ⟨f,df++ds++dc,ob,o.dst,o,all⟩
   | _,_,_=>none
  | _,_=>none
 | none=>none
def nJ:List (Nat×Nat)->List Nat
 | []=>[]
 | (_,b)::r=>b::nJ r
def EO:List (Nat×Nat)->List Nat
 | []=>[]
 | (a,_)::r=>a::EO r
def Ju (σ τ1:List (Nat×Nat)) (das:List D) (st0:St) (d:D) (st1:St) (fr:List Nat):Bool :=
 Do σ (Bg σ) (IB das)&&Do σ (Bg σ) (EO σ)&&LN (nJ σ) (D8 st0)&&Do (Bg σ++τ1) (σ++Bg τ1) (JQ d)&&Do (Bg σ++τ1) (σ++Bg τ1) (F4 st1)&&LN (nJ τ1) fr
theorem UF:∀l:List (Nat×Nat),nJ l=l.map (·.2)
 | []=>rfl
 | (a,b)::r=>by simp [nJ,UF r]
theorem Ld:∀l:List (Nat×Nat),EO l=l.map (·.1)
 | []=>rfl
 | (a,b)::r=>by simp [EO,Ld r]
section
variable {n:Nat} {env:Env} {k:List DI}
theorem NX (h:Ju σ τ1 das st0 d st1 fr=true):gH σ τ1 das st0 d st1 fr:=by
 simp only [Ju,Ap] at h;obtain ⟨⟨⟨⟨⟨h1,h2⟩,h3⟩,h4⟩,h5⟩,h6⟩:=h;exact ⟨h1,by rw [<- Ld];exact h2,λp hp=>F8 h3 _ (by rw [UF];exact Vp hp),h4,h5,λp hp=>F8 h6 _ (by rw [UF];exact Vp hp)⟩
theorem Gb (hag:Agree (EO σ) st st1):∀{st0:St},E8 σ st st0->E8 σ st1 st0
 | [],_=>trivial
 | (i,none)::_,h=>h.elim
 | (i,some b)::r,h=>by
  refine ⟨?_,Gb hag h.2⟩;have h1:=h.1;cases ha:lk (Bg σ) i with
  | none=>simp [ha] at h1
  | some a =>
   simp only [ha] at h1 ⊢;refine ⟨h1.1,?_⟩;have hm:a∈EO σ:=by rw [Ld];exact C2.2 ⟨(a,i),Kn ha,rfl⟩
   rw [hag a hm];exact h1.2
theorem wP {all:List Oper} (hg:o.guard=none) (hc:Ff P o env f das True) (hE:Hy P f (F3 (DN σ) das) st0 (.ret d st1)) (hb:E8 σ st st0) (hn:Ju σ τ1 das st0 d st1 fr=true) :
  LD P Pn all o env st (EO σ) fr (DV (Bg σ++τ1) st1++Co (EO σ)) (Jn (DN (Bg σ++τ1)) d):=by
 intro I μ st2 ids1 a w hag hst hon;refine ⟨λ_=>?_,λhw=>by rw [AH hg] at hw;cases hw⟩;obtain ⟨xs,h1,h2⟩:=hc I μ a w (Bj hon) trivial;have hb':=Gb hag hb;have hN:=NX hn;obtain ⟨q1,q2,q3⟩:=G4 hst hb' hN.args h1;rw [h2];refine (hE I _ w xs q1 q2).mono (λu w' hu=>?_) (λ_ _ h=>h.elim);obtain ⟨I',μ',r1,r2,r3,r4⟩:=hu;obtain ⟨ν,s1,s2,s3,s4⟩:=Lq hst hb' hN r1 r2 r3 r4 q3;rw [<- Ld] at s1 s4;exact ⟨I',ν,s1,s2,s3,s4⟩
theorem Nq {c:P2} (h:Po n env todo=some c) (hob:A4 c.ob):(∀f,∃todo',Bm todo f=some (c.all,c.o,todo'))/\c.o.guard=none/\Ff P c.o env c.f c.das True/\BM n c.dst=true/\(∀x,c.o.op ≠ .defer x)/\c.dst=c.o.dst:=by
 unfold Po at h;have hnext:∀{all:List Oper} {o:Oper} {t:List DI},Bm todo ([],[])=some (all,o,t)->∀f,∃todo',Bm todo f=some (all,o,todo'):=by
  intro all o t h f;rcases IK h with ⟨r,k,rfl,_⟩ | ⟨r,fs,k,rfl,_⟩
  ·exact ⟨_,rfl⟩
  ·exact ⟨_,rfl⟩
 split at h
 ·rename_i all o t h1
  split at h
  ·rename_i f args ts hg ho
   split at h
   ·rename_i ds ob ha hd;cases h;exact ⟨hnext h1,hg,Ga ho ha hob,hd,(λx hx=>by rw [ho] at hx;cases hx),rfl⟩
   ·cases h
  ·rename_i t' args ts hg ho
   split at h
   ·rename_i f ds ob ht ha hd;cases h;exact ⟨hnext h1,hg,Fy ho ht ha hob,hd,(λx hx=>by rw [ho] at hx;cases hx),rfl⟩
   ·rename_i f df dc ds ob ht ha hd;cases h;exact ⟨hnext h1,hg,I8 ho ht ha hob,hd,(λx hx=>by rw [ho] at hx;cases hx),rfl⟩
   ·cases h
  ·cases h
 ·cases h
theorem VC {c:P2} (σ τ1:List (Nat×Nat)) {nm:List Nat} (h:Po n env todo=some c) (hob:A4 c.ob) (hE:Hy P c.f (F3 (DN σ) c.das) st0 (.ret d st1)) (hb:E8 σ st st0) (hn:Ju σ τ1 c.das st0 d st1 fr=true) (hnm:(DV (Bg σ++τ1) st1++Co (EO σ)).map (·.1)=nm) (h1:Bm todo (EO σ,nm)=some (c.all,c.o,todo')) (hids:ids=fr++ids') (hk:G P n F Q todo' (BK c.dst (Jn (DN (Bg σ++τ1)) d) env) (DV (Bg σ++τ1) st1++Co (EO σ)++st) ids'):G P n F Q todo env st ids:=by
 obtain ⟨_,q2,q3,q4,q5,q6⟩:=Nq (P:=P) h hob;subst hids;rw [q6] at q4 hk;subst hnm;exact BF h1 (wP q2 q3 hE hb hn) q4 q5 hk
theorem Ae {n:Nat} {env:Env} {todo1:List DI} {c:P2} (h:Po n env todo=some c) (hE:Hy P c.f (F3 (DN [(1,1)]) c.das) st0 (.ret d st1)) (hb:E8 [(1,1)] st st0) (h1:Bm todo (EO [(1,1)],(DV (Bg [(1,1)]++[]) st1++Co (EO [(1,1)])).map (·.1))=some (c.all,c.o,todo1)) (hk:G P n F Q todo1 (BK c.dst (Jn (DN (Bg [(1,1)]++[])) d) env) (DV (Bg [(1,1)]++[]) st1++Co (EO [(1,1)])++st) ids) (hn:Ju [(1,1)] [] c.das st0 d st1 []=true:=by rfl) (hob:A4 c.ob:=by simp):G P n F Q todo env st ids :=
 VC (fr:=[]) [(1,1)] [] h hob hE hb hn rfl h1 rfl hk
theorem Aq {n:Nat} {env:Env} {ids1:List Nat} {todo1:List DI} (fr:List Nat) {c:P2} (σ τ1:List (Nat×Nat)) (h:Po n env todo=some c) (hE:Hy P c.f (F3 (DN σ) c.das) st0 (.ret d st1)) (hb:E8 σ st st0) (h1:Bm todo (EO σ,(DV (Bg σ++τ1) st1++Co (EO σ)).map (·.1))=some (c.all,c.o,todo1)) (hids:ids=fr++ids1) (hk:G P n F Q todo1 (BK c.dst (Jn (DN (Bg σ++τ1)) d) env) (DV (Bg σ++τ1) st1++Co (EO σ)++st) ids1) (hn:Ju σ τ1 c.das st0 d st1 fr=true:=by rfl) (hob:A4 c.ob:=by simp):G P n F Q todo env st ids :=
 VC (fr:=fr) σ τ1 h hob hE hb hn rfl h1 hids hk
theorem AD {c:P2} {all rest:List Oper} (σ:List (Nat×Nat)) (h:Po n env (.ops all (o::rest)::k)=some c) (hob:A4 c.ob) (hE:Hy P c.f (F3 (DN σ) c.das) st0 (.pan x)) (hb:E8 σ st st0) (hn:Do σ (Bg σ) (IB c.das)=true) (hq:Lw Q x):DGo P n F Q (.ops all (o::rest)::k) env st ids:=by
 obtain ⟨q1,q2,q3,q4,q5,_⟩:=Nq (P:=P) h hob;obtain ⟨t,ht⟩:=q1 ([],[]);simp only [Bm,Ce,Bc] at ht;obtain ⟨_,ho,_⟩:=ht;subst ho;intro b cs I μ a w items hd hc;obtain ⟨j,is,rfl,hr,hk⟩:=Iw hd;obtain ⟨hj,_⟩:=DW hr;have hon:JN (c.o.looksAt all.toArray) I μ env a:=λt _ d hl=>hc.env t d hl;have hlen:(c.o::rest).length=rest.length+1:=rfl;rw [hlen,OX];refine FN hj (AH q2) q5 ?_;obtain ⟨xs,h1,h2⟩:=q3 I μ a w (Bj hon) trivial;obtain ⟨p1,p2,p3⟩:=G4 hc.toStRep hb hn h1;rw [h2];refine valX.upon ((hE I _ w xs p1 p2).mono (λ_ _ h=>h.elim) λchain w' hp=>?_);obtain ⟨v,y,I',r1,r2,r3,r4,r5⟩:=hp;subst r2
 have hE':Ext I μ st w I' μ [] w':={ imm:=r5.imm,os:=r5.os,tape:=r5.tape,output:=r5.output,size:=r5.size,block:=λb hb ho=>r5.block b hb (λh=>ho (p3 b h)),fresh:=λb hb ⟨i,bi,g,h1,_⟩=>by simp [A1,lk] at h1,old:=λb hb ho=>r5.old b hb (λh=>ho (p3 b h)) }
 exact ⟨.panic y,[],[],[],I',μ,⟨v,r1,r3⟩,hq,KG r4 hc.size (hc.defers.ext hE'),.refl _ _,hE',.refl _ _⟩
end
theorem Fi:prog.follows .mixedOrders=true:=by kernel_rfl
def YC:TT:=[
 (4,⟨.bool,false,1,1,[.imm (.bool false)]⟩),
 (3,⟨.int .i64,false,1,8,[.imm (.int .i64 0)]⟩),
 (9,⟨.str,false,1,16,[.imm (.str [])]⟩),
 (49,⟨.struct [(0,45),(1,3),(2,9),(3,46),(4,47)],true,5,80,[.imm (.int .i64 0),.imm (.int .i64 0),.imm (.str []),.nils,.nils]⟩),
 (25,⟨.struct [(0,22),(1,3),(2,9),(3,23)],true,4,56,[.imm (.int .i64 0),.imm (.int .i64 0),.imm (.str []),.nils]⟩),
 (182,⟨.struct [(0,180),(1,3),(2,9),(3,47)],true,4,56,[.imm (.int .i64 0),.imm (.int .i64 0),.imm (.str []),.nils]⟩),
 (45,⟨.int .i64,false,1,8,[.imm (.int .i64 0)]⟩),
 (47,⟨.sl 182,false,1,24,[.nils]⟩),
 (5,⟨.int .u8,false,1,1,[.imm (.int .u8 0)]⟩),
 (23,⟨.sl 25,false,1,24,[.nils]⟩),
 (22,⟨.int .i64,false,1,8,[.imm (.int .i64 0)]⟩),
 (73,⟨.sl 9,false,1,24,[.nils]⟩),
 (46,⟨.sl 49,false,1,24,[.nils]⟩),
 (180,⟨.int .i64,false,1,8,[.imm (.int .i64 0)]⟩),
 (71,⟨.struct [(0,9),(1,9),(2,25),(6,25),(10,49)],true,15,224,[.imm (.str []),.imm (.str []),.imm (.int .i64 0),.imm (.int .i64 0),.imm (.str []),.nils,.imm (.int .i64 0),.imm (.int .i64 0),.imm (.str []),.nils,.imm (.int .i64 0),.imm (.int .i64 0),.imm (.str []),.nils,.nils]⟩),
 (43,⟨.struct [(0,9),(1,40),(2,41)],true,3,64,[.imm (.str []),.nils,.nils]⟩),
 (178,⟨.struct [(0,9),(1,23)],true,2,40,[.imm (.str []),.nils]⟩),
 (40,⟨.sl 113,false,1,24,[.nils]⟩),
 (41,⟨.sl 71,false,1,24,[.nils]⟩),
 (113,⟨.struct [(0,9),(1,111)],true,2,40,[.imm (.str []),.nils]⟩),
 (111,⟨.sl 178,false,1,24,[.nils]⟩),
 (28,⟨.int .i64,false,1,8,[.imm (.int .i64 0)]⟩)]
theorem Be:TTok prog YC:=.of_eq (l:=[4,3,9,49,25,182,45,47,5,23,22,73,46,180,71,43,178,40,41,113,111,28]) (by kernel_rfl)
def zci:Code->Code
 | .seq _ b=>b
 | _=>.skip
def FK (f:Func):Nat->Code
 | 0=>match f.body with
  | some c=>c
  | none=>.skip
 | k+1=>zci (FK f k)
section
variable {n:Nat} {env:Env} {k:List DI}
abbrev Tq2:=DGo prog
abbrev Tq1:=G prog
theorem kd (path:List Pt) (h:run YC n 300 path todo env st ids [] = .at k env' st' ids' ob) (hob:A4 ob) (hd:Tq1 n F Q k env' st' ids'):Tq2 n F Q todo env st ids:=KC Be Fi 300 path h hob hd
theorem Bb (h:run YC n 300 [] todo env st ids [] = .at k env' st' ids' ob) (hd:Tq1 n F Q k env' st' ids') (hob:A4 ob:=by simp):Tq2 n F Q todo env st ids:=kd [] h hob hd
theorem kdqc (h:run YC n 300 [] todo env st ids [] = .at k env' st' ids' ob) (hd:Tq1 n F Q k env' st' ids') (hob:A4 ob:=by simp [Am]):Tq2 n F Q todo env st ids:=kd [] h hob hd
theorem kg (path:List Pt) (h:run YC n 300 path todo env st ids [] = .at k env' st' ids' ob) (hob:A4 ob) (hd:Tq1 n F Q k env' st' ids'):Tq1 n F Q todo env st ids:=JL Be Fi 300 path h hob hd
theorem AQ (h:run YC n 300 [] todo env st ids [] = .at k env' st' ids' ob) (hd:Tq1 n F Q k env' st' ids') (hob:A4 ob:=by simp):Tq1 n F Q todo env st ids:=kg [] h hob hd
theorem kgqc (h:run YC n 300 [] todo env st ids [] = .at k env' st' ids' ob) (hd:Tq1 n F Q k env' st' ids') (hob:A4 ob:=by simp [Am]):Tq1 n F Q todo env st ids:=kg [] h hob hd
theorem ki {t:Nat} (h:FO YC n env todo=some ⟨es,m,sz,e,g,ob,some t,todo'⟩) (hc:Am g->0<=m/\es[m.toNat]?=some c/\c.length=sz) (hob:A4 ob) (hk:Tq1 n F Q todo' ((t,gD g (.ip e c 0))::env) st ids):Tq1 n F Q todo env st ids:=Ht Be h hc hob hk
theorem SA {t:Nat} (h:FO YC n env todo=some ⟨es,(i:Int),sz,e,g,ob,some t,todo'⟩) (hg:es[i]?=some c) (hk:Tq1 n F Q todo' ((t,gD g (.ip e c 0))::env) st ids) (hl:c.length=sz:=by simp) (hob:A4 ob:=by simp):Tq1 n F Q todo env st ids:=ki h (λ_=>⟨by omega,by simpa using hg,hl⟩) hob hk
theorem kizc {t:Nat} (h:FO YC n env todo=some ⟨es,(i:Int),sz,e,g,ob,some t,todo'⟩) (hg:es[i]?=some c) (hk:Tq1 n F Q todo' ((t,gD g (.ip e c 0))::env) st ids) (hl:c.length=sz:=by simp) (hob:A4 ob:=by simp [Am]):Tq1 n F Q todo env st ids:=ki h (λ_=>⟨by omega,by simpa using hg,hl⟩) hob hk
end
abbrev Str:=List UInt8
inductive Ty where
 | mk (s n:Int) (x:Str) (ps:List Ty)
mutual
def dTyc:Ty->List V
 | .mk s n x ps=>[.int .i64 s,.int .i64 n,.str x,.sl (AA ps)]
def AA:List Ty->List (List V)
 | []=>[]
 | t::r=>dTyc t::AA r
end
inductive Tm where
 | mk (op n:Int) (x:Str) (ks:List Tm) (ps:List Ty)
mutual
def dTmc:Tm->List V
 | .mk op n x ks ps=>[.int .i64 op,.int .i64 n,.str x,.sl (EQ ks),.sl (AA ps)]
def EQ:List Tm->List (List V)
 | []=>[]
 | t::r=>dTmc t::EQ r
end
structure Cd where
 name:Str
 args:List Ty
structure Dt where
 name:Str
 cons:List Cd
structure Fd where
 name:Str
 param:Str
 from_:Ty
 to_:Ty
 body:Tm
structure Md where
 name:Str
 datas:List Dt
 funs:List Fd
def Fa (c:Cd):List V:=[.str c.name,.sl (AA c.args)]
def C7 (d:Dt):List V:=[.str d.name,.sl (d.cons.map Fa)]
def CG (f:Fd):List V:=[.str f.name,.str f.param]++dTyc f.from_++dTyc f.to_++dTmc f.body
def dMdc (m:Md):List V:=[.str m.name,.sl (m.datas.map C7),.sl (m.funs.map CG)]
def Dv (l:List Str):List (List V):=l.map λs=>[.str s]
theorem Dg:∀l:List Ty,AA l=l.map dTyc
 | []=>rfl
 | t::r=>by simp [AA,Dg r]
theorem Nu:∀l:List Tm,EQ l=l.map dTmc
 | []=>rfl
 | t::r=>by simp [EQ,Nu r]
@[simp] theorem dTys_length (l:List Ty):(AA l).length=l.length:=by rw [Dg];simp
@[simp] theorem dTms_length (l:List Tm):(EQ l).length=l.length:=by rw [Nu];simp
@[simp] theorem dTyc_length (t:Ty):(dTyc t).length=4:=by cases t;rfl
@[simp] theorem dTmc_length (t:Tm):(dTmc t).length=5:=by cases t;rfl
@[simp] theorem dStr_length (l:List Str):(Dv l).length=l.length:=by simp [Dv]
theorem AE {l:List Ty} {t:Ty} (h:l[i]?=some t):(AA l)[i]?=some (dTyc t):=by rw [Dg];simp [h]
theorem Eu {l:List Tm} {t:Tm} (h:l[i]?=some t):(EQ l)[i]?=some (dTmc t):=by rw [Nu];simp [h]
theorem HW {l:List Str} {t:Str} (h:l[i]?=some t):(Dv l)[i]?=some [.str t]:=by simp [Dv,h]
theorem GM (a b:List Ty):AA (a++b)=AA a++AA b:=by simp [Dg]
theorem KE (a b:List Tm):EQ (a++b)=EQ a++EQ b:=by simp [Nu]
theorem Ix (a b:List Str):Dv (a++b)=Dv a++Dv b:=by simp [Dv]
theorem Av {l:List α} {t:α} (h:l[i]?=some t):l.drop i=t::l.drop (i+1):=by
 obtain ⟨h1,h2⟩:=AL.1 h;rw [<- h2];exact List.drop_eq_getElem_cons h1
theorem Bp {l:List α} {t:α} (h:l[i]?=some t):l.take (i+1)=l.take i++[t]:=by
 rw [List.take_add_one,h];rfl
theorem Ao {l:List α} (h:i<l.length):∃t,l[i]?=some t:=⟨_,Br h⟩
def BE:List Str->Str->Bool
 | [],_=>false
 | x::r,s=>x == s||BE r s
abbrev Tq3:=Hh prog
theorem VV (l:List Str) (s:Str):Tq3 38 [.sl (Dv l),.str s] (.bool (BE l s)):=by
 refine B3 λhv=>?_;simp [CV,F0,maxLen] at hv;refine Ad Be func38 rfl [1,2]<|AQ rfl<|Ak (λi:Nat=>[(5,.imm (.int .i64 i)),(0,.imm (.sl (Dv l))),(1,.imm (.str s))]) (λ_=>[]) [1] (λi=>l.length-i) (λi=>i<=l.length/\BE l s=BE (l.drop i) s) 0
  ⟨AJ _,rfl⟩ AC trivial rfl λi hi ih=>?_
 refine Bb rfl<|Ab rfl (λh=>?_) (λh=>?_)
 ·simp at h;obtain ⟨t,ht⟩:=Ao h;refine Bb rfl<|ki rfl (c:=[.str t]) (λ_=>⟨by simp,by simpa using HW ht,rfl⟩) (by simp)<|AQ rfl ?_;have e:=hi.2;rw [Av ht] at e;refine Ab rfl (λh=>?_) (λh=>?_)
  ·refine Bb rfl<|Aa rfl rfl (congrArg _ ?_);rw [e];simp [BE,h]
  ·refine Bb rfl<|Ac (ih (i+1) (by omega) ⟨by omega,by rw [e];simp [BE,h]⟩) ⟨AU,AK⟩ trivial rfl
 ·refine Bb rfl<|Aa rfl rfl (congrArg _ ?_);simp at h;rw [hi.2,Bo (by omega)];rfl
def F2 (s:Str):Bool:=s.all λc=>97<=c&&c<=122
theorem OF {s:Str} {c:UInt8} (h:s[i]?=some c):F2 (s.drop i)=((97<=c&&c<=122)&&F2 (s.drop (i+1))):=by
 rw [Av h];simp [F2]
theorem Wr (s:Str) (hs:s.length<=9223372036854775806):Tq3 101 [.str s] (.bool (F2 s)):=by
 refine Ad Be func101 rfl [1,2]<|AQ rfl<|Ak (λi:Nat=>[(3,.imm (.int .i64 i)),(0,.imm (.str s))]) (λ_=>[]) [1] (λi=>s.length-i) (λi=>i<=s.length/\F2 s=F2 (s.drop i)) 0
  ⟨AJ _,rfl⟩ AK trivial rfl λi hi ih=>?_
 refine Bb rfl<|Ab rfl (λh=>?_) (λh=>?_)
 ·simp at h;obtain ⟨c,hc⟩:=Ao h;have e:=hi.2;rw [OF hc] at e;have hg:s[i]?.getD 0=c:=by rw [hc];rfl
  refine kd [] rfl (by simp [h])<|Ab rfl (λh=>?_) (λh=>?_)
  ·refine Bb rfl<|Aa rfl rfl (congrArg _ ?_);rw [e];simp [hg] at h;simp [UInt8.le_iff_toNat_le];omega
  ·refine Bb rfl<|Ac (ih (i+1) (by omega) ⟨by omega,?_⟩) ⟨AU,A9⟩ trivial rfl;rw [e];simp [hg] at h;simp [UInt8.le_iff_toNat_le];omega
 ·refine Bb rfl<|Aa rfl rfl (congrArg _ ?_);simp at h;rw [hi.2,Bo (by omega)];rfl
def IR:List Str:=[[98,111,111,108],[99,101,108,108],[99,104,97,110],[101,108,115,101],[102,97,108,115,101],[102,117,110],[103,101,116],[105,102],[105,110],[105,110,112,117,116],[105,110,116],[106,111,105,110],[108,101,116],[109,97,116,99,104],[109,111,100,117,108,101],[111,117,116],[112,97,117,115,101],[112,117,116],[114,101,115,101,116],[115,101,110,100],[115,104,105,102,116],[115,112,97,119,110],[116,97,107,101],[116,97,115,107],[116,104,101,110],[116,114,117,101],[116,121,112,101],[117,110,105,116]]
theorem Xv:Tq3 154 [] (.sl (Dv IR)):=by
 refine Ad Be func154 rfl [1,2]<|AQ rfl<|Ah ⟨_,rfl,?_,trivial⟩;rfl
def Rn (s:Str):Bool:=BE IR s
theorem uR (s:Str):Tq3 102 [.str s] (.bool (Rn s)):=by
 exact Ad Be func102 rfl [1,2]<|AQ rfl<|Af rfl Xv<|AQ rfl<|Aj rfl (λ_=>VV IR s) (by simp)<|AQ rfl<|Aa rfl rfl rfl
def DH (s:Str):Bool:=decide (1<=s.length)&&decide (s.length<=8)&&F2 s && !Rn s
def EN (s:Str):Bool:=decide (1<=s.length)&&decide (s.length<=8)&&(65<=s.getD 0 0&&s.getD 0 0<=90)&&F2 (s.drop 1)
def Dz (x lo hi:Int):Bool:=decide (lo<=x)&&decide (x<=hi)
theorem Hw (s:Str):Tq3 37 [.str s] (.bool (DH s)):=by
 refine Ad Be func37 rfl [1,2]<|AQ rfl<|Aj rfl (v:=.bool (F2 s)) (λh=>Wr s ?_) (by simp [Am]) ?_
 ·simp [Am] at h;omega
 refine AQ rfl<|Aj rfl (v:=.bool (Rn s)) (λh=>uR s) (by simp [Am])<|AQ rfl<|Aa rfl rfl (congrArg _ ?_);simp [DH]
 norm_cast
theorem Nh (x lo hi:Int):Tq3 83 [.int .i64 x,.int .i64 lo,.int .i64 hi] (.bool (Dz x lo hi)):=by
 refine Ad Be func83 rfl [1,2]<|AQ rfl<|Aa rfl rfl (congrArg _ ?_);simp [Dz]
theorem KO (s:Str):Tq3 122 [.str s] (.bool (EN s)):=by
 refine Ad Be func122 rfl [1,2]<|kg [] rfl (by simp [Am];omega)<|Aj rfl (v:=.bool (F2 (s.drop 1))) (λh=>Wr _ ?_) (by simp [Am]) ?_
 ·simp [Am] at h;simp;omega
 refine AQ rfl<|Aa rfl rfl (congrArg _ ?_);simp [EN,UInt8.le_iff_toNat_le,Me]
 norm_cast
def S8 (c:UInt8):Bool:=97<=c&&c<=122
def sK (c:UInt8):Bool:=65<=c&&c<=90
def Nt (c:UInt8):Bool:=48<=c&&c<=57
def Sr (p:UInt8->Bool):Str->Nat
 | []=>0
 | c::r=>if p c=true then Sr p r+1 else 0
def Hn (s:Str) (at_:Nat) (d:Bool):Nat:=Sr (if d=true then Nt else S8) (s.drop at_)
def signsL:List Str:=[[61,62],[61,61],[45,62],[61],[60],[43],[45],[42],[40],[41],[123],[125],[124],[44],[59],[58],[95],[63]]
def L3 (t:Str):List Str->Str
 | []=>[]
 | x::r=>if x.length<=t.length/\t.take x.length=x then x else L3 t r
def Tq (s:Str) (at_:Nat):Str:=L3 (s.drop at_) signsL
structure Tok where
 kind:Int
 text:Str
 n:Int
 at_:Int
def KD (t:Tok):List V:=[.int .i64 t.kind,.str t.text,.int .i64 t.n,.int .i64 t.at_]
def Uz (s:Str) (a n:Nat):Str:=(s.drop a).take n
def TJ (s:Str) (at_:Nat):Option Tok :=
 if S8 (s.getD at_ 0)=true then
  some ⟨if Rn (Uz s at_ (Hn s at_ false))=true then 3 else if (Uz s at_ (Hn s at_ false)).length<=8 then 1 else 0,Uz s at_ (Hn s at_ false),0,at_⟩
 else if sK (s.getD at_ 0)=true then
  some ⟨if (Uz s at_ (1+Hn s (at_+1) false)).length<=8 then 2 else 0,Uz s at_ (1+Hn s (at_+1) false),0,at_⟩
 else if Nt (s.getD at_ 0)=true then (if Hn s at_ true=1 then some ⟨4,Uz s at_ 1,((s.getD at_ 0).toNat:Int)-48,at_⟩ else none)
 else if s.getD at_ 0=126 then none
 else some ⟨if Tq s at_=[] then 0 else 5,Tq s at_,0,at_⟩
def RX (c:UInt8):Bool:=c=32||c=9||c=10
def Fg (s:Str) (at_:Nat):Nat:=at_+Sr RX (s.drop at_)
def ID:Nat->Str->Nat->Option (List Tok)
 | 0,_,_=>none
 | f+1,s,a=>if s.length<=a then some [] else if s.getD a 0=47 then none else match TJ s a with
  | some t=>if t.kind=0 then none else match ID f s (Fg s (a+t.text.length)) with
   | some l=>some (t::l)
   | none=>none
  | none=>none
def AZ (l:List Tok) (a:Nat) (s:Str):Bool:=match l[a]? with
 | some t=>(t.kind == 5||t.kind == 3)&&t.text == s
 | none=>false
def Mh (l:List Tok) (a:Nat) (k:Int):Bool:=match l[a]? with
 | some t=>t.kind == k
 | none=>false
def CJ (l:List Tok) (a:Nat):Str:=match l[a]? with
 | some t=>t.text
 | none=>[]
def nAt (l:List Tok) (a:Nat):Int:=match l[a]? with
 | some t=>t.n
 | none=>0
def Fc (s:Str):Int×Int :=
 if s=[99,101,108,108] then (16,1) else if s=[103,101,116] then (17,1) else if s=[112,117,116] then (18,2)
 else if s=[115,112,97,119,110] then (19,1) else if s=[106,111,105,110] then (20,1) else if s=[99,104,97,110] then (21,0)
 else if s=[115,101,110,100] then (22,2) else if s=[116,97,107,101] then (23,1) else if s=[111,117,116] then (24,-1)
 else if s=[105,110,112,117,116] then (25,0) else if s=[114,101,115,101,116] then (26,1) else if s=[112,97,117,115,101] then (28,0) else (0,0)
def yV:Str:=[116,114,117,101]
def XS:Str:=[102,97,108,115,101]
def jH:Str:=[109,97,116,99,104]
def N5 (l:List Tok) (a:Nat):Bool:=match l[a]? with
 | some t=>if t.kind=3 then (decide ((Fc t.text).1≠0)||t.text == yV||t.text == XS||t.text == jH) else (decide (t.kind≠5)||t.text == [40])
 | none=>false
def vG (op:Int) (a b:Tm):Tm:=.mk op 0 [] [a,b] []
def after (l:List Tok) (a:Nat) (s:Str) {α:Type} (r:Option α):Option α:=if AZ l a s=true then r else none
def PD (l:List Tok) (a:Nat) (s:List Str) {α:Type} (r:Option α):Option α:=if s.any (AZ l a)=true then none else r
mutual
def Dm (l:List Tok):Nat->Nat->Option (Tm×Nat)
 | 0,_=>none
 | f+1,a =>
  if AZ l a [102,117,110]=true then
   (if Mh l (a+1) 1=true then after l (a+2) [61,62] ((Dm l f (a+3)).map λr=>(.mk 5 0 (CJ l (a+1)) [r.1] [],r.2)) else none)
  else PD l a [[115,104,105,102,116]] (if AZ l a [108,101,116]=true then
   (if Mh l (a+1) 1=true then after l (a+2) [61] ((Dm l f (a+3)).bind λr=>after l r.2 [105,110] ((Dm l f (r.2+1)).map λu=>(.mk 7 0 (CJ l (a+1)) [r.1,u.1] [],u.2))) else none)
  else if AZ l a [105,102]=true then
   (Dm l f (a+1)).bind λr=>after l r.2 [116,104,101,110] ((Dm l f (r.2+1)).bind λu=>after l u.2 [101,108,115,101] ((Dm l f (u.2+1)).map λv=>(.mk 8 0 [] [r.1,u.1,v.1] [],v.2)))
  else (Zo l f a).bind λr=>if AZ l r.2 [60]=true then (Zo l f (r.2+1)).map (λu=>(vG 12 r.1 u.1,u.2)) else PD l r.2 [[61,61]] (some r))
def Zo (l:List Tok):Nat->Nat->Option (Tm×Nat)
 | 0,_=>none
 | f+1,a=>(Zq l f a).bind λr=>OO l f r.1 r.2
def OO (l:List Tok):Nat->Tm->Nat->Option (Tm×Nat)
 | 0,_,_=>none
 | f+1,t,a=>PD l a [[42]] (if AZ l a [43]=true then (Zq l f (a+1)).bind λr=>OO l f (vG 9 t r.1) r.2 else PD l a [[45]] (some (t,a)))
def Zq (l:List Tok):Nat->Nat->Option (Tm×Nat)
 | 0,_=>none
 | f+1,a=>(QH l f a).bind λr=>WN l f r.1 r.2
def WN (l:List Tok):Nat->Tm->Nat->Option (Tm×Nat)
 | 0,_,_=>none
 | f+1,t,a=>if N5 l a=true then (QH l f a).bind λr=>WN l f (vG 6 t r.1) r.2 else some (t,a)
def QH (l:List Tok):Nat->Nat->Option (Tm×Nat)
 | 0,_=>none
 | f+1,a =>
  if Mh l a 4=true then some (.mk 1 (nAt l a) [] [] [],a+1)
  else if Mh l a 1=true then some (.mk 4 0 (CJ l a) [] [],a+1)
  else if Mh l a 2=true then
   if AZ l (a+1) [40]=true then (LW l f (-1) (a+1)).map λr=>(.mk 14 0 (CJ l a) r.1 [],r.2)
   else some (.mk 14 0 (CJ l a) [] [],a+1)
  else PD l a [yV,XS] (if AZ l a jH=true then UY l f (a+1)
  else if AZ l a [40]=true then
   PD l (a+1) [[41]] ((Dm l f (a+1)).bind λr=>after l r.2 [41] (some (r.1,r.2+1)))
  else if Mh l a 3=true then eD l f a
  else none)
def eD (l:List Tok):Nat->Nat->Option (Tm×Nat)
 | 0,_=>none
 | f+1,a =>
  if (Fc (CJ l a)).1=0 then none
  else if 0<(Fc (CJ l a)).2 then (LW l f (Fc (CJ l a)).2 (a+1)).map λr=>(.mk (Fc (CJ l a)).1 0 [] r.1 [],r.2)
  else if (Fc (CJ l a)).2<0 then
   after l (a+1) [40] (if Mh l (a+2) 4=true then after l (a+3) [44] ((Dm l f (a+4)).bind λr=>after l r.2 [41] (some (.mk (Fc (CJ l a)).1 (nAt l (a+2)) [] [r.1] [],r.2+1))) else none)
  else some (.mk (Fc (CJ l a)).1 0 [] [] [],a+1)
def LW (l:List Tok):Nat->Int->Nat->Option (List Tm×Nat)
 | 0,_,_=>none
 | f+1,n,a=>after l a [40] ((Dm l f (a+1)).bind λr=>MF l f n [r.1] r.2)
def MF (l:List Tok):Nat->Int->List Tm->Nat->Option (List Tm×Nat)
 | 0,_,_,_=>none
 | f+1,n,out,a =>
  if (n<0/\AZ l a [44]=true)\/(out.length:Int)<n then after l a [44] ((Dm l f (a+1)).bind λr=>MF l f n (out++[r.1]) r.2)
  else after l a [41] (some (out,a+1))
def UY (l:List Tok):Nat->Nat->Option (Tm×Nat)
 | 0,_=>none
 | f+1,a=>(Dm l f a).bind λr=>after l r.2 [123] (MI l f [] [r.1] (r.2+1))
def MI (l:List Tok):Nat->List Ty->List Tm->Nat->Option (Tm×Nat)
 | 0,_,_,_=>none
 | f+1,ps,ks,a=>(Zp l f a).bind λr=>after l r.2 [45,62] ((Dm l f (r.2+1)).bind λu =>
   if AZ l u.2 [124]=true then MI l f (ps++[r.1]) (ks++[u.1]) (u.2+1) else after l u.2 [125] (some (.mk 15 0 [] (ks++[u.1]) (ps++[r.1]),u.2+1)))
def Zp (l:List Tok):Nat->Nat->Option (Ty×Nat)
 | 0,_=>none
 | f+1,a=>PD l a [[95]] (
  if Mh l a 1=true then some (.mk 2 0 (CJ l a) [],a+1)
  else if Mh l a 4=true then none else PD l a [yV,XS,[40]] (if Mh l a 2=true then
   if AZ l (a+1) [40]=true then (NR l f [] (a+2)).map λr=>(.mk 6 0 (CJ l a) r.1,r.2)
   else some (.mk 6 0 (CJ l a) [],a+1)
  else none))
def NR (l:List Tok):Nat->List Ty->Nat->Option (List Ty×Nat)
 | 0,_,_=>none
 | f+1,ps,a=>(Zp l f a).bind λr=>if AZ l r.2 [44]=true then NR l f (ps++[r.1]) (r.2+1) else after l r.2 [41] (some (ps++[r.1],r.2+1))
end
def MH (l:List Tok) (a:Nat):Option (Ty×Nat):=PD l (a+1) [[45,62]] (
 if AZ l a [105,110,116]=true then some (.mk 1 0 [] [],a+1)
 else if AZ l a [98,111,111,108]=true then some (.mk 2 0 [] [],a+1)
 else if AZ l a [117,110,105,116]=true then some (.mk 3 0 [] [],a+1)
 else PD l a [[99,101,108,108],[99,104,97,110],[116,97,115,107],[63],[40]] (if Mh l a 2=true then some (.mk 8 0 (CJ l a) [],a+1) else none))
def TE (l:List Tok):Nat->List Ty->Nat->Option (List Ty×Nat)
 | 0,_,_=>none
 | f+1,ts,a=>(MH l a).bind λr=>if AZ l r.2 [44]=true then TE l f (ts++[r.1]) (r.2+1) else after l r.2 [41] (some (ts++[r.1],r.2+1))
def TD (l:List Tok):Nat->List Cd->Nat->Option (List Cd×Nat)
 | 0,_,_=>none
 | f+1,cs,a=>if Mh l a 2=true then
   ((if AZ l (a+1) [40]=true then TE l f [] (a+2) else some ([],a+1))).bind λr =>
    if AZ l r.2 [124]=true then TD l f (cs++[⟨CJ l a,r.1⟩]) (r.2+1) else after l r.2 [59] (some (cs++[⟨CJ l a,r.1⟩],r.2+1))
  else none
def eC (l:List Tok) (f:Nat) (a:Nat):Option (Dt×Nat):=if Mh l a 2=true then after l (a+1) [61] ((TD l f [] (a+2)).map λr=>(⟨CJ l a,r.1⟩,r.2)) else none
def vX (l:List Tok) (f:Nat) (a:Nat):Option (Fd×Nat) :=
 if Mh l a 1=true then after l (a+1) [40] (if Mh l (a+2) 1=true then after l (a+3) [58] ((MH l (a+4)).bind λr=>after l r.2 [41] (after l (r.2+1) [58] ((MH l (r.2+2)).bind λu =>
  after l u.2 [61] ((Dm l f (u.2+1)).bind λv=>after l v.2 [59] (some (⟨CJ l a,CJ l (a+2),r.1,u.1,v.1⟩,v.2+1)))))) else none) else none
def NS (l:List Tok):Nat->List Dt->Nat->Option (List Dt×Nat)
 | 0,_,_=>none
 | f+1,ds,a=>if AZ l a [116,121,112,101]=true then (eC l f (a+1)).bind λr=>NS l f (ds++[r.1]) r.2 else some (ds,a)
def TC (l:List Tok):Nat->List Fd->Nat->Option (List Fd×Nat)
 | 0,_,_=>none
 | f+1,fs,a=>if AZ l a [102,117,110]=true then (vX l f (a+1)).bind λr=>TC l f (fs++[r.1]) r.2 else some (fs,a)
def UX (l:List Tok) (f:Nat):Option (Md×Nat):=after l 0 [109,111,100,117,108,101] (if Mh l 1 1=true then after l 2 [123] ((NS l f [] 3).bind λr=>(TC l f [] r.2).bind λu=>after l u.2 [125] (some (⟨CJ l 1,r.1,u.1⟩,u.2+1))) else none)
def Aw (n:Int):Ty:=.mk 9 n [] []
def Cg:Ty->Int
 | .mk f _ _ _=>f
def num:Ty->Int
 | .mk _ n _ _=>n
def Ft:Ty->List Ty
 | .mk _ _ _ ps=>ps
mutual
def A8 (θ:Int->Ty):Ty->Ty
 | .mk f n x ps=>if f=9 then θ n else .mk f n x (Ca θ ps)
def Ca (θ:Int->Ty):List Ty->List Ty
 | []=>[]
 | t::r=>A8 θ t::Ca θ r
end
mutual
def CL:Ty->List Int
 | .mk f n _ ps=>if f=9 then [n] else Dc ps
def Dc:List Ty->List Int
 | []=>[]
 | t::r=>CL t++Dc r
end
mutual
def Ck:Ty->Bool
 | .mk f n x ps=>((f != 9||(x == []&&ps.length == 0))&&(f == 9||(decide (0<=n)&&decide (n<=1000000))))&&(f != 0&&decide (ps.length<=3))&&EJ ps
def EJ:List Ty->Bool
 | []=>true
 | t::r=>Ck t&&EJ r
end
mutual
def EK:Ty->Nat
 | .mk _ _ _ ps=>1+DB ps
def DB:List Ty->Nat
 | []=>0
 | t::r=>EK t+DB r
end
theorem Iz (θ:Int->Ty):∀l:List Ty,Ca θ l=l.map (A8 θ)
 | []=>rfl
 | t::r=>by simp [Ca,Iz θ r]
theorem MQ {m:Int}:∀{l:List Ty},m∈Dc l↔∃t∈l,m∈CL t
 | []=>by simp [Dc]
 | t::r=>by simp [Dc,MQ (l:=r)]
theorem Wc:∀{l:List Ty},EJ l=true↔∀t∈l,Ck t=true
 | []=>by simp [EJ]
 | t::r=>by simp [EJ,Wc (l:=r)]
theorem KP (t:Ty):1<=EK t:=by cases t;simp only [EK];omega
theorem Qv {t:Ty}:∀{l:List Ty},t∈l->EK t<=DB l
 | x::r,h=>by
  simp only [DB];rcases Cy.1 h with rfl | h
  ·omega
  ·have:=Qv h;omega
theorem DZ {t:Ty} (h:Ck t=true) (h9:Cg t=9):t=Aw (num t):=by
 obtain ⟨f,n,x,ps⟩:=t;simp only [Cg] at h9;subst h9;simp [Ck] at h;obtain ⟨⟨⟨rfl,h2⟩,_⟩,_⟩:=h;subst h2;rfl
theorem I3 {t:Ty} (h:Ck t=true):(Ft t).length<=3:=by
 obtain ⟨f,n,x,ps⟩:=t;simp only [Ck,Ap,decide_eq_true_eq] at h;exact h.1.2.2
theorem zaf {t:Ty} (h:Ck t=true):Cg t≠0:=by
 obtain ⟨f,n,x,ps⟩:=t;simp only [Ck,Ap,bne_iff_ne] at h;exact h.1.2.1
theorem E3 {t:Ty} (h:Ck t=true):∀p∈Ft t,Ck p=true:=by
 obtain ⟨f,n,x,ps⟩:=t;simp only [Ck,Ap] at h;exact Wc.1 h.2
theorem CH (θ:Int->Ty) (n:Int):A8 θ (Aw n)=θ n:=by simp [Aw,A8]
theorem Hf {θ:Int->Ty} {t:Ty} (h:Cg t=9):A8 θ t=θ (num t):=by
 obtain ⟨f,n,x,ps⟩:=t;simp only [Cg] at h;subst h;simp [A8,num]
theorem Y4 {θ:Int->Ty} {t:Ty} (h:Cg t≠9):∃f n x,t = .mk f n x (Ft t)/\f≠9/\A8 θ t = .mk f n x ((Ft t).map (A8 θ)):=by
 obtain ⟨f,n,x,ps⟩:=t;exact ⟨f,n,x,rfl,h,by simp only [A8,if_neg (show ¬f=9 from h),Iz,Ft]⟩
mutual
theorem gE:∀t:Ty,Ck t=true->A8 Aw t=t
 | .mk f n x ps,h=>by
  by_cases e:f=9
  ·subst e;have:=DZ h rfl;simp only [num] at this;rw [this];simp [A8,Aw]
  ·simp only [Ck,Ap] at h;simp only [A8,if_neg e,uB ps h.2]
theorem uB:∀l:List Ty,EJ l=true->Ca Aw l=l
 | [],_=>rfl
 | t::r,h=>by
  simp only [EJ,Ap] at h;simp only [Ca,gE t h.1,uB r h.2]
end
mutual
theorem JB (η θ:Int->Ty):∀t:Ty,A8 η (A8 θ t)=A8 (λn=>A8 η (θ n)) t
 | .mk f n x ps=>by
  by_cases e:f=9
  ·simp only [A8,if_pos e]
  ·simp only [A8,if_neg e,Y2 η θ ps]
theorem Y2 (η θ:Int->Ty):∀l:List Ty,Ca η (Ca θ l)=Ca (λn=>A8 η (θ n)) l
 | []=>rfl
 | t::r=>by simp only [Ca,JB η θ t,Y2 η θ r]
end
mutual
theorem Ew {η θ:Int->Ty}:∀t:Ty,(∀m∈CL t,η m=θ m)->A8 η t=A8 θ t
 | .mk f n x ps,h=>by
  by_cases e:f=9
  ·simp only [A8,if_pos e];exact h n (by simp [CL,e])
  ·simp only [A8,if_neg e];rw [U4 ps (λm hm=>h m (by simp only [CL,if_neg e];exact hm))]
theorem U4 {η θ:Int->Ty}:∀l:List Ty,(∀m∈Dc l,η m=θ m)->Ca η l=Ca θ l
 | [],_=>rfl
 | t::r,h=>by
  simp only [Ca,Ew t (λm hm=>h m (by simp [Dc,hm])),U4 r (λm hm=>h m (by simp [Dc,hm]))]
end
mutual
theorem bK {θ:Int->Ty} {m:Int}:∀t:Ty,m∈CL (A8 θ t)↔∃n∈CL t,m∈CL (θ n)
 | .mk f n x ps=>by
  by_cases e:f=9
  ·simp [A8,CL,e]
  ·simp only [A8,CL,if_neg e];exact eZ ps
theorem eZ {θ:Int->Ty} {m:Int}:∀l:List Ty,m∈Dc (Ca θ l)↔∃n∈Dc l,m∈CL (θ n)
 | []=>by simp [Dc,Ca]
 | t::r=>by simp only [Ca,Dc,BN,bK t,eZ r];grind
end
mutual
theorem zas {θ:Int->Ty} {n:Int}:∀t:Ty,n∈CL t->EK (θ n)<=EK (A8 θ t)
 | .mk f m x ps,h=>by
  by_cases e:f=9
  ·simp only [CL,if_pos e,AP] at h;simp only [A8,if_pos e,h];omega
  ·simp only [CL,if_neg e] at h;have:=UD (θ:=θ) ps h;simp only [A8,if_neg e,EK];omega
theorem UD {θ:Int->Ty} {n:Int}:∀l:List Ty,n∈Dc l->EK (θ n)<=DB (Ca θ l)
 | [],h=>by simp [Dc] at h
 | t::r,h=>by
  simp only [Dc,BN] at h;simp only [Ca,DB];rcases h with h | h
  ·have:=zas (θ:=θ) t h;omega
  ·have:=UD (θ:=θ) r h;omega
end
theorem dF {θ:Int->Ty} {t:Ty} (h9:Cg t≠9) (h:n∈CL t):EK (θ n)<EK (A8 θ t):=by
 obtain ⟨f,m,x,ps⟩:=t;have e:¬f=9:=h9;simp only [CL,if_neg e] at h;have:=UD (θ:=θ) ps h;simp only [A8,if_neg e,EK];omega
theorem dE {θ:Int->Ty} {t p:Ty} (h9:Cg t≠9) (h:p∈Ft t):EK (A8 θ p)<EK (A8 θ t):=by
 obtain ⟨f,m,x,ps⟩:=t;have e:¬f=9:=h9;have:=Qv (Vp (f:=A8 θ) h);simp only [A8,if_neg e,EK,Iz,Ft] at *;omega
mutual
theorem SU {θ:Int->Ty} (hθ:∀n,Ck (θ n)=true):∀t:Ty,Ck t=true->Ck (A8 θ t)=true
 | .mk f n x ps,h=>by
  by_cases e:f=9
  ·simp only [A8,if_pos e];exact hθ n
  ·simp only [Ck,Ap] at h;simp only [A8,if_neg e,Ck,Ap];exact ⟨⟨⟨by simp [e],h.1.1.2⟩,h.1.2.1,by rw [Iz,Dn];exact h.1.2.2⟩,mN hθ ps h.2⟩
theorem mN {θ:Int->Ty} (hθ:∀n,Ck (θ n)=true):∀l:List Ty,EJ l=true->EJ (Ca θ l)=true
 | [],_=>rfl
 | t::r,h=>by
  simp only [EJ,Ap] at h;simp only [Ca,EJ,Ap];exact ⟨SU hθ t h.1,mN hθ r h.2⟩
end
abbrev Sb:=Int->Option Ty
def Ea (σ:Sb) (n:Int) (t:Ty):Sb:=λm=>if m=n then some t else σ m
def Qc (η:Int->Ty) (σ:Sb):Prop:=∀n t,σ n=some t->η n=A8 η t
structure Sol (σ:Sb) (θ:Int->Ty):Prop where
 eq:Qc θ σ
 free:∀n,σ n=none->θ n=Aw n
 wf:∀n t,σ n=some t->Ck t=true
 down:∀n t,σ n=some t->Cg t=9->0<=num t/\num t<n
theorem Sol.ind {σ:Sb} {θ:Int->Ty} (h:Sol σ θ) {P:Int->Prop} (hfree:∀n,σ n=none->P n) (hb:∀n t,σ n=some t->(∀m∈CL t,P m)->P n):∀n,P n:=by
 have key:∀(s k:Nat) (n:Int),EK (θ n)<=s->n.toNat<=k->P n:=by
  intro s
  induction s with
  | zero=>intro k n h1 _;have:=KP (θ n);omega
  | succ s ihs =>
   intro k
   induction k with
   | zero =>
    intro n h1 h2;cases e:σ n with
    | none=>exact hfree n e
    | some t =>
     refine hb n t e λm hm=>?_;by_cases h9:Cg t=9
     ·have:=h.down n t e h9;omega
     ·have:=dF (θ:=θ) h9 hm;rw [<- h.eq n t e] at this;exact ihs _ m (by omega) (BQ _)
   | succ k ihk =>
    intro n h1 h2;cases e:σ n with
    | none=>exact hfree n e
    | some t =>
     refine hb n t e λm hm=>?_;by_cases h9:Cg t=9
     ·have hd:=h.down n t e h9;have hmt:m=num t:=by obtain ⟨f,a,x,ps⟩:=t;simp only [Cg] at h9;subst h9;simpa [CL,num] using hm
      have he:=h.eq n t e;rw [Hf h9] at he;subst hmt;exact ihk _ (by rw [<- he];exact h1) (by omega)
     ·have:=dF (θ:=θ) h9 hm;rw [<- h.eq n t e] at this;exact ihs _ m (by omega) (BQ _)
 intro n;exact key _ _ n (BQ _) (BQ _)
theorem Sol.mgu {σ:Sb} {θ η:Int->Ty} (h:Sol σ θ) (hη:Qc η σ) (n:Int):η n=A8 η (θ n):=by
 refine h.ind (P:=λn=>η n=A8 η (θ n)) (λn e=>?_) (λn t e ih=>?_) n
 ·rw [h.free n e,CH]
 ·rw [hη n t e,h.eq n t e,JB];exact Ew t ih
theorem Sol.mguT {σ:Sb} {θ η:Int->Ty} (h:Sol σ θ) (hη:Qc η σ) (t:Ty):A8 η (A8 θ t)=A8 η t:=by
 rw [JB];exact Ew t λm _=>(h.mgu hη m).symm
theorem Sol.range {σ:Sb} {θ:Int->Ty} (h:Sol σ θ) (n:Int):∀m∈CL (θ n),σ m=none:=by
 refine h.ind (P:=λn=>∀m∈CL (θ n),σ m=none) (λn e m hm=>?_) (λn t e ih m hm=>?_) n
 ·rw [h.free n e] at hm;simp [Aw,CL] at hm;rw [hm];exact e
 ·rw [h.eq n t e] at hm;obtain ⟨k,hk,hm⟩:=(bK t).1 hm;exact ih k hk m hm
theorem Sol.wfθ {σ:Sb} {θ:Int->Ty} (h:Sol σ θ) (n:Int):Ck (θ n)=true:=by
 refine h.ind (P:=λn=>Ck (θ n)=true) (λn e=>by rw [h.free n e];rfl) (λn t e ih=>?_) n;rw [h.eq n t e,Ew (θ:=λm=>if Ck (θ m)=true then θ m else Aw m) t λm hm=>by rw [if_pos (ih m hm)]];exact SU (λm=>by split;assumption;rfl) t (h.wf n t e)
theorem Sol.free_id {σ:Sb} {θ θ':Int->Ty} (h:Sol σ θ) (h':∀m,σ m=none->θ' m=Aw m) (t:Ty):A8 θ' (A8 θ t)=A8 θ t:=by
 rw [JB];refine Ew t λm _=>?_;rw [Ew (θ:=Aw) (θ m) λk hk=>h' k (h.range m k hk)];exact gE _ (h.wfθ m)
theorem Sol.unique {σ:Sb} {θ θ':Int->Ty} (h:Sol σ θ) (h':Sol σ θ'):θ=θ':=by
 funext n;have h1:=h.mgu h'.eq n;have h2:=h.free_id h'.free (Aw n);rw [CH] at h2;rw [h1,h2]
theorem Sol.bind {σ:Sb} {θ:Int->Ty} (h:Sol σ θ) {t:Ty} (hn:σ n=none) (ht:Ck t=true) (hd:Cg t=9->0<=num t/\num t<n) (ho:n∉CL (A8 θ t)) :
  Sol (Ea σ n t) (λm=>A8 (λk=>if k=n then A8 θ t else Aw k) (θ m)):=by
 have hfix:A8 (λk=>if k=n then A8 θ t else Aw k) (A8 θ t)=A8 θ t:=by
  rw [Ew (θ:=Aw) (A8 θ t) λk hk=>by
   by_cases e:k=n
   ·exact absurd (e ▸ hk) ho
   ·rw [if_neg e]]
  exact gE _ (SU h.wfθ t ht)
 refine ⟨λm u hu=>?_,λm hm=>?_,λm u hu=>?_,λm u hu=>?_⟩
 ·simp only [Ea] at hu;rw [<- JB];by_cases e:m=n
  ·rw [if_pos e] at hu;subst e;cases hu;rw [h.free m hn,CH,if_pos rfl,hfix]
  ·rw [if_neg e] at hu;rw [h.eq m u hu]
 ·simp only [Ea] at hm;by_cases e:m=n
  ·rw [if_pos e] at hm;cases hm
  ·rw [if_neg e] at hm;rw [h.free m hm,CH,if_neg e]
 ·simp only [Ea] at hu;by_cases e:m=n
  ·rw [if_pos e] at hu;cases hu;exact ht
  ·rw [if_neg e] at hu;exact h.wf m u hu
 ·simp only [Ea] at hu;by_cases e:m=n
  ·rw [if_pos e] at hu;cases hu;rw [e];exact hd
  ·rw [if_neg e] at hu;exact h.down m u hu
theorem vM {η:Int->Ty} {σ:Sb} {t:Ty} (hn:σ n=none):Qc η (Ea σ n t)↔Qc η σ/\η n=A8 η t:=by
 constructor
 ·intro h;refine ⟨λm u hu=>h m u ?_,h n t (by simp [Ea])⟩;simp only [Ea];rw [if_neg (λe=>by rw [e,hn] at hu;cases hu)];exact hu
 ·rintro ⟨h1,h2⟩ m u hu;simp only [Ea] at hu;by_cases e:m=n
  ·rw [if_pos e] at hu;cases hu;rw [e];exact h2
  ·rw [if_neg e] at hu;exact h1 m u hu
theorem Sol.never {σ:Sb} {θ η:Int->Ty} (h:Sol σ θ) (hη:Qc η σ) {t:Ty} (h9:Cg t≠9) (ho:n∈CL (A8 θ t)):η n≠A8 η t:=by
 intro e;have h1:=h.mguT hη t;have h9':Cg (A8 θ t)≠9:=by
  obtain ⟨f,m,x,_,hf,e2⟩:=Y4 (θ:=θ) h9;rw [e2];exact hf
 have:=dF (θ:=η) h9' ho;rw [h1,e] at this;omega
inductive Top (σ:Sb):Ty->Ty->Prop
 | stop {t:Ty}:(Cg t=9->σ (num t)=none)->Top σ t t
 | step {t u v:Ty}:Cg t=9->σ (num t)=some u->Top σ u v->Top σ t v
theorem Top.end_ {σ:Sb} {t u:Ty} (h:Top σ t u):Cg u=9->σ (num u)=none:=by
 induction h with
 | stop h=>exact h
 | step _ _ _ ih=>exact ih
theorem Top.ap {σ:Sb} {η:Int->Ty} (hη:Qc η σ) {t u:Ty} (h:Top σ t u):A8 η t=A8 η u:=by
 induction h with
 | stop _=>rfl
 | step h9 hs _ ih=>rw [Hf h9,hη _ _ hs,ih]
theorem Top.wf {σ:Sb} {θ:Int->Ty} (hσ:Sol σ θ) {t u:Ty} (h:Top σ t u) (ht:Ck t=true):Ck u=true:=by
 induction h with
 | stop _=>exact ht
 | step _ hs _ ih=>exact ih (hσ.wf _ _ hs)
theorem cZ {σ:Sb} {θ:Int->Ty} (hσ:Sol σ θ):∀(k:Nat) (t:Ty),(Cg t=9->(num t).toNat<k)->∃u,Top σ t u
 | 0,t,h=>⟨t,.stop λh9=>absurd (h h9) (by omega)⟩
 | k+1,t,h=>by
  by_cases h9:Cg t=9
  ·cases e:σ (num t) with
   | none=>exact ⟨t,.stop λ_=>e⟩
   | some u =>
    obtain ⟨v,hv⟩:=cZ hσ k u λhu=>by have:=hσ.down _ u e hu;have:=h h9;omega
    exact ⟨v,.step h9 e hv⟩
  ·exact ⟨t,.stop λh=>absurd h h9⟩
theorem NJ {σ:Sb} {θ:Int->Ty} (hσ:Sol σ θ) (t:Ty):∃u,Top σ t u:=cZ hσ ((num t).toNat+1) t λ_=>by omega
theorem cY {σ:Sb} {t u v:Ty} (h:Top σ t u) (h':Top σ t v):u=v:=by
 induction h with
 | stop h =>
  cases h' with
  | stop=>rfl
  | step h9 hs _=>rw [h h9] at hs;cases hs
 | step h9 hs _ ih =>
  cases h' with
  | stop h=>rw [h h9] at hs;cases hs
  | step _ hs' h'=>rw [hs] at hs';cases hs';exact ih h'
theorem Wg {σ:Sb} {t u:Ty} (h:Top σ t u):Top σ u u:=.stop h.end_
def uN (σ:Sb) (n:Int) (t:Ty):Prop:=∃θ,Sol σ θ/\n∈CL (A8 θ t)
theorem Sol.occ {σ:Sb} {θ:Int->Ty} (h:Sol σ θ) {t:Ty}:uN σ n t↔n∈CL (A8 θ t) :=
 ⟨λ⟨_,h1,h2⟩=>by rw [h.unique h1];exact h2,λh1=>⟨θ,h,h1⟩⟩
def cX:Ty->Str
 | .mk _ _ x _=>x
def HE (a b:Ty):Prop:=Cg a=Cg b/\num a=num b/\cX a=cX b/\(Ft a).length=(Ft b).length
def Sj (E:Sb->Ty->Ty->Option Sb->Prop):Sb->List Ty->List Ty->Option Sb->Prop
 | σ,[],[],r=>r=some σ
 | σ,a::xs,b::ys,r=>(E σ a b none/\r=none)\/∃σ',E σ a b (some σ')/\Sj E σ' xs ys r
 | _,_,_,_=>False
def D0 (E:Sb->Ty->Ty->Option Sb->Prop) (σ:Sb) (u v:Ty) (r:Option Sb):Prop :=
 (Cg u=9/\Cg v=9/\num u=num v/\r=some σ) \/
 (Cg u=9/\Cg v=9/\num u≠num v/\r=some (Ea σ (max (num u) (num v)) (Aw (min (num u) (num v))))) \/
 (Cg u=9/\Cg v≠9/\uN σ (num u) v/\r=none)\/(Cg u=9/\Cg v≠9/\¬uN σ (num u) v/\r=some (Ea σ (num u) v)) \/
 (Cg u≠9/\Cg v=9/\uN σ (num v) u/\r=none)\/(Cg u≠9/\Cg v=9/\¬uN σ (num v) u/\r=some (Ea σ (num v) u)) \/
 (Cg u≠9/\Cg v≠9/\¬HE u v/\r=none)\/(Cg u≠9/\Cg v≠9/\HE u v/\Sj E σ (Ft u) (Ft v) r)
def U7:Nat->Sb->Ty->Ty->Option Sb->Prop
 | 0,_,_,_,_=>False
 | k+1,σ,a,b,r=>∃u v,Top σ a u/\Top σ b v/\D0 (U7 k) σ u v r
theorem Oo {E E':Sb->Ty->Ty->Option Sb->Prop} (h:∀σ a b r,E σ a b r->E' σ a b r):∀{xs ys:List Ty} {σ:Sb} {r:Option Sb},Sj E σ xs ys r->Sj E' σ xs ys r
 | [],[],_,_,hr=>hr
 | a::xs,b::ys,σ,r,hr=>by
  rcases hr with ⟨h1,h2⟩ | ⟨σ',h1,h2⟩
  ·exact .inl ⟨h _ _ _ _ h1,h2⟩
  ·exact .inr ⟨σ',h _ _ _ _ h1,Oo h h2⟩
 | [],_::_,_,_,hr=>hr.elim
 | _::_,[],_,_,hr=>hr.elim
theorem bX {E E':Sb->Ty->Ty->Option Sb->Prop} (h:∀σ a b r,E σ a b r->E' σ a b r) {σ:Sb} {u v:Ty} {r:Option Sb} (hr:D0 E σ u v r):D0 E' σ u v r:=by
 rcases hr with hr | hr | hr | hr | hr | hr | hr | ⟨h1,h2,h3,h4⟩
 ·exact .inl hr
 ·exact .inr (.inl hr)
 ·exact .inr (.inr (.inl hr))
 ·exact .inr (.inr (.inr (.inl hr)))
 ·exact .inr (.inr (.inr (.inr (.inl hr))))
 ·exact .inr (.inr (.inr (.inr (.inr (.inl hr)))))
 ·exact .inr (.inr (.inr (.inr (.inr (.inr (.inl hr))))))
 ·exact .inr (.inr (.inr (.inr (.inr (.inr (.inr ⟨h1,h2,h3,Oo h h4⟩))))))
theorem XZ:∀(k:Nat) (σ:Sb) (a b:Ty) (r:Option Sb),U7 k σ a b r->U7 (k+1) σ a b r
 | 0,_,_,_,_,h=>h.elim
 | k+1,σ,a,b,r,⟨u,v,h1,h2,h3⟩=>⟨u,v,h1,h2,bX (XZ k) h3⟩
theorem Nn {k:Nat} (h:k<=j) {σ:Sb} {a b:Ty} {r:Option Sb} (hr:U7 k σ a b r):U7 j σ a b r:=by
 induction h with
 | refl=>exact hr
 | step _ ih=>exact XZ _ _ _ _ _ ih
def inB (H:Int) (t:Ty):Prop:=∀m∈CL t,0<=m/\m<H
def Dom (H:Int) (σ:Sb):Prop:=∀n t,σ n=some t->(0<=n/\n<H)/\inB H t
theorem inB.part {t p:Ty} (h:inB H t) (h9:Cg t≠9) (hp:p∈Ft t):inB H p:=λm hm=>h m (by
 obtain ⟨f,n,x,ps⟩:=t;simp only [CL,if_neg (show ¬f=9 from h9)];exact MQ.2 ⟨p,hp,hm⟩)
theorem inB.num {t:Ty} (h:inB H t) (h9:Cg t=9):0<=num t/\num t<H:=h _ (by
 obtain ⟨f,n,x,ps⟩:=t;simp only [Cg] at h9;subst h9;simp [CL,Go.Hk.num])
theorem Kx (h:0<=n/\n<H):inB H (Aw n):=λm hm=>by
 simp [Aw,CL] at hm;rw [hm];exact h
theorem Top.inB {σ:Sb} (hd:Dom H σ) {t u:Ty} (h:Top σ t u) (ht:Go.Hk.inB H t):Go.Hk.inB H u:=by
 induction h with
 | stop _=>exact ht
 | step _ hs _ ih=>exact ih (hd _ _ hs).2
theorem Dom.set {σ:Sb} (hd:Dom H σ) {t:Ty} (hn:0<=n/\n<H) (ht:inB H t):Dom H (Ea σ n t):=λm u hu=>by
 simp only [Ea] at hu;by_cases e:m=n
 ·rw [if_pos e] at hu;cases hu;rw [e];exact ⟨hn,ht⟩
 ·rw [if_neg e] at hu;exact hd m u hu
def Tb (H:Nat) (σ:Sb):Nat:=((List.range H).filter λi:Nat=>(σ (i:Int)).isNone).length
theorem Uo {α:Type} {p q:α->Bool}:∀{l:List α},(∀x∈l,q x=true->p x=true)->(∃x∈l,p x=true/\q x=false)->(l.filter q).length<(l.filter p).length
 | [],_,⟨_,h,_⟩=>by cases h
 | y::r,h,hx=>by
  have hle:(r.filter q).length<=(r.filter p).length:=by
   clear hx;have h':∀x∈r,q x=true->p x=true:=λx hx=>h x (by simp [hx]);clear h
   induction r with
   | nil=>simp
   | cons z r ih =>
    have:=ih λx hx=>h' x (by simp [hx]);simp only [ZO];cases e:q z with
    | true=>rw [h' z (by simp) e];simp;omega
    | false=>simp only [DK,if_false];split <;> simp <;> omega
  simp only [ZO];obtain ⟨x,hx,h1,h2⟩:=hx;by_cases e:x=y
  ·subst e;rw [h1,h2];simp;omega
  ·have:=Uo (l:=r) (λx hx=>h x (by simp [hx])) ⟨x,(Cy.1 hx).resolve_left e,h1,h2⟩;cases eq:q y with
   | true=>rw [h y (by simp) eq];simp;omega
   | false=>simp only [DK,if_false];split <;> simp <;> omega
theorem vE {H:Nat} {σ:Sb} {t:Ty} (hn:σ n=none) (h:0<=n/\n<(H:Int)):Tb H (Ea σ n t)<Tb H σ:=by
 refine Uo (λi hi hq=>?_) ⟨n.toNat,by simp;omega,?_,?_⟩
 ·simp only [Ea] at hq
  split at hq
  ·simp at hq
  ·exact hq
 ·rw [show ((n.toNat:Nat):Int)=n by omega,hn];rfl
 ·rw [show ((n.toNat:Nat):Int)=n by omega];simp [Ea]
def yL (H:Nat) (σ:Sb) (a b:Ty):Option Sb->Prop
 | some σ'=>(∃θ',Sol σ' θ')/\Dom H σ'/\(σ'=σ\/Tb H σ'<Tb H σ)/\∀η,Qc η σ'↔Qc η σ/\A8 η a=A8 η b
 | none=>∀η,Qc η σ->A8 η a≠A8 η b
def zdd (H:Nat) (σ:Sb) (xs ys:List Ty):Option Sb->Prop
 | some σ'=>(∃θ',Sol σ' θ')/\Dom H σ'/\(σ'=σ\/Tb H σ'<Tb H σ)/\∀η,Qc η σ'↔Qc η σ/\xs.map (A8 η)=ys.map (A8 η)
 | none=>∀η,Qc η σ->xs.map (A8 η)≠ys.map (A8 η)
theorem XY {H:Nat} {L:Ty->Prop} (σ0:Sb) (U:Nat) (hE:∀σ θ a b,Sol σ θ->Dom H σ->Tb H σ<=U->(Tb H σ=U->σ=σ0/\L a)->Ck a=true->Ck b=true->inB H a->inB H b->∃k r,U7 k σ a b r/\yL H σ a b r) :
  ∀(xs ys:List Ty) (σ:Sb) (θ:Int->Ty),xs.length=ys.length->Sol σ θ->Dom H σ->Tb H σ<=U->(Tb H σ=U->σ=σ0/\∀a∈xs,L a)->(∀a∈xs,Ck a=true/\inB H a)->(∀b∈ys,Ck b=true/\inB H b) ->
   ∃k r,Sj (U7 k) σ xs ys r/\zdd H σ xs ys r
 | [],[],σ,θ,_,hs,hd,_,_,_,_=>⟨0,some σ,rfl,⟨θ,hs⟩,hd,.inl rfl,λη=>by simp⟩
 | a::xs,b::ys,σ,θ,hl,hs,hd,hu,hL,ha,hb=>by
  obtain ⟨k,r,h1,h2⟩:=hE σ θ a b hs hd hu (λe=>⟨(hL e).1,(hL e).2 a (by simp)⟩) (ha a (by simp)).1 (hb b (by simp)).1 (ha a (by simp)).2 (hb b (by simp)).2;cases r with
  | none=>exact ⟨k,none,.inl ⟨h1,rfl⟩,λη hη e=>h2 η hη (by simp at e;exact e.1)⟩
  | some σ' =>
   obtain ⟨⟨θ',g1⟩,g2,g3,g4⟩:=h2;obtain ⟨j,r',h3,h4⟩:=XY σ0 U hE xs ys σ' θ' (by simpa using hl) g1 g2 (by rcases g3 with rfl | g3 <;> omega) (λe=>by
    rcases g3 with rfl | g3
    ·exact ⟨(hL e).1,λx hx=>(hL e).2 x (by simp [hx])⟩
    ·omega) (λx hx=>ha x (by simp [hx])) (λx hx=>hb x (by simp [hx]))
   refine ⟨max k j,r',.inr ⟨σ',Nn (Nat.le_max_left _ _) h1,Oo (λ_ _ _ _ h=>Nn (Nat.le_max_right _ _) h) h3⟩,?_⟩;cases r' with
   | none =>
    intro η hη e;simp only [C6,DM] at e;exact h4 η ((g4 η).2 ⟨hη,e.1⟩) e.2
   | some σ2 =>
    obtain ⟨q1,q2,q3,q4⟩:=h4;refine ⟨q1,q2,?_,λη=>?_⟩
    ·rcases q3 with rfl | q3
     ·exact g3
     ·rcases g3 with rfl | g3
      ·exact .inr q3
      ·exact .inr (by omega)
    ·rw [q4 η,g4 η,and_assoc];simp only [C6,DM]
theorem fO (H:Nat):∀(U s:Nat) (σ:Sb) (θ:Int->Ty) (a b:Ty),Sol σ θ->Dom H σ->Tb H σ<=U->(Tb H σ=U->EK (A8 θ a)<=s)->Ck a=true->Ck b=true->inB H a->inB H b->∃k r,U7 k σ a b r/\yL H σ a b r:=by
 intro U
 induction U using Nat.strongRecOn with
 | ind U ihU =>
 intro s
 induction s with
 | zero =>
  intro σ θ a b hs hd hu hz ha hb ia ib;by_cases e:Tb H σ=U
  ·have:=hz e;have:=KP (A8 θ a);omega
  ·exact ihU (Tb H σ) (by omega) (EK (A8 θ a)) σ θ a b hs hd (BQ _) (λ_=>BQ _) ha hb ia ib
 | succ s ihs =>
  intro σ θ a b hs hd hu hz ha hb ia ib;by_cases e:Tb H σ=U
  case neg=>exact ihU (Tb H σ) (by omega) (EK (A8 θ a)) σ θ a b hs hd (BQ _) (λ_=>BQ _) ha hb ia ib
  have hz:=hz e;obtain ⟨u,hu1⟩:=NJ hs a;obtain ⟨v,hv1⟩:=NJ hs b;have wu:=hu1.wf hs ha;have wv:=hv1.wf hs hb;have iu:=hu1.inB hd ia;have iv:=hv1.inB hd ib;have au:=λ{η} (hη:Qc η σ)=>hu1.ap hη;have av:=λ{η} (hη:Qc η σ)=>hv1.ap hη;have one:∀{n:Int} {t:Ty},σ n=none->0<=n/\n<(H:Int)->Ck t=true->(Cg t=9->0<=num t/\num t<n)->n∉CL (A8 θ t)->inB H t->(∀η,Qc η σ->(η n=A8 η t↔A8 η a=A8 η b))->yL H σ a b (some (Ea σ n t)):=λhn hr ht h9 ho hi hη =>
   ⟨⟨_,hs.bind hn ht h9 ho⟩,hd.set hr hi,.inr (vE hn hr),λη=>by rw [vM hn];exact ⟨λ⟨h1,h2⟩=>⟨h1,(hη η h1).1 h2⟩,λ⟨h1,h2⟩=>⟨h1,(hη η h1).2 h2⟩⟩⟩
  by_cases u9:Cg u=9
  ·have un:=hu1.end_ u9;by_cases v9:Cg v=9
   ·have vn:=hv1.end_ v9;by_cases en:num u=num v
    ·refine ⟨1,some σ,⟨u,v,hu1,hv1,.inl ⟨u9,v9,en,rfl⟩⟩,⟨θ,hs⟩,hd,.inl rfl,λη=>⟨λh=>⟨h,?_⟩,λh=>h.1⟩⟩;rw [au h,av h,Hf u9,Hf v9,en]
    ·have bu:=iu.num u9;have bv:=iv.num v9;refine ⟨1,_,⟨u,v,hu1,hv1,.inr (.inl ⟨u9,v9,en,rfl⟩)⟩,one ?_ (by omega) rfl (λ_=>by show 0<=min (num u) (num v)/\min (num u) (num v)<max (num u) (num v);omega) ?_ (Kx (by omega)) λη hη=>?_⟩
     ·rcases ZN (num u) (num v) with h | h
      ·rw [ZM h];exact vn
      ·rw [ZL h];exact un
     ·rw [CH];have:θ (min (num u) (num v))=Aw (min (num u) (num v)):=by
       rcases ZN (num u) (num v) with h | h
       ·rw [ZK h];exact hs.free _ un
       ·rw [ZJ h];exact hs.free _ vn
      rw [this];simp [Aw,CL];omega
     ·rw [au hη,av hη,Hf u9,Hf v9,CH];rcases ZN (num u) (num v) with h | h
      ·rw [ZM h,ZK h];exact eq_comm
      ·rw [ZL h,ZJ h]
   ·by_cases ho:uN σ (num u) v
    ·refine ⟨1,none,⟨u,v,hu1,hv1,.inr (.inr (.inl ⟨u9,v9,ho,rfl⟩))⟩,λη hη e=>?_⟩;rw [au hη,av hη,Hf u9] at e;exact hs.never hη v9 (hs.occ.1 ho) e
    ·refine ⟨1,_,⟨u,v,hu1,hv1,.inr (.inr (.inr (.inl ⟨u9,v9,ho,rfl⟩)))⟩,one un (iu.num u9) wv (λh=>absurd h v9) (λh=>ho (hs.occ.2 h)) iv λη hη=>?_⟩;rw [au hη,av hη,Hf u9]
  ·by_cases v9:Cg v=9
   ·have vn:=hv1.end_ v9;by_cases ho:uN σ (num v) u
    ·refine ⟨1,none,⟨u,v,hu1,hv1,.inr (.inr (.inr (.inr (.inl ⟨u9,v9,ho,rfl⟩))))⟩,λη hη e=>?_⟩;rw [au hη,av hη,Hf v9] at e;exact hs.never hη u9 (hs.occ.1 ho) e.symm
    ·refine ⟨1,_,⟨u,v,hu1,hv1,.inr (.inr (.inr (.inr (.inr (.inl ⟨u9,v9,ho,rfl⟩)))))⟩,one vn (iv.num v9) wu (λh=>absurd h u9) (λh=>ho (hs.occ.2 h)) iu λη hη=>?_⟩;rw [au hη,av hη,Hf v9];exact eq_comm
   ·obtain ⟨f,n,x,e1,hf,e2⟩:=Y4 (θ:=θ) u9;have heq:∀η,Qc η σ->(A8 η a=A8 η b↔(Cg u=Cg v/\num u=num v/\cX u=cX v)/\(Ft u).map (A8 η)=(Ft v).map (A8 η)):=λη hη=>by
     rw [au hη,av hη];obtain ⟨f1,n1,x1,ps1⟩:=u;obtain ⟨f2,n2,x2,ps2⟩:=v;simp only [A8,if_neg (show ¬f1=9 from u9),if_neg (show ¬f2=9 from v9),Iz,Cg,num,Ft,cX,Ty.mk.injEq];grind
    by_cases hh:HE u v
    ·have au':EK (A8 θ u)<=s+1:=by rw [<- au hs.eq];exact hz
     obtain ⟨k,r,h1,h2⟩:=XY (L:=λp=>EK (A8 θ p)<=s) σ U (λσ' θ' a' b' s' d' u' l' wa wb ia' ib'=>by
      by_cases e':Tb H σ'=U
      ·obtain ⟨rfl,hL⟩:=l' e';obtain rfl:=s'.unique hs;exact ihs σ' θ' a' b' s' d' u' (λ_=>hL) wa wb ia' ib'
      ·exact ihU (Tb H σ') (by omega) (EK (A8 θ' a')) σ' θ' a' b' s' d' (BQ _) (λ_=>BQ _) wa wb ia' ib') (Ft u) (Ft v) σ θ hh.2.2.2 hs hd hu (λ_=>⟨rfl,λp hp=>by have:=dE (θ:=θ) u9 hp;omega⟩)
      (λp hp=>⟨E3 wu p hp,iu.part u9 hp⟩) (λp hp=>⟨E3 wv p hp,iv.part v9 hp⟩)
     refine ⟨k+1,r,⟨u,v,hu1,hv1,.inr (.inr (.inr (.inr (.inr (.inr (.inr ⟨u9,v9,hh,h1⟩))))))⟩,?_⟩;cases r with
     | none=>exact λη hη e=>h2 η hη ((heq η hη).1 e).2
     | some σ' =>
      obtain ⟨q1,q2,q3,q4⟩:=h2;exact ⟨q1,q2,q3,λη=>by rw [q4 η];exact ⟨λ⟨h1,h2⟩=>⟨h1,(heq η h1).2 ⟨⟨hh.1,hh.2.1,hh.2.2.1⟩,h2⟩⟩,λ⟨h1,h2⟩=>⟨h1,((heq η h1).1 h2).2⟩⟩⟩
    ·refine ⟨1,none,⟨u,v,hu1,hv1,.inr (.inr (.inr (.inr (.inr (.inr (.inl ⟨u9,v9,hh,rfl⟩))))))⟩,λη hη e=>hh ?_⟩;obtain ⟨⟨h1,h2,h3⟩,h4⟩:=(heq η hη).1 e;exact ⟨h1,h2,h3,by simpa using congrArg List.length h4⟩
def Agr (k:Int) (η η':Int->Ty):Prop:=∀n,n<k->η' n=η n
theorem Agr.refl (k:Int) (η:Int->Ty):Agr k η η:=λ_ _=>rfl
theorem Agr.trans {a b c:Int->Ty} (h:Agr k a b) (h':Agr k1 b c) (hk:k<=k1):Agr k a c:=λn hn=>(h' n (by omega)).trans (h n hn)
theorem Agr.ap {η η':Int->Ty} (h:Agr k η η') {t:Ty} (ht:inB k t):A8 η' t=A8 η t:=Ew t λm hm=>h m (ht m hm).2
theorem Agr.slv {η η':Int->Ty} (h:Agr k η η') {σ:Sb} (hd:Dom k σ) (hs:Qc η σ):Qc η' σ:=λn t hn=>by
 obtain ⟨⟨_,h2⟩,h3⟩:=hd n t hn;rw [h n h2,h.ap h3,hs n t hn]
theorem inB.mono {t:Ty} (h:inB k t) (hk:k<=k'):inB k' t:=λm hm=>⟨(h m hm).1,by have:=(h m hm).2;omega⟩
theorem Dom.mono {σ:Sb} (h:Dom k σ) (hk:k<=k'):Dom k' σ:=λn t hn=>by
 obtain ⟨⟨h1,h2⟩,h3⟩:=h n t hn;exact ⟨⟨h1,by omega⟩,h3.mono hk⟩
def StOk (k:Int) (σ:Sb):Prop:=0<=k/\Dom k σ/\∃θ,Sol σ θ
def StpR (k:Int) (σ:Sb) (k':Int) (σ':Sb) {β:Type} (v:(Int->Ty)->β) (G:(Int->Ty)->β->Prop):Prop :=
 k<=k'/\StOk k' σ'/\(∀η,Qc η σ'->Qc η σ/\G η (v η))/\∀η w,Qc η σ->G η w->∃η',Agr k η η'/\Qc η' σ'/\v η'=w
def StpN (σ:Sb) {β:Type} (G:(Int->Ty)->β->Prop):Prop:=∀η w,Qc η σ->¬G η w
theorem StpR.bind {σ σ1 σ2:Sb} {v:(Int->Ty)->β} {v1:(Int->Ty)->β1} {v2:(Int->Ty)->β2} {G:(Int->Ty)->β->Prop} {G1:(Int->Ty)->β1->Prop} {G2:(Int->Ty)->β2->Prop} (h1:StpR k σ k1 σ1 v1 G1) (h2:StpR k1 σ1 k2 σ2 v2 G2) (hs:∀η,G1 η (v1 η)->G2 η (v2 η)->G η (v η)) (hc:∀η w,G η w->∃w1,G1 η w1/\∀η1,Agr k η η1->v1 η1=w1->∃w2,G2 η1 w2/\∀η2,Agr k1 η1 η2->Agr k η η2->v2 η2=w2->v η2=w):StpR k σ k2 σ2 v G:=by
 obtain ⟨a1,a2,a3,a4⟩:=h1;obtain ⟨b1,b2,b3,b4⟩:=h2;refine ⟨by omega,b2,λη h=>?_,λη w hη hG=>?_⟩
 ·obtain ⟨c1,c2⟩:=b3 η h;obtain ⟨d1,d2⟩:=a3 η c1;exact ⟨d1,hs η d2 c2⟩
 ·obtain ⟨w1,e1,e2⟩:=hc η w hG;obtain ⟨η1,f1,f2,f3⟩:=a4 η w1 hη e1;obtain ⟨w2,g1,g2⟩:=e2 η1 f1 f3;obtain ⟨η2,l1,l2,l3⟩:=b4 η1 w2 f2 g1;exact ⟨η2,f1.trans l1 a1,l2,g2 η2 l1 (f1.trans l1 a1) l3⟩
theorem StpN.first {σ:Sb} {G:(Int->Ty)->β->Prop} {G1:(Int->Ty)->β1->Prop} (h1:StpN σ G1) (hc:∀η w,G η w->∃w1,G1 η w1):StpN σ G:=λη w hη hG=>by
 obtain ⟨w1,h⟩:=hc η w hG;exact h1 η w1 hη h
theorem StpN.second {σ σ1:Sb} {v1:(Int->Ty)->β1} {G:(Int->Ty)->β->Prop} {G1:(Int->Ty)->β1->Prop} {G2:(Int->Ty)->β2->Prop} (h1:StpR k σ k1 σ1 v1 G1) (h2:StpN σ1 G2) (hc:∀η w,G η w->∃w1,G1 η w1/\∀η1,Agr k η η1->v1 η1=w1->∃w2,G2 η1 w2):StpN σ G:=λη w hη hG=>by
 obtain ⟨w1,e1,e2⟩:=hc η w hG;obtain ⟨η1,f1,f2,f3⟩:=h1.2.2.2 η w1 hη e1;obtain ⟨w2,g⟩:=e2 η1 f1 f3;exact h2 η1 w2 f2 g
theorem StpR.weaken {σ σ1:Sb} {β':Type} {v:(Int->Ty)->β} {v':(Int->Ty)->β'} {G:(Int->Ty)->β->Prop} {G':(Int->Ty)->β'->Prop} (h:StpR k σ k1 σ1 v G) (hs:∀η,G η (v η)->G' η (v' η)) (hc:∀η w',G' η w'->∃w,G η w/\∀η',Agr k η η'->v η'=w->v' η'=w'):StpR k σ k1 σ1 v' G':=by
 obtain ⟨a1,a2,a3,a4⟩:=h;refine ⟨a1,a2,λη h=>⟨(a3 η h).1,hs η (a3 η h).2⟩,λη w' hη hG=>?_⟩;obtain ⟨w,e1,e2⟩:=hc η w' hG;obtain ⟨η',f1,f2,f3⟩:=a4 η w hη e1;exact ⟨η',f1,f2,e2 η' f1 f3⟩
theorem KS {σ:Sb} (h:StOk k σ) {v:(Int->Ty)->β} {G:(Int->Ty)->β->Prop} (hG:∀η w,G η w↔w=v η):StpR k σ k σ v G :=
 ⟨Kl _,h,λη hη=>⟨hη,(hG η _).2 rfl⟩,λη w hη hw=>⟨η,Agr.refl _ _,hη,((hG η w).1 hw).symm⟩⟩
theorem NP {σ:Sb} (h:StOk k σ):StpR k σ (k+1) σ (λη=>η k) (λ_ _=>True):=by
 refine ⟨by omega,⟨by have:=h.1;omega,h.2.1.mono (by omega),h.2.2⟩,λη hη=>⟨hη,trivial⟩,λη w hη _=>?_⟩;have ha:Agr k η (λn=>if n=k then w else η n):=λn hn=>by simp only;rw [if_neg (by omega)]
 exact ⟨_,ha,ha.slv h.2.1 hη,by simp⟩
theorem oE {σ:Sb} {a b:Ty} (h:StOk k σ) (ha:Ck a=true) (hb:Ck b=true) (ia:inB k a) (ib:inB k b) :
  ∃n r,U7 n σ a b r/\match r with
   | some σ'=>StpR k σ k σ' (λ_=>()) (λη _=>A8 η a=A8 η b)
   | none=>StpN σ (β:=Unit) (λη _=>A8 η a=A8 η b):=by
 obtain ⟨h0,hd,θ,hs⟩:=h;have ek:((k.toNat:Nat):Int)=k:=by omega
 rw [<- ek] at hd ia ib;obtain ⟨n,r,h1,h2⟩:=fO k.toNat (Tb k.toNat σ) (EK (A8 θ a)) σ θ a b hs hd (BQ _) (λ_=>BQ _) ha hb ia ib;refine ⟨n,r,h1,?_⟩;cases r with
 | none=>exact λη _ hη=>h2 η hη
 | some σ' =>
  obtain ⟨g1,g2,g3,g4⟩:=h2;rw [ek] at g2;exact ⟨Kl _,⟨h0,g2,g1⟩,λη hη=>(g4 η).1 hη,λη _ hη hG=>⟨η,Agr.refl _ _,(g4 η).2 ⟨hη,hG⟩,rfl⟩⟩
def AR:Ty:=.mk 1 0 [] []
def BW:Ty:=.mk 2 0 [] []
def Di:Ty:=.mk 3 0 [] []
def AN (a b:Ty):Ty:=.mk 4 0 [] [a,b]
def GJ (s:Int) (a:Ty):Ty:=.mk s 0 [] [a]
def Bw (x:Str):Ty:=.mk 8 0 x []
abbrev Au:=List (Str×Ty)
def HP:Au->Str->Option Ty
 | [],_=>none
 | (y,t)::r,x=>match HP r x with
  | some u=>some u
  | none=>if y=x then some t else none
def JP:List Fd->Str->Option Ty
 | [],_=>none
 | f::r,x=>if f.name=x then some (AN f.from_ f.to_) else JP r x
def BO (m:Md) (Γ:Au) (x:Str):Option Ty:=match HP Γ x with
 | some t=>some t
 | none=>JP m.funs x
def Ow:List Cd->Str->Option Cd
 | [],_=>none
 | c::r,x=>if c.name=x then some c else Ow r x
def FH:List Dt->Str->Option (Cd×Str)
 | [],_=>none
 | d::r,x=>match Ow d.cons x with
  | some c=>some (c,d.name)
  | none=>FH r x
mutual
def GP (m:Md):Ty->Ty->Au->Au->Prop
 | .mk f _ x ps,τ,Γ,Γ' =>
  if f=2 then Γ'=Γ++[(x,τ)]
  else if f=3 then τ=AR/\Γ'=Γ
  else if f=4 then τ=BW/\Γ'=Γ
  else if f=5 then τ=Di/\Γ'=Γ
  else if f=6 then ∃c d,FH m.datas x=some (c,d)/\c.args.length=ps.length/\τ=Bw d/\Jg m ps c.args Γ Γ'
  else Γ'=Γ
def Jg (m:Md):List Ty->List Ty->Au->Au->Prop
 | [],[],Γ,Γ'=>Γ'=Γ
 | p::ps,t::ts,Γ,Γ'=>∃Γ1,GP m p t Γ Γ1/\Jg m ps ts Γ1 Γ'
 | _,_,_,_=>False
end
def GO (m:Md) (τ:Ty) (Γ:Au):List Ty->List Au->Prop
 | [],l=>l=[]
 | p::ps,l=>∃Γ1 l1,GP m p τ Γ Γ1/\GO m τ Γ ps l1/\l=Γ1::l1
def AT (m:Md) (Γ:Au) (op:Int) (x:Str) (ps:List Ty) (kids:List (Au×Ty)) (τ:Ty) (S:List Ty):Prop :=
 if op=1\/op=25 then kids=[]/\τ=AR/\S=[]
 else if op=2 then kids=[]/\τ=BW/\S=[]
 else if op=3\/op=28 then kids=[]/\τ=Di/\S=[]
 else if op=4 then kids=[]/\BO m Γ x=some τ/\S=[]
 else if op=5 then ∃a b,kids=[(Γ++[(x,a)],b)]/\τ=AN a b/\S=[]
 else if op=6 then ∃a,kids=[(Γ,AN a τ),(Γ,a)]/\S=[]
 else if op=7 then ∃a,kids=[(Γ,a),(Γ++[(x,a)],τ)]/\S=[]
 else if op=8 then kids=[(Γ,BW),(Γ,τ),(Γ,τ)]/\S=[]
 else if op=9\/op=10\/op=11 then kids=[(Γ,AR),(Γ,AR)]/\τ=AR/\S=[]
 else if op=12 then kids=[(Γ,AR),(Γ,AR)]/\τ=BW/\S=[]
 else if op=13 then ∃a,kids=[(Γ,a),(Γ,a)]/\τ=BW/\S=[a]
 else if op=14 then ∃c d,FH m.datas x=some (c,d)/\kids=c.args.map (λt=>(Γ,t))/\τ=Bw d/\S=[]
 else if op=15 then ∃a l,GO m a Γ ps l/\kids=(Γ,a)::l.map (λΔ=>(Δ,τ))/\S=[]
 else if op=16 then ∃a,kids=[(Γ,a)]/\τ=GJ 5 a/\S=[]
 else if op=17 then kids=[(Γ,GJ 5 τ)]/\S=[]
 else if op=18 then ∃a,kids=[(Γ,GJ 5 a),(Γ,a)]/\τ=Di/\S=[]
 else if op=19 then ∃a,kids=[(Γ,AN Di a)]/\τ=GJ 7 a/\S=[]
 else if op=20 then kids=[(Γ,GJ 7 τ)]/\S=[]
 else if op=21 then ∃a,kids=[]/\τ=GJ 6 a/\S=[]
 else if op=22 then ∃a,kids=[(Γ,GJ 6 a),(Γ,a)]/\τ=Di/\S=[]
 else if op=23 then kids=[(Γ,GJ 6 τ)]/\S=[]
 else if op=24 then kids=[(Γ,AR)]/\τ=Di/\S=[]
 else if op=26 then kids=[(Γ,AR)]/\τ=AR/\S=[]
 else if op=27 then kids=[(Γ++[(x,AN τ AR)],AR)]/\S=[]
 else False
mutual
def Cf (m:Md):Tm->Au->Ty->List Ty->Prop
 | .mk op _ x ks ps,Γ,τ,S=>∃kids S1 S2,AT m Γ op x ps kids τ S2/\C9 m ks kids S1/\S=S1++S2
def C9 (m:Md):List Tm->List (Au×Ty)->List Ty->Prop
 | [],[],S=>S=[]
 | t::ts,k::ks,S=>∃S1 S2,Cf m t k.1 k.2 S1/\C9 m ts ks S2/\S=S1++S2
 | _,_,_=>False
end
def FE (η:Int->Ty) (Γ:Au):Au:=Γ.map λp=>(p.1,A8 η p.2)
def Hg (η:Int->Ty) (l:List (Au×Ty)):List (Au×Ty):=l.map λp=>(FE η p.1,A8 η p.2)
def EnvOk (k:Int) (Γ:Au):Prop:=∀p∈Γ,Ck p.2=true/\inB k p.2
def TysOk (k:Int) (l:List Ty):Prop:=∀t∈l,Ck t=true/\inB k t
def KidsOk (k:Int) (l:List (Au×Ty)):Prop:=∀p∈l,EnvOk k p.1/\Ck p.2=true/\inB k p.2
theorem EnvOk.mono {Γ:Au} (h:EnvOk k Γ) (hk:k<=k'):EnvOk k' Γ:=λp hp=>⟨(h p hp).1,(h p hp).2.mono hk⟩
theorem TysOk.mono {l:List Ty} (h:TysOk k l) (hk:k<=k'):TysOk k' l:=λp hp=>⟨(h p hp).1,(h p hp).2.mono hk⟩
theorem KidsOk.mono {l:List (Au×Ty)} (h:KidsOk k l) (hk:k<=k'):KidsOk k' l:=λp hp=>⟨(h p hp).1.mono hk,(h p hp).2.1,(h p hp).2.2.mono hk⟩
theorem TysOk.append {l r:List Ty} (h:TysOk k l) (h':TysOk k r):TysOk k (l++r):=λt ht=>(BN.1 ht).elim (h t) (h' t)
theorem EnvOk.add {Γ:Au} {x:Str} {t:Ty} (h:EnvOk k Γ) (h1:Ck t=true) (h2:inB k t):EnvOk k (Γ++[(x,t)]):=λp hp=>by
 rcases BN.1 hp with hp | hp
 ·exact h p hp
 ·rw [AP.1 hp];exact ⟨h1,h2⟩
theorem Agr.env {η η':Int->Ty} (h:Agr k η η') {Γ:Au} (hΓ:EnvOk k Γ):FE η' Γ=FE η Γ:=HK λp hp=>by rw [h.ap (hΓ p hp).2]
theorem Agr.tys {η η':Int->Ty} (h:Agr k η η') {l:List Ty} (hl:TysOk k l):l.map (A8 η')=l.map (A8 η):=HK λp hp=>h.ap (hl p hp).2
theorem Agr.kids {η η':Int->Ty} (h:Agr k η η') {l:List (Au×Ty)} (hl:KidsOk k l):Hg η' l=Hg η l:=HK λp hp=>by rw [h.env (hl p hp).1,h.ap (hl p hp).2.2]
theorem Hv (η:Int->Ty) (Γ:Au) (x:Str) (t:Ty):FE η (Γ++[(x,t)])=FE η Γ++[(x,A8 η t)]:=by simp [FE]
theorem Cr {t:Ty} (h:CL t=[]) (k:Int):inB k t:=λm hm=>by rw [h] at hm;cases hm
theorem Fe {t:Ty} (h:CL t=[]) (hw:Ck t=true) (η:Int->Ty):A8 η t=t:=by
 rw [Ew (θ:=Aw) t λm hm=>by rw [h] at hm;cases hm];exact gE t hw
def BS (m:Md) (Γ:Au) (t:Tm) (k:Int) (σ:Sb):Option (Ty×Int×Sb×List Ty)->Prop
 | some (τ,k',σ',N)=>StpR k σ k' σ' (λη=>(A8 η τ,N.map (A8 η))) (λη w=>Cf m t (FE η Γ) w.1 w.2)/\Ck τ=true/\inB k' τ/\TysOk k' N
 | none=>StpN σ (β:=Ty×List Ty) (λη w=>Cf m t (FE η Γ) w.1 w.2)
def I1 (m:Md) (ts:List Tm) (kids:List (Au×Ty)) (k:Int) (σ:Sb):Option (Int×Sb×List Ty)->Prop
 | some (k',σ',N)=>StpR k σ k' σ' (λη=>N.map (A8 η)) (λη w=>C9 m ts (Hg η kids) w)/\TysOk k' N
 | none=>StpN σ (β:=List Ty) (λη w=>C9 m ts (Hg η kids) w)
theorem rR {m:Md} {σ:Sb} (h:StOk k σ):I1 m [] [] k σ (some (k,σ,[])) :=
 ⟨KS h λη w=>by simp [Hg,C9],λt ht=>by cases ht⟩
theorem jX {m:Md} {ts:List Tm} {kids:List (Au×Ty)} {σ:Sb} (h:ts.length≠kids.length):I1 m ts kids k σ none:=by
 intro η w _ hw;have:∀(ts:List Tm) (l:List (Au×Ty)) (S:List Ty),C9 m ts l S->ts.length=l.length:=by
  intro ts
  induction ts with
  | nil=>intro l S h;cases l with
   | nil=>rfl
   | cons a r=>exact h.elim
  | cons t r ih=>intro l S h;cases l with
   | nil=>exact h.elim
   | cons a l=>obtain ⟨S1,S2,_,h2,_⟩:=h;simp [ih l S2 h2]
 exact h (by simpa [Hg] using this _ _ _ hw)
theorem PE {m:Md} {t:Tm} {ts:List Tm} {Γ:Au} {want:Ty} {kids:List (Au×Ty)} {σ:Sb} (h:BS m Γ t k σ none):I1 m (t::ts) ((Γ,want)::kids) k σ none:=by
 refine StpN.first h λη w hw=>?_;obtain ⟨S1,S2,h1,_⟩:=hw;exact ⟨(_,S1),h1⟩
theorem Vu {m:Md} {t:Tm} {ts:List Tm} {Γ:Au} {want τ:Ty} {kids:List (Au×Ty)} {σ σ1:Sb} {N1:List Ty} (h:BS m Γ t k σ (some (τ,k1,σ1,N1))) (hw:inB k want) (he:StpN σ1 (β:=Unit) (λη _=>A8 η τ=A8 η want)) :
  I1 m (t::ts) ((Γ,want)::kids) k σ none:=by
 refine StpN.second h.1 he λη w hw'=>?_;obtain ⟨S1,S2,h1,_⟩:=hw';refine ⟨(A8 η want,S1),h1,λη1 ha hv=>⟨(),?_⟩⟩;simp only [Bc] at hv;rw [hv.1,ha.ap hw]
theorem TX {m:Md} {t:Tm} {ts:List Tm} {Γ:Au} {want τ:Ty} {kids:List (Au×Ty)} {σ σ1 σ2:Sb} {N1:List Ty} {r:Option (Int×Sb×List Ty)} (hk:KidsOk k ((Γ,want)::kids)) (h:BS m Γ t k σ (some (τ,k1,σ1,N1))) (he:StpR k1 σ1 k1 σ2 (λ_=>()) (λη _=>A8 η τ=A8 η want)) (hr:I1 m ts kids k1 σ2 r):I1 m (t::ts) ((Γ,want)::kids) k σ (r.map λx=>(x.1,x.2.1,N1++x.2.2)):=by
 obtain ⟨h1,h2,h3,h4⟩:=h;have hk1:=h1.1;have hw:=(hk (Γ,want) (by simp)).2.2;have hks:KidsOk k kids:=λp hp=>hk p (by simp [hp]);have hA:StpR k σ k1 σ2 (λη=>N1.map (A8 η)) (λη w=>Cf m t (FE η Γ) (A8 η want) w):=by
  refine h1.bind he (λη g1 g2=>by rw [<- g2];exact g1) λη w hG=>⟨(A8 η want,w),hG,λη1 ha hv=>⟨(),?_,λη2 hb hab _=>?_⟩⟩
  ·simp only [Bc] at hv;rw [hv.1,ha.ap hw]
  ·simp only [Bc] at hv;rw [hb.tys h4,hv.2]
 cases r with
 | none =>
  refine StpN.second hA hr λη w hw'=>?_;obtain ⟨S1,S2,g1,g2,_⟩:=hw';exact ⟨S1,g1,λη1 ha _=>⟨S2,by rw [ha.kids hks];exact g2⟩⟩
 | some x =>
  obtain ⟨k3,σ3,N3⟩:=x;obtain ⟨r1,r2⟩:=hr;refine ⟨hA.bind r1 (λη g1 g2=>?_) λη w hG=>?_,(h4.mono r1.1).append r2⟩
  ·simp only [CE];exact ⟨_,_,g1,g2,rfl⟩
  ·obtain ⟨S1,S2,g1,g2,rfl⟩:=hG;refine ⟨S1,g1,λη1 ha hv=>⟨S2,by rw [ha.kids hks];exact g2,λη2 hb hab hv2=>?_⟩⟩;simp only [CE];rw [hb.tys h4,hv,hv2]
def zbw (m:Md) (Γ:Au) (op:Int) (x:Str) (ps:List Ty) (k k1:Int) (kids:List (Au×Ty)) (τ:Ty) (S:List Ty):Prop :=
 (∀η,AT m (FE η Γ) op x ps (Hg η kids) (A8 η τ) (S.map (A8 η)))/\∀η K τ0 S0,AT m (FE η Γ) op x ps K τ0 S0->∃f:Int->Ty,∀η',Agr k η η'->(∀n,k<=n->n<k1->η' n=f n)->Hg η' kids=K/\A8 η' τ=τ0/\S.map (A8 η')=S0
theorem WB {σ:Sb} (h:StOk k σ) (n:Nat):StpR k σ (k+n) σ (λη (i:Int)=>if k<=i/\i<k+n then η i else Aw 0) (λ_ (f:Int->Ty)=>∀i,¬(k<=i/\i<k+n)->f i=Aw 0):=by
 refine ⟨by omega,⟨by have:=h.1;omega,h.2.1.mono (by omega),h.2.2⟩,λη hη=>⟨hη,λi hi=>by simp only;rw [if_neg hi]⟩,λη f hη hf=>?_⟩;have ha:Agr k η (λi=>if k<=i/\i<k+n then f i else η i):=λi hi=>by simp only;rw [if_neg (by omega)]
 refine ⟨_,ha,ha.slv h.2.1 hη,funext λi=>?_⟩;by_cases e:k<=i/\i<k+n
 ·simp only [if_pos e]
 ·simp only [if_neg e];exact (hf i e).symm
theorem Rv {m:Md} {Γ:Au} {op:Int} {x:Str} {ks:List Tm} {ps:List Ty} {σ:Sb} {kids:List (Au×Ty)} {τ:Ty} {S:List Ty} {r:Option (Int×Sb×List Ty)} (h:StOk k σ) (hS:zbw m Γ op x ps k (k+j) kids τ S) (hk:KidsOk (k+j) kids) (h1:Ck τ=true) (h2:inB (k+j) τ) (h3:TysOk (k+j) S) (hr:I1 m ks kids (k+j) σ r):BS m Γ (.mk op n x ks ps) k σ (r.map λy=>(τ,y.1,y.2.1,y.2.2++S)):=by
 have hf:=WB h j;obtain ⟨s1,s2⟩:=hS;have key:∀η (w:Ty×List Ty),Cf m (.mk op n x ks ps) (FE η Γ) w.1 w.2->∃f:Int->Ty,(∀i,¬(k<=i/\i<k+j)->f i=Aw 0)/\∀η1,Agr k η η1->(λi:Int=>if k<=i/\i<k+j then η1 i else Aw 0)=f->∃S1,C9 m ks (Hg η1 kids) S1/\A8 η1 τ=w.1/\S1++S.map (A8 η1)=w.2:=by
  intro η w hw;obtain ⟨K,S1,S2,w1,w2,w3⟩:=hw;obtain ⟨f,hf⟩:=s2 η K w.1 S2 w1;refine ⟨λi=>if k<=i/\i<k+j then f i else Aw 0,λi hi=>by simp only;rw [if_neg hi],λη1 ha hv=>?_⟩;obtain ⟨q1,q2,q3⟩:=hf η1 ha λi hi1 hi2=>by
   have:=congrFun hv i;simp only [if_pos (And.intro hi1 hi2)] at this;exact this
  exact ⟨S1,by rw [q1];exact w2,q2,by rw [q3,w3]⟩
 cases r with
 | none =>
  refine StpN.second hf hr λη w hw=>?_;obtain ⟨f,f1,f2⟩:=key η w hw;exact ⟨f,f1,λη1 ha hv=>let ⟨S1,q,_⟩:=f2 η1 ha hv;⟨S1,q⟩⟩
 | some y =>
  obtain ⟨k3,σ3,N3⟩:=y;obtain ⟨r1,r2⟩:=hr;refine ⟨hf.bind r1 (λη _ g2=>?_) λη w hG=>?_,h1,h2.mono r1.1,r2.append (h3.mono r1.1)⟩
  ·simp only [CE];exact ⟨_,_,_,s1 η,g2,rfl⟩
  ·obtain ⟨f,f1,f2⟩:=key η w hG;refine ⟨f,f1,λη1 ha hv=>?_⟩;obtain ⟨S1,q1,q2,q3⟩:=f2 η1 ha hv;refine ⟨S1,q1,λη2 hb _ hv2=>?_⟩;simp only [CE];rw [hb.ap h2,q2,hv2,hb.tys h3,q3]
def DS (m:Md):Prop:=(∀f∈m.funs,CL (AN f.from_ f.to_)=[]/\Ck (AN f.from_ f.to_)=true)/\∀d∈m.datas,∀c∈d.cons,∀t∈c.args,CL t=[]/\Ck t=true
theorem rD (η:Int->Ty):∀(Γ:Au) (x:Str),HP (FE η Γ) x=(HP Γ x).map (A8 η)
 | [],x=>rfl
 | (y,t)::r,x=>by
  simp only [FE,C6,HP];rw [show r.map (λp=>(p.1,A8 η p.2))=FE η r from rfl,rD η r x];cases HP r x with
  | some u=>rfl
  | none=>simp only [Oc];split <;> rfl
theorem Nl:∀{l:List Fd} {x:Str} {t:Ty},JP l x=some t->∃f∈l,t=AN f.from_ f.to_
 | f::r,x,t,h=>by
  simp only [JP] at h
  split at h
  ·cases h;exact ⟨f,by simp,rfl⟩
  ·obtain ⟨g,h1,h2⟩:=Nl h;exact ⟨g,by simp [h1],h2⟩
theorem Re {m:Md} (hm:DS m) (η:Int->Ty) (Γ:Au) (x:Str):BO m (FE η Γ) x=(BO m Γ x).map (A8 η):=by
 simp only [BO,rD];cases HP Γ x with
 | some t=>rfl
 | none =>
  simp only [Oc];cases e:JP m.funs x with
  | none=>rfl
  | some t =>
   obtain ⟨f,h1,rfl⟩:=Nl e;simp only [TN,Fe (hm.1 f h1).1 (hm.1 f h1).2]
theorem rB {k:Int}:∀{Γ:Au} {x:Str} {t:Ty},EnvOk k Γ->HP Γ x=some t->Ck t=true/\inB k t
 | (y,u)::r,x,t,h,hl=>by
  simp only [HP] at hl;cases e:HP r x with
  | some v=>rw [e] at hl;cases hl;exact rB (λp hp=>h p (by simp [hp])) e
  | none =>
   rw [e] at hl;simp only at hl
   split at hl
   ·cases hl;exact h (y,u) (by simp)
   ·cases hl
theorem qZ {m:Md} (hm:DS m) {Γ:Au} {x:Str} {t:Ty} (h:EnvOk k Γ) (hl:BO m Γ x=some t):Ck t=true/\inB k t:=by
 simp only [BO] at hl;cases e:HP Γ x with
 | some u=>rw [e] at hl;cases hl;exact rB h e
 | none =>
  rw [e] at hl;obtain ⟨f,h1,rfl⟩:=Nl hl;exact ⟨(hm.1 f h1).2,Cr (hm.1 f h1).1 k⟩
theorem Yp:∀{l:List Cd} {x:Str} {c:Cd},Ow l x=some c->c∈l
 | c::r,x,d,h=>by
  simp only [Ow] at h
  split at h
  ·cases h;simp
  ·exact Ip _ (Yp h)
theorem VM:∀{l:List Dt} {x:Str} {c:Cd} {y:Str},FH l x=some (c,y)->∃d∈l,c∈d.cons
 | d::r,x,c,y,h=>by
  simp only [FH] at h;cases e:Ow d.cons x with
  | some c'=>rw [e] at h;cases h;exact ⟨d,by simp,Yp e⟩
  | none =>
   rw [e] at h;obtain ⟨d',h1,h2⟩:=VM h;exact ⟨d',by simp [h1],h2⟩
theorem Jd {m:Md} (hm:DS m) {x:Str} {c:Cd} {y:Str} (h:FH m.datas x=some (c,y)):∀t∈c.args,CL t=[]/\Ck t=true:=by
 obtain ⟨d,h1,h2⟩:=VM h;exact hm.2 d h1 c h2
def Bu (op:Int) (a:Ty):List Ty×Ty×List Ty :=
 if op=1\/op=25 then ([],AR,[])
 else if op=2 then ([],BW,[])
 else if op=3\/op=28 then ([],Di,[])
 else if op=8 then ([BW,a,a],a,[])
 else if op=9\/op=10\/op=11 then ([AR,AR],AR,[])
 else if op=12 then ([AR,AR],BW,[])
 else if op=13 then ([a,a],BW,[a])
 else if op=16 then ([a],GJ 5 a,[])
 else if op=17 then ([GJ 5 a],a,[])
 else if op=18 then ([GJ 5 a,a],Di,[])
 else if op=19 then ([AN Di a],GJ 7 a,[])
 else if op=20 then ([GJ 7 a],a,[])
 else if op=21 then ([],GJ 6 a,[])
 else if op=22 then ([GJ 6 a,a],Di,[])
 else if op=23 then ([GJ 6 a],a,[])
 else if op=24 then ([AR],Di,[])
 else ([AR],AR,[])
def Cx (op:Int):Prop:=op=1\/op=25\/op=2\/op=3\/op=28\/op=8\/op=9\/op=10\/op=11\/op=12\/op=13\/op=16\/op=17\/op=18\/op=19\/op=20\/op=21\/op=22\/op=23\/op=24\/op=26
def C5 (op:Int):Prop:=op=8\/op=13\/op=16\/op=17\/op=18\/op=19\/op=20\/op=21\/op=22\/op=23
@[simp] theorem ap_kInt (η:Int->Ty):A8 η AR=AR:=by simp [AR,A8,Ca]
@[simp] theorem ap_kBool (η:Int->Ty):A8 η BW=BW:=by simp [BW,A8,Ca]
@[simp] theorem ap_kUnit (η:Int->Ty):A8 η Di=Di:=by simp [Di,A8,Ca]
@[simp] theorem ap_kData (η:Int->Ty) (x:Str):A8 η (Bw x)=Bw x:=by simp [Bw,A8,Ca]
@[simp] theorem ap_kFun (η:Int->Ty) (a b:Ty):A8 η (AN a b)=AN (A8 η a) (A8 η b):=by simp [AN,A8,Ca]
theorem cP (η:Int->Ty) (s:Int) (h:s≠9) (a:Ty):A8 η (GJ s a)=GJ s (A8 η a):=by simp [GJ,A8,Ca,h]
@[simp] theorem ap_k5 (η:Int->Ty) (a:Ty):A8 η (GJ 5 a)=GJ 5 (A8 η a):=cP η 5 (by decide) a
@[simp] theorem ap_k6 (η:Int->Ty) (a:Ty):A8 η (GJ 6 a)=GJ 6 (A8 η a):=cP η 6 (by decide) a
@[simp] theorem ap_k7 (η:Int->Ty) (a:Ty):A8 η (GJ 7 a)=GJ 7 (A8 η a):=cP η 7 (by decide) a
@[simp] theorem ap_hole' (η:Int->Ty) (n:Int):A8 η (Aw n)=η n:=CH η n
theorem nP {m:Md} {Γ:Au} {op:Int} {x:Str} {ps:List Ty} (h:Cx op) (ho:C5 op->k<k1) (hΓ:EnvOk k Γ) :
  zbw m Γ op x ps k k1 ((Bu op (Aw k)).1.map λt=>(Γ,t)) (Bu op (Aw k)).2.1 (Bu op (Aw k)).2.2:=by
 constructor
 ·intro η;rcases h with rfl | rfl | rfl | rfl | rfl | rfl | rfl | rfl | rfl | rfl | rfl | rfl | rfl | rfl | rfl | rfl | rfl | rfl | rfl | rfl | rfl <;> simp [AT,Bu,Hg] <;> first | exact ⟨_,rfl,rfl⟩ | exact ⟨_,rfl⟩
 ·intro η K τ0 S0 hR;have hE:∀η',Agr k η η'->FE η' Γ=FE η Γ:=λη' ha=>ha.env hΓ;have mk:∀(w:Ty),C5 op->(∀η',Agr k η η'->η' k=w->Hg η' ((Bu op (Aw k)).1.map λt=>(Γ,t))=K/\A8 η' (Bu op (Aw k)).2.1=τ0/\(Bu op (Aw k)).2.2.map (A8 η')=S0) ->
    ∃f:Int->Ty,∀η',Agr k η η'->(∀n,k<=n->n<k1->η' n=f n)->Hg η' ((Bu op (Aw k)).1.map λt=>(Γ,t))=K/\A8 η' (Bu op (Aw k)).2.1=τ0/\(Bu op (Aw k)).2.2.map (A8 η')=S0:=λw hop hw =>
   ⟨λ_=>w,λη' ha hf=>hw η' ha (hf k (Kl _) (ho hop))⟩
  have mk0:(∀η',Agr k η η'->Hg η' ((Bu op (Aw k)).1.map λt=>(Γ,t))=K/\A8 η' (Bu op (Aw k)).2.1=τ0/\(Bu op (Aw k)).2.2.map (A8 η')=S0) ->
    ∃f:Int->Ty,∀η',Agr k η η'->(∀n,k<=n->n<k1->η' n=f n)->Hg η' ((Bu op (Aw k)).1.map λt=>(Γ,t))=K/\A8 η' (Bu op (Aw k)).2.1=τ0/\(Bu op (Aw k)).2.2.map (A8 η')=S0:=λhw =>
   ⟨λ_=>Aw 0,λη' ha _=>hw η' ha⟩
  rcases h with rfl | rfl | rfl | rfl | rfl | rfl | rfl | rfl | rfl | rfl | rfl | rfl | rfl | rfl | rfl | rfl | rfl | rfl | rfl | rfl | rfl
  ·simp [AT] at hR;obtain ⟨rfl,rfl,rfl⟩:=hR;exact mk0 λη' ha=>by simp [Bu,Hg]
  ·simp [AT] at hR;obtain ⟨rfl,rfl,rfl⟩:=hR;exact mk0 λη' ha=>by simp [Bu,Hg]
  ·simp [AT] at hR;obtain ⟨rfl,rfl,rfl⟩:=hR;exact mk0 λη' ha=>by simp [Bu,Hg]
  ·simp [AT] at hR;obtain ⟨rfl,rfl,rfl⟩:=hR;exact mk0 λη' ha=>by simp [Bu,Hg]
  ·simp [AT] at hR;obtain ⟨rfl,rfl,rfl⟩:=hR;exact mk0 λη' ha=>by simp [Bu,Hg]
  ·simp [AT] at hR;obtain ⟨rfl,rfl⟩:=hR;exact mk τ0 (by simp [C5]) λη' ha hk=>by simp [Bu,Hg,hE η' ha,hk]
  ·simp [AT] at hR;obtain ⟨rfl,rfl,rfl⟩:=hR;exact mk0 λη' ha=>by simp [Bu,Hg,hE η' ha]
  ·simp [AT] at hR;obtain ⟨rfl,rfl,rfl⟩:=hR;exact mk0 λη' ha=>by simp [Bu,Hg,hE η' ha]
  ·simp [AT] at hR;obtain ⟨rfl,rfl,rfl⟩:=hR;exact mk0 λη' ha=>by simp [Bu,Hg,hE η' ha]
  ·simp [AT] at hR;obtain ⟨rfl,rfl,rfl⟩:=hR;exact mk0 λη' ha=>by simp [Bu,Hg,hE η' ha]
  ·simp [AT] at hR;obtain ⟨a,rfl,rfl,rfl⟩:=hR;exact mk a (by simp [C5]) λη' ha hk=>by simp [Bu,Hg,hE η' ha,hk]
  ·simp [AT] at hR;obtain ⟨a,rfl,rfl,rfl⟩:=hR;exact mk a (by simp [C5]) λη' ha hk=>by simp [Bu,Hg,hE η' ha,hk]
  ·simp [AT] at hR;obtain ⟨rfl,rfl⟩:=hR;exact mk τ0 (by simp [C5]) λη' ha hk=>by simp [Bu,Hg,hE η' ha,hk]
  ·simp [AT] at hR;obtain ⟨⟨a,rfl⟩,rfl,rfl⟩:=hR;exact mk a (by simp [C5]) λη' ha hk=>by simp [Bu,Hg,hE η' ha,hk]
  ·simp [AT] at hR;obtain ⟨a,rfl,rfl,rfl⟩:=hR;exact mk a (by simp [C5]) λη' ha hk=>by simp [Bu,Hg,hE η' ha,hk]
  ·simp [AT] at hR;obtain ⟨rfl,rfl⟩:=hR;exact mk τ0 (by simp [C5]) λη' ha hk=>by simp [Bu,Hg,hE η' ha,hk]
  ·simp [AT] at hR;obtain ⟨rfl,⟨a,rfl⟩,rfl⟩:=hR;exact mk a (by simp [C5]) λη' ha hk=>by simp [Bu,Hg,hE η' ha,hk]
  ·simp [AT] at hR;obtain ⟨⟨a,rfl⟩,rfl,rfl⟩:=hR;exact mk a (by simp [C5]) λη' ha hk=>by simp [Bu,Hg,hE η' ha,hk]
  ·simp [AT] at hR;obtain ⟨rfl,rfl⟩:=hR;exact mk τ0 (by simp [C5]) λη' ha hk=>by simp [Bu,Hg,hE η' ha,hk]
  ·simp [AT] at hR;obtain ⟨rfl,rfl,rfl⟩:=hR;exact mk0 λη' ha=>by simp [Bu,Hg,hE η' ha]
  ·simp [AT] at hR;obtain ⟨rfl,rfl,rfl⟩:=hR;exact mk0 λη' ha=>by simp [Bu,Hg,hE η' ha]
theorem StpR.lower {σ σ1:Sb} {v:(Int->Ty)->β} {G:(Int->Ty)->β->Prop} (h:StpR k0 σ k1 σ1 v G) (hk:k<=k0):StpR k σ k1 σ1 v G:=by
 obtain ⟨a1,a2,a3,a4⟩:=h;refine ⟨by omega,a2,a3,λη w hη hG=>?_⟩;obtain ⟨η',f1,f2,f3⟩:=a4 η w hη hG;exact ⟨η',λn hn=>f1 n (by omega),f2,f3⟩
theorem X8 {a b:Ty} (h1:inB k a) (h2:inB k b):inB k (AN a b):=λm hm=>by
 simp [AN,CL,Dc] at hm;exact hm.elim (h1 m) (h2 m)
theorem eW (hs:s≠9) {a:Ty} (h1:inB k a):inB k (GJ s a):=λm hm=>by
 simp [GJ,CL,Dc,hs] at hm;exact h1 m hm
theorem cU {a b:Ty} (h1:Ck a=true) (h2:Ck b=true):Ck (AN a b)=true:=by simp [AN,Ck,EJ,h1,h2]
theorem mP (hs:s≠9) (h0:s≠0) {a:Ty} (h1:Ck a=true):Ck (GJ s a)=true:=by simp [GJ,Ck,EJ,h1,hs,h0]
theorem sF {m:Md} (hm:DS m) {Γ:Au} {x:Str} {ps:List Ty} {σ:Sb} (h:StOk k σ) (hΓ:EnvOk k Γ):BS m Γ (.mk 4 n x [] ps) k σ ((BO m Γ x).map λτ=>(τ,k,σ,[])):=by
 cases e:BO m Γ x with
 | none =>
  intro η w _ ⟨K,S1,S2,h1,h2,h3⟩;simp [AT,Re hm,e] at h1
 | some τ =>
  obtain ⟨h1,h2⟩:=qZ hm hΓ e;refine ⟨KS h λη w=>?_,h1,h2,λt ht=>by cases ht⟩;constructor
  ·rintro ⟨K,S1,S2,q1,q2,q3⟩;simp [AT,Re hm,e] at q1;obtain ⟨rfl,q4,rfl⟩:=q1;simp only [C9] at q2;subst q2;obtain ⟨w1,w2⟩:=w;simp only at q3 q4 ⊢;rw [q3,q4];rfl
  ·rintro rfl;exact ⟨[],[],[],by simp [AT,Re hm,e],rfl,rfl⟩
theorem V3 {m:Md} {Γ:Au} {x:Str} {ks:List Tm} {ps:List Ty} {σ:Sb} (h:FH m.datas x=none):BS m Γ (.mk 14 n x ks ps) k σ none:=by
 intro η w _ ⟨K,S1,S2,h1,_⟩;simp [AT,h] at h1
theorem V4 {m:Md} (hm:DS m) {Γ:Au} {x y:Str} {c:Cd} {ks:List Tm} {ps:List Ty} {σ:Sb} {r:Option (Int×Sb×List Ty)} (hs:StOk k σ) (hΓ:EnvOk k Γ) (h:FH m.datas x=some (c,y)) (hr:I1 m ks (c.args.map λt=>(Γ,t)) k σ r) :
  BS m Γ (.mk 14 n x ks ps) k σ (r.map λz=>(Bw y,z)):=by
 have ha:=Jd hm h;have hc:∀η,c.args.map (λt=>(FE η Γ,A8 η t))=c.args.map λt=>(FE η Γ,t):=λη=>HK λt ht=>by rw [Fe (ha t ht).1 (ha t ht).2]
 have key:=Rv (m:=m) (Γ:=Γ) (op:=14) (n:=n) (x:=x) (ks:=ks) (ps:=ps) (j:=0) (kids:=c.args.map λt=>(Γ,t)) (τ:=Bw y) (S:=[]) (r:=r) hs ⟨λη=>?_,λη K τ0 S0 hR=>?_⟩ (λp hp=>?_) (by rfl) (Cr rfl _) (λt ht=>by cases ht) (by simpa using hr)
 ·cases r with
  | none=>exact key
  | some z=>simpa using key
 ·simp only [AT,h];simp [Hg,Function.comp_def,hc η];exact ⟨_,_,⟨rfl,rfl⟩,rfl,rfl⟩
 ·simp only [AT,h] at hR;simp at hR;obtain ⟨_,_,⟨rfl,rfl⟩,rfl,rfl,rfl⟩:=hR;exact ⟨λ_=>Aw 0,λη' hag _=>by
   simp [Hg,Function.comp_def,hag.env hΓ];exact λa hx=>Fe (ha a hx).1 (ha a hx).2 η'⟩
 ·obtain ⟨t,ht,rfl⟩:=C2.1 hp;exact ⟨by simpa using hΓ,(ha t ht).2,Cr (ha t ht).1 _⟩
theorem eU {m:Md} {Γ:Au} {x:Str} {t:Tm} {ps:List Ty} {σ:Sb} {r:Option (Ty×Int×Sb×List Ty)} (hs:StOk k σ) (hΓ:EnvOk k Γ) (hr:BS m (Γ++[(x,Aw k)]) t (k+1) σ r) :
  BS m Γ (.mk 5 n x [t] ps) k σ (r.map λz=>(AN (Aw k) z.1,z.2)):=by
 have hf:=NP hs;have inv:∀η (w:Ty×List Ty),Cf m (.mk 5 n x [t] ps) (FE η Γ) w.1 w.2->∃a b,w.1=AN a b/\Cf m t (FE η Γ++[(x,a)]) b w.2:=by
  rintro η ⟨w1,w2⟩ ⟨K,S1,S2,q1,q2,q3⟩;simp [AT] at q1;obtain ⟨a,b,rfl,rfl,rfl⟩:=q1;obtain ⟨T1,T2,q4,q5,q6⟩:=q2;simp only [C9] at q5;subst q5;simp at q3 q6;subst q3;subst q6;exact ⟨a,b,rfl,q4⟩
 cases r with
 | none =>
  refine StpN.second hf hr λη w hw=>?_;obtain ⟨a,b,_,h2⟩:=inv η w hw;exact ⟨a,trivial,λη1 ha hv=>⟨(b,w.2),by rw [Hv,CH,hv,ha.env hΓ];exact h2⟩⟩
 | some z =>
  obtain ⟨b,k2,σ2,N⟩:=z;obtain ⟨h1,h2,h3,h4⟩:=hr;have hk:=h1.1;refine ⟨hf.bind h1 (λη _ g=>?_) λη w hw=>?_,cU rfl h2,X8 (Kx ⟨hs.1,by omega⟩) h3,h4⟩
  ·rw [Hv,CH] at g;exact ⟨[(FE η Γ++[(x,η k)],A8 η b)],N.map (A8 η),[],by simp [AT];exact ⟨_,_,⟨rfl,rfl⟩,rfl⟩,⟨N.map (A8 η),[],g,rfl,by simp⟩,by simp⟩
  ·obtain ⟨a,b0,e1,e2⟩:=inv η w hw;refine ⟨a,trivial,λη1 ha hv=>⟨(b0,w.2),by rw [Hv,CH,hv,ha.env hΓ];exact e2,λη2 hb _ hv2=>?_⟩⟩;simp only [Bc] at hv2;obtain ⟨w1,w2⟩:=w;simp only at e1 hv2 ⊢;rw [ap_kFun,CH,hb k (by omega),hv,hv2.1,hv2.2,e1]
theorem eT {m:Md} {Γ:Au} {x:Str} {t0 t1:Tm} {ps:List Ty} {σ σ1:Sb} {τ0:Ty} {N1:List Ty} {r:Option (Ty×Int×Sb×List Ty)} (hk:k<=k0) (hΓ:EnvOk k Γ) (h0:BS m Γ t0 k0 σ (some (τ0,k1,σ1,N1))) (hr:BS m (Γ++[(x,τ0)]) t1 k1 σ1 r) :
  BS m Γ (.mk 7 n x [t0,t1] ps) k σ (r.map λz=>(z.1,z.2.1,z.2.2.1,N1++z.2.2.2)):=by
 obtain ⟨a1,a2,a3,a4⟩:=h0;have hA:=a1.lower hk;have hk1:=hA.1;have inv:∀η (w:Ty×List Ty),Cf m (.mk 7 n x [t0,t1] ps) (FE η Γ) w.1 w.2->∃a S1 S2,Cf m t0 (FE η Γ) a S1/\Cf m t1 (FE η Γ++[(x,a)]) w.1 S2/\w.2=S1++S2:=by
  rintro η ⟨w1,w2⟩ ⟨K,S1,S2,q1,q2,q3⟩;simp [AT] at q1;obtain ⟨⟨a,rfl⟩,rfl⟩:=q1;obtain ⟨T1,T2,q4,⟨T3,T4,q5,q6,q7⟩,q8⟩:=q2;simp only [C9] at q6;subst q6;simp at q3 q7;subst q7;subst q8;subst q3;exact ⟨a,T1,T2,q4,q5,rfl⟩
 cases r with
 | none =>
  refine StpN.second hA hr λη w hw=>?_;obtain ⟨a,S1,S2,e1,e2,_⟩:=inv η w hw;refine ⟨(a,S1),e1,λη1 ha hv=>⟨(w.1,S2),?_⟩⟩;simp only [Bc] at hv;rw [Hv,hv.1,ha.env hΓ];exact e2
 | some z =>
  obtain ⟨τ,k2,σ2,N2⟩:=z;obtain ⟨h1,h2,h3,h4⟩:=hr;refine ⟨hA.bind h1 (λη g1 g2=>?_) λη w hw=>?_,h2,h3,(a4.mono h1.1).append h4⟩
  ·rw [Hv] at g2;simp only [CE];exact ⟨[(FE η Γ,A8 η τ0),(FE η Γ++[(x,A8 η τ0)],A8 η τ)],N1.map (A8 η)++N2.map (A8 η),[],by simp [AT],⟨_,_,g1,⟨_,[],g2,rfl,rfl⟩,by simp⟩,by simp⟩
  ·obtain ⟨a,S1,S2,e1,e2,e3⟩:=inv η w hw;refine ⟨(a,S1),e1,λη1 ha hv=>?_⟩;simp only [Bc] at hv;refine ⟨(w.1,S2),by rw [Hv,hv.1,ha.env hΓ];exact e2,λη2 hb _ hv2=>?_⟩;simp only [Bc] at hv2;obtain ⟨w1,w2⟩:=w;simp only at e3 hv2 ⊢;rw [hv2.1,e3,CE,hb.tys a4,hv.2,hv2.2]
theorem V2 {m:Md} {Γ:Au} {x:Str} {t0 t1:Tm} {ps:List Ty} {σ:Sb} (h0:BS m Γ t0 k0 σ none):BS m Γ (.mk 7 n x [t0,t1] ps) k σ none:=by
 refine StpN.first h0 λη w hw=>?_;obtain ⟨K,S1,S2,q1,q2,q3⟩:=hw;simp [AT] at q1;obtain ⟨⟨a,rfl⟩,rfl⟩:=q1;obtain ⟨T1,T2,q4,_⟩:=q2;exact ⟨(a,T1),q4⟩
def Mo (m:Md) (p τ:Ty) (Γ:Au) (k:Int) (σ:Sb):Option (Au×Sb)->Prop
 | some (Γ',σ')=>StpR k σ k σ' (λη=>FE η Γ') (λη Δ=>GP m p (A8 η τ) (FE η Γ) Δ)/\EnvOk k Γ'
 | none=>StpN σ (β:=Au) (λη Δ=>GP m p (A8 η τ) (FE η Γ) Δ)
def Sf (m:Md) (ps ts:List Ty) (Γ:Au) (k:Int) (σ:Sb):Option (Au×Sb)->Prop
 | some (Γ',σ')=>StpR k σ k σ' (λη=>FE η Γ') (λη Δ=>Jg m ps (ts.map (A8 η)) (FE η Γ) Δ)/\EnvOk k Γ'
 | none=>StpN σ (β:=Au) (λη Δ=>Jg m ps (ts.map (A8 η)) (FE η Γ) Δ)
theorem pC {m:Md} {x:Str} {ps:List Ty} {τ:Ty} {Γ:Au} {σ:Sb} (h:StOk k σ) (hΓ:EnvOk k Γ) (h1:Ck τ=true) (h2:inB k τ):Mo m (.mk 2 n x ps) τ Γ k σ (some (Γ++[(x,τ)],σ)) :=
 ⟨KS h λη w=>by simp [GP,Hv],hΓ.add h1 h2⟩
theorem vW {m:Md} {f:Int} {x:Str} {ps:List Ty} {τ:Ty} {Γ:Au} {σ:Sb} (h:StOk k σ) (hΓ:EnvOk k Γ) (hf:f≠2/\f≠3/\f≠4/\f≠5/\f≠6):Mo m (.mk f n x ps) τ Γ k σ (some (Γ,σ)) :=
 ⟨KS h λη w=>by simp [GP,hf],hΓ⟩
def PC (f:Int):Ty:=if f=3 then AR else if f=4 then BW else Di
theorem dX {m:Md} {f:Int} {x:Str} {ps:List Ty} {τ:Ty} {Γ:Au} {σ:Sb} {r:Option Sb} (hΓ:EnvOk k Γ) (hf:f=3\/f=4\/f=5) (hr:match r with | some σ'=>StpR k σ k σ' (λ_=>()) (λη _=>A8 η τ=A8 η (PC f)) | none=>StpN σ (β:=Unit) (λη _=>A8 η τ=A8 η (PC f))):Mo m (.mk f n x ps) τ Γ k σ (r.map λσ'=>(Γ,σ')):=by
 have key:∀η Δ,GP m (.mk f n x ps) (A8 η τ) (FE η Γ) Δ↔A8 η τ=A8 η (PC f)/\Δ=FE η Γ:=λη Δ=>by
  rcases hf with rfl | rfl | rfl <;> simp [GP,PC]
 cases r with
 | none=>exact StpN.first hr λη w hw=>⟨(),((key η w).1 hw).1⟩
 | some σ' =>
  refine ⟨hr.weaken (λη g=>(key η _).2 ⟨g,rfl⟩) λη w hw=>?_,hΓ⟩;obtain ⟨e1,e2⟩:=(key η w).1 hw;exact ⟨(),e1,λη' ha _=>by rw [ha.env hΓ,e2]⟩
theorem MB {m:Md} {x:Str} {ps:List Ty} {τ:Ty} {Γ:Au} {σ:Sb} (h:FH m.datas x=none\/∃c y,FH m.datas x=some (c,y)/\c.args.length≠ps.length):Mo m (.mk 6 n x ps) τ Γ k σ none:=by
 intro η w _ hw;simp only [GP] at hw;simp at hw;obtain ⟨c,d,h1,h2,_⟩:=hw;rcases h with h | ⟨c',y,h,h3⟩
 ·rw [h] at h1;cases h1
 ·rw [h] at h1;cases h1;exact h3 h2
theorem Zn {m:Md} {x y:Str} {c:Cd} {ps:List Ty} {τ:Ty} {Γ:Au} {σ:Sb} (h:FH m.datas x=some (c,y)) (he:StpN σ (β:=Unit) (λη _=>A8 η τ=A8 η (Bw y))):Mo m (.mk 6 n x ps) τ Γ k σ none:=by
 refine StpN.first he λη w hw=>⟨(),?_⟩
 simp only [GP] at hw;simp [h] at hw;obtain ⟨_,_,⟨rfl,rfl⟩,_,h2,_⟩:=hw;simpa using h2
theorem dZ {m:Md} (hm:DS m) {x y:Str} {c:Cd} {ps:List Ty} {τ:Ty} {Γ:Au} {σ σ1:Sb} {r:Option (Au×Sb)} (h:FH m.datas x=some (c,y)) (hl:c.args.length=ps.length) (hΓ:EnvOk k Γ) (he:StpR k σ k σ1 (λ_=>()) (λη _=>A8 η τ=A8 η (Bw y))) (hr:Sf m ps c.args Γ k σ1 r):Mo m (.mk 6 n x ps) τ Γ k σ r:=by
 have ha:=Jd hm h;have hc:∀η,c.args.map (A8 η)=c.args:=λη=>(HK (g:=id) λt ht=>Fe (ha t ht).1 (ha t ht).2 η).trans (Vo _);have key:∀η Δ,GP m (.mk 6 n x ps) (A8 η τ) (FE η Γ) Δ↔A8 η τ=A8 η (Bw y)/\Jg m ps c.args (FE η Γ) Δ:=λη Δ=>by
  simp only [GP];simp [h];constructor
  ·rintro ⟨_,_,⟨rfl,rfl⟩,_,h2,h3⟩;exact ⟨h2,h3⟩
  ·rintro ⟨h2,h3⟩;exact ⟨_,_,⟨rfl,rfl⟩,hl,h2,h3⟩
 cases r with
 | none =>
  refine StpN.second he hr λη w hw=>?_;obtain ⟨e1,e2⟩:=(key η w).1 hw;exact ⟨(),e1,λη1 hag _=>⟨w,by rw [hc,hag.env hΓ];exact e2⟩⟩
 | some z =>
  obtain ⟨Γ',σ'⟩:=z;obtain ⟨r1,r2⟩:=hr;refine ⟨he.bind r1 (λη g1 g2=>(key η _).2 ⟨g1,by rw [hc] at g2;exact g2⟩) λη w hw=>?_,r2⟩;obtain ⟨e1,e2⟩:=(key η w).1 hw;exact ⟨(),e1,λη1 hag _=>⟨w,by rw [hc,hag.env hΓ];exact e2,λη2 _ _ hv=>hv⟩⟩
theorem pB {m:Md} {Γ:Au} {σ:Sb} (h:StOk k σ) (hΓ:EnvOk k Γ):Sf m [] [] Γ k σ (some (Γ,σ)):=⟨KS h λη w=>by simp [Jg],hΓ⟩
theorem iY {m:Md} {p t:Ty} {ps ts:List Ty} {Γ:Au} {σ:Sb} (h:Mo m p t Γ k σ none):Sf m (p::ps) (t::ts) Γ k σ none :=
 StpN.first h λη w hw=>let ⟨Δ,h1,_⟩:=hw;⟨Δ,h1⟩
theorem TA {m:Md} {p t:Ty} {ps ts:List Ty} {Γ Γ1:Au} {σ σ1:Sb} {r:Option (Au×Sb)} (ht:TysOk k ts) (h:Mo m p t Γ k σ (some (Γ1,σ1))) (hr:Sf m ps ts Γ1 k σ1 r):Sf m (p::ps) (t::ts) Γ k σ r:=by
 obtain ⟨h1,h2⟩:=h;cases r with
 | none =>
  refine StpN.second h1 hr λη w hw=>?_;obtain ⟨Δ,e1,e2⟩:=hw;exact ⟨Δ,e1,λη1 ha hv=>⟨w,by rw [hv,ha.tys ht];exact e2⟩⟩
 | some z =>
  obtain ⟨Γ',σ'⟩:=z;obtain ⟨r1,r2⟩:=hr;refine ⟨h1.bind r1 (λη g1 g2=>⟨_,g1,g2⟩) λη w hw=>?_,r2⟩;obtain ⟨Δ,e1,e2⟩:=hw;exact ⟨Δ,e1,λη1 ha hv=>⟨w,by rw [hv,ha.tys ht];exact e2,λη2 _ _ hv2=>hv2⟩⟩
def LO (m:Md) (b a:Ty) (Γ:Au) (ps:List Ty) (ts:List Tm) (k:Int) (σ:Sb):Option (Int×Sb×List Ty)->Prop
 | some (k',σ',N)=>StpR k σ k' σ' (λη=>N.map (A8 η)) (λη S=>∃l,GO m (A8 η b) (FE η Γ) ps l/\C9 m ts (l.map λΔ=>(Δ,A8 η a)) S)/\TysOk k' N
 | none=>StpN σ (β:=List Ty) (λη S=>∃l,GO m (A8 η b) (FE η Γ) ps l/\C9 m ts (l.map λΔ=>(Δ,A8 η a)) S)
theorem nY {m:Md} {b a:Ty} {Γ:Au} {σ:Sb} (h:StOk k σ):LO m b a Γ [] [] k σ (some (k,σ,[])) :=
 ⟨KS h λη w=>by simp [GO,C9],λt ht=>by cases ht⟩
theorem IJ {m:Md} {b a:Ty} {Γ:Au} {p:Ty} {ps:List Ty} {t:Tm} {ts:List Tm} {η:Int->Ty} {S:List Ty} :
  (∃l,GO m (A8 η b) (FE η Γ) (p::ps) l/\C9 m (t::ts) (l.map λΔ=>(Δ,A8 η a)) S)↔∃Δ S1 S2,GP m p (A8 η b) (FE η Γ) Δ/\Cf m t Δ (A8 η a) S1/\(∃l,GO m (A8 η b) (FE η Γ) ps l/\C9 m ts (l.map λΔ=>(Δ,A8 η a)) S2)/\S=S1++S2:=by
 constructor
 ·rintro ⟨l,⟨Δ,l1,h1,h2,rfl⟩,S1,S2,h3,h4,h5⟩;exact ⟨Δ,S1,S2,h1,h3,⟨l1,h2,h4⟩,h5⟩
 ·rintro ⟨Δ,S1,S2,h1,h3,⟨l1,h2,h4⟩,h5⟩;exact ⟨Δ::l1,⟨Δ,l1,h1,h2,rfl⟩,S1,S2,h3,h4,h5⟩
theorem Ss {m:Md} {b a:Ty} {Γ:Au} {p:Ty} {ps:List Ty} {t:Tm} {ts:List Tm} {σ:Sb} (h:Mo m p b Γ k σ none):LO m b a Γ (p::ps) (t::ts) k σ none :=
 StpN.first h λη w hw=>let ⟨Δ,_,_,h1,_⟩:=IJ.1 hw;⟨Δ,h1⟩
theorem P7 {m:Md} {b a:Ty} {Γ Γ1:Au} {p:Ty} {ps:List Ty} {t:Tm} {ts:List Tm} {σ σ1:Sb} (h:Mo m p b Γ k σ (some (Γ1,σ1))) (h2:BS m Γ1 t k σ1 none):LO m b a Γ (p::ps) (t::ts) k σ none :=
 StpN.second h.1 h2 λη w hw=>let ⟨Δ,S1,S2,h1,h3,_⟩:=IJ.1 hw;⟨Δ,h1,λη1 ha hv=>⟨(A8 η a,S1),by rw [hv];exact h3⟩⟩
theorem vS {m:Md} {b a τ:Ty} {Γ Γ1:Au} {p:Ty} {t:Tm} {σ σ1 σ2 σ3:Sb} {N:List Ty} (ha:inB k a) (h:Mo m p b Γ k σ (some (Γ1,σ1))) (h2:BS m Γ1 t k σ1 (some (τ,k2,σ2,N))) (h3:StpR k2 σ2 k2 σ3 (λ_=>()) (λη _=>A8 η τ=A8 η a)) :
  StpR k σ k2 σ3 (λη=>N.map (A8 η)) (λη S=>∃Δ,GP m p (A8 η b) (FE η Γ) Δ/\Cf m t Δ (A8 η a) S):=by
 obtain ⟨a1,_⟩:=h;obtain ⟨b1,b2,b3,b4⟩:=h2;have hA:StpR k σ k2 σ2 (λη=>(A8 η τ,N.map (A8 η))) (λη w=>∃Δ,GP m p (A8 η b) (FE η Γ) Δ/\Cf m t Δ w.1 w.2) :=
  a1.bind b1 (λη g1 g2=>⟨_,g1,g2⟩) λη w hG=>let ⟨Δ,e1,e2⟩:=hG;⟨Δ,e1,λη1 hag hv=>⟨w,by rw [hv];exact e2,λη2 _ _ hv2=>hv2⟩⟩
 refine hA.bind h3 (λη ⟨Δ,g1,g2⟩ g3=>⟨Δ,g1,by rw [<- g3];exact g2⟩) λη w hG=>?_;obtain ⟨Δ,e1,e2⟩:=hG;refine ⟨(A8 η a,w),⟨Δ,e1,e2⟩,λη1 hag hv=>⟨(),?_,λη2 hb _ _=>?_⟩⟩
 ·simp only [Bc] at hv;rw [hv.1,hag.ap ha]
 ·simp only [Bc] at hv;rw [hb.tys b4,hv.2]
theorem UM {m:Md} {b a τ:Ty} {Γ Γ1:Au} {p:Ty} {ps:List Ty} {t:Tm} {ts:List Tm} {σ σ1 σ2:Sb} {N:List Ty} (ha:inB k a) (h:Mo m p b Γ k σ (some (Γ1,σ1))) (h2:BS m Γ1 t k σ1 (some (τ,k2,σ2,N))) (h3:StpN σ2 (β:=Unit) (λη _=>A8 η τ=A8 η a)) :
  LO m b a Γ (p::ps) (t::ts) k σ none:=by
 have hA:StpR k σ k2 σ2 (λη=>(A8 η τ,N.map (A8 η))) (λη w=>∃Δ,GP m p (A8 η b) (FE η Γ) Δ/\Cf m t Δ w.1 w.2) :=
  h.1.bind h2.1 (λη g1 g2=>⟨_,g1,g2⟩) λη w hG=>let ⟨Δ,e1,e2⟩:=hG;⟨Δ,e1,λη1 hag hv=>⟨w,by rw [hv];exact e2,λη2 _ _ hv2=>hv2⟩⟩
 refine StpN.second hA h3 λη w hw=>?_;obtain ⟨Δ,S1,S2,e1,e2,_⟩:=IJ.1 hw;refine ⟨(A8 η a,S1),⟨Δ,e1,e2⟩,λη1 hag hv=>⟨(),?_⟩⟩;simp only [Bc] at hv;rw [hv.1,hag.ap ha]
theorem Tv {m:Md} {b a τ:Ty} {Γ Γ1:Au} {p:Ty} {ps:List Ty} {t:Tm} {ts:List Tm} {σ σ1 σ2 σ3:Sb} {N:List Ty} {r:Option (Int×Sb×List Ty)} (ha:inB k a) (hb:inB k b) (hΓ:EnvOk k Γ) (h:Mo m p b Γ k σ (some (Γ1,σ1))) (h2:BS m Γ1 t k σ1 (some (τ,k2,σ2,N))) (h3:StpR k2 σ2 k2 σ3 (λ_=>()) (λη _=>A8 η τ=A8 η a)) (hr:LO m b a Γ ps ts k2 σ3 r):LO m b a Γ (p::ps) (t::ts) k σ (r.map λx=>(x.1,x.2.1,N++x.2.2)):=by
 have hA:=vS ha h h2 h3;have hN:=h2.2.2.2;cases r with
 | none =>
  refine StpN.second hA hr λη w hw=>?_;obtain ⟨Δ,S1,S2,e1,e2,e3,_⟩:=IJ.1 hw;exact ⟨S1,⟨Δ,e1,e2⟩,λη1 hag _=>⟨S2,by rw [hag.ap hb,hag.ap ha,hag.env hΓ];exact e3⟩⟩
 | some z =>
  obtain ⟨k4,σ4,N4⟩:=z;obtain ⟨r1,r2⟩:=hr;refine ⟨hA.bind r1 (λη ⟨Δ,g1,g2⟩ g3=>?_) λη w hG=>?_,(hN.mono r1.1).append r2⟩
  ·simp only [CE];exact IJ.2 ⟨Δ,_,_,g1,g2,g3,rfl⟩
  ·obtain ⟨Δ,S1,S2,e1,e2,e3,rfl⟩:=IJ.1 hG;refine ⟨S1,⟨Δ,e1,e2⟩,λη1 hag hv=>⟨S2,by rw [hag.ap hb,hag.ap ha,hag.env hΓ];exact e3,λη2 hb' _ hv2=>?_⟩⟩;simp only [CE];rw [hb'.tys hN,hv,hv2]
theorem KU {m:Md} {Γ:Au} {x:Str} {t0:Tm} {ts:List Tm} {ps:List Ty} {τ:Ty} {S:List Ty} :
  Cf m (.mk 15 n x (t0::ts) ps) Γ τ S↔∃b S1 S2,Cf m t0 Γ b S1/\(∃l,GO m b Γ ps l/\C9 m ts (l.map λΔ=>(Δ,τ)) S2)/\S=S1++S2:=by
 constructor
 ·rintro ⟨K,S1,S2,q1,q2,rfl⟩;simp [AT] at q1;obtain ⟨a,l,h1,rfl,rfl⟩:=q1;obtain ⟨T1,T2,h2,h3,rfl⟩:=q2;exact ⟨a,T1,T2,h2,⟨l,h1,h3⟩,by simp⟩
 ·rintro ⟨b,S1,S2,h1,⟨l,h2,h3⟩,rfl⟩;exact ⟨(Γ,b)::l.map (λΔ=>(Δ,τ)),S1++S2,[],by simp only [AT];simp;exact ⟨b,l,h2,rfl,rfl⟩,⟨S1,S2,h1,h3,rfl⟩,by simp⟩
theorem Rw {m:Md} {Γ:Au} {x:Str} {t0:Tm} {ts:List Tm} {ps:List Ty} {σ:Sb} (h:BS m Γ t0 k0 σ none):BS m Γ (.mk 15 n x (t0::ts) ps) k σ none :=
 StpN.first h λη w hw=>let ⟨b,S1,_,h1,_⟩:=KU.1 hw;⟨(b,S1),h1⟩
theorem Z2 {m:Md} {Γ:Au} {x:Str} {t0:Tm} {ts:List Tm} {ps:List Ty} {h:Int} {σ σ1:Sb} {b:Ty} {N1:List Ty} {r:Option (Int×Sb×List Ty)} (hΓ:EnvOk k Γ) (hh:0<=h/\h<k1) (hN:TysOk k1 N1) (hb:inB k1 b) (hA:StpR k σ k1 σ1 (λη=>(η h,A8 η b,N1.map (A8 η))) (λη (w:Ty×Ty×List Ty)=>Cf m t0 (FE η Γ) w.2.1 w.2.2)) (hr:LO m b (Aw h) Γ ps ts k1 σ1 r) :
  BS m Γ (.mk 15 n x (t0::ts) ps) k σ (r.map λz=>(Aw h,z.1,z.2.1,N1++z.2.2)):=by
 cases r with
 | none =>
  refine StpN.second hA hr λη w hw=>?_;obtain ⟨b0,S1,S2,h1,h2,_⟩:=KU.1 hw;refine ⟨(w.1,b0,S1),h1,λη1 ha hv=>⟨S2,?_⟩⟩;simp only [Bc] at hv;rw [hv.2.1,CH,hv.1,ha.env hΓ];exact h2
 | some z =>
  obtain ⟨k2,σ2,N2⟩:=z;obtain ⟨r1,r2⟩:=hr;refine ⟨hA.bind r1 (λη g1 g2=>?_) λη w hG=>?_,rfl,(Kx hh).mono r1.1,(hN.mono r1.1).append r2⟩
  ·simp only [CE];exact KU.2 ⟨_,_,_,g1,g2,rfl⟩
  ·obtain ⟨b0,S1,S2,h1,h2,h3⟩:=KU.1 hG;refine ⟨(w.1,b0,S1),h1,λη1 ha hv=>?_⟩;simp only [Bc] at hv;refine ⟨S2,by rw [hv.2.1,CH,hv.1,ha.env hΓ];exact h2,λη2 hb2 _ hv2=>?_⟩;obtain ⟨w1,w2⟩:=w;simp only at h3 hv hv2 ⊢;rw [CH,hb2 h hh.2,hv.1,CE,hb2.tys hN,hv.2.2,hv2,h3]
theorem LG {m:Md} {Γ:Au} {x:Str} {t0:Tm} {ts:List Tm} {ps:List Ty} {σ σ1:Sb} {b:Ty} {N1:List Ty} {r:Option (Int×Sb×List Ty)} (hΓ:EnvOk k Γ) (h0:BS m Γ t0 k σ (some (b,k1,σ1,N1))) (hr:LO m b (Aw k1) Γ ps ts (k1+1) σ1 r) :
  BS m Γ (.mk 15 n x (t0::ts) ps) k σ (r.map λz=>(Aw k1,z.1,z.2.1,N1++z.2.2)):=by
 obtain ⟨a1,a2,a3,a4⟩:=h0;have hs1:=a1.2.1;refine Z2 hΓ ⟨hs1.1,by omega⟩ (a4.mono (by omega)) (a3.mono (by omega)) ?_ hr;refine a1.bind (NP hs1) (λη g _=>g) λη w hG=>⟨w.2,hG,λη1 ha hv=>⟨w.1,trivial,λη2 hb _ hv2=>?_⟩⟩
 obtain ⟨w1,w2,w3⟩:=w;simp only [Bc] at hv ⊢;exact ⟨hv2,by rw [hb.ap a3,hv.1],by rw [hb.tys a4,hv.2]⟩
theorem iF {m:Md} {Γ:Au} {x:Str} {ps:List Ty} (hk:k<k1) (hΓ:EnvOk k Γ):zbw m Γ 27 x ps k k1 [(Γ++[(x,AN (Aw k) AR)],AR)] (Aw k) []:=by
 refine ⟨λη=>by simp [AT,Hg,Hv],λη K τ0 S0 hR=>?_⟩;simp [AT] at hR;obtain ⟨rfl,rfl⟩:=hR;exact ⟨λ_=>τ0,λη' ha hf=>by simp [Hg,Hv,ha.env hΓ,hf k (Kl _) hk]⟩
theorem Jf {m:Md} {Γ:Au} {x:Str} {t0 t1:Tm} {ps:List Ty} {τ:Ty} {S:List Ty} :
  Cf m (.mk 6 n x [t0,t1] ps) Γ τ S↔∃a S1 S2,Cf m t0 Γ (AN a τ) S1/\Cf m t1 Γ a S2/\S=S1++S2:=by
 constructor
 ·rintro ⟨K,S1,S2,q1,q2,rfl⟩;simp [AT] at q1;obtain ⟨⟨a,rfl⟩,rfl⟩:=q1;obtain ⟨T1,T2,h1,⟨T3,T4,h2,h3,h4⟩,h5⟩:=q2;simp only [C9] at h3;subst h3;subst h4;subst h5;exact ⟨a,T1,T3,h1,h2,by simp⟩
 ·rintro ⟨a,S1,S2,h1,h2,rfl⟩;exact ⟨[(Γ,AN a τ),(Γ,a)],S1++S2,[],by simp [AT],⟨S1,S2,h1,⟨S2,[],h2,rfl,by simp⟩,rfl⟩,by simp⟩
theorem We {m:Md} {Γ:Au} {t0 t1:Tm} {σ σ1 σ2:Sb} {f a:Ty} {N1 N2:List Ty} (hΓ:EnvOk k Γ) (h0:BS m Γ t0 k σ (some (f,k1,σ1,N1))) (h1:BS m Γ t1 k1 σ1 (some (a,k2,σ2,N2))) :
  StpR k σ k2 σ2 (λη=>(A8 η f,A8 η a,N1.map (A8 η),N2.map (A8 η))) (λη (w:Ty×Ty×List Ty×List Ty)=>Cf m t0 (FE η Γ) w.1 w.2.2.1/\Cf m t1 (FE η Γ) w.2.1 w.2.2.2):=by
 obtain ⟨a1,a2,a3,a4⟩:=h0;refine a1.bind h1.1 (λη g1 g2=>⟨g1,g2⟩) λη w hG=>⟨(w.1,w.2.2.1),hG.1,λη1 ha hv=>⟨(w.2.1,w.2.2.2),by rw [ha.env hΓ];exact hG.2,λη2 hb _ hv2=>?_⟩⟩
 obtain ⟨w1,w2,w3,w4⟩:=w;simp only [Bc] at hv hv2 ⊢;exact ⟨by rw [hb.ap a3,hv.1],hv2.1,by rw [hb.tys a4,hv.2],hv2.2⟩
theorem rS {m:Md} {Γ:Au} {t:Tm} {σ:Sb} {t':Tm} (h:BS m Γ t k0 σ none) (hi:∀η (w:Ty×List Ty),Cf m t' (FE η Γ) w.1 w.2->∃a S,Cf m t (FE η Γ) a S):BS m Γ t' k σ none :=
 StpN.first h λη w hw=>let ⟨a,S,h1⟩:=hi η w hw;⟨(a,S),h1⟩
theorem jY {m:Md} {Γ:Au} {t0 t1 t':Tm} {σ σ1:Sb} {f:Ty} {N1:List Ty} (hΓ:EnvOk k Γ) (h0:BS m Γ t0 k σ (some (f,k1,σ1,N1))) (h1:BS m Γ t1 k1 σ1 none) (hi:∀η (w:Ty×List Ty),Cf m t' (FE η Γ) w.1 w.2->(∃a S,Cf m t0 (FE η Γ) a S)/\∃a S,Cf m t1 (FE η Γ) a S) :
  BS m Γ t' k σ none :=
 StpN.second h0.1 h1 λη w hw=>let ⟨⟨a,S,h1⟩,b,S2,h2⟩:=hi η w hw;⟨(a,S),h1,λη1 ha _=>⟨(b,S2),by rw [ha.env hΓ];exact h2⟩⟩
theorem LH {m:Md} {Γ:Au} {x:Str} {t0 t1:Tm} {ps:List Ty} {σ σ1 σ2:Sb} {f a:Ty} {N1 N2:List Ty} {r:Option Sb} (hΓ:EnvOk k Γ) (h0:BS m Γ t0 k σ (some (f,k1,σ1,N1))) (h1:BS m Γ t1 k1 σ1 (some (a,k2,σ2,N2))) (hr:match r with | some σ'=>StpR (k2+1) σ2 (k2+1) σ' (λ_=>()) (λη _=>A8 η f=A8 η (AN a (Aw k2))) | none=>StpN σ2 (β:=Unit) (λη _=>A8 η f=A8 η (AN a (Aw k2)))) :
  BS m Γ (.mk 6 n x [t0,t1] ps) k σ (r.map λσ'=>(Aw k2,k2+1,σ',N1++N2)):=by
 have hA:=We hΓ h0 h1;have hs2:=hA.2.1;obtain ⟨_,_,f3,f4⟩:=h0;obtain ⟨b1,_,b3,b4⟩:=h1;have f3':=f3.mono b1.1;have f4':=f4.mono b1.1;have hB:StpR k σ (k2+1) σ2 (λη=>(η k2,A8 η f,A8 η a,N1.map (A8 η),N2.map (A8 η))) (λη (w:Ty×Ty×Ty×List Ty×List Ty)=>Cf m t0 (FE η Γ) w.2.1 w.2.2.2.1/\Cf m t1 (FE η Γ) w.2.2.1 w.2.2.2.2) :=
  hA.bind (NP hs2) (λη g _=>g) λη w hG=>⟨w.2,hG,λη1 ha hv=>⟨w.1,trivial,λη2 hb _ hv2=>by
   obtain ⟨w1,w2,w3,w4,w5⟩:=w;simp only [Bc] at hv ⊢;exact ⟨hv2,by rw [hb.ap f3',hv.1],by rw [hb.ap b3,hv.2.1],by rw [hb.tys f4',hv.2.2.1],by rw [hb.tys b4,hv.2.2.2]⟩⟩⟩
 cases r with
 | none =>
  refine StpN.second hB hr λη w hw=>?_;obtain ⟨a0,S1,S2,q1,q2,_⟩:=Jf.1 hw;refine ⟨(w.1,AN a0 w.1,a0,S1,S2),⟨q1,q2⟩,λη1 ha hv=>⟨(),?_⟩⟩;simp only [Bc] at hv;rw [ap_kFun,CH,hv.1,hv.2.1,hv.2.2.1]
 | some σ' =>
  refine ⟨hB.bind hr (λη g1 g2=>?_) λη w hG=>?_,rfl,Kx ⟨hs2.1,by omega⟩,(f4'.append b4).mono (by omega)⟩
  ·simp only [CE];rw [ap_kFun,CH] at g2;exact Jf.2 ⟨_,_,_,by rw [CH,<- g2];exact g1.1,g1.2,rfl⟩
  ·obtain ⟨a0,S1,S2,q1,q2,q3⟩:=Jf.1 hG;refine ⟨(w.1,AN a0 w.1,a0,S1,S2),⟨q1,q2⟩,λη1 ha hv=>?_⟩;simp only [Bc] at hv;refine ⟨(),by rw [ap_kFun,CH,hv.1,hv.2.1,hv.2.2.1],λη2 hb _ _=>?_⟩;obtain ⟨w1,w2⟩:=w;simp only at hv q3 ⊢;rw [CH,hb k2 (by omega),hv.1,CE,hb.tys (f4'.mono (by omega)),hb.tys (b4.mono (by omega)),hv.2.2.2.1,hv.2.2.2.2,q3]
theorem Oh {m:Md} {Γ:Au} {x:Str} {t0 t1 t2:Tm} {ps:List Ty} {τ:Ty} {S:List Ty} :
  Cf m (.mk 8 n x [t0,t1,t2] ps) Γ τ S↔∃S1 S2 S3,C9 m [t0] [(Γ,BW)] S1/\Cf m t1 Γ τ S2/\Cf m t2 Γ τ S3/\S=S1++(S2++S3):=by
 constructor
 ·rintro ⟨K,S1,S2,q1,q2,rfl⟩;simp [AT] at q1;obtain ⟨rfl,rfl⟩:=q1;obtain ⟨T1,T2,h1,⟨T3,T4,h2,⟨T5,T6,h3,h4,h5⟩,h6⟩,h7⟩:=q2;simp only [C9] at h4;subst h4;subst h5;subst h6;subst h7;exact ⟨T1,T3,T5,⟨T1,[],h1,rfl,by simp⟩,h2,h3,by simp⟩
 ·rintro ⟨S1,S2,S3,⟨T1,T2,h1,h2,h3⟩,h4,h5,rfl⟩;simp only [C9] at h2;subst h2;subst h3;exact ⟨[(Γ,BW),(Γ,τ),(Γ,τ)],T1++(S2++S3),[],by simp [AT],⟨T1,S2++S3,h1,⟨S2,S3,h4,⟨S3,[],h5,rfl,by simp⟩,rfl⟩,rfl⟩,by simp⟩
theorem Rx {m:Md} {Γ:Au} {x:Str} {t0 t1 t2:Tm} {ps:List Ty} {k3:Int} {σ σ1 σ2 σ3:Sb} {f a:Ty} {N1 N2 N3:List Ty} {r:Option Sb} (hΓ:EnvOk k Γ) (h0:I1 m [t0] [(Γ,BW)] k σ (some (k1,σ1,N1))) (h1:BS m Γ t1 k1 σ1 (some (f,k2,σ2,N2))) (h2:BS m Γ t2 k2 σ2 (some (a,k3,σ3,N3))) (hr:match r with | some σ'=>StpR k3 σ3 k3 σ' (λ_=>()) (λη _=>A8 η f=A8 η a) | none=>StpN σ3 (β:=Unit) (λη _=>A8 η f=A8 η a)) :
  BS m Γ (.mk 8 n x [t0,t1,t2] ps) k σ (r.map λσ'=>(f,k3,σ',N1++(N2++N3))):=by
 obtain ⟨a1,a2⟩:=h0;have hA:=We (hΓ.mono a1.1) h1 h2;obtain ⟨_,c2,c3,c4⟩:=h1;obtain ⟨b1,b2,b3,b4⟩:=h2;have hB:StpR k σ k3 σ3 (λη=>(A8 η f,A8 η a,N1.map (A8 η),N2.map (A8 η),N3.map (A8 η))) (λη (w:Ty×Ty×List Ty×List Ty×List Ty)=>C9 m [t0] [(FE η Γ,BW)] w.2.2.1/\Cf m t1 (FE η Γ) w.1 w.2.2.2.1/\Cf m t2 (FE η Γ) w.2.1 w.2.2.2.2) :=
  a1.bind hA (λη g1 g2=>⟨by simpa [Hg] using g1,g2⟩) λη w hG=>⟨w.2.2.1,by simpa [Hg] using hG.1,λη1 ha hv=>⟨(w.1,w.2.1,w.2.2.2.1,w.2.2.2.2),by rw [ha.env hΓ];exact hG.2,λη2 hb _ hv2=>by
   obtain ⟨w1,w2,w3,w4,w5⟩:=w;simp only [Bc] at hv2 ⊢;exact ⟨hv2.1,hv2.2.1,by rw [hb.tys a2,hv],hv2.2.2.1,hv2.2.2.2⟩⟩⟩
 cases r with
 | none =>
  refine StpN.second hB hr λη w hw=>?_;obtain ⟨S1,S2,S3,q1,q2,q3,_⟩:=Oh.1 hw;refine ⟨(w.1,w.1,S1,S2,S3),⟨q1,q2,q3⟩,λη1 ha hv=>⟨(),?_⟩⟩;simp only [Bc] at hv;rw [hv.1,hv.2.1]
 | some σ' =>
  refine ⟨hB.bind hr (λη g1 g2=>?_) λη w hG=>?_,c2,c3.mono b1.1,(a2.mono hA.1).append ((c4.mono b1.1).append b4)⟩
  ·simp only [CE];exact Oh.2 ⟨_,_,_,g1.1,g1.2.1,by rw [g2];exact g1.2.2,rfl⟩
  ·obtain ⟨S1,S2,S3,q1,q2,q3,q4⟩:=Oh.1 hG;refine ⟨(w.1,w.1,S1,S2,S3),⟨q1,q2,q3⟩,λη1 ha hv=>?_⟩;simp only [Bc] at hv;refine ⟨(),by rw [hv.1,hv.2.1],λη2 hb _ _=>?_⟩;obtain ⟨w1,w2⟩:=w;simp only at hv q4 ⊢;rw [hb.ap (c3.mono b1.1),hv.1,CE,CE,hb.tys (a2.mono hA.1),hb.tys (c4.mono b1.1),hb.tys b4,hv.2.2.1,hv.2.2.2.1,hv.2.2.2.2,q4]
theorem Ng {m:Md} {Γ:Au} {x:Str} {t:Tm} {ps:List Ty} {σ:Sb} {r:Option (Ty×Int×Sb×List Ty)} (h:BS m Γ t k σ r):BS m Γ (.mk 16 n x [t] ps) k σ (r.map λz=>(GJ 5 z.1,z.2)):=by
 have inv:∀{Γ τ S},Cf m (.mk 16 n x [t] ps) Γ τ S↔∃a,τ=GJ 5 a/\Cf m t Γ a S:=by
  intro Γ τ S;constructor
  ·rintro ⟨K,S1,S2,q1,q2,rfl⟩;simp [AT] at q1;obtain ⟨a,rfl,rfl,rfl⟩:=q1;obtain ⟨T1,T2,h1,h2,h3⟩:=q2;simp only [C9] at h2;subst h2;subst h3;exact ⟨a,rfl,by simpa using h1⟩
  ·rintro ⟨a,rfl,h⟩;exact ⟨[(Γ,a)],S,[],by simp [AT],⟨S,[],h,rfl,by simp⟩,by simp⟩
 cases r with
 | none=>exact StpN.first h λη w hw=>let ⟨a,_,h1⟩:=inv.1 hw;⟨(a,w.2),h1⟩
 | some z =>
  obtain ⟨τ,k',σ',N⟩:=z;obtain ⟨h1,h2,h3,h4⟩:=h;refine ⟨h1.weaken (λη g=>inv.2 ⟨_,by rw [ap_k5],g⟩) λη w hw=>?_,mP (by decide) (by decide) h2,eW (by decide) h3,h4⟩;obtain ⟨a,e1,e2⟩:=inv.1 hw;refine ⟨(a,w.2),e2,λη' _ hv=>?_⟩;simp only [Bc] at hv;obtain ⟨w1,w2⟩:=w;simp only at e1 hv ⊢;rw [ap_k5,hv.1,hv.2,e1]
structure N6 (m:Md) (φ:Ty->Ty):Prop where
 int:φ AR=AR
 bool:φ BW=BW
 unit:φ Di=Di
 fn:∀a b,φ (AN a b)=AN (φ a) (φ b)
 cell:∀a,φ (GJ 5 a)=GJ 5 (φ a)
 chan:∀a,φ (GJ 6 a)=GJ 6 (φ a)
 task:∀a,φ (GJ 7 a)=GJ 7 (φ a)
 data:∀x,φ (Bw x)=Bw x
 funs:∀f∈m.funs,φ (AN f.from_ f.to_)=AN f.from_ f.to_
 args:∀d∈m.datas,∀c∈d.cons,∀t∈c.args,φ t=t
def Sx (φ:Ty->Ty) (Γ:Au):Au:=Γ.map λp=>(p.1,φ p.2)
def OT (φ:Ty->Ty) (l:List (Au×Ty)):List (Au×Ty):=l.map λp=>(Sx φ p.1,φ p.2)
theorem Hp (φ:Ty->Ty) (Γ:Au) (x:Str) (t:Ty):Sx φ (Γ++[(x,t)])=Sx φ Γ++[(x,φ t)]:=by simp [Sx]
theorem rC (φ:Ty->Ty):∀(Γ:Au) (x:Str),HP (Sx φ Γ) x=(HP Γ x).map φ
 | [],x=>rfl
 | (y,t)::r,x=>by
  simp only [Sx,C6,HP];rw [show r.map (λp=>(p.1,φ p.2))=Sx φ r from rfl,rC φ r x];cases HP r x with
  | some u=>rfl
  | none=>simp only [Oc];split <;> rfl
theorem rA {m:Md} {φ:Ty->Ty} (h:N6 m φ) (Γ:Au) (x:Str):BO m (Sx φ Γ) x=(BO m Γ x).map φ:=by
 simp only [BO,rC];cases HP Γ x with
 | some t=>rfl
 | none =>
  simp only [Oc];cases e:JP m.funs x with
  | none=>rfl
  | some t =>
   obtain ⟨f,h1,rfl⟩:=Nl e;simp only [TN,h.funs f h1]
theorem tR {m:Md} {φ:Ty->Ty} (h:N6 m φ) {x y:Str} {c:Cd} (hc:FH m.datas x=some (c,y)):c.args.map φ=c.args:=by
 obtain ⟨d,h1,h2⟩:=VM hc;exact (HK (g:=id) λt ht=>h.args d h1 c h2 t ht).trans (Vo _)
mutual
theorem pD {m:Md} {φ:Ty->Ty} (h:N6 m φ):∀(p τ:Ty) (Γ Γ':Au),GP m p τ Γ Γ'->GP m p (φ τ) (Sx φ Γ) (Sx φ Γ')
 | .mk f n x ps,τ,Γ,Γ',hp=>by
  simp only [GP] at hp ⊢;by_cases e2:f=2
  ·rw [if_pos e2] at hp ⊢;rw [hp,Hp]
  rw [if_neg e2] at hp ⊢;by_cases e3:f=3
  ·rw [if_pos e3] at hp ⊢;exact ⟨by rw [hp.1,h.int],by rw [hp.2]⟩
  rw [if_neg e3] at hp ⊢;by_cases e4:f=4
  ·rw [if_pos e4] at hp ⊢;exact ⟨by rw [hp.1,h.bool],by rw [hp.2]⟩
  rw [if_neg e4] at hp ⊢;by_cases e5:f=5
  ·rw [if_pos e5] at hp ⊢;exact ⟨by rw [hp.1,h.unit],by rw [hp.2]⟩
  rw [if_neg e5] at hp ⊢;by_cases e6:f=6
  ·rw [if_pos e6] at hp ⊢;obtain ⟨c,d,h1,h2,h3,h4⟩:=hp;have:=dW h ps c.args Γ Γ' h4;rw [tR h h1] at this;exact ⟨c,d,h1,h2,by rw [h3,h.data],this⟩
  rw [if_neg e6] at hp ⊢;rw [hp]
theorem dW {m:Md} {φ:Ty->Ty} (h:N6 m φ):∀(ps ts:List Ty) (Γ Γ':Au),Jg m ps ts Γ Γ'->Jg m ps (ts.map φ) (Sx φ Γ) (Sx φ Γ')
 | [],[],Γ,Γ',hp=>by simp only [Jg,HL] at hp ⊢;rw [hp]
 | p::ps,t::ts,Γ,Γ',⟨Γ1,h1,h2⟩=>⟨Sx φ Γ1,pD h p t Γ Γ1 h1,dW h ps ts Γ1 Γ' h2⟩
 | [],_::_,_,_,hp=>hp.elim
 | _::_,[],_,_,hp=>hp.elim
end
theorem dL {m:Md} {φ:Ty->Ty} (h:N6 m φ) (τ:Ty) (Γ:Au):∀(ps:List Ty) (l:List Au),GO m τ Γ ps l->GO m (φ τ) (Sx φ Γ) ps (l.map (Sx φ))
 | [],l,hp=>by simp only [GO] at hp ⊢;rw [hp];rfl
 | p::ps,l,⟨Γ1,l1,h1,h2,h3⟩=>⟨Sx φ Γ1,l1.map (Sx φ),pD h p τ Γ Γ1 h1,dL h τ Γ ps l1 h2,by rw [h3];rfl⟩
theorem vR {m:Md} {φ:Ty->Ty} (h:N6 m φ) {Γ:Au} {op:Int} {x:Str} {ps:List Ty} {K:List (Au×Ty)} {τ:Ty} {S:List Ty} (hR:AT m Γ op x ps K τ S):AT m (Sx φ Γ) op x ps (OT φ K) (φ τ) (S.map φ):=by
 have e1:=h.int;have e2:=h.bool;have e3:=h.unit;have e4:=h.fn;have e5:=h.cell;have e6:=h.chan;have e7:=h.task;have e8:=h.data;unfold AT at hR ⊢;by_cases c0:op=1\/op=25
 ·rw [if_pos c0] at hR ⊢;obtain ⟨rfl,rfl,rfl⟩:=hR;simp [OT,e1,e2,e3]
 rw [if_neg c0] at hR ⊢;by_cases c1:op=2
 ·rw [if_pos c1] at hR ⊢;obtain ⟨rfl,rfl,rfl⟩:=hR;simp [OT,e1,e2,e3]
 rw [if_neg c1] at hR ⊢;by_cases c2:op=3\/op=28
 ·rw [if_pos c2] at hR ⊢;obtain ⟨rfl,rfl,rfl⟩:=hR;simp [OT,e1,e2,e3]
 rw [if_neg c2] at hR ⊢;by_cases c3:op=4
 ·rw [if_pos c3] at hR ⊢;obtain ⟨rfl,q,rfl⟩:=hR;exact ⟨rfl,by rw [rA h,q];rfl,rfl⟩
 rw [if_neg c3] at hR ⊢;by_cases c4:op=5
 ·rw [if_pos c4] at hR ⊢;obtain ⟨a,b,rfl,rfl,rfl⟩:=hR;exact ⟨φ a,φ b,by simp [OT,Hp],by rw [e4],rfl⟩
 rw [if_neg c4] at hR ⊢;by_cases c5:op=6
 ·rw [if_pos c5] at hR ⊢;obtain ⟨a,rfl,rfl⟩:=hR;exact ⟨φ a,by simp [OT,Hp,e4],rfl⟩
 rw [if_neg c5] at hR ⊢;by_cases c6:op=7
 ·rw [if_pos c6] at hR ⊢;obtain ⟨a,rfl,rfl⟩:=hR;exact ⟨φ a,by simp [OT,Hp,e4],rfl⟩
 rw [if_neg c6] at hR ⊢;by_cases c7:op=8
 ·rw [if_pos c7] at hR ⊢;obtain ⟨rfl,rfl⟩:=hR;simp [OT,Hp,e1,e2,e3,e4,e5,e6,e7]
 rw [if_neg c7] at hR ⊢;by_cases c8:op=9\/op=10\/op=11
 ·rw [if_pos c8] at hR ⊢;obtain ⟨rfl,rfl,rfl⟩:=hR;simp [OT,e1,e2,e3]
 rw [if_neg c8] at hR ⊢;by_cases c9:op=12
 ·rw [if_pos c9] at hR ⊢;obtain ⟨rfl,rfl,rfl⟩:=hR;simp [OT,e1,e2,e3]
 rw [if_neg c9] at hR ⊢;by_cases c10:op=13
 ·rw [if_pos c10] at hR ⊢;obtain ⟨a,rfl,rfl,rfl⟩:=hR;exact ⟨φ a,by simp [OT,e1,e2,e3,e4,e5,e6,e7],by simp [e1,e2,e3,e4,e5,e6,e7],rfl⟩
 rw [if_neg c10] at hR ⊢;by_cases c11:op=14
 ·rw [if_pos c11] at hR ⊢;obtain ⟨c,d,q,rfl,rfl,rfl⟩:=hR;refine ⟨c,d,q,?_,e8 d,rfl⟩;have:=tR h q;simp only [OT,Rc]
  conv=>rhs;rw [<- this]
  simp
 rw [if_neg c11] at hR ⊢;by_cases c12:op=15
 ·rw [if_pos c12] at hR ⊢;obtain ⟨a,l,q,rfl,rfl⟩:=hR;exact ⟨φ a,l.map (Sx φ),dL h a Γ ps l q,by simp [OT],rfl⟩
 rw [if_neg c12] at hR ⊢;by_cases c13:op=16
 ·rw [if_pos c13] at hR ⊢;obtain ⟨a,rfl,rfl,rfl⟩:=hR;exact ⟨φ a,by simp [OT,e1,e2,e3,e4,e5,e6,e7],by simp [e1,e2,e3,e4,e5,e6,e7],rfl⟩
 rw [if_neg c13] at hR ⊢;by_cases c14:op=17
 ·rw [if_pos c14] at hR ⊢;obtain ⟨rfl,rfl⟩:=hR;simp [OT,Hp,e1,e2,e3,e4,e5,e6,e7]
 rw [if_neg c14] at hR ⊢;by_cases c15:op=18
 ·rw [if_pos c15] at hR ⊢;obtain ⟨a,rfl,rfl,rfl⟩:=hR;exact ⟨φ a,by simp [OT,e1,e2,e3,e4,e5,e6,e7],by simp [e1,e2,e3,e4,e5,e6,e7],rfl⟩
 rw [if_neg c15] at hR ⊢;by_cases c16:op=19
 ·rw [if_pos c16] at hR ⊢;obtain ⟨a,rfl,rfl,rfl⟩:=hR;exact ⟨φ a,by simp [OT,e1,e2,e3,e4,e5,e6,e7],by simp [e1,e2,e3,e4,e5,e6,e7],rfl⟩
 rw [if_neg c16] at hR ⊢;by_cases c17:op=20
 ·rw [if_pos c17] at hR ⊢;obtain ⟨rfl,rfl⟩:=hR;simp [OT,Hp,e1,e2,e3,e4,e5,e6,e7]
 rw [if_neg c17] at hR ⊢;by_cases c18:op=21
 ·rw [if_pos c18] at hR ⊢;obtain ⟨a,rfl,rfl,rfl⟩:=hR;exact ⟨φ a,by simp [OT,e1,e2,e3,e4,e5,e6,e7],by simp [e1,e2,e3,e4,e5,e6,e7],rfl⟩
 rw [if_neg c18] at hR ⊢;by_cases c19:op=22
 ·rw [if_pos c19] at hR ⊢;obtain ⟨a,rfl,rfl,rfl⟩:=hR;exact ⟨φ a,by simp [OT,e1,e2,e3,e4,e5,e6,e7],by simp [e1,e2,e3,e4,e5,e6,e7],rfl⟩
 rw [if_neg c19] at hR ⊢;by_cases c20:op=23
 ·rw [if_pos c20] at hR ⊢;obtain ⟨rfl,rfl⟩:=hR;simp [OT,Hp,e1,e2,e3,e4,e5,e6,e7]
 rw [if_neg c20] at hR ⊢;by_cases c21:op=24
 ·rw [if_pos c21] at hR ⊢;obtain ⟨rfl,rfl,rfl⟩:=hR;simp [OT,e1,e2,e3]
 rw [if_neg c21] at hR ⊢;by_cases c22:op=26
 ·rw [if_pos c22] at hR ⊢;obtain ⟨rfl,rfl,rfl⟩:=hR;simp [OT,e1,e2,e3]
 rw [if_neg c22] at hR ⊢;by_cases c23:op=27
 ·rw [if_pos c23] at hR ⊢;obtain ⟨rfl,rfl⟩:=hR;simp [OT,Hp,e1,e2,e3,e4,e5,e6,e7]
 rw [if_neg c23] at hR ⊢;exact hR.elim
mutual
theorem bL {m:Md} {φ:Ty->Ty} (h:N6 m φ):∀(t:Tm) (Γ:Au) (τ:Ty) (S:List Ty),Cf m t Γ τ S->Cf m t (Sx φ Γ) (φ τ) (S.map φ)
 | .mk op n x ks ps,Γ,τ,S,⟨K,S1,S2,h1,h2,h3⟩=>⟨OT φ K,S1.map φ,S2.map φ,vR h h1,fA h ks K S1 h2,by rw [h3,CE]⟩
theorem fA {m:Md} {φ:Ty->Ty} (h:N6 m φ):∀(ts:List Tm) (K:List (Au×Ty)) (S:List Ty),C9 m ts K S->C9 m ts (OT φ K) (S.map φ)
 | [],[],S,hp=>by simp only [C9] at hp;rw [hp];rfl
 | t::ts,k::ks,S,⟨S1,S2,h1,h2,h3⟩=>⟨S1.map φ,S2.map φ,bL h t k.1 k.2 S1 h1,fA h ts ks S2 h2,by rw [h3,CE]⟩
 | [],_::_,_,hp=>hp.elim
 | _::_,[],_,hp=>hp.elim
end
def yN (m:Md) (Γ:Au) (t:Tm) (T:Ty) (N:List Ty):Prop:=Cf m t Γ T N/\∀τ S,Cf m t Γ τ S->∃η,A8 η T=τ/\N.map (A8 η)=S
def EnvCl (Γ:Au):Prop:=∀p∈Γ,CL p.2=[]/\Ck p.2=true
theorem EnvCl.ap {Γ:Au} (h:EnvCl Γ) (η:Int->Ty):FE η Γ=Γ:=(HK (g:=id) λp hp=>by rw [Fe (h p hp).1 (h p hp).2];rfl).trans (Vo _)
theorem Ru {m:Md} {Γ:Au} {t:Tm} {σ':Sb} {τ:Ty} {N:List Ty} (hΓ:EnvCl Γ) (h:BS m Γ t k (λ_=>none) (some (τ,k',σ',N))) {θ:Int->Ty} (hθ:Sol σ' θ):yN m Γ t (A8 θ τ) (N.map (A8 θ)):=by
 obtain ⟨h1,h2,h3,h4⟩:=h;obtain ⟨_,_,s1,s2⟩:=h1;refine ⟨?_,λτ0 S hT=>?_⟩
 ·have:=(s1 θ hθ.eq).2;simp only [hΓ.ap] at this;exact this
 ·obtain ⟨η,_,q1,q2⟩:=s2 Aw (τ0,S) (λn t hn=>by cases hn) (by simp only [hΓ.ap];exact hT);simp only [Bc] at q2;refine ⟨η,by rw [hθ.mguT q1,q2.1],?_⟩;rw [Rc,<- q2.2];exact HK λt _=>hθ.mguT q1 t
theorem sE {m:Md} {Γ:Au} {t:Tm} (hΓ:EnvCl Γ) (h:BS m Γ t k (λ_=>none) none) (τ:Ty) (S:List Ty):¬Cf m t Γ τ S:=λhT=>h Aw (τ,S) (λn t hn=>by cases hn) (by simp only [hΓ.ap];exact hT)
theorem iA (hk:0<=k):StOk k (λ_=>none):=by
 refine ⟨hk,?_,Aw,?_,?_,?_,?_⟩
 ·intro n t hn;cases hn
 ·intro n t hn;cases hn
 ·intro n _;rfl
 ·intro n t hn;cases hn
 ·intro n t hn;cases hn
mutual
def Df:Ty->List Int->List Int
 | .mk f n _ ps,l=>if f=9 then (if n∈l then l else l++[n]) else Cn ps l
def Cn:List Ty->List Int->List Int
 | [],l=>l
 | t::r,l=>Cn r (Df t l)
end
mutual
theorem PU {m:Int}:∀(t:Ty) (l:List Int),m∈Df t l↔m∈l\/m∈CL t
 | .mk f n x ps,l=>by
  by_cases e:f=9
  ·simp only [Df,CL,if_pos e]
   split <;> simp <;> grind
  ·simp only [Df,CL,if_neg e];exact Xc ps l
theorem Xc {m:Int}:∀(ps:List Ty) (l:List Int),m∈Cn ps l↔m∈l\/m∈Dc ps
 | [],l=>by simp [Cn,Dc]
 | t::r,l=>by simp only [Cn,Dc,BN,Xc r,PU t];grind
end
def HX (stay:List Int) (n:Nat):Nat:=((List.range n).filter λi:Nat=>decide ((i:Int)∉stay)).length
def NthF (stay:List Int) (k n:Nat):Prop:=(n:Int)∉stay/\HX stay n=k
theorem Dl (stay:List Int) (n:Nat):HX stay (n+1)=HX stay n+if (n:Int)∈stay then 0 else 1:=by
 simp only [HX,Rb,List.filter_append,B5];by_cases h:(n:Int)∈stay <;> simp [h]
theorem Ln {stay:List Int} {n m:Nat} (h:n<=m):HX stay n<=HX stay m:=by
 induction h with
 | refl=>exact BQ _
 | step _ ih=>rw [Nat.succ_eq_add_one,Dl];omega
theorem NthF.unique {stay:List Int} {k n m:Nat} (h:NthF stay k n) (h':NthF stay k m):n=m:=by
 rcases Mc n m with hl | hl | hl
 ·have:=Ln (stay:=stay) (show n+1<=m from hl);rw [Dl,if_neg h.1,h.2,h'.2] at this;omega
 ·exact hl
 ·have:=Ln (stay:=stay) (show m+1<=n from hl);rw [Dl,if_neg h'.1,h.2,h'.2] at this;omega
mutual
theorem uE {η η':Int->Ty}:∀(t:Ty),A8 η t=A8 η' t->∀h∈CL t,η h=η' h
 | .mk f n x ps,e,h,hh=>by
  by_cases e9:f=9
  ·simp only [A8,CL,if_pos e9,AP] at e hh;rw [hh];exact e
  ·simp only [A8,CL,if_neg e9,Ty.mk.injEq,true_and] at e hh;exact gC ps e h hh
theorem gC {η η':Int->Ty}:∀(l:List Ty),Ca η l=Ca η' l->∀h∈Dc l,η h=η' h
 | [],_,h,hh=>by simp [Dc] at hh
 | t::r,e,h,hh=>by
  simp only [Ca,DM] at e;simp only [Dc,BN] at hh;exact hh.elim (uE t e.1 h) (gC r e.2 h)
end
def OC (i j k:Nat):Nat:=bif Nat.beq k i then j else bif Nat.beq k j then i else k
theorem Hm (i j k:Nat):OC i j (OC i j k)=k:=by
 have hb:∀a b:Nat,Nat.beq a b=decide (a=b):=λa b=>by
  cases h:Nat.beq a b with
  | true=>simp [CD h]
  | false =>
   have:a≠b:=λe=>by subst e;simp at h
   simp [this]
 unfold OC;simp only [hb];by_cases h1:k=i
 ·subst h1;simp only [decide_true,cond_true];by_cases h2:j=k
  ·subst h2;simp
  ·simp [h2]
 ·by_cases h2:k=j
  ·subst h2;simp [h1]
  ·simp [h1,h2]
def UO (ρ:Nat->Nat):St->St
 | []=>[]
 | (i,some b)::r=>(ρ i,some (UP ρ b))::UO ρ r
 | (i,none)::r=>(ρ i,none)::UO ρ r
theorem Gs {i j:Nat} {k:Nat} {b:Blk}:∀{st:St},A1 (UO (OC i j) st) k b->∃b0,A1 st (OC i j k) b0/\b=UP (OC i j) b0
 | [],h=>by simp [UO,A1,lk] at h
 | (a,some x)::r,h=>by
  simp only [UO] at h;unfold A1 at h ⊢;by_cases ha:OC i j a=k
  ·subst ha;rw [A0] at h;rw [Hm,A0];cases h;exact ⟨x,rfl,rfl⟩
  ·rw [A6 _ _ ha] at h;rw [A6 _ _ (λe=>ha (by rw [e,Hm]))];exact Gs h
 | (a,none)::r,h=>by
  simp only [UO] at h;unfold A1 at h ⊢;by_cases ha:OC i j a=k
  ·subst ha;rw [A0] at h;cases h
  ·rw [A6 _ _ ha] at h;rw [A6 _ _ (λe=>ha (by rw [e,Hm]))];exact Gs h
theorem Bt {n:Nat} {env:Env} (i j:Nat) (hF:(Fp F i||Fp F j)=false) (h:DGo P n F Q todo (iR (OC i j) env) (UO (OC i j) st) (ids.map (OC i j))):DGo P n F Q todo env st ids:=by
 intro b cs I μ a w items hd hc;have hn:∀k g,μ k=some g->(λk=>μ (OC i j k)) (OC i j k)=some g:=λk g hg=>by simp only [Hm];exact hg
 have hE:Ext I μ st w I (λk=>μ (OC i j k)) (UO (OC i j) st) w :=
  {imm:=Imm.le_refl I,os:=rfl,tape:=rfl,output:=rfl,size:=BQ _,block:=λ_ _ _=>rfl,
     fresh:=λb _ ⟨k,b',g,h1,h2,h3⟩=>let ⟨b0,q,_⟩:=Gs h1;⟨_,b0,g,q,h2,h3⟩,old:=λ_ _ _=>rfl }
 have hc':Conc n I (λk=>μ (OC i j k)) (iR (OC i j) env) (UO (OC i j) st) (ids.map (OC i j)) a w :=
  {imm:=hc.imm
   blk:=λk b' hl=>by
    obtain ⟨b0,h1,rfl⟩:=Gs hl;obtain ⟨g,hg,hr⟩:=hc.blk _ b0 h1;exact ⟨g,hg,hr.ren λx _ g hg=>hn x g hg⟩
   apart:=λk b' g m hl hg hk=>by
    obtain ⟨b0,h1,rfl⟩:=Gs hl;exact hc.apart _ b0 g m h1 hg hk
   inj:=λk k' bi bj gi gj m hi hj hgi hgj hki hkj=>by
    obtain ⟨b1,h1,_⟩:=Gs hi;obtain ⟨b2,h2,_⟩:=Gs hj;have:=hc.inj _ _ b1 b2 gi gj m h1 h2 hgi hgj hki hkj;have e:=congrArg (OC i j) this
    rwa [Hm,Hm] at e
   nodup:=by
    have:=hc.nodup;rw [List.nodup_iff_pairwise_ne] at this ⊢;exact List.Pairwise.map _ (λx y hxy e=>hxy (by have e:=congrArg (OC i j) e;rwa [Hm,Hm] at e)) this
   idsFree:=λk hk=>by
    obtain ⟨x,hx,rfl⟩:=C2.1 hk;show μ (OC i j (OC i j x))=none;rw [Hm];exact hc.idsFree x hx
   size:=hc.size
   env:=λt d hl=>by
    obtain ⟨d0,h1,rfl⟩:=dN hl;exact (hc.env t d0 h1).ren λx _ g hg=>hn x g hg
   defers:=hc.defers.ext hE }
 simp only [Kk] at hF;have hfix:∀k∈F,OC i j k=k:=λk hk=>by
  have h1:Nat.beq k i=false:=by
   cases hb:Nat.beq k i with
   | false=>rfl
   | true=>rw [<- CD hb,BT.2 hk] at hF;cases hF.1
  have h2:Nat.beq k j=false:=by
   cases hb:Nat.beq k j with
   | false=>rfl
   | true=>rw [<- CD hb,BT.2 hk] at hF;cases hF.2
  simp [OC,h1,h2]
 exact (h b cs I _ a w items hd hc').mono λe a' w' hp=>hp.back (λk hk g hg=>by show μ (OC i j k)=some g;rw [hfix k hk];exact hg)<|hE
def Ls (P:Program) (f:FuncId) (t tb:TypeId):Prop:=∀(g:FuncId) (fi ca:Array Value) (w:World) (K Kp:World->Prop),
 (callFunc g (fi++ca)).run P (w.alloc (.cells #[.bool false] tb)) = .ok (.enter g (fi++ca)) (w.alloc (.cells #[.bool false] tb)) ->
 Calls P g (fi++ca) (w.alloc (.cells #[.bool false] tb)) (λe w'=>match e with
  | .returned _=>K w'
  | .panicked chain=>chain=[{ v:=.iface t (.agg #[]),recovered:=false }]/\Kp w'
  | .outgrown=>False) ->
 (∀w',K w'->w'.heap[w.heap.size]?=some (.cells #[.bool false] tb (0,0)))->(∀w',Kp w'->w'.heap[w.heap.size]?=some (.cells #[.bool false] tb (0,0))) ->
 Calls P f #[.func (.func g) fi ca] w λe w'=>(e = .returned (.bool true)/\∃w1,K w1/\w'=w1.setCell ⟨w.heap.size,0,none⟩ (.bool true)) \/
  (e = .returned (.bool false)/\∃w1,Kp w1/\w'=(w1.setCell ⟨w.heap.size,0,none⟩ (.bool false)).alloc (.cells #[] t))
theorem E0 {b:Nat} {x:Value} (h:w.heap[b]?=some (.cells #[x] t (0,0))):w.setCell ⟨b,0,none⟩ v={ w with heap:=w.heap.setIfInBounds b (.cells #[v] t (0,0)) }:=by
 have:∀(A:Array Obj) (f:Obj->Obj),A[b]?=some (.cells #[x] t (0,0))->A.modify b f=A.setIfInBounds b (f (.cells #[x] t (0,0))):=by
  intro A f hA;apply ZI;intro i;rw [Vn,Array.getElem?_setIfInBounds];by_cases hi:b=i
  ·subst hi;rw [if_pos rfl,if_pos rfl,hA];simp [(GY.1 hA).1]
  ·rw [if_neg hi,if_neg hi]
 unfold World.setCell;rw [this _ _ h];rfl
theorem Em (hst:StRep I μ st ids w) {b:Nat} (h:Bq μ st b):b<w.heap.size:=by
 obtain ⟨id,blk,g,h1,h2,h3⟩:=h;exact (hst.apart id blk g b h1 h2 h3).2
theorem StRep.other (hst:StRep I μ st ids w) (hs:w.heap.size<=w'.heap.size) (hi:∀b o,I b=some o->w'.heap[b]?=w.heap[b]?) (ho:∀b,Bq μ st b->w'.heap[b]?=w.heap[b]?):StRep I μ st ids w' :=
 {imm:=λb o h=>(hi b o h).trans (hst.imm b o h),blk:=λid blk hl=>let ⟨g,h1,h2⟩:=hst.blk id blk hl;⟨g,h1,h2.world λb hb=>ho b ⟨id,blk,g,hl,h1,hb⟩⟩,
  apart:=λid blk g b h1 h2 h3=>⟨(hst.apart id blk g b h1 h2 h3).1,Z5 (hst.apart id blk g b h1 h2 h3).2 hs⟩,inj:=hst.inj,nodup:=hst.nodup,idsFree:=hst.idsFree }
theorem RepD.fnD {f:Fn} {df dc:List D} (h:RepD I μ v (.fn f df dc)):∃first cap:Array Value,v = .func f first cap/\RepL I μ (first++cap).toList (df++dc):=by
 cases h with
 | fn _ first cap _ _ hf hc h1 h2 =>
  refine ⟨first,cap,rfl,?_⟩;rw [Km];refine ⟨by simp [hf,hc],λi v d p q=>?_⟩;rw [Mg] at p q;have hl:first.toList.length=df.length:=by simpa using hf
  rw [hl] at p
  split at p
  ·rename_i hlt;rw [if_pos hlt] at q;exact h1 i v d (by simpa using p) q
  ·rename_i hlt;rw [if_neg hlt] at q;exact h2 _ v d (by simpa using p) q
section
variable {g:FuncId} {tb:TypeId} {fn fg:Func} {cf cg:Code} {df dc:List D}
theorem R4 {xs:Array Value} (hxs:RepL I μ xs.toList [.fn (.func g) df dc]):∃first cap:Array Value,xs = #[.func (.func g) first cap]/\RepL I μ (first++cap).toList (df++dc):=by
 obtain ⟨l,rfl⟩:∃l:List Value,xs=l.toArray:=⟨xs.toList,by simp⟩
 rw [MT] at hxs
 match l,hxs with
 | [v],hxs =>
  obtain ⟨first,cap,rfl,h⟩:=(hxs.2 0 v _ rfl rfl).fnD;exact ⟨first,cap,rfl,h⟩
 | [],hxs=>exact absurd hxs.1 (by simp)
 | _::_::_,hxs=>exact absurd hxs.1 (by simp)
theorem IV (hf : P.funcs[f]? = some fn) (hn : (fn.name == "runtime.NumGoroutine") = false) (hb : fn.body = some cf) (hs : Ls P f t tb)
  (hg : P.funcs[g]? = some fg) (hgn : (fg.name == "runtime.NumGoroutine") = false) (hgb : fg.body = some cg) (hE : Hy P g (df ++ dc) st0 (.ret d st1)) : Hy P f [.fn (.func g) df dc] st0 (.ret (.imm (.bool true)) st1) := by
 intro I μ w xs hst hxs;obtain ⟨first,cap,rfl,hx⟩:=R4 hxs;rw [B1 hf hn hb];have hheap:(w.alloc (.cells #[.bool false] tb)).heap=w.heap.push (.cells #[.bool false] tb (0,0)):=rfl;have hgrow:∀r,r<w.heap.size->(w.alloc (.cells #[.bool false] tb)).heap[r]?=w.heap[r]?:=λr hr=>by rw [hheap];simp [Ra,Nat.ne_of_lt hr]
 have hself:(w.alloc (.cells #[.bool false] tb)).heap[w.heap.size]?=some (.cells #[.bool false] tb (0,0)):=by rw [hheap];simp
 have hsize:(w.alloc (.cells #[.bool false] tb)).heap.size=w.heap.size+1:=by rw [hheap];simp
 have hlt:∀b o,I b=some o->b<w.heap.size:=λb o h=>(GY.1 (hst.imm b o h)).1;have hst1:StRep I μ st0 [] (w.alloc (.cells #[.bool false] tb)):=hst.other (by omega) (λb o h=>hgrow b (hlt b o h)) (λb h=>hgrow b (Em hst h));have hno:¬Bq μ st0 w.heap.size:=λh=>absurd (Em hst h) (Vm _);have hIn:I w.heap.size=none:=by
  cases h:I w.heap.size with
  | none=>rfl
  | some o=>exact absurd (hlt _ o h) (Vm _)
 have hcall:=hE I μ _ (first++cap) hst1 hx;have hrun:=B1 (w:=w.alloc (.cells #[.bool false] tb)) hg hgn hgb (first++cap);rw [hrun] at hcall;have hcall:Calls P g (first++cap) (w.alloc (.cells #[.bool false] tb)) (λe w'=>match e with
  | .returned u=>∃I' μ',RepD I' μ' u d/\StRep I' μ' st1 [] w'/\Pin (D8 st0) μ μ'/\Ext I μ st0 (w.alloc (.cells #[.bool false] tb)) I' μ' st1 w'
  | .panicked _=>False
  | .outgrown=>False):=hcall
 have keep:∀w' I' μ',Ext I μ st0 (w.alloc (.cells #[.bool false] tb)) I' μ' st1 w'->w'.heap[w.heap.size]?=some (.cells #[.bool false] tb (0,0)):=λw' I' μ' he=>(he.block _ (by omega) hno).trans hself;show Calls P f _ w _;refine Calls.mono (hs g first cap w (λw'=>∃I' μ',StRep I' μ' st1 [] w'/\Pin (D8 st0) μ μ'/\Ext I μ st0 (w.alloc (.cells #[.bool false] tb)) I' μ' st1 w') (λ_=>False) hrun (Calls.mono hcall ?_) (λw' ⟨I',μ',_,_,he⟩=>keep w' I' μ' he) (λ_ h=>h.elim)) ?_
 ·intro e w' he;cases e with
  | returned u=>obtain ⟨I',μ',_,h2,h3,h4⟩:=he;exact ⟨I',μ',h2,h3,h4⟩
  | panicked=>exact he.elim
  | outgrown=>exact he.elim
 ·rintro e w2 (⟨rfl,w1,⟨I',μ',h2,h3,h4⟩,rfl⟩ | ⟨_,_,hx,_⟩)
  ·have hc:=keep w1 I' μ' h4;rw [E0 hc];have hI':I' w.heap.size=none:=(h4.old _ (by omega) hno).trans hIn;have hno':¬Bq μ' st1 w.heap.size:=λh=>hno (h4.fresh _ (by omega) h);have hsame:∀b,b≠w.heap.size->(w1.heap.setIfInBounds w.heap.size (.cells #[.bool true] tb (0,0)))[b]?=w1.heap[b]?:=λb hb=>Gj (Ne.symm hb);refine ⟨I',μ',.imm _ _ (.bool true),?_,h3,?_⟩
   ·exact h2.other (by simp) (λb o h=>hsame b λe=>by rw [e,hI'] at h;cases h) (λb h=>hsame b λe=>hno' (e ▸ h))
   ·have hsz:=h4.size
    exact { imm:=h4.imm,os:=h4.os,tape:=h4.tape,output:=h4.output,size:=by simp;omega,
            block:=λb hb ho=>(hsame b (by omega)).trans ((h4.block b (by omega) ho).trans (hgrow b hb)),fresh:=λb hb ho=>h4.fresh b (by omega) ho,old:=λb hb ho=>h4.old b (by omega) ho }
  ·exact hx.elim
theorem Kz (hf : P.funcs[f]? = some fn) (hn : (fn.name == "runtime.NumGoroutine") = false) (hb : fn.body = some cf) (hs : Ls P f t tb)
  (hg : P.funcs[g]? = some fg) (hgn : (fg.name == "runtime.NumGoroutine") = false) (hgb : fg.body = some cg) (hE : Hy P g (df ++ dc) st0 (.pan (.iface t (.agg [])))) : Hy P f [.fn (.func g) df dc] st0 (.ret (.imm (.bool false)) []) := by
 intro I μ w xs hst hxs;obtain ⟨first,cap,rfl,hx⟩:=R4 hxs;rw [B1 hf hn hb];have hheap:(w.alloc (.cells #[.bool false] tb)).heap=w.heap.push (.cells #[.bool false] tb (0,0)):=rfl;have hgrow:∀r,r<w.heap.size->(w.alloc (.cells #[.bool false] tb)).heap[r]?=w.heap[r]?:=λr hr=>by rw [hheap];simp [Ra,Nat.ne_of_lt hr]
 have hself:(w.alloc (.cells #[.bool false] tb)).heap[w.heap.size]?=some (.cells #[.bool false] tb (0,0)):=by rw [hheap];simp
 have hsize:(w.alloc (.cells #[.bool false] tb)).heap.size=w.heap.size+1:=by rw [hheap];simp
 have hlt:∀b o,I b=some o->b<w.heap.size:=λb o h=>(GY.1 (hst.imm b o h)).1;have hst1:StRep I μ st0 [] (w.alloc (.cells #[.bool false] tb)):=hst.other (by omega) (λb o h=>hgrow b (hlt b o h)) (λb h=>hgrow b (Em hst h));have hno:¬Bq μ st0 w.heap.size:=λh=>absurd (Em hst h) (Vm _);have hIn:I w.heap.size=none:=by
  cases h:I w.heap.size with
  | none=>rfl
  | some o=>exact absurd (hlt _ o h) (Vm _)
 have hcall:=hE I μ _ (first++cap) hst1 hx;have hrun:=B1 (w:=w.alloc (.cells #[.bool false] tb)) hg hgn hgb (first++cap);rw [hrun] at hcall;have hcall:Calls P g (first++cap) (w.alloc (.cells #[.bool false] tb)) (λe w'=>match e with
  | .returned _=>False
  | .panicked chain=>Lx (· = .iface t (.agg [])) I μ st0 (w.alloc (.cells #[.bool false] tb)) chain w'
  | .outgrown=>False):=hcall
 have keep:∀w' I',Ext I μ st0 (w.alloc (.cells #[.bool false] tb)) I' μ [] w'->w'.heap[w.heap.size]?=some (.cells #[.bool false] tb (0,0)):=λw' I' he=>(he.block _ (by omega) hno).trans hself;show Calls P f _ w _;refine Calls.mono (hs g first cap w (λ_=>False) (λw'=>∃I',I'.ok w'/\Ext I μ st0 (w.alloc (.cells #[.bool false] tb)) I' μ [] w') hrun (Calls.mono hcall ?_) (λ_ h=>h.elim) (λw' ⟨I',_,he⟩=>keep w' I' he)) ?_
 ·intro e w' he;cases e with
  | returned u=>exact he.elim
  | panicked chain =>
   obtain ⟨v,x,I',h1,h2,h3,h4,h5⟩:=he;subst h2;cases h3 with
   | iface _ v' _ hv =>
    cases hv with
    | agg cs _ hl _ _ =>
     have:cs = #[]:=ZH (by simpa using hl);subst this;exact ⟨h1,I',h4,h5⟩
  | outgrown=>exact he.elim
 ·rintro e w2 (⟨_,_,hx,_⟩ | ⟨rfl,w1,⟨I',h2,h4⟩,rfl⟩)
  ·exact hx.elim
  ·have hc:=keep w1 I' h4;rw [E0 hc];have hI':I' w.heap.size=none:=(h4.old _ (by omega) hno).trans hIn;have hsz:=h4.size;have hsame:∀b,b≠w.heap.size->b<w1.heap.size->(({ w1 with heap:=w1.heap.setIfInBounds w.heap.size (.cells #[.bool false] tb (0,0)) }:World).alloc (.cells #[] t)).heap[b]?=w1.heap[b]?:=λb hb hlt=>by
    show ((w1.heap.setIfInBounds w.heap.size _).push _)[b]?=_;rw [Ra,if_neg (by simp;omega)];exact Gj (Ne.symm hb)
   refine ⟨I',μ,.imm _ _ (.bool false),?_,Pin.refl _ _,?_⟩
   ·exact { imm:=λb o h=>(hsame b (λe=>by rw [e,hI'] at h;cases h) (GY.1 (h2 b o h)).1).trans (h2 b o h),blk:=λid blk hl=>(by cases hl),apart:=λid blk g b hl=>(by cases hl),inj:=λi j bi bj gi gj b hl=>(by cases hl),nodup:=.nil,idsFree:=λid hi=>(by cases hi) }
   ·exact { imm:=h4.imm,os:=h4.os,tape:=h4.tape,output:=h4.output,size:=by show w.heap.size<=((w1.heap.setIfInBounds w.heap.size _).push _).size;simp;omega,
            block:=λb hb ho=>(hsame b (by omega) (by omega)).trans ((h4.block b (by omega) ho).trans (hgrow b hb)),fresh:=λb hb ho=>h4.fresh b (by omega) ho,old:=λb hb ho=>h4.old b (by omega) ho }
end
section
variable {n:Nat} {env:Env} {k:List DI}
theorem IY {all rest:List Oper} {x:Operand} {v:V} (hg:o.guard=none) (ho:o.op = .panic x) (hx:Eg env x=some (.imm (.iface t v))) (hq:Lw Q (.iface t v)):DGo P n F Q (.ops all (o::rest)::k) env st ids:=by
 intro b cs I μ a w items hd hc;obtain ⟨j,is,rfl,hr,hk⟩:=Iw hd;obtain ⟨hj,_⟩:=DW hr;have hlen:(o::rest).length=rest.length+1:=rfl;rw [hlen,OX];refine FN hj (AH hg) (λc hc=>by rw [ho] at hc;cases hc) ?_;have hon:JN (o.looksAt all.toArray) I μ env a:=λt _ d hl=>hc.env t d hl;have hxr:=Bj hon x (by rw [ho];simp [Op.operands]) _ hx;obtain ⟨u,hu,hur⟩:∃u,a.eval x = .iface t u/\RepV I (.iface t u) (.iface t v):=by
  have:=hxr.immInv;generalize a.eval x=y at this;cases this with
  | iface _ u _ h=>exact ⟨u,rfl,.iface t u v h⟩
 have hrun:(execOp a.eval o).run P w = .halt (.panic (.iface t u)) w:=by simp [execOp,ho,hu,Instr.panic,goPanic]
 rw [hrun];have hE':Ext I μ st w I μ [] w:={ imm:=Imm.le_refl I,os:=rfl,tape:=rfl,output:=rfl,size:=BQ _,block:=λ_ _ _=>rfl,fresh:=λb hb ⟨i,bi,g,h1,_⟩=>by simp [A1,lk] at h1,old:=λ_ _ _=>rfl }
 exact ⟨.panic (.iface t v),[],[],[],I,μ,⟨_,rfl,hur⟩,hq,KG hc.imm hc.size (hc.defers.ext hE'),.refl _ _,hE',.refl _ _⟩
end
theorem EX {out:Out} (j:Nat) (hj:ds[j]?=some (.imm x)) (h:F0 x->Hy P f ds st out):Hy P f ds st out:=by
 intro I μ w xs hst hx;have hlt:j<xs.toList.length:=by rw [hx.1];exact (AL.1 hj).1
 exact h (hx.2 j _ (.imm x) (Br hlt) hj).immInv.ok I μ w xs hst hx
structure PRng where
 s:List UInt8
 id':Nat
 ids':List Nat
 dst:Option Nat
 todo:List DI
def zcm (tt:TT) (n:Nat) (env:Env) (ids:List Nat) (todo:List DI):Option PRng :=
 match NU todo,ids with
 | some o,id'::ids'=>match o.guard,o.op with
  | none,.range t x=>match lk tt t,Eg env x,BM n o.dst,Bm todo ([],[id']) with
   | some { sh:=.str,.. },some (.imm (.str s)),true,some (_,_,todo')=>some ⟨s,id',ids',o.dst,todo'⟩
   | _,_,_,_=>none
  | _,_=>none
 | _,_=>none
structure PNxt where
 s:List UInt8
 pos:Nat
 id:Nat
 dst:Option Nat
 todo:List DI
def vV (n:Nat) (env:Env) (st:St) (wr:Bool) (todo:List DI):Option PNxt :=
 match NU todo with
 | some o=>match o.guard,o.op with
  | none,.next x true=>match Eg env x,BM n o.dst with
   | some (.iter id),true=>match lk st id,Bm todo ([id],bif wr then [id] else []) with
    | some (some (.siter s pos)),some (_,_,todo')=>some ⟨s,pos,id,o.dst,todo'⟩
    | _,_=>none
   | _,_=>none
  | _,_=>none
 | none=>none
def EZ (s:List UInt8) (pos:Nat):Nat×Nat:=Utf8.decode ⟨s.toArray⟩ pos
section
variable {n:Nat} {env:Env} {k:List DI}
theorem Ec {s:Sem Value} (h:s.run P w = .ok v w'):(do pure (.value (<- s)):Sem Next).run P w = .ok (.value v) w':=by simp [h]
theorem RepD.iterInv {id:Nat} (h:RepD I μ v (.iter id)):∃b,v = .pointer (some ⟨b,0,none⟩)/\μ id=some v:=by
 cases h with
 | iter _ b h=>exact ⟨b,rfl,h⟩
theorem sO (htt:TTok P tt) {ids0:List Nat} {todo0:List DI} (h:zcm tt n env ids todo=some ⟨s0,i0,ids0,d0,todo0⟩) (hk:G P n F Q todo0 (BK d0 (.iter i0) env) ((i0,some (.siter s0 0))::st) ids0):G P n F Q todo env st ids:=by
 unfold zcm at h
 split at h
 ·rename_i o id' ids' ho
  split at h
  ·rename_i t x hg hop
   split at h
   ·rename_i _ _ _ _ s all o' todo' ht hx hd h1;cases h;have ho':o'=o:=Dk ho h1;subst ho';refine BF (fr:=[i0]) (wr:=[(i0,some (.siter s0 0))]) (rd:=[]) h1 ?_ hd (λc hc=>by rw [hop] at hc;cases hc) hk;intro I μ st1 ids1 a w hag hst hon;refine ⟨λ_=>?_,λhw=>by rw [AH hg] at hw;cases hw⟩;have hops:=Bj hon;rw [hop] at hops;obtain ⟨bs,e1,e2⟩:=(hops x (by simp [Op.operands]) _ hx).immInv.strInv;have hu:P.underlying t=some .string:=htt.sh ht;have hrun:(execOp a.eval o').run P w = .ok (.value (.pointer (some ⟨w.heap.size,0,none⟩))) (w.alloc (.stringIter bs 0)):=by
     simp only [execOp,hop,e1];refine Ec ?_;simp only [Instr.range,Sem.run_bind,run_underlying hu,Result.andThen_ok,Sem.run_pure,run_newObj];rfl
    rw [hrun];obtain ⟨μ',q1,q2,q3,q4⟩:=hst.allocO (.stringIter bs 0) (.pointer (some ⟨w.heap.size,0,none⟩)) (λ_ h=>Eq.symm h) (.siter s0 0) (λμ' _=>⟨w.heap.size,bs,rfl,EC w _,e2⟩);exact ⟨I,μ',q3,.iter _ _ q1,q2,q4⟩
   ·cases h
  ·cases h
 ·cases h
theorem Tp {id pos:Nat} {s:List UInt8} (hst:StRep I μ st ids w) (hl:A1 st id (.siter s pos)) (hv:RepD I μ v (.iter id)) :
  ∃b,v = .pointer (some ⟨b,0,none⟩)/\μ id=some v/\w.heap[b]?=some (.stringIter ⟨s.toArray⟩ pos):=by
 obtain ⟨b,rfl,hm⟩:=hv.iterInv;obtain ⟨g,hg,b',bs,rfl,hheap,hs⟩:=hst.blk id _ hl;rw [hm] at hg;cases hg;refine ⟨b,rfl,hm,?_⟩;rw [hheap,<- hs]
theorem fF {todo0:List DI} (h:vV n env st true todo=some ⟨s0,p0,i0,d0,todo0⟩) (hp:p0<s0.length) {dc:Nat×Nat} (hdc:EZ s0 p0=dc) (hk:G P n F Q todo0 (BK d0 (.imm (.tup [.bool true,.int .i64 p0,.int .i32 dc.1])) env) ((i0,some (.siter s0 (p0+dc.2)))::st) ids):G P n F Q todo env st ids:=by
 subst hdc;unfold vV at h
 split at h
 ·rename_i o ho
  split at h
  ·rename_i x hg hop
   split at h
   ·rename_i id hx hd
    split at h
    ·rename_i s pos all o' todo' hl h1;cases h;have ho':o'=o:=Dk ho h1;subst ho';refine BF (fr:=[]) (wr:=[(i0,some (.siter s0 (p0+(EZ s0 p0).2)))]) (rd:=[i0]) h1 ?_ hd (λc hc=>by rw [hop] at hc;cases hc) hk;intro I μ st1 ids1 a w hag hst hon;refine ⟨λ_=>?_,λhw=>by rw [AH hg] at hw;cases hw⟩;have hops:=Bj hon;rw [hop] at hops;have hl1:A1 st1 i0 (.siter s0 p0):=by unfold A1;rw [hag i0 (by simp)];exact hl
     obtain ⟨b,e1,hm,hheap⟩:=Tp hst hl1 (hops x (by simp [Op.operands]) _ hx);have hget:(getObj b).run P w = .ok (.stringIter ⟨s0.toArray⟩ p0) w:=by simp [getObj,Sem.run,hheap]
     have hset:(setObj b (.stringIter ⟨s0.toArray⟩ (p0+(EZ s0 p0).2))).run P w = .ok () { w with heap:=w.heap.setIfInBounds b (.stringIter ⟨s0.toArray⟩ (p0+(EZ s0 p0).2)) }:=by simp [setObj,Sem.run,hheap]
     have hlt:p0<(ByteArray.mk s0.toArray).size:=by simpa [ByteArray.size] using hp
     have hrun:(execOp a.eval o').run P w = .ok (.value (.tuple #[.bool true,.int .i64 p0,.int .i32 (EZ s0 p0).1])) { w with heap:=w.heap.setIfInBounds b (.stringIter ⟨s0.toArray⟩ (p0+(EZ s0 p0).2)) }:=by
      simp only [execOp,hop,e1];refine Ec ?_;simp only [Instr.next,Sem.run_bind,hget,Result.andThen_ok,if_pos hlt];have:(setObj b (.stringIter ⟨s0.toArray⟩ (p0+(Utf8.decode ⟨s0.toArray⟩ p0).2))).run P w=_:=hset;simp only [Sem.run_bind,this,Result.andThen_ok,Sem.run_pure];rfl
     rw [hrun];have hbl:=Cc hheap;obtain ⟨q1,q2⟩:=hst.update (blk':=.siter s0 (p0+(EZ s0 p0).2)) (w':={ w with heap:=w.heap.setIfInBounds b (.stringIter ⟨s0.toArray⟩ (p0+(EZ s0 p0).2)) }) hl1 hm (by rw [e1];rfl) (by simp) rfl rfl rfl
      (λk hk=>Gj (Ne.symm hk)) ⟨b,⟨s0.toArray⟩,e1,by simp [hbl],rfl⟩
     refine ⟨I,μ,q1,.imm _ _ (.tup _ _ rfl λi c x hc hx=>?_),Mu.le_refl μ,q2⟩
     match i,hc,hx with
     | 0,hc,hx=>cases hc;cases hx;exact .bool _
     | 1,hc,hx=>cases hc;cases hx;exact .int _ _
     | 2,hc,hx=>cases hc;cases hx;exact .int _ _
     | i+3,hc,hx=>simp at hx
    ·cases h
   ·cases h
  ·cases h
 ·cases h
theorem xF {todo0:List DI} (h:vV n env st false todo=some ⟨s0,p0,i0,d0,todo0⟩) (hp:s0.length<=p0) (hk:G P n F Q todo0 (BK d0 (.imm (.tup [.bool false])) env) st ids):G P n F Q todo env st ids:=by
 unfold vV at h
 split at h
 ·rename_i o ho
  split at h
  ·rename_i x hg hop
   split at h
   ·rename_i id hx hd
    split at h
    ·rename_i s pos all o' todo' hl h1;cases h;have ho':o'=o:=Dk ho h1;subst ho';refine BF (fr:=[]) (wr:=[]) (rd:=[i0]) h1 ?_ hd (λc hc=>by rw [hop] at hc;cases hc) hk;intro I μ st1 ids1 a w hag hst hon;refine ⟨λ_=>?_,λhw=>by rw [AH hg] at hw;cases hw⟩;have hops:=Bj hon;rw [hop] at hops;have hl1:A1 st1 i0 (.siter s0 p0):=by unfold A1;rw [hag i0 (by simp)];exact hl
     obtain ⟨b,e1,hm,hheap⟩:=Tp hst hl1 (hops x (by simp [Op.operands]) _ hx);have hget:(getObj b).run P w = .ok (.stringIter ⟨s0.toArray⟩ p0) w:=by simp [getObj,Sem.run,hheap]
     have hlt:¬p0<(ByteArray.mk s0.toArray).size:=by simpa [ByteArray.size] using hp
     have hrun:(execOp a.eval o').run P w = .ok (.value (.tuple #[.bool false])) w:=by
      simp only [execOp,hop,e1];refine Ec ?_;simp only [Instr.next,Sem.run_bind,hget,Result.andThen_ok,if_neg hlt,Sem.run_pure]
     rw [hrun];refine ⟨I,μ,hst,.imm _ _ (.tup _ _ rfl λi c x hc hx=>?_),Mu.le_refl μ,Ext.refl _ _ _ _⟩
     match i,hc,hx with
     | 0,hc,hx=>cases hc;cases hx;exact .bool _
     | i+1,hc,hx=>simp at hx
    ·cases h
   ·cases h
  ·cases h
 ·cases h
end
end Go.Hk
