/- Strings that are gone through, rune by rune; maps that are owned. (And what it stands on.) -/
import Derived.Test.YtcdpbkolkeeopaaGreatSa
import Derived.Test.YtcdpbkolkeeopaaGreatProg
import Derived.KernelRfl
import Derived.RowKit3
import Derived.MapKept
set_option linter.all false
set_option maxRecDepth 100000
set_option maxHeartbeats 4000000
namespace Go.Hk
open Go.Proofs.Tryz
open Go.Proofs
variable {k n k1 m k2 k' H k0 s:Int} {st st' st0 st1:St} {P:Program} {ids F ids' fr l:List Nat} {I J:Imm} {μ ν:Mu} {Q:DQ} {d d':D} {w w':World} {tt:TT} {todo todo':List DI} {v:Value} {ob ob':List Prop} {o:Oper} {i sz off j i0 p0:Nat} {env':Env} {Pn:V->Prop} {f:FuncId} {t e:TypeId} {cx:Prop} {ds das:List D} {g:Option (Bool×Bool)} {x:V} {a:Act} {es:List (List V)} {σ τ1 τ:List (Nat×Nat)} {α β β1 β2:Type} {b:Blk} {vs c cs:List V} {dst d0:Option Nat} {ρ:Nat->Nat} {xs:List Value} {ts:Array TypeId} {s0:List UInt8}
inductive Res where
 | at (todo:List DI) (env:Env) (st:St) (ids:List Nat) (ob:List Prop)
 | bad
inductive Pt where
 | t
 | f
 | a
 | s
def Qy:Nat->List Pt->List Pt
 | 0,l=>l
 | n+1,l=>.a::Qy n l
def run (tt:TT) (n:Nat):Nat->List Pt->List DI->Env->St->List Nat->List Prop->Res
 | 0,_,k,env,st,ids,ob=>.at k env st ids ob
 | f+1,path,todo,env,st,ids,ob=>match todo with
  | .code (.seq a b)::k=>run tt n f path (.code a :: .code b::k) env st ids ob
  | .code .skip::k=>run tt n f path k env st ids ob
  | .code (.label _)::k=>run tt n f path k env st ids ob
  | .inBlock _::k=>match path with
   | .s::_=>.at k env st ids ob
   | _=>run tt n f path k env st ids ob
  | .inScope _::k=>run tt n f path k env st ids ob
  | .code (.block id c)::k=>run tt n f path (.code c :: .inBlock id::k) env st ids ob
  | .code (.scope c)::k=>run tt n f path (.code c :: .inScope c::k) env st ids ob
  | .code (.exit id)::k=>match Kn id k with
   | some k'=>run tt n f path k' env st ids ob
   | none=>.at (.code (.exit id)::k) env st ids ob
  | .code (.region _ ⟨ops⟩ false)::k=>run tt n f path (.ops ops ops::k) env st ids ob
  | .code (.region _ ⟨ops⟩ true)::k=>run tt n f path (.dops ops ops []::k) env st ids ob
  | .ops _ []::k=>run tt n f path k env st ids ob
  | .ops all (o::r)::k=>match F5 tt n all o env st ids with
   | .y _ env' []=>run tt n f path (.ops all r::k) env' st ids ob
   | .y _ env' [p]=>run tt n f path (.ops all r::k) env' st ids (p::ob)
   | .y _ env' [p,q]=>run tt n f path (.ops all r::k) env' st ids (p::q::ob)
   | .y _ env' (p::q::l)=>run tt n f path (.ops all r::k) env' st ids (p::q::IS l ob)
   | .e env' st' ids' []=>run tt n f path (.ops all r::k) env' st' ids' ob
   | .e env' st' ids' [p]=>run tt n f path (.ops all r::k) env' st' ids' (p::ob)
   | .e env' st' ids' (p::l)=>run tt n f path (.ops all r::k) env' st' ids' (p::IS l ob)
   | .no=>.at (.ops all (o::r)::k) env st ids ob
  | .dops all [] fs::k=>run tt n f path k env st ids ((Nm all fs.reverse=true)::ob)
  | .dops all (o::r) fs::k=>match F5 tt n all o env st ids,Qx env o.op with
   | .y _ env' [],[]=>run tt n f path (.dops all r (([],[])::fs)::k) env' st ids ob
   | .y _ env' [],[i]=>run tt n f path (.dops all r (([i],[])::fs)::k) env' st ids ob
   | .y _ env' [p],[]=>run tt n f path (.dops all r (([],[])::fs)::k) env' st ids (p::ob)
   | .y _ env' [p],[i]=>run tt n f path (.dops all r (([i],[])::fs)::k) env' st ids (p::ob)
   | .y _ env' (p::l),rd=>run tt n f path (.dops all r ((rd,[])::fs)::k) env' st ids (p::IS l ob)
   | .e env' ((i,x)::st') ids' ob',[]=>run tt n f path (.dops all r (([],[i])::fs)::k) env' ((i,x)::st') ids' (IS ob' ob)
   | .e env' ((i,x)::st') ids' ob',[j]=>run tt n f path (.dops all r (([j],[i])::fs)::k) env' ((i,x)::st') ids' (IS ob' ob)
   | _,_=>.at (.dops all (o::r) fs::k) env st ids ob
  | .code (.cond c x y)::k=>match path,DN env c with
   | .t::path',some (.imm (.bool t))=>run tt n f path' (.code x::k) env st ids ((t=true)::ob)
   | .f::path',some (.imm (.bool t))=>run tt n f path' (.code y::k) env st ids ((t=false)::ob)
   | .a::path',some (.imm (.bool t))=>run tt n f path' (.code (bif t then x else y)::k) env st ids ob
   | _,_=>.at (.code (.cond c x y)::k) env st ids ob
  | k=>.at k env st ids ob
def G (P:Program) (n:Nat) (F:List Nat) (Q:DQ) (todo:List DI) (env:Env) (st:St) (ids:List Nat):Prop :=
 match todo with
 | .dops all rest fs::k=>DD P n F Q all rest fs.reverse k env st ids
 | todo=>DGo P n F Q todo env st ids
section
variable {n:Nat} {env:Env} {k:List DI}
theorem G.go (h:G P n F Q todo env st ids):DGo P n F Q todo env st ids:=by
 unfold G at h
 split at h
 ·intro b cs I μ a w items hd hc;obtain ⟨i,is,rfl,h1,_⟩:=H0 hd;cases i <;> exact h1.elim
 ·exact h
theorem LD.ld_y {all:List Oper} {rd:List Nat} (h:∀st',Agree rd st st'->YD P all o env st' d):LD P Pn all o env st rd [] [] d:=by
 intro I μ st1 ids1 a w hag hst hon;obtain ⟨h1,h2⟩:=h st1 hag I μ _ a w hst hon;exact ⟨λhw=>((h1 hw).mono λv w' ⟨I',q1,q2,q3⟩=>⟨I',μ,q1,q2,Mu.le_refl μ,q3⟩).x,λhw=>⟨rfl,rfl,h2 hw⟩⟩
theorem O8 {all:List Oper} {rd:Bool} (h:F5 tt n all o env st ids = .y rd env' ob) (hag:Agree (Qx env o.op) st st'):F5 tt n all o env st' ids = .y rd env' ob:=by
 unfold F5 at h ⊢
 split at h
 ·rename_i hg;simp only [TP hag]
  split at h
  ·exact h
  ·exact h
  ·split at h
   ·exact absurd h Wo
   ·cases h
 ·rename_i j w0 hg;simp only [TP hag];exact h
theorem lH (h:BN dst d env=BN dst d' env):dst=none\/d=d':=by
 cases dst with
 | none=>exact .inl rfl
 | some t=>simp only [BN,E2,Bc,true_and,and_true] at h;exact .inr h
theorem fW (htt:TTok P tt) {all:List Oper} {rd:Bool} (h:F5 tt n all o env st ids = .y rd env' ob) (hob:AG ob) :
  ∃d,env'=BN o.dst d env/\(∀t,o.dst=some t->t<n)/\(∀c,o.op ≠ .defer c)/\YD P all o env st d/\LD P Pn all o env st (Qx env o.op) [] [] d:=by
 obtain ⟨d,e1,e2,e3,e4,_⟩:=PG htt h hob;cases hdst:o.dst with
 | some t =>
  refine ⟨d,by rw [e1,hdst],λt' ht=>e2 t' (by rw [hdst];exact ht),e3,e4,LD.ld_y λst' hag=>?_⟩;obtain ⟨d',e1',_,_,e4',_⟩:=PG htt (O8 h hag) hob;rw [e1] at e1';rcases lH e1' with h | h
  ·rw [hdst] at h;cases h
  ·rw [h];exact e4'
 | none =>
  refine ⟨.undef,(by rw [e1,hdst];rfl),(λt' ht=>by cases ht),e3,?_,LD.ld_y λst' hag=>?_⟩
  ·intro I μ ids a w hst hon;obtain ⟨h1,_⟩:=e4 I μ ids a w hst hon;exact ⟨λhw=>(h1 hw).mono λv w' ⟨I',q1,_,q3⟩=>⟨I',q1,.undef _,q3⟩,λ_=>.undef _⟩
  ·obtain ⟨d',_,_,_,e4',_⟩:=PG htt (O8 h hag) hob;intro I μ ids a w hst hon;obtain ⟨h1,_⟩:=e4' I μ ids a w hst hon;exact ⟨λhw=>(h1 hw).mono λv w' ⟨I',q1,_,q3⟩=>⟨I',q1,.undef _,q3⟩,λ_=>.undef _⟩
theorem Tw (htt:TTok P tt) {all:List Oper} {x:Option Blk} (h:F5 tt n all o env st ids = .e env' ((i,x)::st') ids' ob) (hob:AG ob) :
  ∃d fr,st'=st/\ids=fr++ids'/\env'=BN o.dst d env/\(∀t,o.dst=some t->t<n)/\(∀c,o.op ≠ .defer c)/\ED P all o env st ids d ((i,x)::st') ids'/\LD P Pn all o env st (Qx env o.op) fr [(i,x)] d:=by
 have h0:=h;unfold F5 at h
 split at h
 ·rename_i hg
  split at h
  ·exact absurd h HJ
  ·exact absurd h HJ
  ·split at h
   ·rename_i d s i2 ob2 he;obtain ⟨rfl,rfl,rfl,e1,e2⟩:=lI h;obtain ⟨fr,wr,q1,q2,_,q4⟩:=TQ he;have hwr:wr=[(i,x)]/\st'=st:=by
     have hcons:∀(op:Op) (env:Env) {d:D} {s:St} {i:List Nat} {ob:List Prop},aH tt env st ids op = .e d s i ob->∃p,s=p::st:=by
      intro op env d s i ob h;obtain ⟨fr,wr,a1,a2,a3,a4⟩:=TQ h;cases op <;> simp only [aH,O3,reduceCtorEq] at h
      all_goals (repeat' split at h) <;> first | (cases h;done) | (cases h;exact ⟨_,rfl⟩)
     obtain ⟨p,hp⟩:=hcons _ _ he;cases hp;have:wr.length=1:=by have:=congrArg List.length q2;simp at this;omega
     match wr,this with
     | [y],_=>simp at q2;exact ⟨by rw [q2],rfl⟩
    obtain ⟨rfl,rfl⟩:=hwr;have hnd:∀c,o.op ≠ .defer c:=λc hc=>by rw [hc,TR] at he;cases he
    refine ⟨d,fr,rfl,q1,e1,e2,hnd,λI μ a w hst hon=>⟨AL hg,aG htt hst (Bm hon) he hob⟩,λI μ st1 ids1 a w hag hst hon=>⟨λ_=>?_,λhw=>?_⟩⟩
    ·exact (aG htt hst (Bm hon) (q4 st1 ids1 hag) hob).x
    ·rw [AL hg] at hw;cases hw
   ·cases h
 ·split at h
  ·split at h
   ·split at h
    ·exact absurd h HJ
    ·exact absurd h HJ
    ·cases h
   ·cases h
  ·cases h
theorem DA (htt:TTok P tt) (hm:P.follows .mixedOrders=true):∀(f:Nat) (path:List Pt) (todo:List DI) (env:Env) (st:St) (ids:List Nat) (ob0:List Prop) {todo':List DI} {env':Env} {st':St} {ids':List Nat} {ob:List Prop},
  run tt n f path todo env st ids ob0 = .at todo' env' st' ids' ob->AG ob->AG ob0/\(G P n F Q todo' env' st' ids'->G P n F Q todo env st ids)
 | 0,path,todo,env,st,ids,ob0,todo',env',st',ids',ob,h,hob=>by
  simp only [run,Res.at.injEq] at h;obtain ⟨rfl,rfl,rfl,rfl,rfl⟩:=h;exact ⟨hob,id⟩
 | f+1,path,todo,env,st,ids,ob0,todo',env',st',ids',ob,h,hob=>by
  simp only [run] at h;have stop:∀{t:List DI},Res.at t env st ids ob0 = .at todo' env' st' ids' ob->AG ob0/\(G P n F Q todo' env' st' ids'->G P n F Q t env st ids):=by
   intro t h;simp only [Res.at.injEq] at h;obtain ⟨rfl,rfl,rfl,rfl,rfl⟩:=h;exact ⟨hob,id⟩
  split at h
  ·obtain ⟨h1,h2⟩:=DA htt hm f _ _ _ _ _ _ h hob;exact ⟨h1,λhd=>uF (h2 hd)⟩
  ·obtain ⟨h1,h2⟩:=DA htt hm f _ _ _ _ _ _ h hob;exact ⟨h1,λhd=>Nh (h2 hd).go⟩
  ·obtain ⟨h1,h2⟩:=DA htt hm f _ _ _ _ _ _ h hob;exact ⟨h1,λhd=>iP (h2 hd).go⟩
  ·split at h
   ·simp only [Res.at.injEq] at h;obtain ⟨rfl,rfl,rfl,rfl,rfl⟩:=h;exact ⟨hob,λhd=>Pb hd.go⟩
   ·obtain ⟨h1,h2⟩:=DA htt hm f _ _ _ _ _ _ h hob;exact ⟨h1,λhd=>Pb (h2 hd).go⟩
  ·obtain ⟨h1,h2⟩:=DA htt hm f _ _ _ _ _ _ h hob;exact ⟨h1,λhd=>XE (h2 hd).go⟩
  ·obtain ⟨h1,h2⟩:=DA htt hm f _ _ _ _ _ _ h hob;exact ⟨h1,λhd=>iQ (h2 hd)⟩
  ·obtain ⟨h1,h2⟩:=DA htt hm f _ _ _ _ _ _ h hob;exact ⟨h1,λhd=>iO (h2 hd)⟩
  ·split at h
   ·rename_i he;obtain ⟨h1,h2⟩:=DA htt hm f _ _ _ _ _ _ h hob;exact ⟨h1,λhd=>At he (h2 hd).go⟩
   ·exact stop h
  ·obtain ⟨h1,h2⟩:=DA htt hm f _ _ _ _ _ _ h hob;exact ⟨h1,λhd=>aL (h2 hd)⟩
  ·obtain ⟨h1,h2⟩:=DA htt hm f _ _ _ _ _ _ h hob;exact ⟨h1,λhd=>pM hm (h2 hd)⟩
  ·obtain ⟨h1,h2⟩:=DA htt hm f _ _ _ _ _ _ h hob;exact ⟨h1,λhd=>R3 (h2 hd).go⟩
  ·rename_i all o r k;have hY:∀{rd:Bool} {env1:Env} {ob1 ob2:List Prop},F5 tt n all o env st ids = .y rd env1 ob1->(AG ob2->AG ob1/\AG ob0) ->
     (run tt n f path (.ops all r::k) env1 st ids ob2 = .at todo' env' st' ids' ob)->AG ob0/\(G P n F Q todo' env' st' ids'->G P n F Q (.ops all (o::r)::k) env st ids):=by
    intro rd env1 ob1 ob2 hs hobs hrun;obtain ⟨h1,h2⟩:=DA htt hm f _ _ _ _ _ _ hrun hob;obtain ⟨h3,h4⟩:=hobs h1;obtain ⟨d,e1,e2,e3,e4,_⟩:=PG htt hs h3;subst e1;exact ⟨h4,λhd=>zY e3 e4 e2 (h2 hd)⟩
   have hE:∀{env1:Env} {st1:St} {ids1:List Nat} {ob1 ob2:List Prop},F5 tt n all o env st ids = .e env1 st1 ids1 ob1->(AG ob2->AG ob1/\AG ob0) ->
     (run tt n f path (.ops all r::k) env1 st1 ids1 ob2 = .at todo' env' st' ids' ob)->AG ob0/\(G P n F Q todo' env' st' ids'->G P n F Q (.ops all (o::r)::k) env st ids):=by
    intro env1 st1 ids1 ob1 ob2 hs hobs hrun;obtain ⟨h1,h2⟩:=DA htt hm f _ _ _ _ _ _ hrun hob;obtain ⟨h3,h4⟩:=hobs h1;obtain ⟨d,e1,e2,e3,e4⟩:=rI htt hs h3;subst e1;exact ⟨h4,λhd=>zaa e3 e4 e2 (h2 hd)⟩
   split at h
   ·rename_i hs;refine hY hs ?_ h;intro q;exact ⟨trivial,q⟩
   ·rename_i hs;refine hY hs ?_ h;intro q;exact ⟨⟨q.1,trivial⟩,q.2⟩
   ·rename_i hs;refine hY hs ?_ h;intro q;exact ⟨⟨q.1,q.2.1,trivial⟩,q.2.2⟩
   ·rename_i hs;refine hY hs ?_ h;intro q;exact ⟨⟨q.1,q.2.1,(B8 q.2.2).1⟩,(B8 q.2.2).2⟩
   ·rename_i hs;refine hE hs ?_ h;intro q;exact ⟨trivial,q⟩
   ·rename_i hs;refine hE hs ?_ h;intro q;exact ⟨⟨q.1,trivial⟩,q.2⟩
   ·rename_i hs;refine hE hs ?_ h;intro q;exact ⟨⟨q.1,(B8 q.2).1⟩,(B8 q.2).2⟩
   ·exact stop h
  ·obtain ⟨h1,h2⟩:=DA htt hm f _ _ _ _ _ _ h hob;exact ⟨h1.2,λhd=>yI h1.1 (h2 hd).go⟩
  ·rename_i all o r fs k;have hY:∀{rd:Bool} {env1:Env} {ob1 ob2:List Prop} {rds:List Nat},F5 tt n all o env st ids = .y rd env1 ob1->Qx env o.op=rds->(AG ob2->AG ob1/\AG ob0) ->
     (run tt n f path (.dops all r ((rds,[])::fs)::k) env1 st ids ob2 = .at todo' env' st' ids' ob)->AG ob0/\(G P n F Q todo' env' st' ids'->G P n F Q (.dops all (o::r) fs::k) env st ids):=by
    intro rd env1 ob1 ob2 rds hs hrd hobs hrun;obtain ⟨h1,h2⟩:=DA htt hm f _ _ _ _ _ _ hrun hob;obtain ⟨h3,h4⟩:=hobs h1;obtain ⟨d,e1,e2,e3,_,e5⟩:=fW htt hs h3;subst e1;rw [hrd] at e5;refine ⟨h4,λhd=>?_⟩;have:=h2 hd;simp only [G,Zx] at this ⊢;exact Vu (ids':=ids) e5 e2 e3 this
   have hE:∀{env1:Env} {st1:St} {ids1:List Nat} {ob1:List Prop} {rds:List Nat} {i:Nat} {x:Option Blk},F5 tt n all o env st ids = .e env1 ((i,x)::st1) ids1 ob1->Qx env o.op=rds ->
     (run tt n f path (.dops all r ((rds,[i])::fs)::k) env1 ((i,x)::st1) ids1 (IS ob1 ob0) = .at todo' env' st' ids' ob)->AG ob0/\(G P n F Q todo' env' st' ids'->G P n F Q (.dops all (o::r) fs::k) env st ids):=by
    intro env1 st1 ids1 ob1 rds i x hs hrd hrun;obtain ⟨h1,h2⟩:=DA htt hm f _ _ _ _ _ _ hrun hob;obtain ⟨h3,h4⟩:=(RO _ _).1 h1;obtain ⟨d,fr,rfl,rfl,e1,e2,e3,_,e5⟩:=Tw htt hs h3;subst e1;rw [hrd] at e5;refine ⟨h4,λhd=>?_⟩;have:=h2 hd;simp only [G,Zx] at this ⊢;exact Vu e5 e2 e3 this
   split at h
   ·rename_i hs hr;refine hY hs hr ?_ h;intro q;exact ⟨trivial,q⟩
   ·rename_i hs hr;refine hY hs hr ?_ h;intro q;exact ⟨trivial,q⟩
   ·rename_i hs hr;refine hY hs hr ?_ h;intro q;exact ⟨⟨q.1,trivial⟩,q.2⟩
   ·rename_i hs hr;refine hY hs hr ?_ h;intro q;exact ⟨⟨q.1,trivial⟩,q.2⟩
   ·rename_i hs _ _;refine hY hs rfl ?_ h;intro q;exact ⟨⟨q.1,(B8 q.2).1⟩,(B8 q.2).2⟩
   ·rename_i hs hr;exact hE hs hr h
   ·rename_i hs hr;exact hE hs hr h
   ·exact stop h
  ·split at h
   ·rename_i t hc;obtain ⟨h1,h2⟩:=DA htt hm f _ _ _ _ _ _ h hob;exact ⟨h1.2,λhd=>Aa hc (λ_=>(h2 hd).go) (λhf=>by rw [h1.1] at hf;cases hf)⟩
   ·rename_i t hc;obtain ⟨h1,h2⟩:=DA htt hm f _ _ _ _ _ _ h hob;exact ⟨h1.2,λhd=>Aa hc (λht=>by rw [h1.1] at ht;cases ht) (λ_=>(h2 hd).go)⟩
   ·rename_i t hc;obtain ⟨h1,h2⟩:=DA htt hm f _ _ _ _ _ _ h hob;refine ⟨h1,λhd=>Aa hc (λht=>?_) (λht=>?_)⟩
    ·subst ht;exact (h2 hd).go
    ·subst ht;exact (h2 hd).go
   ·exact stop h
  ·exact stop h
theorem J4 (htt:TTok P tt) (hm:P.follows .mixedOrders=true) (f:Nat) (path:List Pt) (h:run tt n f path todo env st ids [] = .at k env' st' ids' ob) (hob:AG ob) (hd:G P n F Q k env' st' ids'):G P n F Q todo env st ids :=
 (DA htt hm f path todo env st ids [] h hob).2 hd
end
mutual
def J9:D->List Nat
 | .ref id _=>[id]
 | .own id _=>[id]
 | .elp id _ _ _=>[id]
 | .hv id _=>[id]
 | .mapr id=>[id]
 | .iter id=>[id]
 | .slc id _ _ _=>[id]
 | .yld id=>[id]
 | .agg cs=>I0 cs
 | .tup cs=>I0 cs
 | .fn _ a b=>I0 a++I0 b
 | .iface _ d=>J9 d
 | .guard _ _ d=>J9 d
 | _=>[]
def I0:List D->List Nat
 | []=>[]
 | d::r=>J9 d++I0 r
end
mutual
def JL (ρ:Nat->Nat):D->D
 | .ref id off=>.ref (ρ id) off
 | .own id n=>.own (ρ id) n
 | .elp id k sz f=>.elp (ρ id) k sz f
 | .mapr id=>.mapr (ρ id)
 | .iter id=>.iter (ρ id)
 | .agg cs=>.agg (F7 ρ cs)
 | .tup cs=>.tup (F7 ρ cs)
 | .fn f a b=>.fn f (F7 ρ a) (F7 ρ b)
 | .iface t d=>.iface t (JL ρ d)
 | .guard c w d=>.guard c w (JL ρ d)
 | .undef=>.undef
 | .imm x=>.imm x
 | .nils=>.nils
 | .ip t cs off=>.ip t cs off
 | .clip es=>.clip es
 | .slc id off n c=>.slc (ρ id) off n c
 | .yld id=>.yld (ρ id)
 | .raw v=>.raw v
 | .hv id i=>.hv (ρ id) i
def F7 (ρ:Nat->Nat):List D->List D
 | []=>[]
 | d::r=>JL ρ d::F7 ρ r
end
def W1:Env->List Nat
 | []=>[]
 | (_,d)::r=>J9 d++W1 r
def fC (ρ:Nat->Nat):Env->Env
 | []=>[]
 | (t,d)::r=>(t,JL ρ d)::fC ρ r
theorem bV {ρ:Nat->Nat}:∀{env:Env} {t:Nat} {d:D},lk (fC ρ env) t=some d->∃d0,lk env t=some d0/\d=JL ρ d0
 | [],t,d,h=>by simp [fC,lk] at h
 | (s,x)::r,t,d,h=>by
  simp only [fC] at h;by_cases hs:s=t
  ·subst hs;rw [Ay] at h ⊢;cases h;exact ⟨x,rfl,rfl⟩
  ·rw [A6 _ _ hs] at h ⊢;exact bV h
theorem YT:∀{env:Env} {t:Nat} {d:D},lk env t=some d->∀i∈J9 d,i∈W1 env
 | [],t,d,h,_,_=>by simp [lk] at h
 | (s,x)::r,t,d,h,i,hi=>by
  simp only [W1,BU];by_cases hs:s=t
  ·subst hs;rw [Ay] at h;cases h;exact .inl hi
  ·rw [A6 _ _ hs] at h;exact .inr (YT h i hi)
theorem Gs (ρ:Nat->Nat):∀l:List D,F7 ρ l=l.map (JL ρ)
 | []=>rfl
 | d::r=>by simp [F7,Gs ρ r]
theorem Jb {d:D} {i:Nat}:∀{l:List D},d∈l->i∈J9 d->i∈I0 l
 | [],h,_=>by simp at h
 | x::r,h,hi=>by
  simp only [I0,BU];rcases CA.1 h with rfl | h
  ·exact .inl hi
  ·exact .inr (Jb h hi)
theorem RepD.ren (h:RepD I μ v d):(∀i∈J9 d,∀g,μ i=some g->ν (ρ i)=some g)->RepD I ν v (JL ρ d):=by
 have at_:∀{l:List D} {i:Nat} {x:D},(F7 ρ l)[i]?=some x->∃y,l[i]?=some y/\x=JL ρ y:=by
  intro l i x hx;rw [Gs,Et] at hx;cases hl:l[i]? with
  | none=>rw [hl] at hx;cases hx
  | some y=>rw [hl] at hx;cases hx;exact ⟨y,rfl,rfl⟩
 induction h with
 | undef v=>intro _;exact .undef v
 | imm v x hx=>intro _;exact .imm v x hx
 | nils=>intro _;exact .nils
 | ref b id off hm=>intro hn;exact .ref b _ off (hn id (by simp [J9]) _ hm)
 | ip b o t cs off vs hcell hrep=>intro _;exact .ip b o t cs off vs hcell hrep
 | agg cs ds hl h1 _ ih =>
  intro hn;refine .agg cs _ (by rw [Gs,Dh,hl]) h1 λi c x hc hx=>?_;obtain ⟨y,hy,rfl⟩:=at_ hx;exact ih i c y hc hy λj hj=>hn j (by simp only [J9];exact Jb (AK hy) hj)
 | tup cs ds hl _ ih =>
  intro hn;refine .tup cs _ (by rw [Gs,Dh,hl]) λi c x hc hx=>?_;obtain ⟨y,hy,rfl⟩:=at_ hx;exact ih i c y hc hy λj hj=>hn j (by simp only [J9];exact Jb (AK hy) hj)
 | own id len a cap hm=>intro hn;exact .own _ len a cap (hn id (by simp [J9]) _ hm)
 | elp b id len cap k sz f hm=>intro hn;exact .elp b _ len cap k sz f (hn id (by simp [J9]) _ hm)
 | mapr id b hm=>intro hn;exact .mapr _ b (hn id (by simp [J9]) _ hm)
 | iter id b hm=>intro hn;exact .iter _ b (hn id (by simp [J9]) _ hm)
 | fn f first cap df dc hf hc _ _ ih1 ih2 =>
  intro hn;refine .fn f first cap _ _ (by rw [Gs,Dh,hf]) (by rw [Gs,Dh,hc]) (λi c x h1 h2=>?_) (λi c x h1 h2=>?_)
  ·obtain ⟨y,hy,rfl⟩:=at_ h2;exact ih1 i c y h1 hy λj hj=>hn j (by simp only [J9];exact LN _ (Jb (AK hy) hj))
  ·obtain ⟨y,hy,rfl⟩:=at_ h2;exact ih2 i c y h1 hy λj hj=>hn j (by simp only [J9];exact Zw _ (Jb (AK hy) hj))
 | iface t v d _ ih=>intro hn;exact .iface t v _ (ih hn)
 | guard c want v d _ hu ih=>intro hn;exact .guard c want v _ (λhc=>ih hc hn) hu
 | clip a len es hr=>intro _;exact .clip a len es hr
 | slc b id off len cap hm hl hx=>intro hn;exact .slc b _ off len cap (hn id (by simp [J9]) _ hm) hl hx
 | yld b id hm=>intro hn;exact .yld b _ (hn id (by simp [J9]) _ hm)
 | raw v h=>intro _;exact .raw v h
 | hv v id i vs bs hm hi h1=>intro hn;exact .hv v _ i vs bs (hn id (by simp [J9]) _ hm) hi h1
theorem RepL.ren {vs:List Value} (h:RepL I μ vs ds) (hn:∀i∈I0 ds,∀g,μ i=some g->ν (ρ i)=some g):RepL I ν vs (F7 ρ ds):=by
 refine ⟨by rw [Gs,Dh,h.1],λi v x hv hx=>?_⟩;rw [Gs,Et] at hx;cases hl:ds[i]? with
 | none=>rw [hl] at hx;cases hx
 | some y =>
  rw [hl] at hx;cases hx;exact (h.2 i v y hv hl).ren λj hj=>hn j (Jb (AK hl) hj)
def UI:Blk->List Nat
 | .cells _ _ cs=>I0 cs
 | .bun id _=>[id]
 | .adr id _=>[id]
 | _=>[]
def U8 (ρ:Nat->Nat):Blk->Blk
 | .cells t sz cs=>.cells t sz (F7 ρ cs)
 | .map kv=>.map kv
 | .immb t sz xs=>.immb t sz xs
 | .row t sz es=>.row t sz es
 | .siter s pos=>.siter s pos
 | .pin=>.pin
 | .bun id S=>.bun (ρ id) S
 | .hp A=>.hp A
 | .adr id b=>.adr (ρ id) b
 | .mapx kv b es c=>.mapx kv b es c
 | .miter b s z c=>.miter b s z c
theorem BlkRep.ren {g:Value} {blk:Blk} (h:BlkRep I μ w g blk) (hn:∀i∈UI blk,∀g,μ i=some g->ν (ρ i)=some g):BlkRep I ν w g (U8 ρ blk):=by
 cases blk with
 | immb t sz xs=>exact h
 | cells t sz cs =>
  obtain ⟨hs,b,vs,h1,h2,h3,h4⟩:=h;exact ⟨by rw [Gs,Dh,hs],b,vs,h1,h2,h3.ren hn,h4⟩
 | row t sz es=>exact h
 | map kv=>exact h
 | siter s pos=>exact h
 | pin=>exact h
 | bun id S =>
  obtain ⟨b,bs,h1,h2,h3⟩:=h;exact ⟨b,bs,hn id (by simp [UI]) _ h1,h2,h3⟩
 | hp A=>exact h
 | adr id b=>exact ⟨h.1,hn id (by simp [UI]) _ h.2⟩
 | mapx kv b es c=>exact h
 | miter b s z c=>exact h
theorem RepD.sub (h:RepD I μ v d) (hn:∀i∈J9 d,∀g,μ i=some g->ν i=some g):RepD I ν v d:=by
 have:=h.ren (ν:=ν) (ρ:=λi=>i) hn;have hid:∀d,JL (λi=>i) d=d:=by
  intro d;refine D.rec (motive_1:=λd=>JL (λi=>i) d=d) (motive_2:=λl=>F7 (λi=>i) l=l) ?_ ?_ ?_ ?_ ?_ ?_ ?_ ?_ ?_ ?_ ?_ ?_ ?_ ?_ ?_ ?_ ?_ ?_ ?_ ?_ ?_ d <;> intros <;> simp_all [JL,F7]
 rwa [hid] at this
inductive Out where
 | ret (d:D) (st:St)
 | pan (x:V)
def DY (st:St):List Nat:=st.map (·.1)
def IR (P:Program) (f:FuncId) (ds:List D) (st:St) (out:Out):Prop :=
 ∀I μ w (xs:Array Value),StRep I μ st [] w->RepL I μ xs.toList ds->valX P ((callFunc f xs).run P w)
  (λu w'=>match out with
   | .ret d st'=>∃I' μ',RepD I' μ' u d/\StRep I' μ' st' [] w'/\Pin (DY st) μ μ'/\Ext I μ st w I' μ' st' w'
   | .pan _=>False)
  (λchain w'=>match out with
   | .ret _ _=>False
   | .pan x=>KZ (· = x) I μ st w chain w')
def GL (P:Program) (f:FuncId) (vs:List V) (v:V):Prop:=IR P f (vs.map .imm) [] (.ret (.imm v) [])
def Ep (l:List (Nat×Nat)) (i:Nat):Nat:=match lk l i with
 | some j=>j
 | none=>i
def Br:List (Nat×Nat)->List (Nat×Nat)
 | []=>[]
 | (a,b)::r=>(b,a)::Br r
def Di (σ τ:List (Nat×Nat)):List Nat->Bool
 | []=>true
 | i::r=>(match lk σ i with
  | some j=>(match lk τ j with
   | some k=>Nat.beq k i
   | none=>false)
  | none=>false)&&Di σ τ r
theorem Kw {σ τ:List (Nat×Nat)}:∀{l:List Nat},Di σ τ l=true->∀i∈l,∃j,lk σ i=some j/\lk τ j=some i
 | [],_,i,hi=>by simp at hi
 | x::r,h,i,hi=>by
  simp only [Di,A2] at h;rcases CA.1 hi with rfl | hi
  ·cases h1:lk σ i with
   | none=>simp [h1] at h
   | some j =>
    cases h2:lk τ j with
    | none=>simp [h1,h2] at h
    | some k =>
     simp only [h1,h2] at h;rw [C7 h.1] at h2;exact ⟨j,rfl,h2⟩
  ·exact Kw h.2 i hi
def F3:St->List Nat
 | []=>[]
 | (i,some b)::r=>i::(UI b++F3 r)
 | (i,none)::r=>i::F3 r
def EQ (τ:List (Nat×Nat)):St->St
 | []=>[]
 | (i,some b)::r=>(Ep τ i,some (U8 (Ep τ) b))::EQ τ r
 | (i,none)::r=>(Ep τ i,none)::EQ τ r
def EZ (σ:List (Nat×Nat)) (st:St):St->Prop
 | []=>True
 | (i,some b)::r=>(match lk (Br σ) i with
  | some a=>(match lk σ a with
   | some j=>Nat.beq j i=true
   | none=>False)/\(match lk st a with
   | some (some ba)=>U8 (Ep σ) ba=b/\Di σ (Br σ) (UI ba)=true
   | _=>False)
  | none=>False)/\EZ σ st r
 | (_,none)::_=>False
theorem Ia {σ:List (Nat×Nat)} {st:St}:∀{st0:St},EZ σ st st0->∀i b,Az st0 i b ->
  ∃a ba,lk (Br σ) i=some a/\lk σ a=some i/\Az st a ba/\U8 (Ep σ) ba=b/\Di σ (Br σ) (UI ba)=true
 | [],_,i,b,h=>by simp [Az,lk] at h
 | (k,none)::r,h,_,_,_=>h.elim
 | (k,some x)::r,h,i,b,hl=>by
  obtain ⟨h1,h2⟩:=h;by_cases hk:k=i
  ·subst hk;have:x=b:=by unfold Az at hl;rw [Ay] at hl;cases hl;rfl
   subst this;cases ha:lk (Br σ) k with
   | none=>simp [ha] at h1
   | some a =>
    simp only [ha] at h1;obtain ⟨h3,h4⟩:=h1;cases hj:lk σ a with
    | none=>simp [hj] at h3
    | some j =>
     simp only [hj] at h3;cases hb:lk st a with
     | none=>simp [hb] at h4
     | some ob =>
      cases ob with
      | none=>simp [hb] at h4
      | some ba =>
       simp only [hb] at h4;exact ⟨a,ba,rfl,by rw [hj,C7 h3],hb,h4.1,h4.2⟩
  ·refine Ia h2 i b ?_;unfold Az at hl ⊢
   rwa [A6 _ _ hk] at hl
def C2:List Nat->St
 | []=>[]
 | a::r=>(a,none)::C2 r
theorem LV (h:Az (C2 l++st) i b):i∉l/\Az st i b:=by
 induction l with
 | nil=>exact ⟨by simp,h⟩
 | cons a r ih =>
  simp only [C2,D0] at h;obtain ⟨h1,h2⟩:=BV.1 h;obtain ⟨h3,h4⟩:=ih h2;exact ⟨by simp [h1,h3],h4⟩
theorem LC {τ:List (Nat×Nat)} {st:St} {i:Nat} {b:Blk}:∀{st1:St},Az (EQ τ st1++st) i b ->
  (∃j b1,Az st1 j b1/\i=Ep τ j/\b=U8 (Ep τ) b1)\/Az st i b
 | [],h=>.inr h
 | (k,some x)::r,h=>by
  simp only [EQ,D0] at h;rcases AB.1 h with ⟨h1,h2⟩ | ⟨h1,h2⟩
  ·exact .inl ⟨k,x,by unfold Az;rw [Ay],h1,h2⟩
  ·rcases LC h2 with ⟨j,b1,q1,q2,q3⟩ | q
   ·refine .inl ⟨j,b1,?_,q2,q3⟩;unfold Az at q1 ⊢;rw [A6 _ _ (λe=>by subst e;exact h1 q2)];exact q1
   ·exact .inr q
 | (k,none)::r,h=>by
  simp only [EQ,D0] at h;obtain ⟨h1,h2⟩:=BV.1 h;rcases LC h2 with ⟨j,b1,q1,q2,q3⟩ | q
  ·refine .inl ⟨j,b1,?_,q2,q3⟩;unfold Az at q1 ⊢;rw [A6 _ _ (λe=>by subst e;exact h1 q2)];exact q1
  ·exact .inr q
theorem JY:∀{σ:List (Nat×Nat)} {i a:Nat},lk (Br σ) i=some a->(a,i)∈σ
 | [],i,a,h=>by simp [Br,lk] at h
 | (x,y)::r,i,a,h=>by
  simp only [Br] at h;by_cases hy:y=i
  ·subst hy;rw [Ay] at h;cases h;simp
  ·rw [A6 _ _ hy] at h;exact HR _ (JY h)
theorem QT:∀{σ:List (Nat×Nat)} {i a:Nat},lk σ i=some a->(i,a)∈σ
 | [],i,a,h=>by simp [lk] at h
 | (x,y)::r,i,a,h=>by
  by_cases hy:x=i
  ·subst hy;rw [Ay] at h;cases h;simp
  ·rw [A6 _ _ hy] at h;exact HR _ (QT h)
theorem ME {l m:List (Nat×Nat)}:(∃a,lk l i=some a/\lk (l++m) i=some a)\/(lk l i=none/\lk (l++m) i=lk m i):=by
 induction l with
 | nil=>exact .inr ⟨rfl,rfl⟩
 | cons p r ih =>
  obtain ⟨x,y⟩:=p;by_cases hx:x=i
  ·subst hx;exact .inl ⟨y,Ay _ _ _,Ay _ _ _⟩
  ·rw [A6 _ _ hx,D0,A6 _ _ hx];exact ih
structure dY (σ τ1:List (Nat×Nat)) (das:List D) (st0:St) (d:D) (st1:St) (fr:List Nat):Prop where
 args:Di σ (Br σ) (I0 das)=true
 inv:Di σ (Br σ) (σ.map (·.1))=true
 given:∀p∈σ,p.2∈DY st0
 res:Di (Br σ++τ1) (σ++Br τ1) (J9 d)=true
 now:Di (Br σ++τ1) (σ++Br τ1) (F3 st1)=true
 new:∀p∈τ1,p.2∈fr
theorem EG:∀{st:St} {i:Nat} {b:Blk},Az st i b->i∈F3 st/\∀j∈UI b,j∈F3 st
 | [],i,b,h=>by simp [Az,lk] at h
 | (k,x)::r,i,b,h=>by
  by_cases hk:k=i
  ·subst hk;unfold Az at h;rw [Ay] at h;cases h;simp only [F3];exact ⟨by simp,λj hj=>by simp [hj]⟩
  ·have h':Az r i b:=by unfold Az at h ⊢;rwa [A6 _ _ hk] at h
   obtain ⟨h1,h2⟩:=EG h';cases x with
   | none=>simp only [F3,CA];exact ⟨.inr h1,λj hj=>.inr (h2 j hj)⟩
   | some y=>simp only [F3,CA,BU];exact ⟨.inr (.inr h1),λj hj=>.inr (.inr (h2 j hj))⟩
def Ho (σ:List (Nat×Nat)) (μ:Mu):Mu:=λj=>match lk (Br σ) j with
 | some a=>μ a
 | none=>none
theorem RN (h:Di σ τ l=true) (hi:i∈l):lk τ (Ep σ i)=some i:=by
 obtain ⟨j,h1,h2⟩:=Kw h i hi;simp [Ep,h1,h2]
theorem Gp (hst:StRep I μ st ids w) (hb:EZ σ st st0) (hd:Di σ (Br σ) (I0 das)=true) (hx:RepL I μ xs das) :
  StRep I (Ho σ μ) st0 [] w/\RepL I (Ho σ μ) xs (F7 (Ep σ) das)/\∀b,Bu (Ho σ μ) st0 b->Bu μ st b:=by
 have hn:∀{l:List Nat},Di σ (Br σ) l=true->∀i∈l,∀g,μ i=some g->Ho σ μ (Ep σ i)=some g:=by
  intro l hl i hi g hg;unfold Ho;rw [RN hl hi];exact hg
 have hl:∀i b g,Az st0 i b->Ho σ μ i=some g->∃a ba,Az st a ba/\μ a=some g/\lk σ a=some i:=by
  intro i b g hi hg;obtain ⟨a,ba,h1,h2,h3,_⟩:=Ia hb i b hi;exact ⟨a,ba,h3,by simpa [Ho,h1] using hg,h2⟩
 refine ⟨{ imm:=hst.imm,blk:=λi b h=>?_,apart:=λi b g k h hg hk=>?_,inj:=λi j bi bj gi gj k hi hj hgi hgj hki hkj=>?_,nodup:=.nil,idsFree:=λ_ h=>by simp at h },hx.ren (hn hd),?_⟩
 ·obtain ⟨a,ba,h1,h2,h3,h4,h5⟩:=Ia hb i b h;obtain ⟨g,hg,hr⟩:=hst.blk a ba h3;refine ⟨g,by simp [Ho,h1,hg],?_⟩;rw [<- h4];exact hr.ren (hn h5)
 ·obtain ⟨a,ba,h1,h2,_⟩:=hl i b g h hg;exact hst.apart a ba g k h1 h2 hk
 ·obtain ⟨a,ba,h1,h2,h3⟩:=hl i bi gi hi hgi;obtain ⟨a',ba',h1',h2',h3'⟩:=hl j bj gj hj hgj;have:=hst.inj a a' ba ba' gi gj k h1 h1' h2 h2' hki hkj;subst this;rw [h3] at h3';cases h3';rfl
 ·rintro b ⟨i,bi,g,h1,h2,h3⟩;obtain ⟨a,ba,q1,q2,_⟩:=hl i bi g h1 h2;exact ⟨a,ba,g,q1,q2,h3⟩
theorem KT (hst:StRep I μ st (fr++ids') w) (hb:EZ σ st st0) (hn:dY σ τ1 das st0 d st1 fr) {I':Imm} {μ':Mu} {u:Value} (hu:RepD I' μ' u d) (hst':StRep I' μ' st1 [] w') (hp:Pin (DY st0) (Ho σ μ) μ') (he:Ext I (Ho σ μ) st0 w I' μ' st1 w') (hsub:∀b,Bu (Ho σ μ) st0 b->Bu μ st b) :
  ∃ν,StRep I' ν (EQ (Br σ++τ1) st1++C2 (σ.map (·.1))++st) ids' w'/\RepD I' ν u (JL (Ep (Br σ++τ1)) d)/\μ.le ν /\
   Ext I μ st w I' ν (EQ (Br σ++τ1) st1++C2 (σ.map (·.1))++st) w':=by
 have hfree:∀i∈fr,μ i=none:=λi hi=>hst.idsFree i (by simp [hi]);have hgiven:∀i j,lk σ i=some j->lk (Br σ) j=some i/\∃g,μ i=some g:=by
  intro i j hij;have hinv:lk (Br σ) j=some i:=by
   obtain ⟨j',h1,h2⟩:=Kw hn.inv i (Cc.2 ⟨(i,j),QT hij,rfl⟩);rw [hij] at h1;cases h1;exact h2
  refine ⟨hinv,?_⟩;have h1:=hn.given _ (QT hij);obtain ⟨⟨j',x⟩,h2,h3⟩:=Cc.1 h1;have h3:j'=j:=h3;subst h3;have:∀{st0:St},EZ σ st st0->(j',x)∈st0->∃g,μ i=some g:=by
   intro st0
   induction st0 with
   | nil=>intro _ h;simp at h
   | cons p r ih =>
    obtain ⟨k,y⟩:=p;intro h hm;cases y with
    | none=>exact h.elim
    | some y =>
     rcases CA.1 hm with e | e
     ·cases e;have h1:=h.1;simp only [hinv] at h1;have h4:=h1.2;cases hb:lk st i with
      | none=>simp [hb] at h4
      | some ob =>
       cases ob with
       | none=>simp [hb] at h4
       | some ba =>
        obtain ⟨g,hg,_⟩:=hst.blk i ba hb;exact ⟨g,hg⟩
     ·exact ih h.2 e
  exact this hb h2
 obtain ⟨ν,hν⟩:∃ν:Mu,ν=λi=>match lk (σ++Br τ1) i with | some j=>μ' j | none=>μ i:=⟨_,rfl⟩
 have hν1:∀{l:List Nat},Di (Br σ++τ1) (σ++Br τ1) l=true->∀i∈l,∀g,μ' i=some g->ν (Ep (Br σ++τ1) i)=some g:=by
  intro l hl i hi g hg;rw [hν];simp only [RN hl hi];exact hg
 have hσ:∀i j,lk σ i=some j->∀g,μ i=some g->ν i=some g:=by
  intro i j hij g hg;have h2:=(hgiven i j hij).1;rw [hν];rcases ME (l:=σ) (m:=Br τ1) (i:=i) with ⟨a,h3,h4⟩ | ⟨h3,_⟩
  ·rw [hij] at h3;cases h3;simp only [h4];exact hp j (hn.given _ (QT hij)) g (by simp [Ho,h2,hg])
  ·rw [hij] at h3;cases h3
 have hin:∀i,(∃j,lk σ i=some j)\/i∈fr\/ν i=μ i:=by
  intro i;rcases ME (l:=σ) (m:=Br τ1) (i:=i) with ⟨a,h1,_⟩ | ⟨h1,h2⟩
  ·exact .inl ⟨a,h1⟩
  ·cases h:lk (Br τ1) i with
   | none=>refine .inr (.inr ?_);rw [hν];simp [h2,h]
   | some j=>exact .inr (.inl (hn.new _ (JY h)))
 have hle:μ.le ν:=by
  intro i g hg;rcases hin i with ⟨j,h⟩ | h | h
  ·exact hσ i j h g hg
  ·rw [hfree i h] at hg;cases hg
  ·rw [h];exact hg
 have hlive:∀i b,Az (EQ (Br σ++τ1) st1++C2 (σ.map (·.1))++st) i b ->
   (∃j b1,Az st1 j b1/\(b=U8 (Ep (Br σ++τ1)) b1/\i=Ep (Br σ++τ1) j)/\∀g,ν i=some g↔μ' j=some g)\/((∀j,lk σ i≠some j)/\Az st i b/\ν i=μ i):=by
  intro i b hl;rw [Cl] at hl;rcases LC hl with ⟨j,b1,h1,h2,h3⟩ | h
  ·refine .inl ⟨j,b1,h1,⟨h3,h2⟩,λg=>?_⟩;rw [h2,hν];simp only [RN hn.now (EG h1).1]
  ·obtain ⟨h1,h2⟩:=LV h;have h3:∀j,lk σ i≠some j:=λj hj=>h1 (Cc.2 ⟨(i,j),QT hj,rfl⟩);refine .inr ⟨h3,h2,?_⟩;rcases hin i with ⟨j,h⟩ | h | h
   ·exact absurd h (h3 j)
   ·obtain ⟨g,hg,_⟩:=hst.blk i b h2;rw [hfree i h] at hg;cases hg
   ·exact h
 have hframe:∀i b g k,(∀j,lk σ i≠some j)->Az st i b->μ i=some g->En g k->¬Bu (Ho σ μ) st0 k:=by
  rintro i b g k h1 h2 h3 h4 ⟨j,bj,gj,h5,h6,h7⟩;obtain ⟨a,ba,q1,q2,q3,_⟩:=Ia hb j bj h5;simp only [Ho,q1] at h6;have:=hst.inj i a b ba g gj k h2 q3 h3 h6 h4 h7;subst this;exact h1 j q2
 have hext:Ext I μ st w I' ν (EQ (Br σ++τ1) st1++C2 (σ.map (·.1))++st) w':=by
  refine { imm:=he.imm,os:=he.os,tape:=he.tape,output:=he.output,size:=he.size,block:=λb hb' ho=>he.block b hb' (λh=>ho (hsub b h)),fresh:=λb hb' ho=>?_,old:=λb hb' ho=>he.old b hb' (λh=>ho (hsub b h)) };obtain ⟨i,bi,g,h1,h2,h3⟩:=ho;rcases hlive i bi h1 with ⟨j,b1,q1,_,q3⟩ | ⟨_,q2,q3⟩
  ·exact hsub b (he.fresh b hb' ⟨j,b1,g,q1,(q3 g).1 h2,h3⟩)
  ·exact ⟨i,bi,g,q2,by rw [<- q3];exact h2,h3⟩
 refine ⟨ν,?_,hu.ren (hν1 hn.res),hle,hext⟩;refine { imm:=hst'.imm,blk:=λi b h=>?_,apart:=λi b g k h hg hk=>?_,inj:=λi j bi bj gi gj k hi hj hgi hgj hki hkj=>?_,nodup:=(Hu.1 hst.nodup).2.1,idsFree:=λi hi=>?_ }
 ·rcases hlive i b h with ⟨j,b1,q1,q2,q3⟩ | ⟨q1,q2,q3⟩
  ·obtain ⟨g,hg,hr⟩:=hst'.blk j b1 q1;exact ⟨g,(q3 g).2 hg,by rw [q2.1];exact hr.ren λk hk=>hν1 hn.now k ((EG q1).2 k hk)⟩
  ·obtain ⟨g,hg,hr⟩:=hst.blk i b q2;refine ⟨g,by rw [q3];exact hg,(hr.mono he.imm hle).world λk hk=>?_⟩;exact he.block k (hst.apart i b g k q2 hg hk).2 (hframe i b g k q1 q2 hg hk)
 ·rcases hlive i b h with ⟨j,b1,q1,q2,q3⟩ | ⟨q1,q2,q3⟩
  ·exact hst'.apart j b1 g k q1 ((q3 g).1 hg) hk
  ·rw [q3] at hg;obtain ⟨h1,h2⟩:=hst.apart i b g k q2 hg hk;exact ⟨by rw [he.old k h2 (hframe i b g k q1 q2 hg hk)];exact h1,YZ h2 he.size⟩
 ·rcases hlive i bi hi with ⟨i1,b1,q1,q2,q3⟩ | ⟨q1,q2,q3⟩ <;> rcases hlive j bj hj with ⟨j1,b2,p1,p2,p3⟩ | ⟨p1,p2,p3⟩
  ·have:=hst'.inj i1 j1 b1 b2 gi gj k q1 p1 ((q3 gi).1 hgi) ((p3 gj).1 hgj) hki hkj;subst this;rw [q2.2,p2.2]
  ·rw [p3] at hgj;have hk:=(hst.apart j bj gj k p2 hgj hkj).2;exact absurd (he.fresh k hk ⟨i1,b1,gi,q1,(q3 gi).1 hgi,hki⟩) (hframe j bj gj k p1 p2 hgj hkj)
  ·rw [q3] at hgi;have hk:=(hst.apart i bi gi k q2 hgi hki).2;exact absurd (he.fresh k hk ⟨j1,b2,gj,p1,(p3 gj).1 hgj,hkj⟩) (hframe i bi gi k q1 q2 hgi hki)
  ·rw [q3] at hgi;rw [p3] at hgj;exact hst.inj i j bi bj gi gj k q2 p2 hgi hgj hki hkj
 ·rcases hin i with ⟨j,h⟩ | h | h
  ·obtain ⟨_,g,hg⟩:=hgiven i j h;rw [hst.idsFree i (by simp [hi])] at hg;cases hg
  ·exact absurd rfl ((Hu.1 hst.nodup).2.2 i h i hi)
  ·rw [h];exact hst.idsFree i (by simp [hi])
def Ik (cx:Prop) (env:Env):List Operand->Option (List D×List Prop)
 | []=>some ([],[])
 | x::r=>match DN env x,Ik cx env r with
  | some (.guard c w d),some (ds,o)=>some (d::ds,(cx->c=w)::o)
  | some d,some (ds,o)=>some (d::ds,o)
  | _,_=>none
def Bt:List DI->List Nat×List Nat->Option (List Oper×Oper×List DI)
 | .ops all (o::r)::k,_=>some (all,o,.ops all r::k)
 | .dops all (o::r) fs::k,f=>some (all,o,.dops all r (f::fs)::k)
 | _,_=>none
def BK (n:Nat):Option Nat->Bool
 | some t=>Nat.blt t n
 | none=>true
def Ap:Option (Bool×Bool)->Prop
 | none=>True
 | some (c,w)=>c=w
def gD:Option (Bool×Bool)->D->D
 | none,d=>d
 | some (c,w),d=>.guard c w d
def Co (all:List Oper) (env:Env) (o:Oper):Option (Option (Bool×Bool)) :=
 match o.guard with
 | none=>some none
 | some (j,w)=>match Mb all j with
  | some { dst:=some g,.. }=>match UL (lk env g) w with
   | some c=>some (some (c,w))
   | none=>none
  | _=>none
structure dX where
 f:FuncId
 vs:List V
 g:Option (Bool×Bool)
 ob:List Prop
 dst:Option Nat
 todo:List DI
def cB (n:Nat) (env:Env) (todo:List DI):Option dX :=
 match Bt todo ([],[]) with
 | some (all,o,todo')=>match o.op,Co all env o with
  | .call { callee:=.value (.func f),args:=⟨args⟩,.. },some g=>match Ik (Ap g) env args with
   | some (ds,ob)=>match L9 ds,BK n o.dst with
    | some vs,true=>match o.dst with
     | some t=>some ⟨f,vs,g,ob,some t,todo'⟩
     | none=>some ⟨f,vs,g,ob,none,todo'⟩
    | _,_=>none
   | none=>none
  | .call { callee:=.value (.tmp t),args:=⟨args⟩,.. },some g=>match lk env t,Ik (Ap g) env args with
   | some (.imm (.fn (.func f))),some (ds,ob)=>match L9 ds,BK n o.dst with
    | some vs,true=>match o.dst with
     | some t=>some ⟨f,vs,g,ob,some t,todo'⟩
     | none=>some ⟨f,vs,g,ob,none,todo'⟩
    | _,_=>none
   | _,_=>none
  | _,_=>none
 | none=>none
section
variable {n:Nat} {env:Env} {k:List DI}
theorem RepV.fnInv {f:Fn} (h:RepV I v (.fn f)):v = .func f #[] #[]:=by cases h;rfl
theorem G8 (hc:cx):∀{args:List Operand} {ds:List D} {ob:List Prop},Ik cx env args=some (ds,ob)->AG ob->(∀x∈args,∀d,DN env x=some d->RepD I μ (a.eval x) d) ->
  RepL I μ (args.map a.eval) ds
 | [],ds,ob,h,_,_=>by cases h;exact .nil
 | x::r,ds,ob,h,hob,hx=>by
  have hr:∀y∈r,∀d,DN env y=some d->RepD I μ (a.eval y) d:=λy hy=>hx y (by simp [hy]);simp only [Ik] at h
  split at h
  ·rename_i c w0 d ds' o' h1 h2;cases h;exact .mk ((hx x (by simp) _ h1).guardInv (hob.1 hc)) (G8 hc h2 hob.2 hr)
  ·rename_i d ds' o' _ h1 h2;cases h;exact .mk (hx x (by simp) _ h1) (G8 hc h2 hob hr)
  ·cases h
theorem FZ:∀{vs:List Value} {ds:List D} {xs:List V},Ga ds=some xs->RepL I μ vs ds->RepVL I vs xs
 | [],ds,xs,h,hr=>by
  cases ds with
  | nil=>cases h;exact .nil
  | cons d ds=>simp [RepL] at hr
 | v::vs,ds,xs,h,hr=>by
  cases ds with
  | nil=>simp [RepL] at hr
  | cons d ds =>
   obtain ⟨h1,h2⟩:=hr.cons;cases d <;> simp only [Ga,reduceCtorEq] at h
   ·split at h
    ·cases h;exact .mk h1.immInv (FZ (by assumption) h2)
    ·cases h
   ·split at h
    ·cases h;cases h1;exact .mk .slnil (FZ (by assumption) h2)
    ·cases h
theorem RepD.ipV (h:RepD I μ v (.ip t cs off)):RepV I v (.ip t cs off):=by
 cases h with
 | ip b o _ _ _ vs h1 h2=>exact .ip b o t cs off vs h1 h2
theorem RepV.ipD (h:RepV I v (.ip t cs off)):RepD I μ v (.ip t cs off):=by
 cases h with
 | ip b o _ _ _ vs h1 h2=>exact .ip b o t cs off vs h1 h2
theorem kJ (h:wT d=some x) (hr:RepD I μ v d):RepV I v x:=by
 unfold wT at h
 split at h
 ·cases h;exact hr.immInv
 ·cases h;cases hr;exact .slnil
 ·split at h
  ·rename_i xs hx;cases h;obtain ⟨cs,rfl,h1,h2⟩:=hr.aggDInv;have:=FZ hx h1;exact .agg cs xs (by have:=this.1;simpa using this) h2 λi c x hc hx=>this.2 i c x (by simpa using hc) hx
  ·cases h
 ·cases h;exact hr.ipV
 ·cases h
theorem IU:∀{vs:List Value} {ds:List D} {xs:List V},L6 ds=some xs->RepL I μ vs ds->RepVL I vs xs
 | [],[],xs,h,hr=>by
  simp only [L6,Cf] at h;subst h;exact ⟨rfl,λi v x h=>by simp at h⟩
 | v::vs,d::ds,xs,h,hr=>by
  simp only [L6] at h
  split at h
  ·rename_i x xs' h1 h2;cases h;have ih:=IU (vs:=vs) h2 ⟨by simpa using hr.1,λi v d p q=>hr.2 (i+1) v d (by simpa using p) (by simpa using q)⟩;refine ⟨by simp [ih.1],λi u y p q=>?_⟩;cases i with
   | zero=>simp at p q;rw [<- p,<- q];exact kJ h1 (hr.2 0 v d rfl rfl)
   | succ i=>exact ih.2 i u y (by simpa using p) (by simpa using q)
  ·cases h
 | [],_::_,_,_,hr=>by have:=hr.1;simp at this
 | _::_,[],_,_,hr=>by have:=hr.1;simp at this
theorem PF (h:rF d=some x) (hr:RepD I μ v d):RepV I v x:=by
 unfold rF at h
 split at h
 ·cases h;exact hr.immInv
 ·cases h;cases hr;exact .slnil
 ·split at h
  ·rename_i xs hx;cases h;obtain ⟨cs,rfl,h1,h2⟩:=hr.aggDInv;have:=FZ hx h1;exact .agg cs xs (by have:=this.1;simpa using this) h2 λi c x hc hx=>this.2 i c x (by simpa using hc) hx
  ·cases h
 ·split at h
  ·rename_i ds _ xs hx;cases h;generalize hd:D.tup ds=d' at hr;cases hr <;> cases hd;rename_i cs hl h;have:=IU (vs:=cs.toList) hx ⟨by simpa using hl,λi c x hc hx=>h i c x (by simpa using hc) hx⟩;exact .tup cs xs (by have:=this.1;simpa using this) λi c x hc hx=>this.2 i c x (by simpa using hc) hx
  ·cases h
 ·cases h;exact hr.ipV
 ·cases h;cases hr;assumption
 ·split at h
  ·rename_i xs ys hx hy;cases h;cases hr with
   | fn g first cap df dc hf hc h1 h2 =>
    have q1:=IU (vs:=first.toList) hx ⟨by simpa using hf,λi v d e1 e2=>h1 i v d (by simpa using e1) e2⟩;have q2:=IU (vs:=cap.toList) hy ⟨by simpa using hc,λi v d e1 e2=>h2 i v d (by simpa using e1) e2⟩;exact .clo _ first cap xs ys (by simpa using q1.1) (by simpa using q2.1) (λi c x h1 h2=>q1.2 i c x (by simpa using h1) h2) (λi c x h1 h2=>q2.2 i c x (by simpa using h1) h2)
  ·cases h
 ·cases h
theorem VH:∀{vs:List Value} {ds:List D} {xs:List V},L9 ds=some xs->RepL I μ vs ds->RepVL I vs xs
 | [],ds,xs,h,hr=>by
  cases ds with
  | nil=>cases h;exact .nil
  | cons d ds=>simp [RepL] at hr
 | v::vs,ds,xs,h,hr=>by
  cases ds with
  | nil=>simp [RepL] at hr
  | cons d ds =>
   obtain ⟨h1,h2⟩:=hr.cons;simp only [L9] at h
   split at h
   ·cases h;exact .mk (PF (by assumption) h1) (VH (by assumption) h2)
   ·cases h
theorem I1 {f:List Nat×List Nat} {all:List Oper} (h:Bt todo f=some (all,o,todo')) :
  (∃r k,todo = .ops all (o::r)::k/\todo' = .ops all r::k)\/∃r fs k,todo = .dops all (o::r) fs::k/\todo' = .dops all r (f::fs)::k:=by
 unfold Bt at h
 split at h
 ·cases h;exact .inl ⟨_,_,rfl,rfl⟩
 ·cases h;exact .inr ⟨_,_,_,rfl,rfl⟩
 ·cases h
theorem BG {rd:List Nat} {wr:St} {all:List Oper} (h1:Bt todo (rd,wr.map (·.1))=some (all,o,todo')) (hl:LD P (KY Q) all o env st rd fr wr d) (hn:BK n o.dst=true) (hnd:∀c,o.op ≠ .defer c) (h:G P n F Q todo' (BN o.dst d env) (wr++st) ids'):G P n F Q todo env st (fr++ids'):=by
 have hn':∀t,o.dst=some t->t<n:=λt ht=>by
  unfold BK at hn;rw [ht] at hn;simpa [HQ] using hn
 rcases I1 h1 with ⟨r,k,rfl,rfl⟩ | ⟨r,fs,k,rfl,rfl⟩
 ·exact zZ hl hn' hnd h
 ·simp only [G,Zx] at h ⊢;exact Vu hl hn' hnd h
def EN (P:Program) (o:Oper) (env:Env) (f:FuncId) (das:List D) (cx:Prop):Prop :=
 ∀I μ a w,DG I μ env a o.op->cx->∃xs:Array Value,RepL I μ xs.toList das/\(execOp a.eval o).run P w=(callFunc f xs).run P w
theorem FO {args:List Operand} (ho:o.op = .call { callee:=.value (.func f),args:=⟨args⟩,argTypes:=ts }) (ha:Ik cx env args=some (ds,ob)) (hob:AG ob) :
  EN P o env f ds cx:=by
 intro I μ a w hop hc;rw [ho] at hop;refine ⟨(args.map a.eval).toArray,by simpa using G8 hc ha hob λx hx=>hop x (by simp [Op.operands,Call.operands,hx]),?_⟩;simp only [execOp,ho,resolve,Act.eval,Deferred.ofValue,Sem.run_bind,Sem.run_pure,Result.andThen_ok,invoke];congr 2;simp
theorem Fo {t:Nat} {args:List Operand} (ho:o.op = .call { callee:=.value (.tmp t),args:=⟨args⟩,argTypes:=ts }) (ht:lk env t=some (.imm (.fn (.func f)))) (ha:Ik cx env args=some (ds,ob)) (hob:AG ob):EN P o env f ds cx:=by
 intro I μ a w hop hc;rw [ho] at hop;refine ⟨(args.map a.eval).toArray,by simpa using G8 hc ha hob λx hx=>hop x (by simp [Op.operands,Call.operands,hx]),?_⟩;have hv:a.eval (.tmp t) = .func (.func f) #[] #[]:=(hop (.tmp t) (by simp [Op.operands,Call.operands]) _ ht).immInv.fnInv;simp only [execOp,ho,resolve,hv,Deferred.ofValue,Sem.run_bind,Sem.run_pure,Result.andThen_ok,invoke];congr 2;simp
theorem In {t:Nat} {args:List Operand} {df dc:List D} (ho:o.op = .call { callee:=.value (.tmp t),args:=⟨args⟩,argTypes:=ts }) (ht:lk env t=some (.fn (.func f) df dc)) (ha:Ik cx env args=some (ds,ob)) (hob:AG ob):EN P o env f (df++ds++dc) cx:=by
 intro I μ a w hop hc;rw [ho] at hop;have hd:=G8 (I:=I) (μ:=μ) (a:=a) hc ha hob λx hx=>hop x (by simp [Op.operands,Call.operands,hx]);have hf:=hop (.tmp t) (by simp [Op.operands,Call.operands]) _ ht;generalize hv:a.eval (.tmp t)=v at hf;cases hf with
 | fn _ first cap _ _ h1 h2 h3 h4 =>
  refine ⟨first++(args.map a.eval).toArray++cap,?_,?_⟩
  ·simp only [JW];refine RepL.append (RepL.append ⟨by simpa using h1,λi v d hv hd=>h3 i v d (by simpa using hv) hd⟩ hd) ⟨by simpa using h2,λi v d hv hd=>h4 i v d (by simpa using hv) hd⟩
  ·simp only [execOp,ho,resolve,hv,Deferred.ofValue,Sem.run_bind,Sem.run_pure,Result.andThen_ok,invoke];congr 3;simp
theorem FF {all:List Oper} (hg:Co all env o=some g) (hon:∀t∈o.looksAt all.toArray,∀d,lk env t=some d->RepD I μ (a.tmps.getD t undef) d) :
  Region.wanted o (yielded all.toArray a.tmps)=true↔Ap g:=by
 unfold Co at hg
 split at hg
 ·rename_i hgd;cases hg;simp [Ap,AL hgd]
 ·rename_i j w0 hgd
  split at hg
  ·rename_i gs _ _ _ _ _ hj
   split at hg
   ·rename_i c hl;cases hg;rw [Gh] at hj;exact RF hgd hj rfl hl hon
   ·cases hg
  ·cases hg
theorem PL {all:List Oper} {v:V} (hg:Co all env o=some g) (hc:EN P o env f das (Ap g)) (hv:L9 das=some vs) (hE:Ap g->GL P f vs v):LD P Pn all o env st [] [] [] (gD g (.imm v)):=by
 have key:∀I μ st1 ids1 a w,StRep I μ st1 ids1 w->DG I μ env a o.op->Ap g->valX P ((execOp a.eval o).run P w) (λu w'=>∃I' μ',StRep I' μ' st1 ids1 w'/\RepD I' μ' u (gD g (.imm v))/\μ.le μ'/\Ext I μ st1 w I' μ' st1 w') (KZ Pn I μ st1 w):=by
  intro I μ st1 ids1 a w hst hop hcx;obtain ⟨xs,h1,h2⟩:=hc I μ a w hop hcx;have hx:=VH hv h1;obtain ⟨q1,q2,q3⟩:=Gp (σ:=[]) (st0:=[]) hst trivial (das:=vs.map .imm) (by
   have:∀vs:List V,I0 (vs.map .imm)=[]:=λvs=>by induction vs with
    | nil=>rfl
    | cons x r ih=>simp [I0,J9,ih]
   rw [this];rfl) hx.imm
  have hren:F7 (Ep []) (vs.map .imm)=vs.map .imm:=by
   rw [Gs];simp [JL]
  rw [hren] at q2;rw [h2];refine (hE hcx I _ w xs q1 q2).mono (λu w' hu=>?_) (λ_ _ h=>h.elim);obtain ⟨I',μ',r1,r2,r3,r4⟩:=hu;obtain ⟨ν,s1,s2,s3,s4⟩:=KT (fr:=[]) (ids':=ids1) (σ:=[]) (τ1:=[]) (das:=[]) (st0:=[]) hst trivial ⟨rfl,rfl,λ_ h=>by simp at h,rfl,rfl,λ_ h=>by simp at h⟩ r1 r2 r3 r4 q3;refine ⟨I',ν,s1,?_,s3,s4⟩;cases g with
  | none=>exact s2
  | some p=>exact .guard _ _ _ _ (λ_=>s2) (λhn=>absurd hcx hn)
 intro I μ st1 ids1 a w _ hst hon;have hwant:=FF hg hon;refine ⟨λhw=>key I μ st1 ids1 a w hst (Bm hon) (hwant.1 hw),λhw=>⟨rfl,rfl,?_⟩⟩;cases g with
 | none=>rw [hwant.2 trivial] at hw;cases hw
 | some p=>exact .guard _ _ _ _ (λhc=>by rw [hwant.2 hc] at hw;cases hw) (λ_=>rfl)
theorem Aj {v:V} (h:cB n env todo=some ⟨f,vs,g,ob,dst,todo'⟩) (hE:Ap g->GL P f vs v) (hob:AG ob) (hk:G P n F Q todo' (BN dst (gD g (.imm v)) env) st ids):G P n F Q todo env st ids:=by
 unfold cB at h;have fin:∀{all:List Oper} {o:Oper} {todo1:List DI} {x:dX},(match o.dst with
   | some t=>some (⟨x.f,x.vs,x.g,x.ob,some t,todo1⟩:dX)
   | none=>some ⟨x.f,x.vs,x.g,x.ob,none,todo1⟩)=some ⟨f,vs,g,ob,dst,todo'⟩->x.f=f/\x.vs=vs/\x.g=g/\x.ob=ob/\o.dst=dst/\todo1=todo':=by
  intro all o todo1 x hx
  split at hx <;> (rename_i hd;cases hx;exact ⟨rfl,rfl,rfl,rfl,hd,rfl⟩)
 split at h
 ·rename_i all o todo1 h1;have hnd:∀cc,o.op = .call cc->∀c,o.op ≠ .defer c:=λcc h c h'=>by rw [h] at h';cases h'
  split at h
  ·rename_i f args ts g ho hg
   split at h
   ·rename_i ds ob ha
    split at h
    ·rename_i vs hv hd;obtain ⟨e1,e2,e3,e4,e5,e6⟩:=fin (all:=all) (x:=⟨f,vs,g,ob,none,todo1⟩) h
     dsimp only at e1 e2 e3 e4
     subst e1;subst e2;subst e3;subst e4;subst e5;subst e6;exact BG (fr:=[]) (wr:=[]) h1 (PL hg (FO ho ha hob) hv hE) hd (hnd _ ho) hk
    ·cases h
   ·cases h
  ·rename_i t args ts g ho hg
   split at h
   ·rename_i f ds ob ht ha
    split at h
    ·rename_i vs hv hd;obtain ⟨e1,e2,e3,e4,e5,e6⟩:=fin (all:=all) (x:=⟨f,vs,g,ob,none,todo1⟩) h
     dsimp only at e1 e2 e3 e4
     subst e1;subst e2;subst e3;subst e4;subst e5;subst e6;exact BG (fr:=[]) (wr:=[]) h1 (PL hg (Fo ho ht ha hob) hv hE) hd (hnd _ ho) hk
    ·cases h
   ·cases h
  ·cases h
 ·cases h
theorem Ce {v:V} (h:cB n env todo=some ⟨f,vs,g,ob,dst,todo'⟩) (hE:GL P f vs v) (hk:G P n F Q todo' (BN dst (gD g (.imm v)) env) st ids) (hob:AG ob:=by simp [Ap]):G P n F Q todo env st ids:=Aj h (λ_=>hE) hob hk
theorem Ad {v:V} (h:cB n env todo=some ⟨f,vs,g,ob,dst,todo'⟩) (hE:GL P f vs v) (hk:G P n F Q todo' (BN dst (gD g (.imm v)) env) st ids) (hob:AG ob:=by simp):G P n F Q todo env st ids:=Aj h (λ_=>hE) hob hk
end
def UV (tt:TT) (st:St) (ty:TypeId):D->Option D
 | .ref id off=>match lk tt ty,lk st id with
  | some i,some (some (.immb _ sz xs))=>MD i (Nat.beq sz i.size) xs off
  | some i,some (some (.cells _ sz cs))=>Hw i (Nat.beq sz i.size) cs off
  | _,_=>none
 | _=>none
def mF:D->Bool
 | .guard ..=>false
 | _=>true
def Py (tt:TT) (env:Env) (st:St):List ResultVar->Option (List D)
 | []=>some []
 | .tmp t::r=>match lk env t,Py tt env st r with
  | some d,some ds=>match mF d with
   | true=>some (d::ds)
   | false=>none
  | _,_=>none
 | .cell t ty::r=>match lk env t,Py tt env st r with
  | some a,some ds=>match UV tt st ty a with
   | some d=>some (d::ds)
   | none=>none
  | _,_=>none
def HH:List D->D
 | [d]=>d
 | ds=>.tup ds
def zab (d:D):D->Prop
 | .imm v=>rF d=some v
 | d'=>d=d'
def Iw (st:St):St->Prop
 | []=>True
 | (i,some b)::r=>lk st i=some (some b)/\Iw st r
 | (_,none)::_=>False
def Lb (tt:TT) (rs:List ResultVar) (out:Out):DQ:=λx env st _=>match x,out with
 | .ret,.ret d st'=>∃ds,Py tt env st rs=some ds/\zab (HH ds) d/\Iw st st'
 | .norm,.ret d st'=>∃ds,Py tt env st rs=some ds/\zab (HH ds) d/\Iw st st'
 | .panic x,.pan y=>x=y
 | _,_=>False
def LY:Nat->List D->Env
 | _,[]=>[]
 | i,d::r=>(i,d)::LY (i+1) r
section
variable {env:Env}
theorem Fq:∀{st':St},Iw st st'->∀i b,Az st' i b->Az st i b
 | [],_,i,b,h=>by simp [Az,lk] at h
 | (k,none)::r,h,_,_,_=>h.elim
 | (k,some x)::r,h,i,b,hl=>by
  by_cases hk:k=i
  ·subst hk;unfold Az at hl;rw [Ay] at hl;cases hl;exact h.1
  ·refine Fq h.2 i b ?_;unfold Az at hl ⊢;rwa [A6 _ _ hk] at hl
theorem StRep.less (hs:StRep I μ st ids w) (h:∀i b,Az st' i b->Az st i b) (hn:ids'.Nodup) (hi:∀i∈ids',μ i=none):StRep I μ st' ids' w :=
 {imm:=hs.imm,blk:=λid blk hl=>hs.blk id blk (h _ _ hl),apart:=λid blk g b hl=>hs.apart id blk g b (h _ _ hl),
  inj:=λi j bi bj gi gj b hi hj=>hs.inj i j bi bj gi gj b (h _ _ hi) (h _ _ hj),nodup:=hn,idsFree:=hi }
theorem Zy (htt:TTok P tt) (hst:StRep I μ st ids w) {ty:TypeId} {da:D} (hv:RepD I μ v da) (h:UV tt st ty da=some d) :
  ∃b u,v = .pointer (some b)/\(loadVar ty b).run P w = .ok u w/\RepD I μ u d:=by
 unfold UV at h
 split at h
 ·rename_i id off;obtain ⟨b,e1,e2⟩:=hv.refInv;have conv:∀{u:Value},(Instr.loadAt ty (.pointer (some ⟨b,off,none⟩))).run P w = .ok u w->(loadVar ty ⟨b,off,none⟩).run P w = .ok u w:=λh=>by
   simpa [Instr.loadAt,Instr.sureAddr] using h
  split at h
  ·rename_i i bt sz xs hi hl;obtain ⟨g,hg,hlen,b',vs,hg2,hheap,hrep,hone⟩:=hst.blk id _ hl;rw [e2] at hg;cases hg;cases hg2;obtain ⟨u,h1,h2⟩:=MC (P:=P) (w:=w) (I:=I) (μ:=μ) (htt ty i hi) (b:=b) (o:=0) (off:=off) (xs:=xs) (vs:=λj=>vs.toList.getD j undef) (same:=Nat.beq sz i.size)
    (λj x hj=>by
     have hlt:j<xs.length:=(AO.1 hj).1;have hv:vs.toList[j]?=some (vs.toList[j]'(by rw [hrep.1];exact hlt)):=Bw _;rw [Dw];have e:vs.toList.getD j undef=vs.toList[j]'(by rw [hrep.1];exact hlt):=by simp [List.getD,hv]
     rw [e];exact ⟨EL hheap j _ hv,hone _ (I6 _)⟩)
    (λj x hj=>by
     have hlt:j<xs.length:=(AO.1 hj).1;have hv:vs.toList[j]?=some (vs.toList[j]'(by rw [hrep.1];exact hlt)):=Bw _;have e:vs.toList.getD j undef=vs.toList[j]'(by rw [hrep.1];exact hlt):=by simp [List.getD,hv]
     rw [e];exact hrep.2 j _ _ hv hj)
    (λ_ hs _=>by rw [hlen];exact C7 hs) h
   rw [Dw] at h1;exact ⟨_,u,e1,conv h1,h2⟩
  ·rename_i i bt sz cs hi hl;obtain ⟨g,hg,hlen,b',vs,hg2,hheap,hrep,hone⟩:=hst.blk id _ hl;rw [e2] at hg;cases hg;cases hg2;obtain ⟨u,h1,h2⟩:=WK (P:=P) (w:=w) (I:=I) (μ:=μ) (htt ty i hi) (b:=b) (off:=off) (cs:=cs) (vs:=vs.toList) (same:=Nat.beq sz i.size)
    (λj v hj=>EL hheap j v hj) hone hrep (λ_ hs _=>by rw [hlen];exact C7 hs) h
   exact ⟨_,u,e1,conv h1,h2⟩
  ·cases h
 ·cases h
theorem Yx (b:Addr):(asAddr (.pointer (some b))).run P w = .ok b w:=by simp [asAddr]
theorem U6 (htt:TTok P tt) (hst:StRep I μ st ids w) {tmps:Array Value} (he:∀t d,lk env t=some d->RepD I μ (tmps.getD t undef) d) {g:ResultVar->Sem Value} (g1:∀t,g (.tmp t)=pure (tmps.getD t undef))
  (g2:∀a t,g (.cell a t)=do loadVar t (<- asAddr (tmps.getD a undef))):∀{rs:List ResultVar} {ds:List D},Py tt env st rs=some ds->∃vs,(rs.mapM g).run P w = .ok vs w/\RepL I μ vs ds
 | [],ds,h=>by cases h;exact ⟨[],by simp,.nil⟩
 | .tmp t::r,ds,h=>by
  simp only [Py] at h
  split at h
  ·rename_i d ds' h1 h2
   split at h
   ·cases h;obtain ⟨vs,h3,h4⟩:=U6 htt hst he g1 g2 h2;exact ⟨_,by simp only [mS,g1,Sem.run_bind,Sem.run_pure,Result.andThen_ok,h3],.mk (he t d h1) h4⟩
   ·cases h
  ·cases h
 | .cell t ty::r,ds,h=>by
  simp only [Py] at h
  split at h
  ·rename_i a ds' h1 h2
   split at h
   ·rename_i d hd;cases h;obtain ⟨vs,h3,h4⟩:=U6 htt hst he g1 g2 h2;obtain ⟨b,u,e1,e2,e3⟩:=Zy htt hst (he t a h1) hd;exact ⟨_,by simp only [mS,g2,Sem.run_bind,Sem.run_pure,Result.andThen_ok,h3,e1,Yx,e2],.mk e3 h4⟩
   ·cases h
  ·cases h
theorem Y9 (htt:TTok P tt) (hst:StRep I μ st ids w) {tmps:Array Value} (he:∀t d,lk env t=some d->RepD I μ (tmps.getD t undef) d) {fn:Func} (h:Py tt env st fn.results.toList=some ds) :
  ∃vs:List Value,(results fn tmps).run P w = .ok (if h:vs.toArray.size=1 then vs.toArray[0] else .tuple vs.toArray) w/\RepL I μ vs ds:=by
 have hm:∀(f:ResultVar->Sem Value) (vs:List Value),(fn.results.toList.mapM f).run P w = .ok vs w->(fn.results.mapM f).run P w = .ok vs.toArray w:=λf vs hf=>by
  rw [Array.mapM_eq_mapM_toList];change Sem.run P (List.mapM f fn.results.toList >>= λl=>pure l.toArray) w=_;simp only [Sem.run_bind,hf,Sem.run_pure,Result.andThen_ok]
 refine Exists.imp (λvs hv=>⟨?_,hv.2⟩) (U6 (g:=fun | .tmp t=>pure (tmps.getD t undef) | .cell a t=>do loadVar t (<- asAddr (tmps.getD a undef))) htt hst he (λ_=>rfl) (λ_ _=>rfl) h);have q:=hm _ vs hv.1;unfold results;simp only [Sem.run_bind];exact Eq.trans (congrArg (Result.andThen · (λvs w=>Sem.run P (pure (if h:vs.size=1 then vs[0] else .tuple vs)) w)) q) (by simp)
theorem fB {vs:List Value} (h:RepL I μ vs ds):RepD I μ (if h:vs.toArray.size=1 then vs.toArray[0] else .tuple vs.toArray) (HH ds):=by
 have tup:RepD I μ (.tuple vs.toArray) (.tup ds):=.tup _ _ (by simpa using h.1) λi c x hc hx=>h.2 i c x (by simpa using hc) hx
 match vs,ds,h,tup with
 | [],[],_,tup=>simpa [HH] using tup
 | [v],[d],h,_=>simpa [HH] using h.2 0 v d rfl rfl
 | v::v'::r,d::d'::s,_,tup=>simpa [HH] using tup
 | [],_::_,h,_=>simp [RepL] at h
 | _::_,[],h,_=>simp [RepL] at h
 | [_],_::_::_,h,_=>simp [RepL] at h
 | _::_::_,[_],h,_=>simp [RepL] at h
theorem Qh (h:zab d d') (hr:RepD I μ v d):RepD I μ v d':=by
 cases d' with
 | imm x=>exact .imm _ _ (PF h hr)
 | _=>(have h:d=_:=h);rw [<- h];exact hr
theorem B6 {f: FuncId} {fn: Func} {c: Code} (hf : P.funcs[f]? = some fn) (hname : (fn.name == "runtime.NumGoroutine") = false) (hb : fn.body = some c) (xs : Array Value) :
  (callFunc f xs).run P w = .ok (.enter f xs) w:=by
 have hn : ¬ fn.name = "runtime.NumGoroutine" := by simpa using hname
 simp [callFunc,hf,hn,hb]
theorem Tu:∀{ds:List D} {i t:Nat} {d:D},lk (LY i ds) t=some d->∃j,t=i+j/\ds[j]?=some d
 | [],i,t,d,h=>by simp [LY,lk] at h
 | x::r,i,t,d,h=>by
  simp only [LY] at h;by_cases hi:i=t
  ·subst hi;rw [Ay] at h;cases h;exact ⟨0,rfl,rfl⟩
  ·rw [A6 _ _ hi] at h;obtain ⟨j,h1,h2⟩:=Tu h;exact ⟨j+1,by omega,by simpa using h2⟩
def Pl:List Nat->List Nat->Bool
 | [],_=>true
 | x::r,l=>EX l x&&Pl r l
theorem Fu:∀{a b:List Nat},Pl a b=true->∀i∈a,i∈b
 | [],_,_,i,h=>by simp at h
 | x::r,b,h,i,hi=>by
  simp only [Pl,A2] at h;rcases CA.1 hi with rfl | hi
  ·exact BR.1 h.1
  ·exact Fu h.2 i hi
def JQ:List Nat->Bool
 | []=>true
 | x::r=>!EX r x&&JQ r
theorem HK:∀{a:List Nat},JQ a=true->a.Nodup
 | [],_=>.nil
 | x::r,h=>by
  simp only [JQ,A2,JX] at h;exact Lj.2 ⟨λhm=>(by rw [BR.2 hm] at h;cases h.1),HK h.2⟩
theorem RepL.sub {vs:List Value} (h:RepL I μ vs ds) (hn:∀i∈I0 ds,∀g,μ i=some g->ν i=some g):RepL I ν vs ds :=
 ⟨h.1,λi v d hv hd=>(h.2 i v d hv hd).sub λj hj=>hn j (Jb (AK hd) hj)⟩
theorem BlkRep.sub {g:Value} {blk:Blk} (h:BlkRep I μ w g blk) (hn:∀i∈UI blk,∀g,μ i=some g->ν i=some g):BlkRep I ν w g blk:=by
 cases blk with
 | immb t sz xs=>exact h
 | cells t sz cs =>
  obtain ⟨hs,b,vs,h1,h2,h3,h4⟩:=h;exact ⟨hs,b,vs,h1,h2,h3.sub hn,h4⟩
 | row t sz es=>exact h
 | map kv=>exact h
 | siter s pos=>exact h
 | pin=>exact h
 | bun id S =>
  obtain ⟨b,bs,h1,h2,h3⟩:=h;exact ⟨b,bs,hn id (by simp [UI]) _ h1,h2,h3⟩
 | hp A=>exact h
 | adr id b=>exact ⟨h.1,hn id (by simp [UI]) _ h.2⟩
 | mapx kv b es c=>exact h
 | miter b s z c=>exact h
def RetL (tt:TT) (rs:List ResultVar) (out:Out):DQ:=λx env st _=>match x,out with
 | .ret,.ret d st'=>∃ds,Py tt env st rs=some ds/\zab (HH ds) d/\∀i b,Az st' i b->Az st i b
 | .norm,.ret d st'=>∃ds,Py tt env st rs=some ds/\zab (HH ds) d/\∀i b,Az st' i b->Az st i b
 | .panic x,.pan y=>x=y
 | _,_=>False
theorem pJ {f: FuncId} {fn: Func} {c: Code} {ds: List D} {st0: St} {out: Out} (htt : TTok P tt) (hf : P.funcs[f]? = some fn) (hname : (fn.name == "runtime.NumGoroutine") = false) (hb : fn.body = some c) (ids:List Nat) (hsz:Nat.ble ds.length fn.ntmps=true) (hn1:ids.Nodup) (hn2:∀i∈ids,i∉DY st0) (hn3:∀i∈I0 ds,i∈DY st0) (hn4:∀i∈F3 st0,i∈DY st0) (h:DGo P fn.ntmps (DY st0) (RetL tt fn.results.toList out) [.code c] (LY 0 ds) st0 ids):IR P f ds st0 out:=by
 intro I μ w xs hst hx;rw [B6 hf hname hb];refine za3 hf hb λb cs hbf _ hbr=>?_;obtain ⟨ν,hν⟩:∃ν:Mu,ν=λi=>if EX (DY st0) i=true then μ i else none:=⟨_,rfl⟩
 have hν1:∀i∈DY st0,ν i=μ i:=λi hi=>by rw [hν];simp [BR.2 hi]
 have hlive:∀i b,Az st0 i b->i∈DY st0:=by
  intro i b hl;have:∀{st0:St},Az st0 i b->i∈DY st0:=by
   intro st0
   induction st0 with
   | nil=>intro h;simp [Az,lk] at h
   | cons p r ih =>
    obtain ⟨k,y⟩:=p;intro h;by_cases hk:k=i
    ·subst hk;simp [DY]
    ·have:Az r i b:=by unfold Az at h ⊢;rwa [A6 _ _ hk] at h
     simp only [DY,Cv,CA];exact .inr (ih this)
  exact this hl
 have hst1:StRep I ν st0 ids w:=by
  refine { imm:=hst.imm,blk:=λi b hl=>?_,apart:=λi bb g k hl hg hk=>hst.apart i bb g k hl (by rw [<- hν1 i (hlive i bb hl)];exact hg) hk,inj:=λi j bi bj gi gj k hi hj hgi hgj=>hst.inj i j bi bj gi gj k hi hj (by rw [<- hν1 i (hlive i bi hi)];exact hgi) (by rw [<- hν1 j (hlive j bj hj)];exact hgj),nodup:=hn1,idsFree:=λi hi=>?_ }
  ·obtain ⟨g,hg,hr⟩:=hst.blk i b hl;refine ⟨g,by rw [hν1 i (hlive i b hl)];exact hg,hr.sub λj hj g hgj=>?_⟩;rw [hν1 j (hn4 j ((EG hl).2 j hj))];exact hgj
  ·rw [hν];have:=hn2 i hi;have hm:EX (DY st0) i=false:=by
    cases h:EX (DY st0) i with
    | false=>rfl
    | true=>exact absurd (BR.1 h) this
   simp [hm]
 have hx1:RepL I ν xs.toList ds:=hx.sub λj hj g hg=>by rw [hν1 j (hn3 j hj)];exact hg
 have hlen:xs.size=ds.length:=by have:=hx.1;simpa using this
 have hsz':ds.length<=fn.ntmps:=by simpa [Nat.ble_eq] using hsz
 have hc:Conc fn.ntmps I ν (LY 0 ds) st0 ids { tmps:=xs++Array.replicate (fn.ntmps-xs.size) undef,defers:=[] } w :=
  {hst1 with
   size:=(by simp;omega)
   env:=λt d hl=>by
    obtain ⟨j,rfl,hd⟩:=Tu hl;have hj:j<ds.length:=(AO.1 hd).1;have hjx:j<xs.size:=by omega
    have e:(xs++Array.replicate (fn.ntmps-xs.size) undef).getD (0+j) undef=xs[j]:=by
     rw [Dw];simp [Array.getD,Array.getElem_append_left hjx];omega
    rw [e];exact hx1.2 j _ d (by simp [hjx]) hd
   defers:=MarksOk.nil _ _ _ _ }
 have hown:∀b,Bu ν st0 b↔Bu μ st0 b:=λb=>by
  constructor <;> rintro ⟨i,bi,g,h1,h2,h3⟩
  ·exact ⟨i,bi,g,h1,by rw [<- hν1 i (hlive i bi h1)];exact h2,h3⟩
  ·exact ⟨i,bi,g,h1,by rw [hν1 i (hlive i bi h1)];exact h2,h3⟩
 have hrun:=h ⟨b,.inr ⟨hbr,fn,by rw [hbf];exact hf⟩⟩ cs I ν { tmps:=xs++Array.replicate (fn.ntmps-xs.size) undef,defers:=[] } w [.code c] AC hc;refine hrun.mono λe a' w' hp=>?_;obtain ⟨x,env',st',ids',I',μ',p1,p2,p3,p4,p5',p6⟩:=hp;obtain ⟨rs,m1,m2,m3⟩:=p3.defers;have hrs:∀r∈rs,w.heap.size<=r:=λr hr=>by
  rcases p6 r (by rw [m1];exact Cc.2 ⟨r,hr,rfl⟩) with h | h
  ·simp at h
  ·exact h
 obtain ⟨w2,k1,k2,k3,k4,k5,k6⟩:=Tp (P:=P) rs w' m2 (λr hr=>(m3 r hr).1);have hS2:StRep I' μ' st' ids' w2 :=
  {imm:=λb o h=>by rw [k6 b (λhm=>by rw [(m3 b hm).2.1] at h;cases h)];exact p3.imm b o h
   blk:=λi b hl=>by
    obtain ⟨g,hg,hr⟩:=p3.blk i b hl;exact ⟨g,hg,hr.world λbb hbb=>k6 bb λhm=>(m3 bb hm).2.2 ⟨i,b,g,hl,hg,hbb⟩⟩
   apart:=λi b g bb hl hg hbb=>by rw [k5];exact p3.apart i b g bb hl hg hbb
   inj:=p3.inj
   nodup:=p3.nodup
   idsFree:=p3.idsFree }
 have p5:Ext I ν st0 w I' μ' st' w2 :=
  {imm:=p5'.imm,os:=k2.trans p5'.os,tape:=k3.trans p5'.tape,output:=k4.trans p5'.output,size:=by rw [k5];exact p5'.size
   block:=λb hb ho=>(k6 b λhm=>by have:=hrs b hm;omega).trans (p5'.block b hb ho),fresh:=p5'.fresh,old:=p5'.old }
 have fin:∀d st1,out = .ret d st1->(∃ds,Py tt env' st' fn.results.toList=some ds/\zab (HH ds) d/\∀i b,Az st1 i b->Az st' i b)->∃w'' v,Ui P a'.defers w' w''/\(results fn a'.tmps).run P w'' = .ok v w'' /\
   (match (Ending.returned v) with
    | .returned v=>(match out with
     | .ret d st'=>∃I' μ',RepD I' μ' v d/\StRep I' μ' st' [] w''/\Pin (DY st0) μ μ'/\Ext I μ st0 w I' μ' st' w''
     | .pan _=>False)
    | .panicked chain=>(match out with
     | .ret _ _=>False
     | .pan x=>KZ (· = x) I μ st0 w chain w'')
    | .outgrown=>False):=by
  rintro d st1 rfl ⟨ds',r1,r2,r3⟩;obtain ⟨vs,q1,q2⟩:=Y9 htt hS2 p3.env r1;refine ⟨w2,_,by rw [m1];exact k1,q1,I',μ',Qh r2 (fB q2),hS2.less (r3) .nil (λ_ h=>by simp at h),λi hi g hg=>p4 i hi g (by rw [hν1 i hi];exact hg),?_⟩;exact { imm:=p5.imm,os:=p5.os,tape:=p5.tape,output:=p5.output,size:=p5.size,block:=λb hb ho=>p5.block b hb (λh=>ho ((hown b).1 h)),fresh:=λb hb ⟨i,bi,g,h1,h2⟩=>(hown b).1 (p5.fresh b hb ⟨i,bi,g,r3 i bi h1,h2⟩),old:=λb hb ho=>p5.old b hb (λh=>ho ((hown b).1 h)) }
 cases e with
 | normal =>
  cases x <;> simp only [Ot] at p1;cases hout:out with
  | ret d st1=>subst hout;exact fin d st1 rfl p2
  | pan y=>subst hout;exact p2.elim
 | ret =>
  cases x <;> simp only [Ot] at p1;cases hout:out with
  | ret d st1=>subst hout;exact fin d st1 rfl p2
  | pan y=>subst hout;exact p2.elim
 | panic chain =>
  cases x <;> simp only [Ot] at p1;rename_i x;obtain ⟨v,rfl,hv⟩:=p1;cases hout:out with
  | ret d st1=>subst hout;exact p2.elim
  | pan y =>
   subst hout;have p2:x=y:=p2;subst p2;refine ⟨w2,by rw [m1];exact k1,v,x,I',rfl,rfl,hv,hS2.imm,?_⟩;exact { imm:=p5.imm,os:=p5.os,tape:=p5.tape,output:=p5.output,size:=p5.size,block:=λb hb ho=>p5.block b hb (λh=>ho ((hown b).1 h)),fresh:=λb hb ⟨i,bi,g,h1,h2⟩=>by simp [Az,lk] at h1,old:=λb hb ho=>p5.old b hb (λh=>ho ((hown b).1 h)) }
 | exit id =>
  cases x <;> simp only [Ot] at p1;exact p2.elim
 | goto l =>
  cases x <;> simp only [Ot] at p1;exact p2.elim
 | outgrown=>cases x <;> simp only [Ot] at p1
theorem Ac {f: FuncId} {fn: Func} {c: Code} {ds: List D} {st0: St} {out: Out} (htt : TTok P tt) (hf : P.funcs[f]? = some fn) (hname : (fn.name == "runtime.NumGoroutine") = false) (hb : fn.body = some c) (ids:List Nat) (hsz:Nat.ble ds.length fn.ntmps=true) (hn:(JQ ids&&Pa ids (DY st0)&&Pl (I0 ds) (DY st0)&&Pl (F3 st0) (DY st0))=true) (h:G P fn.ntmps (DY st0) (Lb tt fn.results.toList out) [.code c] (LY 0 ds) st0 ids):IR P f ds st0 out:=by
 simp only [A2] at hn;obtain ⟨⟨⟨hn1,hn2⟩,hn3⟩,hn4⟩:=hn;refine pJ htt hf hname hb ids hsz (HK hn1) (KK.1 hn2) (Fu hn3) (Fu hn4) (h.go.mono λx env st ids hq=>?_);cases x <;> cases out <;> first
  | exact hq
  | exact hq.elim
  | exact ⟨hq.choose,hq.choose_spec.1,hq.choose_spec.2.1,λi b hl=>Fq hq.choose_spec.2.2 i b hl⟩
theorem AQ {fn:Func} {c:Code} {out:Out} (htt:TTok P tt) (hf:P.funcs[f]?=some fn) (hb:fn.body=some c) (ids : List Nat) (h : G P fn.ntmps (DY st0) (Lb tt fn.results.toList out) [.code c] (LY 0 ds) st0 ids) (hname : (fn.name == "runtime.NumGoroutine") = false := by decide +kernel) (hsz:Nat.ble ds.length fn.ntmps=true:=by rfl) (hn:(JQ ids&&Pa ids (DY st0)&&Pl (I0 ds) (DY st0)&&Pl (F3 st0) (DY st0))=true:=by rfl):IR P f ds st0 out:=Ac htt hf hname hb ids hsz hn h
end
mutual
def Ez:V->Prop
 | .sl es=>es.length<=maxLen/\Qe es
 | .agg cs=>Cx cs
 | .tup cs=>Cx cs
 | .iface _ x=>Ez x
 | _=>True
def Cx:List V->Prop
 | []=>True
 | x::r=>Ez x/\Cx r
def Qe:List (List V)->Prop
 | []=>True
 | e::r=>Cx e/\Qe r
end
theorem JE:∀{l:List V},Cx l↔∀x∈l,Ez x
 | []=>by simp [Cx]
 | x::r=>by simp [Cx,JE (l:=r)]
theorem It:∀{l:List (List V)},Qe l↔∀e∈l,Cx e
 | []=>by simp [Qe]
 | x::r=>by simp [Qe,It (l:=r)]
def eN (env:Env):Env->Prop
 | []=>True
 | (t,d')::r=>(match lk env t with
  | some d=>zab d d'
  | none=>False)/\eN env r
def bK:Blk->Blk->Prop
 | .cells t sz cs,.immb t' sz' xs=>t=t'/\sz=sz'/\Ga cs=some xs
 | .immb t sz xs,.cells t' sz' cs=>t=t'/\sz=sz'/\xs.map .imm=cs
 | b,b'=>b=b'
def kP (st:St):St->Prop
 | []=>True
 | (i,some b')::r=>(match lk st i with
  | some (some b)=>bK b b'
  | _=>False)/\kP st r
 | (_,none)::_=>False
def TG (ids l:List Nat):List Nat->Bool
 | []=>true
 | i::r=>(EX ids i || !EX l i)&&TG ids l r
theorem Rj {ids l:List Nat}:∀{m:List Nat},TG ids l m=true->∀i∈m,i∈ids\/i∉l
 | [],_,i,h=>by simp at h
 | x::r,h,i,hi=>by
  simp only [TG,A2,Hv,JX] at h;rcases CA.1 hi with rfl | hi
  ·exact h.1.imp (λh=>BR.1 h) λh hm=>by rw [BR.2 hm] at h;cases h
  ·exact Rj h.2 i hi
section
variable {n:Nat} {env:Env} {k:List DI}
theorem RepV.ok (h:RepV I v x):Ez x:=by
 induction h with
 | agg cs xs hl _ _ ih =>
  simp only [Ez,JE];intro x hx;obtain ⟨i,hi⟩:=DE.1 hx;have hlt:i<cs.size:=by rw [hl];exact (AO.1 hi).1
  exact ih i cs[i] x (by simp [hlt]) hi
 | tup cs xs hl _ ih =>
  simp only [Ez,JE];intro x hx;obtain ⟨i,hi⟩:=DE.1 hx;have hlt:i<cs.size:=by rw [hl];exact (AO.1 hi).1
  exact ih i cs[i] x (by simp [hlt]) hi
 | slnil=>simp [Ez,Qe]
 | sl0=>simp [Ez,Qe]
 | sl b o len cap sz es vs hl hc hm hsz hcell _ ih =>
  simp only [Ez,It,JE];refine ⟨by omega,λe he x hx=>?_⟩;obtain ⟨i,hi⟩:=DE.1 he;obtain ⟨j,hj⟩:=DE.1 hx;exact ih i e j x hi hj
 | iface t v x _ ih=>exact ih
 | _=>trivial
theorem zau:∀{env':Env},eN env env'->∀t d',lk env' t=some d'->∃d,lk env t=some d/\zab d d'
 | [],_,t,d',h=>by simp [lk] at h
 | (s,x)::r,h,t,d',hl=>by
  by_cases hs:s=t
  ·subst hs;rw [Ay] at hl;cases hl;have h1:=h.1
   split at h1
   ·exact ⟨_,by assumption,h1⟩
   ·exact h1.elim
  ·rw [A6 _ _ hs] at hl;exact zau h.2 t d' hl
theorem NC:∀{st':St},kP st st'->∀i b',Az st' i b'->∃b,Az st i b/\bK b b'
 | [],_,i,b,h=>by simp [Az,lk] at h
 | (s,none)::r,h,_,_,_=>h.elim
 | (s,some x)::r,h,i,b',hl=>by
  by_cases hs:s=i
  ·subst hs;unfold Az at hl;rw [Ay] at hl;cases hl;have h1:=h.1
   split at h1
   ·exact ⟨_,by assumption,h1⟩
   ·exact h1.elim
  ·refine NC h.2 i b' ?_;unfold Az at hl ⊢;rwa [A6 _ _ hs] at hl
theorem eJ {g:Value} {b':Blk} (h:bK b b') (hr:BlkRep I μ w g b):BlkRep I μ w g b':=by
 unfold bK at h
 split at h
 ·obtain ⟨rfl,rfl,h⟩:=h;obtain ⟨hs,bb,vs,h1,h2,h3,h4⟩:=hr;have:=FZ h h3;exact ⟨by rw [<- hs,<- h3.1,this.1],bb,vs,h1,h2,this,h4⟩
 ·obtain ⟨rfl,rfl,rfl⟩:=h;obtain ⟨hs,bb,vs,h1,h2,h3,h4⟩:=hr;exact ⟨by simpa using hs,bb,vs,h1,h2,h3.imm,h4⟩
 ·subst h;exact hr
theorem Jr (hE:eN env env') (hS:kP st st') (hI:(JQ ids'&&TG ids (W1 env'++F3 st'++F) ids')=true) (h:DGo P n F Q todo env' st' ids'):DGo P n F Q todo env st ids:=by
 intro b cs I μ a w items hd hc;simp only [A2] at hI;obtain ⟨hI1,hI2⟩:=hI;obtain ⟨ν,hν⟩:∃ν:Mu,ν=λi=>if EX ids' i=true then none else μ i:=⟨_,rfl⟩
 have hno:∀i∈W1 env'++F3 st'++F,∀g,μ i=some g->ν i=some g:=by
  intro i hi g hg;rw [hν];have:EX ids' i=false:=by
   cases hm:EX ids' i with
   | false=>rfl
   | true =>
    rcases Rj hI2 i (BR.1 hm) with h | h
    ·rw [hc.idsFree i h] at hg;cases hg
    ·exact absurd hi h
  simp [this,hg]
 have hback:∀i g,ν i=some g->μ i=some g:=by
  intro i g hg;rw [hν] at hg;by_cases hm:EX ids' i=true
  ·simp [hm] at hg
  ·simpa [hm] using hg
 have hlive:∀i b',Az st' i b'->∃b,Az st i b:=λi b' hl=>let ⟨b,h1,_⟩:=NC hS i b' hl;⟨b,h1⟩
 have nmE_mem:∀{env:Env} {t:Nat} {d:D},lk env t=some d->∀i∈J9 d,i∈W1 env:=by
  intro env
  induction env with
  | nil=>intro t d h;simp [lk] at h
  | cons p r ih =>
   obtain ⟨s,x⟩:=p;intro t d h i hi;simp only [W1,BU];by_cases hs:s=t
   ·subst hs;rw [Ay] at h;cases h;exact .inl hi
   ·rw [A6 _ _ hs] at h;exact .inr (ih h i hi)
 have hEx:Ext I μ st w I ν st' w :=
  {imm:=Imm.le_refl I,os:=rfl,tape:=rfl,output:=rfl,size:=BL _,block:=λ_ _ _=>rfl,
     fresh:=λb _ ⟨i,b',g,h1,h2,h3⟩=>let ⟨bb,q⟩:=hlive i b' h1;⟨i,bb,g,q,hback i g h2,h3⟩,old:=λ_ _ _=>rfl }
 have hc':Conc n I ν env' st' ids' a w :=
  {imm:=hc.imm
   blk:=λi b' hl=>by
    obtain ⟨b,h1,h2⟩:=NC hS i b' hl;obtain ⟨g,hg,hr⟩:=hc.blk i b h1;obtain ⟨q1,q2⟩:=EG hl;exact ⟨g,hno i (by simp [q1]) g hg,(eJ h2 hr).sub λj hj g hg=>hno j (by simp [q2 j hj]) g hg⟩
   apart:=λi b' g k hl hg hk=>by
    obtain ⟨b,h1⟩:=hlive i b' hl;exact hc.apart i b g k h1 (hback i g hg) hk
   inj:=λi j bi bj gi gj k hi hj hgi hgj hki hkj=>by
    obtain ⟨b1,h1⟩:=hlive i bi hi;obtain ⟨b2,h2⟩:=hlive j bj hj;exact hc.inj i j b1 b2 gi gj k h1 h2 (hback i gi hgi) (hback j gj hgj) hki hkj
   nodup:=HK hI1
   idsFree:=λi hi=>by rw [hν];simp [BR.2 hi]
   size:=hc.size
   env:=λt d' hl=>by
    obtain ⟨d,h1,h2⟩:=zau hE t d' hl;exact (Qh h2 (hc.env t d h1)).sub λj hj g hg=>hno j (by simp [nmE_mem hl j hj]) g hg
   defers:=hc.defers.ext hEx }
 exact (h b cs I ν a w items hd hc').mono λe a' w' hp=>hp.back (λi hi g hg=>hno i (by simp [hi]) g hg)<|hEx
theorem Ae (h:DGo P n F Q todo env' st' ids') (hE:eN env env') (hS:kP st st') (hI:(JQ ids'&&TG ids (W1 env'++F3 st'++F) ids')=true):DGo P n F Q todo env st ids:=Jr hE hS hI h
theorem XD {c:Code} (E:α->Env) (S:α->St) (ids':List Nat) (m:α->Nat) (Inv:α->Prop) (step:∀x,Inv x->(∀x',m x'<m x->Inv x'->DGo P n F Q (.inLoop c::k) (E x') (S x') ids')->DGo P n F Q (.code c :: .inLoop c::k) (E x) (S x) ids') :
  ∀x,Inv x->DGo P n F Q (.inLoop c::k) (E x) (S x) ids':=by
 have:∀b x,m x<b->Inv x->DGo P n F Q (.inLoop c::k) (E x) (S x) ids':=by
  intro b
  induction b with
  | zero=>intro x h;omega
  | succ b ih=>intro x hm hx;exact aM (step x hx λx' hm' hx'=>ih x' (by omega) hx')
 intro x hx;exact this (m x+1) x (by omega) hx
theorem Ak {c:Code} (E:α->Env) (S:α->St) (ids':List Nat) (m:α->Nat) (Inv:α->Prop) (x0:α) (h0:Inv x0) (hE:eN env (E x0)) (hS:kP st (S x0)) (hI:(JQ ids'&&TG ids (W1 (E x0)++F3 (S x0)++F) ids')=true) (step:∀x,Inv x->(∀x',m x'<m x->Inv x'->DGo P n F Q (.inLoop c::k) (E x') (S x') ids')->DGo P n F Q (.code c :: .inLoop c::k) (E x) (S x) ids') :
  DGo P n F Q (.code (.loop c)::k) env st ids :=
 Sw (Jr hE hS hI (XD E S ids' m Inv step x0 h0))
theorem FN {t:Nat} (hl:lk env t=some (.imm x)) (h:Ez x->DGo P n F Q todo env st ids):DGo P n F Q todo env st ids :=
 λb cs I μ a w items hd hc=>h (hc.env t _ hl).immInv.ok b cs I μ a w items hd hc
theorem Bl {v:V} (h:Cx vs->GL P f vs v):GL P f vs v:=by
 intro I μ w xs hst hx;refine h (JE.2 λx hxm=>?_) I μ w xs hst hx;obtain ⟨j,hj⟩:=DE.1 hxm;have hlt:j<xs.toList.length:=by rw [hx.1];simpa using (AO.1 hj).1
 exact (hx.2 j _ (.imm x) (Bw hlt) (by simp [hj])).immInv.ok
end
def NN:List DI->Option Oper
 | .ops _ (o::_)::_=>some o
 | .dops _ (o::_) _::_=>some o
 | _=>none
def Ip (st:St):D->Option (List Nat×List (List V))
 | .nils=>some ([],[])
 | .own id _=>match lk st id with
  | some (some (.row _ _ es))=>some ([id],es)
  | _=>none
 | .clip es=>some ([],es)
 | _=>none
def Mj:D->Option (List (List V))
 | .imm (.sl es)=>some es
 | .nils=>some []
 | _=>none
def qD (sz bytes:Nat) (base:D) (es es2:List (List V)):Prop :=
 (∀c∈es2,c.length=sz)/\es.length+es2.length<=maxLen/\(es.length+es2.length)*bytes<=140737488355328 /\
 match base with
 | .clip _=>(∀c∈es,c.length=sz)/\es2≠[]
 | .own _ _=>True
 | _=>True
section
variable {n:Nat} {env:Env} {k:List DI}
theorem RepV.oneV (h:RepV I v x) (h1:v.oneCell'=true):V.one x=true:=by
 cases h <;> first | rfl | simp [Value.oneCell'] at h1
theorem PI (hI:I.ok w) (h:RepV I v (.sl es)) (hs:∀c∈es,c.length=sz) (hp:0<sz) :
  ((∃ad,v = .slice ad 0 0)/\es=[])\/∃b o c news,v = .slice (some ⟨b,o,none⟩) es.length c/\es.length<=c/\c<=maxLen/\news.length=es.length*sz/\(∀j u,news[j]?=some u->w.cell? ((⟨b,o,none⟩:Addr).add j)=some u) /\
   (∀u∈news,u.oneCell'=true)/\RepVL I news es.flatten/\(∀e∈es,∀x∈e,V.one x=true):=by
 cases h with
 | slnil=>exact .inl ⟨⟨_,rfl⟩,rfl⟩
 | sl0 ad=>exact .inl ⟨⟨_,rfl⟩,rfl⟩
 | sl b o len cap sz' _ vs hl hc hm hsz hcell hrep =>
  subst hl;refine .inr ⟨b,o,cap,(List.range (es.length*sz)).map λq=>vs (q / sz) (q % sz),rfl,hc,hm,by simp,?_,?_,?_,?_⟩
  all_goals
   have hget:∀j,j<es.length*sz->∃e x,es[j / sz]?=some e/\e[j % sz]?=some x/\e.length=sz/\sz'=sz:=by
    intro j hj;have h1:j / sz<es.length:=nE (by rw [QQ];exact hj);have h2:j % sz<sz:=LR _ hp;have h3:=hs es[j / sz] (I6 _);have h4:=hsz es[j / sz] (I6 _);exact ⟨es[j / sz],(es[j / sz])[j % sz],Bw h1,Bw (by omega),h3,by omega⟩
  ·intro j u hu;obtain ⟨hlt,rfl⟩:=Gu hu;obtain ⟨e,x,h1,h2,_,rfl⟩:=hget j hlt;have:=Imm.cell_world hI (hcell _ _ _ _ h1 h2).1;rw [H5];rw [show o+j=o+j / sz'*sz'+j % sz' by rw [WH,QQ,Zv]];exact this
  ·intro u hu;obtain ⟨j,hj⟩:=DE.1 hu;obtain ⟨hlt,rfl⟩:=Gu hj;obtain ⟨e,x,h1,h2,_,rfl⟩:=hget j hlt;exact (hcell _ _ _ _ h1 h2).2
  ·refine ⟨by rw [B4 hs];simp,λj u x hu hx=>?_⟩;obtain ⟨hlt,rfl⟩:=Gu hu;obtain ⟨e,y,h1,h2,_,rfl⟩:=hget j hlt;have h3:=C4 hs _ _ _ _ h1 h2;rw [QQ,Zv,hx] at h3;cases h3;exact hrep _ _ _ _ h1 h2
  ·intro e he x hx;obtain ⟨i,hi⟩:=DE.1 he;obtain ⟨j,hj⟩:=DE.1 hx;exact (hrep _ _ _ _ hi hj).oneV (hcell _ _ _ _ hi hj).2
theorem StRep.renew {id':Nat} (hst:StRep I μ st (id'::ids) w) {rd:List Nat} {v':Value} {blk':Blk} {row:Option Nat} (hg:w.grownBy w' row) (hrow:∀b,row=some b->∃id blk g,id∈rd/\Az st id blk/\μ id=some g/\En g b) (hnew:∀b,En v' b->b<w'.heap.size/\(w.heap.size<=b\/∃id blk g,id∈rd/\Az st id blk/\μ id=some g/\En g b)) (hb:∀μ',BlkRep I μ' w' v' blk') :
  ∃μ',μ' id'=some v'/\μ.le μ'/\StRep I μ' ((id',some blk')::C2 rd++st) ids w'/\Ext I μ st w I μ' ((id',some blk')::C2 rd++st) w':=by
 have hid:μ id'=none:=hst.idsFree id' (by simp);have hle:μ.le (λi=>if i=id' then some v' else μ i):=λi v h=>by
  have:i≠id':=λe=>by rw [e,hid] at h;cases h
  simp [this,h]
 have hrowI:∀b,row=some b->I b=none:=λb hr=>by
  obtain ⟨id,blk,g,_,h2,h3,h4⟩:=hrow b hr;exact (hst.apart id blk g b h2 h3 h4).1
 have hlive:∀i b,Az ((id',some blk')::C2 rd++st) i b->(i=id'/\b=blk')\/(i≠id'/\i∉rd/\Az st i b):=by
  intro i b h;rcases AB.1 h with h | ⟨h1,h2⟩
  ·exact .inl h
  ·obtain ⟨h3,h4⟩:=LV h2;exact .inr ⟨h1,h3,h4⟩
 have hother:∀i g,i≠id'->(if i=id' then some v' else μ i)=some g->μ i=some g:=λi g hne h=>by rwa [if_neg hne] at h
 have hkeep:∀i b g k,i∉rd->Az st i b->μ i=some g->En g k->w'.heap[k]?=w.heap[k]?:=by
  intro i b g k h1 h2 h3 h4;refine hg.block k (hst.apart i b g k h2 h3 h4).2 λhk=>?_;obtain ⟨id,blk,g',q1,q2,q3,q4⟩:=hrow k hk.symm;have:=hst.inj i id b blk g g' k h2 q2 h3 q3 h4 q4;subst this;exact h1 q1
 have hclash:∀i b g k,i∉rd->Az st i b->μ i=some g->En g k->¬En v' k:=by
  intro i b g k h1 h2 h3 h4 h5;rcases (hnew k h5).2 with h | ⟨id,blk,g',q1,q2,q3,q4⟩
  ·have:=(hst.apart i b g k h2 h3 h4).2;omega
  ·have:=hst.inj i id b blk g g' k h2 q2 h3 q3 h4 q4;subst this;exact h1 q1
 refine ⟨λi=>if i=id' then some v' else μ i,by simp,hle,?_,?_⟩
 ·refine { imm:=λb o h=>?_,blk:=λi b hl=>?_,apart:=λi b g k hl hgi hk=>?_,inj:=λi j bi bj gi gj k hi hj hgi hgj hki hkj=>?_,nodup:=(Lj.1 hst.nodup).2,idsFree:=λi hi=>?_ }
  ·have h1:=hst.imm b o h;rw [hg.block b (BZ h1) (λhk=>by rw [hrowI b hk.symm] at h;cases h)];exact h1
  ·rcases hlive i b hl with ⟨rfl,rfl⟩ | ⟨h1,h2,h3⟩
   ·exact ⟨v',by simp,hb _⟩
   ·obtain ⟨g,hgi,hr⟩:=hst.blk i b h3;exact ⟨g,by simp [h1,hgi],(hr.mono (Imm.le_refl I) hle).world λk hk=>hkeep i b g k h2 h3 hgi hk⟩
  ·rcases hlive i b hl with ⟨rfl,rfl⟩ | ⟨h1,h2,h3⟩
   ·simp at hgi;subst hgi;obtain ⟨h1,h2⟩:=hnew k hk;refine ⟨?_,h1⟩;rcases h2 with h2 | ⟨id,blk,g',q1,q2,q3,q4⟩
    ·cases h:I k with
     | none=>rfl
     | some o=>have:=BZ (hst.imm _ _ h);omega
    ·exact (hst.apart id blk g' k q2 q3 q4).1
   ·obtain ⟨q1,q2⟩:=hst.apart i b g k h3 (hother i g h1 hgi) hk;exact ⟨q1,YZ q2 hg.size⟩
  ·rcases hlive i bi hi with ⟨rfl,rfl⟩ | ⟨h1,h2,h3⟩ <;> rcases hlive j bj hj with ⟨rfl,rfl⟩ | ⟨p1,p2,p3⟩
   ·rfl
   ·simp at hgi;subst hgi;exact absurd hki (hclash j bj gj k p2 p3 (hother j gj p1 hgj) hkj)
   ·simp at hgj;subst hgj;exact absurd hkj (hclash i bi gi k h2 h3 (hother i gi h1 hgi) hki)
   ·exact hst.inj i j bi bj gi gj k h3 p3 (hother i gi h1 hgi) (hother j gj p1 hgj) hki hkj
  ·have hne:i≠id':=λe=>(Lj.1 hst.nodup).1 (e ▸ hi);simp [hne,hst.idsFree i (by simp [hi])]
 ·refine { imm:=Imm.le_refl I,os:=hg.os,tape:=hg.tape,output:=hg.output,size:=hg.size,block:=λb hb ho=>hg.block b hb (λhk=>?_),fresh:=λb hb ho=>?_,old:=λ_ _ _=>rfl }
  ·obtain ⟨id,blk,g',_,q2,q3,q4⟩:=hrow b hk.symm;exact ho ⟨id,blk,g',q2,q3,q4⟩
  ·obtain ⟨i,bi,g,hl,hgi,hk⟩:=ho;rcases hlive i bi hl with ⟨rfl,rfl⟩ | ⟨h1,h2,h3⟩
   ·simp at hgi;subst hgi;rcases (hnew b hk).2 with h | ⟨id,blk,g',_,q2,q3,q4⟩
    ·omega
    ·exact ⟨id,blk,g',q2,q3,q4⟩
   ·exact ⟨i,bi,g,h3,hother i g h1 hgi,hk⟩
theorem lZ {b:Nat} {k:Nat} (h:w.ownsRow 0 t sz v k xs) (hb:En v b):v.ownBlock=some b:=by
 rcases h.2 with ⟨rfl,_⟩ | ⟨g,cap,cur,rfl,_⟩
 ·simp [En] at hb
 ·simpa [En,Value.ownBlock] using hb
theorem lY {b:Nat} (hb:v.ownBlock=some b):En v b:=by
 unfold Value.ownBlock at hb
 split at hb
 ·cases hb;rfl
 ·cases hb
theorem Ww {k:Nat} (h:w.ownsRow 0 t sz v k xs):∃a cap,v = .slice a k cap:=by
 rcases h.2 with ⟨rfl,rfl⟩ | ⟨g,cap,cur,rfl,_⟩
 ·exact ⟨none,0,rfl⟩
 ·exact ⟨_,cap,rfl⟩
theorem fX (htt:TTok P tt) {all:List Oper} {x y:Operand} {ti i:TyI} {dx dy:D} {rd:List Nat} {id':Nat} {es2:List (List V)} (hg:o.guard=none) (ho:o.op = .call { callee:=.builtin .append,args:=⟨[x,y]⟩,argTypes:=⟨[t,t]⟩ }) (ht:lk tt t=some ti) (hsh:ti.sh = .sl e) (hi:lk tt e=some i) (hz:(Nat.beq i.zero.length i.size&&Nat.blt 0 i.size)=true) (hx:DN env x=some dx) (hb:Ip st dx=some (rd,es)) (hrow:∀id,rd=[id]->lk st id=some (some (.row e i.size es))) (hy:DN env y=some dy) (hs:Mj dy=some es2) (hok:qD i.size i.bytes dx es es2) :
  LD P Pn all o env st rd [id'] ((id',some (.row e i.size (es++es2)))::C2 rd) (.own id' (es++es2).length):=by
 intro I μ st1 ids1 a w hag hst hon;refine ⟨λ_=>?_,λhw=>by rw [AL hg] at hw;cases hw⟩;have hop:=Bm hon;rw [ho] at hop;have rx:=hop x (by simp [Op.operands,Call.operands]) _ hx;have ry:=hop y (by simp [Op.operands,Call.operands]) _ hy;obtain ⟨inf,z,z1,z2,z3,z4,z5,z6⟩:=(htt e i hi).info;have hu:P.underlying t=some (.slice e):=by have:=htt.sh ht;rwa [hsh] at this
 simp only [A2,HQ] at hz;have hzl:z.cells.size=i.size:=by
  have:=(z5 I μ).1;rw [C7 hz.1] at this;simpa using this
 obtain ⟨k1,k2,k3,k4⟩:=hok;have hyv:RepV I (a.eval y) (.sl es2):=by
  cases dy <;> simp only [Mj,reduceCtorEq,Cf] at hs
  ·rename_i vx;cases vx <;> simp only [Mj,reduceCtorEq,Cf] at hs;subst hs;exact ry.immInv
  ·subst hs;have:=ry;generalize a.eval y=v at this;cases this;exact .slnil
 have hrun:∀{u w'},(Builtin.append_ #[t,t] o.type #[a.eval x,a.eval y]).run P w = .ok u w'->(execOp a.eval o).run P w = .ok (.value u) w':=by
  intro u w' h;simp only [execOp,ho,resolve,invoke,builtin,Sem.run_bind,Sem.run_pure,Result.andThen_ok,Lk,Cv,FB,h]
 have fin:∀{u:Value} {w':World} {xs:List Value} {row:Option Nat},(Builtin.append_ #[t,t] o.type #[a.eval x,a.eval y]).run P w = .ok u w'->w'.ownsRow 0 e i.size u (es.length+es2.length) xs->w.grownBy w' row ->
   (∀b,row=some b->∃id blk g,id∈rd/\Az st1 id blk/\μ id=some g/\En g b)->(∀b,u.ownBlock=some b->row=some b\/w.heap.size<=b)->RepVL I xs (es++es2).flatten->(∀c∈es++es2,c.length=i.size) ->
   (∀c∈es++es2,∀x∈c,V.one x=true) ->
   valX P ((execOp a.eval o).run P w) (λv w'=>∃I' μ',StRep I' μ' ((id',some (.row e i.size (es++es2)))::C2 rd++st1) ids1 w'/\RepD I' μ' v (.own id' (es++es2).length)/\μ.le μ'/\Ext I μ st1 w I' μ' ((id',some (.row e i.size (es++es2)))::C2 rd++st1) w') (KZ Pn I μ st1 w):=by
  intro u w' xs row h1 h2 h3 h4 h5 h6 h7 h8;rw [hrun h1];obtain ⟨μ',q1,q2,q3,q4⟩:=StRep.renew (id':=id') (ids:=ids1) (rd:=rd) (v':=u) (blk':=.row e i.size (es++es2)) hst h3 h4 (λb hb=>by
   have hb':=lZ h2 hb;refine ⟨(h2.lt b hb').2,?_⟩;rcases h5 b hb' with h | h
   ·exact .inr (h4 b h)
   ·exact .inl h) (λμ'=>⟨xs,by rw [AZ];exact h2,h6,h7,h8,hz.2⟩)
  refine ⟨I,μ',q3,?_,q2,q4⟩;obtain ⟨ad,cap,rfl⟩:=Ww h2;rw [AZ];exact .own _ _ _ _ q1
 rcases PI hst.imm hyv k1 hz.2 with ⟨⟨ady,ey⟩,rfl⟩ | ⟨yb,yo,yc,news,ey,_,_,n1,n2,n3,n4,n5⟩
 ·-- nothing
  have hsame:∀(v:Value),a.eval x=v->(∃ad len cap,v = .slice ad len cap/\len<=cap)->(Builtin.append_ #[t,t] o.type #[a.eval x,a.eval y]).run P w = .ok v w:=by
   rintro v hv ⟨ad,len,cap,rfl,hle⟩;rw [hv,ey];cases ad <;> cases ady <;> simp [Builtin.append_,run_underlying hu,sizeOf,typeInfo,z1,Builtin.lenOf,hle,Builtin.firstCells,loadCells,loadCellsFrom,storeCells]
  have hgrow:w.grownBy w none:=⟨rfl,rfl,rfl,BL _,λ_ _ _=>rfl⟩
  cases dx with
  | nils =>
   simp only [Ip,Cf,Bc] at hb;obtain ⟨rfl,rfl⟩:=hb;have hv:a.eval x = .slice none 0 0:=by
    generalize a.eval x=v at rx;cases rx;rfl
   exact fin (hsame _ hv ⟨_,_,_,rfl,BL _⟩) (World.ownsRow_nil w 0 e i.size) hgrow (λb h=>by cases h) (λb h=>by simp [Value.ownBlock] at h) (xs:=[]) .nil (by simp) (by simp)
  | own id nn =>
   simp only [Ip] at hb
   split at hb
   ·rename_i bt sz es0 hl;cases hb;have hl':=hrow id rfl;have hl1:Az st1 id (.row e i.size es):=by unfold Az;rw [hag id (by simp)];exact hl'
    obtain ⟨g,hg1,xs,r1,r2,r3,r4,_⟩:=hst.blk id _ hl1;have hv:a.eval x=g:=by
     generalize a.eval x=v at rx;cases rx with
     | own _ _ ad cap hm=>rw [hm] at hg1;cases hg1;rfl
    have hr0:∃ad len cap,g = .slice ad len cap/\len<=cap:=by
     rcases r1.2 with ⟨rfl,h⟩ | ⟨gb,cap,cur,rfl,_,_,h,_⟩
     ·exact ⟨_,_,_,rfl,BL _⟩
     ·exact ⟨_,_,_,rfl,h⟩
    exact fin (row:=g.ownBlock) (hsame g hv hr0) (by simpa using r1) ⟨rfl,rfl,rfl,BL _,λ_ _ _=>rfl⟩ (λb h=>⟨id,_,g,by simp,hl1,hg1,lY h⟩) (λb h=>.inl h) (xs:=xs) (by simpa using r2) (by simpa using r3) (by simpa using r4)
   ·cases hb
  | clip es'=>exact absurd rfl k4.2
  | _=>simp [Ip] at hb
 ·have hfl:∀{xs:List Value},RepVL I xs es.flatten->RepVL I (xs++news) (es++es2).flatten:=λh=>by rw [Zu];exact h.append n4
  have hnil:a.eval x = .slice none 0 0->es=[] ->
    valX P ((execOp a.eval o).run P w) (λv w'=>∃I' μ',StRep I' μ' ((id',some (.row e i.size (es++es2)))::C2 rd++st1) ids1 w'/\RepD I' μ' v (.own id' (es++es2).length)/\μ.le μ'/\Ext I μ st1 w I' μ' ((id',some (.row e i.size (es++es2)))::C2 rd++st1) w') (KZ Pn I μ st1 w):=λhv he=>by
   subst he;obtain ⟨v',w',q1,q2,q3,_⟩:=run_append_own (P:=P) w w.heap.size t o.type e inf z i.size i.bytes hu z1 z4 z2 z3 hzl hz.2 (.slice none 0 0) 0 [] (World.ownsRow_nil w _ e i.size) ⟨yb,yo,none⟩ es2.length yc news n1 n2 n3
    (by simpa using k2) (by simpa using k3) (BL _)
   have q2':w'.ownsRow 0 e i.size v' (0+es2.length) news:=⟨q2.1,q2.2.imp id λ⟨g,cap,cur,a1,_,a2⟩=>⟨g,cap,cur,a1,AF _,a2⟩⟩
   exact fin (row:=none) (by rw [hv,ey];exact q1) q2' ⟨q3.os,q3.tape,q3.output,q3.size,λb hb _=>q3.block b hb (by simp [Value.ownBlock])⟩ (λb h=>by cases h) (λb h=>.inr (q2.lt b h).1) (hfl .nil) (by simpa using k1) (by simpa using n5)
  have hgrow:∀(ad:Addr) (cap:Nat) (xs:List Value),a.eval x = .slice (some ad) es.length cap->xs.length=es.length*i.size->(∀j u,xs[j]?=some u->w.cell? (ad.add j)=some u)->cap<es.length+es2.length->RepVL I xs es.flatten->(∀c∈es,c.length=i.size)->(∀c∈es,∀x∈c,V.one x=true) ->
    valX P ((execOp a.eval o).run P w) (λv w'=>∃I' μ',StRep I' μ' ((id',some (.row e i.size (es++es2)))::C2 rd++st1) ids1 w'/\RepD I' μ' v (.own id' (es++es2).length)/\μ.le μ'/\Ext I μ st1 w I' μ' ((id',some (.row e i.size (es++es2)))::C2 rd++st1) w') (KZ Pn I μ st1 w):=λad cap xs hv hl hcell hlt hr hsz h1=>by
   have hsmall:es.length+es2.length<=9223372036854775807:=by simp only [maxLen] at k2;omega
   have hr':=run_append_grow (P:=P) w t o.type e inf z hu z1 z4 ad es.length cap xs (by rw [z2];exact hl) hcell ⟨yb,yo,none⟩ es2.length yc news (by rw [z2];exact n1) n2 hlt (by omega) (by rw [z3];exact growslice_fits hlt k3);have hge:=grownCap_ge w (es.length+es2.length) cap e;have hcm:grownCap w (es.length+es2.length) cap e<=maxLen:=grownCap_le_maxLen w _ cap e k2;have hlen:(xs++news).length=(es.length+es2.length)*i.size:=by rw [AZ,hl,n1,QH]
   refine fin (row:=none) (by rw [hv,ey];exact hr') (xs:=xs++news) ⟨hlen,.inr ⟨w.heap.size,_,_,rfl,AF _,Eu w.drew _,hge,hcm,?_,?_⟩⟩ ⟨rfl,rfl,rfl,by simp,λk hk _=>CR w.drew _ hk⟩ (λb h=>by cases h)
    (λb h=>by simp [Value.ownBlock] at h;exact .inr (by omega)) (hfl hr) (λc hc=>(BU.1 hc).elim (hsz c) (k1 c)) (λc hc=>(BU.1 hc).elim (h1 c) (n5 c))
   ·simp only [Array.size_append,Zt,size_zeroCells,hzl,hl,n1,<- QH];congr 1;omega
   ·simp only [JW,Cl];rw [<- Cl,<- hlen];exact Zs
  cases dx with
  | nils =>
   simp only [Ip,Cf,Bc] at hb;obtain ⟨rfl,rfl⟩:=hb;have hv:a.eval x = .slice none 0 0:=by
    generalize a.eval x=v at rx;cases rx;rfl
   exact hnil hv rfl
  | own id nn =>
   simp only [Ip] at hb
   split at hb
   ·rename_i bt sz es0 hl;cases hb;have hl':=hrow id rfl;have hl1:Az st1 id (.row e i.size es):=by unfold Az;rw [hag id (by simp)];exact hl'
    obtain ⟨g,hg1,xs,r1,r2,r3,r4,_⟩:=hst.blk id _ hl1;have hv:a.eval x=g:=by
     generalize a.eval x=v at rx;cases rx with
     | own _ _ ad cap hm=>rw [hm] at hg1;cases hg1;rfl
    rcases r1.2 with ⟨eg,h⟩ | ⟨gb,cap,cur,eg,_,hheap,hle,hcm,hcs,htake⟩
    ·exact hnil (hv.trans eg) (Ll h)
    ·by_cases hroom:es.length+es2.length<=cap
     ·have hfit:es.length*i.size+news.length<=cur.size:=by rw [n1,hcs,<- QH];exact Zr _ hroom
      have hr:=run_append_room (P:=P) w t o.type e inf hu z1 gb es.length cap cur hheap ⟨yb,yo,none⟩ es2.length yc news (by rw [z2];exact n1) n2 n3 hroom (by rw [z2];exact hfit);rw [z2] at hr;have hlen:(xs++news).length=(es.length+es2.length)*i.size:=by rw [AZ,r1.1,n1,QH]
      refine fin (row:=some gb) (by rw [hv,eg,ey];exact hr) (xs:=xs++news) ⟨hlen,.inr ⟨gb,cap,_,rfl,AF _,setRow_heap w gb cur _ e _ hheap,hroom,hcm,?_,?_⟩⟩ ⟨rfl,rfl,rfl,by simp,λk _ hk=>setRow_other w gb k _ (λe=>hk (by simp [e]))⟩
       (λb h=>by cases h;exact ⟨id,_,g,by simp,hl1,hg1,by rw [eg];rfl⟩) (λb h=>by simp [Value.ownBlock] at h;exact .inl (by rw [h])) (hfl r2) (λc hc=>(BU.1 hc).elim (r3 c) (k1 c)) (λc hc=>(BU.1 hc).elim (r4 c) (n5 c))
      ·simp only [Zt,AZ,FA,J2,WI];omega
      ·rw [htake,<- hlen];exact Zs
     ·exact hgrow ⟨gb,0,none⟩ cap xs (hv.trans eg) r1.1 (by rw [eg] at r1;exact r1.cells (g:=gb) rfl) (by omega) r2 r3 r4
   ·cases hb
  | clip es' =>
   simp only [Ip,Cf,Bc] at hb;obtain ⟨rfl,rfl⟩:=hb;have rx':∃ad len,a.eval x = .slice ad len len/\RepV I (.slice ad len len) (.sl es'):=by
    generalize a.eval x=v at rx;cases rx with
    | clip ad len _ h=>exact ⟨ad,len,rfl,h⟩
   obtain ⟨ad,len,hv,hr⟩:=rx';rcases PI hst.imm hr k4.1 hz.2 with ⟨⟨adx,ex⟩,e0⟩ | ⟨xb,xo,xc,xs,ex,_,_,p1,p2,p3,p4,p5⟩
   ·cases adx with
    | none=>exact hnil (hv.trans ex) e0
    | some adx =>
     have hpos:0<es2.length:=nD.2 k4.2;subst e0;exact hgrow adx 0 [] (hv.trans ex) (by simp) (λj u h=>by simp at h) (by simp;omega) .nil (by simp) (by simp)
   ·cases ex;have hpos:0<es2.length:=nD.2 k4.2;exact hgrow ⟨xb,xo,none⟩ _ xs hv p1 p2 (by omega) p4 k4.1 p5
  | _=>simp [Ip] at hb
end
def Mf (cx:Prop) (env:Env) (x:Operand):Option (D×List Prop):=match DN env x with
 | some (.guard c w d)=>some (d,[cx->c=w])
 | some d=>some (d,[])
 | none=>none
structure zam where
 dx:D
 es:List (List V)
 es2:List (List V)
 sz:Nat
 bytes:Nat
 e:TypeId
 rd:List Nat
 id':Nat
 ids':List Nat
 dst:Option Nat
 todo:List DI
def vJ (st:St) (e:TypeId) (sz:Nat):List Nat->Bool
 | []=>true
 | [id]=>match lk st id with
  | some (some (.row e' sz' _))=>Nat.beq e e'&&Nat.beq sz sz'
  | _=>false
 | _=>false
def zM (tt:TT) (n:Nat) (env:Env) (st:St) (ids:List Nat) (todo:List DI):Option zam :=
 match NN todo,ids with
 | some o,id'::ids'=>match o.guard,o.op with
  | none,.call { callee:=.builtin .append,args:=⟨[x,y]⟩,argTypes:=⟨[t,t']⟩ }=>match Nat.beq t t',lk tt t,DN env x,DN env y with
   | true,some { sh:=.sl e,.. },some dx,some dy=>match lk tt e,Ip st dx,Mj dy with
    | some i,some (rd,es),some es2=>match Nat.beq i.zero.length i.size&&Nat.blt 0 i.size,vJ st e i.size rd,BK n o.dst,Bt todo (rd,id'::rd) with
     | true,true,true,some (_,_,todo')=>some ⟨dx,es,es2,i.size,i.bytes,e,rd,id',ids',o.dst,todo'⟩
     | _,_,_,_=>none
    | _,_,_=>none
   | _,_,_,_=>none
  | _,_=>none
 | _,_=>none
section
variable {n:Nat} {env:Env} {k:List DI}
theorem DZ {x:Operand} (h:Mf cx env x=some (d,ob)) (hob:AG ob) (hc:cx) (hv:∀d,DN env x=some d->RepD I μ v d):RepD I μ v d:=by
 unfold Mf at h
 split at h
 ·cases h;rename_i hx;exact (hv _ hx).guardInv (hob.1 hc)
 ·cases h;rename_i hx;exact hv _ hx
 ·cases h
theorem Ko:∀l:List Nat,(C2 l).map (·.1)=l
 | []=>rfl
 | x::r=>by simp [C2,Ko r]
theorem Dd {f:List Nat×List Nat} {o':Oper} {all:List Oper} (h:NN todo=some o) (h':Bt todo f=some (all,o',todo')):o'=o:=by
 unfold NN at h
 split at h
 ·simp [Bt] at h';cases h;exact h'.2.1.symm
 ·simp [Bt] at h';cases h;exact h'.2.1.symm
 ·cases h
theorem Bn (htt:TTok P tt) {c:zam} (h:zM tt n env st ids todo=some c) (hok:qD c.sz c.bytes c.dx c.es c.es2)
  (hk:G P n F Q c.todo (BN c.dst (.own c.id' (c.es++c.es2).length) env) ((c.id',some (.row c.e c.sz (c.es++c.es2)))::C2 c.rd++st) c.ids'):G P n F Q todo env st ids:=by
 unfold zM at h
 split at h
 ·rename_i o id' ids' ho
  split at h
  ·rename_i x y t t' hg hop
   split at h
   ·rename_i e _ _ _ _ dx dy htt' ht hx hy;have:=C7 htt';subst this
    split at h
    ·rename_i i rd es es2 hi hb hs
     split at h
     ·rename_i all o' todo' hz hr hd h1;cases h;have ho':o'=o:=Dd ho h1;subst ho';refine BG (fr:=[id']) (wr:=(id',some (.row e i.size (es++es2)))::C2 rd) (rd:=rd) (by rw [Cv,Ko];exact h1) ?_ hd (λc hc=>by rw [hop] at hc;cases hc) hk;refine fX htt hg hop ht rfl hi hz hx hb (λid hid=>?_) hy hs hok;subst hid;simp only [vJ] at hr
      split at hr
      ·rename_i e' sz' es' hl;simp only [A2] at hr;rw [C7 hr.1,C7 hr.2,hl];have:es'=es:=by
        cases dx <;> simp only [Ip,reduceCtorEq,Cf,Bc] at hb
        ·cases hb.1
        ·split at hb
         ·rename_i hl2;simp only [Cf,Bc,E2,and_true] at hb;obtain ⟨e1,e2⟩:=hb;subst e1;rw [hl2] at hl;cases hl;exact e2
         ·cases hb
        ·cases hb.1
       rw [this]
      ·cases hr
     ·cases h
    ·cases h
   ·cases h
  ·cases h
 ·cases h
theorem D1 {all:List Oper} {rd:List Nat} (hg:Co all env o=some g) (key:∀I μ st1 ids1 a w,Agree rd st st1->StRep I μ st1 ids1 w->DG I μ env a o.op->Ap g ->
   valX P ((execOp a.eval o).run P w) (λu w'=>∃I' μ',StRep I' μ' st1 ids1 w'/\RepD I' μ' u d/\μ.le μ'/\Ext I μ st1 w I' μ' st1 w') (KZ Pn I μ st1 w)) :
  LD P Pn all o env st rd [] [] (gD g d):=by
 intro I μ st1 ids1 a w hag hst hon;have hwant:=FF hg hon;refine ⟨λhw=>?_,λhw=>⟨rfl,rfl,?_⟩⟩
 ·have hcx:=hwant.1 hw;refine (key I μ st1 ids1 a w hag hst (Bm hon) hcx).mono (λv w' ⟨I',μ',q1,q2,q3,q4⟩=>⟨I',μ',q1,?_,q3,q4⟩) (λ_ _ h=>h);cases g with
  | none=>exact q2
  | some p=>exact .guard _ _ _ _ (λ_=>q2) (λhn=>absurd hcx hn)
 ·cases g with
  | none=>rw [hwant.2 trivial] at hw;cases hw
  | some p=>exact .guard _ _ _ _ (λhc=>by rw [hwant.2 hc] at hw;cases hw) (λ_=>rfl)
structure PIdx where
 es:List (List V)
 i:Int
 sz:Nat
 e:TypeId
 g:Option (Bool×Bool)
 ob:List Prop
 dst:Option Nat
 todo:List DI
def Se (tt:TT) (n:Nat) (env:Env) (todo:List DI):Option PIdx :=
 match Bt todo ([],[]) with
 | some (all,o,todo')=>match o.op,Co all env o with
  | .indexAddr t x i,some g=>match lk tt t,Mf (Ap g) env x,Mf (Ap g) env i with
   | some { sh:=.sl e,.. },some (.imm (.sl es),o1),some (.imm (.int _ i),o2)=>match lk tt e,BK n o.dst with
    | some ti,true=>match o.dst with
     | some t=>some ⟨es,i,ti.size,e,g,IS o1 o2,some t,todo'⟩
     | none=>none
    | _,_=>none
   | _,_,_=>none
  | _,_=>none
 | none=>none
theorem Oa {i:TyI} (hu:P.underlying t=some (.slice e)) (hi:TyOk P e i) {b len cap:Nat} {kk:IntKind} (h0:0<=m) (hm:m<len) :
  (Instr.indexAt t (.slice (some ⟨b,off,none⟩) len cap) (.int kk m)).run P w = .ok (.pointer (some ⟨b,off+m.toNat*i.size,none⟩)) w:=by
 simp only [Instr.indexAt,Sem.run_bind,asIntOf,Sem.run_pure,Result.andThen_ok,run_underlying hu];simp [h0,hm,hi.sizeOf w,H5]
theorem HT (htt:TTok P tt) {t:Nat} (h:Se tt n env todo=some ⟨es,m,sz,e,g,ob,some t,todo'⟩) (hc:Ap g->0<=m/\es[m.toNat]?=some c/\c.length=sz) (hob:AG ob) (hk:G P n F Q todo' ((t,gD g (.ip e c 0))::env) st ids):G P n F Q todo env st ids:=by
 unfold Se at h
 split at h
 ·rename_i all o todo' h1
  split at h
  ·rename_i t x i g hop hg
   split at h
   ·rename_i e _ _ _ _ es o1 kk m o2 ht hx hi
    split at h
    ·rename_i ti hti hd
     split at h
     ·rename_i t' hdst;cases h;have hk:G P n F Q todo' (BN o.dst (gD g (.ip e c 0)) env) st ids:=by rw [hdst];exact hk
      refine BG (fr:=[]) (wr:=[]) (rd:=[]) h1 (D1 hg λI μ st1 ids1 a w _ hst hops hcx=>?_) hd (λc hc=>by rw [hop] at hc;cases hc) hk;rw [hop] at hops;obtain ⟨ho1,ho2⟩:=B8 hob;have rx:=(DZ hx ho1 hcx (hops x (by simp [Op.operands]))).immInv;have ri:=(DZ hi ho2 hcx (hops i (by simp [Op.operands]))).immInv.intInv;obtain ⟨c0,c1,c2⟩:=hc hcx;have hu:P.underlying t=some (.slice e):=htt.sh ht;have hlt:=(AO.1 c1).1;simp only [execOp,hop,ri];generalize hv:a.eval x=v at rx;cases rx with
      | slnil=>simp at hlt
      | sl0=>simp at hlt
      | sl b off len cap sz _ vs hl hcap hm hsz hcell hrep =>
       have hs:sz=ti.size:=by rw [<- hsz c (AK c1),c2]
       subst hs;have hr:=Oa (w:=w) hu (htt e ti hti) (b:=b) (off:=off) (len:=len) (cap:=cap) (kk:=kk) c0 (by omega);have hrun:(do pure (.value (<- Instr.indexAt t (.slice (some ⟨b,off,none⟩) len cap) (.int kk m))):Sem Next).run P w = .ok (.value (.pointer (some ⟨b,off+m.toNat*ti.size,none⟩))) w:=A7 hr;rw [hrun];refine ⟨I,μ,hst,?_,Mu.le_refl μ,Ext.refl _ _ _ _⟩;have:=RepD.ip (I:=I) (μ:=μ) b (off+m.toNat*ti.size) e c 0 (vs m.toNat) (λj x hj=>hcell m.toNat c j x c1 hj) (λj x hj=>hrep m.toNat c j x c1 hj);simpa using this
     ·cases h
    ·cases h
   ·cases h
  ·cases h
 ·cases h
end
def PC:List Value->Option (List D)
 | []=>some []
 | v::r=>match cK v,v.oneCell',PC r with
  | some d,true,some ds=>some (d::ds)
  | _,_,_=>none
def zE (P:Program):TypeDesc->Option Sh
 | .bool=>some .bool
 | .int k=>some (.int k)
 | .string=>some .str
 | .pointer e=>some (.ptr e)
 | .slice e=>some (.sl e)
 | .map k e=>some (.map k e)
 | .array n e=>some (.arr n e)
 | .func _ _ _=>some .func
 | .interface _=>some .iface
 | .struct fs=>match fs.toList.all λf=>Nat.blt 0 (P.cellsOf f.type) with
  | true=>some (.struct (fs.toList.map λf=>(f.offset,f.type)))
  | false=>none
 | _=>none
def zah:TypeDesc->Bool
 | .struct _=>true
 | .array _ _=>true
 | _=>false
def wR (P:Program) (t:TypeId):Option TyI:=match P.info? t,P.underlying t with
 | some inf,some u=>match inf.zero,zE P u with
  | some z,some sh=>match PC z.cells.toList with
   | some ds=>some { sh,agg:=zah u,size:=inf.size,bytes:=inf.bytes,zero:=ds }
   | none=>none
  | _,_=>none
 | _,_=>none
def eI (P:Program):List TypeId->TT
 | []=>[]
 | t::r=>match wR P t with
  | some i=>(t,i)::eI P r
  | none=>eI P r
theorem PW:∀{vs:List Value} {ds:List D},PC vs=some ds->(∀I μ,RepL I μ vs ds)/\∀v∈vs,v.oneCell'=true
 | [],ds,h=>by cases h;exact ⟨λ_ _=>.nil,λ_ h=>by simp at h⟩
 | v::r,ds,h=>by
  simp only [PC] at h
  split at h
  ·rename_i d ds' h1 h2 h3;cases h;obtain ⟨q1,q2⟩:=PW h3;exact ⟨λI μ=>.mk (Th h1 I μ) (q1 I μ),λu hu=>(CA.1 hu).elim (λe=>e ▸ h2) (q2 u)⟩
  ·cases h
theorem qZ {i:TyI} (h:wR P t=some i):TyOk P t i:=by
 unfold wR at h
 split at h
 ·rename_i inf u h1 h2
  split at h
  ·rename_i z sh h3 h4
   split at h
   ·rename_i ds h5;cases h;obtain ⟨q1,q2⟩:=PW h5;refine ⟨⟨inf,z,h1,rfl,rfl,h3,q1,q2⟩,?_,?_⟩
    ·funext w;simp only [isAgg,Sem.run_bind,run_underlying h2,Result.andThen_ok];cases u <;> rfl
    ·unfold zE at h4
     split at h4 <;> first | (cases h4;exact h2) | (cases h4;exact ⟨_,_,_,h2⟩) | (cases h4;exact ⟨_,h2⟩) | skip
     ·split at h4
      ·rename_i hall;cases h4;refine ⟨_,h2,rfl,λf hf=>?_⟩;have:=Eo.1 hall f hf;simpa [HQ] using this
      ·cases h4
     ·cases h4
   ·cases h
  ·cases h
 ·cases h
theorem Up {P:Program}:∀{l:List TypeId},TTok P (eI P l)
 | [],t,i,h=>by simp [eI,lk] at h
 | x::r,t,i,h=>by
  simp only [eI] at h
  split at h
  ·rename_i j hj;by_cases hx:x=t
   ·subst hx;rw [Ay] at h;cases h;exact qZ hj
   ·rw [A6 _ _ hx] at h;exact Up t i h
  ·exact Up t i h
theorem TTok.of_eq {l:List TypeId} (h:tt=eI P l):TTok P tt:=h ▸ Up
attribute [simp] AG IS
theorem BW {x:Int} (h0 : -9223372036854775808<=x) (h1:x<=9223372036854775807):IntKind.i64.wrap x=x:=by
 simp only [IntKind.wrap,IntKind.bits,IntKind.signed];simp;omega
theorem A8 {k:IntKind} {a b:Int} (h:a=b):zab (.imm (.int k a)) (.imm (.int k b)):=by rw [h];rfl
theorem M6 {x:Int} (h0 : -9223372036854775808<=x:=by omega) (h1:x<=9223372036854775807:=by omega):zab (.imm (.int .i64 (IntKind.i64.wrap x))) (.imm (.int .i64 x)):=A8 (BW h0 h1)
theorem tV {a b:V} (h:a=b):zab (.imm a) (.imm b):=by rw [h];rfl
theorem Ab {n:Nat} {k:List DI} {env:Env} {rs:List ResultVar} {v u:V} (h1:Py tt env st rs=some ds) (h2:rF (HH ds)=some u) (h3:u=v):DGo P n F (Lb tt rs (.ret (.imm v) [])) (.code .ret::k) env st ids:=Ag ⟨ds,h1,(show rF (HH ds)=some v by rw [h2,h3]),trivial⟩
section
variable {n:Nat} {env:Env} {k:List DI}
theorem L4 (htt:TTok P tt) (hm:P.follows .mixedOrders=true) (f:Nat) (path:List Pt)
  (h:run tt n f path todo env st ids [] = .at k env' st' ids' ob) (hob:AG ob) (hd:G P n F Q k env' st' ids'):DGo P n F Q todo env st ids:=(J4 htt hm f path h hob hd).go
end
mutual
def Rp (id:Nat) (es:List (List V)):D->D
 | .own i n=>bif Nat.beq i id then .imm (.sl es) else .own i n
 | .agg cs=>HM (Sr id es cs)
 | .tup cs=>.tup (Sr id es cs)
 | .fn f a b=>.fn f (Sr id es a) (Sr id es b)
 | .iface t d=>match Rp id es d with
  | .imm x=>.imm (.iface t x)
  | d'=>.iface t d'
 | .guard c w d=>.guard c w (Rp id es d)
 | d=>d
def Sr (id:Nat) (es:List (List V)):List D->List D
 | []=>[]
 | d::r=>Rp id es d::Sr id es r
end
def iG (id:Nat) (es:List (List V)):Env->Env
 | []=>[]
 | (t,d)::r=>(t,Rp id es d)::iG id es r
def tU (id:Nat) (es:List (List V)):Blk->Blk
 | .cells t sz cs=>OK t sz (Sr id es cs)
 | b=>b
def Sq (id:Nat) (es:List (List V)):St->St
 | []=>[]
 | (i,some b)::r=>(i,some (tU id es b))::Sq id es r
 | (i,none)::r=>(i,none)::Sq id es r
theorem GW (id:Nat) (es:List (List V)):∀l:List D,Sr id es l=l.map (Rp id es)
 | []=>rfl
 | d::r=>by simp [Sr,GW id es r]
section
variable {n:Nat} {env:Env} {id:Nat} {g:Value}
theorem RepD.frz (h:RepD I μ v d) (hIJ:I.le J) (hg:μ id=some g) (hr:RepV J g (.sl es)):RepD J μ v (Rp id es d):=by
 have at_:∀{l:List D} {i:Nat} {x:D},(Sr id es l)[i]?=some x->∃y,l[i]?=some y/\x=Rp id es y:=by
  intro l i x hx;rw [GW,Et] at hx;cases hl:l[i]? with
  | none=>rw [hl] at hx;cases hx
  | some y=>rw [hl] at hx;cases hx;exact ⟨y,rfl,rfl⟩
 induction h with
 | undef v=>exact .undef v
 | imm v x hx=>exact .imm v x (hx.mono hIJ)
 | nils=>exact .nils
 | ref b id off hm=>exact .ref b id off hm
 | ip b o t cs off vs hcell hrep=>exact (RepD.ip b o t cs off vs hcell hrep).mono hIJ (Mu.le_refl μ)
 | agg cs ds hl h1 _ ih =>
  have:RepD J μ (.agg cs.toList.toArray) (HM (Sr id es ds)):=He ⟨by rw [GW,Dh,<- hl];simp,λi c x hc hx=>by
   obtain ⟨y,hy,rfl⟩:=at_ hx;exact ih i c y (by simpa using hc) hy⟩ h1
  simpa [Rp] using this
 | tup cs ds hl _ ih =>
  refine .tup cs _ (by rw [GW,Dh,hl]) λi c x hc hx=>?_;obtain ⟨y,hy,rfl⟩:=at_ hx;exact ih i c y hc hy
 | own i len a cap hm =>
  simp only [Rp];cases hb:Nat.beq i id with
  | false=>exact .own i len a cap hm
  | true =>
   rw [C7 hb,hg] at hm;cases hm;exact .imm _ _ hr
 | elp b id len cap k sz f hm=>exact .elp b id len cap k sz f hm
 | mapr id b hm=>exact .mapr id b hm
 | iter id b hm=>exact .iter id b hm
 | fn f first cap df dc hf hc _ _ ih1 ih2 =>
  refine .fn f first cap _ _ (by rw [GW,Dh,hf]) (by rw [GW,Dh,hc]) (λi c x h1 h2=>?_) (λi c x h1 h2=>?_)
  ·obtain ⟨y,hy,rfl⟩:=at_ h2;exact ih1 i c y h1 hy
  ·obtain ⟨y,hy,rfl⟩:=at_ h2;exact ih2 i c y h1 hy
 | iface t v d _ ih =>
  simp only [Rp]
  split
  ·rename_i x hx;rw [hx] at ih;exact .imm _ _ (.iface t v x ih.immInv)
  ·exact .iface t v _ ih
 | guard c want v d _ hu ih=>exact .guard c want v _ ih hu
 | clip a len es hr=>exact .clip a len es (hr.mono hIJ)
 | slc b id off len cap hm hl hx=>exact .slc b id off len cap hm hl hx
 | yld b id hm=>exact .yld b id hm
 | raw v h=>exact .raw v h
 | hv v id i vs bs hm hi h1=>exact .hv v id i vs bs hm hi h1
theorem BlkRep.frz {gb:Value} {blk:Blk} (h:BlkRep I μ w gb blk) (hIJ:I.le J) (hg:μ id=some g) (hr:RepV J g (.sl es)):BlkRep J μ w gb (tU id es blk):=by
 cases blk with
 | cells t sz cs =>
  obtain ⟨hs,b,vs,rfl,h2,h3,h4⟩:=h;refine Hd h2 ⟨by rw [GW,Dh,h3.1],λi v x hv hx=>?_⟩ h4 (by rw [GW,Dh,hs]);rw [GW,Et] at hx;cases hl:cs[i]? with
  | none=>rw [hl] at hx;cases hx
  | some y=>rw [hl] at hx;cases hx;exact (h3.2 i v y hv hl).frz hIJ hg hr
 | _=>exact h.mono hIJ (Mu.le_refl μ)
theorem Oe {i:Nat} {b:Blk}:∀{st:St},Az (Sq id es st) i b->∃b0,Az st i b0/\b=tU id es b0
 | [],h=>by simp [Sq,Az,lk] at h
 | (k,some x)::r,h=>by
  simp only [Sq] at h;rcases AB.1 h with ⟨h1,h2⟩ | ⟨h1,h2⟩
  ·exact ⟨x,by unfold Az;rw [h1,Ay],h2⟩
  ·obtain ⟨b0,q1,q2⟩:=Oe h2;exact ⟨b0,AB.2 (.inr ⟨h1,q1⟩),q2⟩
 | (k,none)::r,h=>by
  simp only [Sq] at h;obtain ⟨h1,h2⟩:=BV.1 h;obtain ⟨b0,q1,q2⟩:=Oe h2;exact ⟨b0,BV.2 ⟨h1,q1⟩,q2⟩
theorem Bv (id:Nat) (hl:lk st id=some (some (.row e sz es))) (h:DGo P n F Q todo (iG id es env) ((id,none)::Sq id es st) ids):DGo P n F Q todo env st ids:=by
 intro b cs I μ a w items hd hc;have hlive:Az st id (.row e sz es):=hl;obtain ⟨g,hg,xs,hown,hrep,hsz,hone,hp⟩:=hc.blk id _ hlive;obtain ⟨J,hJ,hJr,hJo⟩:∃J:Imm,I.le J/\RepV J g (.sl es)/\(∀k o,J k=some o->(I k=some o\/(En g k/\w.heap[k]?=some o))):=by
  rcases hown.2 with ⟨rfl,h0⟩ | ⟨gb,cap,cur,rfl,_,hheap,hle,hcm,hcs,htake⟩
  ·have:es=[]:=Ll h0;subst this;exact ⟨I,Imm.le_refl I,.slnil,λk o h=>.inl h⟩
  ·have hno:=(hc.apart id _ _ gb hlive hg rfl).1;have hle':I.le (λk=>if k=gb then some (.cells cur e (0,0)) else I k):=λk o h=>by
    have:k≠gb:=λe=>by rw [e,hno] at h;cases h
    simp [this,h]
   refine ⟨_,hle',?_,λk o h=>?_⟩
   ·have hcell:∀(i:Nat) (c:List V) (j:Nat) (x:V),es[i]?=some c->c[j]?=some x->∃v,xs[i*sz+j]?=some v/\cur[i*sz+j]?=some v/\RepV I v x/\v.oneCell'=true:=by
     intro i c j x hi hj;have h1:=C4 hsz i c j x hi hj;have hlt:i*sz+j<xs.length:=by rw [hrep.1];exact (AO.1 h1).1
     obtain ⟨v,hv⟩:∃v,xs[i*sz+j]?=some v:=⟨_,Bw hlt⟩
     have hr:=hrep.2 _ _ _ hv h1;refine ⟨v,hv,?_,hr,?_⟩
     ·rw [<- htake,Dl] at hv
      split at hv
      ·simpa using hv
      ·cases hv
     ·have:=hone c (AK hi) x (AK hj);exact hr.one this
    refine .sl gb 0 _ cap sz es (λi j=>(cur[i*sz+j]?).getD undef) rfl hle hcm hsz (λi c j x hi hj=>?_) (λi c j x hi hj=>?_)
    ·obtain ⟨v,_,h2,_,h4⟩:=hcell i c j x hi hj;simp [Imm.cell,h2,h4]
    ·obtain ⟨v,_,h2,h3,_⟩:=hcell i c j x hi hj;simp only [h2,MB];exact h3.mono hle'
   ·by_cases hk:k=gb
    ·subst hk;simp at h;subst h;exact .inr ⟨rfl,hheap⟩
    ·simp [hk] at h;exact .inl h
 have hst:∀i bi,Az ((id,none)::Sq id es st) i bi->i≠id/\∃b0,Az st i b0/\bi=tU id es b0:=λi bi h=>by
  obtain ⟨h1,h2⟩:=BV.1 h;exact ⟨h1,Oe h2⟩
 have hE:Ext I μ st w J μ ((id,none)::Sq id es st) w :=
  {imm:=hJ,os:=rfl,tape:=rfl,output:=rfl,size:=BL _
   block:=λ_ _ _=>rfl
   fresh:=λk _ ⟨i,bi,gi,h1,h2,h3⟩=>let ⟨_,b0,q,_⟩:=hst i bi h1;⟨i,b0,gi,q,h2,h3⟩
   old:=λk _ ho=>by
      cases hJk:J k with
      | none =>
       cases hIk:I k with
       | none=>rfl
       | some o=>rw [hJ k o hIk] at hJk;cases hJk
      | some o =>
       rcases hJo k o hJk with h | ⟨h,_⟩
       ·exact h.symm
       ·exact absurd ⟨id,_,g,hlive,hg,h⟩ ho }
 have hc':Conc n J μ (iG id es env) ((id,none)::Sq id es st) ids a w :=
  {imm:=λk o h=>(hJo k o h).elim (λh=>hc.imm k o h) λh=>h.2
   blk:=λi bi hli=>by
    obtain ⟨_,b0,h2,rfl⟩:=hst i bi hli;obtain ⟨gi,hgi,hr⟩:=hc.blk i b0 h2;exact ⟨gi,hgi,hr.frz hJ hg hJr⟩
   apart:=λi bi gi k hli hgi hk=>by
    obtain ⟨h1,b0,h2,rfl⟩:=hst i bi hli;obtain ⟨q1,q2⟩:=hc.apart i b0 gi k h2 hgi hk;refine ⟨?_,q2⟩;cases hJk:J k with
    | none=>rfl
    | some o =>
     rcases hJo k o hJk with h | ⟨h,_⟩
     ·rw [q1] at h;cases h
     ·exact absurd (hc.inj i id b0 _ gi g k h2 hlive hgi hg hk h) h1
   inj:=λi j bi bj gi gj k hi hj hgi hgj hki hkj=>by
    obtain ⟨_,b1,h1,rfl⟩:=hst i bi hi;obtain ⟨_,b2,h2,rfl⟩:=hst j bj hj;exact hc.inj i j b1 b2 gi gj k h1 h2 hgi hgj hki hkj
   nodup:=hc.nodup
   idsFree:=hc.idsFree
   size:=hc.size
   env:=λt d hlt=>by
    have:∀{env:Env},lk (iG id es env) t=some d->∃d0,lk env t=some d0/\d=Rp id es d0:=by
     intro env
     induction env with
     | nil=>intro h;simp [iG,lk] at h
     | cons p r ih =>
      obtain ⟨s,x⟩:=p;intro h;simp only [iG] at h;by_cases hs:s=t
      ·subst hs;rw [Ay] at h;cases h;exact ⟨x,Ay _ _ _,rfl⟩
      ·rw [A6 _ _ hs] at h;rw [A6 _ _ hs];exact ih h
    obtain ⟨d0,h1,rfl⟩:=this hlt;exact (hc.env t d0 h1).frz hJ hg hJr
   defers:=hc.defers.ext hE }
 exact (h b cs J μ a w items hd hc').mono λe' a' w' hp=>hp.back (.refl _ _)<|hE
end
structure Uj where
 f:FuncId
 das:List D
 ob:List Prop
 dst:Option Nat
 o:Oper
 all:List Oper
def TY (n:Nat) (env:Env) (todo:List DI):Option Uj :=
 match Bt todo ([],[]) with
 | some (all,o,_)=>match o.guard,o.op with
  | none,.call { callee:=.value (.func f),args:=⟨args⟩,.. }=>match Ik True env args,BK n o.dst with
   | some (ds,ob),true=>some ⟨f,ds,ob,o.dst,o,all⟩
   | _,_=>none
  | none,.call { callee:=.value (.tmp t),args:=⟨args⟩,.. }=>match lk env t,Ik True env args,BK n o.dst with
   | some (.imm (.fn (.func f))),some (ds,ob),true=>some ⟨f,ds,ob,o.dst,o,all⟩
   | some (.fn (.func f) df dc),some (ds,ob),true=>some ⟨f,df++ds++dc,ob,o.dst,o,all⟩
   | _,_,_=>none
  | _,_=>none
 | none=>none
def kS:List (Nat×Nat)->List Nat
 | []=>[]
 | (_,b)::r=>b::kS r
def FH:List (Nat×Nat)->List Nat
 | []=>[]
 | (a,_)::r=>a::FH r
def LH (σ τ1:List (Nat×Nat)) (das:List D) (st0:St) (d:D) (st1:St) (fr:List Nat):Bool :=
 Di σ (Br σ) (I0 das)&&Di σ (Br σ) (FH σ)&&Pl (kS σ) (DY st0)&&Di (Br σ++τ1) (σ++Br τ1) (J9 d)&&Di (Br σ++τ1) (σ++Br τ1) (F3 st1)&&Pl (kS τ1) fr
theorem Ux:∀l:List (Nat×Nat),kS l=l.map (·.2)
 | []=>rfl
 | (a,b)::r=>by simp [kS,Ux r]
theorem KG:∀l:List (Nat×Nat),FH l=l.map (·.1)
 | []=>rfl
 | (a,b)::r=>by simp [FH,KG r]
section
variable {n:Nat} {env:Env} {k:List DI}
theorem NQ (h:LH σ τ1 das st0 d st1 fr=true):dY σ τ1 das st0 d st1 fr:=by
 simp only [LH,A2] at h;obtain ⟨⟨⟨⟨⟨h1,h2⟩,h3⟩,h4⟩,h5⟩,h6⟩:=h;exact ⟨h1,by rw [<- KG];exact h2,λp hp=>Fu h3 _ (by rw [Ux];exact UU hp),h4,h5,λp hp=>Fu h6 _ (by rw [Ux];exact UU hp)⟩
theorem FP (hag:Agree (FH σ) st st1):∀{st0:St},EZ σ st st0->EZ σ st1 st0
 | [],_=>trivial
 | (i,none)::_,h=>h.elim
 | (i,some b)::r,h=>by
  refine ⟨?_,FP hag h.2⟩;have h1:=h.1;cases ha:lk (Br σ) i with
  | none=>simp [ha] at h1
  | some a =>
   simp only [ha] at h1 ⊢;refine ⟨h1.1,?_⟩;have hm:a∈FH σ:=by rw [KG];exact Cc.2 ⟨(a,i),JY ha,rfl⟩
   rw [hag a hm];exact h1.2
theorem tB {all:List Oper} (hg:o.guard=none) (hc:EN P o env f das True) (hE:IR P f (F7 (Ep σ) das) st0 (.ret d st1)) (hb:EZ σ st st0) (hn:LH σ τ1 das st0 d st1 fr=true) :
  LD P Pn all o env st (FH σ) fr (EQ (Br σ++τ1) st1++C2 (FH σ)) (JL (Ep (Br σ++τ1)) d):=by
 intro I μ st2 ids1 a w hag hst hon;refine ⟨λ_=>?_,λhw=>by rw [AL hg] at hw;cases hw⟩;obtain ⟨xs,h1,h2⟩:=hc I μ a w (Bm hon) trivial;have hb':=FP hag hb;have hN:=NQ hn;obtain ⟨q1,q2,q3⟩:=Gp hst hb' hN.args h1;rw [h2];refine (hE I _ w xs q1 q2).mono (λu w' hu=>?_) (λ_ _ h=>h.elim);obtain ⟨I',μ',r1,r2,r3,r4⟩:=hu;obtain ⟨ν,s1,s2,s3,s4⟩:=KT hst hb' hN r1 r2 r3 r4 q3;rw [<- KG] at s1 s4;exact ⟨I',ν,s1,s2,s3,s4⟩
theorem Nd {c:Uj} (h:TY n env todo=some c) (hob:AG c.ob):(∀f,∃todo',Bt todo f=some (c.all,c.o,todo'))/\c.o.guard=none/\EN P c.o env c.f c.das True/\BK n c.dst=true/\(∀x,c.o.op ≠ .defer x)/\c.dst=c.o.dst:=by
 unfold TY at h;have hnext:∀{all:List Oper} {o:Oper} {t:List DI},Bt todo ([],[])=some (all,o,t)->∀f,∃todo',Bt todo f=some (all,o,todo'):=by
  intro all o t h f;rcases I1 h with ⟨r,k,rfl,_⟩ | ⟨r,fs,k,rfl,_⟩
  ·exact ⟨_,rfl⟩
  ·exact ⟨_,rfl⟩
 split at h
 ·rename_i all o t h1
  split at h
  ·rename_i f args ts hg ho
   split at h
   ·rename_i ds ob ha hd;cases h;exact ⟨hnext h1,hg,FO ho ha hob,hd,(λx hx=>by rw [ho] at hx;cases hx),rfl⟩
   ·cases h
  ·rename_i t' args ts hg ho
   split at h
   ·rename_i f ds ob ht ha hd;cases h;exact ⟨hnext h1,hg,Fo ho ht ha hob,hd,(λx hx=>by rw [ho] at hx;cases hx),rfl⟩
   ·rename_i f df dc ds ob ht ha hd;cases h;exact ⟨hnext h1,hg,In ho ht ha hob,hd,(λx hx=>by rw [ho] at hx;cases hx),rfl⟩
   ·cases h
  ·cases h
 ·cases h
theorem Af {c:Uj} (σ τ1:List (Nat×Nat)) {nm:List Nat} (h:TY n env todo=some c) (hob:AG c.ob) (hE:IR P c.f (F7 (Ep σ) c.das) st0 (.ret d st1)) (hb:EZ σ st st0) (hn:LH σ τ1 c.das st0 d st1 fr=true) (hnm:(EQ (Br σ++τ1) st1++C2 (FH σ)).map (·.1)=nm) (h1:Bt todo (FH σ,nm)=some (c.all,c.o,todo')) (hids:ids=fr++ids') (hk:G P n F Q todo' (BN c.dst (JL (Ep (Br σ++τ1)) d) env) (EQ (Br σ++τ1) st1++C2 (FH σ)++st) ids'):G P n F Q todo env st ids:=by
 obtain ⟨_,q2,q3,q4,q5,q6⟩:=Nd (P:=P) h hob;subst hids;rw [q6] at q4 hk;subst hnm;exact BG h1 (tB q2 q3 hE hb hn) q4 q5 hk
theorem C8 {n:Nat} {env:Env} {todo1:List DI} {c:Uj} (h:TY n env todo=some c) (hE:IR P c.f (F7 (Ep [(1,1)]) c.das) st0 (.ret d st1)) (hb:EZ [(1,1)] st st0) (h1:Bt todo (FH [(1,1)],(EQ (Br [(1,1)]++[]) st1++C2 (FH [(1,1)])).map (·.1))=some (c.all,c.o,todo1)) (hk:G P n F Q todo1 (BN c.dst (JL (Ep (Br [(1,1)]++[])) d) env) (EQ (Br [(1,1)]++[]) st1++C2 (FH [(1,1)])++st) ids) (hn:LH [(1,1)] [] c.das st0 d st1 []=true:=by rfl) (hob:AG c.ob:=by simp):G P n F Q todo env st ids :=
 Af (fr:=[]) [(1,1)] [] h hob hE hb hn rfl h1 rfl hk
theorem Jf {n:Nat} {env:Env} {ids1:List Nat} {todo1:List DI} (fr:List Nat) {c:Uj} (σ τ1:List (Nat×Nat)) (h:TY n env todo=some c) (hE:IR P c.f (F7 (Ep σ) c.das) st0 (.ret d st1)) (hb:EZ σ st st0) (h1:Bt todo (FH σ,(EQ (Br σ++τ1) st1++C2 (FH σ)).map (·.1))=some (c.all,c.o,todo1)) (hids:ids=fr++ids1) (hk:G P n F Q todo1 (BN c.dst (JL (Ep (Br σ++τ1)) d) env) (EQ (Br σ++τ1) st1++C2 (FH σ)++st) ids1) (hn:LH σ τ1 c.das st0 d st1 fr=true:=by rfl) (hob:AG c.ob:=by simp):G P n F Q todo env st ids :=
 Af (fr:=fr) σ τ1 h hob hE hb hn rfl h1 hids hk
theorem AI {c:Uj} {all rest:List Oper} (σ:List (Nat×Nat)) (h:TY n env (.ops all (o::rest)::k)=some c) (hob:AG c.ob) (hE:IR P c.f (F7 (Ep σ) c.das) st0 (.pan x)) (hb:EZ σ st st0) (hn:Di σ (Br σ) (I0 c.das)=true) (hq:KY Q x):DGo P n F Q (.ops all (o::rest)::k) env st ids:=by
 obtain ⟨q1,q2,q3,q4,q5,_⟩:=Nd (P:=P) h hob;obtain ⟨t,ht⟩:=q1 ([],[]);simp only [Bt,Cf,Bc] at ht;obtain ⟨_,ho,_⟩:=ht;subst ho;intro b cs I μ a w items hd hc;obtain ⟨j,is,rfl,hr,hk⟩:=HY hd;obtain ⟨hj,_⟩:=DM hr;have hon:J6 (c.o.looksAt all.toArray) I μ env a:=λt _ d hl=>hc.env t d hl;have hlen:(c.o::rest).length=rest.length+1:=rfl;rw [hlen,OM];refine F8 hj (AL q2) q5 ?_;obtain ⟨xs,h1,h2⟩:=q3 I μ a w (Bm hon) trivial;obtain ⟨p1,p2,p3⟩:=Gp hc.toStRep hb hn h1;rw [h2];refine valX.upon ((hE I _ w xs p1 p2).mono (λ_ _ h=>h.elim) λchain w' hp=>?_);obtain ⟨v,y,I',r1,r2,r3,r4,r5⟩:=hp;subst r2
 have hE':Ext I μ st w I' μ [] w':={ imm:=r5.imm,os:=r5.os,tape:=r5.tape,output:=r5.output,size:=r5.size,block:=λb hb ho=>r5.block b hb (λh=>ho (p3 b h)),fresh:=λb hb ⟨i,bi,g,h1,_⟩=>by simp [Az,lk] at h1,old:=λb hb ho=>r5.old b hb (λh=>ho (p3 b h)) }
 exact ⟨.panic y,[],[],[],I',μ,⟨v,r1,r3⟩,hq,Ku r4 hc.size (hc.defers.ext hE'),.refl _ _,hE',.refl _ _⟩
end
theorem Fh:prog.follows .mixedOrders=true:=by kernel_rfl
def bI:TT:=[
 (4,⟨.bool,false,1,1,[.imm (.bool false)]⟩),
 (3,⟨.int .i64,false,1,8,[.imm (.int .i64 0)]⟩),
 (9,⟨.str,false,1,16,[.imm (.str [])]⟩),
 (49,⟨.struct [(0,45),(1,3),(2,9),(3,46),(4,47)],true,5,80,[.imm (.int .i64 0),.imm (.int .i64 0),.imm (.str []),.nils,.nils]⟩),
 (25,⟨.struct [(0,22),(1,3),(2,9),(3,23)],true,4,56,[.imm (.int .i64 0),.imm (.int .i64 0),.imm (.str []),.nils]⟩),
 (182,⟨.struct [(0,180),(1,3),(2,9),(3,47)],true,4,56,[.imm (.int .i64 0),.imm (.int .i64 0),.imm (.str []),.nils]⟩),
 (45,⟨.int .i64,false,1,8,[.imm (.int .i64 0)]⟩),
 (47,⟨.sl 182,false,1,24,[.nils]⟩),
 (5,⟨.int .u8,false,1,1,[.imm (.int .u8 0)]⟩),
 (23,⟨.sl 25,false,1,24,[.nils]⟩),
 (22,⟨.int .i64,false,1,8,[.imm (.int .i64 0)]⟩),
 (73,⟨.sl 9,false,1,24,[.nils]⟩),
 (46,⟨.sl 49,false,1,24,[.nils]⟩),
 (180,⟨.int .i64,false,1,8,[.imm (.int .i64 0)]⟩),
 (71,⟨.struct [(0,9),(1,9),(2,25),(6,25),(10,49)],true,15,224,[.imm (.str []),.imm (.str []),.imm (.int .i64 0),.imm (.int .i64 0),.imm (.str []),.nils,.imm (.int .i64 0),.imm (.int .i64 0),.imm (.str []),.nils,.imm (.int .i64 0),.imm (.int .i64 0),.imm (.str []),.nils,.nils]⟩),
 (43,⟨.struct [(0,9),(1,40),(2,41)],true,3,64,[.imm (.str []),.nils,.nils]⟩),
 (178,⟨.struct [(0,9),(1,23)],true,2,40,[.imm (.str []),.nils]⟩),
 (40,⟨.sl 113,false,1,24,[.nils]⟩),
 (41,⟨.sl 71,false,1,24,[.nils]⟩),
 (113,⟨.struct [(0,9),(1,111)],true,2,40,[.imm (.str []),.nils]⟩),
 (111,⟨.sl 178,false,1,24,[.nils]⟩),
 (28,⟨.int .i64,false,1,8,[.imm (.int .i64 0)]⟩)]
theorem Bf:TTok prog bI:=.of_eq (l:=[4,3,9,49,25,182,45,47,5,23,22,73,46,180,71,43,178,40,41,113,111,28]) (by kernel_rfl)
def zF:Code->Code
 | .seq _ b=>b
 | _=>.skip
def Gx (f:Func):Nat->Code
 | 0=>match f.body with
  | some c=>c
  | none=>.skip
 | k+1=>zF (Gx f k)
section
variable {n:Nat} {env:Env} {k:List DI}
abbrev Tq2:=DGo prog
abbrev Tq1:=G prog
theorem kd (path:List Pt) (h:run bI n 300 path todo env st ids [] = .at k env' st' ids' ob) (hob:AG ob) (hd:Tq1 n F Q k env' st' ids'):Tq2 n F Q todo env st ids:=L4 Bf Fh 300 path h hob hd
theorem Bb (h:run bI n 300 [] todo env st ids [] = .at k env' st' ids' ob) (hd:Tq1 n F Q k env' st' ids') (hob:AG ob:=by simp):Tq2 n F Q todo env st ids:=kd [] h hob hd
theorem kdqc (h:run bI n 300 [] todo env st ids [] = .at k env' st' ids' ob) (hd:Tq1 n F Q k env' st' ids') (hob:AG ob:=by simp [Ap]):Tq2 n F Q todo env st ids:=kd [] h hob hd
theorem kg (path:List Pt) (h:run bI n 300 path todo env st ids [] = .at k env' st' ids' ob) (hob:AG ob) (hd:Tq1 n F Q k env' st' ids'):Tq1 n F Q todo env st ids:=J4 Bf Fh 300 path h hob hd
theorem AS (h:run bI n 300 [] todo env st ids [] = .at k env' st' ids' ob) (hd:Tq1 n F Q k env' st' ids') (hob:AG ob:=by simp):Tq1 n F Q todo env st ids:=kg [] h hob hd
theorem kgqc (h:run bI n 300 [] todo env st ids [] = .at k env' st' ids' ob) (hd:Tq1 n F Q k env' st' ids') (hob:AG ob:=by simp [Ap]):Tq1 n F Q todo env st ids:=kg [] h hob hd
theorem ki {t:Nat} (h:Se bI n env todo=some ⟨es,m,sz,e,g,ob,some t,todo'⟩) (hc:Ap g->0<=m/\es[m.toNat]?=some c/\c.length=sz) (hob:AG ob) (hk:Tq1 n F Q todo' ((t,gD g (.ip e c 0))::env) st ids):Tq1 n F Q todo env st ids:=HT Bf h hc hob hk
theorem Q8 {t:Nat} (h:Se bI n env todo=some ⟨es,(i:Int),sz,e,g,ob,some t,todo'⟩) (hg:es[i]?=some c) (hk:Tq1 n F Q todo' ((t,gD g (.ip e c 0))::env) st ids) (hl:c.length=sz:=by simp) (hob:AG ob:=by simp):Tq1 n F Q todo env st ids:=ki h (λ_=>⟨by omega,by simpa using hg,hl⟩) hob hk
theorem kizc {t:Nat} (h:Se bI n env todo=some ⟨es,(i:Int),sz,e,g,ob,some t,todo'⟩) (hg:es[i]?=some c) (hk:Tq1 n F Q todo' ((t,gD g (.ip e c 0))::env) st ids) (hl:c.length=sz:=by simp) (hob:AG ob:=by simp [Ap]):Tq1 n F Q todo env st ids:=ki h (λ_=>⟨by omega,by simpa using hg,hl⟩) hob hk
end
abbrev Str:=List UInt8
inductive Ty where
 | mk (s n:Int) (x:Str) (ps:List Ty)
mutual
def dTyc:Ty->List V
 | .mk s n x ps=>[.int .i64 s,.int .i64 n,.str x,.sl (dTys ps)]
def dTys:List Ty->List (List V)
 | []=>[]
 | t::r=>dTyc t::dTys r
end
inductive Tm where
 | mk (op n:Int) (x:Str) (ks:List Tm) (ps:List Ty)
mutual
def Al:Tm->List V
 | .mk op n x ks ps=>[.int .i64 op,.int .i64 n,.str x,.sl (Dq ks),.sl (dTys ps)]
def Dq:List Tm->List (List V)
 | []=>[]
 | t::r=>Al t::Dq r
end
structure Cd where
 name:Str
 args:List Ty
structure Dt where
 name:Str
 cons:List Cd
structure Fd where
 name:Str
 param:Str
 from_:Ty
 to_:Ty
 body:Tm
structure Md where
 name:Str
 datas:List Dt
 funs:List Fd
def CK (c:Cd):List V:=[.str c.name,.sl (dTys c.args)]
def BE (d:Dt):List V:=[.str d.name,.sl (d.cons.map CK)]
def Cg (f:Fd):List V:=[.str f.name,.str f.param]++dTyc f.from_++dTyc f.to_++Al f.body
def Du (m:Md):List V:=[.str m.name,.sl (m.datas.map BE),.sl (m.funs.map Cg)]
def E6 (l:List Str):List (List V):=l.map λs=>[.str s]
theorem CU:∀l:List Ty,dTys l=l.map dTyc
 | []=>rfl
 | t::r=>by simp [dTys,CU r]
theorem KP:∀l:List Tm,Dq l=l.map Al
 | []=>rfl
 | t::r=>by simp [Dq,KP r]
@[simp] theorem dTys_length (l:List Ty):(dTys l).length=l.length:=by rw [CU];simp
@[simp] theorem dTms_length (l:List Tm):(Dq l).length=l.length:=by rw [KP];simp
@[simp] theorem dTyc_length (t:Ty):(dTyc t).length=4:=by cases t;rfl
@[simp] theorem dTmc_length (t:Tm):(Al t).length=5:=by cases t;rfl
@[simp] theorem dStr_length (l:List Str):(E6 l).length=l.length:=by simp [E6]
theorem AA {l:List Ty} {t:Ty} (h:l[i]?=some t):(dTys l)[i]?=some (dTyc t):=by rw [CU];simp [h]
theorem E5 {l:List Tm} {t:Tm} (h:l[i]?=some t):(Dq l)[i]?=some (Al t):=by rw [KP];simp [h]
theorem RD {l:List Str} {t:Str} (h:l[i]?=some t):(E6 l)[i]?=some [.str t]:=by simp [E6,h]
theorem E4 (a b:List Ty):dTys (a++b)=dTys a++dTys b:=by simp [CU]
theorem Kq (a b:List Tm):Dq (a++b)=Dq a++Dq b:=by simp [KP]
theorem Pd (a b:List Str):E6 (a++b)=E6 a++E6 b:=by simp [E6]
theorem As {l:List α} {t:α} (h:l[i]?=some t):l.drop i=t::l.drop (i+1):=by
 obtain ⟨h1,h2⟩:=AO.1 h;rw [<- h2];exact List.drop_eq_getElem_cons h1
theorem Bk {l:List α} {t:α} (h:l[i]?=some t):l.take (i+1)=l.take i++[t]:=by
 rw [List.take_add_one,h];rfl
theorem Am {l:List α} (h:i<l.length):∃t,l[i]?=some t:=⟨_,Bw h⟩
def BS:List Str->Str->Bool
 | [],_=>false
 | x::r,s=>x == s||BS r s
abbrev Tq3:=GL prog
theorem bE (l:List Str) (s:Str):Tq3 38 [.sl (E6 l),.str s] (.bool (BS l s)):=by
 refine Bl λhv=>?_;simp [Cx,Ez,maxLen] at hv;refine AQ Bf func38 rfl [1,2]<|AS rfl<|Ak (λi:Nat=>[(5,.imm (.int .i64 i)),(0,.imm (.sl (E6 l))),(1,.imm (.str s))]) (λ_=>[]) [1] (λi=>l.length-i) (λi=>i<=l.length/\BS l s=BS (l.drop i) s) 0
  ⟨AF _,rfl⟩ AH trivial rfl λi hi ih=>?_
 refine Bb rfl<|Aa rfl (λh=>?_) (λh=>?_)
 ·simp at h;obtain ⟨t,ht⟩:=Am h;refine Bb rfl<|ki rfl (c:=[.str t]) (λ_=>⟨by simp,by simpa using RD ht,rfl⟩) (by simp)<|AS rfl ?_;have e:=hi.2;rw [As ht] at e;refine Aa rfl (λh=>?_) (λh=>?_)
  ·refine Bb rfl<|Ab rfl rfl (congrArg _ ?_);rw [e];simp [BS,h]
  ·refine Bb rfl<|Ae (ih (i+1) (by omega) ⟨by omega,by rw [e];simp [BS,h]⟩) ⟨M6,AD⟩ trivial rfl
 ·refine Bb rfl<|Ab rfl rfl (congrArg _ ?_);simp at h;rw [hi.2,Bh (by omega)];rfl
def Fr (s:Str):Bool:=s.all λc=>97<=c&&c<=122
theorem OA {s:Str} {c:UInt8} (h:s[i]?=some c):Fr (s.drop i)=((97<=c&&c<=122)&&Fr (s.drop (i+1))):=by
 rw [As h];simp [Fr]
theorem VQ (s:Str) (hs:s.length<=9223372036854775806):Tq3 101 [.str s] (.bool (Fr s)):=by
 refine AQ Bf func101 rfl [1,2]<|AS rfl<|Ak (λi:Nat=>[(3,.imm (.int .i64 i)),(0,.imm (.str s))]) (λ_=>[]) [1] (λi=>s.length-i) (λi=>i<=s.length/\Fr s=Fr (s.drop i)) 0
  ⟨AF _,rfl⟩ AD trivial rfl λi hi ih=>?_
 refine Bb rfl<|Aa rfl (λh=>?_) (λh=>?_)
 ·simp at h;obtain ⟨c,hc⟩:=Am h;have e:=hi.2;rw [OA hc] at e;have hg:s[i]?.getD 0=c:=by rw [hc];rfl
  refine kd [] rfl (by simp [h])<|Aa rfl (λh=>?_) (λh=>?_)
  ·refine Bb rfl<|Ab rfl rfl (congrArg _ ?_);rw [e];simp [hg] at h;simp [UInt8.le_iff_toNat_le];omega
  ·refine Bb rfl<|Ae (ih (i+1) (by omega) ⟨by omega,?_⟩) ⟨M6,AC⟩ trivial rfl;rw [e];simp [hg] at h;simp [UInt8.le_iff_toNat_le];omega
 ·refine Bb rfl<|Ab rfl rfl (congrArg _ ?_);simp at h;rw [hi.2,Bh (by omega)];rfl
def I9:List Str:=[[98,111,111,108],[99,101,108,108],[99,104,97,110],[101,108,115,101],[102,97,108,115,101],[102,117,110],[103,101,116],[105,102],[105,110],[105,110,112,117,116],[105,110,116],[106,111,105,110],[108,101,116],[109,97,116,99,104],[109,111,100,117,108,101],[111,117,116],[112,97,117,115,101],[112,117,116],[114,101,115,101,116],[115,101,110,100],[115,104,105,102,116],[115,112,97,119,110],[116,97,107,101],[116,97,115,107],[116,104,101,110],[116,114,117,101],[116,121,112,101],[117,110,105,116]]
theorem WW:Tq3 154 [] (.sl (E6 I9)):=by
 refine AQ Bf func154 rfl [1,2]<|AS rfl<|Ag ⟨_,rfl,?_,trivial⟩;rfl
def Ra (s:Str):Bool:=BS I9 s
theorem qP (s:Str):Tq3 102 [.str s] (.bool (Ra s)):=by
 exact AQ Bf func102 rfl [1,2]<|AS rfl<|Ad rfl WW<|AS rfl<|Aj rfl (λ_=>bE I9 s) (by simp)<|AS rfl<|Ab rfl rfl rfl
def ER (s:Str):Bool:=decide (1<=s.length)&&decide (s.length<=8)&&Fr s && !Ra s
def E3 (s:Str):Bool:=decide (1<=s.length)&&decide (s.length<=8)&&(65<=s.getD 0 0&&s.getD 0 0<=90)&&Fr (s.drop 1)
def D4 (x lo hi:Int):Bool:=decide (lo<=x)&&decide (x<=hi)
theorem Ic (s:Str):Tq3 37 [.str s] (.bool (ER s)):=by
 refine AQ Bf func37 rfl [1,2]<|AS rfl<|Aj rfl (v:=.bool (Fr s)) (λh=>VQ s ?_) (by simp [Ap]) ?_
 ·simp [Ap] at h;omega
 refine AS rfl<|Aj rfl (v:=.bool (Ra s)) (λh=>qP s) (by simp [Ap])<|AS rfl<|Ab rfl rfl (congrArg _ ?_);simp [ER]
 norm_cast
theorem MR (x lo hi:Int):Tq3 83 [.int .i64 x,.int .i64 lo,.int .i64 hi] (.bool (D4 x lo hi)):=by
 refine AQ Bf func83 rfl [1,2]<|AS rfl<|Ab rfl rfl (congrArg _ ?_);simp [D4]
theorem K0 (s:Str):Tq3 122 [.str s] (.bool (E3 s)):=by
 refine AQ Bf func122 rfl [1,2]<|kg [] rfl (by simp [Ap];omega)<|Aj rfl (v:=.bool (Fr (s.drop 1))) (λh=>VQ _ ?_) (by simp [Ap]) ?_
 ·simp [Ap] at h;simp;omega
 refine AS rfl<|Ab rfl rfl (congrArg _ ?_);simp [E3,UInt8.le_iff_toNat_le,NV]
 norm_cast
def Sj (c:UInt8):Bool:=97<=c&&c<=122
def oO (c:UInt8):Bool:=65<=c&&c<=90
def Ng (c:UInt8):Bool:=48<=c&&c<=57
def Sa (p:UInt8->Bool):Str->Nat
 | []=>0
 | c::r=>if p c=true then Sa p r+1 else 0
def GQ (s:Str) (at_:Nat) (d:Bool):Nat:=Sa (if d=true then Ng else Sj) (s.drop at_)
def signsL:List Str:=[[61,62],[61,61],[45,62],[61],[60],[43],[45],[42],[40],[41],[123],[125],[124],[44],[59],[58],[95],[63]]
def Lg (t:Str):List Str->Str
 | []=>[]
 | x::r=>if x.length<=t.length/\t.take x.length=x then x else Lg t r
def ST (s:Str) (at_:Nat):Str:=Lg (s.drop at_) signsL
structure Tok where
 kind:Int
 text:Str
 n:Int
 at_:Int
def GY (t:Tok):List V:=[.int .i64 t.kind,.str t.text,.int .i64 t.n,.int .i64 t.at_]
def Ua (s:Str) (a n:Nat):Str:=(s.drop a).take n
def Tn (s:Str) (at_:Nat):Option Tok :=
 if Sj (s.getD at_ 0)=true then
  some ⟨if Ra (Ua s at_ (GQ s at_ false))=true then 3 else if (Ua s at_ (GQ s at_ false)).length<=8 then 1 else 0,Ua s at_ (GQ s at_ false),0,at_⟩
 else if oO (s.getD at_ 0)=true then
  some ⟨if (Ua s at_ (1+GQ s (at_+1) false)).length<=8 then 2 else 0,Ua s at_ (1+GQ s (at_+1) false),0,at_⟩
 else if Ng (s.getD at_ 0)=true then (if GQ s at_ true=1 then some ⟨4,Ua s at_ 1,((s.getD at_ 0).toNat:Int)-48,at_⟩ else none)
 else if s.getD at_ 0=126 then none
 else some ⟨if ST s at_=[] then 0 else 5,ST s at_,0,at_⟩
def RM (c:UInt8):Bool:=c=32||c=9||c=10
def EO (s:Str) (at_:Nat):Nat:=at_+Sa RM (s.drop at_)
def Iu:Nat->Str->Nat->Option (List Tok)
 | 0,_,_=>none
 | f+1,s,a=>if s.length<=a then some [] else if s.getD a 0=47 then none else match Tn s a with
  | some t=>if t.kind=0 then none else match Iu f s (EO s (a+t.text.length)) with
   | some l=>some (t::l)
   | none=>none
  | none=>none
def AY (l:List Tok) (a:Nat) (s:Str):Bool:=match l[a]? with
 | some t=>(t.kind == 5||t.kind == 3)&&t.text == s
 | none=>false
def LQ (l:List Tok) (a:Nat) (k:Int):Bool:=match l[a]? with
 | some t=>t.kind == k
 | none=>false
def CD (l:List Tok) (a:Nat):Str:=match l[a]? with
 | some t=>t.text
 | none=>[]
def Vm (l:List Tok) (a:Nat):Int:=match l[a]? with
 | some t=>t.n
 | none=>0
def EM (s:Str):Int×Int :=
 if s=[99,101,108,108] then (16,1) else if s=[103,101,116] then (17,1) else if s=[112,117,116] then (18,2)
 else if s=[115,112,97,119,110] then (19,1) else if s=[106,111,105,110] then (20,1) else if s=[99,104,97,110] then (21,0)
 else if s=[115,101,110,100] then (22,2) else if s=[116,97,107,101] then (23,1) else if s=[111,117,116] then (24,-1)
 else if s=[105,110,112,117,116] then (25,0) else if s=[114,101,115,101,116] then (26,1) else if s=[112,97,117,115,101] then (28,0) else (0,0)
def vI:Str:=[116,114,117,101]
def Xz:Str:=[102,97,108,115,101]
def fR:Str:=[109,97,116,99,104]
def Nq (l:List Tok) (a:Nat):Bool:=match l[a]? with
 | some t=>if t.kind=3 then (decide ((EM t.text).1≠0)||t.text == vI||t.text == Xz||t.text == fR) else (decide (t.kind≠5)||t.text == [40])
 | none=>false
def zeg (op:Int) (a b:Tm):Tm:=.mk op 0 [] [a,b] []
def after (l:List Tok) (a:Nat) (s:Str) {α:Type} (r:Option α):Option α:=if AY l a s=true then r else none
def P3 (l:List Tok) (a:Nat) (s:List Str) {α:Type} (r:Option α):Option α:=if s.any (AY l a)=true then none else r
mutual
def Dg (l:List Tok):Nat->Nat->Option (Tm×Nat)
 | 0,_=>none
 | f+1,a =>
  if AY l a [102,117,110]=true then
   (if LQ l (a+1) 1=true then after l (a+2) [61,62] ((Dg l f (a+3)).map λr=>(.mk 5 0 (CD l (a+1)) [r.1] [],r.2)) else none)
  else P3 l a [[115,104,105,102,116]] (if AY l a [108,101,116]=true then
   (if LQ l (a+1) 1=true then after l (a+2) [61] ((Dg l f (a+3)).bind λr=>after l r.2 [105,110] ((Dg l f (r.2+1)).map λu=>(.mk 7 0 (CD l (a+1)) [r.1,u.1] [],u.2))) else none)
  else if AY l a [105,102]=true then
   (Dg l f (a+1)).bind λr=>after l r.2 [116,104,101,110] ((Dg l f (r.2+1)).bind λu=>after l u.2 [101,108,115,101] ((Dg l f (u.2+1)).map λv=>(.mk 8 0 [] [r.1,u.1,v.1] [],v.2)))
  else (YL l f a).bind λr=>if AY l r.2 [60]=true then (YL l f (r.2+1)).map (λu=>(zeg 12 r.1 u.1,u.2)) else P3 l r.2 [[61,61]] (some r))
def YL (l:List Tok):Nat->Nat->Option (Tm×Nat)
 | 0,_=>none
 | f+1,a=>(YN l f a).bind λr=>OF l f r.1 r.2
def OF (l:List Tok):Nat->Tm->Nat->Option (Tm×Nat)
 | 0,_,_=>none
 | f+1,t,a=>P3 l a [[42]] (if AY l a [43]=true then (YN l f (a+1)).bind λr=>OF l f (zeg 9 t r.1) r.2 else P3 l a [[45]] (some (t,a)))
def YN (l:List Tok):Nat->Nat->Option (Tm×Nat)
 | 0,_=>none
 | f+1,a=>(Q4 l f a).bind λr=>Wv l f r.1 r.2
def Wv (l:List Tok):Nat->Tm->Nat->Option (Tm×Nat)
 | 0,_,_=>none
 | f+1,t,a=>if Nq l a=true then (Q4 l f a).bind λr=>Wv l f (zeg 6 t r.1) r.2 else some (t,a)
def Q4 (l:List Tok):Nat->Nat->Option (Tm×Nat)
 | 0,_=>none
 | f+1,a =>
  if LQ l a 4=true then some (.mk 1 (Vm l a) [] [] [],a+1)
  else if LQ l a 1=true then some (.mk 4 0 (CD l a) [] [],a+1)
  else if LQ l a 2=true then
   if AY l (a+1) [40]=true then (LF l f (-1) (a+1)).map λr=>(.mk 14 0 (CD l a) r.1 [],r.2)
   else some (.mk 14 0 (CD l a) [] [],a+1)
  else P3 l a [vI,Xz] (if AY l a fR=true then UH l f (a+1)
  else if AY l a [40]=true then
   P3 l (a+1) [[41]] ((Dg l f (a+1)).bind λr=>after l r.2 [41] (some (r.1,r.2+1)))
  else if LQ l a 3=true then cH l f a
  else none)
def cH (l:List Tok):Nat->Nat->Option (Tm×Nat)
 | 0,_=>none
 | f+1,a =>
  if (EM (CD l a)).1=0 then none
  else if 0<(EM (CD l a)).2 then (LF l f (EM (CD l a)).2 (a+1)).map λr=>(.mk (EM (CD l a)).1 0 [] r.1 [],r.2)
  else if (EM (CD l a)).2<0 then
   after l (a+1) [40] (if LQ l (a+2) 4=true then after l (a+3) [44] ((Dg l f (a+4)).bind λr=>after l r.2 [41] (some (.mk (EM (CD l a)).1 (Vm l (a+2)) [] [r.1] [],r.2+1))) else none)
  else some (.mk (EM (CD l a)).1 0 [] [] [],a+1)
def LF (l:List Tok):Nat->Int->Nat->Option (List Tm×Nat)
 | 0,_,_=>none
 | f+1,n,a=>after l a [40] ((Dg l f (a+1)).bind λr=>M0 l f n [r.1] r.2)
def M0 (l:List Tok):Nat->Int->List Tm->Nat->Option (List Tm×Nat)
 | 0,_,_,_=>none
 | f+1,n,out,a =>
  if (n<0/\AY l a [44]=true)\/(out.length:Int)<n then after l a [44] ((Dg l f (a+1)).bind λr=>M0 l f n (out++[r.1]) r.2)
  else after l a [41] (some (out,a+1))
def UH (l:List Tok):Nat->Nat->Option (Tm×Nat)
 | 0,_=>none
 | f+1,a=>(Dg l f a).bind λr=>after l r.2 [123] (M2 l f [] [r.1] (r.2+1))
def M2 (l:List Tok):Nat->List Ty->List Tm->Nat->Option (Tm×Nat)
 | 0,_,_,_=>none
 | f+1,ps,ks,a=>(YM l f a).bind λr=>after l r.2 [45,62] ((Dg l f (r.2+1)).bind λu =>
   if AY l u.2 [124]=true then M2 l f (ps++[r.1]) (ks++[u.1]) (u.2+1) else after l u.2 [125] (some (.mk 15 0 [] (ks++[u.1]) (ps++[r.1]),u.2+1)))
def YM (l:List Tok):Nat->Nat->Option (Ty×Nat)
 | 0,_=>none
 | f+1,a=>P3 l a [[95]] (
  if LQ l a 1=true then some (.mk 2 0 (CD l a) [],a+1)
  else if LQ l a 4=true then none else P3 l a [vI,Xz,[40]] (if LQ l a 2=true then
   if AY l (a+1) [40]=true then (NK l f [] (a+2)).map λr=>(.mk 6 0 (CD l a) r.1,r.2)
   else some (.mk 6 0 (CD l a) [],a+1)
  else none))
def NK (l:List Tok):Nat->List Ty->Nat->Option (List Ty×Nat)
 | 0,_,_=>none
 | f+1,ps,a=>(YM l f a).bind λr=>if AY l r.2 [44]=true then NK l f (ps++[r.1]) (r.2+1) else after l r.2 [41] (some (ps++[r.1],r.2+1))
end
def M1 (l:List Tok) (a:Nat):Option (Ty×Nat):=P3 l (a+1) [[45,62]] (
 if AY l a [105,110,116]=true then some (.mk 1 0 [] [],a+1)
 else if AY l a [98,111,111,108]=true then some (.mk 2 0 [] [],a+1)
 else if AY l a [117,110,105,116]=true then some (.mk 3 0 [] [],a+1)
 else P3 l a [[99,101,108,108],[99,104,97,110],[116,97,115,107],[63],[40]] (if LQ l a 2=true then some (.mk 8 0 (CD l a) [],a+1) else none))
def Tg (l:List Tok):Nat->List Ty->Nat->Option (List Ty×Nat)
 | 0,_,_=>none
 | f+1,ts,a=>(M1 l a).bind λr=>if AY l r.2 [44]=true then Tg l f (ts++[r.1]) (r.2+1) else after l r.2 [41] (some (ts++[r.1],r.2+1))
def Tf (l:List Tok):Nat->List Cd->Nat->Option (List Cd×Nat)
 | 0,_,_=>none
 | f+1,cs,a=>if LQ l a 2=true then
   ((if AY l (a+1) [40]=true then Tg l f [] (a+2) else some ([],a+1))).bind λr =>
    if AY l r.2 [124]=true then Tf l f (cs++[⟨CD l a,r.1⟩]) (r.2+1) else after l r.2 [59] (some (cs++[⟨CD l a,r.1⟩],r.2+1))
  else none
def cG (l:List Tok) (f:Nat) (a:Nat):Option (Dt×Nat):=if LQ l a 2=true then after l (a+1) [61] ((Tf l f [] (a+2)).map λr=>(⟨CD l a,r.1⟩,r.2)) else none
def sK (l:List Tok) (f:Nat) (a:Nat):Option (Fd×Nat) :=
 if LQ l a 1=true then after l (a+1) [40] (if LQ l (a+2) 1=true then after l (a+3) [58] ((M1 l (a+4)).bind λr=>after l r.2 [41] (after l (r.2+1) [58] ((M1 l (r.2+2)).bind λu =>
  after l u.2 [61] ((Dg l f (u.2+1)).bind λv=>after l v.2 [59] (some (⟨CD l a,CD l (a+2),r.1,u.1,v.1⟩,v.2+1)))))) else none) else none
def NL (l:List Tok):Nat->List Dt->Nat->Option (List Dt×Nat)
 | 0,_,_=>none
 | f+1,ds,a=>if AY l a [116,121,112,101]=true then (cG l f (a+1)).bind λr=>NL l f (ds++[r.1]) r.2 else some (ds,a)
def Te (l:List Tok):Nat->List Fd->Nat->Option (List Fd×Nat)
 | 0,_,_=>none
 | f+1,fs,a=>if AY l a [102,117,110]=true then (sK l f (a+1)).bind λr=>Te l f (fs++[r.1]) r.2 else some (fs,a)
def UG (l:List Tok) (f:Nat):Option (Md×Nat):=after l 0 [109,111,100,117,108,101] (if LQ l 1 1=true then after l 2 [123] ((NL l f [] 3).bind λr=>(Te l f [] r.2).bind λu=>after l u.2 [125] (some (⟨CD l 1,r.1,u.1⟩,u.2+1))) else none)
def Ao (n:Int):Ty:=.mk 9 n [] []
def BQ:Ty->Int
 | .mk f _ _ _=>f
def num:Ty->Int
 | .mk _ n _ _=>n
def Ff:Ty->List Ty
 | .mk _ _ _ ps=>ps
mutual
def A9 (θ:Int->Ty):Ty->Ty
 | .mk f n x ps=>if f=9 then θ n else .mk f n x (Db θ ps)
def Db (θ:Int->Ty):List Ty->List Ty
 | []=>[]
 | t::r=>A9 θ t::Db θ r
end
mutual
def CO:Ty->List Int
 | .mk f n _ ps=>if f=9 then [n] else DK ps
def DK:List Ty->List Int
 | []=>[]
 | t::r=>CO t++DK r
end
mutual
def C9:Ty->Bool
 | .mk f n x ps=>((f != 9||(x == []&&ps.length == 0))&&(f == 9||(decide (0<=n)&&decide (n<=1000000))))&&(f != 0&&decide (ps.length<=3))&&Gw ps
def Gw:List Ty->Bool
 | []=>true
 | t::r=>C9 t&&Gw r
end
mutual
def DH:Ty->Nat
 | .mk _ _ _ ps=>1+CX ps
def CX:List Ty->Nat
 | []=>0
 | t::r=>DH t+CX r
end
theorem Ib (θ:Int->Ty):∀l:List Ty,Db θ l=l.map (A9 θ)
 | []=>rfl
 | t::r=>by simp [Db,Ib θ r]
theorem JS {m:Int}:∀{l:List Ty},m∈DK l↔∃t∈l,m∈CO t
 | []=>by simp [DK]
 | t::r=>by simp [DK,JS (l:=r)]
theorem VC:∀{l:List Ty},Gw l=true↔∀t∈l,C9 t=true
 | []=>by simp [Gw]
 | t::r=>by simp [Gw,VC (l:=r)]
theorem HE (t:Ty):1<=DH t:=by cases t;simp only [DH];omega
theorem Qk {t:Ty}:∀{l:List Ty},t∈l->DH t<=CX l
 | x::r,h=>by
  simp only [CX];rcases CA.1 h with rfl | h
  ·omega
  ·have:=Qk h;omega
theorem E7 {t:Ty} (h:C9 t=true) (h9:BQ t=9):t=Ao (num t):=by
 obtain ⟨f,n,x,ps⟩:=t;simp only [BQ] at h9;subst h9;simp [C9] at h;obtain ⟨⟨⟨rfl,h2⟩,_⟩,_⟩:=h;subst h2;rfl
theorem Ie {t:Ty} (h:C9 t=true):(Ff t).length<=3:=by
 obtain ⟨f,n,x,ps⟩:=t;simp only [C9,A2,decide_eq_true_eq] at h;exact h.1.2.2
theorem jT {t:Ty} (h:C9 t=true):BQ t≠0:=by
 obtain ⟨f,n,x,ps⟩:=t;simp only [C9,A2,bne_iff_ne] at h;exact h.1.2.1
theorem EU {t:Ty} (h:C9 t=true):∀p∈Ff t,C9 p=true:=by
 obtain ⟨f,n,x,ps⟩:=t;simp only [C9,A2] at h;exact VC.1 h.2
theorem CV (θ:Int->Ty) (n:Int):A9 θ (Ao n)=θ n:=by simp [Ao,A9]
theorem GK {θ:Int->Ty} {t:Ty} (h:BQ t=9):A9 θ t=θ (num t):=by
 obtain ⟨f,n,x,ps⟩:=t;simp only [BQ] at h;subst h;simp [A9,num]
theorem Ya {θ:Int->Ty} {t:Ty} (h:BQ t≠9):∃f n x,t = .mk f n x (Ff t)/\f≠9/\A9 θ t = .mk f n x ((Ff t).map (A9 θ)):=by
 obtain ⟨f,n,x,ps⟩:=t;exact ⟨f,n,x,rfl,h,by simp only [A9,if_neg (show ¬f=9 from h),Ib,Ff]⟩
mutual
theorem dU:∀t:Ty,C9 t=true->A9 Ao t=t
 | .mk f n x ps,h=>by
  by_cases e:f=9
  ·subst e;have:=E7 h rfl;simp only [num] at this;rw [this];simp [A9,Ao]
  ·simp only [C9,A2] at h;simp only [A9,if_neg e,qB ps h.2]
theorem qB:∀l:List Ty,Gw l=true->Db Ao l=l
 | [],_=>rfl
 | t::r,h=>by
  simp only [Gw,A2] at h;simp only [Db,dU t h.1,qB r h.2]
end
mutual
theorem Nr (η θ:Int->Ty):∀t:Ty,A9 η (A9 θ t)=A9 (λn=>A9 η (θ n)) t
 | .mk f n x ps=>by
  by_cases e:f=9
  ·simp only [A9,if_pos e]
  ·simp only [A9,if_neg e,XY η θ ps]
theorem XY (η θ:Int->Ty):∀l:List Ty,Db η (Db θ l)=Db (λn=>A9 η (θ n)) l
 | []=>rfl
 | t::r=>by simp only [Db,Nr η θ t,XY η θ r]
end
mutual
theorem FQ {η θ:Int->Ty}:∀t:Ty,(∀m∈CO t,η m=θ m)->A9 η t=A9 θ t
 | .mk f n x ps,h=>by
  by_cases e:f=9
  ·simp only [A9,if_pos e];exact h n (by simp [CO,e])
  ·simp only [A9,if_neg e];rw [Uf ps (λm hm=>h m (by simp only [CO,if_neg e];exact hm))]
theorem Uf {η θ:Int->Ty}:∀l:List Ty,(∀m∈DK l,η m=θ m)->Db η l=Db θ l
 | [],_=>rfl
 | t::r,h=>by
  simp only [Db,FQ t (λm hm=>h m (by simp [DK,hm])),Uf r (λm hm=>h m (by simp [DK,hm]))]
end
mutual
theorem oL {θ:Int->Ty} {m:Int}:∀t:Ty,m∈CO (A9 θ t)↔∃n∈CO t,m∈CO (θ n)
 | .mk f n x ps=>by
  by_cases e:f=9
  ·simp [A9,CO,e]
  ·simp only [A9,CO,if_neg e];exact cY ps
theorem cY {θ:Int->Ty} {m:Int}:∀l:List Ty,m∈DK (Db θ l)↔∃n∈DK l,m∈CO (θ n)
 | []=>by simp [DK,Db]
 | t::r=>by simp only [Db,DK,BU,oL t,cY r];grind
end
mutual
theorem xA {θ:Int->Ty} {n:Int}:∀t:Ty,n∈CO t->DH (θ n)<=DH (A9 θ t)
 | .mk f m x ps,h=>by
  by_cases e:f=9
  ·simp only [CO,if_pos e,AN] at h;simp only [A9,if_pos e,h];omega
  ·simp only [CO,if_neg e] at h;have:=Ut (θ:=θ) ps h;simp only [A9,if_neg e,DH];omega
theorem Ut {θ:Int->Ty} {n:Int}:∀l:List Ty,n∈DK l->DH (θ n)<=CX (Db θ l)
 | [],h=>by simp [DK] at h
 | t::r,h=>by
  simp only [DK,BU] at h;simp only [Db,CX];rcases h with h | h
  ·have:=xA (θ:=θ) t h;omega
  ·have:=Ut (θ:=θ) r h;omega
end
theorem bO {θ:Int->Ty} {t:Ty} (h9:BQ t≠9) (h:n∈CO t):DH (θ n)<DH (A9 θ t):=by
 obtain ⟨f,m,x,ps⟩:=t;have e:¬f=9:=h9;simp only [CO,if_neg e] at h;have:=Ut (θ:=θ) ps h;simp only [A9,if_neg e,DH];omega
theorem Uu {θ:Int->Ty} {t p:Ty} (h9:BQ t≠9) (h:p∈Ff t):DH (A9 θ p)<DH (A9 θ t):=by
 obtain ⟨f,m,x,ps⟩:=t;have e:¬f=9:=h9;have:=Qk (UU (f:=A9 θ) h);simp only [A9,if_neg e,DH,Ib,Ff] at *;omega
mutual
theorem VB {θ:Int->Ty} (hθ:∀n,C9 (θ n)=true):∀t:Ty,C9 t=true->C9 (A9 θ t)=true
 | .mk f n x ps,h=>by
  by_cases e:f=9
  ·simp only [A9,if_pos e];exact hθ n
  ·simp only [C9,A2] at h;simp only [A9,if_neg e,C9,A2];exact ⟨⟨⟨by simp [e],h.1.1.2⟩,h.1.2.1,by rw [Ib,Dh];exact h.1.2.2⟩,jS hθ ps h.2⟩
theorem jS {θ:Int->Ty} (hθ:∀n,C9 (θ n)=true):∀l:List Ty,Gw l=true->Gw (Db θ l)=true
 | [],_=>rfl
 | t::r,h=>by
  simp only [Gw,A2] at h;simp only [Db,Gw,A2];exact ⟨VB hθ t h.1,jS hθ r h.2⟩
end
abbrev Sb:=Int->Option Ty
def Ew (σ:Sb) (n:Int) (t:Ty):Sb:=λm=>if m=n then some t else σ m
def PS (η:Int->Ty) (σ:Sb):Prop:=∀n t,σ n=some t->η n=A9 η t
structure Sol (σ:Sb) (θ:Int->Ty):Prop where
 eq:PS θ σ
 free:∀n,σ n=none->θ n=Ao n
 wf:∀n t,σ n=some t->C9 t=true
 down:∀n t,σ n=some t->BQ t=9->0<=num t/\num t<n
theorem Sol.ind {σ:Sb} {θ:Int->Ty} (h:Sol σ θ) {P:Int->Prop} (hfree:∀n,σ n=none->P n) (hb:∀n t,σ n=some t->(∀m∈CO t,P m)->P n):∀n,P n:=by
 have key:∀(s k:Nat) (n:Int),DH (θ n)<=s->n.toNat<=k->P n:=by
  intro s
  induction s with
  | zero=>intro k n h1 _;have:=HE (θ n);omega
  | succ s ihs =>
   intro k
   induction k with
   | zero =>
    intro n h1 h2;cases e:σ n with
    | none=>exact hfree n e
    | some t =>
     refine hb n t e λm hm=>?_;by_cases h9:BQ t=9
     ·have:=h.down n t e h9;omega
     ·have:=bO (θ:=θ) h9 hm;rw [<- h.eq n t e] at this;exact ihs _ m (by omega) (BL _)
   | succ k ihk =>
    intro n h1 h2;cases e:σ n with
    | none=>exact hfree n e
    | some t =>
     refine hb n t e λm hm=>?_;by_cases h9:BQ t=9
     ·have hd:=h.down n t e h9;have hmt:m=num t:=by obtain ⟨f,a,x,ps⟩:=t;simp only [BQ] at h9;subst h9;simpa [CO,num] using hm
      have he:=h.eq n t e;rw [GK h9] at he;subst hmt;exact ihk _ (by rw [<- he];exact h1) (by omega)
     ·have:=bO (θ:=θ) h9 hm;rw [<- h.eq n t e] at this;exact ihs _ m (by omega) (BL _)
 intro n;exact key _ _ n (BL _) (BL _)
theorem Sol.mgu {σ:Sb} {θ η:Int->Ty} (h:Sol σ θ) (hη:PS η σ) (n:Int):η n=A9 η (θ n):=by
 refine h.ind (P:=λn=>η n=A9 η (θ n)) (λn e=>?_) (λn t e ih=>?_) n
 ·rw [h.free n e,CV]
 ·rw [hη n t e,h.eq n t e,Nr];exact FQ t ih
theorem Sol.mguT {σ:Sb} {θ η:Int->Ty} (h:Sol σ θ) (hη:PS η σ) (t:Ty):A9 η (A9 θ t)=A9 η t:=by
 rw [Nr];exact FQ t λm _=>(h.mgu hη m).symm
theorem Sol.range {σ:Sb} {θ:Int->Ty} (h:Sol σ θ) (n:Int):∀m∈CO (θ n),σ m=none:=by
 refine h.ind (P:=λn=>∀m∈CO (θ n),σ m=none) (λn e m hm=>?_) (λn t e ih m hm=>?_) n
 ·rw [h.free n e] at hm;simp [Ao,CO] at hm;rw [hm];exact e
 ·rw [h.eq n t e] at hm;obtain ⟨k,hk,hm⟩:=(oL t).1 hm;exact ih k hk m hm
theorem Sol.wfθ {σ:Sb} {θ:Int->Ty} (h:Sol σ θ) (n:Int):C9 (θ n)=true:=by
 refine h.ind (P:=λn=>C9 (θ n)=true) (λn e=>by rw [h.free n e];rfl) (λn t e ih=>?_) n;rw [h.eq n t e,FQ (θ:=λm=>if C9 (θ m)=true then θ m else Ao m) t λm hm=>by rw [if_pos (ih m hm)]];exact VB (λm=>by split;assumption;rfl) t (h.wf n t e)
theorem Sol.free_id {σ:Sb} {θ θ':Int->Ty} (h:Sol σ θ) (h':∀m,σ m=none->θ' m=Ao m) (t:Ty):A9 θ' (A9 θ t)=A9 θ t:=by
 rw [Nr];refine FQ t λm _=>?_;rw [FQ (θ:=Ao) (θ m) λk hk=>h' k (h.range m k hk)];exact dU _ (h.wfθ m)
theorem Sol.unique {σ:Sb} {θ θ':Int->Ty} (h:Sol σ θ) (h':Sol σ θ'):θ=θ':=by
 funext n;have h1:=h.mgu h'.eq n;have h2:=h.free_id h'.free (Ao n);rw [CV] at h2;rw [h1,h2]
theorem Sol.bind {σ:Sb} {θ:Int->Ty} (h:Sol σ θ) {t:Ty} (hn:σ n=none) (ht:C9 t=true) (hd:BQ t=9->0<=num t/\num t<n) (ho:n∉CO (A9 θ t)) :
  Sol (Ew σ n t) (λm=>A9 (λk=>if k=n then A9 θ t else Ao k) (θ m)):=by
 have hfix:A9 (λk=>if k=n then A9 θ t else Ao k) (A9 θ t)=A9 θ t:=by
  rw [FQ (θ:=Ao) (A9 θ t) λk hk=>by
   by_cases e:k=n
   ·exact absurd (e ▸ hk) ho
   ·rw [if_neg e]]
  exact dU _ (VB h.wfθ t ht)
 refine ⟨λm u hu=>?_,λm hm=>?_,λm u hu=>?_,λm u hu=>?_⟩
 ·simp only [Ew] at hu;rw [<- Nr];by_cases e:m=n
  ·rw [if_pos e] at hu;subst e;cases hu;rw [h.free m hn,CV,if_pos rfl,hfix]
  ·rw [if_neg e] at hu;rw [h.eq m u hu]
 ·simp only [Ew] at hm;by_cases e:m=n
  ·rw [if_pos e] at hm;cases hm
  ·rw [if_neg e] at hm;rw [h.free m hm,CV,if_neg e]
 ·simp only [Ew] at hu;by_cases e:m=n
  ·rw [if_pos e] at hu;cases hu;exact ht
  ·rw [if_neg e] at hu;exact h.wf m u hu
 ·simp only [Ew] at hu;by_cases e:m=n
  ·rw [if_pos e] at hu;cases hu;rw [e];exact hd
  ·rw [if_neg e] at hu;exact h.down m u hu
theorem rJ {η:Int->Ty} {σ:Sb} {t:Ty} (hn:σ n=none):PS η (Ew σ n t)↔PS η σ/\η n=A9 η t:=by
 constructor
 ·intro h;refine ⟨λm u hu=>h m u ?_,h n t (by simp [Ew])⟩;simp only [Ew];rw [if_neg (λe=>by rw [e,hn] at hu;cases hu)];exact hu
 ·rintro ⟨h1,h2⟩ m u hu;simp only [Ew] at hu;by_cases e:m=n
  ·rw [if_pos e] at hu;cases hu;rw [e];exact h2
  ·rw [if_neg e] at hu;exact h1 m u hu
theorem Sol.never {σ:Sb} {θ η:Int->Ty} (h:Sol σ θ) (hη:PS η σ) {t:Ty} (h9:BQ t≠9) (ho:n∈CO (A9 θ t)):η n≠A9 η t:=by
 intro e;have h1:=h.mguT hη t;have h9':BQ (A9 θ t)≠9:=by
  obtain ⟨f,m,x,_,hf,e2⟩:=Ya (θ:=θ) h9;rw [e2];exact hf
 have:=bO (θ:=η) h9' ho;rw [h1,e] at this;omega
inductive Top (σ:Sb):Ty->Ty->Prop
 | stop {t:Ty}:(BQ t=9->σ (num t)=none)->Top σ t t
 | step {t u v:Ty}:BQ t=9->σ (num t)=some u->Top σ u v->Top σ t v
theorem Top.end_ {σ:Sb} {t u:Ty} (h:Top σ t u):BQ u=9->σ (num u)=none:=by
 induction h with
 | stop h=>exact h
 | step _ _ _ ih=>exact ih
theorem Top.ap {σ:Sb} {η:Int->Ty} (hη:PS η σ) {t u:Ty} (h:Top σ t u):A9 η t=A9 η u:=by
 induction h with
 | stop _=>rfl
 | step h9 hs _ ih=>rw [GK h9,hη _ _ hs,ih]
theorem Top.wf {σ:Sb} {θ:Int->Ty} (hσ:Sol σ θ) {t u:Ty} (h:Top σ t u) (ht:C9 t=true):C9 u=true:=by
 induction h with
 | stop _=>exact ht
 | step _ hs _ ih=>exact ih (hσ.wf _ _ hs)
theorem bJ {σ:Sb} {θ:Int->Ty} (hσ:Sol σ θ):∀(k:Nat) (t:Ty),(BQ t=9->(num t).toNat<k)->∃u,Top σ t u
 | 0,t,h=>⟨t,.stop λh9=>absurd (h h9) (by omega)⟩
 | k+1,t,h=>by
  by_cases h9:BQ t=9
  ·cases e:σ (num t) with
   | none=>exact ⟨t,.stop λ_=>e⟩
   | some u =>
    obtain ⟨v,hv⟩:=bJ hσ k u λhu=>by have:=hσ.down _ u e hu;have:=h h9;omega
    exact ⟨v,.step h9 e hv⟩
  ·exact ⟨t,.stop λh=>absurd h h9⟩
theorem L8 {σ:Sb} {θ:Int->Ty} (hσ:Sol σ θ) (t:Ty):∃u,Top σ t u:=bJ hσ ((num t).toNat+1) t λ_=>by omega
theorem Ur {σ:Sb} {t u v:Ty} (h:Top σ t u) (h':Top σ t v):u=v:=by
 induction h with
 | stop h =>
  cases h' with
  | stop=>rfl
  | step h9 hs _=>rw [h h9] at hs;cases hs
 | step h9 hs _ ih =>
  cases h' with
  | stop h=>rw [h h9] at hs;cases hs
  | step _ hs' h'=>rw [hs] at hs';cases hs';exact ih h'
theorem VG {σ:Sb} {t u:Ty} (h:Top σ t u):Top σ u u:=.stop h.end_
def jG (σ:Sb) (n:Int) (t:Ty):Prop:=∃θ,Sol σ θ/\n∈CO (A9 θ t)
theorem Sol.occ {σ:Sb} {θ:Int->Ty} (h:Sol σ θ) {t:Ty}:jG σ n t↔n∈CO (A9 θ t) :=
 ⟨λ⟨_,h1,h2⟩=>by rw [h.unique h1];exact h2,λh1=>⟨θ,h,h1⟩⟩
def jM:Ty->Str
 | .mk _ _ x _=>x
def EW (a b:Ty):Prop:=BQ a=BQ b/\num a=num b/\jM a=jM b/\(Ff a).length=(Ff b).length
def Le (E:Sb->Ty->Ty->Option Sb->Prop):Sb->List Ty->List Ty->Option Sb->Prop
 | σ,[],[],r=>r=some σ
 | σ,a::xs,b::ys,r=>(E σ a b none/\r=none)\/∃σ',E σ a b (some σ')/\Le E σ' xs ys r
 | _,_,_,_=>False
def Dp (E:Sb->Ty->Ty->Option Sb->Prop) (σ:Sb) (u v:Ty) (r:Option Sb):Prop :=
 (BQ u=9/\BQ v=9/\num u=num v/\r=some σ) \/
 (BQ u=9/\BQ v=9/\num u≠num v/\r=some (Ew σ (max (num u) (num v)) (Ao (min (num u) (num v))))) \/
 (BQ u=9/\BQ v≠9/\jG σ (num u) v/\r=none)\/(BQ u=9/\BQ v≠9/\¬jG σ (num u) v/\r=some (Ew σ (num u) v)) \/
 (BQ u≠9/\BQ v=9/\jG σ (num v) u/\r=none)\/(BQ u≠9/\BQ v=9/\¬jG σ (num v) u/\r=some (Ew σ (num v) u)) \/
 (BQ u≠9/\BQ v≠9/\¬EW u v/\r=none)\/(BQ u≠9/\BQ v≠9/\EW u v/\Le E σ (Ff u) (Ff v) r)
def Ox:Nat->Sb->Ty->Ty->Option Sb->Prop
 | 0,_,_,_,_=>False
 | k+1,σ,a,b,r=>∃u v,Top σ a u/\Top σ b v/\Dp (Ox k) σ u v r
theorem Oh {E E':Sb->Ty->Ty->Option Sb->Prop} (h:∀σ a b r,E σ a b r->E' σ a b r):∀{xs ys:List Ty} {σ:Sb} {r:Option Sb},Le E σ xs ys r->Le E' σ xs ys r
 | [],[],_,_,hr=>hr
 | a::xs,b::ys,σ,r,hr=>by
  rcases hr with ⟨h1,h2⟩ | ⟨σ',h1,h2⟩
  ·exact .inl ⟨h _ _ _ _ h1,h2⟩
  ·exact .inr ⟨σ',h _ _ _ _ h1,Oh h h2⟩
 | [],_::_,_,_,hr=>hr.elim
 | _::_,[],_,_,hr=>hr.elim
theorem aK {E E':Sb->Ty->Ty->Option Sb->Prop} (h:∀σ a b r,E σ a b r->E' σ a b r) {σ:Sb} {u v:Ty} {r:Option Sb} (hr:Dp E σ u v r):Dp E' σ u v r:=by
 rcases hr with hr | hr | hr | hr | hr | hr | hr | ⟨h1,h2,h3,h4⟩
 ·exact .inl hr
 ·exact .inr (.inl hr)
 ·exact .inr (.inr (.inl hr))
 ·exact .inr (.inr (.inr (.inl hr)))
 ·exact .inr (.inr (.inr (.inr (.inl hr))))
 ·exact .inr (.inr (.inr (.inr (.inr (.inl hr)))))
 ·exact .inr (.inr (.inr (.inr (.inr (.inr (.inl hr))))))
 ·exact .inr (.inr (.inr (.inr (.inr (.inr (.inr ⟨h1,h2,h3,Oh h h4⟩))))))
theorem X6:∀(k:Nat) (σ:Sb) (a b:Ty) (r:Option Sb),Ox k σ a b r->Ox (k+1) σ a b r
 | 0,_,_,_,_,h=>h.elim
 | k+1,σ,a,b,r,⟨u,v,h1,h2,h3⟩=>⟨u,v,h1,h2,aK (X6 k) h3⟩
theorem MZ {k:Nat} (h:k<=j) {σ:Sb} {a b:Ty} {r:Option Sb} (hr:Ox k σ a b r):Ox j σ a b r:=by
 induction h with
 | refl=>exact hr
 | step _ ih=>exact X6 _ _ _ _ _ ih
def inB (H:Int) (t:Ty):Prop:=∀m∈CO t,0<=m/\m<H
def Dom (H:Int) (σ:Sb):Prop:=∀n t,σ n=some t->(0<=n/\n<H)/\inB H t
theorem inB.part {t p:Ty} (h:inB H t) (h9:BQ t≠9) (hp:p∈Ff t):inB H p:=λm hm=>h m (by
 obtain ⟨f,n,x,ps⟩:=t;simp only [CO,if_neg (show ¬f=9 from h9)];exact JS.2 ⟨p,hp,hm⟩)
theorem inB.num {t:Ty} (h:inB H t) (h9:BQ t=9):0<=num t/\num t<H:=h _ (by
 obtain ⟨f,n,x,ps⟩:=t;simp only [BQ] at h9;subst h9;simp [CO,Go.Hk.num])
theorem IF (h:0<=n/\n<H):inB H (Ao n):=λm hm=>by
 simp [Ao,CO] at hm;rw [hm];exact h
theorem Top.inB {σ:Sb} (hd:Dom H σ) {t u:Ty} (h:Top σ t u) (ht:Go.Hk.inB H t):Go.Hk.inB H u:=by
 induction h with
 | stop _=>exact ht
 | step _ hs _ ih=>exact ih (hd _ _ hs).2
theorem Dom.set {σ:Sb} (hd:Dom H σ) {t:Ty} (hn:0<=n/\n<H) (ht:inB H t):Dom H (Ew σ n t):=λm u hu=>by
 simp only [Ew] at hu;by_cases e:m=n
 ·rw [if_pos e] at hu;cases hu;rw [e];exact ⟨hn,ht⟩
 ·rw [if_neg e] at hu;exact hd m u hu
def SI (H:Nat) (σ:Sb):Nat:=((List.range H).filter λi:Nat=>(σ (i:Int)).isNone).length
theorem TO {α:Type} {p q:α->Bool}:∀{l:List α},(∀x∈l,q x=true->p x=true)->(∃x∈l,p x=true/\q x=false)->(l.filter q).length<(l.filter p).length
 | [],_,⟨_,h,_⟩=>by cases h
 | y::r,h,hx=>by
  have hle:(r.filter q).length<=(r.filter p).length:=by
   clear hx;have h':∀x∈r,q x=true->p x=true:=λx hx=>h x (by simp [hx]);clear h
   induction r with
   | nil=>simp
   | cons z r ih =>
    have:=ih λx hx=>h' x (by simp [hx]);simp only [Zq];cases e:q z with
    | true=>rw [h' z (by simp) e];simp;omega
    | false=>simp only [E1,if_false];split <;> simp <;> omega
  simp only [Zq];obtain ⟨x,hx,h1,h2⟩:=hx;by_cases e:x=y
  ·subst e;rw [h1,h2];simp;omega
  ·have:=TO (l:=r) (λx hx=>h x (by simp [hx])) ⟨x,(CA.1 hx).resolve_left e,h1,h2⟩;cases eq:q y with
   | true=>rw [h y (by simp) eq];simp;omega
   | false=>simp only [E1,if_false];split <;> simp <;> omega
theorem qY {H:Nat} {σ:Sb} {t:Ty} (hn:σ n=none) (h:0<=n/\n<(H:Int)):SI H (Ew σ n t)<SI H σ:=by
 refine TO (λi hi hq=>?_) ⟨n.toNat,by simp;omega,?_,?_⟩
 ·simp only [Ew] at hq
  split at hq
  ·simp at hq
  ·exact hq
 ·rw [show ((n.toNat:Nat):Int)=n by omega,hn];rfl
 ·rw [show ((n.toNat:Nat):Int)=n by omega];simp [Ew]
def uT (H:Nat) (σ:Sb) (a b:Ty):Option Sb->Prop
 | some σ'=>(∃θ',Sol σ' θ')/\Dom H σ'/\(σ'=σ\/SI H σ'<SI H σ)/\∀η,PS η σ'↔PS η σ/\A9 η a=A9 η b
 | none=>∀η,PS η σ->A9 η a≠A9 η b
def zai (H:Nat) (σ:Sb) (xs ys:List Ty):Option Sb->Prop
 | some σ'=>(∃θ',Sol σ' θ')/\Dom H σ'/\(σ'=σ\/SI H σ'<SI H σ)/\∀η,PS η σ'↔PS η σ/\xs.map (A9 η)=ys.map (A9 η)
 | none=>∀η,PS η σ->xs.map (A9 η)≠ys.map (A9 η)
theorem X5 {H:Nat} {L:Ty->Prop} (σ0:Sb) (U:Nat) (hE:∀σ θ a b,Sol σ θ->Dom H σ->SI H σ<=U->(SI H σ=U->σ=σ0/\L a)->C9 a=true->C9 b=true->inB H a->inB H b->∃k r,Ox k σ a b r/\uT H σ a b r) :
  ∀(xs ys:List Ty) (σ:Sb) (θ:Int->Ty),xs.length=ys.length->Sol σ θ->Dom H σ->SI H σ<=U->(SI H σ=U->σ=σ0/\∀a∈xs,L a)->(∀a∈xs,C9 a=true/\inB H a)->(∀b∈ys,C9 b=true/\inB H b) ->
   ∃k r,Le (Ox k) σ xs ys r/\zai H σ xs ys r
 | [],[],σ,θ,_,hs,hd,_,_,_,_=>⟨0,some σ,rfl,⟨θ,hs⟩,hd,.inl rfl,λη=>by simp⟩
 | a::xs,b::ys,σ,θ,hl,hs,hd,hu,hL,ha,hb=>by
  obtain ⟨k,r,h1,h2⟩:=hE σ θ a b hs hd hu (λe=>⟨(hL e).1,(hL e).2 a (by simp)⟩) (ha a (by simp)).1 (hb b (by simp)).1 (ha a (by simp)).2 (hb b (by simp)).2;cases r with
  | none=>exact ⟨k,none,.inl ⟨h1,rfl⟩,λη hη e=>h2 η hη (by simp at e;exact e.1)⟩
  | some σ' =>
   obtain ⟨⟨θ',g1⟩,g2,g3,g4⟩:=h2;obtain ⟨j,r',h3,h4⟩:=X5 σ0 U hE xs ys σ' θ' (by simpa using hl) g1 g2 (by rcases g3 with rfl | g3 <;> omega) (λe=>by
    rcases g3 with rfl | g3
    ·exact ⟨(hL e).1,λx hx=>(hL e).2 x (by simp [hx])⟩
    ·omega) (λx hx=>ha x (by simp [hx])) (λx hx=>hb x (by simp [hx]))
   refine ⟨max k j,r',.inr ⟨σ',MZ (Nat.le_max_left _ _) h1,Oh (λ_ _ _ _ h=>MZ (Nat.le_max_right _ _) h) h3⟩,?_⟩;cases r' with
   | none =>
    intro η hη e;simp only [Cv,E2] at e;exact h4 η ((g4 η).2 ⟨hη,e.1⟩) e.2
   | some σ2 =>
    obtain ⟨q1,q2,q3,q4⟩:=h4;refine ⟨q1,q2,?_,λη=>?_⟩
    ·rcases q3 with rfl | q3
     ·exact g3
     ·rcases g3 with rfl | g3
      ·exact .inr q3
      ·exact .inr (by omega)
    ·rw [q4 η,g4 η,and_assoc];simp only [Cv,E2]
theorem dK (H:Nat):∀(U s:Nat) (σ:Sb) (θ:Int->Ty) (a b:Ty),Sol σ θ->Dom H σ->SI H σ<=U->(SI H σ=U->DH (A9 θ a)<=s)->C9 a=true->C9 b=true->inB H a->inB H b->∃k r,Ox k σ a b r/\uT H σ a b r:=by
 intro U
 induction U using Nat.strongRecOn with
 | ind U ihU =>
 intro s
 induction s with
 | zero =>
  intro σ θ a b hs hd hu hz ha hb ia ib;by_cases e:SI H σ=U
  ·have:=hz e;have:=HE (A9 θ a);omega
  ·exact ihU (SI H σ) (by omega) (DH (A9 θ a)) σ θ a b hs hd (BL _) (λ_=>BL _) ha hb ia ib
 | succ s ihs =>
  intro σ θ a b hs hd hu hz ha hb ia ib;by_cases e:SI H σ=U
  case neg=>exact ihU (SI H σ) (by omega) (DH (A9 θ a)) σ θ a b hs hd (BL _) (λ_=>BL _) ha hb ia ib
  have hz:=hz e;obtain ⟨u,hu1⟩:=L8 hs a;obtain ⟨v,hv1⟩:=L8 hs b;have wu:=hu1.wf hs ha;have wv:=hv1.wf hs hb;have iu:=hu1.inB hd ia;have iv:=hv1.inB hd ib;have au:=λ{η} (hη:PS η σ)=>hu1.ap hη;have av:=λ{η} (hη:PS η σ)=>hv1.ap hη;have one:∀{n:Int} {t:Ty},σ n=none->0<=n/\n<(H:Int)->C9 t=true->(BQ t=9->0<=num t/\num t<n)->n∉CO (A9 θ t)->inB H t->(∀η,PS η σ->(η n=A9 η t↔A9 η a=A9 η b))->uT H σ a b (some (Ew σ n t)):=λhn hr ht h9 ho hi hη =>
   ⟨⟨_,hs.bind hn ht h9 ho⟩,hd.set hr hi,.inr (qY hn hr),λη=>by rw [rJ hn];exact ⟨λ⟨h1,h2⟩=>⟨h1,(hη η h1).1 h2⟩,λ⟨h1,h2⟩=>⟨h1,(hη η h1).2 h2⟩⟩⟩
  by_cases u9:BQ u=9
  ·have un:=hu1.end_ u9;by_cases v9:BQ v=9
   ·have vn:=hv1.end_ v9;by_cases en:num u=num v
    ·refine ⟨1,some σ,⟨u,v,hu1,hv1,.inl ⟨u9,v9,en,rfl⟩⟩,⟨θ,hs⟩,hd,.inl rfl,λη=>⟨λh=>⟨h,?_⟩,λh=>h.1⟩⟩;rw [au h,av h,GK u9,GK v9,en]
    ·have bu:=iu.num u9;have bv:=iv.num v9;refine ⟨1,_,⟨u,v,hu1,hv1,.inr (.inl ⟨u9,v9,en,rfl⟩)⟩,one ?_ (by omega) rfl (λ_=>by show 0<=min (num u) (num v)/\min (num u) (num v)<max (num u) (num v);omega) ?_ (IF (by omega)) λη hη=>?_⟩
     ·rcases Zp (num u) (num v) with h | h
      ·rw [Zo h];exact vn
      ·rw [Zn h];exact un
     ·rw [CV];have:θ (min (num u) (num v))=Ao (min (num u) (num v)):=by
       rcases Zp (num u) (num v) with h | h
       ·rw [Zm h];exact hs.free _ un
       ·rw [Zl h];exact hs.free _ vn
      rw [this];simp [Ao,CO];omega
     ·rw [au hη,av hη,GK u9,GK v9,CV];rcases Zp (num u) (num v) with h | h
      ·rw [Zo h,Zm h];exact eq_comm
      ·rw [Zn h,Zl h]
   ·by_cases ho:jG σ (num u) v
    ·refine ⟨1,none,⟨u,v,hu1,hv1,.inr (.inr (.inl ⟨u9,v9,ho,rfl⟩))⟩,λη hη e=>?_⟩;rw [au hη,av hη,GK u9] at e;exact hs.never hη v9 (hs.occ.1 ho) e
    ·refine ⟨1,_,⟨u,v,hu1,hv1,.inr (.inr (.inr (.inl ⟨u9,v9,ho,rfl⟩)))⟩,one un (iu.num u9) wv (λh=>absurd h v9) (λh=>ho (hs.occ.2 h)) iv λη hη=>?_⟩;rw [au hη,av hη,GK u9]
  ·by_cases v9:BQ v=9
   ·have vn:=hv1.end_ v9;by_cases ho:jG σ (num v) u
    ·refine ⟨1,none,⟨u,v,hu1,hv1,.inr (.inr (.inr (.inr (.inl ⟨u9,v9,ho,rfl⟩))))⟩,λη hη e=>?_⟩;rw [au hη,av hη,GK v9] at e;exact hs.never hη u9 (hs.occ.1 ho) e.symm
    ·refine ⟨1,_,⟨u,v,hu1,hv1,.inr (.inr (.inr (.inr (.inr (.inl ⟨u9,v9,ho,rfl⟩)))))⟩,one vn (iv.num v9) wu (λh=>absurd h u9) (λh=>ho (hs.occ.2 h)) iu λη hη=>?_⟩;rw [au hη,av hη,GK v9];exact eq_comm
   ·obtain ⟨f,n,x,e1,hf,e2⟩:=Ya (θ:=θ) u9;have heq:∀η,PS η σ->(A9 η a=A9 η b↔(BQ u=BQ v/\num u=num v/\jM u=jM v)/\(Ff u).map (A9 η)=(Ff v).map (A9 η)):=λη hη=>by
     rw [au hη,av hη];obtain ⟨f1,n1,x1,ps1⟩:=u;obtain ⟨f2,n2,x2,ps2⟩:=v;simp only [A9,if_neg (show ¬f1=9 from u9),if_neg (show ¬f2=9 from v9),Ib,BQ,num,Ff,jM,Ty.mk.injEq];grind
    by_cases hh:EW u v
    ·have au':DH (A9 θ u)<=s+1:=by rw [<- au hs.eq];exact hz
     obtain ⟨k,r,h1,h2⟩:=X5 (L:=λp=>DH (A9 θ p)<=s) σ U (λσ' θ' a' b' s' d' u' l' wa wb ia' ib'=>by
      by_cases e':SI H σ'=U
      ·obtain ⟨rfl,hL⟩:=l' e';obtain rfl:=s'.unique hs;exact ihs σ' θ' a' b' s' d' u' (λ_=>hL) wa wb ia' ib'
      ·exact ihU (SI H σ') (by omega) (DH (A9 θ' a')) σ' θ' a' b' s' d' (BL _) (λ_=>BL _) wa wb ia' ib') (Ff u) (Ff v) σ θ hh.2.2.2 hs hd hu (λ_=>⟨rfl,λp hp=>by have:=Uu (θ:=θ) u9 hp;omega⟩)
      (λp hp=>⟨EU wu p hp,iu.part u9 hp⟩) (λp hp=>⟨EU wv p hp,iv.part v9 hp⟩)
     refine ⟨k+1,r,⟨u,v,hu1,hv1,.inr (.inr (.inr (.inr (.inr (.inr (.inr ⟨u9,v9,hh,h1⟩))))))⟩,?_⟩;cases r with
     | none=>exact λη hη e=>h2 η hη ((heq η hη).1 e).2
     | some σ' =>
      obtain ⟨q1,q2,q3,q4⟩:=h2;exact ⟨q1,q2,q3,λη=>by rw [q4 η];exact ⟨λ⟨h1,h2⟩=>⟨h1,(heq η h1).2 ⟨⟨hh.1,hh.2.1,hh.2.2.1⟩,h2⟩⟩,λ⟨h1,h2⟩=>⟨h1,((heq η h1).1 h2).2⟩⟩⟩
    ·refine ⟨1,none,⟨u,v,hu1,hv1,.inr (.inr (.inr (.inr (.inr (.inr (.inl ⟨u9,v9,hh,rfl⟩))))))⟩,λη hη e=>hh ?_⟩;obtain ⟨⟨h1,h2,h3⟩,h4⟩:=(heq η hη).1 e;exact ⟨h1,h2,h3,by simpa using congrArg List.length h4⟩
def Agr (k:Int) (η η':Int->Ty):Prop:=∀n,n<k->η' n=η n
theorem Agr.refl (k:Int) (η:Int->Ty):Agr k η η:=λ_ _=>rfl
theorem Agr.trans {a b c:Int->Ty} (h:Agr k a b) (h':Agr k1 b c) (hk:k<=k1):Agr k a c:=λn hn=>(h' n (by omega)).trans (h n hn)
theorem Agr.ap {η η':Int->Ty} (h:Agr k η η') {t:Ty} (ht:inB k t):A9 η' t=A9 η t:=FQ t λm hm=>h m (ht m hm).2
theorem Agr.slv {η η':Int->Ty} (h:Agr k η η') {σ:Sb} (hd:Dom k σ) (hs:PS η σ):PS η' σ:=λn t hn=>by
 obtain ⟨⟨_,h2⟩,h3⟩:=hd n t hn;rw [h n h2,h.ap h3,hs n t hn]
theorem inB.mono {t:Ty} (h:inB k t) (hk:k<=k'):inB k' t:=λm hm=>⟨(h m hm).1,by have:=(h m hm).2;omega⟩
theorem Dom.mono {σ:Sb} (h:Dom k σ) (hk:k<=k'):Dom k' σ:=λn t hn=>by
 obtain ⟨⟨h1,h2⟩,h3⟩:=h n t hn;exact ⟨⟨h1,by omega⟩,h3.mono hk⟩
def StOk (k:Int) (σ:Sb):Prop:=0<=k/\Dom k σ/\∃θ,Sol σ θ
def StpR (k:Int) (σ:Sb) (k':Int) (σ':Sb) {β:Type} (v:(Int->Ty)->β) (G:(Int->Ty)->β->Prop):Prop :=
 k<=k'/\StOk k' σ'/\(∀η,PS η σ'->PS η σ/\G η (v η))/\∀η w,PS η σ->G η w->∃η',Agr k η η'/\PS η' σ'/\v η'=w
def StpN (σ:Sb) {β:Type} (G:(Int->Ty)->β->Prop):Prop:=∀η w,PS η σ->¬G η w
theorem StpR.bind {σ σ1 σ2:Sb} {v:(Int->Ty)->β} {v1:(Int->Ty)->β1} {v2:(Int->Ty)->β2} {G:(Int->Ty)->β->Prop} {G1:(Int->Ty)->β1->Prop} {G2:(Int->Ty)->β2->Prop} (h1:StpR k σ k1 σ1 v1 G1) (h2:StpR k1 σ1 k2 σ2 v2 G2) (hs:∀η,G1 η (v1 η)->G2 η (v2 η)->G η (v η)) (hc:∀η w,G η w->∃w1,G1 η w1/\∀η1,Agr k η η1->v1 η1=w1->∃w2,G2 η1 w2/\∀η2,Agr k1 η1 η2->Agr k η η2->v2 η2=w2->v η2=w):StpR k σ k2 σ2 v G:=by
 obtain ⟨a1,a2,a3,a4⟩:=h1;obtain ⟨b1,b2,b3,b4⟩:=h2;refine ⟨by omega,b2,λη h=>?_,λη w hη hG=>?_⟩
 ·obtain ⟨c1,c2⟩:=b3 η h;obtain ⟨d1,d2⟩:=a3 η c1;exact ⟨d1,hs η d2 c2⟩
 ·obtain ⟨w1,e1,e2⟩:=hc η w hG;obtain ⟨η1,f1,f2,f3⟩:=a4 η w1 hη e1;obtain ⟨w2,g1,g2⟩:=e2 η1 f1 f3;obtain ⟨η2,l1,l2,l3⟩:=b4 η1 w2 f2 g1;exact ⟨η2,f1.trans l1 a1,l2,g2 η2 l1 (f1.trans l1 a1) l3⟩
theorem StpN.first {σ:Sb} {G:(Int->Ty)->β->Prop} {G1:(Int->Ty)->β1->Prop} (h1:StpN σ G1) (hc:∀η w,G η w->∃w1,G1 η w1):StpN σ G:=λη w hη hG=>by
 obtain ⟨w1,h⟩:=hc η w hG;exact h1 η w1 hη h
theorem StpN.second {σ σ1:Sb} {v1:(Int->Ty)->β1} {G:(Int->Ty)->β->Prop} {G1:(Int->Ty)->β1->Prop} {G2:(Int->Ty)->β2->Prop} (h1:StpR k σ k1 σ1 v1 G1) (h2:StpN σ1 G2) (hc:∀η w,G η w->∃w1,G1 η w1/\∀η1,Agr k η η1->v1 η1=w1->∃w2,G2 η1 w2):StpN σ G:=λη w hη hG=>by
 obtain ⟨w1,e1,e2⟩:=hc η w hG;obtain ⟨η1,f1,f2,f3⟩:=h1.2.2.2 η w1 hη e1;obtain ⟨w2,g⟩:=e2 η1 f1 f3;exact h2 η1 w2 f2 g
theorem StpR.weaken {σ σ1:Sb} {β':Type} {v:(Int->Ty)->β} {v':(Int->Ty)->β'} {G:(Int->Ty)->β->Prop} {G':(Int->Ty)->β'->Prop} (h:StpR k σ k1 σ1 v G) (hs:∀η,G η (v η)->G' η (v' η)) (hc:∀η w',G' η w'->∃w,G η w/\∀η',Agr k η η'->v η'=w->v' η'=w'):StpR k σ k1 σ1 v' G':=by
 obtain ⟨a1,a2,a3,a4⟩:=h;refine ⟨a1,a2,λη h=>⟨(a3 η h).1,hs η (a3 η h).2⟩,λη w' hη hG=>?_⟩;obtain ⟨w,e1,e2⟩:=hc η w' hG;obtain ⟨η',f1,f2,f3⟩:=a4 η w hη e1;exact ⟨η',f1,f2,e2 η' f1 f3⟩
theorem K5 {σ:Sb} (h:StOk k σ) {v:(Int->Ty)->β} {G:(Int->Ty)->β->Prop} (hG:∀η w,G η w↔w=v η):StpR k σ k σ v G :=
 ⟨JV _,h,λη hη=>⟨hη,(hG η _).2 rfl⟩,λη w hη hw=>⟨η,Agr.refl _ _,hη,((hG η w).1 hw).symm⟩⟩
theorem K6 {σ:Sb} (h:StOk k σ):StpR k σ (k+1) σ (λη=>η k) (λ_ _=>True):=by
 refine ⟨by omega,⟨by have:=h.1;omega,h.2.1.mono (by omega),h.2.2⟩,λη hη=>⟨hη,trivial⟩,λη w hη _=>?_⟩;have ha:Agr k η (λn=>if n=k then w else η n):=λn hn=>by simp only;rw [if_neg (by omega)]
 exact ⟨_,ha,ha.slv h.2.1 hη,by simp⟩
theorem YA {σ:Sb} {a b:Ty} (h:StOk k σ) (ha:C9 a=true) (hb:C9 b=true) (ia:inB k a) (ib:inB k b) :
  ∃n r,Ox n σ a b r/\match r with
   | some σ'=>StpR k σ k σ' (λ_=>()) (λη _=>A9 η a=A9 η b)
   | none=>StpN σ (β:=Unit) (λη _=>A9 η a=A9 η b):=by
 obtain ⟨h0,hd,θ,hs⟩:=h;have ek:((k.toNat:Nat):Int)=k:=by omega
 rw [<- ek] at hd ia ib;obtain ⟨n,r,h1,h2⟩:=dK k.toNat (SI k.toNat σ) (DH (A9 θ a)) σ θ a b hs hd (BL _) (λ_=>BL _) ha hb ia ib;refine ⟨n,r,h1,?_⟩;cases r with
 | none=>exact λη _ hη=>h2 η hη
 | some σ' =>
  obtain ⟨g1,g2,g3,g4⟩:=h2;rw [ek] at g2;exact ⟨JV _,⟨h0,g2,g1⟩,λη hη=>(g4 η).1 hη,λη _ hη hG=>⟨η,Agr.refl _ _,(g4 η).2 ⟨hη,hG⟩,rfl⟩⟩
def AU:Ty:=.mk 1 0 [] []
def Ca:Ty:=.mk 2 0 [] []
def Dm:Ty:=.mk 3 0 [] []
def Be (a b:Ty):Ty:=.mk 4 0 [] [a,b]
def Ir (s:Int) (a:Ty):Ty:=.mk s 0 [] [a]
def Bx (x:Str):Ty:=.mk 8 0 x []
abbrev Au:=List (Str×Ty)
def LP:Au->Str->Option Ty
 | [],_=>none
 | (y,t)::r,x=>match LP r x with
  | some u=>some u
  | none=>if y=x then some t else none
def MV:List Fd->Str->Option Ty
 | [],_=>none
 | f::r,x=>if f.name=x then some (Be f.from_ f.to_) else MV r x
def CM (m:Md) (Γ:Au) (x:Str):Option Ty:=match LP Γ x with
 | some t=>some t
 | none=>MV m.funs x
def Ju:List Cd->Str->Option Cd
 | [],_=>none
 | c::r,x=>if c.name=x then some c else Ju r x
def Fj:List Dt->Str->Option (Cd×Str)
 | [],_=>none
 | d::r,x=>match Ju d.cons x with
  | some c=>some (c,d.name)
  | none=>Fj r x
mutual
def IQ (m:Md):Ty->Ty->Au->Au->Prop
 | .mk f _ x ps,τ,Γ,Γ' =>
  if f=2 then Γ'=Γ++[(x,τ)]
  else if f=3 then τ=AU/\Γ'=Γ
  else if f=4 then τ=Ca/\Γ'=Γ
  else if f=5 then τ=Dm/\Γ'=Γ
  else if f=6 then ∃c d,Fj m.datas x=some (c,d)/\c.args.length=ps.length/\τ=Bx d/\Ug m ps c.args Γ Γ'
  else Γ'=Γ
def Ug (m:Md):List Ty->List Ty->Au->Au->Prop
 | [],[],Γ,Γ'=>Γ'=Γ
 | p::ps,t::ts,Γ,Γ'=>∃Γ1,IQ m p t Γ Γ1/\Ug m ps ts Γ1 Γ'
 | _,_,_,_=>False
end
def Nv (m:Md) (τ:Ty) (Γ:Au):List Ty->List Au->Prop
 | [],l=>l=[]
 | p::ps,l=>∃Γ1 l1,IQ m p τ Γ Γ1/\Nv m τ Γ ps l1/\l=Γ1::l1
def Bp (m:Md) (Γ:Au) (op:Int) (x:Str) (ps:List Ty) (kids:List (Au×Ty)) (τ:Ty) (S:List Ty):Prop :=
 if op=1\/op=25 then kids=[]/\τ=AU/\S=[]
 else if op=2 then kids=[]/\τ=Ca/\S=[]
 else if op=3\/op=28 then kids=[]/\τ=Dm/\S=[]
 else if op=4 then kids=[]/\CM m Γ x=some τ/\S=[]
 else if op=5 then ∃a b,kids=[(Γ++[(x,a)],b)]/\τ=Be a b/\S=[]
 else if op=6 then ∃a,kids=[(Γ,Be a τ),(Γ,a)]/\S=[]
 else if op=7 then ∃a,kids=[(Γ,a),(Γ++[(x,a)],τ)]/\S=[]
 else if op=8 then kids=[(Γ,Ca),(Γ,τ),(Γ,τ)]/\S=[]
 else if op=9\/op=10\/op=11 then kids=[(Γ,AU),(Γ,AU)]/\τ=AU/\S=[]
 else if op=12 then kids=[(Γ,AU),(Γ,AU)]/\τ=Ca/\S=[]
 else if op=13 then ∃a,kids=[(Γ,a),(Γ,a)]/\τ=Ca/\S=[a]
 else if op=14 then ∃c d,Fj m.datas x=some (c,d)/\kids=c.args.map (λt=>(Γ,t))/\τ=Bx d/\S=[]
 else if op=15 then ∃a l,Nv m a Γ ps l/\kids=(Γ,a)::l.map (λΔ=>(Δ,τ))/\S=[]
 else if op=16 then ∃a,kids=[(Γ,a)]/\τ=Ir 5 a/\S=[]
 else if op=17 then kids=[(Γ,Ir 5 τ)]/\S=[]
 else if op=18 then ∃a,kids=[(Γ,Ir 5 a),(Γ,a)]/\τ=Dm/\S=[]
 else if op=19 then ∃a,kids=[(Γ,Be Dm a)]/\τ=Ir 7 a/\S=[]
 else if op=20 then kids=[(Γ,Ir 7 τ)]/\S=[]
 else if op=21 then ∃a,kids=[]/\τ=Ir 6 a/\S=[]
 else if op=22 then ∃a,kids=[(Γ,Ir 6 a),(Γ,a)]/\τ=Dm/\S=[]
 else if op=23 then kids=[(Γ,Ir 6 τ)]/\S=[]
 else if op=24 then kids=[(Γ,AU)]/\τ=Dm/\S=[]
 else if op=26 then kids=[(Γ,AU)]/\τ=AU/\S=[]
 else if op=27 then kids=[(Γ++[(x,Be τ AU)],AU)]/\S=[]
 else False
mutual
def CC (m:Md):Tm->Au->Ty->List Ty->Prop
 | .mk op _ x ks ps,Γ,τ,S=>∃kids S1 S2,Bp m Γ op x ps kids τ S2/\Dc m ks kids S1/\S=S1++S2
def Dc (m:Md):List Tm->List (Au×Ty)->List Ty->Prop
 | [],[],S=>S=[]
 | t::ts,k::ks,S=>∃S1 S2,CC m t k.1 k.2 S1/\Dc m ts ks S2/\S=S1++S2
 | _,_,_=>False
end
def F1 (η:Int->Ty) (Γ:Au):Au:=Γ.map λp=>(p.1,A9 η p.2)
def FS (η:Int->Ty) (l:List (Au×Ty)):List (Au×Ty):=l.map λp=>(F1 η p.1,A9 η p.2)
def EnvOk (k:Int) (Γ:Au):Prop:=∀p∈Γ,C9 p.2=true/\inB k p.2
def TysOk (k:Int) (l:List Ty):Prop:=∀t∈l,C9 t=true/\inB k t
def KidsOk (k:Int) (l:List (Au×Ty)):Prop:=∀p∈l,EnvOk k p.1/\C9 p.2=true/\inB k p.2
theorem EnvOk.mono {Γ:Au} (h:EnvOk k Γ) (hk:k<=k'):EnvOk k' Γ:=λp hp=>⟨(h p hp).1,(h p hp).2.mono hk⟩
theorem TysOk.mono {l:List Ty} (h:TysOk k l) (hk:k<=k'):TysOk k' l:=λp hp=>⟨(h p hp).1,(h p hp).2.mono hk⟩
theorem KidsOk.mono {l:List (Au×Ty)} (h:KidsOk k l) (hk:k<=k'):KidsOk k' l:=λp hp=>⟨(h p hp).1.mono hk,(h p hp).2.1,(h p hp).2.2.mono hk⟩
theorem TysOk.append {l r:List Ty} (h:TysOk k l) (h':TysOk k r):TysOk k (l++r):=λt ht=>(BU.1 ht).elim (h t) (h' t)
theorem EnvOk.add {Γ:Au} {x:Str} {t:Ty} (h:EnvOk k Γ) (h1:C9 t=true) (h2:inB k t):EnvOk k (Γ++[(x,t)]):=λp hp=>by
 rcases BU.1 hp with hp | hp
 ·exact h p hp
 ·rw [AN.1 hp];exact ⟨h1,h2⟩
theorem Agr.env {η η':Int->Ty} (h:Agr k η η') {Γ:Au} (hΓ:EnvOk k Γ):F1 η' Γ=F1 η Γ:=Jg λp hp=>by rw [h.ap (hΓ p hp).2]
theorem Agr.tys {η η':Int->Ty} (h:Agr k η η') {l:List Ty} (hl:TysOk k l):l.map (A9 η')=l.map (A9 η):=Jg λp hp=>h.ap (hl p hp).2
theorem Agr.kids {η η':Int->Ty} (h:Agr k η η') {l:List (Au×Ty)} (hl:KidsOk k l):FS η' l=FS η l:=Jg λp hp=>by rw [h.env (hl p hp).1,h.ap (hl p hp).2.2]
theorem Ha (η:Int->Ty) (Γ:Au) (x:Str) (t:Ty):F1 η (Γ++[(x,t)])=F1 η Γ++[(x,A9 η t)]:=by simp [F1]
theorem BD {t:Ty} (h:CO t=[]) (k:Int):inB k t:=λm hm=>by rw [h] at hm;cases hm
theorem Gq {t:Ty} (h:CO t=[]) (hw:C9 t=true) (η:Int->Ty):A9 η t=t:=by
 rw [FQ (θ:=Ao) t λm hm=>by rw [h] at hm;cases hm];exact dU t hw
def BM (m:Md) (Γ:Au) (t:Tm) (k:Int) (σ:Sb):Option (Ty×Int×Sb×List Ty)->Prop
 | some (τ,k',σ',N)=>StpR k σ k' σ' (λη=>(A9 η τ,N.map (A9 η))) (λη w=>CC m t (F1 η Γ) w.1 w.2)/\C9 τ=true/\inB k' τ/\TysOk k' N
 | none=>StpN σ (β:=Ty×List Ty) (λη w=>CC m t (F1 η Γ) w.1 w.2)
def H6 (m:Md) (ts:List Tm) (kids:List (Au×Ty)) (k:Int) (σ:Sb):Option (Int×Sb×List Ty)->Prop
 | some (k',σ',N)=>StpR k σ k' σ' (λη=>N.map (A9 η)) (λη w=>Dc m ts (FS η kids) w)/\TysOk k' N
 | none=>StpN σ (β:=List Ty) (λη w=>Dc m ts (FS η kids) w)
theorem WT {m:Md} {σ:Sb} (h:StOk k σ):H6 m [] [] k σ (some (k,σ,[])) :=
 ⟨K5 h λη w=>by simp [FS,Dc],λt ht=>by cases ht⟩
theorem T8 {m:Md} {ts:List Tm} {kids:List (Au×Ty)} {σ:Sb} (h:ts.length≠kids.length):H6 m ts kids k σ none:=by
 intro η w _ hw;have:∀(ts:List Tm) (l:List (Au×Ty)) (S:List Ty),Dc m ts l S->ts.length=l.length:=by
  intro ts
  induction ts with
  | nil=>intro l S h;cases l with
   | nil=>rfl
   | cons a r=>exact h.elim
  | cons t r ih=>intro l S h;cases l with
   | nil=>exact h.elim
   | cons a l=>obtain ⟨S1,S2,_,h2,_⟩:=h;simp [ih l S2 h2]
 exact h (by simpa [FS] using this _ _ _ hw)
theorem J3 {m:Md} {t:Tm} {ts:List Tm} {Γ:Au} {want:Ty} {kids:List (Au×Ty)} {σ:Sb} (h:BM m Γ t k σ none):H6 m (t::ts) ((Γ,want)::kids) k σ none:=by
 refine StpN.first h λη w hw=>?_;obtain ⟨S1,S2,h1,_⟩:=hw;exact ⟨(_,S1),h1⟩
theorem MJ {m:Md} {t:Tm} {ts:List Tm} {Γ:Au} {want τ:Ty} {kids:List (Au×Ty)} {σ σ1:Sb} {N1:List Ty} (h:BM m Γ t k σ (some (τ,k1,σ1,N1))) (hw:inB k want) (he:StpN σ1 (β:=Unit) (λη _=>A9 η τ=A9 η want)) :
  H6 m (t::ts) ((Γ,want)::kids) k σ none:=by
 refine StpN.second h.1 he λη w hw'=>?_;obtain ⟨S1,S2,h1,_⟩:=hw';refine ⟨(A9 η want,S1),h1,λη1 ha hv=>⟨(),?_⟩⟩;simp only [Bc] at hv;rw [hv.1,ha.ap hw]
theorem NX {m:Md} {t:Tm} {ts:List Tm} {Γ:Au} {want τ:Ty} {kids:List (Au×Ty)} {σ σ1 σ2:Sb} {N1:List Ty} {r:Option (Int×Sb×List Ty)} (hk:KidsOk k ((Γ,want)::kids)) (h:BM m Γ t k σ (some (τ,k1,σ1,N1))) (he:StpR k1 σ1 k1 σ2 (λ_=>()) (λη _=>A9 η τ=A9 η want)) (hr:H6 m ts kids k1 σ2 r):H6 m (t::ts) ((Γ,want)::kids) k σ (r.map λx=>(x.1,x.2.1,N1++x.2.2)):=by
 obtain ⟨h1,h2,h3,h4⟩:=h;have hk1:=h1.1;have hw:=(hk (Γ,want) (by simp)).2.2;have hks:KidsOk k kids:=λp hp=>hk p (by simp [hp]);have hA:StpR k σ k1 σ2 (λη=>N1.map (A9 η)) (λη w=>CC m t (F1 η Γ) (A9 η want) w):=by
  refine h1.bind he (λη g1 g2=>by rw [<- g2];exact g1) λη w hG=>⟨(A9 η want,w),hG,λη1 ha hv=>⟨(),?_,λη2 hb hab _=>?_⟩⟩
  ·simp only [Bc] at hv;rw [hv.1,ha.ap hw]
  ·simp only [Bc] at hv;rw [hb.tys h4,hv.2]
 cases r with
 | none =>
  refine StpN.second hA hr λη w hw'=>?_;obtain ⟨S1,S2,g1,g2,_⟩:=hw';exact ⟨S1,g1,λη1 ha _=>⟨S2,by rw [ha.kids hks];exact g2⟩⟩
 | some x =>
  obtain ⟨k3,σ3,N3⟩:=x;obtain ⟨r1,r2⟩:=hr;refine ⟨hA.bind r1 (λη g1 g2=>?_) λη w hG=>?_,(h4.mono r1.1).append r2⟩
  ·simp only [CL];exact ⟨_,_,g1,g2,rfl⟩
  ·obtain ⟨S1,S2,g1,g2,rfl⟩:=hG;refine ⟨S1,g1,λη1 ha hv=>⟨S2,by rw [ha.kids hks];exact g2,λη2 hb hab hv2=>?_⟩⟩;simp only [CL];rw [hb.tys h4,hv,hv2]
def uU (m:Md) (Γ:Au) (op:Int) (x:Str) (ps:List Ty) (k k1:Int) (kids:List (Au×Ty)) (τ:Ty) (S:List Ty):Prop :=
 (∀η,Bp m (F1 η Γ) op x ps (FS η kids) (A9 η τ) (S.map (A9 η)))/\∀η K τ0 S0,Bp m (F1 η Γ) op x ps K τ0 S0->∃f:Int->Ty,∀η',Agr k η η'->(∀n,k<=n->n<k1->η' n=f n)->FS η' kids=K/\A9 η' τ=τ0/\S.map (A9 η')=S0
theorem Wk {σ:Sb} (h:StOk k σ) (n:Nat):StpR k σ (k+n) σ (λη (i:Int)=>if k<=i/\i<k+n then η i else Ao 0) (λ_ (f:Int->Ty)=>∀i,¬(k<=i/\i<k+n)->f i=Ao 0):=by
 refine ⟨by omega,⟨by have:=h.1;omega,h.2.1.mono (by omega),h.2.2⟩,λη hη=>⟨hη,λi hi=>by simp only;rw [if_neg hi]⟩,λη f hη hf=>?_⟩;have ha:Agr k η (λi=>if k<=i/\i<k+n then f i else η i):=λi hi=>by simp only;rw [if_neg (by omega)]
 refine ⟨_,ha,ha.slv h.2.1 hη,funext λi=>?_⟩;by_cases e:k<=i/\i<k+n
 ·simp only [if_pos e]
 ·simp only [if_neg e];exact (hf i e).symm
theorem IE {m:Md} {Γ:Au} {op:Int} {x:Str} {ks:List Tm} {ps:List Ty} {σ:Sb} {kids:List (Au×Ty)} {τ:Ty} {S:List Ty} {r:Option (Int×Sb×List Ty)} (h:StOk k σ) (hS:uU m Γ op x ps k (k+j) kids τ S) (hk:KidsOk (k+j) kids) (h1:C9 τ=true) (h2:inB (k+j) τ) (h3:TysOk (k+j) S) (hr:H6 m ks kids (k+j) σ r):BM m Γ (.mk op n x ks ps) k σ (r.map λy=>(τ,y.1,y.2.1,y.2.2++S)):=by
 have hf:=Wk h j;obtain ⟨s1,s2⟩:=hS;have key:∀η (w:Ty×List Ty),CC m (.mk op n x ks ps) (F1 η Γ) w.1 w.2->∃f:Int->Ty,(∀i,¬(k<=i/\i<k+j)->f i=Ao 0)/\∀η1,Agr k η η1->(λi:Int=>if k<=i/\i<k+j then η1 i else Ao 0)=f->∃S1,Dc m ks (FS η1 kids) S1/\A9 η1 τ=w.1/\S1++S.map (A9 η1)=w.2:=by
  intro η w hw;obtain ⟨K,S1,S2,w1,w2,w3⟩:=hw;obtain ⟨f,hf⟩:=s2 η K w.1 S2 w1;refine ⟨λi=>if k<=i/\i<k+j then f i else Ao 0,λi hi=>by simp only;rw [if_neg hi],λη1 ha hv=>?_⟩;obtain ⟨q1,q2,q3⟩:=hf η1 ha λi hi1 hi2=>by
   have:=congrFun hv i;simp only [if_pos (And.intro hi1 hi2)] at this;exact this
  exact ⟨S1,by rw [q1];exact w2,q2,by rw [q3,w3]⟩
 cases r with
 | none =>
  refine StpN.second hf hr λη w hw=>?_;obtain ⟨f,f1,f2⟩:=key η w hw;exact ⟨f,f1,λη1 ha hv=>let ⟨S1,q,_⟩:=f2 η1 ha hv;⟨S1,q⟩⟩
 | some y =>
  obtain ⟨k3,σ3,N3⟩:=y;obtain ⟨r1,r2⟩:=hr;refine ⟨hf.bind r1 (λη _ g2=>?_) λη w hG=>?_,h1,h2.mono r1.1,r2.append (h3.mono r1.1)⟩
  ·simp only [CL];exact ⟨_,_,_,s1 η,g2,rfl⟩
  ·obtain ⟨f,f1,f2⟩:=key η w hG;refine ⟨f,f1,λη1 ha hv=>?_⟩;obtain ⟨S1,q1,q2,q3⟩:=f2 η1 ha hv;refine ⟨S1,q1,λη2 hb _ hv2=>?_⟩;simp only [CL];rw [hb.ap h2,q2,hv2,hb.tys h3,q3]
def Dx (m:Md):Prop:=(∀f∈m.funs,CO (Be f.from_ f.to_)=[]/\C9 (Be f.from_ f.to_)=true)/\∀d∈m.datas,∀c∈d.cons,∀t∈c.args,CO t=[]/\C9 t=true
theorem nL (η:Int->Ty):∀(Γ:Au) (x:Str),LP (F1 η Γ) x=(LP Γ x).map (A9 η)
 | [],x=>rfl
 | (y,t)::r,x=>by
  simp only [F1,Cv,LP];rw [show r.map (λp=>(p.1,A9 η p.2))=F1 η r from rfl,nL η r x];cases LP r x with
  | some u=>rfl
  | none=>simp only [UT];split <;> rfl
theorem Rn:∀{l:List Fd} {x:Str} {t:Ty},MV l x=some t->∃f∈l,t=Be f.from_ f.to_
 | f::r,x,t,h=>by
  simp only [MV] at h
  split at h
  ·cases h;exact ⟨f,by simp,rfl⟩
  ·obtain ⟨g,h1,h2⟩:=Rn h;exact ⟨g,by simp [h1],h2⟩
theorem QR {m:Md} (hm:Dx m) (η:Int->Ty) (Γ:Au) (x:Str):CM m (F1 η Γ) x=(CM m Γ x).map (A9 η):=by
 simp only [CM,nL];cases LP Γ x with
 | some t=>rfl
 | none =>
  simp only [UT];cases e:MV m.funs x with
  | none=>rfl
  | some t =>
   obtain ⟨f,h1,rfl⟩:=Rn e;simp only [cP,Gq (hm.1 f h1).1 (hm.1 f h1).2]
theorem nK {k:Int}:∀{Γ:Au} {x:Str} {t:Ty},EnvOk k Γ->LP Γ x=some t->C9 t=true/\inB k t
 | (y,u)::r,x,t,h,hl=>by
  simp only [LP] at hl;cases e:LP r x with
  | some v=>rw [e] at hl;cases hl;exact nK (λp hp=>h p (by simp [hp])) e
  | none =>
   rw [e] at hl;simp only at hl
   split at hl
   ·cases hl;exact h (y,u) (by simp)
   ·cases hl
theorem nI {m:Md} (hm:Dx m) {Γ:Au} {x:Str} {t:Ty} (h:EnvOk k Γ) (hl:CM m Γ x=some t):C9 t=true/\inB k t:=by
 simp only [CM] at hl;cases e:LP Γ x with
 | some u=>rw [e] at hl;cases hl;exact nK h e
 | none =>
  rw [e] at hl;obtain ⟨f,h1,rfl⟩:=Rn hl;exact ⟨(hm.1 f h1).2,BD (hm.1 f h1).1 k⟩
theorem XM:∀{l:List Cd} {x:Str} {c:Cd},Ju l x=some c->c∈l
 | c::r,x,d,h=>by
  simp only [Ju] at h
  split at h
  ·cases h;simp
  ·exact HR _ (XM h)
theorem dN:∀{l:List Dt} {x:Str} {c:Cd} {y:Str},Fj l x=some (c,y)->∃d∈l,c∈d.cons
 | d::r,x,c,y,h=>by
  simp only [Fj] at h;cases e:Ju d.cons x with
  | some c'=>rw [e] at h;cases h;exact ⟨d,by simp,XM e⟩
  | none =>
   rw [e] at h;obtain ⟨d',h1,h2⟩:=dN h;exact ⟨d',by simp [h1],h2⟩
theorem Fi {m:Md} (hm:Dx m) {x:Str} {c:Cd} {y:Str} (h:Fj m.datas x=some (c,y)):∀t∈c.args,CO t=[]/\C9 t=true:=by
 obtain ⟨d,h1,h2⟩:=dN h;exact hm.2 d h1 c h2
def A5 (op:Int) (a:Ty):List Ty×Ty×List Ty :=
 if op=1\/op=25 then ([],AU,[])
 else if op=2 then ([],Ca,[])
 else if op=3\/op=28 then ([],Dm,[])
 else if op=8 then ([Ca,a,a],a,[])
 else if op=9\/op=10\/op=11 then ([AU,AU],AU,[])
 else if op=12 then ([AU,AU],Ca,[])
 else if op=13 then ([a,a],Ca,[a])
 else if op=16 then ([a],Ir 5 a,[])
 else if op=17 then ([Ir 5 a],a,[])
 else if op=18 then ([Ir 5 a,a],Dm,[])
 else if op=19 then ([Be Dm a],Ir 7 a,[])
 else if op=20 then ([Ir 7 a],a,[])
 else if op=21 then ([],Ir 6 a,[])
 else if op=22 then ([Ir 6 a,a],Dm,[])
 else if op=23 then ([Ir 6 a],a,[])
 else if op=24 then ([AU],Dm,[])
 else ([AU],AU,[])
def BX (op:Int):Prop:=op=1\/op=25\/op=2\/op=3\/op=28\/op=8\/op=9\/op=10\/op=11\/op=12\/op=13\/op=16\/op=17\/op=18\/op=19\/op=20\/op=21\/op=22\/op=23\/op=24\/op=26
def C1 (op:Int):Prop:=op=8\/op=13\/op=16\/op=17\/op=18\/op=19\/op=20\/op=21\/op=22\/op=23
@[simp] theorem ap_kInt (η:Int->Ty):A9 η AU=AU:=by simp [AU,A9,Db]
@[simp] theorem ap_kBool (η:Int->Ty):A9 η Ca=Ca:=by simp [Ca,A9,Db]
@[simp] theorem ap_kUnit (η:Int->Ty):A9 η Dm=Dm:=by simp [Dm,A9,Db]
@[simp] theorem ap_kData (η:Int->Ty) (x:Str):A9 η (Bx x)=Bx x:=by simp [Bx,A9,Db]
@[simp] theorem ap_kFun (η:Int->Ty) (a b:Ty):A9 η (Be a b)=Be (A9 η a) (A9 η b):=by simp [Be,A9,Db]
theorem bC (η:Int->Ty) (s:Int) (h:s≠9) (a:Ty):A9 η (Ir s a)=Ir s (A9 η a):=by simp [Ir,A9,Db,h]
@[simp] theorem ap_k5 (η:Int->Ty) (a:Ty):A9 η (Ir 5 a)=Ir 5 (A9 η a):=bC η 5 (by decide) a
@[simp] theorem ap_k6 (η:Int->Ty) (a:Ty):A9 η (Ir 6 a)=Ir 6 (A9 η a):=bC η 6 (by decide) a
@[simp] theorem ap_k7 (η:Int->Ty) (a:Ty):A9 η (Ir 7 a)=Ir 7 (A9 η a):=bC η 7 (by decide) a
@[simp] theorem ap_hole' (η:Int->Ty) (n:Int):A9 η (Ao n)=η n:=CV η n
theorem VY {m:Md} {Γ:Au} {op:Int} {x:Str} {ps:List Ty} (h:BX op) (ho:C1 op->k<k1) (hΓ:EnvOk k Γ) :
  uU m Γ op x ps k k1 ((A5 op (Ao k)).1.map λt=>(Γ,t)) (A5 op (Ao k)).2.1 (A5 op (Ao k)).2.2:=by
 constructor
 ·intro η;rcases h with rfl | rfl | rfl | rfl | rfl | rfl | rfl | rfl | rfl | rfl | rfl | rfl | rfl | rfl | rfl | rfl | rfl | rfl | rfl | rfl | rfl <;> simp [Bp,A5,FS] <;> first | exact ⟨_,rfl,rfl⟩ | exact ⟨_,rfl⟩
 ·intro η K τ0 S0 hR;have hE:∀η',Agr k η η'->F1 η' Γ=F1 η Γ:=λη' ha=>ha.env hΓ;have mk:∀(w:Ty),C1 op->(∀η',Agr k η η'->η' k=w->FS η' ((A5 op (Ao k)).1.map λt=>(Γ,t))=K/\A9 η' (A5 op (Ao k)).2.1=τ0/\(A5 op (Ao k)).2.2.map (A9 η')=S0) ->
    ∃f:Int->Ty,∀η',Agr k η η'->(∀n,k<=n->n<k1->η' n=f n)->FS η' ((A5 op (Ao k)).1.map λt=>(Γ,t))=K/\A9 η' (A5 op (Ao k)).2.1=τ0/\(A5 op (Ao k)).2.2.map (A9 η')=S0:=λw hop hw =>
   ⟨λ_=>w,λη' ha hf=>hw η' ha (hf k (JV _) (ho hop))⟩
  have mk0:(∀η',Agr k η η'->FS η' ((A5 op (Ao k)).1.map λt=>(Γ,t))=K/\A9 η' (A5 op (Ao k)).2.1=τ0/\(A5 op (Ao k)).2.2.map (A9 η')=S0) ->
    ∃f:Int->Ty,∀η',Agr k η η'->(∀n,k<=n->n<k1->η' n=f n)->FS η' ((A5 op (Ao k)).1.map λt=>(Γ,t))=K/\A9 η' (A5 op (Ao k)).2.1=τ0/\(A5 op (Ao k)).2.2.map (A9 η')=S0:=λhw =>
   ⟨λ_=>Ao 0,λη' ha _=>hw η' ha⟩
  rcases h with rfl | rfl | rfl | rfl | rfl | rfl | rfl | rfl | rfl | rfl | rfl | rfl | rfl | rfl | rfl | rfl | rfl | rfl | rfl | rfl | rfl
  ·simp [Bp] at hR;obtain ⟨rfl,rfl,rfl⟩:=hR;exact mk0 λη' ha=>by simp [A5,FS]
  ·simp [Bp] at hR;obtain ⟨rfl,rfl,rfl⟩:=hR;exact mk0 λη' ha=>by simp [A5,FS]
  ·simp [Bp] at hR;obtain ⟨rfl,rfl,rfl⟩:=hR;exact mk0 λη' ha=>by simp [A5,FS]
  ·simp [Bp] at hR;obtain ⟨rfl,rfl,rfl⟩:=hR;exact mk0 λη' ha=>by simp [A5,FS]
  ·simp [Bp] at hR;obtain ⟨rfl,rfl,rfl⟩:=hR;exact mk0 λη' ha=>by simp [A5,FS]
  ·simp [Bp] at hR;obtain ⟨rfl,rfl⟩:=hR;exact mk τ0 (by simp [C1]) λη' ha hk=>by simp [A5,FS,hE η' ha,hk]
  ·simp [Bp] at hR;obtain ⟨rfl,rfl,rfl⟩:=hR;exact mk0 λη' ha=>by simp [A5,FS,hE η' ha]
  ·simp [Bp] at hR;obtain ⟨rfl,rfl,rfl⟩:=hR;exact mk0 λη' ha=>by simp [A5,FS,hE η' ha]
  ·simp [Bp] at hR;obtain ⟨rfl,rfl,rfl⟩:=hR;exact mk0 λη' ha=>by simp [A5,FS,hE η' ha]
  ·simp [Bp] at hR;obtain ⟨rfl,rfl,rfl⟩:=hR;exact mk0 λη' ha=>by simp [A5,FS,hE η' ha]
  ·simp [Bp] at hR;obtain ⟨a,rfl,rfl,rfl⟩:=hR;exact mk a (by simp [C1]) λη' ha hk=>by simp [A5,FS,hE η' ha,hk]
  ·simp [Bp] at hR;obtain ⟨a,rfl,rfl,rfl⟩:=hR;exact mk a (by simp [C1]) λη' ha hk=>by simp [A5,FS,hE η' ha,hk]
  ·simp [Bp] at hR;obtain ⟨rfl,rfl⟩:=hR;exact mk τ0 (by simp [C1]) λη' ha hk=>by simp [A5,FS,hE η' ha,hk]
  ·simp [Bp] at hR;obtain ⟨⟨a,rfl⟩,rfl,rfl⟩:=hR;exact mk a (by simp [C1]) λη' ha hk=>by simp [A5,FS,hE η' ha,hk]
  ·simp [Bp] at hR;obtain ⟨a,rfl,rfl,rfl⟩:=hR;exact mk a (by simp [C1]) λη' ha hk=>by simp [A5,FS,hE η' ha,hk]
  ·simp [Bp] at hR;obtain ⟨rfl,rfl⟩:=hR;exact mk τ0 (by simp [C1]) λη' ha hk=>by simp [A5,FS,hE η' ha,hk]
  ·simp [Bp] at hR;obtain ⟨rfl,⟨a,rfl⟩,rfl⟩:=hR;exact mk a (by simp [C1]) λη' ha hk=>by simp [A5,FS,hE η' ha,hk]
  ·simp [Bp] at hR;obtain ⟨⟨a,rfl⟩,rfl,rfl⟩:=hR;exact mk a (by simp [C1]) λη' ha hk=>by simp [A5,FS,hE η' ha,hk]
  ·simp [Bp] at hR;obtain ⟨rfl,rfl⟩:=hR;exact mk τ0 (by simp [C1]) λη' ha hk=>by simp [A5,FS,hE η' ha,hk]
  ·simp [Bp] at hR;obtain ⟨rfl,rfl,rfl⟩:=hR;exact mk0 λη' ha=>by simp [A5,FS,hE η' ha]
  ·simp [Bp] at hR;obtain ⟨rfl,rfl,rfl⟩:=hR;exact mk0 λη' ha=>by simp [A5,FS,hE η' ha]
theorem StpR.lower {σ σ1:Sb} {v:(Int->Ty)->β} {G:(Int->Ty)->β->Prop} (h:StpR k0 σ k1 σ1 v G) (hk:k<=k0):StpR k σ k1 σ1 v G:=by
 obtain ⟨a1,a2,a3,a4⟩:=h;refine ⟨by omega,a2,a3,λη w hη hG=>?_⟩;obtain ⟨η',f1,f2,f3⟩:=a4 η w hη hG;exact ⟨η',λn hn=>f1 n (by omega),f2,f3⟩
theorem Xm {a b:Ty} (h1:inB k a) (h2:inB k b):inB k (Be a b):=λm hm=>by
 simp [Be,CO,DK] at hm;exact hm.elim (h1 m) (h2 m)
theorem cV (hs:s≠9) {a:Ty} (h1:inB k a):inB k (Ir s a):=λm hm=>by
 simp [Ir,CO,DK,hs] at hm;exact h1 m hm
theorem bG {a b:Ty} (h1:C9 a=true) (h2:C9 b=true):C9 (Be a b)=true:=by simp [Be,C9,Gw,h1,h2]
theorem jU (hs:s≠9) (h0:s≠0) {a:Ty} (h1:C9 a=true):C9 (Ir s a)=true:=by simp [Ir,C9,Gw,h1,hs,h0]
theorem Xj {m:Md} (hm:Dx m) {Γ:Au} {x:Str} {ps:List Ty} {σ:Sb} (h:StOk k σ) (hΓ:EnvOk k Γ):BM m Γ (.mk 4 n x [] ps) k σ ((CM m Γ x).map λτ=>(τ,k,σ,[])):=by
 cases e:CM m Γ x with
 | none =>
  intro η w _ ⟨K,S1,S2,h1,h2,h3⟩;simp [Bp,QR hm,e] at h1
 | some τ =>
  obtain ⟨h1,h2⟩:=nI hm hΓ e;refine ⟨K5 h λη w=>?_,h1,h2,λt ht=>by cases ht⟩;constructor
  ·rintro ⟨K,S1,S2,q1,q2,q3⟩;simp [Bp,QR hm,e] at q1;obtain ⟨rfl,q4,rfl⟩:=q1;simp only [Dc] at q2;subst q2;obtain ⟨w1,w2⟩:=w;simp only at q3 q4 ⊢;rw [q3,q4];rfl
  ·rintro rfl;exact ⟨[],[],[],by simp [Bp,QR hm,e],rfl,rfl⟩
theorem MN {m:Md} {Γ:Au} {x:Str} {ks:List Tm} {ps:List Ty} {σ:Sb} (h:Fj m.datas x=none):BM m Γ (.mk 14 n x ks ps) k σ none:=by
 intro η w _ ⟨K,S1,S2,h1,_⟩;simp [Bp,h] at h1
theorem MO {m:Md} (hm:Dx m) {Γ:Au} {x y:Str} {c:Cd} {ks:List Tm} {ps:List Ty} {σ:Sb} {r:Option (Int×Sb×List Ty)} (hs:StOk k σ) (hΓ:EnvOk k Γ) (h:Fj m.datas x=some (c,y)) (hr:H6 m ks (c.args.map λt=>(Γ,t)) k σ r) :
  BM m Γ (.mk 14 n x ks ps) k σ (r.map λz=>(Bx y,z)):=by
 have ha:=Fi hm h;have hc:∀η,c.args.map (λt=>(F1 η Γ,A9 η t))=c.args.map λt=>(F1 η Γ,t):=λη=>Jg λt ht=>by rw [Gq (ha t ht).1 (ha t ht).2]
 have key:=IE (m:=m) (Γ:=Γ) (op:=14) (n:=n) (x:=x) (ks:=ks) (ps:=ps) (j:=0) (kids:=c.args.map λt=>(Γ,t)) (τ:=Bx y) (S:=[]) (r:=r) hs ⟨λη=>?_,λη K τ0 S0 hR=>?_⟩ (λp hp=>?_) (by rfl) (BD rfl _) (λt ht=>by cases ht) (by simpa using hr)
 ·cases r with
  | none=>exact key
  | some z=>simpa using key
 ·simp only [Bp,h];simp [FS,Function.comp_def,hc η];exact ⟨_,_,⟨rfl,rfl⟩,rfl,rfl⟩
 ·simp only [Bp,h] at hR;simp at hR;obtain ⟨_,_,⟨rfl,rfl⟩,rfl,rfl,rfl⟩:=hR;exact ⟨λ_=>Ao 0,λη' hag _=>by
   simp [FS,Function.comp_def,hag.env hΓ];exact λa hx=>Gq (ha a hx).1 (ha a hx).2 η'⟩
 ·obtain ⟨t,ht,rfl⟩:=Cc.1 hp;exact ⟨by simpa using hΓ,(ha t ht).2,BD (ha t ht).1 _⟩
theorem Vi {m:Md} {Γ:Au} {x:Str} {t:Tm} {ps:List Ty} {σ:Sb} {r:Option (Ty×Int×Sb×List Ty)} (hs:StOk k σ) (hΓ:EnvOk k Γ) (hr:BM m (Γ++[(x,Ao k)]) t (k+1) σ r) :
  BM m Γ (.mk 5 n x [t] ps) k σ (r.map λz=>(Be (Ao k) z.1,z.2)):=by
 have hf:=K6 hs;have inv:∀η (w:Ty×List Ty),CC m (.mk 5 n x [t] ps) (F1 η Γ) w.1 w.2->∃a b,w.1=Be a b/\CC m t (F1 η Γ++[(x,a)]) b w.2:=by
  rintro η ⟨w1,w2⟩ ⟨K,S1,S2,q1,q2,q3⟩;simp [Bp] at q1;obtain ⟨a,b,rfl,rfl,rfl⟩:=q1;obtain ⟨T1,T2,q4,q5,q6⟩:=q2;simp only [Dc] at q5;subst q5;simp at q3 q6;subst q3;subst q6;exact ⟨a,b,rfl,q4⟩
 cases r with
 | none =>
  refine StpN.second hf hr λη w hw=>?_;obtain ⟨a,b,_,h2⟩:=inv η w hw;exact ⟨a,trivial,λη1 ha hv=>⟨(b,w.2),by rw [Ha,CV,hv,ha.env hΓ];exact h2⟩⟩
 | some z =>
  obtain ⟨b,k2,σ2,N⟩:=z;obtain ⟨h1,h2,h3,h4⟩:=hr;have hk:=h1.1;refine ⟨hf.bind h1 (λη _ g=>?_) λη w hw=>?_,bG rfl h2,Xm (IF ⟨hs.1,by omega⟩) h3,h4⟩
  ·rw [Ha,CV] at g;exact ⟨[(F1 η Γ++[(x,η k)],A9 η b)],N.map (A9 η),[],by simp [Bp];exact ⟨_,_,⟨rfl,rfl⟩,rfl⟩,⟨N.map (A9 η),[],g,rfl,by simp⟩,by simp⟩
  ·obtain ⟨a,b0,e1,e2⟩:=inv η w hw;refine ⟨a,trivial,λη1 ha hv=>⟨(b0,w.2),by rw [Ha,CV,hv,ha.env hΓ];exact e2,λη2 hb _ hv2=>?_⟩⟩;simp only [Bc] at hv2;obtain ⟨w1,w2⟩:=w;simp only at e1 hv2 ⊢;rw [ap_kFun,CV,hb k (by omega),hv,hv2.1,hv2.2,e1]
theorem Vh {m:Md} {Γ:Au} {x:Str} {t0 t1:Tm} {ps:List Ty} {σ σ1:Sb} {τ0:Ty} {N1:List Ty} {r:Option (Ty×Int×Sb×List Ty)} (hk:k<=k0) (hΓ:EnvOk k Γ) (h0:BM m Γ t0 k0 σ (some (τ0,k1,σ1,N1))) (hr:BM m (Γ++[(x,τ0)]) t1 k1 σ1 r) :
  BM m Γ (.mk 7 n x [t0,t1] ps) k σ (r.map λz=>(z.1,z.2.1,z.2.2.1,N1++z.2.2.2)):=by
 obtain ⟨a1,a2,a3,a4⟩:=h0;have hA:=a1.lower hk;have hk1:=hA.1;have inv:∀η (w:Ty×List Ty),CC m (.mk 7 n x [t0,t1] ps) (F1 η Γ) w.1 w.2->∃a S1 S2,CC m t0 (F1 η Γ) a S1/\CC m t1 (F1 η Γ++[(x,a)]) w.1 S2/\w.2=S1++S2:=by
  rintro η ⟨w1,w2⟩ ⟨K,S1,S2,q1,q2,q3⟩;simp [Bp] at q1;obtain ⟨⟨a,rfl⟩,rfl⟩:=q1;obtain ⟨T1,T2,q4,⟨T3,T4,q5,q6,q7⟩,q8⟩:=q2;simp only [Dc] at q6;subst q6;simp at q3 q7;subst q7;subst q8;subst q3;exact ⟨a,T1,T2,q4,q5,rfl⟩
 cases r with
 | none =>
  refine StpN.second hA hr λη w hw=>?_;obtain ⟨a,S1,S2,e1,e2,_⟩:=inv η w hw;refine ⟨(a,S1),e1,λη1 ha hv=>⟨(w.1,S2),?_⟩⟩;simp only [Bc] at hv;rw [Ha,hv.1,ha.env hΓ];exact e2
 | some z =>
  obtain ⟨τ,k2,σ2,N2⟩:=z;obtain ⟨h1,h2,h3,h4⟩:=hr;refine ⟨hA.bind h1 (λη g1 g2=>?_) λη w hw=>?_,h2,h3,(a4.mono h1.1).append h4⟩
  ·rw [Ha] at g2;simp only [CL];exact ⟨[(F1 η Γ,A9 η τ0),(F1 η Γ++[(x,A9 η τ0)],A9 η τ)],N1.map (A9 η)++N2.map (A9 η),[],by simp [Bp],⟨_,_,g1,⟨_,[],g2,rfl,rfl⟩,by simp⟩,by simp⟩
  ·obtain ⟨a,S1,S2,e1,e2,e3⟩:=inv η w hw;refine ⟨(a,S1),e1,λη1 ha hv=>?_⟩;simp only [Bc] at hv;refine ⟨(w.1,S2),by rw [Ha,hv.1,ha.env hΓ];exact e2,λη2 hb _ hv2=>?_⟩;simp only [Bc] at hv2;obtain ⟨w1,w2⟩:=w;simp only at e3 hv2 ⊢;rw [hv2.1,e3,CL,hb.tys a4,hv.2,hv2.2]
theorem MM {m:Md} {Γ:Au} {x:Str} {t0 t1:Tm} {ps:List Ty} {σ:Sb} (h0:BM m Γ t0 k0 σ none):BM m Γ (.mk 7 n x [t0,t1] ps) k σ none:=by
 refine StpN.first h0 λη w hw=>?_;obtain ⟨K,S1,S2,q1,q2,q3⟩:=hw;simp [Bp] at q1;obtain ⟨⟨a,rfl⟩,rfl⟩:=q1;obtain ⟨T1,T2,q4,_⟩:=q2;exact ⟨(a,T1),q4⟩
def Ld (m:Md) (p τ:Ty) (Γ:Au) (k:Int) (σ:Sb):Option (Au×Sb)->Prop
 | some (Γ',σ')=>StpR k σ k σ' (λη=>F1 η Γ') (λη Δ=>IQ m p (A9 η τ) (F1 η Γ) Δ)/\EnvOk k Γ'
 | none=>StpN σ (β:=Au) (λη Δ=>IQ m p (A9 η τ) (F1 η Γ) Δ)
def Pp (m:Md) (ps ts:List Ty) (Γ:Au) (k:Int) (σ:Sb):Option (Au×Sb)->Prop
 | some (Γ',σ')=>StpR k σ k σ' (λη=>F1 η Γ') (λη Δ=>Ug m ps (ts.map (A9 η)) (F1 η Γ) Δ)/\EnvOk k Γ'
 | none=>StpN σ (β:=Au) (λη Δ=>Ug m ps (ts.map (A9 η)) (F1 η Γ) Δ)
theorem Wt {m:Md} {x:Str} {ps:List Ty} {τ:Ty} {Γ:Au} {σ:Sb} (h:StOk k σ) (hΓ:EnvOk k Γ) (h1:C9 τ=true) (h2:inB k τ):Ld m (.mk 2 n x ps) τ Γ k σ (some (Γ++[(x,τ)],σ)) :=
 ⟨K5 h λη w=>by simp [IQ,Ha],hΓ.add h1 h2⟩
theorem cD {m:Md} {f:Int} {x:Str} {ps:List Ty} {τ:Ty} {Γ:Au} {σ:Sb} (h:StOk k σ) (hΓ:EnvOk k Γ) (hf:f≠2/\f≠3/\f≠4/\f≠5/\f≠6):Ld m (.mk f n x ps) τ Γ k σ (some (Γ,σ)) :=
 ⟨K5 h λη w=>by simp [IQ,hf],hΓ⟩
def NW (f:Int):Ty:=if f=3 then AU else if f=4 then Ca else Dm
theorem UE {m:Md} {f:Int} {x:Str} {ps:List Ty} {τ:Ty} {Γ:Au} {σ:Sb} {r:Option Sb} (hΓ:EnvOk k Γ) (hf:f=3\/f=4\/f=5) (hr:match r with | some σ'=>StpR k σ k σ' (λ_=>()) (λη _=>A9 η τ=A9 η (NW f)) | none=>StpN σ (β:=Unit) (λη _=>A9 η τ=A9 η (NW f))):Ld m (.mk f n x ps) τ Γ k σ (r.map λσ'=>(Γ,σ')):=by
 have key:∀η Δ,IQ m (.mk f n x ps) (A9 η τ) (F1 η Γ) Δ↔A9 η τ=A9 η (NW f)/\Δ=F1 η Γ:=λη Δ=>by
  rcases hf with rfl | rfl | rfl <;> simp [IQ,NW]
 cases r with
 | none=>exact StpN.first hr λη w hw=>⟨(),((key η w).1 hw).1⟩
 | some σ' =>
  refine ⟨hr.weaken (λη g=>(key η _).2 ⟨g,rfl⟩) λη w hw=>?_,hΓ⟩;obtain ⟨e1,e2⟩:=(key η w).1 hw;exact ⟨(),e1,λη' ha _=>by rw [ha.env hΓ,e2]⟩
theorem GR {m:Md} {x:Str} {ps:List Ty} {τ:Ty} {Γ:Au} {σ:Sb} (h:Fj m.datas x=none\/∃c y,Fj m.datas x=some (c,y)/\c.args.length≠ps.length):Ld m (.mk 6 n x ps) τ Γ k σ none:=by
 intro η w _ hw;simp only [IQ] at hw;simp at hw;obtain ⟨c,d,h1,h2,_⟩:=hw;rcases h with h | ⟨c',y,h,h3⟩
 ·rw [h] at h1;cases h1
 ·rw [h] at h1;cases h1;exact h3 h2
theorem Q3 {m:Md} {x y:Str} {c:Cd} {ps:List Ty} {τ:Ty} {Γ:Au} {σ:Sb} (h:Fj m.datas x=some (c,y)) (he:StpN σ (β:=Unit) (λη _=>A9 η τ=A9 η (Bx y))):Ld m (.mk 6 n x ps) τ Γ k σ none:=by
 refine StpN.first he λη w hw=>⟨(),?_⟩
 simp only [IQ] at hw;simp [h] at hw;obtain ⟨_,_,⟨rfl,rfl⟩,_,h2,_⟩:=hw;simpa using h2
theorem UF {m:Md} (hm:Dx m) {x y:Str} {c:Cd} {ps:List Ty} {τ:Ty} {Γ:Au} {σ σ1:Sb} {r:Option (Au×Sb)} (h:Fj m.datas x=some (c,y)) (hl:c.args.length=ps.length) (hΓ:EnvOk k Γ) (he:StpR k σ k σ1 (λ_=>()) (λη _=>A9 η τ=A9 η (Bx y))) (hr:Pp m ps c.args Γ k σ1 r):Ld m (.mk 6 n x ps) τ Γ k σ r:=by
 have ha:=Fi hm h;have hc:∀η,c.args.map (A9 η)=c.args:=λη=>(Jg (g:=id) λt ht=>Gq (ha t ht).1 (ha t ht).2 η).trans (List.map_id _);have key:∀η Δ,IQ m (.mk 6 n x ps) (A9 η τ) (F1 η Γ) Δ↔A9 η τ=A9 η (Bx y)/\Ug m ps c.args (F1 η Γ) Δ:=λη Δ=>by
  simp only [IQ];simp [h];constructor
  ·rintro ⟨_,_,⟨rfl,rfl⟩,_,h2,h3⟩;exact ⟨h2,h3⟩
  ·rintro ⟨h2,h3⟩;exact ⟨_,_,⟨rfl,rfl⟩,hl,h2,h3⟩
 cases r with
 | none =>
  refine StpN.second he hr λη w hw=>?_;obtain ⟨e1,e2⟩:=(key η w).1 hw;exact ⟨(),e1,λη1 hag _=>⟨w,by rw [hc,hag.env hΓ];exact e2⟩⟩
 | some z =>
  obtain ⟨Γ',σ'⟩:=z;obtain ⟨r1,r2⟩:=hr;refine ⟨he.bind r1 (λη g1 g2=>(key η _).2 ⟨g1,by rw [hc] at g2;exact g2⟩) λη w hw=>?_,r2⟩;obtain ⟨e1,e2⟩:=(key η w).1 hw;exact ⟨(),e1,λη1 hag _=>⟨w,by rw [hc,hag.env hΓ];exact e2,λη2 _ _ hv=>hv⟩⟩
theorem Wr {m:Md} {Γ:Au} {σ:Sb} (h:StOk k σ) (hΓ:EnvOk k Γ):Pp m [] [] Γ k σ (some (Γ,σ)):=⟨K5 h λη w=>by simp [Ug],hΓ⟩
theorem Tb {m:Md} {p t:Ty} {ps ts:List Ty} {Γ:Au} {σ:Sb} (h:Ld m p t Γ k σ none):Pp m (p::ps) (t::ts) Γ k σ none :=
 StpN.first h λη w hw=>let ⟨Δ,h1,_⟩:=hw;⟨Δ,h1⟩
theorem NJ {m:Md} {p t:Ty} {ps ts:List Ty} {Γ Γ1:Au} {σ σ1:Sb} {r:Option (Au×Sb)} (ht:TysOk k ts) (h:Ld m p t Γ k σ (some (Γ1,σ1))) (hr:Pp m ps ts Γ1 k σ1 r):Pp m (p::ps) (t::ts) Γ k σ r:=by
 obtain ⟨h1,h2⟩:=h;cases r with
 | none =>
  refine StpN.second h1 hr λη w hw=>?_;obtain ⟨Δ,e1,e2⟩:=hw;exact ⟨Δ,e1,λη1 ha hv=>⟨w,by rw [hv,ha.tys ht];exact e2⟩⟩
 | some z =>
  obtain ⟨Γ',σ'⟩:=z;obtain ⟨r1,r2⟩:=hr;refine ⟨h1.bind r1 (λη g1 g2=>⟨_,g1,g2⟩) λη w hw=>?_,r2⟩;obtain ⟨Δ,e1,e2⟩:=hw;exact ⟨Δ,e1,λη1 ha hv=>⟨w,by rw [hv,ha.tys ht];exact e2,λη2 _ _ hv2=>hv2⟩⟩
def J5 (m:Md) (b a:Ty) (Γ:Au) (ps:List Ty) (ts:List Tm) (k:Int) (σ:Sb):Option (Int×Sb×List Ty)->Prop
 | some (k',σ',N)=>StpR k σ k' σ' (λη=>N.map (A9 η)) (λη S=>∃l,Nv m (A9 η b) (F1 η Γ) ps l/\Dc m ts (l.map λΔ=>(Δ,A9 η a)) S)/\TysOk k' N
 | none=>StpN σ (β:=List Ty) (λη S=>∃l,Nv m (A9 η b) (F1 η Γ) ps l/\Dc m ts (l.map λΔ=>(Δ,A9 η a)) S)
theorem Wc {m:Md} {b a:Ty} {Γ:Au} {σ:Sb} (h:StOk k σ):J5 m b a Γ [] [] k σ (some (k,σ,[])) :=
 ⟨K5 h λη w=>by simp [Nv,Dc],λt ht=>by cases ht⟩
theorem Iz {m:Md} {b a:Ty} {Γ:Au} {p:Ty} {ps:List Ty} {t:Tm} {ts:List Tm} {η:Int->Ty} {S:List Ty} :
  (∃l,Nv m (A9 η b) (F1 η Γ) (p::ps) l/\Dc m (t::ts) (l.map λΔ=>(Δ,A9 η a)) S)↔∃Δ S1 S2,IQ m p (A9 η b) (F1 η Γ) Δ/\CC m t Δ (A9 η a) S1/\(∃l,Nv m (A9 η b) (F1 η Γ) ps l/\Dc m ts (l.map λΔ=>(Δ,A9 η a)) S2)/\S=S1++S2:=by
 constructor
 ·rintro ⟨l,⟨Δ,l1,h1,h2,rfl⟩,S1,S2,h3,h4,h5⟩;exact ⟨Δ,S1,S2,h1,h3,⟨l1,h2,h4⟩,h5⟩
 ·rintro ⟨Δ,S1,S2,h1,h3,⟨l1,h2,h4⟩,h5⟩;exact ⟨Δ::l1,⟨Δ,l1,h1,h2,rfl⟩,S1,S2,h3,h4,h5⟩
theorem Li {m:Md} {b a:Ty} {Γ:Au} {p:Ty} {ps:List Ty} {t:Tm} {ts:List Tm} {σ:Sb} (h:Ld m p b Γ k σ none):J5 m b a Γ (p::ps) (t::ts) k σ none :=
 StpN.first h λη w hw=>let ⟨Δ,_,_,h1,_⟩:=Iz.1 hw;⟨Δ,h1⟩
theorem J0 {m:Md} {b a:Ty} {Γ Γ1:Au} {p:Ty} {ps:List Ty} {t:Tm} {ts:List Tm} {σ σ1:Sb} (h:Ld m p b Γ k σ (some (Γ1,σ1))) (h2:BM m Γ1 t k σ1 none):J5 m b a Γ (p::ps) (t::ts) k σ none :=
 StpN.second h.1 h2 λη w hw=>let ⟨Δ,S1,S2,h1,h3,_⟩:=Iz.1 hw;⟨Δ,h1,λη1 ha hv=>⟨(A9 η a,S1),by rw [hv];exact h3⟩⟩
theorem sG {m:Md} {b a τ:Ty} {Γ Γ1:Au} {p:Ty} {t:Tm} {σ σ1 σ2 σ3:Sb} {N:List Ty} (ha:inB k a) (h:Ld m p b Γ k σ (some (Γ1,σ1))) (h2:BM m Γ1 t k σ1 (some (τ,k2,σ2,N))) (h3:StpR k2 σ2 k2 σ3 (λ_=>()) (λη _=>A9 η τ=A9 η a)) :
  StpR k σ k2 σ3 (λη=>N.map (A9 η)) (λη S=>∃Δ,IQ m p (A9 η b) (F1 η Γ) Δ/\CC m t Δ (A9 η a) S):=by
 obtain ⟨a1,_⟩:=h;obtain ⟨b1,b2,b3,b4⟩:=h2;have hA:StpR k σ k2 σ2 (λη=>(A9 η τ,N.map (A9 η))) (λη w=>∃Δ,IQ m p (A9 η b) (F1 η Γ) Δ/\CC m t Δ w.1 w.2) :=
  a1.bind b1 (λη g1 g2=>⟨_,g1,g2⟩) λη w hG=>let ⟨Δ,e1,e2⟩:=hG;⟨Δ,e1,λη1 hag hv=>⟨w,by rw [hv];exact e2,λη2 _ _ hv2=>hv2⟩⟩
 refine hA.bind h3 (λη ⟨Δ,g1,g2⟩ g3=>⟨Δ,g1,by rw [<- g3];exact g2⟩) λη w hG=>?_;obtain ⟨Δ,e1,e2⟩:=hG;refine ⟨(A9 η a,w),⟨Δ,e1,e2⟩,λη1 hag hv=>⟨(),?_,λη2 hb _ _=>?_⟩⟩
 ·simp only [Bc] at hv;rw [hv.1,hag.ap ha]
 ·simp only [Bc] at hv;rw [hb.tys b4,hv.2]
theorem Ms {m:Md} {b a τ:Ty} {Γ Γ1:Au} {p:Ty} {ps:List Ty} {t:Tm} {ts:List Tm} {σ σ1 σ2:Sb} {N:List Ty} (ha:inB k a) (h:Ld m p b Γ k σ (some (Γ1,σ1))) (h2:BM m Γ1 t k σ1 (some (τ,k2,σ2,N))) (h3:StpN σ2 (β:=Unit) (λη _=>A9 η τ=A9 η a)) :
  J5 m b a Γ (p::ps) (t::ts) k σ none:=by
 have hA:StpR k σ k2 σ2 (λη=>(A9 η τ,N.map (A9 η))) (λη w=>∃Δ,IQ m p (A9 η b) (F1 η Γ) Δ/\CC m t Δ w.1 w.2) :=
  h.1.bind h2.1 (λη g1 g2=>⟨_,g1,g2⟩) λη w hG=>let ⟨Δ,e1,e2⟩:=hG;⟨Δ,e1,λη1 hag hv=>⟨w,by rw [hv];exact e2,λη2 _ _ hv2=>hv2⟩⟩
 refine StpN.second hA h3 λη w hw=>?_;obtain ⟨Δ,S1,S2,e1,e2,_⟩:=Iz.1 hw;refine ⟨(A9 η a,S1),⟨Δ,e1,e2⟩,λη1 hag hv=>⟨(),?_⟩⟩;simp only [Bc] at hv;rw [hv.1,hag.ap ha]
theorem NF {m:Md} {b a τ:Ty} {Γ Γ1:Au} {p:Ty} {ps:List Ty} {t:Tm} {ts:List Tm} {σ σ1 σ2 σ3:Sb} {N:List Ty} {r:Option (Int×Sb×List Ty)} (ha:inB k a) (hb:inB k b) (hΓ:EnvOk k Γ) (h:Ld m p b Γ k σ (some (Γ1,σ1))) (h2:BM m Γ1 t k σ1 (some (τ,k2,σ2,N))) (h3:StpR k2 σ2 k2 σ3 (λ_=>()) (λη _=>A9 η τ=A9 η a)) (hr:J5 m b a Γ ps ts k2 σ3 r):J5 m b a Γ (p::ps) (t::ts) k σ (r.map λx=>(x.1,x.2.1,N++x.2.2)):=by
 have hA:=sG ha h h2 h3;have hN:=h2.2.2.2;cases r with
 | none =>
  refine StpN.second hA hr λη w hw=>?_;obtain ⟨Δ,S1,S2,e1,e2,e3,_⟩:=Iz.1 hw;exact ⟨S1,⟨Δ,e1,e2⟩,λη1 hag _=>⟨S2,by rw [hag.ap hb,hag.ap ha,hag.env hΓ];exact e3⟩⟩
 | some z =>
  obtain ⟨k4,σ4,N4⟩:=z;obtain ⟨r1,r2⟩:=hr;refine ⟨hA.bind r1 (λη ⟨Δ,g1,g2⟩ g3=>?_) λη w hG=>?_,(hN.mono r1.1).append r2⟩
  ·simp only [CL];exact Iz.2 ⟨Δ,_,_,g1,g2,g3,rfl⟩
  ·obtain ⟨Δ,S1,S2,e1,e2,e3,rfl⟩:=Iz.1 hG;refine ⟨S1,⟨Δ,e1,e2⟩,λη1 hag hv=>⟨S2,by rw [hag.ap hb,hag.ap ha,hag.env hΓ];exact e3,λη2 hb' _ hv2=>?_⟩⟩;simp only [CL];rw [hb'.tys hN,hv,hv2]
theorem K7 {m:Md} {Γ:Au} {x:Str} {t0:Tm} {ts:List Tm} {ps:List Ty} {τ:Ty} {S:List Ty} :
  CC m (.mk 15 n x (t0::ts) ps) Γ τ S↔∃b S1 S2,CC m t0 Γ b S1/\(∃l,Nv m b Γ ps l/\Dc m ts (l.map λΔ=>(Δ,τ)) S2)/\S=S1++S2:=by
 constructor
 ·rintro ⟨K,S1,S2,q1,q2,rfl⟩;simp [Bp] at q1;obtain ⟨a,l,h1,rfl,rfl⟩:=q1;obtain ⟨T1,T2,h2,h3,rfl⟩:=q2;exact ⟨a,T1,T2,h2,⟨l,h1,h3⟩,by simp⟩
 ·rintro ⟨b,S1,S2,h1,⟨l,h2,h3⟩,rfl⟩;exact ⟨(Γ,b)::l.map (λΔ=>(Δ,τ)),S1++S2,[],by simp only [Bp];simp;exact ⟨b,l,h2,rfl,rfl⟩,⟨S1,S2,h1,h3,rfl⟩,by simp⟩
theorem Kf {m:Md} {Γ:Au} {x:Str} {t0:Tm} {ts:List Tm} {ps:List Ty} {σ:Sb} (h:BM m Γ t0 k0 σ none):BM m Γ (.mk 15 n x (t0::ts) ps) k σ none :=
 StpN.first h λη w hw=>let ⟨b,S1,_,h1,_⟩:=K7.1 hw;⟨(b,S1),h1⟩
theorem QB {m:Md} {Γ:Au} {x:Str} {t0:Tm} {ts:List Tm} {ps:List Ty} {h:Int} {σ σ1:Sb} {b:Ty} {N1:List Ty} {r:Option (Int×Sb×List Ty)} (hΓ:EnvOk k Γ) (hh:0<=h/\h<k1) (hN:TysOk k1 N1) (hb:inB k1 b) (hA:StpR k σ k1 σ1 (λη=>(η h,A9 η b,N1.map (A9 η))) (λη (w:Ty×Ty×List Ty)=>CC m t0 (F1 η Γ) w.2.1 w.2.2)) (hr:J5 m b (Ao h) Γ ps ts k1 σ1 r) :
  BM m Γ (.mk 15 n x (t0::ts) ps) k σ (r.map λz=>(Ao h,z.1,z.2.1,N1++z.2.2)):=by
 cases r with
 | none =>
  refine StpN.second hA hr λη w hw=>?_;obtain ⟨b0,S1,S2,h1,h2,_⟩:=K7.1 hw;refine ⟨(w.1,b0,S1),h1,λη1 ha hv=>⟨S2,?_⟩⟩;simp only [Bc] at hv;rw [hv.2.1,CV,hv.1,ha.env hΓ];exact h2
 | some z =>
  obtain ⟨k2,σ2,N2⟩:=z;obtain ⟨r1,r2⟩:=hr;refine ⟨hA.bind r1 (λη g1 g2=>?_) λη w hG=>?_,rfl,(IF hh).mono r1.1,(hN.mono r1.1).append r2⟩
  ·simp only [CL];exact K7.2 ⟨_,_,_,g1,g2,rfl⟩
  ·obtain ⟨b0,S1,S2,h1,h2,h3⟩:=K7.1 hG;refine ⟨(w.1,b0,S1),h1,λη1 ha hv=>?_⟩;simp only [Bc] at hv;refine ⟨S2,by rw [hv.2.1,CV,hv.1,ha.env hΓ];exact h2,λη2 hb2 _ hv2=>?_⟩;obtain ⟨w1,w2⟩:=w;simp only at h3 hv hv2 ⊢;rw [CV,hb2 h hh.2,hv.1,CL,hb2.tys hN,hv.2.2,hv2,h3]
theorem Lu {m:Md} {Γ:Au} {x:Str} {t0:Tm} {ts:List Tm} {ps:List Ty} {σ σ1:Sb} {b:Ty} {N1:List Ty} {r:Option (Int×Sb×List Ty)} (hΓ:EnvOk k Γ) (h0:BM m Γ t0 k σ (some (b,k1,σ1,N1))) (hr:J5 m b (Ao k1) Γ ps ts (k1+1) σ1 r) :
  BM m Γ (.mk 15 n x (t0::ts) ps) k σ (r.map λz=>(Ao k1,z.1,z.2.1,N1++z.2.2)):=by
 obtain ⟨a1,a2,a3,a4⟩:=h0;have hs1:=a1.2.1;refine QB hΓ ⟨hs1.1,by omega⟩ (a4.mono (by omega)) (a3.mono (by omega)) ?_ hr;refine a1.bind (K6 hs1) (λη g _=>g) λη w hG=>⟨w.2,hG,λη1 ha hv=>⟨w.1,trivial,λη2 hb _ hv2=>?_⟩⟩
 obtain ⟨w1,w2,w3⟩:=w;simp only [Bc] at hv ⊢;exact ⟨hv2,by rw [hb.ap a3,hv.1],by rw [hb.tys a4,hv.2]⟩
theorem SV {m:Md} {Γ:Au} {x:Str} {ps:List Ty} (hk:k<k1) (hΓ:EnvOk k Γ):uU m Γ 27 x ps k k1 [(Γ++[(x,Be (Ao k) AU)],AU)] (Ao k) []:=by
 refine ⟨λη=>by simp [Bp,FS,Ha],λη K τ0 S0 hR=>?_⟩;simp [Bp] at hR;obtain ⟨rfl,rfl⟩:=hR;exact ⟨λ_=>τ0,λη' ha hf=>by simp [FS,Ha,ha.env hΓ,hf k (JV _) hk]⟩
theorem IP {m:Md} {Γ:Au} {x:Str} {t0 t1:Tm} {ps:List Ty} {τ:Ty} {S:List Ty} :
  CC m (.mk 6 n x [t0,t1] ps) Γ τ S↔∃a S1 S2,CC m t0 Γ (Be a τ) S1/\CC m t1 Γ a S2/\S=S1++S2:=by
 constructor
 ·rintro ⟨K,S1,S2,q1,q2,rfl⟩;simp [Bp] at q1;obtain ⟨⟨a,rfl⟩,rfl⟩:=q1;obtain ⟨T1,T2,h1,⟨T3,T4,h2,h3,h4⟩,h5⟩:=q2;simp only [Dc] at h3;subst h3;subst h4;subst h5;exact ⟨a,T1,T3,h1,h2,by simp⟩
 ·rintro ⟨a,S1,S2,h1,h2,rfl⟩;exact ⟨[(Γ,Be a τ),(Γ,a)],S1++S2,[],by simp [Bp],⟨S1,S2,h1,⟨S2,[],h2,rfl,by simp⟩,rfl⟩,by simp⟩
theorem VE {m:Md} {Γ:Au} {t0 t1:Tm} {σ σ1 σ2:Sb} {f a:Ty} {N1 N2:List Ty} (hΓ:EnvOk k Γ) (h0:BM m Γ t0 k σ (some (f,k1,σ1,N1))) (h1:BM m Γ t1 k1 σ1 (some (a,k2,σ2,N2))) :
  StpR k σ k2 σ2 (λη=>(A9 η f,A9 η a,N1.map (A9 η),N2.map (A9 η))) (λη (w:Ty×Ty×List Ty×List Ty)=>CC m t0 (F1 η Γ) w.1 w.2.2.1/\CC m t1 (F1 η Γ) w.2.1 w.2.2.2):=by
 obtain ⟨a1,a2,a3,a4⟩:=h0;refine a1.bind h1.1 (λη g1 g2=>⟨g1,g2⟩) λη w hG=>⟨(w.1,w.2.2.1),hG.1,λη1 ha hv=>⟨(w.2.1,w.2.2.2),by rw [ha.env hΓ];exact hG.2,λη2 hb _ hv2=>?_⟩⟩
 obtain ⟨w1,w2,w3,w4⟩:=w;simp only [Bc] at hv hv2 ⊢;exact ⟨by rw [hb.ap a3,hv.1],hv2.1,by rw [hb.tys a4,hv.2],hv2.2⟩
theorem nY {m:Md} {Γ:Au} {t:Tm} {σ:Sb} {t':Tm} (h:BM m Γ t k0 σ none) (hi:∀η (w:Ty×List Ty),CC m t' (F1 η Γ) w.1 w.2->∃a S,CC m t (F1 η Γ) a S):BM m Γ t' k σ none :=
 StpN.first h λη w hw=>let ⟨a,S,h1⟩:=hi η w hw;⟨(a,S),h1⟩
theorem gH {m:Md} {Γ:Au} {t0 t1 t':Tm} {σ σ1:Sb} {f:Ty} {N1:List Ty} (hΓ:EnvOk k Γ) (h0:BM m Γ t0 k σ (some (f,k1,σ1,N1))) (h1:BM m Γ t1 k1 σ1 none) (hi:∀η (w:Ty×List Ty),CC m t' (F1 η Γ) w.1 w.2->(∃a S,CC m t0 (F1 η Γ) a S)/\∃a S,CC m t1 (F1 η Γ) a S) :
  BM m Γ t' k σ none :=
 StpN.second h0.1 h1 λη w hw=>let ⟨⟨a,S,h1⟩,b,S2,h2⟩:=hi η w hw;⟨(a,S),h1,λη1 ha _=>⟨(b,S2),by rw [ha.env hΓ];exact h2⟩⟩
theorem Lv {m:Md} {Γ:Au} {x:Str} {t0 t1:Tm} {ps:List Ty} {σ σ1 σ2:Sb} {f a:Ty} {N1 N2:List Ty} {r:Option Sb} (hΓ:EnvOk k Γ) (h0:BM m Γ t0 k σ (some (f,k1,σ1,N1))) (h1:BM m Γ t1 k1 σ1 (some (a,k2,σ2,N2))) (hr:match r with | some σ'=>StpR (k2+1) σ2 (k2+1) σ' (λ_=>()) (λη _=>A9 η f=A9 η (Be a (Ao k2))) | none=>StpN σ2 (β:=Unit) (λη _=>A9 η f=A9 η (Be a (Ao k2)))) :
  BM m Γ (.mk 6 n x [t0,t1] ps) k σ (r.map λσ'=>(Ao k2,k2+1,σ',N1++N2)):=by
 have hA:=VE hΓ h0 h1;have hs2:=hA.2.1;obtain ⟨_,_,f3,f4⟩:=h0;obtain ⟨b1,_,b3,b4⟩:=h1;have f3':=f3.mono b1.1;have f4':=f4.mono b1.1;have hB:StpR k σ (k2+1) σ2 (λη=>(η k2,A9 η f,A9 η a,N1.map (A9 η),N2.map (A9 η))) (λη (w:Ty×Ty×Ty×List Ty×List Ty)=>CC m t0 (F1 η Γ) w.2.1 w.2.2.2.1/\CC m t1 (F1 η Γ) w.2.2.1 w.2.2.2.2) :=
  hA.bind (K6 hs2) (λη g _=>g) λη w hG=>⟨w.2,hG,λη1 ha hv=>⟨w.1,trivial,λη2 hb _ hv2=>by
   obtain ⟨w1,w2,w3,w4,w5⟩:=w;simp only [Bc] at hv ⊢;exact ⟨hv2,by rw [hb.ap f3',hv.1],by rw [hb.ap b3,hv.2.1],by rw [hb.tys f4',hv.2.2.1],by rw [hb.tys b4,hv.2.2.2]⟩⟩⟩
 cases r with
 | none =>
  refine StpN.second hB hr λη w hw=>?_;obtain ⟨a0,S1,S2,q1,q2,_⟩:=IP.1 hw;refine ⟨(w.1,Be a0 w.1,a0,S1,S2),⟨q1,q2⟩,λη1 ha hv=>⟨(),?_⟩⟩;simp only [Bc] at hv;rw [ap_kFun,CV,hv.1,hv.2.1,hv.2.2.1]
 | some σ' =>
  refine ⟨hB.bind hr (λη g1 g2=>?_) λη w hG=>?_,rfl,IF ⟨hs2.1,by omega⟩,(f4'.append b4).mono (by omega)⟩
  ·simp only [CL];rw [ap_kFun,CV] at g2;exact IP.2 ⟨_,_,_,by rw [CV,<- g2];exact g1.1,g1.2,rfl⟩
  ·obtain ⟨a0,S1,S2,q1,q2,q3⟩:=IP.1 hG;refine ⟨(w.1,Be a0 w.1,a0,S1,S2),⟨q1,q2⟩,λη1 ha hv=>?_⟩;simp only [Bc] at hv;refine ⟨(),by rw [ap_kFun,CV,hv.1,hv.2.1,hv.2.2.1],λη2 hb _ _=>?_⟩;obtain ⟨w1,w2⟩:=w;simp only at hv q3 ⊢;rw [CV,hb k2 (by omega),hv.1,CL,hb.tys (f4'.mono (by omega)),hb.tys (b4.mono (by omega)),hv.2.2.2.1,hv.2.2.2.2,q3]
theorem Ob {m:Md} {Γ:Au} {x:Str} {t0 t1 t2:Tm} {ps:List Ty} {τ:Ty} {S:List Ty} :
  CC m (.mk 8 n x [t0,t1,t2] ps) Γ τ S↔∃S1 S2 S3,Dc m [t0] [(Γ,Ca)] S1/\CC m t1 Γ τ S2/\CC m t2 Γ τ S3/\S=S1++(S2++S3):=by
 constructor
 ·rintro ⟨K,S1,S2,q1,q2,rfl⟩;simp [Bp] at q1;obtain ⟨rfl,rfl⟩:=q1;obtain ⟨T1,T2,h1,⟨T3,T4,h2,⟨T5,T6,h3,h4,h5⟩,h6⟩,h7⟩:=q2;simp only [Dc] at h4;subst h4;subst h5;subst h6;subst h7;exact ⟨T1,T3,T5,⟨T1,[],h1,rfl,by simp⟩,h2,h3,by simp⟩
 ·rintro ⟨S1,S2,S3,⟨T1,T2,h1,h2,h3⟩,h4,h5,rfl⟩;simp only [Dc] at h2;subst h2;subst h3;exact ⟨[(Γ,Ca),(Γ,τ),(Γ,τ)],T1++(S2++S3),[],by simp [Bp],⟨T1,S2++S3,h1,⟨S2,S3,h4,⟨S3,[],h5,rfl,by simp⟩,rfl⟩,rfl⟩,by simp⟩
theorem Rg {m:Md} {Γ:Au} {x:Str} {t0 t1 t2:Tm} {ps:List Ty} {k3:Int} {σ σ1 σ2 σ3:Sb} {f a:Ty} {N1 N2 N3:List Ty} {r:Option Sb} (hΓ:EnvOk k Γ) (h0:H6 m [t0] [(Γ,Ca)] k σ (some (k1,σ1,N1))) (h1:BM m Γ t1 k1 σ1 (some (f,k2,σ2,N2))) (h2:BM m Γ t2 k2 σ2 (some (a,k3,σ3,N3))) (hr:match r with | some σ'=>StpR k3 σ3 k3 σ' (λ_=>()) (λη _=>A9 η f=A9 η a) | none=>StpN σ3 (β:=Unit) (λη _=>A9 η f=A9 η a)) :
  BM m Γ (.mk 8 n x [t0,t1,t2] ps) k σ (r.map λσ'=>(f,k3,σ',N1++(N2++N3))):=by
 obtain ⟨a1,a2⟩:=h0;have hA:=VE (hΓ.mono a1.1) h1 h2;obtain ⟨_,c2,c3,c4⟩:=h1;obtain ⟨b1,b2,b3,b4⟩:=h2;have hB:StpR k σ k3 σ3 (λη=>(A9 η f,A9 η a,N1.map (A9 η),N2.map (A9 η),N3.map (A9 η))) (λη (w:Ty×Ty×List Ty×List Ty×List Ty)=>Dc m [t0] [(F1 η Γ,Ca)] w.2.2.1/\CC m t1 (F1 η Γ) w.1 w.2.2.2.1/\CC m t2 (F1 η Γ) w.2.1 w.2.2.2.2) :=
  a1.bind hA (λη g1 g2=>⟨by simpa [FS] using g1,g2⟩) λη w hG=>⟨w.2.2.1,by simpa [FS] using hG.1,λη1 ha hv=>⟨(w.1,w.2.1,w.2.2.2.1,w.2.2.2.2),by rw [ha.env hΓ];exact hG.2,λη2 hb _ hv2=>by
   obtain ⟨w1,w2,w3,w4,w5⟩:=w;simp only [Bc] at hv2 ⊢;exact ⟨hv2.1,hv2.2.1,by rw [hb.tys a2,hv],hv2.2.2.1,hv2.2.2.2⟩⟩⟩
 cases r with
 | none =>
  refine StpN.second hB hr λη w hw=>?_;obtain ⟨S1,S2,S3,q1,q2,q3,_⟩:=Ob.1 hw;refine ⟨(w.1,w.1,S1,S2,S3),⟨q1,q2,q3⟩,λη1 ha hv=>⟨(),?_⟩⟩;simp only [Bc] at hv;rw [hv.1,hv.2.1]
 | some σ' =>
  refine ⟨hB.bind hr (λη g1 g2=>?_) λη w hG=>?_,c2,c3.mono b1.1,(a2.mono hA.1).append ((c4.mono b1.1).append b4)⟩
  ·simp only [CL];exact Ob.2 ⟨_,_,_,g1.1,g1.2.1,by rw [g2];exact g1.2.2,rfl⟩
  ·obtain ⟨S1,S2,S3,q1,q2,q3,q4⟩:=Ob.1 hG;refine ⟨(w.1,w.1,S1,S2,S3),⟨q1,q2,q3⟩,λη1 ha hv=>?_⟩;simp only [Bc] at hv;refine ⟨(),by rw [hv.1,hv.2.1],λη2 hb _ _=>?_⟩;obtain ⟨w1,w2⟩:=w;simp only at hv q4 ⊢;rw [hb.ap (c3.mono b1.1),hv.1,CL,CL,hb.tys (a2.mono hA.1),hb.tys (c4.mono b1.1),hb.tys b4,hv.2.2.1,hv.2.2.2.1,hv.2.2.2.2,q4]
theorem MP {m:Md} {Γ:Au} {x:Str} {t:Tm} {ps:List Ty} {σ:Sb} {r:Option (Ty×Int×Sb×List Ty)} (h:BM m Γ t k σ r):BM m Γ (.mk 16 n x [t] ps) k σ (r.map λz=>(Ir 5 z.1,z.2)):=by
 have inv:∀{Γ τ S},CC m (.mk 16 n x [t] ps) Γ τ S↔∃a,τ=Ir 5 a/\CC m t Γ a S:=by
  intro Γ τ S;constructor
  ·rintro ⟨K,S1,S2,q1,q2,rfl⟩;simp [Bp] at q1;obtain ⟨a,rfl,rfl,rfl⟩:=q1;obtain ⟨T1,T2,h1,h2,h3⟩:=q2;simp only [Dc] at h2;subst h2;subst h3;exact ⟨a,rfl,by simpa using h1⟩
  ·rintro ⟨a,rfl,h⟩;exact ⟨[(Γ,a)],S,[],by simp [Bp],⟨S,[],h,rfl,by simp⟩,by simp⟩
 cases r with
 | none=>exact StpN.first h λη w hw=>let ⟨a,_,h1⟩:=inv.1 hw;⟨(a,w.2),h1⟩
 | some z =>
  obtain ⟨τ,k',σ',N⟩:=z;obtain ⟨h1,h2,h3,h4⟩:=h;refine ⟨h1.weaken (λη g=>inv.2 ⟨_,by rw [ap_k5],g⟩) λη w hw=>?_,jU (by decide) (by decide) h2,cV (by decide) h3,h4⟩;obtain ⟨a,e1,e2⟩:=inv.1 hw;refine ⟨(a,w.2),e2,λη' _ hv=>?_⟩;simp only [Bc] at hv;obtain ⟨w1,w2⟩:=w;simp only at e1 hv ⊢;rw [ap_k5,hv.1,hv.2,e1]
def zak (m:Md) (Γ:Au) (t:Tm) (T:Ty) (N:List Ty):Prop:=CC m t Γ T N/\∀τ S,CC m t Γ τ S->∃η,A9 η T=τ/\N.map (A9 η)=S
def EnvCl (Γ:Au):Prop:=∀p∈Γ,CO p.2=[]/\C9 p.2=true
theorem EnvCl.ap {Γ:Au} (h:EnvCl Γ) (η:Int->Ty):F1 η Γ=Γ:=(Jg (g:=id) λp hp=>by rw [Gq (h p hp).1 (h p hp).2];rfl).trans (List.map_id _)
theorem Xi {m:Md} {Γ:Au} {t:Tm} {σ':Sb} {τ:Ty} {N:List Ty} (hΓ:EnvCl Γ) (h:BM m Γ t k (λ_=>none) (some (τ,k',σ',N))) {θ:Int->Ty} (hθ:Sol σ' θ):zak m Γ t (A9 θ τ) (N.map (A9 θ)):=by
 obtain ⟨h1,h2,h3,h4⟩:=h;obtain ⟨_,_,s1,s2⟩:=h1;refine ⟨?_,λτ0 S hT=>?_⟩
 ·have:=(s1 θ hθ.eq).2;simp only [hΓ.ap] at this;exact this
 ·obtain ⟨η,_,q1,q2⟩:=s2 Ao (τ0,S) (λn t hn=>by cases hn) (by simp only [hΓ.ap];exact hT);simp only [Bc] at q2;refine ⟨η,by rw [hθ.mguT q1,q2.1],?_⟩;rw [US,<- q2.2];exact Jg λt _=>hθ.mguT q1 t
theorem xY {m:Md} {Γ:Au} {t:Tm} (hΓ:EnvCl Γ) (h:BM m Γ t k (λ_=>none) none) (τ:Ty) (S:List Ty):¬CC m t Γ τ S:=λhT=>h Ao (τ,S) (λn t hn=>by cases hn) (by simp only [hΓ.ap];exact hT)
theorem eP (hk:0<=k):StOk k (λ_=>none):=by
 refine ⟨hk,?_,Ao,?_,?_,?_,?_⟩
 ·intro n t hn;cases hn
 ·intro n t hn;cases hn
 ·intro n _;rfl
 ·intro n t hn;cases hn
 ·intro n t hn;cases hn
mutual
def D2:Ty->List Int->List Int
 | .mk f n _ ps,l=>if f=9 then (if n∈l then l else l++[n]) else Cm ps l
def Cm:List Ty->List Int->List Int
 | [],l=>l
 | t::r,l=>Cm r (D2 t l)
end
mutual
theorem UJ {m:Int}:∀(t:Ty) (l:List Int),m∈D2 t l↔m∈l\/m∈CO t
 | .mk f n x ps,l=>by
  by_cases e:f=9
  ·simp only [D2,CO,if_pos e]
   split <;> simp <;> grind
  ·simp only [D2,CO,if_neg e];exact W9 ps l
theorem W9 {m:Int}:∀(ps:List Ty) (l:List Int),m∈Cm ps l↔m∈l\/m∈DK ps
 | [],l=>by simp [Cm,DK]
 | t::r,l=>by simp only [Cm,DK,BU,W9 r,UJ t];grind
end
def H4 (stay:List Int) (n:Nat):Nat:=((List.range n).filter λi:Nat=>decide ((i:Int)∉stay)).length
def NthF (stay:List Int) (k n:Nat):Prop:=(n:Int)∉stay/\H4 stay n=k
theorem De (stay:List Int) (n:Nat):H4 stay (n+1)=H4 stay n+if (n:Int)∈stay then 0 else 1:=by
 simp only [H4,NU,List.filter_append,AZ];by_cases h:(n:Int)∈stay <;> simp [h]
theorem KQ {stay:List Int} {n m:Nat} (h:n<=m):H4 stay n<=H4 stay m:=by
 induction h with
 | refl=>exact BL _
 | step _ ih=>rw [Nat.succ_eq_add_one,De];omega
theorem NthF.unique {stay:List Int} {k n m:Nat} (h:NthF stay k n) (h':NthF stay k m):n=m:=by
 rcases LM n m with hl | hl | hl
 ·have:=KQ (stay:=stay) (show n+1<=m from hl);rw [De,if_neg h.1,h.2,h'.2] at this;omega
 ·exact hl
 ·have:=KQ (stay:=stay) (show m+1<=n from hl);rw [De,if_neg h'.1,h.2,h'.2] at this;omega
def O7 (i j k:Nat):Nat:=bif Nat.beq k i then j else bif Nat.beq k j then i else k
theorem GO (i j k:Nat):O7 i j (O7 i j k)=k:=by
 have hb:∀a b:Nat,Nat.beq a b=decide (a=b):=λa b=>by
  cases h:Nat.beq a b with
  | true=>simp [C7 h]
  | false =>
   have:a≠b:=λe=>by subst e;simp at h
   simp [this]
 unfold O7;simp only [hb];by_cases h1:k=i
 ·subst h1;simp only [decide_true,cond_true];by_cases h2:j=k
  ·subst h2;simp
  ·simp [h2]
 ·by_cases h2:k=j
  ·subst h2;simp [h1]
  ·simp [h1,h2]
def U7 (ρ:Nat->Nat):St->St
 | []=>[]
 | (i,some b)::r=>(ρ i,some (U8 ρ b))::U7 ρ r
 | (i,none)::r=>(ρ i,none)::U7 ρ r
theorem Gd {i j:Nat} {k:Nat} {b:Blk}:∀{st:St},Az (U7 (O7 i j) st) k b->∃b0,Az st (O7 i j k) b0/\b=U8 (O7 i j) b0
 | [],h=>by simp [U7,Az,lk] at h
 | (a,some x)::r,h=>by
  simp only [U7] at h;unfold Az at h ⊢;by_cases ha:O7 i j a=k
  ·subst ha;rw [Ay] at h;rw [GO,Ay];cases h;exact ⟨x,rfl,rfl⟩
  ·rw [A6 _ _ ha] at h;rw [A6 _ _ (λe=>ha (by rw [e,GO]))];exact Gd h
 | (a,none)::r,h=>by
  simp only [U7] at h;unfold Az at h ⊢;by_cases ha:O7 i j a=k
  ·subst ha;rw [Ay] at h;cases h
  ·rw [A6 _ _ ha] at h;rw [A6 _ _ (λe=>ha (by rw [e,GO]))];exact Gd h
theorem Bo {n:Nat} {env:Env} (i j:Nat) (hF:(EX F i||EX F j)=false) (h:DGo P n F Q todo (fC (O7 i j) env) (U7 (O7 i j) st) (ids.map (O7 i j))):DGo P n F Q todo env st ids:=by
 intro b cs I μ a w items hd hc;have hn:∀k g,μ k=some g->(λk=>μ (O7 i j k)) (O7 i j k)=some g:=λk g hg=>by simp only [GO];exact hg
 have hE:Ext I μ st w I (λk=>μ (O7 i j k)) (U7 (O7 i j) st) w :=
  {imm:=Imm.le_refl I,os:=rfl,tape:=rfl,output:=rfl,size:=BL _,block:=λ_ _ _=>rfl,
     fresh:=λb _ ⟨k,b',g,h1,h2,h3⟩=>let ⟨b0,q,_⟩:=Gd h1;⟨_,b0,g,q,h2,h3⟩,old:=λ_ _ _=>rfl }
 have hc':Conc n I (λk=>μ (O7 i j k)) (fC (O7 i j) env) (U7 (O7 i j) st) (ids.map (O7 i j)) a w :=
  {imm:=hc.imm
   blk:=λk b' hl=>by
    obtain ⟨b0,h1,rfl⟩:=Gd hl;obtain ⟨g,hg,hr⟩:=hc.blk _ b0 h1;exact ⟨g,hg,hr.ren λx _ g hg=>hn x g hg⟩
   apart:=λk b' g m hl hg hk=>by
    obtain ⟨b0,h1,rfl⟩:=Gd hl;exact hc.apart _ b0 g m h1 hg hk
   inj:=λk k' bi bj gi gj m hi hj hgi hgj hki hkj=>by
    obtain ⟨b1,h1,_⟩:=Gd hi;obtain ⟨b2,h2,_⟩:=Gd hj;have:=hc.inj _ _ b1 b2 gi gj m h1 h2 hgi hgj hki hkj;have e:=congrArg (O7 i j) this
    rwa [GO,GO] at e
   nodup:=by
    have:=hc.nodup;rw [List.nodup_iff_pairwise_ne] at this ⊢;exact List.Pairwise.map _ (λx y hxy e=>hxy (by have e:=congrArg (O7 i j) e;rwa [GO,GO] at e)) this
   idsFree:=λk hk=>by
    obtain ⟨x,hx,rfl⟩:=Cc.1 hk;show μ (O7 i j (O7 i j x))=none;rw [GO];exact hc.idsFree x hx
   size:=hc.size
   env:=λt d hl=>by
    obtain ⟨d0,h1,rfl⟩:=bV hl;exact (hc.env t d0 h1).ren λx _ g hg=>hn x g hg
   defers:=hc.defers.ext hE }
 simp only [QP] at hF;have hfix:∀k∈F,O7 i j k=k:=λk hk=>by
  have h1:Nat.beq k i=false:=by
   cases hb:Nat.beq k i with
   | false=>rfl
   | true=>rw [<- C7 hb,BR.2 hk] at hF;cases hF.1
  have h2:Nat.beq k j=false:=by
   cases hb:Nat.beq k j with
   | false=>rfl
   | true=>rw [<- C7 hb,BR.2 hk] at hF;cases hF.2
  simp [O7,h1,h2]
 exact (h b cs I _ a w items hd hc').mono λe a' w' hp=>hp.back (λk hk g hg=>by show μ (O7 i j k)=some g;rw [hfix k hk];exact hg)<|hE
def KV (P:Program) (f:FuncId) (t tb:TypeId):Prop:=∀(g:FuncId) (fi ca:Array Value) (w:World) (K Kp:World->Prop),
 (callFunc g (fi++ca)).run P (w.alloc (.cells #[.bool false] tb)) = .ok (.enter g (fi++ca)) (w.alloc (.cells #[.bool false] tb)) ->
 Calls P g (fi++ca) (w.alloc (.cells #[.bool false] tb)) (λe w'=>match e with
  | .returned _=>K w'
  | .panicked chain=>chain=[{ v:=.iface t (.agg #[]),recovered:=false }]/\Kp w'
  | .outgrown=>False) ->
 (∀w',K w'->w'.heap[w.heap.size]?=some (.cells #[.bool false] tb (0,0)))->(∀w',Kp w'->w'.heap[w.heap.size]?=some (.cells #[.bool false] tb (0,0))) ->
 Calls P f #[.func (.func g) fi ca] w λe w'=>(e = .returned (.bool true)/\∃w1,K w1/\w'=w1.setCell ⟨w.heap.size,0,none⟩ (.bool true)) \/
  (e = .returned (.bool false)/\∃w1,Kp w1/\w'=(w1.setCell ⟨w.heap.size,0,none⟩ (.bool false)).alloc (.cells #[] t))
theorem Ek {b:Nat} {x:Value} (h:w.heap[b]?=some (.cells #[x] t (0,0))):w.setCell ⟨b,0,none⟩ v={ w with heap:=w.heap.setIfInBounds b (.cells #[v] t (0,0)) }:=by
 have:∀(A:Array Obj) (f:Obj->Obj),A[b]?=some (.cells #[x] t (0,0))->A.modify b f=A.setIfInBounds b (f (.cells #[x] t (0,0))):=by
  intro A f hA;apply Zk;intro i;rw [UR,Array.getElem?_setIfInBounds];by_cases hi:b=i
  ·subst hi;rw [if_pos rfl,if_pos rfl,hA];simp [(GH.1 hA).1]
  ·rw [if_neg hi,if_neg hi]
 unfold World.setCell;rw [this _ _ h];rfl
theorem Ed (hst:StRep I μ st ids w) {b:Nat} (h:Bu μ st b):b<w.heap.size:=by
 obtain ⟨id,blk,g,h1,h2,h3⟩:=h;exact (hst.apart id blk g b h1 h2 h3).2
theorem StRep.other (hst:StRep I μ st ids w) (hs:w.heap.size<=w'.heap.size) (hi:∀b o,I b=some o->w'.heap[b]?=w.heap[b]?) (ho:∀b,Bu μ st b->w'.heap[b]?=w.heap[b]?):StRep I μ st ids w' :=
 {imm:=λb o h=>(hi b o h).trans (hst.imm b o h),blk:=λid blk hl=>let ⟨g,h1,h2⟩:=hst.blk id blk hl;⟨g,h1,h2.world λb hb=>ho b ⟨id,blk,g,hl,h1,hb⟩⟩,
  apart:=λid blk g b h1 h2 h3=>⟨(hst.apart id blk g b h1 h2 h3).1,YZ (hst.apart id blk g b h1 h2 h3).2 hs⟩,inj:=hst.inj,nodup:=hst.nodup,idsFree:=hst.idsFree }
theorem RepD.fnD {f:Fn} {df dc:List D} (h:RepD I μ v (.fn f df dc)):∃first cap:Array Value,v = .func f first cap/\RepL I μ (first++cap).toList (df++dc):=by
 cases h with
 | fn _ first cap _ _ hf hc h1 h2 =>
  refine ⟨first,cap,rfl,?_⟩;rw [JW];refine ⟨by simp [hf,hc],λi v d p q=>?_⟩;rw [LO] at p q;have hl:first.toList.length=df.length:=by simpa using hf
  rw [hl] at p
  split at p
  ·rename_i hlt;rw [if_pos hlt] at q;exact h1 i v d (by simpa using p) q
  ·rename_i hlt;rw [if_neg hlt] at q;exact h2 _ v d (by simpa using p) q
section
variable {g:FuncId} {tb:TypeId} {fn fg:Func} {cf cg:Code} {df dc:List D}
theorem Rk {xs:Array Value} (hxs:RepL I μ xs.toList [.fn (.func g) df dc]):∃first cap:Array Value,xs = #[.func (.func g) first cap]/\RepL I μ (first++cap).toList (df++dc):=by
 obtain ⟨l,rfl⟩:∃l:List Value,xs=l.toArray:=⟨xs.toList,by simp⟩
 rw [MA] at hxs
 match l,hxs with
 | [v],hxs =>
  obtain ⟨first,cap,rfl,h⟩:=(hxs.2 0 v _ rfl rfl).fnD;exact ⟨first,cap,rfl,h⟩
 | [],hxs=>exact absurd hxs.1 (by simp)
 | _::_::_,hxs=>exact absurd hxs.1 (by simp)
theorem II (hf : P.funcs[f]? = some fn) (hn : (fn.name == "runtime.NumGoroutine") = false) (hb : fn.body = some cf) (hs : KV P f t tb)
  (hg : P.funcs[g]? = some fg) (hgn : (fg.name == "runtime.NumGoroutine") = false) (hgb : fg.body = some cg) (hE : IR P g (df ++ dc) st0 (.ret d st1)) : IR P f [.fn (.func g) df dc] st0 (.ret (.imm (.bool true)) st1) := by
 intro I μ w xs hst hxs;obtain ⟨first,cap,rfl,hx⟩:=Rk hxs;rw [B6 hf hn hb];have hheap:(w.alloc (.cells #[.bool false] tb)).heap=w.heap.push (.cells #[.bool false] tb (0,0)):=rfl;have hgrow:∀r,r<w.heap.size->(w.alloc (.cells #[.bool false] tb)).heap[r]?=w.heap[r]?:=λr hr=>by rw [hheap];simp [QO,Nat.ne_of_lt hr]
 have hself:(w.alloc (.cells #[.bool false] tb)).heap[w.heap.size]?=some (.cells #[.bool false] tb (0,0)):=by rw [hheap];simp
 have hsize:(w.alloc (.cells #[.bool false] tb)).heap.size=w.heap.size+1:=by rw [hheap];simp
 have hlt:∀b o,I b=some o->b<w.heap.size:=λb o h=>(GH.1 (hst.imm b o h)).1;have hst1:StRep I μ st0 [] (w.alloc (.cells #[.bool false] tb)):=hst.other (by omega) (λb o h=>hgrow b (hlt b o h)) (λb h=>hgrow b (Ed hst h));have hno:¬Bu μ st0 w.heap.size:=λh=>absurd (Ed hst h) (UQ _);have hIn:I w.heap.size=none:=by
  cases h:I w.heap.size with
  | none=>rfl
  | some o=>exact absurd (hlt _ o h) (UQ _)
 have hcall:=hE I μ _ (first++cap) hst1 hx;have hrun:=B6 (w:=w.alloc (.cells #[.bool false] tb)) hg hgn hgb (first++cap);rw [hrun] at hcall;have hcall:Calls P g (first++cap) (w.alloc (.cells #[.bool false] tb)) (λe w'=>match e with
  | .returned u=>∃I' μ',RepD I' μ' u d/\StRep I' μ' st1 [] w'/\Pin (DY st0) μ μ'/\Ext I μ st0 (w.alloc (.cells #[.bool false] tb)) I' μ' st1 w'
  | .panicked _=>False
  | .outgrown=>False):=hcall
 have keep:∀w' I' μ',Ext I μ st0 (w.alloc (.cells #[.bool false] tb)) I' μ' st1 w'->w'.heap[w.heap.size]?=some (.cells #[.bool false] tb (0,0)):=λw' I' μ' he=>(he.block _ (by omega) hno).trans hself;show Calls P f _ w _;refine Calls.mono (hs g first cap w (λw'=>∃I' μ',StRep I' μ' st1 [] w'/\Pin (DY st0) μ μ'/\Ext I μ st0 (w.alloc (.cells #[.bool false] tb)) I' μ' st1 w') (λ_=>False) hrun (Calls.mono hcall ?_) (λw' ⟨I',μ',_,_,he⟩=>keep w' I' μ' he) (λ_ h=>h.elim)) ?_
 ·intro e w' he;cases e with
  | returned u=>obtain ⟨I',μ',_,h2,h3,h4⟩:=he;exact ⟨I',μ',h2,h3,h4⟩
  | panicked=>exact he.elim
  | outgrown=>exact he.elim
 ·rintro e w2 (⟨rfl,w1,⟨I',μ',h2,h3,h4⟩,rfl⟩ | ⟨_,_,hx,_⟩)
  ·have hc:=keep w1 I' μ' h4;rw [Ek hc];have hI':I' w.heap.size=none:=(h4.old _ (by omega) hno).trans hIn;have hno':¬Bu μ' st1 w.heap.size:=λh=>hno (h4.fresh _ (by omega) h);have hsame:∀b,b≠w.heap.size->(w1.heap.setIfInBounds w.heap.size (.cells #[.bool true] tb (0,0)))[b]?=w1.heap[b]?:=λb hb=>FV (Ne.symm hb);refine ⟨I',μ',.imm _ _ (.bool true),?_,h3,?_⟩
   ·exact h2.other (by simp) (λb o h=>hsame b λe=>by rw [e,hI'] at h;cases h) (λb h=>hsame b λe=>hno' (e ▸ h))
   ·have hsz:=h4.size
    exact { imm:=h4.imm,os:=h4.os,tape:=h4.tape,output:=h4.output,size:=by simp;omega,
            block:=λb hb ho=>(hsame b (by omega)).trans ((h4.block b (by omega) ho).trans (hgrow b hb)),fresh:=λb hb ho=>h4.fresh b (by omega) ho,old:=λb hb ho=>h4.old b (by omega) ho }
  ·exact hx.elim
theorem Kh (hf : P.funcs[f]? = some fn) (hn : (fn.name == "runtime.NumGoroutine") = false) (hb : fn.body = some cf) (hs : KV P f t tb)
  (hg : P.funcs[g]? = some fg) (hgn : (fg.name == "runtime.NumGoroutine") = false) (hgb : fg.body = some cg) (hE : IR P g (df ++ dc) st0 (.pan (.iface t (.agg [])))) : IR P f [.fn (.func g) df dc] st0 (.ret (.imm (.bool false)) []) := by
 intro I μ w xs hst hxs;obtain ⟨first,cap,rfl,hx⟩:=Rk hxs;rw [B6 hf hn hb];have hheap:(w.alloc (.cells #[.bool false] tb)).heap=w.heap.push (.cells #[.bool false] tb (0,0)):=rfl;have hgrow:∀r,r<w.heap.size->(w.alloc (.cells #[.bool false] tb)).heap[r]?=w.heap[r]?:=λr hr=>by rw [hheap];simp [QO,Nat.ne_of_lt hr]
 have hself:(w.alloc (.cells #[.bool false] tb)).heap[w.heap.size]?=some (.cells #[.bool false] tb (0,0)):=by rw [hheap];simp
 have hsize:(w.alloc (.cells #[.bool false] tb)).heap.size=w.heap.size+1:=by rw [hheap];simp
 have hlt:∀b o,I b=some o->b<w.heap.size:=λb o h=>(GH.1 (hst.imm b o h)).1;have hst1:StRep I μ st0 [] (w.alloc (.cells #[.bool false] tb)):=hst.other (by omega) (λb o h=>hgrow b (hlt b o h)) (λb h=>hgrow b (Ed hst h));have hno:¬Bu μ st0 w.heap.size:=λh=>absurd (Ed hst h) (UQ _);have hIn:I w.heap.size=none:=by
  cases h:I w.heap.size with
  | none=>rfl
  | some o=>exact absurd (hlt _ o h) (UQ _)
 have hcall:=hE I μ _ (first++cap) hst1 hx;have hrun:=B6 (w:=w.alloc (.cells #[.bool false] tb)) hg hgn hgb (first++cap);rw [hrun] at hcall;have hcall:Calls P g (first++cap) (w.alloc (.cells #[.bool false] tb)) (λe w'=>match e with
  | .returned _=>False
  | .panicked chain=>KZ (· = .iface t (.agg [])) I μ st0 (w.alloc (.cells #[.bool false] tb)) chain w'
  | .outgrown=>False):=hcall
 have keep:∀w' I',Ext I μ st0 (w.alloc (.cells #[.bool false] tb)) I' μ [] w'->w'.heap[w.heap.size]?=some (.cells #[.bool false] tb (0,0)):=λw' I' he=>(he.block _ (by omega) hno).trans hself;show Calls P f _ w _;refine Calls.mono (hs g first cap w (λ_=>False) (λw'=>∃I',I'.ok w'/\Ext I μ st0 (w.alloc (.cells #[.bool false] tb)) I' μ [] w') hrun (Calls.mono hcall ?_) (λ_ h=>h.elim) (λw' ⟨I',_,he⟩=>keep w' I' he)) ?_
 ·intro e w' he;cases e with
  | returned u=>exact he.elim
  | panicked chain =>
   obtain ⟨v,x,I',h1,h2,h3,h4,h5⟩:=he;subst h2;cases h3 with
   | iface _ v' _ hv =>
    cases hv with
    | agg cs _ hl _ _ =>
     have:cs = #[]:=Zj (by simpa using hl);subst this;exact ⟨h1,I',h4,h5⟩
  | outgrown=>exact he.elim
 ·rintro e w2 (⟨_,_,hx,_⟩ | ⟨rfl,w1,⟨I',h2,h4⟩,rfl⟩)
  ·exact hx.elim
  ·have hc:=keep w1 I' h4;rw [Ek hc];have hI':I' w.heap.size=none:=(h4.old _ (by omega) hno).trans hIn;have hsz:=h4.size;have hsame:∀b,b≠w.heap.size->b<w1.heap.size->(({ w1 with heap:=w1.heap.setIfInBounds w.heap.size (.cells #[.bool false] tb (0,0)) }:World).alloc (.cells #[] t)).heap[b]?=w1.heap[b]?:=λb hb hlt=>by
    show ((w1.heap.setIfInBounds w.heap.size _).push _)[b]?=_;rw [QO,if_neg (by simp;omega)];exact FV (Ne.symm hb)
   refine ⟨I',μ,.imm _ _ (.bool false),?_,Pin.refl _ _,?_⟩
   ·exact { imm:=λb o h=>(hsame b (λe=>by rw [e,hI'] at h;cases h) (GH.1 (h2 b o h)).1).trans (h2 b o h),blk:=λid blk hl=>(by cases hl),apart:=λid blk g b hl=>(by cases hl),inj:=λi j bi bj gi gj b hl=>(by cases hl),nodup:=.nil,idsFree:=λid hi=>(by cases hi) }
   ·exact { imm:=h4.imm,os:=h4.os,tape:=h4.tape,output:=h4.output,size:=by show w.heap.size<=((w1.heap.setIfInBounds w.heap.size _).push _).size;simp;omega,
            block:=λb hb ho=>(hsame b (by omega) (by omega)).trans ((h4.block b (by omega) ho).trans (hgrow b hb)),fresh:=λb hb ho=>h4.fresh b (by omega) ho,old:=λb hb ho=>h4.old b (by omega) ho }
end
section
variable {n:Nat} {env:Env} {k:List DI}
theorem IK {all rest:List Oper} {x:Operand} {v:V} (hg:o.guard=none) (ho:o.op = .panic x) (hx:DN env x=some (.imm (.iface t v))) (hq:KY Q (.iface t v)):DGo P n F Q (.ops all (o::rest)::k) env st ids:=by
 intro b cs I μ a w items hd hc;obtain ⟨j,is,rfl,hr,hk⟩:=HY hd;obtain ⟨hj,_⟩:=DM hr;have hlen:(o::rest).length=rest.length+1:=rfl;rw [hlen,OM];refine F8 hj (AL hg) (λc hc=>by rw [ho] at hc;cases hc) ?_;have hon:J6 (o.looksAt all.toArray) I μ env a:=λt _ d hl=>hc.env t d hl;have hxr:=Bm hon x (by rw [ho];simp [Op.operands]) _ hx;obtain ⟨u,hu,hur⟩:∃u,a.eval x = .iface t u/\RepV I (.iface t u) (.iface t v):=by
  have:=hxr.immInv;generalize a.eval x=y at this;cases this with
  | iface _ u _ h=>exact ⟨u,rfl,.iface t u v h⟩
 have hrun:(execOp a.eval o).run P w = .halt (.panic (.iface t u)) w:=by simp [execOp,ho,hu,Instr.panic,goPanic]
 rw [hrun];have hE':Ext I μ st w I μ [] w:={ imm:=Imm.le_refl I,os:=rfl,tape:=rfl,output:=rfl,size:=BL _,block:=λ_ _ _=>rfl,fresh:=λb hb ⟨i,bi,g,h1,_⟩=>by simp [Az,lk] at h1,old:=λ_ _ _=>rfl }
 exact ⟨.panic (.iface t v),[],[],[],I,μ,⟨_,rfl,hur⟩,hq,Ku hc.imm hc.size (hc.defers.ext hE'),.refl _ _,hE',.refl _ _⟩
end
theorem EI {out:Out} (j:Nat) (hj:ds[j]?=some (.imm x)) (h:Ez x->IR P f ds st out):IR P f ds st out:=by
 intro I μ w xs hst hx;have hlt:j<xs.toList.length:=by rw [hx.1];exact (AO.1 hj).1
 exact h (hx.2 j _ (.imm x) (Bw hlt) hj).immInv.ok I μ w xs hst hx
structure PRng where
 s:List UInt8
 id':Nat
 ids':List Nat
 dst:Option Nat
 todo:List DI
def zJ (tt:TT) (n:Nat) (env:Env) (ids:List Nat) (todo:List DI):Option PRng :=
 match NN todo,ids with
 | some o,id'::ids'=>match o.guard,o.op with
  | none,.range t x=>match lk tt t,DN env x,BK n o.dst,Bt todo ([],[id']) with
   | some { sh:=.str,.. },some (.imm (.str s)),true,some (_,_,todo')=>some ⟨s,id',ids',o.dst,todo'⟩
   | _,_,_,_=>none
  | _,_=>none
 | _,_=>none
structure PNxt where
 s:List UInt8
 pos:Nat
 id:Nat
 dst:Option Nat
 todo:List DI
def sI (n:Nat) (env:Env) (st:St) (wr:Bool) (todo:List DI):Option PNxt :=
 match NN todo with
 | some o=>match o.guard,o.op with
  | none,.next x true=>match DN env x,BK n o.dst with
   | some (.iter id),true=>match lk st id,Bt todo ([id],bif wr then [id] else []) with
    | some (some (.siter s pos)),some (_,_,todo')=>some ⟨s,pos,id,o.dst,todo'⟩
    | _,_=>none
   | _,_=>none
  | _,_=>none
 | none=>none
def EK (s:List UInt8) (pos:Nat):Nat×Nat:=Utf8.decode ⟨s.toArray⟩ pos
section
variable {n:Nat} {env:Env} {k:List DI}
theorem DR {s:Sem Value} (h:s.run P w = .ok v w'):(do pure (.value (<- s)):Sem Next).run P w = .ok (.value v) w':=by simp [h]
theorem RepD.iterInv {id:Nat} (h:RepD I μ v (.iter id)):∃b,v = .pointer (some ⟨b,0,none⟩)/\μ id=some v:=by
 cases h with
 | iter _ b h=>exact ⟨b,rfl,h⟩
theorem oS (htt:TTok P tt) {ids0:List Nat} {todo0:List DI} (h:zJ tt n env ids todo=some ⟨s0,i0,ids0,d0,todo0⟩) (hk:G P n F Q todo0 (BN d0 (.iter i0) env) ((i0,some (.siter s0 0))::st) ids0):G P n F Q todo env st ids:=by
 unfold zJ at h
 split at h
 ·rename_i o id' ids' ho
  split at h
  ·rename_i t x hg hop
   split at h
   ·rename_i _ _ _ _ s all o' todo' ht hx hd h1;cases h;have ho':o'=o:=Dd ho h1;subst ho';refine BG (fr:=[i0]) (wr:=[(i0,some (.siter s0 0))]) (rd:=[]) h1 ?_ hd (λc hc=>by rw [hop] at hc;cases hc) hk;intro I μ st1 ids1 a w hag hst hon;refine ⟨λ_=>?_,λhw=>by rw [AL hg] at hw;cases hw⟩;have hops:=Bm hon;rw [hop] at hops;obtain ⟨bs,e1,e2⟩:=(hops x (by simp [Op.operands]) _ hx).immInv.strInv;have hu:P.underlying t=some .string:=htt.sh ht;have hrun:(execOp a.eval o').run P w = .ok (.value (.pointer (some ⟨w.heap.size,0,none⟩))) (w.alloc (.stringIter bs 0)):=by
     simp only [execOp,hop,e1];refine DR ?_;simp only [Instr.range,Sem.run_bind,run_underlying hu,Result.andThen_ok,Sem.run_pure,run_newObj];rfl
    rw [hrun];obtain ⟨μ',q1,q2,q3,q4⟩:=hst.allocO (.stringIter bs 0) (.pointer (some ⟨w.heap.size,0,none⟩)) (λ_ h=>Eq.symm h) (.siter s0 0) (λμ' _=>⟨w.heap.size,bs,rfl,Eu w _,e2⟩);exact ⟨I,μ',q3,.iter _ _ q1,q2,q4⟩
   ·cases h
  ·cases h
 ·cases h
theorem SS {id pos:Nat} {s:List UInt8} (hst:StRep I μ st ids w) (hl:Az st id (.siter s pos)) (hv:RepD I μ v (.iter id)) :
  ∃b,v = .pointer (some ⟨b,0,none⟩)/\μ id=some v/\w.heap[b]?=some (.stringIter ⟨s.toArray⟩ pos):=by
 obtain ⟨b,rfl,hm⟩:=hv.iterInv;obtain ⟨g,hg,b',bs,rfl,hheap,hs⟩:=hst.blk id _ hl;rw [hm] at hg;cases hg;refine ⟨b,rfl,hm,?_⟩;rw [hheap,<- hs]
theorem dC {todo0:List DI} (h:sI n env st true todo=some ⟨s0,p0,i0,d0,todo0⟩) (hp:p0<s0.length) {dc:Nat×Nat} (hdc:EK s0 p0=dc) (hk:G P n F Q todo0 (BN d0 (.imm (.tup [.bool true,.int .i64 p0,.int .i32 dc.1])) env) ((i0,some (.siter s0 (p0+dc.2)))::st) ids):G P n F Q todo env st ids:=by
 subst hdc;unfold sI at h
 split at h
 ·rename_i o ho
  split at h
  ·rename_i x hg hop
   split at h
   ·rename_i id hx hd
    split at h
    ·rename_i s pos all o' todo' hl h1;cases h;have ho':o'=o:=Dd ho h1;subst ho';refine BG (fr:=[]) (wr:=[(i0,some (.siter s0 (p0+(EK s0 p0).2)))]) (rd:=[i0]) h1 ?_ hd (λc hc=>by rw [hop] at hc;cases hc) hk;intro I μ st1 ids1 a w hag hst hon;refine ⟨λ_=>?_,λhw=>by rw [AL hg] at hw;cases hw⟩;have hops:=Bm hon;rw [hop] at hops;have hl1:Az st1 i0 (.siter s0 p0):=by unfold Az;rw [hag i0 (by simp)];exact hl
     obtain ⟨b,e1,hm,hheap⟩:=SS hst hl1 (hops x (by simp [Op.operands]) _ hx);have hget:(getObj b).run P w = .ok (.stringIter ⟨s0.toArray⟩ p0) w:=by simp [getObj,Sem.run,hheap]
     have hset:(setObj b (.stringIter ⟨s0.toArray⟩ (p0+(EK s0 p0).2))).run P w = .ok () { w with heap:=w.heap.setIfInBounds b (.stringIter ⟨s0.toArray⟩ (p0+(EK s0 p0).2)) }:=by simp [setObj,Sem.run,hheap]
     have hlt:p0<(ByteArray.mk s0.toArray).size:=by simpa [ByteArray.size] using hp
     have hrun:(execOp a.eval o').run P w = .ok (.value (.tuple #[.bool true,.int .i64 p0,.int .i32 (EK s0 p0).1])) { w with heap:=w.heap.setIfInBounds b (.stringIter ⟨s0.toArray⟩ (p0+(EK s0 p0).2)) }:=by
      simp only [execOp,hop,e1];refine DR ?_;simp only [Instr.next,Sem.run_bind,hget,Result.andThen_ok,if_pos hlt];have:(setObj b (.stringIter ⟨s0.toArray⟩ (p0+(Utf8.decode ⟨s0.toArray⟩ p0).2))).run P w=_:=hset;simp only [Sem.run_bind,this,Result.andThen_ok,Sem.run_pure];rfl
     rw [hrun];have hbl:=BZ hheap;obtain ⟨q1,q2⟩:=hst.update (blk':=.siter s0 (p0+(EK s0 p0).2)) (w':={ w with heap:=w.heap.setIfInBounds b (.stringIter ⟨s0.toArray⟩ (p0+(EK s0 p0).2)) }) hl1 hm (by rw [e1];rfl) (by simp) rfl rfl rfl
      (λk hk=>FV (Ne.symm hk)) ⟨b,⟨s0.toArray⟩,e1,by simp [hbl],rfl⟩
     refine ⟨I,μ,q1,.imm _ _ (.tup _ _ rfl λi c x hc hx=>?_),Mu.le_refl μ,q2⟩
     match i,hc,hx with
     | 0,hc,hx=>cases hc;cases hx;exact .bool _
     | 1,hc,hx=>cases hc;cases hx;exact .int _ _
     | 2,hc,hx=>cases hc;cases hx;exact .int _ _
     | i+3,hc,hx=>simp at hx
    ·cases h
   ·cases h
  ·cases h
 ·cases h
theorem tQ {todo0:List DI} (h:sI n env st false todo=some ⟨s0,p0,i0,d0,todo0⟩) (hp:s0.length<=p0) (hk:G P n F Q todo0 (BN d0 (.imm (.tup [.bool false])) env) st ids):G P n F Q todo env st ids:=by
 unfold sI at h
 split at h
 ·rename_i o ho
  split at h
  ·rename_i x hg hop
   split at h
   ·rename_i id hx hd
    split at h
    ·rename_i s pos all o' todo' hl h1;cases h;have ho':o'=o:=Dd ho h1;subst ho';refine BG (fr:=[]) (wr:=[]) (rd:=[i0]) h1 ?_ hd (λc hc=>by rw [hop] at hc;cases hc) hk;intro I μ st1 ids1 a w hag hst hon;refine ⟨λ_=>?_,λhw=>by rw [AL hg] at hw;cases hw⟩;have hops:=Bm hon;rw [hop] at hops;have hl1:Az st1 i0 (.siter s0 p0):=by unfold Az;rw [hag i0 (by simp)];exact hl
     obtain ⟨b,e1,hm,hheap⟩:=SS hst hl1 (hops x (by simp [Op.operands]) _ hx);have hget:(getObj b).run P w = .ok (.stringIter ⟨s0.toArray⟩ p0) w:=by simp [getObj,Sem.run,hheap]
     have hlt:¬p0<(ByteArray.mk s0.toArray).size:=by simpa [ByteArray.size] using hp
     have hrun:(execOp a.eval o').run P w = .ok (.value (.tuple #[.bool false])) w:=by
      simp only [execOp,hop,e1];refine DR ?_;simp only [Instr.next,Sem.run_bind,hget,Result.andThen_ok,if_neg hlt,Sem.run_pure]
     rw [hrun];refine ⟨I,μ,hst,.imm _ _ (.tup _ _ rfl λi c x hc hx=>?_),Mu.le_refl μ,Ext.refl _ _ _ _⟩
     match i,hc,hx with
     | 0,hc,hx=>cases hc;cases hx;exact .bool _
     | i+1,hc,hx=>simp at hx
    ·cases h
   ·cases h
  ·cases h
 ·cases h
end
end Go.Hk
