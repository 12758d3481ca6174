/- Strings that are gone through, rune by rune; maps that are owned. (And what it stands on.) -/
import Derived.Test.YtcdpbkolkeeopaaGreatWa
import Derived.Test.YtcdpbkolkeeopaaGreatProg
import Derived.KernelRfl
import Derived.RowKit3
import Derived.MapKept
set_option linter.defProp false
set_option linter.unnecessarySimpa false
set_option linter.unusedSimpArgs false
set_option linter.unusedVariables false

set_option maxRecDepth 100000
set_option maxHeartbeats 4000000
namespace Go.Hk
inductive Res where
 | at (todo:List DI) (env:Env) (st:St) (ids:List Nat) (ob:List Prop)
 | bad
inductive Pt where
 | t
 | f
 | a
 | s
def run (tt:TT) (n:Nat):Nat->List Pt->List DI->Env->St->List Nat->List Prop->Res
 | 0,_,k,env,st,ids,ob=>.at k env st ids ob
 | f+1,path,todo,env,st,ids,ob=>match todo with
  | .code (.seq a b)::k=>run tt n f path (.code a :: .code b::k) env st ids ob
  | .code .skip::k=>run tt n f path k env st ids ob
  | .code (.label _)::k=>run tt n f path k env st ids ob
  | .inBlock _::k=>match path with
   | .s::_=>.at k env st ids ob
   | _=>run tt n f path k env st ids ob
  | .inScope _::k=>run tt n f path k env st ids ob
  | .code (.block id c)::k=>run tt n f path (.code c :: .inBlock id::k) env st ids ob
  | .code (.scope c)::k=>run tt n f path (.code c :: .inScope c::k) env st ids ob
  | .code (.exit id)::k=>match J9 id k with
   | some k'=>run tt n f path k' env st ids ob
   | none=>.at (.code (.exit id)::k) env st ids ob
  | .code (.region _ ⟨ops⟩ false)::k=>run tt n f path (.ops ops ops::k) env st ids ob
  | .code (.region _ ⟨ops⟩ true)::k=>run tt n f path (.dops ops ops []::k) env st ids ob
  | .ops _ []::k=>run tt n f path k env st ids ob
  | .ops all (o::r)::k=>match Fo tt n all o env st ids with
   | .y _ env' []=>run tt n f path (.ops all r::k) env' st ids ob
   | .y _ env' [p]=>run tt n f path (.ops all r::k) env' st ids (p::ob)
   | .y _ env' [p,q]=>run tt n f path (.ops all r::k) env' st ids (p::q::ob)
   | .y _ env' (p::q::l)=>run tt n f path (.ops all r::k) env' st ids (p::q::Is l ob)
   | .e env' st' ids' []=>run tt n f path (.ops all r::k) env' st' ids' ob
   | .e env' st' ids' [p]=>run tt n f path (.ops all r::k) env' st' ids' (p::ob)
   | .e env' st' ids' (p::l)=>run tt n f path (.ops all r::k) env' st' ids' (p::Is l ob)
   | .no=>.at (.ops all (o::r)::k) env st ids ob
  | .dops all [] fs::k=>run tt n f path k env st ids ((Mq all fs.reverse=true)::ob)
  | .dops all (o::r) fs::k=>match Fo tt n all o env st ids,P3 env o.op with
   | .y _ env' [],[]=>run tt n f path (.dops all r (([],[])::fs)::k) env' st ids ob
   | .y _ env' [],[i]=>run tt n f path (.dops all r (([i],[])::fs)::k) env' st ids ob
   | .y _ env' [p],[]=>run tt n f path (.dops all r (([],[])::fs)::k) env' st ids (p::ob)
   | .y _ env' [p],[i]=>run tt n f path (.dops all r (([i],[])::fs)::k) env' st ids (p::ob)
   | .y _ env' (p::l),rd=>run tt n f path (.dops all r ((rd,[])::fs)::k) env' st ids (p::Is l ob)
   | .e env' ((i,x)::st') ids' ob',[]=>run tt n f path (.dops all r (([],[i])::fs)::k) env' ((i,x)::st') ids' (Is ob' ob)
   | .e env' ((i,x)::st') ids' ob',[j]=>run tt n f path (.dops all r (([j],[i])::fs)::k) env' ((i,x)::st') ids' (Is ob' ob)
   | _,_=>.at (.dops all (o::r) fs::k) env st ids ob
  | .code (.cond c x y)::k=>match path,DT env c with
   | .t::path',some (.imm (.bool t))=>run tt n f path' (.code x::k) env st ids ((t=true)::ob)
   | .f::path',some (.imm (.bool t))=>run tt n f path' (.code y::k) env st ids ((t=false)::ob)
   | .a::path',some (.imm (.bool t))=>run tt n f path' (.code (bif t then x else y)::k) env st ids ob
   | _,_=>.at (.code (.cond c x y)::k) env st ids ob
  | k=>.at k env st ids ob
def G (P:Program) (n:Nat) (F:List Nat) (Q:DQ) (todo:List DI) (env:Env) (st:St) (ids:List Nat):Prop :=
 match todo with
 | .dops all rest fs::k=>DD P n F Q all rest fs.reverse k env st ids
 | todo=>DGo P n F Q todo env st ids
section
variable {P:Program} {n:Nat} {F:List Nat} {Q:DQ} {tt:TT} {env env':Env} {st st':St} {ids ids':List Nat} {k:List DI} {cx:Prop} {d:D} {ob ob':List Prop} {todo:List DI} {Pn:V->Prop}
theorem G.go (h:G P n F Q todo env st ids):DGo P n F Q todo env st ids:=by
 unfold G at h
 split at h
 ·intro b cs I μ a w items hd hc;obtain ⟨i,is,rfl,h1,_⟩:=Hi hd;cases i <;> exact h1.elim
 ·exact h
theorem LD.ld_y {all:List Oper} {o:Oper} {rd:List Nat} (h:∀st',Agree rd st st'->YD P all o env st' d):LD P Pn all o env st rd [] [] d:=by
 intro I μ st1 ids1 a w hag hst hon;obtain ⟨h1,h2⟩:=h st1 hag I μ _ a w hst hon;exact ⟨λhw=>((h1 hw).mono λv w' ⟨I',q1,q2,q3⟩=>⟨I',μ,q1,q2,Mu.le_refl μ,q3⟩).x,λhw=>⟨rfl,rfl,h2 hw⟩⟩
theorem N5 {all:List Oper} {o:Oper} {rd:Bool} (h:Fo tt n all o env st ids = .y rd env' ob) (hag:Agree (P3 env o.op) st st'):Fo tt n all o env st' ids = .y rd env' ob:=by
 unfold Fo at h ⊢
 split at h
 ·rename_i hg;simp only [SI hag]
  split at h
  ·exact h
  ·exact h
  ·split at h
   ·exact absurd h Vf
   ·cases h
 ·rename_i j w0 hg;simp only [SI hag];exact h
theorem iI {dst:Option Nat} {d d':D} (h:BD dst d env=BD dst d' env):dst=none\/d=d':=by
 cases dst with
 | none=>exact .inl rfl
 | some t=>simp only [BD,Ep,AS,true_and,and_true] at h;exact .inr h
theorem cZ (htt:TTok P tt) {all:List Oper} {o:Oper} {rd:Bool} (h:Fo tt n all o env st ids = .y rd env' ob) (hob:AB ob) :
  ∃d,env'=BD o.dst d env/\(∀t,o.dst=some t->t<n)/\(∀c,o.op ≠ .defer c)/\YD P all o env st d/\LD P Pn all o env st (P3 env o.op) [] [] d:=by
 obtain ⟨d,e1,e2,e3,e4,_⟩:=OE htt h hob;cases hdst:o.dst with
 | some t =>
  refine ⟨d,by rw [e1,hdst],λt' ht=>e2 t' (by rw [hdst];exact ht),e3,e4,LD.ld_y λst' hag=>?_⟩;obtain ⟨d',e1',_,_,e4',_⟩:=OE htt (N5 h hag) hob;rw [e1] at e1';rcases iI e1' with h | h
  ·rw [hdst] at h;cases h
  ·rw [h];exact e4'
 | none =>
  refine ⟨.undef,(by rw [e1,hdst];rfl),(λt' ht=>by cases ht),e3,?_,LD.ld_y λst' hag=>?_⟩
  ·intro I μ ids a w hst hon;obtain ⟨h1,_⟩:=e4 I μ ids a w hst hon;exact ⟨λhw=>(h1 hw).mono λv w' ⟨I',q1,_,q3⟩=>⟨I',q1,.undef _,q3⟩,λ_=>.undef _⟩
  ·obtain ⟨d',_,_,_,e4',_⟩:=OE htt (N5 h hag) hob;intro I μ ids a w hst hon;obtain ⟨h1,_⟩:=e4' I μ ids a w hst hon;exact ⟨λhw=>(h1 hw).mono λv w' ⟨I',q1,_,q3⟩=>⟨I',q1,.undef _,q3⟩,λ_=>.undef _⟩
theorem Ss (htt:TTok P tt) {all:List Oper} {o:Oper} {i:Nat} {x:Option Blk} (h:Fo tt n all o env st ids = .e env' ((i,x)::st') ids' ob) (hob:AB ob) :
  ∃d fr,st'=st/\ids=fr++ids'/\env'=BD o.dst d env/\(∀t,o.dst=some t->t<n)/\(∀c,o.op ≠ .defer c)/\ED P all o env st ids d ((i,x)::st') ids'/\LD P Pn all o env st (P3 env o.op) fr [(i,x)] d:=by
 have h0:=h;unfold Fo at h
 split at h
 ·rename_i hg
  split at h
  ·exact absurd h Hy
  ·exact absurd h Hy
  ·split at h
   ·rename_i d s i2 ob2 he;obtain ⟨rfl,rfl,rfl,e1,e2⟩:=iJ h;obtain ⟨fr,wr,q1,q2,_,q4⟩:=SJ he;have hwr:wr=[(i,x)]/\st'=st:=by
     have hcons:∀(op:Op) (env:Env) {d:D} {s:St} {i:List Nat} {ob:List Prop},YT tt env st ids op = .e d s i ob->∃p,s=p::st:=by
      intro op env d s i ob h;obtain ⟨fr,wr,a1,a2,a3,a4⟩:=SJ h;cases op <;> simp only [YT,Nx,reduceCtorEq] at h
      all_goals (repeat' split at h) <;> first | (cases h;done) | (cases h;exact ⟨_,rfl⟩)
     obtain ⟨p,hp⟩:=hcons _ _ he;cases hp;have:wr.length=1:=by have:=congrArg List.length q2;simp at this;omega
     match wr,this with
     | [y],_=>simp at q2;exact ⟨by rw [q2],rfl⟩
    obtain ⟨rfl,rfl⟩:=hwr;have hnd:∀c,o.op ≠ .defer c:=λc hc=>by rw [hc,SK] at he;cases he
    refine ⟨d,fr,rfl,q1,e1,e2,hnd,λI μ a w hst hon=>⟨AG hg,YS htt hst (Bd hon) he hob⟩,λI μ st1 ids1 a w hag hst hon=>⟨λ_=>?_,λhw=>?_⟩⟩
    ·exact (YS htt hst (Bd hon) (q4 st1 ids1 hag) hob).x
    ·rw [AG hg] at hw;cases hw
   ·cases h
 ·split at h
  ·split at h
   ·split at h
    ·exact absurd h Hy
    ·exact absurd h Hy
    ·cases h
   ·cases h
  ·cases h
theorem Dz (htt:TTok P tt) (hm:P.follows .mixedOrders=true):∀(f:Nat) (path:List Pt) (todo:List DI) (env:Env) (st:St) (ids:List Nat) (ob0:List Prop) {todo':List DI} {env':Env} {st':St} {ids':List Nat} {ob:List Prop},
  run tt n f path todo env st ids ob0 = .at todo' env' st' ids' ob->AB ob->AB ob0/\(G P n F Q todo' env' st' ids'->G P n F Q todo env st ids)
 | 0,path,todo,env,st,ids,ob0,todo',env',st',ids',ob,h,hob=>by
  simp only [run,Res.at.injEq] at h;obtain ⟨rfl,rfl,rfl,rfl,rfl⟩:=h;exact ⟨hob,id⟩
 | f+1,path,todo,env,st,ids,ob0,todo',env',st',ids',ob,h,hob=>by
  simp only [run] at h;have stop:∀{t:List DI},Res.at t env st ids ob0 = .at todo' env' st' ids' ob->AB ob0/\(G P n F Q todo' env' st' ids'->G P n F Q t env st ids):=by
   intro t h;simp only [Res.at.injEq] at h;obtain ⟨rfl,rfl,rfl,rfl,rfl⟩:=h;exact ⟨hob,id⟩
  split at h
  ·obtain ⟨h1,h2⟩:=Dz htt hm f _ _ _ _ _ _ h hob;exact ⟨h1,λhd=>qV (h2 hd)⟩
  ·obtain ⟨h1,h2⟩:=Dz htt hm f _ _ _ _ _ _ h hob;exact ⟨h1,λhd=>Mm (h2 hd).go⟩
  ·obtain ⟨h1,h2⟩:=Dz htt hm f _ _ _ _ _ _ h hob;exact ⟨h1,λhd=>eU (h2 hd).go⟩
  ·split at h
   ·simp only [Res.at.injEq] at h;obtain ⟨rfl,rfl,rfl,rfl,rfl⟩:=h;exact ⟨hob,λhd=>Ob hd.go⟩
   ·obtain ⟨h1,h2⟩:=Dz htt hm f _ _ _ _ _ _ h hob;exact ⟨h1,λhd=>Ob (h2 hd).go⟩
  ·obtain ⟨h1,h2⟩:=Dz htt hm f _ _ _ _ _ _ h hob;exact ⟨h1,λhd=>Ww (h2 hd).go⟩
  ·obtain ⟨h1,h2⟩:=Dz htt hm f _ _ _ _ _ _ h hob;exact ⟨h1,λhd=>eV (h2 hd)⟩
  ·obtain ⟨h1,h2⟩:=Dz htt hm f _ _ _ _ _ _ h hob;exact ⟨h1,λhd=>eT (h2 hd)⟩
  ·split at h
   ·rename_i he;obtain ⟨h1,h2⟩:=Dz htt hm f _ _ _ _ _ _ h hob;exact ⟨h1,λhd=>Aw he (h2 hd).go⟩
   ·exact stop h
  ·obtain ⟨h1,h2⟩:=Dz htt hm f _ _ _ _ _ _ h hob;exact ⟨h1,λhd=>YX (h2 hd)⟩
  ·obtain ⟨h1,h2⟩:=Dz htt hm f _ _ _ _ _ _ h hob;exact ⟨h1,λhd=>mU hm (h2 hd)⟩
  ·obtain ⟨h1,h2⟩:=Dz htt hm f _ _ _ _ _ _ h hob;exact ⟨h1,λhd=>Q8 (h2 hd).go⟩
  ·rename_i all o r k;have hY:∀{rd:Bool} {env1:Env} {ob1 ob2:List Prop},Fo tt n all o env st ids = .y rd env1 ob1->(AB ob2->AB ob1/\AB ob0) ->
     (run tt n f path (.ops all r::k) env1 st ids ob2 = .at todo' env' st' ids' ob)->AB ob0/\(G P n F Q todo' env' st' ids'->G P n F Q (.ops all (o::r)::k) env st ids):=by
    intro rd env1 ob1 ob2 hs hobs hrun;obtain ⟨h1,h2⟩:=Dz htt hm f _ _ _ _ _ _ hrun hob;obtain ⟨h3,h4⟩:=hobs h1;obtain ⟨d,e1,e2,e3,e4,_⟩:=OE htt hs h3;subst e1;exact ⟨h4,λhd=>wM e3 e4 e2 (h2 hd)⟩
   have hE:∀{env1:Env} {st1:St} {ids1:List Nat} {ob1 ob2:List Prop},Fo tt n all o env st ids = .e env1 st1 ids1 ob1->(AB ob2->AB ob1/\AB ob0) ->
     (run tt n f path (.ops all r::k) env1 st1 ids1 ob2 = .at todo' env' st' ids' ob)->AB ob0/\(G P n F Q todo' env' st' ids'->G P n F Q (.ops all (o::r)::k) env st ids):=by
    intro env1 st1 ids1 ob1 ob2 hs hobs hrun;obtain ⟨h1,h2⟩:=Dz htt hm f _ _ _ _ _ _ hrun hob;obtain ⟨h3,h4⟩:=hobs h1;obtain ⟨d,e1,e2,e3,e4⟩:=oQ htt hs h3;subst e1;exact ⟨h4,λhd=>wO e3 e4 e2 (h2 hd)⟩
   split at h
   ·rename_i hs;refine hY hs ?_ h;intro q;exact ⟨trivial,q⟩
   ·rename_i hs;refine hY hs ?_ h;intro q;exact ⟨⟨q.1,trivial⟩,q.2⟩
   ·rename_i hs;refine hY hs ?_ h;intro q;exact ⟨⟨q.1,q.2.1,trivial⟩,q.2.2⟩
   ·rename_i hs;refine hY hs ?_ h;intro q;exact ⟨⟨q.1,q.2.1,(Bu q.2.2).1⟩,(Bu q.2.2).2⟩
   ·rename_i hs;refine hE hs ?_ h;intro q;exact ⟨trivial,q⟩
   ·rename_i hs;refine hE hs ?_ h;intro q;exact ⟨⟨q.1,trivial⟩,q.2⟩
   ·rename_i hs;refine hE hs ?_ h;intro q;exact ⟨⟨q.1,(Bu q.2).1⟩,(Bu q.2).2⟩
   ·exact stop h
  ·obtain ⟨h1,h2⟩:=Dz htt hm f _ _ _ _ _ _ h hob;exact ⟨h1.2,λhd=>uO h1.1 (h2 hd).go⟩
  ·rename_i all o r fs k;have hY:∀{rd:Bool} {env1:Env} {ob1 ob2:List Prop} {rds:List Nat},Fo tt n all o env st ids = .y rd env1 ob1->P3 env o.op=rds->(AB ob2->AB ob1/\AB ob0) ->
     (run tt n f path (.dops all r ((rds,[])::fs)::k) env1 st ids ob2 = .at todo' env' st' ids' ob)->AB ob0/\(G P n F Q todo' env' st' ids'->G P n F Q (.dops all (o::r) fs::k) env st ids):=by
    intro rd env1 ob1 ob2 rds hs hrd hobs hrun;obtain ⟨h1,h2⟩:=Dz htt hm f _ _ _ _ _ _ hrun hob;obtain ⟨h3,h4⟩:=hobs h1;obtain ⟨d,e1,e2,e3,_,e5⟩:=cZ htt hs h3;subst e1;rw [hrd] at e5;refine ⟨h4,λhd=>?_⟩;have:=h2 hd;simp only [G,Yi] at this ⊢;exact Uo (ids':=ids) e5 e2 e3 this
   have hE:∀{env1:Env} {st1:St} {ids1:List Nat} {ob1:List Prop} {rds:List Nat} {i:Nat} {x:Option Blk},Fo tt n all o env st ids = .e env1 ((i,x)::st1) ids1 ob1->P3 env o.op=rds ->
     (run tt n f path (.dops all r ((rds,[i])::fs)::k) env1 ((i,x)::st1) ids1 (Is ob1 ob0) = .at todo' env' st' ids' ob)->AB ob0/\(G P n F Q todo' env' st' ids'->G P n F Q (.dops all (o::r) fs::k) env st ids):=by
    intro env1 st1 ids1 ob1 rds i x hs hrd hrun;obtain ⟨h1,h2⟩:=Dz htt hm f _ _ _ _ _ _ hrun hob;obtain ⟨h3,h4⟩:=(QT _ _).1 h1;obtain ⟨d,fr,rfl,rfl,e1,e2,e3,_,e5⟩:=Ss htt hs h3;subst e1;rw [hrd] at e5;refine ⟨h4,λhd=>?_⟩;have:=h2 hd;simp only [G,Yi] at this ⊢;exact Uo e5 e2 e3 this
   split at h
   ·rename_i hs hr;refine hY hs hr ?_ h;intro q;exact ⟨trivial,q⟩
   ·rename_i hs hr;refine hY hs hr ?_ h;intro q;exact ⟨trivial,q⟩
   ·rename_i hs hr;refine hY hs hr ?_ h;intro q;exact ⟨⟨q.1,trivial⟩,q.2⟩
   ·rename_i hs hr;refine hY hs hr ?_ h;intro q;exact ⟨⟨q.1,trivial⟩,q.2⟩
   ·rename_i hs _ _;refine hY hs rfl ?_ h;intro q;exact ⟨⟨q.1,(Bu q.2).1⟩,(Bu q.2).2⟩
   ·rename_i hs hr;exact hE hs hr h
   ·rename_i hs hr;exact hE hs hr h
   ·exact stop h
  ·split at h
   ·rename_i t hc;obtain ⟨h1,h2⟩:=Dz htt hm f _ _ _ _ _ _ h hob;exact ⟨h1.2,λhd=>Aa hc (λ_=>(h2 hd).go) (λhf=>by rw [h1.1] at hf;cases hf)⟩
   ·rename_i t hc;obtain ⟨h1,h2⟩:=Dz htt hm f _ _ _ _ _ _ h hob;exact ⟨h1.2,λhd=>Aa hc (λht=>by rw [h1.1] at ht;cases ht) (λ_=>(h2 hd).go)⟩
   ·rename_i t hc;obtain ⟨h1,h2⟩:=Dz htt hm f _ _ _ _ _ _ h hob;refine ⟨h1,λhd=>Aa hc (λht=>?_) (λht=>?_)⟩
    ·subst ht;exact (h2 hd).go
    ·subst ht;exact (h2 hd).go
   ·exact stop h
  ·exact stop h
theorem J6 (htt:TTok P tt) (hm:P.follows .mixedOrders=true) (f:Nat) (path:List Pt) (h:run tt n f path todo env st ids [] = .at k env' st' ids' ob) (hob:AB ob) (hd:G P n F Q k env' st' ids'):G P n F Q todo env st ids :=
 (Dz htt hm f path todo env st ids [] h hob).2 hd
end
end Go.Hk
namespace Go.Hk
mutual
def IT:D->List Nat
 | .ref id _=>[id]
 | .own id _=>[id]
 | .elp id _ _ _=>[id]
 | .hv id _=>[id]
 | .mapr id=>[id]
 | .iter id=>[id]
 | .slc id _ _ _=>[id]
 | .yld id=>[id]
 | .agg cs=>HU cs
 | .tup cs=>HU cs
 | .fn _ a b=>HU a++HU b
 | .iface _ d=>IT d
 | .guard _ _ d=>IT d
 | _=>[]
def HU:List D->List Nat
 | []=>[]
 | d::r=>IT d++HU r
end
mutual
def Jh (ρ:Nat->Nat):D->D
 | .ref id off=>.ref (ρ id) off
 | .own id n=>.own (ρ id) n
 | .elp id k sz f=>.elp (ρ id) k sz f
 | .mapr id=>.mapr (ρ id)
 | .iter id=>.iter (ρ id)
 | .agg cs=>.agg (Fp ρ cs)
 | .tup cs=>.tup (Fp ρ cs)
 | .fn f a b=>.fn f (Fp ρ a) (Fp ρ b)
 | .iface t d=>.iface t (Jh ρ d)
 | .guard c w d=>.guard c w (Jh ρ d)
 | .undef=>.undef
 | .imm x=>.imm x
 | .nils=>.nils
 | .ip t cs off=>.ip t cs off
 | .clip es=>.clip es
 | .slc id off n c=>.slc (ρ id) off n c
 | .yld id=>.yld (ρ id)
 | .raw v=>.raw v
 | .hv id i=>.hv (ρ id) i
def Fp (ρ:Nat->Nat):List D->List D
 | []=>[]
 | d::r=>Jh ρ d::Fp ρ r
end
def Vp:Env->List Nat
 | []=>[]
 | (_,d)::r=>IT d++Vp r
def cE (ρ:Nat->Nat):Env->Env
 | []=>[]
 | (t,d)::r=>(t,Jh ρ d)::cE ρ r
theorem Z1 {ρ:Nat->Nat}:∀{env:Env} {t:Nat} {d:D},lk (cE ρ env) t=some d->∃d0,lk env t=some d0/\d=Jh ρ d0
 | [],t,d,h=>by simp [cE,lk] at h
 | (s,x)::r,t,d,h=>by
  simp only [cE] at h;by_cases hs:s=t
  ·subst hs;rw [Ay] at h ⊢;cases h;exact ⟨x,rfl,rfl⟩
  ·rw [A5 _ _ hs] at h ⊢;exact Z1 h
theorem XA:∀{env:Env} {t:Nat} {d:D},lk env t=some d->∀i∈IT d,i∈Vp env
 | [],t,d,h,_,_=>by simp [lk] at h
 | (s,x)::r,t,d,h,i,hi=>by
  simp only [Vp,BH];by_cases hs:s=t
  ·subst hs;rw [Ay] at h;cases h;exact .inl hi
  ·rw [A5 _ _ hs] at h;exact .inr (XA h i hi)
theorem FR (ρ:Nat->Nat):∀l:List D,Fp ρ l=l.map (Jh ρ)
 | []=>rfl
 | d::r=>by simp [Fp,FR ρ r]
theorem I1 {d:D} {i:Nat}:∀{l:List D},d∈l->i∈IT d->i∈HU l
 | [],h,_=>by simp at h
 | x::r,h,hi=>by
  simp only [HU,BH];rcases CC.1 h with rfl | h
  ·exact .inl hi
  ·exact .inr (I1 h hi)
section
variable {I:Imm} {μ ν:Mu} {ρ:Nat->Nat}
theorem RepD.ren {v:Value} {d:D} (h:RepD I μ v d):(∀i∈IT d,∀g,μ i=some g->ν (ρ i)=some g)->RepD I ν v (Jh ρ d):=by
 have at_:∀{l:List D} {i:Nat} {x:D},(Fp ρ l)[i]?=some x->∃y,l[i]?=some y/\x=Jh ρ y:=by
  intro l i x hx;rw [FR,Eg] at hx;cases hl:l[i]? with
  | none=>rw [hl] at hx;cases hx
  | some y=>rw [hl] at hx;cases hx;exact ⟨y,rfl,rfl⟩
 induction h with
 | undef v=>intro _;exact .undef v
 | imm v x hx=>intro _;exact .imm v x hx
 | nils=>intro _;exact .nils
 | ref b id off hm=>intro hn;exact .ref b _ off (hn id (by simp [IT]) _ hm)
 | ip b o t cs off vs hcell hrep=>intro _;exact .ip b o t cs off vs hcell hrep
 | agg cs ds hl h1 _ ih =>
  intro hn;refine .agg cs _ (by rw [FR,CW,hl]) h1 λi c x hc hx=>?_;obtain ⟨y,hy,rfl⟩:=at_ hx;exact ih i c y hc hy λj hj=>hn j (by simp only [IT];exact I1 (AF hy) hj)
 | tup cs ds hl _ ih =>
  intro hn;refine .tup cs _ (by rw [FR,CW,hl]) λi c x hc hx=>?_;obtain ⟨y,hy,rfl⟩:=at_ hx;exact ih i c y hc hy λj hj=>hn j (by simp only [IT];exact I1 (AF hy) hj)
 | own id len a cap hm=>intro hn;exact .own _ len a cap (hn id (by simp [IT]) _ hm)
 | elp b id len cap k sz f hm=>intro hn;exact .elp b _ len cap k sz f (hn id (by simp [IT]) _ hm)
 | mapr id b hm=>intro hn;exact .mapr _ b (hn id (by simp [IT]) _ hm)
 | iter id b hm=>intro hn;exact .iter _ b (hn id (by simp [IT]) _ hm)
 | fn f first cap df dc hf hc _ _ ih1 ih2 =>
  intro hn;refine .fn f first cap _ _ (by rw [FR,CW,hf]) (by rw [FR,CW,hc]) (λi c x h1 h2=>?_) (λi c x h1 h2=>?_)
  ·obtain ⟨y,hy,rfl⟩:=at_ h2;exact ih1 i c y h1 hy λj hj=>hn j (by simp only [IT];exact Ld _ (I1 (AF hy) hj))
  ·obtain ⟨y,hy,rfl⟩:=at_ h2;exact ih2 i c y h1 hy λj hj=>hn j (by simp only [IT];exact Yh _ (I1 (AF hy) hj))
 | iface t v d _ ih=>intro hn;exact .iface t v _ (ih hn)
 | guard c want v d _ hu ih=>intro hn;exact .guard c want v _ (λhc=>ih hc hn) hu
 | clip a len es hr=>intro _;exact .clip a len es hr
 | slc b id off len cap hm hl hx=>intro hn;exact .slc b _ off len cap (hn id (by simp [IT]) _ hm) hl hx
 | yld b id hm=>intro hn;exact .yld b _ (hn id (by simp [IT]) _ hm)
 | raw v h=>intro _;exact .raw v h
 | hv v id i vs bs hm hi h1=>intro hn;exact .hv v _ i vs bs (hn id (by simp [IT]) _ hm) hi h1
theorem RepL.ren {vs:List Value} {ds:List D} (h:RepL I μ vs ds) (hn:∀i∈HU ds,∀g,μ i=some g->ν (ρ i)=some g):RepL I ν vs (Fp ρ ds):=by
 refine ⟨by rw [FR,CW,h.1],λi v x hv hx=>?_⟩;rw [FR,Eg] at hx;cases hl:ds[i]? with
 | none=>rw [hl] at hx;cases hx
 | some y =>
  rw [hl] at hx;cases hx;exact (h.2 i v y hv hl).ren λj hj=>hn j (I1 (AF hl) hj)
def TB:Blk->List Nat
 | .cells _ _ cs=>HU cs
 | .bun id _=>[id]
 | .adr id _=>[id]
 | _=>[]
def Tv (ρ:Nat->Nat):Blk->Blk
 | .cells t sz cs=>.cells t sz (Fp ρ cs)
 | .map kv=>.map kv
 | .immb t sz xs=>.immb t sz xs
 | .row t sz es=>.row t sz es
 | .siter s pos=>.siter s pos
 | .pin=>.pin
 | .bun id S=>.bun (ρ id) S
 | .hp A=>.hp A
 | .adr id b=>.adr (ρ id) b
 | .mapx kv b es c=>.mapx kv b es c
 | .miter b s z c=>.miter b s z c
theorem BlkRep.ren {w:World} {g:Value} {blk:Blk} (h:BlkRep I μ w g blk) (hn:∀i∈TB blk,∀g,μ i=some g->ν (ρ i)=some g):BlkRep I ν w g (Tv ρ blk):=by
 cases blk with
 | immb t sz xs=>exact h
 | cells t sz cs =>
  obtain ⟨hs,b,vs,h1,h2,h3,h4⟩:=h;exact ⟨by rw [FR,CW,hs],b,vs,h1,h2,h3.ren hn,h4⟩
 | row t sz es=>exact h
 | map kv=>exact h
 | siter s pos=>exact h
 | pin=>exact h
 | bun id S =>
  obtain ⟨b,bs,h1,h2,h3⟩:=h;exact ⟨b,bs,hn id (by simp [TB]) _ h1,h2,h3⟩
 | hp A=>exact h
 | adr id b=>exact ⟨h.1,hn id (by simp [TB]) _ h.2⟩
 | mapx kv b es c=>exact h
 | miter b s z c=>exact h
theorem RepD.sub {v:Value} {d:D} (h:RepD I μ v d) (hn:∀i∈IT d,∀g,μ i=some g->ν i=some g):RepD I ν v d:=by
 have:=h.ren (ν:=ν) (ρ:=λi=>i) hn;have hid:∀d,Jh (λi=>i) d=d:=by
  intro d;refine D.rec (motive_1:=λd=>Jh (λi=>i) d=d) (motive_2:=λl=>Fp (λi=>i) l=l) ?_ ?_ ?_ ?_ ?_ ?_ ?_ ?_ ?_ ?_ ?_ ?_ ?_ ?_ ?_ ?_ ?_ ?_ ?_ ?_ ?_ d <;> intros <;> simp_all [Jh,Fp]
 rwa [hid] at this
end
end Go.Hk
namespace Go.Hk
inductive Out where
 | ret (d:D) (st:St)
 | pan (x:V)
def DJ (st:St):List Nat:=st.map (·.1)
def AK (P:Program) (f:FuncId) (ds:List D) (st:St) (out:Out):Prop :=
 ∀I μ w (xs:Array Value),StRep I μ st [] w->RepL I μ xs.toList ds->valX P ((callFunc f xs).run P w)
  (λu w'=>match out with
   | .ret d st'=>∃I' μ',RepD I' μ' u d/\StRep I' μ' st' [] w'/\Pin (DJ st) μ μ'/\Ext I μ st w I' μ' st' w'
   | .pan _=>False)
  (λchain w'=>match out with
   | .ret _ _=>False
   | .pan x=>Ko (· = x) I μ st w chain w')
def Al (P:Program) (f:FuncId) (vs:List V) (v:V):Prop:=AK P f (vs.map .imm) [] (.ret (.imm v) [])
def Ec (l:List (Nat×Nat)) (i:Nat):Nat:=match lk l i with
 | some j=>j
 | none=>i
def Bb:List (Nat×Nat)->List (Nat×Nat)
 | []=>[]
 | (a,b)::r=>(b,a)::Bb r
def CR (σ τ:List (Nat×Nat)):List Nat->Bool
 | []=>true
 | i::r=>(match lk σ i with
  | some j=>(match lk τ j with
   | some k=>Nat.beq k i
   | none=>false)
  | none=>false)&&CR σ τ r
theorem JG {σ τ:List (Nat×Nat)}:∀{l:List Nat},CR σ τ l=true->∀i∈l,∃j,lk σ i=some j/\lk τ j=some i
 | [],_,i,hi=>by simp at hi
 | x::r,h,i,hi=>by
  simp only [CR,A1] at h;rcases CC.1 hi with rfl | hi
  ·cases h1:lk σ i with
   | none=>simp [h1] at h
   | some j =>
    cases h2:lk τ j with
    | none=>simp [h1,h2] at h
    | some k =>
     simp only [h1,h2] at h;rw [Cx h.1] at h2;exact ⟨j,rfl,h2⟩
  ·exact JG h.2 i hi
def Fj:St->List Nat
 | []=>[]
 | (i,some b)::r=>i::(TB b++Fj r)
 | (i,none)::r=>i::Fj r
def E9 (τ:List (Nat×Nat)):St->St
 | []=>[]
 | (i,some b)::r=>(Ec τ i,some (Tv (Ec τ) b))::E9 τ r
 | (i,none)::r=>(Ec τ i,none)::E9 τ r
def EI (σ:List (Nat×Nat)) (st:St):St->Prop
 | []=>True
 | (i,some b)::r=>(match lk (Bb σ) i with
  | some a=>(match lk σ a with
   | some j=>Nat.beq j i=true
   | none=>False)/\(match lk st a with
   | some (some ba)=>Tv (Ec σ) ba=b/\CR σ (Bb σ) (TB ba)=true
   | _=>False)
  | none=>False)/\EI σ st r
 | (_,none)::_=>False
theorem HA {σ:List (Nat×Nat)} {st:St}:∀{st0:St},EI σ st st0->∀i b,Az st0 i b ->
  ∃a ba,lk (Bb σ) i=some a/\lk σ a=some i/\Az st a ba/\Tv (Ec σ) ba=b/\CR σ (Bb σ) (TB ba)=true
 | [],_,i,b,h=>by simp [Az,lk] at h
 | (k,none)::r,h,_,_,_=>h.elim
 | (k,some x)::r,h,i,b,hl=>by
  obtain ⟨h1,h2⟩:=h;by_cases hk:k=i
  ·subst hk;have:x=b:=by unfold Az at hl;rw [Ay] at hl;cases hl;rfl
   subst this;cases ha:lk (Bb σ) k with
   | none=>simp [ha] at h1
   | some a =>
    simp only [ha] at h1;obtain ⟨h3,h4⟩:=h1;cases hj:lk σ a with
    | none=>simp [hj] at h3
    | some j =>
     simp only [hj] at h3;cases hb:lk st a with
     | none=>simp [hb] at h4
     | some ob =>
      cases ob with
      | none=>simp [hb] at h4
      | some ba =>
       simp only [hb] at h4;exact ⟨a,ba,rfl,by rw [hj,Cx h3],hb,h4.1,h4.2⟩
  ·refine HA h2 i b ?_;unfold Az at hl ⊢
   rwa [A5 _ _ hk] at hl
def Cs:List Nat->St
 | []=>[]
 | a::r=>(a,none)::Cs r
theorem Lj {l:List Nat} {st:St} {i:Nat} {b:Blk} (h:Az (Cs l++st) i b):i∉l/\Az st i b:=by
 induction l with
 | nil=>exact ⟨by simp,h⟩
 | cons a r ih =>
  simp only [Cs,Db] at h;obtain ⟨h1,h2⟩:=BL.1 h;obtain ⟨h3,h4⟩:=ih h2;exact ⟨by simp [h1,h3],h4⟩
theorem KS {τ:List (Nat×Nat)} {st:St} {i:Nat} {b:Blk}:∀{st1:St},Az (E9 τ st1++st) i b ->
  (∃j b1,Az st1 j b1/\i=Ec τ j/\b=Tv (Ec τ) b1)\/Az st i b
 | [],h=>.inr h
 | (k,some x)::r,h=>by
  simp only [E9,Db] at h;rcases A9.1 h with ⟨h1,h2⟩ | ⟨h1,h2⟩
  ·exact .inl ⟨k,x,by unfold Az;rw [Ay],h1,h2⟩
  ·rcases KS h2 with ⟨j,b1,q1,q2,q3⟩ | q
   ·refine .inl ⟨j,b1,?_,q2,q3⟩;unfold Az at q1 ⊢;rw [A5 _ _ (λe=>by subst e;exact h1 q2)];exact q1
   ·exact .inr q
 | (k,none)::r,h=>by
  simp only [E9,Db] at h;obtain ⟨h1,h2⟩:=BL.1 h;rcases KS h2 with ⟨j,b1,q1,q2,q3⟩ | q
  ·refine .inl ⟨j,b1,?_,q2,q3⟩;unfold Az at q1 ⊢;rw [A5 _ _ (λe=>by subst e;exact h1 q2)];exact q1
  ·exact .inr q
theorem Jw:∀{σ:List (Nat×Nat)} {i a:Nat},lk (Bb σ) i=some a->(a,i)∈σ
 | [],i,a,h=>by simp [Bb,lk] at h
 | (x,y)::r,i,a,h=>by
  simp only [Bb] at h;by_cases hy:y=i
  ·subst hy;rw [Ay] at h;cases h;simp
  ·rw [A5 _ _ hy] at h;exact H3 _ (Jw h)
theorem PX:∀{σ:List (Nat×Nat)} {i a:Nat},lk σ i=some a->(i,a)∈σ
 | [],i,a,h=>by simp [lk] at h
 | (x,y)::r,i,a,h=>by
  by_cases hy:x=i
  ·subst hy;rw [Ay] at h;cases h;simp
  ·rw [A5 _ _ hy] at h;exact H3 _ (PX h)
theorem LR {l m:List (Nat×Nat)} {i:Nat}:(∃a,lk l i=some a/\lk (l++m) i=some a)\/(lk l i=none/\lk (l++m) i=lk m i):=by
 induction l with
 | nil=>exact .inr ⟨rfl,rfl⟩
 | cons p r ih =>
  obtain ⟨x,y⟩:=p;by_cases hx:x=i
  ·subst hx;exact .inl ⟨y,Ay _ _ _,Ay _ _ _⟩
  ·rw [A5 _ _ hx,Db,A5 _ _ hx];exact ih
structure aX (σ τ1:List (Nat×Nat)) (das:List D) (st0:St) (d:D) (st1:St) (fr:List Nat):Prop where
 args:CR σ (Bb σ) (HU das)=true
 inv:CR σ (Bb σ) (σ.map (·.1))=true
 given:∀p∈σ,p.2∈DJ st0
 res:CR (Bb σ++τ1) (σ++Bb τ1) (IT d)=true
 now:CR (Bb σ++τ1) (σ++Bb τ1) (Fj st1)=true
 new:∀p∈τ1,p.2∈fr
theorem Ez:∀{st:St} {i:Nat} {b:Blk},Az st i b->i∈Fj st/\∀j∈TB b,j∈Fj st
 | [],i,b,h=>by simp [Az,lk] at h
 | (k,x)::r,i,b,h=>by
  by_cases hk:k=i
  ·subst hk;unfold Az at h;rw [Ay] at h;cases h;simp only [Fj];exact ⟨by simp,λj hj=>by simp [hj]⟩
  ·have h':Az r i b:=by unfold Az at h ⊢;rwa [A5 _ _ hk] at h
   obtain ⟨h1,h2⟩:=Ez h';cases x with
   | none=>simp only [Fj,CC];exact ⟨.inr h1,λj hj=>.inr (h2 j hj)⟩
   | some y=>simp only [Fj,CC,BH];exact ⟨.inr (.inr h1),λj hj=>.inr (.inr (h2 j hj))⟩
section
variable {P:Program} {I:Imm} {μ:Mu} {st st0 st1:St} {ids ids' fr:List Nat} {w:World} {σ τ1:List (Nat×Nat)} {das:List D} {d:D} {f:FuncId} {x:V} {Pn:V->Prop}
def GT (σ:List (Nat×Nat)) (μ:Mu):Mu:=λj=>match lk (Bb σ) j with
 | some a=>μ a
 | none=>none
theorem QS {σ τ:List (Nat×Nat)} {l:List Nat} (h:CR σ τ l=true) {i:Nat} (hi:i∈l):lk τ (Ec σ i)=some i:=by
 obtain ⟨j,h1,h2⟩:=JG h i hi;simp [Ec,h1,h2]
theorem FP (hst:StRep I μ st ids w) (hb:EI σ st st0) (hd:CR σ (Bb σ) (HU das)=true) {xs:List Value} (hx:RepL I μ xs das) :
  StRep I (GT σ μ) st0 [] w/\RepL I (GT σ μ) xs (Fp (Ec σ) das)/\∀b,Bg (GT σ μ) st0 b->Bg μ st b:=by
 have hn:∀{l:List Nat},CR σ (Bb σ) l=true->∀i∈l,∀g,μ i=some g->GT σ μ (Ec σ i)=some g:=by
  intro l hl i hi g hg;unfold GT;rw [QS hl hi];exact hg
 have hl:∀i b g,Az st0 i b->GT σ μ i=some g->∃a ba,Az st a ba/\μ a=some g/\lk σ a=some i:=by
  intro i b g hi hg;obtain ⟨a,ba,h1,h2,h3,_⟩:=HA hb i b hi;exact ⟨a,ba,h3,by simpa [GT,h1] using hg,h2⟩
 refine ⟨{ imm:=hst.imm,blk:=λi b h=>?_,apart:=λi b g k h hg hk=>?_,inj:=λi j bi bj gi gj k hi hj hgi hgj hki hkj=>?_,nodup:=.nil,idsFree:=λ_ h=>by simp at h },hx.ren (hn hd),?_⟩
 ·obtain ⟨a,ba,h1,h2,h3,h4,h5⟩:=HA hb i b h;obtain ⟨g,hg,hr⟩:=hst.blk a ba h3;refine ⟨g,by simp [GT,h1,hg],?_⟩;rw [<- h4];exact hr.ren (hn h5)
 ·obtain ⟨a,ba,h1,h2,_⟩:=hl i b g h hg;exact hst.apart a ba g k h1 h2 hk
 ·obtain ⟨a,ba,h1,h2,h3⟩:=hl i bi gi hi hgi;obtain ⟨a',ba',h1',h2',h3'⟩:=hl j bj gj hj hgj;have:=hst.inj a a' ba ba' gi gj k h1 h1' h2 h2' hki hkj;subst this;rw [h3] at h3';cases h3';rfl
 ·rintro b ⟨i,bi,g,h1,h2,h3⟩;obtain ⟨a,ba,q1,q2,_⟩:=hl i bi g h1 h2;exact ⟨a,ba,g,q1,q2,h3⟩
theorem Kj (hst:StRep I μ st (fr++ids') w) (hb:EI σ st st0) (hn:aX σ τ1 das st0 d st1 fr) {I':Imm} {μ':Mu} {w':World} {u:Value} (hu:RepD I' μ' u d) (hst':StRep I' μ' st1 [] w')
  (hp:Pin (DJ st0) (GT σ μ) μ') (he:Ext I (GT σ μ) st0 w I' μ' st1 w') (hsub:∀b,Bg (GT σ μ) st0 b->Bg μ st b) :
  ∃ν,StRep I' ν (E9 (Bb σ++τ1) st1++Cs (σ.map (·.1))++st) ids' w'/\RepD I' ν u (Jh (Ec (Bb σ++τ1)) d)/\μ.le ν /\
   Ext I μ st w I' ν (E9 (Bb σ++τ1) st1++Cs (σ.map (·.1))++st) w':=by
 have hfree:∀i∈fr,μ i=none:=λi hi=>hst.idsFree i (by simp [hi]);have hgiven:∀i j,lk σ i=some j->lk (Bb σ) j=some i/\∃g,μ i=some g:=by
  intro i j hij;have hinv:lk (Bb σ) j=some i:=by
   obtain ⟨j',h1,h2⟩:=JG hn.inv i (Cc.2 ⟨(i,j),PX hij,rfl⟩);rw [hij] at h1;cases h1;exact h2
  refine ⟨hinv,?_⟩;have h1:=hn.given _ (PX hij);obtain ⟨⟨j',x⟩,h2,h3⟩:=Cc.1 h1;have h3:j'=j:=h3;subst h3;have:∀{st0:St},EI σ st st0->(j',x)∈st0->∃g,μ i=some g:=by
   intro st0
   induction st0 with
   | nil=>intro _ h;simp at h
   | cons p r ih =>
    obtain ⟨k,y⟩:=p;intro h hm;cases y with
    | none=>exact h.elim
    | some y =>
     rcases CC.1 hm with e | e
     ·cases e;have h1:=h.1;simp only [hinv] at h1;have h4:=h1.2;cases hb:lk st i with
      | none=>simp [hb] at h4
      | some ob =>
       cases ob with
       | none=>simp [hb] at h4
       | some ba =>
        obtain ⟨g,hg,_⟩:=hst.blk i ba hb;exact ⟨g,hg⟩
     ·exact ih h.2 e
  exact this hb h2
 obtain ⟨ν,hν⟩:∃ν:Mu,ν=λi=>match lk (σ++Bb τ1) i with | some j=>μ' j | none=>μ i:=⟨_,rfl⟩
 have hν1:∀{l:List Nat},CR (Bb σ++τ1) (σ++Bb τ1) l=true->∀i∈l,∀g,μ' i=some g->ν (Ec (Bb σ++τ1) i)=some g:=by
  intro l hl i hi g hg;rw [hν];simp only [QS hl hi];exact hg
 have hσ:∀i j,lk σ i=some j->∀g,μ i=some g->ν i=some g:=by
  intro i j hij g hg;have h2:=(hgiven i j hij).1;rw [hν];rcases LR (l:=σ) (m:=Bb τ1) (i:=i) with ⟨a,h3,h4⟩ | ⟨h3,_⟩
  ·rw [hij] at h3;cases h3;simp only [h4];exact hp j (hn.given _ (PX hij)) g (by simp [GT,h2,hg])
  ·rw [hij] at h3;cases h3
 have hin:∀i,(∃j,lk σ i=some j)\/i∈fr\/ν i=μ i:=by
  intro i;rcases LR (l:=σ) (m:=Bb τ1) (i:=i) with ⟨a,h1,_⟩ | ⟨h1,h2⟩
  ·exact .inl ⟨a,h1⟩
  ·cases h:lk (Bb τ1) i with
   | none=>refine .inr (.inr ?_);rw [hν];simp [h2,h]
   | some j=>exact .inr (.inl (hn.new _ (Jw h)))
 have hle:μ.le ν:=by
  intro i g hg;rcases hin i with ⟨j,h⟩ | h | h
  ·exact hσ i j h g hg
  ·rw [hfree i h] at hg;cases hg
  ·rw [h];exact hg
 have hlive:∀i b,Az (E9 (Bb σ++τ1) st1++Cs (σ.map (·.1))++st) i b ->
   (∃j b1,Az st1 j b1/\(b=Tv (Ec (Bb σ++τ1)) b1/\i=Ec (Bb σ++τ1) j)/\∀g,ν i=some g↔μ' j=some g)\/((∀j,lk σ i≠some j)/\Az st i b/\ν i=μ i):=by
  intro i b hl;rw [CE] at hl;rcases KS hl with ⟨j,b1,h1,h2,h3⟩ | h
  ·refine .inl ⟨j,b1,h1,⟨h3,h2⟩,λg=>?_⟩;rw [h2,hν];simp only [QS hn.now (Ez h1).1]
  ·obtain ⟨h1,h2⟩:=Lj h;have h3:∀j,lk σ i≠some j:=λj hj=>h1 (Cc.2 ⟨(i,j),PX hj,rfl⟩);refine .inr ⟨h3,h2,?_⟩;rcases hin i with ⟨j,h⟩ | h | h
   ·exact absurd h (h3 j)
   ·obtain ⟨g,hg,_⟩:=hst.blk i b h2;rw [hfree i h] at hg;cases hg
   ·exact h
 have hframe:∀i b g k,(∀j,lk σ i≠some j)->Az st i b->μ i=some g->Eb g k->¬Bg (GT σ μ) st0 k:=by
  rintro i b g k h1 h2 h3 h4 ⟨j,bj,gj,h5,h6,h7⟩;obtain ⟨a,ba,q1,q2,q3,_⟩:=HA hb j bj h5;simp only [GT,q1] at h6;have:=hst.inj i a b ba g gj k h2 q3 h3 h6 h4 h7;subst this;exact h1 j q2
 have hext:Ext I μ st w I' ν (E9 (Bb σ++τ1) st1++Cs (σ.map (·.1))++st) w':=by
  refine { imm:=he.imm,os:=he.os,tape:=he.tape,output:=he.output,size:=he.size,block:=λb hb' ho=>he.block b hb' (λh=>ho (hsub b h)),fresh:=λb hb' ho=>?_,old:=λb hb' ho=>he.old b hb' (λh=>ho (hsub b h)) };obtain ⟨i,bi,g,h1,h2,h3⟩:=ho;rcases hlive i bi h1 with ⟨j,b1,q1,_,q3⟩ | ⟨_,q2,q3⟩
  ·exact hsub b (he.fresh b hb' ⟨j,b1,g,q1,(q3 g).1 h2,h3⟩)
  ·exact ⟨i,bi,g,q2,by rw [<- q3];exact h2,h3⟩
 refine ⟨ν,?_,hu.ren (hν1 hn.res),hle,hext⟩;refine { imm:=hst'.imm,blk:=λi b h=>?_,apart:=λi b g k h hg hk=>?_,inj:=λi j bi bj gi gj k hi hj hgi hgj hki hkj=>?_,nodup:=(Hc.1 hst.nodup).2.1,idsFree:=λi hi=>?_ }
 ·rcases hlive i b h with ⟨j,b1,q1,q2,q3⟩ | ⟨q1,q2,q3⟩
  ·obtain ⟨g,hg,hr⟩:=hst'.blk j b1 q1;exact ⟨g,(q3 g).2 hg,by rw [q2.1];exact hr.ren λk hk=>hν1 hn.now k ((Ez q1).2 k hk)⟩
  ·obtain ⟨g,hg,hr⟩:=hst.blk i b q2;refine ⟨g,by rw [q3];exact hg,(hr.mono he.imm hle).world λk hk=>?_⟩;exact he.block k (hst.apart i b g k q2 hg hk).2 (hframe i b g k q1 q2 hg hk)
 ·rcases hlive i b h with ⟨j,b1,q1,q2,q3⟩ | ⟨q1,q2,q3⟩
  ·exact hst'.apart j b1 g k q1 ((q3 g).1 hg) hk
  ·rw [q3] at hg;obtain ⟨h1,h2⟩:=hst.apart i b g k q2 hg hk;exact ⟨by rw [he.old k h2 (hframe i b g k q1 q2 hg hk)];exact h1,XH h2 he.size⟩
 ·rcases hlive i bi hi with ⟨i1,b1,q1,q2,q3⟩ | ⟨q1,q2,q3⟩ <;> rcases hlive j bj hj with ⟨j1,b2,p1,p2,p3⟩ | ⟨p1,p2,p3⟩
  ·have:=hst'.inj i1 j1 b1 b2 gi gj k q1 p1 ((q3 gi).1 hgi) ((p3 gj).1 hgj) hki hkj;subst this;rw [q2.2,p2.2]
  ·rw [p3] at hgj;have hk:=(hst.apart j bj gj k p2 hgj hkj).2;exact absurd (he.fresh k hk ⟨i1,b1,gi,q1,(q3 gi).1 hgi,hki⟩) (hframe j bj gj k p1 p2 hgj hkj)
  ·rw [q3] at hgi;have hk:=(hst.apart i bi gi k q2 hgi hki).2;exact absurd (he.fresh k hk ⟨j1,b2,gj,p1,(p3 gj).1 hgj,hkj⟩) (hframe i bi gi k q1 q2 hgi hki)
  ·rw [q3] at hgi;rw [p3] at hgj;exact hst.inj i j bi bj gi gj k q2 p2 hgi hgj hki hkj
 ·rcases hin i with ⟨j,h⟩ | h | h
  ·obtain ⟨_,g,hg⟩:=hgiven i j h;rw [hst.idsFree i (by simp [hi])] at hg;cases hg
  ·exact absurd rfl ((Hc.1 hst.nodup).2.2 i h i hi)
  ·rw [h];exact hst.idsFree i (by simp [hi])
end
end Go.Hk
namespace Go.Hk
def HL (cx:Prop) (env:Env):List Operand->Option (List D×List Prop)
 | []=>some ([],[])
 | x::r=>match DT env x,HL cx env r with
  | some (.guard c w d),some (ds,o)=>some (d::ds,(cx->c=w)::o)
  | some d,some (ds,o)=>some (d::ds,o)
  | _,_=>none
def Bh:List DI->List Nat×List Nat->Option (List Oper×Oper×List DI)
 | .ops all (o::r)::k,_=>some (all,o,.ops all r::k)
 | .dops all (o::r) fs::k,f=>some (all,o,.dops all r (f::fs)::k)
 | _,_=>none
def BB (n:Nat):Option Nat->Bool
 | some t=>Nat.blt t n
 | none=>true
def Am:Option (Bool×Bool)->Prop
 | none=>True
 | some (c,w)=>c=w
def gD:Option (Bool×Bool)->D->D
 | none,d=>d
 | some (c,w),d=>.guard c w d
def Ca (all:List Oper) (env:Env) (o:Oper):Option (Option (Bool×Bool)) :=
 match o.guard with
 | none=>some none
 | some (j,w)=>match Lp all j with
  | some { dst:=some g,.. }=>match wP (lk env g) w with
   | some c=>some (some (c,w))
   | none=>none
  | _=>none
structure aW where
 f:FuncId
 vs:List V
 g:Option (Bool×Bool)
 ob:List Prop
 dst:Option Nat
 todo:List DI
def Z8 (n:Nat) (env:Env) (todo:List DI):Option aW :=
 match Bh todo ([],[]) with
 | some (all,o,todo')=>match o.op,Ca all env o with
  | .call { callee:=.value (.func f),args:=⟨args⟩,.. },some g=>match HL (Am g) env args with
   | some (ds,ob)=>match KP ds,BB n o.dst with
    | some vs,true=>match o.dst with
     | some t=>some ⟨f,vs,g,ob,some t,todo'⟩
     | none=>some ⟨f,vs,g,ob,none,todo'⟩
    | _,_=>none
   | none=>none
  | .call { callee:=.value (.tmp t),args:=⟨args⟩,.. },some g=>match lk env t,HL (Am g) env args with
   | some (.imm (.fn (.func f))),some (ds,ob)=>match KP ds,BB n o.dst with
    | some vs,true=>match o.dst with
     | some t=>some ⟨f,vs,g,ob,some t,todo'⟩
     | none=>some ⟨f,vs,g,ob,none,todo'⟩
    | _,_=>none
   | _,_=>none
  | _,_=>none
 | none=>none
section
variable {P:Program} {n:Nat} {F:List Nat} {Q:DQ} {tt:TT} {env env':Env} {st st':St} {ids ids':List Nat} {k todo todo':List DI} {cx:Prop} {d:D} {ob ob':List Prop} {Pn:V->Prop}
 {I:Imm} {μ:Mu} {w:World} {a:Act}
theorem RepV.fnInv {v:Value} {f:Fn} (h:RepV I v (.fn f)):v = .func f #[] #[]:=by cases h;rfl
theorem Gd (hc:cx):∀{args:List Operand} {ds:List D} {ob:List Prop},HL cx env args=some (ds,ob)->AB ob->(∀x∈args,∀d,DT env x=some d->RepD I μ (a.eval x) d) ->
  RepL I μ (args.map a.eval) ds
 | [],ds,ob,h,_,_=>by cases h;exact .nil
 | x::r,ds,ob,h,hob,hx=>by
  have hr:∀y∈r,∀d,DT env y=some d->RepD I μ (a.eval y) d:=λy hy=>hx y (by simp [hy]);simp only [HL] at h
  split at h
  ·rename_i c w0 d ds' o' h1 h2;cases h;exact .mk ((hx x (by simp) _ h1).guardInv (hob.1 hc)) (Gd hc h2 hob.2 hr)
  ·rename_i d ds' o' _ h1 h2;cases h;exact .mk (hx x (by simp) _ h1) (Gd hc h2 hob hr)
  ·cases h
theorem ER:∀{vs:List Value} {ds:List D} {xs:List V},Fm ds=some xs->RepL I μ vs ds->RepVL I vs xs
 | [],ds,xs,h,hr=>by
  cases ds with
  | nil=>cases h;exact .nil
  | cons d ds=>simp [RepL] at hr
 | v::vs,ds,xs,h,hr=>by
  cases ds with
  | nil=>simp [RepL] at hr
  | cons d ds =>
   obtain ⟨h1,h2⟩:=hr.cons;cases d <;> simp only [Fm,reduceCtorEq] at h
   ·split at h
    ·cases h;exact .mk h1.immInv (ER (by assumption) h2)
    ·cases h
   ·split at h
    ·cases h;cases h1;exact .mk .slnil (ER (by assumption) h2)
    ·cases h
theorem RepD.ipV {v:Value} {t:TypeId} {cs:List V} {off:Nat} (h:RepD I μ v (.ip t cs off)):RepV I v (.ip t cs off):=by
 cases h with
 | ip b o _ _ _ vs h1 h2=>exact .ip b o t cs off vs h1 h2
theorem RepV.ipD {v:Value} {t:TypeId} {cs:List V} {off:Nat} (h:RepV I v (.ip t cs off)):RepD I μ v (.ip t cs off):=by
 cases h with
 | ip b o _ _ _ vs h1 h2=>exact .ip b o t cs off vs h1 h2
theorem gK {v:Value} {x:V} (h:tB d=some x) (hr:RepD I μ v d):RepV I v x:=by
 unfold tB at h
 split at h
 ·cases h;exact hr.immInv
 ·cases h;cases hr;exact .slnil
 ·split at h
  ·rename_i xs hx;cases h;obtain ⟨cs,rfl,h1,h2⟩:=hr.aggDInv;have:=ER hx h1;exact .agg cs xs (by have:=this.1;simpa using this) h2 λi c x hc hx=>this.2 i c x (by simpa using hc) hx
  ·cases h
 ·cases h;exact hr.ipV
 ·cases h
theorem Iu:∀{vs:List Value} {ds:List D} {xs:List V},KN ds=some xs->RepL I μ vs ds->RepVL I vs xs
 | [],[],xs,h,hr=>by
  simp only [KN,BT] at h;subst h;exact ⟨rfl,λi v x h=>by simp at h⟩
 | v::vs,d::ds,xs,h,hr=>by
  simp only [KN] at h
  split at h
  ·rename_i x xs' h1 h2;cases h;have ih:=Iu (vs:=vs) h2 ⟨by simpa using hr.1,λi v d p q=>hr.2 (i+1) v d (by simpa using p) (by simpa using q)⟩;refine ⟨by simp [ih.1],λi u y p q=>?_⟩;cases i with
   | zero=>simp at p q;rw [<- p,<- q];exact gK h1 (hr.2 0 v d rfl rfl)
   | succ i=>exact ih.2 i u y (by simpa using p) (by simpa using q)
  ·cases h
 | [],_::_,_,_,hr=>by have:=hr.1;simp at this
 | _::_,[],_,_,hr=>by have:=hr.1;simp at this
theorem OC {v:Value} {x:V} (h:oN d=some x) (hr:RepD I μ v d):RepV I v x:=by
 unfold oN at h
 split at h
 ·cases h;exact hr.immInv
 ·cases h;cases hr;exact .slnil
 ·split at h
  ·rename_i xs hx;cases h;obtain ⟨cs,rfl,h1,h2⟩:=hr.aggDInv;have:=ER hx h1;exact .agg cs xs (by have:=this.1;simpa using this) h2 λi c x hc hx=>this.2 i c x (by simpa using hc) hx
  ·cases h
 ·split at h
  ·rename_i ds _ xs hx;cases h;generalize hd:D.tup ds=d' at hr;cases hr <;> cases hd;rename_i cs hl h;have:=Iu (vs:=cs.toList) hx ⟨by simpa using hl,λi c x hc hx=>h i c x (by simpa using hc) hx⟩;exact .tup cs xs (by have:=this.1;simpa using this) λi c x hc hx=>this.2 i c x (by simpa using hc) hx
  ·cases h
 ·cases h;exact hr.ipV
 ·cases h;cases hr;assumption
 ·split at h
  ·rename_i xs ys hx hy;cases h;cases hr with
   | fn g first cap df dc hf hc h1 h2 =>
    have q1:=Iu (vs:=first.toList) hx ⟨by simpa using hf,λi v d e1 e2=>h1 i v d (by simpa using e1) e2⟩;have q2:=Iu (vs:=cap.toList) hy ⟨by simpa using hc,λi v d e1 e2=>h2 i v d (by simpa using e1) e2⟩;exact .clo _ first cap xs ys (by simpa using q1.1) (by simpa using q2.1) (λi c x h1 h2=>q1.2 i c x (by simpa using h1) h2) (λi c x h1 h2=>q2.2 i c x (by simpa using h1) h2)
  ·cases h
 ·cases h
theorem UD:∀{vs:List Value} {ds:List D} {xs:List V},KP ds=some xs->RepL I μ vs ds->RepVL I vs xs
 | [],ds,xs,h,hr=>by
  cases ds with
  | nil=>cases h;exact .nil
  | cons d ds=>simp [RepL] at hr
 | v::vs,ds,xs,h,hr=>by
  cases ds with
  | nil=>simp [RepL] at hr
  | cons d ds =>
   obtain ⟨h1,h2⟩:=hr.cons;simp only [KP] at h
   split at h
   ·cases h;exact .mk (OC (by assumption) h1) (UD (by assumption) h2)
   ·cases h
theorem HV {f:List Nat×List Nat} {all:List Oper} {o:Oper} (h:Bh todo f=some (all,o,todo')) :
  (∃r k,todo = .ops all (o::r)::k/\todo' = .ops all r::k)\/∃r fs k,todo = .dops all (o::r) fs::k/\todo' = .dops all r (f::fs)::k:=by
 unfold Bh at h
 split at h
 ·cases h;exact .inl ⟨_,_,rfl,rfl⟩
 ·cases h;exact .inr ⟨_,_,_,rfl,rfl⟩
 ·cases h
theorem B9 {rd fr:List Nat} {wr:St} {all:List Oper} {o:Oper} (h1:Bh todo (rd,wr.map (·.1))=some (all,o,todo')) (hl:LD P (Kn Q) all o env st rd fr wr d) (hn:BB n o.dst=true)
  (hnd:∀c,o.op ≠ .defer c) (h:G P n F Q todo' (BD o.dst d env) (wr++st) ids'):G P n F Q todo env st (fr++ids'):=by
 have hn':∀t,o.dst=some t->t<n:=λt ht=>by
  unfold BB at hn;rw [ht] at hn;simpa [Ha] using hn
 rcases HV h1 with ⟨r,k,rfl,rfl⟩ | ⟨r,fs,k,rfl,rfl⟩
 ·exact wN hl hn' hnd h
 ·simp only [G,Yi] at h ⊢;exact Uo hl hn' hnd h
def E7 (P:Program) (o:Oper) (env:Env) (f:FuncId) (das:List D) (cx:Prop):Prop :=
 ∀I μ a w,D6 I μ env a o.op->cx->∃xs:Array Value,RepL I μ xs.toList das/\(execOp a.eval o).run P w=(callFunc f xs).run P w
theorem F1 {o:Oper} {f:FuncId} {args:List Operand} {ts:Array TypeId} {ds:List D} (ho:o.op = .call { callee:=.value (.func f),args:=⟨args⟩,argTypes:=ts }) (ha:HL cx env args=some (ds,ob)) (hob:AB ob) :
  E7 P o env f ds cx:=by
 intro I μ a w hop hc;rw [ho] at hop;refine ⟨(args.map a.eval).toArray,by simpa using Gd hc ha hob λx hx=>hop x (by simp [Op.operands,Call.operands,hx]),?_⟩;simp only [execOp,ho,resolve,Act.eval,Deferred.ofValue,Sem.run_bind,Sem.run_pure,Result.andThen_ok,invoke];congr 2;simp
theorem EQ {o:Oper} {t:Nat} {f:FuncId} {args:List Operand} {ts:Array TypeId} {ds:List D} (ho:o.op = .call { callee:=.value (.tmp t),args:=⟨args⟩,argTypes:=ts }) (ht:lk env t=some (.imm (.fn (.func f))))
  (ha:HL cx env args=some (ds,ob)) (hob:AB ob):E7 P o env f ds cx:=by
 intro I μ a w hop hc;rw [ho] at hop;refine ⟨(args.map a.eval).toArray,by simpa using Gd hc ha hob λx hx=>hop x (by simp [Op.operands,Call.operands,hx]),?_⟩;have hv:a.eval (.tmp t) = .func (.func f) #[] #[]:=(hop (.tmp t) (by simp [Op.operands,Call.operands]) _ ht).immInv.fnInv;simp only [execOp,ho,resolve,hv,Deferred.ofValue,Sem.run_bind,Sem.run_pure,Result.andThen_ok,invoke];congr 2;simp
theorem HM {o:Oper} {t:Nat} {f:FuncId} {args:List Operand} {ts:Array TypeId} {ds df dc:List D} (ho:o.op = .call { callee:=.value (.tmp t),args:=⟨args⟩,argTypes:=ts }) (ht:lk env t=some (.fn (.func f) df dc))
  (ha:HL cx env args=some (ds,ob)) (hob:AB ob):E7 P o env f (df++ds++dc) cx:=by
 intro I μ a w hop hc;rw [ho] at hop;have hd:=Gd (I:=I) (μ:=μ) (a:=a) hc ha hob λx hx=>hop x (by simp [Op.operands,Call.operands,hx]);have hf:=hop (.tmp t) (by simp [Op.operands,Call.operands]) _ ht;generalize hv:a.eval (.tmp t)=v at hf;cases hf with
 | fn _ first cap _ _ h1 h2 h3 h4 =>
  refine ⟨first++(args.map a.eval).toArray++cap,?_,?_⟩
  ·simp only [Ju];refine RepL.append (RepL.append ⟨by simpa using h1,λi v d hv hd=>h3 i v d (by simpa using hv) hd⟩ hd) ⟨by simpa using h2,λi v d hv hd=>h4 i v d (by simpa using hv) hd⟩
  ·simp only [execOp,ho,resolve,hv,Deferred.ofValue,Sem.run_bind,Sem.run_pure,Result.andThen_ok,invoke];congr 3;simp
theorem Ft {all:List Oper} {o:Oper} {g:Option (Bool×Bool)} (hg:Ca all env o=some g) (hon:∀t∈o.looksAt all.toArray,∀d,lk env t=some d->RepD I μ (a.tmps.getD t undef) d) :
  Region.wanted o (yielded all.toArray a.tmps)=true↔Am g:=by
 unfold Ca at hg
 split at hg
 ·rename_i hgd;cases hg;simp [Am,AG hgd]
 ·rename_i j w0 hgd
  split at hg
  ·rename_i gs _ _ _ _ _ hj
   split at hg
   ·rename_i c hl;cases hg;rw [FJ] at hj;exact QK hgd hj rfl hl hon
   ·cases hg
  ·cases hg
theorem OK {all:List Oper} {o:Oper} {f:FuncId} {das:List D} {vs:List V} {v:V} {g:Option (Bool×Bool)} (hg:Ca all env o=some g) (hc:E7 P o env f das (Am g)) (hv:KP das=some vs)
  (hE:Am g->Al P f vs v):LD P Pn all o env st [] [] [] (gD g (.imm v)):=by
 have key:∀I μ st1 ids1 a w,StRep I μ st1 ids1 w->D6 I μ env a o.op->Am g->valX P ((execOp a.eval o).run P w) (λu w'=>∃I' μ',StRep I' μ' st1 ids1 w'/\RepD I' μ' u (gD g (.imm v))/\μ.le μ'/\Ext I μ st1 w I' μ' st1 w') (Ko Pn I μ st1 w):=by
  intro I μ st1 ids1 a w hst hop hcx;obtain ⟨xs,h1,h2⟩:=hc I μ a w hop hcx;have hx:=UD hv h1;obtain ⟨q1,q2,q3⟩:=FP (σ:=[]) (st0:=[]) hst trivial (das:=vs.map .imm) (by
   have:∀vs:List V,HU (vs.map .imm)=[]:=λvs=>by induction vs with
    | nil=>rfl
    | cons x r ih=>simp [HU,IT,ih]
   rw [this];rfl) hx.imm
  have hren:Fp (Ec []) (vs.map .imm)=vs.map .imm:=by
   rw [FR];simp [Jh]
  rw [hren] at q2;rw [h2];refine (hE hcx I _ w xs q1 q2).mono (λu w' hu=>?_) (λ_ _ h=>h.elim);obtain ⟨I',μ',r1,r2,r3,r4⟩:=hu;obtain ⟨ν,s1,s2,s3,s4⟩:=Kj (fr:=[]) (ids':=ids1) (σ:=[]) (τ1:=[]) (das:=[]) (st0:=[]) hst trivial ⟨rfl,rfl,λ_ h=>by simp at h,rfl,rfl,λ_ h=>by simp at h⟩ r1 r2 r3 r4 q3;refine ⟨I',ν,s1,?_,s3,s4⟩;cases g with
  | none=>exact s2
  | some p=>exact .guard _ _ _ _ (λ_=>s2) (λhn=>absurd hcx hn)
 intro I μ st1 ids1 a w _ hst hon;have hwant:=Ft hg hon;refine ⟨λhw=>key I μ st1 ids1 a w hst (Bd hon) (hwant.1 hw),λhw=>⟨rfl,rfl,?_⟩⟩;cases g with
 | none=>rw [hwant.2 trivial] at hw;cases hw
 | some p=>exact .guard _ _ _ _ (λhc=>by rw [hwant.2 hc] at hw;cases hw) (λ_=>rfl)
theorem Aj {f:FuncId} {vs:List V} {g:Option (Bool×Bool)} {ob:List Prop} {dst:Option Nat} {todo':List DI} {v:V} (h:Z8 n env todo=some ⟨f,vs,g,ob,dst,todo'⟩) (hE:Am g->Al P f vs v) (hob:AB ob)
  (hk:G P n F Q todo' (BD dst (gD g (.imm v)) env) st ids):G P n F Q todo env st ids:=by
 unfold Z8 at h;have fin:∀{all:List Oper} {o:Oper} {todo1:List DI} {x:aW},(match o.dst with
   | some t=>some (⟨x.f,x.vs,x.g,x.ob,some t,todo1⟩:aW)
   | none=>some ⟨x.f,x.vs,x.g,x.ob,none,todo1⟩)=some ⟨f,vs,g,ob,dst,todo'⟩->x.f=f/\x.vs=vs/\x.g=g/\x.ob=ob/\o.dst=dst/\todo1=todo':=by
  intro all o todo1 x hx
  split at hx <;> (rename_i hd;cases hx;exact ⟨rfl,rfl,rfl,rfl,hd,rfl⟩)
 split at h
 ·rename_i all o todo1 h1;have hnd:∀cc,o.op = .call cc->∀c,o.op ≠ .defer c:=λcc h c h'=>by rw [h] at h';cases h'
  split at h
  ·rename_i f args ts g ho hg
   split at h
   ·rename_i ds ob ha
    split at h
    ·rename_i vs hv hd;obtain ⟨e1,e2,e3,e4,e5,e6⟩:=fin (all:=all) (x:=⟨f,vs,g,ob,none,todo1⟩) h
     dsimp only at e1 e2 e3 e4
     subst e1;subst e2;subst e3;subst e4;subst e5;subst e6;exact B9 (fr:=[]) (wr:=[]) h1 (OK hg (F1 ho ha hob) hv hE) hd (hnd _ ho) hk
    ·cases h
   ·cases h
  ·rename_i t args ts g ho hg
   split at h
   ·rename_i f ds ob ht ha
    split at h
    ·rename_i vs hv hd;obtain ⟨e1,e2,e3,e4,e5,e6⟩:=fin (all:=all) (x:=⟨f,vs,g,ob,none,todo1⟩) h
     dsimp only at e1 e2 e3 e4
     subst e1;subst e2;subst e3;subst e4;subst e5;subst e6;exact B9 (fr:=[]) (wr:=[]) h1 (OK hg (EQ ho ht ha hob) hv hE) hd (hnd _ ho) hk
    ·cases h
   ·cases h
  ·cases h
 ·cases h
theorem Bz {f:FuncId} {vs:List V} {g:Option (Bool×Bool)} {ob:List Prop} {dst:Option Nat} {todo':List DI} {v:V} (h:Z8 n env todo=some ⟨f,vs,g,ob,dst,todo'⟩) (hE:Al P f vs v)
  (hk:G P n F Q todo' (BD dst (gD g (.imm v)) env) st ids) (hob:AB ob:=by simp [Am]):G P n F Q todo env st ids:=Aj h (λ_=>hE) hob hk
theorem Af {f:FuncId} {vs:List V} {g:Option (Bool×Bool)} {ob:List Prop} {dst:Option Nat} {todo':List DI} {v:V} (h:Z8 n env todo=some ⟨f,vs,g,ob,dst,todo'⟩) (hE:Al P f vs v)
  (hk:G P n F Q todo' (BD dst (gD g (.imm v)) env) st ids) (hob:AB ob:=by simp):G P n F Q todo env st ids:=Aj h (λ_=>hE) hob hk
end
end Go.Hk
namespace Go.Hk
def TQ (tt:TT) (st:St) (ty:TypeId):D->Option D
 | .ref id off=>match lk tt ty,lk st id with
  | some i,some (some (.immb _ sz xs))=>LQ i (Nat.beq sz i.size) xs off
  | some i,some (some (.cells _ sz cs))=>He i (Nat.beq sz i.size) cs off
  | _,_=>none
 | _=>none
def jF:D->Bool
 | .guard ..=>false
 | _=>true
def Ot (tt:TT) (env:Env) (st:St):List ResultVar->Option (List D)
 | []=>some []
 | .tmp t::r=>match lk env t,Ot tt env st r with
  | some d,some ds=>match jF d with
   | true=>some (d::ds)
   | false=>none
  | _,_=>none
 | .cell t ty::r=>match lk env t,Ot tt env st r with
  | some a,some ds=>match TQ tt st ty a with
   | some d=>some (d::ds)
   | none=>none
  | _,_=>none
def Hw:List D->D
 | [d]=>d
 | ds=>.tup ds
def MA (d:D):D->Prop
 | .imm v=>oN d=some v
 | d'=>d=d'
def HQ (st:St):St->Prop
 | []=>True
 | (i,some b)::r=>lk st i=some (some b)/\HQ st r
 | (_,none)::_=>False
def Kv (tt:TT) (rs:List ResultVar) (out:Out):DQ:=λx env st _=>match x,out with
 | .ret,.ret d st'=>∃ds,Ot tt env st rs=some ds/\MA (Hw ds) d/\HQ st st'
 | .norm,.ret d st'=>∃ds,Ot tt env st rs=some ds/\MA (Hw ds) d/\HQ st st'
 | .panic x,.pan y=>x=y
 | _,_=>False
def Ll:Nat->List D->Env
 | _,[]=>[]
 | i,d::r=>(i,d)::Ll (i+1) r
section
variable {P:Program} {tt:TT} {env:Env} {st st':St} {ids:List Nat} {I:Imm} {μ:Mu} {w:World} {d:D}
theorem ES:∀{st':St},HQ st st'->∀i b,Az st' i b->Az st i b
 | [],_,i,b,h=>by simp [Az,lk] at h
 | (k,none)::r,h,_,_,_=>h.elim
 | (k,some x)::r,h,i,b,hl=>by
  by_cases hk:k=i
  ·subst hk;unfold Az at hl;rw [Ay] at hl;cases hl;exact h.1
  ·refine ES h.2 i b ?_;unfold Az at hl ⊢;rwa [A5 _ _ hk] at hl
theorem StRep.less (hs:StRep I μ st ids w) (h:∀i b,Az st' i b->Az st i b) {ids':List Nat} (hn:ids'.Nodup) (hi:∀i∈ids',μ i=none):StRep I μ st' ids' w :=
 {imm:=hs.imm,blk:=λid blk hl=>hs.blk id blk (h _ _ hl),apart:=λid blk g b hl=>hs.apart id blk g b (h _ _ hl),
  inj:=λi j bi bj gi gj b hi hj=>hs.inj i j bi bj gi gj b (h _ _ hi) (h _ _ hj),nodup:=hn,idsFree:=hi }
theorem Yj (htt:TTok P tt) (hst:StRep I μ st ids w) {ty:TypeId} {v:Value} {da:D} (hv:RepD I μ v da) (h:TQ tt st ty da=some d) :
  ∃b u,v = .pointer (some b)/\(loadVar ty b).run P w = .ok u w/\RepD I μ u d:=by
 unfold TQ at h
 split at h
 ·rename_i id off;obtain ⟨b,e1,e2⟩:=hv.refInv;have conv:∀{u:Value},(Instr.loadAt ty (.pointer (some ⟨b,off,none⟩))).run P w = .ok u w->(loadVar ty ⟨b,off,none⟩).run P w = .ok u w:=λh=>by
   simpa [Instr.loadAt,Instr.sureAddr] using h
  split at h
  ·rename_i i bt sz xs hi hl;obtain ⟨g,hg,hlen,b',vs,hg2,hheap,hrep,hone⟩:=hst.blk id _ hl;rw [e2] at hg;cases hg;cases hg2;obtain ⟨u,h1,h2⟩:=LP (P:=P) (w:=w) (I:=I) (μ:=μ) (htt ty i hi) (b:=b) (o:=0) (off:=off) (xs:=xs) (vs:=λj=>vs.toList.getD j undef) (same:=Nat.beq sz i.size)
    (λj x hj=>by
     have hlt:j<xs.length:=(AJ.1 hj).1;have hv:vs.toList[j]?=some (vs.toList[j]'(by rw [hrep.1];exact hlt)):=Bi _;rw [Di];have e:vs.toList.getD j undef=vs.toList[j]'(by rw [hrep.1];exact hlt):=by simp [List.getD,hv]
     rw [e];exact ⟨E5 hheap j _ hv,hone _ (HZ _)⟩)
    (λj x hj=>by
     have hlt:j<xs.length:=(AJ.1 hj).1;have hv:vs.toList[j]?=some (vs.toList[j]'(by rw [hrep.1];exact hlt)):=Bi _;have e:vs.toList.getD j undef=vs.toList[j]'(by rw [hrep.1];exact hlt):=by simp [List.getD,hv]
     rw [e];exact hrep.2 j _ _ hv hj)
    (λ_ hs _=>by rw [hlen];exact Cx hs) h
   rw [Di] at h1;exact ⟨_,u,e1,conv h1,h2⟩
  ·rename_i i bt sz cs hi hl;obtain ⟨g,hg,hlen,b',vs,hg2,hheap,hrep,hone⟩:=hst.blk id _ hl;rw [e2] at hg;cases hg;cases hg2;obtain ⟨u,h1,h2⟩:=V2 (P:=P) (w:=w) (I:=I) (μ:=μ) (htt ty i hi) (b:=b) (off:=off) (cs:=cs) (vs:=vs.toList) (same:=Nat.beq sz i.size)
    (λj v hj=>E5 hheap j v hj) hone hrep (λ_ hs _=>by rw [hlen];exact Cx hs) h
   exact ⟨_,u,e1,conv h1,h2⟩
  ·cases h
 ·cases h
theorem Xg (b:Addr):(asAddr (.pointer (some b))).run P w = .ok b w:=by simp [asAddr]
theorem Tt (htt:TTok P tt) (hst:StRep I μ st ids w) {tmps:Array Value} (he:∀t d,lk env t=some d->RepD I μ (tmps.getD t undef) d) {g:ResultVar->Sem Value} (g1:∀t,g (.tmp t)=pure (tmps.getD t undef))
  (g2:∀a t,g (.cell a t)=do loadVar t (<- asAddr (tmps.getD a undef))):∀{rs:List ResultVar} {ds:List D},Ot tt env st rs=some ds->∃vs,(rs.mapM g).run P w = .ok vs w/\RepL I μ vs ds
 | [],ds,h=>by cases h;exact ⟨[],by simp,.nil⟩
 | .tmp t::r,ds,h=>by
  simp only [Ot] at h
  split at h
  ·rename_i d ds' h1 h2
   split at h
   ·cases h;obtain ⟨vs,h3,h4⟩:=Tt htt hst he g1 g2 h2;exact ⟨_,by simp only [jS,g1,Sem.run_bind,Sem.run_pure,Result.andThen_ok,h3],.mk (he t d h1) h4⟩
   ·cases h
  ·cases h
 | .cell t ty::r,ds,h=>by
  simp only [Ot] at h
  split at h
  ·rename_i a ds' h1 h2
   split at h
   ·rename_i d hd;cases h;obtain ⟨vs,h3,h4⟩:=Tt htt hst he g1 g2 h2;obtain ⟨b,u,e1,e2,e3⟩:=Yj htt hst (he t a h1) hd;exact ⟨_,by simp only [jS,g2,Sem.run_bind,Sem.run_pure,Result.andThen_ok,h3,e1,Xg,e2],.mk e3 h4⟩
   ·cases h
  ·cases h
theorem Xr (htt:TTok P tt) (hst:StRep I μ st ids w) {tmps:Array Value} (he:∀t d,lk env t=some d->RepD I μ (tmps.getD t undef) d) {fn:Func} {ds:List D} (h:Ot tt env st fn.results.toList=some ds) :
  ∃vs:List Value,(results fn tmps).run P w = .ok (if h:vs.toArray.size=1 then vs.toArray[0] else .tuple vs.toArray) w/\RepL I μ vs ds:=by
 have hm:∀(f:ResultVar->Sem Value) (vs:List Value),(fn.results.toList.mapM f).run P w = .ok vs w->(fn.results.mapM f).run P w = .ok vs.toArray w:=λf vs hf=>by
  rw [Array.mapM_eq_mapM_toList];change Sem.run P (List.mapM f fn.results.toList >>= λl=>pure l.toArray) w=_;simp only [Sem.run_bind,hf,Sem.run_pure,Result.andThen_ok]
 refine Exists.imp (λvs hv=>⟨?_,hv.2⟩) (Tt (g:=fun | .tmp t=>pure (tmps.getD t undef) | .cell a t=>do loadVar t (<- asAddr (tmps.getD a undef))) htt hst he (λ_=>rfl) (λ_ _=>rfl) h);have q:=hm _ vs hv.1;unfold results;simp only [Sem.run_bind];exact Eq.trans (congrArg (Result.andThen · (λvs w=>Sem.run P (pure (if h:vs.size=1 then vs[0] else .tuple vs)) w)) q) (by simp)
theorem cD {vs:List Value} {ds:List D} (h:RepL I μ vs ds):RepD I μ (if h:vs.toArray.size=1 then vs.toArray[0] else .tuple vs.toArray) (Hw ds):=by
 have tup:RepD I μ (.tuple vs.toArray) (.tup ds):=.tup _ _ (by simpa using h.1) λi c x hc hx=>h.2 i c x (by simpa using hc) hx
 match vs,ds,h,tup with
 | [],[],_,tup=>simpa [Hw] using tup
 | [v],[d],h,_=>simpa [Hw] using h.2 0 v d rfl rfl
 | v::v'::r,d::d'::s,_,tup=>simpa [Hw] using tup
 | [],_::_,h,_=>simp [RepL] at h
 | _::_,[],h,_=>simp [RepL] at h
 | [_],_::_::_,h,_=>simp [RepL] at h
 | _::_::_,[_],h,_=>simp [RepL] at h
theorem Pf {v:Value} {d':D} (h:MA d d') (hr:RepD I μ v d):RepD I μ v d':=by
 cases d' with
 | imm x=>exact .imm _ _ (OC h hr)
 | _=>(have h:d=_:=h);rw [<- h];exact hr
theorem Bq {f : FuncId} {fn : Func} {c : Code} (hf : P.funcs[f]? = some fn) (hname : (fn.name == "runtime.NumGoroutine") = false) (hb : fn.body = some c) (xs : Array Value) :
  (callFunc f xs).run P w = .ok (.enter f xs) w:=by
 have hn : ¬ fn.name = "runtime.NumGoroutine" := by simpa using hname
 simp [callFunc,hf,hn,hb]
theorem Sq:∀{ds:List D} {i t:Nat} {d:D},lk (Ll i ds) t=some d->∃j,t=i+j/\ds[j]?=some d
 | [],i,t,d,h=>by simp [Ll,lk] at h
 | x::r,i,t,d,h=>by
  simp only [Ll] at h;by_cases hi:i=t
  ·subst hi;rw [Ay] at h;cases h;exact ⟨0,rfl,rfl⟩
  ·rw [A5 _ _ hi] at h;obtain ⟨j,h1,h2⟩:=Sq h;exact ⟨j+1,by omega,by simpa using h2⟩
def Oi:List Nat->List Nat->Bool
 | [],_=>true
 | x::r,l=>EH l x&&Oi r l
theorem EZ:∀{a b:List Nat},Oi a b=true->∀i∈a,i∈b
 | [],_,_,i,h=>by simp at h
 | x::r,b,h,i,hi=>by
  simp only [Oi,A1] at h;rcases CC.1 hi with rfl | hi
  ·exact BG.1 h.1
  ·exact EZ h.2 i hi
def Jk:List Nat->Bool
 | []=>true
 | x::r=>!EH r x&&Jk r
theorem Hz:∀{a:List Nat},Jk a=true->a.Nodup
 | [],_=>.nil
 | x::r,h=>by
  simp only [Jk,A1,Jv] at h;exact K4.2 ⟨λhm=>(by rw [BG.2 hm] at h;cases h.1),Hz h.2⟩
theorem RepL.sub {ν:Mu} {vs:List Value} {ds:List D} (h:RepL I μ vs ds) (hn:∀i∈HU ds,∀g,μ i=some g->ν i=some g):RepL I ν vs ds :=
 ⟨h.1,λi v d hv hd=>(h.2 i v d hv hd).sub λj hj=>hn j (I1 (AF hd) hj)⟩
theorem BlkRep.sub {ν:Mu} {g:Value} {blk:Blk} (h:BlkRep I μ w g blk) (hn:∀i∈TB blk,∀g,μ i=some g->ν i=some g):BlkRep I ν w g blk:=by
 cases blk with
 | immb t sz xs=>exact h
 | cells t sz cs =>
  obtain ⟨hs,b,vs,h1,h2,h3,h4⟩:=h;exact ⟨hs,b,vs,h1,h2,h3.sub hn,h4⟩
 | row t sz es=>exact h
 | map kv=>exact h
 | siter s pos=>exact h
 | pin=>exact h
 | bun id S =>
  obtain ⟨b,bs,h1,h2,h3⟩:=h;exact ⟨b,bs,hn id (by simp [TB]) _ h1,h2,h3⟩
 | hp A=>exact h
 | adr id b=>exact ⟨h.1,hn id (by simp [TB]) _ h.2⟩
 | mapx kv b es c=>exact h
 | miter b s z c=>exact h
def RetL (tt:TT) (rs:List ResultVar) (out:Out):DQ:=λx env st _=>match x,out with
 | .ret,.ret d st'=>∃ds,Ot tt env st rs=some ds/\MA (Hw ds) d/\∀i b,Az st' i b->Az st i b
 | .norm,.ret d st'=>∃ds,Ot tt env st rs=some ds/\MA (Hw ds) d/\∀i b,Az st' i b->Az st i b
 | .panic x,.pan y=>x=y
 | _,_=>False
theorem mR {f : FuncId} {fn : Func} {c : Code} {ds : List D} {st0 : St} {out : Out} (htt : TTok P tt) (hf : P.funcs[f]? = some fn) (hname : (fn.name == "runtime.NumGoroutine") = false) (hb : fn.body = some c)
  (ids:List Nat) (hsz:Nat.ble ds.length fn.ntmps=true) (hn1:ids.Nodup) (hn2:∀i∈ids,i∉DJ st0) (hn3:∀i∈HU ds,i∈DJ st0) (hn4:∀i∈Fj st0,i∈DJ st0)
  (h:DGo P fn.ntmps (DJ st0) (RetL tt fn.results.toList out) [.code c] (Ll 0 ds) st0 ids):AK P f ds st0 out:=by
 intro I μ w xs hst hx;rw [Bq hf hname hb];refine O9 hf hb λb cs hbf _ hbr=>?_;obtain ⟨ν,hν⟩:∃ν:Mu,ν=λi=>if EH (DJ st0) i=true then μ i else none:=⟨_,rfl⟩
 have hν1:∀i∈DJ st0,ν i=μ i:=λi hi=>by rw [hν];simp [BG.2 hi]
 have hlive:∀i b,Az st0 i b->i∈DJ st0:=by
  intro i b hl;have:∀{st0:St},Az st0 i b->i∈DJ st0:=by
   intro st0
   induction st0 with
   | nil=>intro h;simp [Az,lk] at h
   | cons p r ih =>
    obtain ⟨k,y⟩:=p;intro h;by_cases hk:k=i
    ·subst hk;simp [DJ]
    ·have:Az r i b:=by unfold Az at h ⊢;rwa [A5 _ _ hk] at h
     simp only [DJ,Cz,CC];exact .inr (ih this)
  exact this hl
 have hst1:StRep I ν st0 ids w:=by
  refine { imm:=hst.imm,blk:=λi b hl=>?_,apart:=λi bb g k hl hg hk=>hst.apart i bb g k hl (by rw [<- hν1 i (hlive i bb hl)];exact hg) hk,inj:=λi j bi bj gi gj k hi hj hgi hgj=>hst.inj i j bi bj gi gj k hi hj (by rw [<- hν1 i (hlive i bi hi)];exact hgi) (by rw [<- hν1 j (hlive j bj hj)];exact hgj),nodup:=hn1,idsFree:=λi hi=>?_ }
  ·obtain ⟨g,hg,hr⟩:=hst.blk i b hl;refine ⟨g,by rw [hν1 i (hlive i b hl)];exact hg,hr.sub λj hj g hgj=>?_⟩;rw [hν1 j (hn4 j ((Ez hl).2 j hj))];exact hgj
  ·rw [hν];have:=hn2 i hi;have hm:EH (DJ st0) i=false:=by
    cases h:EH (DJ st0) i with
    | false=>rfl
    | true=>exact absurd (BG.1 h) this
   simp [hm]
 have hx1:RepL I ν xs.toList ds:=hx.sub λj hj g hg=>by rw [hν1 j (hn3 j hj)];exact hg
 have hlen:xs.size=ds.length:=by have:=hx.1;simpa using this
 have hsz':ds.length<=fn.ntmps:=by simpa [Nat.ble_eq] using hsz
 have hc:Conc fn.ntmps I ν (Ll 0 ds) st0 ids { tmps:=xs++Array.replicate (fn.ntmps-xs.size) undef,defers:=[] } w :=
  {hst1 with
   size:=(by simp;omega)
   env:=λt d hl=>by
    obtain ⟨j,rfl,hd⟩:=Sq hl;have hj:j<ds.length:=(AJ.1 hd).1;have hjx:j<xs.size:=by omega
    have e:(xs++Array.replicate (fn.ntmps-xs.size) undef).getD (0+j) undef=xs[j]:=by
     rw [Di];simp [Array.getD,Array.getElem_append_left hjx];omega
    rw [e];exact hx1.2 j _ d (by simp [hjx]) hd
   defers:=MarksOk.nil _ _ _ _ }
 have hown:∀b,Bg ν st0 b↔Bg μ st0 b:=λb=>by
  constructor <;> rintro ⟨i,bi,g,h1,h2,h3⟩
  ·exact ⟨i,bi,g,h1,by rw [<- hν1 i (hlive i bi h1)];exact h2,h3⟩
  ·exact ⟨i,bi,g,h1,by rw [hν1 i (hlive i bi h1)];exact h2,h3⟩
 have hrun:=h ⟨b,.inr ⟨hbr,fn,by rw [hbf];exact hf⟩⟩ cs I ν { tmps:=xs++Array.replicate (fn.ntmps-xs.size) undef,defers:=[] } w [.code c] AI hc;refine hrun.mono λe a' w' hp=>?_;obtain ⟨x,env',st',ids',I',μ',p1,p2,p3,p4,p5',p6⟩:=hp;obtain ⟨rs,m1,m2,m3⟩:=p3.defers;have hrs:∀r∈rs,w.heap.size<=r:=λr hr=>by
  rcases p6 r (by rw [m1];exact Cc.2 ⟨r,hr,rfl⟩) with h | h
  ·simp at h
  ·exact h
 obtain ⟨w2,k1,k2,k3,k4,k5,k6⟩:=Sl (P:=P) rs w' m2 (λr hr=>(m3 r hr).1);have hS2:StRep I' μ' st' ids' w2 :=
  {imm:=λb o h=>by rw [k6 b (λhm=>by rw [(m3 b hm).2.1] at h;cases h)];exact p3.imm b o h
   blk:=λi b hl=>by
    obtain ⟨g,hg,hr⟩:=p3.blk i b hl;exact ⟨g,hg,hr.world λbb hbb=>k6 bb λhm=>(m3 bb hm).2.2 ⟨i,b,g,hl,hg,hbb⟩⟩
   apart:=λi b g bb hl hg hbb=>by rw [k5];exact p3.apart i b g bb hl hg hbb
   inj:=p3.inj
   nodup:=p3.nodup
   idsFree:=p3.idsFree }
 have p5:Ext I ν st0 w I' μ' st' w2 :=
  {imm:=p5'.imm,os:=k2.trans p5'.os,tape:=k3.trans p5'.tape,output:=k4.trans p5'.output,size:=by rw [k5];exact p5'.size
   block:=λb hb ho=>(k6 b λhm=>by have:=hrs b hm;omega).trans (p5'.block b hb ho),fresh:=p5'.fresh,old:=p5'.old }
 have fin:∀d st1,out = .ret d st1->(∃ds,Ot tt env' st' fn.results.toList=some ds/\MA (Hw ds) d/\∀i b,Az st1 i b->Az st' i b)->∃w'' v,SY P a'.defers w' w''/\(results fn a'.tmps).run P w'' = .ok v w'' /\
   (match (Ending.returned v) with
    | .returned v=>(match out with
     | .ret d st'=>∃I' μ',RepD I' μ' v d/\StRep I' μ' st' [] w''/\Pin (DJ st0) μ μ'/\Ext I μ st0 w I' μ' st' w''
     | .pan _=>False)
    | .panicked chain=>(match out with
     | .ret _ _=>False
     | .pan x=>Ko (· = x) I μ st0 w chain w'')
    | .outgrown=>False):=by
  rintro d st1 rfl ⟨ds',r1,r2,r3⟩;obtain ⟨vs,q1,q2⟩:=Xr htt hS2 p3.env r1;refine ⟨w2,_,by rw [m1];exact k1,q1,I',μ',Pf r2 (cD q2),hS2.less (r3) .nil (λ_ h=>by simp at h),λi hi g hg=>p4 i hi g (by rw [hν1 i hi];exact hg),?_⟩;exact { imm:=p5.imm,os:=p5.os,tape:=p5.tape,output:=p5.output,size:=p5.size,block:=λb hb ho=>p5.block b hb (λh=>ho ((hown b).1 h)),fresh:=λb hb ⟨i,bi,g,h1,h2⟩=>(hown b).1 (p5.fresh b hb ⟨i,bi,g,r3 i bi h1,h2⟩),old:=λb hb ho=>p5.old b hb (λh=>ho ((hown b).1 h)) }
 cases e with
 | normal =>
  cases x <;> simp only [Np] at p1;cases hout:out with
  | ret d st1=>subst hout;exact fin d st1 rfl p2
  | pan y=>subst hout;exact p2.elim
 | ret =>
  cases x <;> simp only [Np] at p1;cases hout:out with
  | ret d st1=>subst hout;exact fin d st1 rfl p2
  | pan y=>subst hout;exact p2.elim
 | panic chain =>
  cases x <;> simp only [Np] at p1;rename_i x;obtain ⟨v,rfl,hv⟩:=p1;cases hout:out with
  | ret d st1=>subst hout;exact p2.elim
  | pan y =>
   subst hout;have p2:x=y:=p2;subst p2;refine ⟨w2,by rw [m1];exact k1,v,x,I',rfl,rfl,hv,hS2.imm,?_⟩;exact { imm:=p5.imm,os:=p5.os,tape:=p5.tape,output:=p5.output,size:=p5.size,block:=λb hb ho=>p5.block b hb (λh=>ho ((hown b).1 h)),fresh:=λb hb ⟨i,bi,g,h1,h2⟩=>by simp [Az,lk] at h1,old:=λb hb ho=>p5.old b hb (λh=>ho ((hown b).1 h)) }
 | exit id =>
  cases x <;> simp only [Np] at p1;exact p2.elim
 | goto l =>
  cases x <;> simp only [Np] at p1;exact p2.elim
 | outgrown=>cases x <;> simp only [Np] at p1
theorem Ac {f : FuncId} {fn : Func} {c : Code} {ds : List D} {st0 : St} {out : Out} (htt : TTok P tt) (hf : P.funcs[f]? = some fn) (hname : (fn.name == "runtime.NumGoroutine") = false) (hb : fn.body = some c)
  (ids:List Nat) (hsz:Nat.ble ds.length fn.ntmps=true) (hn:(Jk ids&&Oa ids (DJ st0)&&Oi (HU ds) (DJ st0)&&Oi (Fj st0) (DJ st0))=true)
  (h:G P fn.ntmps (DJ st0) (Kv tt fn.results.toList out) [.code c] (Ll 0 ds) st0 ids):AK P f ds st0 out:=by
 simp only [A1] at hn;obtain ⟨⟨⟨hn1,hn2⟩,hn3⟩,hn4⟩:=hn;refine mR htt hf hname hb ids hsz (Hz hn1) (Kb.1 hn2) (EZ hn3) (EZ hn4) (h.go.mono λx env st ids hq=>?_);cases x <;> cases out <;> first
  | exact hq
  | exact hq.elim
  | exact ⟨hq.choose,hq.choose_spec.1,hq.choose_spec.2.1,λi b hl=>ES hq.choose_spec.2.2 i b hl⟩
end
end Go.Hk
namespace Go.Hk
mutual
def Fh:V->Prop
 | .sl es=>es.length<=maxLen/\Pc es
 | .agg cs=>CL cs
 | .tup cs=>CL cs
 | .iface _ x=>Fh x
 | _=>True
def CL:List V->Prop
 | []=>True
 | x::r=>Fh x/\CL r
def Pc:List (List V)->Prop
 | []=>True
 | e::r=>CL e/\Pc r
end
theorem IY:∀{l:List V},CL l↔∀x∈l,Fh x
 | []=>by simp [CL]
 | x::r=>by simp [CL,IY (l:=r)]
theorem RB:∀{l:List (List V)},Pc l↔∀e∈l,CL e
 | []=>by simp [Pc]
 | x::r=>by simp [Pc,RB (l:=r)]
def bN (env:Env):Env->Prop
 | []=>True
 | (t,d')::r=>(match lk env t with
  | some d=>MA d d'
  | none=>False)/\bN env r
def Zq:Blk->Blk->Prop
 | .cells t sz cs,.immb t' sz' xs=>t=t'/\sz=sz'/\Fm cs=some xs
 | .immb t sz xs,.cells t' sz' cs=>t=t'/\sz=sz'/\xs.map .imm=cs
 | b,b'=>b=b'
def gQ (st:St):St->Prop
 | []=>True
 | (i,some b')::r=>(match lk st i with
  | some (some b)=>Zq b b'
  | _=>False)/\gQ st r
 | (_,none)::_=>False
def SA (ids l:List Nat):List Nat->Bool
 | []=>true
 | i::r=>(EH ids i || !EH l i)&&SA ids l r
theorem Qq {ids l:List Nat}:∀{m:List Nat},SA ids l m=true->∀i∈m,i∈ids\/i∉l
 | [],_,i,h=>by simp at h
 | x::r,h,i,hi=>by
  simp only [SA,A1,Hd,Jv] at h;rcases CC.1 hi with rfl | hi
  ·exact h.1.imp (λh=>BG.1 h) λh hm=>by rw [BG.2 hm] at h;cases h
  ·exact Qq h.2 i hi
section
variable {P:Program} {n:Nat} {F:List Nat} {Q:DQ} {tt:TT} {env env':Env} {st st':St} {ids ids':List Nat} {k todo:List DI} {I:Imm} {μ:Mu} {w:World}
theorem RepV.ok {v:Value} {x:V} (h:RepV I v x):Fh x:=by
 induction h with
 | agg cs xs hl _ _ ih =>
  simp only [Fh,IY];intro x hx;obtain ⟨i,hi⟩:=D3.1 hx;have hlt:i<cs.size:=by rw [hl];exact (AJ.1 hi).1
  exact ih i cs[i] x (by simp [hlt]) hi
 | tup cs xs hl _ ih =>
  simp only [Fh,IY];intro x hx;obtain ⟨i,hi⟩:=D3.1 hx;have hlt:i<cs.size:=by rw [hl];exact (AJ.1 hi).1
  exact ih i cs[i] x (by simp [hlt]) hi
 | slnil=>simp [Fh,Pc]
 | sl0=>simp [Fh,Pc]
 | sl b o len cap sz es vs hl hc hm hsz hcell _ ih =>
  simp only [Fh,RB,IY];refine ⟨by omega,λe he x hx=>?_⟩;obtain ⟨i,hi⟩:=D3.1 he;obtain ⟨j,hj⟩:=D3.1 hx;exact ih i e j x hi hj
 | iface t v x _ ih=>exact ih
 | _=>trivial
theorem MB:∀{env':Env},bN env env'->∀t d',lk env' t=some d'->∃d,lk env t=some d/\MA d d'
 | [],_,t,d',h=>by simp [lk] at h
 | (s,x)::r,h,t,d',hl=>by
  by_cases hs:s=t
  ·subst hs;rw [Ay] at hl;cases hl;have h1:=h.1
   split at h1
   ·exact ⟨_,by assumption,h1⟩
   ·exact h1.elim
  ·rw [A5 _ _ hs] at hl;exact MB h.2 t d' hl
theorem MC:∀{st':St},gQ st st'->∀i b',Az st' i b'->∃b,Az st i b/\Zq b b'
 | [],_,i,b,h=>by simp [Az,lk] at h
 | (s,none)::r,h,_,_,_=>h.elim
 | (s,some x)::r,h,i,b',hl=>by
  by_cases hs:s=i
  ·subst hs;unfold Az at hl;rw [Ay] at hl;cases hl;have h1:=h.1
   split at h1
   ·exact ⟨_,by assumption,h1⟩
   ·exact h1.elim
  ·refine MC h.2 i b' ?_;unfold Az at hl ⊢;rwa [A5 _ _ hs] at hl
theorem bJ {g:Value} {b b':Blk} (h:Zq b b') (hr:BlkRep I μ w g b):BlkRep I μ w g b':=by
 unfold Zq at h
 split at h
 ·obtain ⟨rfl,rfl,h⟩:=h;obtain ⟨hs,bb,vs,h1,h2,h3,h4⟩:=hr;have:=ER h h3;exact ⟨by rw [<- hs,<- h3.1,this.1],bb,vs,h1,h2,this,h4⟩
 ·obtain ⟨rfl,rfl,rfl⟩:=h;obtain ⟨hs,bb,vs,h1,h2,h3,h4⟩:=hr;exact ⟨by simpa using hs,bb,vs,h1,h2,h3.imm,h4⟩
 ·subst h;exact hr
theorem IF (hE:bN env env') (hS:gQ st st') (hI:(Jk ids'&&SA ids (Vp env'++Fj st'++F) ids')=true) (h:DGo P n F Q todo env' st' ids'):DGo P n F Q todo env st ids:=by
 intro b cs I μ a w items hd hc;simp only [A1] at hI;obtain ⟨hI1,hI2⟩:=hI;obtain ⟨ν,hν⟩:∃ν:Mu,ν=λi=>if EH ids' i=true then none else μ i:=⟨_,rfl⟩
 have hno:∀i∈Vp env'++Fj st'++F,∀g,μ i=some g->ν i=some g:=by
  intro i hi g hg;rw [hν];have:EH ids' i=false:=by
   cases hm:EH ids' i with
   | false=>rfl
   | true =>
    rcases Qq hI2 i (BG.1 hm) with h | h
    ·rw [hc.idsFree i h] at hg;cases hg
    ·exact absurd hi h
  simp [this,hg]
 have hback:∀i g,ν i=some g->μ i=some g:=by
  intro i g hg;rw [hν] at hg;by_cases hm:EH ids' i=true
  ·simp [hm] at hg
  ·simpa [hm] using hg
 have hlive:∀i b',Az st' i b'->∃b,Az st i b:=λi b' hl=>let ⟨b,h1,_⟩:=MC hS i b' hl;⟨b,h1⟩
 have nmE_mem:∀{env:Env} {t:Nat} {d:D},lk env t=some d->∀i∈IT d,i∈Vp env:=by
  intro env
  induction env with
  | nil=>intro t d h;simp [lk] at h
  | cons p r ih =>
   obtain ⟨s,x⟩:=p;intro t d h i hi;simp only [Vp,BH];by_cases hs:s=t
   ·subst hs;rw [Ay] at h;cases h;exact .inl hi
   ·rw [A5 _ _ hs] at h;exact .inr (ih h i hi)
 have hEx:Ext I μ st w I ν st' w :=
  {imm:=Imm.le_refl I,os:=rfl,tape:=rfl,output:=rfl,size:=B8 _,block:=λ_ _ _=>rfl,
     fresh:=λb _ ⟨i,b',g,h1,h2,h3⟩=>let ⟨bb,q⟩:=hlive i b' h1;⟨i,bb,g,q,hback i g h2,h3⟩,old:=λ_ _ _=>rfl }
 have hc':Conc n I ν env' st' ids' a w :=
  {imm:=hc.imm
   blk:=λi b' hl=>by
    obtain ⟨b,h1,h2⟩:=MC hS i b' hl;obtain ⟨g,hg,hr⟩:=hc.blk i b h1;obtain ⟨q1,q2⟩:=Ez hl;exact ⟨g,hno i (by simp [q1]) g hg,(bJ h2 hr).sub λj hj g hg=>hno j (by simp [q2 j hj]) g hg⟩
   apart:=λi b' g k hl hg hk=>by
    obtain ⟨b,h1⟩:=hlive i b' hl;exact hc.apart i b g k h1 (hback i g hg) hk
   inj:=λi j bi bj gi gj k hi hj hgi hgj hki hkj=>by
    obtain ⟨b1,h1⟩:=hlive i bi hi;obtain ⟨b2,h2⟩:=hlive j bj hj;exact hc.inj i j b1 b2 gi gj k h1 h2 (hback i gi hgi) (hback j gj hgj) hki hkj
   nodup:=Hz hI1
   idsFree:=λi hi=>by rw [hν];simp [BG.2 hi]
   size:=hc.size
   env:=λt d' hl=>by
    obtain ⟨d,h1,h2⟩:=MB hE t d' hl;exact (Pf h2 (hc.env t d h1)).sub λj hj g hg=>hno j (by simp [nmE_mem hl j hj]) g hg
   defers:=hc.defers.ext hEx }
 exact (h b cs I ν a w items hd hc').mono λe a' w' hp=>hp.back (λi hi g hg=>hno i (by simp [hi]) g hg) <| hEx
theorem Ae (h:DGo P n F Q todo env' st' ids') (hE:bN env env') (hS:gQ st st') (hI:(Jk ids'&&SA ids (Vp env'++Fj st'++F) ids')=true):DGo P n F Q todo env st ids:=IF hE hS hI h
theorem Wv {α:Type} {c:Code} (E:α->Env) (S:α->St) (ids':List Nat) (m:α->Nat) (Inv:α->Prop)
  (step:∀x,Inv x->(∀x',m x'<m x->Inv x'->DGo P n F Q (.inLoop c::k) (E x') (S x') ids')->DGo P n F Q (.code c :: .inLoop c::k) (E x) (S x) ids') :
  ∀x,Inv x->DGo P n F Q (.inLoop c::k) (E x) (S x) ids':=by
 have:∀b x,m x<b->Inv x->DGo P n F Q (.inLoop c::k) (E x) (S x) ids':=by
  intro b
  induction b with
  | zero=>intro x h;omega
  | succ b ih=>intro x hm hx;exact YY (step x hx λx' hm' hx'=>ih x' (by omega) hx')
 intro x hx;exact this (m x+1) x (by omega) hx
theorem Ak {α:Type} {c:Code} (E:α->Env) (S:α->St) (ids':List Nat) (m:α->Nat) (Inv:α->Prop) (x0:α) (h0:Inv x0) (hE:bN env (E x0)) (hS:gQ st (S x0))
  (hI:(Jk ids'&&SA ids (Vp (E x0)++Fj (S x0)++F) ids')=true)
  (step:∀x,Inv x->(∀x',m x'<m x->Inv x'->DGo P n F Q (.inLoop c::k) (E x') (S x') ids')->DGo P n F Q (.code c :: .inLoop c::k) (E x) (S x) ids') :
  DGo P n F Q (.code (.loop c)::k) env st ids :=
 Rx (IF hE hS hI (Wv E S ids' m Inv step x0 h0))
theorem Fy {t:Nat} {x:V} (hl:lk env t=some (.imm x)) (h:Fh x->DGo P n F Q todo env st ids):DGo P n F Q todo env st ids :=
 λb cs I μ a w items hd hc=>h (hc.env t _ hl).immInv.ok b cs I μ a w items hd hc
theorem B1 {f:FuncId} {vs:List V} {v:V} (h:CL vs->Al P f vs v):Al P f vs v:=by
 intro I μ w xs hst hx;refine h (IY.2 λx hxm=>?_) I μ w xs hst hx;obtain ⟨j,hj⟩:=D3.1 hxm;have hlt:j<xs.toList.length:=by rw [hx.1];simpa using (AJ.1 hj).1
 exact (hx.2 j _ (.imm x) (Bi hlt) (by simp [hj])).immInv.ok
end
end Go.Hk
namespace Go.Hk
def Ov:List DI->Option Oper
 | .ops _ (o::_)::_=>some o
 | .dops _ (o::_) _::_=>some o
 | _=>none
def HN (st:St):D->Option (List Nat×List (List V))
 | .nils=>some ([],[])
 | .own id _=>match lk st id with
  | some (some (.row _ _ es))=>some ([id],es)
  | _=>none
 | .clip es=>some ([],es)
 | _=>none
def Lu:D->Option (List (List V))
 | .imm (.sl es)=>some es
 | .nils=>some []
 | _=>none
def nK (sz bytes:Nat) (base:D) (es es2:List (List V)):Prop :=
 (∀c∈es2,c.length=sz)/\es.length+es2.length<=maxLen/\(es.length+es2.length)*bytes<=140737488355328 /\
 match base with
 | .clip _=>(∀c∈es,c.length=sz)/\es2≠[]
 | .own _ _=>True
 | _=>True
section
variable {P:Program} {n:Nat} {F:List Nat} {Q:DQ} {tt:TT} {env env':Env} {st st':St} {ids ids':List Nat} {k todo todo':List DI} {I:Imm} {μ:Mu} {w:World} {Pn:V->Prop}
theorem RepV.oneV {v:Value} {x:V} (h:RepV I v x) (h1:v.oneCell'=true):V.one x=true:=by
 cases h <;> first | rfl | simp [Value.oneCell'] at h1
theorem OF {v:Value} {es:List (List V)} {sz:Nat} (hI:I.ok w) (h:RepV I v (.sl es)) (hs:∀c∈es,c.length=sz) (hp:0<sz) :
  ((∃ad,v = .slice ad 0 0)/\es=[])\/∃b o c news,v = .slice (some ⟨b,o,none⟩) es.length c/\es.length<=c/\c<=maxLen/\news.length=es.length*sz/\(∀j u,news[j]?=some u->w.cell? ((⟨b,o,none⟩:Addr).add j)=some u) /\
   (∀u∈news,u.oneCell'=true)/\RepVL I news es.flatten/\(∀e∈es,∀x∈e,V.one x=true):=by
 cases h with
 | slnil=>exact .inl ⟨⟨_,rfl⟩,rfl⟩
 | sl0 ad=>exact .inl ⟨⟨_,rfl⟩,rfl⟩
 | sl b o len cap sz' _ vs hl hc hm hsz hcell hrep =>
  subst hl;refine .inr ⟨b,o,cap,(List.range (es.length*sz)).map λq=>vs (q / sz) (q % sz),rfl,hc,hm,by simp,?_,?_,?_,?_⟩
  all_goals
   have hget:∀j,j<es.length*sz->∃e x,es[j / sz]?=some e/\e[j % sz]?=some x/\e.length=sz/\sz'=sz:=by
    intro j hj;have h1:j / sz<es.length:=kI (by rw [PU];exact hj);have h2:j % sz<sz:=TP _ hp;have h3:=hs es[j / sz] (HZ _);have h4:=hsz es[j / sz] (HZ _);exact ⟨es[j / sz],(es[j / sz])[j % sz],Bi h1,Bi (by omega),h3,by omega⟩
  ·intro j u hu;obtain ⟨hlt,rfl⟩:=FT hu;obtain ⟨e,x,h1,h2,_,rfl⟩:=hget j hlt;have:=Imm.cell_world hI (hcell _ _ _ _ h1 h2).1;rw [Hm];rw [show o+j=o+j / sz'*sz'+j % sz' by rw [V0,PU,Yg]];exact this
  ·intro u hu;obtain ⟨j,hj⟩:=D3.1 hu;obtain ⟨hlt,rfl⟩:=FT hj;obtain ⟨e,x,h1,h2,_,rfl⟩:=hget j hlt;exact (hcell _ _ _ _ h1 h2).2
  ·refine ⟨by rw [Bn hs];simp,λj u x hu hx=>?_⟩;obtain ⟨hlt,rfl⟩:=FT hu;obtain ⟨e,y,h1,h2,_,rfl⟩:=hget j hlt;have h3:=Cu hs _ _ _ _ h1 h2;rw [PU,Yg,hx] at h3;cases h3;exact hrep _ _ _ _ h1 h2
  ·intro e he x hx;obtain ⟨i,hi⟩:=D3.1 he;obtain ⟨j,hj⟩:=D3.1 hx;exact (hrep _ _ _ _ hi hj).oneV (hcell _ _ _ _ hi hj).2
theorem StRep.renew {id':Nat} (hst:StRep I μ st (id'::ids) w) {rd:List Nat} {v':Value} {blk':Blk} {w':World} {row:Option Nat} (hg:w.grownBy w' row)
  (hrow:∀b,row=some b->∃id blk g,id∈rd/\Az st id blk/\μ id=some g/\Eb g b) (hnew:∀b,Eb v' b->b<w'.heap.size/\(w.heap.size<=b\/∃id blk g,id∈rd/\Az st id blk/\μ id=some g/\Eb g b))
  (hb:∀μ',BlkRep I μ' w' v' blk') :
  ∃μ',μ' id'=some v'/\μ.le μ'/\StRep I μ' ((id',some blk')::Cs rd++st) ids w'/\Ext I μ st w I μ' ((id',some blk')::Cs rd++st) w':=by
 have hid:μ id'=none:=hst.idsFree id' (by simp);have hle:μ.le (λi=>if i=id' then some v' else μ i):=λi v h=>by
  have:i≠id':=λe=>by rw [e,hid] at h;cases h
  simp [this,h]
 have hrowI:∀b,row=some b->I b=none:=λb hr=>by
  obtain ⟨id,blk,g,_,h2,h3,h4⟩:=hrow b hr;exact (hst.apart id blk g b h2 h3 h4).1
 have hlive:∀i b,Az ((id',some blk')::Cs rd++st) i b->(i=id'/\b=blk')\/(i≠id'/\i∉rd/\Az st i b):=by
  intro i b h;rcases A9.1 h with h | ⟨h1,h2⟩
  ·exact .inl h
  ·obtain ⟨h3,h4⟩:=Lj h2;exact .inr ⟨h1,h3,h4⟩
 have hother:∀i g,i≠id'->(if i=id' then some v' else μ i)=some g->μ i=some g:=λi g hne h=>by rwa [if_neg hne] at h
 have hkeep:∀i b g k,i∉rd->Az st i b->μ i=some g->Eb g k->w'.heap[k]?=w.heap[k]?:=by
  intro i b g k h1 h2 h3 h4;refine hg.block k (hst.apart i b g k h2 h3 h4).2 λhk=>?_;obtain ⟨id,blk,g',q1,q2,q3,q4⟩:=hrow k hk.symm;have:=hst.inj i id b blk g g' k h2 q2 h3 q3 h4 q4;subst this;exact h1 q1
 have hclash:∀i b g k,i∉rd->Az st i b->μ i=some g->Eb g k->¬Eb v' k:=by
  intro i b g k h1 h2 h3 h4 h5;rcases (hnew k h5).2 with h | ⟨id,blk,g',q1,q2,q3,q4⟩
  ·have:=(hst.apart i b g k h2 h3 h4).2;omega
  ·have:=hst.inj i id b blk g g' k h2 q2 h3 q3 h4 q4;subst this;exact h1 q1
 refine ⟨λi=>if i=id' then some v' else μ i,by simp,hle,?_,?_⟩
 ·refine { imm:=λb o h=>?_,blk:=λi b hl=>?_,apart:=λi b g k hl hgi hk=>?_,inj:=λi j bi bj gi gj k hi hj hgi hgj hki hkj=>?_,nodup:=(K4.1 hst.nodup).2,idsFree:=λi hi=>?_ }
  ·have h1:=hst.imm b o h;rw [hg.block b (BN h1) (λhk=>by rw [hrowI b hk.symm] at h;cases h)];exact h1
  ·rcases hlive i b hl with ⟨rfl,rfl⟩ | ⟨h1,h2,h3⟩
   ·exact ⟨v',by simp,hb _⟩
   ·obtain ⟨g,hgi,hr⟩:=hst.blk i b h3;exact ⟨g,by simp [h1,hgi],(hr.mono (Imm.le_refl I) hle).world λk hk=>hkeep i b g k h2 h3 hgi hk⟩
  ·rcases hlive i b hl with ⟨rfl,rfl⟩ | ⟨h1,h2,h3⟩
   ·simp at hgi;subst hgi;obtain ⟨h1,h2⟩:=hnew k hk;refine ⟨?_,h1⟩;rcases h2 with h2 | ⟨id,blk,g',q1,q2,q3,q4⟩
    ·cases h:I k with
     | none=>rfl
     | some o=>have:=BN (hst.imm _ _ h);omega
    ·exact (hst.apart id blk g' k q2 q3 q4).1
   ·obtain ⟨q1,q2⟩:=hst.apart i b g k h3 (hother i g h1 hgi) hk;exact ⟨q1,XH q2 hg.size⟩
  ·rcases hlive i bi hi with ⟨rfl,rfl⟩ | ⟨h1,h2,h3⟩ <;> rcases hlive j bj hj with ⟨rfl,rfl⟩ | ⟨p1,p2,p3⟩
   ·rfl
   ·simp at hgi;subst hgi;exact absurd hki (hclash j bj gj k p2 p3 (hother j gj p1 hgj) hkj)
   ·simp at hgj;subst hgj;exact absurd hkj (hclash i bi gi k h2 h3 (hother i gi h1 hgi) hki)
   ·exact hst.inj i j bi bj gi gj k h3 p3 (hother i gi h1 hgi) (hother j gj p1 hgj) hki hkj
  ·have hne:i≠id':=λe=>(K4.1 hst.nodup).1 (e ▸ hi);simp [hne,hst.idsFree i (by simp [hi])]
 ·refine { imm:=Imm.le_refl I,os:=hg.os,tape:=hg.tape,output:=hg.output,size:=hg.size,block:=λb hb ho=>hg.block b hb (λhk=>?_),fresh:=λb hb ho=>?_,old:=λ_ _ _=>rfl }
  ·obtain ⟨id,blk,g',_,q2,q3,q4⟩:=hrow b hk.symm;exact ho ⟨id,blk,g',q2,q3,q4⟩
  ·obtain ⟨i,bi,g,hl,hgi,hk⟩:=ho;rcases hlive i bi hl with ⟨rfl,rfl⟩ | ⟨h1,h2,h3⟩
   ·simp at hgi;subst hgi;rcases (hnew b hk).2 with h | ⟨id,blk,g',_,q2,q3,q4⟩
    ·omega
    ·exact ⟨id,blk,g',q2,q3,q4⟩
   ·exact ⟨i,bi,g,h3,hother i g h1 hgi,hk⟩
theorem iZ {v:Value} {b:Nat} {t:TypeId} {sz k:Nat} {xs:List Value} (h:w.ownsRow 0 t sz v k xs) (hb:Eb v b):v.ownBlock=some b:=by
 rcases h.2 with ⟨rfl,_⟩ | ⟨g,cap,cur,rfl,_⟩
 ·simp [Eb] at hb
 ·simpa [Eb,Value.ownBlock] using hb
theorem iY {v:Value} {b:Nat} (hb:v.ownBlock=some b):Eb v b:=by
 unfold Value.ownBlock at hb
 split at hb
 ·cases hb;rfl
 ·cases hb
theorem Vk {v:Value} {t:TypeId} {sz k:Nat} {xs:List Value} (h:w.ownsRow 0 t sz v k xs):∃a cap,v = .slice a k cap:=by
 rcases h.2 with ⟨rfl,rfl⟩ | ⟨g,cap,cur,rfl,_⟩
 ·exact ⟨none,0,rfl⟩
 ·exact ⟨_,cap,rfl⟩
theorem dA (htt:TTok P tt) {all:List Oper} {o:Oper} {x y:Operand} {t e:TypeId} {ti i:TyI} {dx dy:D} {rd:List Nat} {id':Nat} {es es2:List (List V)} (hg:o.guard=none)
  (ho:o.op = .call { callee:=.builtin .append,args:=⟨[x,y]⟩,argTypes:=⟨[t,t]⟩ }) (ht:lk tt t=some ti) (hsh:ti.sh = .sl e) (hi:lk tt e=some i) (hz:(Nat.beq i.zero.length i.size&&Nat.blt 0 i.size)=true)
  (hx:DT env x=some dx) (hb:HN st dx=some (rd,es)) (hrow:∀id,rd=[id]->lk st id=some (some (.row e i.size es))) (hy:DT env y=some dy) (hs:Lu dy=some es2) (hok:nK i.size i.bytes dx es es2) :
  LD P Pn all o env st rd [id'] ((id',some (.row e i.size (es++es2)))::Cs rd) (.own id' (es++es2).length):=by
 intro I μ st1 ids1 a w hag hst hon;refine ⟨λ_=>?_,λhw=>by rw [AG hg] at hw;cases hw⟩;have hop:=Bd hon;rw [ho] at hop;have rx:=hop x (by simp [Op.operands,Call.operands]) _ hx;have ry:=hop y (by simp [Op.operands,Call.operands]) _ hy;obtain ⟨inf,z,z1,z2,z3,z4,z5,z6⟩:=(htt e i hi).info;have hu:P.underlying t=some (.slice e):=by have:=htt.sh ht;rwa [hsh] at this
 simp only [A1,Ha] at hz;have hzl:z.cells.size=i.size:=by
  have:=(z5 I μ).1;rw [Cx hz.1] at this;simpa using this
 obtain ⟨k1,k2,k3,k4⟩:=hok;have hyv:RepV I (a.eval y) (.sl es2):=by
  cases dy <;> simp only [Lu,reduceCtorEq,BT] at hs
  ·rename_i vx;cases vx <;> simp only [Lu,reduceCtorEq,BT] at hs;subst hs;exact ry.immInv
  ·subst hs;have:=ry;generalize a.eval y=v at this;cases this;exact .slnil
 have hrun:∀{u w'},(Builtin.append_ #[t,t] o.type #[a.eval x,a.eval y]).run P w = .ok u w'->(execOp a.eval o).run P w = .ok (.value u) w':=by
  intro u w' h;simp only [execOp,ho,resolve,invoke,builtin,Sem.run_bind,Sem.run_pure,Result.andThen_ok,LM,Cz,HJ,h]
 have fin:∀{u:Value} {w':World} {xs:List Value} {row:Option Nat},(Builtin.append_ #[t,t] o.type #[a.eval x,a.eval y]).run P w = .ok u w'->w'.ownsRow 0 e i.size u (es.length+es2.length) xs->w.grownBy w' row ->
   (∀b,row=some b->∃id blk g,id∈rd/\Az st1 id blk/\μ id=some g/\Eb g b)->(∀b,u.ownBlock=some b->row=some b\/w.heap.size<=b)->RepVL I xs (es++es2).flatten->(∀c∈es++es2,c.length=i.size) ->
   (∀c∈es++es2,∀x∈c,V.one x=true) ->
   valX P ((execOp a.eval o).run P w) (λv w'=>∃I' μ',StRep I' μ' ((id',some (.row e i.size (es++es2)))::Cs rd++st1) ids1 w'/\RepD I' μ' v (.own id' (es++es2).length)/\μ.le μ'/\Ext I μ st1 w I' μ' ((id',some (.row e i.size (es++es2)))::Cs rd++st1) w') (Ko Pn I μ st1 w):=by
  intro u w' xs row h1 h2 h3 h4 h5 h6 h7 h8;rw [hrun h1];obtain ⟨μ',q1,q2,q3,q4⟩:=StRep.renew (id':=id') (ids:=ids1) (rd:=rd) (v':=u) (blk':=.row e i.size (es++es2)) hst h3 h4 (λb hb=>by
   have hb':=iZ h2 hb;refine ⟨(h2.lt b hb').2,?_⟩;rcases h5 b hb' with h | h
   ·exact .inr (h4 b h)
   ·exact .inl h) (λμ'=>⟨xs,by rw [Bw];exact h2,h6,h7,h8,hz.2⟩)
  refine ⟨I,μ',q3,?_,q2,q4⟩;obtain ⟨ad,cap,rfl⟩:=Vk h2;rw [Bw];exact .own _ _ _ _ q1
 rcases OF hst.imm hyv k1 hz.2 with ⟨⟨ady,ey⟩,rfl⟩ | ⟨yb,yo,yc,news,ey,_,_,n1,n2,n3,n4,n5⟩
 ·-- nothing
  have hsame:∀(v:Value),a.eval x=v->(∃ad len cap,v = .slice ad len cap/\len<=cap)->(Builtin.append_ #[t,t] o.type #[a.eval x,a.eval y]).run P w = .ok v w:=by
   rintro v hv ⟨ad,len,cap,rfl,hle⟩;rw [hv,ey];cases ad <;> cases ady <;> simp [Builtin.append_,run_underlying hu,sizeOf,typeInfo,z1,Builtin.lenOf,hle,Builtin.firstCells,loadCells,loadCellsFrom,storeCells]
  have hgrow:w.grownBy w none:=⟨rfl,rfl,rfl,B8 _,λ_ _ _=>rfl⟩
  cases dx with
  | nils =>
   simp only [HN,BT,AS] at hb;obtain ⟨rfl,rfl⟩:=hb;have hv:a.eval x = .slice none 0 0:=by
    generalize a.eval x=v at rx;cases rx;rfl
   exact fin (hsame _ hv ⟨_,_,_,rfl,B8 _⟩) (World.ownsRow_nil w 0 e i.size) hgrow (λb h=>by cases h) (λb h=>by simp [Value.ownBlock] at h) (xs:=[]) .nil (by simp) (by simp)
  | own id nn =>
   simp only [HN] at hb
   split at hb
   ·rename_i bt sz es0 hl;cases hb;have hl':=hrow id rfl;have hl1:Az st1 id (.row e i.size es):=by unfold Az;rw [hag id (by simp)];exact hl'
    obtain ⟨g,hg1,xs,r1,r2,r3,r4,_⟩:=hst.blk id _ hl1;have hv:a.eval x=g:=by
     generalize a.eval x=v at rx;cases rx with
     | own _ _ ad cap hm=>rw [hm] at hg1;cases hg1;rfl
    have hr0:∃ad len cap,g = .slice ad len cap/\len<=cap:=by
     rcases r1.2 with ⟨rfl,h⟩ | ⟨gb,cap,cur,rfl,_,_,h,_⟩
     ·exact ⟨_,_,_,rfl,B8 _⟩
     ·exact ⟨_,_,_,rfl,h⟩
    exact fin (row:=g.ownBlock) (hsame g hv hr0) (by simpa using r1) ⟨rfl,rfl,rfl,B8 _,λ_ _ _=>rfl⟩ (λb h=>⟨id,_,g,by simp,hl1,hg1,iY h⟩) (λb h=>.inl h) (xs:=xs) (by simpa using r2) (by simpa using r3) (by simpa using r4)
   ·cases hb
  | clip es'=>exact absurd rfl k4.2
  | _=>simp [HN] at hb
 ·have hfl:∀{xs:List Value},RepVL I xs es.flatten->RepVL I (xs++news) (es++es2).flatten:=λh=>by rw [Yf];exact h.append n4
  have hnil:a.eval x = .slice none 0 0->es=[] ->
    valX P ((execOp a.eval o).run P w) (λv w'=>∃I' μ',StRep I' μ' ((id',some (.row e i.size (es++es2)))::Cs rd++st1) ids1 w'/\RepD I' μ' v (.own id' (es++es2).length)/\μ.le μ'/\Ext I μ st1 w I' μ' ((id',some (.row e i.size (es++es2)))::Cs rd++st1) w') (Ko Pn I μ st1 w):=λhv he=>by
   subst he;obtain ⟨v',w',q1,q2,q3,_⟩:=run_append_own (P:=P) w w.heap.size t o.type e inf z i.size i.bytes hu z1 z4 z2 z3 hzl hz.2 (.slice none 0 0) 0 [] (World.ownsRow_nil w _ e i.size) ⟨yb,yo,none⟩ es2.length yc news n1 n2 n3
    (by simpa using k2) (by simpa using k3) (B8 _)
   have q2':w'.ownsRow 0 e i.size v' (0+es2.length) news:=⟨q2.1,q2.2.imp id λ⟨g,cap,cur,a1,_,a2⟩=>⟨g,cap,cur,a1,AL _,a2⟩⟩
   exact fin (row:=none) (by rw [hv,ey];exact q1) q2' ⟨q3.os,q3.tape,q3.output,q3.size,λb hb _=>q3.block b hb (by simp [Value.ownBlock])⟩ (λb h=>by cases h) (λb h=>.inr (q2.lt b h).1) (hfl .nil) (by simpa using k1) (by simpa using n5)
  have hgrow:∀(ad:Addr) (cap:Nat) (xs:List Value),a.eval x = .slice (some ad) es.length cap->xs.length=es.length*i.size->(∀j u,xs[j]?=some u->w.cell? (ad.add j)=some u)->cap<es.length+es2.length->RepVL I xs es.flatten->(∀c∈es,c.length=i.size)->(∀c∈es,∀x∈c,V.one x=true) ->
    valX P ((execOp a.eval o).run P w) (λv w'=>∃I' μ',StRep I' μ' ((id',some (.row e i.size (es++es2)))::Cs rd++st1) ids1 w'/\RepD I' μ' v (.own id' (es++es2).length)/\μ.le μ'/\Ext I μ st1 w I' μ' ((id',some (.row e i.size (es++es2)))::Cs rd++st1) w') (Ko Pn I μ st1 w):=λad cap xs hv hl hcell hlt hr hsz h1=>by
   have hsmall:es.length+es2.length<=9223372036854775807:=by simp only [maxLen] at k2;omega
   have hr':=run_append_grow (P:=P) w t o.type e inf z hu z1 z4 ad es.length cap xs (by rw [z2];exact hl) hcell ⟨yb,yo,none⟩ es2.length yc news (by rw [z2];exact n1) n2 hlt (by omega) (by rw [z3];exact growslice_fits hlt k3);have hge:=grownCap_ge w (es.length+es2.length) cap e;have hcm:grownCap w (es.length+es2.length) cap e<=maxLen:=grownCap_le_maxLen w _ cap e k2;have hlen:(xs++news).length=(es.length+es2.length)*i.size:=by rw [Bw,hl,n1,PL]
   refine fin (row:=none) (by rw [hv,ey];exact hr') (xs:=xs++news) ⟨hlen,.inr ⟨w.heap.size,_,_,rfl,AL _,Eh w.drew _,hge,hcm,?_,?_⟩⟩ ⟨rfl,rfl,rfl,by simp,λk hk _=>CH w.drew _ hk⟩ (λb h=>by cases h)
    (λb h=>by simp [Value.ownBlock] at h;exact .inr (by omega)) (hfl hr) (λc hc=>(BH.1 hc).elim (hsz c) (k1 c)) (λc hc=>(BH.1 hc).elim (h1 c) (n5 c))
   ·simp only [Array.size_append,Ye,size_zeroCells,hzl,hl,n1,<- PL];congr 1;omega
   ·simp only [Ju,CE];rw [<- CE,<- hlen];exact Yd
  cases dx with
  | nils =>
   simp only [HN,BT,AS] at hb;obtain ⟨rfl,rfl⟩:=hb;have hv:a.eval x = .slice none 0 0:=by
    generalize a.eval x=v at rx;cases rx;rfl
   exact hnil hv rfl
  | own id nn =>
   simp only [HN] at hb
   split at hb
   ·rename_i bt sz es0 hl;cases hb;have hl':=hrow id rfl;have hl1:Az st1 id (.row e i.size es):=by unfold Az;rw [hag id (by simp)];exact hl'
    obtain ⟨g,hg1,xs,r1,r2,r3,r4,_⟩:=hst.blk id _ hl1;have hv:a.eval x=g:=by
     generalize a.eval x=v at rx;cases rx with
     | own _ _ ad cap hm=>rw [hm] at hg1;cases hg1;rfl
    rcases r1.2 with ⟨eg,h⟩ | ⟨gb,cap,cur,eg,_,hheap,hle,hcm,hcs,htake⟩
    ·exact hnil (hv.trans eg) (K5 h)
    ·by_cases hroom:es.length+es2.length<=cap
     ·have hfit:es.length*i.size+news.length<=cur.size:=by rw [n1,hcs,<- PL];exact Yc _ hroom
      have hr:=run_append_room (P:=P) w t o.type e inf hu z1 gb es.length cap cur hheap ⟨yb,yo,none⟩ es2.length yc news (by rw [z2];exact n1) n2 n3 hroom (by rw [z2];exact hfit);rw [z2] at hr;have hlen:(xs++news).length=(es.length+es2.length)*i.size:=by rw [Bw,r1.1,n1,PL]
      refine fin (row:=some gb) (by rw [hv,eg,ey];exact hr) (xs:=xs++news) ⟨hlen,.inr ⟨gb,cap,_,rfl,AL _,setRow_heap w gb cur _ e _ hheap,hroom,hcm,?_,?_⟩⟩ ⟨rfl,rfl,rfl,by simp,λk _ hk=>setRow_other w gb k _ (λe=>hk (by simp [e]))⟩
       (λb h=>by cases h;exact ⟨id,_,g,by simp,hl1,hg1,by rw [eg];rfl⟩) (λb h=>by simp [Value.ownBlock] at h;exact .inl (by rw [h])) (hfl r2) (λc hc=>(BH.1 hc).elim (r3 c) (k1 c)) (λc hc=>(BH.1 hc).elim (r4 c) (n5 c))
      ·simp only [Ye,Bw,Gx,IN,Sp];omega
      ·rw [htake,<- hlen];exact Yd
     ·exact hgrow ⟨gb,0,none⟩ cap xs (hv.trans eg) r1.1 (by rw [eg] at r1;exact r1.cells (g:=gb) rfl) (by omega) r2 r3 r4
   ·cases hb
  | clip es' =>
   simp only [HN,BT,AS] at hb;obtain ⟨rfl,rfl⟩:=hb;have rx':∃ad len,a.eval x = .slice ad len len/\RepV I (.slice ad len len) (.sl es'):=by
    generalize a.eval x=v at rx;cases rx with
    | clip ad len _ h=>exact ⟨ad,len,rfl,h⟩
   obtain ⟨ad,len,hv,hr⟩:=rx';rcases OF hst.imm hr k4.1 hz.2 with ⟨⟨adx,ex⟩,e0⟩ | ⟨xb,xo,xc,xs,ex,_,_,p1,p2,p3,p4,p5⟩
   ·cases adx with
    | none=>exact hnil (hv.trans ex) e0
    | some adx =>
     have hpos:0<es2.length:=kH.2 k4.2;subst e0;exact hgrow adx 0 [] (hv.trans ex) (by simp) (λj u h=>by simp at h) (by simp;omega) .nil (by simp) (by simp)
   ·cases ex;have hpos:0<es2.length:=kH.2 k4.2;exact hgrow ⟨xb,xo,none⟩ _ xs hv p1 p2 (by omega) p4 k4.1 p5
  | _=>simp [HN] at hb
end
end Go.Hk
namespace Go.Hk
def Lq (cx:Prop) (env:Env) (x:Operand):Option (D×List Prop):=match DT env x with
 | some (.guard c w d)=>some (d,[cx->c=w])
 | some d=>some (d,[])
 | none=>none
structure xA where
 dx:D
 es:List (List V)
 es2:List (List V)
 sz:Nat
 bytes:Nat
 e:TypeId
 rd:List Nat
 id':Nat
 ids':List Nat
 dst:Option Nat
 todo:List DI
def rS (st:St) (e:TypeId) (sz:Nat):List Nat->Bool
 | []=>true
 | [id]=>match lk st id with
  | some (some (.row e' sz' _))=>Nat.beq e e'&&Nat.beq sz sz'
  | _=>false
 | _=>false
def wC (tt:TT) (n:Nat) (env:Env) (st:St) (ids:List Nat) (todo:List DI):Option xA :=
 match Ov todo,ids with
 | some o,id'::ids'=>match o.guard,o.op with
  | none,.call { callee:=.builtin .append,args:=⟨[x,y]⟩,argTypes:=⟨[t,t']⟩ }=>match Nat.beq t t',lk tt t,DT env x,DT env y with
   | true,some { sh:=.sl e,.. },some dx,some dy=>match lk tt e,HN st dx,Lu dy with
    | some i,some (rd,es),some es2=>match Nat.beq i.zero.length i.size&&Nat.blt 0 i.size,rS st e i.size rd,BB n o.dst,Bh todo (rd,id'::rd) with
     | true,true,true,some (_,_,todo')=>some ⟨dx,es,es2,i.size,i.bytes,e,rd,id',ids',o.dst,todo'⟩
     | _,_,_,_=>none
    | _,_,_=>none
   | _,_,_,_=>none
  | _,_=>none
 | _,_=>none
section
variable {P:Program} {n:Nat} {F:List Nat} {Q:DQ} {tt:TT} {env env':Env} {st st':St} {ids ids':List Nat} {k todo todo':List DI} {I:Imm} {μ:Mu} {w:World} {a:Act} {Pn:V->Prop} {d:D} {cx:Prop} {ob:List Prop}
theorem DK {x:Operand} {v:Value} (h:Lq cx env x=some (d,ob)) (hob:AB ob) (hc:cx) (hv:∀d,DT env x=some d->RepD I μ v d):RepD I μ v d:=by
 unfold Lq at h
 split at h
 ·cases h;rename_i hx;exact (hv _ hx).guardInv (hob.1 hc)
 ·cases h;rename_i hx;exact hv _ hx
 ·cases h
theorem JA:∀l:List Nat,(Cs l).map (·.1)=l
 | []=>rfl
 | x::r=>by simp [Cs,JA r]
theorem Dc {f:List Nat×List Nat} {o o':Oper} {all:List Oper} (h:Ov todo=some o) (h':Bh todo f=some (all,o',todo')):o'=o:=by
 unfold Ov at h
 split at h
 ·simp [Bh] at h';cases h;exact h'.2.1.symm
 ·simp [Bh] at h';cases h;exact h'.2.1.symm
 ·cases h
theorem B4 (htt:TTok P tt) {c:xA} (h:wC tt n env st ids todo=some c) (hok:nK c.sz c.bytes c.dx c.es c.es2)
  (hk:G P n F Q c.todo (BD c.dst (.own c.id' (c.es++c.es2).length) env) ((c.id',some (.row c.e c.sz (c.es++c.es2)))::Cs c.rd++st) c.ids'):G P n F Q todo env st ids:=by
 unfold wC at h
 split at h
 ·rename_i o id' ids' ho
  split at h
  ·rename_i x y t t' hg hop
   split at h
   ·rename_i e _ _ _ _ dx dy htt' ht hx hy;have:=Cx htt';subst this
    split at h
    ·rename_i i rd es es2 hi hb hs
     split at h
     ·rename_i all o' todo' hz hr hd h1;cases h;have ho':o'=o:=Dc ho h1;subst ho';refine B9 (fr:=[id']) (wr:=(id',some (.row e i.size (es++es2)))::Cs rd) (rd:=rd) (by rw [Cz,JA];exact h1) ?_ hd (λc hc=>by rw [hop] at hc;cases hc) hk;refine dA htt hg hop ht rfl hi hz hx hb (λid hid=>?_) hy hs hok;subst hid;simp only [rS] at hr
      split at hr
      ·rename_i e' sz' es' hl;simp only [A1] at hr;rw [Cx hr.1,Cx hr.2,hl];have:es'=es:=by
        cases dx <;> simp only [HN,reduceCtorEq,BT,AS] at hb
        ·cases hb.1
        ·split at hb
         ·rename_i hl2;simp only [BT,AS,Ep,and_true] at hb;obtain ⟨e1,e2⟩:=hb;subst e1;rw [hl2] at hl;cases hl;exact e2
         ·cases hb
        ·cases hb.1
       rw [this]
      ·cases hr
     ·cases h
    ·cases h
   ·cases h
  ·cases h
 ·cases h
theorem Dl {all:List Oper} {o:Oper} {rd:List Nat} {g:Option (Bool×Bool)} (hg:Ca all env o=some g)
  (key:∀I μ st1 ids1 a w,Agree rd st st1->StRep I μ st1 ids1 w->D6 I μ env a o.op->Am g ->
   valX P ((execOp a.eval o).run P w) (λu w'=>∃I' μ',StRep I' μ' st1 ids1 w'/\RepD I' μ' u d/\μ.le μ'/\Ext I μ st1 w I' μ' st1 w') (Ko Pn I μ st1 w)) :
  LD P Pn all o env st rd [] [] (gD g d):=by
 intro I μ st1 ids1 a w hag hst hon;have hwant:=Ft hg hon;refine ⟨λhw=>?_,λhw=>⟨rfl,rfl,?_⟩⟩
 ·have hcx:=hwant.1 hw;refine (key I μ st1 ids1 a w hag hst (Bd hon) hcx).mono (λv w' ⟨I',μ',q1,q2,q3,q4⟩=>⟨I',μ',q1,?_,q3,q4⟩) (λ_ _ h=>h);cases g with
  | none=>exact q2
  | some p=>exact .guard _ _ _ _ (λ_=>q2) (λhn=>absurd hcx hn)
 ·cases g with
  | none=>rw [hwant.2 trivial] at hw;cases hw
  | some p=>exact .guard _ _ _ _ (λhc=>by rw [hwant.2 hc] at hw;cases hw) (λ_=>rfl)
structure PIdx where
 es:List (List V)
 i:Int
 sz:Nat
 e:TypeId
 g:Option (Bool×Bool)
 ob:List Prop
 dst:Option Nat
 todo:List DI
def Rh (tt:TT) (n:Nat) (env:Env) (todo:List DI):Option PIdx :=
 match Bh todo ([],[]) with
 | some (all,o,todo')=>match o.op,Ca all env o with
  | .indexAddr t x i,some g=>match lk tt t,Lq (Am g) env x,Lq (Am g) env i with
   | some { sh:=.sl e,.. },some (.imm (.sl es),o1),some (.imm (.int _ i),o2)=>match lk tt e,BB n o.dst with
    | some ti,true=>match o.dst with
     | some t=>some ⟨es,i,ti.size,e,g,Is o1 o2,some t,todo'⟩
     | none=>none
    | _,_=>none
   | _,_,_=>none
  | _,_=>none
 | none=>none
theorem MW {t e:TypeId} {i:TyI} (hu:P.underlying t=some (.slice e)) (hi:TyOk P e i) {b off len cap:Nat} {kk:IntKind} {m:Int} (h0:0<=m) (hm:m<len) :
  (Instr.indexAt t (.slice (some ⟨b,off,none⟩) len cap) (.int kk m)).run P w = .ok (.pointer (some ⟨b,off+m.toNat*i.size,none⟩)) w:=by
 simp only [Instr.indexAt,Sem.run_bind,asIntOf,Sem.run_pure,Result.andThen_ok,run_underlying hu];simp [h0,hm,hi.sizeOf w,Hm]
theorem H5 (htt:TTok P tt) {es:List (List V)} {m:Int} {sz:Nat} {e:TypeId} {g:Option (Bool×Bool)} {ob:List Prop} {t:Nat} {todo':List DI} {c:List V} (h:Rh tt n env todo=some ⟨es,m,sz,e,g,ob,some t,todo'⟩)
  (hc:Am g->0<=m/\es[m.toNat]?=some c/\c.length=sz) (hob:AB ob) (hk:G P n F Q todo' ((t,gD g (.ip e c 0))::env) st ids):G P n F Q todo env st ids:=by
 unfold Rh at h
 split at h
 ·rename_i all o todo' h1
  split at h
  ·rename_i t x i g hop hg
   split at h
   ·rename_i e _ _ _ _ es o1 kk m o2 ht hx hi
    split at h
    ·rename_i ti hti hd
     split at h
     ·rename_i t' hdst;cases h;have hk:G P n F Q todo' (BD o.dst (gD g (.ip e c 0)) env) st ids:=by rw [hdst];exact hk
      refine B9 (fr:=[]) (wr:=[]) (rd:=[]) h1 (Dl hg λI μ st1 ids1 a w _ hst hops hcx=>?_) hd (λc hc=>by rw [hop] at hc;cases hc) hk;rw [hop] at hops;obtain ⟨ho1,ho2⟩:=Bu hob;have rx:=(DK hx ho1 hcx (hops x (by simp [Op.operands]))).immInv;have ri:=(DK hi ho2 hcx (hops i (by simp [Op.operands]))).immInv.intInv;obtain ⟨c0,c1,c2⟩:=hc hcx;have hu:P.underlying t=some (.slice e):=htt.sh ht;have hlt:=(AJ.1 c1).1;simp only [execOp,hop,ri];generalize hv:a.eval x=v at rx;cases rx with
      | slnil=>simp at hlt
      | sl0=>simp at hlt
      | sl b off len cap sz _ vs hl hcap hm hsz hcell hrep =>
       have hs:sz=ti.size:=by rw [<- hsz c (AF c1),c2]
       subst hs;have hr:=MW (w:=w) hu (htt e ti hti) (b:=b) (off:=off) (len:=len) (cap:=cap) (kk:=kk) c0 (by omega);have hrun:(do pure (.value (<- Instr.indexAt t (.slice (some ⟨b,off,none⟩) len cap) (.int kk m))):Sem Next).run P w = .ok (.value (.pointer (some ⟨b,off+m.toNat*ti.size,none⟩))) w:=A6 hr;rw [hrun];refine ⟨I,μ,hst,?_,Mu.le_refl μ,Ext.refl _ _ _ _⟩;have:=RepD.ip (I:=I) (μ:=μ) b (off+m.toNat*ti.size) e c 0 (vs m.toNat) (λj x hj=>hcell m.toNat c j x c1 hj) (λj x hj=>hrep m.toNat c j x c1 hj);simpa using this
     ·cases h
    ·cases h
   ·cases h
  ·cases h
 ·cases h
end
end Go.Hk
namespace Go.Hk
def OA:List Value->Option (List D)
 | []=>some []
 | v::r=>match ZI v,v.oneCell',OA r with
  | some d,true,some ds=>some (d::ds)
  | _,_,_=>none
def vS (P:Program):TypeDesc->Option Sh
 | .bool=>some .bool
 | .int k=>some (.int k)
 | .string=>some .str
 | .pointer e=>some (.ptr e)
 | .slice e=>some (.sl e)
 | .map k e=>some (.map k e)
 | .array n e=>some (.arr n e)
 | .func _ _ _=>some .func
 | .interface _=>some .iface
 | .struct fs=>match fs.toList.all λf=>Nat.blt 0 (P.cellsOf f.type) with
  | true=>some (.struct (fs.toList.map λf=>(f.offset,f.type)))
  | false=>none
 | _=>none
def wV:TypeDesc->Bool
 | .struct _=>true
 | .array _ _=>true
 | _=>false
def sZ (P:Program) (t:TypeId):Option TyI:=match P.info? t,P.underlying t with
 | some inf,some u=>match inf.zero,vS P u with
  | some z,some sh=>match OA z.cells.toList with
   | some ds=>some { sh,agg:=wV u,size:=inf.size,bytes:=inf.bytes,zero:=ds }
   | none=>none
  | _,_=>none
 | _,_=>none
def bI (P:Program):List TypeId->TT
 | []=>[]
 | t::r=>match sZ P t with
  | some i=>(t,i)::bI P r
  | none=>bI P r
theorem OU:∀{vs:List Value} {ds:List D},OA vs=some ds->(∀I μ,RepL I μ vs ds)/\∀v∈vs,v.oneCell'=true
 | [],ds,h=>by cases h;exact ⟨λ_ _=>.nil,λ_ h=>by simp at h⟩
 | v::r,ds,h=>by
  simp only [OA] at h
  split at h
  ·rename_i d ds' h1 h2 h3;cases h;obtain ⟨q1,q2⟩:=OU h3;exact ⟨λI μ=>.mk (Sd h1 I μ) (q1 I μ),λu hu=>(CC.1 hu).elim (λe=>e ▸ h2) (q2 u)⟩
  ·cases h
theorem oI {P:Program} {t:TypeId} {i:TyI} (h:sZ P t=some i):TyOk P t i:=by
 unfold sZ at h
 split at h
 ·rename_i inf u h1 h2
  split at h
  ·rename_i z sh h3 h4
   split at h
   ·rename_i ds h5;cases h;obtain ⟨q1,q2⟩:=OU h5;refine ⟨⟨inf,z,h1,rfl,rfl,h3,q1,q2⟩,?_,?_⟩
    ·funext w;simp only [isAgg,Sem.run_bind,run_underlying h2,Result.andThen_ok];cases u <;> rfl
    ·unfold vS at h4
     split at h4 <;> first | (cases h4;exact h2) | (cases h4;exact ⟨_,_,_,h2⟩) | (cases h4;exact ⟨_,h2⟩) | skip
     ·split at h4
      ·rename_i hall;cases h4;refine ⟨_,h2,rfl,λf hf=>?_⟩;have:=EV.1 hall f hf;simpa [Ha] using this
      ·cases h4
     ·cases h4
   ·cases h
  ·cases h
 ·cases h
theorem Te {P:Program}:∀{l:List TypeId},TTok P (bI P l)
 | [],t,i,h=>by simp [bI,lk] at h
 | x::r,t,i,h=>by
  simp only [bI] at h
  split at h
  ·rename_i j hj;by_cases hx:x=t
   ·subst hx;rw [Ay] at h;cases h;exact oI hj
   ·rw [A5 _ _ hx] at h;exact Te t i h
  ·exact Te t i h
theorem TTok.of_eq {P:Program} {tt:TT} {l:List TypeId} (h:tt=bI P l):TTok P tt:=h ▸ Te
attribute [simp] AB Is
theorem Cb {x:Int} (h0 : -9223372036854775808<=x) (h1:x<=9223372036854775807):IntKind.i64.wrap x=x:=by
 simp only [IntKind.wrap,IntKind.bits,IntKind.signed];simp;omega
theorem AA {k:IntKind} {a b:Int} (h:a=b):MA (.imm (.int k a)) (.imm (.int k b)):=by rw [h];rfl
theorem tV {a b:V} (h:a=b):MA (.imm a) (.imm b):=by rw [h];rfl
theorem Ab {P:Program} {tt:TT} {n:Nat} {F:List Nat} {k:List DI} {env:Env} {st:St} {ids:List Nat} {rs:List ResultVar} {v u:V} {ds:List D} (h1:Ot tt env st rs=some ds) (h2:oN (Hw ds)=some u) (h3:u=v):DGo P n F (Kv tt rs (.ret (.imm v) [])) (.code .ret::k) env st ids:=Ag ⟨ds,h1,(show oN (Hw ds)=some v by rw [h2,h3]),trivial⟩
section
variable {P:Program} {n:Nat} {F:List Nat} {Q:DQ} {tt:TT} {env env':Env} {st st':St} {ids ids':List Nat} {k todo todo':List DI} {I:Imm} {μ:Mu} {w:World} {a:Act} {Pn:V->Prop} {d:D} {cx:Prop} {ob:List Prop}
theorem KK (htt:TTok P tt) (hm:P.follows .mixedOrders=true) (f:Nat) (path:List Pt)
  (h:run tt n f path todo env st ids [] = .at k env' st' ids' ob) (hob:AB ob) (hd:G P n F Q k env' st' ids'):DGo P n F Q todo env st ids:=(J6 htt hm f path h hob hd).go
end
end Go.Hk
namespace Go.Hk
mutual
def Qy (id:Nat) (es:List (List V)):D->D
 | .own i n=>bif Nat.beq i id then .imm (.sl es) else .own i n
 | .agg cs=>H1 (Rt id es cs)
 | .tup cs=>.tup (Rt id es cs)
 | .fn f a b=>.fn f (Rt id es a) (Rt id es b)
 | .iface t d=>match Qy id es d with
  | .imm x=>.imm (.iface t x)
  | d'=>.iface t d'
 | .guard c w d=>.guard c w (Qy id es d)
 | d=>d
def Rt (id:Nat) (es:List (List V)):List D->List D
 | []=>[]
 | d::r=>Qy id es d::Rt id es r
end
def eK (id:Nat) (es:List (List V)):Env->Env
 | []=>[]
 | (t,d)::r=>(t,Qy id es d)::eK id es r
def qL (id:Nat) (es:List (List V)):Blk->Blk
 | .cells t sz cs=>NG t sz (Rt id es cs)
 | b=>b
def Rs (id:Nat) (es:List (List V)):St->St
 | []=>[]
 | (i,some b)::r=>(i,some (qL id es b))::Rs id es r
 | (i,none)::r=>(i,none)::Rs id es r
theorem GB (id:Nat) (es:List (List V)):∀l:List D,Rt id es l=l.map (Qy id es)
 | []=>rfl
 | d::r=>by simp [Rt,GB id es r]
section
variable {P:Program} {n:Nat} {F:List Nat} {Q:DQ} {tt:TT} {env:Env} {st:St} {ids:List Nat} {todo:List DI} {I J:Imm} {μ:Mu} {w:World} {id:Nat} {es:List (List V)} {g:Value}
theorem RepD.frz {v:Value} {d:D} (h:RepD I μ v d) (hIJ:I.le J) (hg:μ id=some g) (hr:RepV J g (.sl es)):RepD J μ v (Qy id es d):=by
 have at_:∀{l:List D} {i:Nat} {x:D},(Rt id es l)[i]?=some x->∃y,l[i]?=some y/\x=Qy id es y:=by
  intro l i x hx;rw [GB,Eg] at hx;cases hl:l[i]? with
  | none=>rw [hl] at hx;cases hx
  | some y=>rw [hl] at hx;cases hx;exact ⟨y,rfl,rfl⟩
 induction h with
 | undef v=>exact .undef v
 | imm v x hx=>exact .imm v x (hx.mono hIJ)
 | nils=>exact .nils
 | ref b id off hm=>exact .ref b id off hm
 | ip b o t cs off vs hcell hrep=>exact (RepD.ip b o t cs off vs hcell hrep).mono hIJ (Mu.le_refl μ)
 | agg cs ds hl h1 _ ih =>
  have:RepD J μ (.agg cs.toList.toArray) (H1 (Rt id es ds)):=GJ ⟨by rw [GB,CW,<- hl];simp,λi c x hc hx=>by
   obtain ⟨y,hy,rfl⟩:=at_ hx;exact ih i c y (by simpa using hc) hy⟩ h1
  simpa [Qy] using this
 | tup cs ds hl _ ih =>
  refine .tup cs _ (by rw [GB,CW,hl]) λi c x hc hx=>?_;obtain ⟨y,hy,rfl⟩:=at_ hx;exact ih i c y hc hy
 | own i len a cap hm =>
  simp only [Qy];cases hb:Nat.beq i id with
  | false=>exact .own i len a cap hm
  | true =>
   rw [Cx hb,hg] at hm;cases hm;exact .imm _ _ hr
 | elp b id len cap k sz f hm=>exact .elp b id len cap k sz f hm
 | mapr id b hm=>exact .mapr id b hm
 | iter id b hm=>exact .iter id b hm
 | fn f first cap df dc hf hc _ _ ih1 ih2 =>
  refine .fn f first cap _ _ (by rw [GB,CW,hf]) (by rw [GB,CW,hc]) (λi c x h1 h2=>?_) (λi c x h1 h2=>?_)
  ·obtain ⟨y,hy,rfl⟩:=at_ h2;exact ih1 i c y h1 hy
  ·obtain ⟨y,hy,rfl⟩:=at_ h2;exact ih2 i c y h1 hy
 | iface t v d _ ih =>
  simp only [Qy]
  split
  ·rename_i x hx;rw [hx] at ih;exact .imm _ _ (.iface t v x ih.immInv)
  ·exact .iface t v _ ih
 | guard c want v d _ hu ih=>exact .guard c want v _ ih hu
 | clip a len es hr=>exact .clip a len es (hr.mono hIJ)
 | slc b id off len cap hm hl hx=>exact .slc b id off len cap hm hl hx
 | yld b id hm=>exact .yld b id hm
 | raw v h=>exact .raw v h
 | hv v id i vs bs hm hi h1=>exact .hv v id i vs bs hm hi h1
theorem BlkRep.frz {gb:Value} {blk:Blk} (h:BlkRep I μ w gb blk) (hIJ:I.le J) (hg:μ id=some g) (hr:RepV J g (.sl es)):BlkRep J μ w gb (qL id es blk):=by
 cases blk with
 | cells t sz cs =>
  obtain ⟨hs,b,vs,rfl,h2,h3,h4⟩:=h;refine GI h2 ⟨by rw [GB,CW,h3.1],λi v x hv hx=>?_⟩ h4 (by rw [GB,CW,hs]);rw [GB,Eg] at hx;cases hl:cs[i]? with
  | none=>rw [hl] at hx;cases hx
  | some y=>rw [hl] at hx;cases hx;exact (h3.2 i v y hv hl).frz hIJ hg hr
 | _=>exact h.mono hIJ (Mu.le_refl μ)
theorem Nb {i:Nat} {b:Blk}:∀{st:St},Az (Rs id es st) i b->∃b0,Az st i b0/\b=qL id es b0
 | [],h=>by simp [Rs,Az,lk] at h
 | (k,some x)::r,h=>by
  simp only [Rs] at h;rcases A9.1 h with ⟨h1,h2⟩ | ⟨h1,h2⟩
  ·exact ⟨x,by unfold Az;rw [h1,Ay],h2⟩
  ·obtain ⟨b0,q1,q2⟩:=Nb h2;exact ⟨b0,A9.2 (.inr ⟨h1,q1⟩),q2⟩
 | (k,none)::r,h=>by
  simp only [Rs] at h;obtain ⟨h1,h2⟩:=BL.1 h;obtain ⟨b0,q1,q2⟩:=Nb h2;exact ⟨b0,BL.2 ⟨h1,q1⟩,q2⟩
theorem By (id:Nat) {e:TypeId} {sz:Nat} (hl:lk st id=some (some (.row e sz es))) (h:DGo P n F Q todo (eK id es env) ((id,none)::Rs id es st) ids):DGo P n F Q todo env st ids:=by
 intro b cs I μ a w items hd hc;have hlive:Az st id (.row e sz es):=hl;obtain ⟨g,hg,xs,hown,hrep,hsz,hone,hp⟩:=hc.blk id _ hlive;obtain ⟨J,hJ,hJr,hJo⟩:∃J:Imm,I.le J/\RepV J g (.sl es)/\(∀k o,J k=some o->(I k=some o\/(Eb g k/\w.heap[k]?=some o))):=by
  rcases hown.2 with ⟨rfl,h0⟩ | ⟨gb,cap,cur,rfl,_,hheap,hle,hcm,hcs,htake⟩
  ·have:es=[]:=K5 h0;subst this;exact ⟨I,Imm.le_refl I,.slnil,λk o h=>.inl h⟩
  ·have hno:=(hc.apart id _ _ gb hlive hg rfl).1;have hle':I.le (λk=>if k=gb then some (.cells cur e (0,0)) else I k):=λk o h=>by
    have:k≠gb:=λe=>by rw [e,hno] at h;cases h
    simp [this,h]
   refine ⟨_,hle',?_,λk o h=>?_⟩
   ·have hcell:∀(i:Nat) (c:List V) (j:Nat) (x:V),es[i]?=some c->c[j]?=some x->∃v,xs[i*sz+j]?=some v/\cur[i*sz+j]?=some v/\RepV I v x/\v.oneCell'=true:=by
     intro i c j x hi hj;have h1:=Cu hsz i c j x hi hj;have hlt:i*sz+j<xs.length:=by rw [hrep.1];exact (AJ.1 h1).1
     obtain ⟨v,hv⟩:∃v,xs[i*sz+j]?=some v:=⟨_,Bi hlt⟩
     have hr:=hrep.2 _ _ _ hv h1;refine ⟨v,hv,?_,hr,?_⟩
     ·rw [<- htake,Dr] at hv
      split at hv
      ·simpa using hv
      ·cases hv
     ·have:=hone c (AF hi) x (AF hj);exact hr.one this
    refine .sl gb 0 _ cap sz es (λi j=>(cur[i*sz+j]?).getD undef) rfl hle hcm hsz (λi c j x hi hj=>?_) (λi c j x hi hj=>?_)
    ·obtain ⟨v,_,h2,_,h4⟩:=hcell i c j x hi hj;simp [Imm.cell,h2,h4]
    ·obtain ⟨v,_,h2,h3,_⟩:=hcell i c j x hi hj;simp only [h2,LN];exact h3.mono hle'
   ·by_cases hk:k=gb
    ·subst hk;simp at h;subst h;exact .inr ⟨rfl,hheap⟩
    ·simp [hk] at h;exact .inl h
 have hst:∀i bi,Az ((id,none)::Rs id es st) i bi->i≠id/\∃b0,Az st i b0/\bi=qL id es b0:=λi bi h=>by
  obtain ⟨h1,h2⟩:=BL.1 h;exact ⟨h1,Nb h2⟩
 have hE:Ext I μ st w J μ ((id,none)::Rs id es st) w :=
  {imm:=hJ,os:=rfl,tape:=rfl,output:=rfl,size:=B8 _
   block:=λ_ _ _=>rfl
   fresh:=λk _ ⟨i,bi,gi,h1,h2,h3⟩=>let ⟨_,b0,q,_⟩:=hst i bi h1;⟨i,b0,gi,q,h2,h3⟩
   old:=λk _ ho=>by
      cases hJk:J k with
      | none =>
       cases hIk:I k with
       | none=>rfl
       | some o=>rw [hJ k o hIk] at hJk;cases hJk
      | some o =>
       rcases hJo k o hJk with h | ⟨h,_⟩
       ·exact h.symm
       ·exact absurd ⟨id,_,g,hlive,hg,h⟩ ho }
 have hc':Conc n J μ (eK id es env) ((id,none)::Rs id es st) ids a w :=
  {imm:=λk o h=>(hJo k o h).elim (λh=>hc.imm k o h) λh=>h.2
   blk:=λi bi hli=>by
    obtain ⟨_,b0,h2,rfl⟩:=hst i bi hli;obtain ⟨gi,hgi,hr⟩:=hc.blk i b0 h2;exact ⟨gi,hgi,hr.frz hJ hg hJr⟩
   apart:=λi bi gi k hli hgi hk=>by
    obtain ⟨h1,b0,h2,rfl⟩:=hst i bi hli;obtain ⟨q1,q2⟩:=hc.apart i b0 gi k h2 hgi hk;refine ⟨?_,q2⟩;cases hJk:J k with
    | none=>rfl
    | some o =>
     rcases hJo k o hJk with h | ⟨h,_⟩
     ·rw [q1] at h;cases h
     ·exact absurd (hc.inj i id b0 _ gi g k h2 hlive hgi hg hk h) h1
   inj:=λi j bi bj gi gj k hi hj hgi hgj hki hkj=>by
    obtain ⟨_,b1,h1,rfl⟩:=hst i bi hi;obtain ⟨_,b2,h2,rfl⟩:=hst j bj hj;exact hc.inj i j b1 b2 gi gj k h1 h2 hgi hgj hki hkj
   nodup:=hc.nodup
   idsFree:=hc.idsFree
   size:=hc.size
   env:=λt d hlt=>by
    have:∀{env:Env},lk (eK id es env) t=some d->∃d0,lk env t=some d0/\d=Qy id es d0:=by
     intro env
     induction env with
     | nil=>intro h;simp [eK,lk] at h
     | cons p r ih =>
      obtain ⟨s,x⟩:=p;intro h;simp only [eK] at h;by_cases hs:s=t
      ·subst hs;rw [Ay] at h;cases h;exact ⟨x,Ay _ _ _,rfl⟩
      ·rw [A5 _ _ hs] at h;rw [A5 _ _ hs];exact ih h
    obtain ⟨d0,h1,rfl⟩:=this hlt;exact (hc.env t d0 h1).frz hJ hg hJr
   defers:=hc.defers.ext hE }
 exact (h b cs J μ a w items hd hc').mono λe' a' w' hp=>hp.back (.refl _ _) <| hE
end
end Go.Hk
namespace Go.Hk
structure SZ where
 f:FuncId
 das:List D
 ob:List Prop
 dst:Option Nat
 o:Oper
 all:List Oper
def SP (n:Nat) (env:Env) (todo:List DI):Option SZ :=
 match Bh todo ([],[]) with
 | some (all,o,_)=>match o.guard,o.op with
  | none,.call { callee:=.value (.func f),args:=⟨args⟩,.. }=>match HL True env args,BB n o.dst with
   | some (ds,ob),true=>some ⟨f,ds,ob,o.dst,o,all⟩
   | _,_=>none
  | none,.call { callee:=.value (.tmp t),args:=⟨args⟩,.. }=>match lk env t,HL True env args,BB n o.dst with
   | some (.imm (.fn (.func f))),some (ds,ob),true=>some ⟨f,ds,ob,o.dst,o,all⟩
   | some (.fn (.func f) df dc),some (ds,ob),true=>some ⟨f,df++ds++dc,ob,o.dst,o,all⟩
   | _,_,_=>none
  | _,_=>none
 | none=>none
def gS:List (Nat×Nat)->List Nat
 | []=>[]
 | (_,b)::r=>b::gS r
def Fu:List (Nat×Nat)->List Nat
 | []=>[]
 | (a,_)::r=>a::Fu r
def KW (σ τ1:List (Nat×Nat)) (das:List D) (st0:St) (d:D) (st1:St) (fr:List Nat):Bool :=
 CR σ (Bb σ) (HU das)&&CR σ (Bb σ) (Fu σ)&&Oi (gS σ) (DJ st0)&&CR (Bb σ++τ1) (σ++Bb τ1) (IT d)&&CR (Bb σ++τ1) (σ++Bb τ1) (Fj st1)&&Oi (gS τ1) fr
theorem Tj:∀l:List (Nat×Nat),gS l=l.map (·.2)
 | []=>rfl
 | (a,b)::r=>by simp [gS,Tj r]
theorem JW:∀l:List (Nat×Nat),Fu l=l.map (·.1)
 | []=>rfl
 | (a,b)::r=>by simp [Fu,JW r]
section
variable {P:Program} {n:Nat} {F:List Nat} {Q:DQ} {tt:TT} {env:Env} {st st0 st1:St} {ids ids' fr:List Nat} {k todo todo':List DI} {I:Imm} {μ:Mu} {w:World} {Pn:V->Prop} {d:D} {σ τ1:List (Nat×Nat)} {das:List D}
theorem MO (h:KW σ τ1 das st0 d st1 fr=true):aX σ τ1 das st0 d st1 fr:=by
 simp only [KW,A1] at h;obtain ⟨⟨⟨⟨⟨h1,h2⟩,h3⟩,h4⟩,h5⟩,h6⟩:=h;exact ⟨h1,by rw [<- JW];exact h2,λp hp=>EZ h3 _ (by rw [Tj];exact TO hp),h4,h5,λp hp=>EZ h6 _ (by rw [Tj];exact TO hp)⟩
theorem F2 (hag:Agree (Fu σ) st st1):∀{st0:St},EI σ st st0->EI σ st1 st0
 | [],_=>trivial
 | (i,none)::_,h=>h.elim
 | (i,some b)::r,h=>by
  refine ⟨?_,F2 hag h.2⟩;have h1:=h.1;cases ha:lk (Bb σ) i with
  | none=>simp [ha] at h1
  | some a =>
   simp only [ha] at h1 ⊢;refine ⟨h1.1,?_⟩;have hm:a∈Fu σ:=by rw [JW];exact Cc.2 ⟨(a,i),Jw ha,rfl⟩
   rw [hag a hm];exact h1.2
theorem pS {all:List Oper} {o:Oper} {f:FuncId} (hg:o.guard=none) (hc:E7 P o env f das True) (hE:AK P f (Fp (Ec σ) das) st0 (.ret d st1)) (hb:EI σ st st0) (hn:KW σ τ1 das st0 d st1 fr=true) :
  LD P Pn all o env st (Fu σ) fr (E9 (Bb σ++τ1) st1++Cs (Fu σ)) (Jh (Ec (Bb σ++τ1)) d):=by
 intro I μ st2 ids1 a w hag hst hon;refine ⟨λ_=>?_,λhw=>by rw [AG hg] at hw;cases hw⟩;obtain ⟨xs,h1,h2⟩:=hc I μ a w (Bd hon) trivial;have hb':=F2 hag hb;have hN:=MO hn;obtain ⟨q1,q2,q3⟩:=FP hst hb' hN.args h1;rw [h2];refine (hE I _ w xs q1 q2).mono (λu w' hu=>?_) (λ_ _ h=>h.elim);obtain ⟨I',μ',r1,r2,r3,r4⟩:=hu;obtain ⟨ν,s1,s2,s3,s4⟩:=Kj hst hb' hN r1 r2 r3 r4 q3;rw [<- JW] at s1 s4;exact ⟨I',ν,s1,s2,s3,s4⟩
theorem Mj {c:SZ} (h:SP n env todo=some c) (hob:AB c.ob):(∀f,∃todo',Bh todo f=some (c.all,c.o,todo'))/\c.o.guard=none/\E7 P c.o env c.f c.das True/\BB n c.dst=true/\(∀x,c.o.op ≠ .defer x)/\c.dst=c.o.dst:=by
 unfold SP at h;have hnext:∀{all:List Oper} {o:Oper} {t:List DI},Bh todo ([],[])=some (all,o,t)->∀f,∃todo',Bh todo f=some (all,o,todo'):=by
  intro all o t h f;rcases HV h with ⟨r,k,rfl,_⟩ | ⟨r,fs,k,rfl,_⟩
  ·exact ⟨_,rfl⟩
  ·exact ⟨_,rfl⟩
 split at h
 ·rename_i all o t h1
  split at h
  ·rename_i f args ts hg ho
   split at h
   ·rename_i ds ob ha hd;cases h;exact ⟨hnext h1,hg,F1 ho ha hob,hd,(λx hx=>by rw [ho] at hx;cases hx),rfl⟩
   ·cases h
  ·rename_i t' args ts hg ho
   split at h
   ·rename_i f ds ob ht ha hd;cases h;exact ⟨hnext h1,hg,EQ ho ht ha hob,hd,(λx hx=>by rw [ho] at hx;cases hx),rfl⟩
   ·rename_i f df dc ds ob ht ha hd;cases h;exact ⟨hnext h1,hg,HM ho ht ha hob,hd,(λx hx=>by rw [ho] at hx;cases hx),rfl⟩
   ·cases h
  ·cases h
 ·cases h
theorem Ad {c:SZ} (σ τ1:List (Nat×Nat)) {fr:List Nat} {nm:List Nat} (h:SP n env todo=some c) (hob:AB c.ob) (hE:AK P c.f (Fp (Ec σ) c.das) st0 (.ret d st1)) (hb:EI σ st st0)
  (hn:KW σ τ1 c.das st0 d st1 fr=true) (hnm:(E9 (Bb σ++τ1) st1++Cs (Fu σ)).map (·.1)=nm) (h1:Bh todo (Fu σ,nm)=some (c.all,c.o,todo')) (hids:ids=fr++ids')
  (hk:G P n F Q todo' (BD c.dst (Jh (Ec (Bb σ++τ1)) d) env) (E9 (Bb σ++τ1) st1++Cs (Fu σ)++st) ids'):G P n F Q todo env st ids:=by
 obtain ⟨_,q2,q3,q4,q5,q6⟩:=Mj (P:=P) h hob;subst hids;rw [q6] at q4 hk;subst hnm;exact B9 h1 (pS q2 q3 hE hb hn) q4 q5 hk
theorem AC {c:SZ} {x:V} {all rest:List Oper} {o:Oper} (σ:List (Nat×Nat)) (h:SP n env (.ops all (o::rest)::k)=some c) (hob:AB c.ob) (hE:AK P c.f (Fp (Ec σ) c.das) st0 (.pan x)) (hb:EI σ st st0)
  (hn:CR σ (Bb σ) (HU c.das)=true) (hq:Kn Q x):DGo P n F Q (.ops all (o::rest)::k) env st ids:=by
 obtain ⟨q1,q2,q3,q4,q5,_⟩:=Mj (P:=P) h hob;obtain ⟨t,ht⟩:=q1 ([],[]);simp only [Bh,BT,AS] at ht;obtain ⟨_,ho,_⟩:=ht;subst ho;intro b cs I μ a w items hd hc;obtain ⟨j,is,rfl,hr,hk⟩:=H9 hd;obtain ⟨hj,_⟩:=D9 hr;have hon:IQ (c.o.looksAt all.toArray) I μ env a:=λt _ d hl=>hc.env t d hl;have hlen:(c.o::rest).length=rest.length+1:=rfl;rw [hlen,NI];refine Fq hj (AG q2) q5 ?_;obtain ⟨xs,h1,h2⟩:=q3 I μ a w (Bd hon) trivial;obtain ⟨p1,p2,p3⟩:=FP hc.toStRep hb hn h1;rw [h2];refine valX.upon ((hE I _ w xs p1 p2).mono (λ_ _ h=>h.elim) λchain w' hp=>?_);obtain ⟨v,y,I',r1,r2,r3,r4,r5⟩:=hp;subst r2
 have hE':Ext I μ st w I' μ [] w':={ imm:=r5.imm,os:=r5.os,tape:=r5.tape,output:=r5.output,size:=r5.size,block:=λb hb ho=>r5.block b hb (λh=>ho (p3 b h)),fresh:=λb hb ⟨i,bi,g,h1,_⟩=>by simp [Az,lk] at h1,old:=λb hb ho=>r5.old b hb (λh=>ho (p3 b h)) }
 exact ⟨.panic y,[],[],[],I',μ,⟨v,r1,r3⟩,hq,JD r4 hc.size (hc.defers.ext hE'),.refl _ _,hE',.refl _ _⟩
end
end Go.Hk
namespace Go.Hk
open Go.Proofs
theorem Fb:Tryz.prog.follows .mixedOrders=true:=by kernel_rfl
def Zo:TT:=[
 (4,⟨.bool,false,1,1,[.imm (.bool false)]⟩),
 (3,⟨.int .i64,false,1,8,[.imm (.int .i64 0)]⟩),
 (9,⟨.str,false,1,16,[.imm (.str [])]⟩),
 (49,⟨.struct [(0,45),(1,3),(2,9),(3,46),(4,47)],true,5,80,[.imm (.int .i64 0),.imm (.int .i64 0),.imm (.str []),.nils,.nils]⟩),
 (25,⟨.struct [(0,22),(1,3),(2,9),(3,23)],true,4,56,[.imm (.int .i64 0),.imm (.int .i64 0),.imm (.str []),.nils]⟩),
 (182,⟨.struct [(0,180),(1,3),(2,9),(3,47)],true,4,56,[.imm (.int .i64 0),.imm (.int .i64 0),.imm (.str []),.nils]⟩),
 (45,⟨.int .i64,false,1,8,[.imm (.int .i64 0)]⟩),
 (47,⟨.sl 182,false,1,24,[.nils]⟩),
 (5,⟨.int .u8,false,1,1,[.imm (.int .u8 0)]⟩),
 (23,⟨.sl 25,false,1,24,[.nils]⟩),
 (22,⟨.int .i64,false,1,8,[.imm (.int .i64 0)]⟩),
 (73,⟨.sl 9,false,1,24,[.nils]⟩),
 (46,⟨.sl 49,false,1,24,[.nils]⟩),
 (180,⟨.int .i64,false,1,8,[.imm (.int .i64 0)]⟩),
 (71,⟨.struct [(0,9),(1,9),(2,25),(6,25),(10,49)],true,15,224,[.imm (.str []),.imm (.str []),.imm (.int .i64 0),.imm (.int .i64 0),.imm (.str []),.nils,.imm (.int .i64 0),.imm (.int .i64 0),.imm (.str []),.nils,.imm (.int .i64 0),.imm (.int .i64 0),.imm (.str []),.nils,.nils]⟩),
 (43,⟨.struct [(0,9),(1,40),(2,41)],true,3,64,[.imm (.str []),.nils,.nils]⟩),
 (178,⟨.struct [(0,9),(1,23)],true,2,40,[.imm (.str []),.nils]⟩),
 (40,⟨.sl 113,false,1,24,[.nils]⟩),
 (41,⟨.sl 71,false,1,24,[.nils]⟩),
 (113,⟨.struct [(0,9),(1,111)],true,2,40,[.imm (.str []),.nils]⟩),
 (111,⟨.sl 178,false,1,24,[.nils]⟩),
 (28,⟨.int .i64,false,1,8,[.imm (.int .i64 0)]⟩)]
theorem BM:TTok Tryz.prog Zo:=.of_eq (l:=[4,3,9,49,25,182,45,47,5,23,22,73,46,180,71,43,178,40,41,113,111,28]) (by kernel_rfl)
def vT:Code->Code
 | .seq _ b=>b
 | _=>.skip
def FV (f:Func):Nat->Code
 | 0=>match f.body with
  | some c=>c
  | none=>.skip
 | k+1=>vT (FV f k)
section
variable {n:Nat} {F:List Nat} {Q:DQ} {env env':Env} {st st':St} {ids ids':List Nat} {k todo:List DI} {ob:List Prop}
theorem kd (path:List Pt) (h:run Zo n 300 path todo env st ids [] = .at k env' st' ids' ob) (hob:AB ob) (hd:G Tryz.prog n F Q k env' st' ids'):DGo Tryz.prog n F Q todo env st ids:=KK BM Fb 300 path h hob hd
theorem B5 (h:run Zo n 300 [] todo env st ids [] = .at k env' st' ids' ob) (hd:G Tryz.prog n F Q k env' st' ids') (hob:AB ob:=by simp):DGo Tryz.prog n F Q todo env st ids:=kd [] h hob hd
theorem kdqc (h:run Zo n 300 [] todo env st ids [] = .at k env' st' ids' ob) (hd:G Tryz.prog n F Q k env' st' ids') (hob:AB ob:=by simp [Am]):DGo Tryz.prog n F Q todo env st ids:=kd [] h hob hd
theorem kg (path:List Pt) (h:run Zo n 300 path todo env st ids [] = .at k env' st' ids' ob) (hob:AB ob) (hd:G Tryz.prog n F Q k env' st' ids'):G Tryz.prog n F Q todo env st ids:=J6 BM Fb 300 path h hob hd
theorem AX (h:run Zo n 300 [] todo env st ids [] = .at k env' st' ids' ob) (hd:G Tryz.prog n F Q k env' st' ids') (hob:AB ob:=by simp):G Tryz.prog n F Q todo env st ids:=kg [] h hob hd
theorem kgqc (h:run Zo n 300 [] todo env st ids [] = .at k env' st' ids' ob) (hd:G Tryz.prog n F Q k env' st' ids') (hob:AB ob:=by simp [Am]):G Tryz.prog n F Q todo env st ids:=kg [] h hob hd
theorem ki {es:List (List V)} {m:Int} {sz:Nat} {e:TypeId} {g:Option (Bool×Bool)} {ob:List Prop} {t:Nat} {todo':List DI} {c:List V} (h:Rh Zo n env todo=some ⟨es,m,sz,e,g,ob,some t,todo'⟩)
  (hc:Am g->0<=m/\es[m.toNat]?=some c/\c.length=sz) (hob:AB ob) (hk:G Tryz.prog n F Q todo' ((t,gD g (.ip e c 0))::env) st ids):G Tryz.prog n F Q todo env st ids:=H5 BM h hc hob hk
end
abbrev Str:=List UInt8
inductive Ty where
 | mk (s n:Int) (x:Str) (ps:List Ty)
mutual
def dTyc:Ty->List V
 | .mk s n x ps=>[.int .i64 s,.int .i64 n,.str x,.sl (A2 ps)]
def A2:List Ty->List (List V)
 | []=>[]
 | t::r=>dTyc t::A2 r
end
inductive Tm where
 | mk (op n:Int) (x:Str) (ks:List Tm) (ps:List Ty)
mutual
def Bo:Tm->List V
 | .mk op n x ks ps=>[.int .i64 op,.int .i64 n,.str x,.sl (E4 ks),.sl (A2 ps)]
def E4:List Tm->List (List V)
 | []=>[]
 | t::r=>Bo t::E4 r
end
structure Cd where
 name:Str
 args:List Ty
structure Dt where
 name:Str
 cons:List Cd
structure Fd where
 name:Str
 param:Str
 from_:Ty
 to_:Ty
 body:Tm
structure Md where
 name:Str
 datas:List Dt
 funs:List Fd
def EY (c:Cd):List V:=[.str c.name,.sl (A2 c.args)]
def CK (d:Dt):List V:=[.str d.name,.sl (d.cons.map EY)]
def CG (f:Fd):List V:=[.str f.name,.str f.param]++dTyc f.from_++dTyc f.to_++Bo f.body
def El (m:Md):List V:=[.str m.name,.sl (m.datas.map CK),.sl (m.funs.map CG)]
def Gg (l:List Str):List (List V):=l.map λs=>[.str s]
theorem Ck:∀l:List Ty,A2 l=l.map dTyc
 | []=>rfl
 | t::r=>by simp [A2,Ck r]
theorem OP:∀l:List Tm,E4 l=l.map Bo
 | []=>rfl
 | t::r=>by simp [E4,OP r]
@[simp] theorem dTys_length (l:List Ty):(A2 l).length=l.length:=by rw [Ck];simp
@[simp] theorem dTms_length (l:List Tm):(E4 l).length=l.length:=by rw [OP];simp
@[simp] theorem dTyc_length (t:Ty):(dTyc t).length=4:=by cases t;rfl
@[simp] theorem dTmc_length (t:Tm):(Bo t).length=5:=by cases t;rfl
@[simp] theorem dStr_length (l:List Str):(Gg l).length=l.length:=by simp [Gg]
theorem A8 {l:List Ty} {i:Nat} {t:Ty} (h:l[i]?=some t):(A2 l)[i]?=some (dTyc t):=by rw [Ck];simp [h]
theorem Fz {l:List Tm} {i:Nat} {t:Tm} (h:l[i]?=some t):(E4 l)[i]?=some (Bo t):=by rw [OP];simp [h]
theorem QH {l:List Str} {i:Nat} {t:Str} (h:l[i]?=some t):(Gg l)[i]?=some [.str t]:=by simp [Gg,h]
theorem Eu (a b:List Ty):A2 (a++b)=A2 a++A2 b:=by simp [Ck]
theorem JC (a b:List Tm):E4 (a++b)=E4 a++E4 b:=by simp [OP]
theorem Od (a b:List Str):Gg (a++b)=Gg a++Gg b:=by simp [Gg]
theorem Av {α:Type} {l:List α} {i:Nat} {t:α} (h:l[i]?=some t):l.drop i=t::l.drop (i+1):=by
 obtain ⟨h1,h2⟩:=AJ.1 h;rw [<- h2];exact List.drop_eq_getElem_cons h1
theorem Be {α:Type} {l:List α} {i:Nat} {t:α} (h:l[i]?=some t):l.take (i+1)=l.take i++[t]:=by
 rw [List.take_add_one,h];rfl
theorem Ao {α:Type} {l:List α} {i:Nat} (h:i<l.length):∃t,l[i]?=some t:=⟨_,Bi h⟩
end Go.Hk
namespace Go.Hk
open Go.Proofs
def BO:List Str->Str->Bool
 | [],_=>false
 | x::r,s=>x == s||BO r s
theorem nX (l:List Str) (s:Str):Al Tryz.prog 38 [.sl (Gg l),.str s] (.bool (BO l s)):=by
 refine B1 λhv=>?_;simp [CL,Fh,maxLen] at hv;refine Ac BM Tryz.func38 (by decide +kernel) rfl [1,2] rfl rfl <| AX rfl <| Ak (λi:Nat=>[(5,.imm (.int .i64 i)),(0,.imm (.sl (Gg l))),(1,.imm (.str s))]) (λ_=>[]) [1] (λi=>l.length-i) (λi=>i<=l.length/\BO l s=BO (l.drop i) s) 0
  ⟨AL _,rfl⟩ AD trivial rfl λi hi ih=>?_
 refine B5 rfl <| Aa rfl (λh=>?_) (λh=>?_)
 ·simp at h;obtain ⟨t,ht⟩:=Ao h;refine B5 rfl <| ki rfl (c:=[.str t]) (λ_=>⟨by simp,by simpa using QH ht,rfl⟩) (by simp) <| AX rfl ?_;have e:=hi.2;rw [Av ht] at e;refine Aa rfl (λh=>?_) (λh=>?_)
  ·refine B5 rfl <| Ab rfl rfl (congrArg _ ?_);rw [e];simp [BO,h]
  ·refine B5 rfl <| Ae (ih (i+1) (by omega) ⟨by omega,by rw [e];simp [BO,h]⟩) ⟨AA (Cb (by omega) (by omega)),AM⟩ trivial rfl
 ·refine B5 rfl <| Ab rfl rfl (congrArg _ ?_);simp at h;rw [hi.2,Br (by omega)];rfl
def ET (s:Str):Bool:=s.all λc=>97<=c&&c<=122
theorem N7 {s:Str} {i:Nat} {c:UInt8} (h:s[i]?=some c):ET (s.drop i)=((97<=c&&c<=122)&&ET (s.drop (i+1))):=by
 rw [Av h];simp [ET]
theorem UL (s:Str) (hs:s.length<=9223372036854775806):Al Tryz.prog 101 [.str s] (.bool (ET s)):=by
 refine Ac BM Tryz.func101 (by decide +kernel) rfl [1,2] rfl rfl <| AX rfl <| Ak (λi:Nat=>[(3,.imm (.int .i64 i)),(0,.imm (.str s))]) (λ_=>[]) [1] (λi=>s.length-i) (λi=>i<=s.length/\ET s=ET (s.drop i)) 0
  ⟨AL _,rfl⟩ AM trivial rfl λi hi ih=>?_
 refine B5 rfl <| Aa rfl (λh=>?_) (λh=>?_)
 ·simp at h;obtain ⟨c,hc⟩:=Ao h;have e:=hi.2;rw [N7 hc] at e;have hg:s[i]?.getD 0=c:=by rw [hc];rfl
  refine kd [] rfl (by simp [h]) <| Aa rfl (λh=>?_) (λh=>?_)
  ·refine B5 rfl <| Ab rfl rfl (congrArg _ ?_);rw [e];simp [hg] at h;simp [UInt8.le_iff_toNat_le];omega
  ·refine B5 rfl <| Ae (ih (i+1) (by omega) ⟨by omega,?_⟩) ⟨AA (Cb (by omega) (by omega)),AI⟩ trivial rfl;rw [e];simp [hg] at h;simp [UInt8.le_iff_toNat_le];omega
 ·refine B5 rfl <| Ab rfl rfl (congrArg _ ?_);simp at h;rw [hi.2,Br (by omega)];rfl
def Ib:List Str:=[[98,111,111,108],[99,101,108,108],[99,104,97,110],[101,108,115,101],[102,97,108,115,101],[102,117,110],[103,101,116],[105,102],[105,110],[105,110,112,117,116],[105,110,116],[106,111,105,110],[108,101,116],[109,97,116,99,104],[109,111,100,117,108,101],[111,117,116],[112,97,117,115,101],[112,117,116],[114,101,115,101,116],[115,101,110,100],[115,104,105,102,116],[115,112,97,119,110],[116,97,107,101],[116,97,115,107],[116,104,101,110],[116,114,117,101],[116,121,112,101],[117,110,105,116]]
theorem VF:Al Tryz.prog 154 [] (.sl (Gg Ib)):=by
 refine Ac BM Tryz.func154 (by decide +kernel) rfl [1,2] rfl rfl <| AX rfl <| Ag ⟨_,rfl,?_,trivial⟩;rfl
def Qf (s:Str):Bool:=BO Ib s
theorem nW (s:Str):Al Tryz.prog 102 [.str s] (.bool (Qf s)):=by
 exact Ac BM Tryz.func102 (by decide +kernel) rfl [1,2] rfl rfl <| AX rfl <| Af rfl VF <| AX rfl <| Aj rfl (λ_=>nX Ib s) (by simp) <| AX rfl <| Ab rfl rfl rfl
def EA (s:Str):Bool:=decide (1<=s.length)&&decide (s.length<=8)&&ET s && !Qf s
def Es (s:Str):Bool:=decide (1<=s.length)&&decide (s.length<=8)&&(65<=s.getD 0 0&&s.getD 0 0<=90)&&ET (s.drop 1)
def F9 (x lo hi:Int):Bool:=decide (lo<=x)&&decide (x<=hi)
theorem HD (s:Str):Al Tryz.prog 37 [.str s] (.bool (EA s)):=by
 refine Ac BM Tryz.func37 (by decide +kernel) rfl [1,2] rfl rfl <| AX rfl <| Aj rfl (v:=.bool (ET s)) (λh=>UL s ?_) (by simp [Am]) ?_
 ·simp [Am] at h;omega
 refine AX rfl <| Aj rfl (v:=.bool (Qf s)) (λh=>nW s) (by simp [Am]) <| AX rfl <| Ab rfl rfl (congrArg _ ?_);simp [EA]
 norm_cast
theorem LZ (x lo hi:Int):Al Tryz.prog 83 [.int .i64 x,.int .i64 lo,.int .i64 hi] (.bool (F9 x lo hi)):=by
 refine Ac BM Tryz.func83 (by decide +kernel) rfl [1,2] rfl rfl <| AX rfl <| Ab rfl rfl (congrArg _ ?_);simp [F9]
theorem JJ (s:Str):Al Tryz.prog 122 [.str s] (.bool (Es s)):=by
 refine Ac BM Tryz.func122 (by decide +kernel) rfl [1,2] rfl rfl <| kg [] rfl (by simp [Am];omega) <| Aj rfl (v:=.bool (ET (s.drop 1))) (λh=>UL _ ?_) (by simp [Am]) ?_
 ·simp [Am] at h;simp;omega
 refine AX rfl <| Ab rfl rfl (congrArg _ ?_);simp [Es,UInt8.le_iff_toNat_le,Yb]
 norm_cast
end Go.Hk
namespace Go.Hk
def Rm (c:UInt8):Bool:=97<=c&&c<=122
def lU (c:UInt8):Bool:=65<=c&&c<=90
def Ml (c:UInt8):Bool:=48<=c&&c<=57
def Rd (p:UInt8->Bool):Str->Nat
 | []=>0
 | c::r=>if p c=true then Rd p r+1 else 0
def G6 (s:Str) (at_:Nat) (d:Bool):Nat:=Rd (if d=true then Ml else Rm) (s.drop at_)
def signsL:List Str:=[[61,62],[61,61],[45,62],[61],[60],[43],[45],[42],[40],[41],[123],[125],[124],[44],[59],[58],[95],[63]]
def Kz (t:Str):List Str->Str
 | []=>[]
 | x::r=>if x.length<=t.length/\t.take x.length=x then x else Kz t r
def RP (s:Str) (at_:Nat):Str:=Kz (s.drop at_) signsL
structure Tok where
 kind:Int
 text:Str
 n:Int
 at_:Int
def GD (t:Tok):List V:=[.int .i64 t.kind,.str t.text,.int .i64 t.n,.int .i64 t.at_]
def SR (s:Str) (a n:Nat):Str:=(s.drop a).take n
def Sj (s:Str) (at_:Nat):Option Tok :=
 if Rm (s.getD at_ 0)=true then
  some ⟨if Qf (SR s at_ (G6 s at_ false))=true then 3 else if (SR s at_ (G6 s at_ false)).length<=8 then 1 else 0,SR s at_ (G6 s at_ false),0,at_⟩
 else if lU (s.getD at_ 0)=true then
  some ⟨if (SR s at_ (1+G6 s (at_+1) false)).length<=8 then 2 else 0,SR s at_ (1+G6 s (at_+1) false),0,at_⟩
 else if Ml (s.getD at_ 0)=true then (if G6 s at_ true=1 then some ⟨4,SR s at_ 1,((s.getD at_ 0).toNat:Int)-48,at_⟩ else none)
 else if s.getD at_ 0=126 then none
 else some ⟨if RP s at_=[] then 0 else 5,RP s at_,0,at_⟩
def QR (c:UInt8):Bool:=c=32||c=9||c=10
def E8 (s:Str) (at_:Nat):Nat:=at_+Rd QR (s.drop at_)
def HO:Nat->Str->Nat->Option (List Tok)
 | 0,_,_=>none
 | f+1,s,a=>if s.length<=a then some [] else if s.getD a 0=47 then none else match Sj s a with
  | some t=>if t.kind=0 then none else match HO f s (E8 s (a+t.text.length)) with
   | some l=>some (t::l)
   | none=>none
  | none=>none
def AQ (l:List Tok) (a:Nat) (s:Str):Bool:=match l[a]? with
 | some t=>(t.kind == 5||t.kind == 3)&&t.text == s
 | none=>false
def Lf (l:List Tok) (a:Nat) (k:Int):Bool:=match l[a]? with
 | some t=>t.kind == k
 | none=>false
def C2 (l:List Tok) (a:Nat):Str:=match l[a]? with
 | some t=>t.text
 | none=>[]
def xK (l:List Tok) (a:Nat):Int:=match l[a]? with
 | some t=>t.n
 | none=>0
def E6 (s:Str):Int×Int :=
 if s=[99,101,108,108] then (16,1) else if s=[103,101,116] then (17,1) else if s=[112,117,116] then (18,2)
 else if s=[115,112,97,119,110] then (19,1) else if s=[106,111,105,110] then (20,1) else if s=[99,104,97,110] then (21,0)
 else if s=[115,101,110,100] then (22,2) else if s=[116,97,107,101] then (23,1) else if s=[111,117,116] then (24,-1)
 else if s=[105,110,112,117,116] then (25,0) else if s=[114,101,115,101,116] then (26,1) else if s=[112,97,117,115,101] then (28,0) else (0,0)
def rR:Str:=[116,114,117,101]
def Wh:Str:=[102,97,108,115,101]
def cU:Str:=[109,97,116,99,104]
def Mt (l:List Tok) (a:Nat):Bool:=match l[a]? with
 | some t=>if t.kind=3 then (decide ((E6 t.text).1≠0)||t.text == rR||t.text == Wh||t.text == cU) else (decide (t.kind≠5)||t.text == [40])
 | none=>false
def oJ (op:Int) (a b:Tm):Tm:=.mk op 0 [] [a,b] []
def after (l:List Tok) (a:Nat) (s:Str) {α:Type} (r:Option α):Option α:=if AQ l a s=true then r else none
def Oz (l:List Tok) (a:Nat) (s:List Str) {α:Type} (r:Option α):Option α:=if s.any (AQ l a)=true then none else r
mutual
def CQ (l:List Tok):Nat->Nat->Option (Tm×Nat)
 | 0,_=>none
 | f+1,a =>
  if AQ l a [102,117,110]=true then
   (if Lf l (a+1) 1=true then after l (a+2) [61,62] ((CQ l f (a+3)).map λr=>(.mk 5 0 (C2 l (a+1)) [r.1] [],r.2)) else none)
  else Oz l a [[115,104,105,102,116]] (if AQ l a [108,101,116]=true then
   (if Lf l (a+1) 1=true then after l (a+2) [61] ((CQ l f (a+3)).bind λr=>after l r.2 [105,110] ((CQ l f (r.2+1)).map λu=>(.mk 7 0 (C2 l (a+1)) [r.1,u.1] [],u.2))) else none)
  else if AQ l a [105,102]=true then
   (CQ l f (a+1)).bind λr=>after l r.2 [116,104,101,110] ((CQ l f (r.2+1)).bind λu=>after l u.2 [101,108,115,101] ((CQ l f (u.2+1)).map λv=>(.mk 8 0 [] [r.1,u.1,v.1] [],v.2)))
  else (X2 l f a).bind λr=>if AQ l r.2 [60]=true then (X2 l f (r.2+1)).map (λu=>(oJ 12 r.1 u.1,u.2)) else Oz l r.2 [[61,61]] (some r))
def X2 (l:List Tok):Nat->Nat->Option (Tm×Nat)
 | 0,_=>none
 | f+1,a=>(X4 l f a).bind λr=>NC l f r.1 r.2
def NC (l:List Tok):Nat->Tm->Nat->Option (Tm×Nat)
 | 0,_,_=>none
 | f+1,t,a=>Oz l a [[42]] (if AQ l a [43]=true then (X4 l f (a+1)).bind λr=>NC l f (oJ 9 t r.1) r.2 else Oz l a [[45]] (some (t,a)))
def X4 (l:List Tok):Nat->Nat->Option (Tm×Nat)
 | 0,_=>none
 | f+1,a=>(P7 l f a).bind λr=>Vj l f r.1 r.2
def Vj (l:List Tok):Nat->Tm->Nat->Option (Tm×Nat)
 | 0,_,_=>none
 | f+1,t,a=>if Mt l a=true then (P7 l f a).bind λr=>Vj l f (oJ 6 t r.1) r.2 else some (t,a)
def P7 (l:List Tok):Nat->Nat->Option (Tm×Nat)
 | 0,_=>none
 | f+1,a =>
  if Lf l a 4=true then some (.mk 1 (xK l a) [] [] [],a+1)
  else if Lf l a 1=true then some (.mk 4 0 (C2 l a) [] [],a+1)
  else if Lf l a 2=true then
   if AQ l (a+1) [40]=true then (KU l f (-1) (a+1)).map λr=>(.mk 14 0 (C2 l a) r.1 [],r.2)
   else some (.mk 14 0 (C2 l a) [] [],a+1)
  else Oz l a [rR,Wh] (if AQ l a cU=true then TA l f (a+1)
  else if AQ l a [40]=true then
   Oz l (a+1) [[41]] ((CQ l f (a+1)).bind λr=>after l r.2 [41] (some (r.1,r.2+1)))
  else if Lf l a 3=true then ZF l f a
  else none)
def ZF (l:List Tok):Nat->Nat->Option (Tm×Nat)
 | 0,_=>none
 | f+1,a =>
  if (E6 (C2 l a)).1=0 then none
  else if 0<(E6 (C2 l a)).2 then (KU l f (E6 (C2 l a)).2 (a+1)).map λr=>(.mk (E6 (C2 l a)).1 0 [] r.1 [],r.2)
  else if (E6 (C2 l a)).2<0 then
   after l (a+1) [40] (if Lf l (a+2) 4=true then after l (a+3) [44] ((CQ l f (a+4)).bind λr=>after l r.2 [41] (some (.mk (E6 (C2 l a)).1 (xK l (a+2)) [] [r.1] [],r.2+1))) else none)
  else some (.mk (E6 (C2 l a)).1 0 [] [] [],a+1)
def KU (l:List Tok):Nat->Int->Nat->Option (List Tm×Nat)
 | 0,_,_=>none
 | f+1,n,a=>after l a [40] ((CQ l f (a+1)).bind λr=>LA l f n [r.1] r.2)
def LA (l:List Tok):Nat->Int->List Tm->Nat->Option (List Tm×Nat)
 | 0,_,_,_=>none
 | f+1,n,out,a =>
  if (n<0/\AQ l a [44]=true)\/(out.length:Int)<n then after l a [44] ((CQ l f (a+1)).bind λr=>LA l f n (out++[r.1]) r.2)
  else after l a [41] (some (out,a+1))
def TA (l:List Tok):Nat->Nat->Option (Tm×Nat)
 | 0,_=>none
 | f+1,a=>(CQ l f a).bind λr=>after l r.2 [123] (LC l f [] [r.1] (r.2+1))
def LC (l:List Tok):Nat->List Ty->List Tm->Nat->Option (Tm×Nat)
 | 0,_,_,_=>none
 | f+1,ps,ks,a=>(X3 l f a).bind λr=>after l r.2 [45,62] ((CQ l f (r.2+1)).bind λu =>
   if AQ l u.2 [124]=true then LC l f (ps++[r.1]) (ks++[u.1]) (u.2+1) else after l u.2 [125] (some (.mk 15 0 [] (ks++[u.1]) (ps++[r.1]),u.2+1)))
def X3 (l:List Tok):Nat->Nat->Option (Ty×Nat)
 | 0,_=>none
 | f+1,a=>Oz l a [[95]] (
  if Lf l a 1=true then some (.mk 2 0 (C2 l a) [],a+1)
  else if Lf l a 4=true then none else Oz l a [rR,Wh,[40]] (if Lf l a 2=true then
   if AQ l (a+1) [40]=true then (MJ l f [] (a+2)).map λr=>(.mk 6 0 (C2 l a) r.1,r.2)
   else some (.mk 6 0 (C2 l a) [],a+1)
  else none))
def MJ (l:List Tok):Nat->List Ty->Nat->Option (List Ty×Nat)
 | 0,_,_=>none
 | f+1,ps,a=>(X3 l f a).bind λr=>if AQ l r.2 [44]=true then MJ l f (ps++[r.1]) (r.2+1) else after l r.2 [41] (some (ps++[r.1],r.2+1))
end
def LB (l:List Tok) (a:Nat):Option (Ty×Nat):=Oz l (a+1) [[45,62]] (
 if AQ l a [105,110,116]=true then some (.mk 1 0 [] [],a+1)
 else if AQ l a [98,111,111,108]=true then some (.mk 2 0 [] [],a+1)
 else if AQ l a [117,110,105,116]=true then some (.mk 3 0 [] [],a+1)
 else Oz l a [[99,101,108,108],[99,104,97,110],[116,97,115,107],[63],[40]] (if Lf l a 2=true then some (.mk 8 0 (C2 l a) [],a+1) else none))
def Sc (l:List Tok):Nat->List Ty->Nat->Option (List Ty×Nat)
 | 0,_,_=>none
 | f+1,ts,a=>(LB l a).bind λr=>if AQ l r.2 [44]=true then Sc l f (ts++[r.1]) (r.2+1) else after l r.2 [41] (some (ts++[r.1],r.2+1))
def Sa (l:List Tok):Nat->List Cd->Nat->Option (List Cd×Nat)
 | 0,_,_=>none
 | f+1,cs,a=>if Lf l a 2=true then
   ((if AQ l (a+1) [40]=true then Sc l f [] (a+2) else some ([],a+1))).bind λr =>
    if AQ l r.2 [124]=true then Sa l f (cs++[⟨C2 l a,r.1⟩]) (r.2+1) else after l r.2 [59] (some (cs++[⟨C2 l a,r.1⟩],r.2+1))
  else none
def ZE (l:List Tok) (f:Nat) (a:Nat):Option (Dt×Nat):=if Lf l a 2=true then after l (a+1) [61] ((Sa l f [] (a+2)).map λr=>(⟨C2 l a,r.1⟩,r.2)) else none
def pB (l:List Tok) (f:Nat) (a:Nat):Option (Fd×Nat) :=
 if Lf l a 1=true then after l (a+1) [40] (if Lf l (a+2) 1=true then after l (a+3) [58] ((LB l (a+4)).bind λr=>after l r.2 [41] (after l (r.2+1) [58] ((LB l (r.2+2)).bind λu =>
  after l u.2 [61] ((CQ l f (u.2+1)).bind λv=>after l v.2 [59] (some (⟨C2 l a,C2 l (a+2),r.1,u.1,v.1⟩,v.2+1)))))) else none) else none
def MK (l:List Tok):Nat->List Dt->Nat->Option (List Dt×Nat)
 | 0,_,_=>none
 | f+1,ds,a=>if AQ l a [116,121,112,101]=true then (ZE l f (a+1)).bind λr=>MK l f (ds++[r.1]) r.2 else some (ds,a)
def RZ (l:List Tok):Nat->List Fd->Nat->Option (List Fd×Nat)
 | 0,_,_=>none
 | f+1,fs,a=>if AQ l a [102,117,110]=true then (pB l f (a+1)).bind λr=>RZ l f (fs++[r.1]) r.2 else some (fs,a)
def T9 (l:List Tok) (f:Nat):Option (Md×Nat):=after l 0 [109,111,100,117,108,101] (if Lf l 1 1=true then after l 2 [123] ((MK l f [] 3).bind λr=>(RZ l f [] r.2).bind λu=>after l u.2 [125] (some (⟨C2 l 1,r.1,u.1⟩,u.2+1))) else none)
def As (n:Int):Ty:=.mk 9 n [] []
def BA:Ty->Int
 | .mk f _ _ _=>f
def num:Ty->Int
 | .mk _ n _ _=>n
def DZ:Ty->List Ty
 | .mk _ _ _ ps=>ps
mutual
def A7 (θ:Int->Ty):Ty->Ty
 | .mk f n x ps=>if f=9 then θ n else .mk f n x (CO θ ps)
def CO (θ:Int->Ty):List Ty->List Ty
 | []=>[]
 | t::r=>A7 θ t::CO θ r
end
mutual
def CA:Ty->List Int
 | .mk f n _ ps=>if f=9 then [n] else Dm ps
def Dm:List Ty->List Int
 | []=>[]
 | t::r=>CA t++Dm r
end
mutual
def Cl:Ty->Bool
 | .mk f n x ps=>((f != 9||(x == []&&ps.length == 0))&&(f == 9||(decide (0<=n)&&decide (n<=1000000))))&&(f != 0&&decide (ps.length<=3))&&FC ps
def FC:List Ty->Bool
 | []=>true
 | t::r=>Cl t&&FC r
end
mutual
def Ek:Ty->Nat
 | .mk _ _ _ ps=>1+Dx ps
def Dx:List Ty->Nat
 | []=>0
 | t::r=>Ek t+Dx r
end
theorem HB (θ:Int->Ty):∀l:List Ty,CO θ l=l.map (A7 θ)
 | []=>rfl
 | t::r=>by simp [CO,HB θ r]
theorem Jm {m:Int}:∀{l:List Ty},m∈Dm l↔∃t∈l,m∈CA t
 | []=>by simp [Dm]
 | t::r=>by simp [Dm,Jm (l:=r)]
theorem U7:∀{l:List Ty},FC l=true↔∀t∈l,Cl t=true
 | []=>by simp [FC]
 | t::r=>by simp [FC,U7 (l:=r)]
theorem Hu (t:Ty):1<=Ek t:=by cases t;simp only [Ek];omega
theorem Pj {t:Ty}:∀{l:List Ty},t∈l->Ek t<=Dx l
 | x::r,h=>by
  simp only [Dx];rcases CC.1 h with rfl | h
  ·omega
  ·have:=Pj h;omega
theorem DC {t:Ty} (h:Cl t=true) (h9:BA t=9):t=As (num t):=by
 obtain ⟨f,n,x,ps⟩:=t;simp only [BA] at h9;subst h9;simp [Cl] at h;obtain ⟨⟨⟨rfl,h2⟩,_⟩,_⟩:=h;subst h2;rfl
theorem Gm {t:Ty} (h:Cl t=true):(DZ t).length<=3:=by
 obtain ⟨f,n,x,ps⟩:=t;simp only [Cl,A1,decide_eq_true_eq] at h;exact h.1.2.2
theorem WW {t:Ty} (h:Cl t=true):BA t≠0:=by
 obtain ⟨f,n,x,ps⟩:=t;simp only [Cl,A1,bne_iff_ne] at h;exact h.1.2.1
theorem DB {t:Ty} (h:Cl t=true):∀p∈DZ t,Cl p=true:=by
 obtain ⟨f,n,x,ps⟩:=t;simp only [Cl,A1] at h;exact U7.1 h.2
theorem CJ (θ:Int->Ty) (n:Int):A7 θ (As n)=θ n:=by simp [As,A7]
theorem Gi {θ:Int->Ty} {t:Ty} (h:BA t=9):A7 θ t=θ (num t):=by
 obtain ⟨f,n,x,ps⟩:=t;simp only [BA] at h;subst h;simp [A7,num]
theorem SW {θ:Int->Ty} {t:Ty} (h:BA t≠9):∃f n x,t = .mk f n x (DZ t)/\f≠9/\A7 θ t = .mk f n x ((DZ t).map (A7 θ)):=by
 obtain ⟨f,n,x,ps⟩:=t;exact ⟨f,n,x,rfl,h,by simp only [A7,if_neg (show ¬f=9 from h),HB,DZ]⟩
mutual
theorem aT:∀t:Ty,Cl t=true->A7 As t=t
 | .mk f n x ps,h=>by
  by_cases e:f=9
  ·subst e;have:=DC h rfl;simp only [num] at this;rw [this];simp [A7,As]
  ·simp only [Cl,A1] at h;simp only [A7,if_neg e,nI ps h.2]
theorem nI:∀l:List Ty,FC l=true->CO As l=l
 | [],_=>rfl
 | t::r,h=>by
  simp only [FC,A1] at h;simp only [CO,aT t h.1,nI r h.2]
end
mutual
theorem Mv (η θ:Int->Ty):∀t:Ty,A7 η (A7 θ t)=A7 (λn=>A7 η (θ n)) t
 | .mk f n x ps=>by
  by_cases e:f=9
  ·simp only [A7,if_pos e]
  ·simp only [A7,if_neg e,WI η θ ps]
theorem WI (η θ:Int->Ty):∀l:List Ty,CO η (CO θ l)=CO (λn=>A7 η (θ n)) l
 | []=>rfl
 | t::r=>by simp only [CO,Mv η θ t,WI η θ r]
end
mutual
theorem F3 {η θ:Int->Ty}:∀t:Ty,(∀m∈CA t,η m=θ m)->A7 η t=A7 θ t
 | .mk f n x ps,h=>by
  by_cases e:f=9
  ·simp only [A7,if_pos e];exact h n (by simp [CA,e])
  ·simp only [A7,if_neg e];rw [SV ps (λm hm=>h m (by simp only [CA,if_neg e];exact hm))]
theorem SV {η θ:Int->Ty}:∀l:List Ty,(∀m∈Dm l,η m=θ m)->CO η l=CO θ l
 | [],_=>rfl
 | t::r,h=>by
  simp only [CO,F3 t (λm hm=>h m (by simp [Dm,hm])),SV r (λm hm=>h m (by simp [Dm,hm]))]
end
mutual
theorem lQ {θ:Int->Ty} {m:Int}:∀t:Ty,m∈CA (A7 θ t)↔∃n∈CA t,m∈CA (θ n)
 | .mk f n x ps=>by
  by_cases e:f=9
  ·simp [A7,CA,e]
  ·simp only [A7,CA,if_neg e];exact ZX ps
theorem ZX {θ:Int->Ty} {m:Int}:∀l:List Ty,m∈Dm (CO θ l)↔∃n∈Dm l,m∈CA (θ n)
 | []=>by simp [Dm,CO]
 | t::r=>by simp only [CO,Dm,BH,lQ t,ZX r];grind
end
mutual
theorem tI {θ:Int->Ty} {n:Int}:∀t:Ty,n∈CA t->Ek (θ n)<=Ek (A7 θ t)
 | .mk f m x ps,h=>by
  by_cases e:f=9
  ·simp only [CA,if_pos e,AO] at h;simp only [A7,if_pos e,h];omega
  ·simp only [CA,if_neg e] at h;have:=Th (θ:=θ) ps h;simp only [A7,if_neg e,Ek];omega
theorem Th {θ:Int->Ty} {n:Int}:∀l:List Ty,n∈Dm l->Ek (θ n)<=Dx (CO θ l)
 | [],h=>by simp [Dm] at h
 | t::r,h=>by
  simp only [Dm,BH] at h;simp only [CO,Dx];rcases h with h | h
  ·have:=tI (θ:=θ) t h;omega
  ·have:=Th (θ:=θ) r h;omega
end
theorem Zu {θ:Int->Ty} {n:Int} {t:Ty} (h9:BA t≠9) (h:n∈CA t):Ek (θ n)<Ek (A7 θ t):=by
 obtain ⟨f,m,x,ps⟩:=t;have e:¬f=9:=h9;simp only [CA,if_neg e] at h;have:=Th (θ:=θ) ps h;simp only [A7,if_neg e,Ek];omega
theorem OD {θ:Int->Ty} {t p:Ty} (h9:BA t≠9) (h:p∈DZ t):Ek (A7 θ p)<Ek (A7 θ t):=by
 obtain ⟨f,m,x,ps⟩:=t;have e:¬f=9:=h9;have:=Pj (TO (f:=A7 θ) h);simp only [A7,if_neg e,Ek,HB,DZ] at *;omega
mutual
theorem U6 {θ:Int->Ty} (hθ:∀n,Cl (θ n)=true):∀t:Ty,Cl t=true->Cl (A7 θ t)=true
 | .mk f n x ps,h=>by
  by_cases e:f=9
  ·simp only [A7,if_pos e];exact hθ n
  ·simp only [Cl,A1] at h;simp only [A7,if_neg e,Cl,A1];exact ⟨⟨⟨by simp [e],h.1.1.2⟩,h.1.2.1,by rw [HB,CW];exact h.1.2.2⟩,fV hθ ps h.2⟩
theorem fV {θ:Int->Ty} (hθ:∀n,Cl (θ n)=true):∀l:List Ty,FC l=true->FC (CO θ l)=true
 | [],_=>rfl
 | t::r,h=>by
  simp only [FC,A1] at h;simp only [CO,FC,A1];exact ⟨U6 hθ t h.1,fV hθ r h.2⟩
end
abbrev Sb:=Int->Option Ty
def Ej (σ:Sb) (n:Int) (t:Ty):Sb:=λm=>if m=n then some t else σ m
def OR (η:Int->Ty) (σ:Sb):Prop:=∀n t,σ n=some t->η n=A7 η t
structure Sol (σ:Sb) (θ:Int->Ty):Prop where
 eq:OR θ σ
 free:∀n,σ n=none->θ n=As n
 wf:∀n t,σ n=some t->Cl t=true
 down:∀n t,σ n=some t->BA t=9->0<=num t/\num t<n
theorem Sol.ind {σ:Sb} {θ:Int->Ty} (h:Sol σ θ) {P:Int->Prop} (hfree:∀n,σ n=none->P n) (hb:∀n t,σ n=some t->(∀m∈CA t,P m)->P n):∀n,P n:=by
 have key:∀(s k:Nat) (n:Int),Ek (θ n)<=s->n.toNat<=k->P n:=by
  intro s
  induction s with
  | zero=>intro k n h1 _;have:=Hu (θ n);omega
  | succ s ihs =>
   intro k
   induction k with
   | zero =>
    intro n h1 h2;cases e:σ n with
    | none=>exact hfree n e
    | some t =>
     refine hb n t e λm hm=>?_;by_cases h9:BA t=9
     ·have:=h.down n t e h9;omega
     ·have:=Zu (θ:=θ) h9 hm;rw [<- h.eq n t e] at this;exact ihs _ m (by omega) (B8 _)
   | succ k ihk =>
    intro n h1 h2;cases e:σ n with
    | none=>exact hfree n e
    | some t =>
     refine hb n t e λm hm=>?_;by_cases h9:BA t=9
     ·have hd:=h.down n t e h9;have hmt:m=num t:=by obtain ⟨f,a,x,ps⟩:=t;simp only [BA] at h9;subst h9;simpa [CA,num] using hm
      have he:=h.eq n t e;rw [Gi h9] at he;subst hmt;exact ihk _ (by rw [<- he];exact h1) (by omega)
     ·have:=Zu (θ:=θ) h9 hm;rw [<- h.eq n t e] at this;exact ihs _ m (by omega) (B8 _)
 intro n;exact key _ _ n (B8 _) (B8 _)
theorem Sol.mgu {σ:Sb} {θ η:Int->Ty} (h:Sol σ θ) (hη:OR η σ) (n:Int):η n=A7 η (θ n):=by
 refine h.ind (P:=λn=>η n=A7 η (θ n)) (λn e=>?_) (λn t e ih=>?_) n
 ·rw [h.free n e,CJ]
 ·rw [hη n t e,h.eq n t e,Mv];exact F3 t ih
theorem Sol.mguT {σ:Sb} {θ η:Int->Ty} (h:Sol σ θ) (hη:OR η σ) (t:Ty):A7 η (A7 θ t)=A7 η t:=by
 rw [Mv];exact F3 t λm _=>(h.mgu hη m).symm
theorem Sol.range {σ:Sb} {θ:Int->Ty} (h:Sol σ θ) (n:Int):∀m∈CA (θ n),σ m=none:=by
 refine h.ind (P:=λn=>∀m∈CA (θ n),σ m=none) (λn e m hm=>?_) (λn t e ih m hm=>?_) n
 ·rw [h.free n e] at hm;simp [As,CA] at hm;rw [hm];exact e
 ·rw [h.eq n t e] at hm;obtain ⟨k,hk,hm⟩:=(lQ t).1 hm;exact ih k hk m hm
theorem Sol.wfθ {σ:Sb} {θ:Int->Ty} (h:Sol σ θ) (n:Int):Cl (θ n)=true:=by
 refine h.ind (P:=λn=>Cl (θ n)=true) (λn e=>by rw [h.free n e];rfl) (λn t e ih=>?_) n;rw [h.eq n t e,F3 (θ:=λm=>if Cl (θ m)=true then θ m else As m) t λm hm=>by rw [if_pos (ih m hm)]];exact U6 (λm=>by split;assumption;rfl) t (h.wf n t e)
theorem Sol.free_id {σ:Sb} {θ θ':Int->Ty} (h:Sol σ θ) (h':∀m,σ m=none->θ' m=As m) (t:Ty):A7 θ' (A7 θ t)=A7 θ t:=by
 rw [Mv];refine F3 t λm _=>?_;rw [F3 (θ:=As) (θ m) λk hk=>h' k (h.range m k hk)];exact aT _ (h.wfθ m)
theorem Sol.unique {σ:Sb} {θ θ':Int->Ty} (h:Sol σ θ) (h':Sol σ θ'):θ=θ':=by
 funext n;have h1:=h.mgu h'.eq n;have h2:=h.free_id h'.free (As n);rw [CJ] at h2;rw [h1,h2]
theorem Sol.bind {σ:Sb} {θ:Int->Ty} (h:Sol σ θ) {n:Int} {t:Ty} (hn:σ n=none) (ht:Cl t=true) (hd:BA t=9->0<=num t/\num t<n) (ho:n∉CA (A7 θ t)) :
  Sol (Ej σ n t) (λm=>A7 (λk=>if k=n then A7 θ t else As k) (θ m)):=by
 have hfix:A7 (λk=>if k=n then A7 θ t else As k) (A7 θ t)=A7 θ t:=by
  rw [F3 (θ:=As) (A7 θ t) λk hk=>by
   by_cases e:k=n
   ·exact absurd (e ▸ hk) ho
   ·rw [if_neg e]]
  exact aT _ (U6 h.wfθ t ht)
 refine ⟨λm u hu=>?_,λm hm=>?_,λm u hu=>?_,λm u hu=>?_⟩
 ·simp only [Ej] at hu;rw [<- Mv];by_cases e:m=n
  ·rw [if_pos e] at hu;subst e;cases hu;rw [h.free m hn,CJ,if_pos rfl,hfix]
  ·rw [if_neg e] at hu;rw [h.eq m u hu]
 ·simp only [Ej] at hm;by_cases e:m=n
  ·rw [if_pos e] at hm;cases hm
  ·rw [if_neg e] at hm;rw [h.free m hm,CJ,if_neg e]
 ·simp only [Ej] at hu;by_cases e:m=n
  ·rw [if_pos e] at hu;cases hu;exact ht
  ·rw [if_neg e] at hu;exact h.wf m u hu
 ·simp only [Ej] at hu;by_cases e:m=n
  ·rw [if_pos e] at hu;cases hu;rw [e];exact hd
  ·rw [if_neg e] at hu;exact h.down m u hu
theorem oR {η:Int->Ty} {σ:Sb} {n:Int} {t:Ty} (hn:σ n=none):OR η (Ej σ n t)↔OR η σ/\η n=A7 η t:=by
 constructor
 ·intro h;refine ⟨λm u hu=>h m u ?_,h n t (by simp [Ej])⟩;simp only [Ej];rw [if_neg (λe=>by rw [e,hn] at hu;cases hu)];exact hu
 ·rintro ⟨h1,h2⟩ m u hu;simp only [Ej] at hu;by_cases e:m=n
  ·rw [if_pos e] at hu;cases hu;rw [e];exact h2
  ·rw [if_neg e] at hu;exact h1 m u hu
theorem Sol.never {σ:Sb} {θ η:Int->Ty} (h:Sol σ θ) (hη:OR η σ) {n:Int} {t:Ty} (h9:BA t≠9) (ho:n∈CA (A7 θ t)):η n≠A7 η t:=by
 intro e;have h1:=h.mguT hη t;have h9':BA (A7 θ t)≠9:=by
  obtain ⟨f,m,x,_,hf,e2⟩:=SW (θ:=θ) h9;rw [e2];exact hf
 have:=Zu (θ:=η) h9' ho;rw [h1,e] at this;omega
inductive Top (σ:Sb):Ty->Ty->Prop
 | stop {t:Ty}:(BA t=9->σ (num t)=none)->Top σ t t
 | step {t u v:Ty}:BA t=9->σ (num t)=some u->Top σ u v->Top σ t v
theorem Top.end_ {σ:Sb} {t u:Ty} (h:Top σ t u):BA u=9->σ (num u)=none:=by
 induction h with
 | stop h=>exact h
 | step _ _ _ ih=>exact ih
theorem Top.ap {σ:Sb} {η:Int->Ty} (hη:OR η σ) {t u:Ty} (h:Top σ t u):A7 η t=A7 η u:=by
 induction h with
 | stop _=>rfl
 | step h9 hs _ ih=>rw [Gi h9,hη _ _ hs,ih]
theorem Top.wf {σ:Sb} {θ:Int->Ty} (hσ:Sol σ θ) {t u:Ty} (h:Top σ t u) (ht:Cl t=true):Cl u=true:=by
 induction h with
 | stop _=>exact ht
 | step _ hs _ ih=>exact ih (hσ.wf _ _ hs)
theorem Zp {σ:Sb} {θ:Int->Ty} (hσ:Sol σ θ):∀(k:Nat) (t:Ty),(BA t=9->(num t).toNat<k)->∃u,Top σ t u
 | 0,t,h=>⟨t,.stop λh9=>absurd (h h9) (by omega)⟩
 | k+1,t,h=>by
  by_cases h9:BA t=9
  ·cases e:σ (num t) with
   | none=>exact ⟨t,.stop λ_=>e⟩
   | some u =>
    obtain ⟨v,hv⟩:=Zp hσ k u λhu=>by have:=hσ.down _ u e hu;have:=h h9;omega
    exact ⟨v,.step h9 e hv⟩
  ·exact ⟨t,.stop λh=>absurd h h9⟩
theorem Ja {σ:Sb} {θ:Int->Ty} (hσ:Sol σ θ) (t:Ty):∃u,Top σ t u:=Zp hσ ((num t).toNat+1) t λ_=>by omega
theorem Tg {σ:Sb} {t u v:Ty} (h:Top σ t u) (h':Top σ t v):u=v:=by
 induction h with
 | stop h =>
  cases h' with
  | stop=>rfl
  | step h9 hs _=>rw [h h9] at hs;cases hs
 | step h9 hs _ ih =>
  cases h' with
  | stop h=>rw [h h9] at hs;cases hs
  | step _ hs' h'=>rw [hs] at hs';cases hs';exact ih h'
theorem UC {σ:Sb} {t u:Ty} (h:Top σ t u):Top σ u u:=.stop h.end_
def fJ (σ:Sb) (n:Int) (t:Ty):Prop:=∃θ,Sol σ θ/\n∈CA (A7 θ t)
theorem Sol.occ {σ:Sb} {θ:Int->Ty} (h:Sol σ θ) {n:Int} {t:Ty}:fJ σ n t↔n∈CA (A7 θ t) :=
 ⟨λ⟨_,h1,h2⟩=>by rw [h.unique h1];exact h2,λh1=>⟨θ,h,h1⟩⟩
def WR:Ty->Str
 | .mk _ _ x _=>x
def EG (a b:Ty):Prop:=BA a=BA b/\num a=num b/\WR a=WR b/\(DZ a).length=(DZ b).length
def Kx (E:Sb->Ty->Ty->Option Sb->Prop):Sb->List Ty->List Ty->Option Sb->Prop
 | σ,[],[],r=>r=some σ
 | σ,a::xs,b::ys,r=>(E σ a b none/\r=none)\/∃σ',E σ a b (some σ')/\Kx E σ' xs ys r
 | _,_,_,_=>False
def CZ (E:Sb->Ty->Ty->Option Sb->Prop) (σ:Sb) (u v:Ty) (r:Option Sb):Prop :=
 (BA u=9/\BA v=9/\num u=num v/\r=some σ) \/
 (BA u=9/\BA v=9/\num u≠num v/\r=some (Ej σ (max (num u) (num v)) (As (min (num u) (num v))))) \/
 (BA u=9/\BA v≠9/\fJ σ (num u) v/\r=none)\/(BA u=9/\BA v≠9/\¬fJ σ (num u) v/\r=some (Ej σ (num u) v)) \/
 (BA u≠9/\BA v=9/\fJ σ (num v) u/\r=none)\/(BA u≠9/\BA v=9/\¬fJ σ (num v) u/\r=some (Ej σ (num v) u)) \/
 (BA u≠9/\BA v≠9/\¬EG u v/\r=none)\/(BA u≠9/\BA v≠9/\EG u v/\Kx E σ (DZ u) (DZ v) r)
def M4:Nat->Sb->Ty->Ty->Option Sb->Prop
 | 0,_,_,_,_=>False
 | k+1,σ,a,b,r=>∃u v,Top σ a u/\Top σ b v/\CZ (M4 k) σ u v r
theorem Nd {E E':Sb->Ty->Ty->Option Sb->Prop} (h:∀σ a b r,E σ a b r->E' σ a b r):∀{xs ys:List Ty} {σ:Sb} {r:Option Sb},Kx E σ xs ys r->Kx E' σ xs ys r
 | [],[],_,_,hr=>hr
 | a::xs,b::ys,σ,r,hr=>by
  rcases hr with ⟨h1,h2⟩ | ⟨σ',h1,h2⟩
  ·exact .inl ⟨h _ _ _ _ h1,h2⟩
  ·exact .inr ⟨σ',h _ _ _ _ h1,Nd h h2⟩
 | [],_::_,_,_,hr=>hr.elim
 | _::_,[],_,_,hr=>hr.elim
theorem YW {E E':Sb->Ty->Ty->Option Sb->Prop} (h:∀σ a b r,E σ a b r->E' σ a b r) {σ:Sb} {u v:Ty} {r:Option Sb} (hr:CZ E σ u v r):CZ E' σ u v r:=by
 rcases hr with hr | hr | hr | hr | hr | hr | hr | ⟨h1,h2,h3,h4⟩
 ·exact .inl hr
 ·exact .inr (.inl hr)
 ·exact .inr (.inr (.inl hr))
 ·exact .inr (.inr (.inr (.inl hr)))
 ·exact .inr (.inr (.inr (.inr (.inl hr))))
 ·exact .inr (.inr (.inr (.inr (.inr (.inl hr)))))
 ·exact .inr (.inr (.inr (.inr (.inr (.inr (.inl hr))))))
 ·exact .inr (.inr (.inr (.inr (.inr (.inr (.inr ⟨h1,h2,h3,Nd h h4⟩))))))
theorem Wo:∀(k:Nat) (σ:Sb) (a b:Ty) (r:Option Sb),M4 k σ a b r->M4 (k+1) σ a b r
 | 0,_,_,_,_,h=>h.elim
 | k+1,σ,a,b,r,⟨u,v,h1,h2,h3⟩=>⟨u,v,h1,h2,YW (Wo k) h3⟩
theorem Mf {k j:Nat} (h:k<=j) {σ:Sb} {a b:Ty} {r:Option Sb} (hr:M4 k σ a b r):M4 j σ a b r:=by
 induction h with
 | refl=>exact hr
 | step _ ih=>exact Wo _ _ _ _ _ ih
def inB (H:Int) (t:Ty):Prop:=∀m∈CA t,0<=m/\m<H
def Dom (H:Int) (σ:Sb):Prop:=∀n t,σ n=some t->(0<=n/\n<H)/\inB H t
theorem inB.part {H:Int} {t p:Ty} (h:inB H t) (h9:BA t≠9) (hp:p∈DZ t):inB H p:=λm hm=>h m (by
 obtain ⟨f,n,x,ps⟩:=t;simp only [CA,if_neg (show ¬f=9 from h9)];exact Jm.2 ⟨p,hp,hm⟩)
theorem inB.num {H:Int} {t:Ty} (h:inB H t) (h9:BA t=9):0<=num t/\num t<H:=h _ (by
 obtain ⟨f,n,x,ps⟩:=t;simp only [BA] at h9;subst h9;simp [CA,Go.Hk.num])
theorem If {H n:Int} (h:0<=n/\n<H):inB H (As n):=λm hm=>by
 simp [As,CA] at hm;rw [hm];exact h
theorem Top.inB {H:Int} {σ:Sb} (hd:Dom H σ) {t u:Ty} (h:Top σ t u) (ht:Go.Hk.inB H t):Go.Hk.inB H u:=by
 induction h with
 | stop _=>exact ht
 | step _ hs _ ih=>exact ih (hd _ _ hs).2
theorem Dom.set {H:Int} {σ:Sb} (hd:Dom H σ) {n:Int} {t:Ty} (hn:0<=n/\n<H) (ht:inB H t):Dom H (Ej σ n t):=λm u hu=>by
 simp only [Ej] at hu;by_cases e:m=n
 ·rw [if_pos e] at hu;cases hu;rw [e];exact ⟨hn,ht⟩
 ·rw [if_neg e] at hu;exact hd m u hu
def RD (H:Nat) (σ:Sb):Nat:=((List.range H).filter λi:Nat=>(σ (i:Int)).isNone).length
theorem SH {α:Type} {p q:α->Bool}:∀{l:List α},(∀x∈l,q x=true->p x=true)->(∃x∈l,p x=true/\q x=false)->(l.filter q).length<(l.filter p).length
 | [],_,⟨_,h,_⟩=>by cases h
 | y::r,h,hx=>by
  have hle:(r.filter q).length<=(r.filter p).length:=by
   clear hx;have h':∀x∈r,q x=true->p x=true:=λx hx=>h x (by simp [hx]);clear h
   induction r with
   | nil=>simp
   | cons z r ih =>
    have:=ih λx hx=>h' x (by simp [hx]);simp only [Ya];cases e:q z with
    | true=>rw [h' z (by simp) e];simp;omega
    | false=>simp only [Eo,if_false];split <;> simp <;> omega
  simp only [Ya];obtain ⟨x,hx,h1,h2⟩:=hx;by_cases e:x=y
  ·subst e;rw [h1,h2];simp;omega
  ·have:=SH (l:=r) (λx hx=>h x (by simp [hx])) ⟨x,(CC.1 hx).resolve_left e,h1,h2⟩;cases eq:q y with
   | true=>rw [h y (by simp) eq];simp;omega
   | false=>simp only [Eo,if_false];split <;> simp <;> omega
theorem oH {H:Nat} {σ:Sb} {n:Int} {t:Ty} (hn:σ n=none) (h:0<=n/\n<(H:Int)):RD H (Ej σ n t)<RD H σ:=by
 refine SH (λi hi hq=>?_) ⟨n.toNat,by simp;omega,?_,?_⟩
 ·simp only [Ej] at hq
  split at hq
  ·simp at hq
  ·exact hq
 ·rw [show ((n.toNat:Nat):Int)=n by omega,hn];rfl
 ·rw [show ((n.toNat:Nat):Int)=n by omega];simp [Ej]
def rH (H:Nat) (σ:Sb) (a b:Ty):Option Sb->Prop
 | some σ'=>(∃θ',Sol σ' θ')/\Dom H σ'/\(σ'=σ\/RD H σ'<RD H σ)/\∀η,OR η σ'↔OR η σ/\A7 η a=A7 η b
 | none=>∀η,OR η σ->A7 η a≠A7 η b
def wW (H:Nat) (σ:Sb) (xs ys:List Ty):Option Sb->Prop
 | some σ'=>(∃θ',Sol σ' θ')/\Dom H σ'/\(σ'=σ\/RD H σ'<RD H σ)/\∀η,OR η σ'↔OR η σ/\xs.map (A7 η)=ys.map (A7 η)
 | none=>∀η,OR η σ->xs.map (A7 η)≠ys.map (A7 η)
theorem Wn {H:Nat} {L:Ty->Prop} (σ0:Sb) (U:Nat) (hE:∀σ θ a b,Sol σ θ->Dom H σ->RD H σ<=U->(RD H σ=U->σ=σ0/\L a)->Cl a=true->Cl b=true->inB H a->inB H b->∃k r,M4 k σ a b r/\rH H σ a b r) :
  ∀(xs ys:List Ty) (σ:Sb) (θ:Int->Ty),xs.length=ys.length->Sol σ θ->Dom H σ->RD H σ<=U->(RD H σ=U->σ=σ0/\∀a∈xs,L a)->(∀a∈xs,Cl a=true/\inB H a)->(∀b∈ys,Cl b=true/\inB H b) ->
   ∃k r,Kx (M4 k) σ xs ys r/\wW H σ xs ys r
 | [],[],σ,θ,_,hs,hd,_,_,_,_=>⟨0,some σ,rfl,⟨θ,hs⟩,hd,.inl rfl,λη=>by simp⟩
 | a::xs,b::ys,σ,θ,hl,hs,hd,hu,hL,ha,hb=>by
  obtain ⟨k,r,h1,h2⟩:=hE σ θ a b hs hd hu (λe=>⟨(hL e).1,(hL e).2 a (by simp)⟩) (ha a (by simp)).1 (hb b (by simp)).1 (ha a (by simp)).2 (hb b (by simp)).2;cases r with
  | none=>exact ⟨k,none,.inl ⟨h1,rfl⟩,λη hη e=>h2 η hη (by simp at e;exact e.1)⟩
  | some σ' =>
   obtain ⟨⟨θ',g1⟩,g2,g3,g4⟩:=h2;obtain ⟨j,r',h3,h4⟩:=Wn σ0 U hE xs ys σ' θ' (by simpa using hl) g1 g2 (by rcases g3 with rfl | g3 <;> omega) (λe=>by
    rcases g3 with rfl | g3
    ·exact ⟨(hL e).1,λx hx=>(hL e).2 x (by simp [hx])⟩
    ·omega) (λx hx=>ha x (by simp [hx])) (λx hx=>hb x (by simp [hx]))
   refine ⟨max k j,r',.inr ⟨σ',Mf (Nat.le_max_left _ _) h1,Nd (λ_ _ _ _ h=>Mf (Nat.le_max_right _ _) h) h3⟩,?_⟩;cases r' with
   | none =>
    intro η hη e;simp only [Cz,Ep] at e;exact h4 η ((g4 η).2 ⟨hη,e.1⟩) e.2
   | some σ2 =>
    obtain ⟨q1,q2,q3,q4⟩:=h4;refine ⟨q1,q2,?_,λη=>?_⟩
    ·rcases q3 with rfl | q3
     ·exact g3
     ·rcases g3 with rfl | g3
      ·exact .inr q3
      ·exact .inr (by omega)
    ·rw [q4 η,g4 η,and_assoc];simp only [Cz,Ep]
theorem Um (H:Nat):∀(U s:Nat) (σ:Sb) (θ:Int->Ty) (a b:Ty),Sol σ θ->Dom H σ->RD H σ<=U->(RD H σ=U->Ek (A7 θ a)<=s)->Cl a=true->Cl b=true->inB H a->inB H b->∃k r,M4 k σ a b r/\rH H σ a b r:=by
 intro U
 induction U using Nat.strongRecOn with
 | ind U ihU =>
 intro s
 induction s with
 | zero =>
  intro σ θ a b hs hd hu hz ha hb ia ib;by_cases e:RD H σ=U
  ·have:=hz e;have:=Hu (A7 θ a);omega
  ·exact ihU (RD H σ) (by omega) (Ek (A7 θ a)) σ θ a b hs hd (B8 _) (λ_=>B8 _) ha hb ia ib
 | succ s ihs =>
  intro σ θ a b hs hd hu hz ha hb ia ib;by_cases e:RD H σ=U
  case neg=>exact ihU (RD H σ) (by omega) (Ek (A7 θ a)) σ θ a b hs hd (B8 _) (λ_=>B8 _) ha hb ia ib
  have hz:=hz e;obtain ⟨u,hu1⟩:=Ja hs a;obtain ⟨v,hv1⟩:=Ja hs b;have wu:=hu1.wf hs ha;have wv:=hv1.wf hs hb;have iu:=hu1.inB hd ia;have iv:=hv1.inB hd ib;have au:=λ{η} (hη:OR η σ)=>hu1.ap hη;have av:=λ{η} (hη:OR η σ)=>hv1.ap hη;have one:∀{n:Int} {t:Ty},σ n=none->0<=n/\n<(H:Int)->Cl t=true->(BA t=9->0<=num t/\num t<n)->n∉CA (A7 θ t)->inB H t->(∀η,OR η σ->(η n=A7 η t↔A7 η a=A7 η b))->rH H σ a b (some (Ej σ n t)):=λhn hr ht h9 ho hi hη =>
   ⟨⟨_,hs.bind hn ht h9 ho⟩,hd.set hr hi,.inr (oH hn hr),λη=>by rw [oR hn];exact ⟨λ⟨h1,h2⟩=>⟨h1,(hη η h1).1 h2⟩,λ⟨h1,h2⟩=>⟨h1,(hη η h1).2 h2⟩⟩⟩
  by_cases u9:BA u=9
  ·have un:=hu1.end_ u9;by_cases v9:BA v=9
   ·have vn:=hv1.end_ v9;by_cases en:num u=num v
    ·refine ⟨1,some σ,⟨u,v,hu1,hv1,.inl ⟨u9,v9,en,rfl⟩⟩,⟨θ,hs⟩,hd,.inl rfl,λη=>⟨λh=>⟨h,?_⟩,λh=>h.1⟩⟩;rw [au h,av h,Gi u9,Gi v9,en]
    ·have bu:=iu.num u9;have bv:=iv.num v9;refine ⟨1,_,⟨u,v,hu1,hv1,.inr (.inl ⟨u9,v9,en,rfl⟩)⟩,one ?_ (by omega) rfl (λ_=>by show 0<=min (num u) (num v)/\min (num u) (num v)<max (num u) (num v);omega) ?_ (If (by omega)) λη hη=>?_⟩
     ·rcases XZ (num u) (num v) with h | h
      ·rw [XY h];exact vn
      ·rw [XX h];exact un
     ·rw [CJ];have:θ (min (num u) (num v))=As (min (num u) (num v)):=by
       rcases XZ (num u) (num v) with h | h
       ·rw [XW h];exact hs.free _ un
       ·rw [XV h];exact hs.free _ vn
      rw [this];simp [As,CA];omega
     ·rw [au hη,av hη,Gi u9,Gi v9,CJ];rcases XZ (num u) (num v) with h | h
      ·rw [XY h,XW h];exact eq_comm
      ·rw [XX h,XV h]
   ·by_cases ho:fJ σ (num u) v
    ·refine ⟨1,none,⟨u,v,hu1,hv1,.inr (.inr (.inl ⟨u9,v9,ho,rfl⟩))⟩,λη hη e=>?_⟩;rw [au hη,av hη,Gi u9] at e;exact hs.never hη v9 (hs.occ.1 ho) e
    ·refine ⟨1,_,⟨u,v,hu1,hv1,.inr (.inr (.inr (.inl ⟨u9,v9,ho,rfl⟩)))⟩,one un (iu.num u9) wv (λh=>absurd h v9) (λh=>ho (hs.occ.2 h)) iv λη hη=>?_⟩;rw [au hη,av hη,Gi u9]
  ·by_cases v9:BA v=9
   ·have vn:=hv1.end_ v9;by_cases ho:fJ σ (num v) u
    ·refine ⟨1,none,⟨u,v,hu1,hv1,.inr (.inr (.inr (.inr (.inl ⟨u9,v9,ho,rfl⟩))))⟩,λη hη e=>?_⟩;rw [au hη,av hη,Gi v9] at e;exact hs.never hη u9 (hs.occ.1 ho) e.symm
    ·refine ⟨1,_,⟨u,v,hu1,hv1,.inr (.inr (.inr (.inr (.inr (.inl ⟨u9,v9,ho,rfl⟩)))))⟩,one vn (iv.num v9) wu (λh=>absurd h u9) (λh=>ho (hs.occ.2 h)) iu λη hη=>?_⟩;rw [au hη,av hη,Gi v9];exact eq_comm
   ·obtain ⟨f,n,x,e1,hf,e2⟩:=SW (θ:=θ) u9;have heq:∀η,OR η σ->(A7 η a=A7 η b↔(BA u=BA v/\num u=num v/\WR u=WR v)/\(DZ u).map (A7 η)=(DZ v).map (A7 η)):=λη hη=>by
     rw [au hη,av hη];obtain ⟨f1,n1,x1,ps1⟩:=u;obtain ⟨f2,n2,x2,ps2⟩:=v;simp only [A7,if_neg (show ¬f1=9 from u9),if_neg (show ¬f2=9 from v9),HB,BA,num,DZ,WR,Ty.mk.injEq];grind
    by_cases hh:EG u v
    ·have au':Ek (A7 θ u)<=s+1:=by rw [<- au hs.eq];exact hz
     obtain ⟨k,r,h1,h2⟩:=Wn (L:=λp=>Ek (A7 θ p)<=s) σ U (λσ' θ' a' b' s' d' u' l' wa wb ia' ib'=>by
      by_cases e':RD H σ'=U
      ·obtain ⟨rfl,hL⟩:=l' e';obtain rfl:=s'.unique hs;exact ihs σ' θ' a' b' s' d' u' (λ_=>hL) wa wb ia' ib'
      ·exact ihU (RD H σ') (by omega) (Ek (A7 θ' a')) σ' θ' a' b' s' d' (B8 _) (λ_=>B8 _) wa wb ia' ib') (DZ u) (DZ v) σ θ hh.2.2.2 hs hd hu (λ_=>⟨rfl,λp hp=>by have:=OD (θ:=θ) u9 hp;omega⟩)
      (λp hp=>⟨DB wu p hp,iu.part u9 hp⟩) (λp hp=>⟨DB wv p hp,iv.part v9 hp⟩)
     refine ⟨k+1,r,⟨u,v,hu1,hv1,.inr (.inr (.inr (.inr (.inr (.inr (.inr ⟨u9,v9,hh,h1⟩))))))⟩,?_⟩;cases r with
     | none=>exact λη hη e=>h2 η hη ((heq η hη).1 e).2
     | some σ' =>
      obtain ⟨q1,q2,q3,q4⟩:=h2;exact ⟨q1,q2,q3,λη=>by rw [q4 η];exact ⟨λ⟨h1,h2⟩=>⟨h1,(heq η h1).2 ⟨⟨hh.1,hh.2.1,hh.2.2.1⟩,h2⟩⟩,λ⟨h1,h2⟩=>⟨h1,((heq η h1).1 h2).2⟩⟩⟩
    ·refine ⟨1,none,⟨u,v,hu1,hv1,.inr (.inr (.inr (.inr (.inr (.inr (.inl ⟨u9,v9,hh,rfl⟩))))))⟩,λη hη e=>hh ?_⟩;obtain ⟨⟨h1,h2,h3⟩,h4⟩:=(heq η hη).1 e;exact ⟨h1,h2,h3,by simpa using congrArg List.length h4⟩
def Agr (k:Int) (η η':Int->Ty):Prop:=∀n,n<k->η' n=η n
theorem Agr.refl (k:Int) (η:Int->Ty):Agr k η η:=λ_ _=>rfl
theorem Agr.trans {k k1:Int} {a b c:Int->Ty} (h:Agr k a b) (h':Agr k1 b c) (hk:k<=k1):Agr k a c:=λn hn=>(h' n (by omega)).trans (h n hn)
theorem Agr.ap {k:Int} {η η':Int->Ty} (h:Agr k η η') {t:Ty} (ht:inB k t):A7 η' t=A7 η t:=F3 t λm hm=>h m (ht m hm).2
theorem Agr.slv {k:Int} {η η':Int->Ty} (h:Agr k η η') {σ:Sb} (hd:Dom k σ) (hs:OR η σ):OR η' σ:=λn t hn=>by
 obtain ⟨⟨_,h2⟩,h3⟩:=hd n t hn;rw [h n h2,h.ap h3,hs n t hn]
theorem inB.mono {k k':Int} {t:Ty} (h:inB k t) (hk:k<=k'):inB k' t:=λm hm=>⟨(h m hm).1,by have:=(h m hm).2;omega⟩
theorem Dom.mono {k k':Int} {σ:Sb} (h:Dom k σ) (hk:k<=k'):Dom k' σ:=λn t hn=>by
 obtain ⟨⟨h1,h2⟩,h3⟩:=h n t hn;exact ⟨⟨h1,by omega⟩,h3.mono hk⟩
def StOk (k:Int) (σ:Sb):Prop:=0<=k/\Dom k σ/\∃θ,Sol σ θ
def StpR (k:Int) (σ:Sb) (k':Int) (σ':Sb) {β:Type} (v:(Int->Ty)->β) (G:(Int->Ty)->β->Prop):Prop :=
 k<=k'/\StOk k' σ'/\(∀η,OR η σ'->OR η σ/\G η (v η))/\∀η w,OR η σ->G η w->∃η',Agr k η η'/\OR η' σ'/\v η'=w
def StpN (σ:Sb) {β:Type} (G:(Int->Ty)->β->Prop):Prop:=∀η w,OR η σ->¬G η w
theorem StpR.bind {k k1 k2:Int} {σ σ1 σ2:Sb} {β β1 β2:Type} {v:(Int->Ty)->β} {v1:(Int->Ty)->β1} {v2:(Int->Ty)->β2} {G:(Int->Ty)->β->Prop} {G1:(Int->Ty)->β1->Prop} {G2:(Int->Ty)->β2->Prop}
  (h1:StpR k σ k1 σ1 v1 G1) (h2:StpR k1 σ1 k2 σ2 v2 G2) (hs:∀η,G1 η (v1 η)->G2 η (v2 η)->G η (v η))
  (hc:∀η w,G η w->∃w1,G1 η w1/\∀η1,Agr k η η1->v1 η1=w1->∃w2,G2 η1 w2/\∀η2,Agr k1 η1 η2->Agr k η η2->v2 η2=w2->v η2=w):StpR k σ k2 σ2 v G:=by
 obtain ⟨a1,a2,a3,a4⟩:=h1;obtain ⟨b1,b2,b3,b4⟩:=h2;refine ⟨by omega,b2,λη h=>?_,λη w hη hG=>?_⟩
 ·obtain ⟨c1,c2⟩:=b3 η h;obtain ⟨d1,d2⟩:=a3 η c1;exact ⟨d1,hs η d2 c2⟩
 ·obtain ⟨w1,e1,e2⟩:=hc η w hG;obtain ⟨η1,f1,f2,f3⟩:=a4 η w1 hη e1;obtain ⟨w2,g1,g2⟩:=e2 η1 f1 f3;obtain ⟨η2,l1,l2,l3⟩:=b4 η1 w2 f2 g1;exact ⟨η2,f1.trans l1 a1,l2,g2 η2 l1 (f1.trans l1 a1) l3⟩
theorem StpN.first {σ:Sb} {β β1:Type} {G:(Int->Ty)->β->Prop} {G1:(Int->Ty)->β1->Prop} (h1:StpN σ G1) (hc:∀η w,G η w->∃w1,G1 η w1):StpN σ G:=λη w hη hG=>by
 obtain ⟨w1,h⟩:=hc η w hG;exact h1 η w1 hη h
theorem StpN.second {k k1:Int} {σ σ1:Sb} {β β1 β2:Type} {v1:(Int->Ty)->β1} {G:(Int->Ty)->β->Prop} {G1:(Int->Ty)->β1->Prop} {G2:(Int->Ty)->β2->Prop} (h1:StpR k σ k1 σ1 v1 G1) (h2:StpN σ1 G2)
  (hc:∀η w,G η w->∃w1,G1 η w1/\∀η1,Agr k η η1->v1 η1=w1->∃w2,G2 η1 w2):StpN σ G:=λη w hη hG=>by
 obtain ⟨w1,e1,e2⟩:=hc η w hG;obtain ⟨η1,f1,f2,f3⟩:=h1.2.2.2 η w1 hη e1;obtain ⟨w2,g⟩:=e2 η1 f1 f3;exact h2 η1 w2 f2 g
theorem StpR.weaken {k k1:Int} {σ σ1:Sb} {β β':Type} {v:(Int->Ty)->β} {v':(Int->Ty)->β'} {G:(Int->Ty)->β->Prop} {G':(Int->Ty)->β'->Prop} (h:StpR k σ k1 σ1 v G) (hs:∀η,G η (v η)->G' η (v' η)) (hc:∀η w',G' η w'->∃w,G η w/\∀η',Agr k η η'->v η'=w->v' η'=w'):StpR k σ k1 σ1 v' G':=by
 obtain ⟨a1,a2,a3,a4⟩:=h;refine ⟨a1,a2,λη h=>⟨(a3 η h).1,hs η (a3 η h).2⟩,λη w' hη hG=>?_⟩;obtain ⟨w,e1,e2⟩:=hc η w' hG;obtain ⟨η',f1,f2,f3⟩:=a4 η w hη e1;exact ⟨η',f1,f2,e2 η' f1 f3⟩
theorem JM {k:Int} {σ:Sb} (h:StOk k σ) {β:Type} {v:(Int->Ty)->β} {G:(Int->Ty)->β->Prop} (hG:∀η w,G η w↔w=v η):StpR k σ k σ v G :=
 ⟨Jt _,h,λη hη=>⟨hη,(hG η _).2 rfl⟩,λη w hη hw=>⟨η,Agr.refl _ _,hη,((hG η w).1 hw).symm⟩⟩
theorem MH {k:Int} {σ:Sb} (h:StOk k σ):StpR k σ (k+1) σ (λη=>η k) (λ_ _=>True):=by
 refine ⟨by omega,⟨by have:=h.1;omega,h.2.1.mono (by omega),h.2.2⟩,λη hη=>⟨hη,trivial⟩,λη w hη _=>?_⟩;have ha:Agr k η (λn=>if n=k then w else η n):=λn hn=>by simp only;rw [if_neg (by omega)]
 exact ⟨_,ha,ha.slv h.2.1 hη,by simp⟩
theorem iG {k:Int} {σ:Sb} {a b:Ty} (h:StOk k σ) (ha:Cl a=true) (hb:Cl b=true) (ia:inB k a) (ib:inB k b) :
  ∃n r,M4 n σ a b r/\match r with
   | some σ'=>StpR k σ k σ' (λ_=>()) (λη _=>A7 η a=A7 η b)
   | none=>StpN σ (β:=Unit) (λη _=>A7 η a=A7 η b):=by
 obtain ⟨h0,hd,θ,hs⟩:=h;have ek:((k.toNat:Nat):Int)=k:=by omega
 rw [<- ek] at hd ia ib;obtain ⟨n,r,h1,h2⟩:=Um k.toNat (RD k.toNat σ) (Ek (A7 θ a)) σ θ a b hs hd (B8 _) (λ_=>B8 _) ha hb ia ib;refine ⟨n,r,h1,?_⟩;cases r with
 | none=>exact λη _ hη=>h2 η hη
 | some σ' =>
  obtain ⟨g1,g2,g3,g4⟩:=h2;rw [ek] at g2;exact ⟨Jt _,⟨h0,g2,g1⟩,λη hη=>(g4 η).1 hη,λη _ hη hG=>⟨η,Agr.refl _ _,(g4 η).2 ⟨hη,hG⟩,rfl⟩⟩
def AT:Ty:=.mk 1 0 [] []
def BP:Ty:=.mk 2 0 [] []
def Ds:Ty:=.mk 3 0 [] []
def Ba (a b:Ty):Ty:=.mk 4 0 [] [a,b]
def Ic (s:Int) (a:Ty):Ty:=.mk s 0 [] [a]
def Bt (x:Str):Ty:=.mk 8 0 x []
abbrev Ax:=List (Str×Ty)
def M3:Ax->Str->Option Ty
 | [],_=>none
 | (y,t)::r,x=>match M3 r x with
  | some u=>some u
  | none=>if y=x then some t else none
def O2:List Fd->Str->Option Ty
 | [],_=>none
 | f::r,x=>if f.name=x then some (Ba f.from_ f.to_) else O2 r x
def D4 (m:Md) (Γ:Ax) (x:Str):Option Ty:=match M3 Γ x with
 | some t=>some t
 | none=>O2 m.funs x
def Nk:List Cd->Str->Option Cd
 | [],_=>none
 | c::r,x=>if c.name=x then some c else Nk r x
def F0:List Dt->Str->Option (Cd×Str)
 | [],_=>none
 | d::r,x=>match Nk d.cons x with
  | some c=>some (c,d.name)
  | none=>F0 r x
mutual
def Ir (m:Md):Ty->Ty->Ax->Ax->Prop
 | .mk f _ x ps,τ,Γ,Γ' =>
  if f=2 then Γ'=Γ++[(x,τ)]
  else if f=3 then τ=AT/\Γ'=Γ
  else if f=4 then τ=BP/\Γ'=Γ
  else if f=5 then τ=Ds/\Γ'=Γ
  else if f=6 then ∃c d,F0 m.datas x=some (c,d)/\c.args.length=ps.length/\τ=Bt d/\SX m ps c.args Γ Γ'
  else Γ'=Γ
def SX (m:Md):List Ty->List Ty->Ax->Ax->Prop
 | [],[],Γ,Γ'=>Γ'=Γ
 | p::ps,t::ts,Γ,Γ'=>∃Γ1,Ir m p t Γ Γ1/\SX m ps ts Γ1 Γ'
 | _,_,_,_=>False
end
def Mz (m:Md) (τ:Ty) (Γ:Ax):List Ty->List Ax->Prop
 | [],l=>l=[]
 | p::ps,l=>∃Γ1 l1,Ir m p τ Γ Γ1/\Mz m τ Γ ps l1/\l=Γ1::l1
def Bf (m:Md) (Γ:Ax) (op:Int) (x:Str) (ps:List Ty) (kids:List (Ax×Ty)) (τ:Ty) (S:List Ty):Prop :=
 if op=1\/op=25 then kids=[]/\τ=AT/\S=[]
 else if op=2 then kids=[]/\τ=BP/\S=[]
 else if op=3\/op=28 then kids=[]/\τ=Ds/\S=[]
 else if op=4 then kids=[]/\D4 m Γ x=some τ/\S=[]
 else if op=5 then ∃a b,kids=[(Γ++[(x,a)],b)]/\τ=Ba a b/\S=[]
 else if op=6 then ∃a,kids=[(Γ,Ba a τ),(Γ,a)]/\S=[]
 else if op=7 then ∃a,kids=[(Γ,a),(Γ++[(x,a)],τ)]/\S=[]
 else if op=8 then kids=[(Γ,BP),(Γ,τ),(Γ,τ)]/\S=[]
 else if op=9\/op=10\/op=11 then kids=[(Γ,AT),(Γ,AT)]/\τ=AT/\S=[]
 else if op=12 then kids=[(Γ,AT),(Γ,AT)]/\τ=BP/\S=[]
 else if op=13 then ∃a,kids=[(Γ,a),(Γ,a)]/\τ=BP/\S=[a]
 else if op=14 then ∃c d,F0 m.datas x=some (c,d)/\kids=c.args.map (λt=>(Γ,t))/\τ=Bt d/\S=[]
 else if op=15 then ∃a l,Mz m a Γ ps l/\kids=(Γ,a)::l.map (λΔ=>(Δ,τ))/\S=[]
 else if op=16 then ∃a,kids=[(Γ,a)]/\τ=Ic 5 a/\S=[]
 else if op=17 then kids=[(Γ,Ic 5 τ)]/\S=[]
 else if op=18 then ∃a,kids=[(Γ,Ic 5 a),(Γ,a)]/\τ=Ds/\S=[]
 else if op=19 then ∃a,kids=[(Γ,Ba Ds a)]/\τ=Ic 7 a/\S=[]
 else if op=20 then kids=[(Γ,Ic 7 τ)]/\S=[]
 else if op=21 then ∃a,kids=[]/\τ=Ic 6 a/\S=[]
 else if op=22 then ∃a,kids=[(Γ,Ic 6 a),(Γ,a)]/\τ=Ds/\S=[]
 else if op=23 then kids=[(Γ,Ic 6 τ)]/\S=[]
 else if op=24 then kids=[(Γ,AT)]/\τ=Ds/\S=[]
 else if op=26 then kids=[(Γ,AT)]/\τ=AT/\S=[]
 else if op=27 then kids=[(Γ++[(x,Ba τ AT)],AT)]/\S=[]
 else False
mutual
def C1 (m:Md):Tm->Ax->Ty->List Ty->Prop
 | .mk op _ x ks ps,Γ,τ,S=>∃kids S1 S2,Bf m Γ op x ps kids τ S2/\Dj m ks kids S1/\S=S1++S2
def Dj (m:Md):List Tm->List (Ax×Ty)->List Ty->Prop
 | [],[],S=>S=[]
 | t::ts,k::ks,S=>∃S1 S2,C1 m t k.1 k.2 S1/\Dj m ts ks S2/\S=S1++S2
 | _,_,_=>False
end
def Fg (η:Int->Ty) (Γ:Ax):Ax:=Γ.map λp=>(p.1,A7 η p.2)
def Gz (η:Int->Ty) (l:List (Ax×Ty)):List (Ax×Ty):=l.map λp=>(Fg η p.1,A7 η p.2)
def EnvOk (k:Int) (Γ:Ax):Prop:=∀p∈Γ,Cl p.2=true/\inB k p.2
def TysOk (k:Int) (l:List Ty):Prop:=∀t∈l,Cl t=true/\inB k t
def KidsOk (k:Int) (l:List (Ax×Ty)):Prop:=∀p∈l,EnvOk k p.1/\Cl p.2=true/\inB k p.2
theorem EnvOk.mono {k k':Int} {Γ:Ax} (h:EnvOk k Γ) (hk:k<=k'):EnvOk k' Γ:=λp hp=>⟨(h p hp).1,(h p hp).2.mono hk⟩
theorem TysOk.mono {k k':Int} {l:List Ty} (h:TysOk k l) (hk:k<=k'):TysOk k' l:=λp hp=>⟨(h p hp).1,(h p hp).2.mono hk⟩
theorem KidsOk.mono {k k':Int} {l:List (Ax×Ty)} (h:KidsOk k l) (hk:k<=k'):KidsOk k' l:=λp hp=>⟨(h p hp).1.mono hk,(h p hp).2.1,(h p hp).2.2.mono hk⟩
theorem TysOk.append {k:Int} {l r:List Ty} (h:TysOk k l) (h':TysOk k r):TysOk k (l++r):=λt ht=>(BH.1 ht).elim (h t) (h' t)
theorem EnvOk.add {k:Int} {Γ:Ax} {x:Str} {t:Ty} (h:EnvOk k Γ) (h1:Cl t=true) (h2:inB k t):EnvOk k (Γ++[(x,t)]):=λp hp=>by
 rcases BH.1 hp with hp | hp
 ·exact h p hp
 ·rw [AO.1 hp];exact ⟨h1,h2⟩
theorem Agr.env {k:Int} {η η':Int->Ty} (h:Agr k η η') {Γ:Ax} (hΓ:EnvOk k Γ):Fg η' Γ=Fg η Γ:=Js λp hp=>by rw [h.ap (hΓ p hp).2]
theorem Agr.tys {k:Int} {η η':Int->Ty} (h:Agr k η η') {l:List Ty} (hl:TysOk k l):l.map (A7 η')=l.map (A7 η):=Js λp hp=>h.ap (hl p hp).2
theorem Agr.kids {k:Int} {η η':Int->Ty} (h:Agr k η η') {l:List (Ax×Ty)} (hl:KidsOk k l):Gz η' l=Gz η l:=Js λp hp=>by rw [h.env (hl p hp).1,h.ap (hl p hp).2.2]
theorem GE (η:Int->Ty) (Γ:Ax) (x:Str) (t:Ty):Fg η (Γ++[(x,t)])=Fg η Γ++[(x,A7 η t)]:=by simp [Fg]
theorem Ce {t:Ty} (h:CA t=[]) (k:Int):inB k t:=λm hm=>by rw [h] at hm;cases hm
theorem GP {t:Ty} (h:CA t=[]) (hw:Cl t=true) (η:Int->Ty):A7 η t=t:=by
 rw [F3 (θ:=As) t λm hm=>by rw [h] at hm;cases hm];exact aT t hw
def BI (m:Md) (Γ:Ax) (t:Tm) (k:Int) (σ:Sb):Option (Ty×Int×Sb×List Ty)->Prop
 | some (τ,k',σ',N)=>StpR k σ k' σ' (λη=>(A7 η τ,N.map (A7 η))) (λη w=>C1 m t (Fg η Γ) w.1 w.2)/\Cl τ=true/\inB k' τ/\TysOk k' N
 | none=>StpN σ (β:=Ty×List Ty) (λη w=>C1 m t (Fg η Γ) w.1 w.2)
def HE (m:Md) (ts:List Tm) (kids:List (Ax×Ty)) (k:Int) (σ:Sb):Option (Int×Sb×List Ty)->Prop
 | some (k',σ',N)=>StpR k σ k' σ' (λη=>N.map (A7 η)) (λη w=>Dj m ts (Gz η kids) w)/\TysOk k' N
 | none=>StpN σ (β:=List Ty) (λη w=>Dj m ts (Gz η kids) w)
theorem lB {m:Md} {k:Int} {σ:Sb} (h:StOk k σ):HE m [] [] k σ (some (k,σ,[])) :=
 ⟨JM h λη w=>by simp [Gz,Dj],λt ht=>by cases ht⟩
theorem dJ {m:Md} {ts:List Tm} {kids:List (Ax×Ty)} {σ:Sb} {k:Int} (h:ts.length≠kids.length):HE m ts kids k σ none:=by
 intro η w _ hw;have:∀(ts:List Tm) (l:List (Ax×Ty)) (S:List Ty),Dj m ts l S->ts.length=l.length:=by
  intro ts
  induction ts with
  | nil=>intro l S h;cases l with
   | nil=>rfl
   | cons a r=>exact h.elim
  | cons t r ih=>intro l S h;cases l with
   | nil=>exact h.elim
   | cons a l=>obtain ⟨S1,S2,_,h2,_⟩:=h;simp [ih l S2 h2]
 exact h (by simpa [Gz] using this _ _ _ hw)
theorem O0 {m:Md} {t:Tm} {ts:List Tm} {Γ:Ax} {want:Ty} {kids:List (Ax×Ty)} {k:Int} {σ:Sb} (h:BI m Γ t k σ none):HE m (t::ts) ((Γ,want)::kids) k σ none:=by
 refine StpN.first h λη w hw=>?_;obtain ⟨S1,S2,h1,_⟩:=hw;exact ⟨(_,S1),h1⟩
theorem TS {m:Md} {t:Tm} {ts:List Tm} {Γ:Ax} {want τ:Ty} {kids:List (Ax×Ty)} {k k1:Int} {σ σ1:Sb} {N1:List Ty} (h:BI m Γ t k σ (some (τ,k1,σ1,N1))) (hw:inB k want) (he:StpN σ1 (β:=Unit) (λη _=>A7 η τ=A7 η want)) :
  HE m (t::ts) ((Γ,want)::kids) k σ none:=by
 refine StpN.second h.1 he λη w hw'=>?_;obtain ⟨S1,S2,h1,_⟩:=hw';refine ⟨(A7 η want,S1),h1,λη1 ha hv=>⟨(),?_⟩⟩;simp only [AS] at hv;rw [hv.1,ha.ap hw]
theorem Sw {m:Md} {t:Tm} {ts:List Tm} {Γ:Ax} {want τ:Ty} {kids:List (Ax×Ty)} {k k1:Int} {σ σ1 σ2:Sb} {N1:List Ty} {r:Option (Int×Sb×List Ty)} (hk:KidsOk k ((Γ,want)::kids)) (h:BI m Γ t k σ (some (τ,k1,σ1,N1)))
  (he:StpR k1 σ1 k1 σ2 (λ_=>()) (λη _=>A7 η τ=A7 η want)) (hr:HE m ts kids k1 σ2 r):HE m (t::ts) ((Γ,want)::kids) k σ (r.map λx=>(x.1,x.2.1,N1++x.2.2)):=by
 obtain ⟨h1,h2,h3,h4⟩:=h;have hk1:=h1.1;have hw:=(hk (Γ,want) (by simp)).2.2;have hks:KidsOk k kids:=λp hp=>hk p (by simp [hp]);have hA:StpR k σ k1 σ2 (λη=>N1.map (A7 η)) (λη w=>C1 m t (Fg η Γ) (A7 η want) w):=by
  refine h1.bind he (λη g1 g2=>by rw [<- g2];exact g1) λη w hG=>⟨(A7 η want,w),hG,λη1 ha hv=>⟨(),?_,λη2 hb hab _=>?_⟩⟩
  ·simp only [AS] at hv;rw [hv.1,ha.ap hw]
  ·simp only [AS] at hv;rw [hb.tys h4,hv.2]
 cases r with
 | none =>
  refine StpN.second hA hr λη w hw'=>?_;obtain ⟨S1,S2,g1,g2,_⟩:=hw';exact ⟨S1,g1,λη1 ha _=>⟨S2,by rw [ha.kids hks];exact g2⟩⟩
 | some x =>
  obtain ⟨k3,σ3,N3⟩:=x;obtain ⟨r1,r2⟩:=hr;refine ⟨hA.bind r1 (λη g1 g2=>?_) λη w hG=>?_,(h4.mono r1.1).append r2⟩
  ·simp only [C4];exact ⟨_,_,g1,g2,rfl⟩
  ·obtain ⟨S1,S2,g1,g2,rfl⟩:=hG;refine ⟨S1,g1,λη1 ha hv=>⟨S2,by rw [ha.kids hks];exact g2,λη2 hb hab hv2=>?_⟩⟩;simp only [C4];rw [hb.tys h4,hv,hv2]
def uW (m:Md) (Γ:Ax) (op:Int) (x:Str) (ps:List Ty) (k k1:Int) (kids:List (Ax×Ty)) (τ:Ty) (S:List Ty):Prop :=
 (∀η,Bf m (Fg η Γ) op x ps (Gz η kids) (A7 η τ) (S.map (A7 η)))/\∀η K τ0 S0,Bf m (Fg η Γ) op x ps K τ0 S0->∃f:Int->Ty,∀η',Agr k η η'->(∀n,k<=n->n<k1->η' n=f n)->Gz η' kids=K/\A7 η' τ=τ0/\S.map (A7 η')=S0
theorem Vb {k:Int} {σ:Sb} (h:StOk k σ) (n:Nat):StpR k σ (k+n) σ (λη (i:Int)=>if k<=i/\i<k+n then η i else As 0) (λ_ (f:Int->Ty)=>∀i,¬(k<=i/\i<k+n)->f i=As 0):=by
 refine ⟨by omega,⟨by have:=h.1;omega,h.2.1.mono (by omega),h.2.2⟩,λη hη=>⟨hη,λi hi=>by simp only;rw [if_neg hi]⟩,λη f hη hf=>?_⟩;have ha:Agr k η (λi=>if k<=i/\i<k+n then f i else η i):=λi hi=>by simp only;rw [if_neg (by omega)]
 refine ⟨_,ha,ha.slv h.2.1 hη,funext λi=>?_⟩;by_cases e:k<=i/\i<k+n
 ·simp only [if_pos e]
 ·simp only [if_neg e];exact (hf i e).symm
theorem Ql {m:Md} {Γ:Ax} {op n:Int} {x:Str} {ks:List Tm} {ps:List Ty} {k:Int} {j:Nat} {σ:Sb} {kids:List (Ax×Ty)} {τ:Ty} {S:List Ty} {r:Option (Int×Sb×List Ty)} (h:StOk k σ) (hS:uW m Γ op x ps k (k+j) kids τ S) (hk:KidsOk (k+j) kids)
  (h1:Cl τ=true) (h2:inB (k+j) τ) (h3:TysOk (k+j) S) (hr:HE m ks kids (k+j) σ r):BI m Γ (.mk op n x ks ps) k σ (r.map λy=>(τ,y.1,y.2.1,y.2.2++S)):=by
 have hf:=Vb h j;obtain ⟨s1,s2⟩:=hS;have key:∀η (w:Ty×List Ty),C1 m (.mk op n x ks ps) (Fg η Γ) w.1 w.2->∃f:Int->Ty,(∀i,¬(k<=i/\i<k+j)->f i=As 0)/\∀η1,Agr k η η1->(λi:Int=>if k<=i/\i<k+j then η1 i else As 0)=f->∃S1,Dj m ks (Gz η1 kids) S1/\A7 η1 τ=w.1/\S1++S.map (A7 η1)=w.2:=by
  intro η w hw;obtain ⟨K,S1,S2,w1,w2,w3⟩:=hw;obtain ⟨f,hf⟩:=s2 η K w.1 S2 w1;refine ⟨λi=>if k<=i/\i<k+j then f i else As 0,λi hi=>by simp only;rw [if_neg hi],λη1 ha hv=>?_⟩;obtain ⟨q1,q2,q3⟩:=hf η1 ha λi hi1 hi2=>by
   have:=congrFun hv i;simp only [if_pos (And.intro hi1 hi2)] at this;exact this
  exact ⟨S1,by rw [q1];exact w2,q2,by rw [q3,w3]⟩
 cases r with
 | none =>
  refine StpN.second hf hr λη w hw=>?_;obtain ⟨f,f1,f2⟩:=key η w hw;exact ⟨f,f1,λη1 ha hv=>let ⟨S1,q,_⟩:=f2 η1 ha hv;⟨S1,q⟩⟩
 | some y =>
  obtain ⟨k3,σ3,N3⟩:=y;obtain ⟨r1,r2⟩:=hr;refine ⟨hf.bind r1 (λη _ g2=>?_) λη w hG=>?_,h1,h2.mono r1.1,r2.append (h3.mono r1.1)⟩
  ·simp only [C4];exact ⟨_,_,_,s1 η,g2,rfl⟩
  ·obtain ⟨f,f1,f2⟩:=key η w hG;refine ⟨f,f1,λη1 ha hv=>?_⟩;obtain ⟨S1,q1,q2,q3⟩:=f2 η1 ha hv;refine ⟨S1,q1,λη2 hb _ hv2=>?_⟩;simp only [C4];rw [hb.ap h2,q2,hv2,hb.tys h3,q3]
def Ev (m:Md):Prop:=(∀f∈m.funs,CA (Ba f.from_ f.to_)=[]/\Cl (Ba f.from_ f.to_)=true)/\∀d∈m.datas,∀c∈d.cons,∀t∈c.args,CA t=[]/\Cl t=true
theorem kO (η:Int->Ty):∀(Γ:Ax) (x:Str),M3 (Fg η Γ) x=(M3 Γ x).map (A7 η)
 | [],x=>rfl
 | (y,t)::r,x=>by
  simp only [Fg,Cz,M3];rw [show r.map (λp=>(p.1,A7 η p.2))=Fg η r from rfl,kO η r x];cases M3 r x with
  | some u=>rfl
  | none=>simp only [TN];split <;> rfl
theorem Qv:∀{l:List Fd} {x:Str} {t:Ty},O2 l x=some t->∃f∈l,t=Ba f.from_ f.to_
 | f::r,x,t,h=>by
  simp only [O2] at h
  split at h
  ·cases h;exact ⟨f,by simp,rfl⟩
  ·obtain ⟨g,h1,h2⟩:=Qv h;exact ⟨g,by simp [h1],h2⟩
theorem PV {m:Md} (hm:Ev m) (η:Int->Ty) (Γ:Ax) (x:Str):D4 m (Fg η Γ) x=(D4 m Γ x).map (A7 η):=by
 simp only [D4,kO];cases M3 Γ x with
 | some t=>rfl
 | none =>
  simp only [TN];cases e:O2 m.funs x with
  | none=>rfl
  | some t =>
   obtain ⟨f,h1,rfl⟩:=Qv e;simp only [ZN,GP (hm.1 f h1).1 (hm.1 f h1).2]
theorem kN {k:Int}:∀{Γ:Ax} {x:Str} {t:Ty},EnvOk k Γ->M3 Γ x=some t->Cl t=true/\inB k t
 | (y,u)::r,x,t,h,hl=>by
  simp only [M3] at hl;cases e:M3 r x with
  | some v=>rw [e] at hl;cases hl;exact kN (λp hp=>h p (by simp [hp])) e
  | none =>
   rw [e] at hl;simp only at hl
   split at hl
   ·cases hl;exact h (y,u) (by simp)
   ·cases hl
theorem kM {m:Md} (hm:Ev m) {k:Int} {Γ:Ax} {x:Str} {t:Ty} (h:EnvOk k Γ) (hl:D4 m Γ x=some t):Cl t=true/\inB k t:=by
 simp only [D4] at hl;cases e:M3 Γ x with
 | some u=>rw [e] at hl;cases hl;exact kN h e
 | none =>
  rw [e] at hl;obtain ⟨f,h1,rfl⟩:=Qv hl;exact ⟨(hm.1 f h1).2,Ce (hm.1 f h1).1 k⟩
theorem W5:∀{l:List Cd} {x:Str} {c:Cd},Nk l x=some c->c∈l
 | c::r,x,d,h=>by
  simp only [Nk] at h
  split at h
  ·cases h;simp
  ·exact H3 _ (W5 h)
theorem aM:∀{l:List Dt} {x:Str} {c:Cd} {y:Str},F0 l x=some (c,y)->∃d∈l,c∈d.cons
 | d::r,x,c,y,h=>by
  simp only [F0] at h;cases e:Nk d.cons x with
  | some c'=>rw [e] at h;cases h;exact ⟨d,by simp,W5 e⟩
  | none =>
   rw [e] at h;obtain ⟨d',h1,h2⟩:=aM h;exact ⟨d',by simp [h1],h2⟩
theorem Ip {m:Md} (hm:Ev m) {x:Str} {c:Cd} {y:Str} (h:F0 m.datas x=some (c,y)):∀t∈c.args,CA t=[]/\Cl t=true:=by
 obtain ⟨d,h1,h2⟩:=aM h;exact hm.2 d h1 c h2
def Bj (op:Int) (a:Ty):List Ty×Ty×List Ty :=
 if op=1\/op=25 then ([],AT,[])
 else if op=2 then ([],BP,[])
 else if op=3\/op=28 then ([],Ds,[])
 else if op=8 then ([BP,a,a],a,[])
 else if op=9\/op=10\/op=11 then ([AT,AT],AT,[])
 else if op=12 then ([AT,AT],BP,[])
 else if op=13 then ([a,a],BP,[a])
 else if op=16 then ([a],Ic 5 a,[])
 else if op=17 then ([Ic 5 a],a,[])
 else if op=18 then ([Ic 5 a,a],Ds,[])
 else if op=19 then ([Ba Ds a],Ic 7 a,[])
 else if op=20 then ([Ic 7 a],a,[])
 else if op=21 then ([],Ic 6 a,[])
 else if op=22 then ([Ic 6 a,a],Ds,[])
 else if op=23 then ([Ic 6 a],a,[])
 else if op=24 then ([AT],Ds,[])
 else ([AT],AT,[])
def Cm (op:Int):Prop:=op=1\/op=25\/op=2\/op=3\/op=28\/op=8\/op=9\/op=10\/op=11\/op=12\/op=13\/op=16\/op=17\/op=18\/op=19\/op=20\/op=21\/op=22\/op=23\/op=24\/op=26
def Cr (op:Int):Prop:=op=8\/op=13\/op=16\/op=17\/op=18\/op=19\/op=20\/op=21\/op=22\/op=23
@[simp] theorem ap_kInt (η:Int->Ty):A7 η AT=AT:=by simp [AT,A7,CO]
@[simp] theorem ap_kBool (η:Int->Ty):A7 η BP=BP:=by simp [BP,A7,CO]
@[simp] theorem ap_kUnit (η:Int->Ty):A7 η Ds=Ds:=by simp [Ds,A7,CO]
@[simp] theorem ap_kData (η:Int->Ty) (x:Str):A7 η (Bt x)=Bt x:=by simp [Bt,A7,CO]
@[simp] theorem ap_kFun (η:Int->Ty) (a b:Ty):A7 η (Ba a b)=Ba (A7 η a) (A7 η b):=by simp [Ba,A7,CO]
theorem Zk (η:Int->Ty) (s:Int) (h:s≠9) (a:Ty):A7 η (Ic s a)=Ic s (A7 η a):=by simp [Ic,A7,CO,h]
@[simp] theorem ap_k5 (η:Int->Ty) (a:Ty):A7 η (Ic 5 a)=Ic 5 (A7 η a):=Zk η 5 (by decide) a
@[simp] theorem ap_k6 (η:Int->Ty) (a:Ty):A7 η (Ic 6 a)=Ic 6 (A7 η a):=Zk η 6 (by decide) a
@[simp] theorem ap_k7 (η:Int->Ty) (a:Ty):A7 η (Ic 7 a)=Ic 7 (A7 η a):=Zk η 7 (by decide) a
@[simp] theorem ap_hole' (η:Int->Ty) (n:Int):A7 η (As n)=η n:=CJ η n
theorem gX {m:Md} {Γ:Ax} {op:Int} {x:Str} {ps:List Ty} {k k1:Int} (h:Cm op) (ho:Cr op->k<k1) (hΓ:EnvOk k Γ) :
  uW m Γ op x ps k k1 ((Bj op (As k)).1.map λt=>(Γ,t)) (Bj op (As k)).2.1 (Bj op (As k)).2.2:=by
 constructor
 ·intro η;rcases h with rfl | rfl | rfl | rfl | rfl | rfl | rfl | rfl | rfl | rfl | rfl | rfl | rfl | rfl | rfl | rfl | rfl | rfl | rfl | rfl | rfl <;> simp [Bf,Bj,Gz] <;> first | exact ⟨_,rfl,rfl⟩ | exact ⟨_,rfl⟩
 ·intro η K τ0 S0 hR;have hE:∀η',Agr k η η'->Fg η' Γ=Fg η Γ:=λη' ha=>ha.env hΓ;have mk:∀(w:Ty),Cr op->(∀η',Agr k η η'->η' k=w->Gz η' ((Bj op (As k)).1.map λt=>(Γ,t))=K/\A7 η' (Bj op (As k)).2.1=τ0/\(Bj op (As k)).2.2.map (A7 η')=S0) ->
    ∃f:Int->Ty,∀η',Agr k η η'->(∀n,k<=n->n<k1->η' n=f n)->Gz η' ((Bj op (As k)).1.map λt=>(Γ,t))=K/\A7 η' (Bj op (As k)).2.1=τ0/\(Bj op (As k)).2.2.map (A7 η')=S0:=λw hop hw =>
   ⟨λ_=>w,λη' ha hf=>hw η' ha (hf k (Jt _) (ho hop))⟩
  have mk0:(∀η',Agr k η η'->Gz η' ((Bj op (As k)).1.map λt=>(Γ,t))=K/\A7 η' (Bj op (As k)).2.1=τ0/\(Bj op (As k)).2.2.map (A7 η')=S0) ->
    ∃f:Int->Ty,∀η',Agr k η η'->(∀n,k<=n->n<k1->η' n=f n)->Gz η' ((Bj op (As k)).1.map λt=>(Γ,t))=K/\A7 η' (Bj op (As k)).2.1=τ0/\(Bj op (As k)).2.2.map (A7 η')=S0:=λhw =>
   ⟨λ_=>As 0,λη' ha _=>hw η' ha⟩
  rcases h with rfl | rfl | rfl | rfl | rfl | rfl | rfl | rfl | rfl | rfl | rfl | rfl | rfl | rfl | rfl | rfl | rfl | rfl | rfl | rfl | rfl
  ·simp [Bf] at hR;obtain ⟨rfl,rfl,rfl⟩:=hR;exact mk0 λη' ha=>by simp [Bj,Gz]
  ·simp [Bf] at hR;obtain ⟨rfl,rfl,rfl⟩:=hR;exact mk0 λη' ha=>by simp [Bj,Gz]
  ·simp [Bf] at hR;obtain ⟨rfl,rfl,rfl⟩:=hR;exact mk0 λη' ha=>by simp [Bj,Gz]
  ·simp [Bf] at hR;obtain ⟨rfl,rfl,rfl⟩:=hR;exact mk0 λη' ha=>by simp [Bj,Gz]
  ·simp [Bf] at hR;obtain ⟨rfl,rfl,rfl⟩:=hR;exact mk0 λη' ha=>by simp [Bj,Gz]
  ·simp [Bf] at hR;obtain ⟨rfl,rfl⟩:=hR;exact mk τ0 (by simp [Cr]) λη' ha hk=>by simp [Bj,Gz,hE η' ha,hk]
  ·simp [Bf] at hR;obtain ⟨rfl,rfl,rfl⟩:=hR;exact mk0 λη' ha=>by simp [Bj,Gz,hE η' ha]
  ·simp [Bf] at hR;obtain ⟨rfl,rfl,rfl⟩:=hR;exact mk0 λη' ha=>by simp [Bj,Gz,hE η' ha]
  ·simp [Bf] at hR;obtain ⟨rfl,rfl,rfl⟩:=hR;exact mk0 λη' ha=>by simp [Bj,Gz,hE η' ha]
  ·simp [Bf] at hR;obtain ⟨rfl,rfl,rfl⟩:=hR;exact mk0 λη' ha=>by simp [Bj,Gz,hE η' ha]
  ·simp [Bf] at hR;obtain ⟨a,rfl,rfl,rfl⟩:=hR;exact mk a (by simp [Cr]) λη' ha hk=>by simp [Bj,Gz,hE η' ha,hk]
  ·simp [Bf] at hR;obtain ⟨a,rfl,rfl,rfl⟩:=hR;exact mk a (by simp [Cr]) λη' ha hk=>by simp [Bj,Gz,hE η' ha,hk]
  ·simp [Bf] at hR;obtain ⟨rfl,rfl⟩:=hR;exact mk τ0 (by simp [Cr]) λη' ha hk=>by simp [Bj,Gz,hE η' ha,hk]
  ·simp [Bf] at hR;obtain ⟨⟨a,rfl⟩,rfl,rfl⟩:=hR;exact mk a (by simp [Cr]) λη' ha hk=>by simp [Bj,Gz,hE η' ha,hk]
  ·simp [Bf] at hR;obtain ⟨a,rfl,rfl,rfl⟩:=hR;exact mk a (by simp [Cr]) λη' ha hk=>by simp [Bj,Gz,hE η' ha,hk]
  ·simp [Bf] at hR;obtain ⟨rfl,rfl⟩:=hR;exact mk τ0 (by simp [Cr]) λη' ha hk=>by simp [Bj,Gz,hE η' ha,hk]
  ·simp [Bf] at hR;obtain ⟨rfl,⟨a,rfl⟩,rfl⟩:=hR;exact mk a (by simp [Cr]) λη' ha hk=>by simp [Bj,Gz,hE η' ha,hk]
  ·simp [Bf] at hR;obtain ⟨⟨a,rfl⟩,rfl,rfl⟩:=hR;exact mk a (by simp [Cr]) λη' ha hk=>by simp [Bj,Gz,hE η' ha,hk]
  ·simp [Bf] at hR;obtain ⟨rfl,rfl⟩:=hR;exact mk τ0 (by simp [Cr]) λη' ha hk=>by simp [Bj,Gz,hE η' ha,hk]
  ·simp [Bf] at hR;obtain ⟨rfl,rfl,rfl⟩:=hR;exact mk0 λη' ha=>by simp [Bj,Gz,hE η' ha]
  ·simp [Bf] at hR;obtain ⟨rfl,rfl,rfl⟩:=hR;exact mk0 λη' ha=>by simp [Bj,Gz,hE η' ha]
theorem StpR.lower {k k0 k1:Int} {σ σ1:Sb} {β:Type} {v:(Int->Ty)->β} {G:(Int->Ty)->β->Prop} (h:StpR k0 σ k1 σ1 v G) (hk:k<=k0):StpR k σ k1 σ1 v G:=by
 obtain ⟨a1,a2,a3,a4⟩:=h;refine ⟨by omega,a2,a3,λη w hη hG=>?_⟩;obtain ⟨η',f1,f2,f3⟩:=a4 η w hη hG;exact ⟨η',λn hn=>f1 n (by omega),f2,f3⟩
theorem VT {k:Int} {a b:Ty} (h1:inB k a) (h2:inB k b):inB k (Ba a b):=λm hm=>by
 simp [Ba,CA,Dm] at hm;exact hm.elim (h1 m) (h2 m)
theorem ZU {k s:Int} (hs:s≠9) {a:Ty} (h1:inB k a):inB k (Ic s a):=λm hm=>by
 simp [Ic,CA,Dm,hs] at hm;exact h1 m hm
theorem Zm {a b:Ty} (h1:Cl a=true) (h2:Cl b=true):Cl (Ba a b)=true:=by simp [Ba,Cl,FC,h1,h2]
theorem fW {s:Int} (hs:s≠9) (h0:s≠0) {a:Ty} (h1:Cl a=true):Cl (Ic s a)=true:=by simp [Ic,Cl,FC,h1,hs,h0]
theorem lN {m:Md} (hm:Ev m) {Γ:Ax} {n:Int} {x:Str} {ps:List Ty} {k:Int} {σ:Sb} (h:StOk k σ) (hΓ:EnvOk k Γ):BI m Γ (.mk 4 n x [] ps) k σ ((D4 m Γ x).map λτ=>(τ,k,σ,[])):=by
 cases e:D4 m Γ x with
 | none =>
  intro η w _ ⟨K,S1,S2,h1,h2,h3⟩;simp [Bf,PV hm,e] at h1
 | some τ =>
  obtain ⟨h1,h2⟩:=kM hm hΓ e;refine ⟨JM h λη w=>?_,h1,h2,λt ht=>by cases ht⟩;constructor
  ·rintro ⟨K,S1,S2,q1,q2,q3⟩;simp [Bf,PV hm,e] at q1;obtain ⟨rfl,q4,rfl⟩:=q1;simp only [Dj] at q2;subst q2;obtain ⟨w1,w2⟩:=w;simp only at q3 q4 ⊢;rw [q3,q4];rfl
  ·rintro rfl;exact ⟨[],[],[],by simp [Bf,PV hm,e],rfl,rfl⟩
theorem Ub {m:Md} {Γ:Ax} {n:Int} {x:Str} {ks:List Tm} {ps:List Ty} {k:Int} {σ:Sb} (h:F0 m.datas x=none):BI m Γ (.mk 14 n x ks ps) k σ none:=by
 intro η w _ ⟨K,S1,S2,h1,_⟩;simp [Bf,h] at h1
theorem Uc {m:Md} (hm:Ev m) {Γ:Ax} {n:Int} {x y:Str} {c:Cd} {ks:List Tm} {ps:List Ty} {k:Int} {σ:Sb} {r:Option (Int×Sb×List Ty)} (hs:StOk k σ) (hΓ:EnvOk k Γ) (h:F0 m.datas x=some (c,y)) (hr:HE m ks (c.args.map λt=>(Γ,t)) k σ r) :
  BI m Γ (.mk 14 n x ks ps) k σ (r.map λz=>(Bt y,z)):=by
 have ha:=Ip hm h;have hc:∀η,c.args.map (λt=>(Fg η Γ,A7 η t))=c.args.map λt=>(Fg η Γ,t):=λη=>Js λt ht=>by rw [GP (ha t ht).1 (ha t ht).2]
 have key:=Ql (m:=m) (Γ:=Γ) (op:=14) (n:=n) (x:=x) (ks:=ks) (ps:=ps) (j:=0) (kids:=c.args.map λt=>(Γ,t)) (τ:=Bt y) (S:=[]) (r:=r) hs ⟨λη=>?_,λη K τ0 S0 hR=>?_⟩ (λp hp=>?_) (by rfl) (Ce rfl _) (λt ht=>by cases ht) (by simpa using hr)
 ·cases r with
  | none=>exact key
  | some z=>simpa using key
 ·simp only [Bf,h];simp [Gz,Function.comp_def,hc η];exact ⟨_,_,⟨rfl,rfl⟩,rfl,rfl⟩
 ·simp only [Bf,h] at hR;simp at hR;obtain ⟨_,_,⟨rfl,rfl⟩,rfl,rfl,rfl⟩:=hR;exact ⟨λ_=>As 0,λη' hag _=>by
   simp [Gz,Function.comp_def,hag.env hΓ];exact λa hx=>GP (ha a hx).1 (ha a hx).2 η'⟩
 ·obtain ⟨t,ht,rfl⟩:=Cc.1 hp;exact ⟨by simpa using hΓ,(ha t ht).2,Ce (ha t ht).1 _⟩
theorem ZS {m:Md} {Γ:Ax} {n:Int} {x:Str} {t:Tm} {ps:List Ty} {k:Int} {σ:Sb} {r:Option (Ty×Int×Sb×List Ty)} (hs:StOk k σ) (hΓ:EnvOk k Γ) (hr:BI m (Γ++[(x,As k)]) t (k+1) σ r) :
  BI m Γ (.mk 5 n x [t] ps) k σ (r.map λz=>(Ba (As k) z.1,z.2)):=by
 have hf:=MH hs;have inv:∀η (w:Ty×List Ty),C1 m (.mk 5 n x [t] ps) (Fg η Γ) w.1 w.2->∃a b,w.1=Ba a b/\C1 m t (Fg η Γ++[(x,a)]) b w.2:=by
  rintro η ⟨w1,w2⟩ ⟨K,S1,S2,q1,q2,q3⟩;simp [Bf] at q1;obtain ⟨a,b,rfl,rfl,rfl⟩:=q1;obtain ⟨T1,T2,q4,q5,q6⟩:=q2;simp only [Dj] at q5;subst q5;simp at q3 q6;subst q3;subst q6;exact ⟨a,b,rfl,q4⟩
 cases r with
 | none =>
  refine StpN.second hf hr λη w hw=>?_;obtain ⟨a,b,_,h2⟩:=inv η w hw;exact ⟨a,trivial,λη1 ha hv=>⟨(b,w.2),by rw [GE,CJ,hv,ha.env hΓ];exact h2⟩⟩
 | some z =>
  obtain ⟨b,k2,σ2,N⟩:=z;obtain ⟨h1,h2,h3,h4⟩:=hr;have hk:=h1.1;refine ⟨hf.bind h1 (λη _ g=>?_) λη w hw=>?_,Zm rfl h2,VT (If ⟨hs.1,by omega⟩) h3,h4⟩
  ·rw [GE,CJ] at g;exact ⟨[(Fg η Γ++[(x,η k)],A7 η b)],N.map (A7 η),[],by simp [Bf];exact ⟨_,_,⟨rfl,rfl⟩,rfl⟩,⟨N.map (A7 η),[],g,rfl,by simp⟩,by simp⟩
  ·obtain ⟨a,b0,e1,e2⟩:=inv η w hw;refine ⟨a,trivial,λη1 ha hv=>⟨(b0,w.2),by rw [GE,CJ,hv,ha.env hΓ];exact e2,λη2 hb _ hv2=>?_⟩⟩;simp only [AS] at hv2;obtain ⟨w1,w2⟩:=w;simp only at e1 hv2 ⊢;rw [ap_kFun,CJ,hb k (by omega),hv,hv2.1,hv2.2,e1]
theorem ZR {m:Md} {Γ:Ax} {n:Int} {x:Str} {t0 t1:Tm} {ps:List Ty} {k k0 k1:Int} {σ σ1:Sb} {τ0:Ty} {N1:List Ty} {r:Option (Ty×Int×Sb×List Ty)} (hk:k<=k0) (hΓ:EnvOk k Γ) (h0:BI m Γ t0 k0 σ (some (τ0,k1,σ1,N1))) (hr:BI m (Γ++[(x,τ0)]) t1 k1 σ1 r) :
  BI m Γ (.mk 7 n x [t0,t1] ps) k σ (r.map λz=>(z.1,z.2.1,z.2.2.1,N1++z.2.2.2)):=by
 obtain ⟨a1,a2,a3,a4⟩:=h0;have hA:=a1.lower hk;have hk1:=hA.1;have inv:∀η (w:Ty×List Ty),C1 m (.mk 7 n x [t0,t1] ps) (Fg η Γ) w.1 w.2->∃a S1 S2,C1 m t0 (Fg η Γ) a S1/\C1 m t1 (Fg η Γ++[(x,a)]) w.1 S2/\w.2=S1++S2:=by
  rintro η ⟨w1,w2⟩ ⟨K,S1,S2,q1,q2,q3⟩;simp [Bf] at q1;obtain ⟨⟨a,rfl⟩,rfl⟩:=q1;obtain ⟨T1,T2,q4,⟨T3,T4,q5,q6,q7⟩,q8⟩:=q2;simp only [Dj] at q6;subst q6;simp at q3 q7;subst q7;subst q8;subst q3;exact ⟨a,T1,T2,q4,q5,rfl⟩
 cases r with
 | none =>
  refine StpN.second hA hr λη w hw=>?_;obtain ⟨a,S1,S2,e1,e2,_⟩:=inv η w hw;refine ⟨(a,S1),e1,λη1 ha hv=>⟨(w.1,S2),?_⟩⟩;simp only [AS] at hv;rw [GE,hv.1,ha.env hΓ];exact e2
 | some z =>
  obtain ⟨τ,k2,σ2,N2⟩:=z;obtain ⟨h1,h2,h3,h4⟩:=hr;refine ⟨hA.bind h1 (λη g1 g2=>?_) λη w hw=>?_,h2,h3,(a4.mono h1.1).append h4⟩
  ·rw [GE] at g2;simp only [C4];exact ⟨[(Fg η Γ,A7 η τ0),(Fg η Γ++[(x,A7 η τ0)],A7 η τ)],N1.map (A7 η)++N2.map (A7 η),[],by simp [Bf],⟨_,_,g1,⟨_,[],g2,rfl,rfl⟩,by simp⟩,by simp⟩
  ·obtain ⟨a,S1,S2,e1,e2,e3⟩:=inv η w hw;refine ⟨(a,S1),e1,λη1 ha hv=>?_⟩;simp only [AS] at hv;refine ⟨(w.1,S2),by rw [GE,hv.1,ha.env hΓ];exact e2,λη2 hb _ hv2=>?_⟩;simp only [AS] at hv2;obtain ⟨w1,w2⟩:=w;simp only at e3 hv2 ⊢;rw [hv2.1,e3,C4,hb.tys a4,hv.2,hv2.2]
theorem Ua {m:Md} {Γ:Ax} {n:Int} {x:Str} {t0 t1:Tm} {ps:List Ty} {k k0:Int} {σ:Sb} (h0:BI m Γ t0 k0 σ none):BI m Γ (.mk 7 n x [t0,t1] ps) k σ none:=by
 refine StpN.first h0 λη w hw=>?_;obtain ⟨K,S1,S2,q1,q2,q3⟩:=hw;simp [Bf] at q1;obtain ⟨⟨a,rfl⟩,rfl⟩:=q1;obtain ⟨T1,T2,q4,_⟩:=q2;exact ⟨(a,T1),q4⟩
def Lm (m:Md) (p τ:Ty) (Γ:Ax) (k:Int) (σ:Sb):Option (Ax×Sb)->Prop
 | some (Γ',σ')=>StpR k σ k σ' (λη=>Fg η Γ') (λη Δ=>Ir m p (A7 η τ) (Fg η Γ) Δ)/\EnvOk k Γ'
 | none=>StpN σ (β:=Ax) (λη Δ=>Ir m p (A7 η τ) (Fg η Γ) Δ)
def QW (m:Md) (ps ts:List Ty) (Γ:Ax) (k:Int) (σ:Sb):Option (Ax×Sb)->Prop
 | some (Γ',σ')=>StpR k σ k σ' (λη=>Fg η Γ') (λη Δ=>SX m ps (ts.map (A7 η)) (Fg η Γ) Δ)/\EnvOk k Γ'
 | none=>StpN σ (β:=Ax) (λη Δ=>SX m ps (ts.map (A7 η)) (Fg η Γ) Δ)
theorem iU {m:Md} {n:Int} {x:Str} {ps:List Ty} {τ:Ty} {Γ:Ax} {k:Int} {σ:Sb} (h:StOk k σ) (hΓ:EnvOk k Γ) (h1:Cl τ=true) (h2:inB k τ):Lm m (.mk 2 n x ps) τ Γ k σ (some (Γ++[(x,τ)],σ)) :=
 ⟨JM h λη w=>by simp [Ir,GE],hΓ.add h1 h2⟩
theorem pA {m:Md} {f n:Int} {x:Str} {ps:List Ty} {τ:Ty} {Γ:Ax} {k:Int} {σ:Sb} (h:StOk k σ) (hΓ:EnvOk k Γ) (hf:f≠2/\f≠3/\f≠4/\f≠5/\f≠6):Lm m (.mk f n x ps) τ Γ k σ (some (Γ,σ)) :=
 ⟨JM h λη w=>by simp [Ir,hf],hΓ⟩
def Oy (f:Int):Ty:=if f=3 then AT else if f=4 then BP else Ds
theorem ZA {m:Md} {f n:Int} {x:Str} {ps:List Ty} {τ:Ty} {Γ:Ax} {k:Int} {σ:Sb} {r:Option Sb} (hΓ:EnvOk k Γ) (hf:f=3\/f=4\/f=5)
  (hr:match r with | some σ'=>StpR k σ k σ' (λ_=>()) (λη _=>A7 η τ=A7 η (Oy f)) | none=>StpN σ (β:=Unit) (λη _=>A7 η τ=A7 η (Oy f))):Lm m (.mk f n x ps) τ Γ k σ (r.map λσ'=>(Γ,σ')):=by
 have key:∀η Δ,Ir m (.mk f n x ps) (A7 η τ) (Fg η Γ) Δ↔A7 η τ=A7 η (Oy f)/\Δ=Fg η Γ:=λη Δ=>by
  rcases hf with rfl | rfl | rfl <;> simp [Ir,Oy]
 cases r with
 | none=>exact StpN.first hr λη w hw=>⟨(),((key η w).1 hw).1⟩
 | some σ' =>
  refine ⟨hr.weaken (λη g=>(key η _).2 ⟨g,rfl⟩) λη w hw=>?_,hΓ⟩;obtain ⟨e1,e2⟩:=(key η w).1 hw;exact ⟨(),e1,λη' ha _=>by rw [ha.env hΓ,e2]⟩
theorem L6 {m:Md} {n:Int} {x:Str} {ps:List Ty} {τ:Ty} {Γ:Ax} {k:Int} {σ:Sb} (h:F0 m.datas x=none\/∃c y,F0 m.datas x=some (c,y)/\c.args.length≠ps.length):Lm m (.mk 6 n x ps) τ Γ k σ none:=by
 intro η w _ hw;simp only [Ir] at hw;simp at hw;obtain ⟨c,d,h1,h2,_⟩:=hw;rcases h with h | ⟨c',y,h,h3⟩
 ·rw [h] at h1;cases h1
 ·rw [h] at h1;cases h1;exact h3 h2
theorem X1 {m:Md} {n:Int} {x y:Str} {c:Cd} {ps:List Ty} {τ:Ty} {Γ:Ax} {k:Int} {σ:Sb} (h:F0 m.datas x=some (c,y)) (he:StpN σ (β:=Unit) (λη _=>A7 η τ=A7 η (Bt y))):Lm m (.mk 6 n x ps) τ Γ k σ none:=by
 refine StpN.first he λη w hw=>⟨(),?_⟩
 simp only [Ir] at hw;simp [h] at hw;obtain ⟨_,_,⟨rfl,rfl⟩,_,h2,_⟩:=hw;simpa using h2
theorem ZB {m:Md} (hm:Ev m) {n:Int} {x y:Str} {c:Cd} {ps:List Ty} {τ:Ty} {Γ:Ax} {k:Int} {σ σ1:Sb} {r:Option (Ax×Sb)} (h:F0 m.datas x=some (c,y)) (hl:c.args.length=ps.length) (hΓ:EnvOk k Γ) (he:StpR k σ k σ1 (λ_=>()) (λη _=>A7 η τ=A7 η (Bt y)))
  (hr:QW m ps c.args Γ k σ1 r):Lm m (.mk 6 n x ps) τ Γ k σ r:=by
 have ha:=Ip hm h;have hc:∀η,c.args.map (A7 η)=c.args:=λη=>(Js (g:=id) λt ht=>GP (ha t ht).1 (ha t ht).2 η).trans (List.map_id _);have key:∀η Δ,Ir m (.mk 6 n x ps) (A7 η τ) (Fg η Γ) Δ↔A7 η τ=A7 η (Bt y)/\SX m ps c.args (Fg η Γ) Δ:=λη Δ=>by
  simp only [Ir];simp [h];constructor
  ·rintro ⟨_,_,⟨rfl,rfl⟩,_,h2,h3⟩;exact ⟨h2,h3⟩
  ·rintro ⟨h2,h3⟩;exact ⟨_,_,⟨rfl,rfl⟩,hl,h2,h3⟩
 cases r with
 | none =>
  refine StpN.second he hr λη w hw=>?_;obtain ⟨e1,e2⟩:=(key η w).1 hw;exact ⟨(),e1,λη1 hag _=>⟨w,by rw [hc,hag.env hΓ];exact e2⟩⟩
 | some z =>
  obtain ⟨Γ',σ'⟩:=z;obtain ⟨r1,r2⟩:=hr;refine ⟨he.bind r1 (λη g1 g2=>(key η _).2 ⟨g1,by rw [hc] at g2;exact g2⟩) λη w hw=>?_,r2⟩;obtain ⟨e1,e2⟩:=(key η w).1 hw;exact ⟨(),e1,λη1 hag _=>⟨w,by rw [hc,hag.env hΓ];exact e2,λη2 _ _ hv=>hv⟩⟩
theorem iT {m:Md} {Γ:Ax} {k:Int} {σ:Sb} (h:StOk k σ) (hΓ:EnvOk k Γ):QW m [] [] Γ k σ (some (Γ,σ)):=⟨JM h λη w=>by simp [SX],hΓ⟩
theorem cM {m:Md} {p t:Ty} {ps ts:List Ty} {Γ:Ax} {k:Int} {σ:Sb} (h:Lm m p t Γ k σ none):QW m (p::ps) (t::ts) Γ k σ none :=
 StpN.first h λη w hw=>let ⟨Δ,h1,_⟩:=hw;⟨Δ,h1⟩
theorem RX {m:Md} {p t:Ty} {ps ts:List Ty} {Γ Γ1:Ax} {k:Int} {σ σ1:Sb} {r:Option (Ax×Sb)} (ht:TysOk k ts) (h:Lm m p t Γ k σ (some (Γ1,σ1))) (hr:QW m ps ts Γ1 k σ1 r):QW m (p::ps) (t::ts) Γ k σ r:=by
 obtain ⟨h1,h2⟩:=h;cases r with
 | none =>
  refine StpN.second h1 hr λη w hw=>?_;obtain ⟨Δ,e1,e2⟩:=hw;exact ⟨Δ,e1,λη1 ha hv=>⟨w,by rw [hv,ha.tys ht];exact e2⟩⟩
 | some z =>
  obtain ⟨Γ',σ'⟩:=z;obtain ⟨r1,r2⟩:=hr;refine ⟨h1.bind r1 (λη g1 g2=>⟨_,g1,g2⟩) λη w hw=>?_,r2⟩;obtain ⟨Δ,e1,e2⟩:=hw;exact ⟨Δ,e1,λη1 ha hv=>⟨w,by rw [hv,ha.tys ht];exact e2,λη2 _ _ hv2=>hv2⟩⟩
def KL (m:Md) (b a:Ty) (Γ:Ax) (ps:List Ty) (ts:List Tm) (k:Int) (σ:Sb):Option (Int×Sb×List Ty)->Prop
 | some (k',σ',N)=>StpR k σ k' σ' (λη=>N.map (A7 η)) (λη S=>∃l,Mz m (A7 η b) (Fg η Γ) ps l/\Dj m ts (l.map λΔ=>(Δ,A7 η a)) S)/\TysOk k' N
 | none=>StpN σ (β:=List Ty) (λη S=>∃l,Mz m (A7 η b) (Fg η Γ) ps l/\Dj m ts (l.map λΔ=>(Δ,A7 η a)) S)
theorem iC {m:Md} {b a:Ty} {Γ:Ax} {k:Int} {σ:Sb} (h:StOk k σ):KL m b a Γ [] [] k σ (some (k,σ,[])) :=
 ⟨JM h λη w=>by simp [Mz,Dj],λt ht=>by cases ht⟩
theorem HT {m:Md} {b a:Ty} {Γ:Ax} {p:Ty} {ps:List Ty} {t:Tm} {ts:List Tm} {η:Int->Ty} {S:List Ty} :
  (∃l,Mz m (A7 η b) (Fg η Γ) (p::ps) l/\Dj m (t::ts) (l.map λΔ=>(Δ,A7 η a)) S)↔∃Δ S1 S2,Ir m p (A7 η b) (Fg η Γ) Δ/\C1 m t Δ (A7 η a) S1/\(∃l,Mz m (A7 η b) (Fg η Γ) ps l/\Dj m ts (l.map λΔ=>(Δ,A7 η a)) S2)/\S=S1++S2:=by
 constructor
 ·rintro ⟨l,⟨Δ,l1,h1,h2,rfl⟩,S1,S2,h3,h4,h5⟩;exact ⟨Δ,S1,S2,h1,h3,⟨l1,h2,h4⟩,h5⟩
 ·rintro ⟨Δ,S1,S2,h1,h3,⟨l1,h2,h4⟩,h5⟩;exact ⟨Δ::l1,⟨Δ,l1,h1,h2,rfl⟩,S1,S2,h3,h4,h5⟩
theorem Re {m:Md} {b a:Ty} {Γ:Ax} {p:Ty} {ps:List Ty} {t:Tm} {ts:List Tm} {k:Int} {σ:Sb} (h:Lm m p b Γ k σ none):KL m b a Γ (p::ps) (t::ts) k σ none :=
 StpN.first h λη w hw=>let ⟨Δ,_,_,h1,_⟩:=HT.1 hw;⟨Δ,h1⟩
theorem Or {m:Md} {b a:Ty} {Γ Γ1:Ax} {p:Ty} {ps:List Ty} {t:Tm} {ts:List Tm} {k:Int} {σ σ1:Sb} (h:Lm m p b Γ k σ (some (Γ1,σ1))) (h2:BI m Γ1 t k σ1 none):KL m b a Γ (p::ps) (t::ts) k σ none :=
 StpN.second h.1 h2 λη w hw=>let ⟨Δ,S1,S2,h1,h3,_⟩:=HT.1 hw;⟨Δ,h1,λη1 ha hv=>⟨(A7 η a,S1),by rw [hv];exact h3⟩⟩
theorem oV {m:Md} {b a τ:Ty} {Γ Γ1:Ax} {p:Ty} {t:Tm} {k k2:Int} {σ σ1 σ2 σ3:Sb} {N:List Ty} (ha:inB k a) (h:Lm m p b Γ k σ (some (Γ1,σ1))) (h2:BI m Γ1 t k σ1 (some (τ,k2,σ2,N))) (h3:StpR k2 σ2 k2 σ3 (λ_=>()) (λη _=>A7 η τ=A7 η a)) :
  StpR k σ k2 σ3 (λη=>N.map (A7 η)) (λη S=>∃Δ,Ir m p (A7 η b) (Fg η Γ) Δ/\C1 m t Δ (A7 η a) S):=by
 obtain ⟨a1,_⟩:=h;obtain ⟨b1,b2,b3,b4⟩:=h2;have hA:StpR k σ k2 σ2 (λη=>(A7 η τ,N.map (A7 η))) (λη w=>∃Δ,Ir m p (A7 η b) (Fg η Γ) Δ/\C1 m t Δ w.1 w.2) :=
  a1.bind b1 (λη g1 g2=>⟨_,g1,g2⟩) λη w hG=>let ⟨Δ,e1,e2⟩:=hG;⟨Δ,e1,λη1 hag hv=>⟨w,by rw [hv];exact e2,λη2 _ _ hv2=>hv2⟩⟩
 refine hA.bind h3 (λη ⟨Δ,g1,g2⟩ g3=>⟨Δ,g1,by rw [<- g3];exact g2⟩) λη w hG=>?_;obtain ⟨Δ,e1,e2⟩:=hG;refine ⟨(A7 η a,w),⟨Δ,e1,e2⟩,λη1 hag hv=>⟨(),?_,λη2 hb _ _=>?_⟩⟩
 ·simp only [AS] at hv;rw [hv.1,hag.ap ha]
 ·simp only [AS] at hv;rw [hb.tys b4,hv.2]
theorem Ts {m:Md} {b a τ:Ty} {Γ Γ1:Ax} {p:Ty} {ps:List Ty} {t:Tm} {ts:List Tm} {k k2:Int} {σ σ1 σ2:Sb} {N:List Ty} (ha:inB k a) (h:Lm m p b Γ k σ (some (Γ1,σ1))) (h2:BI m Γ1 t k σ1 (some (τ,k2,σ2,N))) (h3:StpN σ2 (β:=Unit) (λη _=>A7 η τ=A7 η a)) :
  KL m b a Γ (p::ps) (t::ts) k σ none:=by
 have hA:StpR k σ k2 σ2 (λη=>(A7 η τ,N.map (A7 η))) (λη w=>∃Δ,Ir m p (A7 η b) (Fg η Γ) Δ/\C1 m t Δ w.1 w.2) :=
  h.1.bind h2.1 (λη g1 g2=>⟨_,g1,g2⟩) λη w hG=>let ⟨Δ,e1,e2⟩:=hG;⟨Δ,e1,λη1 hag hv=>⟨w,by rw [hv];exact e2,λη2 _ _ hv2=>hv2⟩⟩
 refine StpN.second hA h3 λη w hw=>?_;obtain ⟨Δ,S1,S2,e1,e2,_⟩:=HT.1 hw;refine ⟨(A7 η a,S1),⟨Δ,e1,e2⟩,λη1 hag hv=>⟨(),?_⟩⟩;simp only [AS] at hv;rw [hv.1,hag.ap ha]
theorem RT {m:Md} {b a τ:Ty} {Γ Γ1:Ax} {p:Ty} {ps:List Ty} {t:Tm} {ts:List Tm} {k k2:Int} {σ σ1 σ2 σ3:Sb} {N:List Ty} {r:Option (Int×Sb×List Ty)} (ha:inB k a) (hb:inB k b) (hΓ:EnvOk k Γ) (h:Lm m p b Γ k σ (some (Γ1,σ1))) (h2:BI m Γ1 t k σ1 (some (τ,k2,σ2,N)))
  (h3:StpR k2 σ2 k2 σ3 (λ_=>()) (λη _=>A7 η τ=A7 η a)) (hr:KL m b a Γ ps ts k2 σ3 r):KL m b a Γ (p::ps) (t::ts) k σ (r.map λx=>(x.1,x.2.1,N++x.2.2)):=by
 have hA:=oV ha h h2 h3;have hN:=h2.2.2.2;cases r with
 | none =>
  refine StpN.second hA hr λη w hw=>?_;obtain ⟨Δ,S1,S2,e1,e2,e3,_⟩:=HT.1 hw;exact ⟨S1,⟨Δ,e1,e2⟩,λη1 hag _=>⟨S2,by rw [hag.ap hb,hag.ap ha,hag.env hΓ];exact e3⟩⟩
 | some z =>
  obtain ⟨k4,σ4,N4⟩:=z;obtain ⟨r1,r2⟩:=hr;refine ⟨hA.bind r1 (λη ⟨Δ,g1,g2⟩ g3=>?_) λη w hG=>?_,(hN.mono r1.1).append r2⟩
  ·simp only [C4];exact HT.2 ⟨Δ,_,_,g1,g2,g3,rfl⟩
  ·obtain ⟨Δ,S1,S2,e1,e2,e3,rfl⟩:=HT.1 hG;refine ⟨S1,⟨Δ,e1,e2⟩,λη1 hag hv=>⟨S2,by rw [hag.ap hb,hag.ap ha,hag.env hΓ];exact e3,λη2 hb' _ hv2=>?_⟩⟩;simp only [C4];rw [hb'.tys hN,hv,hv2]
theorem JN {m:Md} {Γ:Ax} {n:Int} {x:Str} {t0:Tm} {ts:List Tm} {ps:List Ty} {τ:Ty} {S:List Ty} :
  C1 m (.mk 15 n x (t0::ts) ps) Γ τ S↔∃b S1 S2,C1 m t0 Γ b S1/\(∃l,Mz m b Γ ps l/\Dj m ts (l.map λΔ=>(Δ,τ)) S2)/\S=S1++S2:=by
 constructor
 ·rintro ⟨K,S1,S2,q1,q2,rfl⟩;simp [Bf] at q1;obtain ⟨a,l,h1,rfl,rfl⟩:=q1;obtain ⟨T1,T2,h2,h3,rfl⟩:=q2;exact ⟨a,T1,T2,h2,⟨l,h1,h3⟩,by simp⟩
 ·rintro ⟨b,S1,S2,h1,⟨l,h2,h3⟩,rfl⟩;exact ⟨(Γ,b)::l.map (λΔ=>(Δ,τ)),S1++S2,[],by simp only [Bf];simp;exact ⟨b,l,h2,rfl,rfl⟩,⟨S1,S2,h1,h3,rfl⟩,by simp⟩
theorem Qm {m:Md} {Γ:Ax} {n:Int} {x:Str} {t0:Tm} {ts:List Tm} {ps:List Ty} {k k0:Int} {σ:Sb} (h:BI m Γ t0 k0 σ none):BI m Γ (.mk 15 n x (t0::ts) ps) k σ none :=
 StpN.first h λη w hw=>let ⟨b,S1,_,h1,_⟩:=JN.1 hw;⟨(b,S1),h1⟩
theorem XE {m:Md} {Γ:Ax} {n:Int} {x:Str} {t0:Tm} {ts:List Tm} {ps:List Ty} {k k1 h:Int} {σ σ1:Sb} {b:Ty} {N1:List Ty} {r:Option (Int×Sb×List Ty)} (hΓ:EnvOk k Γ) (hh:0<=h/\h<k1) (hN:TysOk k1 N1) (hb:inB k1 b)
  (hA:StpR k σ k1 σ1 (λη=>(η h,A7 η b,N1.map (A7 η))) (λη (w:Ty×Ty×List Ty)=>C1 m t0 (Fg η Γ) w.2.1 w.2.2)) (hr:KL m b (As h) Γ ps ts k1 σ1 r) :
  BI m Γ (.mk 15 n x (t0::ts) ps) k σ (r.map λz=>(As h,z.1,z.2.1,N1++z.2.2)):=by
 cases r with
 | none =>
  refine StpN.second hA hr λη w hw=>?_;obtain ⟨b0,S1,S2,h1,h2,_⟩:=JN.1 hw;refine ⟨(w.1,b0,S1),h1,λη1 ha hv=>⟨S2,?_⟩⟩;simp only [AS] at hv;rw [hv.2.1,CJ,hv.1,ha.env hΓ];exact h2
 | some z =>
  obtain ⟨k2,σ2,N2⟩:=z;obtain ⟨r1,r2⟩:=hr;refine ⟨hA.bind r1 (λη g1 g2=>?_) λη w hG=>?_,rfl,(If hh).mono r1.1,(hN.mono r1.1).append r2⟩
  ·simp only [C4];exact JN.2 ⟨_,_,_,g1,g2,rfl⟩
  ·obtain ⟨b0,S1,S2,h1,h2,h3⟩:=JN.1 hG;refine ⟨(w.1,b0,S1),h1,λη1 ha hv=>?_⟩;simp only [AS] at hv;refine ⟨S2,by rw [hv.2.1,CJ,hv.1,ha.env hΓ];exact h2,λη2 hb2 _ hv2=>?_⟩;obtain ⟨w1,w2⟩:=w;simp only at h3 hv hv2 ⊢;rw [CJ,hb2 h hh.2,hv.1,C4,hb2.tys hN,hv.2.2,hv2,h3]
theorem KD {m:Md} {Γ:Ax} {n:Int} {x:Str} {t0:Tm} {ts:List Tm} {ps:List Ty} {k k1:Int} {σ σ1:Sb} {b:Ty} {N1:List Ty} {r:Option (Int×Sb×List Ty)} (hΓ:EnvOk k Γ) (h0:BI m Γ t0 k σ (some (b,k1,σ1,N1))) (hr:KL m b (As k1) Γ ps ts (k1+1) σ1 r) :
  BI m Γ (.mk 15 n x (t0::ts) ps) k σ (r.map λz=>(As k1,z.1,z.2.1,N1++z.2.2)):=by
 obtain ⟨a1,a2,a3,a4⟩:=h0;have hs1:=a1.2.1;refine XE hΓ ⟨hs1.1,by omega⟩ (a4.mono (by omega)) (a3.mono (by omega)) ?_ hr;refine a1.bind (MH hs1) (λη g _=>g) λη w hG=>⟨w.2,hG,λη1 ha hv=>⟨w.1,trivial,λη2 hb _ hv2=>?_⟩⟩
 obtain ⟨w1,w2,w3⟩:=w;simp only [AS] at hv ⊢;exact ⟨hv2,by rw [hb.ap a3,hv.1],by rw [hb.tys a4,hv.2]⟩
theorem bU {m:Md} {Γ:Ax} {x:Str} {ps:List Ty} {k k1:Int} (hk:k<k1) (hΓ:EnvOk k Γ):uW m Γ 27 x ps k k1 [(Γ++[(x,Ba (As k) AT)],AT)] (As k) []:=by
 refine ⟨λη=>by simp [Bf,Gz,GE],λη K τ0 S0 hR=>?_⟩;simp [Bf] at hR;obtain ⟨rfl,rfl⟩:=hR;exact ⟨λ_=>τ0,λη' ha hf=>by simp [Gz,GE,ha.env hΓ,hf k (Jt _) hk]⟩
theorem Iq {m:Md} {Γ:Ax} {n:Int} {x:Str} {t0 t1:Tm} {ps:List Ty} {τ:Ty} {S:List Ty} :
  C1 m (.mk 6 n x [t0,t1] ps) Γ τ S↔∃a S1 S2,C1 m t0 Γ (Ba a τ) S1/\C1 m t1 Γ a S2/\S=S1++S2:=by
 constructor
 ·rintro ⟨K,S1,S2,q1,q2,rfl⟩;simp [Bf] at q1;obtain ⟨⟨a,rfl⟩,rfl⟩:=q1;obtain ⟨T1,T2,h1,⟨T3,T4,h2,h3,h4⟩,h5⟩:=q2;simp only [Dj] at h3;subst h3;subst h4;subst h5;exact ⟨a,T1,T3,h1,h2,by simp⟩
 ·rintro ⟨a,S1,S2,h1,h2,rfl⟩;exact ⟨[(Γ,Ba a τ),(Γ,a)],S1++S2,[],by simp [Bf],⟨S1,S2,h1,⟨S2,[],h2,rfl,by simp⟩,rfl⟩,by simp⟩
theorem UA {m:Md} {Γ:Ax} {t0 t1:Tm} {k k1 k2:Int} {σ σ1 σ2:Sb} {f a:Ty} {N1 N2:List Ty} (hΓ:EnvOk k Γ) (h0:BI m Γ t0 k σ (some (f,k1,σ1,N1))) (h1:BI m Γ t1 k1 σ1 (some (a,k2,σ2,N2))) :
  StpR k σ k2 σ2 (λη=>(A7 η f,A7 η a,N1.map (A7 η),N2.map (A7 η))) (λη (w:Ty×Ty×List Ty×List Ty)=>C1 m t0 (Fg η Γ) w.1 w.2.2.1/\C1 m t1 (Fg η Γ) w.2.1 w.2.2.2):=by
 obtain ⟨a1,a2,a3,a4⟩:=h0;refine a1.bind h1.1 (λη g1 g2=>⟨g1,g2⟩) λη w hG=>⟨(w.1,w.2.2.1),hG.1,λη1 ha hv=>⟨(w.2.1,w.2.2.2),by rw [ha.env hΓ];exact hG.2,λη2 hb _ hv2=>?_⟩⟩
 obtain ⟨w1,w2,w3,w4⟩:=w;simp only [AS] at hv hv2 ⊢;exact ⟨by rw [hb.ap a3,hv.1],hv2.1,by rw [hb.tys a4,hv.2],hv2.2⟩
theorem lC {m:Md} {Γ:Ax} {t:Tm} {k k0:Int} {σ:Sb} {t':Tm} (h:BI m Γ t k0 σ none) (hi:∀η (w:Ty×List Ty),C1 m t' (Fg η Γ) w.1 w.2->∃a S,C1 m t (Fg η Γ) a S):BI m Γ t' k σ none :=
 StpN.first h λη w hw=>let ⟨a,S,h1⟩:=hi η w hw;⟨(a,S),h1⟩
theorem dK {m:Md} {Γ:Ax} {t0 t1 t':Tm} {k k1:Int} {σ σ1:Sb} {f:Ty} {N1:List Ty} (hΓ:EnvOk k Γ) (h0:BI m Γ t0 k σ (some (f,k1,σ1,N1))) (h1:BI m Γ t1 k1 σ1 none) (hi:∀η (w:Ty×List Ty),C1 m t' (Fg η Γ) w.1 w.2->(∃a S,C1 m t0 (Fg η Γ) a S)/\∃a S,C1 m t1 (Fg η Γ) a S) :
  BI m Γ t' k σ none :=
 StpN.second h0.1 h1 λη w hw=>let ⟨⟨a,S,h1⟩,b,S2,h2⟩:=hi η w hw;⟨(a,S),h1,λη1 ha _=>⟨(b,S2),by rw [ha.env hΓ];exact h2⟩⟩
theorem KE {m:Md} {Γ:Ax} {n:Int} {x:Str} {t0 t1:Tm} {ps:List Ty} {k k1 k2:Int} {σ σ1 σ2:Sb} {f a:Ty} {N1 N2:List Ty} {r:Option Sb} (hΓ:EnvOk k Γ) (h0:BI m Γ t0 k σ (some (f,k1,σ1,N1))) (h1:BI m Γ t1 k1 σ1 (some (a,k2,σ2,N2)))
  (hr:match r with | some σ'=>StpR (k2+1) σ2 (k2+1) σ' (λ_=>()) (λη _=>A7 η f=A7 η (Ba a (As k2))) | none=>StpN σ2 (β:=Unit) (λη _=>A7 η f=A7 η (Ba a (As k2)))) :
  BI m Γ (.mk 6 n x [t0,t1] ps) k σ (r.map λσ'=>(As k2,k2+1,σ',N1++N2)):=by
 have hA:=UA hΓ h0 h1;have hs2:=hA.2.1;obtain ⟨_,_,f3,f4⟩:=h0;obtain ⟨b1,_,b3,b4⟩:=h1;have f3':=f3.mono b1.1;have f4':=f4.mono b1.1;have hB:StpR k σ (k2+1) σ2 (λη=>(η k2,A7 η f,A7 η a,N1.map (A7 η),N2.map (A7 η))) (λη (w:Ty×Ty×Ty×List Ty×List Ty)=>C1 m t0 (Fg η Γ) w.2.1 w.2.2.2.1/\C1 m t1 (Fg η Γ) w.2.2.1 w.2.2.2.2) :=
  hA.bind (MH hs2) (λη g _=>g) λη w hG=>⟨w.2,hG,λη1 ha hv=>⟨w.1,trivial,λη2 hb _ hv2=>by
   obtain ⟨w1,w2,w3,w4,w5⟩:=w;simp only [AS] at hv ⊢;exact ⟨hv2,by rw [hb.ap f3',hv.1],by rw [hb.ap b3,hv.2.1],by rw [hb.tys f4',hv.2.2.1],by rw [hb.tys b4,hv.2.2.2]⟩⟩⟩
 cases r with
 | none =>
  refine StpN.second hB hr λη w hw=>?_;obtain ⟨a0,S1,S2,q1,q2,_⟩:=Iq.1 hw;refine ⟨(w.1,Ba a0 w.1,a0,S1,S2),⟨q1,q2⟩,λη1 ha hv=>⟨(),?_⟩⟩;simp only [AS] at hv;rw [ap_kFun,CJ,hv.1,hv.2.1,hv.2.2.1]
 | some σ' =>
  refine ⟨hB.bind hr (λη g1 g2=>?_) λη w hG=>?_,rfl,If ⟨hs2.1,by omega⟩,(f4'.append b4).mono (by omega)⟩
  ·simp only [C4];rw [ap_kFun,CJ] at g2;exact Iq.2 ⟨_,_,_,by rw [CJ,<- g2];exact g1.1,g1.2,rfl⟩
  ·obtain ⟨a0,S1,S2,q1,q2,q3⟩:=Iq.1 hG;refine ⟨(w.1,Ba a0 w.1,a0,S1,S2),⟨q1,q2⟩,λη1 ha hv=>?_⟩;simp only [AS] at hv;refine ⟨(),by rw [ap_kFun,CJ,hv.1,hv.2.1,hv.2.2.1],λη2 hb _ _=>?_⟩;obtain ⟨w1,w2⟩:=w;simp only at hv q3 ⊢;rw [CJ,hb k2 (by omega),hv.1,C4,hb.tys (f4'.mono (by omega)),hb.tys (b4.mono (by omega)),hv.2.2.2.1,hv.2.2.2.2,q3]
theorem MX {m:Md} {Γ:Ax} {n:Int} {x:Str} {t0 t1 t2:Tm} {ps:List Ty} {τ:Ty} {S:List Ty} :
  C1 m (.mk 8 n x [t0,t1,t2] ps) Γ τ S↔∃S1 S2 S3,Dj m [t0] [(Γ,BP)] S1/\C1 m t1 Γ τ S2/\C1 m t2 Γ τ S3/\S=S1++(S2++S3):=by
 constructor
 ·rintro ⟨K,S1,S2,q1,q2,rfl⟩;simp [Bf] at q1;obtain ⟨rfl,rfl⟩:=q1;obtain ⟨T1,T2,h1,⟨T3,T4,h2,⟨T5,T6,h3,h4,h5⟩,h6⟩,h7⟩:=q2;simp only [Dj] at h4;subst h4;subst h5;subst h6;subst h7;exact ⟨T1,T3,T5,⟨T1,[],h1,rfl,by simp⟩,h2,h3,by simp⟩
 ·rintro ⟨S1,S2,S3,⟨T1,T2,h1,h2,h3⟩,h4,h5,rfl⟩;simp only [Dj] at h2;subst h2;subst h3;exact ⟨[(Γ,BP),(Γ,τ),(Γ,τ)],T1++(S2++S3),[],by simp [Bf],⟨T1,S2++S3,h1,⟨S2,S3,h4,⟨S3,[],h5,rfl,by simp⟩,rfl⟩,rfl⟩,by simp⟩
theorem Qn {m:Md} {Γ:Ax} {n:Int} {x:Str} {t0 t1 t2:Tm} {ps:List Ty} {k k1 k2 k3:Int} {σ σ1 σ2 σ3:Sb} {f a:Ty} {N1 N2 N3:List Ty} {r:Option Sb} (hΓ:EnvOk k Γ) (h0:HE m [t0] [(Γ,BP)] k σ (some (k1,σ1,N1))) (h1:BI m Γ t1 k1 σ1 (some (f,k2,σ2,N2)))
  (h2:BI m Γ t2 k2 σ2 (some (a,k3,σ3,N3))) (hr:match r with | some σ'=>StpR k3 σ3 k3 σ' (λ_=>()) (λη _=>A7 η f=A7 η a) | none=>StpN σ3 (β:=Unit) (λη _=>A7 η f=A7 η a)) :
  BI m Γ (.mk 8 n x [t0,t1,t2] ps) k σ (r.map λσ'=>(f,k3,σ',N1++(N2++N3))):=by
 obtain ⟨a1,a2⟩:=h0;have hA:=UA (hΓ.mono a1.1) h1 h2;obtain ⟨_,c2,c3,c4⟩:=h1;obtain ⟨b1,b2,b3,b4⟩:=h2;have hB:StpR k σ k3 σ3 (λη=>(A7 η f,A7 η a,N1.map (A7 η),N2.map (A7 η),N3.map (A7 η))) (λη (w:Ty×Ty×List Ty×List Ty×List Ty)=>Dj m [t0] [(Fg η Γ,BP)] w.2.2.1/\C1 m t1 (Fg η Γ) w.1 w.2.2.2.1/\C1 m t2 (Fg η Γ) w.2.1 w.2.2.2.2) :=
  a1.bind hA (λη g1 g2=>⟨by simpa [Gz] using g1,g2⟩) λη w hG=>⟨w.2.2.1,by simpa [Gz] using hG.1,λη1 ha hv=>⟨(w.1,w.2.1,w.2.2.2.1,w.2.2.2.2),by rw [ha.env hΓ];exact hG.2,λη2 hb _ hv2=>by
   obtain ⟨w1,w2,w3,w4,w5⟩:=w;simp only [AS] at hv2 ⊢;exact ⟨hv2.1,hv2.2.1,by rw [hb.tys a2,hv],hv2.2.2.1,hv2.2.2.2⟩⟩⟩
 cases r with
 | none =>
  refine StpN.second hB hr λη w hw=>?_;obtain ⟨S1,S2,S3,q1,q2,q3,_⟩:=MX.1 hw;refine ⟨(w.1,w.1,S1,S2,S3),⟨q1,q2,q3⟩,λη1 ha hv=>⟨(),?_⟩⟩;simp only [AS] at hv;rw [hv.1,hv.2.1]
 | some σ' =>
  refine ⟨hB.bind hr (λη g1 g2=>?_) λη w hG=>?_,c2,c3.mono b1.1,(a2.mono hA.1).append ((c4.mono b1.1).append b4)⟩
  ·simp only [C4];exact MX.2 ⟨_,_,_,g1.1,g1.2.1,by rw [g2];exact g1.2.2,rfl⟩
  ·obtain ⟨S1,S2,S3,q1,q2,q3,q4⟩:=MX.1 hG;refine ⟨(w.1,w.1,S1,S2,S3),⟨q1,q2,q3⟩,λη1 ha hv=>?_⟩;simp only [AS] at hv;refine ⟨(),by rw [hv.1,hv.2.1],λη2 hb _ _=>?_⟩;obtain ⟨w1,w2⟩:=w;simp only at hv q4 ⊢;rw [hb.ap (c3.mono b1.1),hv.1,C4,C4,hb.tys (a2.mono hA.1),hb.tys (c4.mono b1.1),hb.tys b4,hv.2.2.1,hv.2.2.2.1,hv.2.2.2.2,q4]
theorem LX {m:Md} {Γ:Ax} {n:Int} {x:Str} {t:Tm} {ps:List Ty} {k:Int} {σ:Sb} {r:Option (Ty×Int×Sb×List Ty)} (h:BI m Γ t k σ r):BI m Γ (.mk 16 n x [t] ps) k σ (r.map λz=>(Ic 5 z.1,z.2)):=by
 have inv:∀{Γ τ S},C1 m (.mk 16 n x [t] ps) Γ τ S↔∃a,τ=Ic 5 a/\C1 m t Γ a S:=by
  intro Γ τ S;constructor
  ·rintro ⟨K,S1,S2,q1,q2,rfl⟩;simp [Bf] at q1;obtain ⟨a,rfl,rfl,rfl⟩:=q1;obtain ⟨T1,T2,h1,h2,h3⟩:=q2;simp only [Dj] at h2;subst h2;subst h3;exact ⟨a,rfl,by simpa using h1⟩
  ·rintro ⟨a,rfl,h⟩;exact ⟨[(Γ,a)],S,[],by simp [Bf],⟨S,[],h,rfl,by simp⟩,by simp⟩
 cases r with
 | none=>exact StpN.first h λη w hw=>let ⟨a,_,h1⟩:=inv.1 hw;⟨(a,w.2),h1⟩
 | some z =>
  obtain ⟨τ,k',σ',N⟩:=z;obtain ⟨h1,h2,h3,h4⟩:=h;refine ⟨h1.weaken (λη g=>inv.2 ⟨_,by rw [ap_k5],g⟩) λη w hw=>?_,fW (by decide) (by decide) h2,ZU (by decide) h3,h4⟩;obtain ⟨a,e1,e2⟩:=inv.1 hw;refine ⟨(a,w.2),e2,λη' _ hv=>?_⟩;simp only [AS] at hv;obtain ⟨w1,w2⟩:=w;simp only at e1 hv ⊢;rw [ap_k5,hv.1,hv.2,e1]
def wY (m:Md) (Γ:Ax) (t:Tm) (T:Ty) (N:List Ty):Prop:=C1 m t Γ T N/\∀τ S,C1 m t Γ τ S->∃η,A7 η T=τ/\N.map (A7 η)=S
def EnvCl (Γ:Ax):Prop:=∀p∈Γ,CA p.2=[]/\Cl p.2=true
theorem EnvCl.ap {Γ:Ax} (h:EnvCl Γ) (η:Int->Ty):Fg η Γ=Γ:=(Js (g:=id) λp hp=>by rw [GP (h p hp).1 (h p hp).2];rfl).trans (List.map_id _)
theorem VQ {m:Md} {Γ:Ax} {t:Tm} {k k':Int} {σ':Sb} {τ:Ty} {N:List Ty} (hΓ:EnvCl Γ) (h:BI m Γ t k (λ_=>none) (some (τ,k',σ',N))) {θ:Int->Ty} (hθ:Sol σ' θ):wY m Γ t (A7 θ τ) (N.map (A7 θ)):=by
 obtain ⟨h1,h2,h3,h4⟩:=h;obtain ⟨_,_,s1,s2⟩:=h1;refine ⟨?_,λτ0 S hT=>?_⟩
 ·have:=(s1 θ hθ.eq).2;simp only [hΓ.ap] at this;exact this
 ·obtain ⟨η,_,q1,q2⟩:=s2 As (τ0,S) (λn t hn=>by cases hn) (by simp only [hΓ.ap];exact hT);simp only [AS] at q2;refine ⟨η,by rw [hθ.mguT q1,q2.1],?_⟩;rw [XU,<- q2.2];exact Js λt _=>hθ.mguT q1 t
theorem uE {m:Md} {Γ:Ax} {t:Tm} {k:Int} (hΓ:EnvCl Γ) (h:BI m Γ t k (λ_=>none) none) (τ:Ty) (S:List Ty):¬C1 m t Γ τ S:=λhT=>h As (τ,S) (λn t hn=>by cases hn) (by simp only [hΓ.ap];exact hT)
theorem bP {k:Int} (hk:0<=k):StOk k (λ_=>none):=by
 refine ⟨hk,?_,As,?_,?_,?_,?_⟩
 ·intro n t hn;cases hn
 ·intro n t hn;cases hn
 ·intro n _;rfl
 ·intro n t hn;cases hn
 ·intro n t hn;cases hn
mutual
def Dn:Ty->List Int->List Int
 | .mk f n _ ps,l=>if f=9 then (if n∈l then l else l++[n]) else BY ps l
def BY:List Ty->List Int->List Int
 | [],l=>l
 | t::r,l=>BY r (Dn t l)
end
mutual
theorem TD {m:Int}:∀(t:Ty) (l:List Int),m∈Dn t l↔m∈l\/m∈CA t
 | .mk f n x ps,l=>by
  by_cases e:f=9
  ·simp only [Dn,CA,if_pos e]
   split <;> simp <;> grind
  ·simp only [Dn,CA,if_neg e];exact Vx ps l
theorem Vx {m:Int}:∀(ps:List Ty) (l:List Int),m∈BY ps l↔m∈l\/m∈Dm ps
 | [],l=>by simp [BY,Dm]
 | t::r,l=>by simp only [BY,Dm,BH,Vx r,TD t];grind
end
def Hl (stay:List Int) (n:Nat):Nat:=((List.range n).filter λi:Nat=>decide ((i:Int)∉stay)).length
def NthF (stay:List Int) (k n:Nat):Prop:=(n:Int)∉stay/\Hl stay n=k
theorem CP (stay:List Int) (n:Nat):Hl stay (n+1)=Hl stay n+if (n:Int)∈stay then 0 else 1:=by
 simp only [Hl,MT,List.filter_append,Bw];by_cases h:(n:Int)∈stay <;> simp [h]
theorem Kg {stay:List Int} {n m:Nat} (h:n<=m):Hl stay n<=Hl stay m:=by
 induction h with
 | refl=>exact B8 _
 | step _ ih=>rw [Nat.succ_eq_add_one,CP];omega
theorem NthF.unique {stay:List Int} {k n m:Nat} (h:NthF stay k n) (h':NthF stay k m):n=m:=by
 rcases Lc n m with hl | hl | hl
 ·have:=Kg (stay:=stay) (show n+1<=m from hl);rw [CP,if_neg h.1,h.2,h'.2] at this;omega
 ·exact hl
 ·have:=Kg (stay:=stay) (show m+1<=n from hl);rw [CP,if_neg h'.1,h.2,h'.2] at this;omega
def N0 (i j k:Nat):Nat:=bif Nat.beq k i then j else bif Nat.beq k j then i else k
theorem G4 (i j k:Nat):N0 i j (N0 i j k)=k:=by
 have hb:∀a b:Nat,Nat.beq a b=decide (a=b):=λa b=>by
  cases h:Nat.beq a b with
  | true=>simp [Cx h]
  | false =>
   have:a≠b:=λe=>by subst e;simp at h
   simp [this]
 unfold N0;simp only [hb];by_cases h1:k=i
 ·subst h1;simp only [decide_true,cond_true];by_cases h2:j=k
  ·subst h2;simp
  ·simp [h2]
 ·by_cases h2:k=j
  ·subst h2;simp [h1]
  ·simp [h1,h2]
def Tu (ρ:Nat->Nat):St->St
 | []=>[]
 | (i,some b)::r=>(ρ i,some (Tv ρ b))::Tu ρ r
 | (i,none)::r=>(ρ i,none)::Tu ρ r
theorem FI {i j:Nat} {k:Nat} {b:Blk}:∀{st:St},Az (Tu (N0 i j) st) k b->∃b0,Az st (N0 i j k) b0/\b=Tv (N0 i j) b0
 | [],h=>by simp [Tu,Az,lk] at h
 | (a,some x)::r,h=>by
  simp only [Tu] at h;unfold Az at h ⊢;by_cases ha:N0 i j a=k
  ·subst ha;rw [Ay] at h;rw [G4,Ay];cases h;exact ⟨x,rfl,rfl⟩
  ·rw [A5 _ _ ha] at h;rw [A5 _ _ (λe=>ha (by rw [e,G4]))];exact FI h
 | (a,none)::r,h=>by
  simp only [Tu] at h;unfold Az at h ⊢;by_cases ha:N0 i j a=k
  ·subst ha;rw [Ay] at h;cases h
  ·rw [A5 _ _ ha] at h;rw [A5 _ _ (λe=>ha (by rw [e,G4]))];exact FI h
theorem AZ {P:Program} {n:Nat} {F:List Nat} {Q:DQ} {env:Env} {st:St} {ids:List Nat} {todo:List DI} (i j:Nat) (hF:(EH F i||EH F j)=false)
  (h:DGo P n F Q todo (cE (N0 i j) env) (Tu (N0 i j) st) (ids.map (N0 i j))):DGo P n F Q todo env st ids:=by
 intro b cs I μ a w items hd hc;have hn:∀k g,μ k=some g->(λk=>μ (N0 i j k)) (N0 i j k)=some g:=λk g hg=>by simp only [G4];exact hg
 have hE:Ext I μ st w I (λk=>μ (N0 i j k)) (Tu (N0 i j) st) w :=
  {imm:=Imm.le_refl I,os:=rfl,tape:=rfl,output:=rfl,size:=B8 _,block:=λ_ _ _=>rfl,
     fresh:=λb _ ⟨k,b',g,h1,h2,h3⟩=>let ⟨b0,q,_⟩:=FI h1;⟨_,b0,g,q,h2,h3⟩,old:=λ_ _ _=>rfl }
 have hc':Conc n I (λk=>μ (N0 i j k)) (cE (N0 i j) env) (Tu (N0 i j) st) (ids.map (N0 i j)) a w :=
  {imm:=hc.imm
   blk:=λk b' hl=>by
    obtain ⟨b0,h1,rfl⟩:=FI hl;obtain ⟨g,hg,hr⟩:=hc.blk _ b0 h1;exact ⟨g,hg,hr.ren λx _ g hg=>hn x g hg⟩
   apart:=λk b' g m hl hg hk=>by
    obtain ⟨b0,h1,rfl⟩:=FI hl;exact hc.apart _ b0 g m h1 hg hk
   inj:=λk k' bi bj gi gj m hi hj hgi hgj hki hkj=>by
    obtain ⟨b1,h1,_⟩:=FI hi;obtain ⟨b2,h2,_⟩:=FI hj;have:=hc.inj _ _ b1 b2 gi gj m h1 h2 hgi hgj hki hkj;have e:=congrArg (N0 i j) this
    rwa [G4,G4] at e
   nodup:=by
    have:=hc.nodup;rw [List.nodup_iff_pairwise_ne] at this ⊢;exact List.Pairwise.map _ (λx y hxy e=>hxy (by have e:=congrArg (N0 i j) e;rwa [G4,G4] at e)) this
   idsFree:=λk hk=>by
    obtain ⟨x,hx,rfl⟩:=Cc.1 hk;show μ (N0 i j (N0 i j x))=none;rw [G4];exact hc.idsFree x hx
   size:=hc.size
   env:=λt d hl=>by
    obtain ⟨d0,h1,rfl⟩:=Z1 hl;exact (hc.env t d0 h1).ren λx _ g hg=>hn x g hg
   defers:=hc.defers.ext hE }
 simp only [PT] at hF;have hfix:∀k∈F,N0 i j k=k:=λk hk=>by
  have h1:Nat.beq k i=false:=by
   cases hb:Nat.beq k i with
   | false=>rfl
   | true=>rw [<- Cx hb,BG.2 hk] at hF;cases hF.1
  have h2:Nat.beq k j=false:=by
   cases hb:Nat.beq k j with
   | false=>rfl
   | true=>rw [<- Cx hb,BG.2 hk] at hF;cases hF.2
  simp [N0,h1,h2]
 exact (h b cs I _ a w items hd hc').mono λe a' w' hp=>hp.back (λk hk g hg=>by show μ (N0 i j k)=some g;rw [hfix k hk];exact hg) <| hE
def Kl (P:Program) (f:FuncId) (t tb:TypeId):Prop:=∀(g:FuncId) (fi ca:Array Value) (w:World) (K Kp:World->Prop),
 (callFunc g (fi++ca)).run P (w.alloc (.cells #[.bool false] tb)) = .ok (.enter g (fi++ca)) (w.alloc (.cells #[.bool false] tb)) ->
 Calls P g (fi++ca) (w.alloc (.cells #[.bool false] tb)) (λe w'=>match e with
  | .returned _=>K w'
  | .panicked chain=>chain=[{ v:=.iface t (.agg #[]),recovered:=false }]/\Kp w'
  | .outgrown=>False) ->
 (∀w',K w'->w'.heap[w.heap.size]?=some (.cells #[.bool false] tb (0,0)))->(∀w',Kp w'->w'.heap[w.heap.size]?=some (.cells #[.bool false] tb (0,0))) ->
 Calls P f #[.func (.func g) fi ca] w λe w'=>(e = .returned (.bool true)/\∃w1,K w1/\w'=w1.setCell ⟨w.heap.size,0,none⟩ (.bool true)) \/
  (e = .returned (.bool false)/\∃w1,Kp w1/\w'=(w1.setCell ⟨w.heap.size,0,none⟩ (.bool false)).alloc (.cells #[] t))
theorem DW {w:World} {b:Nat} {v x:Value} {t:TypeId} (h:w.heap[b]?=some (.cells #[x] t (0,0))):w.setCell ⟨b,0,none⟩ v={ w with heap:=w.heap.setIfInBounds b (.cells #[v] t (0,0)) }:=by
 have:∀(A:Array Obj) (f:Obj->Obj),A[b]?=some (.cells #[x] t (0,0))->A.modify b f=A.setIfInBounds b (f (.cells #[x] t (0,0))):=by
  intro A f hA;apply XT;intro i;rw [TM,Array.getElem?_setIfInBounds];by_cases hi:b=i
  ·subst hi;rw [if_pos rfl,if_pos rfl,hA];simp [(Gu.1 hA).1]
  ·rw [if_neg hi,if_neg hi]
 unfold World.setCell;rw [this _ _ h];rfl
theorem DN {I:Imm} {μ:Mu} {st:St} {ids:List Nat} {w:World} (hst:StRep I μ st ids w) {b:Nat} (h:Bg μ st b):b<w.heap.size:=by
 obtain ⟨id,blk,g,h1,h2,h3⟩:=h;exact (hst.apart id blk g b h1 h2 h3).2
theorem StRep.other {I:Imm} {μ:Mu} {st:St} {ids:List Nat} {w w':World} (hst:StRep I μ st ids w) (hs:w.heap.size<=w'.heap.size) (hi:∀b o,I b=some o->w'.heap[b]?=w.heap[b]?) (ho:∀b,Bg μ st b->w'.heap[b]?=w.heap[b]?):StRep I μ st ids w' :=
 {imm:=λb o h=>(hi b o h).trans (hst.imm b o h),blk:=λid blk hl=>let ⟨g,h1,h2⟩:=hst.blk id blk hl;⟨g,h1,h2.world λb hb=>ho b ⟨id,blk,g,hl,h1,hb⟩⟩,
  apart:=λid blk g b h1 h2 h3=>⟨(hst.apart id blk g b h1 h2 h3).1,XH (hst.apart id blk g b h1 h2 h3).2 hs⟩,inj:=hst.inj,nodup:=hst.nodup,idsFree:=hst.idsFree }
theorem RepD.fnD {I:Imm} {μ:Mu} {v:Value} {f:Fn} {df dc:List D} (h:RepD I μ v (.fn f df dc)):∃first cap:Array Value,v = .func f first cap/\RepL I μ (first++cap).toList (df++dc):=by
 cases h with
 | fn _ first cap _ _ hf hc h1 h2 =>
  refine ⟨first,cap,rfl,?_⟩;rw [Ju];refine ⟨by simp [hf,hc],λi v d p q=>?_⟩;rw [Le] at p q;have hl:first.toList.length=df.length:=by simpa using hf
  rw [hl] at p
  split at p
  ·rename_i hlt;rw [if_pos hlt] at q;exact h1 i v d (by simpa using p) q
  ·rename_i hlt;rw [if_neg hlt] at q;exact h2 _ v d (by simpa using p) q
section
variable {P:Program} {f g:FuncId} {t tb:TypeId} {fn fg:Func} {cf cg:Code} {df dc:List D} {st0 st1:St} {d:D}
theorem Qr {I:Imm} {μ:Mu} {xs:Array Value} (hxs:RepL I μ xs.toList [.fn (.func g) df dc]):∃first cap:Array Value,xs = #[.func (.func g) first cap]/\RepL I μ (first++cap).toList (df++dc):=by
 obtain ⟨l,rfl⟩:∃l:List Value,xs=l.toArray:=⟨xs.toList,by simp⟩
 rw [LL] at hxs
 match l,hxs with
 | [v],hxs =>
  obtain ⟨first,cap,rfl,h⟩:=(hxs.2 0 v _ rfl rfl).fnD;exact ⟨first,cap,rfl,h⟩
 | [],hxs=>exact absurd hxs.1 (by simp)
 | _::_::_,hxs=>exact absurd hxs.1 (by simp)
theorem Ih (hf : P.funcs[f]? = some fn) (hn : (fn.name == "runtime.NumGoroutine") = false) (hb : fn.body = some cf) (hs : Kl P f t tb)
  (hg : P.funcs[g]? = some fg) (hgn : (fg.name == "runtime.NumGoroutine") = false) (hgb : fg.body = some cg) (hE : AK P g (df ++ dc) st0 (.ret d st1)) : AK P f [.fn (.func g) df dc] st0 (.ret (.imm (.bool true)) st1) := by
 intro I μ w xs hst hxs;obtain ⟨first,cap,rfl,hx⟩:=Qr hxs;rw [Bq hf hn hb];have hheap:(w.alloc (.cells #[.bool false] tb)).heap=w.heap.push (.cells #[.bool false] tb (0,0)):=rfl;have hgrow:∀r,r<w.heap.size->(w.alloc (.cells #[.bool false] tb)).heap[r]?=w.heap[r]?:=λr hr=>by rw [hheap];simp [PS,Nat.ne_of_lt hr]
 have hself:(w.alloc (.cells #[.bool false] tb)).heap[w.heap.size]?=some (.cells #[.bool false] tb (0,0)):=by rw [hheap];simp
 have hsize:(w.alloc (.cells #[.bool false] tb)).heap.size=w.heap.size+1:=by rw [hheap];simp
 have hlt:∀b o,I b=some o->b<w.heap.size:=λb o h=>(Gu.1 (hst.imm b o h)).1;have hst1:StRep I μ st0 [] (w.alloc (.cells #[.bool false] tb)):=hst.other (by omega) (λb o h=>hgrow b (hlt b o h)) (λb h=>hgrow b (DN hst h));have hno:¬Bg μ st0 w.heap.size:=λh=>absurd (DN hst h) (TL _);have hIn:I w.heap.size=none:=by
  cases h:I w.heap.size with
  | none=>rfl
  | some o=>exact absurd (hlt _ o h) (TL _)
 have hcall:=hE I μ _ (first++cap) hst1 hx;have hrun:=Bq (w:=w.alloc (.cells #[.bool false] tb)) hg hgn hgb (first++cap);rw [hrun] at hcall;have hcall:Calls P g (first++cap) (w.alloc (.cells #[.bool false] tb)) (λe w'=>match e with
  | .returned u=>∃I' μ',RepD I' μ' u d/\StRep I' μ' st1 [] w'/\Pin (DJ st0) μ μ'/\Ext I μ st0 (w.alloc (.cells #[.bool false] tb)) I' μ' st1 w'
  | .panicked _=>False
  | .outgrown=>False):=hcall
 have keep:∀w' I' μ',Ext I μ st0 (w.alloc (.cells #[.bool false] tb)) I' μ' st1 w'->w'.heap[w.heap.size]?=some (.cells #[.bool false] tb (0,0)):=λw' I' μ' he=>(he.block _ (by omega) hno).trans hself;show Calls P f _ w _;refine Calls.mono (hs g first cap w (λw'=>∃I' μ',StRep I' μ' st1 [] w'/\Pin (DJ st0) μ μ'/\Ext I μ st0 (w.alloc (.cells #[.bool false] tb)) I' μ' st1 w') (λ_=>False) hrun (Calls.mono hcall ?_) (λw' ⟨I',μ',_,_,he⟩=>keep w' I' μ' he) (λ_ h=>h.elim)) ?_
 ·intro e w' he;cases e with
  | returned u=>obtain ⟨I',μ',_,h2,h3,h4⟩:=he;exact ⟨I',μ',h2,h3,h4⟩
  | panicked=>exact he.elim
  | outgrown=>exact he.elim
 ·rintro e w2 (⟨rfl,w1,⟨I',μ',h2,h3,h4⟩,rfl⟩ | ⟨_,_,hx,_⟩)
  ·have hc:=keep w1 I' μ' h4;rw [DW hc];have hI':I' w.heap.size=none:=(h4.old _ (by omega) hno).trans hIn;have hno':¬Bg μ' st1 w.heap.size:=λh=>hno (h4.fresh _ (by omega) h);have hsame:∀b,b≠w.heap.size->(w1.heap.setIfInBounds w.heap.size (.cells #[.bool true] tb (0,0)))[b]?=w1.heap[b]?:=λb hb=>F8 (Ne.symm hb);refine ⟨I',μ',.imm _ _ (.bool true),?_,h3,?_⟩
   ·exact h2.other (by simp) (λb o h=>hsame b λe=>by rw [e,hI'] at h;cases h) (λb h=>hsame b λe=>hno' (e ▸ h))
   ·have hsz:=h4.size
    exact { imm:=h4.imm,os:=h4.os,tape:=h4.tape,output:=h4.output,size:=by simp;omega,
            block:=λb hb ho=>(hsame b (by omega)).trans ((h4.block b (by omega) ho).trans (hgrow b hb)),fresh:=λb hb ho=>h4.fresh b (by omega) ho,old:=λb hb ho=>h4.old b (by omega) ho }
  ·exact hx.elim
theorem J4 (hf : P.funcs[f]? = some fn) (hn : (fn.name == "runtime.NumGoroutine") = false) (hb : fn.body = some cf) (hs : Kl P f t tb)
  (hg : P.funcs[g]? = some fg) (hgn : (fg.name == "runtime.NumGoroutine") = false) (hgb : fg.body = some cg) (hE : AK P g (df ++ dc) st0 (.pan (.iface t (.agg [])))) : AK P f [.fn (.func g) df dc] st0 (.ret (.imm (.bool false)) []) := by
 intro I μ w xs hst hxs;obtain ⟨first,cap,rfl,hx⟩:=Qr hxs;rw [Bq hf hn hb];have hheap:(w.alloc (.cells #[.bool false] tb)).heap=w.heap.push (.cells #[.bool false] tb (0,0)):=rfl;have hgrow:∀r,r<w.heap.size->(w.alloc (.cells #[.bool false] tb)).heap[r]?=w.heap[r]?:=λr hr=>by rw [hheap];simp [PS,Nat.ne_of_lt hr]
 have hself:(w.alloc (.cells #[.bool false] tb)).heap[w.heap.size]?=some (.cells #[.bool false] tb (0,0)):=by rw [hheap];simp
 have hsize:(w.alloc (.cells #[.bool false] tb)).heap.size=w.heap.size+1:=by rw [hheap];simp
 have hlt:∀b o,I b=some o->b<w.heap.size:=λb o h=>(Gu.1 (hst.imm b o h)).1;have hst1:StRep I μ st0 [] (w.alloc (.cells #[.bool false] tb)):=hst.other (by omega) (λb o h=>hgrow b (hlt b o h)) (λb h=>hgrow b (DN hst h));have hno:¬Bg μ st0 w.heap.size:=λh=>absurd (DN hst h) (TL _);have hIn:I w.heap.size=none:=by
  cases h:I w.heap.size with
  | none=>rfl
  | some o=>exact absurd (hlt _ o h) (TL _)
 have hcall:=hE I μ _ (first++cap) hst1 hx;have hrun:=Bq (w:=w.alloc (.cells #[.bool false] tb)) hg hgn hgb (first++cap);rw [hrun] at hcall;have hcall:Calls P g (first++cap) (w.alloc (.cells #[.bool false] tb)) (λe w'=>match e with
  | .returned _=>False
  | .panicked chain=>Ko (· = .iface t (.agg [])) I μ st0 (w.alloc (.cells #[.bool false] tb)) chain w'
  | .outgrown=>False):=hcall
 have keep:∀w' I',Ext I μ st0 (w.alloc (.cells #[.bool false] tb)) I' μ [] w'->w'.heap[w.heap.size]?=some (.cells #[.bool false] tb (0,0)):=λw' I' he=>(he.block _ (by omega) hno).trans hself;show Calls P f _ w _;refine Calls.mono (hs g first cap w (λ_=>False) (λw'=>∃I',I'.ok w'/\Ext I μ st0 (w.alloc (.cells #[.bool false] tb)) I' μ [] w') hrun (Calls.mono hcall ?_) (λ_ h=>h.elim) (λw' ⟨I',_,he⟩=>keep w' I' he)) ?_
 ·intro e w' he;cases e with
  | returned u=>exact he.elim
  | panicked chain =>
   obtain ⟨v,x,I',h1,h2,h3,h4,h5⟩:=he;subst h2;cases h3 with
   | iface _ v' _ hv =>
    cases hv with
    | agg cs _ hl _ _ =>
     have:cs = #[]:=XS (by simpa using hl);subst this;exact ⟨h1,I',h4,h5⟩
  | outgrown=>exact he.elim
 ·rintro e w2 (⟨_,_,hx,_⟩ | ⟨rfl,w1,⟨I',h2,h4⟩,rfl⟩)
  ·exact hx.elim
  ·have hc:=keep w1 I' h4;rw [DW hc];have hI':I' w.heap.size=none:=(h4.old _ (by omega) hno).trans hIn;have hsz:=h4.size;have hsame:∀b,b≠w.heap.size->b<w1.heap.size->(({ w1 with heap:=w1.heap.setIfInBounds w.heap.size (.cells #[.bool false] tb (0,0)) }:World).alloc (.cells #[] t)).heap[b]?=w1.heap[b]?:=λb hb hlt=>by
    show ((w1.heap.setIfInBounds w.heap.size _).push _)[b]?=_;rw [PS,if_neg (by simp;omega)];exact F8 (Ne.symm hb)
   refine ⟨I',μ,.imm _ _ (.bool false),?_,Pin.refl _ _,?_⟩
   ·exact { imm:=λb o h=>(hsame b (λe=>by rw [e,hI'] at h;cases h) (Gu.1 (h2 b o h)).1).trans (h2 b o h),blk:=λid blk hl=>(by cases hl),apart:=λid blk g b hl=>(by cases hl),inj:=λi j bi bj gi gj b hl=>(by cases hl),nodup:=.nil,idsFree:=λid hi=>(by cases hi) }
   ·exact { imm:=h4.imm,os:=h4.os,tape:=h4.tape,output:=h4.output,size:=by show w.heap.size<=((w1.heap.setIfInBounds w.heap.size _).push _).size;simp;omega,
            block:=λb hb ho=>(hsame b (by omega) (by omega)).trans ((h4.block b (by omega) ho).trans (hgrow b hb)),fresh:=λb hb ho=>h4.fresh b (by omega) ho,old:=λb hb ho=>h4.old b (by omega) ho }
end
end Go.Hk
namespace Go.Hk
section
variable {P:Program} {n:Nat} {F:List Nat} {Q:DQ} {env:Env} {st:St} {ids:List Nat} {k:List DI}
theorem Ik {all rest:List Oper} {o:Oper} {x:Operand} {t:TypeId} {v:V} (hg:o.guard=none) (ho:o.op = .panic x) (hx:DT env x=some (.imm (.iface t v))) (hq:Kn Q (.iface t v)):DGo P n F Q (.ops all (o::rest)::k) env st ids:=by
 intro b cs I μ a w items hd hc;obtain ⟨j,is,rfl,hr,hk⟩:=H9 hd;obtain ⟨hj,_⟩:=D9 hr;have hlen:(o::rest).length=rest.length+1:=rfl;rw [hlen,NI];refine Fq hj (AG hg) (λc hc=>by rw [ho] at hc;cases hc) ?_;have hon:IQ (o.looksAt all.toArray) I μ env a:=λt _ d hl=>hc.env t d hl;have hxr:=Bd hon x (by rw [ho];simp [Op.operands]) _ hx;obtain ⟨u,hu,hur⟩:∃u,a.eval x = .iface t u/\RepV I (.iface t u) (.iface t v):=by
  have:=hxr.immInv;generalize a.eval x=y at this;cases this with
  | iface _ u _ h=>exact ⟨u,rfl,.iface t u v h⟩
 have hrun:(execOp a.eval o).run P w = .halt (.panic (.iface t u)) w:=by simp [execOp,ho,hu,Instr.panic,goPanic]
 rw [hrun];have hE':Ext I μ st w I μ [] w:={ imm:=Imm.le_refl I,os:=rfl,tape:=rfl,output:=rfl,size:=B8 _,block:=λ_ _ _=>rfl,fresh:=λb hb ⟨i,bi,g,h1,_⟩=>by simp [Az,lk] at h1,old:=λ_ _ _=>rfl }
 exact ⟨.panic (.iface t v),[],[],[],I,μ,⟨_,rfl,hur⟩,hq,JD hc.imm hc.size (hc.defers.ext hE'),.refl _ _,hE',.refl _ _⟩
end
theorem E1 {P:Program} {f:FuncId} {ds:List D} {st:St} {out:Out} (j:Nat) {x:V} (hj:ds[j]?=some (.imm x)) (h:Fh x->AK P f ds st out):AK P f ds st out:=by
 intro I μ w xs hst hx;have hlt:j<xs.toList.length:=by rw [hx.1];exact (AJ.1 hj).1
 exact h (hx.2 j _ (.imm x) (Bi hlt) hj).immInv.ok I μ w xs hst hx
end Go.Hk
namespace Go.Hk
structure PRng where
 s:List UInt8
 id':Nat
 ids':List Nat
 dst:Option Nat
 todo:List DI
def vW (tt:TT) (n:Nat) (env:Env) (ids:List Nat) (todo:List DI):Option PRng :=
 match Ov todo,ids with
 | some o,id'::ids'=>match o.guard,o.op with
  | none,.range t x=>match lk tt t,DT env x,BB n o.dst,Bh todo ([],[id']) with
   | some { sh:=.str,.. },some (.imm (.str s)),true,some (_,_,todo')=>some ⟨s,id',ids',o.dst,todo'⟩
   | _,_,_,_=>none
  | _,_=>none
 | _,_=>none
structure PNxt where
 s:List UInt8
 pos:Nat
 id:Nat
 dst:Option Nat
 todo:List DI
def oZ (n:Nat) (env:Env) (st:St) (wr:Bool) (todo:List DI):Option PNxt :=
 match Ov todo with
 | some o=>match o.guard,o.op with
  | none,.next x true=>match DT env x,BB n o.dst with
   | some (.iter id),true=>match lk st id,Bh todo ([id],bif wr then [id] else []) with
    | some (some (.siter s pos)),some (_,_,todo')=>some ⟨s,pos,id,o.dst,todo'⟩
    | _,_=>none
   | _,_=>none
  | _,_=>none
 | none=>none
def E3 (s:List UInt8) (pos:Nat):Nat×Nat:=Utf8.decode ⟨s.toArray⟩ pos
section
variable {P:Program} {n:Nat} {F:List Nat} {Q:DQ} {tt:TT} {env env':Env} {st st':St} {ids ids':List Nat} {k todo todo':List DI} {I:Imm} {μ:Mu} {w:World} {a:Act} {Pn:V->Prop} {d:D} {cx:Prop} {ob:List Prop}
theorem DE {s:Sem Value} {v:Value} {w':World} (h:s.run P w = .ok v w'):(do pure (.value (<- s)):Sem Next).run P w = .ok (.value v) w':=by simp [h]
theorem RepD.iterInv {v:Value} {id:Nat} (h:RepD I μ v (.iter id)):∃b,v = .pointer (some ⟨b,0,none⟩)/\μ id=some v:=by
 cases h with
 | iter _ b h=>exact ⟨b,rfl,h⟩
theorem lY (htt:TTok P tt) {s0:List UInt8} {i0:Nat} {ids0:List Nat} {d0:Option Nat} {todo0:List DI} (h:vW tt n env ids todo=some ⟨s0,i0,ids0,d0,todo0⟩) (hk:G P n F Q todo0 (BD d0 (.iter i0) env) ((i0,some (.siter s0 0))::st) ids0):G P n F Q todo env st ids:=by
 unfold vW at h
 split at h
 ·rename_i o id' ids' ho
  split at h
  ·rename_i t x hg hop
   split at h
   ·rename_i _ _ _ _ s all o' todo' ht hx hd h1;cases h;have ho':o'=o:=Dc ho h1;subst ho';refine B9 (fr:=[i0]) (wr:=[(i0,some (.siter s0 0))]) (rd:=[]) h1 ?_ hd (λc hc=>by rw [hop] at hc;cases hc) hk;intro I μ st1 ids1 a w hag hst hon;refine ⟨λ_=>?_,λhw=>by rw [AG hg] at hw;cases hw⟩;have hops:=Bd hon;rw [hop] at hops;obtain ⟨bs,e1,e2⟩:=(hops x (by simp [Op.operands]) _ hx).immInv.strInv;have hu:P.underlying t=some .string:=htt.sh ht;have hrun:(execOp a.eval o').run P w = .ok (.value (.pointer (some ⟨w.heap.size,0,none⟩))) (w.alloc (.stringIter bs 0)):=by
     simp only [execOp,hop,e1];refine DE ?_;simp only [Instr.range,Sem.run_bind,run_underlying hu,Result.andThen_ok,Sem.run_pure,run_newObj];rfl
    rw [hrun];obtain ⟨μ',q1,q2,q3,q4⟩:=hst.allocO (.stringIter bs 0) (.pointer (some ⟨w.heap.size,0,none⟩)) (λ_ h=>Eq.symm h) (.siter s0 0) (λμ' _=>⟨w.heap.size,bs,rfl,Eh w _,e2⟩);exact ⟨I,μ',q3,.iter _ _ q1,q2,q4⟩
   ·cases h
  ·cases h
 ·cases h
theorem RO {id pos:Nat} {s:List UInt8} {v:Value} (hst:StRep I μ st ids w) (hl:Az st id (.siter s pos)) (hv:RepD I μ v (.iter id)) :
  ∃b,v = .pointer (some ⟨b,0,none⟩)/\μ id=some v/\w.heap[b]?=some (.stringIter ⟨s.toArray⟩ pos):=by
 obtain ⟨b,rfl,hm⟩:=hv.iterInv;obtain ⟨g,hg,b',bs,rfl,hheap,hs⟩:=hst.blk id _ hl;rw [hm] at hg;cases hg;refine ⟨b,rfl,hm,?_⟩;rw [hheap,<- hs]
theorem aC {s0:List UInt8} {p0 i0:Nat} {d0:Option Nat} {todo0:List DI} (h:oZ n env st true todo=some ⟨s0,p0,i0,d0,todo0⟩) (hp:p0<s0.length) {dc:Nat×Nat} (hdc:E3 s0 p0=dc)
  (hk:G P n F Q todo0 (BD d0 (.imm (.tup [.bool true,.int .i64 p0,.int .i32 dc.1])) env) ((i0,some (.siter s0 (p0+dc.2)))::st) ids):G P n F Q todo env st ids:=by
 subst hdc;unfold oZ at h
 split at h
 ·rename_i o ho
  split at h
  ·rename_i x hg hop
   split at h
   ·rename_i id hx hd
    split at h
    ·rename_i s pos all o' todo' hl h1;cases h;have ho':o'=o:=Dc ho h1;subst ho';refine B9 (fr:=[]) (wr:=[(i0,some (.siter s0 (p0+(E3 s0 p0).2)))]) (rd:=[i0]) h1 ?_ hd (λc hc=>by rw [hop] at hc;cases hc) hk;intro I μ st1 ids1 a w hag hst hon;refine ⟨λ_=>?_,λhw=>by rw [AG hg] at hw;cases hw⟩;have hops:=Bd hon;rw [hop] at hops;have hl1:Az st1 i0 (.siter s0 p0):=by unfold Az;rw [hag i0 (by simp)];exact hl
     obtain ⟨b,e1,hm,hheap⟩:=RO hst hl1 (hops x (by simp [Op.operands]) _ hx);have hget:(getObj b).run P w = .ok (.stringIter ⟨s0.toArray⟩ p0) w:=by simp [getObj,Sem.run,hheap]
     have hset:(setObj b (.stringIter ⟨s0.toArray⟩ (p0+(E3 s0 p0).2))).run P w = .ok () { w with heap:=w.heap.setIfInBounds b (.stringIter ⟨s0.toArray⟩ (p0+(E3 s0 p0).2)) }:=by simp [setObj,Sem.run,hheap]
     have hlt:p0<(ByteArray.mk s0.toArray).size:=by simpa [ByteArray.size] using hp
     have hrun:(execOp a.eval o').run P w = .ok (.value (.tuple #[.bool true,.int .i64 p0,.int .i32 (E3 s0 p0).1])) { w with heap:=w.heap.setIfInBounds b (.stringIter ⟨s0.toArray⟩ (p0+(E3 s0 p0).2)) }:=by
      simp only [execOp,hop,e1];refine DE ?_;simp only [Instr.next,Sem.run_bind,hget,Result.andThen_ok,if_pos hlt];have:(setObj b (.stringIter ⟨s0.toArray⟩ (p0+(Utf8.decode ⟨s0.toArray⟩ p0).2))).run P w=_:=hset;simp only [Sem.run_bind,this,Result.andThen_ok,Sem.run_pure];rfl
     rw [hrun];have hbl:=BN hheap;obtain ⟨q1,q2⟩:=hst.update (blk':=.siter s0 (p0+(E3 s0 p0).2)) (w':={ w with heap:=w.heap.setIfInBounds b (.stringIter ⟨s0.toArray⟩ (p0+(E3 s0 p0).2)) }) hl1 hm (by rw [e1];rfl) (by simp) rfl rfl rfl
      (λk hk=>F8 (Ne.symm hk)) ⟨b,⟨s0.toArray⟩,e1,by simp [hbl],rfl⟩
     refine ⟨I,μ,q1,.imm _ _ (.tup _ _ rfl λi c x hc hx=>?_),Mu.le_refl μ,q2⟩
     match i,hc,hx with
     | 0,hc,hx=>cases hc;cases hx;exact .bool _
     | 1,hc,hx=>cases hc;cases hx;exact .int _ _
     | 2,hc,hx=>cases hc;cases hx;exact .int _ _
     | i+3,hc,hx=>simp at hx
    ·cases h
   ·cases h
  ·cases h
 ·cases h
theorem qH {s0:List UInt8} {p0 i0:Nat} {d0:Option Nat} {todo0:List DI} (h:oZ n env st false todo=some ⟨s0,p0,i0,d0,todo0⟩) (hp:s0.length<=p0)
  (hk:G P n F Q todo0 (BD d0 (.imm (.tup [.bool false])) env) st ids):G P n F Q todo env st ids:=by
 unfold oZ at h
 split at h
 ·rename_i o ho
  split at h
  ·rename_i x hg hop
   split at h
   ·rename_i id hx hd
    split at h
    ·rename_i s pos all o' todo' hl h1;cases h;have ho':o'=o:=Dc ho h1;subst ho';refine B9 (fr:=[]) (wr:=[]) (rd:=[i0]) h1 ?_ hd (λc hc=>by rw [hop] at hc;cases hc) hk;intro I μ st1 ids1 a w hag hst hon;refine ⟨λ_=>?_,λhw=>by rw [AG hg] at hw;cases hw⟩;have hops:=Bd hon;rw [hop] at hops;have hl1:Az st1 i0 (.siter s0 p0):=by unfold Az;rw [hag i0 (by simp)];exact hl
     obtain ⟨b,e1,hm,hheap⟩:=RO hst hl1 (hops x (by simp [Op.operands]) _ hx);have hget:(getObj b).run P w = .ok (.stringIter ⟨s0.toArray⟩ p0) w:=by simp [getObj,Sem.run,hheap]
     have hlt:¬p0<(ByteArray.mk s0.toArray).size:=by simpa [ByteArray.size] using hp
     have hrun:(execOp a.eval o').run P w = .ok (.value (.tuple #[.bool false])) w:=by
      simp only [execOp,hop,e1];refine DE ?_;simp only [Instr.next,Sem.run_bind,hget,Result.andThen_ok,if_neg hlt,Sem.run_pure]
     rw [hrun];refine ⟨I,μ,hst,.imm _ _ (.tup _ _ rfl λi c x hc hx=>?_),Mu.le_refl μ,Ext.refl _ _ _ _⟩
     match i,hc,hx with
     | 0,hc,hx=>cases hc;cases hx;exact .bool _
     | i+1,hc,hx=>simp at hx
    ·cases h
   ·cases h
  ·cases h
 ·cases h
end
end Go.Hk
