/- A block behind a pointer that nobody writes any more; what a function does that ranges (iterators). (And what it stands on.) -/
import Derived.Test.YtegabgaflilabaaGreatVa
import Derived.Test.YtegabgaflilabaaGreatProg
import Derived.KernelRfl
import Derived.RowKit3
set_option linter.unusedSimpArgs false
set_option linter.unusedVariables false

set_option maxRecDepth 100000
set_option maxHeartbeats 4000000
namespace Go.Hk
inductive Res where
 | at (todo:List DI) (env:Env) (st:St) (ids:List Nat) (ob:List Prop)
 | bad
inductive Pt where
 | t
 | f
 | a
 | s
def run (tt:TT) (n:Nat):Nat->List Pt->List DI->Env->St->List Nat->List Prop->Res
 | 0,_,k,env,st,ids,ob=>.at k env st ids ob
 | f+1,path,todo,env,st,ids,ob=>match todo with
  | .code (.seq a b)::k=>run tt n f path (.code a :: .code b::k) env st ids ob
  | .code .skip::k=>run tt n f path k env st ids ob
  | .code (.label _)::k=>run tt n f path k env st ids ob
  | .inBlock _::k=>match path with
   | .s::_=>.at k env st ids ob
   | _=>run tt n f path k env st ids ob
  | .inScope _::k=>run tt n f path k env st ids ob
  | .code (.block id c)::k=>run tt n f path (.code c :: .inBlock id::k) env st ids ob
  | .code (.scope c)::k=>run tt n f path (.code c :: .inScope c::k) env st ids ob
  | .code (.exit id)::k=>match F6 id k with
   | some k'=>run tt n f path k' env st ids ob
   | none=>.at (.code (.exit id)::k) env st ids ob
  | .code (.region _ ⟨ops⟩ false)::k=>run tt n f path (.ops ops ops::k) env st ids ob
  | .code (.region _ ⟨ops⟩ true)::k=>run tt n f path (.dops ops ops []::k) env st ids ob
  | .ops _ []::k=>run tt n f path k env st ids ob
  | .ops all (o::r)::k=>match Fa tt n all o env st ids with
   | .y _ env' []=>run tt n f path (.ops all r::k) env' st ids ob
   | .y _ env' [p]=>run tt n f path (.ops all r::k) env' st ids (p::ob)
   | .y _ env' [p,q]=>run tt n f path (.ops all r::k) env' st ids (p::q::ob)
   | .y _ env' (p::q::l)=>run tt n f path (.ops all r::k) env' st ids (p::q::Iw l ob)
   | .e env' st' ids' []=>run tt n f path (.ops all r::k) env' st' ids' ob
   | .e env' st' ids' [p]=>run tt n f path (.ops all r::k) env' st' ids' (p::ob)
   | .e env' st' ids' (p::l)=>run tt n f path (.ops all r::k) env' st' ids' (p::Iw l ob)
   | .no=>.at (.ops all (o::r)::k) env st ids ob
  | .dops all [] fs::k=>run tt n f path k env st ids ((Nb all fs.reverse=true)::ob)
  | .dops all (o::r) fs::k=>match Fa tt n all o env st ids,Qw env o.op with
   | .y _ env' [],[]=>run tt n f path (.dops all r (([],[])::fs)::k) env' st ids ob
   | .y _ env' [],[i]=>run tt n f path (.dops all r (([i],[])::fs)::k) env' st ids ob
   | .y _ env' [p],[]=>run tt n f path (.dops all r (([],[])::fs)::k) env' st ids (p::ob)
   | .y _ env' [p],[i]=>run tt n f path (.dops all r (([i],[])::fs)::k) env' st ids (p::ob)
   | .y _ env' (p::l),rd=>run tt n f path (.dops all r ((rd,[])::fs)::k) env' st ids (p::Iw l ob)
   | .e env' ((i,x)::st') ids' ob',[]=>run tt n f path (.dops all r (([],[i])::fs)::k) env' ((i,x)::st') ids' (Iw ob' ob)
   | .e env' ((i,x)::st') ids' ob',[j]=>run tt n f path (.dops all r (([j],[i])::fs)::k) env' ((i,x)::st') ids' (Iw ob' ob)
   | _,_=>.at (.dops all (o::r) fs::k) env st ids ob
  | .code (.cond c x y)::k=>match path,CV env c with
   | .t::path',some (.imm (.bool t))=>run tt n f path' (.code x::k) env st ids ((t=true)::ob)
   | .f::path',some (.imm (.bool t))=>run tt n f path' (.code y::k) env st ids ((t=false)::ob)
   | .a::path',some (.imm (.bool t))=>run tt n f path' (.code (bif t then x else y)::k) env st ids ob
   | _,_=>.at (.code (.cond c x y)::k) env st ids ob
  | k=>.at k env st ids ob
def G (P:Program) (n:Nat) (F:List Nat) (Q:DQ) (todo:List DI) (env:Env) (st:St) (ids:List Nat):Prop :=
 match todo with
 | .dops all rest fs::k=>DD P n F Q all rest fs.reverse k env st ids
 | todo=>DGo P n F Q todo env st ids
section
variable {P:Program} {n:Nat} {F:List Nat} {Q:DQ} {tt:TT} {env env':Env} {st st':St} {ids ids':List Nat} {k:List DI} {cx:Prop} {d:D} {ob ob':List Prop} {todo:List DI} {Pn:V->Prop}
theorem G.go (h:G P n F Q todo env st ids):DGo P n F Q todo env st ids:=by
 unfold G at h
 split at h
 ·intro b cs I μ a w items hd hc;obtain ⟨i,is,rfl,h1,_⟩:=Gx hd;cases i <;> exact h1.elim
 ·exact h
theorem LD.ld_y {all:List Oper} {o:Oper} {rd:List Nat} (h:∀st',Agree rd st st'->YD P all o env st' d):LD P Pn all o env st rd [] [] d:=by
 intro I μ st1 ids1 a w hag hst hon;obtain ⟨h1,h2⟩:=h st1 hag I μ _ a w hst hon;exact ⟨λhw=>((h1 hw).mono λv w' ⟨I',q1,q2,q3⟩=>⟨I',μ,q1,q2,Mu.le_refl μ,q3⟩).x,λhw=>⟨rfl,rfl,h2 hw⟩⟩
theorem Ox {all:List Oper} {o:Oper} {rd:Bool} (h:Fa tt n all o env st ids = .y rd env' ob) (hag:Agree (Qw env o.op) st st'):Fa tt n all o env st' ids = .y rd env' ob:=by
 unfold Fa at h ⊢
 split at h
 ·rename_i hg;simp only [TI hag]
  split at h
  ·exact h
  ·exact h
  ·split at h
   ·exact absurd h V5
   ·cases h
 ·rename_i j w0 hg;simp only [TI hag];exact h
theorem hQ {dst:Option Nat} {d d':D} (h:B9 dst d env=B9 dst d' env):dst=none\/d=d':=by
 cases dst with
 | none=>exact .inl rfl
 | some t=>simp only [B9,List.cons.injEq,Prod.mk.injEq,true_and,and_true] at h;exact .inr h
theorem cO (htt:TTok P tt) {all:List Oper} {o:Oper} {rd:Bool} (h:Fa tt n all o env st ids = .y rd env' ob) (hob:AA ob) :
  ∃d,env'=B9 o.dst d env/\(∀t,o.dst=some t->t<n)/\(∀c,o.op ≠ .defer c)/\YD P all o env st d/\LD P Pn all o env st (Qw env o.op) [] [] d:=by
 obtain ⟨d,e1,e2,e3,e4,_⟩:=P2 htt h hob;cases hdst:o.dst with
 | some t =>
  refine ⟨d,by rw [e1,hdst],λt' ht=>e2 t' (by rw [hdst];exact ht),e3,e4,LD.ld_y λst' hag=>?_⟩;obtain ⟨d',e1',_,_,e4',_⟩:=P2 htt (Ox h hag) hob;rw [e1] at e1';rcases hQ e1' with h | h
  ·rw [hdst] at h;cases h
  ·rw [h];exact e4'
 | none =>
  refine ⟨.undef,(by rw [e1,hdst];rfl),(λt' ht=>by cases ht),e3,?_,LD.ld_y λst' hag=>?_⟩
  ·intro I μ ids a w hst hon;obtain ⟨h1,_⟩:=e4 I μ ids a w hst hon;exact ⟨λhw=>(h1 hw).mono λv w' ⟨I',q1,_,q3⟩=>⟨I',q1,.undef _,q3⟩,λ_=>.undef _⟩
  ·obtain ⟨d',_,_,_,e4',_⟩:=P2 htt (Ox h hag) hob;intro I μ ids a w hst hon;obtain ⟨h1,_⟩:=e4' I μ ids a w hst hon;exact ⟨λhw=>(h1 hw).mono λv w' ⟨I',q1,_,q3⟩=>⟨I',q1,.undef _,q3⟩,λ_=>.undef _⟩
theorem T0 (htt:TTok P tt) {all:List Oper} {o:Oper} {i:Nat} {x:Option Blk} (h:Fa tt n all o env st ids = .e env' ((i,x)::st') ids' ob) (hob:AA ob) :
  ∃d fr,st'=st/\ids=fr++ids'/\env'=B9 o.dst d env/\(∀t,o.dst=some t->t<n)/\(∀c,o.op ≠ .defer c)/\ED P all o env st ids d ((i,x)::st') ids'/\LD P Pn all o env st (Qw env o.op) fr [(i,x)] d:=by
 have h0:=h;unfold Fa at h
 split at h
 ·rename_i hg
  split at h
  ·exact absurd h HM
  ·exact absurd h HM
  ·split at h
   ·rename_i d s i2 ob2 he;obtain ⟨rfl,rfl,rfl,e1,e2⟩:=iC h;obtain ⟨fr,wr,q1,q2,_,q4⟩:=TJ he;have hwr:wr=[(i,x)]/\st'=st:=by
     have hcons:∀(op:Op) (env:Env) {d:D} {s:St} {i:List Nat} {ob:List Prop},YF tt env st ids op = .e d s i ob->∃p,s=p::st:=by
      intro op env d s i ob h;obtain ⟨fr,wr,a1,a2,a3,a4⟩:=TJ h;cases op <;> simp only [YF,Ot,reduceCtorEq] at h
      all_goals (repeat' split at h) <;> first | (cases h;done) | (cases h;exact ⟨_,rfl⟩)
     obtain ⟨p,hp⟩:=hcons _ _ he;cases hp;have:wr.length=1:=by have:=congrArg List.length q2;simp at this;omega
     match wr,this with
     | [y],_=>simp at q2;exact ⟨by rw [q2],rfl⟩
    obtain ⟨rfl,rfl⟩:=hwr;have hnd:∀c,o.op ≠ .defer c:=λc hc=>by rw [hc,TK] at he;cases he
    refine ⟨d,fr,rfl,q1,e1,e2,hnd,λI μ a w hst hon=>⟨AG hg,YE htt hst (Bc hon) he hob⟩,λI μ st1 ids1 a w hag hst hon=>⟨λ_=>?_,λhw=>?_⟩⟩
    ·exact (YE htt hst (Bc hon) (q4 st1 ids1 hag) hob).x
    ·rw [AG hg] at hw;cases hw
   ·cases h
 ·split at h
  ·split at h
   ·split at h
    ·exact absurd h HM
    ·exact absurd h HM
    ·cases h
   ·cases h
  ·cases h
theorem Dr (htt:TTok P tt) (hm:P.follows .mixedOrders=true):∀(f:Nat) (path:List Pt) (todo:List DI) (env:Env) (st:St) (ids:List Nat) (ob0:List Prop) {todo':List DI} {env':Env} {st':St} {ids':List Nat} {ob:List Prop},
  run tt n f path todo env st ids ob0 = .at todo' env' st' ids' ob->AA ob->AA ob0/\(G P n F Q todo' env' st' ids'->G P n F Q todo env st ids)
 | 0,path,todo,env,st,ids,ob0,todo',env',st',ids',ob,h,hob=>by
  simp only [run,Res.at.injEq] at h;obtain ⟨rfl,rfl,rfl,rfl,rfl⟩:=h;exact ⟨hob,id⟩
 | f+1,path,todo,env,st,ids,ob0,todo',env',st',ids',ob,h,hob=>by
  simp only [run] at h;have stop:∀{t:List DI},Res.at t env st ids ob0 = .at todo' env' st' ids' ob->AA ob0/\(G P n F Q todo' env' st' ids'->G P n F Q t env st ids):=by
   intro t h;simp only [Res.at.injEq] at h;obtain ⟨rfl,rfl,rfl,rfl,rfl⟩:=h;exact ⟨hob,id⟩
  split at h
  ·obtain ⟨h1,h2⟩:=Dr htt hm f _ _ _ _ _ _ h hob;exact ⟨h1,λhd=>nJ (h2 hd)⟩
  ·obtain ⟨h1,h2⟩:=Dr htt hm f _ _ _ _ _ _ h hob;exact ⟨h1,λhd=>kJ (h2 hd).go⟩
  ·obtain ⟨h1,h2⟩:=Dr htt hm f _ _ _ _ _ _ h hob;exact ⟨h1,λhd=>dR (h2 hd).go⟩
  ·split at h
   ·simp only [Res.at.injEq] at h;obtain ⟨rfl,rfl,rfl,rfl,rfl⟩:=h;exact ⟨hob,λhd=>OY hd.go⟩
   ·obtain ⟨h1,h2⟩:=Dr htt hm f _ _ _ _ _ _ h hob;exact ⟨h1,λhd=>OY (h2 hd).go⟩
  ·obtain ⟨h1,h2⟩:=Dr htt hm f _ _ _ _ _ _ h hob;exact ⟨h1,λhd=>WE (h2 hd).go⟩
  ·obtain ⟨h1,h2⟩:=Dr htt hm f _ _ _ _ _ _ h hob;exact ⟨h1,λhd=>dS (h2 hd)⟩
  ·obtain ⟨h1,h2⟩:=Dr htt hm f _ _ _ _ _ _ h hob;exact ⟨h1,λhd=>dP (h2 hd)⟩
  ·split at h
   ·rename_i he;obtain ⟨h1,h2⟩:=Dr htt hm f _ _ _ _ _ _ h hob;exact ⟨h1,λhd=>Aw he (h2 hd).go⟩
   ·exact stop h
  ·obtain ⟨h1,h2⟩:=Dr htt hm f _ _ _ _ _ _ h hob;exact ⟨h1,λhd=>YG (h2 hd)⟩
  ·obtain ⟨h1,h2⟩:=Dr htt hm f _ _ _ _ _ _ h hob;exact ⟨h1,λhd=>kK hm (h2 hd)⟩
  ·obtain ⟨h1,h2⟩:=Dr htt hm f _ _ _ _ _ _ h hob;exact ⟨h1,λhd=>YH (h2 hd).go⟩
  ·rename_i all o r k;have hY:∀{rd:Bool} {env1:Env} {ob1 ob2:List Prop},Fa tt n all o env st ids = .y rd env1 ob1->(AA ob2->AA ob1/\AA ob0) ->
     (run tt n f path (.ops all r::k) env1 st ids ob2 = .at todo' env' st' ids' ob)->AA ob0/\(G P n F Q todo' env' st' ids'->G P n F Q (.ops all (o::r)::k) env st ids):=by
    intro rd env1 ob1 ob2 hs hobs hrun;obtain ⟨h1,h2⟩:=Dr htt hm f _ _ _ _ _ _ hrun hob;obtain ⟨h3,h4⟩:=hobs h1;obtain ⟨d,e1,e2,e3,e4,_⟩:=P2 htt hs h3;subst e1;exact ⟨h4,λhd=>rC e3 e4 e2 (h2 hd)⟩
   have hE:∀{env1:Env} {st1:St} {ids1:List Nat} {ob1 ob2:List Prop},Fa tt n all o env st ids = .e env1 st1 ids1 ob1->(AA ob2->AA ob1/\AA ob0) ->
     (run tt n f path (.ops all r::k) env1 st1 ids1 ob2 = .at todo' env' st' ids' ob)->AA ob0/\(G P n F Q todo' env' st' ids'->G P n F Q (.ops all (o::r)::k) env st ids):=by
    intro env1 st1 ids1 ob1 ob2 hs hobs hrun;obtain ⟨h1,h2⟩:=Dr htt hm f _ _ _ _ _ _ hrun hob;obtain ⟨h3,h4⟩:=hobs h1;obtain ⟨d,e1,e2,e3,e4⟩:=mA htt hs h3;subst e1;exact ⟨h4,λhd=>rE e3 e4 e2 (h2 hd)⟩
   split at h
   ·rename_i hs;refine hY hs ?_ h;intro q;exact ⟨trivial,q⟩
   ·rename_i hs;refine hY hs ?_ h;intro q;exact ⟨⟨q.1,trivial⟩,q.2⟩
   ·rename_i hs;refine hY hs ?_ h;intro q;exact ⟨⟨q.1,q.2.1,trivial⟩,q.2.2⟩
   ·rename_i hs;refine hY hs ?_ h;intro q;exact ⟨⟨q.1,q.2.1,(Bp q.2.2).1⟩,(Bp q.2.2).2⟩
   ·rename_i hs;refine hE hs ?_ h;intro q;exact ⟨trivial,q⟩
   ·rename_i hs;refine hE hs ?_ h;intro q;exact ⟨⟨q.1,trivial⟩,q.2⟩
   ·rename_i hs;refine hE hs ?_ h;intro q;exact ⟨⟨q.1,(Bp q.2).1⟩,(Bp q.2).2⟩
   ·exact stop h
  ·obtain ⟨h1,h2⟩:=Dr htt hm f _ _ _ _ _ _ h hob;exact ⟨h1.2,λhd=>qC h1.1 (h2 hd).go⟩
  ·rename_i all o r fs k;have hY:∀{rd:Bool} {env1:Env} {ob1 ob2:List Prop} {rds:List Nat},Fa tt n all o env st ids = .y rd env1 ob1->Qw env o.op=rds->(AA ob2->AA ob1/\AA ob0) ->
     (run tt n f path (.dops all r ((rds,[])::fs)::k) env1 st ids ob2 = .at todo' env' st' ids' ob)->AA ob0/\(G P n F Q todo' env' st' ids'->G P n F Q (.dops all (o::r) fs::k) env st ids):=by
    intro rd env1 ob1 ob2 rds hs hrd hobs hrun;obtain ⟨h1,h2⟩:=Dr htt hm f _ _ _ _ _ _ hrun hob;obtain ⟨h3,h4⟩:=hobs h1;obtain ⟨d,e1,e2,e3,_,e5⟩:=cO htt hs h3;subst e1;rw [hrd] at e5;refine ⟨h4,λhd=>?_⟩;have:=h2 hd;simp only [G,List.reverse_cons] at this ⊢;exact UI (ids':=ids) e5 e2 e3 this
   have hE:∀{env1:Env} {st1:St} {ids1:List Nat} {ob1:List Prop} {rds:List Nat} {i:Nat} {x:Option Blk},Fa tt n all o env st ids = .e env1 ((i,x)::st1) ids1 ob1->Qw env o.op=rds ->
     (run tt n f path (.dops all r ((rds,[i])::fs)::k) env1 ((i,x)::st1) ids1 (Iw ob1 ob0) = .at todo' env' st' ids' ob)->AA ob0/\(G P n F Q todo' env' st' ids'->G P n F Q (.dops all (o::r) fs::k) env st ids):=by
    intro env1 st1 ids1 ob1 rds i x hs hrd hrun;obtain ⟨h1,h2⟩:=Dr htt hm f _ _ _ _ _ _ hrun hob;obtain ⟨h3,h4⟩:=(RI _ _).1 h1;obtain ⟨d,fr,rfl,rfl,e1,e2,e3,_,e5⟩:=T0 htt hs h3;subst e1;rw [hrd] at e5;refine ⟨h4,λhd=>?_⟩;have:=h2 hd;simp only [G,List.reverse_cons] at this ⊢;exact UI e5 e2 e3 this
   split at h
   ·rename_i hs hr;refine hY hs hr ?_ h;intro q;exact ⟨trivial,q⟩
   ·rename_i hs hr;refine hY hs hr ?_ h;intro q;exact ⟨trivial,q⟩
   ·rename_i hs hr;refine hY hs hr ?_ h;intro q;exact ⟨⟨q.1,trivial⟩,q.2⟩
   ·rename_i hs hr;refine hY hs hr ?_ h;intro q;exact ⟨⟨q.1,trivial⟩,q.2⟩
   ·rename_i hs _ _;refine hY hs rfl ?_ h;intro q;exact ⟨⟨q.1,(Bp q.2).1⟩,(Bp q.2).2⟩
   ·rename_i hs hr;exact hE hs hr h
   ·rename_i hs hr;exact hE hs hr h
   ·exact stop h
  ·split at h
   ·rename_i t hc;obtain ⟨h1,h2⟩:=Dr htt hm f _ _ _ _ _ _ h hob;exact ⟨h1.2,λhd=>Ab hc (λ_=>(h2 hd).go) (λhf=>by rw [h1.1] at hf;cases hf)⟩
   ·rename_i t hc;obtain ⟨h1,h2⟩:=Dr htt hm f _ _ _ _ _ _ h hob;exact ⟨h1.2,λhd=>Ab hc (λht=>by rw [h1.1] at ht;cases ht) (λ_=>(h2 hd).go)⟩
   ·rename_i t hc;obtain ⟨h1,h2⟩:=Dr htt hm f _ _ _ _ _ _ h hob;refine ⟨h1,λhd=>Ab hc (λht=>?_) (λht=>?_)⟩
    ·subst ht;exact (h2 hd).go
    ·subst ht;exact (h2 hd).go
   ·exact stop h
  ·exact stop h
theorem Ky (htt:TTok P tt) (hm:P.follows .mixedOrders=true) (f:Nat) (path:List Pt) (h:run tt n f path todo env st ids [] = .at k env' st' ids' ob) (hob:AA ob) (hd:G P n F Q k env' st' ids'):G P n F Q todo env st ids :=
 (Dr htt hm f path todo env st ids [] h hob).2 hd
end
end Go.Hk
namespace Go.Hk
mutual
def IR:D->List Nat
 | .ref id _=>[id]
 | .own id _=>[id]
 | .elp id _ _ _=>[id]
 | .hv id _=>[id]
 | .mapr id=>[id]
 | .iter id=>[id]
 | .slc id _ _ _=>[id]
 | .yld id=>[id]
 | .agg cs=>I6 cs
 | .tup cs=>I6 cs
 | .fn _ a b=>I6 a++I6 b
 | .iface _ d=>IR d
 | .guard _ _ d=>IR d
 | _=>[]
def I6:List D->List Nat
 | []=>[]
 | d::r=>IR d++I6 r
end
mutual
def JF (ρ:Nat->Nat):D->D
 | .ref id off=>.ref (ρ id) off
 | .own id n=>.own (ρ id) n
 | .elp id k sz f=>.elp (ρ id) k sz f
 | .mapr id=>.mapr (ρ id)
 | .iter id=>.iter (ρ id)
 | .agg cs=>.agg (FD ρ cs)
 | .tup cs=>.tup (FD ρ cs)
 | .fn f a b=>.fn f (FD ρ a) (FD ρ b)
 | .iface t d=>.iface t (JF ρ d)
 | .guard c w d=>.guard c w (JF ρ d)
 | .undef=>.undef
 | .imm x=>.imm x
 | .nils=>.nils
 | .ip t cs off=>.ip t cs off
 | .clip es=>.clip es
 | .slc id off n c=>.slc (ρ id) off n c
 | .yld id=>.yld (ρ id)
 | .raw v=>.raw v
 | .hv id i=>.hv (ρ id) i
def FD (ρ:Nat->Nat):List D->List D
 | []=>[]
 | d::r=>JF ρ d::FD ρ r
end
def Va:Env->List Nat
 | []=>[]
 | (_,d)::r=>IR d++Va r
def bJ (ρ:Nat->Nat):Env->Env
 | []=>[]
 | (t,d)::r=>(t,JF ρ d)::bJ ρ r
theorem Zm {ρ:Nat->Nat}:∀{env:Env} {t:Nat} {d:D},lk (bJ ρ env) t=some d->∃d0,lk env t=some d0/\d=JF ρ d0
 | [],t,d,h=>by simp [bJ,lk] at h
 | (s,x)::r,t,d,h=>by
  simp only [bJ] at h;by_cases hs:s=t
  ·subst hs;rw [Ax] at h ⊢;cases h;exact ⟨x,rfl,rfl⟩
  ·rw [A5 _ _ hs] at h ⊢;exact Zm h
theorem XP:∀{env:Env} {t:Nat} {d:D},lk env t=some d->∀i∈IR d,i∈Va env
 | [],t,d,h,_,_=>by simp [lk] at h
 | (s,x)::r,t,d,h,i,hi=>by
  simp only [Va,List.mem_append];by_cases hs:s=t
  ·subst hs;rw [Ax] at h;cases h;exact .inl hi
  ·rw [A5 _ _ hs] at h;exact .inr (XP h i hi)
theorem Ff (ρ:Nat->Nat):∀l:List D,FD ρ l=l.map (JF ρ)
 | []=>rfl
 | d::r=>by simp [FD,Ff ρ r]
theorem Jk {d:D} {i:Nat}:∀{l:List D},d∈l->i∈IR d->i∈I6 l
 | [],h,_=>by simp at h
 | x::r,h,hi=>by
  simp only [I6,List.mem_append];rcases List.mem_cons.1 h with rfl | h
  ·exact .inl hi
  ·exact .inr (Jk h hi)
section
variable {I:Imm} {μ ν:Mu} {ρ:Nat->Nat}
theorem RepD.ren {v:Value} {d:D} (h:RepD I μ v d):(∀i∈IR d,∀g,μ i=some g->ν (ρ i)=some g)->RepD I ν v (JF ρ d):=by
 have at_:∀{l:List D} {i:Nat} {x:D},(FD ρ l)[i]?=some x->∃y,l[i]?=some y/\x=JF ρ y:=by
  intro l i x hx;rw [Ff,List.getElem?_map] at hx;cases hl:l[i]? with
  | none=>rw [hl] at hx;cases hx
  | some y=>rw [hl] at hx;cases hx;exact ⟨y,rfl,rfl⟩
 induction h with
 | undef v=>intro _;exact .undef v
 | imm v x hx=>intro _;exact .imm v x hx
 | nils=>intro _;exact .nils
 | ref b id off hm=>intro hn;exact .ref b _ off (hn id (by simp [IR]) _ hm)
 | ip b o t cs off vs hcell hrep=>intro _;exact .ip b o t cs off vs hcell hrep
 | agg cs ds hl h1 _ ih =>
  intro hn;refine .agg cs _ (by rw [Ff,List.length_map,hl]) h1 λi c x hc hx=>?_;obtain ⟨y,hy,rfl⟩:=at_ hx;exact ih i c y hc hy λj hj=>hn j (by simp only [IR];exact Jk (List.mem_of_getElem? hy) hj)
 | tup cs ds hl _ ih =>
  intro hn;refine .tup cs _ (by rw [Ff,List.length_map,hl]) λi c x hc hx=>?_;obtain ⟨y,hy,rfl⟩:=at_ hx;exact ih i c y hc hy λj hj=>hn j (by simp only [IR];exact Jk (List.mem_of_getElem? hy) hj)
 | own id len a cap hm=>intro hn;exact .own _ len a cap (hn id (by simp [IR]) _ hm)
 | elp b id len cap k sz f hm=>intro hn;exact .elp b _ len cap k sz f (hn id (by simp [IR]) _ hm)
 | mapr id b hm=>intro hn;exact .mapr _ b (hn id (by simp [IR]) _ hm)
 | iter id b hm=>intro hn;exact .iter _ b (hn id (by simp [IR]) _ hm)
 | fn f first cap df dc hf hc _ _ ih1 ih2 =>
  intro hn;refine .fn f first cap _ _ (by rw [Ff,List.length_map,hf]) (by rw [Ff,List.length_map,hc]) (λi c x h1 h2=>?_) (λi c x h1 h2=>?_)
  ·obtain ⟨y,hy,rfl⟩:=at_ h2;exact ih1 i c y h1 hy λj hj=>hn j (by simp only [IR];exact List.mem_append_left _ (Jk (List.mem_of_getElem? hy) hj))
  ·obtain ⟨y,hy,rfl⟩:=at_ h2;exact ih2 i c y h1 hy λj hj=>hn j (by simp only [IR];exact List.mem_append_right _ (Jk (List.mem_of_getElem? hy) hj))
 | iface t v d _ ih=>intro hn;exact .iface t v _ (ih hn)
 | guard c want v d _ hu ih=>intro hn;exact .guard c want v _ (λhc=>ih hc hn) hu
 | clip a len es hr=>intro _;exact .clip a len es hr
 | slc b id off len cap hm hl hx=>intro hn;exact .slc b _ off len cap (hn id (by simp [IR]) _ hm) hl hx
 | yld b id hm=>intro hn;exact .yld b _ (hn id (by simp [IR]) _ hm)
 | raw v h=>intro _;exact .raw v h
 | hv v id i vs bs hm hi h1=>intro hn;exact .hv v _ i vs bs (hn id (by simp [IR]) _ hm) hi h1
theorem RepL.ren {vs:List Value} {ds:List D} (h:RepL I μ vs ds) (hn:∀i∈I6 ds,∀g,μ i=some g->ν (ρ i)=some g):RepL I ν vs (FD ρ ds):=by
 refine ⟨by rw [Ff,List.length_map,h.1],λi v x hv hx=>?_⟩;rw [Ff,List.getElem?_map] at hx;cases hl:ds[i]? with
 | none=>rw [hl] at hx;cases hx
 | some y =>
  rw [hl] at hx;cases hx;exact (h.2 i v y hv hl).ren λj hj=>hn j (Jk (List.mem_of_getElem? hl) hj)
def U2:Blk->List Nat
 | .cells _ _ cs=>I6 cs
 | .bun id _=>[id]
 | .adr id _=>[id]
 | _=>[]
def Uq (ρ:Nat->Nat):Blk->Blk
 | .cells t sz cs=>.cells t sz (FD ρ cs)
 | .map kv=>.map kv
 | .immb t sz xs=>.immb t sz xs
 | .row t sz es=>.row t sz es
 | .siter s pos=>.siter s pos
 | .pin=>.pin
 | .bun id S=>.bun (ρ id) S
 | .hp A=>.hp A
 | .adr id b=>.adr (ρ id) b
 | .mapx kv b es c=>.mapx kv b es c
 | .miter b s z c=>.miter b s z c
theorem BlkRep.ren {w:World} {g:Value} {blk:Blk} (h:BlkRep I μ w g blk) (hn:∀i∈U2 blk,∀g,μ i=some g->ν (ρ i)=some g):BlkRep I ν w g (Uq ρ blk):=by
 cases blk with
 | immb t sz xs=>exact h
 | cells t sz cs =>
  obtain ⟨hs,b,vs,h1,h2,h3,h4⟩:=h;exact ⟨by rw [Ff,List.length_map,hs],b,vs,h1,h2,h3.ren hn,h4⟩
 | row t sz es=>exact h
 | map kv=>exact h
 | siter s pos=>exact h
 | pin=>exact h
 | bun id S =>
  obtain ⟨b,bs,h1,h2,h3⟩:=h;exact ⟨b,bs,hn id (by simp [U2]) _ h1,h2,h3⟩
 | hp A=>exact h
 | adr id b=>exact ⟨h.1,hn id (by simp [U2]) _ h.2⟩
 | mapx kv b es c=>exact h
 | miter b s z c=>exact h
theorem RepD.sub {v:Value} {d:D} (h:RepD I μ v d) (hn:∀i∈IR d,∀g,μ i=some g->ν i=some g):RepD I ν v d:=by
 have:=h.ren (ν:=ν) (ρ:=λi=>i) hn;have hid:∀d,JF (λi=>i) d=d:=by
  intro d;refine D.rec (motive_1:=λd=>JF (λi=>i) d=d) (motive_2:=λl=>FD (λi=>i) l=l) ?_ ?_ ?_ ?_ ?_ ?_ ?_ ?_ ?_ ?_ ?_ ?_ ?_ ?_ ?_ ?_ ?_ ?_ ?_ ?_ ?_ d <;> intros <;> simp_all [JF,FD]
 rwa [hid] at this
end
end Go.Hk
namespace Go.Hk
inductive Out where
 | ret (d:D) (st:St)
 | pan (x:V)
def Ey (st:St):List Nat:=st.map (·.1)
def Bt (P:Program) (f:FuncId) (ds:List D) (st:St) (out:Out):Prop :=
 ∀I μ w (xs:Array Value),StRep I μ st [] w->RepL I μ xs.toList ds->valX P ((callFunc f xs).run P w)
  (λu w'=>match out with
   | .ret d st'=>∃I' μ',RepD I' μ' u d/\StRep I' μ' st' [] w'/\Pin (Ey st) μ μ'/\Ext I μ st w I' μ' st' w'
   | .pan _=>False)
  (λchain w'=>match out with
   | .ret _ _=>False
   | .pan x=>Kc (· = x) I μ st w chain w')
def Al (P:Program) (f:FuncId) (vs:List V) (v:V):Prop:=Bt P f (vs.map .imm) [] (.ret (.imm v) [])
def DY (l:List (Nat×Nat)) (i:Nat):Nat:=match lk l i with
 | some j=>j
 | none=>i
def Bm:List (Nat×Nat)->List (Nat×Nat)
 | []=>[]
 | (a,b)::r=>(b,a)::Bm r
def Dy (σ τ:List (Nat×Nat)):List Nat->Bool
 | []=>true
 | i::r=>(match lk σ i with
  | some j=>(match lk τ j with
   | some k=>Nat.beq k i
   | none=>false)
  | none=>false)&&Dy σ τ r
theorem KB {σ τ:List (Nat×Nat)}:∀{l:List Nat},Dy σ τ l=true->∀i∈l,∃j,lk σ i=some j/\lk τ j=some i
 | [],_,i,hi=>by simp at hi
 | x::r,h,i,hi=>by
  simp only [Dy,Bool.and_eq_true] at h;rcases List.mem_cons.1 hi with rfl | hi
  ·cases h1:lk σ i with
   | none=>simp [h1] at h
   | some j =>
    cases h2:lk τ j with
    | none=>simp [h1,h2] at h
    | some k =>
     simp only [h1,h2] at h;rw [Nat.eq_of_beq_eq_true h.1] at h2;exact ⟨j,rfl,h2⟩
  ·exact KB h.2 i hi
def Fw:St->List Nat
 | []=>[]
 | (i,some b)::r=>i::(U2 b++Fw r)
 | (i,none)::r=>i::Fw r
def Ep (τ:List (Nat×Nat)):St->St
 | []=>[]
 | (i,some b)::r=>(DY τ i,some (Uq (DY τ) b))::Ep τ r
 | (i,none)::r=>(DY τ i,none)::Ep τ r
def FU (σ:List (Nat×Nat)) (st:St):St->Prop
 | []=>True
 | (i,some b)::r=>(match lk (Bm σ) i with
  | some a=>(match lk σ a with
   | some j=>Nat.beq j i=true
   | none=>False)/\(match lk st a with
   | some (some ba)=>Uq (DY σ) ba=b/\Dy σ (Bm σ) (U2 ba)=true
   | _=>False)
  | none=>False)/\FU σ st r
 | (_,none)::_=>False
theorem Ih {σ:List (Nat×Nat)} {st:St}:∀{st0:St},FU σ st st0->∀i b,Az st0 i b ->
  ∃a ba,lk (Bm σ) i=some a/\lk σ a=some i/\Az st a ba/\Uq (DY σ) ba=b/\Dy σ (Bm σ) (U2 ba)=true
 | [],_,i,b,h=>by simp [Az,lk] at h
 | (k,none)::r,h,_,_,_=>h.elim
 | (k,some x)::r,h,i,b,hl=>by
  obtain ⟨h1,h2⟩:=h;by_cases hk:k=i
  ·subst hk;have:x=b:=by unfold Az at hl;rw [Ax] at hl;cases hl;rfl
   subst this;cases ha:lk (Bm σ) k with
   | none=>simp [ha] at h1
   | some a =>
    simp only [ha] at h1;obtain ⟨h3,h4⟩:=h1;cases hj:lk σ a with
    | none=>simp [hj] at h3
    | some j =>
     simp only [hj] at h3;cases hb:lk st a with
     | none=>simp [hb] at h4
     | some ob =>
      cases ob with
      | none=>simp [hb] at h4
      | some ba =>
       simp only [hb] at h4;exact ⟨a,ba,rfl,by rw [hj,Nat.eq_of_beq_eq_true h3],hb,h4.1,h4.2⟩
  ·refine Ih h2 i b ?_;unfold Az at hl ⊢
   rwa [A5 _ _ hk] at hl
def Cs:List Nat->St
 | []=>[]
 | a::r=>(a,none)::Cs r
theorem LQ {l:List Nat} {st:St} {i:Nat} {b:Blk} (h:Az (Cs l++st) i b):i∉l/\Az st i b:=by
 induction l with
 | nil=>exact ⟨by simp,h⟩
 | cons a r ih =>
  simp only [Cs,List.cons_append] at h;obtain ⟨h1,h2⟩:=BD.1 h;obtain ⟨h3,h4⟩:=ih h2;exact ⟨by simp [h1,h3],h4⟩
theorem LA {τ:List (Nat×Nat)} {st:St} {i:Nat} {b:Blk}:∀{st1:St},Az (Ep τ st1++st) i b ->
  (∃j b1,Az st1 j b1/\i=DY τ j/\b=Uq (DY τ) b1)\/Az st i b
 | [],h=>.inr h
 | (k,some x)::r,h=>by
  simp only [Ep,List.cons_append] at h;rcases A8.1 h with ⟨h1,h2⟩ | ⟨h1,h2⟩
  ·exact .inl ⟨k,x,by unfold Az;rw [Ax],h1,h2⟩
  ·rcases LA h2 with ⟨j,b1,q1,q2,q3⟩ | q
   ·refine .inl ⟨j,b1,?_,q2,q3⟩;unfold Az at q1 ⊢;rw [A5 _ _ (λe=>by subst e;exact h1 q2)];exact q1
   ·exact .inr q
 | (k,none)::r,h=>by
  simp only [Ep,List.cons_append] at h;obtain ⟨h1,h2⟩:=BD.1 h;rcases LA h2 with ⟨j,b1,q1,q2,q3⟩ | q
  ·refine .inl ⟨j,b1,?_,q2,q3⟩;unfold Az at q1 ⊢;rw [A5 _ _ (λe=>by subst e;exact h1 q2)];exact q1
  ·exact .inr q
theorem Kk:∀{σ:List (Nat×Nat)} {i a:Nat},lk (Bm σ) i=some a->(a,i)∈σ
 | [],i,a,h=>by simp [Bm,lk] at h
 | (x,y)::r,i,a,h=>by
  simp only [Bm] at h;by_cases hy:y=i
  ·subst hy;rw [Ax] at h;cases h;simp
  ·rw [A5 _ _ hy] at h;exact List.mem_cons_of_mem _ (Kk h)
theorem QO:∀{σ:List (Nat×Nat)} {i a:Nat},lk σ i=some a->(i,a)∈σ
 | [],i,a,h=>by simp [lk] at h
 | (x,y)::r,i,a,h=>by
  by_cases hy:x=i
  ·subst hy;rw [Ax] at h;cases h;simp
  ·rw [A5 _ _ hy] at h;exact List.mem_cons_of_mem _ (QO h)
theorem MB {l m:List (Nat×Nat)} {i:Nat}:(∃a,lk l i=some a/\lk (l++m) i=some a)\/(lk l i=none/\lk (l++m) i=lk m i):=by
 induction l with
 | nil=>exact .inr ⟨rfl,rfl⟩
 | cons p r ih =>
  obtain ⟨x,y⟩:=p;by_cases hx:x=i
  ·subst hx;exact .inl ⟨y,Ax _ _ _,Ax _ _ _⟩
  ·rw [A5 _ _ hx,List.cons_append,A5 _ _ hx];exact ih
structure ZZ (σ τ1:List (Nat×Nat)) (das:List D) (st0:St) (d:D) (st1:St) (fr:List Nat):Prop where
 args:Dy σ (Bm σ) (I6 das)=true
 inv:Dy σ (Bm σ) (σ.map (·.1))=true
 given:∀p∈σ,p.2∈Ey st0
 res:Dy (Bm σ++τ1) (σ++Bm τ1) (IR d)=true
 now:Dy (Bm σ++τ1) (σ++Bm τ1) (Fw st1)=true
 new:∀p∈τ1,p.2∈fr
theorem EN:∀{st:St} {i:Nat} {b:Blk},Az st i b->i∈Fw st/\∀j∈U2 b,j∈Fw st
 | [],i,b,h=>by simp [Az,lk] at h
 | (k,x)::r,i,b,h=>by
  by_cases hk:k=i
  ·subst hk;unfold Az at h;rw [Ax] at h;cases h;simp only [Fw];exact ⟨by simp,λj hj=>by simp [hj]⟩
  ·have h':Az r i b:=by unfold Az at h ⊢;rwa [A5 _ _ hk] at h
   obtain ⟨h1,h2⟩:=EN h';cases x with
   | none=>simp only [Fw,List.mem_cons];exact ⟨.inr h1,λj hj=>.inr (h2 j hj)⟩
   | some y=>simp only [Fw,List.mem_cons,List.mem_append];exact ⟨.inr (.inr h1),λj hj=>.inr (.inr (h2 j hj))⟩
section
variable {P:Program} {I:Imm} {μ:Mu} {st st0 st1:St} {ids ids' fr:List Nat} {w:World} {σ τ1:List (Nat×Nat)} {das:List D} {d:D} {f:FuncId} {x:V} {Pn:V->Prop}
def Hg (σ:List (Nat×Nat)) (μ:Mu):Mu:=λj=>match lk (Bm σ) j with
 | some a=>μ a
 | none=>none
theorem RF {σ τ:List (Nat×Nat)} {l:List Nat} (h:Dy σ τ l=true) {i:Nat} (hi:i∈l):lk τ (DY σ i)=some i:=by
 obtain ⟨j,h1,h2⟩:=KB h i hi;simp [DY,h1,h2]
theorem FT (hst:StRep I μ st ids w) (hb:FU σ st st0) (hd:Dy σ (Bm σ) (I6 das)=true) {xs:List Value} (hx:RepL I μ xs das) :
  StRep I (Hg σ μ) st0 [] w/\RepL I (Hg σ μ) xs (FD (DY σ) das)/\∀b,BA (Hg σ μ) st0 b->BA μ st b:=by
 have hn:∀{l:List Nat},Dy σ (Bm σ) l=true->∀i∈l,∀g,μ i=some g->Hg σ μ (DY σ i)=some g:=by
  intro l hl i hi g hg;unfold Hg;rw [RF hl hi];exact hg
 have hl:∀i b g,Az st0 i b->Hg σ μ i=some g->∃a ba,Az st a ba/\μ a=some g/\lk σ a=some i:=by
  intro i b g hi hg;obtain ⟨a,ba,h1,h2,h3,_⟩:=Ih hb i b hi;exact ⟨a,ba,h3,by simpa [Hg,h1] using hg,h2⟩
 refine ⟨{ imm:=hst.imm,blk:=λi b h=>?_,apart:=λi b g k h hg hk=>?_,inj:=λi j bi bj gi gj k hi hj hgi hgj hki hkj=>?_,nodup:=.nil,idsFree:=λ_ h=>by simp at h },hx.ren (hn hd),?_⟩
 ·obtain ⟨a,ba,h1,h2,h3,h4,h5⟩:=Ih hb i b h;obtain ⟨g,hg,hr⟩:=hst.blk a ba h3;refine ⟨g,by simp [Hg,h1,hg],?_⟩;rw [<- h4];exact hr.ren (hn h5)
 ·obtain ⟨a,ba,h1,h2,_⟩:=hl i b g h hg;exact hst.apart a ba g k h1 h2 hk
 ·obtain ⟨a,ba,h1,h2,h3⟩:=hl i bi gi hi hgi;obtain ⟨a',ba',h1',h2',h3'⟩:=hl j bj gj hj hgj;have:=hst.inj a a' ba ba' gi gj k h1 h1' h2 h2' hki hkj;subst this;rw [h3] at h3';cases h3';rfl
 ·rintro b ⟨i,bi,g,h1,h2,h3⟩;obtain ⟨a,ba,q1,q2,_⟩:=hl i bi g h1 h2;exact ⟨a,ba,g,q1,q2,h3⟩
theorem IP (hst:StRep I μ st (fr++ids') w) (hb:FU σ st st0) (hn:ZZ σ τ1 das st0 d st1 fr) {I':Imm} {μ':Mu} {w':World} {u:Value} (hu:RepD I' μ' u d) (hst':StRep I' μ' st1 [] w')
  (hp:Pin (Ey st0) (Hg σ μ) μ') (he:Ext I (Hg σ μ) st0 w I' μ' st1 w') (hsub:∀b,BA (Hg σ μ) st0 b->BA μ st b) :
  ∃ν,StRep I' ν (Ep (Bm σ++τ1) st1++Cs (σ.map (·.1))++st) ids' w'/\RepD I' ν u (JF (DY (Bm σ++τ1)) d)/\μ.le ν /\
   Ext I μ st w I' ν (Ep (Bm σ++τ1) st1++Cs (σ.map (·.1))++st) w':=by
 have hfree:∀i∈fr,μ i=none:=λi hi=>hst.idsFree i (by simp [hi]);have hgiven:∀i j,lk σ i=some j->lk (Bm σ) j=some i/\∃g,μ i=some g:=by
  intro i j hij;have hinv:lk (Bm σ) j=some i:=by
   obtain ⟨j',h1,h2⟩:=KB hn.inv i (List.mem_map.2 ⟨(i,j),QO hij,rfl⟩);rw [hij] at h1;cases h1;exact h2
  refine ⟨hinv,?_⟩;have h1:=hn.given _ (QO hij);obtain ⟨⟨j',x⟩,h2,h3⟩:=List.mem_map.1 h1;have h3:j'=j:=h3;subst h3;have:∀{st0:St},FU σ st st0->(j',x)∈st0->∃g,μ i=some g:=by
   intro st0
   induction st0 with
   | nil=>intro _ h;simp at h
   | cons p r ih =>
    obtain ⟨k,y⟩:=p;intro h hm;cases y with
    | none=>exact h.elim
    | some y =>
     rcases List.mem_cons.1 hm with e | e
     ·cases e;have h1:=h.1;simp only [hinv] at h1;have h4:=h1.2;cases hb:lk st i with
      | none=>simp [hb] at h4
      | some ob =>
       cases ob with
       | none=>simp [hb] at h4
       | some ba =>
        obtain ⟨g,hg,_⟩:=hst.blk i ba hb;exact ⟨g,hg⟩
     ·exact ih h.2 e
  exact this hb h2
 obtain ⟨ν,hν⟩:∃ν:Mu,ν=λi=>match lk (σ++Bm τ1) i with | some j=>μ' j | none=>μ i:=⟨_,rfl⟩
 have hν1:∀{l:List Nat},Dy (Bm σ++τ1) (σ++Bm τ1) l=true->∀i∈l,∀g,μ' i=some g->ν (DY (Bm σ++τ1) i)=some g:=by
  intro l hl i hi g hg;rw [hν];simp only [RF hl hi];exact hg
 have hσ:∀i j,lk σ i=some j->∀g,μ i=some g->ν i=some g:=by
  intro i j hij g hg;have h2:=(hgiven i j hij).1;rw [hν];rcases MB (l:=σ) (m:=Bm τ1) (i:=i) with ⟨a,h3,h4⟩ | ⟨h3,_⟩
  ·rw [hij] at h3;cases h3;simp only [h4];exact hp j (hn.given _ (QO hij)) g (by simp [Hg,h2,hg])
  ·rw [hij] at h3;cases h3
 have hin:∀i,(∃j,lk σ i=some j)\/i∈fr\/ν i=μ i:=by
  intro i;rcases MB (l:=σ) (m:=Bm τ1) (i:=i) with ⟨a,h1,_⟩ | ⟨h1,h2⟩
  ·exact .inl ⟨a,h1⟩
  ·cases h:lk (Bm τ1) i with
   | none=>refine .inr (.inr ?_);rw [hν];simp [h2,h]
   | some j=>exact .inr (.inl (hn.new _ (Kk h)))
 have hle:μ.le ν:=by
  intro i g hg;rcases hin i with ⟨j,h⟩ | h | h
  ·exact hσ i j h g hg
  ·rw [hfree i h] at hg;cases hg
  ·rw [h];exact hg
 have hlive:∀i b,Az (Ep (Bm σ++τ1) st1++Cs (σ.map (·.1))++st) i b ->
   (∃j b1,Az st1 j b1/\(b=Uq (DY (Bm σ++τ1)) b1/\i=DY (Bm σ++τ1) j)/\∀g,ν i=some g↔μ' j=some g)\/((∀j,lk σ i≠some j)/\Az st i b/\ν i=μ i):=by
  intro i b hl;rw [List.append_assoc] at hl;rcases LA hl with ⟨j,b1,h1,h2,h3⟩ | h
  ·refine .inl ⟨j,b1,h1,⟨h3,h2⟩,λg=>?_⟩;rw [h2,hν];simp only [RF hn.now (EN h1).1]
  ·obtain ⟨h1,h2⟩:=LQ h;have h3:∀j,lk σ i≠some j:=λj hj=>h1 (List.mem_map.2 ⟨(i,j),QO hj,rfl⟩);refine .inr ⟨h3,h2,?_⟩;rcases hin i with ⟨j,h⟩ | h | h
   ·exact absurd h (h3 j)
   ·obtain ⟨g,hg,_⟩:=hst.blk i b h2;rw [hfree i h] at hg;cases hg
   ·exact h
 have hframe:∀i b g k,(∀j,lk σ i≠some j)->Az st i b->μ i=some g->D0 g k->¬BA (Hg σ μ) st0 k:=by
  rintro i b g k h1 h2 h3 h4 ⟨j,bj,gj,h5,h6,h7⟩;obtain ⟨a,ba,q1,q2,q3,_⟩:=Ih hb j bj h5;simp only [Hg,q1] at h6;have:=hst.inj i a b ba g gj k h2 q3 h3 h6 h4 h7;subst this;exact h1 j q2
 have hext:Ext I μ st w I' ν (Ep (Bm σ++τ1) st1++Cs (σ.map (·.1))++st) w':=by
  refine { imm:=he.imm,os:=he.os,tape:=he.tape,output:=he.output,size:=he.size,block:=λb hb' ho=>he.block b hb' (λh=>ho (hsub b h)),fresh:=λb hb' ho=>?_,old:=λb hb' ho=>he.old b hb' (λh=>ho (hsub b h)) };obtain ⟨i,bi,g,h1,h2,h3⟩:=ho;rcases hlive i bi h1 with ⟨j,b1,q1,_,q3⟩ | ⟨_,q2,q3⟩
  ·exact hsub b (he.fresh b hb' ⟨j,b1,g,q1,(q3 g).1 h2,h3⟩)
  ·exact ⟨i,bi,g,q2,by rw [<- q3];exact h2,h3⟩
 refine ⟨ν,?_,hu.ren (hν1 hn.res),hle,hext⟩;refine { imm:=hst'.imm,blk:=λi b h=>?_,apart:=λi b g k h hg hk=>?_,inj:=λi j bi bj gi gj k hi hj hgi hgj hki hkj=>?_,nodup:=(List.nodup_append.1 hst.nodup).2.1,idsFree:=λi hi=>?_ }
 ·rcases hlive i b h with ⟨j,b1,q1,q2,q3⟩ | ⟨q1,q2,q3⟩
  ·obtain ⟨g,hg,hr⟩:=hst'.blk j b1 q1;exact ⟨g,(q3 g).2 hg,by rw [q2.1];exact hr.ren λk hk=>hν1 hn.now k ((EN q1).2 k hk)⟩
  ·obtain ⟨g,hg,hr⟩:=hst.blk i b q2;refine ⟨g,by rw [q3];exact hg,(hr.mono he.imm hle).world λk hk=>?_⟩;exact he.block k (hst.apart i b g k q2 hg hk).2 (hframe i b g k q1 q2 hg hk)
 ·rcases hlive i b h with ⟨j,b1,q1,q2,q3⟩ | ⟨q1,q2,q3⟩
  ·exact hst'.apart j b1 g k q1 ((q3 g).1 hg) hk
  ·rw [q3] at hg;obtain ⟨h1,h2⟩:=hst.apart i b g k q2 hg hk;exact ⟨by rw [he.old k h2 (hframe i b g k q1 q2 hg hk)];exact h1,Nat.lt_of_lt_of_le h2 he.size⟩
 ·rcases hlive i bi hi with ⟨i1,b1,q1,q2,q3⟩ | ⟨q1,q2,q3⟩ <;> rcases hlive j bj hj with ⟨j1,b2,p1,p2,p3⟩ | ⟨p1,p2,p3⟩
  ·have:=hst'.inj i1 j1 b1 b2 gi gj k q1 p1 ((q3 gi).1 hgi) ((p3 gj).1 hgj) hki hkj;subst this;rw [q2.2,p2.2]
  ·rw [p3] at hgj;have hk:=(hst.apart j bj gj k p2 hgj hkj).2;exact absurd (he.fresh k hk ⟨i1,b1,gi,q1,(q3 gi).1 hgi,hki⟩) (hframe j bj gj k p1 p2 hgj hkj)
  ·rw [q3] at hgi;have hk:=(hst.apart i bi gi k q2 hgi hki).2;exact absurd (he.fresh k hk ⟨j1,b2,gj,p1,(p3 gj).1 hgj,hkj⟩) (hframe i bi gi k q1 q2 hgi hki)
  ·rw [q3] at hgi;rw [p3] at hgj;exact hst.inj i j bi bj gi gj k q2 p2 hgi hgj hki hkj
 ·rcases hin i with ⟨j,h⟩ | h | h
  ·obtain ⟨_,g,hg⟩:=hgiven i j h;rw [hst.idsFree i (by simp [hi])] at hg;cases hg
  ·exact absurd rfl ((List.nodup_append.1 hst.nodup).2.2 i h i hi)
  ·rw [h];exact hst.idsFree i (by simp [hi])
end
end Go.Hk
namespace Go.Hk
def Ir (cx:Prop) (env:Env):List Operand->Option (List D×List Prop)
 | []=>some ([],[])
 | x::r=>match CV env x,Ir cx env r with
  | some (.guard c w d),some (ds,o)=>some (d::ds,(cx->c=w)::o)
  | some d,some (ds,o)=>some (d::ds,o)
  | _,_=>none
def Bg:List DI->List Nat×List Nat->Option (List Oper×Oper×List DI)
 | .ops all (o::r)::k,_=>some (all,o,.ops all r::k)
 | .dops all (o::r) fs::k,f=>some (all,o,.dops all r (f::fs)::k)
 | _,_=>none
def BH (n:Nat):Option Nat->Bool
 | some t=>Nat.blt t n
 | none=>true
def Ap:Option (Bool×Bool)->Prop
 | none=>True
 | some (c,w)=>c=w
def gD:Option (Bool×Bool)->D->D
 | none,d=>d
 | some (c,w),d=>.guard c w d
def Ca (all:List Oper) (env:Env) (o:Oper):Option (Option (Bool×Bool)) :=
 match o.guard with
 | none=>some none
 | some (j,w)=>match LX all j with
  | some { dst:=some g,.. }=>match rF (lk env g) w with
   | some c=>some (some (c,w))
   | none=>none
  | _=>none
structure ZY where
 f:FuncId
 vs:List V
 g:Option (Bool×Bool)
 ob:List Prop
 dst:Option Nat
 todo:List DI
def Zs (n:Nat) (env:Env) (todo:List DI):Option ZY :=
 match Bg todo ([],[]) with
 | some (all,o,todo')=>match o.op,Ca all env o with
  | .call { callee:=.value (.func f),args:=⟨args⟩,.. },some g=>match Ir (Ap g) env args with
   | some (ds,ob)=>match L5 ds,BH n o.dst with
    | some vs,true=>match o.dst with
     | some t=>some ⟨f,vs,g,ob,some t,todo'⟩
     | none=>some ⟨f,vs,g,ob,none,todo'⟩
    | _,_=>none
   | none=>none
  | .call { callee:=.value (.tmp t),args:=⟨args⟩,.. },some g=>match lk env t,Ir (Ap g) env args with
   | some (.imm (.fn (.func f))),some (ds,ob)=>match L5 ds,BH n o.dst with
    | some vs,true=>match o.dst with
     | some t=>some ⟨f,vs,g,ob,some t,todo'⟩
     | none=>some ⟨f,vs,g,ob,none,todo'⟩
    | _,_=>none
   | _,_=>none
  | _,_=>none
 | none=>none
section
variable {P:Program} {n:Nat} {F:List Nat} {Q:DQ} {tt:TT} {env env':Env} {st st':St} {ids ids':List Nat} {k todo todo':List DI} {cx:Prop} {d:D} {ob ob':List Prop} {Pn:V->Prop}
 {I:Imm} {μ:Mu} {w:World} {a:Act}
theorem RepV.fnInv {v:Value} {f:Fn} (h:RepV I v (.fn f)):v = .func f #[] #[]:=by cases h;rfl
theorem Gv (hc:cx):∀{args:List Operand} {ds:List D} {ob:List Prop},Ir cx env args=some (ds,ob)->AA ob->(∀x∈args,∀d,CV env x=some d->RepD I μ (a.eval x) d) ->
  RepL I μ (args.map a.eval) ds
 | [],ds,ob,h,_,_=>by cases h;exact .nil
 | x::r,ds,ob,h,hob,hx=>by
  have hr:∀y∈r,∀d,CV env y=some d->RepD I μ (a.eval y) d:=λy hy=>hx y (by simp [hy]);simp only [Ir] at h
  split at h
  ·rename_i c w0 d ds' o' h1 h2;cases h;exact .mk ((hx x (by simp) _ h1).guardInv (hob.1 hc)) (Gv hc h2 hob.2 hr)
  ·rename_i d ds' o' _ h1 h2;cases h;exact .mk (hx x (by simp) _ h1) (Gv hc h2 hob hr)
  ·cases h
theorem F9:∀{vs:List Value} {ds:List D} {xs:List V},FA ds=some xs->RepL I μ vs ds->RepVL I vs xs
 | [],ds,xs,h,hr=>by
  cases ds with
  | nil=>cases h;exact .nil
  | cons d ds=>simp [RepL] at hr
 | v::vs,ds,xs,h,hr=>by
  cases ds with
  | nil=>simp [RepL] at hr
  | cons d ds =>
   obtain ⟨h1,h2⟩:=hr.cons;cases d <;> simp only [FA,reduceCtorEq] at h
   ·split at h
    ·cases h;exact .mk h1.immInv (F9 (by assumption) h2)
    ·cases h
   ·split at h
    ·cases h;cases h1;exact .mk .slnil (F9 (by assumption) h2)
    ·cases h
theorem RepD.ipV {v:Value} {t:TypeId} {cs:List V} {off:Nat} (h:RepD I μ v (.ip t cs off)):RepV I v (.ip t cs off):=by
 cases h with
 | ip b o _ _ _ vs h1 h2=>exact .ip b o t cs off vs h1 h2
theorem RepV.ipD {v:Value} {t:TypeId} {cs:List V} {off:Nat} (h:RepV I v (.ip t cs off)):RepD I μ v (.ip t cs off):=by
 cases h with
 | ip b o _ _ _ vs h1 h2=>exact .ip b o t cs off vs h1 h2
theorem fP {v:Value} {x:V} (h:pC d=some x) (hr:RepD I μ v d):RepV I v x:=by
 unfold pC at h
 split at h
 ·cases h;exact hr.immInv
 ·cases h;cases hr;exact .slnil
 ·split at h
  ·rename_i xs hx;cases h;obtain ⟨cs,rfl,h1,h2⟩:=hr.aggDInv;have:=F9 hx h1;exact .agg cs xs (by have:=this.1;simpa using this) h2 λi c x hc hx=>this.2 i c x (by simpa using hc) hx
  ·cases h
 ·cases h;exact hr.ipV
 ·cases h
theorem IV:∀{vs:List Value} {ds:List D} {xs:List V},L1 ds=some xs->RepL I μ vs ds->RepVL I vs xs
 | [],[],xs,h,hr=>by
  simp only [L1,Option.some.injEq] at h;subst h;exact ⟨rfl,λi v x h=>by simp at h⟩
 | v::vs,d::ds,xs,h,hr=>by
  simp only [L1] at h
  split at h
  ·rename_i x xs' h1 h2;cases h;have ih:=IV (vs:=vs) h2 ⟨by simpa using hr.1,λi v d p q=>hr.2 (i+1) v d (by simpa using p) (by simpa using q)⟩;refine ⟨by simp [ih.1],λi u y p q=>?_⟩;cases i with
   | zero=>simp at p q;rw [<- p,<- q];exact fP h1 (hr.2 0 v d rfl rfl)
   | succ i=>exact ih.2 i u y (by simpa using p) (by simpa using q)
  ·cases h
 | [],_::_,_,_,hr=>by have:=hr.1;simp at this
 | _::_,[],_,_,hr=>by have:=hr.1;simp at this
theorem Mj {v:Value} {x:V} (h:lO d=some x) (hr:RepD I μ v d):RepV I v x:=by
 unfold lO at h
 split at h
 ·cases h;exact hr.immInv
 ·cases h;cases hr;exact .slnil
 ·split at h
  ·rename_i xs hx;cases h;obtain ⟨cs,rfl,h1,h2⟩:=hr.aggDInv;have:=F9 hx h1;exact .agg cs xs (by have:=this.1;simpa using this) h2 λi c x hc hx=>this.2 i c x (by simpa using hc) hx
  ·cases h
 ·split at h
  ·rename_i ds _ xs hx;cases h;generalize hd:D.tup ds=d' at hr;cases hr <;> cases hd;rename_i cs hl h;have:=IV (vs:=cs.toList) hx ⟨by simpa using hl,λi c x hc hx=>h i c x (by simpa using hc) hx⟩;exact .tup cs xs (by have:=this.1;simpa using this) λi c x hc hx=>this.2 i c x (by simpa using hc) hx
  ·cases h
 ·cases h;exact hr.ipV
 ·cases h;cases hr;assumption
 ·split at h
  ·rename_i xs ys hx hy;cases h;cases hr with
   | fn g first cap df dc hf hc h1 h2 =>
    have q1:=IV (vs:=first.toList) hx ⟨by simpa using hf,λi v d e1 e2=>h1 i v d (by simpa using e1) e2⟩;have q2:=IV (vs:=cap.toList) hy ⟨by simpa using hc,λi v d e1 e2=>h2 i v d (by simpa using e1) e2⟩;exact .clo _ first cap xs ys (by simpa using q1.1) (by simpa using q2.1) (λi c x h1 h2=>q1.2 i c x (by simpa using h1) h2) (λi c x h1 h2=>q2.2 i c x (by simpa using h1) h2)
  ·cases h
 ·cases h
theorem Vm:∀{vs:List Value} {ds:List D} {xs:List V},L5 ds=some xs->RepL I μ vs ds->RepVL I vs xs
 | [],ds,xs,h,hr=>by
  cases ds with
  | nil=>cases h;exact .nil
  | cons d ds=>simp [RepL] at hr
 | v::vs,ds,xs,h,hr=>by
  cases ds with
  | nil=>simp [RepL] at hr
  | cons d ds =>
   obtain ⟨h1,h2⟩:=hr.cons;simp only [L5] at h
   split at h
   ·cases h;exact .mk (Mj (by assumption) h1) (Vm (by assumption) h2)
   ·cases h
theorem I8 {f:List Nat×List Nat} {all:List Oper} {o:Oper} (h:Bg todo f=some (all,o,todo')) :
  (∃r k,todo = .ops all (o::r)::k/\todo' = .ops all r::k)\/∃r fs k,todo = .dops all (o::r) fs::k/\todo' = .dops all r (f::fs)::k:=by
 unfold Bg at h
 split at h
 ·cases h;exact .inl ⟨_,_,rfl,rfl⟩
 ·cases h;exact .inr ⟨_,_,_,rfl,rfl⟩
 ·cases h
theorem B6 {rd fr:List Nat} {wr:St} {all:List Oper} {o:Oper} (h1:Bg todo (rd,wr.map (·.1))=some (all,o,todo')) (hl:LD P (Mz Q) all o env st rd fr wr d) (hn:BH n o.dst=true)
  (hnd:∀c,o.op ≠ .defer c) (h:G P n F Q todo' (B9 o.dst d env) (wr++st) ids'):G P n F Q todo env st (fr++ids'):=by
 have hn':∀t,o.dst=some t->t<n:=λt ht=>by
  unfold BH at hn;rw [ht] at hn;simpa [Nat.blt_eq] using hn
 rcases I8 h1 with ⟨r,k,rfl,rfl⟩ | ⟨r,fs,k,rfl,rfl⟩
 ·exact rD hl hn' hnd h
 ·simp only [G,List.reverse_cons] at h ⊢;exact UI hl hn' hnd h
def En (P:Program) (o:Oper) (env:Env) (f:FuncId) (das:List D) (cx:Prop):Prop :=
 ∀I μ a w,Dh I μ env a o.op->cx->∃xs:Array Value,RepL I μ xs.toList das/\(execOp a.eval o).run P w=(callFunc f xs).run P w
theorem Fu {o:Oper} {f:FuncId} {args:List Operand} {ts:Array TypeId} {ds:List D} (ho:o.op = .call { callee:=.value (.func f),args:=⟨args⟩,argTypes:=ts }) (ha:Ir cx env args=some (ds,ob)) (hob:AA ob) :
  En P o env f ds cx:=by
 intro I μ a w hop hc;rw [ho] at hop;refine ⟨(args.map a.eval).toArray,by simpa using Gv hc ha hob λx hx=>hop x (by simp [Op.operands,Call.operands,hx]),?_⟩;simp only [execOp,ho,resolve,Act.eval,Deferred.ofValue,Sem.run_bind,Sem.run_pure,Result.andThen_ok,invoke];congr 2;simp
theorem EA {o:Oper} {t:Nat} {f:FuncId} {args:List Operand} {ts:Array TypeId} {ds:List D} (ho:o.op = .call { callee:=.value (.tmp t),args:=⟨args⟩,argTypes:=ts }) (ht:lk env t=some (.imm (.fn (.func f))))
  (ha:Ir cx env args=some (ds,ob)) (hob:AA ob):En P o env f ds cx:=by
 intro I μ a w hop hc;rw [ho] at hop;refine ⟨(args.map a.eval).toArray,by simpa using Gv hc ha hob λx hx=>hop x (by simp [Op.operands,Call.operands,hx]),?_⟩;have hv:a.eval (.tmp t) = .func (.func f) #[] #[]:=(hop (.tmp t) (by simp [Op.operands,Call.operands]) _ ht).immInv.fnInv;simp only [execOp,ho,resolve,hv,Deferred.ofValue,Sem.run_bind,Sem.run_pure,Result.andThen_ok,invoke];congr 2;simp
theorem It {o:Oper} {t:Nat} {f:FuncId} {args:List Operand} {ts:Array TypeId} {ds df dc:List D} (ho:o.op = .call { callee:=.value (.tmp t),args:=⟨args⟩,argTypes:=ts }) (ht:lk env t=some (.fn (.func f) df dc))
  (ha:Ir cx env args=some (ds,ob)) (hob:AA ob):En P o env f (df++ds++dc) cx:=by
 intro I μ a w hop hc;rw [ho] at hop;have hd:=Gv (I:=I) (μ:=μ) (a:=a) hc ha hob λx hx=>hop x (by simp [Op.operands,Call.operands,hx]);have hf:=hop (.tmp t) (by simp [Op.operands,Call.operands]) _ ht;generalize hv:a.eval (.tmp t)=v at hf;cases hf with
 | fn _ first cap _ _ h1 h2 h3 h4 =>
  refine ⟨first++(args.map a.eval).toArray++cap,?_,?_⟩
  ·simp only [Array.toList_append];refine RepL.append (RepL.append ⟨by simpa using h1,λi v d hv hd=>h3 i v d (by simpa using hv) hd⟩ hd) ⟨by simpa using h2,λi v d hv hd=>h4 i v d (by simpa using hv) hd⟩
  ·simp only [execOp,ho,resolve,hv,Deferred.ofValue,Sem.run_bind,Sem.run_pure,Result.andThen_ok,invoke];congr 3;simp
theorem Fr {all:List Oper} {o:Oper} {g:Option (Bool×Bool)} (hg:Ca all env o=some g) (hon:∀t∈o.looksAt all.toArray,∀d,lk env t=some d->RepD I μ (a.tmps.getD t undef) d) :
  Region.wanted o (yielded all.toArray a.tmps)=true↔Ap g:=by
 unfold Ca at hg
 split at hg
 ·rename_i hgd;cases hg;simp [Ap,AG hgd]
 ·rename_i j w0 hgd
  split at hg
  ·rename_i gs _ _ _ _ _ hj
   split at hg
   ·rename_i c hl;cases hg;rw [FG] at hj;exact R1 hgd hj rfl hl hon
   ·cases hg
  ·cases hg
theorem P7 {all:List Oper} {o:Oper} {f:FuncId} {das:List D} {vs:List V} {v:V} {g:Option (Bool×Bool)} (hg:Ca all env o=some g) (hc:En P o env f das (Ap g)) (hv:L5 das=some vs)
  (hE:Ap g->Al P f vs v):LD P Pn all o env st [] [] [] (gD g (.imm v)):=by
 have key:∀I μ st1 ids1 a w,StRep I μ st1 ids1 w->Dh I μ env a o.op->Ap g->valX P ((execOp a.eval o).run P w) (λu w'=>∃I' μ',StRep I' μ' st1 ids1 w'/\RepD I' μ' u (gD g (.imm v))/\μ.le μ'/\Ext I μ st1 w I' μ' st1 w') (Kc Pn I μ st1 w):=by
  intro I μ st1 ids1 a w hst hop hcx;obtain ⟨xs,h1,h2⟩:=hc I μ a w hop hcx;have hx:=Vm hv h1;obtain ⟨q1,q2,q3⟩:=FT (σ:=[]) (st0:=[]) hst trivial (das:=vs.map .imm) (by
   have:∀vs:List V,I6 (vs.map .imm)=[]:=λvs=>by induction vs with
    | nil=>rfl
    | cons x r ih=>simp [I6,IR,ih]
   rw [this];rfl) hx.imm
  have hren:FD (DY []) (vs.map .imm)=vs.map .imm:=by
   rw [Ff];simp [JF]
  rw [hren] at q2;rw [h2];refine (hE hcx I _ w xs q1 q2).mono (λu w' hu=>?_) (λ_ _ h=>h.elim);obtain ⟨I',μ',r1,r2,r3,r4⟩:=hu;obtain ⟨ν,s1,s2,s3,s4⟩:=IP (fr:=[]) (ids':=ids1) (σ:=[]) (τ1:=[]) (das:=[]) (st0:=[]) hst trivial ⟨rfl,rfl,λ_ h=>by simp at h,rfl,rfl,λ_ h=>by simp at h⟩ r1 r2 r3 r4 q3;refine ⟨I',ν,s1,?_,s3,s4⟩;cases g with
  | none=>exact s2
  | some p=>exact .guard _ _ _ _ (λ_=>s2) (λhn=>absurd hcx hn)
 intro I μ st1 ids1 a w _ hst hon;have hwant:=Fr hg hon;refine ⟨λhw=>key I μ st1 ids1 a w hst (Bc hon) (hwant.1 hw),λhw=>⟨rfl,rfl,?_⟩⟩;cases g with
 | none=>rw [hwant.2 trivial] at hw;cases hw
 | some p=>exact .guard _ _ _ _ (λhc=>by rw [hwant.2 hc] at hw;cases hw) (λ_=>rfl)
theorem Af {f:FuncId} {vs:List V} {g:Option (Bool×Bool)} {ob:List Prop} {dst:Option Nat} {todo':List DI} {v:V} (h:Zs n env todo=some ⟨f,vs,g,ob,dst,todo'⟩) (hE:Ap g->Al P f vs v) (hob:AA ob)
  (hk:G P n F Q todo' (B9 dst (gD g (.imm v)) env) st ids):G P n F Q todo env st ids:=by
 unfold Zs at h;have fin:∀{all:List Oper} {o:Oper} {todo1:List DI} {x:ZY},(match o.dst with
   | some t=>some (⟨x.f,x.vs,x.g,x.ob,some t,todo1⟩:ZY)
   | none=>some ⟨x.f,x.vs,x.g,x.ob,none,todo1⟩)=some ⟨f,vs,g,ob,dst,todo'⟩->x.f=f/\x.vs=vs/\x.g=g/\x.ob=ob/\o.dst=dst/\todo1=todo':=by
  intro all o todo1 x hx
  split at hx <;> (rename_i hd;cases hx;exact ⟨rfl,rfl,rfl,rfl,hd,rfl⟩)
 split at h
 ·rename_i all o todo1 h1;have hnd:∀cc,o.op = .call cc->∀c,o.op ≠ .defer c:=λcc h c h'=>by rw [h] at h';cases h'
  split at h
  ·rename_i f args ts g ho hg
   split at h
   ·rename_i ds ob ha
    split at h
    ·rename_i vs hv hd;obtain ⟨e1,e2,e3,e4,e5,e6⟩:=fin (all:=all) (x:=⟨f,vs,g,ob,none,todo1⟩) h
     dsimp only at e1 e2 e3 e4
     subst e1;subst e2;subst e3;subst e4;subst e5;subst e6;exact B6 (fr:=[]) (wr:=[]) h1 (P7 hg (Fu ho ha hob) hv hE) hd (hnd _ ho) hk
    ·cases h
   ·cases h
  ·rename_i t args ts g ho hg
   split at h
   ·rename_i f ds ob ht ha
    split at h
    ·rename_i vs hv hd;obtain ⟨e1,e2,e3,e4,e5,e6⟩:=fin (all:=all) (x:=⟨f,vs,g,ob,none,todo1⟩) h
     dsimp only at e1 e2 e3 e4
     subst e1;subst e2;subst e3;subst e4;subst e5;subst e6;exact B6 (fr:=[]) (wr:=[]) h1 (P7 hg (EA ho ht ha hob) hv hE) hd (hnd _ ho) hk
    ·cases h
   ·cases h
  ·cases h
 ·cases h
theorem AE {f:FuncId} {vs:List V} {g:Option (Bool×Bool)} {ob:List Prop} {dst:Option Nat} {todo':List DI} {v:V} (h:Zs n env todo=some ⟨f,vs,g,ob,dst,todo'⟩) (hE:Al P f vs v)
  (hk:G P n F Q todo' (B9 dst (gD g (.imm v)) env) st ids) (hob:AA ob:=by simp [Ap]):G P n F Q todo env st ids:=Af h (λ_=>hE) hob hk
theorem Ag {f:FuncId} {vs:List V} {g:Option (Bool×Bool)} {ob:List Prop} {dst:Option Nat} {todo':List DI} {v:V} (h:Zs n env todo=some ⟨f,vs,g,ob,dst,todo'⟩) (hE:Al P f vs v)
  (hk:G P n F Q todo' (B9 dst (gD g (.imm v)) env) st ids) (hob:AA ob:=by simp):G P n F Q todo env st ids:=Af h (λ_=>hE) hob hk
end
end Go.Hk
namespace Go.Hk
def U6 (tt:TT) (st:St) (ty:TypeId):D->Option D
 | .ref id off=>match lk tt ty,lk st id with
  | some i,some (some (.immb _ sz xs))=>MA i (Nat.beq sz i.size) xs off
  | some i,some (some (.cells _ sz cs))=>Hw i (Nat.beq sz i.size) cs off
  | _,_=>none
 | _=>none
def iT:D->Bool
 | .guard ..=>false
 | _=>true
def Pk (tt:TT) (env:Env) (st:St):List ResultVar->Option (List D)
 | []=>some []
 | .tmp t::r=>match lk env t,Pk tt env st r with
  | some d,some ds=>match iT d with
   | true=>some (d::ds)
   | false=>none
  | _,_=>none
 | .cell t ty::r=>match lk env t,Pk tt env st r with
  | some a,some ds=>match U6 tt st ty a with
   | some d=>some (d::ds)
   | none=>none
  | _,_=>none
def JU:List D->D
 | [d]=>d
 | ds=>.tup ds
def RU (d:D):D->Prop
 | .imm v=>lO d=some v
 | d'=>d=d'
def Hf (st:St):St->Prop
 | []=>True
 | (i,some b)::r=>lk st i=some (some b)/\Hf st r
 | (_,none)::_=>False
def Nk (tt:TT) (rs:List ResultVar) (out:Out):DQ:=λx env st _=>match x,out with
 | .ret,.ret d st'=>∃ds,Pk tt env st rs=some ds/\RU (JU ds) d/\Hf st st'
 | .norm,.ret d st'=>∃ds,Pk tt env st rs=some ds/\RU (JU ds) d/\Hf st st'
 | .panic x,.pan y=>x=y
 | _,_=>False
def LV:Nat->List D->Env
 | _,[]=>[]
 | i,d::r=>(i,d)::LV (i+1) r
section
variable {P:Program} {tt:TT} {env:Env} {st st':St} {ids:List Nat} {I:Imm} {μ:Mu} {w:World} {d:D}
theorem EC:∀{st':St},Hf st st'->∀i b,Az st' i b->Az st i b
 | [],_,i,b,h=>by simp [Az,lk] at h
 | (k,none)::r,h,_,_,_=>h.elim
 | (k,some x)::r,h,i,b,hl=>by
  by_cases hk:k=i
  ·subst hk;unfold Az at hl;rw [Ax] at hl;cases hl;exact h.1
  ·refine EC h.2 i b ?_;unfold Az at hl ⊢;rwa [A5 _ _ hk] at hl
theorem StRep.less (hs:StRep I μ st ids w) (h:∀i b,Az st' i b->Az st i b) {ids':List Nat} (hn:ids'.Nodup) (hi:∀i∈ids',μ i=none):StRep I μ st' ids' w :=
 {imm:=hs.imm,blk:=λid blk hl=>hs.blk id blk (h _ _ hl),apart:=λid blk g b hl=>hs.apart id blk g b (h _ _ hl),
  inj:=λi j bi bj gi gj b hi hj=>hs.inj i j bi bj gi gj b (h _ _ hi) (h _ _ hj),nodup:=hn,idsFree:=hi }
theorem XV (htt:TTok P tt) (hst:StRep I μ st ids w) {ty:TypeId} {v:Value} {da:D} (hv:RepD I μ v da) (h:U6 tt st ty da=some d) :
  ∃b u,v = .pointer (some b)/\(loadVar ty b).run P w = .ok u w/\RepD I μ u d:=by
 unfold U6 at h
 split at h
 ·rename_i id off;obtain ⟨b,e1,e2⟩:=hv.refInv;have conv:∀{u:Value},(Instr.loadAt ty (.pointer (some ⟨b,off,none⟩))).run P w = .ok u w->(loadVar ty ⟨b,off,none⟩).run P w = .ok u w:=λh=>by
   simpa [Instr.loadAt,Instr.sureAddr] using h
  split at h
  ·rename_i i bt sz xs hi hl;obtain ⟨g,hg,hlen,b',vs,hg2,hheap,hrep,hone⟩:=hst.blk id _ hl;rw [e2] at hg;cases hg;cases hg2;obtain ⟨u,h1,h2⟩:=M9 (P:=P) (w:=w) (I:=I) (μ:=μ) (htt ty i hi) (b:=b) (o:=0) (off:=off) (xs:=xs) (vs:=λj=>vs.toList.getD j undef) (same:=Nat.beq sz i.size)
    (λj x hj=>by
     have hlt:j<xs.length:=(List.getElem?_eq_some_iff.1 hj).1;have hv:vs.toList[j]?=some (vs.toList[j]'(by rw [hrep.1];exact hlt)):=List.getElem?_eq_getElem _;rw [Nat.zero_add];have e:vs.toList.getD j undef=vs.toList[j]'(by rw [hrep.1];exact hlt):=by simp [List.getD,hv]
     rw [e];exact ⟨DA hheap j _ hv,hone _ (List.getElem_mem _)⟩)
    (λj x hj=>by
     have hlt:j<xs.length:=(List.getElem?_eq_some_iff.1 hj).1;have hv:vs.toList[j]?=some (vs.toList[j]'(by rw [hrep.1];exact hlt)):=List.getElem?_eq_getElem _;have e:vs.toList.getD j undef=vs.toList[j]'(by rw [hrep.1];exact hlt):=by simp [List.getD,hv]
     rw [e];exact hrep.2 j _ _ hv hj)
    (λ_ hs _=>by rw [hlen];exact Nat.eq_of_beq_eq_true hs) h
   rw [Nat.zero_add] at h1;exact ⟨_,u,e1,conv h1,h2⟩
  ·rename_i i bt sz cs hi hl;obtain ⟨g,hg,hlen,b',vs,hg2,hheap,hrep,hone⟩:=hst.blk id _ hl;rw [e2] at hg;cases hg;cases hg2;obtain ⟨u,h1,h2⟩:=VZ (P:=P) (w:=w) (I:=I) (μ:=μ) (htt ty i hi) (b:=b) (off:=off) (cs:=cs) (vs:=vs.toList) (same:=Nat.beq sz i.size)
    (λj v hj=>DA hheap j v hj) hone hrep (λ_ hs _=>by rw [hlen];exact Nat.eq_of_beq_eq_true hs) h
   exact ⟨_,u,e1,conv h1,h2⟩
  ·cases h
 ·cases h
theorem X3 (b:Addr):(asAddr (.pointer (some b))).run P w = .ok b w:=by simp [asAddr]
theorem Uo (htt:TTok P tt) (hst:StRep I μ st ids w) {tmps:Array Value} (he:∀t d,lk env t=some d->RepD I μ (tmps.getD t undef) d) {g:ResultVar->Sem Value} (g1:∀t,g (.tmp t)=pure (tmps.getD t undef))
  (g2:∀a t,g (.cell a t)=do loadVar t (<- asAddr (tmps.getD a undef))):∀{rs:List ResultVar} {ds:List D},Pk tt env st rs=some ds->∃vs,(rs.mapM g).run P w = .ok vs w/\RepL I μ vs ds
 | [],ds,h=>by cases h;exact ⟨[],by simp,.nil⟩
 | .tmp t::r,ds,h=>by
  simp only [Pk] at h
  split at h
  ·rename_i d ds' h1 h2
   split at h
   ·cases h;obtain ⟨vs,h3,h4⟩:=Uo htt hst he g1 g2 h2;exact ⟨_,by simp only [List.mapM_cons,g1,Sem.run_bind,Sem.run_pure,Result.andThen_ok,h3],.mk (he t d h1) h4⟩
   ·cases h
  ·cases h
 | .cell t ty::r,ds,h=>by
  simp only [Pk] at h
  split at h
  ·rename_i a ds' h1 h2
   split at h
   ·rename_i d hd;cases h;obtain ⟨vs,h3,h4⟩:=Uo htt hst he g1 g2 h2;obtain ⟨b,u,e1,e2,e3⟩:=XV htt hst (he t a h1) hd;exact ⟨_,by simp only [List.mapM_cons,g2,Sem.run_bind,Sem.run_pure,Result.andThen_ok,h3,e1,X3,e2],.mk e3 h4⟩
   ·cases h
  ·cases h
theorem X8 (htt:TTok P tt) (hst:StRep I μ st ids w) {tmps:Array Value} (he:∀t d,lk env t=some d->RepD I μ (tmps.getD t undef) d) {fn:Func} {ds:List D} (h:Pk tt env st fn.results.toList=some ds) :
  ∃vs:List Value,(results fn tmps).run P w = .ok (if h:vs.toArray.size=1 then vs.toArray[0] else .tuple vs.toArray) w/\RepL I μ vs ds:=by
 have hm:∀(f:ResultVar->Sem Value) (vs:List Value),(fn.results.toList.mapM f).run P w = .ok vs w->(fn.results.mapM f).run P w = .ok vs.toArray w:=λf vs hf=>by
  rw [Array.mapM_eq_mapM_toList];change Sem.run P (List.mapM f fn.results.toList >>= λl=>pure l.toArray) w=_;simp only [Sem.run_bind,hf,Sem.run_pure,Result.andThen_ok]
 refine Exists.imp (λvs hv=>⟨?_,hv.2⟩) (Uo (g:=fun | .tmp t=>pure (tmps.getD t undef) | .cell a t=>do loadVar t (<- asAddr (tmps.getD a undef))) htt hst he (λ_=>rfl) (λ_ _=>rfl) h);have q:=hm _ vs hv.1;unfold results;simp only [Sem.run_bind];exact Eq.trans (congrArg (Result.andThen · (λvs w=>Sem.run P (pure (if h:vs.size=1 then vs[0] else .tuple vs)) w)) q) (by simp)
theorem bI {vs:List Value} {ds:List D} (h:RepL I μ vs ds):RepD I μ (if h:vs.toArray.size=1 then vs.toArray[0] else .tuple vs.toArray) (JU ds):=by
 have tup:RepD I μ (.tuple vs.toArray) (.tup ds):=.tup _ _ (by simpa using h.1) λi c x hc hx=>h.2 i c x (by simpa using hc) hx
 match vs,ds,h,tup with
 | [],[],_,tup=>simpa [JU] using tup
 | [v],[d],h,_=>simpa [JU] using h.2 0 v d rfl rfl
 | v::v'::r,d::d'::s,_,tup=>simpa [JU] using tup
 | [],_::_,h,_=>simp [RepL] at h
 | _::_,[],h,_=>simp [RepL] at h
 | [_],_::_::_,h,_=>simp [RepL] at h
 | _::_::_,[_],h,_=>simp [RepL] at h
theorem PZ {v:Value} {d':D} (h:RU d d') (hr:RepD I μ v d):RepD I μ v d':=by
 cases d' with
 | imm x=>exact .imm _ _ (Mj h hr)
 | _=>(have h:d=_:=h);rw [<- h];exact hr
theorem BU {f : FuncId} {fn : Func} {c : Code} (hf : P.funcs[f]? = some fn) (hname : (fn.name == "runtime.NumGoroutine") = false) (hb : fn.body = some c) (xs : Array Value) :
  (callFunc f xs).run P w = .ok (.enter f xs) w:=by
 have hn : ¬ fn.name = "runtime.NumGoroutine" := by simpa using hname
 simp [callFunc,hf,hn,hb]
theorem Tx:∀{ds:List D} {i t:Nat} {d:D},lk (LV i ds) t=some d->∃j,t=i+j/\ds[j]?=some d
 | [],i,t,d,h=>by simp [LV,lk] at h
 | x::r,i,t,d,h=>by
  simp only [LV] at h;by_cases hi:i=t
  ·subst hi;rw [Ax] at h;cases h;exact ⟨0,rfl,rfl⟩
  ·rw [A5 _ _ hi] at h;obtain ⟨j,h1,h2⟩:=Tx h;exact ⟨j+1,by omega,by simpa using h2⟩
def Pe:List Nat->List Nat->Bool
 | [],_=>true
 | x::r,l=>Fm l x&&Pe r l
theorem FW:∀{a b:List Nat},Pe a b=true->∀i∈a,i∈b
 | [],_,_,i,h=>by simp at h
 | x::r,b,h,i,hi=>by
  simp only [Pe,Bool.and_eq_true] at h;rcases List.mem_cons.1 hi with rfl | hi
  ·exact BS.1 h.1
  ·exact FW h.2 i hi
def Jh:List Nat->Bool
 | []=>true
 | x::r=>!Fm r x&&Jh r
theorem HO:∀{a:List Nat},Jh a=true->a.Nodup
 | [],_=>.nil
 | x::r,h=>by
  simp only [Jh,Bool.and_eq_true,Bool.not_eq_true'] at h;exact List.nodup_cons.2 ⟨λhm=>(by rw [BS.2 hm] at h;cases h.1),HO h.2⟩
theorem RepL.sub {ν:Mu} {vs:List Value} {ds:List D} (h:RepL I μ vs ds) (hn:∀i∈I6 ds,∀g,μ i=some g->ν i=some g):RepL I ν vs ds :=
 ⟨h.1,λi v d hv hd=>(h.2 i v d hv hd).sub λj hj=>hn j (Jk (List.mem_of_getElem? hd) hj)⟩
theorem BlkRep.sub {ν:Mu} {g:Value} {blk:Blk} (h:BlkRep I μ w g blk) (hn:∀i∈U2 blk,∀g,μ i=some g->ν i=some g):BlkRep I ν w g blk:=by
 cases blk with
 | immb t sz xs=>exact h
 | cells t sz cs =>
  obtain ⟨hs,b,vs,h1,h2,h3,h4⟩:=h;exact ⟨hs,b,vs,h1,h2,h3.sub hn,h4⟩
 | row t sz es=>exact h
 | map kv=>exact h
 | siter s pos=>exact h
 | pin=>exact h
 | bun id S =>
  obtain ⟨b,bs,h1,h2,h3⟩:=h;exact ⟨b,bs,hn id (by simp [U2]) _ h1,h2,h3⟩
 | hp A=>exact h
 | adr id b=>exact ⟨h.1,hn id (by simp [U2]) _ h.2⟩
 | mapx kv b es c=>exact h
 | miter b s z c=>exact h
def RetL (tt:TT) (rs:List ResultVar) (out:Out):DQ:=λx env st _=>match x,out with
 | .ret,.ret d st'=>∃ds,Pk tt env st rs=some ds/\RU (JU ds) d/\∀i b,Az st' i b->Az st i b
 | .norm,.ret d st'=>∃ds,Pk tt env st rs=some ds/\RU (JU ds) d/\∀i b,Az st' i b->Az st i b
 | .panic x,.pan y=>x=y
 | _,_=>False
theorem kH {f : FuncId} {fn : Func} {c : Code} {ds : List D} {st0 : St} {out : Out} (htt : TTok P tt) (hf : P.funcs[f]? = some fn) (hname : (fn.name == "runtime.NumGoroutine") = false) (hb : fn.body = some c)
  (ids:List Nat) (hsz:Nat.ble ds.length fn.ntmps=true) (hn1:ids.Nodup) (hn2:∀i∈ids,i∉Ey st0) (hn3:∀i∈I6 ds,i∈Ey st0) (hn4:∀i∈Fw st0,i∈Ey st0)
  (h:DGo P fn.ntmps (Ey st0) (RetL tt fn.results.toList out) [.code c] (LV 0 ds) st0 ids):Bt P f ds st0 out:=by
 intro I μ w xs hst hx;rw [BU hf hname hb];refine Pv hf hb λb cs hbf _ hbr=>?_;obtain ⟨ν,hν⟩:∃ν:Mu,ν=λi=>if Fm (Ey st0) i=true then μ i else none:=⟨_,rfl⟩
 have hν1:∀i∈Ey st0,ν i=μ i:=λi hi=>by rw [hν];simp [BS.2 hi]
 have hlive:∀i b,Az st0 i b->i∈Ey st0:=by
  intro i b hl;have:∀{st0:St},Az st0 i b->i∈Ey st0:=by
   intro st0
   induction st0 with
   | nil=>intro h;simp [Az,lk] at h
   | cons p r ih =>
    obtain ⟨k,y⟩:=p;intro h;by_cases hk:k=i
    ·subst hk;simp [Ey]
    ·have:Az r i b:=by unfold Az at h ⊢;rwa [A5 _ _ hk] at h
     simp only [Ey,List.map_cons,List.mem_cons];exact .inr (ih this)
  exact this hl
 have hst1:StRep I ν st0 ids w:=by
  refine { imm:=hst.imm,blk:=λi b hl=>?_,apart:=λi bb g k hl hg hk=>hst.apart i bb g k hl (by rw [<- hν1 i (hlive i bb hl)];exact hg) hk,inj:=λi j bi bj gi gj k hi hj hgi hgj=>hst.inj i j bi bj gi gj k hi hj (by rw [<- hν1 i (hlive i bi hi)];exact hgi) (by rw [<- hν1 j (hlive j bj hj)];exact hgj),nodup:=hn1,idsFree:=λi hi=>?_ }
  ·obtain ⟨g,hg,hr⟩:=hst.blk i b hl;refine ⟨g,by rw [hν1 i (hlive i b hl)];exact hg,hr.sub λj hj g hgj=>?_⟩;rw [hν1 j (hn4 j ((EN hl).2 j hj))];exact hgj
  ·rw [hν];have:=hn2 i hi;have hm:Fm (Ey st0) i=false:=by
    cases h:Fm (Ey st0) i with
    | false=>rfl
    | true=>exact absurd (BS.1 h) this
   simp [hm]
 have hx1:RepL I ν xs.toList ds:=hx.sub λj hj g hg=>by rw [hν1 j (hn3 j hj)];exact hg
 have hlen:xs.size=ds.length:=by have:=hx.1;simpa using this
 have hsz':ds.length<=fn.ntmps:=by simpa [Nat.ble_eq] using hsz
 have hc:Conc fn.ntmps I ν (LV 0 ds) st0 ids { tmps:=xs++Array.replicate (fn.ntmps-xs.size) undef,defers:=[] } w :=
  {hst1 with
   size:=(by simp;omega)
   env:=λt d hl=>by
    obtain ⟨j,rfl,hd⟩:=Tx hl;have hj:j<ds.length:=(List.getElem?_eq_some_iff.1 hd).1;have hjx:j<xs.size:=by omega
    have e:(xs++Array.replicate (fn.ntmps-xs.size) undef).getD (0+j) undef=xs[j]:=by
     rw [Nat.zero_add];simp [Array.getD,Array.getElem_append_left hjx];omega
    rw [e];exact hx1.2 j _ d (by simp [hjx]) hd
   defers:=MarksOk.nil _ _ _ _ }
 have hown:∀b,BA ν st0 b↔BA μ st0 b:=λb=>by
  constructor <;> rintro ⟨i,bi,g,h1,h2,h3⟩
  ·exact ⟨i,bi,g,h1,by rw [<- hν1 i (hlive i bi h1)];exact h2,h3⟩
  ·exact ⟨i,bi,g,h1,by rw [hν1 i (hlive i bi h1)];exact h2,h3⟩
 have hrun:=h ⟨b,.inr ⟨hbr,fn,by rw [hbf];exact hf⟩⟩ cs I ν { tmps:=xs++Array.replicate (fn.ntmps-xs.size) undef,defers:=[] } w [.code c] ⟨rfl,trivial⟩ hc;refine hrun.mono λe a' w' hp=>?_;obtain ⟨x,env',st',ids',I',μ',p1,p2,p3,p4,p5',p6⟩:=hp;obtain ⟨rs,m1,m2,m3⟩:=p3.defers;have hrs:∀r∈rs,w.heap.size<=r:=λr hr=>by
  rcases p6 r (by rw [m1];exact List.mem_map.2 ⟨r,hr,rfl⟩) with h | h
  ·simp at h
  ·exact h
 obtain ⟨w2,k1,k2,k3,k4,k5,k6⟩:=Ts (P:=P) rs w' m2 (λr hr=>(m3 r hr).1);have hS2:StRep I' μ' st' ids' w2 :=
  {imm:=λb o h=>by rw [k6 b (λhm=>by rw [(m3 b hm).2.1] at h;cases h)];exact p3.imm b o h
   blk:=λi b hl=>by
    obtain ⟨g,hg,hr⟩:=p3.blk i b hl;exact ⟨g,hg,hr.world λbb hbb=>k6 bb λhm=>(m3 bb hm).2.2 ⟨i,b,g,hl,hg,hbb⟩⟩
   apart:=λi b g bb hl hg hbb=>by rw [k5];exact p3.apart i b g bb hl hg hbb
   inj:=p3.inj
   nodup:=p3.nodup
   idsFree:=p3.idsFree }
 have p5:Ext I ν st0 w I' μ' st' w2 :=
  {imm:=p5'.imm,os:=k2.trans p5'.os,tape:=k3.trans p5'.tape,output:=k4.trans p5'.output,size:=by rw [k5];exact p5'.size
   block:=λb hb ho=>(k6 b λhm=>by have:=hrs b hm;omega).trans (p5'.block b hb ho),fresh:=p5'.fresh,old:=p5'.old }
 have fin:∀d st1,out = .ret d st1->(∃ds,Pk tt env' st' fn.results.toList=some ds/\RU (JU ds) d/\∀i b,Az st1 i b->Az st' i b)->∃w'' v,TY P a'.defers w' w''/\(results fn a'.tmps).run P w'' = .ok v w'' /\
   (match (Ending.returned v) with
    | .returned v=>(match out with
     | .ret d st'=>∃I' μ',RepD I' μ' v d/\StRep I' μ' st' [] w''/\Pin (Ey st0) μ μ'/\Ext I μ st0 w I' μ' st' w''
     | .pan _=>False)
    | .panicked chain=>(match out with
     | .ret _ _=>False
     | .pan x=>Kc (· = x) I μ st0 w chain w'')
    | .outgrown=>False):=by
  rintro d st1 rfl ⟨ds',r1,r2,r3⟩;obtain ⟨vs,q1,q2⟩:=X8 htt hS2 p3.env r1;refine ⟨w2,_,by rw [m1];exact k1,q1,I',μ',PZ r2 (bI q2),hS2.less (r3) .nil (λ_ h=>by simp at h),λi hi g hg=>p4 i hi g (by rw [hν1 i hi];exact hg),?_⟩;exact { imm:=p5.imm,os:=p5.os,tape:=p5.tape,output:=p5.output,size:=p5.size,block:=λb hb ho=>p5.block b hb (λh=>ho ((hown b).1 h)),fresh:=λb hb ⟨i,bi,g,h1,h2⟩=>(hown b).1 (p5.fresh b hb ⟨i,bi,g,r3 i bi h1,h2⟩),old:=λb hb ho=>p5.old b hb (λh=>ho ((hown b).1 h)) }
 cases e with
 | normal =>
  cases x <;> simp only [Od] at p1;cases hout:out with
  | ret d st1=>subst hout;exact fin d st1 rfl p2
  | pan y=>subst hout;exact p2.elim
 | ret =>
  cases x <;> simp only [Od] at p1;cases hout:out with
  | ret d st1=>subst hout;exact fin d st1 rfl p2
  | pan y=>subst hout;exact p2.elim
 | panic chain =>
  cases x <;> simp only [Od] at p1;rename_i x;obtain ⟨v,rfl,hv⟩:=p1;cases hout:out with
  | ret d st1=>subst hout;exact p2.elim
  | pan y =>
   subst hout;have p2:x=y:=p2;subst p2;refine ⟨w2,by rw [m1];exact k1,v,x,I',rfl,rfl,hv,hS2.imm,?_⟩;exact { imm:=p5.imm,os:=p5.os,tape:=p5.tape,output:=p5.output,size:=p5.size,block:=λb hb ho=>p5.block b hb (λh=>ho ((hown b).1 h)),fresh:=λb hb ⟨i,bi,g,h1,h2⟩=>by simp [Az,lk] at h1,old:=λb hb ho=>p5.old b hb (λh=>ho ((hown b).1 h)) }
 | exit id =>
  cases x <;> simp only [Od] at p1;exact p2.elim
 | goto l =>
  cases x <;> simp only [Od] at p1;exact p2.elim
 | outgrown=>cases x <;> simp only [Od] at p1
theorem Ae {f : FuncId} {fn : Func} {c : Code} {ds : List D} {st0 : St} {out : Out} (htt : TTok P tt) (hf : P.funcs[f]? = some fn) (hname : (fn.name == "runtime.NumGoroutine") = false) (hb : fn.body = some c)
  (ids:List Nat) (hsz:Nat.ble ds.length fn.ntmps=true) (hn:(Jh ids&&OT ids (Ey st0)&&Pe (I6 ds) (Ey st0)&&Pe (Fw st0) (Ey st0))=true)
  (h:G P fn.ntmps (Ey st0) (Nk tt fn.results.toList out) [.code c] (LV 0 ds) st0 ids):Bt P f ds st0 out:=by
 simp only [Bool.and_eq_true] at hn;obtain ⟨⟨⟨hn1,hn2⟩,hn3⟩,hn4⟩:=hn;refine kH htt hf hname hb ids hsz (HO hn1) (La.1 hn2) (FW hn3) (FW hn4) (h.go.mono λx env st ids hq=>?_);cases x <;> cases out <;> first
  | exact hq
  | exact hq.elim
  | exact ⟨hq.choose,hq.choose_spec.1,hq.choose_spec.2.1,λi b hl=>EC hq.choose_spec.2.2 i b hl⟩
end
end Go.Hk
namespace Go.Hk
mutual
def ET:V->Prop
 | .sl es=>es.length<=maxLen/\PU es
 | .agg cs=>Ct cs
 | .tup cs=>Ct cs
 | .iface _ x=>ET x
 | _=>True
def Ct:List V->Prop
 | []=>True
 | x::r=>ET x/\Ct r
def PU:List (List V)->Prop
 | []=>True
 | e::r=>Ct e/\PU r
end
theorem JL:∀{l:List V},Ct l↔∀x∈l,ET x
 | []=>by simp [Ct]
 | x::r=>by simp [Ct,JL (l:=r)]
theorem S8:∀{l:List (List V)},PU l↔∀e∈l,Ct e
 | []=>by simp [PU]
 | x::r=>by simp [PU,S8 (l:=r)]
def Xu (env:Env):Env->Prop
 | []=>True
 | (t,d')::r=>(match lk env t with
  | some d=>RU d d'
  | none=>False)/\Xu env r
def Zc:Blk->Blk->Prop
 | .cells t sz cs,.immb t' sz' xs=>t=t'/\sz=sz'/\FA cs=some xs
 | .immb t sz xs,.cells t' sz' cs=>t=t'/\sz=sz'/\xs.map .imm=cs
 | b,b'=>b=b'
def aM (st:St):St->Prop
 | []=>True
 | (i,some b')::r=>(match lk st i with
  | some (some b)=>Zc b b'
  | _=>False)/\aM st r
 | (_,none)::_=>False
def QY (ids l:List Nat):List Nat->Bool
 | []=>true
 | i::r=>(Fm ids i || !Fm l i)&&QY ids l r
theorem QX {ids l:List Nat}:∀{m:List Nat},QY ids l m=true->∀i∈m,i∈ids\/i∉l
 | [],_,i,h=>by simp at h
 | x::r,h,i,hi=>by
  simp only [QY,Bool.and_eq_true,Bool.or_eq_true,Bool.not_eq_true'] at h;rcases List.mem_cons.1 hi with rfl | hi
  ·exact h.1.imp (λh=>BS.1 h) λh hm=>by rw [BS.2 hm] at h;cases h
  ·exact QX h.2 i hi
section
variable {P:Program} {n:Nat} {F:List Nat} {Q:DQ} {tt:TT} {env env':Env} {st st':St} {ids ids':List Nat} {k todo:List DI} {I:Imm} {μ:Mu} {w:World}
theorem RepV.ok {v:Value} {x:V} (h:RepV I v x):ET x:=by
 induction h with
 | agg cs xs hl _ _ ih =>
  simp only [ET,JL];intro x hx;obtain ⟨i,hi⟩:=List.mem_iff_getElem?.1 hx;have hlt:i<cs.size:=by rw [hl];exact (List.getElem?_eq_some_iff.1 hi).1
  exact ih i cs[i] x (by simp [hlt]) hi
 | tup cs xs hl _ ih =>
  simp only [ET,JL];intro x hx;obtain ⟨i,hi⟩:=List.mem_iff_getElem?.1 hx;have hlt:i<cs.size:=by rw [hl];exact (List.getElem?_eq_some_iff.1 hi).1
  exact ih i cs[i] x (by simp [hlt]) hi
 | slnil=>simp [ET,PU]
 | sl0=>simp [ET,PU]
 | sl b o len cap sz es vs hl hc hm hsz hcell _ ih =>
  simp only [ET,S8,JL];refine ⟨by omega,λe he x hx=>?_⟩;obtain ⟨i,hi⟩:=List.mem_iff_getElem?.1 he;obtain ⟨j,hj⟩:=List.mem_iff_getElem?.1 hx;exact ih i e j x hi hj
 | iface t v x _ ih=>exact ih
 | _=>trivial
theorem Nw:∀{env':Env},Xu env env'->∀t d',lk env' t=some d'->∃d,lk env t=some d/\RU d d'
 | [],_,t,d',h=>by simp [lk] at h
 | (s,x)::r,h,t,d',hl=>by
  by_cases hs:s=t
  ·subst hs;rw [Ax] at hl;cases hl;have h1:=h.1
   split at h1
   ·exact ⟨_,by assumption,h1⟩
   ·exact h1.elim
  ·rw [A5 _ _ hs] at hl;exact Nw h.2 t d' hl
theorem Nx:∀{st':St},aM st st'->∀i b',Az st' i b'->∃b,Az st i b/\Zc b b'
 | [],_,i,b,h=>by simp [Az,lk] at h
 | (s,none)::r,h,_,_,_=>h.elim
 | (s,some x)::r,h,i,b',hl=>by
  by_cases hs:s=i
  ·subst hs;unfold Az at hl;rw [Ax] at hl;cases hl;have h1:=h.1
   split at h1
   ·exact ⟨_,by assumption,h1⟩
   ·exact h1.elim
  ·refine Nx h.2 i b' ?_;unfold Az at hl ⊢;rwa [A5 _ _ hs] at hl
theorem aK {g:Value} {b b':Blk} (h:Zc b b') (hr:BlkRep I μ w g b):BlkRep I μ w g b':=by
 unfold Zc at h
 split at h
 ·obtain ⟨rfl,rfl,h⟩:=h;obtain ⟨hs,bb,vs,h1,h2,h3,h4⟩:=hr;have:=F9 h h3;exact ⟨by rw [<- hs,<- h3.1,this.1],bb,vs,h1,h2,this,h4⟩
 ·obtain ⟨rfl,rfl,rfl⟩:=h;obtain ⟨hs,bb,vs,h1,h2,h3,h4⟩:=hr;exact ⟨by simpa using hs,bb,vs,h1,h2,h3.imm,h4⟩
 ·subst h;exact hr
theorem H5 (hE:Xu env env') (hS:aM st st') (hI:(Jh ids'&&QY ids (Va env'++Fw st'++F) ids')=true) (h:DGo P n F Q todo env' st' ids'):DGo P n F Q todo env st ids:=by
 intro b cs I μ a w items hd hc;simp only [Bool.and_eq_true] at hI;obtain ⟨hI1,hI2⟩:=hI;obtain ⟨ν,hν⟩:∃ν:Mu,ν=λi=>if Fm ids' i=true then none else μ i:=⟨_,rfl⟩
 have hno:∀i∈Va env'++Fw st'++F,∀g,μ i=some g->ν i=some g:=by
  intro i hi g hg;rw [hν];have:Fm ids' i=false:=by
   cases hm:Fm ids' i with
   | false=>rfl
   | true =>
    rcases QX hI2 i (BS.1 hm) with h | h
    ·rw [hc.idsFree i h] at hg;cases hg
    ·exact absurd hi h
  simp [this,hg]
 have hback:∀i g,ν i=some g->μ i=some g:=by
  intro i g hg;rw [hν] at hg;by_cases hm:Fm ids' i=true
  ·simp [hm] at hg
  ·simpa [hm] using hg
 have hlive:∀i b',Az st' i b'->∃b,Az st i b:=λi b' hl=>let ⟨b,h1,_⟩:=Nx hS i b' hl;⟨b,h1⟩
 have nmE_mem:∀{env:Env} {t:Nat} {d:D},lk env t=some d->∀i∈IR d,i∈Va env:=by
  intro env
  induction env with
  | nil=>intro t d h;simp [lk] at h
  | cons p r ih =>
   obtain ⟨s,x⟩:=p;intro t d h i hi;simp only [Va,List.mem_append];by_cases hs:s=t
   ·subst hs;rw [Ax] at h;cases h;exact .inl hi
   ·rw [A5 _ _ hs] at h;exact .inr (ih h i hi)
 have hEx:Ext I μ st w I ν st' w :=
  {imm:=Imm.le_refl I,os:=rfl,tape:=rfl,output:=rfl,size:=Nat.le_refl _,block:=λ_ _ _=>rfl,
     fresh:=λb _ ⟨i,b',g,h1,h2,h3⟩=>let ⟨bb,q⟩:=hlive i b' h1;⟨i,bb,g,q,hback i g h2,h3⟩,old:=λ_ _ _=>rfl }
 have hc':Conc n I ν env' st' ids' a w :=
  {imm:=hc.imm
   blk:=λi b' hl=>by
    obtain ⟨b,h1,h2⟩:=Nx hS i b' hl;obtain ⟨g,hg,hr⟩:=hc.blk i b h1;obtain ⟨q1,q2⟩:=EN hl;exact ⟨g,hno i (by simp [q1]) g hg,(aK h2 hr).sub λj hj g hg=>hno j (by simp [q2 j hj]) g hg⟩
   apart:=λi b' g k hl hg hk=>by
    obtain ⟨b,h1⟩:=hlive i b' hl;exact hc.apart i b g k h1 (hback i g hg) hk
   inj:=λi j bi bj gi gj k hi hj hgi hgj hki hkj=>by
    obtain ⟨b1,h1⟩:=hlive i bi hi;obtain ⟨b2,h2⟩:=hlive j bj hj;exact hc.inj i j b1 b2 gi gj k h1 h2 (hback i gi hgi) (hback j gj hgj) hki hkj
   nodup:=HO hI1
   idsFree:=λi hi=>by rw [hν];simp [BS.2 hi]
   size:=hc.size
   env:=λt d' hl=>by
    obtain ⟨d,h1,h2⟩:=Nw hE t d' hl;exact (PZ h2 (hc.env t d h1)).sub λj hj g hg=>hno j (by simp [nmE_mem hl j hj]) g hg
   defers:=hc.defers.ext hEx }
 refine (h b cs I ν a w items hd hc').mono λe a' w' hp=>?_;refine hp.back (λi hi g hg=>hno i (by simp [hi]) g hg) ?_;exact hEx
theorem Ad (h:DGo P n F Q todo env' st' ids') (hE:Xu env env') (hS:aM st st') (hI:(Jh ids'&&QY ids (Va env'++Fw st'++F) ids')=true):DGo P n F Q todo env st ids:=H5 hE hS hI h
theorem WD {α:Type} {c:Code} (E:α->Env) (S:α->St) (ids':List Nat) (m:α->Nat) (Inv:α->Prop)
  (step:∀x,Inv x->(∀x',m x'<m x->Inv x'->DGo P n F Q (.inLoop c::k) (E x') (S x') ids')->DGo P n F Q (.code c :: .inLoop c::k) (E x) (S x) ids') :
  ∀x,Inv x->DGo P n F Q (.inLoop c::k) (E x) (S x) ids':=by
 have:∀b x,m x<b->Inv x->DGo P n F Q (.inLoop c::k) (E x) (S x) ids':=by
  intro b
  induction b with
  | zero=>intro x h;omega
  | succ b ih=>intro x hm hx;exact Ru (step x hx λx' hm' hx'=>ih x' (by omega) hx')
 intro x hx;exact this (m x+1) x (by omega) hx
theorem An {α:Type} {c:Code} (E:α->Env) (S:α->St) (ids':List Nat) (m:α->Nat) (Inv:α->Prop) (x0:α) (h0:Inv x0) (hE:Xu env (E x0)) (hS:aM st (S x0))
  (hI:(Jh ids'&&QY ids (Va (E x0)++Fw (S x0)++F) ids')=true)
  (step:∀x,Inv x->(∀x',m x'<m x->Inv x'->DGo P n F Q (.inLoop c::k) (E x') (S x') ids')->DGo P n F Q (.code c :: .inLoop c::k) (E x) (S x) ids') :
  DGo P n F Q (.code (.loop c)::k) env st ids :=
 Lv (H5 hE hS hI (WD E S ids' m Inv step x0 h0))
theorem WF {t:Nat} {x:V} (hl:lk env t=some (.imm x)) (h:ET x->DGo P n F Q todo env st ids):DGo P n F Q todo env st ids :=
 λb cs I μ a w items hd hc=>h (hc.env t _ hl).immInv.ok b cs I μ a w items hd hc
theorem AW {f:FuncId} {vs:List V} {v:V} (h:Ct vs->Al P f vs v):Al P f vs v:=by
 intro I μ w xs hst hx;refine h (JL.2 λx hxm=>?_) I μ w xs hst hx;obtain ⟨j,hj⟩:=List.mem_iff_getElem?.1 hxm;have hlt:j<xs.toList.length:=by rw [hx.1];simpa using (List.getElem?_eq_some_iff.1 hj).1
 exact (hx.2 j _ (.imm x) (List.getElem?_eq_getElem hlt) (by simp [hj])).immInv.ok
end
end Go.Hk
namespace Go.Hk
def Sd:List DI->Option Oper
 | .ops _ (o::_)::_=>some o
 | .dops _ (o::_) _::_=>some o
 | _=>none
def Iu (st:St):D->Option (List Nat×List (List V))
 | .nils=>some ([],[])
 | .own id _=>match lk st id with
  | some (some (.row _ _ es))=>some ([id],es)
  | _=>none
 | .clip es=>some ([],es)
 | _=>none
def Mo:D->Option (List (List V))
 | .imm (.sl es)=>some es
 | .nils=>some []
 | _=>none
def kX (sz bytes:Nat) (base:D) (es es2:List (List V)):Prop :=
 (∀c∈es2,c.length=sz)/\es.length+es2.length<=maxLen/\(es.length+es2.length)*bytes<=140737488355328 /\
 match base with
 | .clip _=>(∀c∈es,c.length=sz)/\es2≠[]
 | .own _ _=>True
 | _=>True
section
variable {P:Program} {n:Nat} {F:List Nat} {Q:DQ} {tt:TT} {env env':Env} {st st':St} {ids ids':List Nat} {k todo todo':List DI} {I:Imm} {μ:Mu} {w:World} {Pn:V->Prop}
theorem RepV.oneV {v:Value} {x:V} (h:RepV I v x) (h1:v.oneCell'=true):V.one x=true:=by
 cases h <;> first | rfl | simp [Value.oneCell'] at h1
theorem Mq {v:Value} {es:List (List V)} {sz:Nat} (hI:I.ok w) (h:RepV I v (.sl es)) (hs:∀c∈es,c.length=sz) (hp:0<sz) :
  ((∃ad,v = .slice ad 0 0)/\es=[])\/∃b o c news,v = .slice (some ⟨b,o,none⟩) es.length c/\es.length<=c/\c<=maxLen/\news.length=es.length*sz/\(∀j u,news[j]?=some u->w.cell? ((⟨b,o,none⟩:Addr).add j)=some u) /\
   (∀u∈news,u.oneCell'=true)/\RepVL I news es.flatten/\(∀e∈es,∀x∈e,V.one x=true):=by
 cases h with
 | slnil=>exact .inl ⟨⟨_,rfl⟩,rfl⟩
 | sl0 ad=>exact .inl ⟨⟨_,rfl⟩,rfl⟩
 | sl b o len cap sz' _ vs hl hc hm hsz hcell hrep =>
  subst hl;refine .inr ⟨b,o,cap,(List.range (es.length*sz)).map λq=>vs (q / sz) (q % sz),rfl,hc,hm,by simp,?_,?_,?_,?_⟩
  all_goals
   have hget:∀j,j<es.length*sz->∃e x,es[j / sz]?=some e/\e[j % sz]?=some x/\e.length=sz/\sz'=sz:=by
    intro j hj;have h1:j / sz<es.length:=Nat.div_lt_of_lt_mul (by rw [Nat.mul_comm];exact hj);have h2:j % sz<sz:=Nat.mod_lt _ hp;have h3:=hs es[j / sz] (List.getElem_mem _);have h4:=hsz es[j / sz] (List.getElem_mem _);exact ⟨es[j / sz],(es[j / sz])[j % sz],List.getElem?_eq_getElem h1,List.getElem?_eq_getElem (by omega),h3,by omega⟩
  ·intro j u hu;obtain ⟨hlt,rfl⟩:=Gc hu;obtain ⟨e,x,h1,h2,_,rfl⟩:=hget j hlt;have:=Imm.cell_world hI (hcell _ _ _ _ h1 h2).1;rw [Dz];rw [show o+j=o+j / sz'*sz'+j % sz' by rw [Nat.add_assoc,Nat.mul_comm,Nat.div_add_mod]];exact this
  ·intro u hu;obtain ⟨j,hj⟩:=List.mem_iff_getElem?.1 hu;obtain ⟨hlt,rfl⟩:=Gc hj;obtain ⟨e,x,h1,h2,_,rfl⟩:=hget j hlt;exact (hcell _ _ _ _ h1 h2).2
  ·refine ⟨by rw [AX hs];simp,λj u x hu hx=>?_⟩;obtain ⟨hlt,rfl⟩:=Gc hu;obtain ⟨e,y,h1,h2,_,rfl⟩:=hget j hlt;have h3:=C3 hs _ _ _ _ h1 h2;rw [Nat.mul_comm,Nat.div_add_mod,hx] at h3;cases h3;exact hrep _ _ _ _ h1 h2
  ·intro e he x hx;obtain ⟨i,hi⟩:=List.mem_iff_getElem?.1 he;obtain ⟨j,hj⟩:=List.mem_iff_getElem?.1 hx;exact (hrep _ _ _ _ hi hj).oneV (hcell _ _ _ _ hi hj).2
theorem StRep.renew {id':Nat} (hst:StRep I μ st (id'::ids) w) {rd:List Nat} {v':Value} {blk':Blk} {w':World} {row:Option Nat} (hg:w.grownBy w' row)
  (hrow:∀b,row=some b->∃id blk g,id∈rd/\Az st id blk/\μ id=some g/\D0 g b) (hnew:∀b,D0 v' b->b<w'.heap.size/\(w.heap.size<=b\/∃id blk g,id∈rd/\Az st id blk/\μ id=some g/\D0 g b))
  (hb:∀μ',BlkRep I μ' w' v' blk') :
  ∃μ',μ' id'=some v'/\μ.le μ'/\StRep I μ' ((id',some blk')::Cs rd++st) ids w'/\Ext I μ st w I μ' ((id',some blk')::Cs rd++st) w':=by
 have hid:μ id'=none:=hst.idsFree id' (by simp);have hle:μ.le (λi=>if i=id' then some v' else μ i):=λi v h=>by
  have:i≠id':=λe=>by rw [e,hid] at h;cases h
  simp [this,h]
 have hrowI:∀b,row=some b->I b=none:=λb hr=>by
  obtain ⟨id,blk,g,_,h2,h3,h4⟩:=hrow b hr;exact (hst.apart id blk g b h2 h3 h4).1
 have hlive:∀i b,Az ((id',some blk')::Cs rd++st) i b->(i=id'/\b=blk')\/(i≠id'/\i∉rd/\Az st i b):=by
  intro i b h;rcases A8.1 h with h | ⟨h1,h2⟩
  ·exact .inl h
  ·obtain ⟨h3,h4⟩:=LQ h2;exact .inr ⟨h1,h3,h4⟩
 have hother:∀i g,i≠id'->(if i=id' then some v' else μ i)=some g->μ i=some g:=λi g hne h=>by rwa [if_neg hne] at h
 have hkeep:∀i b g k,i∉rd->Az st i b->μ i=some g->D0 g k->w'.heap[k]?=w.heap[k]?:=by
  intro i b g k h1 h2 h3 h4;refine hg.block k (hst.apart i b g k h2 h3 h4).2 λhk=>?_;obtain ⟨id,blk,g',q1,q2,q3,q4⟩:=hrow k hk.symm;have:=hst.inj i id b blk g g' k h2 q2 h3 q3 h4 q4;subst this;exact h1 q1
 have hclash:∀i b g k,i∉rd->Az st i b->μ i=some g->D0 g k->¬D0 v' k:=by
  intro i b g k h1 h2 h3 h4 h5;rcases (hnew k h5).2 with h | ⟨id,blk,g',q1,q2,q3,q4⟩
  ·have:=(hst.apart i b g k h2 h3 h4).2;omega
  ·have:=hst.inj i id b blk g g' k h2 q2 h3 q3 h4 q4;subst this;exact h1 q1
 refine ⟨λi=>if i=id' then some v' else μ i,by simp,hle,?_,?_⟩
 ·refine { imm:=λb o h=>?_,blk:=λi b hl=>?_,apart:=λi b g k hl hgi hk=>?_,inj:=λi j bi bj gi gj k hi hj hgi hgj hki hkj=>?_,nodup:=(List.nodup_cons.1 hst.nodup).2,idsFree:=λi hi=>?_ }
  ·have h1:=hst.imm b o h;rw [hg.block b (BT h1) (λhk=>by rw [hrowI b hk.symm] at h;cases h)];exact h1
  ·rcases hlive i b hl with ⟨rfl,rfl⟩ | ⟨h1,h2,h3⟩
   ·exact ⟨v',by simp,hb _⟩
   ·obtain ⟨g,hgi,hr⟩:=hst.blk i b h3;exact ⟨g,by simp [h1,hgi],(hr.mono (Imm.le_refl I) hle).world λk hk=>hkeep i b g k h2 h3 hgi hk⟩
  ·rcases hlive i b hl with ⟨rfl,rfl⟩ | ⟨h1,h2,h3⟩
   ·simp at hgi;subst hgi;obtain ⟨h1,h2⟩:=hnew k hk;refine ⟨?_,h1⟩;rcases h2 with h2 | ⟨id,blk,g',q1,q2,q3,q4⟩
    ·cases h:I k with
     | none=>rfl
     | some o=>have:=BT (hst.imm _ _ h);omega
    ·exact (hst.apart id blk g' k q2 q3 q4).1
   ·obtain ⟨q1,q2⟩:=hst.apart i b g k h3 (hother i g h1 hgi) hk;exact ⟨q1,Nat.lt_of_lt_of_le q2 hg.size⟩
  ·rcases hlive i bi hi with ⟨rfl,rfl⟩ | ⟨h1,h2,h3⟩ <;> rcases hlive j bj hj with ⟨rfl,rfl⟩ | ⟨p1,p2,p3⟩
   ·rfl
   ·simp at hgi;subst hgi;exact absurd hki (hclash j bj gj k p2 p3 (hother j gj p1 hgj) hkj)
   ·simp at hgj;subst hgj;exact absurd hkj (hclash i bi gi k h2 h3 (hother i gi h1 hgi) hki)
   ·exact hst.inj i j bi bj gi gj k h3 p3 (hother i gi h1 hgi) (hother j gj p1 hgj) hki hkj
  ·have hne:i≠id':=λe=>(List.nodup_cons.1 hst.nodup).1 (e ▸ hi);simp [hne,hst.idsFree i (by simp [hi])]
 ·refine { imm:=Imm.le_refl I,os:=hg.os,tape:=hg.tape,output:=hg.output,size:=hg.size,block:=λb hb ho=>hg.block b hb (λhk=>?_),fresh:=λb hb ho=>?_,old:=λ_ _ _=>rfl }
  ·obtain ⟨id,blk,g',_,q2,q3,q4⟩:=hrow b hk.symm;exact ho ⟨id,blk,g',q2,q3,q4⟩
  ·obtain ⟨i,bi,g,hl,hgi,hk⟩:=ho;rcases hlive i bi hl with ⟨rfl,rfl⟩ | ⟨h1,h2,h3⟩
   ·simp at hgi;subst hgi;rcases (hnew b hk).2 with h | ⟨id,blk,g',_,q2,q3,q4⟩
    ·omega
    ·exact ⟨id,blk,g',q2,q3,q4⟩
   ·exact ⟨i,bi,g,h3,hother i g h1 hgi,hk⟩
theorem iP {v:Value} {b:Nat} {t:TypeId} {sz k:Nat} {xs:List Value} (h:w.ownsRow 0 t sz v k xs) (hb:D0 v b):v.ownBlock=some b:=by
 rcases h.2 with ⟨rfl,_⟩ | ⟨g,cap,cur,rfl,_⟩
 ·simp [D0] at hb
 ·simpa [D0,Value.ownBlock] using hb
theorem iN {v:Value} {b:Nat} (hb:v.ownBlock=some b):D0 v b:=by
 unfold Value.ownBlock at hb
 split at hb
 ·cases hb;rfl
 ·cases hb
theorem O7 {v:Value} {t:TypeId} {sz k:Nat} {xs:List Value} (h:w.ownsRow 0 t sz v k xs):∃a cap,v = .slice a k cap:=by
 rcases h.2 with ⟨rfl,rfl⟩ | ⟨g,cap,cur,rfl,_⟩
 ·exact ⟨none,0,rfl⟩
 ·exact ⟨_,cap,rfl⟩
theorem cP (htt:TTok P tt) {all:List Oper} {o:Oper} {x y:Operand} {t e:TypeId} {ti i:TyI} {dx dy:D} {rd:List Nat} {id':Nat} {es es2:List (List V)} (hg:o.guard=none)
  (ho:o.op = .call { callee:=.builtin .append,args:=⟨[x,y]⟩,argTypes:=⟨[t,t]⟩ }) (ht:lk tt t=some ti) (hsh:ti.sh = .sl e) (hi:lk tt e=some i) (hz:(Nat.beq i.zero.length i.size&&Nat.blt 0 i.size)=true)
  (hx:CV env x=some dx) (hb:Iu st dx=some (rd,es)) (hrow:∀id,rd=[id]->lk st id=some (some (.row e i.size es))) (hy:CV env y=some dy) (hs:Mo dy=some es2) (hok:kX i.size i.bytes dx es es2) :
  LD P Pn all o env st rd [id'] ((id',some (.row e i.size (es++es2)))::Cs rd) (.own id' (es++es2).length):=by
 intro I μ st1 ids1 a w hag hst hon;refine ⟨λ_=>?_,λhw=>by rw [AG hg] at hw;cases hw⟩;have hop:=Bc hon;rw [ho] at hop;have rx:=hop x (by simp [Op.operands,Call.operands]) _ hx;have ry:=hop y (by simp [Op.operands,Call.operands]) _ hy;obtain ⟨inf,z,z1,z2,z3,z4,z5,z6⟩:=(htt e i hi).info;have hu:P.underlying t=some (.slice e):=by have:=htt.sh ht;rwa [hsh] at this
 simp only [Bool.and_eq_true,Nat.blt_eq] at hz;have hzl:z.cells.size=i.size:=by
  have:=(z5 I μ).1;rw [Nat.eq_of_beq_eq_true hz.1] at this;simpa using this
 obtain ⟨k1,k2,k3,k4⟩:=hok;have hyv:RepV I (a.eval y) (.sl es2):=by
  cases dy <;> simp only [Mo,reduceCtorEq,Option.some.injEq] at hs
  ·rename_i vx;cases vx <;> simp only [Mo,reduceCtorEq,Option.some.injEq] at hs;subst hs;exact ry.immInv
  ·subst hs;have:=ry;generalize a.eval y=v at this;cases this;exact .slnil
 have hrun:∀{u w'},(Builtin.append_ #[t,t] o.type #[a.eval x,a.eval y]).run P w = .ok u w'->(execOp a.eval o).run P w = .ok (.value u) w':=by
  intro u w' h;simp only [execOp,ho,resolve,invoke,builtin,Sem.run_bind,Sem.run_pure,Result.andThen_ok,List.map_toArray,List.map_cons,List.map_nil,h]
 have fin:∀{u:Value} {w':World} {xs:List Value} {row:Option Nat},(Builtin.append_ #[t,t] o.type #[a.eval x,a.eval y]).run P w = .ok u w'->w'.ownsRow 0 e i.size u (es.length+es2.length) xs->w.grownBy w' row ->
   (∀b,row=some b->∃id blk g,id∈rd/\Az st1 id blk/\μ id=some g/\D0 g b)->(∀b,u.ownBlock=some b->row=some b\/w.heap.size<=b)->RepVL I xs (es++es2).flatten->(∀c∈es++es2,c.length=i.size) ->
   (∀c∈es++es2,∀x∈c,V.one x=true) ->
   valX P ((execOp a.eval o).run P w) (λv w'=>∃I' μ',StRep I' μ' ((id',some (.row e i.size (es++es2)))::Cs rd++st1) ids1 w'/\RepD I' μ' v (.own id' (es++es2).length)/\μ.le μ'/\Ext I μ st1 w I' μ' ((id',some (.row e i.size (es++es2)))::Cs rd++st1) w') (Kc Pn I μ st1 w):=by
  intro u w' xs row h1 h2 h3 h4 h5 h6 h7 h8;rw [hrun h1];obtain ⟨μ',q1,q2,q3,q4⟩:=StRep.renew (id':=id') (ids:=ids1) (rd:=rd) (v':=u) (blk':=.row e i.size (es++es2)) hst h3 h4 (λb hb=>by
   have hb':=iP h2 hb;refine ⟨(h2.lt b hb').2,?_⟩;rcases h5 b hb' with h | h
   ·exact .inr (h4 b h)
   ·exact .inl h) (λμ'=>⟨xs,by rw [List.length_append];exact h2,h6,h7,h8,hz.2⟩)
  refine ⟨I,μ',q3,?_,q2,q4⟩;obtain ⟨ad,cap,rfl⟩:=O7 h2;rw [List.length_append];exact .own _ _ _ _ q1
 rcases Mq hst.imm hyv k1 hz.2 with ⟨⟨ady,ey⟩,rfl⟩ | ⟨yb,yo,yc,news,ey,_,_,n1,n2,n3,n4,n5⟩
 ·-- nothing
  have hsame:∀(v:Value),a.eval x=v->(∃ad len cap,v = .slice ad len cap/\len<=cap)->(Builtin.append_ #[t,t] o.type #[a.eval x,a.eval y]).run P w = .ok v w:=by
   rintro v hv ⟨ad,len,cap,rfl,hle⟩;rw [hv,ey];cases ad <;> cases ady <;> simp [Builtin.append_,run_underlying hu,sizeOf,typeInfo,z1,Builtin.lenOf,hle,Builtin.firstCells,loadCells,loadCellsFrom,storeCells]
  have hgrow:w.grownBy w none:=⟨rfl,rfl,rfl,Nat.le_refl _,λ_ _ _=>rfl⟩
  cases dx with
  | nils =>
   simp only [Iu,Option.some.injEq,Prod.mk.injEq] at hb;obtain ⟨rfl,rfl⟩:=hb;have hv:a.eval x = .slice none 0 0:=by
    generalize a.eval x=v at rx;cases rx;rfl
   exact fin (hsame _ hv ⟨_,_,_,rfl,Nat.le_refl _⟩) (World.ownsRow_nil w 0 e i.size) hgrow (λb h=>by cases h) (λb h=>by simp [Value.ownBlock] at h) (xs:=[]) .nil (by simp) (by simp)
  | own id nn =>
   simp only [Iu] at hb
   split at hb
   ·rename_i bt sz es0 hl;cases hb;have hl':=hrow id rfl;have hl1:Az st1 id (.row e i.size es):=by unfold Az;rw [hag id (by simp)];exact hl'
    obtain ⟨g,hg1,xs,r1,r2,r3,r4,_⟩:=hst.blk id _ hl1;have hv:a.eval x=g:=by
     generalize a.eval x=v at rx;cases rx with
     | own _ _ ad cap hm=>rw [hm] at hg1;cases hg1;rfl
    have hr0:∃ad len cap,g = .slice ad len cap/\len<=cap:=by
     rcases r1.2 with ⟨rfl,h⟩ | ⟨gb,cap,cur,rfl,_,_,h,_⟩
     ·exact ⟨_,_,_,rfl,Nat.le_refl _⟩
     ·exact ⟨_,_,_,rfl,h⟩
    exact fin (row:=g.ownBlock) (hsame g hv hr0) (by simpa using r1) ⟨rfl,rfl,rfl,Nat.le_refl _,λ_ _ _=>rfl⟩ (λb h=>⟨id,_,g,by simp,hl1,hg1,iN h⟩) (λb h=>.inl h) (xs:=xs) (by simpa using r2) (by simpa using r3) (by simpa using r4)
   ·cases hb
  | clip es'=>exact absurd rfl k4.2
  | _=>simp [Iu] at hb
 ·have hfl:∀{xs:List Value},RepVL I xs es.flatten->RepVL I (xs++news) (es++es2).flatten:=λh=>by rw [List.flatten_append];exact h.append n4
  have hnil:a.eval x = .slice none 0 0->es=[] ->
    valX P ((execOp a.eval o).run P w) (λv w'=>∃I' μ',StRep I' μ' ((id',some (.row e i.size (es++es2)))::Cs rd++st1) ids1 w'/\RepD I' μ' v (.own id' (es++es2).length)/\μ.le μ'/\Ext I μ st1 w I' μ' ((id',some (.row e i.size (es++es2)))::Cs rd++st1) w') (Kc Pn I μ st1 w):=λhv he=>by
   subst he;obtain ⟨v',w',q1,q2,q3,_⟩:=run_append_own (P:=P) w w.heap.size t o.type e inf z i.size i.bytes hu z1 z4 z2 z3 hzl hz.2 (.slice none 0 0) 0 [] (World.ownsRow_nil w _ e i.size) ⟨yb,yo,none⟩ es2.length yc news n1 n2 n3
    (by simpa using k2) (by simpa using k3) (Nat.le_refl _)
   have q2':w'.ownsRow 0 e i.size v' (0+es2.length) news:=⟨q2.1,q2.2.imp id λ⟨g,cap,cur,a1,_,a2⟩=>⟨g,cap,cur,a1,Nat.zero_le _,a2⟩⟩
   exact fin (row:=none) (by rw [hv,ey];exact q1) q2' ⟨q3.os,q3.tape,q3.output,q3.size,λb hb _=>q3.block b hb (by simp [Value.ownBlock])⟩ (λb h=>by cases h) (λb h=>.inr (q2.lt b h).1) (hfl .nil) (by simpa using k1) (by simpa using n5)
  have hgrow:∀(ad:Addr) (cap:Nat) (xs:List Value),a.eval x = .slice (some ad) es.length cap->xs.length=es.length*i.size->(∀j u,xs[j]?=some u->w.cell? (ad.add j)=some u)->cap<es.length+es2.length->RepVL I xs es.flatten->(∀c∈es,c.length=i.size)->(∀c∈es,∀x∈c,V.one x=true) ->
    valX P ((execOp a.eval o).run P w) (λv w'=>∃I' μ',StRep I' μ' ((id',some (.row e i.size (es++es2)))::Cs rd++st1) ids1 w'/\RepD I' μ' v (.own id' (es++es2).length)/\μ.le μ'/\Ext I μ st1 w I' μ' ((id',some (.row e i.size (es++es2)))::Cs rd++st1) w') (Kc Pn I μ st1 w):=λad cap xs hv hl hcell hlt hr hsz h1=>by
   have hsmall:es.length+es2.length<=9223372036854775807:=by simp only [maxLen] at k2;omega
   have hr':=run_append_grow (P:=P) w t o.type e inf z hu z1 z4 ad es.length cap xs (by rw [z2];exact hl) hcell ⟨yb,yo,none⟩ es2.length yc news (by rw [z2];exact n1) n2 hlt (by omega) (by rw [z3];exact growslice_fits hlt k3);have hge:=grownCap_ge w (es.length+es2.length) cap e;have hcm:grownCap w (es.length+es2.length) cap e<=maxLen:=grownCap_le_maxLen w _ cap e k2;have hlen:(xs++news).length=(es.length+es2.length)*i.size:=by rw [List.length_append,hl,n1,Nat.add_mul]
   refine fin (row:=none) (by rw [hv,ey];exact hr') (xs:=xs++news) ⟨hlen,.inr ⟨w.heap.size,_,_,rfl,Nat.zero_le _,Ek w.drew _,hge,hcm,?_,?_⟩⟩ ⟨rfl,rfl,rfl,by simp,λk hk _=>GK w.drew _ hk⟩ (λb h=>by cases h)
    (λb h=>by simp [Value.ownBlock] at h;exact .inr (by omega)) (hfl hr) (λc hc=>(List.mem_append.1 hc).elim (hsz c) (k1 c)) (λc hc=>(List.mem_append.1 hc).elim (h1 c) (n5 c))
   ·simp only [Array.size_append,List.size_toArray,size_zeroCells,hzl,hl,n1,<- Nat.add_mul];congr 1;omega
   ·simp only [Array.toList_append,List.append_assoc];rw [<- List.append_assoc,<- hlen];exact List.take_left
  cases dx with
  | nils =>
   simp only [Iu,Option.some.injEq,Prod.mk.injEq] at hb;obtain ⟨rfl,rfl⟩:=hb;have hv:a.eval x = .slice none 0 0:=by
    generalize a.eval x=v at rx;cases rx;rfl
   exact hnil hv rfl
  | own id nn =>
   simp only [Iu] at hb
   split at hb
   ·rename_i bt sz es0 hl;cases hb;have hl':=hrow id rfl;have hl1:Az st1 id (.row e i.size es):=by unfold Az;rw [hag id (by simp)];exact hl'
    obtain ⟨g,hg1,xs,r1,r2,r3,r4,_⟩:=hst.blk id _ hl1;have hv:a.eval x=g:=by
     generalize a.eval x=v at rx;cases rx with
     | own _ _ ad cap hm=>rw [hm] at hg1;cases hg1;rfl
    rcases r1.2 with ⟨eg,h⟩ | ⟨gb,cap,cur,eg,_,hheap,hle,hcm,hcs,htake⟩
    ·exact hnil (hv.trans eg) (List.eq_nil_of_length_eq_zero h)
    ·by_cases hroom:es.length+es2.length<=cap
     ·have hfit:es.length*i.size+news.length<=cur.size:=by rw [n1,hcs,<- Nat.add_mul];exact Nat.mul_le_mul_right _ hroom
      have hr:=run_append_room (P:=P) w t o.type e inf hu z1 gb es.length cap cur hheap ⟨yb,yo,none⟩ es2.length yc news (by rw [z2];exact n1) n2 n3 hroom (by rw [z2];exact hfit);rw [z2] at hr;have hlen:(xs++news).length=(es.length+es2.length)*i.size:=by rw [List.length_append,r1.1,n1,Nat.add_mul]
      refine fin (row:=some gb) (by rw [hv,eg,ey];exact hr) (xs:=xs++news) ⟨hlen,.inr ⟨gb,cap,_,rfl,Nat.zero_le _,setRow_heap w gb cur _ e _ hheap,hroom,hcm,?_,?_⟩⟩ ⟨rfl,rfl,rfl,by simp,λk _ hk=>setRow_other w gb k _ (λe=>hk (by simp [e]))⟩
       (λb h=>by cases h;exact ⟨id,_,g,by simp,hl1,hg1,by rw [eg];rfl⟩) (λb h=>by simp [Value.ownBlock] at h;exact .inl (by rw [h])) (hfl r2) (λc hc=>(List.mem_append.1 hc).elim (r3 c) (k1 c)) (λc hc=>(List.mem_append.1 hc).elim (r4 c) (n5 c))
      ·simp only [List.size_toArray,List.length_append,List.length_take,List.length_drop,Array.length_toList];omega
      ·rw [htake,<- hlen];exact List.take_left
     ·exact hgrow ⟨gb,0,none⟩ cap xs (hv.trans eg) r1.1 (by rw [eg] at r1;exact r1.cells (g:=gb) rfl) (by omega) r2 r3 r4
   ·cases hb
  | clip es' =>
   simp only [Iu,Option.some.injEq,Prod.mk.injEq] at hb;obtain ⟨rfl,rfl⟩:=hb;have rx':∃ad len,a.eval x = .slice ad len len/\RepV I (.slice ad len len) (.sl es'):=by
    generalize a.eval x=v at rx;cases rx with
    | clip ad len _ h=>exact ⟨ad,len,rfl,h⟩
   obtain ⟨ad,len,hv,hr⟩:=rx';rcases Mq hst.imm hr k4.1 hz.2 with ⟨⟨adx,ex⟩,e0⟩ | ⟨xb,xo,xc,xs,ex,_,_,p1,p2,p3,p4,p5⟩
   ·cases adx with
    | none=>exact hnil (hv.trans ex) e0
    | some adx =>
     have hpos:0<es2.length:=List.length_pos_iff.2 k4.2;subst e0;exact hgrow adx 0 [] (hv.trans ex) (by simp) (λj u h=>by simp at h) (by simp;omega) .nil (by simp) (by simp)
   ·cases ex;have hpos:0<es2.length:=List.length_pos_iff.2 k4.2;exact hgrow ⟨xb,xo,none⟩ _ xs hv p1 p2 (by omega) p4 k4.1 p5
  | _=>simp [Iu] at hb
end
end Go.Hk
namespace Go.Hk
def Lh (cx:Prop) (env:Env) (x:Operand):Option (D×List Prop):=match CV env x with
 | some (.guard c w d)=>some (d,[cx->c=w])
 | some d=>some (d,[])
 | none=>none
structure rP where
 dx:D
 es:List (List V)
 es2:List (List V)
 sz:Nat
 bytes:Nat
 e:TypeId
 rd:List Nat
 id':Nat
 ids':List Nat
 dst:Option Nat
 todo:List DI
def oD (st:St) (e:TypeId) (sz:Nat):List Nat->Bool
 | []=>true
 | [id]=>match lk st id with
  | some (some (.row e' sz' _))=>Nat.beq e e'&&Nat.beq sz sz'
  | _=>false
 | _=>false
def qT (tt:TT) (n:Nat) (env:Env) (st:St) (ids:List Nat) (todo:List DI):Option rP :=
 match Sd todo,ids with
 | some o,id'::ids'=>match o.guard,o.op with
  | none,.call { callee:=.builtin .append,args:=⟨[x,y]⟩,argTypes:=⟨[t,t']⟩ }=>match Nat.beq t t',lk tt t,CV env x,CV env y with
   | true,some { sh:=.sl e,.. },some dx,some dy=>match lk tt e,Iu st dx,Mo dy with
    | some i,some (rd,es),some es2=>match Nat.beq i.zero.length i.size&&Nat.blt 0 i.size,oD st e i.size rd,BH n o.dst,Bg todo (rd,id'::rd) with
     | true,true,true,some (_,_,todo')=>some ⟨dx,es,es2,i.size,i.bytes,e,rd,id',ids',o.dst,todo'⟩
     | _,_,_,_=>none
    | _,_,_=>none
   | _,_,_,_=>none
  | _,_=>none
 | _,_=>none
section
variable {P:Program} {n:Nat} {F:List Nat} {Q:DQ} {tt:TT} {env env':Env} {st st':St} {ids ids':List Nat} {k todo todo':List DI} {I:Imm} {μ:Mu} {w:World} {a:Act} {Pn:V->Prop} {d:D} {cx:Prop} {ob:List Prop}
theorem CC {x:Operand} {v:Value} (h:Lh cx env x=some (d,ob)) (hob:AA ob) (hc:cx) (hv:∀d,CV env x=some d->RepD I μ v d):RepD I μ v d:=by
 unfold Lh at h
 split at h
 ·cases h;rename_i hx;exact (hv _ hx).guardInv (hob.1 hc)
 ·cases h;rename_i hx;exact hv _ hx
 ·cases h
theorem K5:∀l:List Nat,(Cs l).map (·.1)=l
 | []=>rfl
 | x::r=>by simp [Cs,K5 r]
theorem Eh {f:List Nat×List Nat} {o o':Oper} {all:List Oper} (h:Sd todo=some o) (h':Bg todo f=some (all,o',todo')):o'=o:=by
 unfold Sd at h
 split at h
 ·simp [Bg] at h';cases h;exact h'.2.1.symm
 ·simp [Bg] at h';cases h;exact h'.2.1.symm
 ·cases h
theorem BE (htt:TTok P tt) {c:rP} (h:qT tt n env st ids todo=some c) (hok:kX c.sz c.bytes c.dx c.es c.es2)
  (hk:G P n F Q c.todo (B9 c.dst (.own c.id' (c.es++c.es2).length) env) ((c.id',some (.row c.e c.sz (c.es++c.es2)))::Cs c.rd++st) c.ids'):G P n F Q todo env st ids:=by
 unfold qT at h
 split at h
 ·rename_i o id' ids' ho
  split at h
  ·rename_i x y t t' hg hop
   split at h
   ·rename_i e _ _ _ _ dx dy htt' ht hx hy;have:=Nat.eq_of_beq_eq_true htt';subst this
    split at h
    ·rename_i i rd es es2 hi hb hs
     split at h
     ·rename_i all o' todo' hz hr hd h1;cases h;have ho':o'=o:=Eh ho h1;subst ho';refine B6 (fr:=[id']) (wr:=(id',some (.row e i.size (es++es2)))::Cs rd) (rd:=rd) (by rw [List.map_cons,K5];exact h1) ?_ hd (λc hc=>by rw [hop] at hc;cases hc) hk;refine cP htt hg hop ht rfl hi hz hx hb (λid hid=>?_) hy hs hok;subst hid;simp only [oD] at hr
      split at hr
      ·rename_i e' sz' es' hl;simp only [Bool.and_eq_true] at hr;rw [Nat.eq_of_beq_eq_true hr.1,Nat.eq_of_beq_eq_true hr.2,hl];have:es'=es:=by
        cases dx <;> simp only [Iu,reduceCtorEq,Option.some.injEq,Prod.mk.injEq] at hb
        ·cases hb.1
        ·split at hb
         ·rename_i hl2;simp only [Option.some.injEq,Prod.mk.injEq,List.cons.injEq,and_true] at hb;obtain ⟨e1,e2⟩:=hb;subst e1;rw [hl2] at hl;cases hl;exact e2
         ·cases hb
        ·cases hb.1
       rw [this]
      ·cases hr
     ·cases h
    ·cases h
   ·cases h
  ·cases h
 ·cases h
theorem C9 {all:List Oper} {o:Oper} {rd:List Nat} {g:Option (Bool×Bool)} (hg:Ca all env o=some g)
  (key:∀I μ st1 ids1 a w,Agree rd st st1->StRep I μ st1 ids1 w->Dh I μ env a o.op->Ap g ->
   valX P ((execOp a.eval o).run P w) (λu w'=>∃I' μ',StRep I' μ' st1 ids1 w'/\RepD I' μ' u d/\μ.le μ'/\Ext I μ st1 w I' μ' st1 w') (Kc Pn I μ st1 w)) :
  LD P Pn all o env st rd [] [] (gD g d):=by
 intro I μ st1 ids1 a w hag hst hon;have hwant:=Fr hg hon;refine ⟨λhw=>?_,λhw=>⟨rfl,rfl,?_⟩⟩
 ·have hcx:=hwant.1 hw;refine (key I μ st1 ids1 a w hag hst (Bc hon) hcx).mono (λv w' ⟨I',μ',q1,q2,q3,q4⟩=>⟨I',μ',q1,?_,q3,q4⟩) (λ_ _ h=>h);cases g with
  | none=>exact q2
  | some p=>exact .guard _ _ _ _ (λ_=>q2) (λhn=>absurd hcx hn)
 ·cases g with
  | none=>rw [hwant.2 trivial] at hw;cases hw
  | some p=>exact .guard _ _ _ _ (λhc=>by rw [hwant.2 hc] at hw;cases hw) (λ_=>rfl)
structure PIdx where
 es:List (List V)
 i:Int
 sz:Nat
 e:TypeId
 g:Option (Bool×Bool)
 ob:List Prop
 dst:Option Nat
 todo:List DI
def Pm (tt:TT) (n:Nat) (env:Env) (todo:List DI):Option PIdx :=
 match Bg todo ([],[]) with
 | some (all,o,todo')=>match o.op,Ca all env o with
  | .indexAddr t x i,some g=>match lk tt t,Lh (Ap g) env x,Lh (Ap g) env i with
   | some { sh:=.sl e,.. },some (.imm (.sl es),o1),some (.imm (.int _ i),o2)=>match lk tt e,BH n o.dst with
    | some ti,true=>match o.dst with
     | some t=>some ⟨es,i,ti.size,e,g,Iw o1 o2,some t,todo'⟩
     | none=>none
    | _,_=>none
   | _,_,_=>none
  | _,_=>none
 | none=>none
theorem NL {t e:TypeId} {i:TyI} (hu:P.underlying t=some (.slice e)) (hi:TyOk P e i) {b off len cap:Nat} {kk:IntKind} {m:Int} (h0:0<=m) (hm:m<len) :
  (Instr.indexAt t (.slice (some ⟨b,off,none⟩) len cap) (.int kk m)).run P w = .ok (.pointer (some ⟨b,off+m.toNat*i.size,none⟩)) w:=by
 simp only [Instr.indexAt,Sem.run_bind,asIntOf,Sem.run_pure,Result.andThen_ok,run_underlying hu];simp [h0,hm,hi.sizeOf w,Dz]
theorem Ge (htt:TTok P tt) {es:List (List V)} {m:Int} {sz:Nat} {e:TypeId} {g:Option (Bool×Bool)} {ob:List Prop} {t:Nat} {todo':List DI} {c:List V} (h:Pm tt n env todo=some ⟨es,m,sz,e,g,ob,some t,todo'⟩)
  (hc:Ap g->0<=m/\es[m.toNat]?=some c/\c.length=sz) (hob:AA ob) (hk:G P n F Q todo' ((t,gD g (.ip e c 0))::env) st ids):G P n F Q todo env st ids:=by
 unfold Pm at h
 split at h
 ·rename_i all o todo' h1
  split at h
  ·rename_i t x i g hop hg
   split at h
   ·rename_i e _ _ _ _ es o1 kk m o2 ht hx hi
    split at h
    ·rename_i ti hti hd
     split at h
     ·rename_i t' hdst;cases h;have hk:G P n F Q todo' (B9 o.dst (gD g (.ip e c 0)) env) st ids:=by rw [hdst];exact hk
      refine B6 (fr:=[]) (wr:=[]) (rd:=[]) h1 (C9 hg λI μ st1 ids1 a w _ hst hops hcx=>?_) hd (λc hc=>by rw [hop] at hc;cases hc) hk;rw [hop] at hops;obtain ⟨ho1,ho2⟩:=Bp hob;have rx:=(CC hx ho1 hcx (hops x (by simp [Op.operands]))).immInv;have ri:=(CC hi ho2 hcx (hops i (by simp [Op.operands]))).immInv.intInv;obtain ⟨c0,c1,c2⟩:=hc hcx;have hu:P.underlying t=some (.slice e):=htt.sh ht;have hlt:=(List.getElem?_eq_some_iff.1 c1).1;simp only [execOp,hop,ri];generalize hv:a.eval x=v at rx;cases rx with
      | slnil=>simp at hlt
      | sl0=>simp at hlt
      | sl b off len cap sz _ vs hl hcap hm hsz hcell hrep =>
       have hs:sz=ti.size:=by rw [<- hsz c (List.mem_of_getElem? c1),c2]
       subst hs;have hr:=NL (w:=w) hu (htt e ti hti) (b:=b) (off:=off) (len:=len) (cap:=cap) (kk:=kk) c0 (by omega);have hrun:(do pure (.value (<- Instr.indexAt t (.slice (some ⟨b,off,none⟩) len cap) (.int kk m))):Sem Next).run P w = .ok (.value (.pointer (some ⟨b,off+m.toNat*ti.size,none⟩))) w:=A7 hr;rw [hrun];refine ⟨I,μ,hst,?_,Mu.le_refl μ,Ext.refl _ _ _ _⟩;have:=RepD.ip (I:=I) (μ:=μ) b (off+m.toNat*ti.size) e c 0 (vs m.toNat) (λj x hj=>hcell m.toNat c j x c1 hj) (λj x hj=>hrep m.toNat c j x c1 hj);simpa using this
     ·cases h
    ·cases h
   ·cases h
  ·cases h
 ·cases h
end
end Go.Hk
namespace Go.Hk
def Pz:List Value->Option (List D)
 | []=>some []
 | v::r=>match Tj v,v.oneCell',Pz r with
  | some d,true,some ds=>some (d::ds)
  | _,_,_=>none
def qK (P:Program):TypeDesc->Option Sh
 | .bool=>some .bool
 | .int k=>some (.int k)
 | .string=>some .str
 | .pointer e=>some (.ptr e)
 | .slice e=>some (.sl e)
 | .map k e=>some (.map k e)
 | .array n e=>some (.arr n e)
 | .func _ _ _=>some .func
 | .interface _=>some .iface
 | .struct fs=>match fs.toList.all λf=>Nat.blt 0 (P.cellsOf f.type) with
  | true=>some (.struct (fs.toList.map λf=>(f.offset,f.type)))
  | false=>none
 | _=>none
def rL:TypeDesc->Bool
 | .struct _=>true
 | .array _ _=>true
 | _=>false
def oZ (P:Program) (t:TypeId):Option TyI:=match P.info? t,P.underlying t with
 | some inf,some u=>match inf.zero,qK P u with
  | some z,some sh=>match Pz z.cells.toList with
   | some ds=>some { sh,agg:=rL u,size:=inf.size,bytes:=inf.bytes,zero:=ds }
   | none=>none
  | _,_=>none
 | _,_=>none
def aI (P:Program):List TypeId->TT
 | []=>[]
 | t::r=>match oZ P t with
  | some i=>(t,i)::aI P r
  | none=>aI P r
theorem PL:∀{vs:List Value} {ds:List D},Pz vs=some ds->(∀I μ,RepL I μ vs ds)/\∀v∈vs,v.oneCell'=true
 | [],ds,h=>by cases h;exact ⟨λ_ _=>.nil,λ_ h=>by simp at h⟩
 | v::r,ds,h=>by
  simp only [Pz] at h
  split at h
  ·rename_i d ds' h1 h2 h3;cases h;obtain ⟨q1,q2⟩:=PL h3;exact ⟨λI μ=>.mk (Ti h1 I μ) (q1 I μ),λu hu=>(List.mem_cons.1 hu).elim (λe=>e ▸ h2) (q2 u)⟩
  ·cases h
theorem lV {P:Program} {t:TypeId} {i:TyI} (h:oZ P t=some i):TyOk P t i:=by
 unfold oZ at h
 split at h
 ·rename_i inf u h1 h2
  split at h
  ·rename_i z sh h3 h4
   split at h
   ·rename_i ds h5;cases h;obtain ⟨q1,q2⟩:=PL h5;refine ⟨⟨inf,z,h1,rfl,rfl,h3,q1,q2⟩,?_,?_⟩
    ·funext w;simp only [isAgg,Sem.run_bind,run_underlying h2,Result.andThen_ok];cases u <;> rfl
    ·unfold qK at h4
     split at h4 <;> first | (cases h4;exact h2) | (cases h4;exact ⟨_,_,_,h2⟩) | (cases h4;exact ⟨_,h2⟩) | skip
     ·split at h4
      ·rename_i hall;cases h4;refine ⟨_,h2,rfl,λf hf=>?_⟩;have:=List.all_eq_true.1 hall f hf;simpa [Nat.blt_eq] using this
      ·cases h4
     ·cases h4
   ·cases h
  ·cases h
 ·cases h
theorem Uj {P:Program}:∀{l:List TypeId},TTok P (aI P l)
 | [],t,i,h=>by simp [aI,lk] at h
 | x::r,t,i,h=>by
  simp only [aI] at h
  split at h
  ·rename_i j hj;by_cases hx:x=t
   ·subst hx;rw [Ax] at h;cases h;exact lV hj
   ·rw [A5 _ _ hx] at h;exact Uj t i h
  ·exact Uj t i h
theorem TTok.of_eq {P:Program} {tt:TT} {l:List TypeId} (h:tt=aI P l):TTok P tt:=h ▸ Uj
attribute [simp] AA Iw
theorem B2 {x:Int} (h0 : -9223372036854775808<=x) (h1:x<=9223372036854775807):IntKind.i64.wrap x=x:=by
 simp only [IntKind.wrap,IntKind.bits,IntKind.signed];simp;omega
theorem A0 {k:IntKind} {a b:Int} (h:a=b):RU (.imm (.int k a)) (.imm (.int k b)):=by rw [h];rfl
theorem tV {a b:V} (h:a=b):RU (.imm a) (.imm b):=by rw [h];rfl
theorem Aa {P:Program} {tt:TT} {n:Nat} {F:List Nat} {k:List DI} {env:Env} {st:St} {ids:List Nat} {rs:List ResultVar} {v u:V} {ds:List D} (h1:Pk tt env st rs=some ds) (h2:lO (JU ds)=some u) (h3:u=v):DGo P n F (Nk tt rs (.ret (.imm v) [])) (.code .ret::k) env st ids:=Au ⟨ds,h1,(show lO (JU ds)=some v by rw [h2,h3]),trivial⟩
section
variable {P:Program} {n:Nat} {F:List Nat} {Q:DQ} {tt:TT} {env env':Env} {st st':St} {ids ids':List Nat} {k todo todo':List DI} {I:Imm} {μ:Mu} {w:World} {a:Act} {Pn:V->Prop} {d:D} {cx:Prop} {ob:List Prop}
theorem Lx (htt:TTok P tt) (hm:P.follows .mixedOrders=true) (f:Nat) (path:List Pt)
  (h:run tt n f path todo env st ids [] = .at k env' st' ids' ob) (hob:AA ob) (hd:G P n F Q k env' st' ids'):DGo P n F Q todo env st ids:=(Ky htt hm f path h hob hd).go
end
end Go.Hk
namespace Go.Hk
mutual
def Rk (id:Nat) (es:List (List V)):D->D
 | .own i n=>bif Nat.beq i id then .imm (.sl es) else .own i n
 | .agg cs=>HR (Sl id es cs)
 | .tup cs=>.tup (Sl id es cs)
 | .fn f a b=>.fn f (Sl id es a) (Sl id es b)
 | .iface t d=>match Rk id es d with
  | .imm x=>.imm (.iface t x)
  | d'=>.iface t d'
 | .guard c w d=>.guard c w (Rk id es d)
 | d=>d
def Sl (id:Nat) (es:List (List V)):List D->List D
 | []=>[]
 | d::r=>Rk id es d::Sl id es r
end
def dO (id:Nat) (es:List (List V)):Env->Env
 | []=>[]
 | (t,d)::r=>(t,Rk id es d)::dO id es r
def nC (id:Nat) (es:List (List V)):Blk->Blk
 | .cells t sz cs=>OA t sz (Sl id es cs)
 | b=>b
def Sj (id:Nat) (es:List (List V)):St->St
 | []=>[]
 | (i,some b)::r=>(i,some (nC id es b))::Sj id es r
 | (i,none)::r=>(i,none)::Sj id es r
theorem GL (id:Nat) (es:List (List V)):∀l:List D,Sl id es l=l.map (Rk id es)
 | []=>rfl
 | d::r=>by simp [Sl,GL id es r]
section
variable {P:Program} {n:Nat} {F:List Nat} {Q:DQ} {tt:TT} {env:Env} {st:St} {ids:List Nat} {todo:List DI} {I J:Imm} {μ:Mu} {w:World} {id:Nat} {es:List (List V)} {g:Value}
theorem RepD.frz {v:Value} {d:D} (h:RepD I μ v d) (hIJ:I.le J) (hg:μ id=some g) (hr:RepV J g (.sl es)):RepD J μ v (Rk id es d):=by
 have at_:∀{l:List D} {i:Nat} {x:D},(Sl id es l)[i]?=some x->∃y,l[i]?=some y/\x=Rk id es y:=by
  intro l i x hx;rw [GL,List.getElem?_map] at hx;cases hl:l[i]? with
  | none=>rw [hl] at hx;cases hx
  | some y=>rw [hl] at hx;cases hx;exact ⟨y,rfl,rfl⟩
 induction h with
 | undef v=>exact .undef v
 | imm v x hx=>exact .imm v x (hx.mono hIJ)
 | nils=>exact .nils
 | ref b id off hm=>exact .ref b id off hm
 | ip b o t cs off vs hcell hrep=>exact (RepD.ip b o t cs off vs hcell hrep).mono hIJ (Mu.le_refl μ)
 | agg cs ds hl h1 _ ih =>
  have:RepD J μ (.agg cs.toList.toArray) (HR (Sl id es ds)):=GY ⟨by rw [GL,List.length_map,<- hl];simp,λi c x hc hx=>by
   obtain ⟨y,hy,rfl⟩:=at_ hx;exact ih i c y (by simpa using hc) hy⟩ h1
  simpa [Rk] using this
 | tup cs ds hl _ ih =>
  refine .tup cs _ (by rw [GL,List.length_map,hl]) λi c x hc hx=>?_;obtain ⟨y,hy,rfl⟩:=at_ hx;exact ih i c y hc hy
 | own i len a cap hm =>
  simp only [Rk];cases hb:Nat.beq i id with
  | false=>exact .own i len a cap hm
  | true =>
   rw [Nat.eq_of_beq_eq_true hb,hg] at hm;cases hm;exact .imm _ _ hr
 | elp b id len cap k sz f hm=>exact .elp b id len cap k sz f hm
 | mapr id b hm=>exact .mapr id b hm
 | iter id b hm=>exact .iter id b hm
 | fn f first cap df dc hf hc _ _ ih1 ih2 =>
  refine .fn f first cap _ _ (by rw [GL,List.length_map,hf]) (by rw [GL,List.length_map,hc]) (λi c x h1 h2=>?_) (λi c x h1 h2=>?_)
  ·obtain ⟨y,hy,rfl⟩:=at_ h2;exact ih1 i c y h1 hy
  ·obtain ⟨y,hy,rfl⟩:=at_ h2;exact ih2 i c y h1 hy
 | iface t v d _ ih =>
  simp only [Rk]
  split
  ·rename_i x hx;rw [hx] at ih;exact .imm _ _ (.iface t v x ih.immInv)
  ·exact .iface t v _ ih
 | guard c want v d _ hu ih=>exact .guard c want v _ ih hu
 | clip a len es hr=>exact .clip a len es (hr.mono hIJ)
 | slc b id off len cap hm hl hx=>exact .slc b id off len cap hm hl hx
 | yld b id hm=>exact .yld b id hm
 | raw v h=>exact .raw v h
 | hv v id i vs bs hm hi h1=>exact .hv v id i vs bs hm hi h1
theorem BlkRep.frz {gb:Value} {blk:Blk} (h:BlkRep I μ w gb blk) (hIJ:I.le J) (hg:μ id=some g) (hr:RepV J g (.sl es)):BlkRep J μ w gb (nC id es blk):=by
 cases blk with
 | cells t sz cs =>
  obtain ⟨hs,b,vs,rfl,h2,h3,h4⟩:=h;refine GX h2 ⟨by rw [GL,List.length_map,h3.1],λi v x hv hx=>?_⟩ h4 (by rw [GL,List.length_map,hs]);rw [GL,List.getElem?_map] at hx;cases hl:cs[i]? with
  | none=>rw [hl] at hx;cases hx
  | some y=>rw [hl] at hx;cases hx;exact (h3.2 i v y hv hl).frz hIJ hg hr
 | _=>exact h.mono hIJ (Mu.le_refl μ)
theorem NQ {i:Nat} {b:Blk}:∀{st:St},Az (Sj id es st) i b->∃b0,Az st i b0/\b=nC id es b0
 | [],h=>by simp [Sj,Az,lk] at h
 | (k,some x)::r,h=>by
  simp only [Sj] at h;rcases A8.1 h with ⟨h1,h2⟩ | ⟨h1,h2⟩
  ·exact ⟨x,by unfold Az;rw [h1,Ax],h2⟩
  ·obtain ⟨b0,q1,q2⟩:=NQ h2;exact ⟨b0,A8.2 (.inr ⟨h1,q1⟩),q2⟩
 | (k,none)::r,h=>by
  simp only [Sj] at h;obtain ⟨h1,h2⟩:=BD.1 h;obtain ⟨b0,q1,q2⟩:=NQ h2;exact ⟨b0,BD.2 ⟨h1,q1⟩,q2⟩
theorem Bw (id:Nat) {e:TypeId} {sz:Nat} (hl:lk st id=some (some (.row e sz es))) (h:DGo P n F Q todo (dO id es env) ((id,none)::Sj id es st) ids):DGo P n F Q todo env st ids:=by
 intro b cs I μ a w items hd hc;have hlive:Az st id (.row e sz es):=hl;obtain ⟨g,hg,xs,hown,hrep,hsz,hone,hp⟩:=hc.blk id _ hlive;obtain ⟨J,hJ,hJr,hJo⟩:∃J:Imm,I.le J/\RepV J g (.sl es)/\(∀k o,J k=some o->(I k=some o\/(D0 g k/\w.heap[k]?=some o))):=by
  rcases hown.2 with ⟨rfl,h0⟩ | ⟨gb,cap,cur,rfl,_,hheap,hle,hcm,hcs,htake⟩
  ·have:es=[]:=List.eq_nil_of_length_eq_zero h0;subst this;exact ⟨I,Imm.le_refl I,.slnil,λk o h=>.inl h⟩
  ·have hno:=(hc.apart id _ _ gb hlive hg rfl).1;have hle':I.le (λk=>if k=gb then some (.cells cur e (0,0)) else I k):=λk o h=>by
    have:k≠gb:=λe=>by rw [e,hno] at h;cases h
    simp [this,h]
   refine ⟨_,hle',?_,λk o h=>?_⟩
   ·have hcell:∀(i:Nat) (c:List V) (j:Nat) (x:V),es[i]?=some c->c[j]?=some x->∃v,xs[i*sz+j]?=some v/\cur[i*sz+j]?=some v/\RepV I v x/\v.oneCell'=true:=by
     intro i c j x hi hj;have h1:=C3 hsz i c j x hi hj;have hlt:i*sz+j<xs.length:=by rw [hrep.1];exact (List.getElem?_eq_some_iff.1 h1).1
     obtain ⟨v,hv⟩:∃v,xs[i*sz+j]?=some v:=⟨_,List.getElem?_eq_getElem hlt⟩
     have hr:=hrep.2 _ _ _ hv h1;refine ⟨v,hv,?_,hr,?_⟩
     ·rw [<- htake,List.getElem?_take] at hv
      split at hv
      ·simpa using hv
      ·cases hv
     ·have:=hone c (List.mem_of_getElem? hi) x (List.mem_of_getElem? hj);exact hr.one this
    refine .sl gb 0 _ cap sz es (λi j=>(cur[i*sz+j]?).getD undef) rfl hle hcm hsz (λi c j x hi hj=>?_) (λi c j x hi hj=>?_)
    ·obtain ⟨v,_,h2,_,h4⟩:=hcell i c j x hi hj;simp [Imm.cell,h2,h4]
    ·obtain ⟨v,_,h2,h3,_⟩:=hcell i c j x hi hj;simp only [h2,Option.getD_some];exact h3.mono hle'
   ·by_cases hk:k=gb
    ·subst hk;simp at h;subst h;exact .inr ⟨rfl,hheap⟩
    ·simp [hk] at h;exact .inl h
 have hst:∀i bi,Az ((id,none)::Sj id es st) i bi->i≠id/\∃b0,Az st i b0/\bi=nC id es b0:=λi bi h=>by
  obtain ⟨h1,h2⟩:=BD.1 h;exact ⟨h1,NQ h2⟩
 have hE:Ext I μ st w J μ ((id,none)::Sj id es st) w :=
  {imm:=hJ,os:=rfl,tape:=rfl,output:=rfl,size:=Nat.le_refl _
   block:=λ_ _ _=>rfl
   fresh:=λk _ ⟨i,bi,gi,h1,h2,h3⟩=>let ⟨_,b0,q,_⟩:=hst i bi h1;⟨i,b0,gi,q,h2,h3⟩
   old:=λk _ ho=>by
      cases hJk:J k with
      | none =>
       cases hIk:I k with
       | none=>rfl
       | some o=>rw [hJ k o hIk] at hJk;cases hJk
      | some o =>
       rcases hJo k o hJk with h | ⟨h,_⟩
       ·exact h.symm
       ·exact absurd ⟨id,_,g,hlive,hg,h⟩ ho }
 have hc':Conc n J μ (dO id es env) ((id,none)::Sj id es st) ids a w :=
  {imm:=λk o h=>(hJo k o h).elim (λh=>hc.imm k o h) λh=>h.2
   blk:=λi bi hli=>by
    obtain ⟨_,b0,h2,rfl⟩:=hst i bi hli;obtain ⟨gi,hgi,hr⟩:=hc.blk i b0 h2;exact ⟨gi,hgi,hr.frz hJ hg hJr⟩
   apart:=λi bi gi k hli hgi hk=>by
    obtain ⟨h1,b0,h2,rfl⟩:=hst i bi hli;obtain ⟨q1,q2⟩:=hc.apart i b0 gi k h2 hgi hk;refine ⟨?_,q2⟩;cases hJk:J k with
    | none=>rfl
    | some o =>
     rcases hJo k o hJk with h | ⟨h,_⟩
     ·rw [q1] at h;cases h
     ·exact absurd (hc.inj i id b0 _ gi g k h2 hlive hgi hg hk h) h1
   inj:=λi j bi bj gi gj k hi hj hgi hgj hki hkj=>by
    obtain ⟨_,b1,h1,rfl⟩:=hst i bi hi;obtain ⟨_,b2,h2,rfl⟩:=hst j bj hj;exact hc.inj i j b1 b2 gi gj k h1 h2 hgi hgj hki hkj
   nodup:=hc.nodup
   idsFree:=hc.idsFree
   size:=hc.size
   env:=λt d hlt=>by
    have:∀{env:Env},lk (dO id es env) t=some d->∃d0,lk env t=some d0/\d=Rk id es d0:=by
     intro env
     induction env with
     | nil=>intro h;simp [dO,lk] at h
     | cons p r ih =>
      obtain ⟨s,x⟩:=p;intro h;simp only [dO] at h;by_cases hs:s=t
      ·subst hs;rw [Ax] at h;cases h;exact ⟨x,Ax _ _ _,rfl⟩
      ·rw [A5 _ _ hs] at h;rw [A5 _ _ hs];exact ih h
    obtain ⟨d0,h1,rfl⟩:=this hlt;exact (hc.env t d0 h1).frz hJ hg hJr
   defers:=hc.defers.ext hE }
 refine (h b cs J μ a w items hd hc').mono λe' a' w' hp=>hp.back (.refl _ _) ?_;exact hE
end
end Go.Hk
namespace Go.Hk
structure aB where
 f:FuncId
 das:List D
 ob:List Prop
 dst:Option Nat
 o:Oper
 all:List Oper
def ZI (n:Nat) (env:Env) (todo:List DI):Option aB :=
 match Bg todo ([],[]) with
 | some (all,o,_)=>match o.guard,o.op with
  | none,.call { callee:=.value (.func f),args:=⟨args⟩,.. }=>match Ir True env args,BH n o.dst with
   | some (ds,ob),true=>some ⟨f,ds,ob,o.dst,o,all⟩
   | _,_=>none
  | none,.call { callee:=.value (.tmp t),args:=⟨args⟩,.. }=>match lk env t,Ir True env args,BH n o.dst with
   | some (.imm (.fn (.func f))),some (ds,ob),true=>some ⟨f,ds,ob,o.dst,o,all⟩
   | some (.fn (.func f) df dc),some (ds,ob),true=>some ⟨f,df++ds++dc,ob,o.dst,o,all⟩
   | _,_,_=>none
  | _,_=>none
 | none=>none
def fY:List (Nat×Nat)->List Nat
 | []=>[]
 | (_,b)::r=>b::fY r
def Gs:List (Nat×Nat)->List Nat
 | []=>[]
 | (a,_)::r=>a::Gs r
def LI (σ τ1:List (Nat×Nat)) (das:List D) (st0:St) (d:D) (st1:St) (fr:List Nat):Bool :=
 Dy σ (Bm σ) (I6 das)&&Dy σ (Bm σ) (Gs σ)&&Pe (fY σ) (Ey st0)&&Dy (Bm σ++τ1) (σ++Bm τ1) (IR d)&&Dy (Bm σ++τ1) (σ++Bm τ1) (Fw st1)&&Pe (fY τ1) fr
theorem Ul:∀l:List (Nat×Nat),fY l=l.map (·.2)
 | []=>rfl
 | (a,b)::r=>by simp [fY,Ul r]
theorem KX:∀l:List (Nat×Nat),Gs l=l.map (·.1)
 | []=>rfl
 | (a,b)::r=>by simp [Gs,KX r]
section
variable {P:Program} {n:Nat} {F:List Nat} {Q:DQ} {tt:TT} {env:Env} {st st0 st1:St} {ids ids' fr:List Nat} {k todo todo':List DI} {I:Imm} {μ:Mu} {w:World} {Pn:V->Prop} {d:D} {σ τ1:List (Nat×Nat)} {das:List D}
theorem NA (h:LI σ τ1 das st0 d st1 fr=true):ZZ σ τ1 das st0 d st1 fr:=by
 simp only [LI,Bool.and_eq_true] at h;obtain ⟨⟨⟨⟨⟨h1,h2⟩,h3⟩,h4⟩,h5⟩,h6⟩:=h;exact ⟨h1,by rw [<- KX];exact h2,λp hp=>FW h3 _ (by rw [Ul];exact List.mem_map_of_mem hp),h4,h5,λp hp=>FW h6 _ (by rw [Ul];exact List.mem_map_of_mem hp)⟩
theorem GP (hag:Agree (Gs σ) st st1):∀{st0:St},FU σ st st0->FU σ st1 st0
 | [],_=>trivial
 | (i,none)::_,h=>h.elim
 | (i,some b)::r,h=>by
  refine ⟨?_,GP hag h.2⟩;have h1:=h.1;cases ha:lk (Bm σ) i with
  | none=>simp [ha] at h1
  | some a =>
   simp only [ha] at h1 ⊢;refine ⟨h1.1,?_⟩;have hm:a∈Gs σ:=by rw [KX];exact List.mem_map.2 ⟨(a,i),Kk ha,rfl⟩
   rw [hag a hm];exact h1.2
theorem mR {all:List Oper} {o:Oper} {f:FuncId} (hg:o.guard=none) (hc:En P o env f das True) (hE:Bt P f (FD (DY σ) das) st0 (.ret d st1)) (hb:FU σ st st0) (hn:LI σ τ1 das st0 d st1 fr=true) :
  LD P Pn all o env st (Gs σ) fr (Ep (Bm σ++τ1) st1++Cs (Gs σ)) (JF (DY (Bm σ++τ1)) d):=by
 intro I μ st2 ids1 a w hag hst hon;refine ⟨λ_=>?_,λhw=>by rw [AG hg] at hw;cases hw⟩;obtain ⟨xs,h1,h2⟩:=hc I μ a w (Bc hon) trivial;have hb':=GP hag hb;have hN:=NA hn;obtain ⟨q1,q2,q3⟩:=FT hst hb' hN.args h1;rw [h2];refine (hE I _ w xs q1 q2).mono (λu w' hu=>?_) (λ_ _ h=>h.elim);obtain ⟨I',μ',r1,r2,r3,r4⟩:=hu;obtain ⟨ν,s1,s2,s3,s4⟩:=IP hst hb' hN r1 r2 r3 r4 q3;rw [<- KX] at s1 s4;exact ⟨I',ν,s1,s2,s3,s4⟩
theorem WC {c:aB} (h:ZI n env todo=some c) (hob:AA c.ob):(∀f,∃todo',Bg todo f=some (c.all,c.o,todo'))/\c.o.guard=none/\En P c.o env c.f c.das True/\BH n c.dst=true/\(∀x,c.o.op ≠ .defer x)/\c.dst=c.o.dst:=by
 unfold ZI at h;have hnext:∀{all:List Oper} {o:Oper} {t:List DI},Bg todo ([],[])=some (all,o,t)->∀f,∃todo',Bg todo f=some (all,o,todo'):=by
  intro all o t h f;rcases I8 h with ⟨r,k,rfl,_⟩ | ⟨r,fs,k,rfl,_⟩
  ·exact ⟨_,rfl⟩
  ·exact ⟨_,rfl⟩
 split at h
 ·rename_i all o t h1
  split at h
  ·rename_i f args ts hg ho
   split at h
   ·rename_i ds ob ha hd;cases h;exact ⟨hnext h1,hg,Fu ho ha hob,hd,(λx hx=>by rw [ho] at hx;cases hx),rfl⟩
   ·cases h
  ·rename_i t' args ts hg ho
   split at h
   ·rename_i f ds ob ht ha hd;cases h;exact ⟨hnext h1,hg,EA ho ht ha hob,hd,(λx hx=>by rw [ho] at hx;cases hx),rfl⟩
   ·rename_i f df dc ds ob ht ha hd;cases h;exact ⟨hnext h1,hg,It ho ht ha hob,hd,(λx hx=>by rw [ho] at hx;cases hx),rfl⟩
   ·cases h
  ·cases h
 ·cases h
theorem AC {c:aB} (σ τ1:List (Nat×Nat)) {fr:List Nat} {nm:List Nat} (h:ZI n env todo=some c) (hob:AA c.ob) (hE:Bt P c.f (FD (DY σ) c.das) st0 (.ret d st1)) (hb:FU σ st st0)
  (hn:LI σ τ1 c.das st0 d st1 fr=true) (hnm:(Ep (Bm σ++τ1) st1++Cs (Gs σ)).map (·.1)=nm) (h1:Bg todo (Gs σ,nm)=some (c.all,c.o,todo')) (hids:ids=fr++ids')
  (hk:G P n F Q todo' (B9 c.dst (JF (DY (Bm σ++τ1)) d) env) (Ep (Bm σ++τ1) st1++Cs (Gs σ)++st) ids'):G P n F Q todo env st ids:=by
 obtain ⟨_,q2,q3,q4,q5,q6⟩:=WC (P:=P) h hob;subst hids;rw [q6] at q4 hk;subst hnm;exact B6 h1 (mR q2 q3 hE hb hn) q4 q5 hk
theorem AD {c:aB} {x:V} {all rest:List Oper} {o:Oper} (σ:List (Nat×Nat)) (h:ZI n env (.ops all (o::rest)::k)=some c) (hob:AA c.ob) (hE:Bt P c.f (FD (DY σ) c.das) st0 (.pan x)) (hb:FU σ st st0)
  (hn:Dy σ (Bm σ) (I6 c.das)=true) (hq:Mz Q x):DGo P n F Q (.ops all (o::rest)::k) env st ids:=by
 obtain ⟨q1,q2,q3,q4,q5,_⟩:=WC (P:=P) h hob;obtain ⟨t,ht⟩:=q1 ([],[]);simp only [Bg,Option.some.injEq,Prod.mk.injEq] at ht;obtain ⟨_,ho,_⟩:=ht;subst ho;intro b cs I μ a w items hd hc;obtain ⟨j,is,rfl,hr,hk⟩:=J4 hd;obtain ⟨hj,_⟩:=Eb hr;have hon:KF (c.o.looksAt all.toArray) I μ env a:=λt _ d hl=>hc.env t d hl;have hlen:(c.o::rest).length=rest.length+1:=rfl;rw [hlen,List.range'_succ];refine Gn hj (AG q2) q5 ?_;obtain ⟨xs,h1,h2⟩:=q3 I μ a w (Bc hon) trivial;obtain ⟨p1,p2,p3⟩:=FT hc.toStRep hb hn h1;rw [h2];refine valX.upon ((hE I _ w xs p1 p2).mono (λ_ _ h=>h.elim) λchain w' hp=>?_);obtain ⟨v,y,I',r1,r2,r3,r4,r5⟩:=hp;subst r2
 have hE':Ext I μ st w I' μ [] w':={ imm:=r5.imm,os:=r5.os,tape:=r5.tape,output:=r5.output,size:=r5.size,block:=λb hb ho=>r5.block b hb (λh=>ho (p3 b h)),fresh:=λb hb ⟨i,bi,g,h1,_⟩=>by simp [Az,lk] at h1,old:=λb hb ho=>r5.old b hb (λh=>ho (p3 b h)) }
 exact ⟨.panic y,[],[],[],I',μ,⟨v,r1,r3⟩,hq,MX r4 hc.size (hc.defers.ext hE'),.refl _ _,hE',.refl _ _⟩
end
end Go.Hk
namespace Go.Hk
open Go.Proofs
theorem EQ:Tryz.prog.follows .mixedOrders=true:=by kernel_rfl
def Xt:TT:=[
 (4,⟨.bool,false,1,1,[.imm (.bool false)]⟩),
 (3,⟨.int .i64,false,1,8,[.imm (.int .i64 0)]⟩),
 (9,⟨.str,false,1,16,[.imm (.str [])]⟩),
 (165,⟨.struct [(0,162),(1,3),(2,9),(3,163),(4,27)],true,5,80,[.imm (.int .i64 0),.imm (.int .i64 0),.imm (.str []),.nils,.nils]⟩),
 (26,⟨.struct [(0,23),(1,3),(2,9),(3,24)],true,4,56,[.imm (.int .i64 0),.imm (.int .i64 0),.imm (.str []),.nils]⟩),
 (69,⟨.struct [(0,67),(1,3),(2,9),(3,27)],true,4,56,[.imm (.int .i64 0),.imm (.int .i64 0),.imm (.str []),.nils]⟩),
 (162,⟨.int .i64,false,1,8,[.imm (.int .i64 0)]⟩),
 (27,⟨.sl 69,false,1,24,[.nils]⟩),
 (5,⟨.int .u8,false,1,1,[.imm (.int .u8 0)]⟩),
 (24,⟨.sl 26,false,1,24,[.nils]⟩),
 (23,⟨.int .i64,false,1,8,[.imm (.int .i64 0)]⟩),
 (172,⟨.sl 9,false,1,24,[.nils]⟩),
 (163,⟨.sl 165,false,1,24,[.nils]⟩),
 (67,⟨.int .i64,false,1,8,[.imm (.int .i64 0)]⟩),
 (167,⟨.struct [(0,9),(1,9),(2,26),(6,26),(10,165)],true,15,224,[.imm (.str []),.imm (.str []),.imm (.int .i64 0),.imm (.int .i64 0),.imm (.str []),.nils,.imm (.int .i64 0),.imm (.int .i64 0),.imm (.str []),.nils,.imm (.int .i64 0),.imm (.int .i64 0),.imm (.str []),.nils,.nils]⟩),
 (171,⟨.struct [(0,9),(1,22),(2,169)],true,3,64,[.imm (.str []),.nils,.nils]⟩),
 (75,⟨.struct [(0,9),(1,24)],true,2,40,[.imm (.str []),.nils]⟩),
 (22,⟨.sl 72,false,1,24,[.nils]⟩),
 (169,⟨.sl 167,false,1,24,[.nils]⟩),
 (72,⟨.struct [(0,9),(1,70)],true,2,40,[.imm (.str []),.nils]⟩),
 (70,⟨.sl 75,false,1,24,[.nils]⟩),
 (37,⟨.int .i64,false,1,8,[.imm (.int .i64 0)]⟩)]
theorem BM:TTok Tryz.prog Xt:=.of_eq (l:=[4,3,9,165,26,69,162,27,5,24,23,172,163,67,167,171,75,22,169,72,70,37]) (by kernel_rfl)
def qL:Code->Code
 | .seq _ b=>b
 | _=>.skip
def Gi (f:Func):Nat->Code
 | 0=>match f.body with
  | some c=>c
  | none=>.skip
 | k+1=>qL (Gi f k)
section
variable {n:Nat} {F:List Nat} {Q:DQ} {env env':Env} {st st':St} {ids ids':List Nat} {k todo:List DI} {ob:List Prop}
theorem kd (path:List Pt) (h:run Xt n 300 path todo env st ids [] = .at k env' st' ids' ob) (hob:AA ob) (hd:G Tryz.prog n F Q k env' st' ids'):DGo Tryz.prog n F Q todo env st ids:=Lx BM EQ 300 path h hob hd
theorem BG (h:run Xt n 300 [] todo env st ids [] = .at k env' st' ids' ob) (hd:G Tryz.prog n F Q k env' st' ids') (hob:AA ob:=by simp):DGo Tryz.prog n F Q todo env st ids:=kd [] h hob hd
theorem kdqc (h:run Xt n 300 [] todo env st ids [] = .at k env' st' ids' ob) (hd:G Tryz.prog n F Q k env' st' ids') (hob:AA ob:=by simp [Ap]):DGo Tryz.prog n F Q todo env st ids:=kd [] h hob hd
theorem kg (path:List Pt) (h:run Xt n 300 path todo env st ids [] = .at k env' st' ids' ob) (hob:AA ob) (hd:G Tryz.prog n F Q k env' st' ids'):G Tryz.prog n F Q todo env st ids:=Ky BM EQ 300 path h hob hd
theorem Bi (h:run Xt n 300 [] todo env st ids [] = .at k env' st' ids' ob) (hd:G Tryz.prog n F Q k env' st' ids') (hob:AA ob:=by simp):G Tryz.prog n F Q todo env st ids:=kg [] h hob hd
theorem kgqc (h:run Xt n 300 [] todo env st ids [] = .at k env' st' ids' ob) (hd:G Tryz.prog n F Q k env' st' ids') (hob:AA ob:=by simp [Ap]):G Tryz.prog n F Q todo env st ids:=kg [] h hob hd
theorem ki {es:List (List V)} {m:Int} {sz:Nat} {e:TypeId} {g:Option (Bool×Bool)} {ob:List Prop} {t:Nat} {todo':List DI} {c:List V} (h:Pm Xt n env todo=some ⟨es,m,sz,e,g,ob,some t,todo'⟩)
  (hc:Ap g->0<=m/\es[m.toNat]?=some c/\c.length=sz) (hob:AA ob) (hk:G Tryz.prog n F Q todo' ((t,gD g (.ip e c 0))::env) st ids):G Tryz.prog n F Q todo env st ids:=Ge BM h hc hob hk
end
abbrev Str:=List UInt8
inductive Ty where
 | mk (s n:Int) (x:Str) (ps:List Ty)
mutual
def Ao:Ty->List V
 | .mk s n x ps=>[.int .i64 s,.int .i64 n,.str x,.sl (Bx ps)]
def Bx:List Ty->List (List V)
 | []=>[]
 | t::r=>Ao t::Bx r
end
inductive Tm where
 | mk (op n:Int) (x:Str) (ks:List Tm) (ps:List Ty)
mutual
def CL:Tm->List V
 | .mk op n x ks ps=>[.int .i64 op,.int .i64 n,.str x,.sl (LS ks),.sl (Bx ps)]
def LS:List Tm->List (List V)
 | []=>[]
 | t::r=>CL t::LS r
end
structure Cd where
 name:Str
 args:List Ty
structure Dt where
 name:Str
 cons:List Cd
structure Fd where
 name:Str
 param:Str
 from_:Ty
 to_:Ty
 body:Tm
structure Md where
 name:Str
 datas:List Dt
 funs:List Fd
def CM (c:Cd):List V:=[.str c.name,.sl (Bx c.args)]
def Cv (d:Dt):List V:=[.str d.name,.sl (d.cons.map CM)]
def Pu (f:Fd):List V:=[.str f.name,.str f.param]++Ao f.from_++Ao f.to_++CL f.body
def UK (m:Md):List V:=[.str m.name,.sl (m.datas.map Cv),.sl (m.funs.map Pu)]
def DT (l:List Str):List (List V):=l.map λs=>[.str s]
theorem C8:∀l:List Ty,Bx l=l.map Ao
 | []=>rfl
 | t::r=>by simp [Bx,C8 r]
theorem UJ:∀l:List Tm,LS l=l.map CL
 | []=>rfl
 | t::r=>by simp [LS,UJ r]
@[simp] theorem dTys_length (l:List Ty):(Bx l).length=l.length:=by rw [C8];simp
@[simp] theorem dTms_length (l:List Tm):(LS l).length=l.length:=by rw [UJ];simp
@[simp] theorem dTyc_length (t:Ty):(Ao t).length=4:=by cases t;rfl
@[simp] theorem dTmc_length (t:Tm):(CL t).length=5:=by cases t;rfl
@[simp] theorem dStr_length (l:List Str):(DT l).length=l.length:=by simp [DT]
theorem A4 {l:List Ty} {i:Nat} {t:Ty} (h:l[i]?=some t):(Bx l)[i]?=some (Ao t):=by rw [C8];simp [h]
theorem IM {l:List Tm} {i:Nat} {t:Tm} (h:l[i]?=some t):(LS l)[i]?=some (CL t):=by rw [UJ];simp [h]
theorem WL {l:List Str} {i:Nat} {t:Str} (h:l[i]?=some t):(DT l)[i]?=some [.str t]:=by simp [DT,h]
theorem K6 (a b:List Ty):Bx (a++b)=Bx a++Bx b:=by simp [C8]
theorem ER (a b:List Str):DT (a++b)=DT a++DT b:=by simp [DT]
theorem Av {α:Type} {l:List α} {i:Nat} {t:α} (h:l[i]?=some t):l.drop i=t::l.drop (i+1):=by
 obtain ⟨h1,h2⟩:=List.getElem?_eq_some_iff.1 h;rw [<- h2];exact List.drop_eq_getElem_cons h1
theorem Bh {α:Type} {l:List α} {i:Nat} {t:α} (h:l[i]?=some t):l.take (i+1)=l.take i++[t]:=by
 rw [List.take_add_one,h];rfl
theorem As {α:Type} {l:List α} {i:Nat} (h:i<l.length):∃t,l[i]?=some t:=⟨_,List.getElem?_eq_getElem h⟩
end Go.Hk
namespace Go.Hk
open Go.Proofs
def G6:List Str->Str->Bool
 | [],_=>false
 | x::r,s=>x == s||G6 r s
theorem lH (l:List Str) (s:Str):Al Tryz.prog 143 [.sl (DT l),.str s] (.bool (G6 l s)):=by
 refine AW λhv=>?_;simp [Ct,ET,maxLen] at hv;refine Ae BM Tryz.func143 (by decide +kernel) rfl [1,2] rfl rfl ?_;refine Bi rfl ?_;refine An (λi:Nat=>[(5,.imm (.int .i64 i)),(0,.imm (.sl (DT l))),(1,.imm (.str s))]) (λ_=>[]) [1] (λi=>l.length-i) (λi=>i<=l.length/\G6 l s=G6 (l.drop i) s) 0
  ⟨Nat.zero_le _,rfl⟩ ⟨rfl,rfl,rfl,trivial⟩ trivial rfl λi hi ih=>?_
 refine BG rfl ?_;refine Ab rfl (λh=>?_) (λh=>?_)
 ·simp at h;obtain ⟨t,ht⟩:=As h;refine BG rfl ?_;refine ki rfl (c:=[.str t]) (λ_=>⟨by simp,by simpa using WL ht,rfl⟩) (by simp) ?_;refine Bi rfl ?_;have e:=hi.2;rw [Av ht] at e;refine Ab rfl (λh=>?_) (λh=>?_)
  ·refine BG rfl ?_;refine Aa rfl rfl (congrArg _ ?_);rw [e];simp [G6,h]
  ·refine BG rfl ?_;refine Ad (ih (i+1) (by omega) ⟨by omega,by rw [e];simp [G6,h]⟩) ⟨A0 (B2 (by omega) (by omega)),rfl,rfl,trivial⟩ trivial rfl
 ·refine BG rfl ?_;refine Aa rfl rfl (congrArg _ ?_);simp at h;rw [hi.2,List.drop_eq_nil_of_le (by omega)];rfl
def EF (s:Str):Bool:=s.all λc=>97<=c&&c<=122
theorem Oz {s:Str} {i:Nat} {c:UInt8} (h:s[i]?=some c):EF (s.drop i)=((97<=c&&c<=122)&&EF (s.drop (i+1))):=by
 rw [Av h];simp [EF]
theorem Vu (s:Str) (hs:s.length<=9223372036854775806):Al Tryz.prog 179 [.str s] (.bool (EF s)):=by
 refine Ae BM Tryz.func179 (by decide +kernel) rfl [1,2] rfl rfl ?_;refine Bi rfl ?_;refine An (λi:Nat=>[(3,.imm (.int .i64 i)),(0,.imm (.str s))]) (λ_=>[]) [1] (λi=>s.length-i) (λi=>i<=s.length/\EF s=EF (s.drop i)) 0
  ⟨Nat.zero_le _,rfl⟩ ⟨rfl,rfl,trivial⟩ trivial rfl λi hi ih=>?_
 refine BG rfl ?_;refine Ab rfl (λh=>?_) (λh=>?_)
 ·simp at h;obtain ⟨c,hc⟩:=As h;have e:=hi.2;rw [Oz hc] at e;have hg:s[i]?.getD 0=c:=by rw [hc];rfl
  refine kd [] rfl (by simp [h]) ?_;refine Ab rfl (λh=>?_) (λh=>?_)
  ·refine BG rfl ?_;refine Aa rfl rfl (congrArg _ ?_);rw [e];simp [hg] at h;simp [UInt8.le_iff_toNat_le];omega
  ·refine BG rfl ?_;refine Ad (ih (i+1) (by omega) ⟨by omega,?_⟩) ⟨A0 (B2 (by omega) (by omega)),rfl,trivial⟩ trivial rfl;rw [e];simp [hg] at h;simp [UInt8.le_iff_toNat_le];omega
 ·refine BG rfl ?_;refine Aa rfl rfl (congrArg _ ?_);simp at h;rw [hi.2,List.drop_eq_nil_of_le (by omega)];rfl
def IB:List Str:=[[98,111,111,108],[99,101,108,108],[99,104,97,110],[101,108,115,101],[102,97,108,115,101],[102,117,110],[103,101,116],[105,102],[105,110],[105,110,112,117,116],[105,110,116],[106,111,105,110],[108,101,116],[109,97,116,99,104],[109,111,100,117,108,101],[111,117,116],[112,97,117,115,101],[112,117,116],[114,101,115,101,116],[115,101,110,100],[115,104,105,102,116],[115,112,97,119,110],[116,97,107,101],[116,97,115,107],[116,104,101,110],[116,114,117,101],[116,121,112,101],[117,110,105,116]]
theorem Wg:Al Tryz.prog 196 [] (.sl (DT IB)):=by
 refine Ae BM Tryz.func196 (by decide +kernel) rfl [1,2] rfl rfl ?_;refine Bi rfl ?_;refine Au ⟨_,rfl,?_,trivial⟩;rfl
def U8 (s:Str):Bool:=G6 IB s
theorem qH (s:Str):Al Tryz.prog 180 [.str s] (.bool (U8 s)):=by
 refine Ae BM Tryz.func180 (by decide +kernel) rfl [1,2] rfl rfl ?_;refine Bi rfl ?_;refine Ag rfl Wg ?_;refine Bi rfl ?_;refine Af rfl (λ_=>lH IB s) (by simp) ?_;refine Bi rfl ?_;exact Aa rfl rfl rfl
def EO (s:Str):Bool:=decide (1<=s.length)&&decide (s.length<=8)&&EF s && !U8 s
def De (s:Str):Bool:=decide (1<=s.length)&&decide (s.length<=8)&&(65<=s.getD 0 0&&s.getD 0 0<=90)&&EF (s.drop 1)
def Fp (x lo hi:Int):Bool:=decide (lo<=x)&&decide (x<=hi)
theorem Ii (s:Str):Al Tryz.prog 139 [.str s] (.bool (EO s)):=by
 refine Ae BM Tryz.func139 (by decide +kernel) rfl [1,2] rfl rfl ?_;refine Bi rfl ?_;refine Af rfl (v:=.bool (EF s)) (λh=>Vu s ?_) (by simp [Ap]) ?_
 ·simp [Ap] at h;omega
 refine Bi rfl ?_;refine Af rfl (v:=.bool (U8 s)) (λh=>qH s) (by simp [Ap]) ?_;refine Bi rfl ?_;refine Aa rfl rfl (congrArg _ ?_);simp [EO]
 norm_cast
theorem MH (x lo hi:Int):Al Tryz.prog 140 [.int .i64 x,.int .i64 lo,.int .i64 hi] (.bool (Fp x lo hi)):=by
 refine Ae BM Tryz.func140 (by decide +kernel) rfl [1,2] rfl rfl ?_;refine Bi rfl ?_;refine Aa rfl rfl (congrArg _ ?_);simp [Fp]
theorem IQ (s:Str):Al Tryz.prog 144 [.str s] (.bool (De s)):=by
 refine Ae BM Tryz.func144 (by decide +kernel) rfl [1,2] rfl rfl ?_;refine kg [] rfl (by simp [Ap];omega) ?_;refine Af rfl (v:=.bool (EF (s.drop 1))) (λh=>Vu _ ?_) (by simp [Ap]) ?_
 ·simp [Ap] at h;simp;omega
 refine Bi rfl ?_;refine Aa rfl rfl (congrArg _ ?_);simp [De,UInt8.le_iff_toNat_le,Bool.and_assoc]
 norm_cast
mutual
def Bz:Ty->Int->Int
 | .mk _ _ _ ps,l=>if l<1 then -1 else BY ps (l-1)
def BY:List Ty->Int->Int
 | [],l=>l
 | t::r,l=>if 0<=l then BY r (Bz t l) else l
end
mutual
theorem IT:∀(t:Ty) (l:Int),-1<=Bz t l/\(-1<=l->Bz t l<=l)
 | .mk _ _ _ ps,l=>by
  simp only [Bz];by_cases h:l<1
  ·rw [if_pos h];omega
  ·rw [if_neg h];have:=JK ps (l-1) (by omega);omega
theorem JK:∀(ts:List Ty) (l:Int),-1<=l -> -1<=BY ts l/\BY ts l<=l
 | [],l,h=>by simp [BY,h]
 | t::r,l,h=>by
  simp only [BY];by_cases h0:0<=l
  ·rw [if_pos h0];have h1:=IT t l;have h2:=JK r (Bz t l) h1.1;omega
  ·rw [if_neg h0];omega
end
theorem GR:∀(t:Ty) (l:Int),-9223372036854775808<=l->l<=9223372036854775807->Al Tryz.prog 24 [.agg (Ao t),.int .i64 l] (.int .i64 (Bz t l))
 | .mk s n x ps,l,hl0,hl1=>by
  refine AW λhv=>?_;simp [Ct,ET,Ao,maxLen] at hv;refine Ae BM Tryz.func24 (by decide +kernel) rfl [1,2,3] rfl rfl ?_;refine Bi rfl ?_;refine Ab rfl (λh=>?_) (λh=>?_)
  ·refine BG rfl ?_;refine Aa rfl rfl (congrArg _ ?_);simp at h;simp [Bz,h]
  simp at h;refine BG rfl ?_;refine An (λx:Nat×Int=>[(5,.imm (.int .i64 x.1)),(1,.imm (.int .i64 x.2)),(2,.ref 1 0)]) (λ_=>[(1,some (.immb 26 4 (Ao (.mk s n x ps))))]) [2,3] (λx=>ps.length-x.1)
   (λy=>y.1<=ps.length/\Bz (.mk s n x ps) l=BY (ps.drop y.1) y.2 /\ -1<=y.2/\y.2<l) (0,l-1)
   ⟨Nat.zero_le _,by simp [Bz];omega,by simp only;omega,by simp only;omega⟩ ⟨rfl,A0 (B2 (by omega) (by omega)),rfl,trivial⟩ ⟨rfl,trivial⟩ rfl λy hi ih=>?_
  obtain ⟨i,m⟩:=y;obtain ⟨hi1,hi2,hi3,hi4⟩:=hi;simp only at hi1 hi2 hi3 hi4;refine BG rfl ?_;refine Ab rfl (λh=>?_) (λh=>?_)
  ·simp at h;obtain ⟨t,ht⟩:=As (l:=ps) (i:=i) (by omega);rw [Av ht] at hi2;refine BG rfl ?_;refine ki rfl (c:=Ao t) (λ_=>⟨by simp,by simpa using A4 ht,by simp⟩) (by simp) ?_;refine Bi rfl ?_;refine Af rfl (λ_=>GR t m (by omega) (by omega)) (by simp) ?_;refine Bi rfl ?_;have hb:=IT t m;refine Ad (ih (i+1,Bz t m) (by simp only;omega) ⟨by simp only;omega,by simp only;rw [hi2];simp [BY];omega,by simp only;omega,by simp only;omega⟩) ⟨A0 (B2 (by omega) (by omega)),rfl,rfl,trivial⟩ ⟨rfl,trivial⟩ rfl
  ·refine BG rfl ?_;refine Aa rfl rfl (congrArg _ ?_);rw [hi2];simp at h;by_cases hlt:i<ps.length
   ·obtain ⟨t,ht⟩:=As hlt;rw [Av ht];simp [BY];omega
   ·rw [List.drop_eq_nil_of_le (by omega)];simp [BY]
termination_by t=>SizeOf.sizeOf t
decreasing_by
 have:=List.sizeOf_lt_of_mem (List.mem_of_getElem? ht);simp_wf;omega
theorem KD:∀(t:Ty) (l:Int),-9223372036854775808<=l->l<=9223372036854775807->Al Tryz.prog 25 [.agg (Ao t),.int .i64 l] (.int .i64 (Bz t l))
 | .mk s n x ps,l,hl0,hl1=>by
  refine AW λhv=>?_;simp [Ct,ET,Ao,maxLen] at hv;refine Ae BM Tryz.func25 (by decide +kernel) rfl [1,2,3] rfl rfl ?_;refine Bi rfl ?_;refine Ab rfl (λh=>?_) (λh=>?_)
  ·refine BG rfl ?_;refine Aa rfl rfl (congrArg _ ?_);simp at h;simp [Bz,h]
  simp at h;refine BG rfl ?_;refine An (λx:Nat×Int=>[(5,.imm (.int .i64 x.1)),(1,.imm (.int .i64 x.2)),(2,.ref 1 0)]) (λ_=>[(1,some (.immb 69 4 (Ao (.mk s n x ps))))]) [2,3] (λx=>ps.length-x.1)
   (λy=>y.1<=ps.length/\Bz (.mk s n x ps) l=BY (ps.drop y.1) y.2 /\ -1<=y.2/\y.2<l) (0,l-1)
   ⟨Nat.zero_le _,by simp [Bz];omega,by simp only;omega,by simp only;omega⟩ ⟨rfl,A0 (B2 (by omega) (by omega)),rfl,trivial⟩ ⟨rfl,trivial⟩ rfl λy hi ih=>?_
  obtain ⟨i,m⟩:=y;obtain ⟨hi1,hi2,hi3,hi4⟩:=hi;simp only at hi1 hi2 hi3 hi4;refine BG rfl ?_;refine Ab rfl (λh=>?_) (λh=>?_)
  ·simp at h;obtain ⟨t,ht⟩:=As (l:=ps) (i:=i) (by omega);rw [Av ht] at hi2;refine BG rfl ?_;refine ki rfl (c:=Ao t) (λ_=>⟨by simp,by simpa using A4 ht,by simp⟩) (by simp) ?_;refine Bi rfl ?_;refine Af rfl (λ_=>KD t m (by omega) (by omega)) (by simp) ?_;refine Bi rfl ?_;have hb:=IT t m;refine Ad (ih (i+1,Bz t m) (by simp only;omega) ⟨by simp only;omega,by simp only;rw [hi2];simp [BY];omega,by simp only;omega,by simp only;omega⟩) ⟨A0 (B2 (by omega) (by omega)),rfl,rfl,trivial⟩ ⟨rfl,trivial⟩ rfl
  ·refine BG rfl ?_;refine Aa rfl rfl (congrArg _ ?_);rw [hi2];simp at h;by_cases hlt:i<ps.length
   ·obtain ⟨t,ht⟩:=As hlt;rw [Av ht];simp [BY];omega
   ·rw [List.drop_eq_nil_of_le (by omega)];simp [BY]
termination_by t=>SizeOf.sizeOf t
decreasing_by
 have:=List.sizeOf_lt_of_mem (List.mem_of_getElem? ht);simp_wf;omega
def Ci (holes:Bool) (s n:Int) (x:Str) (k:Nat):Bool :=
 if s=1\/s=2\/s=3 then ((k:Int) == 0)&&n == 0&&x == []
 else if s=4 then ((k:Int) == 2)&&n == 0&&x == []
 else if s=5\/s=6\/s=7 then ((k:Int) == 1)&&n == 0&&x == []
 else if s=8 then ((k:Int) == 0)&&n == 0&&De x
 else if s=9 then holes&&((k:Int) == 0)&&x == []&&Fp n 0 99
 else false
mutual
def CP (holes:Bool):Ty->Bool
 | .mk s n x ps=>Ci holes s n x ps.length&&CW holes ps
def CW (holes:Bool):List Ty->Bool
 | []=>true
 | t::r=>CP holes t&&CW holes r
end
theorem Vr (holes:Bool):∀(t:Ty),Al Tryz.prog 95 [.agg (Ao t),.bool holes] (.bool (CP holes t))
 | .mk s n x ps=>by
  refine AW λhv=>?_;simp [Ct,ET,Ao,maxLen] at hv;refine Ae BM Tryz.func95 (by decide +kernel) rfl [1,2,3] rfl rfl ?_;have J:∀is:Bool,is=Ci holes s n x ps.length->DGo Tryz.prog Tryz.f95.ntmps (Ey []) (Nk Xt Tryz.f95.results.toList (.ret (.imm (.bool (CP holes (.mk s n x ps)))) []))
    [.code (Gi Tryz.f95 4)] [(6,.imm (.bool is)),(5,.imm (.int .i64 ps.length)),(1,.imm (.bool holes)),(2,.ref 1 0)] [(1,some (.immb 26 4 (Ao (.mk s n x ps))))] [2,3]:=by
   intro is his;refine BG rfl ?_;refine An (λy:Nat×Bool=>[(7,.imm (.int .i64 y.1)),(6,.imm (.bool y.2)),(5,.imm (.int .i64 ps.length)),(1,.imm (.bool holes)),(2,.ref 1 0)]) (λ_=>[(1,some (.immb 26 4 (Ao (.mk s n x ps))))]) [2,3] (λy=>ps.length-y.1)
    (λy=>y.1<=ps.length/\CP holes (.mk s n x ps)=(y.2&&CW holes (ps.drop y.1))) (0,is) ⟨Nat.zero_le _,by simp [CP,his]⟩ ⟨rfl,rfl,rfl,rfl,rfl,trivial⟩ ⟨rfl,trivial⟩ rfl λy hi ih=>?_
   obtain ⟨i,b⟩:=y;obtain ⟨hi1,hi2⟩:=hi;simp only at hi1 hi2;refine BG rfl ?_;refine Ab rfl (λh=>?_) (λh=>?_)
   ·simp at h;obtain ⟨t,ht⟩:=As (l:=ps) (i:=i) (by omega);rw [Av ht] at hi2;refine BG rfl ?_;refine ki rfl (c:=Ao t) (λ_=>⟨by simp,by simpa using A4 ht,by simp⟩) (by simp) ?_;refine Bi rfl ?_;refine Af rfl (λ_=>Vr holes t) (by simp) ?_;refine Bi rfl ?_;refine Ad (ih (i+1,CP holes t) (by simp only;omega) ⟨by simp only;omega,by simp only;rw [hi2,h.2];simp [CW]⟩) ⟨A0 (B2 (by omega) (by omega)),rfl,rfl,rfl,rfl,trivial⟩ ⟨rfl,trivial⟩ rfl
   ·refine BG rfl ?_;refine Aa rfl rfl (congrArg _ ?_);rw [hi2];simp at h;by_cases hlt:i<ps.length
    ·rw [h hlt];rfl
    ·rw [List.drop_eq_nil_of_le (by omega)];simp [CW]
  by_cases h1:s=1
  ·subst h1;refine kg [.a,.a,.s] rfl (by simp) ?_;exact Ad (J _ (by simp [Ci])) ⟨rfl,A0 (by simp),rfl,rfl,trivial⟩ ⟨rfl,trivial⟩ rfl
  by_cases h2:s=2
  ·subst h2;refine kg [.a,.a,.a,.s] rfl (by simp) ?_;exact Ad (J _ (by simp [Ci])) ⟨rfl,A0 (by simp),rfl,rfl,trivial⟩ ⟨rfl,trivial⟩ rfl
  by_cases h3:s=3
  ·subst h3;refine kg [.a,.a,.a,.s] rfl (by simp) ?_;exact Ad (J _ (by simp [Ci])) ⟨rfl,A0 (by simp),rfl,rfl,trivial⟩ ⟨rfl,trivial⟩ rfl
  by_cases h4:s=4
  ·subst h4;refine kg [.a,.a,.a,.a,.s] rfl (by simp) ?_;exact Ad (J _ (by simp [Ci])) ⟨rfl,A0 (by simp),rfl,rfl,trivial⟩ ⟨rfl,trivial⟩ rfl
  by_cases h5:s=5
  ·subst h5;refine kg [.a,.a,.a,.a,.a,.a,.s] rfl (by simp) ?_;exact Ad (J _ (by simp [Ci])) ⟨rfl,A0 (by simp),rfl,rfl,trivial⟩ ⟨rfl,trivial⟩ rfl
  by_cases h6:s=6
  ·subst h6;refine kg [.a,.a,.a,.a,.a,.a,.a,.s] rfl (by simp) ?_;exact Ad (J _ (by simp [Ci])) ⟨rfl,A0 (by simp),rfl,rfl,trivial⟩ ⟨rfl,trivial⟩ rfl
  by_cases h7:s=7
  ·subst h7;refine kg [.a,.a,.a,.a,.a,.a,.a,.s] rfl (by simp) ?_;exact Ad (J _ (by simp [Ci])) ⟨rfl,A0 (by simp),rfl,rfl,trivial⟩ ⟨rfl,trivial⟩ rfl
  by_cases h8:s=8
  ·subst h8;refine kg [.a,.a,.a,.a,.a,.a,.a,.a] rfl (by simp) ?_;refine Af rfl (λ_=>IQ x) (by simp [Ap]) ?_;refine kg [.s] rfl (by simp) ?_;exact Ad (J _ (by simp [Ci])) ⟨rfl,A0 (by simp),rfl,rfl,trivial⟩ ⟨rfl,trivial⟩ rfl
  by_cases h9:s=9
  ·subst h9;refine kg [.a,.a,.a,.a,.a,.a,.a,.a,.a] rfl (by simp) ?_;refine Af rfl (λ_=>MH n 0 99) (by simp [Ap]) ?_;refine kg [.s] rfl (by simp) ?_;exact Ad (J _ (by simp [Ci])) ⟨rfl,A0 (by simp),rfl,rfl,trivial⟩ ⟨rfl,trivial⟩ rfl
  refine kg [.f,.f,.f,.f,.f,.f,.f,.f,.f,.s] rfl (by simp [h1,h2,h3,h4,h5,h6,h7,h8,h9]) ?_;exact Ad (J _ (by simp [Ci,h1,h2,h3,h4,h5,h6,h7,h8,h9])) ⟨rfl,A0 (by simp),rfl,rfl,trivial⟩ ⟨rfl,trivial⟩ rfl
termination_by t=>SizeOf.sizeOf t
decreasing_by
 have:=List.sizeOf_lt_of_mem (List.mem_of_getElem? ht);simp_wf;omega
def F8 (t:Ty):Bool:=decide (0<=Bz t 12)&&CP false t
theorem Ni (t:Ty):Al Tryz.prog 44 [.agg (Ao t)] (.bool (F8 t)):=by
 refine Ae BM Tryz.func44 (by decide +kernel) rfl [1,2,3] rfl rfl ?_;refine Bi rfl ?_;refine Af rfl (λ_=>GR t 12 (by decide) (by decide)) (by simp) ?_;refine Bi rfl ?_;refine Af rfl (λ_=>Vr false t) (by simp [Ap]) ?_;refine Bi rfl ?_;refine Aa rfl rfl (congrArg _ ?_);simp [F8]
def DV (s n:Int) (x:Str) (k:Nat):Bool :=
 if s=1\/s=5 then ((k:Int) == 0)&&n == 0&&x == []
 else if s=2 then ((k:Int) == 0)&&n == 0&&EO x
 else if s=3 then ((k:Int) == 0)&&x == []&&Fp n (-1000000000) 1000000000
 else if s=4 then ((k:Int) == 0)&&x == []&&Fp n 0 1
 else if s=6 then decide ((k:Int)<=3)&&n == 0&&De x
 else false
mutual
def BP:Ty->Bool
 | .mk s n x ps=>DV s n x ps.length&&BF ps
def BF:List Ty->Bool
 | []=>true
 | t::r=>BP t&&BF r
end
theorem Zt:∀(t:Ty),Al Tryz.prog 97 [.agg (Ao t)] (.bool (BP t))
 | .mk s n x ps=>by
  refine AW λhv=>?_;simp [Ct,ET,Ao,maxLen] at hv;refine Ae BM Tryz.func97 (by decide +kernel) rfl [1,2,3] rfl rfl ?_;have J:∀is:Bool,is=DV s n x ps.length->DGo Tryz.prog Tryz.f97.ntmps (Ey []) (Nk Xt Tryz.f97.results.toList (.ret (.imm (.bool (BP (.mk s n x ps)))) []))
    [.code (Gi Tryz.f97 4)] [(4,.imm (.bool is)),(3,.imm (.int .i64 ps.length)),(1,.ref 1 0)] [(1,some (.immb 69 4 (Ao (.mk s n x ps))))] [2,3]:=by
   intro is his;refine BG rfl ?_;refine An (λy:Nat×Bool=>[(5,.imm (.int .i64 y.1)),(4,.imm (.bool y.2)),(3,.imm (.int .i64 ps.length)),(1,.ref 1 0)]) (λ_=>[(1,some (.immb 69 4 (Ao (.mk s n x ps))))]) [2,3] (λy=>ps.length-y.1)
    (λy=>y.1<=ps.length/\BP (.mk s n x ps)=(y.2&&BF (ps.drop y.1))) (0,is) ⟨Nat.zero_le _,by simp [BP,his]⟩ ⟨rfl,rfl,rfl,rfl,trivial⟩ ⟨rfl,trivial⟩ rfl λy hi ih=>?_
   obtain ⟨i,b⟩:=y;obtain ⟨hi1,hi2⟩:=hi;simp only at hi1 hi2;refine BG rfl ?_;refine Ab rfl (λh=>?_) (λh=>?_)
   ·simp at h;obtain ⟨t,ht⟩:=As (l:=ps) (i:=i) (by omega);rw [Av ht] at hi2;refine BG rfl ?_;refine ki rfl (c:=Ao t) (λ_=>⟨by simp,by simpa using A4 ht,by simp⟩) (by simp) ?_;refine Bi rfl ?_;refine Af rfl (λ_=>Zt t) (by simp) ?_;refine Bi rfl ?_;exact Ad (ih (i+1,BP t) (by simp only;omega) ⟨by simp only;omega,by simp only;rw [hi2,h.2];simp [BF]⟩) ⟨A0 (B2 (by omega) (by omega)),rfl,rfl,rfl,trivial⟩ ⟨rfl,trivial⟩ rfl
   ·refine BG rfl ?_;refine Aa rfl rfl (congrArg _ ?_);rw [hi2];simp at h;by_cases hlt:i<ps.length
    ·rw [h hlt];rfl
    ·rw [List.drop_eq_nil_of_le (by omega)];simp [BF]
  by_cases h1:s=1
  ·subst h1;refine kg [.a,.a,.s] rfl (by simp) ?_;exact Ad (J _ (by simp [DV])) ⟨rfl,A0 (by simp),rfl,trivial⟩ ⟨rfl,trivial⟩ rfl
  by_cases h2:s=2
  ·subst h2;refine kg [.a,.a,.a] rfl (by simp) ?_;refine Af rfl (λ_=>Ii x) (by simp [Ap]) ?_;refine kg [.s] rfl (by simp) ?_;exact Ad (J _ (by simp [DV])) ⟨rfl,A0 (by simp),rfl,trivial⟩ ⟨rfl,trivial⟩ rfl
  by_cases h3:s=3
  ·subst h3;refine kg [.a,.a,.a,.a] rfl (by simp) ?_;refine Af rfl (λ_=>MH n (-1000000000) 1000000000) (by simp [Ap]) ?_;refine kg [.s] rfl (by simp) ?_;exact Ad (J _ (by simp [DV])) ⟨rfl,A0 (by simp),rfl,trivial⟩ ⟨rfl,trivial⟩ rfl
  by_cases h4:s=4
  ·subst h4;refine kg [.a,.a,.a,.a,.a] rfl (by simp) ?_;refine Af rfl (λ_=>MH n 0 1) (by simp [Ap]) ?_;refine kg [.s] rfl (by simp) ?_;exact Ad (J _ (by simp [DV])) ⟨rfl,A0 (by simp),rfl,trivial⟩ ⟨rfl,trivial⟩ rfl
  by_cases h5:s=5
  ·subst h5;refine kg [.a,.a,.s] rfl (by simp) ?_;exact Ad (J _ (by simp [DV])) ⟨rfl,A0 (by simp),rfl,trivial⟩ ⟨rfl,trivial⟩ rfl
  by_cases h6:s=6
  ·subst h6;refine kg [.a,.a,.a,.a,.a,.a] rfl (by simp) ?_;refine Af rfl (λ_=>IQ x) (by simp [Ap]) ?_;refine kg [.s] rfl (by simp) ?_;exact Ad (J _ (by simp [DV])) ⟨rfl,A0 (by simp),rfl,trivial⟩ ⟨rfl,trivial⟩ rfl
  refine kg [.f,.f,.f,.f,.f,.f,.s] rfl (by simp [h1,h2,h3,h4,h5,h6]) ?_;exact Ad (J _ (by simp [DV,h1,h2,h3,h4,h5,h6])) ⟨rfl,A0 (by simp),rfl,trivial⟩ ⟨rfl,trivial⟩ rfl
termination_by t=>SizeOf.sizeOf t
decreasing_by
 have:=List.sizeOf_lt_of_mem (List.mem_of_getElem? ht);simp_wf;omega
mutual
def BK:Tm->Int->Int->Int
 | .mk _ _ _ ks _,l,d=>if l<1\/d<1 then -1 else Ce ks (l-1) (d-1)
def Ce:List Tm->Int->Int->Int
 | [],l,_=>l
 | t::r,l,d=>if 0<=l then Ce r (BK t l d) d else l
end
mutual
theorem IU:∀(t:Tm) (l d:Int),-1<=BK t l d/\(-1<=l->BK t l d<=l)
 | .mk _ _ _ ks _,l,d=>by
  simp only [BK];by_cases h:l<1\/d<1
  ·rw [if_pos h];omega
  ·rw [if_neg h];have:=Ok ks (l-1) (d-1) (by omega);omega
theorem Ok:∀(ts:List Tm) (l d:Int),-1<=l -> -1<=Ce ts l d/\Ce ts l d<=l
 | [],l,d,h=>by simp [Ce,h]
 | t::r,l,d,h=>by
  simp only [Ce];by_cases h0:0<=l
  ·rw [if_pos h0];have h1:=IU t l d;have h2:=Ok r (BK t l d) d h1.1;omega
  ·rw [if_neg h0];omega
end
theorem Xh:∀(t:Tm) (l d:Int),-9223372036854775808<=l->l<=9223372036854775807 -> -9223372036854775807<=d->d<=9223372036854775807->Al Tryz.prog 181 [.agg (CL t),.int .i64 l,.int .i64 d] (.int .i64 (BK t l d))
 | .mk op n x ks ps,l,d,hl0,hl1,hd0,hd1=>by
  refine AW λhv=>?_;simp [Ct,ET,CL,maxLen] at hv;refine Ae BM Tryz.func181 (by decide +kernel) rfl [1,2,3] rfl rfl ?_;refine Bi rfl ?_;refine Ab rfl (λh=>?_) (λh=>?_)
  ·refine BG rfl ?_;refine Aa rfl rfl (congrArg _ ?_);simp at h;simp only [BK];rw [if_pos (by omega)]
  simp at h;refine BG rfl ?_;refine An (λx:Nat×Int=>[(7,.imm (.int .i64 x.1)),(1,.imm (.int .i64 x.2)),(2,.imm (.int .i64 d)),(3,.ref 1 0)]) (λ_=>[(1,some (.immb 165 5 (CL (.mk op n x ks ps))))]) [2,3] (λx=>ks.length-x.1)
   (λy=>y.1<=ks.length/\BK (.mk op n x ks ps) l d=Ce (ks.drop y.1) y.2 (d-1) /\ -1<=y.2/\y.2<l) (0,l-1)
   ⟨Nat.zero_le _,by simp only [BK,List.drop_zero];rw [if_neg (by omega)],by simp only;omega,by simp only;omega⟩ ⟨rfl,A0 (B2 (by omega) (by omega)),rfl,rfl,trivial⟩ ⟨rfl,trivial⟩ rfl λy hi ih=>?_
  obtain ⟨i,m⟩:=y;obtain ⟨hi1,hi2,hi3,hi4⟩:=hi;simp only at hi1 hi2 hi3 hi4;refine BG rfl ?_;refine Ab rfl (λh=>?_) (λh=>?_)
  ·simp at h;obtain ⟨t,ht⟩:=As (l:=ks) (i:=i) (by omega);rw [Av ht] at hi2;refine BG rfl ?_;refine ki rfl (c:=CL t) (λ_=>⟨by simp,by simpa using IM ht,by simp⟩) (by simp) ?_;refine Bi rfl ?_;have hw:IntKind.i64.wrap (d-1)=d-1:=B2 (by omega) (by omega);refine Af rfl (v:=.int .i64 (BK t m (d-1))) (λ_=>by rw [hw];exact Xh t m (d-1) (by omega) (by omega) (by omega) (by omega)) (by simp) ?_;refine Bi rfl ?_;have hb:=IU t m (d-1);exact Ad (ih (i+1,BK t m (d-1)) (by simp only;omega) ⟨by simp only;omega,by simp only;rw [hi2];simp only [Ce];rw [if_pos h.2],by simp only;omega,by simp only;omega⟩) ⟨A0 (B2 (by omega) (by omega)),rfl,rfl,rfl,trivial⟩ ⟨rfl,trivial⟩ rfl
  ·refine BG rfl ?_;refine Aa rfl rfl (congrArg _ ?_);rw [hi2];simp at h;by_cases hlt:i<ks.length
   ·obtain ⟨t,ht⟩:=As hlt;rw [Av ht];simp only [Ce];rw [if_neg (by omega)]
   ·rw [List.drop_eq_nil_of_le (by omega)];simp [Ce]
termination_by t=>SizeOf.sizeOf t
decreasing_by
 have:=List.sizeOf_lt_of_mem (List.mem_of_getElem? ht);simp_wf;omega
def Fb (n:Int) (x:Str) (p:Nat) (fn ft fp:Bool):Bool:=(fn||n == 0)&&(ft||x == [])&&(fp||((p:Int) == 0))
theorem B7 (op n:Int) (x:Str) (ks:List Tm) (ps:List Ty) (a b c:Bool):Al Tryz.prog 207 [.agg (CL (.mk op n x ks ps)),.bool a,.bool b,.bool c] (.bool (Fb n x ps.length a b c)):=by
 refine Ae BM Tryz.func207 (by decide +kernel) rfl [1,2,3] rfl rfl ?_;refine kg [] rfl (by cases a <;> cases b <;> cases c <;> simp) ?_;refine Aa rfl rfl (congrArg _ ?_);cases a <;> cases b <;> cases c <;> simp [Fb]
end Go.Hk
namespace Go.Hk
def Ow (i j k:Nat):Nat:=bif Nat.beq k i then j else bif Nat.beq k j then i else k
theorem GH (i j k:Nat):Ow i j (Ow i j k)=k:=by
 have hb:∀a b:Nat,Nat.beq a b=decide (a=b):=λa b=>by
  cases h:Nat.beq a b with
  | true=>simp [Nat.eq_of_beq_eq_true h]
  | false =>
   have:a≠b:=λe=>by subst e;simp at h
   simp [this]
 unfold Ow;simp only [hb];by_cases h1:k=i
 ·subst h1;simp only [decide_true,cond_true];by_cases h2:j=k
  ·subst h2;simp
  ·simp [h2]
 ·by_cases h2:k=j
  ·subst h2;simp [h1]
  ·simp [h1,h2]
def Up (ρ:Nat->Nat):St->St
 | []=>[]
 | (i,some b)::r=>(ρ i,some (Uq ρ b))::Up ρ r
 | (i,none)::r=>(ρ i,none)::Up ρ r
theorem FC {i j:Nat} {k:Nat} {b:Blk}:∀{st:St},Az (Up (Ow i j) st) k b->∃b0,Az st (Ow i j k) b0/\b=Uq (Ow i j) b0
 | [],h=>by simp [Up,Az,lk] at h
 | (a,some x)::r,h=>by
  simp only [Up] at h;unfold Az at h ⊢;by_cases ha:Ow i j a=k
  ·subst ha;rw [Ax] at h;rw [GH,Ax];cases h;exact ⟨x,rfl,rfl⟩
  ·rw [A5 _ _ ha] at h;rw [A5 _ _ (λe=>ha (by rw [e,GH]))];exact FC h
 | (a,none)::r,h=>by
  simp only [Up] at h;unfold Az at h ⊢;by_cases ha:Ow i j a=k
  ·subst ha;rw [Ax] at h;cases h
  ·rw [A5 _ _ ha] at h;rw [A5 _ _ (λe=>ha (by rw [e,GH]))];exact FC h
theorem AF {P:Program} {n:Nat} {F:List Nat} {Q:DQ} {env:Env} {st:St} {ids:List Nat} {todo:List DI} (i j:Nat) (hF:(Fm F i||Fm F j)=false)
  (h:DGo P n F Q todo (bJ (Ow i j) env) (Up (Ow i j) st) (ids.map (Ow i j))):DGo P n F Q todo env st ids:=by
 intro b cs I μ a w items hd hc;have hn:∀k g,μ k=some g->(λk=>μ (Ow i j k)) (Ow i j k)=some g:=λk g hg=>by simp only [GH];exact hg
 have hE:Ext I μ st w I (λk=>μ (Ow i j k)) (Up (Ow i j) st) w :=
  {imm:=Imm.le_refl I,os:=rfl,tape:=rfl,output:=rfl,size:=Nat.le_refl _,block:=λ_ _ _=>rfl,
     fresh:=λb _ ⟨k,b',g,h1,h2,h3⟩=>let ⟨b0,q,_⟩:=FC h1;⟨_,b0,g,q,h2,h3⟩,old:=λ_ _ _=>rfl }
 have hc':Conc n I (λk=>μ (Ow i j k)) (bJ (Ow i j) env) (Up (Ow i j) st) (ids.map (Ow i j)) a w :=
  {imm:=hc.imm
   blk:=λk b' hl=>by
    obtain ⟨b0,h1,rfl⟩:=FC hl;obtain ⟨g,hg,hr⟩:=hc.blk _ b0 h1;exact ⟨g,hg,hr.ren λx _ g hg=>hn x g hg⟩
   apart:=λk b' g m hl hg hk=>by
    obtain ⟨b0,h1,rfl⟩:=FC hl;exact hc.apart _ b0 g m h1 hg hk
   inj:=λk k' bi bj gi gj m hi hj hgi hgj hki hkj=>by
    obtain ⟨b1,h1,_⟩:=FC hi;obtain ⟨b2,h2,_⟩:=FC hj;have:=hc.inj _ _ b1 b2 gi gj m h1 h2 hgi hgj hki hkj;have e:=congrArg (Ow i j) this
    rwa [GH,GH] at e
   nodup:=by
    have:=hc.nodup;rw [List.nodup_iff_pairwise_ne] at this ⊢;exact List.Pairwise.map _ (λx y hxy e=>hxy (by have e:=congrArg (Ow i j) e;rwa [GH,GH] at e)) this
   idsFree:=λk hk=>by
    obtain ⟨x,hx,rfl⟩:=List.mem_map.1 hk;show μ (Ow i j (Ow i j x))=none;rw [GH];exact hc.idsFree x hx
   size:=hc.size
   env:=λt d hl=>by
    obtain ⟨d0,h1,rfl⟩:=Zm hl;exact (hc.env t d0 h1).ren λx _ g hg=>hn x g hg
   defers:=hc.defers.ext hE }
 simp only [Bool.or_eq_false_iff] at hF;have hfix:∀k∈F,Ow i j k=k:=λk hk=>by
  have h1:Nat.beq k i=false:=by
   cases hb:Nat.beq k i with
   | false=>rfl
   | true=>rw [<- Nat.eq_of_beq_eq_true hb,BS.2 hk] at hF;cases hF.1
  have h2:Nat.beq k j=false:=by
   cases hb:Nat.beq k j with
   | false=>rfl
   | true=>rw [<- Nat.eq_of_beq_eq_true hb,BS.2 hk] at hF;cases hF.2
  simp [Ow,h1,h2]
 refine (h b cs I _ a w items hd hc').mono λe a' w' hp=>?_;refine hp.back (λk hk g hg=>by show μ (Ow i j k)=some g;rw [hfix k hk];exact hg) ?_;exact hE
end Go.Hk
namespace Go.Hk
open Go.Proofs
mutual
def Aq:Ty->Nat
 | .mk _ _ _ ps=>1+Am ps
def Am:List Ty->Nat
 | []=>0
 | t::r=>Aq t+Am r
end
mutual
theorem E0:∀(t:Ty) (l:Int),0<=Bz t l->Bz t l+Aq t=l
 | .mk _ _ _ ps,l,h=>by
  simp only [Bz] at h ⊢;by_cases h0:l<1
  ·rw [if_pos h0] at h;omega
  ·rw [if_neg h0] at h ⊢;have:=JJ ps (l-1) h;simp only [Aq];omega
theorem JJ:∀(ts:List Ty) (l:Int),0<=BY ts l->BY ts l+Am ts=l
 | [],l,h=>by simp [BY,Am]
 | t::r,l,h=>by
  simp only [BY] at h ⊢;by_cases h0:0<=l
  ·rw [if_pos h0] at h ⊢;have h1:=JJ r (Bz t l) h;have h2:=JK r (Bz t l) (IT t l).1;have h3:=E0 t l (by omega);simp only [Am];omega
  ·rw [if_neg h0] at h;omega
end
mutual
def Br:Ty->List Str
 | .mk s _ x ps=>if s=2 then [x] else AN ps
def AN:List Ty->List Str
 | []=>[]
 | t::r=>Br t++AN r
end
mutual
theorem LH:∀t:Ty,(Br t).length<=Aq t
 | .mk s _ x ps=>by
  simp only [Br,Aq]
  split
  ·simp
  ·have:=HP ps;omega
theorem HP:∀ts:List Ty,(AN ts).length<=Am ts
 | []=>by simp [AN]
 | t::r=>by
  have h1:=LH t;have h2:=HP r;simp only [AN,Am,List.length_append];omega
end
theorem E7 (a b:List Ty):AN (a++b)=AN a++AN b:=by
 induction a with
 | nil=>rfl
 | cons t r ih=>simp [AN,ih]
theorem BC (a b:List Ty):Am (a++b)=Am a+Am b:=by
 induction a with
 | nil=>simp [Am]
 | cons t r ih=>simp [Am,ih];omega
theorem BR {ps:List Ty} {i:Nat} {t:Ty} (h:ps[i]?=some t):Am (ps.take i)+Aq t<=Am ps:=by
 have e:ps=ps.take i++t::ps.drop (i+1):=by rw [<- Av h,List.take_append_drop]
 have:=congrArg Am e;rw [BC] at this;simp only [Am] at this;omega
theorem Ry (l:List Str):∀c∈DT l,c.length=1:=by
 intro c hc;simp only [DT,List.mem_map] at hc;obtain ⟨a,_,rfl⟩:=hc;rfl
theorem KE:∀(t:Ty),Aq t<=1000000->Al Tryz.prog 98 [.agg (Ao t)] (.sl (DT (Br t)))
 | .mk s n x ps,hN=>by
  refine AW λhv=>?_;simp [Ct,ET,Ao,maxLen] at hv;refine Ae BM Tryz.func98 (by decide +kernel) rfl [1,2,3,4,5] rfl rfl ?_;refine Bi rfl ?_;refine Ab rfl (λh=>?_) (λh=>?_)
  ·refine BG rfl ?_;refine Aa rfl rfl (congrArg _ ?_);simp at h;simp [Br,h,DT]
  simp at h;have hNp:Am ps<=1000000:=by simp only [Aq] at hN;omega
  refine BG rfl ?_;refine An (λy:Nat×Bool×List (List V)=>[(4,.imm (.int .i64 y.1)),(3,match y.2.1 with | false=>.nils | true=>.own 2 y.2.2.length),(1,.ref 1 0)])
   (λy=>match y.2.1 with | false=>[(1,some (.immb 69 4 (Ao (.mk s n x ps))))] | true=>[(2,some (.row 9 1 y.2.2)),(1,some (.immb 69 4 (Ao (.mk s n x ps))))]) [3,4] (λy=>ps.length-y.1)
   (λy=>y.1<=ps.length/\DT (AN (ps.take y.1))=y.2.2/\(y.2.1=false->y.2.2=[])) (0,false,[]) ⟨Nat.zero_le _,rfl,λ_=>rfl⟩ ⟨rfl,rfl,rfl,trivial⟩ ⟨rfl,trivial⟩ rfl λy hi ih=>?_
  obtain ⟨i,b,es⟩:=y;obtain ⟨hi1,hi2,hi3⟩:=hi;simp only at hi1 hi2 hi3;cases b with
  | false =>
   have hi3:=hi3 rfl;subst hi3;refine BG rfl ?_;refine Ab rfl (λh=>?_) (λh=>?_)
   ·simp at h;obtain ⟨t,ht⟩:=As h;have hnt:=BR ht;have hlt:=LH t;have hl2:=HP (ps.take i);have hlen:=congrArg List.length hi2;simp at hlen;refine BG rfl ?_;refine ki rfl (c:=Ao t) (λ_=>⟨by simp,by simpa using A4 ht,by simp⟩) (by simp) ?_;refine Bi rfl ?_;refine Af rfl (λ_=>KE t (by omega)) (by simp) ?_;refine Bi rfl ?_;refine BE BM rfl ⟨Ry _,by simp [maxLen];omega,by simp;omega,trivial⟩ ?_;refine Bi rfl ?_;refine AF 2 3 rfl ?_;exact Ad (ih (i+1,true,[]++DT (Br t)) (by simp only;omega) ⟨by simp only;omega,by simp only;rw [Bh ht,E7,ER,hi2];simp [AN],λh=>by cases h⟩) ⟨A0 (B2 (by simp only;omega) (by simp only;omega)),rfl,rfl,trivial⟩ ⟨rfl,rfl,trivial⟩ rfl
   ·refine BG rfl ?_;refine Au ⟨_,rfl,?_,trivial⟩;simp at h;rw [List.take_of_length_le (by omega)] at hi2;simp only [Br];rw [if_neg (by assumption),hi2];rfl
  | true =>
   refine BG rfl ?_;refine Ab rfl (λh=>?_) (λh=>?_)
   ·simp at h;obtain ⟨t,ht⟩:=As h;have hnt:=BR ht;have hlt:=LH t;have hl2:=HP (ps.take i);have hlen:=congrArg List.length hi2;simp at hlen;refine BG rfl ?_;refine ki rfl (c:=Ao t) (λ_=>⟨by simp,by simpa using A4 ht,by simp⟩) (by simp) ?_;refine Bi rfl ?_;refine Af rfl (λ_=>KE t (by omega)) (by simp) ?_;refine Bi rfl ?_;refine BE BM rfl ⟨Ry _,by simp [maxLen];omega,by simp;omega,trivial⟩ ?_;refine Bi rfl ?_;refine AF 2 3 rfl ?_;exact Ad (ih (i+1,true,es++DT (Br t)) (by simp only;omega) ⟨by simp only;omega,by simp only;rw [Bh ht,E7,ER,hi2];simp [AN],λh=>by cases h⟩) ⟨A0 (B2 (by simp only;omega) (by simp only;omega)),rfl,rfl,trivial⟩ ⟨rfl,rfl,trivial⟩ rfl
   ·refine Bw 2 rfl ?_;refine BG rfl ?_;refine Au ⟨_,rfl,?_,trivial⟩;simp at h;rw [List.take_of_length_le (by omega)] at hi2;simp only [Br];rw [if_neg (by assumption),hi2];rfl
termination_by t=>SizeOf.sizeOf t
decreasing_by
 all_goals
  have:=List.sizeOf_lt_of_mem (List.mem_of_getElem? ht);simp_wf;omega
def Bd (pre:List Str):List Str->Bool
 | []=>true
 | x::r=>!G6 pre x&&Bd (pre++[x]) r
def B3 (l:List Str):Bool:=Bd [] l
theorem dT (l:List Str) (n:Nat):(DT l).take n=DT (l.take n):=by simp [DT,List.map_take]
theorem Oi (l:List Str):Al Tryz.prog 94 [.sl (DT l)] (.bool (B3 l)):=by
 refine AW λhv=>?_;simp [Ct,ET,maxLen] at hv;refine Ae BM Tryz.func94 (by decide +kernel) rfl [1,2] rfl rfl ?_;refine Bi rfl ?_;refine An (λi:Nat=>[(3,.imm (.int .i64 i)),(0,.imm (.sl (DT l)))]) (λ_=>[]) [1] (λi=>l.length-i) (λi=>i<=l.length/\B3 l=Bd (l.take i) (l.drop i)) 0
  ⟨Nat.zero_le _,rfl⟩ ⟨rfl,rfl,trivial⟩ trivial rfl λi hi ih=>?_
 refine BG rfl ?_;refine Ab rfl (λh=>?_) (λh=>?_)
 ·simp at h;obtain ⟨t,ht⟩:=As h;have e:=hi.2;rw [Av ht] at e;refine kd [] rfl (by simp;exact ⟨by omega,Ry l⟩) ?_;refine ki rfl (c:=[.str t]) (λ_=>⟨by simp,by simpa using WL ht,rfl⟩) (by simp) ?_;refine Bi rfl ?_;refine Af rfl (v:=.bool (G6 (l.take i) t)) (λ_=>?_) (by simp) ?_
  ·have:=lH (l.take i) t;rw [<- dT] at this;exact this
  refine kg [] rfl (by first | exact ⟨by kernel_rfl,trivial⟩ | simp) ?_;refine Ab rfl (λh=>?_) (λh=>?_)
  ·refine BG rfl ?_;refine Aa rfl rfl (congrArg _ ?_);rw [e];simp [Bd,h]
  ·refine BG rfl ?_;exact Ad (ih (i+1) (by omega) ⟨by omega,by rw [e,Bh ht];simp [Bd,h]⟩) ⟨A0 (B2 (by omega) (by omega)),rfl,trivial⟩ trivial rfl
 ·refine BG rfl ?_;refine Aa rfl rfl (congrArg _ ?_);simp at h;rw [hi.2,List.drop_eq_nil_of_le (by omega)];rfl
def Fg (t:Ty):Bool:=decide (0<=Bz t 12)&&BP t&&B3 (Br t)
theorem lE (t:Ty):Al Tryz.prog 46 [.agg (Ao t)] (.bool (Fg t)):=by
 refine Ae BM Tryz.func46 (by decide +kernel) rfl [1,2,3] rfl rfl ?_;refine Bi rfl ?_;refine Af rfl (λ_=>KD t 12 (by decide) (by decide)) (by simp) ?_;refine Bi rfl ?_;refine Af rfl (λ_=>Zt t) (by simp [Ap]) ?_;refine Bi rfl ?_;refine Af rfl (v:=.sl (DT (Br t))) (λhc=>KE t ?_) (by simp [Ap]) ?_
 ·simp [Ap] at hc;have:=E0 t 12 hc.1;omega
 refine Bi rfl ?_;refine Af rfl (λ_=>Oi (Br t)) (by simp [Ap]) ?_;refine Bi rfl ?_;refine Aa rfl rfl (congrArg _ ?_);simp [Fg]
def CK (op n:Int) (x:Str) (k p:Nat):Bool :=
 if op=1 then ((k:Int) == 0)&&Fb n x p true false false&&Fp n (-1000000000) 1000000000
 else if op=2 then ((k:Int) == 0)&&Fb n x p true false false&&Fp n 0 1
 else if op=3\/op=21\/op=25\/op=28 then ((k:Int) == 0)&&Fb n x p false false false
 else if op=4 then ((k:Int) == 0)&&Fb n x p false true false&&EO x
 else if op=5\/op=27 then ((k:Int) == 1)&&Fb n x p false true false&&EO x
 else if op=7 then ((k:Int) == 2)&&Fb n x p false true false&&EO x
 else if op=8 then ((k:Int) == 3)&&Fb n x p false false false
 else if op=14 then decide ((k:Int)<=3)&&Fb n x p false true false&&De x
 else if op=15 then Fp p 1 5&&((k:Int) == 1+(p:Int))&&Fb n x p false false true
 else if op=16\/op=17\/op=19\/op=20\/op=23\/op=26 then ((k:Int) == 1)&&Fb n x p false false false
 else if op=24 then ((k:Int) == 1)&&Fb n x p true false false&&Fp n 0 3
 else if op=6\/op=9\/op=10\/op=11\/op=12\/op=13\/op=18\/op=22 then ((k:Int) == 2)&&Fb n x p false false false
 else false
theorem mK (op n:Int) (x:Str) (ks:List Tm) (ps:List Ty):Al Tryz.prog 197 [.agg (CL (.mk op n x ks ps))] (.bool (CK op n x ks.length ps.length)):=by
 refine AW λhv=>?_;simp [Ct,ET,CL,maxLen] at hv;refine Ae BM Tryz.func197 (by decide +kernel) rfl [1,2,3] rfl rfl ?_;by_cases h1:op=1
 ·subst h1;refine kg [.a] rfl (by simp) ?_;refine Af rfl (λ_=>B7 1 n x ks ps true false false) (by simp [Ap]) ?_;refine Bi rfl ?_;refine Af rfl (λ_=>MH n (-1000000000) 1000000000) (by simp [Ap]) ?_;refine Bi rfl ?_;exact Au ⟨_,rfl,tV (congrArg _ (by simp [CK])),trivial⟩
 by_cases h2:op=2
 ·subst h2;refine kg [.a,.a] rfl (by simp) ?_;refine Af rfl (λ_=>B7 2 n x ks ps true false false) (by simp [Ap]) ?_;refine Bi rfl ?_;refine Af rfl (λ_=>MH n 0 1) (by simp [Ap]) ?_;refine Bi rfl ?_;exact Au ⟨_,rfl,tV (congrArg _ (by simp [CK])),trivial⟩
 by_cases h3:op=3
 ·subst h3;refine kg [.a,.a,.a,.a] rfl (by simp) ?_;refine Af rfl (λ_=>B7 3 n x ks ps false false false) (by simp [Ap]) ?_;refine Bi rfl ?_;exact Au ⟨_,rfl,tV (congrArg _ (by simp [CK])),trivial⟩
 by_cases h21:op=21
 ·subst h21;refine kg [.a,.a,.a,.a,.a] rfl (by simp) ?_;refine Af rfl (λ_=>B7 21 n x ks ps false false false) (by simp [Ap]) ?_;refine Bi rfl ?_;exact Au ⟨_,rfl,tV (congrArg _ (by simp [CK])),trivial⟩
 by_cases h25:op=25
 ·subst h25;refine kg [.a,.a,.a,.a,.a,.a] rfl (by simp) ?_;refine Af rfl (λ_=>B7 25 n x ks ps false false false) (by simp [Ap]) ?_;refine Bi rfl ?_;exact Au ⟨_,rfl,tV (congrArg _ (by simp [CK])),trivial⟩
 by_cases h28:op=28
 ·subst h28;refine kg [.a,.a,.a,.a,.a,.a] rfl (by simp) ?_;refine Af rfl (λ_=>B7 28 n x ks ps false false false) (by simp [Ap]) ?_;refine Bi rfl ?_;exact Au ⟨_,rfl,tV (congrArg _ (by simp [CK])),trivial⟩
 by_cases h4:op=4
 ·subst h4;refine kg [.a,.a,.a,.a,.a,.a,.a] rfl (by simp) ?_;refine Af rfl (λ_=>B7 4 n x ks ps false true false) (by simp [Ap]) ?_;refine Bi rfl ?_;refine Af rfl (λ_=>Ii x) (by simp [Ap]) ?_;refine Bi rfl ?_;exact Au ⟨_,rfl,tV (congrArg _ (by simp [CK])),trivial⟩
 by_cases h5:op=5
 ·subst h5;refine kg [.a,.a,.a,.a,.a,.a,.a,.a,.a] rfl (by simp) ?_;refine Af rfl (λ_=>B7 5 n x ks ps false true false) (by simp [Ap]) ?_;refine Bi rfl ?_;refine Af rfl (λ_=>Ii x) (by simp [Ap]) ?_;refine Bi rfl ?_;exact Au ⟨_,rfl,tV (congrArg _ (by simp [CK])),trivial⟩
 by_cases h27:op=27
 ·subst h27;refine kg [.a,.a,.a,.a,.a,.a,.a,.a,.a] rfl (by simp) ?_;refine Af rfl (λ_=>B7 27 n x ks ps false true false) (by simp [Ap]) ?_;refine Bi rfl ?_;refine Af rfl (λ_=>Ii x) (by simp [Ap]) ?_;refine Bi rfl ?_;exact Au ⟨_,rfl,tV (congrArg _ (by simp [CK])),trivial⟩
 by_cases h7:op=7
 ·subst h7;refine kg [.a,.a,.a,.a,.a,.a,.a,.a,.a,.a] rfl (by simp) ?_;refine Af rfl (λ_=>B7 7 n x ks ps false true false) (by simp [Ap]) ?_;refine Bi rfl ?_;refine Af rfl (λ_=>Ii x) (by simp [Ap]) ?_;refine Bi rfl ?_;exact Au ⟨_,rfl,tV (congrArg _ (by simp [CK])),trivial⟩
 by_cases h8:op=8
 ·subst h8;refine kg [.a,.a,.a,.a,.a,.a,.a,.a,.a,.a,.a] rfl (by simp) ?_;refine Af rfl (λ_=>B7 8 n x ks ps false false false) (by simp [Ap]) ?_;refine Bi rfl ?_;exact Au ⟨_,rfl,tV (congrArg _ (by simp [CK])),trivial⟩
 by_cases h14:op=14
 ·subst h14;refine kg [.a,.a,.a,.a,.a,.a,.a,.a,.a,.a,.a,.a] rfl (by simp) ?_;refine Af rfl (λ_=>B7 14 n x ks ps false true false) (by simp [Ap]) ?_;refine Bi rfl ?_;refine Af rfl (λ_=>IQ x) (by simp [Ap]) ?_;refine Bi rfl ?_;exact Au ⟨_,rfl,tV (congrArg _ (by simp [CK])),trivial⟩
 by_cases h15:op=15
 ·subst h15;refine kg [.a,.a,.a,.a,.a,.a,.a,.a,.a,.a,.a,.a,.a] rfl (by simp) ?_;refine Af rfl (v:=.bool (Fp ps.length 1 5)) (λ_=>by have:=MH ps.length 1 5;simpa using this) (by simp [Ap]) ?_;refine Bi rfl ?_;refine Af rfl (λ_=>B7 15 n x ks ps false false true) (by simp [Ap]) ?_;refine Bi rfl ?_;have hw:IntKind.i64.wrap (1+(ps.length:Int))=1+ps.length\/Fp ps.length 1 5=false:=by
   by_cases hp:ps.length<=5
   ·exact .inl (B2 (by omega) (by omega))
   ·exact .inr (by simp [Fp];omega)
  refine Aa rfl rfl (congrArg _ ?_);rcases hw with hw | hw <;> simp [CK,hw]
 by_cases h16:op=16
 ·subst h16;refine kg [.a,.a,.a,.a,.a,.a,.a,.a,.a,.a,.a,.a,.a,.a,.a] rfl (by simp) ?_;refine Af rfl (λ_=>B7 16 n x ks ps false false false) (by simp [Ap]) ?_;refine Bi rfl ?_;exact Au ⟨_,rfl,tV (congrArg _ (by simp [CK])),trivial⟩
 by_cases h17:op=17
 ·subst h17;refine kg [.a,.a,.a,.a,.a,.a,.a,.a,.a,.a,.a,.a,.a,.a,.a,.a] rfl (by simp) ?_;refine Af rfl (λ_=>B7 17 n x ks ps false false false) (by simp [Ap]) ?_;refine Bi rfl ?_;exact Au ⟨_,rfl,tV (congrArg _ (by simp [CK])),trivial⟩
 by_cases h19:op=19
 ·subst h19;refine kg [.a,.a,.a,.a,.a,.a,.a,.a,.a,.a,.a,.a,.a,.a,.a,.a,.a] rfl (by simp) ?_;refine Af rfl (λ_=>B7 19 n x ks ps false false false) (by simp [Ap]) ?_;refine Bi rfl ?_;exact Au ⟨_,rfl,tV (congrArg _ (by simp [CK])),trivial⟩
 by_cases h20:op=20
 ·subst h20;refine kg [.a,.a,.a,.a,.a,.a,.a,.a,.a,.a,.a,.a,.a,.a,.a,.a,.a,.a] rfl (by simp) ?_;refine Af rfl (λ_=>B7 20 n x ks ps false false false) (by simp [Ap]) ?_;refine Bi rfl ?_;exact Au ⟨_,rfl,tV (congrArg _ (by simp [CK])),trivial⟩
 by_cases h23:op=23
 ·subst h23;refine kg [.a,.a,.a,.a,.a,.a,.a,.a,.a,.a,.a,.a,.a,.a,.a,.a,.a,.a,.a] rfl (by simp) ?_;refine Af rfl (λ_=>B7 23 n x ks ps false false false) (by simp [Ap]) ?_;refine Bi rfl ?_;exact Au ⟨_,rfl,tV (congrArg _ (by simp [CK])),trivial⟩
 by_cases h26:op=26
 ·subst h26;refine kg [.a,.a,.a,.a,.a,.a,.a,.a,.a,.a,.a,.a,.a,.a,.a,.a,.a,.a,.a] rfl (by simp) ?_;refine Af rfl (λ_=>B7 26 n x ks ps false false false) (by simp [Ap]) ?_;refine Bi rfl ?_;exact Au ⟨_,rfl,tV (congrArg _ (by simp [CK])),trivial⟩
 by_cases h24:op=24
 ·subst h24;refine kg [.a,.a,.a,.a,.a,.a,.a,.a,.a,.a,.a,.a,.a,.a,.a,.a,.a,.a,.a,.a] rfl (by simp) ?_;refine Af rfl (λ_=>B7 24 n x ks ps true false false) (by simp [Ap]) ?_;refine Bi rfl ?_;refine Af rfl (λ_=>MH n 0 3) (by simp [Ap]) ?_;refine Bi rfl ?_;exact Au ⟨_,rfl,tV (congrArg _ (by simp [CK])),trivial⟩
 by_cases h6:op=6
 ·subst h6;refine kg [.a,.a,.a,.a,.a,.a,.a,.a,.a,.a,.a,.a,.a,.a,.a,.a,.a,.a,.a,.a,.a,.a] rfl (by simp) ?_;refine Af rfl (λ_=>B7 6 n x ks ps false false false) (by simp [Ap]) ?_;refine Bi rfl ?_;exact Au ⟨_,rfl,tV (congrArg _ (by simp [CK])),trivial⟩
 by_cases h9:op=9
 ·subst h9;refine kg [.a,.a,.a,.a,.a,.a,.a,.a,.a,.a,.a,.a,.a,.a,.a,.a,.a,.a,.a,.a,.a,.a,.a] rfl (by simp) ?_;refine Af rfl (λ_=>B7 9 n x ks ps false false false) (by simp [Ap]) ?_;refine Bi rfl ?_;exact Au ⟨_,rfl,tV (congrArg _ (by simp [CK])),trivial⟩
 by_cases h10:op=10
 ·subst h10;refine kg [.a,.a,.a,.a,.a,.a,.a,.a,.a,.a,.a,.a,.a,.a,.a,.a,.a,.a,.a,.a,.a,.a,.a,.a] rfl (by simp) ?_;refine Af rfl (λ_=>B7 10 n x ks ps false false false) (by simp [Ap]) ?_;refine Bi rfl ?_;exact Au ⟨_,rfl,tV (congrArg _ (by simp [CK])),trivial⟩
 by_cases h11:op=11
 ·subst h11;refine kg [.a,.a,.a,.a,.a,.a,.a,.a,.a,.a,.a,.a,.a,.a,.a,.a,.a,.a,.a,.a,.a,.a,.a,.a,.a] rfl (by simp) ?_;refine Af rfl (λ_=>B7 11 n x ks ps false false false) (by simp [Ap]) ?_;refine Bi rfl ?_;exact Au ⟨_,rfl,tV (congrArg _ (by simp [CK])),trivial⟩
 by_cases h12:op=12
 ·subst h12;refine kg [.a,.a,.a,.a,.a,.a,.a,.a,.a,.a,.a,.a,.a,.a,.a,.a,.a,.a,.a,.a,.a,.a,.a,.a,.a,.a] rfl (by simp) ?_;refine Af rfl (λ_=>B7 12 n x ks ps false false false) (by simp [Ap]) ?_;refine Bi rfl ?_;exact Au ⟨_,rfl,tV (congrArg _ (by simp [CK])),trivial⟩
 by_cases h13:op=13
 ·subst h13;refine kg [.a,.a,.a,.a,.a,.a,.a,.a,.a,.a,.a,.a,.a,.a,.a,.a,.a,.a,.a,.a,.a,.a,.a,.a,.a,.a,.a] rfl (by simp) ?_;refine Af rfl (λ_=>B7 13 n x ks ps false false false) (by simp [Ap]) ?_;refine Bi rfl ?_;exact Au ⟨_,rfl,tV (congrArg _ (by simp [CK])),trivial⟩
 by_cases h18:op=18
 ·subst h18;refine kg [.a,.a,.a,.a,.a,.a,.a,.a,.a,.a,.a,.a,.a,.a,.a,.a,.a,.a,.a,.a,.a,.a,.a,.a,.a,.a,.a,.a] rfl (by simp) ?_;refine Af rfl (λ_=>B7 18 n x ks ps false false false) (by simp [Ap]) ?_;refine Bi rfl ?_;exact Au ⟨_,rfl,tV (congrArg _ (by simp [CK])),trivial⟩
 by_cases h22:op=22
 ·subst h22;refine kg [.a,.a,.a,.a,.a,.a,.a,.a,.a,.a,.a,.a,.a,.a,.a,.a,.a,.a,.a,.a,.a,.a,.a,.a,.a,.a,.a,.a] rfl (by simp) ?_;refine Af rfl (λ_=>B7 22 n x ks ps false false false) (by simp [Ap]) ?_;refine Bi rfl ?_;exact Au ⟨_,rfl,tV (congrArg _ (by simp [CK])),trivial⟩
 refine kg [.f,.f,.f,.f,.f,.f,.f,.f,.f,.f,.f,.f,.f,.f,.f,.f,.f,.f,.f,.f,.f,.f,.f,.f,.f,.f,.f,.f] rfl (by simp [h1,h2,h3,h21,h25,h28,h4,h5,h27,h7,h8,h14,h15,h16,h17,h19,h20,h23,h26,h24,h6,h9,h10,h11,h12,h13,h18,h22]) ?_;exact Au ⟨_,rfl,tV (congrArg _ (by simp [CK,h1,h2,h3,h21,h25,h28,h4,h5,h27,h7,h8,h14,h15,h16,h17,h19,h20,h23,h26,h24,h6,h9,h10,h11,h12,h13,h18,h22])),trivial⟩
mutual
def Ji:Tm->Bool
 | .mk op n x ks ps=>CK op n x ks.length ps.length&&ps.all Fg&&Fh ks
def Fh:List Tm->Bool
 | []=>true
 | t::r=>Ji t&&Fh r
end
theorem VM:∀(t:Tm),Al Tryz.prog 182 [.agg (CL t)] (.bool (Ji t))
 | .mk op n x ks ps=>by
  refine AW λhv=>?_;simp [Ct,ET,CL,maxLen] at hv;refine Ae BM Tryz.func182 (by decide +kernel) rfl [1,2,3] rfl rfl ?_;refine Bi rfl ?_;refine Af rfl (λ_=>mK op n x ks ps) (by simp) ?_;refine Bi rfl ?_;refine Ab rfl (λh=>?_) (λh=>?_)
  ·refine BG rfl ?_;refine Aa rfl rfl (congrArg _ ?_);simp at h;simp [Ji,h]
  simp at h;have hx:CK op n x ks.length ps.length=true:=h;clear h;refine BG rfl ?_;refine An (λi:Nat=>[(3,.imm (.int .i64 i)),(1,.ref 1 0)]) (λ_=>[(1,some (.immb 165 5 (CL (.mk op n x ks ps))))]) [2,3] (λi=>ps.length-i)
   (λi=>i<=ps.length/\(List.all · Fg) ps=(List.all · Fg) (ps.drop i)) 0 ⟨Nat.zero_le _,rfl⟩ ⟨rfl,rfl,trivial⟩ ⟨rfl,trivial⟩ rfl λi hi ih=>?_
  refine BG rfl ?_;refine Ab rfl (λh=>?_) (λh=>?_)
  ·simp at h;obtain ⟨t,ht⟩:=As h;have e:=hi.2;rw [Av ht] at e;refine BG rfl ?_;refine ki rfl (c:=Ao t) (λ_=>⟨by simp,by simpa using A4 ht,by simp⟩) (by simp) ?_;refine Bi rfl ?_;refine Af rfl (λ_=>lE t) (by simp) ?_;refine Bi rfl ?_;refine Ab rfl (λh=>?_) (λh=>?_)
   ·refine BG rfl ?_;refine Aa rfl rfl (congrArg _ ?_);simp at h;simp [Ji,hx,e,Fh,List.all_cons,h]
   ·refine BG rfl ?_;simp at h;exact Ad (ih (i+1) (by omega) ⟨by omega,by rw [e];simp [Fh,List.all_cons,h]⟩) ⟨A0 (B2 (by omega) (by omega)),rfl,trivial⟩ ⟨rfl,trivial⟩ rfl
  simp at h;have hps:(List.all · Fg) ps=true:=by rw [hi.2,List.drop_eq_nil_of_le (by omega)];rfl
  clear ih hi h;refine BG rfl ?_;refine An (λi:Nat=>[(4,.imm (.int .i64 i)),(1,.ref 1 0)]) (λ_=>[(1,some (.immb 165 5 (CL (.mk op n x ks ps))))]) [2,3] (λi=>ks.length-i)
   (λi=>i<=ks.length/\Fh ks=Fh (ks.drop i)) 0 ⟨Nat.zero_le _,rfl⟩ ⟨rfl,rfl,trivial⟩ ⟨rfl,trivial⟩ rfl λi hi ih=>?_
  refine BG rfl ?_;refine Ab rfl (λh=>?_) (λh=>?_)
  ·simp at h;obtain ⟨t,ht⟩:=As h;have e:=hi.2;rw [Av ht] at e;refine BG rfl ?_;refine ki rfl (c:=CL t) (λ_=>⟨by simp,by simpa using IM ht,by simp⟩) (by simp) ?_;refine Bi rfl ?_;refine Af rfl (λ_=>VM t) (by simp) ?_;refine Bi rfl ?_;refine Ab rfl (λh=>?_) (λh=>?_)
   ·refine BG rfl ?_;refine Aa rfl rfl (congrArg _ ?_);simp at h;simp [Ji,hx,e,Fh,List.all_cons,h]
   ·refine BG rfl ?_;simp at h;exact Ad (ih (i+1) (by omega) ⟨by omega,by rw [e];simp [Fh,List.all_cons,h]⟩) ⟨A0 (B2 (by omega) (by omega)),rfl,trivial⟩ ⟨rfl,trivial⟩ rfl
  simp at h;have hks:Fh ks=true:=by rw [hi.2,List.drop_eq_nil_of_le (by omega)];rfl
  clear ih hi h;refine BG rfl ?_;refine Aa rfl rfl (congrArg _ ?_);simp only [Ji];have hps:ps.all Fg=true:=hps;rw [hps,hks];simp [hx]
termination_by t=>SizeOf.sizeOf t
decreasing_by
 have:=List.sizeOf_lt_of_mem (List.mem_of_getElem? ht);simp_wf;omega
def fS (t:Tm):Bool:=decide (0<=BK t 60 14)&&Ji t
theorem nV (t:Tm):Al Tryz.prog 142 [.agg (CL t)] (.bool (fS t)):=by
 refine Ae BM Tryz.func142 (by decide +kernel) rfl [1,2,3] rfl rfl ?_;refine Bi rfl ?_;refine Af rfl (λ_=>Xh t 60 14 (by decide) (by decide) (by decide) (by decide)) (by simp) ?_;refine Bi rfl ?_;refine Af rfl (λ_=>VM t) (by simp [Ap]) ?_;refine Bi rfl ?_;refine Aa rfl rfl (congrArg _ ?_);simp [fS]
def lW:TT:=Xt++[
 (46,⟨.struct [(0,44),(1,3),(2,9),(3,33)],true,4,56,[.imm (.int .i64 0),.imm (.int .i64 0),.imm (.str []),.nils]⟩),
 (44,⟨.int .i64,false,1,8,[.imm (.int .i64 0)]⟩),
 (33,⟨.sl 46,false,1,24,[.nils]⟩)]
theorem Hb:TTok Tryz.prog lW:=.of_eq (l:=[4,3,9,165,26,69,162,27,5,24,23,172,163,67,167,171,75,22,169,72,70,37,46,44,33]) (by kernel_rfl)
section
variable {n:Nat} {F:List Nat} {Q:DQ} {env env':Env} {st st':St} {ids ids':List Nat} {k todo:List DI} {ob:List Prop}
theorem vd (path:List Pt) (h:run lW n 300 path todo env st ids [] = .at k env' st' ids' ob) (hob:AA ob) (hd:G Tryz.prog n F Q k env' st' ids'):DGo Tryz.prog n F Q todo env st ids:=Lx Hb EQ 300 path h hob hd
theorem DB (h:run lW n 300 [] todo env st ids [] = .at k env' st' ids' ob) (hd:G Tryz.prog n F Q k env' st' ids') (hob:AA ob:=by simp):DGo Tryz.prog n F Q todo env st ids:=vd [] h hob hd
theorem vdqc (h:run lW n 300 [] todo env st ids [] = .at k env' st' ids' ob) (hd:G Tryz.prog n F Q k env' st' ids') (hob:AA ob:=by simp [Ap]):DGo Tryz.prog n F Q todo env st ids:=vd [] h hob hd
theorem vg (path:List Pt) (h:run lW n 300 path todo env st ids [] = .at k env' st' ids' ob) (hob:AA ob) (hd:G Tryz.prog n F Q k env' st' ids'):G Tryz.prog n F Q todo env st ids:=Ky Hb EQ 300 path h hob hd
theorem Iy (h:run lW n 300 [] todo env st ids [] = .at k env' st' ids' ob) (hd:G Tryz.prog n F Q k env' st' ids') (hob:AA ob:=by simp):G Tryz.prog n F Q todo env st ids:=vg [] h hob hd
theorem qJ (h:run lW n 300 [] todo env st ids [] = .at k env' st' ids' ob) (hd:G Tryz.prog n F Q k env' st' ids') (hob:AA ob:=by simp [Ap]):G Tryz.prog n F Q todo env st ids:=vg [] h hob hd
theorem vi {es:List (List V)} {m:Int} {sz:Nat} {e:TypeId} {g:Option (Bool×Bool)} {ob:List Prop} {t:Nat} {todo':List DI} {c:List V} (h:Pm lW n env todo=some ⟨es,m,sz,e,g,ob,some t,todo'⟩)
  (hc:Ap g->0<=m/\es[m.toNat]?=some c/\c.length=sz) (hob:AA ob) (hk:G Tryz.prog n F Q todo' ((t,gD g (.ip e c 0))::env) st ids):G Tryz.prog n F Q todo env st ids:=Ge Hb h hc hob hk
end
mutual
def Db:Ty->Int->Int->Int
 | .mk _ _ _ ps,l,d=>if l<1\/d<1 then -1 else DO ps (l-1) (d-1)
def DO:List Ty->Int->Int->Int
 | [],l,_=>l
 | t::r,l,d=>if 0<=l then DO r (Db t l d) d else l
end
mutual
theorem Nr:∀(t:Ty) (l d:Int),-1<=Db t l d/\(0<=l->Db t l d<l)
 | .mk _ _ _ ps,l,d=>by
  simp only [Db]
  split
  ·omega
  ·have:=PR ps (l-1) (d-1) (by omega);omega
theorem PR:∀(ps:List Ty) (l d:Int),-1<=l -> -1<=DO ps l d/\DO ps l d<=l
 | [],l,d,h=>by simp [DO,h]
 | t::r,l,d,h=>by
  simp only [DO];by_cases h0:0<=l
  ·rw [if_pos h0];have h1:=Nr t l d;have h2:=PR r (Db t l d) d h1.1;omega
  ·rw [if_neg h0];omega
end
theorem TW:∀(t:Ty) (l d:Int),-9223372036854775808<=l->l<=9223372036854775807 -> -9223372036854775807<=d->d<=9223372036854775807->Al Tryz.prog 70 [.agg (Ao t),.int .i64 l,.int .i64 d] (.int .i64 (Db t l d))
 | .mk op n x ks,l,d,hl0,hl1,hd0,hd1=>by
  refine AW λhv=>?_;simp [Ct,ET,Ao,maxLen] at hv;refine Ae Hb Tryz.func70 (by decide +kernel) rfl [1,2,3] rfl rfl ?_;refine Iy rfl ?_;refine Ab rfl (λh=>?_) (λh=>?_)
  ·refine DB rfl ?_;refine Aa rfl rfl (congrArg _ ?_);simp at h;simp only [Db];rw [if_pos (by omega)]
  simp at h;refine DB rfl ?_;refine An (λx:Nat×Int=>[(7,.imm (.int .i64 x.1)),(1,.imm (.int .i64 x.2)),(2,.imm (.int .i64 d)),(3,.ref 1 0)]) (λ_=>[(1,some (.immb 46 4 (Ao (.mk op n x ks))))]) [2,3] (λx=>ks.length-x.1)
   (λy=>y.1<=ks.length/\Db (.mk op n x ks) l d=DO (ks.drop y.1) y.2 (d-1) /\ -1<=y.2/\y.2<l) (0,l-1)
   ⟨Nat.zero_le _,by simp only [Db,List.drop_zero];rw [if_neg (by omega)],by simp only;omega,by simp only;omega⟩ ⟨rfl,A0 (B2 (by omega) (by omega)),rfl,rfl,trivial⟩ ⟨rfl,trivial⟩ rfl λy hi ih=>?_
  obtain ⟨i,m⟩:=y;obtain ⟨hi1,hi2,hi3,hi4⟩:=hi;simp only at hi1 hi2 hi3 hi4;refine DB rfl ?_;refine Ab rfl (λh=>?_) (λh=>?_)
  ·simp at h;obtain ⟨t,ht⟩:=As (l:=ks) (i:=i) (by omega);rw [Av ht] at hi2;refine DB rfl ?_;refine vi rfl (c:=Ao t) (λ_=>⟨by simp,by simpa using A4 ht,by simp⟩) (by simp) ?_;refine Iy rfl ?_;have hw:IntKind.i64.wrap (d-1)=d-1:=B2 (by omega) (by omega);refine Af rfl (v:=.int .i64 (Db t m (d-1))) (λ_=>by rw [hw];exact TW t m (d-1) (by omega) (by omega) (by omega) (by omega)) (by simp) ?_;refine Iy rfl ?_;have hb:=Nr t m (d-1);exact Ad (ih (i+1,Db t m (d-1)) (by simp only;omega) ⟨by simp only;omega,by simp only;rw [hi2];simp only [DO];rw [if_pos h.2],by simp only;omega,by simp only;omega⟩) ⟨A0 (B2 (by omega) (by omega)),rfl,rfl,rfl,trivial⟩ ⟨rfl,trivial⟩ rfl
  ·refine DB rfl ?_;refine Aa rfl rfl (congrArg _ ?_);rw [hi2];simp at h;by_cases hlt:i<ks.length
   ·obtain ⟨t,ht⟩:=As hlt;rw [Av ht];simp only [DO];rw [if_neg (by omega)]
   ·rw [List.drop_eq_nil_of_le (by omega)];simp [DO]
termination_by t=>SizeOf.sizeOf t
decreasing_by
 have:=List.sizeOf_lt_of_mem (List.mem_of_getElem? ht);simp_wf;omega
def Hu (s n:Int) (x:Str) (k:Nat):Bool :=
 if s=1 then Fp n (-1000000000) 1000000000&&x == []&&((k:Int) == 0)
 else if s=2 then Fp n 0 1&&x == []&&((k:Int) == 0)
 else if s=3\/s=5 then n == 0&&x == []&&((k:Int) == 0)
 else if s=4 then n == 0&&De x&&decide ((k:Int)<=3)
 else false
mutual
def FH:Ty->Bool
 | .mk s n x ps=>Ga ps&&Hu s n x ps.length
def Ga:List Ty->Bool
 | []=>true
 | t::r=>FH t&&Ga r
end
end Go.Hk
namespace Go.Hk
open Go.Proofs
theorem UA (x lo hi:Int):Al Tryz.prog 102 [.int .i64 x,.int .i64 lo,.int .i64 hi] (.bool (Fp x lo hi)):=by
 refine Ae Hb Tryz.func102 (by decide +kernel) rfl [1,2] rfl rfl ?_;refine Iy rfl ?_;refine Aa rfl rfl (congrArg _ ?_);simp [Fp]
def AB:Ty->Ty->Bool
 | .mk s n x _,.mk s' n' x' _=>(s == s')&&(n == n')&&(x == x')
theorem JS:∀a b:Ty,Al Tryz.prog 80 [.agg (Ao a),.agg (Ao b)] (.bool (AB a b))
 | .mk s n x ks,.mk s' n' x' js=>by
  refine Ae Hb Tryz.func80 (by decide +kernel) rfl [1,2,3] rfl rfl ?_;refine Iy rfl ?_;refine Aa rfl rfl (congrArg _ ?_);simp [AB,Bool.and_assoc]
def AO:Ty->Ty
 | .mk s n x _=>if s=3 then .mk 1 n [] [] else if s=4 then .mk 2 n [] [] else if s=5 then .mk 3 0 [] [] else .mk 4 0 x []
theorem iU:∀v:Ty,Al Tryz.prog 148 [.agg (Ao v)] (.bool (match v with | .mk s n x ps=>Hu s n x ps.length))
 | .mk s n x ks=>by
  refine Ae Hb Tryz.func148 (by decide +kernel) rfl [1,2,3] rfl rfl ?_;simp only [Hu];refine Iy rfl ?_;by_cases h1:s=1
  ·subst h1;refine Ah rfl λh=>?_;refine DB rfl ?_;refine Af rfl (λ_=>UA n (-1000000000) 1000000000) (by simp) ?_;refine Iy rfl ?_;refine Aa rfl rfl (congrArg _ ?_);simp [Bool.and_assoc]
  rw [if_neg h1];refine Ab rfl (λh=>absurd (by simpa using h) h1) (λh=>?_);clear h;refine DB rfl ?_;by_cases h2:s=2
  ·subst h2;refine Ah rfl λh=>?_;refine DB rfl ?_;refine Af rfl (λ_=>UA n 0 1) (by simp) ?_;refine Iy rfl ?_;refine Aa rfl rfl (congrArg _ ?_);simp [Bool.and_assoc]
  rw [if_neg h2];refine Ab rfl (λh=>absurd (by simpa using h) h2) (λh=>?_);clear h;refine DB rfl ?_;by_cases h3:s=3
  ·subst h3;refine Ah rfl λh=>?_;refine DB rfl ?_;refine Ah rfl λh=>?_;refine DB rfl ?_;refine Aa rfl rfl (congrArg _ ?_);simp [Bool.and_assoc]
  refine Ab rfl (λh=>absurd (by simpa using h) h3) (λh=>?_);clear h;refine DB rfl ?_;by_cases h5:s=5
  ·subst h5;refine Ah rfl λh=>?_;refine DB rfl ?_;refine Aa rfl rfl (congrArg _ ?_);simp [Bool.and_assoc]
  rw [if_neg (by simp [h3,h5])];refine Ab rfl (λh=>absurd (by simpa using h) h5) (λh=>?_);clear h;refine DB rfl ?_;by_cases h4:s=4
  ·subst h4;refine Ah rfl λh=>?_;refine DB rfl ?_;refine Af rfl (λ_=>IQ x) (by simp [Ap]) ?_;refine qJ rfl ?_;refine Aa rfl rfl (congrArg _ ?_);simp [Bool.and_assoc]
  rw [if_neg h4];refine Ab rfl (λh=>absurd (by simpa using h) h4) (λh=>?_);clear h;refine DB rfl ?_;exact Aa rfl rfl rfl
mutual
def Zi:Ty->Ty->Bool
 | .mk s n x ps,.mk s' n' x' qs=>AB (.mk s n x ps) (.mk s' n' x' qs)&&Hm ps qs
def Hm:List Ty->List Ty->Bool
 | [],[]=>true
 | a::r,b::q=>Zi a b&&Hm r q
 | _,_=>false
end
theorem Qm:∀(ps qs:List Ty),Hm ps qs=true->ps.length=qs.length
 | [],[],_=>rfl
 | a::r,b::q,h=>by
  simp only [Hm,Bool.and_eq_true] at h;simp [Qm r q h.2]
 | [],_::_,h=>by simp [Hm] at h
 | _::_,[],h=>by simp [Hm] at h
theorem Xi:∀a b:Ty,Al Tryz.prog 38 [.agg (Ao a),.agg (Ao b)] (.bool (Zi a b))
 | .mk s n x ps,.mk s' n' x' qs=>by
  have hH:=JS (.mk s n x ps) (.mk s' n' x' qs);refine AW λhv=>?_;simp [Ct,ET,Ao,maxLen] at hv;simp only [Zi];generalize AB (.mk s n x ps) (.mk s' n' x' qs)=hb at hH ⊢;refine Ae Hb Tryz.func38 (by decide +kernel) rfl [1,2,3] rfl rfl ?_;refine Iy rfl ?_;refine Ag rfl hH ?_;refine Iy rfl ?_;by_cases hg:hb=true/\ps.length=qs.length
  case neg =>
   refine Ab rfl (λh=>?_) (λh=>?_)
   ·refine DB rfl ?_;refine Aa rfl rfl (congrArg _ ?_);cases hb with
    | false=>simp
    | true =>
     cases hs:Hm ps qs with
     | false=>simp
     | true=>exact absurd ⟨rfl,Qm _ _ hs⟩ hg
   ·exfalso;simp at h;apply hg;refine ⟨h.1,?_⟩;have:=h.2;omega
  obtain ⟨rfl,hlen⟩:=hg;refine Ab rfl (λh=>by simp [hlen] at h) (λh=>?_);clear h;refine DB rfl ?_;refine An (λi:Nat=>[(5,.imm (.int .i64 i)),(2,.ref 1 0),(3,.ref 2 0)]) (λ_=>[(1,some (.immb 46 4 (Ao (.mk s n x ps)))),(2,some (.immb 46 4 (Ao (.mk s' n' x' qs))))]) [3] (λi=>ps.length-i)
   (λi=>i<=ps.length/\Hm ps qs=Hm (ps.drop i) (qs.drop i)) 0 ⟨Nat.zero_le _,rfl⟩ ⟨rfl,rfl,rfl,trivial⟩ ⟨rfl,rfl,trivial⟩ rfl λi hi ih=>?_
  refine DB rfl ?_;refine Ab rfl (λh=>?_) (λh=>?_)
  ·simp at h;obtain ⟨t,ht⟩:=As h;obtain ⟨u,hu⟩:=As (l:=qs) (i:=i) (by omega);have e:=hi.2;rw [Av ht,Av hu] at e;simp only [Hm] at e;refine DB rfl ?_;refine vi rfl (c:=Ao t) (λ_=>⟨by simp,by simpa using A4 ht,by simp⟩) (by simp) ?_;refine Iy rfl ?_;refine vi rfl (c:=Ao u) (λ_=>⟨by simp,by simpa using A4 hu,by simp⟩) (by simp) ?_;refine Iy rfl ?_;refine Af rfl (λ_=>Xi t u) (by simp) ?_;refine vg [] rfl (by simp;rfl) ?_;refine Ab rfl (λh=>?_) (λh=>?_)
   ·refine DB rfl ?_;refine Aa rfl rfl (congrArg _ ?_);simp at h;simp [e,h]
   ·refine DB rfl ?_;simp at h;exact Ad (ih (i+1) (by omega) ⟨by omega,by rw [e];simp [h]⟩) ⟨A0 (B2 (by omega) (by omega)),rfl,rfl,trivial⟩ ⟨rfl,rfl,trivial⟩ rfl
  ·simp at h;refine Aw rfl ?_;refine DB rfl ?_;refine Aa rfl rfl (congrArg _ ?_);rw [hi.2,List.drop_eq_nil_of_le (by omega),List.drop_eq_nil_of_le (by omega)];simp [Hm]
termination_by a=>SizeOf.sizeOf a
decreasing_by
 have:=List.sizeOf_lt_of_mem (List.mem_of_getElem? ht);simp_wf;omega
theorem Be {α β:Type} {f:α->β} {l:List α} {i:Nat} {t:α} (h:l[i]?=some t):(l.map f)[i]?=some (f t):=by simp [h]
@[simp] theorem dCdc_length (c:Cd):(CM c).length=2:=rfl
@[simp] theorem dDtc_length (c:Dt):(Cv c).length=2:=rfl
@[simp] theorem dMdc_length (m:Md):(UK m).length=3:=rfl
@[simp] theorem dFdc_length (c:Fd):(Pu c).length=15:=by simp [Pu]
def NZ (c:Cd):Bool:=De c.name&&decide ((c.args.length:Int)<=3)&&c.args.all F8
def IL (d:Dt):Bool:=De d.name&&Fp d.cons.length 1 5&&d.cons.all NZ
def W0 (f:Fd):Bool:=EO f.name&&EO f.param&&F8 f.from_&&F8 f.to_&&fS f.body
def E8 (m:Md):Bool:=EO m.name&&decide ((m.datas.length:Int)<=4)&&Fp m.funs.length 1 5&&m.datas.all IL&&m.funs.all W0
theorem nL (d:Dt):Al Tryz.prog 141 [.agg (Cv d)] (.bool (IL d)):=by
 obtain ⟨nm,cs⟩:=d;refine AW λhv=>?_;simp [Ct,ET,Cv,maxLen] at hv;refine Ae BM Tryz.func141 (by decide +kernel) rfl [1,2,3] rfl rfl ?_;refine Bi rfl ?_;refine Af rfl (λ_=>IQ nm) (by simp) ?_;refine Bi rfl ?_;refine Af rfl (v:=.bool (Fp cs.length 1 5)) (λ_=>by have:=MH cs.length 1 5;simpa using this) (by simp [Ap]) ?_;refine Bi rfl ?_;refine Ab rfl (λh=>?_) (λh=>?_)
 ·refine BG rfl ?_;refine Aa rfl rfl (congrArg _ ?_);simp at h;simp [IL];grind
 have hx:(De nm&&Fp cs.length 1 5)=true:=by simp at h ⊢;grind
 clear h;refine BG rfl ?_;refine An (λi:Nat=>[(3,.imm (.int .i64 i)),(1,.ref 1 0)]) (λ_=>[(1,some (.immb 72 2 (Cv ⟨nm,cs⟩)))]) [2,3] (λi=>cs.length-i)
  (λi=>i<=cs.length/\cs.all NZ=(cs.drop i).all NZ) 0 ⟨Nat.zero_le _,rfl⟩ ⟨rfl,rfl,trivial⟩ ⟨rfl,trivial⟩ rfl λi hi ih=>?_
 refine BG rfl ?_;refine Ab rfl (λh=>?_) (λh=>?_)
 ·simp at h;obtain ⟨c,hc⟩:=As h;have e:=hi.2;rw [Av hc] at e;refine BG rfl ?_;refine ki rfl (c:=CM c) (λ_=>⟨by simp,by simpa using Be hc,by simp⟩) (by simp) ?_;obtain ⟨cn,ag⟩:=c;refine Bi rfl ?_;refine Af rfl (λ_=>IQ cn) (by simp) ?_;refine Bi rfl ?_;refine Ab rfl (λh=>?_) (λh=>?_)
  ·refine BG rfl ?_;refine Aa rfl rfl (congrArg _ ?_);simp at h;have:NZ ⟨cn,ag⟩=false:=by simp [NZ];grind
   simp [IL,e,this]
  have hy:(De cn&&decide ((ag.length:Int)<=3))=true:=by simp at h ⊢;grind
  have hal:ag.length<=6:=by simp at hy;omega
  clear h;refine BG rfl ?_;refine An (λj:Nat=>[(5,.imm (.int .i64 j)),(4,.ref 2 0),(3,.imm (.int .i64 i)),(1,.ref 1 0)]) (λ_=>[(2,some (.immb 75 2 (CM ⟨cn,ag⟩))),(1,some (.immb 72 2 (Cv ⟨nm,cs⟩)))]) [3] (λj=>ag.length-j)
   (λj=>j<=ag.length/\ag.all F8=(ag.drop j).all F8) 0 ⟨Nat.zero_le _,rfl⟩ ⟨rfl,rfl,rfl,rfl,trivial⟩ ⟨rfl,rfl,trivial⟩ rfl λj hj ihj=>?_
  refine BG rfl ?_;refine Ab rfl (λh=>?_) (λh=>?_)
  ·simp at h;obtain ⟨t,ht⟩:=As h;have ej:=hj.2;rw [Av ht] at ej;refine BG rfl ?_;refine ki rfl (c:=Ao t) (λ_=>⟨by simp,by simpa using A4 ht,by simp⟩) (by simp) ?_;refine Bi rfl ?_;refine Af rfl (λ_=>Ni t) (by simp) ?_;refine Bi rfl ?_;refine Ab rfl (λh=>?_) (λh=>?_)
   ·refine BG rfl ?_;refine Aa rfl rfl (congrArg _ ?_);simp at h;have:NZ ⟨cn,ag⟩=false:=by simp only [NZ];rw [ej];simp [h]
    simp [IL,e,this]
   ·refine BG rfl ?_;simp at h;exact Ad (ihj (j+1) (by omega) ⟨by omega,by rw [ej];simp [h]⟩) ⟨A0 (B2 (by omega) (by omega)),rfl,rfl,rfl,trivial⟩ ⟨rfl,rfl,trivial⟩ rfl
  ·simp at h;refine BG rfl ?_;have:NZ ⟨cn,ag⟩=true:=by
    simp only [NZ];rw [hj.2,List.drop_eq_nil_of_le (by omega)];simpa using hy
   exact Ad (ih (i+1) (by omega) ⟨by omega,by rw [e];simp [this]⟩) ⟨A0 (B2 (by omega) (by omega)),rfl,trivial⟩ ⟨rfl,trivial⟩ rfl
 ·refine BG rfl ?_;refine Aa rfl rfl (congrArg _ ?_);simp at h;simp only [IL];rw [hi.2,List.drop_eq_nil_of_le (by omega)];simpa using hx.symm
theorem eH (m:Md):Al Tryz.prog 93 [.agg (UK m)] (.bool (E8 m)):=by
 obtain ⟨nm,ds,fs⟩:=m;refine AW λhv=>?_;simp [Ct,ET,UK,maxLen] at hv;refine Ae BM Tryz.func93 (by decide +kernel) rfl [1,2,3] rfl rfl ?_;refine Bi rfl ?_;refine Af rfl (λ_=>Ii nm) (by simp) ?_;refine Bi rfl ?_;refine Af rfl (v:=.bool (Fp fs.length 1 5)) (λ_=>by have:=MH fs.length 1 5;simpa using this) (by simp [Ap]) ?_;refine Bi rfl ?_;refine Ab rfl (λh=>?_) (λh=>?_)
 ·refine BG rfl ?_;refine Aa rfl rfl (congrArg _ ?_);simp at h;simp [E8];grind
 have hx:(EO nm&&decide ((ds.length:Int)<=4)&&Fp fs.length 1 5)=true:=by simp at h ⊢;grind
 clear h;refine BG rfl ?_;refine An (λi:Nat=>[(3,.imm (.int .i64 i)),(1,.ref 1 0)]) (λ_=>[(1,some (.immb 171 3 (UK ⟨nm,ds,fs⟩)))]) [2,3] (λi=>ds.length-i)
  (λi=>i<=ds.length/\ds.all IL=(ds.drop i).all IL) 0 ⟨Nat.zero_le _,rfl⟩ ⟨rfl,rfl,trivial⟩ ⟨rfl,trivial⟩ rfl λi hi ih=>?_
 refine BG rfl ?_;refine Ab rfl (λh=>?_) (λh=>?_)
 ·simp at h;obtain ⟨c,hc⟩:=As h;have e:=hi.2;rw [Av hc] at e;refine BG rfl ?_;refine ki rfl (c:=Cv c) (λ_=>⟨by simp,by simpa using Be hc,by simp⟩) (by simp) ?_;refine Bi rfl ?_;refine Af rfl (λ_=>nL c) (by simp) ?_;refine Bi rfl ?_;refine Ab rfl (λh=>?_) (λh=>?_)
  ·refine BG rfl ?_;refine Aa rfl rfl (congrArg _ ?_);simp at h;simp [E8,e,h]
  ·refine BG rfl ?_;simp at h;exact Ad (ih (i+1) (by omega) ⟨by omega,by rw [e];simp [h]⟩) ⟨A0 (B2 (by omega) (by omega)),rfl,trivial⟩ ⟨rfl,trivial⟩ rfl
 simp at h;have hds:ds.all IL=true:=by rw [hi.2,List.drop_eq_nil_of_le (by omega)];rfl
 clear ih hi h;refine BG rfl ?_;refine An (λi:Nat=>[(4,.imm (.int .i64 i)),(1,.ref 1 0)]) (λ_=>[(1,some (.immb 171 3 (UK ⟨nm,ds,fs⟩)))]) [2,3] (λi=>fs.length-i)
  (λi=>i<=fs.length/\fs.all W0=(fs.drop i).all W0) 0 ⟨Nat.zero_le _,rfl⟩ ⟨rfl,rfl,trivial⟩ ⟨rfl,trivial⟩ rfl λi hi ih=>?_
 refine BG rfl ?_;refine Ab rfl (λh=>?_) (λh=>?_)
 ·simp at h;obtain ⟨c,hc⟩:=As h;have e:=hi.2;rw [Av hc] at e;refine BG rfl ?_;refine ki rfl (c:=Pu c) (λ_=>⟨by simp,by simpa using Be hc,by simp⟩) (by simp) ?_;obtain ⟨fnm,fpa,⟨s1,n1,x1,p1⟩,⟨s2,n2,x2,p2⟩,⟨op,n3,x3,ks,p3⟩⟩:=c;refine Bi rfl ?_;refine Af rfl (λ_=>Ii fnm) (by simp [Ap]) ?_;refine Bi rfl ?_;refine Af rfl (λ_=>Ii fpa) (by simp [Ap]) ?_;refine Bi rfl ?_;refine Af rfl (λ_=>Ni (.mk s1 n1 x1 p1)) (by simp [Ap]) ?_;refine Bi rfl ?_;refine Af rfl (λ_=>Ni (.mk s2 n2 x2 p2)) (by simp [Ap]) ?_;refine Bi rfl ?_;refine Af rfl (λ_=>nV (.mk op n3 x3 ks p3)) (by simp [Ap]) ?_;refine Bi rfl ?_;refine Ab rfl (λh=>?_) (λh=>?_)
  ·refine BG rfl ?_;refine Aa rfl rfl (congrArg _ ?_);simp at h;have:W0 ⟨fnm,fpa,.mk s1 n1 x1 p1,.mk s2 n2 x2 p2,.mk op n3 x3 ks p3⟩=false:=by simp [W0];grind
   simp [E8,e,this]
  ·refine BG rfl ?_;simp at h;have:W0 ⟨fnm,fpa,.mk s1 n1 x1 p1,.mk s2 n2 x2 p2,.mk op n3 x3 ks p3⟩=true:=by simp [W0];grind
   exact Ad (ih (i+1) (by omega) ⟨by omega,by rw [e];simp [this]⟩) ⟨A0 (B2 (by omega) (by omega)),rfl,trivial⟩ ⟨rfl,trivial⟩ rfl
 ·refine BG rfl ?_;refine Aa rfl rfl (congrArg _ ?_);simp at h;simp only [E8];rw [hds,hi.2,List.drop_eq_nil_of_le (by omega)];simpa using hx.symm
def Ba (s:Str):Nat->List Dt->Int
 | _,[]=>-1
 | i,d::r=>if d.name=s then (i:Int) else Ba s (i+1) r
theorem JY (ds:List Dt) (s:Str):Al Tryz.prog 96 [.sl (ds.map Cv),.str s] (.int .i64 (Ba s 0 ds)):=by
 refine AW λhv=>?_;simp [Ct,ET,maxLen] at hv;refine Ae Hb Tryz.func96 (by decide +kernel) rfl [1,2,3] rfl rfl ?_;refine Iy rfl ?_;refine An (λi:Nat=>[(5,.imm (.int .i64 i)),(0,.imm (.sl (ds.map Cv))),(1,.imm (.str s))]) (λ_=>[]) [1,2,3] (λi=>ds.length-i)
  (λi=>i<=ds.length/\Ba s 0 ds=Ba s i (ds.drop i)) 0 ⟨Nat.zero_le _,rfl⟩ ⟨rfl,rfl,rfl,trivial⟩ trivial rfl λi hi ih=>?_
 refine DB rfl ?_;refine Ab rfl (λh=>?_) (λh=>?_)
 ·simp at h;obtain ⟨d,hd⟩:=As h;have e:=hi.2;rw [Av hd] at e;simp only [Ba] at e;refine DB rfl ?_;refine vi rfl (c:=Cv d) (λ_=>⟨by simp,by simpa using Be hd,by simp⟩) (by simp) ?_;obtain ⟨dn,dc⟩:=d;refine Iy rfl ?_;refine Ab rfl (λh=>?_) (λh=>?_)
  ·have hs:dn=s:=by simpa using h
   rw [e,if_pos hs];refine DB rfl ?_;exact Aa rfl rfl rfl
  ·have hs:¬dn=s:=by simpa using h
   rw [if_neg hs] at e;refine DB rfl ?_;exact Ad (ih (i+1) (by omega) ⟨by omega,e⟩) ⟨A0 (B2 (by omega) (by omega)),rfl,rfl,trivial⟩ trivial rfl
 ·simp at h;refine Aw rfl ?_;refine DB rfl ?_;rw [hi.2,List.drop_eq_nil_of_le (by omega)];exact Aa rfl rfl rfl
mutual
def AI:List Dt->Ty->Bool
 | ds,.mk s _ x ps=>!(s == 8&&decide (Ba x 0 ds<0))&&Bn ds ps
def Bn:List Dt->List Ty->Bool
 | _,[]=>true
 | ds,t::r=>AI ds t&&Bn ds r
end
theorem NC (ds:List Dt):∀t:Ty,Al Tryz.prog 45 [.agg (Ao t),.sl (ds.map Cv)] (.bool (AI ds t))
 | .mk s n x ps=>by
  refine AW λhv=>?_;simp [Ct,ET,Ao,maxLen] at hv;simp only [AI];refine Ae Hb Tryz.func45 (by decide +kernel) rfl [1,2,3] rfl rfl ?_;refine Iy rfl ?_;refine Af rfl (λ_=>JY ds x) (by simp [Ap]) ?_;refine qJ rfl ?_;by_cases hg:s=8/\Ba x 0 ds<0
  ·refine Ab rfl (λh=>?_) (λh=>by simp [hg] at h);refine DB rfl ?_;refine Aa rfl rfl (congrArg _ ?_);simp [hg]
  refine Ab rfl (λh=>absurd (by simpa using h) hg) (λh=>?_);clear h;rw [show (!(s == 8&&decide (Ba x 0 ds<0)))=true by simp;omega,Bool.true_and];refine DB rfl ?_;refine An (λi:Nat=>[(5,.imm (.int .i64 i)),(1,.imm (.sl (ds.map Cv))),(2,.ref 1 0)]) (λ_=>[(1,some (.immb 26 4 (Ao (.mk s n x ps))))]) [2,3] (λi=>ps.length-i)
   (λi=>i<=ps.length/\Bn ds ps=Bn ds (ps.drop i)) 0 ⟨Nat.zero_le _,rfl⟩ ⟨rfl,rfl,rfl,trivial⟩ ⟨rfl,trivial⟩ rfl λi hi ih=>?_
  refine DB rfl ?_;refine Ab rfl (λh=>?_) (λh=>?_)
  ·simp at h;obtain ⟨t,ht⟩:=As h;have e:=hi.2;rw [Av ht] at e;refine DB rfl ?_;refine vi rfl (c:=Ao t) (λ_=>⟨by simp,by simpa using A4 ht,by simp⟩) (by simp) ?_;refine Iy rfl ?_;refine Af rfl (λ_=>NC ds t) (by simp) ?_;refine Iy rfl ?_;refine Ab rfl (λh=>?_) (λh=>?_)
   ·refine DB rfl ?_;refine Aa rfl rfl (congrArg _ ?_);simp at h;simp [e,Bn,h]
   ·refine DB rfl ?_;simp at h;exact Ad (ih (i+1) (by omega) ⟨by omega,by rw [e];simp [Bn,h]⟩) ⟨A0 (B2 (by omega) (by omega)),rfl,rfl,trivial⟩ ⟨rfl,trivial⟩ rfl
  ·simp at h;refine Aw rfl ?_;refine DB rfl ?_;refine Aa rfl rfl (congrArg _ ?_);rw [hi.2,List.drop_eq_nil_of_le (by omega)];simp [Bn]
termination_by t=>SizeOf.sizeOf t
decreasing_by
 have:=List.sizeOf_lt_of_mem (List.mem_of_getElem? ht);simp_wf;omega
theorem WN:∀p:Ty,Aq p<=1000000->Al Tryz.prog 48 [.agg (Ao p)] (.int .i64 (Aq p:Int))
 | .mk s n x ps,hN=>by
  simp only [Aq] at hN;refine AW λhv=>?_;simp [Ct,ET,Ao,maxLen] at hv;refine Ae Hb Tryz.func48 (by decide +kernel) rfl [1,2,3] rfl rfl ?_;refine Iy rfl ?_;refine An (λi:Nat=>[(4,.imm (.int .i64 i)),(3,.imm (.int .i64 ((1+Am (ps.take i):Nat):Int))),(1,.ref 1 0)]) (λ_=>[(1,some (.immb 69 4 (Ao (.mk s n x ps))))]) [2,3] (λi=>ps.length-i)
   (λi=>i<=ps.length) 0 (Nat.zero_le _) ⟨rfl,rfl,rfl,trivial⟩ ⟨rfl,trivial⟩ rfl λi hi ih=>?_
  refine DB rfl ?_;refine Ab rfl (λh=>?_) (λh=>?_)
  ·simp at h;obtain ⟨t,ht⟩:=As h;have e:Am (ps.take (i+1))=Am (ps.take i)+Aq t:=by rw [Bh ht,BC];simp [Am]
   have hb:=BR ht;refine DB rfl ?_;refine vi rfl (c:=Ao t) (λ_=>⟨by simp,by simpa using A4 ht,by simp⟩) (by simp) ?_;refine Iy rfl ?_;refine Af rfl (λ_=>WN t (by omega)) (by simp) ?_;refine Iy rfl ?_;exact Ad (ih (i+1) (by omega) (by omega)) ⟨A0 (B2 (by omega) (by omega)),A0 (by rw [e,B2 (by omega) (by omega)];omega),rfl,trivial⟩ ⟨rfl,trivial⟩ rfl
  ·simp at h;refine Aw rfl ?_;refine DB rfl ?_;rw [List.take_of_length_le (by omega)];refine Aa rfl rfl ?_;simp [Aq]
termination_by p=>SizeOf.sizeOf p
decreasing_by
 have:=List.sizeOf_lt_of_mem (List.mem_of_getElem? ht);simp_wf;omega
structure Cse where
 datas:List Dt
 type:Ty
 rows:List Ty
def dCse (c:Cse):List V:=[.sl (c.datas.map Cv)]++Ao c.type++[.sl (Bx c.rows)]
@[simp] theorem dCse_length (c:Cse):(dCse c).length=6:=by obtain ⟨ds,⟨s,n,x,ps⟩,rows⟩:=c;rfl
def lY:TT:=lW++[
 (29,⟨.struct [(0,22),(1,26),(5,27)],true,6,104,[.nils,.imm (.int .i64 0),.imm (.int .i64 0),.imm (.str []),.nils,.nils]⟩)]
theorem G4:TTok Tryz.prog lY:=.of_eq (l:=[4,3,9,165,26,69,162,27,5,24,23,172,163,67,167,171,75,22,169,72,70,37,46,44,33,29]) (by kernel_rfl)
section
variable {n:Nat} {F:List Nat} {Q:DQ} {env env':Env} {st st':St} {ids ids':List Nat} {k todo:List DI} {ob:List Prop}
theorem cd (path:List Pt) (h:run lY n 300 path todo env st ids [] = .at k env' st' ids' ob) (hob:AA ob) (hd:G Tryz.prog n F Q k env' st' ids'):DGo Tryz.prog n F Q todo env st ids:=Lx G4 EQ 300 path h hob hd
theorem Dj (h:run lY n 300 [] todo env st ids [] = .at k env' st' ids' ob) (hd:G Tryz.prog n F Q k env' st' ids') (hob:AA ob:=by simp):DGo Tryz.prog n F Q todo env st ids:=cd [] h hob hd
theorem cdqc (h:run lY n 300 [] todo env st ids [] = .at k env' st' ids' ob) (hd:G Tryz.prog n F Q k env' st' ids') (hob:AA ob:=by simp [Ap]):DGo Tryz.prog n F Q todo env st ids:=cd [] h hob hd
theorem cg (path:List Pt) (h:run lY n 300 path todo env st ids [] = .at k env' st' ids' ob) (hob:AA ob) (hd:G Tryz.prog n F Q k env' st' ids'):G Tryz.prog n F Q todo env st ids:=Ky G4 EQ 300 path h hob hd
theorem EY (h:run lY n 300 [] todo env st ids [] = .at k env' st' ids' ob) (hd:G Tryz.prog n F Q k env' st' ids') (hob:AA ob:=by simp):G Tryz.prog n F Q todo env st ids:=cg [] h hob hd
theorem qE (h:run lY n 300 [] todo env st ids [] = .at k env' st' ids' ob) (hd:G Tryz.prog n F Q k env' st' ids') (hob:AA ob:=by simp [Ap]):G Tryz.prog n F Q todo env st ids:=cg [] h hob hd
theorem ci {es:List (List V)} {m:Int} {sz:Nat} {e:TypeId} {g:Option (Bool×Bool)} {ob:List Prop} {t:Nat} {todo':List DI} {c:List V} (h:Pm lY n env todo=some ⟨es,m,sz,e,g,ob,some t,todo'⟩)
  (hc:Ap g->0<=m/\es[m.toNat]?=some c/\c.length=sz) (hob:AA ob) (hk:G Tryz.prog n F Q todo' ((t,gD g (.ip e c 0))::env) st ids):G Tryz.prog n F Q todo env st ids:=Ge G4 h hc hob hk
end
end Go.Hk
namespace Go.Hk
open Go.Proofs
def lS:Cd:=⟨[],[]⟩
def Di (s:Str):Nat->List Cd->Cd×Int
 | _,[]=>(lS,-1)
 | i,c::r=>if c.name=s then (c,(i:Int)) else Di s (i+1) r
def BN (ds:List Dt) (t:Ty) (s:Str):Cd×Int:=match t with
 | .mk so _ x _=>if so=8 then (match ds[(Ba x 0 ds).toNat]? with
  | some d=>Di s 0 d.cons
  | none=>(lS,-1)) else (lS,-1)
theorem YM (c:Cse) (t:Ty) (s:Str) (h:∀so n x ps,t = .mk so n x ps->so=8->0<=Ba x 0 c.datas/\∃d,c.datas[(Ba x 0 c.datas).toNat]?=some d) (hl:∀d∈c.datas,d.cons.length<=1000000) :
  Al Tryz.prog 99 [.agg (dCse c),.agg (Ao t),.str s] (.tup [.agg (CM (BN c.datas t s).1),.int .i64 (BN c.datas t s).2]):=by
 obtain ⟨ds,ct,rows⟩:=c;obtain ⟨so,n,x,ps⟩:=t;obtain ⟨cs,cn,cx,cps⟩:=ct;have h:=h so n x ps rfl;simp only at h;refine AW λhv=>?_;refine Ae G4 Tryz.func99 (by decide +kernel) rfl [1,2,3,4,5] rfl rfl ?_;refine EY rfl ?_;by_cases e:so=8
 case neg =>
  refine Ab rfl (λh=>?_) (λh=>absurd (by simpa using h) e);refine Dj rfl ?_;rw [show BN ds (.mk so n x ps) s=(lS,-1) by simp [BN,e]];exact Aa rfl rfl rfl
 obtain ⟨hp,d,hd⟩:=h e;have hlen:d.cons.length<=1000000:=hl d (List.mem_of_getElem? hd);rw [show BN ds (.mk so n x ps) s=Di s 0 d.cons by simp [BN,e,hd]];refine Ab rfl (λh=>by simp [e] at h) (λh=>?_);clear h;refine Dj rfl ?_;refine Af rfl (λ_=>JY ds x) (by simp) ?_;refine EY rfl ?_;refine ci rfl (c:=Cv d) (λ_=>⟨hp,by simpa using Be hd,by simp⟩) (by simp) ?_;obtain ⟨dn,dc⟩:=d;refine cg [] rfl (by simp;rfl) ?_;simp only at hlen ⊢;refine An (λi:Nat=>[(9,.imm (.int .i64 i)),(8,.ref 4 0),(6,.ref 3 0),(2,.imm (.str s))]) (λ_=>[(4,some (.immb 72 2 (Cv ⟨dn,dc⟩))),(3,some (.cells 75 2 [.imm (.str []),.nils]))]) [5] (λi=>dc.length-i)
  (λi=>i<=dc.length/\Di s 0 dc=Di s i (dc.drop i)) 0 ⟨Nat.zero_le _,rfl⟩ ⟨rfl,rfl,rfl,rfl,trivial⟩ ⟨rfl,rfl,trivial⟩ rfl λi hi ih=>?_
 refine Dj rfl ?_;refine Ab rfl (λh=>?_) (λh=>?_)
 ·simp at h;obtain ⟨k,hk⟩:=As h;have e:=hi.2;rw [Av hk] at e;simp only [Di] at e;refine Dj rfl ?_;refine ci rfl (c:=CM k) (λ_=>⟨by simp,by simpa using Be hk,by simp⟩) (by simp) ?_;obtain ⟨kn,ka⟩:=k;refine EY rfl ?_;refine Ab rfl (λh=>?_) (λh=>?_)
  ·have hs:kn=s:=by simpa using h
   rw [e,if_pos hs];refine Dj rfl ?_;refine ci rfl (c:=CM ⟨kn,ka⟩) (λ_=>⟨by simp,by simpa using Be hk,by simp⟩) (by simp) ?_;refine EY rfl ?_;exact Aa rfl rfl rfl
  ·have hs:¬kn=s:=by simpa using h
   rw [if_neg hs] at e;refine Dj rfl ?_;exact Ad (ih (i+1) (by omega) ⟨by omega,e⟩) ⟨A0 (B2 (by omega) (by omega)),rfl,rfl,rfl,trivial⟩ ⟨rfl,rfl,trivial⟩ rfl
 ·simp at h;refine Aw rfl ?_;refine Dj rfl ?_;rw [hi.2,List.drop_eq_nil_of_le (by omega)];exact Aa rfl rfl rfl
end Go.Hk
namespace Go.Hk
def Oh (P:Program) (f:FuncId) (t tb:TypeId):Prop:=∀(g:FuncId) (fi ca:Array Value) (w:World) (K Kp:World->Prop),
 (callFunc g (fi++ca)).run P (w.alloc (.cells #[.bool false] tb)) = .ok (.enter g (fi++ca)) (w.alloc (.cells #[.bool false] tb)) ->
 Calls P g (fi++ca) (w.alloc (.cells #[.bool false] tb)) (λe w'=>match e with
  | .returned _=>K w'
  | .panicked chain=>chain=[{ v:=.iface t (.agg #[]),recovered:=false }]/\Kp w'
  | .outgrown=>False) ->
 (∀w',K w'->w'.heap[w.heap.size]?=some (.cells #[.bool false] tb (0,0)))->(∀w',Kp w'->w'.heap[w.heap.size]?=some (.cells #[.bool false] tb (0,0))) ->
 Calls P f #[.func (.func g) fi ca] w λe w'=>(e = .returned (.bool true)/\∃w1,K w1/\w'=w1.setCell ⟨w.heap.size,0,none⟩ (.bool true)) \/
  (e = .returned (.bool false)/\∃w1,Kp w1/\w'=(w1.setCell ⟨w.heap.size,0,none⟩ (.bool false)).alloc (.cells #[] t))
theorem Il {w:World} {b:Nat} {v x:Value} {t:TypeId} (h:w.heap[b]?=some (.cells #[x] t (0,0))):w.setCell ⟨b,0,none⟩ v={ w with heap:=w.heap.setIfInBounds b (.cells #[v] t (0,0)) }:=by
 have:∀(A:Array Obj) (f:Obj->Obj),A[b]?=some (.cells #[x] t (0,0))->A.modify b f=A.setIfInBounds b (f (.cells #[x] t (0,0))):=by
  intro A f hA;apply Array.ext_getElem?;intro i;rw [Array.getElem?_modify,Array.getElem?_setIfInBounds];by_cases hi:b=i
  ·subst hi;rw [if_pos rfl,if_pos rfl,hA];simp [(Array.getElem?_eq_some_iff.1 hA).1]
  ·rw [if_neg hi,if_neg hi]
 unfold World.setCell;rw [this _ _ h];rfl
theorem DW {I:Imm} {μ:Mu} {st:St} {ids:List Nat} {w:World} (hst:StRep I μ st ids w) {b:Nat} (h:BA μ st b):b<w.heap.size:=by
 obtain ⟨id,blk,g,h1,h2,h3⟩:=h;exact (hst.apart id blk g b h1 h2 h3).2
theorem StRep.other {I:Imm} {μ:Mu} {st:St} {ids:List Nat} {w w':World} (hst:StRep I μ st ids w) (hs:w.heap.size<=w'.heap.size) (hi:∀b o,I b=some o->w'.heap[b]?=w.heap[b]?) (ho:∀b,BA μ st b->w'.heap[b]?=w.heap[b]?):StRep I μ st ids w' :=
 {imm:=λb o h=>(hi b o h).trans (hst.imm b o h),blk:=λid blk hl=>let ⟨g,h1,h2⟩:=hst.blk id blk hl;⟨g,h1,h2.world λb hb=>ho b ⟨id,blk,g,hl,h1,hb⟩⟩,
  apart:=λid blk g b h1 h2 h3=>⟨(hst.apart id blk g b h1 h2 h3).1,Nat.lt_of_lt_of_le (hst.apart id blk g b h1 h2 h3).2 hs⟩,inj:=hst.inj,nodup:=hst.nodup,idsFree:=hst.idsFree }
theorem RepD.fnD {I:Imm} {μ:Mu} {v:Value} {f:Fn} {df dc:List D} (h:RepD I μ v (.fn f df dc)):∃first cap:Array Value,v = .func f first cap/\RepL I μ (first++cap).toList (df++dc):=by
 cases h with
 | fn _ first cap _ _ hf hc h1 h2 =>
  refine ⟨first,cap,rfl,?_⟩;rw [Array.toList_append];refine ⟨by simp [hf,hc],λi v d p q=>?_⟩;rw [List.getElem?_append] at p q;have hl:first.toList.length=df.length:=by simpa using hf
  rw [hl] at p
  split at p
  ·rename_i hlt;rw [if_pos hlt] at q;exact h1 i v d (by simpa using p) q
  ·rename_i hlt;rw [if_neg hlt] at q;exact h2 _ v d (by simpa using p) q
section
variable {P:Program} {f g:FuncId} {t tb:TypeId} {fn fg:Func} {cf cg:Code} {df dc:List D} {st0 st1:St} {d:D}
theorem Ra {I:Imm} {μ:Mu} {xs:Array Value} (hxs:RepL I μ xs.toList [.fn (.func g) df dc]):∃first cap:Array Value,xs = #[.func (.func g) first cap]/\RepL I μ (first++cap).toList (df++dc):=by
 obtain ⟨l,rfl⟩:∃l:List Value,xs=l.toArray:=⟨xs.toList,by simp⟩
 rw [List.toList_toArray] at hxs
 match l,hxs with
 | [v],hxs =>
  obtain ⟨first,cap,rfl,h⟩:=(hxs.2 0 v _ rfl rfl).fnD;exact ⟨first,cap,rfl,h⟩
 | [],hxs=>exact absurd hxs.1 (by simp)
 | _::_::_,hxs=>exact absurd hxs.1 (by simp)
theorem T5 (hf : P.funcs[f]? = some fn) (hn : (fn.name == "runtime.NumGoroutine") = false) (hb : fn.body = some cf) (hs : Oh P f t tb)
  (hg : P.funcs[g]? = some fg) (hgn : (fg.name == "runtime.NumGoroutine") = false) (hgb : fg.body = some cg) (hE : Bt P g (df ++ dc) st0 (.ret d st1)) : Bt P f [.fn (.func g) df dc] st0 (.ret (.imm (.bool true)) st1) := by
 intro I μ w xs hst hxs;obtain ⟨first,cap,rfl,hx⟩:=Ra hxs;rw [BU hf hn hb];have hheap:(w.alloc (.cells #[.bool false] tb)).heap=w.heap.push (.cells #[.bool false] tb (0,0)):=rfl;have hgrow:∀r,r<w.heap.size->(w.alloc (.cells #[.bool false] tb)).heap[r]?=w.heap[r]?:=λr hr=>by rw [hheap];simp [Array.getElem?_push,Nat.ne_of_lt hr]
 have hself:(w.alloc (.cells #[.bool false] tb)).heap[w.heap.size]?=some (.cells #[.bool false] tb (0,0)):=by rw [hheap];simp
 have hsize:(w.alloc (.cells #[.bool false] tb)).heap.size=w.heap.size+1:=by rw [hheap];simp
 have hlt:∀b o,I b=some o->b<w.heap.size:=λb o h=>(Array.getElem?_eq_some_iff.1 (hst.imm b o h)).1;have hst1:StRep I μ st0 [] (w.alloc (.cells #[.bool false] tb)):=hst.other (by omega) (λb o h=>hgrow b (hlt b o h)) (λb h=>hgrow b (DW hst h));have hno:¬BA μ st0 w.heap.size:=λh=>absurd (DW hst h) (Nat.lt_irrefl _);have hIn:I w.heap.size=none:=by
  cases h:I w.heap.size with
  | none=>rfl
  | some o=>exact absurd (hlt _ o h) (Nat.lt_irrefl _)
 have hcall:=hE I μ _ (first++cap) hst1 hx;have hrun:=BU (w:=w.alloc (.cells #[.bool false] tb)) hg hgn hgb (first++cap);rw [hrun] at hcall;have hcall:Calls P g (first++cap) (w.alloc (.cells #[.bool false] tb)) (λe w'=>match e with
  | .returned u=>∃I' μ',RepD I' μ' u d/\StRep I' μ' st1 [] w'/\Pin (Ey st0) μ μ'/\Ext I μ st0 (w.alloc (.cells #[.bool false] tb)) I' μ' st1 w'
  | .panicked _=>False
  | .outgrown=>False):=hcall
 have keep:∀w' I' μ',Ext I μ st0 (w.alloc (.cells #[.bool false] tb)) I' μ' st1 w'->w'.heap[w.heap.size]?=some (.cells #[.bool false] tb (0,0)):=λw' I' μ' he=>(he.block _ (by omega) hno).trans hself;show Calls P f _ w _;refine Calls.mono (hs g first cap w (λw'=>∃I' μ',StRep I' μ' st1 [] w'/\Pin (Ey st0) μ μ'/\Ext I μ st0 (w.alloc (.cells #[.bool false] tb)) I' μ' st1 w') (λ_=>False) hrun (Calls.mono hcall ?_) (λw' ⟨I',μ',_,_,he⟩=>keep w' I' μ' he) (λ_ h=>h.elim)) ?_
 ·intro e w' he;cases e with
  | returned u=>obtain ⟨I',μ',_,h2,h3,h4⟩:=he;exact ⟨I',μ',h2,h3,h4⟩
  | panicked=>exact he.elim
  | outgrown=>exact he.elim
 ·rintro e w2 (⟨rfl,w1,⟨I',μ',h2,h3,h4⟩,rfl⟩ | ⟨_,_,hx,_⟩)
  ·have hc:=keep w1 I' μ' h4;rw [Il hc];have hI':I' w.heap.size=none:=(h4.old _ (by omega) hno).trans hIn;have hno':¬BA μ' st1 w.heap.size:=λh=>hno (h4.fresh _ (by omega) h);have hsame:∀b,b≠w.heap.size->(w1.heap.setIfInBounds w.heap.size (.cells #[.bool true] tb (0,0)))[b]?=w1.heap[b]?:=λb hb=>Array.getElem?_setIfInBounds_ne (Ne.symm hb);refine ⟨I',μ',.imm _ _ (.bool true),?_,h3,?_⟩
   ·exact h2.other (by simp) (λb o h=>hsame b λe=>by rw [e,hI'] at h;cases h) (λb h=>hsame b λe=>hno' (e ▸ h))
   ·have hsz:=h4.size
    exact { imm:=h4.imm,os:=h4.os,tape:=h4.tape,output:=h4.output,size:=by simp;omega,
            block:=λb hb ho=>(hsame b (by omega)).trans ((h4.block b (by omega) ho).trans (hgrow b hb)),fresh:=λb hb ho=>h4.fresh b (by omega) ho,old:=λb hb ho=>h4.old b (by omega) ho }
  ·exact hx.elim
theorem Wp (hf : P.funcs[f]? = some fn) (hn : (fn.name == "runtime.NumGoroutine") = false) (hb : fn.body = some cf) (hs : Oh P f t tb)
  (hg : P.funcs[g]? = some fg) (hgn : (fg.name == "runtime.NumGoroutine") = false) (hgb : fg.body = some cg) (hE : Bt P g (df ++ dc) st0 (.pan (.iface t (.agg [])))) : Bt P f [.fn (.func g) df dc] st0 (.ret (.imm (.bool false)) []) := by
 intro I μ w xs hst hxs;obtain ⟨first,cap,rfl,hx⟩:=Ra hxs;rw [BU hf hn hb];have hheap:(w.alloc (.cells #[.bool false] tb)).heap=w.heap.push (.cells #[.bool false] tb (0,0)):=rfl;have hgrow:∀r,r<w.heap.size->(w.alloc (.cells #[.bool false] tb)).heap[r]?=w.heap[r]?:=λr hr=>by rw [hheap];simp [Array.getElem?_push,Nat.ne_of_lt hr]
 have hself:(w.alloc (.cells #[.bool false] tb)).heap[w.heap.size]?=some (.cells #[.bool false] tb (0,0)):=by rw [hheap];simp
 have hsize:(w.alloc (.cells #[.bool false] tb)).heap.size=w.heap.size+1:=by rw [hheap];simp
 have hlt:∀b o,I b=some o->b<w.heap.size:=λb o h=>(Array.getElem?_eq_some_iff.1 (hst.imm b o h)).1;have hst1:StRep I μ st0 [] (w.alloc (.cells #[.bool false] tb)):=hst.other (by omega) (λb o h=>hgrow b (hlt b o h)) (λb h=>hgrow b (DW hst h));have hno:¬BA μ st0 w.heap.size:=λh=>absurd (DW hst h) (Nat.lt_irrefl _);have hIn:I w.heap.size=none:=by
  cases h:I w.heap.size with
  | none=>rfl
  | some o=>exact absurd (hlt _ o h) (Nat.lt_irrefl _)
 have hcall:=hE I μ _ (first++cap) hst1 hx;have hrun:=BU (w:=w.alloc (.cells #[.bool false] tb)) hg hgn hgb (first++cap);rw [hrun] at hcall;have hcall:Calls P g (first++cap) (w.alloc (.cells #[.bool false] tb)) (λe w'=>match e with
  | .returned _=>False
  | .panicked chain=>Kc (· = .iface t (.agg [])) I μ st0 (w.alloc (.cells #[.bool false] tb)) chain w'
  | .outgrown=>False):=hcall
 have keep:∀w' I',Ext I μ st0 (w.alloc (.cells #[.bool false] tb)) I' μ [] w'->w'.heap[w.heap.size]?=some (.cells #[.bool false] tb (0,0)):=λw' I' he=>(he.block _ (by omega) hno).trans hself;show Calls P f _ w _;refine Calls.mono (hs g first cap w (λ_=>False) (λw'=>∃I',I'.ok w'/\Ext I μ st0 (w.alloc (.cells #[.bool false] tb)) I' μ [] w') hrun (Calls.mono hcall ?_) (λ_ h=>h.elim) (λw' ⟨I',_,he⟩=>keep w' I' he)) ?_
 ·intro e w' he;cases e with
  | returned u=>exact he.elim
  | panicked chain =>
   obtain ⟨v,x,I',h1,h2,h3,h4,h5⟩:=he;subst h2;cases h3 with
   | iface _ v' _ hv =>
    cases hv with
    | agg cs _ hl _ _ =>
     have:cs = #[]:=Array.eq_empty_of_size_eq_zero (by simpa using hl);subst this;exact ⟨h1,I',h4,h5⟩
  | outgrown=>exact he.elim
 ·rintro e w2 (⟨_,_,hx,_⟩ | ⟨rfl,w1,⟨I',h2,h4⟩,rfl⟩)
  ·exact hx.elim
  ·have hc:=keep w1 I' h4;rw [Il hc];have hI':I' w.heap.size=none:=(h4.old _ (by omega) hno).trans hIn;have hsz:=h4.size;have hsame:∀b,b≠w.heap.size->b<w1.heap.size->(({ w1 with heap:=w1.heap.setIfInBounds w.heap.size (.cells #[.bool false] tb (0,0)) }:World).alloc (.cells #[] t)).heap[b]?=w1.heap[b]?:=λb hb hlt=>by
    show ((w1.heap.setIfInBounds w.heap.size _).push _)[b]?=_;rw [Array.getElem?_push,if_neg (by simp;omega)];exact Array.getElem?_setIfInBounds_ne (Ne.symm hb)
   refine ⟨I',μ,.imm _ _ (.bool false),?_,Pin.refl _ _,?_⟩
   ·exact { imm:=λb o h=>(hsame b (λe=>by rw [e,hI'] at h;cases h) (Array.getElem?_eq_some_iff.1 (h2 b o h)).1).trans (h2 b o h),blk:=λid blk hl=>(by cases hl),apart:=λid blk g b hl=>(by cases hl),inj:=λi j bi bj gi gj b hl=>(by cases hl),nodup:=.nil,idsFree:=λid hi=>(by cases hi) }
   ·exact { imm:=h4.imm,os:=h4.os,tape:=h4.tape,output:=h4.output,size:=by show w.heap.size<=((w1.heap.setIfInBounds w.heap.size _).push _).size;simp;omega,
            block:=λb hb ho=>(hsame b (by omega) (by omega)).trans ((h4.block b (by omega) ho).trans (hgrow b hb)),fresh:=λb hb ho=>h4.fresh b (by omega) ho,old:=λb hb ho=>h4.old b (by omega) ho }
end
end Go.Hk
namespace Go.Hk
def rR (P:Program) (I:Imm) (μ:Mu) (st:St) (w:World) (d:D) (st':St) (r:Result Next):Prop :=
 valX P r (λu w'=>∃I' μ',RepD I' μ' u d/\StRep I' μ' st' [] w'/\Pin (Ey st) μ μ'/\Ext I μ st w I' μ' st' w') (λ_ _=>False)
def UY (j:Nat) (S:Bun):St:=[(0,some .pin),(j,some (.bun 0 S))]
def Py (P:Program) (ds:List D) (S:Bun) (r:Bool) (S':Bun):Prop :=
 ∀I μ w b (xs:Array Value),μ 0=some (.func (.yield b) #[] #[])->StRep I μ (UY 1 S) [] w->RepL I μ xs.toList ds->rR P I μ (UY 1 S) w (.imm (.bool r)) (UY 2 S') ((Instr.yield b xs).run P w)
section
variable {P:Program} {n:Nat} {F:List Nat} {Q:DQ} {tt:TT} {env E:Env} {st st0 st1:St} {ids ids':List Nat} {k todo todo':List DI} {I:Imm} {μ:Mu} {w:World} {Pn:V->Prop} {d:D} {das:List D} {f:FuncId}
theorem CY:∀{st:St} {i:Nat} {b:Blk},Az st i b->i∈Ey st
 | [],i,b,h=>by simp [Az,lk] at h
 | (s,x)::r,i,b,h=>by
  by_cases hs:s=i
  ·subst hs;simp [Ey]
  ·have:Az r i b:=by unfold Az at h ⊢;rwa [A5 _ _ hs] at h
   simp only [Ey,List.map_cons,List.mem_cons];exact .inr (CY this)
theorem cJ {s t:St} {i:Nat} {b:Blk} (h:Az s i b):Az (s++t) i b:=by
 have hm:i∈s.map (·.1):=CY h;unfold Az at h ⊢;rwa [FL hm]
theorem cI {s t:St} {i:Nat} {b:Blk} (hn:i∉Ey s) (h:Az t i b):Az (s++t) i b:=by
 unfold Az at h ⊢;rwa [KT hn]
structure lB where
 id:Nat
 das:List D
 g:Option (Bool×Bool)
 ob:List Prop
 dst:Option Nat
 o:Oper
 all:List Oper
def eP (n:Nat) (env:Env) (todo:List DI):Option lB :=
 match Bg todo ([],[]) with
 | some (all,o,_)=>match Ca all env o,o.op with
  | some g,.call { callee:=.value (.tmp t),args:=⟨args⟩,.. }=>match lk env t,Ir (Ap g) env args,BH n o.dst with
   | some (.yld id),some (ds,ob),true=>some ⟨id,ds,g,ob,o.dst,o,all⟩
   | some (.guard c w (.yld id)),some (ds,ob),true=>some ⟨id,ds,g,(Ap g->c=w)::ob,o.dst,o,all⟩
   | _,_,_=>none
  | _,_=>none
 | none=>none
theorem RepD.yldInv {v:Value} {id:Nat} (h:RepD I μ v (.yld id)):∃b,μ id=some (.func (.yield b) #[] #[])/\v = .func (.yield b) #[] #[]:=by
 cases h with
 | yld b _ h=>exact ⟨b,h,rfl⟩
theorem aD {o:Oper} {t b:Nat} {args:List Operand} {ts:Array TypeId} {a:Act} (ho:o.op = .call { callee:=.value (.tmp t),args:=⟨args⟩,argTypes:=ts }) (hv:a.eval (.tmp t) = .func (.yield b) #[] #[]) :
  (execOp a.eval o).run P w=(Instr.yield b (args.map a.eval).toArray).run P w:=by
 simp only [execOp,ho,resolve,hv,Deferred.ofValue,Sem.run_bind,Sem.run_pure,Result.andThen_ok,invoke];congr 2;simp
theorem aE {c:lB} (h:eP n env todo=some c) (hob:AA c.ob) (hcx:Ap c.g) :
  (∀f,∃todo',Bg todo f=some (c.all,c.o,todo'))/\Ca c.all env c.o=some c.g/\BH n c.dst=true/\c.dst=c.o.dst/\(∀x,c.o.op ≠ .defer x) /\
  ∀I μ a,Dh I μ env a c.o.op->∃b,∃xs:Array Value,μ c.id=some (.func (.yield b) #[] #[])/\RepL I μ xs.toList c.das/\∀w,(execOp a.eval c.o).run P w=(Instr.yield b xs).run P w:=by
 unfold eP at h;have hnext:∀{all:List Oper} {o:Oper} {t:List DI},Bg todo ([],[])=some (all,o,t)->∀f,∃todo',Bg todo f=some (all,o,todo'):=by
  intro all o t h f;rcases I8 h with ⟨r,k,rfl,_⟩ | ⟨r,fs,k,rfl,_⟩
  ·exact ⟨_,rfl⟩
  ·exact ⟨_,rfl⟩
 split at h
 ·rename_i all o t h1
  split at h
  ·rename_i g t' args ts hg ho;have fin:∀{dv:D} {ds:List D} {ob:List Prop} {id:Nat},lk env t'=some dv->Ir (Ap g) env args=some (ds,ob)->AA ob->Ap g->(∀{I:Imm} {μ:Mu} {v:Value},RepD I μ v dv->∃b,μ id=some (.func (.yield b) #[] #[])/\v = .func (.yield b) #[] #[]) ->
     ∀I μ a,Dh I μ env a o.op->∃b,∃xs:Array Value,μ id=some (.func (.yield b) #[] #[])/\RepL I μ xs.toList ds/\∀w,(execOp a.eval o).run P w=(Instr.yield b xs).run P w:=by
    intro dv ds ob id ht ha hob hcx hyl I μ a hop;rw [ho] at hop;have hargs:=Gv (I:=I) (μ:=μ) (a:=a) hcx ha hob λx hx=>hop x (by simp [Op.operands,Call.operands,hx]);obtain ⟨b,q1,q2⟩:=hyl (hop (.tmp t') (by simp [Op.operands,Call.operands]) _ ht);exact ⟨b,_,q1,by simpa using hargs,λw=>aD ho q2⟩
   split at h
   ·rename_i id ds ob ht ha hd;cases h;exact ⟨hnext h1,hg,hd,rfl,(λx hx=>by rw [ho] at hx;cases hx),fin ht ha hob hcx (λh=>h.yldInv)⟩
   ·rename_i cc ww id ds ob ht ha hd;cases h;exact ⟨hnext h1,hg,hd,rfl,(λx hx=>by rw [ho] at hx;cases hx),fin ht ha hob.2 hcx (λh=>(h.guardInv (hob.1 hcx)).yldInv)⟩
   ·cases h
  ·cases h
 ·cases h
theorem ZE {c:lB} {j j2:Nat} {S S':Bun} {r:Bool} (h:eP n env todo=some c) (hob:AA c.ob) (hcx:Ap c.g) (hE:Py P (FD (DY [(c.id,0),(j,1)]) c.das) S r S') (hy:lk st c.id=some (some .pin)) (hj:lk st j=some (some (.bun c.id S)))
  (hn:LI [(c.id,0),(j,1)] [(2,j2)] c.das (UY 1 S) (.imm (.bool r)) (UY 2 S') [j2]=true) (h1:Bg todo ([c.id,j],[c.id,j2,c.id,j])=some (c.all,c.o,todo')) (hids:ids=j2::ids')
  (hk:G P n F Q todo' (B9 c.dst (gD c.g (.imm (.bool r))) env) ((c.id,some .pin)::(j2,some (.bun c.id S'))::(c.id,none)::(j,none)::st) ids'):G P n F Q todo env st ids:=by
 obtain ⟨_,q2,q3,q4,q5,q6⟩:=aE (P:=P) h hob hcx;rw [q4] at q3 hk;subst hids;have hN:=NA hn;have hb:FU [(c.id,0),(j,1)] st (UY 1 S):=by
  have hne:Nat.beq c.id j=false:=by
   have:=hN.inv;simp only [List.map_cons,List.map_nil,Dy,Bm] at this;cases hb:Nat.beq c.id j with
   | false=>rfl
   | true =>
    have:=Nat.eq_of_beq_eq_true hb;rw [<- this] at hj;rw [hy] at hj;cases hj
  have e0:lk (Bm [(c.id,0),(j,1)]) 0=some c.id:=rfl;have e1:lk (Bm [(c.id,0),(j,1)]) 1=some j:=rfl;have f0:lk [(c.id,0),(j,1)] c.id=some 0:=Ax _ _ _;have f1:lk [(c.id,0),(j,1)] j=some 1:=by
   have:c.id≠j:=λe=>by rw [e] at hne;simp at hne
   rw [A5 _ _ this];exact Ax _ _ _
  have g0:DY [(c.id,0),(j,1)] c.id=0:=by simp [DY,f0]
  refine ⟨?_,?_,trivial⟩
  ·simp only [e0,f0,hy];exact ⟨rfl,rfl,rfl⟩
  ·simp only [e1,f1,hj];refine ⟨rfl,?_,?_⟩
   ·simp only [Uq,g0]
   ·simp only [U2,Dy,f0,e0];simp
 have hl:LD P (Mz Q) c.all c.o env st (Gs [(c.id,0),(j,1)]) [j2] (Ep (Bm [(c.id,0),(j,1)]++[(2,j2)]) (UY 2 S')++Cs (Gs [(c.id,0),(j,1)])) (gD c.g (.imm (.bool r))):=by
  intro I μ st2 ids1 a w hag hst hon;have hwant:=Fr q2 hon;refine ⟨λ_=>?_,λhw=>by rw [hwant.2 hcx] at hw;cases hw⟩;obtain ⟨b,xs,m1,m2,m3⟩:=q6 I μ a (Bc hon);have hb':=GP hag hb;obtain ⟨g1,g2,g3⟩:=FT hst hb' hN.args m2;rw [m3];refine (hE I _ w b xs (by simpa [Hg,Bm,lk] using m1) g1 g2).mono (λu w' hu=>?_) (λ_ _ h=>h.elim);obtain ⟨I',μ',r1,r2,r3,r4⟩:=hu;obtain ⟨ν,s1,s2,s3,s4⟩:=IP hst hb' hN r1 r2 r3 r4 g3;rw [<- KX] at s1 s4;refine ⟨I',ν,s1,?_,s3,s4⟩;cases hg:c.g with
  | none=>exact s2
  | some p=>rw [hg] at hcx;exact .guard _ _ _ _ (λ_=>s2) (λhn=>absurd hcx hn)
 have ew:Ep (Bm [(c.id,0),(j,1)]++[(2,j2)]) (UY 2 S')++Cs (Gs [(c.id,0),(j,1)])=[(c.id,some .pin),(j2,some (.bun c.id S')),(c.id,none),(j,none)]:=rfl;rw [ew] at hl;exact B6 (fr:=[j2]) (wr:=[(c.id,some .pin),(j2,some (.bun c.id S')),(c.id,none),(j,none)]) h1 hl q3 q5 hk
end
end Go.Hk
namespace Go.Hk
def rT (pend:Option Code) (stB:St):DQ:=λx _ st _=>match x,pend with
 | .norm,none=>Hf st stB
 | .ret,some .ret=>Hf st stB
 | .exit j,some (.exit j')=>j=j'/\Hf st stB
 | _,_=>False
structure Lz where
 fn:FuncId
 ps:Array Tmp
 asg:Code
 body:Code
 tmps:Array Value
 E:Env
 F:List Nat
 μ0:Mu
def lC (pend:Option Code) (r:Go.Loop):Prop:=r.state=(match pend with | none=>.ready | some _=>.done)/\r.pending=pend
def rG (L:Lz) (st:St) (pend:Option Code) (I:Imm) (w:World) (b:Nat) (bs:List Nat):Prop :=
 ∃(r:Go.Loop) (μ:Mu) (bs0:List Nat),bs=b::bs0/\w.heap[b]?=some (.loop r)/\lC pend r/\(r.fn=L.fn/\r.params=L.ps/\r.assign=L.asg/\r.body=L.body/\r.tmps=L.tmps) /\
  (∀t d,lk L.E t=some d->RepD I μ (L.tmps.getD t undef) d)/\(∀i blk,Az st i blk->∃g,μ i=some g/\BlkRep I μ w g blk) /\
  (∀i j bi bj gi gj k,Az st i bi->Az st j bj->μ i=some gi->μ j=some gj->D0 gi k->D0 gj k->i=j)/\(∀k,k∈bs0↔BA μ st k)/\b∉bs0/\Pin L.F L.μ0 μ
def CO (L:Lz) (st:St) (pend:Option Code):Bun where
 P:=rG L st pend
 mono:=λ{I J w b bs} h hp=>by
  obtain ⟨r,μ,bs0,h1,h2,h3,h4,h5,h6,h7,h8,h9,h10⟩:=hp;exact ⟨r,μ,bs0,h1,h2,h3,h4,λt d hl=>(h5 t d hl).mono h (Mu.le_refl μ),λi blk hl=>let ⟨g,q1,q2⟩:=h6 i blk hl;⟨g,q1,q2.mono h (Mu.le_refl μ)⟩,h7,h8,h9,h10⟩
 loc:=λ{I w w' b bs} h hp=>by
  obtain ⟨r,μ,bs0,h1,h2,h3,h4,h5,h6,h7,h8,h9,h10⟩:=hp;subst h1;exact ⟨r,μ,bs0,rfl,(h b (by simp)).trans h2,h3,h4,h5,λi blk hl=>let ⟨g,q1,q2⟩:=h6 i blk hl;⟨g,q1,q2.world λk hk=>h k (by simp [(h8 k).2 ⟨i,blk,g,hl,q1,hk⟩])⟩,h7,h8,h9,h10⟩
def UR:Value->List Nat
 | .pointer (some a)=>[a.block]
 | .slice (some a) _ _=>[a.block]
 | .map (some c)=>[c]
 | .agg cs=>cs.toList.filterMap fun | .pointer (some a)=>some a.block | _=>none
 | .tuple ⟨[_,.agg cs]⟩=>cs.toList.filterMap fun | .pointer (some a)=>some a.block | _=>none
 | _=>[]
theorem Pd {g:Value} {k:Nat}:k∈UR g↔D0 g k:=by
 unfold UR D0
 split <;> simp [eq_comm]
 all_goals
  constructor
  ·rintro ⟨a,h1,h2⟩
   split at h2
   ·cases h2;exact ⟨_,h1,rfl⟩
   ·cases h2
  ·rintro ⟨a,h1,h2⟩;exact ⟨_,h1,by rw [h2]⟩
open Classical in
theorem Q3 (μ:Mu) (st:St):∃l:List Nat,∀k,k∈l↔BA μ st k:=by
 refine ⟨(Ey st).flatMap λi=>if (∃b,Az st i b) then (match μ i with | some g=>UR g | none=>[]) else [],λk=>?_⟩;rw [List.mem_flatMap];constructor
 ·rintro ⟨i,_,h⟩
  split at h
  ·rename_i hb;obtain ⟨b,hb⟩:=hb;cases hg:μ i with
   | none=>rw [hg] at h;cases h
   | some g=>rw [hg] at h;exact ⟨i,b,g,hb,hg,Pd.1 h⟩
  ·cases h
 ·rintro ⟨i,b,g,h1,h2,h3⟩;refine ⟨i,CY h1,?_⟩;rw [if_pos ⟨b,h1⟩,h2];exact Pd.2 h3
def Rl (ids:List Nat) (E:Env) (st:St) (F:List Nat):Prop:=ids.Nodup/\∀i∈ids,i∉Va E/\i∉Fw st/\i∉F
section
variable {P:Program} {n:Nat} {F:List Nat} {Q:DQ} {tt:TT} {env E:Env} {st st0 st1:St} {ids ids':List Nat} {k todo todo':List DI} {I:Imm} {μ:Mu} {w:World} {Pn:V->Prop} {d:D} {das:List D} {f:FuncId}
theorem mM:∀{st:St} {i:Nat} {b:Blk},Az st i b->i∈Fw st:=λh=>(EN h).1
theorem WW {L:Lz} {pend:Option Code} {b:Nat} {bs:List Nat} (h:rG L st pend I w b bs) (hf:Rl ids L.E st L.F) (hI:I.ok w) (hbs:∀k∈bs,I k=none/\k<w.heap.size) :
  ∃(r:Go.Loop) (ν:Mu) (bs0:List Nat),bs=b::bs0/\w.heap[b]?=some (.loop r)/\lC pend r/\(r.fn=L.fn/\r.params=L.ps/\r.assign=L.asg/\r.body=L.body/\r.tmps=L.tmps) /\
   (∀t d,lk L.E t=some d->RepD I ν (L.tmps.getD t undef) d)/\StRep I ν st ids w/\(∀k,k∈bs0↔BA ν st k)/\b∉bs0/\Pin L.F L.μ0 ν:=by
 obtain ⟨r,μ,bs0,h1,h2,h3,h4,h5,h6,h7,h8,h9,h10⟩:=h;obtain ⟨hf1,hf2⟩:=hf;obtain ⟨ν,hν⟩:∃ν:Mu,ν=λi=>if i∈ids then none else μ i:=⟨_,rfl⟩
 have hν1:∀i,i∉ids->ν i=μ i:=λi hi=>by rw [hν];exact if_neg hi
 have hv1:∀i,i∈Va L.E\/i∈Fw st\/i∈L.F->ν i=μ i:=λi hi=>hν1 i λhm=>by
  obtain ⟨q1,q2,q3⟩:=hf2 i hm;rcases hi with h | h | h
  ·exact q1 h
  ·exact q2 h
  ·exact q3 h
 have hv2:∀{i bi},Az st i bi->ν i=μ i:=λhl=>hv1 _ (.inr (.inl (mM hl)));have hown:∀k,BA ν st k↔BA μ st k:=λk=>by
  constructor <;> rintro ⟨i,bi,g,q1,q2,q3⟩
  ·exact ⟨i,bi,g,q1,by rw [<- hv2 q1];exact q2,q3⟩
  ·exact ⟨i,bi,g,q1,by rw [hv2 q1];exact q2,q3⟩
 refine ⟨r,ν,bs0,h1,h2,h3,h4,λt d hl=>(h5 t d hl).sub λj hj g hg=>by rw [hv1 j (.inl (XP hl j hj))];exact hg,?_,λk=>by rw [hown k];exact h8 k,h9,λi hi g hg=>by rw [hv1 i (.inr (.inr hi))];exact h10 i hi g hg⟩;exact
  {imm:=hI
   blk:=λi bi hl=>by
    obtain ⟨g,q1,q2⟩:=h6 i bi hl;exact ⟨g,by rw [hv2 hl];exact q1,q2.sub λj hj g hg=>by rw [hv1 j (.inr (.inl ((EN hl).2 j hj)))];exact hg⟩
   apart:=λi bi g k hl hgi hk=>hbs k (by rw [h1];exact List.mem_cons_of_mem _ ((h8 k).2 ⟨i,bi,g,hl,by rw [<- hv2 hl];exact hgi,hk⟩))
   inj:=λi j bi bj gi gj k hi hj hgi hgj=>h7 i j bi bj gi gj k hi hj (by rw [<- hv2 hi];exact hgi) (by rw [<- hv2 hj];exact hgj)
   nodup:=hf1
   idsFree:=λi hi=>by rw [hν];exact if_pos hi }
theorem JH {j:Nat} {S:Bun} (hj:j≠0) {i:Nat} {bi:Blk} (h:Az (UY j S) i bi):(i=0/\bi = .pin)\/(i=j/\bi = .bun 0 S):=by
 rcases A8.1 h with h | ⟨_,h⟩
 ·exact .inl h
 ·rcases A8.1 h with h | ⟨_,h⟩
  ·exact .inr h
  ·simp [Az,lk] at h
def oV:Option Code->List DI
 | none=>[]
 | some c=>[.code c]
theorem NU {g:Operand} {ps:Array Tmp} {asg body c:Code} {f y j j2:Nat} {fc:Func} {df dc:List D} {stc stc' stx stB:St} {pend:Option Code} (hg:CV env g=some (.fn (.func f) df dc)) (hf:P.funcs[f]?=some fc)
  (hname : (fc.name == "runtime.NumGoroutine") = false) (hb : fc.body = some c) (hF : gO ∉ F) (hEE : Xu env E) (hl : ∀ i b, Az (stc ++ stx) i b → Az st i b)
  (hE:∀L:Lz,P.funcs[L.fn]?.isSome->L.tmps.size=n->L.ps=ps->L.asg=asg->L.body=body->L.E=E->L.F=F ->
   Bt P f (df ++ .yld y::dc) ((y,some .pin)::(j,some (.bun y (CO L stx none)))::stc) (.ret d ((y,some .pin)::(j2,some (.bun y (CO L stB pend)))::stc')))
  (hdis:∀i∈Ey stc,i∉Ey stx) (hyj:y≠j/\y≠j2/\y∉Ey stc/\j∉Ey stc) (hcl:∀i,i∈I6 (df++dc)\/i∈Fw stc->i∈Ey stc) (hfree:Rl ids' E stB F)
  (hk:DGo P n F Q (oV pend++k) E stB ids'):DGo P n F Q (.code (.rangeFunc g ps asg body)::k) env st ids:=by
 intro b cs I μ a w items hd hc;obtain ⟨is,rfl,hki⟩:=H8 hd;rcases b.2 with hb0 | ⟨hb0,fcb,hfb⟩
 ·exact absurd hb0 hF
 have he:=run_enterLoop_outer (P:=P) (w:=w) b.1.fn a.tmps ps asg body;obtain ⟨ro,hro⟩:∃ro,ro=b.1.roundOf:=⟨_,rfl⟩
 have he':(Instr.enterLoop b.1.fn a.tmps ps asg body ro).run P w=(Instr.enterLoop b.1.fn a.tmps ps asg body none).run P w:=by rw [hro,hb0]
 rw [<- he',hro] at he;clear he';obtain ⟨L,hL⟩:∃L:Lz,L=⟨b.1.fn,ps,asg,body,a.tmps,E,F,μ⟩:=⟨_,rfl⟩
 obtain ⟨wa,hwa⟩:∃wa:World,wa=w.alloc (.deferred (some [])):=⟨_,rfl⟩
 rw [<- hwa] at he;have hwas:wa.heap.size=w.heap.size+1:=by rw [hwa];simp
 obtain ⟨R,hR⟩:∃R:Go.Loop,R={ state:=.ready,pending:=none,fn:=b.1.fn,tmps:=a.tmps,params:=ps,assign:=asg,body,defers:=w.heap.size }:=⟨_,rfl⟩
 rw [<- hR,<- hwas] at he;obtain ⟨w1,hw1⟩:∃w1:World,w1=wa.alloc (.loop R):=⟨_,rfl⟩
 rw [<- hw1] at he;have hw1s:w1.heap.size=w.heap.size+2:=by rw [hw1];simp;omega
 have hw1o:∀i,i<w.heap.size->w1.heap[i]?=w.heap[i]?:=λi hi=>by rw [hw1,GK wa _ (by omega),hwa];exact GK w _ hi
 have hw1m:w1.heap[w.heap.size]?=some (.deferred (some [])):=by rw [hw1,GK wa _ (by omega),hwa];exact Ek w _
 have hw1r:w1.heap[wa.heap.size]?=some (.loop R):=by rw [hw1];exact Ek wa _
 have hInew:∀k,w.heap.size<=k->I k=none:=λk hk=>by
  cases hI:I k with
  | none=>rfl
  | some o=>have:=BT (hc.imm k o hI);omega
 have hS1:StRep I μ st ids w1:=hc.toStRep.other (by omega) (λi o hi=>hw1o i (BT (hc.imm i o hi))) (λi hi=>hw1o i (DW hc.toStRep hi));have hlx:∀i bi,Az stx i bi->Az st i bi:=λi bi h=>hl i bi (cI (λhm=>hdis i hm (CY h)) h);have hlc:∀i bi,Az stc i bi->Az st i bi:=λi bi h=>hl i bi (cJ h);obtain ⟨bs0,hbs0⟩:=Q3 μ stx;have hownx:∀k,k∈bs0->BA μ st k:=λk hk=>let ⟨i,bi,g,h1,h2⟩:=(hbs0 k).1 hk;⟨i,bi,g,hlx i bi h1,h2⟩
 have hltx:∀k,k∈bs0->k<w.heap.size:=λk hk=>DW hc.toStRep (hownx k hk);have hEnv:∀t d',lk E t=some d'->RepD I μ (a.tmps.getD t undef) d':=λt d' hl=>by
  obtain ⟨d,h1,h2⟩:=Nw hEE t d' hl;exact PZ h2 (hc.env t d h1)
 have hB1:(CO L stx none).P I w1 wa.heap.size (wa.heap.size::bs0):=by
  refine ⟨R,μ,bs0,rfl,hw1r,⟨by rw [hR],by rw [hR]⟩,?_,?_,λi bi h=>hS1.blk i bi (hlx i bi h),λi j bi bj gi gj k hi hj=>hS1.inj i j bi bj gi gj k (hlx i bi hi) (hlx j bj hj),hbs0,λhm=>by have:=hltx _ hm;omega,?_⟩
  ·rw [hR,hL];exact ⟨rfl,rfl,rfl,rfl,rfl⟩
  ·rw [hL];exact hEnv
  ·rw [hL];exact .refl _ _
 obtain ⟨μc,hμc⟩:∃μc:Mu,μc=λi=>if i=y then some (.func (.yield wa.heap.size) #[] #[]) else if i=j then some (.agg (Ux (wa.heap.size::bs0))) else μ i:=⟨_,rfl⟩
 have hmy:μc y=some (.func (.yield wa.heap.size) #[] #[]):=by rw [hμc];simp
 have hmj:μc j=some (.agg (Ux (wa.heap.size::bs0))):=by rw [hμc];simp [Ne.symm hyj.1]
 have hmo:∀i∈Ey stc,μc i=μ i:=λi hi=>by
  have h1:i≠y:=λe=>hyj.2.2.1 (e ▸ hi);have h2:i≠j:=λe=>hyj.2.2.2 (e ▸ hi);rw [hμc];simp [h1,h2]
 obtain ⟨st0,hst0⟩:∃st0:St,st0=(y,some .pin)::(j,some (.bun y (CO L stx none)))::stc:=⟨_,rfl⟩
 have hl0:∀{i bi},Az st0 i bi->(i=y/\bi = .pin)\/(i=j/\bi = .bun y (CO L stx none))\/(i≠y/\i≠j/\Az stc i bi):=λ{i bi} h=>by
  rw [hst0] at h;rcases A8.1 h with h | ⟨h1,h⟩
  ·exact .inl h
  ·rcases A8.1 h with h | ⟨h2,h⟩
   ·exact .inr (.inl h)
   ·exact .inr (.inr ⟨h1,h2,h⟩)
 have hown0:∀k,BA μc st0 k->k=wa.heap.size\/k∈bs0\/BA μ stc k:=λk ⟨i,bi,g,h1,h2,h3⟩=>by
  rcases hl0 h1 with ⟨rfl,rfl⟩ | ⟨rfl,rfl⟩ | ⟨_,_,h⟩
  ·rw [hmy] at h2;cases h2;exact h3.elim
  ·rw [hmj] at h2;cases h2;rcases List.mem_cons.1 (Ds.1 h3) with h | h
   ·exact .inl h
   ·exact .inr (.inl h)
  ·exact .inr (.inr ⟨i,bi,g,h,by rw [<- hmo i (CY h)];exact h2,h3⟩)
 have hcx:∀{i bi g k},Az stc i bi->μ i=some g->D0 g k->k∉bs0:=λ{i bi g k} h1 h2 h3 hm=>by
  obtain ⟨i',bi',g',q1,q2,q3⟩:=(hbs0 k).1 hm;have:=hS1.inj i i' bi bi' g g' k (hlc i bi h1) (hlx i' bi' q1) h2 q2 h3 q3;subst this;exact hdis i (CY h1) (CY q1)
 have hS0:StRep I μc st0 [] w1:=by
  refine { imm:=hS1.imm,blk:=λi bi h=>?_,apart:=λi bi g k h hgi hk=>?_,inj:=λi i' bi bj gi gj k hi hj hgi hgj hki hkj=>?_,nodup:=.nil,idsFree:=λ_ h=>by simp at h }
  ·rcases hl0 h with ⟨rfl,rfl⟩ | ⟨rfl,rfl⟩ | ⟨_,_,h⟩
   ·exact ⟨_,hmy,_,rfl⟩
   ·exact ⟨_,hmj,_,_,hmy,rfl,hB1⟩
   ·obtain ⟨g,q1,q2⟩:=hS1.blk i bi (hlc i bi h);exact ⟨g,by rw [hmo i (CY h)];exact q1,q2.sub λx hx g hg=>by rw [hmo x (hcl x (.inr ((EN h).2 x hx)))];exact hg⟩
  ·rcases hown0 k ⟨i,bi,g,h,hgi,hk⟩ with h | h | ⟨i',bi',g',q1,q2,q3⟩
   ·rw [h];exact ⟨hInew _ (by omega),by omega⟩
   ·obtain ⟨i',bi',g',q1,q2,q3⟩:=hownx k h;exact hS1.apart i' bi' g' k q1 q2 q3
   ·exact hS1.apart i' bi' g' k (hlc i' bi' q1) q2 q3
  ·rcases hl0 hi with ⟨rfl,rfl⟩ | ⟨rfl,rfl⟩ | ⟨_,_,hi⟩ <;> rcases hl0 hj with ⟨rfl,rfl⟩ | ⟨rfl,rfl⟩ | ⟨_,_,hj⟩
   ·rfl
   ·rw [hmy] at hgi;cases hgi;exact hki.elim
   ·rw [hmy] at hgi;cases hgi;exact hki.elim
   ·rw [hmy] at hgj;cases hgj;exact hkj.elim
   ·rfl
   ·rw [hmj] at hgi;cases hgi;have q:=hmo i' (CY hj);rw [hgj] at q;rcases List.mem_cons.1 (Ds.1 hki) with h | h
    ·have:=(hS1.apart i' bj gj k (hlc _ _ hj) q.symm hkj)
     have hlt:=DW hc.toStRep ⟨i',bj,gj,hlc _ _ hj,q.symm,hkj⟩;omega
    ·exact absurd h (hcx hj q.symm hkj)
   ·rw [hmy] at hgj;cases hgj;exact hkj.elim
   ·rw [hmj] at hgj;cases hgj;have q:=hmo i (CY hi);rw [hgi] at q;rcases List.mem_cons.1 (Ds.1 hkj) with h | h
    ·have hlt:=DW hc.toStRep ⟨i,bi,gi,hlc _ _ hi,q.symm,hki⟩;omega
    ·exact absurd h (hcx hi q.symm hki)
   ·have q1:=hmo i (CY hi);have q2:=hmo i' (CY hj);rw [hgi] at q1;rw [hgj] at q2;exact hS1.inj i i' bi bj gi gj k (hlc _ _ hi) (hlc _ _ hj) q1.symm q2.symm hki hkj
 have hvg:=UF (I:=I) (μ:=μ) (a:=a) hg λt _ d hl=>hc.env t d hl;generalize hve:a.eval g=vg at hvg;cases hvg with
 | fn _ first cap _ _ hl1 hl2 q1 q2 =>
 have hnL:∀{l m:List D} {i},i∈I6 l\/i∈I6 m->i∈I6 (l++m):=λ{l m i} h=>by
  have:∀(l m:List D),I6 (l++m)=I6 l++I6 m:=λl m=>by
   induction l with
   | nil=>rfl
   | cons x r ih=>simp [I6,ih]
  rw [this];simpa using h
 have hargs:RepL I μc (first ++ #[Value.func (.yield wa.heap.size) #[] #[]]++cap).toList (df ++ .yld y::dc):=by
  have e:df ++ .yld y::dc=df++[.yld y]++dc:=by simp
  rw [e,Array.toList_append,Array.toList_append];have h1:RepL I μ first.toList df:=⟨by simpa using hl1,λi v d p q=>q1 i v d (by simpa using p) q⟩
  have h2:RepL I μ cap.toList dc:=⟨by simpa using hl2,λi v d p q=>q2 i v d (by simpa using p) q⟩
  refine RepL.append (RepL.append (h1.sub λx hx g hg=>?_) (.mk (.yld _ _ hmy) .nil)) (h2.sub λx hx g hg=>?_)
  ·rw [hmo x (hcl x (.inl (hnL (.inl hx))))];exact hg
  ·rw [hmo x (hcl x (.inl (hnL (.inr hx))))];exact hg
 have hEL:=hE L (by rw [hL];simp [hfb]) (by rw [hL];exact hc.size) (by rw [hL]) (by rw [hL]) (by rw [hL]) (by rw [hL]) (by rw [hL]);rw [<- hst0] at hEL;have hcall:=hEL I μc w1 _ hS0 hargs;rw [BU hf hname hb] at hcall;have hres:∃dd,(resolve a.eval (rangeCall g wa.heap.size) 0).run P w1 = .ok dd w1/\(invoke dd.target dd.args).run P w1 = .ok (.enter f (first ++ #[Value.func (.yield wa.heap.size) #[] #[]]++cap)) w1:=by
  refine ⟨⟨.fn (.func f) cap,first ++ #[Value.func (.yield wa.heap.size) #[] #[]]⟩,?_,?_⟩
  ·have hcv:a.eval (.const (.func (.yield wa.heap.size) #[] #[])) = .func (.yield wa.heap.size) #[] #[]:=rfl;simp [rangeCall,resolve,Deferred.ofValue,hve,hcv]
  ·simpa [invoke] using BU (w:=w1) hf hname hb (first ++ #[Value.func (.yield wa.heap.size) #[] #[]]++cap)
 obtain ⟨dd,hr1,hr2⟩:=hres;refine Pl he hr1 hr2 (Calls.mono hcall λen w3 hen=>?_);cases en with
 | panicked chain=>exact hen.elim
 | outgrown=>exact hen.elim
 | returned v =>
  obtain ⟨I',μ',p1,p2,p3,p4⟩:=hen;have hly:Az ((y,some .pin)::(j2,some (.bun y (CO L stB pend)))::stc') j2 (.bun y (CO L stB pend)):=A8.2 (.inr ⟨Ne.symm hyj.2.1,A8.2 (.inl ⟨rfl,rfl⟩)⟩);obtain ⟨g2,hg2,b2,bs2,hb2,rfl,hP2⟩:=p2.blk j2 _ hly;have hyy:μ' y=some (.func (.yield wa.heap.size) #[] #[]):=p3 y (by rw [hst0];simp [Ey]) _ hmy;rw [hyy] at hb2;cases hb2;have hbs2:∀k∈bs2,I' k=none/\k<w3.heap.size:=λk hk=>p2.apart j2 _ _ k hly hg2 (Ds.2 hk);obtain ⟨r,ν,bsN,e1,hrr,⟨hr2',hr3⟩,⟨hr4,hr5,hr6,hr7,hr8⟩,hE3,hS3,hownN,hnbN,hFN⟩:=WW hP2 (ids:=ids') (by rw [hL];exact hfree) p2.imm hbs2;subst e1;have hend:=run_endLoop (P:=P) hrr (by rw [hr2'];cases pend <;> simp)
  obtain ⟨w4,hw4⟩:∃w4:World,w4=w3.putObj wa.heap.size (.loop { r with state:=.exhausted }):=⟨_,rfl⟩
  have hend':(Instr.endLoop wa.heap.size).run P w3 = .ok pend w4:=by rw [hw4,hend,hr3]
  refine ⟨pend,w4,hend',?_⟩;have hlb:wa.heap.size<w3.heap.size:=BT hrr;have hoth:∀i,i≠wa.heap.size->w4.heap[i]?=w3.heap[i]?:=λi hi=>by
   rw [hw4];unfold World.putObj;simp [Array.getElem?_setIfInBounds_ne (Ne.symm hi)]
  have hw4s:w4.heap.size=w3.heap.size:=by rw [hw4];unfold World.putObj;simp
  obtain ⟨hIb,_⟩:=hbs2 _ (List.mem_cons_self ..);have hS4:StRep I' ν stB ids' w4:=hS3.other (by omega) (λi o hi=>hoth i (λe=>by rw [e,hIb] at hi;cases hi)) (λi hi=>hoth i (λe=>hnbN ((hownN _).2 (e ▸ hi))));have hsz3:=p4.size;have hno0:∀k,k<w.heap.size->¬BA μ st k->¬BA μc st0 k:=λk hk hno h=>by
   rcases hown0 k h with h | h | ⟨i,bi,g,q1,q2⟩
   ·omega
   ·exact hno (hownx k h)
   ·exact hno ⟨i,bi,g,hlc i bi q1,q2⟩
  have hblk:∀k,k<w1.heap.size->k≠wa.heap.size->¬BA μc st0 k->w4.heap[k]?=w1.heap[k]?:=λk hk hne hno=>(hoth k hne).trans (p4.block k hk hno);have hfr:∀k,k<w1.heap.size->BA ν stB k->BA μc st0 k:=λk hk ho=>p4.fresh k hk ⟨j2,_,_,hly,hg2,Ds.2 (List.mem_cons_of_mem _ ((hownN k).2 ho))⟩;have hExt:Ext I μ st w I' ν stB w4 :=
   {imm:=p4.imm
    os:=by rw [hw4];unfold World.putObj;exact p4.os.trans (by rw [hw1,hwa];rfl)
    tape:=by rw [hw4];unfold World.putObj;exact p4.tape.trans (by rw [hw1,hwa];rfl)
    output:=by rw [hw4];unfold World.putObj;exact p4.output.trans (by rw [hw1,hwa];rfl)
    size:=by omega
    block:=λk hk hno=>(hblk k (by omega) (by omega) (hno0 k hk hno)).trans (hw1o k hk)
    fresh:=λk hk ho=>by
     rcases hown0 k (hfr k (by omega) ho) with h | h | ⟨i,bi,g,q1,q2⟩
     ·omega
     ·exact hownx k h
     ·exact ⟨i,bi,g,hlc i bi q1,q2⟩
    old:=λk hk hno=>p4.old k (by omega) (hno0 k hk hno) }
  have hMk:MarksOk I' ν stB w4 ([{ target:=.collected w.heap.size,args:=#[] }]++a.defers):=by
   obtain ⟨rs,r1,r2,r3⟩:=hc.defers;refine ⟨w.heap.size::rs,by rw [r1];rfl,List.nodup_cons.2 ⟨λhm=>?_,r2⟩,λr hr=>?_⟩
   ·have:=BT (r3 _ hm).1;omega
   have hno:¬BA μc st0 r/\r<w1.heap.size/\r≠wa.heap.size/\w1.heap[r]?=some (.deferred (some []))/\I r=none:=by
    rcases List.mem_cons.1 hr with rfl | hr
    ·refine ⟨λh=>?_,by omega,by omega,hw1m,hInew _ (Nat.le_refl _)⟩;rcases hown0 _ h with h | h | ⟨i,bi,g,q1,q2,q3⟩
     ·omega
     ·have:=hltx _ h;omega
     ·have:=DW hc.toStRep ⟨i,bi,g,hlc i bi q1,q2,q3⟩;omega
    ·obtain ⟨h1,h2,h3⟩:=r3 r hr;have hlt:=BT h1;exact ⟨hno0 r hlt h3,by omega,by omega,(hw1o r hlt).trans h1,h2⟩
   obtain ⟨h1,h2,h3,h4,h5⟩:=hno;exact ⟨(hblk r h2 h3 h1).trans h4,(p4.old r h2 h1).trans h5,λho=>h1 (hfr r h2 ho)⟩
  have hC:Conc n I' ν E stB ids' { a with defers:=[{ target:=.collected w.heap.size,args:=#[] }]++a.defers } w4 :=
   {hS4 with size:=hc.size,env:=λt d hl=>by have:=hE3 t d (by rw [hL];exact hl);rw [hL] at this;exact this,defers:=hMk }
  have hden:TZ (oV pend++k) ((pend.map Item.code).toList++is):=by
   cases pend with
   | none=>exact hki
   | some c=>exact ⟨rfl,hki⟩
  refine Reach.mono (λe a' w' hp=>?_) (hk b cs I' ν _ w4 _ hden hC);obtain ⟨x',env',st',ids2,I2,μ2,t1,t2,t3,t4,t5,t6⟩:=hp;have hpin:Pin F μ ν:=by rw [hL] at hFN;exact hFN
  refine ⟨x',env',st',ids2,I2,μ2,t1,t2,t3,hpin.trans t4,hExt.trans t5,λr hr=>?_⟩;rcases t6 r hr with h | h
  ·simp only [List.singleton_append,List.mem_cons] at h;rcases h with h | h
   ·simp only [qW,Deferred.mk.injEq,Target.collected.injEq,and_true] at h;exact .inr (by omega)
   ·exact .inl h
  ·exact .inr (by omega)
end
end Go.Hk
namespace Go.Hk
section
variable {P:Program} {n:Nat} {F:List Nat} {Q:DQ} {tt:TT} {env:Env} {st:St} {ids:List Nat} {todo:List DI}
theorem OZ (t:Nat) {id off:Nat} {ty:TypeId} {sz:Nat} {xs:List V} (he:lk env t=some (.ref id off)) (hl:lk st id=some (some (.immb ty sz xs))) (h:DGo P n F Q todo ((t,.ip ty xs off)::env) ((id,none)::st) ids) :
  DGo P n F Q todo env st ids:=by
 intro b cs I μ a w items hd hc;have hlive:Az st id (.immb ty sz xs):=hl;obtain ⟨g,hg,hlen,gb,vs,rfl,hheap,hrep,hone⟩:=hc.blk id _ hlive;obtain ⟨hno,hlt⟩:=hc.apart id _ _ gb hlive hg rfl;obtain ⟨J,hJ⟩:∃J:Imm,J=λk=>if k=gb then some (.cells vs ty (0,0)) else I k:=⟨_,rfl⟩
 have hle:I.le J:=λk o h=>by
  have:k≠gb:=λe=>by rw [e,hno] at h;cases h
  rw [hJ];simp [this,h]
 have hJo:∀k o,J k=some o->I k=some o\/(k=gb/\w.heap[k]?=some o):=λk o h=>by
  rw [hJ] at h;by_cases hk:k=gb
  ·subst hk;simp at h;subst h;exact .inr ⟨rfl,hheap⟩
  ·simp [hk] at h;exact .inl h
 have hE:Ext I μ st w J μ ((id,none)::st) w :=
  {imm:=hle,os:=rfl,tape:=rfl,output:=rfl,size:=Nat.le_refl _
   block:=λ_ _ _=>rfl
   fresh:=λk _ ⟨i,bi,gi,h1,h2,h3⟩=>⟨i,bi,gi,(BD.1 h1).2,h2,h3⟩
   old:=λk _ ho=>by
    have:k≠gb:=λe=>ho (e ▸ ⟨id,_,_,hlive,hg,rfl⟩);rw [hJ];simp [this] }
 have hv:RepD I μ (a.tmps.getD t undef) (.ref id off):=hc.env t _ he;have hptr:a.tmps.getD t undef = .pointer (some ⟨gb,off,none⟩):=by
  generalize a.tmps.getD t undef=v at hv;cases hv with
  | ref b' _ _ hm=>rw [hg] at hm;cases hm;rfl
 have hip:RepD J μ (a.tmps.getD t undef) (.ip ty xs off):=by
  rw [hptr];have:=RepD.ip (I:=J) (μ:=μ) gb 0 ty xs off (λj=>(vs[j]?).getD undef) (λj x hx=>?_) (λj x hx=>?_)
  ·simpa using this
  ·have hj:j<vs.size:=by have:=hrep.1;have:=(List.getElem?_eq_some_iff.1 hx).1;simp at *;omega
   rw [hJ];simp only [Imm.cell,if_true,Nat.zero_add,Array.getElem?_eq_getElem hj,Option.getD_some,true_and];exact hone _ (by simp)
  ·have hj:j<vs.size:=by have:=hrep.1;have:=(List.getElem?_eq_some_iff.1 hx).1;simp at *;omega
   simp only [Array.getElem?_eq_getElem hj,Option.getD_some];exact (hrep.2 j _ x (by simp [hj]) hx).mono hle
 have hc':Conc n J μ ((t,.ip ty xs off)::env) ((id,none)::st) ids a w :=
  {imm:=λk o h=>(hJo k o h).elim (λh=>hc.imm k o h) λh=>h.2
   blk:=λi bi hli=>by
    obtain ⟨_,h2⟩:=BD.1 hli;obtain ⟨gi,hgi,hr⟩:=hc.blk i bi h2;exact ⟨gi,hgi,hr.mono hle (Mu.le_refl μ)⟩
   apart:=λi bi gi k hli hgi hk=>by
    obtain ⟨h1,h2⟩:=BD.1 hli;obtain ⟨q1,q2⟩:=hc.apart i bi gi k h2 hgi hk;refine ⟨?_,q2⟩;cases hJk:J k with
    | none=>rfl
    | some o =>
     rcases hJo k o hJk with h | ⟨h,_⟩
     ·rw [q1] at h;cases h
     ·exact absurd (hc.inj i id bi _ gi _ k h2 hlive hgi hg hk (by rw [h];rfl)) h1
   inj:=λi j bi bj gi gj k hi hj hgi hgj hki hkj=>hc.inj i j bi bj gi gj k (BD.1 hi).2 (BD.1 hj).2 hgi hgj hki hkj
   nodup:=hc.nodup
   idsFree:=hc.idsFree
   size:=hc.size
   env:=λt' d hlt=>by
    by_cases ht:t=t'
    ·subst ht;rw [Ax] at hlt;cases hlt;exact hip
    ·rw [A5 _ _ ht] at hlt;exact (hc.env t' d hlt).mono hle (Mu.le_refl μ)
   defers:=hc.defers.ext hE }
 exact (h b cs J μ a w items hd hc').mono λe' a' w' hp=>hp.back (.refl _ _) hE
theorem IK (i j:Nat) {ids':List Nat} {blk:Blk} (hl:lk st i=some (some blk)) (hj:(Fm ids j&&Jh ids'&&Pe ids' ids && !Fm ids' j)=true) (h:DGo P n F Q todo env ((j,some blk)::(i,none)::st) ids'):DGo P n F Q todo env st ids:=by
 intro b cs I μ a w items hd hc;simp only [Bool.and_eq_true,Bool.not_eq_true'] at hj;obtain ⟨⟨⟨hj1,hj2⟩,hj3⟩,hj4⟩:=hj;have hlive:Az st i blk:=hl;obtain ⟨g,hg,hr⟩:=hc.blk i _ hlive;have hjn:μ j=none:=hc.idsFree j (BS.1 hj1);have hij:i≠j:=λe=>by rw [e,hjn] at hg;cases hg
 obtain ⟨ν,hν⟩:∃ν:Mu,ν=λk=>if k=j then some g else μ k:=⟨_,rfl⟩
 have hνj:ν j=some g:=by rw [hν];simp
 have hνo:∀k,k≠j->ν k=μ k:=λk hk=>by rw [hν];simp [hk]
 have hle:μ.le ν:=λk v hk=>by
  have:k≠j:=λe=>by rw [e,hjn] at hk;cases hk
  rw [hνo k this];exact hk
 have hst:∀k bk,Az ((j,some blk)::(i,none)::st) k bk->(k=j/\bk=blk)\/(k≠j/\k≠i/\Az st k bk):=λk bk h=>by
  rcases A8.1 h with h | ⟨h1,h⟩
  ·exact .inl h
  ·obtain ⟨h2,h3⟩:=BD.1 h;exact .inr ⟨h1,h2,h3⟩
 have hE:Ext I μ st w I ν ((j,some blk)::(i,none)::st) w :=
  {imm:=Imm.le_refl I,os:=rfl,tape:=rfl,output:=rfl,size:=Nat.le_refl _,block:=λ_ _ _=>rfl
   fresh:=λk _ ⟨x,bx,gx,h1,h2,h3⟩=>by
    rcases hst x bx h1 with ⟨rfl,rfl⟩ | ⟨q1,_,q3⟩
    ·rw [hνj] at h2;cases h2;exact ⟨i,_,_,hlive,hg,h3⟩
    ·exact ⟨x,bx,gx,q3,by rw [<- hνo x q1];exact h2,h3⟩
   old:=λ_ _ _=>rfl }
 have hc':Conc n I ν env ((j,some blk)::(i,none)::st) ids' a w :=
  {imm:=hc.imm
   blk:=λk bk hk=>by
    rcases hst k bk hk with ⟨rfl,rfl⟩ | ⟨q1,_,q3⟩
    ·exact ⟨g,hνj,hr.mono (Imm.le_refl I) hle⟩
    ·obtain ⟨g',h1,h2⟩:=hc.blk k bk q3;exact ⟨g',hle _ _ h1,h2.mono (Imm.le_refl I) hle⟩
   apart:=λk bk gk m hk hgk hm=>by
    rcases hst k bk hk with ⟨rfl,rfl⟩ | ⟨q1,_,q3⟩
    ·rw [hνj] at hgk;cases hgk;exact hc.apart i _ _ m hlive hg hm
    ·exact hc.apart k bk gk m q3 (by rw [<- hνo k q1];exact hgk) hm
   inj:=λk k' bk bk' gk gk' m hk hk' hgk hgk' hm hm'=>by
    rcases hst k bk hk with ⟨rfl,rfl⟩ | ⟨q1,p1,q3⟩ <;> rcases hst k' bk' hk' with ⟨rfl,rfl⟩ | ⟨q1',p1',q3'⟩
    ·rfl
    ·rw [hνj] at hgk;cases hgk;exact absurd (hc.inj k' i bk' _ gk' _ m q3' hlive (by rw [<- hνo k' q1'];exact hgk') hg hm' hm) p1'
    ·rw [hνj] at hgk';cases hgk';exact absurd (hc.inj k i bk _ gk _ m q3 hlive (by rw [<- hνo k q1];exact hgk) hg hm hm') p1
    ·exact hc.inj k k' bk bk' gk gk' m q3 q3' (by rw [<- hνo k q1];exact hgk) (by rw [<- hνo k' q1'];exact hgk') hm hm'
   nodup:=HO hj2
   idsFree:=λk hk=>by
    have h1:=hc.idsFree k (FW hj3 k hk);have:k≠j:=λe=>by rw [<- e] at hj4;rw [BS.2 hk] at hj4;cases hj4
    rw [hνo k this];exact h1
   size:=hc.size
   env:=λt d hlt=>(hc.env t d hlt).mono (Imm.le_refl I) hle
   defers:=hc.defers.ext hE }
 exact (h b cs I ν a w items hd hc').mono λe' a' w' hp=>hp.back (.of_le hle) hE
inductive Yields (P:Program):List D->Bun->Bool->Bun->Prop where
 | nil (S:Bun):Yields P [] S true S
 | cons {d:D} {l:List D} {S S1 S2:Bun} {r:Bool} (h:Py P [d] S true S1) (h1:Yields P l S1 r S2):Yields P (d::l) S r S2
 | stop {d:D} {l:List D} {S S1:Bun} (h:Py P [d] S false S1):Yields P (d::l) S false S1
theorem Yields.split {l m:List D} {S S2:Bun} {r:Bool} (h:Yields P (l++m) S r S2):(∃S1,Yields P l S true S1/\Yields P m S1 r S2)\/(r=false/\Yields P l S false S2):=by
 induction l generalizing S with
 | nil=>exact .inl ⟨S,.nil S,h⟩
 | cons d l ih =>
  cases h with
  | cons h h1 =>
   rcases ih h1 with ⟨S1,q1,q2⟩ | ⟨q1,q2⟩
   ·exact .inl ⟨S1,.cons h q1,q2⟩
   ·exact .inr ⟨q1,.cons h q2⟩
  | stop h=>exact .inr ⟨rfl,.stop h⟩
theorem Yields.nilInv {S S2:Bun} {r:Bool} (h:Yields P [] S r S2):r=true/\S2=S:=by
 cases h;exact ⟨rfl,rfl⟩
theorem Yields.all {l:List D} (S:Nat->Bun) (h:∀i d,l[i]?=some d->Py P [d] (S i) true (S (i+1))):Yields P l (S 0) true (S l.length):=by
 have:∀(l:List D) (k:Nat),(∀i d,l[i]?=some d->Py P [d] (S (k+i)) true (S (k+i+1)))->Yields P l (S k) true (S (k+l.length)):=by
  intro l
  induction l with
  | nil=>intro k _;exact .nil _
  | cons d l ih =>
   intro k h;have:=ih (k+1) λi d hi=>by
    have:=h (i+1) d (by simpa using hi)
    rwa [show k+1+i=k+(i+1) by omega]
   rw [show k+1+l.length=k+(d::l).length by simp;omega] at this;exact .cons (h 0 d rfl) this
 have:=this l 0 λi d hi=>by simpa using h i d hi
 simpa using this
end
end Go.Hk
