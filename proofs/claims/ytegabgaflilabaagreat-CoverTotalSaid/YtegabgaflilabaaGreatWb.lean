/- A block behind a pointer that nobody writes any more; what a function does that ranges (iterators). (And what it stands on.) -/
import Derived.Test.YtegabgaflilabaaGreatWa
import Derived.Test.YtegabgaflilabaaGreatProg
import Derived.KernelRfl
import Derived.RowKit3
set_option linter.unusedSimpArgs false
set_option linter.unusedVariables false

set_option maxRecDepth 100000
set_option maxHeartbeats 4000000
namespace Go.Hk
inductive Res where
 | at (todo:List DI) (env:Env) (st:St) (ids:List Nat) (ob:List Prop)
 | bad
inductive Pt where
 | t
 | f
 | a
 | s
def run (tt:TT) (n:Nat):Nat->List Pt->List DI->Env->St->List Nat->List Prop->Res
 | 0,_,k,env,st,ids,ob=>.at k env st ids ob
 | f+1,path,todo,env,st,ids,ob=>match todo with
  | .code (.seq a b)::k=>run tt n f path (.code a :: .code b::k) env st ids ob
  | .code .skip::k=>run tt n f path k env st ids ob
  | .code (.label _)::k=>run tt n f path k env st ids ob
  | .inBlock _::k=>match path with
   | .s::_=>.at k env st ids ob
   | _=>run tt n f path k env st ids ob
  | .inScope _::k=>run tt n f path k env st ids ob
  | .code (.block id c)::k=>run tt n f path (.code c :: .inBlock id::k) env st ids ob
  | .code (.scope c)::k=>run tt n f path (.code c :: .inScope c::k) env st ids ob
  | .code (.exit id)::k=>match FA id k with
   | some k'=>run tt n f path k' env st ids ob
   | none=>.at (.code (.exit id)::k) env st ids ob
  | .code (.region _ ⟨ops⟩ false)::k=>run tt n f path (.ops ops ops::k) env st ids ob
  | .code (.region _ ⟨ops⟩ true)::k=>run tt n f path (.dops ops ops []::k) env st ids ob
  | .ops _ []::k=>run tt n f path k env st ids ob
  | .ops all (o::r)::k=>match Fe tt n all o env st ids with
   | .y _ env' []=>run tt n f path (.ops all r::k) env' st ids ob
   | .y _ env' [p]=>run tt n f path (.ops all r::k) env' st ids (p::ob)
   | .y _ env' [p,q]=>run tt n f path (.ops all r::k) env' st ids (p::q::ob)
   | .y _ env' (p::q::l)=>run tt n f path (.ops all r::k) env' st ids (p::q::Iv l ob)
   | .e env' st' ids' []=>run tt n f path (.ops all r::k) env' st' ids' ob
   | .e env' st' ids' [p]=>run tt n f path (.ops all r::k) env' st' ids' (p::ob)
   | .e env' st' ids' (p::l)=>run tt n f path (.ops all r::k) env' st' ids' (p::Iv l ob)
   | .no=>.at (.ops all (o::r)::k) env st ids ob
  | .dops all [] fs::k=>run tt n f path k env st ids ((Np all fs.reverse=true)::ob)
  | .dops all (o::r) fs::k=>match Fe tt n all o env st ids,QD env o.op with
   | .y _ env' [],[]=>run tt n f path (.dops all r (([],[])::fs)::k) env' st ids ob
   | .y _ env' [],[i]=>run tt n f path (.dops all r (([i],[])::fs)::k) env' st ids ob
   | .y _ env' [p],[]=>run tt n f path (.dops all r (([],[])::fs)::k) env' st ids (p::ob)
   | .y _ env' [p],[i]=>run tt n f path (.dops all r (([i],[])::fs)::k) env' st ids (p::ob)
   | .y _ env' (p::l),rd=>run tt n f path (.dops all r ((rd,[])::fs)::k) env' st ids (p::Iv l ob)
   | .e env' ((i,x)::st') ids' ob',[]=>run tt n f path (.dops all r (([],[i])::fs)::k) env' ((i,x)::st') ids' (Iv ob' ob)
   | .e env' ((i,x)::st') ids' ob',[j]=>run tt n f path (.dops all r (([j],[i])::fs)::k) env' ((i,x)::st') ids' (Iv ob' ob)
   | _,_=>.at (.dops all (o::r) fs::k) env st ids ob
  | .code (.cond c x y)::k=>match path,D2 env c with
   | .t::path',some (.imm (.bool t))=>run tt n f path' (.code x::k) env st ids ((t=true)::ob)
   | .f::path',some (.imm (.bool t))=>run tt n f path' (.code y::k) env st ids ((t=false)::ob)
   | .a::path',some (.imm (.bool t))=>run tt n f path' (.code (bif t then x else y)::k) env st ids ob
   | _,_=>.at (.code (.cond c x y)::k) env st ids ob
  | k=>.at k env st ids ob
def G (P:Program) (n:Nat) (F:List Nat) (Q:DQ) (todo:List DI) (env:Env) (st:St) (ids:List Nat):Prop :=
 match todo with
 | .dops all rest fs::k=>DD P n F Q all rest fs.reverse k env st ids
 | todo=>DGo P n F Q todo env st ids
section
variable {P:Program} {n:Nat} {F:List Nat} {Q:DQ} {tt:TT} {env env':Env} {st st':St} {ids ids':List Nat} {k:List DI} {cx:Prop} {d:D} {ob ob':List Prop} {todo:List DI} {Pn:V->Prop}
theorem G.go (h:G P n F Q todo env st ids):DGo P n F Q todo env st ids:=by
 unfold G at h
 split at h
 ·intro b cs I μ a w items hd hc;obtain ⟨i,is,rfl,h1,_⟩:=Gy hd;cases i <;> exact h1.elim
 ·exact h
theorem LD.ld_y {all:List Oper} {o:Oper} {rd:List Nat} (h:∀st',Agree rd st st'->YD P all o env st' d):LD P Pn all o env st rd [] [] d:=by
 intro I μ st1 ids1 a w hag hst hon;obtain ⟨h1,h2⟩:=h st1 hag I μ _ a w hst hon;exact ⟨λhw=>((h1 hw).mono λv w' ⟨I',q1,q2,q3⟩=>⟨I',μ,q1,q2,Mu.le_refl μ,q3⟩).x,λhw=>⟨rfl,rfl,h2 hw⟩⟩
theorem O9 {all:List Oper} {o:Oper} {rd:Bool} (h:Fe tt n all o env st ids = .y rd env' ob) (hag:Agree (QD env o.op) st st'):Fe tt n all o env st' ids = .y rd env' ob:=by
 unfold Fe at h ⊢
 split at h
 ·rename_i hg;simp only [Uf hag]
  split at h
  ·exact h
  ·exact h
  ·split at h
   ·exact absurd h VX
   ·cases h
 ·rename_i j w0 hg;simp only [Uf hag];exact h
theorem iL {dst:Option Nat} {d d':D} (h:BE dst d env=BE dst d' env):dst=none\/d=d':=by
 cases dst with
 | none=>exact .inl rfl
 | some t=>simp only [BE,List.cons.injEq,Prod.mk.injEq,true_and,and_true] at h;exact .inr h
theorem dD (htt:TTok P tt) {all:List Oper} {o:Oper} {rd:Bool} (h:Fe tt n all o env st ids = .y rd env' ob) (hob:AA ob) :
  ∃d,env'=BE o.dst d env/\(∀t,o.dst=some t->t<n)/\(∀c,o.op ≠ .defer c)/\YD P all o env st d/\LD P Pn all o env st (QD env o.op) [] [] d:=by
 obtain ⟨d,e1,e2,e3,e4,_⟩:=PL htt h hob;cases hdst:o.dst with
 | some t =>
  refine ⟨d,by rw [e1,hdst],λt' ht=>e2 t' (by rw [hdst];exact ht),e3,e4,LD.ld_y λst' hag=>?_⟩;obtain ⟨d',e1',_,_,e4',_⟩:=PL htt (O9 h hag) hob;rw [e1] at e1';rcases iL e1' with h | h
  ·rw [hdst] at h;cases h
  ·rw [h];exact e4'
 | none =>
  refine ⟨.undef,(by rw [e1,hdst];rfl),(λt' ht=>by cases ht),e3,?_,LD.ld_y λst' hag=>?_⟩
  ·intro I μ ids a w hst hon;obtain ⟨h1,_⟩:=e4 I μ ids a w hst hon;exact ⟨λhw=>(h1 hw).mono λv w' ⟨I',q1,_,q3⟩=>⟨I',q1,.undef _,q3⟩,λ_=>.undef _⟩
  ·obtain ⟨d',_,_,_,e4',_⟩:=PL htt (O9 h hag) hob;intro I μ ids a w hst hon;obtain ⟨h1,_⟩:=e4' I μ ids a w hst hon;exact ⟨λhw=>(h1 hw).mono λv w' ⟨I',q1,_,q3⟩=>⟨I',q1,.undef _,q3⟩,λ_=>.undef _⟩
theorem TN (htt:TTok P tt) {all:List Oper} {o:Oper} {i:Nat} {x:Option Blk} (h:Fe tt n all o env st ids = .e env' ((i,x)::st') ids' ob) (hob:AA ob) :
  ∃d fr,st'=st/\ids=fr++ids'/\env'=BE o.dst d env/\(∀t,o.dst=some t->t<n)/\(∀c,o.op ≠ .defer c)/\ED P all o env st ids d ((i,x)::st') ids'/\LD P Pn all o env st (QD env o.op) fr [(i,x)] d:=by
 have h0:=h;unfold Fe at h
 split at h
 ·rename_i hg
  split at h
  ·exact absurd h HK
  ·exact absurd h HK
  ·split at h
   ·rename_i d s i2 ob2 he;obtain ⟨rfl,rfl,rfl,e1,e2⟩:=iM h;obtain ⟨fr,wr,q1,q2,_,q4⟩:=Ug he;have hwr:wr=[(i,x)]/\st'=st:=by
     have hcons:∀(op:Op) (env:Env) {d:D} {s:St} {i:List Nat} {ob:List Prop},Zd tt env st ids op = .e d s i ob->∃p,s=p::st:=by
      intro op env d s i ob h;obtain ⟨fr,wr,a1,a2,a3,a4⟩:=Ug h;cases op <;> simp only [Zd,O3,reduceCtorEq] at h
      all_goals (repeat' split at h) <;> first | (cases h;done) | (cases h;exact ⟨_,rfl⟩)
     obtain ⟨p,hp⟩:=hcons _ _ he;cases hp;have:wr.length=1:=by have:=congrArg List.length q2;simp at this;omega
     match wr,this with
     | [y],_=>simp at q2;exact ⟨by rw [q2],rfl⟩
    obtain ⟨rfl,rfl⟩:=hwr;have hnd:∀c,o.op ≠ .defer c:=λc hc=>by rw [hc,Uh] at he;cases he
    refine ⟨d,fr,rfl,q1,e1,e2,hnd,λI μ a w hst hon=>⟨AF hg,Zc htt hst (Bh hon) he hob⟩,λI μ st1 ids1 a w hag hst hon=>⟨λ_=>?_,λhw=>?_⟩⟩
    ·exact (Zc htt hst (Bh hon) (q4 st1 ids1 hag) hob).x
    ·rw [AF hg] at hw;cases hw
   ·cases h
 ·split at h
  ·split at h
   ·split at h
    ·exact absurd h HK
    ·exact absurd h HK
    ·cases h
   ·cases h
  ·cases h
theorem Dv (htt:TTok P tt) (hm:P.follows .mixedOrders=true):∀(f:Nat) (path:List Pt) (todo:List DI) (env:Env) (st:St) (ids:List Nat) (ob0:List Prop) {todo':List DI} {env':Env} {st':St} {ids':List Nat} {ob:List Prop},
  run tt n f path todo env st ids ob0 = .at todo' env' st' ids' ob->AA ob->AA ob0/\(G P n F Q todo' env' st' ids'->G P n F Q todo env st ids)
 | 0,path,todo,env,st,ids,ob0,todo',env',st',ids',ob,h,hob=>by
  simp only [run,Res.at.injEq] at h;obtain ⟨rfl,rfl,rfl,rfl,rfl⟩:=h;exact ⟨hob,id⟩
 | f+1,path,todo,env,st,ids,ob0,todo',env',st',ids',ob,h,hob=>by
  simp only [run] at h;have stop:∀{t:List DI},Res.at t env st ids ob0 = .at todo' env' st' ids' ob->AA ob0/\(G P n F Q todo' env' st' ids'->G P n F Q t env st ids):=by
   intro t h;simp only [Res.at.injEq] at h;obtain ⟨rfl,rfl,rfl,rfl,rfl⟩:=h;exact ⟨hob,id⟩
  split at h
  ·obtain ⟨h1,h2⟩:=Dv htt hm f _ _ _ _ _ _ h hob;exact ⟨h1,λhd=>oC (h2 hd)⟩
  ·obtain ⟨h1,h2⟩:=Dv htt hm f _ _ _ _ _ _ h hob;exact ⟨h1,λhd=>kX (h2 hd).go⟩
  ·obtain ⟨h1,h2⟩:=Dv htt hm f _ _ _ _ _ _ h hob;exact ⟨h1,λhd=>eI (h2 hd).go⟩
  ·split at h
   ·simp only [Res.at.injEq] at h;obtain ⟨rfl,rfl,rfl,rfl,rfl⟩:=h;exact ⟨hob,λhd=>Pq hd.go⟩
   ·obtain ⟨h1,h2⟩:=Dv htt hm f _ _ _ _ _ _ h hob;exact ⟨h1,λhd=>Pq (h2 hd).go⟩
  ·obtain ⟨h1,h2⟩:=Dv htt hm f _ _ _ _ _ _ h hob;exact ⟨h1,λhd=>Xj (h2 hd).go⟩
  ·obtain ⟨h1,h2⟩:=Dv htt hm f _ _ _ _ _ _ h hob;exact ⟨h1,λhd=>eJ (h2 hd)⟩
  ·obtain ⟨h1,h2⟩:=Dv htt hm f _ _ _ _ _ _ h hob;exact ⟨h1,λhd=>eG (h2 hd)⟩
  ·split at h
   ·rename_i he;obtain ⟨h1,h2⟩:=Dv htt hm f _ _ _ _ _ _ h hob;exact ⟨h1,λhd=>Ay he (h2 hd).go⟩
   ·exact stop h
  ·obtain ⟨h1,h2⟩:=Dv htt hm f _ _ _ _ _ _ h hob;exact ⟨h1,λhd=>Ze (h2 hd)⟩
  ·obtain ⟨h1,h2⟩:=Dv htt hm f _ _ _ _ _ _ h hob;exact ⟨h1,λhd=>lB hm (h2 hd)⟩
  ·obtain ⟨h1,h2⟩:=Dv htt hm f _ _ _ _ _ _ h hob;exact ⟨h1,λhd=>Zf (h2 hd).go⟩
  ·rename_i all o r k;have hY:∀{rd:Bool} {env1:Env} {ob1 ob2:List Prop},Fe tt n all o env st ids = .y rd env1 ob1->(AA ob2->AA ob1/\AA ob0) ->
     (run tt n f path (.ops all r::k) env1 st ids ob2 = .at todo' env' st' ids' ob)->AA ob0/\(G P n F Q todo' env' st' ids'->G P n F Q (.ops all (o::r)::k) env st ids):=by
    intro rd env1 ob1 ob2 hs hobs hrun;obtain ⟨h1,h2⟩:=Dv htt hm f _ _ _ _ _ _ hrun hob;obtain ⟨h3,h4⟩:=hobs h1;obtain ⟨d,e1,e2,e3,e4,_⟩:=PL htt hs h3;subst e1;exact ⟨h4,λhd=>rY e3 e4 e2 (h2 hd)⟩
   have hE:∀{env1:Env} {st1:St} {ids1:List Nat} {ob1 ob2:List Prop},Fe tt n all o env st ids = .e env1 st1 ids1 ob1->(AA ob2->AA ob1/\AA ob0) ->
     (run tt n f path (.ops all r::k) env1 st1 ids1 ob2 = .at todo' env' st' ids' ob)->AA ob0/\(G P n F Q todo' env' st' ids'->G P n F Q (.ops all (o::r)::k) env st ids):=by
    intro env1 st1 ids1 ob1 ob2 hs hobs hrun;obtain ⟨h1,h2⟩:=Dv htt hm f _ _ _ _ _ _ hrun hob;obtain ⟨h3,h4⟩:=hobs h1;obtain ⟨d,e1,e2,e3,e4⟩:=mS htt hs h3;subst e1;exact ⟨h4,λhd=>sA e3 e4 e2 (h2 hd)⟩
   split at h
   ·rename_i hs;refine hY hs ?_ h;intro q;exact ⟨trivial,q⟩
   ·rename_i hs;refine hY hs ?_ h;intro q;exact ⟨⟨q.1,trivial⟩,q.2⟩
   ·rename_i hs;refine hY hs ?_ h;intro q;exact ⟨⟨q.1,q.2.1,trivial⟩,q.2.2⟩
   ·rename_i hs;refine hY hs ?_ h;intro q;exact ⟨⟨q.1,q.2.1,(Bo q.2.2).1⟩,(Bo q.2.2).2⟩
   ·rename_i hs;refine hE hs ?_ h;intro q;exact ⟨trivial,q⟩
   ·rename_i hs;refine hE hs ?_ h;intro q;exact ⟨⟨q.1,trivial⟩,q.2⟩
   ·rename_i hs;refine hE hs ?_ h;intro q;exact ⟨⟨q.1,(Bo q.2).1⟩,(Bo q.2).2⟩
   ·exact stop h
  ·obtain ⟨h1,h2⟩:=Dv htt hm f _ _ _ _ _ _ h hob;exact ⟨h1.2,λhd=>qV h1.1 (h2 hd).go⟩
  ·rename_i all o r fs k;have hY:∀{rd:Bool} {env1:Env} {ob1 ob2:List Prop} {rds:List Nat},Fe tt n all o env st ids = .y rd env1 ob1->QD env o.op=rds->(AA ob2->AA ob1/\AA ob0) ->
     (run tt n f path (.dops all r ((rds,[])::fs)::k) env1 st ids ob2 = .at todo' env' st' ids' ob)->AA ob0/\(G P n F Q todo' env' st' ids'->G P n F Q (.dops all (o::r) fs::k) env st ids):=by
    intro rd env1 ob1 ob2 rds hs hrd hobs hrun;obtain ⟨h1,h2⟩:=Dv htt hm f _ _ _ _ _ _ hrun hob;obtain ⟨h3,h4⟩:=hobs h1;obtain ⟨d,e1,e2,e3,_,e5⟩:=dD htt hs h3;subst e1;rw [hrd] at e5;refine ⟨h4,λhd=>?_⟩;have:=h2 hd;simp only [G,List.reverse_cons] at this ⊢;exact Vd (ids':=ids) e5 e2 e3 this
   have hE:∀{env1:Env} {st1:St} {ids1:List Nat} {ob1:List Prop} {rds:List Nat} {i:Nat} {x:Option Blk},Fe tt n all o env st ids = .e env1 ((i,x)::st1) ids1 ob1->QD env o.op=rds ->
     (run tt n f path (.dops all r ((rds,[i])::fs)::k) env1 ((i,x)::st1) ids1 (Iv ob1 ob0) = .at todo' env' st' ids' ob)->AA ob0/\(G P n F Q todo' env' st' ids'->G P n F Q (.dops all (o::r) fs::k) env st ids):=by
    intro env1 st1 ids1 ob1 rds i x hs hrd hrun;obtain ⟨h1,h2⟩:=Dv htt hm f _ _ _ _ _ _ hrun hob;obtain ⟨h3,h4⟩:=(Sc _ _).1 h1;obtain ⟨d,fr,rfl,rfl,e1,e2,e3,_,e5⟩:=TN htt hs h3;subst e1;rw [hrd] at e5;refine ⟨h4,λhd=>?_⟩;have:=h2 hd;simp only [G,List.reverse_cons] at this ⊢;exact Vd e5 e2 e3 this
   split at h
   ·rename_i hs hr;refine hY hs hr ?_ h;intro q;exact ⟨trivial,q⟩
   ·rename_i hs hr;refine hY hs hr ?_ h;intro q;exact ⟨trivial,q⟩
   ·rename_i hs hr;refine hY hs hr ?_ h;intro q;exact ⟨⟨q.1,trivial⟩,q.2⟩
   ·rename_i hs hr;refine hY hs hr ?_ h;intro q;exact ⟨⟨q.1,trivial⟩,q.2⟩
   ·rename_i hs _ _;refine hY hs rfl ?_ h;intro q;exact ⟨⟨q.1,(Bo q.2).1⟩,(Bo q.2).2⟩
   ·rename_i hs hr;exact hE hs hr h
   ·rename_i hs hr;exact hE hs hr h
   ·exact stop h
  ·split at h
   ·rename_i t hc;obtain ⟨h1,h2⟩:=Dv htt hm f _ _ _ _ _ _ h hob;exact ⟨h1.2,λhd=>Ab hc (λ_=>(h2 hd).go) (λhf=>by rw [h1.1] at hf;cases hf)⟩
   ·rename_i t hc;obtain ⟨h1,h2⟩:=Dv htt hm f _ _ _ _ _ _ h hob;exact ⟨h1.2,λhd=>Ab hc (λht=>by rw [h1.1] at ht;cases ht) (λ_=>(h2 hd).go)⟩
   ·rename_i t hc;obtain ⟨h1,h2⟩:=Dv htt hm f _ _ _ _ _ _ h hob;refine ⟨h1,λhd=>Ab hc (λht=>?_) (λht=>?_)⟩
    ·subst ht;exact (h2 hd).go
    ·subst ht;exact (h2 hd).go
   ·exact stop h
  ·exact stop h
theorem Ks (htt:TTok P tt) (hm:P.follows .mixedOrders=true) (f:Nat) (path:List Pt) (h:run tt n f path todo env st ids [] = .at k env' st' ids' ob) (hob:AA ob) (hd:G P n F Q k env' st' ids'):G P n F Q todo env st ids :=
 (Dv htt hm f path todo env st ids [] h hob).2 hd
end
end Go.Hk
namespace Go.Hk
mutual
def I5:D->List Nat
 | .ref id _=>[id]
 | .own id _=>[id]
 | .elp id _ _ _=>[id]
 | .hv id _=>[id]
 | .mapr id=>[id]
 | .iter id=>[id]
 | .slc id _ _ _=>[id]
 | .yld id=>[id]
 | .agg cs=>Jn cs
 | .tup cs=>Jn cs
 | .fn _ a b=>Jn a++Jn b
 | .iface _ d=>I5 d
 | .guard _ _ d=>I5 d
 | _=>[]
def Jn:List D->List Nat
 | []=>[]
 | d::r=>I5 d++Jn r
end
mutual
def JU (ρ:Nat->Nat):D->D
 | .ref id off=>.ref (ρ id) off
 | .own id n=>.own (ρ id) n
 | .elp id k sz f=>.elp (ρ id) k sz f
 | .mapr id=>.mapr (ρ id)
 | .iter id=>.iter (ρ id)
 | .agg cs=>.agg (Gm ρ cs)
 | .tup cs=>.tup (Gm ρ cs)
 | .fn f a b=>.fn f (Gm ρ a) (Gm ρ b)
 | .iface t d=>.iface t (JU ρ d)
 | .guard c w d=>.guard c w (JU ρ d)
 | .undef=>.undef
 | .imm x=>.imm x
 | .nils=>.nils
 | .ip t cs off=>.ip t cs off
 | .clip es=>.clip es
 | .slc id off n c=>.slc (ρ id) off n c
 | .yld id=>.yld (ρ id)
 | .raw v=>.raw v
 | .hv id i=>.hv (ρ id) i
def Gm (ρ:Nat->Nat):List D->List D
 | []=>[]
 | d::r=>JU ρ d::Gm ρ r
end
def Vv:Env->List Nat
 | []=>[]
 | (_,d)::r=>I5 d++Vv r
def cJ (ρ:Nat->Nat):Env->Env
 | []=>[]
 | (t,d)::r=>(t,JU ρ d)::cJ ρ r
theorem Z8 {ρ:Nat->Nat}:∀{env:Env} {t:Nat} {d:D},lk (cJ ρ env) t=some d->∃d0,lk env t=some d0/\d=JU ρ d0
 | [],t,d,h=>by simp [cJ,lk] at h
 | (s,x)::r,t,d,h=>by
  simp only [cJ] at h;by_cases hs:s=t
  ·subst hs;rw [Aw] at h ⊢;cases h;exact ⟨x,rfl,rfl⟩
  ·rw [A6 _ _ hs] at h ⊢;exact Z8 h
theorem Yx:∀{env:Env} {t:Nat} {d:D},lk env t=some d->∀i∈I5 d,i∈Vv env
 | [],t,d,h,_,_=>by simp [lk] at h
 | (s,x)::r,t,d,h,i,hi=>by
  simp only [Vv,List.mem_append];by_cases hs:s=t
  ·subst hs;rw [Aw] at h;cases h;exact .inl hi
  ·rw [A6 _ _ hs] at h;exact .inr (Yx h i hi)
theorem Gb (ρ:Nat->Nat):∀l:List D,Gm ρ l=l.map (JU ρ)
 | []=>rfl
 | d::r=>by simp [Gm,Gb ρ r]
theorem Jm {d:D} {i:Nat}:∀{l:List D},d∈l->i∈I5 d->i∈Jn l
 | [],h,_=>by simp at h
 | x::r,h,hi=>by
  simp only [Jn,List.mem_append];rcases List.mem_cons.1 h with rfl | h
  ·exact .inl hi
  ·exact .inr (Jm h hi)
section
variable {I:Imm} {μ ν:Mu} {ρ:Nat->Nat}
theorem RepD.ren {v:Value} {d:D} (h:RepD I μ v d):(∀i∈I5 d,∀g,μ i=some g->ν (ρ i)=some g)->RepD I ν v (JU ρ d):=by
 have at_:∀{l:List D} {i:Nat} {x:D},(Gm ρ l)[i]?=some x->∃y,l[i]?=some y/\x=JU ρ y:=by
  intro l i x hx;rw [Gb,List.getElem?_map] at hx;cases hl:l[i]? with
  | none=>rw [hl] at hx;cases hx
  | some y=>rw [hl] at hx;cases hx;exact ⟨y,rfl,rfl⟩
 induction h with
 | undef v=>intro _;exact .undef v
 | imm v x hx=>intro _;exact .imm v x hx
 | nils=>intro _;exact .nils
 | ref b id off hm=>intro hn;exact .ref b _ off (hn id (by simp [I5]) _ hm)
 | ip b o t cs off vs hcell hrep=>intro _;exact .ip b o t cs off vs hcell hrep
 | agg cs ds hl h1 _ ih =>
  intro hn;refine .agg cs _ (by rw [Gb,List.length_map,hl]) h1 λi c x hc hx=>?_;obtain ⟨y,hy,rfl⟩:=at_ hx;exact ih i c y hc hy λj hj=>hn j (by simp only [I5];exact Jm (List.mem_of_getElem? hy) hj)
 | tup cs ds hl _ ih =>
  intro hn;refine .tup cs _ (by rw [Gb,List.length_map,hl]) λi c x hc hx=>?_;obtain ⟨y,hy,rfl⟩:=at_ hx;exact ih i c y hc hy λj hj=>hn j (by simp only [I5];exact Jm (List.mem_of_getElem? hy) hj)
 | own id len a cap hm=>intro hn;exact .own _ len a cap (hn id (by simp [I5]) _ hm)
 | elp b id len cap k sz f hm=>intro hn;exact .elp b _ len cap k sz f (hn id (by simp [I5]) _ hm)
 | mapr id b hm=>intro hn;exact .mapr _ b (hn id (by simp [I5]) _ hm)
 | iter id b hm=>intro hn;exact .iter _ b (hn id (by simp [I5]) _ hm)
 | fn f first cap df dc hf hc _ _ ih1 ih2 =>
  intro hn;refine .fn f first cap _ _ (by rw [Gb,List.length_map,hf]) (by rw [Gb,List.length_map,hc]) (λi c x h1 h2=>?_) (λi c x h1 h2=>?_)
  ·obtain ⟨y,hy,rfl⟩:=at_ h2;exact ih1 i c y h1 hy λj hj=>hn j (by simp only [I5];exact List.mem_append_left _ (Jm (List.mem_of_getElem? hy) hj))
  ·obtain ⟨y,hy,rfl⟩:=at_ h2;exact ih2 i c y h1 hy λj hj=>hn j (by simp only [I5];exact List.mem_append_right _ (Jm (List.mem_of_getElem? hy) hj))
 | iface t v d _ ih=>intro hn;exact .iface t v _ (ih hn)
 | guard c want v d _ hu ih=>intro hn;exact .guard c want v _ (λhc=>ih hc hn) hu
 | clip a len es hr=>intro _;exact .clip a len es hr
 | slc b id off len cap hm hl hx=>intro hn;exact .slc b _ off len cap (hn id (by simp [I5]) _ hm) hl hx
 | yld b id hm=>intro hn;exact .yld b _ (hn id (by simp [I5]) _ hm)
 | raw v h=>intro _;exact .raw v h
 | hv v id i vs bs hm hi h1=>intro hn;exact .hv v _ i vs bs (hn id (by simp [I5]) _ hm) hi h1
theorem RepL.ren {vs:List Value} {ds:List D} (h:RepL I μ vs ds) (hn:∀i∈Jn ds,∀g,μ i=some g->ν (ρ i)=some g):RepL I ν vs (Gm ρ ds):=by
 refine ⟨by rw [Gb,List.length_map,h.1],λi v x hv hx=>?_⟩;rw [Gb,List.getElem?_map] at hx;cases hl:ds[i]? with
 | none=>rw [hl] at hx;cases hx
 | some y =>
  rw [hl] at hx;cases hx;exact (h.2 i v y hv hl).ren λj hj=>hn j (Jm (List.mem_of_getElem? hl) hj)
def Sx:Blk->List Nat
 | .cells _ _ cs=>Jn cs
 | .bun id _=>[id]
 | .adr id _=>[id]
 | _=>[]
def UF (ρ:Nat->Nat):Blk->Blk
 | .cells t sz cs=>.cells t sz (Gm ρ cs)
 | .map kv=>.map kv
 | .immb t sz xs=>.immb t sz xs
 | .row t sz es=>.row t sz es
 | .siter s pos=>.siter s pos
 | .pin=>.pin
 | .bun id S=>.bun (ρ id) S
 | .hp A=>.hp A
 | .adr id b=>.adr (ρ id) b
 | .mapx kv b es c=>.mapx kv b es c
 | .miter b s z c=>.miter b s z c
theorem BlkRep.ren {w:World} {g:Value} {blk:Blk} (h:BlkRep I μ w g blk) (hn:∀i∈Sx blk,∀g,μ i=some g->ν (ρ i)=some g):BlkRep I ν w g (UF ρ blk):=by
 cases blk with
 | immb t sz xs=>exact h
 | cells t sz cs =>
  obtain ⟨hs,b,vs,h1,h2,h3,h4⟩:=h;exact ⟨by rw [Gb,List.length_map,hs],b,vs,h1,h2,h3.ren hn,h4⟩
 | row t sz es=>exact h
 | map kv=>exact h
 | siter s pos=>exact h
 | pin=>exact h
 | bun id S =>
  obtain ⟨b,bs,h1,h2,h3⟩:=h;exact ⟨b,bs,hn id (by simp [Sx]) _ h1,h2,h3⟩
 | hp A=>exact h
 | adr id b=>exact ⟨h.1,hn id (by simp [Sx]) _ h.2⟩
 | mapx kv b es c=>exact h
 | miter b s z c=>exact h
theorem RepD.sub {v:Value} {d:D} (h:RepD I μ v d) (hn:∀i∈I5 d,∀g,μ i=some g->ν i=some g):RepD I ν v d:=by
 have:=h.ren (ν:=ν) (ρ:=λi=>i) hn;have hid:∀d,JU (λi=>i) d=d:=by
  intro d;refine D.rec (motive_1:=λd=>JU (λi=>i) d=d) (motive_2:=λl=>Gm (λi=>i) l=l) ?_ ?_ ?_ ?_ ?_ ?_ ?_ ?_ ?_ ?_ ?_ ?_ ?_ ?_ ?_ ?_ ?_ ?_ ?_ ?_ ?_ d <;> intros <;> simp_all [JU,Gm]
 rwa [hid] at this
end
end Go.Hk
namespace Go.Hk
inductive Out where
 | ret (d:D) (st:St)
 | pan (x:V)
def D8 (st:St):List Nat:=st.map (·.1)
def Bg (P:Program) (f:FuncId) (ds:List D) (st:St) (out:Out):Prop :=
 ∀I μ w (xs:Array Value),StRep I μ st [] w->RepL I μ xs.toList ds->valX P ((callFunc f xs).run P w)
  (λu w'=>match out with
   | .ret d st'=>∃I' μ',RepD I' μ' u d/\StRep I' μ' st' [] w'/\Pin (D8 st) μ μ'/\Ext I μ st w I' μ' st' w'
   | .pan _=>False)
  (λchain w'=>match out with
   | .ret _ _=>False
   | .pan x=>Ld (· = x) I μ st w chain w')
def Ak (P:Program) (f:FuncId) (vs:List V) (v:V):Prop:=Bg P f (vs.map .imm) [] (.ret (.imm v) [])
def Ei (l:List (Nat×Nat)) (i:Nat):Nat:=match lk l i with
 | some j=>j
 | none=>i
def Bj:List (Nat×Nat)->List (Nat×Nat)
 | []=>[]
 | (a,b)::r=>(b,a)::Bj r
def D0 (σ τ:List (Nat×Nat)):List Nat->Bool
 | []=>true
 | i::r=>(match lk σ i with
  | some j=>(match lk τ j with
   | some k=>Nat.beq k i
   | none=>false)
  | none=>false)&&D0 σ τ r
theorem K3 {σ τ:List (Nat×Nat)}:∀{l:List Nat},D0 σ τ l=true->∀i∈l,∃j,lk σ i=some j/\lk τ j=some i
 | [],_,i,hi=>by simp at hi
 | x::r,h,i,hi=>by
  simp only [D0,Bool.and_eq_true] at h;rcases List.mem_cons.1 hi with rfl | hi
  ·cases h1:lk σ i with
   | none=>simp [h1] at h
   | some j =>
    cases h2:lk τ j with
    | none=>simp [h1,h2] at h
    | some k =>
     simp only [h1,h2] at h;rw [Nat.eq_of_beq_eq_true h.1] at h2;exact ⟨j,rfl,h2⟩
  ·exact K3 h.2 i hi
def F0:St->List Nat
 | []=>[]
 | (i,some b)::r=>i::(Sx b++F0 r)
 | (i,none)::r=>i::F0 r
def Eo (τ:List (Nat×Nat)):St->St
 | []=>[]
 | (i,some b)::r=>(Ei τ i,some (UF (Ei τ) b))::Eo τ r
 | (i,none)::r=>(Ei τ i,none)::Eo τ r
def FX (σ:List (Nat×Nat)) (st:St):St->Prop
 | []=>True
 | (i,some b)::r=>(match lk (Bj σ) i with
  | some a=>(match lk σ a with
   | some j=>Nat.beq j i=true
   | none=>False)/\(match lk st a with
   | some (some ba)=>UF (Ei σ) ba=b/\D0 σ (Bj σ) (Sx ba)=true
   | _=>False)
  | none=>False)/\FX σ st r
 | (_,none)::_=>False
theorem Ie {σ:List (Nat×Nat)} {st:St}:∀{st0:St},FX σ st st0->∀i b,At st0 i b ->
  ∃a ba,lk (Bj σ) i=some a/\lk σ a=some i/\At st a ba/\UF (Ei σ) ba=b/\D0 σ (Bj σ) (Sx ba)=true
 | [],_,i,b,h=>by simp [At,lk] at h
 | (k,none)::r,h,_,_,_=>h.elim
 | (k,some x)::r,h,i,b,hl=>by
  obtain ⟨h1,h2⟩:=h;by_cases hk:k=i
  ·subst hk;have:x=b:=by unfold At at hl;rw [Aw] at hl;cases hl;rfl
   subst this;cases ha:lk (Bj σ) k with
   | none=>simp [ha] at h1
   | some a =>
    simp only [ha] at h1;obtain ⟨h3,h4⟩:=h1;cases hj:lk σ a with
    | none=>simp [hj] at h3
    | some j =>
     simp only [hj] at h3;cases hb:lk st a with
     | none=>simp [hb] at h4
     | some ob =>
      cases ob with
      | none=>simp [hb] at h4
      | some ba =>
       simp only [hb] at h4;exact ⟨a,ba,rfl,by rw [hj,Nat.eq_of_beq_eq_true h3],hb,h4.1,h4.2⟩
  ·refine Ie h2 i b ?_;unfold At at hl ⊢
   rwa [A6 _ _ hk] at hl
def Cy:List Nat->St
 | []=>[]
 | a::r=>(a,none)::Cy r
theorem LX {l:List Nat} {st:St} {i:Nat} {b:Blk} (h:At (Cy l++st) i b):i∉l/\At st i b:=by
 induction l with
 | nil=>exact ⟨by simp,h⟩
 | cons a r ih =>
  simp only [Cy,List.cons_append] at h;obtain ⟨h1,h2⟩:=BB.1 h;obtain ⟨h3,h4⟩:=ih h2;exact ⟨by simp [h1,h3],h4⟩
theorem LG {τ:List (Nat×Nat)} {st:St} {i:Nat} {b:Blk}:∀{st1:St},At (Eo τ st1++st) i b ->
  (∃j b1,At st1 j b1/\i=Ei τ j/\b=UF (Ei τ) b1)\/At st i b
 | [],h=>.inr h
 | (k,some x)::r,h=>by
  simp only [Eo,List.cons_append] at h;rcases A7.1 h with ⟨h1,h2⟩ | ⟨h1,h2⟩
  ·exact .inl ⟨k,x,by unfold At;rw [Aw],h1,h2⟩
  ·rcases LG h2 with ⟨j,b1,q1,q2,q3⟩ | q
   ·refine .inl ⟨j,b1,?_,q2,q3⟩;unfold At at q1 ⊢;rw [A6 _ _ (λe=>by subst e;exact h1 q2)];exact q1
   ·exact .inr q
 | (k,none)::r,h=>by
  simp only [Eo,List.cons_append] at h;obtain ⟨h1,h2⟩:=BB.1 h;rcases LG h2 with ⟨j,b1,q1,q2,q3⟩ | q
  ·refine .inl ⟨j,b1,?_,q2,q3⟩;unfold At at q1 ⊢;rw [A6 _ _ (λe=>by subst e;exact h1 q2)];exact q1
  ·exact .inr q
theorem Kh:∀{σ:List (Nat×Nat)} {i a:Nat},lk (Bj σ) i=some a->(a,i)∈σ
 | [],i,a,h=>by simp [Bj,lk] at h
 | (x,y)::r,i,a,h=>by
  simp only [Bj] at h;by_cases hy:y=i
  ·subst hy;rw [Aw] at h;cases h;simp
  ·rw [A6 _ _ hy] at h;exact List.mem_cons_of_mem _ (Kh h)
theorem Ri:∀{σ:List (Nat×Nat)} {i a:Nat},lk σ i=some a->(i,a)∈σ
 | [],i,a,h=>by simp [lk] at h
 | (x,y)::r,i,a,h=>by
  by_cases hy:x=i
  ·subst hy;rw [Aw] at h;cases h;simp
  ·rw [A6 _ _ hy] at h;exact List.mem_cons_of_mem _ (Ri h)
theorem MI {l m:List (Nat×Nat)} {i:Nat}:(∃a,lk l i=some a/\lk (l++m) i=some a)\/(lk l i=none/\lk (l++m) i=lk m i):=by
 induction l with
 | nil=>exact .inr ⟨rfl,rfl⟩
 | cons p r ih =>
  obtain ⟨x,y⟩:=p;by_cases hx:x=i
  ·subst hx;exact .inl ⟨y,Aw _ _ _,Aw _ _ _⟩
  ·rw [A6 _ _ hx,List.cons_append,A6 _ _ hx];exact ih
structure bD (σ τ1:List (Nat×Nat)) (das:List D) (st0:St) (d:D) (st1:St) (fr:List Nat):Prop where
 args:D0 σ (Bj σ) (Jn das)=true
 inv:D0 σ (Bj σ) (σ.map (·.1))=true
 given:∀p∈σ,p.2∈D8 st0
 res:D0 (Bj σ++τ1) (σ++Bj τ1) (I5 d)=true
 now:D0 (Bj σ++τ1) (σ++Bj τ1) (F0 st1)=true
 new:∀p∈τ1,p.2∈fr
theorem ET:∀{st:St} {i:Nat} {b:Blk},At st i b->i∈F0 st/\∀j∈Sx b,j∈F0 st
 | [],i,b,h=>by simp [At,lk] at h
 | (k,x)::r,i,b,h=>by
  by_cases hk:k=i
  ·subst hk;unfold At at h;rw [Aw] at h;cases h;simp only [F0];exact ⟨by simp,λj hj=>by simp [hj]⟩
  ·have h':At r i b:=by unfold At at h ⊢;rwa [A6 _ _ hk] at h
   obtain ⟨h1,h2⟩:=ET h';cases x with
   | none=>simp only [F0,List.mem_cons];exact ⟨.inr h1,λj hj=>.inr (h2 j hj)⟩
   | some y=>simp only [F0,List.mem_cons,List.mem_append];exact ⟨.inr (.inr h1),λj hj=>.inr (.inr (h2 j hj))⟩
section
variable {P:Program} {I:Imm} {μ:Mu} {st st0 st1:St} {ids ids' fr:List Nat} {w:World} {σ τ1:List (Nat×Nat)} {das:List D} {d:D} {f:FuncId} {x:V} {Pn:V->Prop}
def Hf (σ:List (Nat×Nat)) (μ:Mu):Mu:=λj=>match lk (Bj σ) j with
 | some a=>μ a
 | none=>none
theorem RZ {σ τ:List (Nat×Nat)} {l:List Nat} (h:D0 σ τ l=true) {i:Nat} (hi:i∈l):lk τ (Ei σ i)=some i:=by
 obtain ⟨j,h1,h2⟩:=K3 h i hi;simp [Ei,h1,h2]
theorem H5 (hst:StRep I μ st ids w) (hb:FX σ st st0) (hd:D0 σ (Bj σ) (Jn das)=true) {xs:List Value} (hx:RepL I μ xs das) :
  StRep I (Hf σ μ) st0 [] w/\RepL I (Hf σ μ) xs (Gm (Ei σ) das)/\∀b,Bq (Hf σ μ) st0 b->Bq μ st b:=by
 have hn:∀{l:List Nat},D0 σ (Bj σ) l=true->∀i∈l,∀g,μ i=some g->Hf σ μ (Ei σ i)=some g:=by
  intro l hl i hi g hg;unfold Hf;rw [RZ hl hi];exact hg
 have hl:∀i b g,At st0 i b->Hf σ μ i=some g->∃a ba,At st a ba/\μ a=some g/\lk σ a=some i:=by
  intro i b g hi hg;obtain ⟨a,ba,h1,h2,h3,_⟩:=Ie hb i b hi;exact ⟨a,ba,h3,by simpa [Hf,h1] using hg,h2⟩
 refine ⟨{ imm:=hst.imm,blk:=λi b h=>?_,apart:=λi b g k h hg hk=>?_,inj:=λi j bi bj gi gj k hi hj hgi hgj hki hkj=>?_,nodup:=.nil,idsFree:=λ_ h=>by simp at h },hx.ren (hn hd),?_⟩
 ·obtain ⟨a,ba,h1,h2,h3,h4,h5⟩:=Ie hb i b h;obtain ⟨g,hg,hr⟩:=hst.blk a ba h3;refine ⟨g,by simp [Hf,h1,hg],?_⟩;rw [<- h4];exact hr.ren (hn h5)
 ·obtain ⟨a,ba,h1,h2,_⟩:=hl i b g h hg;exact hst.apart a ba g k h1 h2 hk
 ·obtain ⟨a,ba,h1,h2,h3⟩:=hl i bi gi hi hgi;obtain ⟨a',ba',h1',h2',h3'⟩:=hl j bj gj hj hgj;have:=hst.inj a a' ba ba' gi gj k h1 h1' h2 h2' hki hkj;subst this;rw [h3] at h3';cases h3';rfl
 ·rintro b ⟨i,bi,g,h1,h2,h3⟩;obtain ⟨a,ba,q1,q2,_⟩:=hl i bi g h1 h2;exact ⟨a,ba,g,q1,q2,h3⟩
theorem KY (hst:StRep I μ st (fr++ids') w) (hb:FX σ st st0) (hn:bD σ τ1 das st0 d st1 fr) {I':Imm} {μ':Mu} {w':World} {u:Value} (hu:RepD I' μ' u d) (hst':StRep I' μ' st1 [] w')
  (hp:Pin (D8 st0) (Hf σ μ) μ') (he:Ext I (Hf σ μ) st0 w I' μ' st1 w') (hsub:∀b,Bq (Hf σ μ) st0 b->Bq μ st b) :
  ∃ν,StRep I' ν (Eo (Bj σ++τ1) st1++Cy (σ.map (·.1))++st) ids' w'/\RepD I' ν u (JU (Ei (Bj σ++τ1)) d)/\μ.le ν /\
   Ext I μ st w I' ν (Eo (Bj σ++τ1) st1++Cy (σ.map (·.1))++st) w':=by
 have hfree:∀i∈fr,μ i=none:=λi hi=>hst.idsFree i (by simp [hi]);have hgiven:∀i j,lk σ i=some j->lk (Bj σ) j=some i/\∃g,μ i=some g:=by
  intro i j hij;have hinv:lk (Bj σ) j=some i:=by
   obtain ⟨j',h1,h2⟩:=K3 hn.inv i (List.mem_map.2 ⟨(i,j),Ri hij,rfl⟩);rw [hij] at h1;cases h1;exact h2
  refine ⟨hinv,?_⟩;have h1:=hn.given _ (Ri hij);obtain ⟨⟨j',x⟩,h2,h3⟩:=List.mem_map.1 h1;have h3:j'=j:=h3;subst h3;have:∀{st0:St},FX σ st st0->(j',x)∈st0->∃g,μ i=some g:=by
   intro st0
   induction st0 with
   | nil=>intro _ h;simp at h
   | cons p r ih =>
    obtain ⟨k,y⟩:=p;intro h hm;cases y with
    | none=>exact h.elim
    | some y =>
     rcases List.mem_cons.1 hm with e | e
     ·cases e;have h1:=h.1;simp only [hinv] at h1;have h4:=h1.2;cases hb:lk st i with
      | none=>simp [hb] at h4
      | some ob =>
       cases ob with
       | none=>simp [hb] at h4
       | some ba =>
        obtain ⟨g,hg,_⟩:=hst.blk i ba hb;exact ⟨g,hg⟩
     ·exact ih h.2 e
  exact this hb h2
 obtain ⟨ν,hν⟩:∃ν:Mu,ν=λi=>match lk (σ++Bj τ1) i with | some j=>μ' j | none=>μ i:=⟨_,rfl⟩
 have hν1:∀{l:List Nat},D0 (Bj σ++τ1) (σ++Bj τ1) l=true->∀i∈l,∀g,μ' i=some g->ν (Ei (Bj σ++τ1) i)=some g:=by
  intro l hl i hi g hg;rw [hν];simp only [RZ hl hi];exact hg
 have hσ:∀i j,lk σ i=some j->∀g,μ i=some g->ν i=some g:=by
  intro i j hij g hg;have h2:=(hgiven i j hij).1;rw [hν];rcases MI (l:=σ) (m:=Bj τ1) (i:=i) with ⟨a,h3,h4⟩ | ⟨h3,_⟩
  ·rw [hij] at h3;cases h3;simp only [h4];exact hp j (hn.given _ (Ri hij)) g (by simp [Hf,h2,hg])
  ·rw [hij] at h3;cases h3
 have hin:∀i,(∃j,lk σ i=some j)\/i∈fr\/ν i=μ i:=by
  intro i;rcases MI (l:=σ) (m:=Bj τ1) (i:=i) with ⟨a,h1,_⟩ | ⟨h1,h2⟩
  ·exact .inl ⟨a,h1⟩
  ·cases h:lk (Bj τ1) i with
   | none=>refine .inr (.inr ?_);rw [hν];simp [h2,h]
   | some j=>exact .inr (.inl (hn.new _ (Kh h)))
 have hle:μ.le ν:=by
  intro i g hg;rcases hin i with ⟨j,h⟩ | h | h
  ·exact hσ i j h g hg
  ·rw [hfree i h] at hg;cases hg
  ·rw [h];exact hg
 have hlive:∀i b,At (Eo (Bj σ++τ1) st1++Cy (σ.map (·.1))++st) i b ->
   (∃j b1,At st1 j b1/\(b=UF (Ei (Bj σ++τ1)) b1/\i=Ei (Bj σ++τ1) j)/\∀g,ν i=some g↔μ' j=some g)\/((∀j,lk σ i≠some j)/\At st i b/\ν i=μ i):=by
  intro i b hl;rw [List.append_assoc] at hl;rcases LG hl with ⟨j,b1,h1,h2,h3⟩ | h
  ·refine .inl ⟨j,b1,h1,⟨h3,h2⟩,λg=>?_⟩;rw [h2,hν];simp only [RZ hn.now (ET h1).1]
  ·obtain ⟨h1,h2⟩:=LX h;have h3:∀j,lk σ i≠some j:=λj hj=>h1 (List.mem_map.2 ⟨(i,j),Ri hj,rfl⟩);refine .inr ⟨h3,h2,?_⟩;rcases hin i with ⟨j,h⟩ | h | h
   ·exact absurd h (h3 j)
   ·obtain ⟨g,hg,_⟩:=hst.blk i b h2;rw [hfree i h] at hg;cases hg
   ·exact h
 have hframe:∀i b g k,(∀j,lk σ i≠some j)->At st i b->μ i=some g->Dl g k->¬Bq (Hf σ μ) st0 k:=by
  rintro i b g k h1 h2 h3 h4 ⟨j,bj,gj,h5,h6,h7⟩;obtain ⟨a,ba,q1,q2,q3,_⟩:=Ie hb j bj h5;simp only [Hf,q1] at h6;have:=hst.inj i a b ba g gj k h2 q3 h3 h6 h4 h7;subst this;exact h1 j q2
 have hext:Ext I μ st w I' ν (Eo (Bj σ++τ1) st1++Cy (σ.map (·.1))++st) w':=by
  refine { imm:=he.imm,os:=he.os,tape:=he.tape,output:=he.output,size:=he.size,block:=λb hb' ho=>he.block b hb' (λh=>ho (hsub b h)),fresh:=λb hb' ho=>?_,old:=λb hb' ho=>he.old b hb' (λh=>ho (hsub b h)) };obtain ⟨i,bi,g,h1,h2,h3⟩:=ho;rcases hlive i bi h1 with ⟨j,b1,q1,_,q3⟩ | ⟨_,q2,q3⟩
  ·exact hsub b (he.fresh b hb' ⟨j,b1,g,q1,(q3 g).1 h2,h3⟩)
  ·exact ⟨i,bi,g,q2,by rw [<- q3];exact h2,h3⟩
 refine ⟨ν,?_,hu.ren (hν1 hn.res),hle,hext⟩;refine { imm:=hst'.imm,blk:=λi b h=>?_,apart:=λi b g k h hg hk=>?_,inj:=λi j bi bj gi gj k hi hj hgi hgj hki hkj=>?_,nodup:=(List.nodup_append.1 hst.nodup).2.1,idsFree:=λi hi=>?_ }
 ·rcases hlive i b h with ⟨j,b1,q1,q2,q3⟩ | ⟨q1,q2,q3⟩
  ·obtain ⟨g,hg,hr⟩:=hst'.blk j b1 q1;exact ⟨g,(q3 g).2 hg,by rw [q2.1];exact hr.ren λk hk=>hν1 hn.now k ((ET q1).2 k hk)⟩
  ·obtain ⟨g,hg,hr⟩:=hst.blk i b q2;refine ⟨g,by rw [q3];exact hg,(hr.mono he.imm hle).world λk hk=>?_⟩;exact he.block k (hst.apart i b g k q2 hg hk).2 (hframe i b g k q1 q2 hg hk)
 ·rcases hlive i b h with ⟨j,b1,q1,q2,q3⟩ | ⟨q1,q2,q3⟩
  ·exact hst'.apart j b1 g k q1 ((q3 g).1 hg) hk
  ·rw [q3] at hg;obtain ⟨h1,h2⟩:=hst.apart i b g k q2 hg hk;exact ⟨by rw [he.old k h2 (hframe i b g k q1 q2 hg hk)];exact h1,Nat.lt_of_lt_of_le h2 he.size⟩
 ·rcases hlive i bi hi with ⟨i1,b1,q1,q2,q3⟩ | ⟨q1,q2,q3⟩ <;> rcases hlive j bj hj with ⟨j1,b2,p1,p2,p3⟩ | ⟨p1,p2,p3⟩
  ·have:=hst'.inj i1 j1 b1 b2 gi gj k q1 p1 ((q3 gi).1 hgi) ((p3 gj).1 hgj) hki hkj;subst this;rw [q2.2,p2.2]
  ·rw [p3] at hgj;have hk:=(hst.apart j bj gj k p2 hgj hkj).2;exact absurd (he.fresh k hk ⟨i1,b1,gi,q1,(q3 gi).1 hgi,hki⟩) (hframe j bj gj k p1 p2 hgj hkj)
  ·rw [q3] at hgi;have hk:=(hst.apart i bi gi k q2 hgi hki).2;exact absurd (he.fresh k hk ⟨j1,b2,gj,p1,(p3 gj).1 hgj,hkj⟩) (hframe i bi gi k q1 q2 hgi hki)
  ·rw [q3] at hgi;rw [p3] at hgj;exact hst.inj i j bi bj gi gj k q2 p2 hgi hgj hki hkj
 ·rcases hin i with ⟨j,h⟩ | h | h
  ·obtain ⟨_,g,hg⟩:=hgiven i j h;rw [hst.idsFree i (by simp [hi])] at hg;cases hg
  ·exact absurd rfl ((List.nodup_append.1 hst.nodup).2.2 i h i hi)
  ·rw [h];exact hst.idsFree i (by simp [hi])
end
end Go.Hk
namespace Go.Hk
def Ir (cx:Prop) (env:Env):List Operand->Option (List D×List Prop)
 | []=>some ([],[])
 | x::r=>match D2 env x,Ir cx env r with
  | some (.guard c w d),some (ds,o)=>some (d::ds,(cx->c=w)::o)
  | some d,some (ds,o)=>some (d::ds,o)
  | _,_=>none
def Bk:List DI->List Nat×List Nat->Option (List Oper×Oper×List DI)
 | .ops all (o::r)::k,_=>some (all,o,.ops all r::k)
 | .dops all (o::r) fs::k,f=>some (all,o,.dops all r (f::fs)::k)
 | _,_=>none
def BJ (n:Nat):Option Nat->Bool
 | some t=>Nat.blt t n
 | none=>true
def An:Option (Bool×Bool)->Prop
 | none=>True
 | some (c,w)=>c=w
def gD:Option (Bool×Bool)->D->D
 | none,d=>d
 | some (c,w),d=>.guard c w d
def Ct (all:List Oper) (env:Env) (o:Oper):Option (Option (Bool×Bool)) :=
 match o.guard with
 | none=>some none
 | some (j,w)=>match Mj all j with
  | some { dst:=some g,.. }=>match sB (lk env g) w with
   | some c=>some (some (c,w))
   | none=>none
  | _=>none
structure bC where
 f:FuncId
 vs:List V
 g:Option (Bool×Bool)
 ob:List Prop
 dst:Option Nat
 todo:List DI
def ZF (n:Nat) (env:Env) (todo:List DI):Option bC :=
 match Bk todo ([],[]) with
 | some (all,o,todo')=>match o.op,Ct all env o with
  | .call { callee:=.value (.func f),args:=⟨args⟩,.. },some g=>match Ir (An g) env args with
   | some (ds,ob)=>match L8 ds,BJ n o.dst with
    | some vs,true=>match o.dst with
     | some t=>some ⟨f,vs,g,ob,some t,todo'⟩
     | none=>some ⟨f,vs,g,ob,none,todo'⟩
    | _,_=>none
   | none=>none
  | .call { callee:=.value (.tmp t),args:=⟨args⟩,.. },some g=>match lk env t,Ir (An g) env args with
   | some (.imm (.fn (.func f))),some (ds,ob)=>match L8 ds,BJ n o.dst with
    | some vs,true=>match o.dst with
     | some t=>some ⟨f,vs,g,ob,some t,todo'⟩
     | none=>some ⟨f,vs,g,ob,none,todo'⟩
    | _,_=>none
   | _,_=>none
  | _,_=>none
 | none=>none
section
variable {P:Program} {n:Nat} {F:List Nat} {Q:DQ} {tt:TT} {env env':Env} {st st':St} {ids ids':List Nat} {k todo todo':List DI} {cx:Prop} {d:D} {ob ob':List Prop} {Pn:V->Prop}
 {I:Imm} {μ:Mu} {w:World} {a:Act}
theorem RepV.fnInv {v:Value} {f:Fn} (h:RepV I v (.fn f)):v = .func f #[] #[]:=by cases h;rfl
theorem Gv (hc:cx):∀{args:List Operand} {ds:List D} {ob:List Prop},Ir cx env args=some (ds,ob)->AA ob->(∀x∈args,∀d,D2 env x=some d->RepD I μ (a.eval x) d) ->
  RepL I μ (args.map a.eval) ds
 | [],ds,ob,h,_,_=>by cases h;exact .nil
 | x::r,ds,ob,h,hob,hx=>by
  have hr:∀y∈r,∀d,D2 env y=some d->RepD I μ (a.eval y) d:=λy hy=>hx y (by simp [hy]);simp only [Ir] at h
  split at h
  ·rename_i c w0 d ds' o' h1 h2;cases h;exact .mk ((hx x (by simp) _ h1).guardInv (hob.1 hc)) (Gv hc h2 hob.2 hr)
  ·rename_i d ds' o' _ h1 h2;cases h;exact .mk (hx x (by simp) _ h1) (Gv hc h2 hob hr)
  ·cases h
theorem FF:∀{vs:List Value} {ds:List D} {xs:List V},FG ds=some xs->RepL I μ vs ds->RepVL I vs xs
 | [],ds,xs,h,hr=>by
  cases ds with
  | nil=>cases h;exact .nil
  | cons d ds=>simp [RepL] at hr
 | v::vs,ds,xs,h,hr=>by
  cases ds with
  | nil=>simp [RepL] at hr
  | cons d ds =>
   obtain ⟨h1,h2⟩:=hr.cons;cases d <;> simp only [FG,reduceCtorEq] at h
   ·split at h
    ·cases h;exact .mk h1.immInv (FF (by assumption) h2)
    ·cases h
   ·split at h
    ·cases h;cases h1;exact .mk .slnil (FF (by assumption) h2)
    ·cases h
theorem RepD.ipV {v:Value} {t:TypeId} {cs:List V} {off:Nat} (h:RepD I μ v (.ip t cs off)):RepV I v (.ip t cs off):=by
 cases h with
 | ip b o _ _ _ vs h1 h2=>exact .ip b o t cs off vs h1 h2
theorem RepV.ipD {v:Value} {t:TypeId} {cs:List V} {off:Nat} (h:RepV I v (.ip t cs off)):RepD I μ v (.ip t cs off):=by
 cases h with
 | ip b o _ _ _ vs h1 h2=>exact .ip b o t cs off vs h1 h2
theorem gB {v:Value} {x:V} (h:pX d=some x) (hr:RepD I μ v d):RepV I v x:=by
 unfold pX at h
 split at h
 ·cases h;exact hr.immInv
 ·cases h;cases hr;exact .slnil
 ·split at h
  ·rename_i xs hx;cases h;obtain ⟨cs,rfl,h1,h2⟩:=hr.aggDInv;have:=FF hx h1;exact .agg cs xs (by have:=this.1;simpa using this) h2 λi c x hc hx=>this.2 i c x (by simpa using hc) hx
  ·cases h
 ·cases h;exact hr.ipV
 ·cases h
theorem IW:∀{vs:List Value} {ds:List D} {xs:List V},L6 ds=some xs->RepL I μ vs ds->RepVL I vs xs
 | [],[],xs,h,hr=>by
  simp only [L6,Option.some.injEq] at h;subst h;exact ⟨rfl,λi v x h=>by simp at h⟩
 | v::vs,d::ds,xs,h,hr=>by
  simp only [L6] at h
  split at h
  ·rename_i x xs' h1 h2;cases h;have ih:=IW (vs:=vs) h2 ⟨by simpa using hr.1,λi v d p q=>hr.2 (i+1) v d (by simpa using p) (by simpa using q)⟩;refine ⟨by simp [ih.1],λi u y p q=>?_⟩;cases i with
   | zero=>simp at p q;rw [<- p,<- q];exact gB h1 (hr.2 0 v d rfl rfl)
   | succ i=>exact ih.2 i u y (by simpa using p) (by simpa using q)
  ·cases h
 | [],_::_,_,_,hr=>by have:=hr.1;simp at this
 | _::_,[],_,_,hr=>by have:=hr.1;simp at this
theorem PK {v:Value} {x:V} (h:mQ d=some x) (hr:RepD I μ v d):RepV I v x:=by
 unfold mQ at h
 split at h
 ·cases h;exact hr.immInv
 ·cases h;cases hr;exact .slnil
 ·split at h
  ·rename_i xs hx;cases h;obtain ⟨cs,rfl,h1,h2⟩:=hr.aggDInv;have:=FF hx h1;exact .agg cs xs (by have:=this.1;simpa using this) h2 λi c x hc hx=>this.2 i c x (by simpa using hc) hx
  ·cases h
 ·split at h
  ·rename_i ds _ xs hx;cases h;generalize hd:D.tup ds=d' at hr;cases hr <;> cases hd;rename_i cs hl h;have:=IW (vs:=cs.toList) hx ⟨by simpa using hl,λi c x hc hx=>h i c x (by simpa using hc) hx⟩;exact .tup cs xs (by have:=this.1;simpa using this) λi c x hc hx=>this.2 i c x (by simpa using hc) hx
  ·cases h
 ·cases h;exact hr.ipV
 ·cases h;cases hr;assumption
 ·split at h
  ·rename_i xs ys hx hy;cases h;cases hr with
   | fn g first cap df dc hf hc h1 h2 =>
    have q1:=IW (vs:=first.toList) hx ⟨by simpa using hf,λi v d e1 e2=>h1 i v d (by simpa using e1) e2⟩;have q2:=IW (vs:=cap.toList) hy ⟨by simpa using hc,λi v d e1 e2=>h2 i v d (by simpa using e1) e2⟩;exact .clo _ first cap xs ys (by simpa using q1.1) (by simpa using q2.1) (λi c x h1 h2=>q1.2 i c x (by simpa using h1) h2) (λi c x h1 h2=>q2.2 i c x (by simpa using h1) h2)
  ·cases h
 ·cases h
theorem VA:∀{vs:List Value} {ds:List D} {xs:List V},L8 ds=some xs->RepL I μ vs ds->RepVL I vs xs
 | [],ds,xs,h,hr=>by
  cases ds with
  | nil=>cases h;exact .nil
  | cons d ds=>simp [RepL] at hr
 | v::vs,ds,xs,h,hr=>by
  cases ds with
  | nil=>simp [RepL] at hr
  | cons d ds =>
   obtain ⟨h1,h2⟩:=hr.cons;simp only [L8] at h
   split at h
   ·cases h;exact .mk (PK (by assumption) h1) (VA (by assumption) h2)
   ·cases h
theorem I6 {f:List Nat×List Nat} {all:List Oper} {o:Oper} (h:Bk todo f=some (all,o,todo')) :
  (∃r k,todo = .ops all (o::r)::k/\todo' = .ops all r::k)\/∃r fs k,todo = .dops all (o::r) fs::k/\todo' = .dops all r (f::fs)::k:=by
 unfold Bk at h
 split at h
 ·cases h;exact .inl ⟨_,_,rfl,rfl⟩
 ·cases h;exact .inr ⟨_,_,_,rfl,rfl⟩
 ·cases h
theorem BC {rd fr:List Nat} {wr:St} {all:List Oper} {o:Oper} (h1:Bk todo (rd,wr.map (·.1))=some (all,o,todo')) (hl:LD P (M5 Q) all o env st rd fr wr d) (hn:BJ n o.dst=true)
  (hnd:∀c,o.op ≠ .defer c) (h:G P n F Q todo' (BE o.dst d env) (wr++st) ids'):G P n F Q todo env st (fr++ids'):=by
 have hn':∀t,o.dst=some t->t<n:=λt ht=>by
  unfold BJ at hn;rw [ht] at hn;simpa [Nat.blt_eq] using hn
 rcases I6 h1 with ⟨r,k,rfl,rfl⟩ | ⟨r,fs,k,rfl,rfl⟩
 ·exact rZ hl hn' hnd h
 ·simp only [G,List.reverse_cons] at h ⊢;exact Vd hl hn' hnd h
def EA (P:Program) (o:Oper) (env:Env) (f:FuncId) (das:List D) (cx:Prop):Prop :=
 ∀I μ a w,D5 I μ env a o.op->cx->∃xs:Array Value,RepL I μ xs.toList das/\(execOp a.eval o).run P w=(callFunc f xs).run P w
theorem Fx {o:Oper} {f:FuncId} {args:List Operand} {ts:Array TypeId} {ds:List D} (ho:o.op = .call { callee:=.value (.func f),args:=⟨args⟩,argTypes:=ts }) (ha:Ir cx env args=some (ds,ob)) (hob:AA ob) :
  EA P o env f ds cx:=by
 intro I μ a w hop hc;rw [ho] at hop;refine ⟨(args.map a.eval).toArray,by simpa using Gv hc ha hob λx hx=>hop x (by simp [Op.operands,Call.operands,hx]),?_⟩;simp only [execOp,ho,resolve,Act.eval,Deferred.ofValue,Sem.run_bind,Sem.run_pure,Result.andThen_ok,invoke];congr 2;simp
theorem E9 {o:Oper} {t:Nat} {f:FuncId} {args:List Operand} {ts:Array TypeId} {ds:List D} (ho:o.op = .call { callee:=.value (.tmp t),args:=⟨args⟩,argTypes:=ts }) (ht:lk env t=some (.imm (.fn (.func f))))
  (ha:Ir cx env args=some (ds,ob)) (hob:AA ob):EA P o env f ds cx:=by
 intro I μ a w hop hc;rw [ho] at hop;refine ⟨(args.map a.eval).toArray,by simpa using Gv hc ha hob λx hx=>hop x (by simp [Op.operands,Call.operands,hx]),?_⟩;have hv:a.eval (.tmp t) = .func (.func f) #[] #[]:=(hop (.tmp t) (by simp [Op.operands,Call.operands]) _ ht).immInv.fnInv;simp only [execOp,ho,resolve,hv,Deferred.ofValue,Sem.run_bind,Sem.run_pure,Result.andThen_ok,invoke];congr 2;simp
theorem Is {o:Oper} {t:Nat} {f:FuncId} {args:List Operand} {ts:Array TypeId} {ds df dc:List D} (ho:o.op = .call { callee:=.value (.tmp t),args:=⟨args⟩,argTypes:=ts }) (ht:lk env t=some (.fn (.func f) df dc))
  (ha:Ir cx env args=some (ds,ob)) (hob:AA ob):EA P o env f (df++ds++dc) cx:=by
 intro I μ a w hop hc;rw [ho] at hop;have hd:=Gv (I:=I) (μ:=μ) (a:=a) hc ha hob λx hx=>hop x (by simp [Op.operands,Call.operands,hx]);have hf:=hop (.tmp t) (by simp [Op.operands,Call.operands]) _ ht;generalize hv:a.eval (.tmp t)=v at hf;cases hf with
 | fn _ first cap _ _ h1 h2 h3 h4 =>
  refine ⟨first++(args.map a.eval).toArray++cap,?_,?_⟩
  ·simp only [Array.toList_append];refine RepL.append (RepL.append ⟨by simpa using h1,λi v d hv hd=>h3 i v d (by simpa using hv) hd⟩ hd) ⟨by simpa using h2,λi v d hv hd=>h4 i v d (by simpa using hv) hd⟩
  ·simp only [execOp,ho,resolve,hv,Deferred.ofValue,Sem.run_bind,Sem.run_pure,Result.andThen_ok,invoke];congr 3;simp
theorem GO {all:List Oper} {o:Oper} {g:Option (Bool×Bool)} (hg:Ct all env o=some g) (hon:∀t∈o.looksAt all.toArray,∀d,lk env t=some d->RepD I μ (a.tmps.getD t undef) d) :
  Region.wanted o (yielded all.toArray a.tmps)=true↔An g:=by
 unfold Ct at hg
 split at hg
 ·rename_i hgd;cases hg;simp [An,AF hgd]
 ·rename_i j w0 hgd
  split at hg
  ·rename_i gs _ _ _ _ _ hj
   split at hg
   ·rename_i c hl;cases hg;rw [FL] at hj;exact RI hgd hj rfl hl hon
   ·cases hg
  ·cases hg
theorem PS {all:List Oper} {o:Oper} {f:FuncId} {das:List D} {vs:List V} {v:V} {g:Option (Bool×Bool)} (hg:Ct all env o=some g) (hc:EA P o env f das (An g)) (hv:L8 das=some vs)
  (hE:An g->Ak P f vs v):LD P Pn all o env st [] [] [] (gD g (.imm v)):=by
 have key:∀I μ st1 ids1 a w,StRep I μ st1 ids1 w->D5 I μ env a o.op->An g->valX P ((execOp a.eval o).run P w) (λu w'=>∃I' μ',StRep I' μ' st1 ids1 w'/\RepD I' μ' u (gD g (.imm v))/\μ.le μ'/\Ext I μ st1 w I' μ' st1 w') (Ld Pn I μ st1 w):=by
  intro I μ st1 ids1 a w hst hop hcx;obtain ⟨xs,h1,h2⟩:=hc I μ a w hop hcx;have hx:=VA hv h1;obtain ⟨q1,q2,q3⟩:=H5 (σ:=[]) (st0:=[]) hst trivial (das:=vs.map .imm) (by
   have:∀vs:List V,Jn (vs.map .imm)=[]:=λvs=>by induction vs with
    | nil=>rfl
    | cons x r ih=>simp [Jn,I5,ih]
   rw [this];rfl) hx.imm
  have hren:Gm (Ei []) (vs.map .imm)=vs.map .imm:=by
   rw [Gb];simp [JU]
  rw [hren] at q2;rw [h2];refine (hE hcx I _ w xs q1 q2).mono (λu w' hu=>?_) (λ_ _ h=>h.elim);obtain ⟨I',μ',r1,r2,r3,r4⟩:=hu;obtain ⟨ν,s1,s2,s3,s4⟩:=KY (fr:=[]) (ids':=ids1) (σ:=[]) (τ1:=[]) (das:=[]) (st0:=[]) hst trivial ⟨rfl,rfl,λ_ h=>by simp at h,rfl,rfl,λ_ h=>by simp at h⟩ r1 r2 r3 r4 q3;refine ⟨I',ν,s1,?_,s3,s4⟩;cases g with
  | none=>exact s2
  | some p=>exact .guard _ _ _ _ (λ_=>s2) (λhn=>absurd hcx hn)
 intro I μ st1 ids1 a w _ hst hon;have hwant:=GO hg hon;refine ⟨λhw=>key I μ st1 ids1 a w hst (Bh hon) (hwant.1 hw),λhw=>⟨rfl,rfl,?_⟩⟩;cases g with
 | none=>rw [hwant.2 trivial] at hw;cases hw
 | some p=>exact .guard _ _ _ _ (λhc=>by rw [hwant.2 hc] at hw;cases hw) (λ_=>rfl)
theorem Ad {f:FuncId} {vs:List V} {g:Option (Bool×Bool)} {ob:List Prop} {dst:Option Nat} {todo':List DI} {v:V} (h:ZF n env todo=some ⟨f,vs,g,ob,dst,todo'⟩) (hE:An g->Ak P f vs v) (hob:AA ob)
  (hk:G P n F Q todo' (BE dst (gD g (.imm v)) env) st ids):G P n F Q todo env st ids:=by
 unfold ZF at h;have fin:∀{all:List Oper} {o:Oper} {todo1:List DI} {x:bC},(match o.dst with
   | some t=>some (⟨x.f,x.vs,x.g,x.ob,some t,todo1⟩:bC)
   | none=>some ⟨x.f,x.vs,x.g,x.ob,none,todo1⟩)=some ⟨f,vs,g,ob,dst,todo'⟩->x.f=f/\x.vs=vs/\x.g=g/\x.ob=ob/\o.dst=dst/\todo1=todo':=by
  intro all o todo1 x hx
  split at hx <;> (rename_i hd;cases hx;exact ⟨rfl,rfl,rfl,rfl,hd,rfl⟩)
 split at h
 ·rename_i all o todo1 h1;have hnd:∀cc,o.op = .call cc->∀c,o.op ≠ .defer c:=λcc h c h'=>by rw [h] at h';cases h'
  split at h
  ·rename_i f args ts g ho hg
   split at h
   ·rename_i ds ob ha
    split at h
    ·rename_i vs hv hd;obtain ⟨e1,e2,e3,e4,e5,e6⟩:=fin (all:=all) (x:=⟨f,vs,g,ob,none,todo1⟩) h
     dsimp only at e1 e2 e3 e4
     subst e1;subst e2;subst e3;subst e4;subst e5;subst e6;exact BC (fr:=[]) (wr:=[]) h1 (PS hg (Fx ho ha hob) hv hE) hd (hnd _ ho) hk
    ·cases h
   ·cases h
  ·rename_i t args ts g ho hg
   split at h
   ·rename_i f ds ob ht ha
    split at h
    ·rename_i vs hv hd;obtain ⟨e1,e2,e3,e4,e5,e6⟩:=fin (all:=all) (x:=⟨f,vs,g,ob,none,todo1⟩) h
     dsimp only at e1 e2 e3 e4
     subst e1;subst e2;subst e3;subst e4;subst e5;subst e6;exact BC (fr:=[]) (wr:=[]) h1 (PS hg (E9 ho ht ha hob) hv hE) hd (hnd _ ho) hk
    ·cases h
   ·cases h
  ·cases h
 ·cases h
theorem AN {f:FuncId} {vs:List V} {g:Option (Bool×Bool)} {ob:List Prop} {dst:Option Nat} {todo':List DI} {v:V} (h:ZF n env todo=some ⟨f,vs,g,ob,dst,todo'⟩) (hE:Ak P f vs v)
  (hk:G P n F Q todo' (BE dst (gD g (.imm v)) env) st ids) (hob:AA ob:=by simp [An]):G P n F Q todo env st ids:=Ad h (λ_=>hE) hob hk
theorem Ah {f:FuncId} {vs:List V} {g:Option (Bool×Bool)} {ob:List Prop} {dst:Option Nat} {todo':List DI} {v:V} (h:ZF n env todo=some ⟨f,vs,g,ob,dst,todo'⟩) (hE:Ak P f vs v)
  (hk:G P n F Q todo' (BE dst (gD g (.imm v)) env) st ids) (hob:AA ob:=by simp):G P n F Q todo env st ids:=Ad h (λ_=>hE) hob hk
end
end Go.Hk
namespace Go.Hk
def UT (tt:TT) (st:St) (ty:TypeId):D->Option D
 | .ref id off=>match lk tt ty,lk st id with
  | some i,some (some (.immb _ sz xs))=>MH i (Nat.beq sz i.size) xs off
  | some i,some (some (.cells _ sz cs))=>GD i (Nat.beq sz i.size) cs off
  | _,_=>none
 | _=>none
def jD:D->Bool
 | .guard ..=>false
 | _=>true
def P5 (tt:TT) (env:Env) (st:St):List ResultVar->Option (List D)
 | []=>some []
 | .tmp t::r=>match lk env t,P5 tt env st r with
  | some d,some ds=>match jD d with
   | true=>some (d::ds)
   | false=>none
  | _,_=>none
 | .cell t ty::r=>match lk env t,P5 tt env st r with
  | some a,some ds=>match UT tt st ty a with
   | some d=>some (d::ds)
   | none=>none
  | _,_=>none
def JS:List D->D
 | [d]=>d
 | ds=>.tup ds
def Sp (d:D):D->Prop
 | .imm v=>mQ d=some v
 | d'=>d=d'
def He (st:St):St->Prop
 | []=>True
 | (i,some b)::r=>lk st i=some (some b)/\He st r
 | (_,none)::_=>False
def K5 (tt:TT) (rs:List ResultVar) (out:Out):DQ:=λx env st _=>match x,out with
 | .ret,.ret d st'=>∃ds,P5 tt env st rs=some ds/\Sp (JS ds) d/\He st st'
 | .norm,.ret d st'=>∃ds,P5 tt env st rs=some ds/\Sp (JS ds) d/\He st st'
 | .panic x,.pan y=>x=y
 | _,_=>False
def Me:Nat->List D->Env
 | _,[]=>[]
 | i,d::r=>(i,d)::Me (i+1) r
section
variable {P:Program} {tt:TT} {env:Env} {st st':St} {ids:List Nat} {I:Imm} {μ:Mu} {w:World} {d:D}
theorem EB:∀{st':St},He st st'->∀i b,At st' i b->At st i b
 | [],_,i,b,h=>by simp [At,lk] at h
 | (k,none)::r,h,_,_,_=>h.elim
 | (k,some x)::r,h,i,b,hl=>by
  by_cases hk:k=i
  ·subst hk;unfold At at hl;rw [Aw] at hl;cases hl;exact h.1
  ·refine EB h.2 i b ?_;unfold At at hl ⊢;rwa [A6 _ _ hk] at hl
theorem StRep.less (hs:StRep I μ st ids w) (h:∀i b,At st' i b->At st i b) {ids':List Nat} (hn:ids'.Nodup) (hi:∀i∈ids',μ i=none):StRep I μ st' ids' w :=
 {imm:=hs.imm,blk:=λid blk hl=>hs.blk id blk (h _ _ hl),apart:=λid blk g b hl=>hs.apart id blk g b (h _ _ hl),
  inj:=λi j bi bj gi gj b hi hj=>hs.inj i j bi bj gi gj b (h _ _ hi) (h _ _ hj),nodup:=hn,idsFree:=hi }
theorem Y5 (htt:TTok P tt) (hst:StRep I μ st ids w) {ty:TypeId} {v:Value} {da:D} (hv:RepD I μ v da) (h:UT tt st ty da=some d) :
  ∃b u,v = .pointer (some b)/\(loadVar ty b).run P w = .ok u w/\RepD I μ u d:=by
 unfold UT at h
 split at h
 ·rename_i id off;obtain ⟨b,e1,e2⟩:=hv.refInv;have conv:∀{u:Value},(Instr.loadAt ty (.pointer (some ⟨b,off,none⟩))).run P w = .ok u w->(loadVar ty ⟨b,off,none⟩).run P w = .ok u w:=λh=>by
   simpa [Instr.loadAt,Instr.sureAddr] using h
  split at h
  ·rename_i i bt sz xs hi hl;obtain ⟨g,hg,hlen,b',vs,hg2,hheap,hrep,hone⟩:=hst.blk id _ hl;rw [e2] at hg;cases hg;cases hg2;obtain ⟨u,h1,h2⟩:=ME (P:=P) (w:=w) (I:=I) (μ:=μ) (htt ty i hi) (b:=b) (o:=0) (off:=off) (xs:=xs) (vs:=λj=>vs.toList.getD j undef) (same:=Nat.beq sz i.size)
    (λj x hj=>by
     have hlt:j<xs.length:=(List.getElem?_eq_some_iff.1 hj).1;have hv:vs.toList[j]?=some (vs.toList[j]'(by rw [hrep.1];exact hlt)):=List.getElem?_eq_getElem _;rw [Nat.zero_add];have e:vs.toList.getD j undef=vs.toList[j]'(by rw [hrep.1];exact hlt):=by simp [List.getD,hv]
     rw [e];exact ⟨DA hheap j _ hv,hone _ (List.getElem_mem _)⟩)
    (λj x hj=>by
     have hlt:j<xs.length:=(List.getElem?_eq_some_iff.1 hj).1;have hv:vs.toList[j]?=some (vs.toList[j]'(by rw [hrep.1];exact hlt)):=List.getElem?_eq_getElem _;have e:vs.toList.getD j undef=vs.toList[j]'(by rw [hrep.1];exact hlt):=by simp [List.getD,hv]
     rw [e];exact hrep.2 j _ _ hv hj)
    (λ_ hs _=>by rw [hlen];exact Nat.eq_of_beq_eq_true hs) h
   rw [Nat.zero_add] at h1;exact ⟨_,u,e1,conv h1,h2⟩
  ·rename_i i bt sz cs hi hl;obtain ⟨g,hg,hlen,b',vs,hg2,hheap,hrep,hone⟩:=hst.blk id _ hl;rw [e2] at hg;cases hg;cases hg2;obtain ⟨u,h1,h2⟩:=W2 (P:=P) (w:=w) (I:=I) (μ:=μ) (htt ty i hi) (b:=b) (off:=off) (cs:=cs) (vs:=vs.toList) (same:=Nat.beq sz i.size)
    (λj v hj=>DA hheap j v hj) hone hrep (λ_ hs _=>by rw [hlen];exact Nat.eq_of_beq_eq_true hs) h
   exact ⟨_,u,e1,conv h1,h2⟩
  ·cases h
 ·cases h
theorem Ya (b:Addr):(asAddr (.pointer (some b))).run P w = .ok b w:=by simp [asAddr]
theorem UD (htt:TTok P tt) (hst:StRep I μ st ids w) {tmps:Array Value} (he:∀t d,lk env t=some d->RepD I μ (tmps.getD t undef) d) {g:ResultVar->Sem Value} (g1:∀t,g (.tmp t)=pure (tmps.getD t undef))
  (g2:∀a t,g (.cell a t)=do loadVar t (<- asAddr (tmps.getD a undef))):∀{rs:List ResultVar} {ds:List D},P5 tt env st rs=some ds->∃vs,(rs.mapM g).run P w = .ok vs w/\RepL I μ vs ds
 | [],ds,h=>by cases h;exact ⟨[],by simp,.nil⟩
 | .tmp t::r,ds,h=>by
  simp only [P5] at h
  split at h
  ·rename_i d ds' h1 h2
   split at h
   ·cases h;obtain ⟨vs,h3,h4⟩:=UD htt hst he g1 g2 h2;exact ⟨_,by simp only [List.mapM_cons,g1,Sem.run_bind,Sem.run_pure,Result.andThen_ok,h3],.mk (he t d h1) h4⟩
   ·cases h
  ·cases h
 | .cell t ty::r,ds,h=>by
  simp only [P5] at h
  split at h
  ·rename_i a ds' h1 h2
   split at h
   ·rename_i d hd;cases h;obtain ⟨vs,h3,h4⟩:=UD htt hst he g1 g2 h2;obtain ⟨b,u,e1,e2,e3⟩:=Y5 htt hst (he t a h1) hd;exact ⟨_,by simp only [List.mapM_cons,g2,Sem.run_bind,Sem.run_pure,Result.andThen_ok,h3,e1,Ya,e2],.mk e3 h4⟩
   ·cases h
  ·cases h
theorem Yg (htt:TTok P tt) (hst:StRep I μ st ids w) {tmps:Array Value} (he:∀t d,lk env t=some d->RepD I μ (tmps.getD t undef) d) {fn:Func} {ds:List D} (h:P5 tt env st fn.results.toList=some ds) :
  ∃vs:List Value,(results fn tmps).run P w = .ok (if h:vs.toArray.size=1 then vs.toArray[0] else .tuple vs.toArray) w/\RepL I μ vs ds:=by
 have hm:∀(f:ResultVar->Sem Value) (vs:List Value),(fn.results.toList.mapM f).run P w = .ok vs w->(fn.results.mapM f).run P w = .ok vs.toArray w:=λf vs hf=>by
  rw [Array.mapM_eq_mapM_toList];change Sem.run P (List.mapM f fn.results.toList >>= λl=>pure l.toArray) w=_;simp only [Sem.run_bind,hf,Sem.run_pure,Result.andThen_ok]
 refine Exists.imp (λvs hv=>⟨?_,hv.2⟩) (UD (g:=fun | .tmp t=>pure (tmps.getD t undef) | .cell a t=>do loadVar t (<- asAddr (tmps.getD a undef))) htt hst he (λ_=>rfl) (λ_ _=>rfl) h);have q:=hm _ vs hv.1;unfold results;simp only [Sem.run_bind];exact Eq.trans (congrArg (Result.andThen · (λvs w=>Sem.run P (pure (if h:vs.size=1 then vs[0] else .tuple vs)) w)) q) (by simp)
theorem cI {vs:List Value} {ds:List D} (h:RepL I μ vs ds):RepD I μ (if h:vs.toArray.size=1 then vs.toArray[0] else .tuple vs.toArray) (JS ds):=by
 have tup:RepD I μ (.tuple vs.toArray) (.tup ds):=.tup _ _ (by simpa using h.1) λi c x hc hx=>h.2 i c x (by simpa using hc) hx
 match vs,ds,h,tup with
 | [],[],_,tup=>simpa [JS] using tup
 | [v],[d],h,_=>simpa [JS] using h.2 0 v d rfl rfl
 | v::v'::r,d::d'::s,_,tup=>simpa [JS] using tup
 | [],_::_,h,_=>simp [RepL] at h
 | _::_,[],h,_=>simp [RepL] at h
 | [_],_::_::_,h,_=>simp [RepL] at h
 | _::_::_,[_],h,_=>simp [RepL] at h
theorem Qt {v:Value} {d':D} (h:Sp d d') (hr:RepD I μ v d):RepD I μ v d':=by
 cases d' with
 | imm x=>exact .imm _ _ (PK h hr)
 | _=>(have h:d=_:=h);rw [<- h];exact hr
theorem BW {f : FuncId} {fn : Func} {c : Code} (hf : P.funcs[f]? = some fn) (hname : (fn.name == "runtime.NumGoroutine") = false) (hb : fn.body = some c) (xs : Array Value) :
  (callFunc f xs).run P w = .ok (.enter f xs) w:=by
 have hn : ¬ fn.name = "runtime.NumGoroutine" := by simpa using hname
 simp [callFunc,hf,hn,hb]
theorem TI:∀{ds:List D} {i t:Nat} {d:D},lk (Me i ds) t=some d->∃j,t=i+j/\ds[j]?=some d
 | [],i,t,d,h=>by simp [Me,lk] at h
 | x::r,i,t,d,h=>by
  simp only [Me] at h;by_cases hi:i=t
  ·subst hi;rw [Aw] at h;cases h;exact ⟨0,rfl,rfl⟩
  ·rw [A6 _ _ hi] at h;obtain ⟨j,h1,h2⟩:=TI h;exact ⟨j+1,by omega,by simpa using h2⟩
def Px:List Nat->List Nat->Bool
 | [],_=>true
 | x::r,l=>Fo l x&&Px r l
theorem FZ:∀{a b:List Nat},Px a b=true->∀i∈a,i∈b
 | [],_,_,i,h=>by simp at h
 | x::r,b,h,i,hi=>by
  simp only [Px,Bool.and_eq_true] at h;rcases List.mem_cons.1 hi with rfl | hi
  ·exact BT.1 h.1
  ·exact FZ h.2 i hi
def Jj:List Nat->Bool
 | []=>true
 | x::r=>!Fo r x&&Jj r
theorem HO:∀{a:List Nat},Jj a=true->a.Nodup
 | [],_=>.nil
 | x::r,h=>by
  simp only [Jj,Bool.and_eq_true,Bool.not_eq_true'] at h;exact List.nodup_cons.2 ⟨λhm=>(by rw [BT.2 hm] at h;cases h.1),HO h.2⟩
theorem RepL.sub {ν:Mu} {vs:List Value} {ds:List D} (h:RepL I μ vs ds) (hn:∀i∈Jn ds,∀g,μ i=some g->ν i=some g):RepL I ν vs ds :=
 ⟨h.1,λi v d hv hd=>(h.2 i v d hv hd).sub λj hj=>hn j (Jm (List.mem_of_getElem? hd) hj)⟩
theorem BlkRep.sub {ν:Mu} {g:Value} {blk:Blk} (h:BlkRep I μ w g blk) (hn:∀i∈Sx blk,∀g,μ i=some g->ν i=some g):BlkRep I ν w g blk:=by
 cases blk with
 | immb t sz xs=>exact h
 | cells t sz cs =>
  obtain ⟨hs,b,vs,h1,h2,h3,h4⟩:=h;exact ⟨hs,b,vs,h1,h2,h3.sub hn,h4⟩
 | row t sz es=>exact h
 | map kv=>exact h
 | siter s pos=>exact h
 | pin=>exact h
 | bun id S =>
  obtain ⟨b,bs,h1,h2,h3⟩:=h;exact ⟨b,bs,hn id (by simp [Sx]) _ h1,h2,h3⟩
 | hp A=>exact h
 | adr id b=>exact ⟨h.1,hn id (by simp [Sx]) _ h.2⟩
 | mapx kv b es c=>exact h
 | miter b s z c=>exact h
def RetL (tt:TT) (rs:List ResultVar) (out:Out):DQ:=λx env st _=>match x,out with
 | .ret,.ret d st'=>∃ds,P5 tt env st rs=some ds/\Sp (JS ds) d/\∀i b,At st' i b->At st i b
 | .norm,.ret d st'=>∃ds,P5 tt env st rs=some ds/\Sp (JS ds) d/\∀i b,At st' i b->At st i b
 | .panic x,.pan y=>x=y
 | _,_=>False
theorem kU {f : FuncId} {fn : Func} {c : Code} {ds : List D} {st0 : St} {out : Out} (htt : TTok P tt) (hf : P.funcs[f]? = some fn) (hname : (fn.name == "runtime.NumGoroutine") = false) (hb : fn.body = some c)
  (ids:List Nat) (hsz:Nat.ble ds.length fn.ntmps=true) (hn1:ids.Nodup) (hn2:∀i∈ids,i∉D8 st0) (hn3:∀i∈Jn ds,i∈D8 st0) (hn4:∀i∈F0 st0,i∈D8 st0)
  (h:DGo P fn.ntmps (D8 st0) (RetL tt fn.results.toList out) [.code c] (Me 0 ds) st0 ids):Bg P f ds st0 out:=by
 intro I μ w xs hst hx;rw [BW hf hname hb];refine PE hf hb λb cs hbf _ hbr=>?_;obtain ⟨ν,hν⟩:∃ν:Mu,ν=λi=>if Fo (D8 st0) i=true then μ i else none:=⟨_,rfl⟩
 have hν1:∀i∈D8 st0,ν i=μ i:=λi hi=>by rw [hν];simp [BT.2 hi]
 have hlive:∀i b,At st0 i b->i∈D8 st0:=by
  intro i b hl;have:∀{st0:St},At st0 i b->i∈D8 st0:=by
   intro st0
   induction st0 with
   | nil=>intro h;simp [At,lk] at h
   | cons p r ih =>
    obtain ⟨k,y⟩:=p;intro h;by_cases hk:k=i
    ·subst hk;simp [D8]
    ·have:At r i b:=by unfold At at h ⊢;rwa [A6 _ _ hk] at h
     simp only [D8,List.map_cons,List.mem_cons];exact .inr (ih this)
  exact this hl
 have hst1:StRep I ν st0 ids w:=by
  refine { imm:=hst.imm,blk:=λi b hl=>?_,apart:=λi bb g k hl hg hk=>hst.apart i bb g k hl (by rw [<- hν1 i (hlive i bb hl)];exact hg) hk,inj:=λi j bi bj gi gj k hi hj hgi hgj=>hst.inj i j bi bj gi gj k hi hj (by rw [<- hν1 i (hlive i bi hi)];exact hgi) (by rw [<- hν1 j (hlive j bj hj)];exact hgj),nodup:=hn1,idsFree:=λi hi=>?_ }
  ·obtain ⟨g,hg,hr⟩:=hst.blk i b hl;refine ⟨g,by rw [hν1 i (hlive i b hl)];exact hg,hr.sub λj hj g hgj=>?_⟩;rw [hν1 j (hn4 j ((ET hl).2 j hj))];exact hgj
  ·rw [hν];have:=hn2 i hi;have hm:Fo (D8 st0) i=false:=by
    cases h:Fo (D8 st0) i with
    | false=>rfl
    | true=>exact absurd (BT.1 h) this
   simp [hm]
 have hx1:RepL I ν xs.toList ds:=hx.sub λj hj g hg=>by rw [hν1 j (hn3 j hj)];exact hg
 have hlen:xs.size=ds.length:=by have:=hx.1;simpa using this
 have hsz':ds.length<=fn.ntmps:=by simpa [Nat.ble_eq] using hsz
 have hc:Conc fn.ntmps I ν (Me 0 ds) st0 ids { tmps:=xs++Array.replicate (fn.ntmps-xs.size) undef,defers:=[] } w :=
  {hst1 with
   size:=(by simp;omega)
   env:=λt d hl=>by
    obtain ⟨j,rfl,hd⟩:=TI hl;have hj:j<ds.length:=(List.getElem?_eq_some_iff.1 hd).1;have hjx:j<xs.size:=by omega
    have e:(xs++Array.replicate (fn.ntmps-xs.size) undef).getD (0+j) undef=xs[j]:=by
     rw [Nat.zero_add];simp [Array.getD,Array.getElem_append_left hjx];omega
    rw [e];exact hx1.2 j _ d (by simp [hjx]) hd
   defers:=MarksOk.nil _ _ _ _ }
 have hown:∀b,Bq ν st0 b↔Bq μ st0 b:=λb=>by
  constructor <;> rintro ⟨i,bi,g,h1,h2,h3⟩
  ·exact ⟨i,bi,g,h1,by rw [<- hν1 i (hlive i bi h1)];exact h2,h3⟩
  ·exact ⟨i,bi,g,h1,by rw [hν1 i (hlive i bi h1)];exact h2,h3⟩
 have hrun:=h ⟨b,.inr ⟨hbr,fn,by rw [hbf];exact hf⟩⟩ cs I ν { tmps:=xs++Array.replicate (fn.ntmps-xs.size) undef,defers:=[] } w [.code c] ⟨rfl,trivial⟩ hc;refine hrun.mono λe a' w' hp=>?_;obtain ⟨x,env',st',ids',I',μ',p1,p2,p3,p4,p5',p6⟩:=hp;obtain ⟨rs,m1,m2,m3⟩:=p3.defers;have hrs:∀r∈rs,w.heap.size<=r:=λr hr=>by
  rcases p6 r (by rw [m1];exact List.mem_map.2 ⟨r,hr,rfl⟩) with h | h
  ·simp at h
  ·exact h
 obtain ⟨w2,k1,k2,k3,k4,k5,k6⟩:=TD (P:=P) rs w' m2 (λr hr=>(m3 r hr).1);have hS2:StRep I' μ' st' ids' w2 :=
  {imm:=λb o h=>by rw [k6 b (λhm=>by rw [(m3 b hm).2.1] at h;cases h)];exact p3.imm b o h
   blk:=λi b hl=>by
    obtain ⟨g,hg,hr⟩:=p3.blk i b hl;exact ⟨g,hg,hr.world λbb hbb=>k6 bb λhm=>(m3 bb hm).2.2 ⟨i,b,g,hl,hg,hbb⟩⟩
   apart:=λi b g bb hl hg hbb=>by rw [k5];exact p3.apart i b g bb hl hg hbb
   inj:=p3.inj
   nodup:=p3.nodup
   idsFree:=p3.idsFree }
 have p5:Ext I ν st0 w I' μ' st' w2 :=
  {imm:=p5'.imm,os:=k2.trans p5'.os,tape:=k3.trans p5'.tape,output:=k4.trans p5'.output,size:=by rw [k5];exact p5'.size
   block:=λb hb ho=>(k6 b λhm=>by have:=hrs b hm;omega).trans (p5'.block b hb ho),fresh:=p5'.fresh,old:=p5'.old }
 have fin:∀d st1,out = .ret d st1->(∃ds,P5 tt env' st' fn.results.toList=some ds/\Sp (JS ds) d/\∀i b,At st1 i b->At st' i b)->∃w'' v,Ux P a'.defers w' w''/\(results fn a'.tmps).run P w'' = .ok v w'' /\
   (match (Ending.returned v) with
    | .returned v=>(match out with
     | .ret d st'=>∃I' μ',RepD I' μ' v d/\StRep I' μ' st' [] w''/\Pin (D8 st0) μ μ'/\Ext I μ st0 w I' μ' st' w''
     | .pan _=>False)
    | .panicked chain=>(match out with
     | .ret _ _=>False
     | .pan x=>Ld (· = x) I μ st0 w chain w'')
    | .outgrown=>False):=by
  rintro d st1 rfl ⟨ds',r1,r2,r3⟩;obtain ⟨vs,q1,q2⟩:=Yg htt hS2 p3.env r1;refine ⟨w2,_,by rw [m1];exact k1,q1,I',μ',Qt r2 (cI q2),hS2.less (r3) .nil (λ_ h=>by simp at h),λi hi g hg=>p4 i hi g (by rw [hν1 i hi];exact hg),?_⟩;exact { imm:=p5.imm,os:=p5.os,tape:=p5.tape,output:=p5.output,size:=p5.size,block:=λb hb ho=>p5.block b hb (λh=>ho ((hown b).1 h)),fresh:=λb hb ⟨i,bi,g,h1,h2⟩=>(hown b).1 (p5.fresh b hb ⟨i,bi,g,r3 i bi h1,h2⟩),old:=λb hb ho=>p5.old b hb (λh=>ho ((hown b).1 h)) }
 cases e with
 | normal =>
  cases x <;> simp only [Oo] at p1;cases hout:out with
  | ret d st1=>subst hout;exact fin d st1 rfl p2
  | pan y=>subst hout;exact p2.elim
 | ret =>
  cases x <;> simp only [Oo] at p1;cases hout:out with
  | ret d st1=>subst hout;exact fin d st1 rfl p2
  | pan y=>subst hout;exact p2.elim
 | panic chain =>
  cases x <;> simp only [Oo] at p1;rename_i x;obtain ⟨v,rfl,hv⟩:=p1;cases hout:out with
  | ret d st1=>subst hout;exact p2.elim
  | pan y =>
   subst hout;have p2:x=y:=p2;subst p2;refine ⟨w2,by rw [m1];exact k1,v,x,I',rfl,rfl,hv,hS2.imm,?_⟩;exact { imm:=p5.imm,os:=p5.os,tape:=p5.tape,output:=p5.output,size:=p5.size,block:=λb hb ho=>p5.block b hb (λh=>ho ((hown b).1 h)),fresh:=λb hb ⟨i,bi,g,h1,h2⟩=>by simp [At,lk] at h1,old:=λb hb ho=>p5.old b hb (λh=>ho ((hown b).1 h)) }
 | exit id =>
  cases x <;> simp only [Oo] at p1;exact p2.elim
 | goto l =>
  cases x <;> simp only [Oo] at p1;exact p2.elim
 | outgrown=>cases x <;> simp only [Oo] at p1
theorem Af {f : FuncId} {fn : Func} {c : Code} {ds : List D} {st0 : St} {out : Out} (htt : TTok P tt) (hf : P.funcs[f]? = some fn) (hname : (fn.name == "runtime.NumGoroutine") = false) (hb : fn.body = some c)
  (ids:List Nat) (hsz:Nat.ble ds.length fn.ntmps=true) (hn:(Jj ids&&Pk ids (D8 st0)&&Px (Jn ds) (D8 st0)&&Px (F0 st0) (D8 st0))=true)
  (h:G P fn.ntmps (D8 st0) (K5 tt fn.results.toList out) [.code c] (Me 0 ds) st0 ids):Bg P f ds st0 out:=by
 simp only [Bool.and_eq_true] at hn;obtain ⟨⟨⟨hn1,hn2⟩,hn3⟩,hn4⟩:=hn;refine kU htt hf hname hb ids hsz (HO hn1) (KS.1 hn2) (FZ hn3) (FZ hn4) (h.go.mono λx env st ids hq=>?_);cases x <;> cases out <;> first
  | exact hq
  | exact hq.elim
  | exact ⟨hq.choose,hq.choose_spec.1,hq.choose_spec.2.1,λi b hl=>EB hq.choose_spec.2.2 i b hl⟩
end
end Go.Hk
namespace Go.Hk
mutual
def EM:V->Prop
 | .sl es=>es.length<=maxLen/\Qo es
 | .agg cs=>Cx cs
 | .tup cs=>Cx cs
 | .iface _ x=>EM x
 | _=>True
def Cx:List V->Prop
 | []=>True
 | x::r=>EM x/\Cx r
def Qo:List (List V)->Prop
 | []=>True
 | e::r=>Cx e/\Qo r
end
theorem JK:∀{l:List V},Cx l↔∀x∈l,EM x
 | []=>by simp [Cx]
 | x::r=>by simp [Cx,JK (l:=r)]
theorem SQ:∀{l:List (List V)},Qo l↔∀e∈l,Cx e
 | []=>by simp [Qo]
 | x::r=>by simp [Qo,SQ (l:=r)]
def XW (env:Env):Env->Prop
 | []=>True
 | (t,d')::r=>(match lk env t with
  | some d=>Sp d d'
  | none=>False)/\XW env r
def Zy:Blk->Blk->Prop
 | .cells t sz cs,.immb t' sz' xs=>t=t'/\sz=sz'/\FG cs=some xs
 | .immb t sz xs,.cells t' sz' cs=>t=t'/\sz=sz'/\xs.map .imm=cs
 | b,b'=>b=b'
def bP (st:St):St->Prop
 | []=>True
 | (i,some b')::r=>(match lk st i with
  | some (some b)=>Zy b b'
  | _=>False)/\bP st r
 | (_,none)::_=>False
def Rt (ids l:List Nat):List Nat->Bool
 | []=>true
 | i::r=>(Fo ids i || !Fo l i)&&Rt ids l r
theorem Rs {ids l:List Nat}:∀{m:List Nat},Rt ids l m=true->∀i∈m,i∈ids\/i∉l
 | [],_,i,h=>by simp at h
 | x::r,h,i,hi=>by
  simp only [Rt,Bool.and_eq_true,Bool.or_eq_true,Bool.not_eq_true'] at h;rcases List.mem_cons.1 hi with rfl | hi
  ·exact h.1.imp (λh=>BT.1 h) λh hm=>by rw [BT.2 hm] at h;cases h
  ·exact Rs h.2 i hi
section
variable {P:Program} {n:Nat} {F:List Nat} {Q:DQ} {tt:TT} {env env':Env} {st st':St} {ids ids':List Nat} {k todo:List DI} {I:Imm} {μ:Mu} {w:World}
theorem RepV.ok {v:Value} {x:V} (h:RepV I v x):EM x:=by
 induction h with
 | agg cs xs hl _ _ ih =>
  simp only [EM,JK];intro x hx;obtain ⟨i,hi⟩:=List.mem_iff_getElem?.1 hx;have hlt:i<cs.size:=by rw [hl];exact (List.getElem?_eq_some_iff.1 hi).1
  exact ih i cs[i] x (by simp [hlt]) hi
 | tup cs xs hl _ ih =>
  simp only [EM,JK];intro x hx;obtain ⟨i,hi⟩:=List.mem_iff_getElem?.1 hx;have hlt:i<cs.size:=by rw [hl];exact (List.getElem?_eq_some_iff.1 hi).1
  exact ih i cs[i] x (by simp [hlt]) hi
 | slnil=>simp [EM,Qo]
 | sl0=>simp [EM,Qo]
 | sl b o len cap sz es vs hl hc hm hsz hcell _ ih =>
  simp only [EM,SQ,JK];refine ⟨by omega,λe he x hx=>?_⟩;obtain ⟨i,hi⟩:=List.mem_iff_getElem?.1 he;obtain ⟨j,hj⟩:=List.mem_iff_getElem?.1 hx;exact ih i e j x hi hj
 | iface t v x _ ih=>exact ih
 | _=>trivial
theorem N7:∀{env':Env},XW env env'->∀t d',lk env' t=some d'->∃d,lk env t=some d/\Sp d d'
 | [],_,t,d',h=>by simp [lk] at h
 | (s,x)::r,h,t,d',hl=>by
  by_cases hs:s=t
  ·subst hs;rw [Aw] at hl;cases hl;have h1:=h.1
   split at h1
   ·exact ⟨_,by assumption,h1⟩
   ·exact h1.elim
  ·rw [A6 _ _ hs] at hl;exact N7 h.2 t d' hl
theorem N8:∀{st':St},bP st st'->∀i b',At st' i b'->∃b,At st i b/\Zy b b'
 | [],_,i,b,h=>by simp [At,lk] at h
 | (s,none)::r,h,_,_,_=>h.elim
 | (s,some x)::r,h,i,b',hl=>by
  by_cases hs:s=i
  ·subst hs;unfold At at hl;rw [Aw] at hl;cases hl;have h1:=h.1
   split at h1
   ·exact ⟨_,by assumption,h1⟩
   ·exact h1.elim
  ·refine N8 h.2 i b' ?_;unfold At at hl ⊢;rwa [A6 _ _ hs] at hl
theorem bN {g:Value} {b b':Blk} (h:Zy b b') (hr:BlkRep I μ w g b):BlkRep I μ w g b':=by
 unfold Zy at h
 split at h
 ·obtain ⟨rfl,rfl,h⟩:=h;obtain ⟨hs,bb,vs,h1,h2,h3,h4⟩:=hr;have:=FF h h3;exact ⟨by rw [<- hs,<- h3.1,this.1],bb,vs,h1,h2,this,h4⟩
 ·obtain ⟨rfl,rfl,rfl⟩:=h;obtain ⟨hs,bb,vs,h1,h2,h3,h4⟩:=hr;exact ⟨by simpa using hs,bb,vs,h1,h2,h3.imm,h4⟩
 ·subst h;exact hr
theorem FS (hE:XW env env') (hS:bP st st') (hI:(Jj ids'&&Rt ids (Vv env'++F0 st'++F) ids')=true) (h:DGo P n F Q todo env' st' ids'):DGo P n F Q todo env st ids:=by
 intro b cs I μ a w items hd hc;simp only [Bool.and_eq_true] at hI;obtain ⟨hI1,hI2⟩:=hI;obtain ⟨ν,hν⟩:∃ν:Mu,ν=λi=>if Fo ids' i=true then none else μ i:=⟨_,rfl⟩
 have hno:∀i∈Vv env'++F0 st'++F,∀g,μ i=some g->ν i=some g:=by
  intro i hi g hg;rw [hν];have:Fo ids' i=false:=by
   cases hm:Fo ids' i with
   | false=>rfl
   | true =>
    rcases Rs hI2 i (BT.1 hm) with h | h
    ·rw [hc.idsFree i h] at hg;cases hg
    ·exact absurd hi h
  simp [this,hg]
 have hback:∀i g,ν i=some g->μ i=some g:=by
  intro i g hg;rw [hν] at hg;by_cases hm:Fo ids' i=true
  ·simp [hm] at hg
  ·simpa [hm] using hg
 have hlive:∀i b',At st' i b'->∃b,At st i b:=λi b' hl=>let ⟨b,h1,_⟩:=N8 hS i b' hl;⟨b,h1⟩
 have nmE_mem:∀{env:Env} {t:Nat} {d:D},lk env t=some d->∀i∈I5 d,i∈Vv env:=by
  intro env
  induction env with
  | nil=>intro t d h;simp [lk] at h
  | cons p r ih =>
   obtain ⟨s,x⟩:=p;intro t d h i hi;simp only [Vv,List.mem_append];by_cases hs:s=t
   ·subst hs;rw [Aw] at h;cases h;exact .inl hi
   ·rw [A6 _ _ hs] at h;exact .inr (ih h i hi)
 have hEx:Ext I μ st w I ν st' w :=
  {imm:=Imm.le_refl I,os:=rfl,tape:=rfl,output:=rfl,size:=Nat.le_refl _,block:=λ_ _ _=>rfl,
     fresh:=λb _ ⟨i,b',g,h1,h2,h3⟩=>let ⟨bb,q⟩:=hlive i b' h1;⟨i,bb,g,q,hback i g h2,h3⟩,old:=λ_ _ _=>rfl }
 have hc':Conc n I ν env' st' ids' a w :=
  {imm:=hc.imm
   blk:=λi b' hl=>by
    obtain ⟨b,h1,h2⟩:=N8 hS i b' hl;obtain ⟨g,hg,hr⟩:=hc.blk i b h1;obtain ⟨q1,q2⟩:=ET hl;exact ⟨g,hno i (by simp [q1]) g hg,(bN h2 hr).sub λj hj g hg=>hno j (by simp [q2 j hj]) g hg⟩
   apart:=λi b' g k hl hg hk=>by
    obtain ⟨b,h1⟩:=hlive i b' hl;exact hc.apart i b g k h1 (hback i g hg) hk
   inj:=λi j bi bj gi gj k hi hj hgi hgj hki hkj=>by
    obtain ⟨b1,h1⟩:=hlive i bi hi;obtain ⟨b2,h2⟩:=hlive j bj hj;exact hc.inj i j b1 b2 gi gj k h1 h2 (hback i gi hgi) (hback j gj hgj) hki hkj
   nodup:=HO hI1
   idsFree:=λi hi=>by rw [hν];simp [BT.2 hi]
   size:=hc.size
   env:=λt d' hl=>by
    obtain ⟨d,h1,h2⟩:=N7 hE t d' hl;exact (Qt h2 (hc.env t d h1)).sub λj hj g hg=>hno j (by simp [nmE_mem hl j hj]) g hg
   defers:=hc.defers.ext hEx }
 refine (h b cs I ν a w items hd hc').mono λe a' w' hp=>?_;refine hp.back (λi hi g hg=>hno i (by simp [hi]) g hg) ?_;exact hEx
theorem Ae (h:DGo P n F Q todo env' st' ids') (hE:XW env env') (hS:bP st st') (hI:(Jj ids'&&Rt ids (Vv env'++F0 st'++F) ids')=true):DGo P n F Q todo env st ids:=FS hE hS hI h
theorem Pp {α:Type} {c:Code} (E:α->Env) (S:α->St) (ids':List Nat) (m:α->Nat) (Inv:α->Prop)
  (step:∀x,Inv x->(∀x',m x'<m x->Inv x'->DGo P n F Q (.inLoop c::k) (E x') (S x') ids')->DGo P n F Q (.code c :: .inLoop c::k) (E x) (S x) ids') :
  ∀x,Inv x->DGo P n F Q (.inLoop c::k) (E x) (S x) ids':=by
 have:∀b x,m x<b->Inv x->DGo P n F Q (.inLoop c::k) (E x) (S x) ids':=by
  intro b
  induction b with
  | zero=>intro x h;omega
  | succ b ih=>intro x hm hx;exact RE (step x hx λx' hm' hx'=>ih x' (by omega) hx')
 intro x hx;exact this (m x+1) x (by omega) hx
theorem Am {α:Type} {c:Code} (E:α->Env) (S:α->St) (ids':List Nat) (m:α->Nat) (Inv:α->Prop) (x0:α) (h0:Inv x0) (hE:XW env (E x0)) (hS:bP st (S x0))
  (hI:(Jj ids'&&Rt ids (Vv (E x0)++F0 (S x0)++F) ids')=true)
  (step:∀x,Inv x->(∀x',m x'<m x->Inv x'->DGo P n F Q (.inLoop c::k) (E x') (S x') ids')->DGo P n F Q (.code c :: .inLoop c::k) (E x) (S x) ids') :
  DGo P n F Q (.code (.loop c)::k) env st ids :=
 Lt (FS hE hS hI (Pp E S ids' m Inv step x0 h0))
theorem Xk {t:Nat} {x:V} (hl:lk env t=some (.imm x)) (h:EM x->DGo P n F Q todo env st ids):DGo P n F Q todo env st ids :=
 λb cs I μ a w items hd hc=>h (hc.env t _ hl).immInv.ok b cs I μ a w items hd hc
theorem AS {f:FuncId} {vs:List V} {v:V} (h:Cx vs->Ak P f vs v):Ak P f vs v:=by
 intro I μ w xs hst hx;refine h (JK.2 λx hxm=>?_) I μ w xs hst hx;obtain ⟨j,hj⟩:=List.mem_iff_getElem?.1 hxm;have hlt:j<xs.toList.length:=by rw [hx.1];simpa using (List.getElem?_eq_some_iff.1 hj).1
 exact (hx.2 j _ (.imm x) (List.getElem?_eq_getElem hlt) (by simp [hj])).immInv.ok
end
end Go.Hk
namespace Go.Hk
def UO:List DI->Option Oper
 | .ops _ (o::_)::_=>some o
 | .dops _ (o::_) _::_=>some o
 | _=>none
def It (st:St):D->Option (List Nat×List (List V))
 | .nils=>some ([],[])
 | .own id _=>match lk st id with
  | some (some (.row _ _ es))=>some ([id],es)
  | _=>none
 | .clip es=>some ([],es)
 | _=>none
def Mv:D->Option (List (List V))
 | .imm (.sl es)=>some es
 | .nils=>some []
 | _=>none
def lP (sz bytes:Nat) (base:D) (es es2:List (List V)):Prop :=
 (∀c∈es2,c.length=sz)/\es.length+es2.length<=maxLen/\(es.length+es2.length)*bytes<=140737488355328 /\
 match base with
 | .clip _=>(∀c∈es,c.length=sz)/\es2≠[]
 | .own _ _=>True
 | _=>True
section
variable {P:Program} {n:Nat} {F:List Nat} {Q:DQ} {tt:TT} {env env':Env} {st st':St} {ids ids':List Nat} {k todo todo':List DI} {I:Imm} {μ:Mu} {w:World} {Pn:V->Prop}
theorem RepV.oneV {v:Value} {x:V} (h:RepV I v x) (h1:v.oneCell'=true):V.one x=true:=by
 cases h <;> first | rfl | simp [Value.oneCell'] at h1
theorem Mx {v:Value} {es:List (List V)} {sz:Nat} (hI:I.ok w) (h:RepV I v (.sl es)) (hs:∀c∈es,c.length=sz) (hp:0<sz) :
  ((∃ad,v = .slice ad 0 0)/\es=[])\/∃b o c news,v = .slice (some ⟨b,o,none⟩) es.length c/\es.length<=c/\c<=maxLen/\news.length=es.length*sz/\(∀j u,news[j]?=some u->w.cell? ((⟨b,o,none⟩:Addr).add j)=some u) /\
   (∀u∈news,u.oneCell'=true)/\RepVL I news es.flatten/\(∀e∈es,∀x∈e,V.one x=true):=by
 cases h with
 | slnil=>exact .inl ⟨⟨_,rfl⟩,rfl⟩
 | sl0 ad=>exact .inl ⟨⟨_,rfl⟩,rfl⟩
 | sl b o len cap sz' _ vs hl hc hm hsz hcell hrep =>
  subst hl;refine .inr ⟨b,o,cap,(List.range (es.length*sz)).map λq=>vs (q / sz) (q % sz),rfl,hc,hm,by simp,?_,?_,?_,?_⟩
  all_goals
   have hget:∀j,j<es.length*sz->∃e x,es[j / sz]?=some e/\e[j % sz]?=some x/\e.length=sz/\sz'=sz:=by
    intro j hj;have h1:j / sz<es.length:=Nat.div_lt_of_lt_mul (by rw [Nat.mul_comm];exact hj);have h2:j % sz<sz:=Nat.mod_lt _ hp;have h3:=hs es[j / sz] (List.getElem_mem _);have h4:=hsz es[j / sz] (List.getElem_mem _);exact ⟨es[j / sz],(es[j / sz])[j % sz],List.getElem?_eq_getElem h1,List.getElem?_eq_getElem (by omega),h3,by omega⟩
  ·intro j u hu;obtain ⟨hlt,rfl⟩:=Gd hu;obtain ⟨e,x,h1,h2,_,rfl⟩:=hget j hlt;have:=Imm.cell_world hI (hcell _ _ _ _ h1 h2).1;rw [D1];rw [show o+j=o+j / sz'*sz'+j % sz' by rw [Nat.add_assoc,Nat.mul_comm,Nat.div_add_mod]];exact this
  ·intro u hu;obtain ⟨j,hj⟩:=List.mem_iff_getElem?.1 hu;obtain ⟨hlt,rfl⟩:=Gd hj;obtain ⟨e,x,h1,h2,_,rfl⟩:=hget j hlt;exact (hcell _ _ _ _ h1 h2).2
  ·refine ⟨by rw [AV hs];simp,λj u x hu hx=>?_⟩;obtain ⟨hlt,rfl⟩:=Gd hu;obtain ⟨e,y,h1,h2,_,rfl⟩:=hget j hlt;have h3:=C5 hs _ _ _ _ h1 h2;rw [Nat.mul_comm,Nat.div_add_mod,hx] at h3;cases h3;exact hrep _ _ _ _ h1 h2
  ·intro e he x hx;obtain ⟨i,hi⟩:=List.mem_iff_getElem?.1 he;obtain ⟨j,hj⟩:=List.mem_iff_getElem?.1 hx;exact (hrep _ _ _ _ hi hj).oneV (hcell _ _ _ _ hi hj).2
theorem StRep.renew {id':Nat} (hst:StRep I μ st (id'::ids) w) {rd:List Nat} {v':Value} {blk':Blk} {w':World} {row:Option Nat} (hg:w.grownBy w' row)
  (hrow:∀b,row=some b->∃id blk g,id∈rd/\At st id blk/\μ id=some g/\Dl g b) (hnew:∀b,Dl v' b->b<w'.heap.size/\(w.heap.size<=b\/∃id blk g,id∈rd/\At st id blk/\μ id=some g/\Dl g b))
  (hb:∀μ',BlkRep I μ' w' v' blk') :
  ∃μ',μ' id'=some v'/\μ.le μ'/\StRep I μ' ((id',some blk')::Cy rd++st) ids w'/\Ext I μ st w I μ' ((id',some blk')::Cy rd++st) w':=by
 have hid:μ id'=none:=hst.idsFree id' (by simp);have hle:μ.le (λi=>if i=id' then some v' else μ i):=λi v h=>by
  have:i≠id':=λe=>by rw [e,hid] at h;cases h
  simp [this,h]
 have hrowI:∀b,row=some b->I b=none:=λb hr=>by
  obtain ⟨id,blk,g,_,h2,h3,h4⟩:=hrow b hr;exact (hst.apart id blk g b h2 h3 h4).1
 have hlive:∀i b,At ((id',some blk')::Cy rd++st) i b->(i=id'/\b=blk')\/(i≠id'/\i∉rd/\At st i b):=by
  intro i b h;rcases A7.1 h with h | ⟨h1,h2⟩
  ·exact .inl h
  ·obtain ⟨h3,h4⟩:=LX h2;exact .inr ⟨h1,h3,h4⟩
 have hother:∀i g,i≠id'->(if i=id' then some v' else μ i)=some g->μ i=some g:=λi g hne h=>by rwa [if_neg hne] at h
 have hkeep:∀i b g k,i∉rd->At st i b->μ i=some g->Dl g k->w'.heap[k]?=w.heap[k]?:=by
  intro i b g k h1 h2 h3 h4;refine hg.block k (hst.apart i b g k h2 h3 h4).2 λhk=>?_;obtain ⟨id,blk,g',q1,q2,q3,q4⟩:=hrow k hk.symm;have:=hst.inj i id b blk g g' k h2 q2 h3 q3 h4 q4;subst this;exact h1 q1
 have hclash:∀i b g k,i∉rd->At st i b->μ i=some g->Dl g k->¬Dl v' k:=by
  intro i b g k h1 h2 h3 h4 h5;rcases (hnew k h5).2 with h | ⟨id,blk,g',q1,q2,q3,q4⟩
  ·have:=(hst.apart i b g k h2 h3 h4).2;omega
  ·have:=hst.inj i id b blk g g' k h2 q2 h3 q3 h4 q4;subst this;exact h1 q1
 refine ⟨λi=>if i=id' then some v' else μ i,by simp,hle,?_,?_⟩
 ·refine { imm:=λb o h=>?_,blk:=λi b hl=>?_,apart:=λi b g k hl hgi hk=>?_,inj:=λi j bi bj gi gj k hi hj hgi hgj hki hkj=>?_,nodup:=(List.nodup_cons.1 hst.nodup).2,idsFree:=λi hi=>?_ }
  ·have h1:=hst.imm b o h;rw [hg.block b (BU h1) (λhk=>by rw [hrowI b hk.symm] at h;cases h)];exact h1
  ·rcases hlive i b hl with ⟨rfl,rfl⟩ | ⟨h1,h2,h3⟩
   ·exact ⟨v',by simp,hb _⟩
   ·obtain ⟨g,hgi,hr⟩:=hst.blk i b h3;exact ⟨g,by simp [h1,hgi],(hr.mono (Imm.le_refl I) hle).world λk hk=>hkeep i b g k h2 h3 hgi hk⟩
  ·rcases hlive i b hl with ⟨rfl,rfl⟩ | ⟨h1,h2,h3⟩
   ·simp at hgi;subst hgi;obtain ⟨h1,h2⟩:=hnew k hk;refine ⟨?_,h1⟩;rcases h2 with h2 | ⟨id,blk,g',q1,q2,q3,q4⟩
    ·cases h:I k with
     | none=>rfl
     | some o=>have:=BU (hst.imm _ _ h);omega
    ·exact (hst.apart id blk g' k q2 q3 q4).1
   ·obtain ⟨q1,q2⟩:=hst.apart i b g k h3 (hother i g h1 hgi) hk;exact ⟨q1,Nat.lt_of_lt_of_le q2 hg.size⟩
  ·rcases hlive i bi hi with ⟨rfl,rfl⟩ | ⟨h1,h2,h3⟩ <;> rcases hlive j bj hj with ⟨rfl,rfl⟩ | ⟨p1,p2,p3⟩
   ·rfl
   ·simp at hgi;subst hgi;exact absurd hki (hclash j bj gj k p2 p3 (hother j gj p1 hgj) hkj)
   ·simp at hgj;subst hgj;exact absurd hkj (hclash i bi gi k h2 h3 (hother i gi h1 hgi) hki)
   ·exact hst.inj i j bi bj gi gj k h3 p3 (hother i gi h1 hgi) (hother j gj p1 hgj) hki hkj
  ·have hne:i≠id':=λe=>(List.nodup_cons.1 hst.nodup).1 (e ▸ hi);simp [hne,hst.idsFree i (by simp [hi])]
 ·refine { imm:=Imm.le_refl I,os:=hg.os,tape:=hg.tape,output:=hg.output,size:=hg.size,block:=λb hb ho=>hg.block b hb (λhk=>?_),fresh:=λb hb ho=>?_,old:=λ_ _ _=>rfl }
  ·obtain ⟨id,blk,g',_,q2,q3,q4⟩:=hrow b hk.symm;exact ho ⟨id,blk,g',q2,q3,q4⟩
  ·obtain ⟨i,bi,g,hl,hgi,hk⟩:=ho;rcases hlive i bi hl with ⟨rfl,rfl⟩ | ⟨h1,h2,h3⟩
   ·simp at hgi;subst hgi;rcases (hnew b hk).2 with h | ⟨id,blk,g',_,q2,q3,q4⟩
    ·omega
    ·exact ⟨id,blk,g',q2,q3,q4⟩
   ·exact ⟨i,bi,g,h3,hother i g h1 hgi,hk⟩
theorem iZ {v:Value} {b:Nat} {t:TypeId} {sz k:Nat} {xs:List Value} (h:w.ownsRow 0 t sz v k xs) (hb:Dl v b):v.ownBlock=some b:=by
 rcases h.2 with ⟨rfl,_⟩ | ⟨g,cap,cur,rfl,_⟩
 ·simp [Dl] at hb
 ·simpa [Dl,Value.ownBlock] using hb
theorem iX {v:Value} {b:Nat} (hb:v.ownBlock=some b):Dl v b:=by
 unfold Value.ownBlock at hb
 split at hb
 ·cases hb;rfl
 ·cases hb
theorem OK {v:Value} {t:TypeId} {sz k:Nat} {xs:List Value} (h:w.ownsRow 0 t sz v k xs):∃a cap,v = .slice a k cap:=by
 rcases h.2 with ⟨rfl,rfl⟩ | ⟨g,cap,cur,rfl,_⟩
 ·exact ⟨none,0,rfl⟩
 ·exact ⟨_,cap,rfl⟩
theorem dE (htt:TTok P tt) {all:List Oper} {o:Oper} {x y:Operand} {t e:TypeId} {ti i:TyI} {dx dy:D} {rd:List Nat} {id':Nat} {es es2:List (List V)} (hg:o.guard=none)
  (ho:o.op = .call { callee:=.builtin .append,args:=⟨[x,y]⟩,argTypes:=⟨[t,t]⟩ }) (ht:lk tt t=some ti) (hsh:ti.sh = .sl e) (hi:lk tt e=some i) (hz:(Nat.beq i.zero.length i.size&&Nat.blt 0 i.size)=true)
  (hx:D2 env x=some dx) (hb:It st dx=some (rd,es)) (hrow:∀id,rd=[id]->lk st id=some (some (.row e i.size es))) (hy:D2 env y=some dy) (hs:Mv dy=some es2) (hok:lP i.size i.bytes dx es es2) :
  LD P Pn all o env st rd [id'] ((id',some (.row e i.size (es++es2)))::Cy rd) (.own id' (es++es2).length):=by
 intro I μ st1 ids1 a w hag hst hon;refine ⟨λ_=>?_,λhw=>by rw [AF hg] at hw;cases hw⟩;have hop:=Bh hon;rw [ho] at hop;have rx:=hop x (by simp [Op.operands,Call.operands]) _ hx;have ry:=hop y (by simp [Op.operands,Call.operands]) _ hy;obtain ⟨inf,z,z1,z2,z3,z4,z5,z6⟩:=(htt e i hi).info;have hu:P.underlying t=some (.slice e):=by have:=htt.sh ht;rwa [hsh] at this
 simp only [Bool.and_eq_true,Nat.blt_eq] at hz;have hzl:z.cells.size=i.size:=by
  have:=(z5 I μ).1;rw [Nat.eq_of_beq_eq_true hz.1] at this;simpa using this
 obtain ⟨k1,k2,k3,k4⟩:=hok;have hyv:RepV I (a.eval y) (.sl es2):=by
  cases dy <;> simp only [Mv,reduceCtorEq,Option.some.injEq] at hs
  ·rename_i vx;cases vx <;> simp only [Mv,reduceCtorEq,Option.some.injEq] at hs;subst hs;exact ry.immInv
  ·subst hs;have:=ry;generalize a.eval y=v at this;cases this;exact .slnil
 have hrun:∀{u w'},(Builtin.append_ #[t,t] o.type #[a.eval x,a.eval y]).run P w = .ok u w'->(execOp a.eval o).run P w = .ok (.value u) w':=by
  intro u w' h;simp only [execOp,ho,resolve,invoke,builtin,Sem.run_bind,Sem.run_pure,Result.andThen_ok,List.map_toArray,List.map_cons,List.map_nil,h]
 have fin:∀{u:Value} {w':World} {xs:List Value} {row:Option Nat},(Builtin.append_ #[t,t] o.type #[a.eval x,a.eval y]).run P w = .ok u w'->w'.ownsRow 0 e i.size u (es.length+es2.length) xs->w.grownBy w' row ->
   (∀b,row=some b->∃id blk g,id∈rd/\At st1 id blk/\μ id=some g/\Dl g b)->(∀b,u.ownBlock=some b->row=some b\/w.heap.size<=b)->RepVL I xs (es++es2).flatten->(∀c∈es++es2,c.length=i.size) ->
   (∀c∈es++es2,∀x∈c,V.one x=true) ->
   valX P ((execOp a.eval o).run P w) (λv w'=>∃I' μ',StRep I' μ' ((id',some (.row e i.size (es++es2)))::Cy rd++st1) ids1 w'/\RepD I' μ' v (.own id' (es++es2).length)/\μ.le μ'/\Ext I μ st1 w I' μ' ((id',some (.row e i.size (es++es2)))::Cy rd++st1) w') (Ld Pn I μ st1 w):=by
  intro u w' xs row h1 h2 h3 h4 h5 h6 h7 h8;rw [hrun h1];obtain ⟨μ',q1,q2,q3,q4⟩:=StRep.renew (id':=id') (ids:=ids1) (rd:=rd) (v':=u) (blk':=.row e i.size (es++es2)) hst h3 h4 (λb hb=>by
   have hb':=iZ h2 hb;refine ⟨(h2.lt b hb').2,?_⟩;rcases h5 b hb' with h | h
   ·exact .inr (h4 b h)
   ·exact .inl h) (λμ'=>⟨xs,by rw [List.length_append];exact h2,h6,h7,h8,hz.2⟩)
  refine ⟨I,μ',q3,?_,q2,q4⟩;obtain ⟨ad,cap,rfl⟩:=OK h2;rw [List.length_append];exact .own _ _ _ _ q1
 rcases Mx hst.imm hyv k1 hz.2 with ⟨⟨ady,ey⟩,rfl⟩ | ⟨yb,yo,yc,news,ey,_,_,n1,n2,n3,n4,n5⟩
 ·-- nothing
  have hsame:∀(v:Value),a.eval x=v->(∃ad len cap,v = .slice ad len cap/\len<=cap)->(Builtin.append_ #[t,t] o.type #[a.eval x,a.eval y]).run P w = .ok v w:=by
   rintro v hv ⟨ad,len,cap,rfl,hle⟩;rw [hv,ey];cases ad <;> cases ady <;> simp [Builtin.append_,run_underlying hu,sizeOf,typeInfo,z1,Builtin.lenOf,hle,Builtin.firstCells,loadCells,loadCellsFrom,storeCells]
  have hgrow:w.grownBy w none:=⟨rfl,rfl,rfl,Nat.le_refl _,λ_ _ _=>rfl⟩
  cases dx with
  | nils =>
   simp only [It,Option.some.injEq,Prod.mk.injEq] at hb;obtain ⟨rfl,rfl⟩:=hb;have hv:a.eval x = .slice none 0 0:=by
    generalize a.eval x=v at rx;cases rx;rfl
   exact fin (hsame _ hv ⟨_,_,_,rfl,Nat.le_refl _⟩) (World.ownsRow_nil w 0 e i.size) hgrow (λb h=>by cases h) (λb h=>by simp [Value.ownBlock] at h) (xs:=[]) .nil (by simp) (by simp)
  | own id nn =>
   simp only [It] at hb
   split at hb
   ·rename_i bt sz es0 hl;cases hb;have hl':=hrow id rfl;have hl1:At st1 id (.row e i.size es):=by unfold At;rw [hag id (by simp)];exact hl'
    obtain ⟨g,hg1,xs,r1,r2,r3,r4,_⟩:=hst.blk id _ hl1;have hv:a.eval x=g:=by
     generalize a.eval x=v at rx;cases rx with
     | own _ _ ad cap hm=>rw [hm] at hg1;cases hg1;rfl
    have hr0:∃ad len cap,g = .slice ad len cap/\len<=cap:=by
     rcases r1.2 with ⟨rfl,h⟩ | ⟨gb,cap,cur,rfl,_,_,h,_⟩
     ·exact ⟨_,_,_,rfl,Nat.le_refl _⟩
     ·exact ⟨_,_,_,rfl,h⟩
    exact fin (row:=g.ownBlock) (hsame g hv hr0) (by simpa using r1) ⟨rfl,rfl,rfl,Nat.le_refl _,λ_ _ _=>rfl⟩ (λb h=>⟨id,_,g,by simp,hl1,hg1,iX h⟩) (λb h=>.inl h) (xs:=xs) (by simpa using r2) (by simpa using r3) (by simpa using r4)
   ·cases hb
  | clip es'=>exact absurd rfl k4.2
  | _=>simp [It] at hb
 ·have hfl:∀{xs:List Value},RepVL I xs es.flatten->RepVL I (xs++news) (es++es2).flatten:=λh=>by rw [List.flatten_append];exact h.append n4
  have hnil:a.eval x = .slice none 0 0->es=[] ->
    valX P ((execOp a.eval o).run P w) (λv w'=>∃I' μ',StRep I' μ' ((id',some (.row e i.size (es++es2)))::Cy rd++st1) ids1 w'/\RepD I' μ' v (.own id' (es++es2).length)/\μ.le μ'/\Ext I μ st1 w I' μ' ((id',some (.row e i.size (es++es2)))::Cy rd++st1) w') (Ld Pn I μ st1 w):=λhv he=>by
   subst he;obtain ⟨v',w',q1,q2,q3,_⟩:=run_append_own (P:=P) w w.heap.size t o.type e inf z i.size i.bytes hu z1 z4 z2 z3 hzl hz.2 (.slice none 0 0) 0 [] (World.ownsRow_nil w _ e i.size) ⟨yb,yo,none⟩ es2.length yc news n1 n2 n3
    (by simpa using k2) (by simpa using k3) (Nat.le_refl _)
   have q2':w'.ownsRow 0 e i.size v' (0+es2.length) news:=⟨q2.1,q2.2.imp id λ⟨g,cap,cur,a1,_,a2⟩=>⟨g,cap,cur,a1,Nat.zero_le _,a2⟩⟩
   exact fin (row:=none) (by rw [hv,ey];exact q1) q2' ⟨q3.os,q3.tape,q3.output,q3.size,λb hb _=>q3.block b hb (by simp [Value.ownBlock])⟩ (λb h=>by cases h) (λb h=>.inr (q2.lt b h).1) (hfl .nil) (by simpa using k1) (by simpa using n5)
  have hgrow:∀(ad:Addr) (cap:Nat) (xs:List Value),a.eval x = .slice (some ad) es.length cap->xs.length=es.length*i.size->(∀j u,xs[j]?=some u->w.cell? (ad.add j)=some u)->cap<es.length+es2.length->RepVL I xs es.flatten->(∀c∈es,c.length=i.size)->(∀c∈es,∀x∈c,V.one x=true) ->
    valX P ((execOp a.eval o).run P w) (λv w'=>∃I' μ',StRep I' μ' ((id',some (.row e i.size (es++es2)))::Cy rd++st1) ids1 w'/\RepD I' μ' v (.own id' (es++es2).length)/\μ.le μ'/\Ext I μ st1 w I' μ' ((id',some (.row e i.size (es++es2)))::Cy rd++st1) w') (Ld Pn I μ st1 w):=λad cap xs hv hl hcell hlt hr hsz h1=>by
   have hsmall:es.length+es2.length<=9223372036854775807:=by simp only [maxLen] at k2;omega
   have hr':=run_append_grow (P:=P) w t o.type e inf z hu z1 z4 ad es.length cap xs (by rw [z2];exact hl) hcell ⟨yb,yo,none⟩ es2.length yc news (by rw [z2];exact n1) n2 hlt (by omega) (by rw [z3];exact growslice_fits hlt k3);have hge:=grownCap_ge w (es.length+es2.length) cap e;have hcm:grownCap w (es.length+es2.length) cap e<=maxLen:=grownCap_le_maxLen w _ cap e k2;have hlen:(xs++news).length=(es.length+es2.length)*i.size:=by rw [List.length_append,hl,n1,Nat.add_mul]
   refine fin (row:=none) (by rw [hv,ey];exact hr') (xs:=xs++news) ⟨hlen,.inr ⟨w.heap.size,_,_,rfl,Nat.zero_le _,Ej w.drew _,hge,hcm,?_,?_⟩⟩ ⟨rfl,rfl,rfl,by simp,λk hk _=>GN w.drew _ hk⟩ (λb h=>by cases h)
    (λb h=>by simp [Value.ownBlock] at h;exact .inr (by omega)) (hfl hr) (λc hc=>(List.mem_append.1 hc).elim (hsz c) (k1 c)) (λc hc=>(List.mem_append.1 hc).elim (h1 c) (n5 c))
   ·simp only [Array.size_append,List.size_toArray,size_zeroCells,hzl,hl,n1,<- Nat.add_mul];congr 1;omega
   ·simp only [Array.toList_append,List.append_assoc];rw [<- List.append_assoc,<- hlen];exact List.take_left
  cases dx with
  | nils =>
   simp only [It,Option.some.injEq,Prod.mk.injEq] at hb;obtain ⟨rfl,rfl⟩:=hb;have hv:a.eval x = .slice none 0 0:=by
    generalize a.eval x=v at rx;cases rx;rfl
   exact hnil hv rfl
  | own id nn =>
   simp only [It] at hb
   split at hb
   ·rename_i bt sz es0 hl;cases hb;have hl':=hrow id rfl;have hl1:At st1 id (.row e i.size es):=by unfold At;rw [hag id (by simp)];exact hl'
    obtain ⟨g,hg1,xs,r1,r2,r3,r4,_⟩:=hst.blk id _ hl1;have hv:a.eval x=g:=by
     generalize a.eval x=v at rx;cases rx with
     | own _ _ ad cap hm=>rw [hm] at hg1;cases hg1;rfl
    rcases r1.2 with ⟨eg,h⟩ | ⟨gb,cap,cur,eg,_,hheap,hle,hcm,hcs,htake⟩
    ·exact hnil (hv.trans eg) (List.eq_nil_of_length_eq_zero h)
    ·by_cases hroom:es.length+es2.length<=cap
     ·have hfit:es.length*i.size+news.length<=cur.size:=by rw [n1,hcs,<- Nat.add_mul];exact Nat.mul_le_mul_right _ hroom
      have hr:=run_append_room (P:=P) w t o.type e inf hu z1 gb es.length cap cur hheap ⟨yb,yo,none⟩ es2.length yc news (by rw [z2];exact n1) n2 n3 hroom (by rw [z2];exact hfit);rw [z2] at hr;have hlen:(xs++news).length=(es.length+es2.length)*i.size:=by rw [List.length_append,r1.1,n1,Nat.add_mul]
      refine fin (row:=some gb) (by rw [hv,eg,ey];exact hr) (xs:=xs++news) ⟨hlen,.inr ⟨gb,cap,_,rfl,Nat.zero_le _,setRow_heap w gb cur _ e _ hheap,hroom,hcm,?_,?_⟩⟩ ⟨rfl,rfl,rfl,by simp,λk _ hk=>setRow_other w gb k _ (λe=>hk (by simp [e]))⟩
       (λb h=>by cases h;exact ⟨id,_,g,by simp,hl1,hg1,by rw [eg];rfl⟩) (λb h=>by simp [Value.ownBlock] at h;exact .inl (by rw [h])) (hfl r2) (λc hc=>(List.mem_append.1 hc).elim (r3 c) (k1 c)) (λc hc=>(List.mem_append.1 hc).elim (r4 c) (n5 c))
      ·simp only [List.size_toArray,List.length_append,List.length_take,List.length_drop,Array.length_toList];omega
      ·rw [htake,<- hlen];exact List.take_left
     ·exact hgrow ⟨gb,0,none⟩ cap xs (hv.trans eg) r1.1 (by rw [eg] at r1;exact r1.cells (g:=gb) rfl) (by omega) r2 r3 r4
   ·cases hb
  | clip es' =>
   simp only [It,Option.some.injEq,Prod.mk.injEq] at hb;obtain ⟨rfl,rfl⟩:=hb;have rx':∃ad len,a.eval x = .slice ad len len/\RepV I (.slice ad len len) (.sl es'):=by
    generalize a.eval x=v at rx;cases rx with
    | clip ad len _ h=>exact ⟨ad,len,rfl,h⟩
   obtain ⟨ad,len,hv,hr⟩:=rx';rcases Mx hst.imm hr k4.1 hz.2 with ⟨⟨adx,ex⟩,e0⟩ | ⟨xb,xo,xc,xs,ex,_,_,p1,p2,p3,p4,p5⟩
   ·cases adx with
    | none=>exact hnil (hv.trans ex) e0
    | some adx =>
     have hpos:0<es2.length:=List.length_pos_iff.2 k4.2;subst e0;exact hgrow adx 0 [] (hv.trans ex) (by simp) (λj u h=>by simp at h) (by simp;omega) .nil (by simp) (by simp)
   ·cases ex;have hpos:0<es2.length:=List.length_pos_iff.2 k4.2;exact hgrow ⟨xb,xo,none⟩ _ xs hv p1 p2 (by omega) p4 k4.1 p5
  | _=>simp [It] at hb
end
end Go.Hk
namespace Go.Hk
def Lb (cx:Prop) (env:Env) (x:Operand):Option (D×List Prop):=match D2 env x with
 | some (.guard c w d)=>some (d,[cx->c=w])
 | some d=>some (d,[])
 | none=>none
structure sL where
 dx:D
 es:List (List V)
 es2:List (List V)
 sz:Nat
 bytes:Nat
 e:TypeId
 rd:List Nat
 id':Nat
 ids':List Nat
 dst:Option Nat
 todo:List DI
def oX (st:St) (e:TypeId) (sz:Nat):List Nat->Bool
 | []=>true
 | [id]=>match lk st id with
  | some (some (.row e' sz' _))=>Nat.beq e e'&&Nat.beq sz sz'
  | _=>false
 | _=>false
def rL (tt:TT) (n:Nat) (env:Env) (st:St) (ids:List Nat) (todo:List DI):Option sL :=
 match UO todo,ids with
 | some o,id'::ids'=>match o.guard,o.op with
  | none,.call { callee:=.builtin .append,args:=⟨[x,y]⟩,argTypes:=⟨[t,t']⟩ }=>match Nat.beq t t',lk tt t,D2 env x,D2 env y with
   | true,some { sh:=.sl e,.. },some dx,some dy=>match lk tt e,It st dx,Mv dy with
    | some i,some (rd,es),some es2=>match Nat.beq i.zero.length i.size&&Nat.blt 0 i.size,oX st e i.size rd,BJ n o.dst,Bk todo (rd,id'::rd) with
     | true,true,true,some (_,_,todo')=>some ⟨dx,es,es2,i.size,i.bytes,e,rd,id',ids',o.dst,todo'⟩
     | _,_,_,_=>none
    | _,_,_=>none
   | _,_,_,_=>none
  | _,_=>none
 | _,_=>none
section
variable {P:Program} {n:Nat} {F:List Nat} {Q:DQ} {tt:TT} {env env':Env} {st st':St} {ids ids':List Nat} {k todo todo':List DI} {I:Imm} {μ:Mu} {w:World} {a:Act} {Pn:V->Prop} {d:D} {cx:Prop} {ob:List Prop}
theorem CE {x:Operand} {v:Value} (h:Lb cx env x=some (d,ob)) (hob:AA ob) (hc:cx) (hv:∀d,D2 env x=some d->RepD I μ v d):RepD I μ v d:=by
 unfold Lb at h
 split at h
 ·cases h;rename_i hx;exact (hv _ hx).guardInv (hob.1 hc)
 ·cases h;rename_i hx;exact hv _ hx
 ·cases h
theorem Ky:∀l:List Nat,(Cy l).map (·.1)=l
 | []=>rfl
 | x::r=>by simp [Cy,Ky r]
theorem ER {f:List Nat×List Nat} {o o':Oper} {all:List Oper} (h:UO todo=some o) (h':Bk todo f=some (all,o',todo')):o'=o:=by
 unfold UO at h
 split at h
 ·simp [Bk] at h';cases h;exact h'.2.1.symm
 ·simp [Bk] at h';cases h;exact h'.2.1.symm
 ·cases h
theorem Cm (htt:TTok P tt) {c:sL} (h:rL tt n env st ids todo=some c) (hok:lP c.sz c.bytes c.dx c.es c.es2)
  (hk:G P n F Q c.todo (BE c.dst (.own c.id' (c.es++c.es2).length) env) ((c.id',some (.row c.e c.sz (c.es++c.es2)))::Cy c.rd++st) c.ids'):G P n F Q todo env st ids:=by
 unfold rL at h
 split at h
 ·rename_i o id' ids' ho
  split at h
  ·rename_i x y t t' hg hop
   split at h
   ·rename_i e _ _ _ _ dx dy htt' ht hx hy;have:=Nat.eq_of_beq_eq_true htt';subst this
    split at h
    ·rename_i i rd es es2 hi hb hs
     split at h
     ·rename_i all o' todo' hz hr hd h1;cases h;have ho':o'=o:=ER ho h1;subst ho';refine BC (fr:=[id']) (wr:=(id',some (.row e i.size (es++es2)))::Cy rd) (rd:=rd) (by rw [List.map_cons,Ky];exact h1) ?_ hd (λc hc=>by rw [hop] at hc;cases hc) hk;refine dE htt hg hop ht rfl hi hz hx hb (λid hid=>?_) hy hs hok;subst hid;simp only [oX] at hr
      split at hr
      ·rename_i e' sz' es' hl;simp only [Bool.and_eq_true] at hr;rw [Nat.eq_of_beq_eq_true hr.1,Nat.eq_of_beq_eq_true hr.2,hl];have:es'=es:=by
        cases dx <;> simp only [It,reduceCtorEq,Option.some.injEq,Prod.mk.injEq] at hb
        ·cases hb.1
        ·split at hb
         ·rename_i hl2;simp only [Option.some.injEq,Prod.mk.injEq,List.cons.injEq,and_true] at hb;obtain ⟨e1,e2⟩:=hb;subst e1;rw [hl2] at hl;cases hl;exact e2
         ·cases hb
        ·cases hb.1
       rw [this]
      ·cases hr
     ·cases h
    ·cases h
   ·cases h
  ·cases h
 ·cases h
theorem CT {all:List Oper} {o:Oper} {rd:List Nat} {g:Option (Bool×Bool)} (hg:Ct all env o=some g)
  (key:∀I μ st1 ids1 a w,Agree rd st st1->StRep I μ st1 ids1 w->D5 I μ env a o.op->An g ->
   valX P ((execOp a.eval o).run P w) (λu w'=>∃I' μ',StRep I' μ' st1 ids1 w'/\RepD I' μ' u d/\μ.le μ'/\Ext I μ st1 w I' μ' st1 w') (Ld Pn I μ st1 w)) :
  LD P Pn all o env st rd [] [] (gD g d):=by
 intro I μ st1 ids1 a w hag hst hon;have hwant:=GO hg hon;refine ⟨λhw=>?_,λhw=>⟨rfl,rfl,?_⟩⟩
 ·have hcx:=hwant.1 hw;refine (key I μ st1 ids1 a w hag hst (Bh hon) hcx).mono (λv w' ⟨I',μ',q1,q2,q3,q4⟩=>⟨I',μ',q1,?_,q3,q4⟩) (λ_ _ h=>h);cases g with
  | none=>exact q2
  | some p=>exact .guard _ _ _ _ (λ_=>q2) (λhn=>absurd hcx hn)
 ·cases g with
  | none=>rw [hwant.2 trivial] at hw;cases hw
  | some p=>exact .guard _ _ _ _ (λhc=>by rw [hwant.2 hc] at hw;cases hw) (λ_=>rfl)
structure PIdx where
 es:List (List V)
 i:Int
 sz:Nat
 e:TypeId
 g:Option (Bool×Bool)
 ob:List Prop
 dst:Option Nat
 todo:List DI
def P7 (tt:TT) (n:Nat) (env:Env) (todo:List DI):Option PIdx :=
 match Bk todo ([],[]) with
 | some (all,o,todo')=>match o.op,Ct all env o with
  | .indexAddr t x i,some g=>match lk tt t,Lb (An g) env x,Lb (An g) env i with
   | some { sh:=.sl e,.. },some (.imm (.sl es),o1),some (.imm (.int _ i),o2)=>match lk tt e,BJ n o.dst with
    | some ti,true=>match o.dst with
     | some t=>some ⟨es,i,ti.size,e,g,Iv o1 o2,some t,todo'⟩
     | none=>none
    | _,_=>none
   | _,_,_=>none
  | _,_=>none
 | none=>none
theorem NY {t e:TypeId} {i:TyI} (hu:P.underlying t=some (.slice e)) (hi:TyOk P e i) {b off len cap:Nat} {kk:IntKind} {m:Int} (h0:0<=m) (hm:m<len) :
  (Instr.indexAt t (.slice (some ⟨b,off,none⟩) len cap) (.int kk m)).run P w = .ok (.pointer (some ⟨b,off+m.toNat*i.size,none⟩)) w:=by
 simp only [Instr.indexAt,Sem.run_bind,asIntOf,Sem.run_pure,Result.andThen_ok,run_underlying hu];simp [h0,hm,hi.sizeOf w,D1]
theorem Gg (htt:TTok P tt) {es:List (List V)} {m:Int} {sz:Nat} {e:TypeId} {g:Option (Bool×Bool)} {ob:List Prop} {t:Nat} {todo':List DI} {c:List V} (h:P7 tt n env todo=some ⟨es,m,sz,e,g,ob,some t,todo'⟩)
  (hc:An g->0<=m/\es[m.toNat]?=some c/\c.length=sz) (hob:AA ob) (hk:G P n F Q todo' ((t,gD g (.ip e c 0))::env) st ids):G P n F Q todo env st ids:=by
 unfold P7 at h
 split at h
 ·rename_i all o todo' h1
  split at h
  ·rename_i t x i g hop hg
   split at h
   ·rename_i e _ _ _ _ es o1 kk m o2 ht hx hi
    split at h
    ·rename_i ti hti hd
     split at h
     ·rename_i t' hdst;cases h;have hk:G P n F Q todo' (BE o.dst (gD g (.ip e c 0)) env) st ids:=by rw [hdst];exact hk
      refine BC (fr:=[]) (wr:=[]) (rd:=[]) h1 (CT hg λI μ st1 ids1 a w _ hst hops hcx=>?_) hd (λc hc=>by rw [hop] at hc;cases hc) hk;rw [hop] at hops;obtain ⟨ho1,ho2⟩:=Bo hob;have rx:=(CE hx ho1 hcx (hops x (by simp [Op.operands]))).immInv;have ri:=(CE hi ho2 hcx (hops i (by simp [Op.operands]))).immInv.intInv;obtain ⟨c0,c1,c2⟩:=hc hcx;have hu:P.underlying t=some (.slice e):=htt.sh ht;have hlt:=(List.getElem?_eq_some_iff.1 c1).1;simp only [execOp,hop,ri];generalize hv:a.eval x=v at rx;cases rx with
      | slnil=>simp at hlt
      | sl0=>simp at hlt
      | sl b off len cap sz _ vs hl hcap hm hsz hcell hrep =>
       have hs:sz=ti.size:=by rw [<- hsz c (List.mem_of_getElem? c1),c2]
       subst hs;have hr:=NY (w:=w) hu (htt e ti hti) (b:=b) (off:=off) (len:=len) (cap:=cap) (kk:=kk) c0 (by omega);have hrun:(do pure (.value (<- Instr.indexAt t (.slice (some ⟨b,off,none⟩) len cap) (.int kk m))):Sem Next).run P w = .ok (.value (.pointer (some ⟨b,off+m.toNat*ti.size,none⟩))) w:=A4 hr;rw [hrun];refine ⟨I,μ,hst,?_,Mu.le_refl μ,Ext.refl _ _ _ _⟩;have:=RepD.ip (I:=I) (μ:=μ) b (off+m.toNat*ti.size) e c 0 (vs m.toNat) (λj x hj=>hcell m.toNat c j x c1 hj) (λj x hj=>hrep m.toNat c j x c1 hj);simpa using this
     ·cases h
    ·cases h
   ·cases h
  ·cases h
 ·cases h
end
end Go.Hk
namespace Go.Hk
def PH:List Value->Option (List D)
 | []=>some []
 | v::r=>match ZP v,v.oneCell',PH r with
  | some d,true,some ds=>some (d::ds)
  | _,_,_=>none
def rE (P:Program):TypeDesc->Option Sh
 | .bool=>some .bool
 | .int k=>some (.int k)
 | .string=>some .str
 | .pointer e=>some (.ptr e)
 | .slice e=>some (.sl e)
 | .map k e=>some (.map k e)
 | .array n e=>some (.arr n e)
 | .func _ _ _=>some .func
 | .interface _=>some .iface
 | .struct fs=>match fs.toList.all λf=>Nat.blt 0 (P.cellsOf f.type) with
  | true=>some (.struct (fs.toList.map λf=>(f.offset,f.type)))
  | false=>none
 | _=>none
def sG:TypeDesc->Bool
 | .struct _=>true
 | .array _ _=>true
 | _=>false
def pV (P:Program) (t:TypeId):Option TyI:=match P.info? t,P.underlying t with
 | some inf,some u=>match inf.zero,rE P u with
  | some z,some sh=>match PH z.cells.toList with
   | some ds=>some { sh,agg:=sG u,size:=inf.size,bytes:=inf.bytes,zero:=ds }
   | none=>none
  | _,_=>none
 | _,_=>none
def bM (P:Program):List TypeId->TT
 | []=>[]
 | t::r=>match pV P t with
  | some i=>(t,i)::bM P r
  | none=>bM P r
theorem Qg:∀{vs:List Value} {ds:List D},PH vs=some ds->(∀I μ,RepL I μ vs ds)/\∀v∈vs,v.oneCell'=true
 | [],ds,h=>by cases h;exact ⟨λ_ _=>.nil,λ_ h=>by simp at h⟩
 | v::r,ds,h=>by
  simp only [PH] at h
  split at h
  ·rename_i d ds' h1 h2 h3;cases h;obtain ⟨q1,q2⟩:=Qg h3;exact ⟨λI μ=>.mk (Tz h1 I μ) (q1 I μ),λu hu=>(List.mem_cons.1 hu).elim (λe=>e ▸ h2) (q2 u)⟩
  ·cases h
theorem mM {P:Program} {t:TypeId} {i:TyI} (h:pV P t=some i):TyOk P t i:=by
 unfold pV at h
 split at h
 ·rename_i inf u h1 h2
  split at h
  ·rename_i z sh h3 h4
   split at h
   ·rename_i ds h5;cases h;obtain ⟨q1,q2⟩:=Qg h5;refine ⟨⟨inf,z,h1,rfl,rfl,h3,q1,q2⟩,?_,?_⟩
    ·funext w;simp only [isAgg,Sem.run_bind,run_underlying h2,Result.andThen_ok];cases u <;> rfl
    ·unfold rE at h4
     split at h4 <;> first | (cases h4;exact h2) | (cases h4;exact ⟨_,_,_,h2⟩) | (cases h4;exact ⟨_,h2⟩) | skip
     ·split at h4
      ·rename_i hall;cases h4;refine ⟨_,h2,rfl,λf hf=>?_⟩;have:=List.all_eq_true.1 hall f hf;simpa [Nat.blt_eq] using this
      ·cases h4
     ·cases h4
   ·cases h
  ·cases h
 ·cases h
theorem U6 {P:Program}:∀{l:List TypeId},TTok P (bM P l)
 | [],t,i,h=>by simp [bM,lk] at h
 | x::r,t,i,h=>by
  simp only [bM] at h
  split at h
  ·rename_i j hj;by_cases hx:x=t
   ·subst hx;rw [Aw] at h;cases h;exact mM hj
   ·rw [A6 _ _ hx] at h;exact U6 t i h
  ·exact U6 t i h
theorem TTok.of_eq {P:Program} {tt:TT} {l:List TypeId} (h:tt=bM P l):TTok P tt:=h ▸ U6
attribute [simp] AA Iv
theorem BI {x:Int} (h0 : -9223372036854775808<=x) (h1:x<=9223372036854775807):IntKind.i64.wrap x=x:=by
 simp only [IntKind.wrap,IntKind.bits,IntKind.signed];simp;omega
theorem A3 {k:IntKind} {a b:Int} (h:a=b):Sp (.imm (.int k a)) (.imm (.int k b)):=by rw [h];rfl
theorem tV {a b:V} (h:a=b):Sp (.imm a) (.imm b):=by rw [h];rfl
theorem Aa {P:Program} {tt:TT} {n:Nat} {F:List Nat} {k:List DI} {env:Env} {st:St} {ids:List Nat} {rs:List ResultVar} {v u:V} {ds:List D} (h1:P5 tt env st rs=some ds) (h2:mQ (JS ds)=some u) (h3:u=v):DGo P n F (K5 tt rs (.ret (.imm v) [])) (.code .ret::k) env st ids:=Au ⟨ds,h1,(show mQ (JS ds)=some v by rw [h2,h3]),trivial⟩
section
variable {P:Program} {n:Nat} {F:List Nat} {Q:DQ} {tt:TT} {env env':Env} {st st':St} {ids ids':List Nat} {k todo todo':List DI} {I:Imm} {μ:Mu} {w:World} {a:Act} {Pn:V->Prop} {d:D} {cx:Prop} {ob:List Prop}
theorem Lv (htt:TTok P tt) (hm:P.follows .mixedOrders=true) (f:Nat) (path:List Pt)
  (h:run tt n f path todo env st ids [] = .at k env' st' ids' ob) (hob:AA ob) (hd:G P n F Q k env' st' ids'):DGo P n F Q todo env st ids:=(Ks htt hm f path h hob hd).go
end
end Go.Hk
namespace Go.Hk
mutual
def R3 (id:Nat) (es:List (List V)):D->D
 | .own i n=>bif Nat.beq i id then .imm (.sl es) else .own i n
 | .agg cs=>I9 (S6 id es cs)
 | .tup cs=>.tup (S6 id es cs)
 | .fn f a b=>.fn f (S6 id es a) (S6 id es b)
 | .iface t d=>match R3 id es d with
  | .imm x=>.imm (.iface t x)
  | d'=>.iface t d'
 | .guard c w d=>.guard c w (R3 id es d)
 | d=>d
def S6 (id:Nat) (es:List (List V)):List D->List D
 | []=>[]
 | d::r=>R3 id es d::S6 id es r
end
def eD (id:Nat) (es:List (List V)):Env->Env
 | []=>[]
 | (t,d)::r=>(t,R3 id es d)::eD id es r
def nU (id:Nat) (es:List (List V)):Blk->Blk
 | .cells t sz cs=>OO t sz (S6 id es cs)
 | b=>b
def S5 (id:Nat) (es:List (List V)):St->St
 | []=>[]
 | (i,some b)::r=>(i,some (nU id es b))::S5 id es r
 | (i,none)::r=>(i,none)::S5 id es r
theorem GP (id:Nat) (es:List (List V)):∀l:List D,S6 id es l=l.map (R3 id es)
 | []=>rfl
 | d::r=>by simp [S6,GP id es r]
section
variable {P:Program} {n:Nat} {F:List Nat} {Q:DQ} {tt:TT} {env:Env} {st:St} {ids:List Nat} {todo:List DI} {I J:Imm} {μ:Mu} {w:World} {id:Nat} {es:List (List V)} {g:Value}
theorem RepD.frz {v:Value} {d:D} (h:RepD I μ v d) (hIJ:I.le J) (hg:μ id=some g) (hr:RepV J g (.sl es)):RepD J μ v (R3 id es d):=by
 have at_:∀{l:List D} {i:Nat} {x:D},(S6 id es l)[i]?=some x->∃y,l[i]?=some y/\x=R3 id es y:=by
  intro l i x hx;rw [GP,List.getElem?_map] at hx;cases hl:l[i]? with
  | none=>rw [hl] at hx;cases hx
  | some y=>rw [hl] at hx;cases hx;exact ⟨y,rfl,rfl⟩
 induction h with
 | undef v=>exact .undef v
 | imm v x hx=>exact .imm v x (hx.mono hIJ)
 | nils=>exact .nils
 | ref b id off hm=>exact .ref b id off hm
 | ip b o t cs off vs hcell hrep=>exact (RepD.ip b o t cs off vs hcell hrep).mono hIJ (Mu.le_refl μ)
 | agg cs ds hl h1 _ ih =>
  have:RepD J μ (.agg cs.toList.toArray) (I9 (S6 id es ds)):=I8 ⟨by rw [GP,List.length_map,<- hl];simp,λi c x hc hx=>by
   obtain ⟨y,hy,rfl⟩:=at_ hx;exact ih i c y (by simpa using hc) hy⟩ h1
  simpa [R3] using this
 | tup cs ds hl _ ih =>
  refine .tup cs _ (by rw [GP,List.length_map,hl]) λi c x hc hx=>?_;obtain ⟨y,hy,rfl⟩:=at_ hx;exact ih i c y hc hy
 | own i len a cap hm =>
  simp only [R3];cases hb:Nat.beq i id with
  | false=>exact .own i len a cap hm
  | true =>
   rw [Nat.eq_of_beq_eq_true hb,hg] at hm;cases hm;exact .imm _ _ hr
 | elp b id len cap k sz f hm=>exact .elp b id len cap k sz f hm
 | mapr id b hm=>exact .mapr id b hm
 | iter id b hm=>exact .iter id b hm
 | fn f first cap df dc hf hc _ _ ih1 ih2 =>
  refine .fn f first cap _ _ (by rw [GP,List.length_map,hf]) (by rw [GP,List.length_map,hc]) (λi c x h1 h2=>?_) (λi c x h1 h2=>?_)
  ·obtain ⟨y,hy,rfl⟩:=at_ h2;exact ih1 i c y h1 hy
  ·obtain ⟨y,hy,rfl⟩:=at_ h2;exact ih2 i c y h1 hy
 | iface t v d _ ih =>
  simp only [R3]
  split
  ·rename_i x hx;rw [hx] at ih;exact .imm _ _ (.iface t v x ih.immInv)
  ·exact .iface t v _ ih
 | guard c want v d _ hu ih=>exact .guard c want v _ ih hu
 | clip a len es hr=>exact .clip a len es (hr.mono hIJ)
 | slc b id off len cap hm hl hx=>exact .slc b id off len cap hm hl hx
 | yld b id hm=>exact .yld b id hm
 | raw v h=>exact .raw v h
 | hv v id i vs bs hm hi h1=>exact .hv v id i vs bs hm hi h1
theorem BlkRep.frz {gb:Value} {blk:Blk} (h:BlkRep I μ w gb blk) (hIJ:I.le J) (hg:μ id=some g) (hr:RepV J g (.sl es)):BlkRep J μ w gb (nU id es blk):=by
 cases blk with
 | cells t sz cs =>
  obtain ⟨hs,b,vs,rfl,h2,h3,h4⟩:=h;refine GY h2 ⟨by rw [GP,List.length_map,h3.1],λi v x hv hx=>?_⟩ h4 (by rw [GP,List.length_map,hs]);rw [GP,List.getElem?_map] at hx;cases hl:cs[i]? with
  | none=>rw [hl] at hx;cases hx
  | some y=>rw [hl] at hx;cases hx;exact (h3.2 i v y hv hl).frz hIJ hg hr
 | _=>exact h.mono hIJ (Mu.le_refl μ)
theorem NZ {i:Nat} {b:Blk}:∀{st:St},At (S5 id es st) i b->∃b0,At st i b0/\b=nU id es b0
 | [],h=>by simp [S5,At,lk] at h
 | (k,some x)::r,h=>by
  simp only [S5] at h;rcases A7.1 h with ⟨h1,h2⟩ | ⟨h1,h2⟩
  ·exact ⟨x,by unfold At;rw [h1,Aw],h2⟩
  ·obtain ⟨b0,q1,q2⟩:=NZ h2;exact ⟨b0,A7.2 (.inr ⟨h1,q1⟩),q2⟩
 | (k,none)::r,h=>by
  simp only [S5] at h;obtain ⟨h1,h2⟩:=BB.1 h;obtain ⟨b0,q1,q2⟩:=NZ h2;exact ⟨b0,BB.2 ⟨h1,q1⟩,q2⟩
theorem Cu (id:Nat) {e:TypeId} {sz:Nat} (hl:lk st id=some (some (.row e sz es))) (h:DGo P n F Q todo (eD id es env) ((id,none)::S5 id es st) ids):DGo P n F Q todo env st ids:=by
 intro b cs I μ a w items hd hc;have hlive:At st id (.row e sz es):=hl;obtain ⟨g,hg,xs,hown,hrep,hsz,hone,hp⟩:=hc.blk id _ hlive;obtain ⟨J,hJ,hJr,hJo⟩:∃J:Imm,I.le J/\RepV J g (.sl es)/\(∀k o,J k=some o->(I k=some o\/(Dl g k/\w.heap[k]?=some o))):=by
  rcases hown.2 with ⟨rfl,h0⟩ | ⟨gb,cap,cur,rfl,_,hheap,hle,hcm,hcs,htake⟩
  ·have:es=[]:=List.eq_nil_of_length_eq_zero h0;subst this;exact ⟨I,Imm.le_refl I,.slnil,λk o h=>.inl h⟩
  ·have hno:=(hc.apart id _ _ gb hlive hg rfl).1;have hle':I.le (λk=>if k=gb then some (.cells cur e (0,0)) else I k):=λk o h=>by
    have:k≠gb:=λe=>by rw [e,hno] at h;cases h
    simp [this,h]
   refine ⟨_,hle',?_,λk o h=>?_⟩
   ·have hcell:∀(i:Nat) (c:List V) (j:Nat) (x:V),es[i]?=some c->c[j]?=some x->∃v,xs[i*sz+j]?=some v/\cur[i*sz+j]?=some v/\RepV I v x/\v.oneCell'=true:=by
     intro i c j x hi hj;have h1:=C5 hsz i c j x hi hj;have hlt:i*sz+j<xs.length:=by rw [hrep.1];exact (List.getElem?_eq_some_iff.1 h1).1
     obtain ⟨v,hv⟩:∃v,xs[i*sz+j]?=some v:=⟨_,List.getElem?_eq_getElem hlt⟩
     have hr:=hrep.2 _ _ _ hv h1;refine ⟨v,hv,?_,hr,?_⟩
     ·rw [<- htake,List.getElem?_take] at hv
      split at hv
      ·simpa using hv
      ·cases hv
     ·have:=hone c (List.mem_of_getElem? hi) x (List.mem_of_getElem? hj);exact hr.one this
    refine .sl gb 0 _ cap sz es (λi j=>(cur[i*sz+j]?).getD undef) rfl hle hcm hsz (λi c j x hi hj=>?_) (λi c j x hi hj=>?_)
    ·obtain ⟨v,_,h2,_,h4⟩:=hcell i c j x hi hj;simp [Imm.cell,h2,h4]
    ·obtain ⟨v,_,h2,h3,_⟩:=hcell i c j x hi hj;simp only [h2,Option.getD_some];exact h3.mono hle'
   ·by_cases hk:k=gb
    ·subst hk;simp at h;subst h;exact .inr ⟨rfl,hheap⟩
    ·simp [hk] at h;exact .inl h
 have hst:∀i bi,At ((id,none)::S5 id es st) i bi->i≠id/\∃b0,At st i b0/\bi=nU id es b0:=λi bi h=>by
  obtain ⟨h1,h2⟩:=BB.1 h;exact ⟨h1,NZ h2⟩
 have hE:Ext I μ st w J μ ((id,none)::S5 id es st) w :=
  {imm:=hJ,os:=rfl,tape:=rfl,output:=rfl,size:=Nat.le_refl _
   block:=λ_ _ _=>rfl
   fresh:=λk _ ⟨i,bi,gi,h1,h2,h3⟩=>let ⟨_,b0,q,_⟩:=hst i bi h1;⟨i,b0,gi,q,h2,h3⟩
   old:=λk _ ho=>by
      cases hJk:J k with
      | none =>
       cases hIk:I k with
       | none=>rfl
       | some o=>rw [hJ k o hIk] at hJk;cases hJk
      | some o =>
       rcases hJo k o hJk with h | ⟨h,_⟩
       ·exact h.symm
       ·exact absurd ⟨id,_,g,hlive,hg,h⟩ ho }
 have hc':Conc n J μ (eD id es env) ((id,none)::S5 id es st) ids a w :=
  {imm:=λk o h=>(hJo k o h).elim (λh=>hc.imm k o h) λh=>h.2
   blk:=λi bi hli=>by
    obtain ⟨_,b0,h2,rfl⟩:=hst i bi hli;obtain ⟨gi,hgi,hr⟩:=hc.blk i b0 h2;exact ⟨gi,hgi,hr.frz hJ hg hJr⟩
   apart:=λi bi gi k hli hgi hk=>by
    obtain ⟨h1,b0,h2,rfl⟩:=hst i bi hli;obtain ⟨q1,q2⟩:=hc.apart i b0 gi k h2 hgi hk;refine ⟨?_,q2⟩;cases hJk:J k with
    | none=>rfl
    | some o =>
     rcases hJo k o hJk with h | ⟨h,_⟩
     ·rw [q1] at h;cases h
     ·exact absurd (hc.inj i id b0 _ gi g k h2 hlive hgi hg hk h) h1
   inj:=λi j bi bj gi gj k hi hj hgi hgj hki hkj=>by
    obtain ⟨_,b1,h1,rfl⟩:=hst i bi hi;obtain ⟨_,b2,h2,rfl⟩:=hst j bj hj;exact hc.inj i j b1 b2 gi gj k h1 h2 hgi hgj hki hkj
   nodup:=hc.nodup
   idsFree:=hc.idsFree
   size:=hc.size
   env:=λt d hlt=>by
    have:∀{env:Env},lk (eD id es env) t=some d->∃d0,lk env t=some d0/\d=R3 id es d0:=by
     intro env
     induction env with
     | nil=>intro h;simp [eD,lk] at h
     | cons p r ih =>
      obtain ⟨s,x⟩:=p;intro h;simp only [eD] at h;by_cases hs:s=t
      ·subst hs;rw [Aw] at h;cases h;exact ⟨x,Aw _ _ _,rfl⟩
      ·rw [A6 _ _ hs] at h;rw [A6 _ _ hs];exact ih h
    obtain ⟨d0,h1,rfl⟩:=this hlt;exact (hc.env t d0 h1).frz hJ hg hJr
   defers:=hc.defers.ext hE }
 refine (h b cs J μ a w items hd hc').mono λe' a' w' hp=>hp.back (.refl _ _) ?_;exact hE
end
end Go.Hk
namespace Go.Hk
structure bF where
 f:FuncId
 das:List D
 ob:List Prop
 dst:Option Nat
 o:Oper
 all:List Oper
def aI (n:Nat) (env:Env) (todo:List DI):Option bF :=
 match Bk todo ([],[]) with
 | some (all,o,_)=>match o.guard,o.op with
  | none,.call { callee:=.value (.func f),args:=⟨args⟩,.. }=>match Ir True env args,BJ n o.dst with
   | some (ds,ob),true=>some ⟨f,ds,ob,o.dst,o,all⟩
   | _,_=>none
  | none,.call { callee:=.value (.tmp t),args:=⟨args⟩,.. }=>match lk env t,Ir True env args,BJ n o.dst with
   | some (.imm (.fn (.func f))),some (ds,ob),true=>some ⟨f,ds,ob,o.dst,o,all⟩
   | some (.fn (.func f) df dc),some (ds,ob),true=>some ⟨f,df++ds++dc,ob,o.dst,o,all⟩
   | _,_,_=>none
  | _,_=>none
 | none=>none
def gM:List (Nat×Nat)->List Nat
 | []=>[]
 | (_,b)::r=>b::gM r
def Gt:List (Nat×Nat)->List Nat
 | []=>[]
 | (a,_)::r=>a::Gt r
def LO (σ τ1:List (Nat×Nat)) (das:List D) (st0:St) (d:D) (st1:St) (fr:List Nat):Bool :=
 D0 σ (Bj σ) (Jn das)&&D0 σ (Bj σ) (Gt σ)&&Px (gM σ) (D8 st0)&&D0 (Bj σ++τ1) (σ++Bj τ1) (I5 d)&&D0 (Bj σ++τ1) (σ++Bj τ1) (F0 st1)&&Px (gM τ1) fr
theorem U9:∀l:List (Nat×Nat),gM l=l.map (·.2)
 | []=>rfl
 | (a,b)::r=>by simp [gM,U9 r]
theorem KO:∀l:List (Nat×Nat),Gt l=l.map (·.1)
 | []=>rfl
 | (a,b)::r=>by simp [Gt,KO r]
section
variable {P:Program} {n:Nat} {F:List Nat} {Q:DQ} {tt:TT} {env:Env} {st st0 st1:St} {ids ids' fr:List Nat} {k todo todo':List DI} {I:Imm} {μ:Mu} {w:World} {Pn:V->Prop} {d:D} {σ τ1:List (Nat×Nat)} {das:List D}
theorem NN (h:LO σ τ1 das st0 d st1 fr=true):bD σ τ1 das st0 d st1 fr:=by
 simp only [LO,Bool.and_eq_true] at h;obtain ⟨⟨⟨⟨⟨h1,h2⟩,h3⟩,h4⟩,h5⟩,h6⟩:=h;exact ⟨h1,by rw [<- KO];exact h2,λp hp=>FZ h3 _ (by rw [U9];exact List.mem_map_of_mem hp),h4,h5,λp hp=>FZ h6 _ (by rw [U9];exact List.mem_map_of_mem hp)⟩
theorem GT (hag:Agree (Gt σ) st st1):∀{st0:St},FX σ st st0->FX σ st1 st0
 | [],_=>trivial
 | (i,none)::_,h=>h.elim
 | (i,some b)::r,h=>by
  refine ⟨?_,GT hag h.2⟩;have h1:=h.1;cases ha:lk (Bj σ) i with
  | none=>simp [ha] at h1
  | some a =>
   simp only [ha] at h1 ⊢;refine ⟨h1.1,?_⟩;have hm:a∈Gt σ:=by rw [KO];exact List.mem_map.2 ⟨(a,i),Kh ha,rfl⟩
   rw [hag a hm];exact h1.2
theorem nK {all:List Oper} {o:Oper} {f:FuncId} (hg:o.guard=none) (hc:EA P o env f das True) (hE:Bg P f (Gm (Ei σ) das) st0 (.ret d st1)) (hb:FX σ st st0) (hn:LO σ τ1 das st0 d st1 fr=true) :
  LD P Pn all o env st (Gt σ) fr (Eo (Bj σ++τ1) st1++Cy (Gt σ)) (JU (Ei (Bj σ++τ1)) d):=by
 intro I μ st2 ids1 a w hag hst hon;refine ⟨λ_=>?_,λhw=>by rw [AF hg] at hw;cases hw⟩;obtain ⟨xs,h1,h2⟩:=hc I μ a w (Bh hon) trivial;have hb':=GT hag hb;have hN:=NN hn;obtain ⟨q1,q2,q3⟩:=H5 hst hb' hN.args h1;rw [h2];refine (hE I _ w xs q1 q2).mono (λu w' hu=>?_) (λ_ _ h=>h.elim);obtain ⟨I',μ',r1,r2,r3,r4⟩:=hu;obtain ⟨ν,s1,s2,s3,s4⟩:=KY hst hb' hN r1 r2 r3 r4 q3;rw [<- KO] at s1 s4;exact ⟨I',ν,s1,s2,s3,s4⟩
theorem Xh {c:bF} (h:aI n env todo=some c) (hob:AA c.ob):(∀f,∃todo',Bk todo f=some (c.all,c.o,todo'))/\c.o.guard=none/\EA P c.o env c.f c.das True/\BJ n c.dst=true/\(∀x,c.o.op ≠ .defer x)/\c.dst=c.o.dst:=by
 unfold aI at h;have hnext:∀{all:List Oper} {o:Oper} {t:List DI},Bk todo ([],[])=some (all,o,t)->∀f,∃todo',Bk todo f=some (all,o,todo'):=by
  intro all o t h f;rcases I6 h with ⟨r,k,rfl,_⟩ | ⟨r,fs,k,rfl,_⟩
  ·exact ⟨_,rfl⟩
  ·exact ⟨_,rfl⟩
 split at h
 ·rename_i all o t h1
  split at h
  ·rename_i f args ts hg ho
   split at h
   ·rename_i ds ob ha hd;cases h;exact ⟨hnext h1,hg,Fx ho ha hob,hd,(λx hx=>by rw [ho] at hx;cases hx),rfl⟩
   ·cases h
  ·rename_i t' args ts hg ho
   split at h
   ·rename_i f ds ob ht ha hd;cases h;exact ⟨hnext h1,hg,E9 ho ht ha hob,hd,(λx hx=>by rw [ho] at hx;cases hx),rfl⟩
   ·rename_i f df dc ds ob ht ha hd;cases h;exact ⟨hnext h1,hg,Is ho ht ha hob,hd,(λx hx=>by rw [ho] at hx;cases hx),rfl⟩
   ·cases h
  ·cases h
 ·cases h
theorem A9 {c:bF} (σ τ1:List (Nat×Nat)) {fr:List Nat} {nm:List Nat} (h:aI n env todo=some c) (hob:AA c.ob) (hE:Bg P c.f (Gm (Ei σ) c.das) st0 (.ret d st1)) (hb:FX σ st st0)
  (hn:LO σ τ1 c.das st0 d st1 fr=true) (hnm:(Eo (Bj σ++τ1) st1++Cy (Gt σ)).map (·.1)=nm) (h1:Bk todo (Gt σ,nm)=some (c.all,c.o,todo')) (hids:ids=fr++ids')
  (hk:G P n F Q todo' (BE c.dst (JU (Ei (Bj σ++τ1)) d) env) (Eo (Bj σ++τ1) st1++Cy (Gt σ)++st) ids'):G P n F Q todo env st ids:=by
 obtain ⟨_,q2,q3,q4,q5,q6⟩:=Xh (P:=P) h hob;subst hids;rw [q6] at q4 hk;subst hnm;exact BC h1 (nK q2 q3 hE hb hn) q4 q5 hk
theorem AC {c:bF} {x:V} {all rest:List Oper} {o:Oper} (σ:List (Nat×Nat)) (h:aI n env (.ops all (o::rest)::k)=some c) (hob:AA c.ob) (hE:Bg P c.f (Gm (Ei σ) c.das) st0 (.pan x)) (hb:FX σ st st0)
  (hn:D0 σ (Bj σ) (Jn c.das)=true) (hq:M5 Q x):DGo P n F Q (.ops all (o::rest)::k) env st ids:=by
 obtain ⟨q1,q2,q3,q4,q5,_⟩:=Xh (P:=P) h hob;obtain ⟨t,ht⟩:=q1 ([],[]);simp only [Bk,Option.some.injEq,Prod.mk.injEq] at ht;obtain ⟨_,ho,_⟩:=ht;subst ho;intro b cs I μ a w items hd hc;obtain ⟨j,is,rfl,hr,hk⟩:=JA hd;obtain ⟨hj,_⟩:=Ed hr;have hon:K7 (c.o.looksAt all.toArray) I μ env a:=λt _ d hl=>hc.env t d hl;have hlen:(c.o::rest).length=rest.length+1:=rfl;rw [hlen,List.range'_succ];refine Gn hj (AF q2) q5 ?_;obtain ⟨xs,h1,h2⟩:=q3 I μ a w (Bh hon) trivial;obtain ⟨p1,p2,p3⟩:=H5 hc.toStRep hb hn h1;rw [h2];refine valX.upon ((hE I _ w xs p1 p2).mono (λ_ _ h=>h.elim) λchain w' hp=>?_);obtain ⟨v,y,I',r1,r2,r3,r4,r5⟩:=hp;subst r2
 have hE':Ext I μ st w I' μ [] w':={ imm:=r5.imm,os:=r5.os,tape:=r5.tape,output:=r5.output,size:=r5.size,block:=λb hb ho=>r5.block b hb (λh=>ho (p3 b h)),fresh:=λb hb ⟨i,bi,g,h1,_⟩=>by simp [At,lk] at h1,old:=λb hb ho=>r5.old b hb (λh=>ho (p3 b h)) }
 exact ⟨.panic y,[],[],[],I',μ,⟨v,r1,r3⟩,hq,Nl r4 hc.size (hc.defers.ext hE'),.refl _ _,hE',.refl _ _⟩
end
end Go.Hk
namespace Go.Hk
open Go.Proofs
theorem EV:Tryz.prog.follows .mixedOrders=true:=by kernel_rfl
def XV:TT:=[
 (4,⟨.bool,false,1,1,[.imm (.bool false)]⟩),
 (3,⟨.int .i64,false,1,8,[.imm (.int .i64 0)]⟩),
 (9,⟨.str,false,1,16,[.imm (.str [])]⟩),
 (165,⟨.struct [(0,162),(1,3),(2,9),(3,163),(4,27)],true,5,80,[.imm (.int .i64 0),.imm (.int .i64 0),.imm (.str []),.nils,.nils]⟩),
 (26,⟨.struct [(0,23),(1,3),(2,9),(3,24)],true,4,56,[.imm (.int .i64 0),.imm (.int .i64 0),.imm (.str []),.nils]⟩),
 (69,⟨.struct [(0,67),(1,3),(2,9),(3,27)],true,4,56,[.imm (.int .i64 0),.imm (.int .i64 0),.imm (.str []),.nils]⟩),
 (162,⟨.int .i64,false,1,8,[.imm (.int .i64 0)]⟩),
 (27,⟨.sl 69,false,1,24,[.nils]⟩),
 (5,⟨.int .u8,false,1,1,[.imm (.int .u8 0)]⟩),
 (24,⟨.sl 26,false,1,24,[.nils]⟩),
 (23,⟨.int .i64,false,1,8,[.imm (.int .i64 0)]⟩),
 (172,⟨.sl 9,false,1,24,[.nils]⟩),
 (163,⟨.sl 165,false,1,24,[.nils]⟩),
 (67,⟨.int .i64,false,1,8,[.imm (.int .i64 0)]⟩),
 (167,⟨.struct [(0,9),(1,9),(2,26),(6,26),(10,165)],true,15,224,[.imm (.str []),.imm (.str []),.imm (.int .i64 0),.imm (.int .i64 0),.imm (.str []),.nils,.imm (.int .i64 0),.imm (.int .i64 0),.imm (.str []),.nils,.imm (.int .i64 0),.imm (.int .i64 0),.imm (.str []),.nils,.nils]⟩),
 (171,⟨.struct [(0,9),(1,22),(2,169)],true,3,64,[.imm (.str []),.nils,.nils]⟩),
 (75,⟨.struct [(0,9),(1,24)],true,2,40,[.imm (.str []),.nils]⟩),
 (22,⟨.sl 72,false,1,24,[.nils]⟩),
 (169,⟨.sl 167,false,1,24,[.nils]⟩),
 (72,⟨.struct [(0,9),(1,70)],true,2,40,[.imm (.str []),.nils]⟩),
 (70,⟨.sl 75,false,1,24,[.nils]⟩),
 (37,⟨.int .i64,false,1,8,[.imm (.int .i64 0)]⟩)]
theorem BK:TTok Tryz.prog XV:=.of_eq (l:=[4,3,9,165,26,69,162,27,5,24,23,172,163,67,167,171,75,22,169,72,70,37]) (by kernel_rfl)
def rF:Code->Code
 | .seq _ b=>b
 | _=>.skip
def EN (f:Func):Nat->Code
 | 0=>match f.body with
  | some c=>c
  | none=>.skip
 | k+1=>rF (EN f k)
section
variable {n:Nat} {F:List Nat} {Q:DQ} {env env':Env} {st st':St} {ids ids':List Nat} {k todo:List DI} {ob:List Prop}
theorem kd (path:List Pt) (h:run XV n 300 path todo env st ids [] = .at k env' st' ids' ob) (hob:AA ob) (hd:G Tryz.prog n F Q k env' st' ids'):DGo Tryz.prog n F Q todo env st ids:=Lv BK EV 300 path h hob hd
theorem BF (h:run XV n 300 [] todo env st ids [] = .at k env' st' ids' ob) (hd:G Tryz.prog n F Q k env' st' ids') (hob:AA ob:=by simp):DGo Tryz.prog n F Q todo env st ids:=kd [] h hob hd
theorem kdqc (h:run XV n 300 [] todo env st ids [] = .at k env' st' ids' ob) (hd:G Tryz.prog n F Q k env' st' ids') (hob:AA ob:=by simp [An]):DGo Tryz.prog n F Q todo env st ids:=kd [] h hob hd
theorem kg (path:List Pt) (h:run XV n 300 path todo env st ids [] = .at k env' st' ids' ob) (hob:AA ob) (hd:G Tryz.prog n F Q k env' st' ids'):G Tryz.prog n F Q todo env st ids:=Ks BK EV 300 path h hob hd
theorem Bi (h:run XV n 300 [] todo env st ids [] = .at k env' st' ids' ob) (hd:G Tryz.prog n F Q k env' st' ids') (hob:AA ob:=by simp):G Tryz.prog n F Q todo env st ids:=kg [] h hob hd
theorem kgqc (h:run XV n 300 [] todo env st ids [] = .at k env' st' ids' ob) (hd:G Tryz.prog n F Q k env' st' ids') (hob:AA ob:=by simp [An]):G Tryz.prog n F Q todo env st ids:=kg [] h hob hd
theorem ki {es:List (List V)} {m:Int} {sz:Nat} {e:TypeId} {g:Option (Bool×Bool)} {ob:List Prop} {t:Nat} {todo':List DI} {c:List V} (h:P7 XV n env todo=some ⟨es,m,sz,e,g,ob,some t,todo'⟩)
  (hc:An g->0<=m/\es[m.toNat]?=some c/\c.length=sz) (hob:AA ob) (hk:G Tryz.prog n F Q todo' ((t,gD g (.ip e c 0))::env) st ids):G Tryz.prog n F Q todo env st ids:=Gg BK h hc hob hk
end
abbrev Str:=List UInt8
inductive Ty where
 | mk (s n:Int) (x:Str) (ps:List Ty)
mutual
def dTyc:Ty->List V
 | .mk s n x ps=>[.int .i64 s,.int .i64 n,.str x,.sl (BQ ps)]
def BQ:List Ty->List (List V)
 | []=>[]
 | t::r=>dTyc t::BQ r
end
inductive Tm where
 | mk (op n:Int) (x:Str) (ks:List Tm) (ps:List Ty)
mutual
def CO:Tm->List V
 | .mk op n x ks ps=>[.int .i64 op,.int .i64 n,.str x,.sl (LZ ks),.sl (BQ ps)]
def LZ:List Tm->List (List V)
 | []=>[]
 | t::r=>CO t::LZ r
end
structure Cd where
 name:Str
 args:List Ty
structure Dt where
 name:Str
 cons:List Cd
structure Fd where
 name:Str
 param:Str
 from_:Ty
 to_:Ty
 body:Tm
structure Md where
 name:Str
 datas:List Dt
 funs:List Fd
def DN (c:Cd):List V:=[.str c.name,.sl (BQ c.args)]
def CU (d:Dt):List V:=[.str d.name,.sl (d.cons.map DN)]
def PD (f:Fd):List V:=[.str f.name,.str f.param]++dTyc f.from_++dTyc f.to_++CO f.body
def Vg (m:Md):List V:=[.str m.name,.sl (m.datas.map CU),.sl (m.funs.map PD)]
def DV (l:List Str):List (List V):=l.map λs=>[.str s]
theorem Dp:∀l:List Ty,BQ l=l.map dTyc
 | []=>rfl
 | t::r=>by simp [BQ,Dp r]
theorem Ve:∀l:List Tm,LZ l=l.map CO
 | []=>rfl
 | t::r=>by simp [LZ,Ve r]
@[simp] theorem dTys_length (l:List Ty):(BQ l).length=l.length:=by rw [Dp];simp
@[simp] theorem dTms_length (l:List Tm):(LZ l).length=l.length:=by rw [Ve];simp
@[simp] theorem dTyc_length (t:Ty):(dTyc t).length=4:=by cases t;rfl
@[simp] theorem dTmc_length (t:Tm):(CO t).length=5:=by cases t;rfl
@[simp] theorem dStr_length (l:List Str):(DV l).length=l.length:=by simp [DV]
theorem A5 {l:List Ty} {i:Nat} {t:Ty} (h:l[i]?=some t):(BQ l)[i]?=some (dTyc t):=by rw [Dp];simp [h]
theorem IP {l:List Tm} {i:Nat} {t:Tm} (h:l[i]?=some t):(LZ l)[i]?=some (CO t):=by rw [Ve];simp [h]
theorem Xq {l:List Str} {i:Nat} {t:Str} (h:l[i]?=some t):(DV l)[i]?=some [.str t]:=by simp [DV,h]
theorem Pr (a b:List Ty):BQ (a++b)=BQ a++BQ b:=by simp [Dp]
theorem EX (a b:List Str):DV (a++b)=DV a++DV b:=by simp [DV]
theorem Av {α:Type} {l:List α} {i:Nat} {t:α} (h:l[i]?=some t):l.drop i=t::l.drop (i+1):=by
 obtain ⟨h1,h2⟩:=List.getElem?_eq_some_iff.1 h;rw [<- h2];exact List.drop_eq_getElem_cons h1
theorem Bn {α:Type} {l:List α} {i:Nat} {t:α} (h:l[i]?=some t):l.take (i+1)=l.take i++[t]:=by
 rw [List.take_add_one,h];rfl
theorem Ap {α:Type} {l:List α} {i:Nat} (h:i<l.length):∃t,l[i]?=some t:=⟨_,List.getElem?_eq_getElem h⟩
end Go.Hk
namespace Go.Hk
open Go.Proofs
def G7:List Str->Str->Bool
 | [],_=>false
 | x::r,s=>x == s||G7 r s
theorem lZ (l:List Str) (s:Str):Ak Tryz.prog 143 [.sl (DV l),.str s] (.bool (G7 l s)):=by
 refine AS λhv=>?_;simp [Cx,EM,maxLen] at hv;refine Af BK Tryz.func143 (by decide +kernel) rfl [1,2] rfl rfl ?_;refine Bi rfl ?_;refine Am (λi:Nat=>[(5,.imm (.int .i64 i)),(0,.imm (.sl (DV l))),(1,.imm (.str s))]) (λ_=>[]) [1] (λi=>l.length-i) (λi=>i<=l.length/\G7 l s=G7 (l.drop i) s) 0
  ⟨Nat.zero_le _,rfl⟩ ⟨rfl,rfl,rfl,trivial⟩ trivial rfl λi hi ih=>?_
 refine BF rfl ?_;refine Ab rfl (λh=>?_) (λh=>?_)
 ·simp at h;obtain ⟨t,ht⟩:=Ap h;refine BF rfl ?_;refine ki rfl (c:=[.str t]) (λ_=>⟨by simp,by simpa using Xq ht,rfl⟩) (by simp) ?_;refine Bi rfl ?_;have e:=hi.2;rw [Av ht] at e;refine Ab rfl (λh=>?_) (λh=>?_)
  ·refine BF rfl ?_;refine Aa rfl rfl (congrArg _ ?_);rw [e];simp [G7,h]
  ·refine BF rfl ?_;refine Ae (ih (i+1) (by omega) ⟨by omega,by rw [e];simp [G7,h]⟩) ⟨A3 (BI (by omega) (by omega)),rfl,rfl,trivial⟩ trivial rfl
 ·refine BF rfl ?_;refine Aa rfl rfl (congrArg _ ?_);simp at h;rw [hi.2,List.drop_eq_nil_of_le (by omega)];rfl
def EC (s:Str):Bool:=s.all λc=>97<=c&&c<=122
theorem OC {s:Str} {i:Nat} {c:UInt8} (h:s[i]?=some c):EC (s.drop i)=((97<=c&&c<=122)&&EC (s.drop (i+1))):=by
 rw [Av h];simp [EC]
theorem VJ (s:Str) (hs:s.length<=9223372036854775806):Ak Tryz.prog 179 [.str s] (.bool (EC s)):=by
 refine Af BK Tryz.func179 (by decide +kernel) rfl [1,2] rfl rfl ?_;refine Bi rfl ?_;refine Am (λi:Nat=>[(3,.imm (.int .i64 i)),(0,.imm (.str s))]) (λ_=>[]) [1] (λi=>s.length-i) (λi=>i<=s.length/\EC s=EC (s.drop i)) 0
  ⟨Nat.zero_le _,rfl⟩ ⟨rfl,rfl,trivial⟩ trivial rfl λi hi ih=>?_
 refine BF rfl ?_;refine Ab rfl (λh=>?_) (λh=>?_)
 ·simp at h;obtain ⟨c,hc⟩:=Ap h;have e:=hi.2;rw [OC hc] at e;have hg:s[i]?.getD 0=c:=by rw [hc];rfl
  refine kd [] rfl (by simp [h]) ?_;refine Ab rfl (λh=>?_) (λh=>?_)
  ·refine BF rfl ?_;refine Aa rfl rfl (congrArg _ ?_);rw [e];simp [hg] at h;simp [UInt8.le_iff_toNat_le];omega
  ·refine BF rfl ?_;refine Ae (ih (i+1) (by omega) ⟨by omega,?_⟩) ⟨A3 (BI (by omega) (by omega)),rfl,trivial⟩ trivial rfl;rw [e];simp [hg] at h;simp [UInt8.le_iff_toNat_le];omega
 ·refine BF rfl ?_;refine Aa rfl rfl (congrArg _ ?_);simp at h;rw [hi.2,List.drop_eq_nil_of_le (by omega)];rfl
def IE:List Str:=[[98,111,111,108],[99,101,108,108],[99,104,97,110],[101,108,115,101],[102,97,108,115,101],[102,117,110],[103,101,116],[105,102],[105,110],[105,110,112,117,116],[105,110,116],[106,111,105,110],[108,101,116],[109,97,116,99,104],[109,111,100,117,108,101],[111,117,116],[112,97,117,115,101],[112,117,116],[114,101,115,101,116],[115,101,110,100],[115,104,105,102,116],[115,112,97,119,110],[116,97,107,101],[116,97,115,107],[116,104,101,110],[116,114,117,101],[116,121,112,101],[117,110,105,116]]
theorem WB:Ak Tryz.prog 196 [] (.sl (DV IE)):=by
 refine Af BK Tryz.func196 (by decide +kernel) rfl [1,2] rfl rfl ?_;refine Bi rfl ?_;refine Au ⟨_,rfl,?_,trivial⟩;rfl
def UW (s:Str):Bool:=G7 IE s
theorem rC (s:Str):Ak Tryz.prog 180 [.str s] (.bool (UW s)):=by
 refine Af BK Tryz.func180 (by decide +kernel) rfl [1,2] rfl rfl ?_;refine Bi rfl ?_;refine Ah rfl WB ?_;refine Bi rfl ?_;refine Ad rfl (λ_=>lZ IE s) (by simp) ?_;refine Bi rfl ?_;exact Aa rfl rfl rfl
def EU (s:Str):Bool:=decide (1<=s.length)&&decide (s.length<=8)&&EC s && !UW s
def Di (s:Str):Bool:=decide (1<=s.length)&&decide (s.length<=8)&&(65<=s.getD 0 0&&s.getD 0 0<=90)&&EC (s.drop 1)
def F4 (x lo hi:Int):Bool:=decide (lo<=x)&&decide (x<=hi)
theorem If (s:Str):Ak Tryz.prog 139 [.str s] (.bool (EU s)):=by
 refine Af BK Tryz.func139 (by decide +kernel) rfl [1,2] rfl rfl ?_;refine Bi rfl ?_;refine Ad rfl (v:=.bool (EC s)) (λh=>VJ s ?_) (by simp [An]) ?_
 ·simp [An] at h;omega
 refine Bi rfl ?_;refine Ad rfl (v:=.bool (UW s)) (λh=>rC s) (by simp [An]) ?_;refine Bi rfl ?_;refine Aa rfl rfl (congrArg _ ?_);simp [EU]
 norm_cast
theorem MM (x lo hi:Int):Ak Tryz.prog 140 [.int .i64 x,.int .i64 lo,.int .i64 hi] (.bool (F4 x lo hi)):=by
 refine Af BK Tryz.func140 (by decide +kernel) rfl [1,2] rfl rfl ?_;refine Bi rfl ?_;refine Aa rfl rfl (congrArg _ ?_);simp [F4]
theorem IS (s:Str):Ak Tryz.prog 144 [.str s] (.bool (Di s)):=by
 refine Af BK Tryz.func144 (by decide +kernel) rfl [1,2] rfl rfl ?_;refine kg [] rfl (by simp [An];omega) ?_;refine Ad rfl (v:=.bool (EC (s.drop 1))) (λh=>VJ _ ?_) (by simp [An]) ?_
 ·simp [An] at h;simp;omega
 refine Bi rfl ?_;refine Aa rfl rfl (congrArg _ ?_);simp [Di,UInt8.le_iff_toNat_le,Bool.and_assoc]
 norm_cast
mutual
def Bv:Ty->Int->Int
 | .mk _ _ _ ps,l=>if l<1 then -1 else Cb ps (l-1)
def Cb:List Ty->Int->Int
 | [],l=>l
 | t::r,l=>if 0<=l then Cb r (Bv t l) else l
end
mutual
theorem IU:∀(t:Ty) (l:Int),-1<=Bv t l/\(-1<=l->Bv t l<=l)
 | .mk _ _ _ ps,l=>by
  simp only [Bv];by_cases h:l<1
  ·rw [if_pos h];omega
  ·rw [if_neg h];have:=JJ ps (l-1) (by omega);omega
theorem JJ:∀(ts:List Ty) (l:Int),-1<=l -> -1<=Cb ts l/\Cb ts l<=l
 | [],l,h=>by simp [Cb,h]
 | t::r,l,h=>by
  simp only [Cb];by_cases h0:0<=l
  ·rw [if_pos h0];have h1:=IU t l;have h2:=JJ r (Bv t l) h1.1;omega
  ·rw [if_neg h0];omega
end
theorem GU:∀(t:Ty) (l:Int),-9223372036854775808<=l->l<=9223372036854775807->Ak Tryz.prog 24 [.agg (dTyc t),.int .i64 l] (.int .i64 (Bv t l))
 | .mk s n x ps,l,hl0,hl1=>by
  refine AS λhv=>?_;simp [Cx,EM,dTyc,maxLen] at hv;refine Af BK Tryz.func24 (by decide +kernel) rfl [1,2,3] rfl rfl ?_;refine Bi rfl ?_;refine Ab rfl (λh=>?_) (λh=>?_)
  ·refine BF rfl ?_;refine Aa rfl rfl (congrArg _ ?_);simp at h;simp [Bv,h]
  simp at h;refine BF rfl ?_;refine Am (λx:Nat×Int=>[(5,.imm (.int .i64 x.1)),(1,.imm (.int .i64 x.2)),(2,.ref 1 0)]) (λ_=>[(1,some (.immb 26 4 (dTyc (.mk s n x ps))))]) [2,3] (λx=>ps.length-x.1)
   (λy=>y.1<=ps.length/\Bv (.mk s n x ps) l=Cb (ps.drop y.1) y.2 /\ -1<=y.2/\y.2<l) (0,l-1)
   ⟨Nat.zero_le _,by simp [Bv];omega,by simp only;omega,by simp only;omega⟩ ⟨rfl,A3 (BI (by omega) (by omega)),rfl,trivial⟩ ⟨rfl,trivial⟩ rfl λy hi ih=>?_
  obtain ⟨i,m⟩:=y;obtain ⟨hi1,hi2,hi3,hi4⟩:=hi;simp only at hi1 hi2 hi3 hi4;refine BF rfl ?_;refine Ab rfl (λh=>?_) (λh=>?_)
  ·simp at h;obtain ⟨t,ht⟩:=Ap (l:=ps) (i:=i) (by omega);rw [Av ht] at hi2;refine BF rfl ?_;refine ki rfl (c:=dTyc t) (λ_=>⟨by simp,by simpa using A5 ht,by simp⟩) (by simp) ?_;refine Bi rfl ?_;refine Ad rfl (λ_=>GU t m (by omega) (by omega)) (by simp) ?_;refine Bi rfl ?_;have hb:=IU t m;refine Ae (ih (i+1,Bv t m) (by simp only;omega) ⟨by simp only;omega,by simp only;rw [hi2];simp [Cb];omega,by simp only;omega,by simp only;omega⟩) ⟨A3 (BI (by omega) (by omega)),rfl,rfl,trivial⟩ ⟨rfl,trivial⟩ rfl
  ·refine BF rfl ?_;refine Aa rfl rfl (congrArg _ ?_);rw [hi2];simp at h;by_cases hlt:i<ps.length
   ·obtain ⟨t,ht⟩:=Ap hlt;rw [Av ht];simp [Cb];omega
   ·rw [List.drop_eq_nil_of_le (by omega)];simp [Cb]
termination_by t=>SizeOf.sizeOf t
decreasing_by
 have:=List.sizeOf_lt_of_mem (List.mem_of_getElem? ht);simp_wf;omega
theorem K4:∀(t:Ty) (l:Int),-9223372036854775808<=l->l<=9223372036854775807->Ak Tryz.prog 25 [.agg (dTyc t),.int .i64 l] (.int .i64 (Bv t l))
 | .mk s n x ps,l,hl0,hl1=>by
  refine AS λhv=>?_;simp [Cx,EM,dTyc,maxLen] at hv;refine Af BK Tryz.func25 (by decide +kernel) rfl [1,2,3] rfl rfl ?_;refine Bi rfl ?_;refine Ab rfl (λh=>?_) (λh=>?_)
  ·refine BF rfl ?_;refine Aa rfl rfl (congrArg _ ?_);simp at h;simp [Bv,h]
  simp at h;refine BF rfl ?_;refine Am (λx:Nat×Int=>[(5,.imm (.int .i64 x.1)),(1,.imm (.int .i64 x.2)),(2,.ref 1 0)]) (λ_=>[(1,some (.immb 69 4 (dTyc (.mk s n x ps))))]) [2,3] (λx=>ps.length-x.1)
   (λy=>y.1<=ps.length/\Bv (.mk s n x ps) l=Cb (ps.drop y.1) y.2 /\ -1<=y.2/\y.2<l) (0,l-1)
   ⟨Nat.zero_le _,by simp [Bv];omega,by simp only;omega,by simp only;omega⟩ ⟨rfl,A3 (BI (by omega) (by omega)),rfl,trivial⟩ ⟨rfl,trivial⟩ rfl λy hi ih=>?_
  obtain ⟨i,m⟩:=y;obtain ⟨hi1,hi2,hi3,hi4⟩:=hi;simp only at hi1 hi2 hi3 hi4;refine BF rfl ?_;refine Ab rfl (λh=>?_) (λh=>?_)
  ·simp at h;obtain ⟨t,ht⟩:=Ap (l:=ps) (i:=i) (by omega);rw [Av ht] at hi2;refine BF rfl ?_;refine ki rfl (c:=dTyc t) (λ_=>⟨by simp,by simpa using A5 ht,by simp⟩) (by simp) ?_;refine Bi rfl ?_;refine Ad rfl (λ_=>K4 t m (by omega) (by omega)) (by simp) ?_;refine Bi rfl ?_;have hb:=IU t m;refine Ae (ih (i+1,Bv t m) (by simp only;omega) ⟨by simp only;omega,by simp only;rw [hi2];simp [Cb];omega,by simp only;omega,by simp only;omega⟩) ⟨A3 (BI (by omega) (by omega)),rfl,rfl,trivial⟩ ⟨rfl,trivial⟩ rfl
  ·refine BF rfl ?_;refine Aa rfl rfl (congrArg _ ?_);rw [hi2];simp at h;by_cases hlt:i<ps.length
   ·obtain ⟨t,ht⟩:=Ap hlt;rw [Av ht];simp [Cb];omega
   ·rw [List.drop_eq_nil_of_le (by omega)];simp [Cb]
termination_by t=>SizeOf.sizeOf t
decreasing_by
 have:=List.sizeOf_lt_of_mem (List.mem_of_getElem? ht);simp_wf;omega
def Cl (holes:Bool) (s n:Int) (x:Str) (k:Nat):Bool :=
 if s=1\/s=2\/s=3 then ((k:Int) == 0)&&n == 0&&x == []
 else if s=4 then ((k:Int) == 2)&&n == 0&&x == []
 else if s=5\/s=6\/s=7 then ((k:Int) == 1)&&n == 0&&x == []
 else if s=8 then ((k:Int) == 0)&&n == 0&&Di x
 else if s=9 then holes&&((k:Int) == 0)&&x == []&&F4 n 0 99
 else false
mutual
def CW (holes:Bool):Ty->Bool
 | .mk s n x ps=>Cl holes s n x ps.length&&Da holes ps
def Da (holes:Bool):List Ty->Bool
 | []=>true
 | t::r=>CW holes t&&Da holes r
end
theorem VH (holes:Bool):∀(t:Ty),Ak Tryz.prog 95 [.agg (dTyc t),.bool holes] (.bool (CW holes t))
 | .mk s n x ps=>by
  refine AS λhv=>?_;simp [Cx,EM,dTyc,maxLen] at hv;refine Af BK Tryz.func95 (by decide +kernel) rfl [1,2,3] rfl rfl ?_;have J:∀is:Bool,is=Cl holes s n x ps.length->DGo Tryz.prog Tryz.f95.ntmps (D8 []) (K5 XV Tryz.f95.results.toList (.ret (.imm (.bool (CW holes (.mk s n x ps)))) []))
    [.code (EN Tryz.f95 4)] [(6,.imm (.bool is)),(5,.imm (.int .i64 ps.length)),(1,.imm (.bool holes)),(2,.ref 1 0)] [(1,some (.immb 26 4 (dTyc (.mk s n x ps))))] [2,3]:=by
   intro is his;refine BF rfl ?_;refine Am (λy:Nat×Bool=>[(7,.imm (.int .i64 y.1)),(6,.imm (.bool y.2)),(5,.imm (.int .i64 ps.length)),(1,.imm (.bool holes)),(2,.ref 1 0)]) (λ_=>[(1,some (.immb 26 4 (dTyc (.mk s n x ps))))]) [2,3] (λy=>ps.length-y.1)
    (λy=>y.1<=ps.length/\CW holes (.mk s n x ps)=(y.2&&Da holes (ps.drop y.1))) (0,is) ⟨Nat.zero_le _,by simp [CW,his]⟩ ⟨rfl,rfl,rfl,rfl,rfl,trivial⟩ ⟨rfl,trivial⟩ rfl λy hi ih=>?_
   obtain ⟨i,b⟩:=y;obtain ⟨hi1,hi2⟩:=hi;simp only at hi1 hi2;refine BF rfl ?_;refine Ab rfl (λh=>?_) (λh=>?_)
   ·simp at h;obtain ⟨t,ht⟩:=Ap (l:=ps) (i:=i) (by omega);rw [Av ht] at hi2;refine BF rfl ?_;refine ki rfl (c:=dTyc t) (λ_=>⟨by simp,by simpa using A5 ht,by simp⟩) (by simp) ?_;refine Bi rfl ?_;refine Ad rfl (λ_=>VH holes t) (by simp) ?_;refine Bi rfl ?_;refine Ae (ih (i+1,CW holes t) (by simp only;omega) ⟨by simp only;omega,by simp only;rw [hi2,h.2];simp [Da]⟩) ⟨A3 (BI (by omega) (by omega)),rfl,rfl,rfl,rfl,trivial⟩ ⟨rfl,trivial⟩ rfl
   ·refine BF rfl ?_;refine Aa rfl rfl (congrArg _ ?_);rw [hi2];simp at h;by_cases hlt:i<ps.length
    ·rw [h hlt];rfl
    ·rw [List.drop_eq_nil_of_le (by omega)];simp [Da]
  by_cases h1:s=1
  ·subst h1;refine kg [.a,.a,.s] rfl (by simp) ?_;exact Ae (J _ (by simp [Cl])) ⟨rfl,A3 (by simp),rfl,rfl,trivial⟩ ⟨rfl,trivial⟩ rfl
  by_cases h2:s=2
  ·subst h2;refine kg [.a,.a,.a,.s] rfl (by simp) ?_;exact Ae (J _ (by simp [Cl])) ⟨rfl,A3 (by simp),rfl,rfl,trivial⟩ ⟨rfl,trivial⟩ rfl
  by_cases h3:s=3
  ·subst h3;refine kg [.a,.a,.a,.s] rfl (by simp) ?_;exact Ae (J _ (by simp [Cl])) ⟨rfl,A3 (by simp),rfl,rfl,trivial⟩ ⟨rfl,trivial⟩ rfl
  by_cases h4:s=4
  ·subst h4;refine kg [.a,.a,.a,.a,.s] rfl (by simp) ?_;exact Ae (J _ (by simp [Cl])) ⟨rfl,A3 (by simp),rfl,rfl,trivial⟩ ⟨rfl,trivial⟩ rfl
  by_cases h5:s=5
  ·subst h5;refine kg [.a,.a,.a,.a,.a,.a,.s] rfl (by simp) ?_;exact Ae (J _ (by simp [Cl])) ⟨rfl,A3 (by simp),rfl,rfl,trivial⟩ ⟨rfl,trivial⟩ rfl
  by_cases h6:s=6
  ·subst h6;refine kg [.a,.a,.a,.a,.a,.a,.a,.s] rfl (by simp) ?_;exact Ae (J _ (by simp [Cl])) ⟨rfl,A3 (by simp),rfl,rfl,trivial⟩ ⟨rfl,trivial⟩ rfl
  by_cases h7:s=7
  ·subst h7;refine kg [.a,.a,.a,.a,.a,.a,.a,.s] rfl (by simp) ?_;exact Ae (J _ (by simp [Cl])) ⟨rfl,A3 (by simp),rfl,rfl,trivial⟩ ⟨rfl,trivial⟩ rfl
  by_cases h8:s=8
  ·subst h8;refine kg [.a,.a,.a,.a,.a,.a,.a,.a] rfl (by simp) ?_;refine Ad rfl (λ_=>IS x) (by simp [An]) ?_;refine kg [.s] rfl (by simp) ?_;exact Ae (J _ (by simp [Cl])) ⟨rfl,A3 (by simp),rfl,rfl,trivial⟩ ⟨rfl,trivial⟩ rfl
  by_cases h9:s=9
  ·subst h9;refine kg [.a,.a,.a,.a,.a,.a,.a,.a,.a] rfl (by simp) ?_;refine Ad rfl (λ_=>MM n 0 99) (by simp [An]) ?_;refine kg [.s] rfl (by simp) ?_;exact Ae (J _ (by simp [Cl])) ⟨rfl,A3 (by simp),rfl,rfl,trivial⟩ ⟨rfl,trivial⟩ rfl
  refine kg [.f,.f,.f,.f,.f,.f,.f,.f,.f,.s] rfl (by simp [h1,h2,h3,h4,h5,h6,h7,h8,h9]) ?_;exact Ae (J _ (by simp [Cl,h1,h2,h3,h4,h5,h6,h7,h8,h9])) ⟨rfl,A3 (by simp),rfl,rfl,trivial⟩ ⟨rfl,trivial⟩ rfl
termination_by t=>SizeOf.sizeOf t
decreasing_by
 have:=List.sizeOf_lt_of_mem (List.mem_of_getElem? ht);simp_wf;omega
def FD (t:Ty):Bool:=decide (0<=Bv t 12)&&CW false t
theorem Nt (t:Ty):Ak Tryz.prog 44 [.agg (dTyc t)] (.bool (FD t)):=by
 refine Af BK Tryz.func44 (by decide +kernel) rfl [1,2,3] rfl rfl ?_;refine Bi rfl ?_;refine Ad rfl (λ_=>GU t 12 (by decide) (by decide)) (by simp) ?_;refine Bi rfl ?_;refine Ad rfl (λ_=>VH false t) (by simp [An]) ?_;refine Bi rfl ?_;refine Aa rfl rfl (congrArg _ ?_);simp [FD]
def Ea (s n:Int) (x:Str) (k:Nat):Bool :=
 if s=1\/s=5 then ((k:Int) == 0)&&n == 0&&x == []
 else if s=2 then ((k:Int) == 0)&&n == 0&&EU x
 else if s=3 then ((k:Int) == 0)&&x == []&&F4 n (-1000000000) 1000000000
 else if s=4 then ((k:Int) == 0)&&x == []&&F4 n 0 1
 else if s=6 then decide ((k:Int)<=3)&&n == 0&&Di x
 else false
mutual
def BN:Ty->Bool
 | .mk s n x ps=>Ea s n x ps.length&&BD ps
def BD:List Ty->Bool
 | []=>true
 | t::r=>BN t&&BD r
end
theorem ZG:∀(t:Ty),Ak Tryz.prog 97 [.agg (dTyc t)] (.bool (BN t))
 | .mk s n x ps=>by
  refine AS λhv=>?_;simp [Cx,EM,dTyc,maxLen] at hv;refine Af BK Tryz.func97 (by decide +kernel) rfl [1,2,3] rfl rfl ?_;have J:∀is:Bool,is=Ea s n x ps.length->DGo Tryz.prog Tryz.f97.ntmps (D8 []) (K5 XV Tryz.f97.results.toList (.ret (.imm (.bool (BN (.mk s n x ps)))) []))
    [.code (EN Tryz.f97 4)] [(4,.imm (.bool is)),(3,.imm (.int .i64 ps.length)),(1,.ref 1 0)] [(1,some (.immb 69 4 (dTyc (.mk s n x ps))))] [2,3]:=by
   intro is his;refine BF rfl ?_;refine Am (λy:Nat×Bool=>[(5,.imm (.int .i64 y.1)),(4,.imm (.bool y.2)),(3,.imm (.int .i64 ps.length)),(1,.ref 1 0)]) (λ_=>[(1,some (.immb 69 4 (dTyc (.mk s n x ps))))]) [2,3] (λy=>ps.length-y.1)
    (λy=>y.1<=ps.length/\BN (.mk s n x ps)=(y.2&&BD (ps.drop y.1))) (0,is) ⟨Nat.zero_le _,by simp [BN,his]⟩ ⟨rfl,rfl,rfl,rfl,trivial⟩ ⟨rfl,trivial⟩ rfl λy hi ih=>?_
   obtain ⟨i,b⟩:=y;obtain ⟨hi1,hi2⟩:=hi;simp only at hi1 hi2;refine BF rfl ?_;refine Ab rfl (λh=>?_) (λh=>?_)
   ·simp at h;obtain ⟨t,ht⟩:=Ap (l:=ps) (i:=i) (by omega);rw [Av ht] at hi2;refine BF rfl ?_;refine ki rfl (c:=dTyc t) (λ_=>⟨by simp,by simpa using A5 ht,by simp⟩) (by simp) ?_;refine Bi rfl ?_;refine Ad rfl (λ_=>ZG t) (by simp) ?_;refine Bi rfl ?_;exact Ae (ih (i+1,BN t) (by simp only;omega) ⟨by simp only;omega,by simp only;rw [hi2,h.2];simp [BD]⟩) ⟨A3 (BI (by omega) (by omega)),rfl,rfl,rfl,trivial⟩ ⟨rfl,trivial⟩ rfl
   ·refine BF rfl ?_;refine Aa rfl rfl (congrArg _ ?_);rw [hi2];simp at h;by_cases hlt:i<ps.length
    ·rw [h hlt];rfl
    ·rw [List.drop_eq_nil_of_le (by omega)];simp [BD]
  by_cases h1:s=1
  ·subst h1;refine kg [.a,.a,.s] rfl (by simp) ?_;exact Ae (J _ (by simp [Ea])) ⟨rfl,A3 (by simp),rfl,trivial⟩ ⟨rfl,trivial⟩ rfl
  by_cases h2:s=2
  ·subst h2;refine kg [.a,.a,.a] rfl (by simp) ?_;refine Ad rfl (λ_=>If x) (by simp [An]) ?_;refine kg [.s] rfl (by simp) ?_;exact Ae (J _ (by simp [Ea])) ⟨rfl,A3 (by simp),rfl,trivial⟩ ⟨rfl,trivial⟩ rfl
  by_cases h3:s=3
  ·subst h3;refine kg [.a,.a,.a,.a] rfl (by simp) ?_;refine Ad rfl (λ_=>MM n (-1000000000) 1000000000) (by simp [An]) ?_;refine kg [.s] rfl (by simp) ?_;exact Ae (J _ (by simp [Ea])) ⟨rfl,A3 (by simp),rfl,trivial⟩ ⟨rfl,trivial⟩ rfl
  by_cases h4:s=4
  ·subst h4;refine kg [.a,.a,.a,.a,.a] rfl (by simp) ?_;refine Ad rfl (λ_=>MM n 0 1) (by simp [An]) ?_;refine kg [.s] rfl (by simp) ?_;exact Ae (J _ (by simp [Ea])) ⟨rfl,A3 (by simp),rfl,trivial⟩ ⟨rfl,trivial⟩ rfl
  by_cases h5:s=5
  ·subst h5;refine kg [.a,.a,.s] rfl (by simp) ?_;exact Ae (J _ (by simp [Ea])) ⟨rfl,A3 (by simp),rfl,trivial⟩ ⟨rfl,trivial⟩ rfl
  by_cases h6:s=6
  ·subst h6;refine kg [.a,.a,.a,.a,.a,.a] rfl (by simp) ?_;refine Ad rfl (λ_=>IS x) (by simp [An]) ?_;refine kg [.s] rfl (by simp) ?_;exact Ae (J _ (by simp [Ea])) ⟨rfl,A3 (by simp),rfl,trivial⟩ ⟨rfl,trivial⟩ rfl
  refine kg [.f,.f,.f,.f,.f,.f,.s] rfl (by simp [h1,h2,h3,h4,h5,h6]) ?_;exact Ae (J _ (by simp [Ea,h1,h2,h3,h4,h5,h6])) ⟨rfl,A3 (by simp),rfl,trivial⟩ ⟨rfl,trivial⟩ rfl
termination_by t=>SizeOf.sizeOf t
decreasing_by
 have:=List.sizeOf_lt_of_mem (List.mem_of_getElem? ht);simp_wf;omega
mutual
def BH:Tm->Int->Int->Int
 | .mk _ _ _ ks _,l,d=>if l<1\/d<1 then -1 else Ci ks (l-1) (d-1)
def Ci:List Tm->Int->Int->Int
 | [],l,_=>l
 | t::r,l,d=>if 0<=l then Ci r (BH t l d) d else l
end
mutual
theorem IV:∀(t:Tm) (l d:Int),-1<=BH t l d/\(-1<=l->BH t l d<=l)
 | .mk _ _ _ ks _,l,d=>by
  simp only [BH];by_cases h:l<1\/d<1
  ·rw [if_pos h];omega
  ·rw [if_neg h];have:=O0 ks (l-1) (d-1) (by omega);omega
theorem O0:∀(ts:List Tm) (l d:Int),-1<=l -> -1<=Ci ts l d/\Ci ts l d<=l
 | [],l,d,h=>by simp [Ci,h]
 | t::r,l,d,h=>by
  simp only [Ci];by_cases h0:0<=l
  ·rw [if_pos h0];have h1:=IV t l d;have h2:=O0 r (BH t l d) d h1.1;omega
  ·rw [if_neg h0];omega
end
theorem XI:∀(t:Tm) (l d:Int),-9223372036854775808<=l->l<=9223372036854775807 -> -9223372036854775807<=d->d<=9223372036854775807->Ak Tryz.prog 181 [.agg (CO t),.int .i64 l,.int .i64 d] (.int .i64 (BH t l d))
 | .mk op n x ks ps,l,d,hl0,hl1,hd0,hd1=>by
  refine AS λhv=>?_;simp [Cx,EM,CO,maxLen] at hv;refine Af BK Tryz.func181 (by decide +kernel) rfl [1,2,3] rfl rfl ?_;refine Bi rfl ?_;refine Ab rfl (λh=>?_) (λh=>?_)
  ·refine BF rfl ?_;refine Aa rfl rfl (congrArg _ ?_);simp at h;simp only [BH];rw [if_pos (by omega)]
  simp at h;refine BF rfl ?_;refine Am (λx:Nat×Int=>[(7,.imm (.int .i64 x.1)),(1,.imm (.int .i64 x.2)),(2,.imm (.int .i64 d)),(3,.ref 1 0)]) (λ_=>[(1,some (.immb 165 5 (CO (.mk op n x ks ps))))]) [2,3] (λx=>ks.length-x.1)
   (λy=>y.1<=ks.length/\BH (.mk op n x ks ps) l d=Ci (ks.drop y.1) y.2 (d-1) /\ -1<=y.2/\y.2<l) (0,l-1)
   ⟨Nat.zero_le _,by simp only [BH,List.drop_zero];rw [if_neg (by omega)],by simp only;omega,by simp only;omega⟩ ⟨rfl,A3 (BI (by omega) (by omega)),rfl,rfl,trivial⟩ ⟨rfl,trivial⟩ rfl λy hi ih=>?_
  obtain ⟨i,m⟩:=y;obtain ⟨hi1,hi2,hi3,hi4⟩:=hi;simp only at hi1 hi2 hi3 hi4;refine BF rfl ?_;refine Ab rfl (λh=>?_) (λh=>?_)
  ·simp at h;obtain ⟨t,ht⟩:=Ap (l:=ks) (i:=i) (by omega);rw [Av ht] at hi2;refine BF rfl ?_;refine ki rfl (c:=CO t) (λ_=>⟨by simp,by simpa using IP ht,by simp⟩) (by simp) ?_;refine Bi rfl ?_;have hw:IntKind.i64.wrap (d-1)=d-1:=BI (by omega) (by omega);refine Ad rfl (v:=.int .i64 (BH t m (d-1))) (λ_=>by rw [hw];exact XI t m (d-1) (by omega) (by omega) (by omega) (by omega)) (by simp) ?_;refine Bi rfl ?_;have hb:=IV t m (d-1);exact Ae (ih (i+1,BH t m (d-1)) (by simp only;omega) ⟨by simp only;omega,by simp only;rw [hi2];simp only [Ci];rw [if_pos h.2],by simp only;omega,by simp only;omega⟩) ⟨A3 (BI (by omega) (by omega)),rfl,rfl,rfl,trivial⟩ ⟨rfl,trivial⟩ rfl
  ·refine BF rfl ?_;refine Aa rfl rfl (congrArg _ ?_);rw [hi2];simp at h;by_cases hlt:i<ks.length
   ·obtain ⟨t,ht⟩:=Ap hlt;rw [Av ht];simp only [Ci];rw [if_neg (by omega)]
   ·rw [List.drop_eq_nil_of_le (by omega)];simp [Ci]
termination_by t=>SizeOf.sizeOf t
decreasing_by
 have:=List.sizeOf_lt_of_mem (List.mem_of_getElem? ht);simp_wf;omega
def Ff (n:Int) (x:Str) (p:Nat) (fn ft fp:Bool):Bool:=(fn||n == 0)&&(ft||x == [])&&(fp||((p:Int) == 0))
theorem B7 (op n:Int) (x:Str) (ks:List Tm) (ps:List Ty) (a b c:Bool):Ak Tryz.prog 207 [.agg (CO (.mk op n x ks ps)),.bool a,.bool b,.bool c] (.bool (Ff n x ps.length a b c)):=by
 refine Af BK Tryz.func207 (by decide +kernel) rfl [1,2,3] rfl rfl ?_;refine kg [] rfl (by cases a <;> cases b <;> cases c <;> simp) ?_;refine Aa rfl rfl (congrArg _ ?_);cases a <;> cases b <;> cases c <;> simp [Ff]
end Go.Hk
namespace Go.Hk
def O7 (i j k:Nat):Nat:=bif Nat.beq k i then j else bif Nat.beq k j then i else k
theorem GG (i j k:Nat):O7 i j (O7 i j k)=k:=by
 have hb:∀a b:Nat,Nat.beq a b=decide (a=b):=λa b=>by
  cases h:Nat.beq a b with
  | true=>simp [Nat.eq_of_beq_eq_true h]
  | false =>
   have:a≠b:=λe=>by subst e;simp at h
   simp [this]
 unfold O7;simp only [hb];by_cases h1:k=i
 ·subst h1;simp only [decide_true,cond_true];by_cases h2:j=k
  ·subst h2;simp
  ·simp [h2]
 ·by_cases h2:k=j
  ·subst h2;simp [h1]
  ·simp [h1,h2]
def UE (ρ:Nat->Nat):St->St
 | []=>[]
 | (i,some b)::r=>(ρ i,some (UF ρ b))::UE ρ r
 | (i,none)::r=>(ρ i,none)::UE ρ r
theorem FJ {i j:Nat} {k:Nat} {b:Blk}:∀{st:St},At (UE (O7 i j) st) k b->∃b0,At st (O7 i j k) b0/\b=UF (O7 i j) b0
 | [],h=>by simp [UE,At,lk] at h
 | (a,some x)::r,h=>by
  simp only [UE] at h;unfold At at h ⊢;by_cases ha:O7 i j a=k
  ·subst ha;rw [Aw] at h;rw [GG,Aw];cases h;exact ⟨x,rfl,rfl⟩
  ·rw [A6 _ _ ha] at h;rw [A6 _ _ (λe=>ha (by rw [e,GG]))];exact FJ h
 | (a,none)::r,h=>by
  simp only [UE] at h;unfold At at h ⊢;by_cases ha:O7 i j a=k
  ·subst ha;rw [Aw] at h;cases h
  ·rw [A6 _ _ ha] at h;rw [A6 _ _ (λe=>ha (by rw [e,GG]))];exact FJ h
theorem AG {P:Program} {n:Nat} {F:List Nat} {Q:DQ} {env:Env} {st:St} {ids:List Nat} {todo:List DI} (i j:Nat) (hF:(Fo F i||Fo F j)=false)
  (h:DGo P n F Q todo (cJ (O7 i j) env) (UE (O7 i j) st) (ids.map (O7 i j))):DGo P n F Q todo env st ids:=by
 intro b cs I μ a w items hd hc;have hn:∀k g,μ k=some g->(λk=>μ (O7 i j k)) (O7 i j k)=some g:=λk g hg=>by simp only [GG];exact hg
 have hE:Ext I μ st w I (λk=>μ (O7 i j k)) (UE (O7 i j) st) w :=
  {imm:=Imm.le_refl I,os:=rfl,tape:=rfl,output:=rfl,size:=Nat.le_refl _,block:=λ_ _ _=>rfl,
     fresh:=λb _ ⟨k,b',g,h1,h2,h3⟩=>let ⟨b0,q,_⟩:=FJ h1;⟨_,b0,g,q,h2,h3⟩,old:=λ_ _ _=>rfl }
 have hc':Conc n I (λk=>μ (O7 i j k)) (cJ (O7 i j) env) (UE (O7 i j) st) (ids.map (O7 i j)) a w :=
  {imm:=hc.imm
   blk:=λk b' hl=>by
    obtain ⟨b0,h1,rfl⟩:=FJ hl;obtain ⟨g,hg,hr⟩:=hc.blk _ b0 h1;exact ⟨g,hg,hr.ren λx _ g hg=>hn x g hg⟩
   apart:=λk b' g m hl hg hk=>by
    obtain ⟨b0,h1,rfl⟩:=FJ hl;exact hc.apart _ b0 g m h1 hg hk
   inj:=λk k' bi bj gi gj m hi hj hgi hgj hki hkj=>by
    obtain ⟨b1,h1,_⟩:=FJ hi;obtain ⟨b2,h2,_⟩:=FJ hj;have:=hc.inj _ _ b1 b2 gi gj m h1 h2 hgi hgj hki hkj;have e:=congrArg (O7 i j) this
    rwa [GG,GG] at e
   nodup:=by
    have:=hc.nodup;rw [List.nodup_iff_pairwise_ne] at this ⊢;exact List.Pairwise.map _ (λx y hxy e=>hxy (by have e:=congrArg (O7 i j) e;rwa [GG,GG] at e)) this
   idsFree:=λk hk=>by
    obtain ⟨x,hx,rfl⟩:=List.mem_map.1 hk;show μ (O7 i j (O7 i j x))=none;rw [GG];exact hc.idsFree x hx
   size:=hc.size
   env:=λt d hl=>by
    obtain ⟨d0,h1,rfl⟩:=Z8 hl;exact (hc.env t d0 h1).ren λx _ g hg=>hn x g hg
   defers:=hc.defers.ext hE }
 simp only [Bool.or_eq_false_iff] at hF;have hfix:∀k∈F,O7 i j k=k:=λk hk=>by
  have h1:Nat.beq k i=false:=by
   cases hb:Nat.beq k i with
   | false=>rfl
   | true=>rw [<- Nat.eq_of_beq_eq_true hb,BT.2 hk] at hF;cases hF.1
  have h2:Nat.beq k j=false:=by
   cases hb:Nat.beq k j with
   | false=>rfl
   | true=>rw [<- Nat.eq_of_beq_eq_true hb,BT.2 hk] at hF;cases hF.2
  simp [O7,h1,h2]
 refine (h b cs I _ a w items hd hc').mono λe a' w' hp=>?_;refine hp.back (λk hk g hg=>by show μ (O7 i j k)=some g;rw [hfix k hk];exact hg) ?_;exact hE
end Go.Hk
namespace Go.Hk
open Go.Proofs
mutual
def Aj:Ty->Nat
 | .mk _ _ _ ps=>1+Ag ps
def Ag:List Ty->Nat
 | []=>0
 | t::r=>Aj t+Ag r
end
mutual
theorem Ez:∀(t:Ty) (l:Int),0<=Bv t l->Bv t l+Aj t=l
 | .mk _ _ _ ps,l,h=>by
  simp only [Bv] at h ⊢;by_cases h0:l<1
  ·rw [if_pos h0] at h;omega
  ·rw [if_neg h0] at h ⊢;have:=JI ps (l-1) h;simp only [Aj];omega
theorem JI:∀(ts:List Ty) (l:Int),0<=Cb ts l->Cb ts l+Ag ts=l
 | [],l,h=>by simp [Cb,Ag]
 | t::r,l,h=>by
  simp only [Cb] at h ⊢;by_cases h0:0<=l
  ·rw [if_pos h0] at h ⊢;have h1:=JI r (Bv t l) h;have h2:=JJ r (Bv t l) (IU t l).1;have h3:=Ez t l (by omega);simp only [Ag];omega
  ·rw [if_neg h0] at h;omega
end
mutual
def Bs:Ty->List Str
 | .mk s _ x ps=>if s=2 then [x] else AJ ps
def AJ:List Ty->List Str
 | []=>[]
 | t::r=>Bs t++AJ r
end
mutual
theorem LN:∀t:Ty,(Bs t).length<=Aj t
 | .mk s _ x ps=>by
  simp only [Bs,Aj]
  split
  ·simp
  ·have:=HP ps;omega
theorem HP:∀ts:List Ty,(AJ ts).length<=Ag ts
 | []=>by simp [AJ]
 | t::r=>by
  have h1:=LN t;have h2:=HP r;simp only [AJ,Ag,List.length_append];omega
end
theorem E6 (a b:List Ty):AJ (a++b)=AJ a++AJ b:=by
 induction a with
 | nil=>rfl
 | cons t r ih=>simp [AJ,ih]
theorem BA (a b:List Ty):Ag (a++b)=Ag a+Ag b:=by
 induction a with
 | nil=>simp [Ag]
 | cons t r ih=>simp [Ag,ih];omega
theorem Cc {ps:List Ty} {i:Nat} {t:Ty} (h:ps[i]?=some t):Ag (ps.take i)+Aj t<=Ag ps:=by
 have e:ps=ps.take i++t::ps.drop (i+1):=by rw [<- Av h,List.take_append_drop]
 have:=congrArg Ag e;rw [BA] at this;simp only [Ag] at this;omega
theorem RG (l:List Str):∀c∈DV l,c.length=1:=by
 intro c hc;simp only [DV,List.mem_map] at hc;obtain ⟨a,_,rfl⟩:=hc;rfl
theorem K6:∀(t:Ty),Aj t<=1000000->Ak Tryz.prog 98 [.agg (dTyc t)] (.sl (DV (Bs t)))
 | .mk s n x ps,hN=>by
  refine AS λhv=>?_;simp [Cx,EM,dTyc,maxLen] at hv;refine Af BK Tryz.func98 (by decide +kernel) rfl [1,2,3,4,5] rfl rfl ?_;refine Bi rfl ?_;refine Ab rfl (λh=>?_) (λh=>?_)
  ·refine BF rfl ?_;refine Aa rfl rfl (congrArg _ ?_);simp at h;simp [Bs,h,DV]
  simp at h;have hNp:Ag ps<=1000000:=by simp only [Aj] at hN;omega
  refine BF rfl ?_;refine Am (λy:Nat×Bool×List (List V)=>[(4,.imm (.int .i64 y.1)),(3,match y.2.1 with | false=>.nils | true=>.own 2 y.2.2.length),(1,.ref 1 0)])
   (λy=>match y.2.1 with | false=>[(1,some (.immb 69 4 (dTyc (.mk s n x ps))))] | true=>[(2,some (.row 9 1 y.2.2)),(1,some (.immb 69 4 (dTyc (.mk s n x ps))))]) [3,4] (λy=>ps.length-y.1)
   (λy=>y.1<=ps.length/\DV (AJ (ps.take y.1))=y.2.2/\(y.2.1=false->y.2.2=[])) (0,false,[]) ⟨Nat.zero_le _,rfl,λ_=>rfl⟩ ⟨rfl,rfl,rfl,trivial⟩ ⟨rfl,trivial⟩ rfl λy hi ih=>?_
  obtain ⟨i,b,es⟩:=y;obtain ⟨hi1,hi2,hi3⟩:=hi;simp only at hi1 hi2 hi3;cases b with
  | false =>
   have hi3:=hi3 rfl;subst hi3;refine BF rfl ?_;refine Ab rfl (λh=>?_) (λh=>?_)
   ·simp at h;obtain ⟨t,ht⟩:=Ap h;have hnt:=Cc ht;have hlt:=LN t;have hl2:=HP (ps.take i);have hlen:=congrArg List.length hi2;simp at hlen;refine BF rfl ?_;refine ki rfl (c:=dTyc t) (λ_=>⟨by simp,by simpa using A5 ht,by simp⟩) (by simp) ?_;refine Bi rfl ?_;refine Ad rfl (λ_=>K6 t (by omega)) (by simp) ?_;refine Bi rfl ?_;refine Cm BK rfl ⟨RG _,by simp [maxLen];omega,by simp;omega,trivial⟩ ?_;refine Bi rfl ?_;refine AG 2 3 rfl ?_;exact Ae (ih (i+1,true,[]++DV (Bs t)) (by simp only;omega) ⟨by simp only;omega,by simp only;rw [Bn ht,E6,EX,hi2];simp [AJ],λh=>by cases h⟩) ⟨A3 (BI (by simp only;omega) (by simp only;omega)),rfl,rfl,trivial⟩ ⟨rfl,rfl,trivial⟩ rfl
   ·refine BF rfl ?_;refine Au ⟨_,rfl,?_,trivial⟩;simp at h;rw [List.take_of_length_le (by omega)] at hi2;simp only [Bs];rw [if_neg (by assumption),hi2];rfl
  | true =>
   refine BF rfl ?_;refine Ab rfl (λh=>?_) (λh=>?_)
   ·simp at h;obtain ⟨t,ht⟩:=Ap h;have hnt:=Cc ht;have hlt:=LN t;have hl2:=HP (ps.take i);have hlen:=congrArg List.length hi2;simp at hlen;refine BF rfl ?_;refine ki rfl (c:=dTyc t) (λ_=>⟨by simp,by simpa using A5 ht,by simp⟩) (by simp) ?_;refine Bi rfl ?_;refine Ad rfl (λ_=>K6 t (by omega)) (by simp) ?_;refine Bi rfl ?_;refine Cm BK rfl ⟨RG _,by simp [maxLen];omega,by simp;omega,trivial⟩ ?_;refine Bi rfl ?_;refine AG 2 3 rfl ?_;exact Ae (ih (i+1,true,es++DV (Bs t)) (by simp only;omega) ⟨by simp only;omega,by simp only;rw [Bn ht,E6,EX,hi2];simp [AJ],λh=>by cases h⟩) ⟨A3 (BI (by simp only;omega) (by simp only;omega)),rfl,rfl,trivial⟩ ⟨rfl,rfl,trivial⟩ rfl
   ·refine Cu 2 rfl ?_;refine BF rfl ?_;refine Au ⟨_,rfl,?_,trivial⟩;simp at h;rw [List.take_of_length_le (by omega)] at hi2;simp only [Bs];rw [if_neg (by assumption),hi2];rfl
termination_by t=>SizeOf.sizeOf t
decreasing_by
 all_goals
  have:=List.sizeOf_lt_of_mem (List.mem_of_getElem? ht);simp_wf;omega
def Bd (pre:List Str):List Str->Bool
 | []=>true
 | x::r=>!G7 pre x&&Bd (pre++[x]) r
def B1 (l:List Str):Bool:=Bd [] l
theorem eK (l:List Str) (n:Nat):(DV l).take n=DV (l.take n):=by simp [DV,List.map_take]
theorem Ow (l:List Str):Ak Tryz.prog 94 [.sl (DV l)] (.bool (B1 l)):=by
 refine AS λhv=>?_;simp [Cx,EM,maxLen] at hv;refine Af BK Tryz.func94 (by decide +kernel) rfl [1,2] rfl rfl ?_;refine Bi rfl ?_;refine Am (λi:Nat=>[(3,.imm (.int .i64 i)),(0,.imm (.sl (DV l)))]) (λ_=>[]) [1] (λi=>l.length-i) (λi=>i<=l.length/\B1 l=Bd (l.take i) (l.drop i)) 0
  ⟨Nat.zero_le _,rfl⟩ ⟨rfl,rfl,trivial⟩ trivial rfl λi hi ih=>?_
 refine BF rfl ?_;refine Ab rfl (λh=>?_) (λh=>?_)
 ·simp at h;obtain ⟨t,ht⟩:=Ap h;have e:=hi.2;rw [Av ht] at e;refine kd [] rfl (by simp;exact ⟨by omega,RG l⟩) ?_;refine ki rfl (c:=[.str t]) (λ_=>⟨by simp,by simpa using Xq ht,rfl⟩) (by simp) ?_;refine Bi rfl ?_;refine Ad rfl (v:=.bool (G7 (l.take i) t)) (λ_=>?_) (by simp) ?_
  ·have:=lZ (l.take i) t;rw [<- eK] at this;exact this
  refine kg [] rfl (by first | exact ⟨by kernel_rfl,trivial⟩ | simp) ?_;refine Ab rfl (λh=>?_) (λh=>?_)
  ·refine BF rfl ?_;refine Aa rfl rfl (congrArg _ ?_);rw [e];simp [Bd,h]
  ·refine BF rfl ?_;exact Ae (ih (i+1) (by omega) ⟨by omega,by rw [e,Bn ht];simp [Bd,h]⟩) ⟨A3 (BI (by omega) (by omega)),rfl,trivial⟩ trivial rfl
 ·refine BF rfl ?_;refine Aa rfl rfl (congrArg _ ?_);simp at h;rw [hi.2,List.drop_eq_nil_of_le (by omega)];rfl
def Fg (t:Ty):Bool:=decide (0<=Bv t 12)&&BN t&&B1 (Bs t)
theorem lW (t:Ty):Ak Tryz.prog 46 [.agg (dTyc t)] (.bool (Fg t)):=by
 refine Af BK Tryz.func46 (by decide +kernel) rfl [1,2,3] rfl rfl ?_;refine Bi rfl ?_;refine Ad rfl (λ_=>K4 t 12 (by decide) (by decide)) (by simp) ?_;refine Bi rfl ?_;refine Ad rfl (λ_=>ZG t) (by simp [An]) ?_;refine Bi rfl ?_;refine Ad rfl (v:=.sl (DV (Bs t))) (λhc=>K6 t ?_) (by simp [An]) ?_
 ·simp [An] at hc;have:=Ez t 12 hc.1;omega
 refine Bi rfl ?_;refine Ad rfl (λ_=>Ow (Bs t)) (by simp [An]) ?_;refine Bi rfl ?_;refine Aa rfl rfl (congrArg _ ?_);simp [Fg]
def CL (op n:Int) (x:Str) (k p:Nat):Bool :=
 if op=1 then ((k:Int) == 0)&&Ff n x p true false false&&F4 n (-1000000000) 1000000000
 else if op=2 then ((k:Int) == 0)&&Ff n x p true false false&&F4 n 0 1
 else if op=3\/op=21\/op=25\/op=28 then ((k:Int) == 0)&&Ff n x p false false false
 else if op=4 then ((k:Int) == 0)&&Ff n x p false true false&&EU x
 else if op=5\/op=27 then ((k:Int) == 1)&&Ff n x p false true false&&EU x
 else if op=7 then ((k:Int) == 2)&&Ff n x p false true false&&EU x
 else if op=8 then ((k:Int) == 3)&&Ff n x p false false false
 else if op=14 then decide ((k:Int)<=3)&&Ff n x p false true false&&Di x
 else if op=15 then F4 p 1 5&&((k:Int) == 1+(p:Int))&&Ff n x p false false true
 else if op=16\/op=17\/op=19\/op=20\/op=23\/op=26 then ((k:Int) == 1)&&Ff n x p false false false
 else if op=24 then ((k:Int) == 1)&&Ff n x p true false false&&F4 n 0 3
 else if op=6\/op=9\/op=10\/op=11\/op=12\/op=13\/op=18\/op=22 then ((k:Int) == 2)&&Ff n x p false false false
 else false
theorem nD (op n:Int) (x:Str) (ks:List Tm) (ps:List Ty):Ak Tryz.prog 197 [.agg (CO (.mk op n x ks ps))] (.bool (CL op n x ks.length ps.length)):=by
 refine AS λhv=>?_;simp [Cx,EM,CO,maxLen] at hv;refine Af BK Tryz.func197 (by decide +kernel) rfl [1,2,3] rfl rfl ?_;by_cases h1:op=1
 ·subst h1;refine kg [.a] rfl (by simp) ?_;refine Ad rfl (λ_=>B7 1 n x ks ps true false false) (by simp [An]) ?_;refine Bi rfl ?_;refine Ad rfl (λ_=>MM n (-1000000000) 1000000000) (by simp [An]) ?_;refine Bi rfl ?_;exact Au ⟨_,rfl,tV (congrArg _ (by simp [CL])),trivial⟩
 by_cases h2:op=2
 ·subst h2;refine kg [.a,.a] rfl (by simp) ?_;refine Ad rfl (λ_=>B7 2 n x ks ps true false false) (by simp [An]) ?_;refine Bi rfl ?_;refine Ad rfl (λ_=>MM n 0 1) (by simp [An]) ?_;refine Bi rfl ?_;exact Au ⟨_,rfl,tV (congrArg _ (by simp [CL])),trivial⟩
 by_cases h3:op=3
 ·subst h3;refine kg [.a,.a,.a,.a] rfl (by simp) ?_;refine Ad rfl (λ_=>B7 3 n x ks ps false false false) (by simp [An]) ?_;refine Bi rfl ?_;exact Au ⟨_,rfl,tV (congrArg _ (by simp [CL])),trivial⟩
 by_cases h21:op=21
 ·subst h21;refine kg [.a,.a,.a,.a,.a] rfl (by simp) ?_;refine Ad rfl (λ_=>B7 21 n x ks ps false false false) (by simp [An]) ?_;refine Bi rfl ?_;exact Au ⟨_,rfl,tV (congrArg _ (by simp [CL])),trivial⟩
 by_cases h25:op=25
 ·subst h25;refine kg [.a,.a,.a,.a,.a,.a] rfl (by simp) ?_;refine Ad rfl (λ_=>B7 25 n x ks ps false false false) (by simp [An]) ?_;refine Bi rfl ?_;exact Au ⟨_,rfl,tV (congrArg _ (by simp [CL])),trivial⟩
 by_cases h28:op=28
 ·subst h28;refine kg [.a,.a,.a,.a,.a,.a] rfl (by simp) ?_;refine Ad rfl (λ_=>B7 28 n x ks ps false false false) (by simp [An]) ?_;refine Bi rfl ?_;exact Au ⟨_,rfl,tV (congrArg _ (by simp [CL])),trivial⟩
 by_cases h4:op=4
 ·subst h4;refine kg [.a,.a,.a,.a,.a,.a,.a] rfl (by simp) ?_;refine Ad rfl (λ_=>B7 4 n x ks ps false true false) (by simp [An]) ?_;refine Bi rfl ?_;refine Ad rfl (λ_=>If x) (by simp [An]) ?_;refine Bi rfl ?_;exact Au ⟨_,rfl,tV (congrArg _ (by simp [CL])),trivial⟩
 by_cases h5:op=5
 ·subst h5;refine kg [.a,.a,.a,.a,.a,.a,.a,.a,.a] rfl (by simp) ?_;refine Ad rfl (λ_=>B7 5 n x ks ps false true false) (by simp [An]) ?_;refine Bi rfl ?_;refine Ad rfl (λ_=>If x) (by simp [An]) ?_;refine Bi rfl ?_;exact Au ⟨_,rfl,tV (congrArg _ (by simp [CL])),trivial⟩
 by_cases h27:op=27
 ·subst h27;refine kg [.a,.a,.a,.a,.a,.a,.a,.a,.a] rfl (by simp) ?_;refine Ad rfl (λ_=>B7 27 n x ks ps false true false) (by simp [An]) ?_;refine Bi rfl ?_;refine Ad rfl (λ_=>If x) (by simp [An]) ?_;refine Bi rfl ?_;exact Au ⟨_,rfl,tV (congrArg _ (by simp [CL])),trivial⟩
 by_cases h7:op=7
 ·subst h7;refine kg [.a,.a,.a,.a,.a,.a,.a,.a,.a,.a] rfl (by simp) ?_;refine Ad rfl (λ_=>B7 7 n x ks ps false true false) (by simp [An]) ?_;refine Bi rfl ?_;refine Ad rfl (λ_=>If x) (by simp [An]) ?_;refine Bi rfl ?_;exact Au ⟨_,rfl,tV (congrArg _ (by simp [CL])),trivial⟩
 by_cases h8:op=8
 ·subst h8;refine kg [.a,.a,.a,.a,.a,.a,.a,.a,.a,.a,.a] rfl (by simp) ?_;refine Ad rfl (λ_=>B7 8 n x ks ps false false false) (by simp [An]) ?_;refine Bi rfl ?_;exact Au ⟨_,rfl,tV (congrArg _ (by simp [CL])),trivial⟩
 by_cases h14:op=14
 ·subst h14;refine kg [.a,.a,.a,.a,.a,.a,.a,.a,.a,.a,.a,.a] rfl (by simp) ?_;refine Ad rfl (λ_=>B7 14 n x ks ps false true false) (by simp [An]) ?_;refine Bi rfl ?_;refine Ad rfl (λ_=>IS x) (by simp [An]) ?_;refine Bi rfl ?_;exact Au ⟨_,rfl,tV (congrArg _ (by simp [CL])),trivial⟩
 by_cases h15:op=15
 ·subst h15;refine kg [.a,.a,.a,.a,.a,.a,.a,.a,.a,.a,.a,.a,.a] rfl (by simp) ?_;refine Ad rfl (v:=.bool (F4 ps.length 1 5)) (λ_=>by have:=MM ps.length 1 5;simpa using this) (by simp [An]) ?_;refine Bi rfl ?_;refine Ad rfl (λ_=>B7 15 n x ks ps false false true) (by simp [An]) ?_;refine Bi rfl ?_;have hw:IntKind.i64.wrap (1+(ps.length:Int))=1+ps.length\/F4 ps.length 1 5=false:=by
   by_cases hp:ps.length<=5
   ·exact .inl (BI (by omega) (by omega))
   ·exact .inr (by simp [F4];omega)
  refine Aa rfl rfl (congrArg _ ?_);rcases hw with hw | hw <;> simp [CL,hw]
 by_cases h16:op=16
 ·subst h16;refine kg [.a,.a,.a,.a,.a,.a,.a,.a,.a,.a,.a,.a,.a,.a,.a] rfl (by simp) ?_;refine Ad rfl (λ_=>B7 16 n x ks ps false false false) (by simp [An]) ?_;refine Bi rfl ?_;exact Au ⟨_,rfl,tV (congrArg _ (by simp [CL])),trivial⟩
 by_cases h17:op=17
 ·subst h17;refine kg [.a,.a,.a,.a,.a,.a,.a,.a,.a,.a,.a,.a,.a,.a,.a,.a] rfl (by simp) ?_;refine Ad rfl (λ_=>B7 17 n x ks ps false false false) (by simp [An]) ?_;refine Bi rfl ?_;exact Au ⟨_,rfl,tV (congrArg _ (by simp [CL])),trivial⟩
 by_cases h19:op=19
 ·subst h19;refine kg [.a,.a,.a,.a,.a,.a,.a,.a,.a,.a,.a,.a,.a,.a,.a,.a,.a] rfl (by simp) ?_;refine Ad rfl (λ_=>B7 19 n x ks ps false false false) (by simp [An]) ?_;refine Bi rfl ?_;exact Au ⟨_,rfl,tV (congrArg _ (by simp [CL])),trivial⟩
 by_cases h20:op=20
 ·subst h20;refine kg [.a,.a,.a,.a,.a,.a,.a,.a,.a,.a,.a,.a,.a,.a,.a,.a,.a,.a] rfl (by simp) ?_;refine Ad rfl (λ_=>B7 20 n x ks ps false false false) (by simp [An]) ?_;refine Bi rfl ?_;exact Au ⟨_,rfl,tV (congrArg _ (by simp [CL])),trivial⟩
 by_cases h23:op=23
 ·subst h23;refine kg [.a,.a,.a,.a,.a,.a,.a,.a,.a,.a,.a,.a,.a,.a,.a,.a,.a,.a,.a] rfl (by simp) ?_;refine Ad rfl (λ_=>B7 23 n x ks ps false false false) (by simp [An]) ?_;refine Bi rfl ?_;exact Au ⟨_,rfl,tV (congrArg _ (by simp [CL])),trivial⟩
 by_cases h26:op=26
 ·subst h26;refine kg [.a,.a,.a,.a,.a,.a,.a,.a,.a,.a,.a,.a,.a,.a,.a,.a,.a,.a,.a] rfl (by simp) ?_;refine Ad rfl (λ_=>B7 26 n x ks ps false false false) (by simp [An]) ?_;refine Bi rfl ?_;exact Au ⟨_,rfl,tV (congrArg _ (by simp [CL])),trivial⟩
 by_cases h24:op=24
 ·subst h24;refine kg [.a,.a,.a,.a,.a,.a,.a,.a,.a,.a,.a,.a,.a,.a,.a,.a,.a,.a,.a,.a] rfl (by simp) ?_;refine Ad rfl (λ_=>B7 24 n x ks ps true false false) (by simp [An]) ?_;refine Bi rfl ?_;refine Ad rfl (λ_=>MM n 0 3) (by simp [An]) ?_;refine Bi rfl ?_;exact Au ⟨_,rfl,tV (congrArg _ (by simp [CL])),trivial⟩
 by_cases h6:op=6
 ·subst h6;refine kg [.a,.a,.a,.a,.a,.a,.a,.a,.a,.a,.a,.a,.a,.a,.a,.a,.a,.a,.a,.a,.a,.a] rfl (by simp) ?_;refine Ad rfl (λ_=>B7 6 n x ks ps false false false) (by simp [An]) ?_;refine Bi rfl ?_;exact Au ⟨_,rfl,tV (congrArg _ (by simp [CL])),trivial⟩
 by_cases h9:op=9
 ·subst h9;refine kg [.a,.a,.a,.a,.a,.a,.a,.a,.a,.a,.a,.a,.a,.a,.a,.a,.a,.a,.a,.a,.a,.a,.a] rfl (by simp) ?_;refine Ad rfl (λ_=>B7 9 n x ks ps false false false) (by simp [An]) ?_;refine Bi rfl ?_;exact Au ⟨_,rfl,tV (congrArg _ (by simp [CL])),trivial⟩
 by_cases h10:op=10
 ·subst h10;refine kg [.a,.a,.a,.a,.a,.a,.a,.a,.a,.a,.a,.a,.a,.a,.a,.a,.a,.a,.a,.a,.a,.a,.a,.a] rfl (by simp) ?_;refine Ad rfl (λ_=>B7 10 n x ks ps false false false) (by simp [An]) ?_;refine Bi rfl ?_;exact Au ⟨_,rfl,tV (congrArg _ (by simp [CL])),trivial⟩
 by_cases h11:op=11
 ·subst h11;refine kg [.a,.a,.a,.a,.a,.a,.a,.a,.a,.a,.a,.a,.a,.a,.a,.a,.a,.a,.a,.a,.a,.a,.a,.a,.a] rfl (by simp) ?_;refine Ad rfl (λ_=>B7 11 n x ks ps false false false) (by simp [An]) ?_;refine Bi rfl ?_;exact Au ⟨_,rfl,tV (congrArg _ (by simp [CL])),trivial⟩
 by_cases h12:op=12
 ·subst h12;refine kg [.a,.a,.a,.a,.a,.a,.a,.a,.a,.a,.a,.a,.a,.a,.a,.a,.a,.a,.a,.a,.a,.a,.a,.a,.a,.a] rfl (by simp) ?_;refine Ad rfl (λ_=>B7 12 n x ks ps false false false) (by simp [An]) ?_;refine Bi rfl ?_;exact Au ⟨_,rfl,tV (congrArg _ (by simp [CL])),trivial⟩
 by_cases h13:op=13
 ·subst h13;refine kg [.a,.a,.a,.a,.a,.a,.a,.a,.a,.a,.a,.a,.a,.a,.a,.a,.a,.a,.a,.a,.a,.a,.a,.a,.a,.a,.a] rfl (by simp) ?_;refine Ad rfl (λ_=>B7 13 n x ks ps false false false) (by simp [An]) ?_;refine Bi rfl ?_;exact Au ⟨_,rfl,tV (congrArg _ (by simp [CL])),trivial⟩
 by_cases h18:op=18
 ·subst h18;refine kg [.a,.a,.a,.a,.a,.a,.a,.a,.a,.a,.a,.a,.a,.a,.a,.a,.a,.a,.a,.a,.a,.a,.a,.a,.a,.a,.a,.a] rfl (by simp) ?_;refine Ad rfl (λ_=>B7 18 n x ks ps false false false) (by simp [An]) ?_;refine Bi rfl ?_;exact Au ⟨_,rfl,tV (congrArg _ (by simp [CL])),trivial⟩
 by_cases h22:op=22
 ·subst h22;refine kg [.a,.a,.a,.a,.a,.a,.a,.a,.a,.a,.a,.a,.a,.a,.a,.a,.a,.a,.a,.a,.a,.a,.a,.a,.a,.a,.a,.a] rfl (by simp) ?_;refine Ad rfl (λ_=>B7 22 n x ks ps false false false) (by simp [An]) ?_;refine Bi rfl ?_;exact Au ⟨_,rfl,tV (congrArg _ (by simp [CL])),trivial⟩
 refine kg [.f,.f,.f,.f,.f,.f,.f,.f,.f,.f,.f,.f,.f,.f,.f,.f,.f,.f,.f,.f,.f,.f,.f,.f,.f,.f,.f,.f] rfl (by simp [h1,h2,h3,h21,h25,h28,h4,h5,h27,h7,h8,h14,h15,h16,h17,h19,h20,h23,h26,h24,h6,h9,h10,h11,h12,h13,h18,h22]) ?_;exact Au ⟨_,rfl,tV (congrArg _ (by simp [CL,h1,h2,h3,h21,h25,h28,h4,h5,h27,h7,h8,h14,h15,h16,h17,h19,h20,h23,h26,h24,h6,h9,h10,h11,h12,h13,h18,h22])),trivial⟩
mutual
def Jk:Tm->Bool
 | .mk op n x ks ps=>CL op n x ks.length ps.length&&ps.all Fg&&Fh ks
def Fh:List Tm->Bool
 | []=>true
 | t::r=>Jk t&&Fh r
end
theorem Ws:∀(t:Tm),Ak Tryz.prog 182 [.agg (CO t)] (.bool (Jk t))
 | .mk op n x ks ps=>by
  refine AS λhv=>?_;simp [Cx,EM,CO,maxLen] at hv;refine Af BK Tryz.func182 (by decide +kernel) rfl [1,2,3] rfl rfl ?_;refine Bi rfl ?_;refine Ad rfl (λ_=>nD op n x ks ps) (by simp) ?_;refine Bi rfl ?_;refine Ab rfl (λh=>?_) (λh=>?_)
  ·refine BF rfl ?_;refine Aa rfl rfl (congrArg _ ?_);simp at h;simp [Jk,h]
  simp at h;have hx:CL op n x ks.length ps.length=true:=h;clear h;refine BF rfl ?_;refine Am (λi:Nat=>[(3,.imm (.int .i64 i)),(1,.ref 1 0)]) (λ_=>[(1,some (.immb 165 5 (CO (.mk op n x ks ps))))]) [2,3] (λi=>ps.length-i)
   (λi=>i<=ps.length/\(List.all · Fg) ps=(List.all · Fg) (ps.drop i)) 0 ⟨Nat.zero_le _,rfl⟩ ⟨rfl,rfl,trivial⟩ ⟨rfl,trivial⟩ rfl λi hi ih=>?_
  refine BF rfl ?_;refine Ab rfl (λh=>?_) (λh=>?_)
  ·simp at h;obtain ⟨t,ht⟩:=Ap h;have e:=hi.2;rw [Av ht] at e;refine BF rfl ?_;refine ki rfl (c:=dTyc t) (λ_=>⟨by simp,by simpa using A5 ht,by simp⟩) (by simp) ?_;refine Bi rfl ?_;refine Ad rfl (λ_=>lW t) (by simp) ?_;refine Bi rfl ?_;refine Ab rfl (λh=>?_) (λh=>?_)
   ·refine BF rfl ?_;refine Aa rfl rfl (congrArg _ ?_);simp at h;simp [Jk,hx,e,Fh,List.all_cons,h]
   ·refine BF rfl ?_;simp at h;exact Ae (ih (i+1) (by omega) ⟨by omega,by rw [e];simp [Fh,List.all_cons,h]⟩) ⟨A3 (BI (by omega) (by omega)),rfl,trivial⟩ ⟨rfl,trivial⟩ rfl
  simp at h;have hps:(List.all · Fg) ps=true:=by rw [hi.2,List.drop_eq_nil_of_le (by omega)];rfl
  clear ih hi h;refine BF rfl ?_;refine Am (λi:Nat=>[(4,.imm (.int .i64 i)),(1,.ref 1 0)]) (λ_=>[(1,some (.immb 165 5 (CO (.mk op n x ks ps))))]) [2,3] (λi=>ks.length-i)
   (λi=>i<=ks.length/\Fh ks=Fh (ks.drop i)) 0 ⟨Nat.zero_le _,rfl⟩ ⟨rfl,rfl,trivial⟩ ⟨rfl,trivial⟩ rfl λi hi ih=>?_
  refine BF rfl ?_;refine Ab rfl (λh=>?_) (λh=>?_)
  ·simp at h;obtain ⟨t,ht⟩:=Ap h;have e:=hi.2;rw [Av ht] at e;refine BF rfl ?_;refine ki rfl (c:=CO t) (λ_=>⟨by simp,by simpa using IP ht,by simp⟩) (by simp) ?_;refine Bi rfl ?_;refine Ad rfl (λ_=>Ws t) (by simp) ?_;refine Bi rfl ?_;refine Ab rfl (λh=>?_) (λh=>?_)
   ·refine BF rfl ?_;refine Aa rfl rfl (congrArg _ ?_);simp at h;simp [Jk,hx,e,Fh,List.all_cons,h]
   ·refine BF rfl ?_;simp at h;exact Ae (ih (i+1) (by omega) ⟨by omega,by rw [e];simp [Fh,List.all_cons,h]⟩) ⟨A3 (BI (by omega) (by omega)),rfl,trivial⟩ ⟨rfl,trivial⟩ rfl
  simp at h;have hks:Fh ks=true:=by rw [hi.2,List.drop_eq_nil_of_le (by omega)];rfl
  clear ih hi h;refine BF rfl ?_;refine Aa rfl rfl (congrArg _ ?_);simp only [Jk];have hps:ps.all Fg=true:=hps;rw [hps,hks];simp [hx]
termination_by t=>SizeOf.sizeOf t
decreasing_by
 have:=List.sizeOf_lt_of_mem (List.mem_of_getElem? ht);simp_wf;omega
def gF (t:Tm):Bool:=decide (0<=BH t 60 14)&&Jk t
theorem oN (t:Tm):Ak Tryz.prog 142 [.agg (CO t)] (.bool (gF t)):=by
 refine Af BK Tryz.func142 (by decide +kernel) rfl [1,2,3] rfl rfl ?_;refine Bi rfl ?_;refine Ad rfl (λ_=>XI t 60 14 (by decide) (by decide) (by decide) (by decide)) (by simp) ?_;refine Bi rfl ?_;refine Ad rfl (λ_=>Ws t) (by simp [An]) ?_;refine Bi rfl ?_;refine Aa rfl rfl (congrArg _ ?_);simp [gF]
def mN:TT:=XV++[
 (46,⟨.struct [(0,44),(1,3),(2,9),(3,33)],true,4,56,[.imm (.int .i64 0),.imm (.int .i64 0),.imm (.str []),.nils]⟩),
 (44,⟨.int .i64,false,1,8,[.imm (.int .i64 0)]⟩),
 (33,⟨.sl 46,false,1,24,[.nils]⟩)]
theorem FH:TTok Tryz.prog mN:=.of_eq (l:=[4,3,9,165,26,69,162,27,5,24,23,172,163,67,167,171,75,22,169,72,70,37,46,44,33]) (by kernel_rfl)
section
variable {n:Nat} {F:List Nat} {Q:DQ} {env env':Env} {st st':St} {ids ids':List Nat} {k todo:List DI} {ob:List Prop}
theorem vd (path:List Pt) (h:run mN n 300 path todo env st ids [] = .at k env' st' ids' ob) (hob:AA ob) (hd:G Tryz.prog n F Q k env' st' ids'):DGo Tryz.prog n F Q todo env st ids:=Lv FH EV 300 path h hob hd
theorem De (h:run mN n 300 [] todo env st ids [] = .at k env' st' ids' ob) (hd:G Tryz.prog n F Q k env' st' ids') (hob:AA ob:=by simp):DGo Tryz.prog n F Q todo env st ids:=vd [] h hob hd
theorem vdqc (h:run mN n 300 [] todo env st ids [] = .at k env' st' ids' ob) (hd:G Tryz.prog n F Q k env' st' ids') (hob:AA ob:=by simp [An]):DGo Tryz.prog n F Q todo env st ids:=vd [] h hob hd
theorem vg (path:List Pt) (h:run mN n 300 path todo env st ids [] = .at k env' st' ids' ob) (hob:AA ob) (hd:G Tryz.prog n F Q k env' st' ids'):G Tryz.prog n F Q todo env st ids:=Ks FH EV 300 path h hob hd
theorem FE (h:run mN n 300 [] todo env st ids [] = .at k env' st' ids' ob) (hd:G Tryz.prog n F Q k env' st' ids') (hob:AA ob:=by simp):G Tryz.prog n F Q todo env st ids:=vg [] h hob hd
theorem rD (h:run mN n 300 [] todo env st ids [] = .at k env' st' ids' ob) (hd:G Tryz.prog n F Q k env' st' ids') (hob:AA ob:=by simp [An]):G Tryz.prog n F Q todo env st ids:=vg [] h hob hd
theorem vi {es:List (List V)} {m:Int} {sz:Nat} {e:TypeId} {g:Option (Bool×Bool)} {ob:List Prop} {t:Nat} {todo':List DI} {c:List V} (h:P7 mN n env todo=some ⟨es,m,sz,e,g,ob,some t,todo'⟩)
  (hc:An g->0<=m/\es[m.toNat]?=some c/\c.length=sz) (hob:AA ob) (hk:G Tryz.prog n F Q todo' ((t,gD g (.ip e c 0))::env) st ids):G Tryz.prog n F Q todo env st ids:=Gg FH h hc hob hk
end
mutual
def B8:Ty->Int->Int->Int
 | .mk _ _ _ ps,l,d=>if l<1\/d<1 then -1 else BV ps (l-1) (d-1)
def BV:List Ty->Int->Int->Int
 | [],l,_=>l
 | t::r,l,d=>if 0<=l then BV r (B8 t l d) d else l
end
mutual
theorem Iw:∀(t:Ty) (l d:Int),-1<=B8 t l d/\(0<=l->B8 t l d<l)
 | .mk _ _ _ ps,l,d=>by
  simp only [B8]
  split
  ·omega
  ·have:=L0 ps (l-1) (d-1) (by omega);omega
theorem L0:∀(ps:List Ty) (l d:Int),-1<=l -> -1<=BV ps l d/\BV ps l d<=l
 | [],l,d,h=>by simp [BV,h]
 | t::r,l,d,h=>by
  simp only [BV];by_cases h0:0<=l
  ·rw [if_pos h0];have h1:=Iw t l d;have h2:=L0 r (B8 t l d) d h1.1;omega
  ·rw [if_neg h0];omega
end
theorem La:∀(t:Ty) (l d:Int),-9223372036854775808<=l->l<=9223372036854775807 -> -9223372036854775807<=d->d<=9223372036854775807->Ak Tryz.prog 70 [.agg (dTyc t),.int .i64 l,.int .i64 d] (.int .i64 (B8 t l d))
 | .mk op n x ks,l,d,hl0,hl1,hd0,hd1=>by
  refine AS λhv=>?_;simp [Cx,EM,dTyc,maxLen] at hv;refine Af FH Tryz.func70 (by decide +kernel) rfl [1,2,3] rfl rfl ?_;refine FE rfl ?_;refine Ab rfl (λh=>?_) (λh=>?_)
  ·refine De rfl ?_;refine Aa rfl rfl (congrArg _ ?_);simp at h;simp only [B8];rw [if_pos (by omega)]
  simp at h;refine De rfl ?_;refine Am (λx:Nat×Int=>[(7,.imm (.int .i64 x.1)),(1,.imm (.int .i64 x.2)),(2,.imm (.int .i64 d)),(3,.ref 1 0)]) (λ_=>[(1,some (.immb 46 4 (dTyc (.mk op n x ks))))]) [2,3] (λx=>ks.length-x.1)
   (λy=>y.1<=ks.length/\B8 (.mk op n x ks) l d=BV (ks.drop y.1) y.2 (d-1) /\ -1<=y.2/\y.2<l) (0,l-1)
   ⟨Nat.zero_le _,by simp only [B8,List.drop_zero];rw [if_neg (by omega)],by simp only;omega,by simp only;omega⟩ ⟨rfl,A3 (BI (by omega) (by omega)),rfl,rfl,trivial⟩ ⟨rfl,trivial⟩ rfl λy hi ih=>?_
  obtain ⟨i,m⟩:=y;obtain ⟨hi1,hi2,hi3,hi4⟩:=hi;simp only at hi1 hi2 hi3 hi4;refine De rfl ?_;refine Ab rfl (λh=>?_) (λh=>?_)
  ·simp at h;obtain ⟨t,ht⟩:=Ap (l:=ks) (i:=i) (by omega);rw [Av ht] at hi2;refine De rfl ?_;refine vi rfl (c:=dTyc t) (λ_=>⟨by simp,by simpa using A5 ht,by simp⟩) (by simp) ?_;refine FE rfl ?_;have hw:IntKind.i64.wrap (d-1)=d-1:=BI (by omega) (by omega);refine Ad rfl (v:=.int .i64 (B8 t m (d-1))) (λ_=>by rw [hw];exact La t m (d-1) (by omega) (by omega) (by omega) (by omega)) (by simp) ?_;refine FE rfl ?_;have hb:=Iw t m (d-1);exact Ae (ih (i+1,B8 t m (d-1)) (by simp only;omega) ⟨by simp only;omega,by simp only;rw [hi2];simp only [BV];rw [if_pos h.2],by simp only;omega,by simp only;omega⟩) ⟨A3 (BI (by omega) (by omega)),rfl,rfl,rfl,trivial⟩ ⟨rfl,trivial⟩ rfl
  ·refine De rfl ?_;refine Aa rfl rfl (congrArg _ ?_);rw [hi2];simp at h;by_cases hlt:i<ks.length
   ·obtain ⟨t,ht⟩:=Ap hlt;rw [Av ht];simp only [BV];rw [if_neg (by omega)]
   ·rw [List.drop_eq_nil_of_le (by omega)];simp [BV]
termination_by t=>SizeOf.sizeOf t
decreasing_by
 have:=List.sizeOf_lt_of_mem (List.mem_of_getElem? ht);simp_wf;omega
def GC (s n:Int) (x:Str) (k:Nat):Bool :=
 if s=1 then F4 n (-1000000000) 1000000000&&x == []&&((k:Int) == 0)
 else if s=2 then F4 n 0 1&&x == []&&((k:Int) == 0)
 else if s=3\/s=5 then n == 0&&x == []&&((k:Int) == 0)
 else if s=4 then n == 0&&Di x&&decide ((k:Int)<=3)
 else false
mutual
def Dh:Ty->Bool
 | .mk s n x ps=>CI ps&&GC s n x ps.length
def CI:List Ty->Bool
 | []=>true
 | t::r=>Dh t&&CI r
end
def L4 (t:Ty):Bool:=decide (0<=B8 t 20000 100)&&Dh t
end Go.Hk
namespace Go.Hk
open Go.Proofs
theorem jV (x lo hi:Int):Ak Tryz.prog 102 [.int .i64 x,.int .i64 lo,.int .i64 hi] (.bool (F4 x lo hi)):=by
 refine Af FH Tryz.func102 (by decide +kernel) rfl [1,2] rfl rfl ?_;refine FE rfl ?_;refine Aa rfl rfl (congrArg _ ?_);simp [F4]
def AD:Ty->Ty->Bool
 | .mk s n x _,.mk s' n' x' _=>(s == s')&&(n == n')&&(x == x')
theorem VQ:∀a b:Ty,Ak Tryz.prog 80 [.agg (dTyc a),.agg (dTyc b)] (.bool (AD a b))
 | .mk s n x ks,.mk s' n' x' js=>by
  refine Af FH Tryz.func80 (by decide +kernel) rfl [1,2,3] rfl rfl ?_;refine FE rfl ?_;refine Aa rfl rfl (congrArg _ ?_);simp [AD,Bool.and_assoc]
def AQ:Ty->Ty
 | .mk s n x _=>if s=3 then .mk 1 n [] [] else if s=4 then .mk 2 n [] [] else if s=5 then .mk 3 0 [] [] else .mk 4 0 x []
theorem jE:∀v:Ty,Ak Tryz.prog 148 [.agg (dTyc v)] (.bool (match v with | .mk s n x ps=>GC s n x ps.length))
 | .mk s n x ks=>by
  refine Af FH Tryz.func148 (by decide +kernel) rfl [1,2,3] rfl rfl ?_;simp only [GC];refine FE rfl ?_;by_cases h1:s=1
  ·subst h1;refine Ai rfl λh=>?_;refine De rfl ?_;refine Ad rfl (λ_=>jV n (-1000000000) 1000000000) (by simp) ?_;refine FE rfl ?_;refine Aa rfl rfl (congrArg _ ?_);simp [Bool.and_assoc]
  rw [if_neg h1];refine Ab rfl (λh=>absurd (by simpa using h) h1) (λh=>?_);clear h;refine De rfl ?_;by_cases h2:s=2
  ·subst h2;refine Ai rfl λh=>?_;refine De rfl ?_;refine Ad rfl (λ_=>jV n 0 1) (by simp) ?_;refine FE rfl ?_;refine Aa rfl rfl (congrArg _ ?_);simp [Bool.and_assoc]
  rw [if_neg h2];refine Ab rfl (λh=>absurd (by simpa using h) h2) (λh=>?_);clear h;refine De rfl ?_;by_cases h3:s=3
  ·subst h3;refine Ai rfl λh=>?_;refine De rfl ?_;refine Ai rfl λh=>?_;refine De rfl ?_;refine Aa rfl rfl (congrArg _ ?_);simp [Bool.and_assoc]
  refine Ab rfl (λh=>absurd (by simpa using h) h3) (λh=>?_);clear h;refine De rfl ?_;by_cases h5:s=5
  ·subst h5;refine Ai rfl λh=>?_;refine De rfl ?_;refine Aa rfl rfl (congrArg _ ?_);simp [Bool.and_assoc]
  rw [if_neg (by simp [h3,h5])];refine Ab rfl (λh=>absurd (by simpa using h) h5) (λh=>?_);clear h;refine De rfl ?_;by_cases h4:s=4
  ·subst h4;refine Ai rfl λh=>?_;refine De rfl ?_;refine Ad rfl (λ_=>IS x) (by simp [An]) ?_;refine rD rfl ?_;refine Aa rfl rfl (congrArg _ ?_);simp [Bool.and_assoc]
  rw [if_neg h4];refine Ab rfl (λh=>absurd (by simpa using h) h4) (λh=>?_);clear h;refine De rfl ?_;exact Aa rfl rfl rfl
theorem T7:∀v:Ty,Ak Tryz.prog 151 [.agg (dTyc v)] (.bool (Dh v))
 | .mk s n x ks=>by
  have hN:=jE (.mk s n x ks);simp only at hN;refine AS λhv=>?_;simp [Cx,EM,dTyc,maxLen] at hv;refine Af FH Tryz.func151 (by decide +kernel) rfl [1,2,3] rfl rfl ?_;refine FE rfl ?_;refine Am (λi:Nat=>[(3,.imm (.int .i64 i)),(1,.ref 1 0)]) (λ_=>[(1,some (.immb 46 4 (dTyc (.mk s n x ks))))]) [2,3] (λi=>ks.length-i)
   (λi=>i<=ks.length/\CI ks=CI (ks.drop i)) 0 ⟨Nat.zero_le _,rfl⟩ ⟨rfl,rfl,trivial⟩ ⟨rfl,trivial⟩ rfl λi hi ih=>?_
  refine De rfl ?_;refine Ab rfl (λh=>?_) (λh=>?_)
  ·simp at h;obtain ⟨t,ht⟩:=Ap h;have e:=hi.2;rw [Av ht] at e;refine De rfl ?_;refine vi rfl (c:=dTyc t) (λ_=>⟨by simp,by simpa using A5 ht,by simp⟩) (by simp) ?_;refine FE rfl ?_;refine Ad rfl (λ_=>T7 t) (by simp) ?_;refine FE rfl ?_;refine Ab rfl (λh=>?_) (λh=>?_)
   ·refine De rfl ?_;refine Aa rfl rfl (congrArg _ ?_);simp at h;simp [Dh,e,CI,h]
   ·refine De rfl ?_;simp at h;exact Ae (ih (i+1) (by omega) ⟨by omega,by rw [e];simp [CI,h]⟩) ⟨A3 (BI (by omega) (by omega)),rfl,trivial⟩ ⟨rfl,trivial⟩ rfl
  ·simp at h;refine Ay rfl ?_;refine De rfl ?_;refine Ah rfl hN ?_;refine FE rfl ?_;refine Aa rfl rfl (congrArg _ ?_);simp only [Dh];rw [hi.2,List.drop_eq_nil_of_le (by omega)];simp [CI]
termination_by t=>SizeOf.sizeOf t
decreasing_by
 have:=List.sizeOf_lt_of_mem (List.mem_of_getElem? ht);simp_wf;omega
theorem rB (v:Ty):Ak Tryz.prog 108 [.agg (dTyc v)] (.bool (L4 v)):=by
 refine Af FH Tryz.func108 (by decide +kernel) rfl [1,2,3] rfl rfl ?_;refine FE rfl ?_;refine Ad rfl (λ_=>La v 20000 100 (by decide) (by decide) (by decide) (by decide)) (by simp) ?_;refine FE rfl ?_;refine Ad rfl (λ_=>T7 v) (by simp [An]) ?_;refine FE rfl ?_;refine Aa rfl rfl (congrArg _ ?_);simp [L4]
mutual
def Z3:Ty->Ty->Bool
 | .mk s n x ps,.mk s' n' x' qs=>AD (.mk s n x ps) (.mk s' n' x' qs)&&Hl ps qs
def Hl:List Ty->List Ty->Bool
 | [],[]=>true
 | a::r,b::q=>Z3 a b&&Hl r q
 | _,_=>false
end
theorem Q4:∀(ps qs:List Ty),Hl ps qs=true->ps.length=qs.length
 | [],[],_=>rfl
 | a::r,b::q,h=>by
  simp only [Hl,Bool.and_eq_true] at h;simp [Q4 r q h.2]
 | [],_::_,h=>by simp [Hl] at h
 | _::_,[],h=>by simp [Hl] at h
theorem XJ:∀a b:Ty,Ak Tryz.prog 38 [.agg (dTyc a),.agg (dTyc b)] (.bool (Z3 a b))
 | .mk s n x ps,.mk s' n' x' qs=>by
  have hH:=VQ (.mk s n x ps) (.mk s' n' x' qs);refine AS λhv=>?_;simp [Cx,EM,dTyc,maxLen] at hv;simp only [Z3];generalize AD (.mk s n x ps) (.mk s' n' x' qs)=hb at hH ⊢;refine Af FH Tryz.func38 (by decide +kernel) rfl [1,2,3] rfl rfl ?_;refine FE rfl ?_;refine Ah rfl hH ?_;refine FE rfl ?_;by_cases hg:hb=true/\ps.length=qs.length
  case neg =>
   refine Ab rfl (λh=>?_) (λh=>?_)
   ·refine De rfl ?_;refine Aa rfl rfl (congrArg _ ?_);cases hb with
    | false=>simp
    | true =>
     cases hs:Hl ps qs with
     | false=>simp
     | true=>exact absurd ⟨rfl,Q4 _ _ hs⟩ hg
   ·exfalso;simp at h;apply hg;refine ⟨h.1,?_⟩;have:=h.2;omega
  obtain ⟨rfl,hlen⟩:=hg;refine Ab rfl (λh=>by simp [hlen] at h) (λh=>?_);clear h;refine De rfl ?_;refine Am (λi:Nat=>[(5,.imm (.int .i64 i)),(2,.ref 1 0),(3,.ref 2 0)]) (λ_=>[(1,some (.immb 46 4 (dTyc (.mk s n x ps)))),(2,some (.immb 46 4 (dTyc (.mk s' n' x' qs))))]) [3] (λi=>ps.length-i)
   (λi=>i<=ps.length/\Hl ps qs=Hl (ps.drop i) (qs.drop i)) 0 ⟨Nat.zero_le _,rfl⟩ ⟨rfl,rfl,rfl,trivial⟩ ⟨rfl,rfl,trivial⟩ rfl λi hi ih=>?_
  refine De rfl ?_;refine Ab rfl (λh=>?_) (λh=>?_)
  ·simp at h;obtain ⟨t,ht⟩:=Ap h;obtain ⟨u,hu⟩:=Ap (l:=qs) (i:=i) (by omega);have e:=hi.2;rw [Av ht,Av hu] at e;simp only [Hl] at e;refine De rfl ?_;refine vi rfl (c:=dTyc t) (λ_=>⟨by simp,by simpa using A5 ht,by simp⟩) (by simp) ?_;refine FE rfl ?_;refine vi rfl (c:=dTyc u) (λ_=>⟨by simp,by simpa using A5 hu,by simp⟩) (by simp) ?_;refine FE rfl ?_;refine Ad rfl (λ_=>XJ t u) (by simp) ?_;refine vg [] rfl (by simp;rfl) ?_;refine Ab rfl (λh=>?_) (λh=>?_)
   ·refine De rfl ?_;refine Aa rfl rfl (congrArg _ ?_);simp at h;simp [e,h]
   ·refine De rfl ?_;simp at h;exact Ae (ih (i+1) (by omega) ⟨by omega,by rw [e];simp [h]⟩) ⟨A3 (BI (by omega) (by omega)),rfl,rfl,trivial⟩ ⟨rfl,rfl,trivial⟩ rfl
  ·simp at h;refine Ay rfl ?_;refine De rfl ?_;refine Aa rfl rfl (congrArg _ ?_);rw [hi.2,List.drop_eq_nil_of_le (by omega),List.drop_eq_nil_of_le (by omega)];simp [Hl]
termination_by a=>SizeOf.sizeOf a
decreasing_by
 have:=List.sizeOf_lt_of_mem (List.mem_of_getElem? ht);simp_wf;omega
theorem B2 {α β:Type} {f:α->β} {l:List α} {i:Nat} {t:α} (h:l[i]?=some t):(l.map f)[i]?=some (f t):=by simp [h]
@[simp] theorem dCdc_length (c:Cd):(DN c).length=2:=rfl
@[simp] theorem dDtc_length (c:Dt):(CU c).length=2:=rfl
@[simp] theorem dMdc_length (m:Md):(Vg m).length=3:=rfl
@[simp] theorem dFdc_length (c:Fd):(PD c).length=15:=by simp [PD]
def Oj (c:Cd):Bool:=Di c.name&&decide ((c.args.length:Int)<=3)&&c.args.all FD
def IO (d:Dt):Bool:=Di d.name&&F4 d.cons.length 1 5&&d.cons.all Oj
def WW (f:Fd):Bool:=EU f.name&&EU f.param&&FD f.from_&&FD f.to_&&gF f.body
def E7 (m:Md):Bool:=EU m.name&&decide ((m.datas.length:Int)<=4)&&F4 m.funs.length 1 5&&m.datas.all IO&&m.funs.all WW
theorem oE (d:Dt):Ak Tryz.prog 141 [.agg (CU d)] (.bool (IO d)):=by
 obtain ⟨nm,cs⟩:=d;refine AS λhv=>?_;simp [Cx,EM,CU,maxLen] at hv;refine Af BK Tryz.func141 (by decide +kernel) rfl [1,2,3] rfl rfl ?_;refine Bi rfl ?_;refine Ad rfl (λ_=>IS nm) (by simp) ?_;refine Bi rfl ?_;refine Ad rfl (v:=.bool (F4 cs.length 1 5)) (λ_=>by have:=MM cs.length 1 5;simpa using this) (by simp [An]) ?_;refine Bi rfl ?_;refine Ab rfl (λh=>?_) (λh=>?_)
 ·refine BF rfl ?_;refine Aa rfl rfl (congrArg _ ?_);simp at h;simp [IO];grind
 have hx:(Di nm&&F4 cs.length 1 5)=true:=by simp at h ⊢;grind
 clear h;refine BF rfl ?_;refine Am (λi:Nat=>[(3,.imm (.int .i64 i)),(1,.ref 1 0)]) (λ_=>[(1,some (.immb 72 2 (CU ⟨nm,cs⟩)))]) [2,3] (λi=>cs.length-i)
  (λi=>i<=cs.length/\cs.all Oj=(cs.drop i).all Oj) 0 ⟨Nat.zero_le _,rfl⟩ ⟨rfl,rfl,trivial⟩ ⟨rfl,trivial⟩ rfl λi hi ih=>?_
 refine BF rfl ?_;refine Ab rfl (λh=>?_) (λh=>?_)
 ·simp at h;obtain ⟨c,hc⟩:=Ap h;have e:=hi.2;rw [Av hc] at e;refine BF rfl ?_;refine ki rfl (c:=DN c) (λ_=>⟨by simp,by simpa using B2 hc,by simp⟩) (by simp) ?_;obtain ⟨cn,ag⟩:=c;refine Bi rfl ?_;refine Ad rfl (λ_=>IS cn) (by simp) ?_;refine Bi rfl ?_;refine Ab rfl (λh=>?_) (λh=>?_)
  ·refine BF rfl ?_;refine Aa rfl rfl (congrArg _ ?_);simp at h;have:Oj ⟨cn,ag⟩=false:=by simp [Oj];grind
   simp [IO,e,this]
  have hy:(Di cn&&decide ((ag.length:Int)<=3))=true:=by simp at h ⊢;grind
  have hal:ag.length<=6:=by simp at hy;omega
  clear h;refine BF rfl ?_;refine Am (λj:Nat=>[(5,.imm (.int .i64 j)),(4,.ref 2 0),(3,.imm (.int .i64 i)),(1,.ref 1 0)]) (λ_=>[(2,some (.immb 75 2 (DN ⟨cn,ag⟩))),(1,some (.immb 72 2 (CU ⟨nm,cs⟩)))]) [3] (λj=>ag.length-j)
   (λj=>j<=ag.length/\ag.all FD=(ag.drop j).all FD) 0 ⟨Nat.zero_le _,rfl⟩ ⟨rfl,rfl,rfl,rfl,trivial⟩ ⟨rfl,rfl,trivial⟩ rfl λj hj ihj=>?_
  refine BF rfl ?_;refine Ab rfl (λh=>?_) (λh=>?_)
  ·simp at h;obtain ⟨t,ht⟩:=Ap h;have ej:=hj.2;rw [Av ht] at ej;refine BF rfl ?_;refine ki rfl (c:=dTyc t) (λ_=>⟨by simp,by simpa using A5 ht,by simp⟩) (by simp) ?_;refine Bi rfl ?_;refine Ad rfl (λ_=>Nt t) (by simp) ?_;refine Bi rfl ?_;refine Ab rfl (λh=>?_) (λh=>?_)
   ·refine BF rfl ?_;refine Aa rfl rfl (congrArg _ ?_);simp at h;have:Oj ⟨cn,ag⟩=false:=by simp only [Oj];rw [ej];simp [h]
    simp [IO,e,this]
   ·refine BF rfl ?_;simp at h;exact Ae (ihj (j+1) (by omega) ⟨by omega,by rw [ej];simp [h]⟩) ⟨A3 (BI (by omega) (by omega)),rfl,rfl,rfl,trivial⟩ ⟨rfl,rfl,trivial⟩ rfl
  ·simp at h;refine BF rfl ?_;have:Oj ⟨cn,ag⟩=true:=by
    simp only [Oj];rw [hj.2,List.drop_eq_nil_of_le (by omega)];simpa using hy
   exact Ae (ih (i+1) (by omega) ⟨by omega,by rw [e];simp [this]⟩) ⟨A3 (BI (by omega) (by omega)),rfl,trivial⟩ ⟨rfl,trivial⟩ rfl
 ·refine BF rfl ?_;refine Aa rfl rfl (congrArg _ ?_);simp at h;simp only [IO];rw [hi.2,List.drop_eq_nil_of_le (by omega)];simpa using hx.symm
theorem eY (m:Md):Ak Tryz.prog 93 [.agg (Vg m)] (.bool (E7 m)):=by
 obtain ⟨nm,ds,fs⟩:=m;refine AS λhv=>?_;simp [Cx,EM,Vg,maxLen] at hv;refine Af BK Tryz.func93 (by decide +kernel) rfl [1,2,3] rfl rfl ?_;refine Bi rfl ?_;refine Ad rfl (λ_=>If nm) (by simp) ?_;refine Bi rfl ?_;refine Ad rfl (v:=.bool (F4 fs.length 1 5)) (λ_=>by have:=MM fs.length 1 5;simpa using this) (by simp [An]) ?_;refine Bi rfl ?_;refine Ab rfl (λh=>?_) (λh=>?_)
 ·refine BF rfl ?_;refine Aa rfl rfl (congrArg _ ?_);simp at h;simp [E7];grind
 have hx:(EU nm&&decide ((ds.length:Int)<=4)&&F4 fs.length 1 5)=true:=by simp at h ⊢;grind
 clear h;refine BF rfl ?_;refine Am (λi:Nat=>[(3,.imm (.int .i64 i)),(1,.ref 1 0)]) (λ_=>[(1,some (.immb 171 3 (Vg ⟨nm,ds,fs⟩)))]) [2,3] (λi=>ds.length-i)
  (λi=>i<=ds.length/\ds.all IO=(ds.drop i).all IO) 0 ⟨Nat.zero_le _,rfl⟩ ⟨rfl,rfl,trivial⟩ ⟨rfl,trivial⟩ rfl λi hi ih=>?_
 refine BF rfl ?_;refine Ab rfl (λh=>?_) (λh=>?_)
 ·simp at h;obtain ⟨c,hc⟩:=Ap h;have e:=hi.2;rw [Av hc] at e;refine BF rfl ?_;refine ki rfl (c:=CU c) (λ_=>⟨by simp,by simpa using B2 hc,by simp⟩) (by simp) ?_;refine Bi rfl ?_;refine Ad rfl (λ_=>oE c) (by simp) ?_;refine Bi rfl ?_;refine Ab rfl (λh=>?_) (λh=>?_)
  ·refine BF rfl ?_;refine Aa rfl rfl (congrArg _ ?_);simp at h;simp [E7,e,h]
  ·refine BF rfl ?_;simp at h;exact Ae (ih (i+1) (by omega) ⟨by omega,by rw [e];simp [h]⟩) ⟨A3 (BI (by omega) (by omega)),rfl,trivial⟩ ⟨rfl,trivial⟩ rfl
 simp at h;have hds:ds.all IO=true:=by rw [hi.2,List.drop_eq_nil_of_le (by omega)];rfl
 clear ih hi h;refine BF rfl ?_;refine Am (λi:Nat=>[(4,.imm (.int .i64 i)),(1,.ref 1 0)]) (λ_=>[(1,some (.immb 171 3 (Vg ⟨nm,ds,fs⟩)))]) [2,3] (λi=>fs.length-i)
  (λi=>i<=fs.length/\fs.all WW=(fs.drop i).all WW) 0 ⟨Nat.zero_le _,rfl⟩ ⟨rfl,rfl,trivial⟩ ⟨rfl,trivial⟩ rfl λi hi ih=>?_
 refine BF rfl ?_;refine Ab rfl (λh=>?_) (λh=>?_)
 ·simp at h;obtain ⟨c,hc⟩:=Ap h;have e:=hi.2;rw [Av hc] at e;refine BF rfl ?_;refine ki rfl (c:=PD c) (λ_=>⟨by simp,by simpa using B2 hc,by simp⟩) (by simp) ?_;obtain ⟨fnm,fpa,⟨s1,n1,x1,p1⟩,⟨s2,n2,x2,p2⟩,⟨op,n3,x3,ks,p3⟩⟩:=c;refine Bi rfl ?_;refine Ad rfl (λ_=>If fnm) (by simp [An]) ?_;refine Bi rfl ?_;refine Ad rfl (λ_=>If fpa) (by simp [An]) ?_;refine Bi rfl ?_;refine Ad rfl (λ_=>Nt (.mk s1 n1 x1 p1)) (by simp [An]) ?_;refine Bi rfl ?_;refine Ad rfl (λ_=>Nt (.mk s2 n2 x2 p2)) (by simp [An]) ?_;refine Bi rfl ?_;refine Ad rfl (λ_=>oN (.mk op n3 x3 ks p3)) (by simp [An]) ?_;refine Bi rfl ?_;refine Ab rfl (λh=>?_) (λh=>?_)
  ·refine BF rfl ?_;refine Aa rfl rfl (congrArg _ ?_);simp at h;have:WW ⟨fnm,fpa,.mk s1 n1 x1 p1,.mk s2 n2 x2 p2,.mk op n3 x3 ks p3⟩=false:=by simp [WW];grind
   simp [E7,e,this]
  ·refine BF rfl ?_;simp at h;have:WW ⟨fnm,fpa,.mk s1 n1 x1 p1,.mk s2 n2 x2 p2,.mk op n3 x3 ks p3⟩=true:=by simp [WW];grind
   exact Ae (ih (i+1) (by omega) ⟨by omega,by rw [e];simp [this]⟩) ⟨A3 (BI (by omega) (by omega)),rfl,trivial⟩ ⟨rfl,trivial⟩ rfl
 ·refine BF rfl ?_;refine Aa rfl rfl (congrArg _ ?_);simp at h;simp only [E7];rw [hds,hi.2,List.drop_eq_nil_of_le (by omega)];simpa using hx.symm
def Bf (s:Str):Nat->List Dt->Int
 | _,[]=>-1
 | i,d::r=>if d.name=s then (i:Int) else Bf s (i+1) r
theorem Wc (ds:List Dt) (s:Str):Ak Tryz.prog 96 [.sl (ds.map CU),.str s] (.int .i64 (Bf s 0 ds)):=by
 refine AS λhv=>?_;simp [Cx,EM,maxLen] at hv;refine Af FH Tryz.func96 (by decide +kernel) rfl [1,2,3] rfl rfl ?_;refine FE rfl ?_;refine Am (λi:Nat=>[(5,.imm (.int .i64 i)),(0,.imm (.sl (ds.map CU))),(1,.imm (.str s))]) (λ_=>[]) [1,2,3] (λi=>ds.length-i)
  (λi=>i<=ds.length/\Bf s 0 ds=Bf s i (ds.drop i)) 0 ⟨Nat.zero_le _,rfl⟩ ⟨rfl,rfl,rfl,trivial⟩ trivial rfl λi hi ih=>?_
 refine De rfl ?_;refine Ab rfl (λh=>?_) (λh=>?_)
 ·simp at h;obtain ⟨d,hd⟩:=Ap h;have e:=hi.2;rw [Av hd] at e;simp only [Bf] at e;refine De rfl ?_;refine vi rfl (c:=CU d) (λ_=>⟨by simp,by simpa using B2 hd,by simp⟩) (by simp) ?_;obtain ⟨dn,dc⟩:=d;refine FE rfl ?_;refine Ab rfl (λh=>?_) (λh=>?_)
  ·have hs:dn=s:=by simpa using h
   rw [e,if_pos hs];refine De rfl ?_;exact Aa rfl rfl rfl
  ·have hs:¬dn=s:=by simpa using h
   rw [if_neg hs] at e;refine De rfl ?_;exact Ae (ih (i+1) (by omega) ⟨by omega,e⟩) ⟨A3 (BI (by omega) (by omega)),rfl,rfl,trivial⟩ trivial rfl
 ·simp at h;refine Ay rfl ?_;refine De rfl ?_;rw [hi.2,List.drop_eq_nil_of_le (by omega)];exact Aa rfl rfl rfl
mutual
def AK:List Dt->Ty->Bool
 | ds,.mk s _ x ps=>!(s == 8&&decide (Bf x 0 ds<0))&&Bw ds ps
def Bw:List Dt->List Ty->Bool
 | _,[]=>true
 | ds,t::r=>AK ds t&&Bw ds r
end
theorem NP (ds:List Dt):∀t:Ty,Ak Tryz.prog 45 [.agg (dTyc t),.sl (ds.map CU)] (.bool (AK ds t))
 | .mk s n x ps=>by
  refine AS λhv=>?_;simp [Cx,EM,dTyc,maxLen] at hv;simp only [AK];refine Af FH Tryz.func45 (by decide +kernel) rfl [1,2,3] rfl rfl ?_;refine FE rfl ?_;refine Ad rfl (λ_=>Wc ds x) (by simp [An]) ?_;refine rD rfl ?_;by_cases hg:s=8/\Bf x 0 ds<0
  ·refine Ab rfl (λh=>?_) (λh=>by simp [hg] at h);refine De rfl ?_;refine Aa rfl rfl (congrArg _ ?_);simp [hg]
  refine Ab rfl (λh=>absurd (by simpa using h) hg) (λh=>?_);clear h;rw [show (!(s == 8&&decide (Bf x 0 ds<0)))=true by simp;omega,Bool.true_and];refine De rfl ?_;refine Am (λi:Nat=>[(5,.imm (.int .i64 i)),(1,.imm (.sl (ds.map CU))),(2,.ref 1 0)]) (λ_=>[(1,some (.immb 26 4 (dTyc (.mk s n x ps))))]) [2,3] (λi=>ps.length-i)
   (λi=>i<=ps.length/\Bw ds ps=Bw ds (ps.drop i)) 0 ⟨Nat.zero_le _,rfl⟩ ⟨rfl,rfl,rfl,trivial⟩ ⟨rfl,trivial⟩ rfl λi hi ih=>?_
  refine De rfl ?_;refine Ab rfl (λh=>?_) (λh=>?_)
  ·simp at h;obtain ⟨t,ht⟩:=Ap h;have e:=hi.2;rw [Av ht] at e;refine De rfl ?_;refine vi rfl (c:=dTyc t) (λ_=>⟨by simp,by simpa using A5 ht,by simp⟩) (by simp) ?_;refine FE rfl ?_;refine Ad rfl (λ_=>NP ds t) (by simp) ?_;refine FE rfl ?_;refine Ab rfl (λh=>?_) (λh=>?_)
   ·refine De rfl ?_;refine Aa rfl rfl (congrArg _ ?_);simp at h;simp [e,Bw,h]
   ·refine De rfl ?_;simp at h;exact Ae (ih (i+1) (by omega) ⟨by omega,by rw [e];simp [Bw,h]⟩) ⟨A3 (BI (by omega) (by omega)),rfl,rfl,trivial⟩ ⟨rfl,trivial⟩ rfl
  ·simp at h;refine Ay rfl ?_;refine De rfl ?_;refine Aa rfl rfl (congrArg _ ?_);rw [hi.2,List.drop_eq_nil_of_le (by omega)];simp [Bw]
termination_by t=>SizeOf.sizeOf t
decreasing_by
 have:=List.sizeOf_lt_of_mem (List.mem_of_getElem? ht);simp_wf;omega
theorem Xu:∀p:Ty,Aj p<=1000000->Ak Tryz.prog 48 [.agg (dTyc p)] (.int .i64 (Aj p:Int))
 | .mk s n x ps,hN=>by
  simp only [Aj] at hN;refine AS λhv=>?_;simp [Cx,EM,dTyc,maxLen] at hv;refine Af FH Tryz.func48 (by decide +kernel) rfl [1,2,3] rfl rfl ?_;refine FE rfl ?_;refine Am (λi:Nat=>[(4,.imm (.int .i64 i)),(3,.imm (.int .i64 ((1+Ag (ps.take i):Nat):Int))),(1,.ref 1 0)]) (λ_=>[(1,some (.immb 69 4 (dTyc (.mk s n x ps))))]) [2,3] (λi=>ps.length-i)
   (λi=>i<=ps.length) 0 (Nat.zero_le _) ⟨rfl,rfl,rfl,trivial⟩ ⟨rfl,trivial⟩ rfl λi hi ih=>?_
  refine De rfl ?_;refine Ab rfl (λh=>?_) (λh=>?_)
  ·simp at h;obtain ⟨t,ht⟩:=Ap h;have e:Ag (ps.take (i+1))=Ag (ps.take i)+Aj t:=by rw [Bn ht,BA];simp [Ag]
   have hb:=Cc ht;refine De rfl ?_;refine vi rfl (c:=dTyc t) (λ_=>⟨by simp,by simpa using A5 ht,by simp⟩) (by simp) ?_;refine FE rfl ?_;refine Ad rfl (λ_=>Xu t (by omega)) (by simp) ?_;refine FE rfl ?_;exact Ae (ih (i+1) (by omega) (by omega)) ⟨A3 (BI (by omega) (by omega)),A3 (by rw [e,BI (by omega) (by omega)];omega),rfl,trivial⟩ ⟨rfl,trivial⟩ rfl
  ·simp at h;refine Ay rfl ?_;refine De rfl ?_;rw [List.take_of_length_le (by omega)];refine Aa rfl rfl ?_;simp [Aj]
termination_by p=>SizeOf.sizeOf p
decreasing_by
 have:=List.sizeOf_lt_of_mem (List.mem_of_getElem? ht);simp_wf;omega
structure Cse where
 datas:List Dt
 type:Ty
 rows:List Ty
def dCse (c:Cse):List V:=[.sl (c.datas.map CU)]++dTyc c.type++[.sl (BQ c.rows)]
@[simp] theorem dCse_length (c:Cse):(dCse c).length=6:=by obtain ⟨ds,⟨s,n,x,ps⟩,rows⟩:=c;rfl
def mP:TT:=mN++[
 (29,⟨.struct [(0,22),(1,26),(5,27)],true,6,104,[.nils,.imm (.int .i64 0),.imm (.int .i64 0),.imm (.str []),.nils,.nils]⟩)]
theorem DM:TTok Tryz.prog mP:=.of_eq (l:=[4,3,9,165,26,69,162,27,5,24,23,172,163,67,167,171,75,22,169,72,70,37,46,44,33,29]) (by kernel_rfl)
section
variable {n:Nat} {F:List Nat} {Q:DQ} {env env':Env} {st st':St} {ids ids':List Nat} {k todo:List DI} {ob:List Prop}
theorem cd (path:List Pt) (h:run mP n 300 path todo env st ids [] = .at k env' st' ids' ob) (hob:AA ob) (hd:G Tryz.prog n F Q k env' st' ids'):DGo Tryz.prog n F Q todo env st ids:=Lv DM EV 300 path h hob hd
theorem C0 (h:run mP n 300 [] todo env st ids [] = .at k env' st' ids' ob) (hd:G Tryz.prog n F Q k env' st' ids') (hob:AA ob:=by simp):DGo Tryz.prog n F Q todo env st ids:=cd [] h hob hd
theorem cdqc (h:run mP n 300 [] todo env st ids [] = .at k env' st' ids' ob) (hd:G Tryz.prog n F Q k env' st' ids') (hob:AA ob:=by simp [An]):DGo Tryz.prog n F Q todo env st ids:=cd [] h hob hd
theorem cg (path:List Pt) (h:run mP n 300 path todo env st ids [] = .at k env' st' ids' ob) (hob:AA ob) (hd:G Tryz.prog n F Q k env' st' ids'):G Tryz.prog n F Q todo env st ids:=Ks DM EV 300 path h hob hd
theorem Em (h:run mP n 300 [] todo env st ids [] = .at k env' st' ids' ob) (hd:G Tryz.prog n F Q k env' st' ids') (hob:AA ob:=by simp):G Tryz.prog n F Q todo env st ids:=cg [] h hob hd
theorem qY (h:run mP n 300 [] todo env st ids [] = .at k env' st' ids' ob) (hd:G Tryz.prog n F Q k env' st' ids') (hob:AA ob:=by simp [An]):G Tryz.prog n F Q todo env st ids:=cg [] h hob hd
theorem ci {es:List (List V)} {m:Int} {sz:Nat} {e:TypeId} {g:Option (Bool×Bool)} {ob:List Prop} {t:Nat} {todo':List DI} {c:List V} (h:P7 mP n env todo=some ⟨es,m,sz,e,g,ob,some t,todo'⟩)
  (hc:An g->0<=m/\es[m.toNat]?=some c/\c.length=sz) (hob:AA ob) (hk:G Tryz.prog n F Q todo' ((t,gD g (.ip e c 0))::env) st ids):G Tryz.prog n F Q todo env st ids:=Gg DM h hc hob hk
end
end Go.Hk
namespace Go.Hk
open Go.Proofs
def oS:Cd:=⟨[],[]⟩
def Dn (s:Str):Nat->List Cd->Cd×Int
 | _,[]=>(oS,-1)
 | i,c::r=>if c.name=s then (c,(i:Int)) else Dn s (i+1) r
def BO (ds:List Dt) (t:Ty) (s:Str):Cd×Int:=match t with
 | .mk so _ x _=>if so=8 then (match ds[(Bf x 0 ds).toNat]? with
  | some d=>Dn s 0 d.cons
  | none=>(oS,-1)) else (oS,-1)
theorem Zk (c:Cse) (t:Ty) (s:Str) (h:∀so n x ps,t = .mk so n x ps->so=8->0<=Bf x 0 c.datas/\∃d,c.datas[(Bf x 0 c.datas).toNat]?=some d) (hl:∀d∈c.datas,d.cons.length<=1000000) :
  Ak Tryz.prog 99 [.agg (dCse c),.agg (dTyc t),.str s] (.tup [.agg (DN (BO c.datas t s).1),.int .i64 (BO c.datas t s).2]):=by
 obtain ⟨ds,ct,rows⟩:=c;obtain ⟨so,n,x,ps⟩:=t;obtain ⟨cs,cn,cx,cps⟩:=ct;have h:=h so n x ps rfl;simp only at h;refine AS λhv=>?_;refine Af DM Tryz.func99 (by decide +kernel) rfl [1,2,3,4,5] rfl rfl ?_;refine Em rfl ?_;by_cases e:so=8
 case neg =>
  refine Ab rfl (λh=>?_) (λh=>absurd (by simpa using h) e);refine C0 rfl ?_;rw [show BO ds (.mk so n x ps) s=(oS,-1) by simp [BO,e]];exact Aa rfl rfl rfl
 obtain ⟨hp,d,hd⟩:=h e;have hlen:d.cons.length<=1000000:=hl d (List.mem_of_getElem? hd);rw [show BO ds (.mk so n x ps) s=Dn s 0 d.cons by simp [BO,e,hd]];refine Ab rfl (λh=>by simp [e] at h) (λh=>?_);clear h;refine C0 rfl ?_;refine Ad rfl (λ_=>Wc ds x) (by simp) ?_;refine Em rfl ?_;refine ci rfl (c:=CU d) (λ_=>⟨hp,by simpa using B2 hd,by simp⟩) (by simp) ?_;obtain ⟨dn,dc⟩:=d;refine cg [] rfl (by simp;rfl) ?_;simp only at hlen ⊢;refine Am (λi:Nat=>[(9,.imm (.int .i64 i)),(8,.ref 4 0),(6,.ref 3 0),(2,.imm (.str s))]) (λ_=>[(4,some (.immb 72 2 (CU ⟨dn,dc⟩))),(3,some (.cells 75 2 [.imm (.str []),.nils]))]) [5] (λi=>dc.length-i)
  (λi=>i<=dc.length/\Dn s 0 dc=Dn s i (dc.drop i)) 0 ⟨Nat.zero_le _,rfl⟩ ⟨rfl,rfl,rfl,rfl,trivial⟩ ⟨rfl,rfl,trivial⟩ rfl λi hi ih=>?_
 refine C0 rfl ?_;refine Ab rfl (λh=>?_) (λh=>?_)
 ·simp at h;obtain ⟨k,hk⟩:=Ap h;have e:=hi.2;rw [Av hk] at e;simp only [Dn] at e;refine C0 rfl ?_;refine ci rfl (c:=DN k) (λ_=>⟨by simp,by simpa using B2 hk,by simp⟩) (by simp) ?_;obtain ⟨kn,ka⟩:=k;refine Em rfl ?_;refine Ab rfl (λh=>?_) (λh=>?_)
  ·have hs:kn=s:=by simpa using h
   rw [e,if_pos hs];refine C0 rfl ?_;refine ci rfl (c:=DN ⟨kn,ka⟩) (λ_=>⟨by simp,by simpa using B2 hk,by simp⟩) (by simp) ?_;refine Em rfl ?_;exact Aa rfl rfl rfl
  ·have hs:¬kn=s:=by simpa using h
   rw [if_neg hs] at e;refine C0 rfl ?_;exact Ae (ih (i+1) (by omega) ⟨by omega,e⟩) ⟨A3 (BI (by omega) (by omega)),rfl,rfl,rfl,trivial⟩ ⟨rfl,rfl,trivial⟩ rfl
 ·simp at h;refine Ay rfl ?_;refine C0 rfl ?_;rw [hi.2,List.drop_eq_nil_of_le (by omega)];exact Aa rfl rfl rfl
end Go.Hk
namespace Go.Hk
def Ov (P:Program) (f:FuncId) (t tb:TypeId):Prop:=∀(g:FuncId) (fi ca:Array Value) (w:World) (K Kp:World->Prop),
 (callFunc g (fi++ca)).run P (w.alloc (.cells #[.bool false] tb)) = .ok (.enter g (fi++ca)) (w.alloc (.cells #[.bool false] tb)) ->
 Calls P g (fi++ca) (w.alloc (.cells #[.bool false] tb)) (λe w'=>match e with
  | .returned _=>K w'
  | .panicked chain=>chain=[{ v:=.iface t (.agg #[]),recovered:=false }]/\Kp w'
  | .outgrown=>False) ->
 (∀w',K w'->w'.heap[w.heap.size]?=some (.cells #[.bool false] tb (0,0)))->(∀w',Kp w'->w'.heap[w.heap.size]?=some (.cells #[.bool false] tb (0,0))) ->
 Calls P f #[.func (.func g) fi ca] w λe w'=>(e = .returned (.bool true)/\∃w1,K w1/\w'=w1.setCell ⟨w.heap.size,0,none⟩ (.bool true)) \/
  (e = .returned (.bool false)/\∃w1,Kp w1/\w'=(w1.setCell ⟨w.heap.size,0,none⟩ (.bool false)).alloc (.cells #[] t))
theorem Ik {w:World} {b:Nat} {v x:Value} {t:TypeId} (h:w.heap[b]?=some (.cells #[x] t (0,0))):w.setCell ⟨b,0,none⟩ v={ w with heap:=w.heap.setIfInBounds b (.cells #[v] t (0,0)) }:=by
 have:∀(A:Array Obj) (f:Obj->Obj),A[b]?=some (.cells #[x] t (0,0))->A.modify b f=A.setIfInBounds b (f (.cells #[x] t (0,0))):=by
  intro A f hA;apply Array.ext_getElem?;intro i;rw [Array.getElem?_modify,Array.getElem?_setIfInBounds];by_cases hi:b=i
  ·subst hi;rw [if_pos rfl,if_pos rfl,hA];simp [(Array.getElem?_eq_some_iff.1 hA).1]
  ·rw [if_neg hi,if_neg hi]
 unfold World.setCell;rw [this _ _ h];rfl
theorem Eb {I:Imm} {μ:Mu} {st:St} {ids:List Nat} {w:World} (hst:StRep I μ st ids w) {b:Nat} (h:Bq μ st b):b<w.heap.size:=by
 obtain ⟨id,blk,g,h1,h2,h3⟩:=h;exact (hst.apart id blk g b h1 h2 h3).2
theorem StRep.other {I:Imm} {μ:Mu} {st:St} {ids:List Nat} {w w':World} (hst:StRep I μ st ids w) (hs:w.heap.size<=w'.heap.size) (hi:∀b o,I b=some o->w'.heap[b]?=w.heap[b]?) (ho:∀b,Bq μ st b->w'.heap[b]?=w.heap[b]?):StRep I μ st ids w' :=
 {imm:=λb o h=>(hi b o h).trans (hst.imm b o h),blk:=λid blk hl=>let ⟨g,h1,h2⟩:=hst.blk id blk hl;⟨g,h1,h2.world λb hb=>ho b ⟨id,blk,g,hl,h1,hb⟩⟩,
  apart:=λid blk g b h1 h2 h3=>⟨(hst.apart id blk g b h1 h2 h3).1,Nat.lt_of_lt_of_le (hst.apart id blk g b h1 h2 h3).2 hs⟩,inj:=hst.inj,nodup:=hst.nodup,idsFree:=hst.idsFree }
theorem RepD.fnD {I:Imm} {μ:Mu} {v:Value} {f:Fn} {df dc:List D} (h:RepD I μ v (.fn f df dc)):∃first cap:Array Value,v = .func f first cap/\RepL I μ (first++cap).toList (df++dc):=by
 cases h with
 | fn _ first cap _ _ hf hc h1 h2 =>
  refine ⟨first,cap,rfl,?_⟩;rw [Array.toList_append];refine ⟨by simp [hf,hc],λi v d p q=>?_⟩;rw [List.getElem?_append] at p q;have hl:first.toList.length=df.length:=by simpa using hf
  rw [hl] at p
  split at p
  ·rename_i hlt;rw [if_pos hlt] at q;exact h1 i v d (by simpa using p) q
  ·rename_i hlt;rw [if_neg hlt] at q;exact h2 _ v d (by simpa using p) q
section
variable {P:Program} {f g:FuncId} {t tb:TypeId} {fn fg:Func} {cf cg:Code} {df dc:List D} {st0 st1:St} {d:D}
theorem Rv {I:Imm} {μ:Mu} {xs:Array Value} (hxs:RepL I μ xs.toList [.fn (.func g) df dc]):∃first cap:Array Value,xs = #[.func (.func g) first cap]/\RepL I μ (first++cap).toList (df++dc):=by
 obtain ⟨l,rfl⟩:∃l:List Value,xs=l.toArray:=⟨xs.toList,by simp⟩
 rw [List.toList_toArray] at hxs
 match l,hxs with
 | [v],hxs =>
  obtain ⟨first,cap,rfl,h⟩:=(hxs.2 0 v _ rfl rfl).fnD;exact ⟨first,cap,rfl,h⟩
 | [],hxs=>exact absurd hxs.1 (by simp)
 | _::_::_,hxs=>exact absurd hxs.1 (by simp)
theorem TS (hf : P.funcs[f]? = some fn) (hn : (fn.name == "runtime.NumGoroutine") = false) (hb : fn.body = some cf) (hs : Ov P f t tb)
  (hg : P.funcs[g]? = some fg) (hgn : (fg.name == "runtime.NumGoroutine") = false) (hgb : fg.body = some cg) (hE : Bg P g (df ++ dc) st0 (.ret d st1)) : Bg P f [.fn (.func g) df dc] st0 (.ret (.imm (.bool true)) st1) := by
 intro I μ w xs hst hxs;obtain ⟨first,cap,rfl,hx⟩:=Rv hxs;rw [BW hf hn hb];have hheap:(w.alloc (.cells #[.bool false] tb)).heap=w.heap.push (.cells #[.bool false] tb (0,0)):=rfl;have hgrow:∀r,r<w.heap.size->(w.alloc (.cells #[.bool false] tb)).heap[r]?=w.heap[r]?:=λr hr=>by rw [hheap];simp [Array.getElem?_push,Nat.ne_of_lt hr]
 have hself:(w.alloc (.cells #[.bool false] tb)).heap[w.heap.size]?=some (.cells #[.bool false] tb (0,0)):=by rw [hheap];simp
 have hsize:(w.alloc (.cells #[.bool false] tb)).heap.size=w.heap.size+1:=by rw [hheap];simp
 have hlt:∀b o,I b=some o->b<w.heap.size:=λb o h=>(Array.getElem?_eq_some_iff.1 (hst.imm b o h)).1;have hst1:StRep I μ st0 [] (w.alloc (.cells #[.bool false] tb)):=hst.other (by omega) (λb o h=>hgrow b (hlt b o h)) (λb h=>hgrow b (Eb hst h));have hno:¬Bq μ st0 w.heap.size:=λh=>absurd (Eb hst h) (Nat.lt_irrefl _);have hIn:I w.heap.size=none:=by
  cases h:I w.heap.size with
  | none=>rfl
  | some o=>exact absurd (hlt _ o h) (Nat.lt_irrefl _)
 have hcall:=hE I μ _ (first++cap) hst1 hx;have hrun:=BW (w:=w.alloc (.cells #[.bool false] tb)) hg hgn hgb (first++cap);rw [hrun] at hcall;have hcall:Calls P g (first++cap) (w.alloc (.cells #[.bool false] tb)) (λe w'=>match e with
  | .returned u=>∃I' μ',RepD I' μ' u d/\StRep I' μ' st1 [] w'/\Pin (D8 st0) μ μ'/\Ext I μ st0 (w.alloc (.cells #[.bool false] tb)) I' μ' st1 w'
  | .panicked _=>False
  | .outgrown=>False):=hcall
 have keep:∀w' I' μ',Ext I μ st0 (w.alloc (.cells #[.bool false] tb)) I' μ' st1 w'->w'.heap[w.heap.size]?=some (.cells #[.bool false] tb (0,0)):=λw' I' μ' he=>(he.block _ (by omega) hno).trans hself;show Calls P f _ w _;refine Calls.mono (hs g first cap w (λw'=>∃I' μ',StRep I' μ' st1 [] w'/\Pin (D8 st0) μ μ'/\Ext I μ st0 (w.alloc (.cells #[.bool false] tb)) I' μ' st1 w') (λ_=>False) hrun (Calls.mono hcall ?_) (λw' ⟨I',μ',_,_,he⟩=>keep w' I' μ' he) (λ_ h=>h.elim)) ?_
 ·intro e w' he;cases e with
  | returned u=>obtain ⟨I',μ',_,h2,h3,h4⟩:=he;exact ⟨I',μ',h2,h3,h4⟩
  | panicked=>exact he.elim
  | outgrown=>exact he.elim
 ·rintro e w2 (⟨rfl,w1,⟨I',μ',h2,h3,h4⟩,rfl⟩ | ⟨_,_,hx,_⟩)
  ·have hc:=keep w1 I' μ' h4;rw [Ik hc];have hI':I' w.heap.size=none:=(h4.old _ (by omega) hno).trans hIn;have hno':¬Bq μ' st1 w.heap.size:=λh=>hno (h4.fresh _ (by omega) h);have hsame:∀b,b≠w.heap.size->(w1.heap.setIfInBounds w.heap.size (.cells #[.bool true] tb (0,0)))[b]?=w1.heap[b]?:=λb hb=>Array.getElem?_setIfInBounds_ne (Ne.symm hb);refine ⟨I',μ',.imm _ _ (.bool true),?_,h3,?_⟩
   ·exact h2.other (by simp) (λb o h=>hsame b λe=>by rw [e,hI'] at h;cases h) (λb h=>hsame b λe=>hno' (e ▸ h))
   ·have hsz:=h4.size
    exact { imm:=h4.imm,os:=h4.os,tape:=h4.tape,output:=h4.output,size:=by simp;omega,
            block:=λb hb ho=>(hsame b (by omega)).trans ((h4.block b (by omega) ho).trans (hgrow b hb)),fresh:=λb hb ho=>h4.fresh b (by omega) ho,old:=λb hb ho=>h4.old b (by omega) ho }
  ·exact hx.elim
theorem WK (hf : P.funcs[f]? = some fn) (hn : (fn.name == "runtime.NumGoroutine") = false) (hb : fn.body = some cf) (hs : Ov P f t tb)
  (hg : P.funcs[g]? = some fg) (hgn : (fg.name == "runtime.NumGoroutine") = false) (hgb : fg.body = some cg) (hE : Bg P g (df ++ dc) st0 (.pan (.iface t (.agg [])))) : Bg P f [.fn (.func g) df dc] st0 (.ret (.imm (.bool false)) []) := by
 intro I μ w xs hst hxs;obtain ⟨first,cap,rfl,hx⟩:=Rv hxs;rw [BW hf hn hb];have hheap:(w.alloc (.cells #[.bool false] tb)).heap=w.heap.push (.cells #[.bool false] tb (0,0)):=rfl;have hgrow:∀r,r<w.heap.size->(w.alloc (.cells #[.bool false] tb)).heap[r]?=w.heap[r]?:=λr hr=>by rw [hheap];simp [Array.getElem?_push,Nat.ne_of_lt hr]
 have hself:(w.alloc (.cells #[.bool false] tb)).heap[w.heap.size]?=some (.cells #[.bool false] tb (0,0)):=by rw [hheap];simp
 have hsize:(w.alloc (.cells #[.bool false] tb)).heap.size=w.heap.size+1:=by rw [hheap];simp
 have hlt:∀b o,I b=some o->b<w.heap.size:=λb o h=>(Array.getElem?_eq_some_iff.1 (hst.imm b o h)).1;have hst1:StRep I μ st0 [] (w.alloc (.cells #[.bool false] tb)):=hst.other (by omega) (λb o h=>hgrow b (hlt b o h)) (λb h=>hgrow b (Eb hst h));have hno:¬Bq μ st0 w.heap.size:=λh=>absurd (Eb hst h) (Nat.lt_irrefl _);have hIn:I w.heap.size=none:=by
  cases h:I w.heap.size with
  | none=>rfl
  | some o=>exact absurd (hlt _ o h) (Nat.lt_irrefl _)
 have hcall:=hE I μ _ (first++cap) hst1 hx;have hrun:=BW (w:=w.alloc (.cells #[.bool false] tb)) hg hgn hgb (first++cap);rw [hrun] at hcall;have hcall:Calls P g (first++cap) (w.alloc (.cells #[.bool false] tb)) (λe w'=>match e with
  | .returned _=>False
  | .panicked chain=>Ld (· = .iface t (.agg [])) I μ st0 (w.alloc (.cells #[.bool false] tb)) chain w'
  | .outgrown=>False):=hcall
 have keep:∀w' I',Ext I μ st0 (w.alloc (.cells #[.bool false] tb)) I' μ [] w'->w'.heap[w.heap.size]?=some (.cells #[.bool false] tb (0,0)):=λw' I' he=>(he.block _ (by omega) hno).trans hself;show Calls P f _ w _;refine Calls.mono (hs g first cap w (λ_=>False) (λw'=>∃I',I'.ok w'/\Ext I μ st0 (w.alloc (.cells #[.bool false] tb)) I' μ [] w') hrun (Calls.mono hcall ?_) (λ_ h=>h.elim) (λw' ⟨I',_,he⟩=>keep w' I' he)) ?_
 ·intro e w' he;cases e with
  | returned u=>exact he.elim
  | panicked chain =>
   obtain ⟨v,x,I',h1,h2,h3,h4,h5⟩:=he;subst h2;cases h3 with
   | iface _ v' _ hv =>
    cases hv with
    | agg cs _ hl _ _ =>
     have:cs = #[]:=Array.eq_empty_of_size_eq_zero (by simpa using hl);subst this;exact ⟨h1,I',h4,h5⟩
  | outgrown=>exact he.elim
 ·rintro e w2 (⟨_,_,hx,_⟩ | ⟨rfl,w1,⟨I',h2,h4⟩,rfl⟩)
  ·exact hx.elim
  ·have hc:=keep w1 I' h4;rw [Ik hc];have hI':I' w.heap.size=none:=(h4.old _ (by omega) hno).trans hIn;have hsz:=h4.size;have hsame:∀b,b≠w.heap.size->b<w1.heap.size->(({ w1 with heap:=w1.heap.setIfInBounds w.heap.size (.cells #[.bool false] tb (0,0)) }:World).alloc (.cells #[] t)).heap[b]?=w1.heap[b]?:=λb hb hlt=>by
    show ((w1.heap.setIfInBounds w.heap.size _).push _)[b]?=_;rw [Array.getElem?_push,if_neg (by simp;omega)];exact Array.getElem?_setIfInBounds_ne (Ne.symm hb)
   refine ⟨I',μ,.imm _ _ (.bool false),?_,Pin.refl _ _,?_⟩
   ·exact { imm:=λb o h=>(hsame b (λe=>by rw [e,hI'] at h;cases h) (Array.getElem?_eq_some_iff.1 (h2 b o h)).1).trans (h2 b o h),blk:=λid blk hl=>(by cases hl),apart:=λid blk g b hl=>(by cases hl),inj:=λi j bi bj gi gj b hl=>(by cases hl),nodup:=.nil,idsFree:=λid hi=>(by cases hi) }
   ·exact { imm:=h4.imm,os:=h4.os,tape:=h4.tape,output:=h4.output,size:=by show w.heap.size<=((w1.heap.setIfInBounds w.heap.size _).push _).size;simp;omega,
            block:=λb hb ho=>(hsame b (by omega) (by omega)).trans ((h4.block b (by omega) ho).trans (hgrow b hb)),fresh:=λb hb ho=>h4.fresh b (by omega) ho,old:=λb hb ho=>h4.old b (by omega) ho }
end
end Go.Hk
namespace Go.Hk
def sN (P:Program) (I:Imm) (μ:Mu) (st:St) (w:World) (d:D) (st':St) (r:Result Next):Prop :=
 valX P r (λu w'=>∃I' μ',RepD I' μ' u d/\StRep I' μ' st' [] w'/\Pin (D8 st) μ μ'/\Ext I μ st w I' μ' st' w') (λ_ _=>False)
def Vu (j:Nat) (S:Bun):St:=[(0,some .pin),(j,some (.bun 0 S))]
def PG (P:Program) (ds:List D) (S:Bun) (r:Bool) (S':Bun):Prop :=
 ∀I μ w b (xs:Array Value),μ 0=some (.func (.yield b) #[] #[])->StRep I μ (Vu 1 S) [] w->RepL I μ xs.toList ds->sN P I μ (Vu 1 S) w (.imm (.bool r)) (Vu 2 S') ((Instr.yield b xs).run P w)
section
variable {P:Program} {n:Nat} {F:List Nat} {Q:DQ} {tt:TT} {env E:Env} {st st0 st1:St} {ids ids':List Nat} {k todo todo':List DI} {I:Imm} {μ:Mu} {w:World} {Pn:V->Prop} {d:D} {das:List D} {f:FuncId}
theorem BR:∀{st:St} {i:Nat} {b:Blk},At st i b->i∈D8 st
 | [],i,b,h=>by simp [At,lk] at h
 | (s,x)::r,i,b,h=>by
  by_cases hs:s=i
  ·subst hs;simp [D8]
  ·have:At r i b:=by unfold At at h ⊢;rwa [A6 _ _ hs] at h
   simp only [D8,List.map_cons,List.mem_cons];exact .inr (BR this)
theorem jK {s t:St} {i:Nat} {b:Blk} (h:At (s++t) i b):At s i b\/(i∉D8 s/\At t i b):=by
 by_cases hm:i∈s.map (·.1)
 ·left;unfold At at h ⊢;rwa [EJ hm] at h
 ·right;unfold At at h ⊢;rw [ID hm] at h;exact ⟨hm,h⟩
theorem TK {s t:St} {i:Nat} {b:Blk} (h:At s i b):At (s++t) i b:=by
 have hm:i∈s.map (·.1):=BR h;unfold At at h ⊢;rwa [EJ hm]
theorem TJ {s t:St} {i:Nat} {b:Blk} (hn:i∉D8 s) (h:At t i b):At (s++t) i b:=by
 unfold At at h ⊢;rwa [ID hn]
structure lU where
 id:Nat
 das:List D
 g:Option (Bool×Bool)
 ob:List Prop
 dst:Option Nat
 o:Oper
 all:List Oper
def fC (n:Nat) (env:Env) (todo:List DI):Option lU :=
 match Bk todo ([],[]) with
 | some (all,o,_)=>match Ct all env o,o.op with
  | some g,.call { callee:=.value (.tmp t),args:=⟨args⟩,.. }=>match lk env t,Ir (An g) env args,BJ n o.dst with
   | some (.yld id),some (ds,ob),true=>some ⟨id,ds,g,ob,o.dst,o,all⟩
   | some (.guard c w (.yld id)),some (ds,ob),true=>some ⟨id,ds,g,(An g->c=w)::ob,o.dst,o,all⟩
   | _,_,_=>none
  | _,_=>none
 | none=>none
theorem RepD.yldInv {v:Value} {id:Nat} (h:RepD I μ v (.yld id)):∃b,μ id=some (.func (.yield b) #[] #[])/\v = .func (.yield b) #[] #[]:=by
 cases h with
 | yld b _ h=>exact ⟨b,h,rfl⟩
theorem bH {o:Oper} {t b:Nat} {args:List Operand} {ts:Array TypeId} {a:Act} (ho:o.op = .call { callee:=.value (.tmp t),args:=⟨args⟩,argTypes:=ts }) (hv:a.eval (.tmp t) = .func (.yield b) #[] #[]) :
  (execOp a.eval o).run P w=(Instr.yield b (args.map a.eval).toArray).run P w:=by
 simp only [execOp,ho,resolve,hv,Deferred.ofValue,Sem.run_bind,Sem.run_pure,Result.andThen_ok,invoke];congr 2;simp
theorem bI {c:lU} (h:fC n env todo=some c) (hob:AA c.ob) (hcx:An c.g) :
  (∀f,∃todo',Bk todo f=some (c.all,c.o,todo'))/\Ct c.all env c.o=some c.g/\BJ n c.dst=true/\c.dst=c.o.dst/\(∀x,c.o.op ≠ .defer x) /\
  ∀I μ a,D5 I μ env a c.o.op->∃b,∃xs:Array Value,μ c.id=some (.func (.yield b) #[] #[])/\RepL I μ xs.toList c.das/\∀w,(execOp a.eval c.o).run P w=(Instr.yield b xs).run P w:=by
 unfold fC at h;have hnext:∀{all:List Oper} {o:Oper} {t:List DI},Bk todo ([],[])=some (all,o,t)->∀f,∃todo',Bk todo f=some (all,o,todo'):=by
  intro all o t h f;rcases I6 h with ⟨r,k,rfl,_⟩ | ⟨r,fs,k,rfl,_⟩
  ·exact ⟨_,rfl⟩
  ·exact ⟨_,rfl⟩
 split at h
 ·rename_i all o t h1
  split at h
  ·rename_i g t' args ts hg ho;have fin:∀{dv:D} {ds:List D} {ob:List Prop} {id:Nat},lk env t'=some dv->Ir (An g) env args=some (ds,ob)->AA ob->An g->(∀{I:Imm} {μ:Mu} {v:Value},RepD I μ v dv->∃b,μ id=some (.func (.yield b) #[] #[])/\v = .func (.yield b) #[] #[]) ->
     ∀I μ a,D5 I μ env a o.op->∃b,∃xs:Array Value,μ id=some (.func (.yield b) #[] #[])/\RepL I μ xs.toList ds/\∀w,(execOp a.eval o).run P w=(Instr.yield b xs).run P w:=by
    intro dv ds ob id ht ha hob hcx hyl I μ a hop;rw [ho] at hop;have hargs:=Gv (I:=I) (μ:=μ) (a:=a) hcx ha hob λx hx=>hop x (by simp [Op.operands,Call.operands,hx]);obtain ⟨b,q1,q2⟩:=hyl (hop (.tmp t') (by simp [Op.operands,Call.operands]) _ ht);exact ⟨b,_,q1,by simpa using hargs,λw=>bH ho q2⟩
   split at h
   ·rename_i id ds ob ht ha hd;cases h;exact ⟨hnext h1,hg,hd,rfl,(λx hx=>by rw [ho] at hx;cases hx),fin ht ha hob hcx (λh=>h.yldInv)⟩
   ·rename_i cc ww id ds ob ht ha hd;cases h;exact ⟨hnext h1,hg,hd,rfl,(λx hx=>by rw [ho] at hx;cases hx),fin ht ha hob.2 hcx (λh=>(h.guardInv (hob.1 hcx)).yldInv)⟩
   ·cases h
  ·cases h
 ·cases h
theorem aC {c:lU} {j j2:Nat} {S S':Bun} {r:Bool} (h:fC n env todo=some c) (hob:AA c.ob) (hcx:An c.g) (hE:PG P (Gm (Ei [(c.id,0),(j,1)]) c.das) S r S') (hy:lk st c.id=some (some .pin)) (hj:lk st j=some (some (.bun c.id S)))
  (hn:LO [(c.id,0),(j,1)] [(2,j2)] c.das (Vu 1 S) (.imm (.bool r)) (Vu 2 S') [j2]=true) (h1:Bk todo ([c.id,j],[c.id,j2,c.id,j])=some (c.all,c.o,todo')) (hids:ids=j2::ids')
  (hk:G P n F Q todo' (BE c.dst (gD c.g (.imm (.bool r))) env) ((c.id,some .pin)::(j2,some (.bun c.id S'))::(c.id,none)::(j,none)::st) ids'):G P n F Q todo env st ids:=by
 obtain ⟨_,q2,q3,q4,q5,q6⟩:=bI (P:=P) h hob hcx;rw [q4] at q3 hk;subst hids;have hN:=NN hn;have hb:FX [(c.id,0),(j,1)] st (Vu 1 S):=by
  have hne:Nat.beq c.id j=false:=by
   have:=hN.inv;simp only [List.map_cons,List.map_nil,D0,Bj] at this;cases hb:Nat.beq c.id j with
   | false=>rfl
   | true =>
    have:=Nat.eq_of_beq_eq_true hb;rw [<- this] at hj;rw [hy] at hj;cases hj
  have e0:lk (Bj [(c.id,0),(j,1)]) 0=some c.id:=rfl;have e1:lk (Bj [(c.id,0),(j,1)]) 1=some j:=rfl;have f0:lk [(c.id,0),(j,1)] c.id=some 0:=Aw _ _ _;have f1:lk [(c.id,0),(j,1)] j=some 1:=by
   have:c.id≠j:=λe=>by rw [e] at hne;simp at hne
   rw [A6 _ _ this];exact Aw _ _ _
  have g0:Ei [(c.id,0),(j,1)] c.id=0:=by simp [Ei,f0]
  refine ⟨?_,?_,trivial⟩
  ·simp only [e0,f0,hy];exact ⟨rfl,rfl,rfl⟩
  ·simp only [e1,f1,hj];refine ⟨rfl,?_,?_⟩
   ·simp only [UF,g0]
   ·simp only [Sx,D0,f0,e0];simp
 have hl:LD P (M5 Q) c.all c.o env st (Gt [(c.id,0),(j,1)]) [j2] (Eo (Bj [(c.id,0),(j,1)]++[(2,j2)]) (Vu 2 S')++Cy (Gt [(c.id,0),(j,1)])) (gD c.g (.imm (.bool r))):=by
  intro I μ st2 ids1 a w hag hst hon;have hwant:=GO q2 hon;refine ⟨λ_=>?_,λhw=>by rw [hwant.2 hcx] at hw;cases hw⟩;obtain ⟨b,xs,m1,m2,m3⟩:=q6 I μ a (Bh hon);have hb':=GT hag hb;obtain ⟨g1,g2,g3⟩:=H5 hst hb' hN.args m2;rw [m3];refine (hE I _ w b xs (by simpa [Hf,Bj,lk] using m1) g1 g2).mono (λu w' hu=>?_) (λ_ _ h=>h.elim);obtain ⟨I',μ',r1,r2,r3,r4⟩:=hu;obtain ⟨ν,s1,s2,s3,s4⟩:=KY hst hb' hN r1 r2 r3 r4 g3;rw [<- KO] at s1 s4;refine ⟨I',ν,s1,?_,s3,s4⟩;cases hg:c.g with
  | none=>exact s2
  | some p=>rw [hg] at hcx;exact .guard _ _ _ _ (λ_=>s2) (λhn=>absurd hcx hn)
 have ew:Eo (Bj [(c.id,0),(j,1)]++[(2,j2)]) (Vu 2 S')++Cy (Gt [(c.id,0),(j,1)])=[(c.id,some .pin),(j2,some (.bun c.id S')),(c.id,none),(j,none)]:=rfl;rw [ew] at hl;exact BC (fr:=[j2]) (wr:=[(c.id,some .pin),(j2,some (.bun c.id S')),(c.id,none),(j,none)]) h1 hl q3 q5 hk
end
end Go.Hk
namespace Go.Hk
def sP (pend:Option Code) (stB:St):DQ:=λx _ st _=>match x,pend with
 | .norm,none=>He st stB
 | .ret,some .ret=>He st stB
 | .exit j,some (.exit j')=>j=j'/\He st stB
 | _,_=>False
structure Lz where
 fn:FuncId
 ps:Array Tmp
 asg:Code
 body:Code
 tmps:Array Value
 E:Env
 F:List Nat
 μ0:Mu
def lV (pend:Option Code) (r:Go.Loop):Prop:=r.state=(match pend with | none=>.ready | some _=>.done)/\r.pending=pend
def sC (L:Lz) (st:St) (pend:Option Code) (I:Imm) (w:World) (b:Nat) (bs:List Nat):Prop :=
 ∃(r:Go.Loop) (μ:Mu) (bs0:List Nat),bs=b::bs0/\w.heap[b]?=some (.loop r)/\lV pend r/\(r.fn=L.fn/\r.params=L.ps/\r.assign=L.asg/\r.body=L.body/\r.tmps=L.tmps) /\
  (∀t d,lk L.E t=some d->RepD I μ (L.tmps.getD t undef) d)/\(∀i blk,At st i blk->∃g,μ i=some g/\BlkRep I μ w g blk) /\
  (∀i j bi bj gi gj k,At st i bi->At st j bj->μ i=some gi->μ j=some gj->Dl gi k->Dl gj k->i=j)/\(∀k,k∈bs0↔Bq μ st k)/\b∉bs0/\Pin L.F L.μ0 μ
def CV (L:Lz) (st:St) (pend:Option Code):Bun where
 P:=sC L st pend
 mono:=λ{I J w b bs} h hp=>by
  obtain ⟨r,μ,bs0,h1,h2,h3,h4,h5,h6,h7,h8,h9,h10⟩:=hp;exact ⟨r,μ,bs0,h1,h2,h3,h4,λt d hl=>(h5 t d hl).mono h (Mu.le_refl μ),λi blk hl=>let ⟨g,q1,q2⟩:=h6 i blk hl;⟨g,q1,q2.mono h (Mu.le_refl μ)⟩,h7,h8,h9,h10⟩
 loc:=λ{I w w' b bs} h hp=>by
  obtain ⟨r,μ,bs0,h1,h2,h3,h4,h5,h6,h7,h8,h9,h10⟩:=hp;subst h1;exact ⟨r,μ,bs0,rfl,(h b (by simp)).trans h2,h3,h4,h5,λi blk hl=>let ⟨g,q1,q2⟩:=h6 i blk hl;⟨g,q1,q2.world λk hk=>h k (by simp [(h8 k).2 ⟨i,blk,g,hl,q1,hk⟩])⟩,h7,h8,h9,h10⟩
def Vn:Value->List Nat
 | .pointer (some a)=>[a.block]
 | .slice (some a) _ _=>[a.block]
 | .map (some c)=>[c]
 | .agg cs=>cs.toList.filterMap fun | .pointer (some a)=>some a.block | _=>none
 | .tuple ⟨[_,.agg cs]⟩=>cs.toList.filterMap fun | .pointer (some a)=>some a.block | _=>none
 | _=>[]
theorem Pw {g:Value} {k:Nat}:k∈Vn g↔Dl g k:=by
 unfold Vn Dl
 split <;> simp [eq_comm]
 all_goals
  constructor
  ·rintro ⟨a,h1,h2⟩
   split at h2
   ·cases h2;exact ⟨_,h1,rfl⟩
   ·cases h2
  ·rintro ⟨a,h1,h2⟩;exact ⟨_,h1,by rw [h2]⟩
open Classical in
theorem QJ (μ:Mu) (st:St):∃l:List Nat,∀k,k∈l↔Bq μ st k:=by
 refine ⟨(D8 st).flatMap λi=>if (∃b,At st i b) then (match μ i with | some g=>Vn g | none=>[]) else [],λk=>?_⟩;rw [List.mem_flatMap];constructor
 ·rintro ⟨i,_,h⟩
  split at h
  ·rename_i hb;obtain ⟨b,hb⟩:=hb;cases hg:μ i with
   | none=>rw [hg] at h;cases h
   | some g=>rw [hg] at h;exact ⟨i,b,g,hb,hg,Pw.1 h⟩
  ·cases h
 ·rintro ⟨i,b,g,h1,h2,h3⟩;refine ⟨i,BR h1,?_⟩;rw [if_pos ⟨b,h1⟩,h2];exact Pw.2 h3
def R4 (ids:List Nat) (E:Env) (st:St) (F:List Nat):Prop:=ids.Nodup/\∀i∈ids,i∉Vv E/\i∉F0 st/\i∉F
section
variable {P:Program} {n:Nat} {F:List Nat} {Q:DQ} {tt:TT} {env E:Env} {st st0 st1:St} {ids ids':List Nat} {k todo todo':List DI} {I:Imm} {μ:Mu} {w:World} {Pn:V->Prop} {d:D} {das:List D} {f:FuncId}
theorem nF:∀{st:St} {i:Nat} {b:Blk},At st i b->i∈F0 st:=λh=>(ET h).1
theorem X5 {L:Lz} {pend:Option Code} {b:Nat} {bs:List Nat} (h:sC L st pend I w b bs) (hf:R4 ids L.E st L.F) (hI:I.ok w) (hbs:∀k∈bs,I k=none/\k<w.heap.size) :
  ∃(r:Go.Loop) (ν:Mu) (bs0:List Nat),bs=b::bs0/\w.heap[b]?=some (.loop r)/\lV pend r/\(r.fn=L.fn/\r.params=L.ps/\r.assign=L.asg/\r.body=L.body/\r.tmps=L.tmps) /\
   (∀t d,lk L.E t=some d->RepD I ν (L.tmps.getD t undef) d)/\StRep I ν st ids w/\(∀k,k∈bs0↔Bq ν st k)/\b∉bs0/\Pin L.F L.μ0 ν:=by
 obtain ⟨r,μ,bs0,h1,h2,h3,h4,h5,h6,h7,h8,h9,h10⟩:=h;obtain ⟨hf1,hf2⟩:=hf;obtain ⟨ν,hν⟩:∃ν:Mu,ν=λi=>if i∈ids then none else μ i:=⟨_,rfl⟩
 have hν1:∀i,i∉ids->ν i=μ i:=λi hi=>by rw [hν];exact if_neg hi
 have hv1:∀i,i∈Vv L.E\/i∈F0 st\/i∈L.F->ν i=μ i:=λi hi=>hν1 i λhm=>by
  obtain ⟨q1,q2,q3⟩:=hf2 i hm;rcases hi with h | h | h
  ·exact q1 h
  ·exact q2 h
  ·exact q3 h
 have hv2:∀{i bi},At st i bi->ν i=μ i:=λhl=>hv1 _ (.inr (.inl (nF hl)));have hown:∀k,Bq ν st k↔Bq μ st k:=λk=>by
  constructor <;> rintro ⟨i,bi,g,q1,q2,q3⟩
  ·exact ⟨i,bi,g,q1,by rw [<- hv2 q1];exact q2,q3⟩
  ·exact ⟨i,bi,g,q1,by rw [hv2 q1];exact q2,q3⟩
 refine ⟨r,ν,bs0,h1,h2,h3,h4,λt d hl=>(h5 t d hl).sub λj hj g hg=>by rw [hv1 j (.inl (Yx hl j hj))];exact hg,?_,λk=>by rw [hown k];exact h8 k,h9,λi hi g hg=>by rw [hv1 i (.inr (.inr hi))];exact h10 i hi g hg⟩;exact
  {imm:=hI
   blk:=λi bi hl=>by
    obtain ⟨g,q1,q2⟩:=h6 i bi hl;exact ⟨g,by rw [hv2 hl];exact q1,q2.sub λj hj g hg=>by rw [hv1 j (.inr (.inl ((ET hl).2 j hj)))];exact hg⟩
   apart:=λi bi g k hl hgi hk=>hbs k (by rw [h1];exact List.mem_cons_of_mem _ ((h8 k).2 ⟨i,bi,g,hl,by rw [<- hv2 hl];exact hgi,hk⟩))
   inj:=λi j bi bj gi gj k hi hj hgi hgj=>h7 i j bi bj gi gj k hi hj (by rw [<- hv2 hi];exact hgi) (by rw [<- hv2 hj];exact hgj)
   nodup:=hf1
   idsFree:=λi hi=>by rw [hν];exact if_pos hi }
theorem JH {j:Nat} {S:Bun} (hj:j≠0) {i:Nat} {bi:Blk} (h:At (Vu j S) i bi):(i=0/\bi = .pin)\/(i=j/\bi = .bun 0 S):=by
 rcases A7.1 h with h | ⟨_,h⟩
 ·exact .inl h
 ·rcases A7.1 h with h | ⟨_,h⟩
  ·exact .inr h
  ·simp [At,lk] at h
def pP:Option Code->List DI
 | none=>[]
 | some c=>[.code c]
theorem Od {g:Operand} {ps:Array Tmp} {asg body c:Code} {f y j j2:Nat} {fc:Func} {df dc:List D} {stc stc' stx stB:St} {pend:Option Code} (hg:D2 env g=some (.fn (.func f) df dc)) (hf:P.funcs[f]?=some fc)
  (hname : (fc.name == "runtime.NumGoroutine") = false) (hb : fc.body = some c) (hF : gZ ∉ F) (hEE : XW env E) (hl : ∀ i b, At (stc ++ stx) i b → At st i b)
  (hE:∀L:Lz,P.funcs[L.fn]?.isSome->L.tmps.size=n->L.ps=ps->L.asg=asg->L.body=body->L.E=E->L.F=F ->
   Bg P f (df ++ .yld y::dc) ((y,some .pin)::(j,some (.bun y (CV L stx none)))::stc) (.ret d ((y,some .pin)::(j2,some (.bun y (CV L stB pend)))::stc')))
  (hdis:∀i∈D8 stc,i∉D8 stx) (hyj:y≠j/\y≠j2/\y∉D8 stc/\j∉D8 stc) (hcl:∀i,i∈Jn (df++dc)\/i∈F0 stc->i∈D8 stc) (hfree:R4 ids' E stB F)
  (hk:DGo P n F Q (pP pend++k) E stB ids'):DGo P n F Q (.code (.rangeFunc g ps asg body)::k) env st ids:=by
 intro b cs I μ a w items hd hc;obtain ⟨is,rfl,hki⟩:=Hz hd;rcases b.2 with hb0 | ⟨hb0,fcb,hfb⟩
 ·exact absurd hb0 hF
 have he:=run_enterLoop_outer (P:=P) (w:=w) b.1.fn a.tmps ps asg body;obtain ⟨ro,hro⟩:∃ro,ro=b.1.roundOf:=⟨_,rfl⟩
 have he':(Instr.enterLoop b.1.fn a.tmps ps asg body ro).run P w=(Instr.enterLoop b.1.fn a.tmps ps asg body none).run P w:=by rw [hro,hb0]
 rw [<- he',hro] at he;clear he';obtain ⟨L,hL⟩:∃L:Lz,L=⟨b.1.fn,ps,asg,body,a.tmps,E,F,μ⟩:=⟨_,rfl⟩
 obtain ⟨wa,hwa⟩:∃wa:World,wa=w.alloc (.deferred (some [])):=⟨_,rfl⟩
 rw [<- hwa] at he;have hwas:wa.heap.size=w.heap.size+1:=by rw [hwa];simp
 obtain ⟨R,hR⟩:∃R:Go.Loop,R={ state:=.ready,pending:=none,fn:=b.1.fn,tmps:=a.tmps,params:=ps,assign:=asg,body,defers:=w.heap.size }:=⟨_,rfl⟩
 rw [<- hR,<- hwas] at he;obtain ⟨w1,hw1⟩:∃w1:World,w1=wa.alloc (.loop R):=⟨_,rfl⟩
 rw [<- hw1] at he;have hw1s:w1.heap.size=w.heap.size+2:=by rw [hw1];simp;omega
 have hw1o:∀i,i<w.heap.size->w1.heap[i]?=w.heap[i]?:=λi hi=>by rw [hw1,GN wa _ (by omega),hwa];exact GN w _ hi
 have hw1m:w1.heap[w.heap.size]?=some (.deferred (some [])):=by rw [hw1,GN wa _ (by omega),hwa];exact Ej w _
 have hw1r:w1.heap[wa.heap.size]?=some (.loop R):=by rw [hw1];exact Ej wa _
 have hInew:∀k,w.heap.size<=k->I k=none:=λk hk=>by
  cases hI:I k with
  | none=>rfl
  | some o=>have:=BU (hc.imm k o hI);omega
 have hS1:StRep I μ st ids w1:=hc.toStRep.other (by omega) (λi o hi=>hw1o i (BU (hc.imm i o hi))) (λi hi=>hw1o i (Eb hc.toStRep hi));have hlx:∀i bi,At stx i bi->At st i bi:=λi bi h=>hl i bi (TJ (λhm=>hdis i hm (BR h)) h);have hlc:∀i bi,At stc i bi->At st i bi:=λi bi h=>hl i bi (TK h);obtain ⟨bs0,hbs0⟩:=QJ μ stx;have hownx:∀k,k∈bs0->Bq μ st k:=λk hk=>let ⟨i,bi,g,h1,h2⟩:=(hbs0 k).1 hk;⟨i,bi,g,hlx i bi h1,h2⟩
 have hltx:∀k,k∈bs0->k<w.heap.size:=λk hk=>Eb hc.toStRep (hownx k hk);have hEnv:∀t d',lk E t=some d'->RepD I μ (a.tmps.getD t undef) d':=λt d' hl=>by
  obtain ⟨d,h1,h2⟩:=N7 hEE t d' hl;exact Qt h2 (hc.env t d h1)
 have hB1:(CV L stx none).P I w1 wa.heap.size (wa.heap.size::bs0):=by
  refine ⟨R,μ,bs0,rfl,hw1r,⟨by rw [hR],by rw [hR]⟩,?_,?_,λi bi h=>hS1.blk i bi (hlx i bi h),λi j bi bj gi gj k hi hj=>hS1.inj i j bi bj gi gj k (hlx i bi hi) (hlx j bj hj),hbs0,λhm=>by have:=hltx _ hm;omega,?_⟩
  ·rw [hR,hL];exact ⟨rfl,rfl,rfl,rfl,rfl⟩
  ·rw [hL];exact hEnv
  ·rw [hL];exact .refl _ _
 obtain ⟨μc,hμc⟩:∃μc:Mu,μc=λi=>if i=y then some (.func (.yield wa.heap.size) #[] #[]) else if i=j then some (.agg (UK (wa.heap.size::bs0))) else μ i:=⟨_,rfl⟩
 have hmy:μc y=some (.func (.yield wa.heap.size) #[] #[]):=by rw [hμc];simp
 have hmj:μc j=some (.agg (UK (wa.heap.size::bs0))):=by rw [hμc];simp [Ne.symm hyj.1]
 have hmo:∀i∈D8 stc,μc i=μ i:=λi hi=>by
  have h1:i≠y:=λe=>hyj.2.2.1 (e ▸ hi);have h2:i≠j:=λe=>hyj.2.2.2 (e ▸ hi);rw [hμc];simp [h1,h2]
 obtain ⟨st0,hst0⟩:∃st0:St,st0=(y,some .pin)::(j,some (.bun y (CV L stx none)))::stc:=⟨_,rfl⟩
 have hl0:∀{i bi},At st0 i bi->(i=y/\bi = .pin)\/(i=j/\bi = .bun y (CV L stx none))\/(i≠y/\i≠j/\At stc i bi):=λ{i bi} h=>by
  rw [hst0] at h;rcases A7.1 h with h | ⟨h1,h⟩
  ·exact .inl h
  ·rcases A7.1 h with h | ⟨h2,h⟩
   ·exact .inr (.inl h)
   ·exact .inr (.inr ⟨h1,h2,h⟩)
 have hown0:∀k,Bq μc st0 k->k=wa.heap.size\/k∈bs0\/Bq μ stc k:=λk ⟨i,bi,g,h1,h2,h3⟩=>by
  rcases hl0 h1 with ⟨rfl,rfl⟩ | ⟨rfl,rfl⟩ | ⟨_,_,h⟩
  ·rw [hmy] at h2;cases h2;exact h3.elim
  ·rw [hmj] at h2;cases h2;rcases List.mem_cons.1 (Dw.1 h3) with h | h
   ·exact .inl h
   ·exact .inr (.inl h)
  ·exact .inr (.inr ⟨i,bi,g,h,by rw [<- hmo i (BR h)];exact h2,h3⟩)
 have hcx:∀{i bi g k},At stc i bi->μ i=some g->Dl g k->k∉bs0:=λ{i bi g k} h1 h2 h3 hm=>by
  obtain ⟨i',bi',g',q1,q2,q3⟩:=(hbs0 k).1 hm;have:=hS1.inj i i' bi bi' g g' k (hlc i bi h1) (hlx i' bi' q1) h2 q2 h3 q3;subst this;exact hdis i (BR h1) (BR q1)
 have hS0:StRep I μc st0 [] w1:=by
  refine { imm:=hS1.imm,blk:=λi bi h=>?_,apart:=λi bi g k h hgi hk=>?_,inj:=λi i' bi bj gi gj k hi hj hgi hgj hki hkj=>?_,nodup:=.nil,idsFree:=λ_ h=>by simp at h }
  ·rcases hl0 h with ⟨rfl,rfl⟩ | ⟨rfl,rfl⟩ | ⟨_,_,h⟩
   ·exact ⟨_,hmy,_,rfl⟩
   ·exact ⟨_,hmj,_,_,hmy,rfl,hB1⟩
   ·obtain ⟨g,q1,q2⟩:=hS1.blk i bi (hlc i bi h);exact ⟨g,by rw [hmo i (BR h)];exact q1,q2.sub λx hx g hg=>by rw [hmo x (hcl x (.inr ((ET h).2 x hx)))];exact hg⟩
  ·rcases hown0 k ⟨i,bi,g,h,hgi,hk⟩ with h | h | ⟨i',bi',g',q1,q2,q3⟩
   ·rw [h];exact ⟨hInew _ (by omega),by omega⟩
   ·obtain ⟨i',bi',g',q1,q2,q3⟩:=hownx k h;exact hS1.apart i' bi' g' k q1 q2 q3
   ·exact hS1.apart i' bi' g' k (hlc i' bi' q1) q2 q3
  ·rcases hl0 hi with ⟨rfl,rfl⟩ | ⟨rfl,rfl⟩ | ⟨_,_,hi⟩ <;> rcases hl0 hj with ⟨rfl,rfl⟩ | ⟨rfl,rfl⟩ | ⟨_,_,hj⟩
   ·rfl
   ·rw [hmy] at hgi;cases hgi;exact hki.elim
   ·rw [hmy] at hgi;cases hgi;exact hki.elim
   ·rw [hmy] at hgj;cases hgj;exact hkj.elim
   ·rfl
   ·rw [hmj] at hgi;cases hgi;have q:=hmo i' (BR hj);rw [hgj] at q;rcases List.mem_cons.1 (Dw.1 hki) with h | h
    ·have:=(hS1.apart i' bj gj k (hlc _ _ hj) q.symm hkj)
     have hlt:=Eb hc.toStRep ⟨i',bj,gj,hlc _ _ hj,q.symm,hkj⟩;omega
    ·exact absurd h (hcx hj q.symm hkj)
   ·rw [hmy] at hgj;cases hgj;exact hkj.elim
   ·rw [hmj] at hgj;cases hgj;have q:=hmo i (BR hi);rw [hgi] at q;rcases List.mem_cons.1 (Dw.1 hkj) with h | h
    ·have hlt:=Eb hc.toStRep ⟨i,bi,gi,hlc _ _ hi,q.symm,hki⟩;omega
    ·exact absurd h (hcx hi q.symm hki)
   ·have q1:=hmo i (BR hi);have q2:=hmo i' (BR hj);rw [hgi] at q1;rw [hgj] at q2;exact hS1.inj i i' bi bj gi gj k (hlc _ _ hi) (hlc _ _ hj) q1.symm q2.symm hki hkj
 have hvg:=Vb (I:=I) (μ:=μ) (a:=a) hg λt _ d hl=>hc.env t d hl;generalize hve:a.eval g=vg at hvg;cases hvg with
 | fn _ first cap _ _ hl1 hl2 q1 q2 =>
 have hnL:∀{l m:List D} {i},i∈Jn l\/i∈Jn m->i∈Jn (l++m):=λ{l m i} h=>by
  have:∀(l m:List D),Jn (l++m)=Jn l++Jn m:=λl m=>by
   induction l with
   | nil=>rfl
   | cons x r ih=>simp [Jn,ih]
  rw [this];simpa using h
 have hargs:RepL I μc (first ++ #[Value.func (.yield wa.heap.size) #[] #[]]++cap).toList (df ++ .yld y::dc):=by
  have e:df ++ .yld y::dc=df++[.yld y]++dc:=by simp
  rw [e,Array.toList_append,Array.toList_append];have h1:RepL I μ first.toList df:=⟨by simpa using hl1,λi v d p q=>q1 i v d (by simpa using p) q⟩
  have h2:RepL I μ cap.toList dc:=⟨by simpa using hl2,λi v d p q=>q2 i v d (by simpa using p) q⟩
  refine RepL.append (RepL.append (h1.sub λx hx g hg=>?_) (.mk (.yld _ _ hmy) .nil)) (h2.sub λx hx g hg=>?_)
  ·rw [hmo x (hcl x (.inl (hnL (.inl hx))))];exact hg
  ·rw [hmo x (hcl x (.inl (hnL (.inr hx))))];exact hg
 have hEL:=hE L (by rw [hL];simp [hfb]) (by rw [hL];exact hc.size) (by rw [hL]) (by rw [hL]) (by rw [hL]) (by rw [hL]) (by rw [hL]);rw [<- hst0] at hEL;have hcall:=hEL I μc w1 _ hS0 hargs;rw [BW hf hname hb] at hcall;have hres:∃dd,(resolve a.eval (rangeCall g wa.heap.size) 0).run P w1 = .ok dd w1/\(invoke dd.target dd.args).run P w1 = .ok (.enter f (first ++ #[Value.func (.yield wa.heap.size) #[] #[]]++cap)) w1:=by
  refine ⟨⟨.fn (.func f) cap,first ++ #[Value.func (.yield wa.heap.size) #[] #[]]⟩,?_,?_⟩
  ·have hcv:a.eval (.const (.func (.yield wa.heap.size) #[] #[])) = .func (.yield wa.heap.size) #[] #[]:=rfl;simp [rangeCall,resolve,Deferred.ofValue,hve,hcv]
  ·simpa [invoke] using BW (w:=w1) hf hname hb (first ++ #[Value.func (.yield wa.heap.size) #[] #[]]++cap)
 obtain ⟨dd,hr1,hr2⟩:=hres;refine P6 he hr1 hr2 (Calls.mono hcall λen w3 hen=>?_);cases en with
 | panicked chain=>exact hen.elim
 | outgrown=>exact hen.elim
 | returned v =>
  obtain ⟨I',μ',p1,p2,p3,p4⟩:=hen;have hly:At ((y,some .pin)::(j2,some (.bun y (CV L stB pend)))::stc') j2 (.bun y (CV L stB pend)):=A7.2 (.inr ⟨Ne.symm hyj.2.1,A7.2 (.inl ⟨rfl,rfl⟩)⟩);obtain ⟨g2,hg2,b2,bs2,hb2,rfl,hP2⟩:=p2.blk j2 _ hly;have hyy:μ' y=some (.func (.yield wa.heap.size) #[] #[]):=p3 y (by rw [hst0];simp [D8]) _ hmy;rw [hyy] at hb2;cases hb2;have hbs2:∀k∈bs2,I' k=none/\k<w3.heap.size:=λk hk=>p2.apart j2 _ _ k hly hg2 (Dw.2 hk);obtain ⟨r,ν,bsN,e1,hrr,⟨hr2',hr3⟩,⟨hr4,hr5,hr6,hr7,hr8⟩,hE3,hS3,hownN,hnbN,hFN⟩:=X5 hP2 (ids:=ids') (by rw [hL];exact hfree) p2.imm hbs2;subst e1;have hend:=run_endLoop (P:=P) hrr (by rw [hr2'];cases pend <;> simp)
  obtain ⟨w4,hw4⟩:∃w4:World,w4=w3.putObj wa.heap.size (.loop { r with state:=.exhausted }):=⟨_,rfl⟩
  have hend':(Instr.endLoop wa.heap.size).run P w3 = .ok pend w4:=by rw [hw4,hend,hr3]
  refine ⟨pend,w4,hend',?_⟩;have hlb:wa.heap.size<w3.heap.size:=BU hrr;have hoth:∀i,i≠wa.heap.size->w4.heap[i]?=w3.heap[i]?:=λi hi=>by
   rw [hw4];unfold World.putObj;simp [Array.getElem?_setIfInBounds_ne (Ne.symm hi)]
  have hw4s:w4.heap.size=w3.heap.size:=by rw [hw4];unfold World.putObj;simp
  obtain ⟨hIb,_⟩:=hbs2 _ (List.mem_cons_self ..);have hS4:StRep I' ν stB ids' w4:=hS3.other (by omega) (λi o hi=>hoth i (λe=>by rw [e,hIb] at hi;cases hi)) (λi hi=>hoth i (λe=>hnbN ((hownN _).2 (e ▸ hi))));have hsz3:=p4.size;have hno0:∀k,k<w.heap.size->¬Bq μ st k->¬Bq μc st0 k:=λk hk hno h=>by
   rcases hown0 k h with h | h | ⟨i,bi,g,q1,q2⟩
   ·omega
   ·exact hno (hownx k h)
   ·exact hno ⟨i,bi,g,hlc i bi q1,q2⟩
  have hblk:∀k,k<w1.heap.size->k≠wa.heap.size->¬Bq μc st0 k->w4.heap[k]?=w1.heap[k]?:=λk hk hne hno=>(hoth k hne).trans (p4.block k hk hno);have hfr:∀k,k<w1.heap.size->Bq ν stB k->Bq μc st0 k:=λk hk ho=>p4.fresh k hk ⟨j2,_,_,hly,hg2,Dw.2 (List.mem_cons_of_mem _ ((hownN k).2 ho))⟩;have hExt:Ext I μ st w I' ν stB w4 :=
   {imm:=p4.imm
    os:=by rw [hw4];unfold World.putObj;exact p4.os.trans (by rw [hw1,hwa];rfl)
    tape:=by rw [hw4];unfold World.putObj;exact p4.tape.trans (by rw [hw1,hwa];rfl)
    output:=by rw [hw4];unfold World.putObj;exact p4.output.trans (by rw [hw1,hwa];rfl)
    size:=by omega
    block:=λk hk hno=>(hblk k (by omega) (by omega) (hno0 k hk hno)).trans (hw1o k hk)
    fresh:=λk hk ho=>by
     rcases hown0 k (hfr k (by omega) ho) with h | h | ⟨i,bi,g,q1,q2⟩
     ·omega
     ·exact hownx k h
     ·exact ⟨i,bi,g,hlc i bi q1,q2⟩
    old:=λk hk hno=>p4.old k (by omega) (hno0 k hk hno) }
  have hMk:MarksOk I' ν stB w4 ([{ target:=.collected w.heap.size,args:=#[] }]++a.defers):=by
   obtain ⟨rs,r1,r2,r3⟩:=hc.defers;refine ⟨w.heap.size::rs,by rw [r1];rfl,List.nodup_cons.2 ⟨λhm=>?_,r2⟩,λr hr=>?_⟩
   ·have:=BU (r3 _ hm).1;omega
   have hno:¬Bq μc st0 r/\r<w1.heap.size/\r≠wa.heap.size/\w1.heap[r]?=some (.deferred (some []))/\I r=none:=by
    rcases List.mem_cons.1 hr with rfl | hr
    ·refine ⟨λh=>?_,by omega,by omega,hw1m,hInew _ (Nat.le_refl _)⟩;rcases hown0 _ h with h | h | ⟨i,bi,g,q1,q2,q3⟩
     ·omega
     ·have:=hltx _ h;omega
     ·have:=Eb hc.toStRep ⟨i,bi,g,hlc i bi q1,q2,q3⟩;omega
    ·obtain ⟨h1,h2,h3⟩:=r3 r hr;have hlt:=BU h1;exact ⟨hno0 r hlt h3,by omega,by omega,(hw1o r hlt).trans h1,h2⟩
   obtain ⟨h1,h2,h3,h4,h5⟩:=hno;exact ⟨(hblk r h2 h3 h1).trans h4,(p4.old r h2 h1).trans h5,λho=>h1 (hfr r h2 ho)⟩
  have hC:Conc n I' ν E stB ids' { a with defers:=[{ target:=.collected w.heap.size,args:=#[] }]++a.defers } w4 :=
   {hS4 with size:=hc.size,env:=λt d hl=>by have:=hE3 t d (by rw [hL];exact hl);rw [hL] at this;exact this,defers:=hMk }
  have hden:Uz (pP pend++k) ((pend.map Item.code).toList++is):=by
   cases pend with
   | none=>exact hki
   | some c=>exact ⟨rfl,hki⟩
  refine Reach.mono (λe a' w' hp=>?_) (hk b cs I' ν _ w4 _ hden hC);obtain ⟨x',env',st',ids2,I2,μ2,t1,t2,t3,t4,t5,t6⟩:=hp;have hpin:Pin F μ ν:=by rw [hL] at hFN;exact hFN
  refine ⟨x',env',st',ids2,I2,μ2,t1,t2,t3,hpin.trans t4,hExt.trans t5,λr hr=>?_⟩;rcases t6 r hr with h | h
  ·simp only [List.singleton_append,List.mem_cons] at h;rcases h with h | h
   ·simp only [rQ,Deferred.mk.injEq,Target.collected.injEq,and_true] at h;exact .inr (by omega)
   ·exact .inl h
  ·exact .inr (by omega)
end
end Go.Hk
namespace Go.Hk
section
variable {P:Program} {n:Nat} {F:List Nat} {Q:DQ} {tt:TT} {env:Env} {st:St} {ids:List Nat} {todo:List DI}
theorem Kv (t:Nat) {id off:Nat} {ty:TypeId} {sz:Nat} {xs:List V} (he:lk env t=some (.ref id off)) (hl:lk st id=some (some (.immb ty sz xs))) (h:DGo P n F Q todo ((t,.ip ty xs off)::env) ((id,none)::st) ids) :
  DGo P n F Q todo env st ids:=by
 intro b cs I μ a w items hd hc;have hlive:At st id (.immb ty sz xs):=hl;obtain ⟨g,hg,hlen,gb,vs,rfl,hheap,hrep,hone⟩:=hc.blk id _ hlive;obtain ⟨hno,hlt⟩:=hc.apart id _ _ gb hlive hg rfl;obtain ⟨J,hJ⟩:∃J:Imm,J=λk=>if k=gb then some (.cells vs ty (0,0)) else I k:=⟨_,rfl⟩
 have hle:I.le J:=λk o h=>by
  have:k≠gb:=λe=>by rw [e,hno] at h;cases h
  rw [hJ];simp [this,h]
 have hJo:∀k o,J k=some o->I k=some o\/(k=gb/\w.heap[k]?=some o):=λk o h=>by
  rw [hJ] at h;by_cases hk:k=gb
  ·subst hk;simp at h;subst h;exact .inr ⟨rfl,hheap⟩
  ·simp [hk] at h;exact .inl h
 have hE:Ext I μ st w J μ ((id,none)::st) w :=
  {imm:=hle,os:=rfl,tape:=rfl,output:=rfl,size:=Nat.le_refl _
   block:=λ_ _ _=>rfl
   fresh:=λk _ ⟨i,bi,gi,h1,h2,h3⟩=>⟨i,bi,gi,(BB.1 h1).2,h2,h3⟩
   old:=λk _ ho=>by
    have:k≠gb:=λe=>ho (e ▸ ⟨id,_,_,hlive,hg,rfl⟩);rw [hJ];simp [this] }
 have hv:RepD I μ (a.tmps.getD t undef) (.ref id off):=hc.env t _ he;have hptr:a.tmps.getD t undef = .pointer (some ⟨gb,off,none⟩):=by
  generalize a.tmps.getD t undef=v at hv;cases hv with
  | ref b' _ _ hm=>rw [hg] at hm;cases hm;rfl
 have hip:RepD J μ (a.tmps.getD t undef) (.ip ty xs off):=by
  rw [hptr];have:=RepD.ip (I:=J) (μ:=μ) gb 0 ty xs off (λj=>(vs[j]?).getD undef) (λj x hx=>?_) (λj x hx=>?_)
  ·simpa using this
  ·have hj:j<vs.size:=by have:=hrep.1;have:=(List.getElem?_eq_some_iff.1 hx).1;simp at *;omega
   rw [hJ];simp only [Imm.cell,if_true,Nat.zero_add,Array.getElem?_eq_getElem hj,Option.getD_some,true_and];exact hone _ (by simp)
  ·have hj:j<vs.size:=by have:=hrep.1;have:=(List.getElem?_eq_some_iff.1 hx).1;simp at *;omega
   simp only [Array.getElem?_eq_getElem hj,Option.getD_some];exact (hrep.2 j _ x (by simp [hj]) hx).mono hle
 have hc':Conc n J μ ((t,.ip ty xs off)::env) ((id,none)::st) ids a w :=
  {imm:=λk o h=>(hJo k o h).elim (λh=>hc.imm k o h) λh=>h.2
   blk:=λi bi hli=>by
    obtain ⟨_,h2⟩:=BB.1 hli;obtain ⟨gi,hgi,hr⟩:=hc.blk i bi h2;exact ⟨gi,hgi,hr.mono hle (Mu.le_refl μ)⟩
   apart:=λi bi gi k hli hgi hk=>by
    obtain ⟨h1,h2⟩:=BB.1 hli;obtain ⟨q1,q2⟩:=hc.apart i bi gi k h2 hgi hk;refine ⟨?_,q2⟩;cases hJk:J k with
    | none=>rfl
    | some o =>
     rcases hJo k o hJk with h | ⟨h,_⟩
     ·rw [q1] at h;cases h
     ·exact absurd (hc.inj i id bi _ gi _ k h2 hlive hgi hg hk (by rw [h];rfl)) h1
   inj:=λi j bi bj gi gj k hi hj hgi hgj hki hkj=>hc.inj i j bi bj gi gj k (BB.1 hi).2 (BB.1 hj).2 hgi hgj hki hkj
   nodup:=hc.nodup
   idsFree:=hc.idsFree
   size:=hc.size
   env:=λt' d hlt=>by
    by_cases ht:t=t'
    ·subst ht;rw [Aw] at hlt;cases hlt;exact hip
    ·rw [A6 _ _ ht] at hlt;exact (hc.env t' d hlt).mono hle (Mu.le_refl μ)
   defers:=hc.defers.ext hE }
 exact (h b cs J μ a w items hd hc').mono λe' a' w' hp=>hp.back (.refl _ _) hE
theorem IN (i j:Nat) {ids':List Nat} {blk:Blk} (hl:lk st i=some (some blk)) (hj:(Fo ids j&&Jj ids'&&Px ids' ids && !Fo ids' j)=true) (h:DGo P n F Q todo env ((j,some blk)::(i,none)::st) ids'):DGo P n F Q todo env st ids:=by
 intro b cs I μ a w items hd hc;simp only [Bool.and_eq_true,Bool.not_eq_true'] at hj;obtain ⟨⟨⟨hj1,hj2⟩,hj3⟩,hj4⟩:=hj;have hlive:At st i blk:=hl;obtain ⟨g,hg,hr⟩:=hc.blk i _ hlive;have hjn:μ j=none:=hc.idsFree j (BT.1 hj1);have hij:i≠j:=λe=>by rw [e,hjn] at hg;cases hg
 obtain ⟨ν,hν⟩:∃ν:Mu,ν=λk=>if k=j then some g else μ k:=⟨_,rfl⟩
 have hνj:ν j=some g:=by rw [hν];simp
 have hνo:∀k,k≠j->ν k=μ k:=λk hk=>by rw [hν];simp [hk]
 have hle:μ.le ν:=λk v hk=>by
  have:k≠j:=λe=>by rw [e,hjn] at hk;cases hk
  rw [hνo k this];exact hk
 have hst:∀k bk,At ((j,some blk)::(i,none)::st) k bk->(k=j/\bk=blk)\/(k≠j/\k≠i/\At st k bk):=λk bk h=>by
  rcases A7.1 h with h | ⟨h1,h⟩
  ·exact .inl h
  ·obtain ⟨h2,h3⟩:=BB.1 h;exact .inr ⟨h1,h2,h3⟩
 have hE:Ext I μ st w I ν ((j,some blk)::(i,none)::st) w :=
  {imm:=Imm.le_refl I,os:=rfl,tape:=rfl,output:=rfl,size:=Nat.le_refl _,block:=λ_ _ _=>rfl
   fresh:=λk _ ⟨x,bx,gx,h1,h2,h3⟩=>by
    rcases hst x bx h1 with ⟨rfl,rfl⟩ | ⟨q1,_,q3⟩
    ·rw [hνj] at h2;cases h2;exact ⟨i,_,_,hlive,hg,h3⟩
    ·exact ⟨x,bx,gx,q3,by rw [<- hνo x q1];exact h2,h3⟩
   old:=λ_ _ _=>rfl }
 have hc':Conc n I ν env ((j,some blk)::(i,none)::st) ids' a w :=
  {imm:=hc.imm
   blk:=λk bk hk=>by
    rcases hst k bk hk with ⟨rfl,rfl⟩ | ⟨q1,_,q3⟩
    ·exact ⟨g,hνj,hr.mono (Imm.le_refl I) hle⟩
    ·obtain ⟨g',h1,h2⟩:=hc.blk k bk q3;exact ⟨g',hle _ _ h1,h2.mono (Imm.le_refl I) hle⟩
   apart:=λk bk gk m hk hgk hm=>by
    rcases hst k bk hk with ⟨rfl,rfl⟩ | ⟨q1,_,q3⟩
    ·rw [hνj] at hgk;cases hgk;exact hc.apart i _ _ m hlive hg hm
    ·exact hc.apart k bk gk m q3 (by rw [<- hνo k q1];exact hgk) hm
   inj:=λk k' bk bk' gk gk' m hk hk' hgk hgk' hm hm'=>by
    rcases hst k bk hk with ⟨rfl,rfl⟩ | ⟨q1,p1,q3⟩ <;> rcases hst k' bk' hk' with ⟨rfl,rfl⟩ | ⟨q1',p1',q3'⟩
    ·rfl
    ·rw [hνj] at hgk;cases hgk;exact absurd (hc.inj k' i bk' _ gk' _ m q3' hlive (by rw [<- hνo k' q1'];exact hgk') hg hm' hm) p1'
    ·rw [hνj] at hgk';cases hgk';exact absurd (hc.inj k i bk _ gk _ m q3 hlive (by rw [<- hνo k q1];exact hgk) hg hm hm') p1
    ·exact hc.inj k k' bk bk' gk gk' m q3 q3' (by rw [<- hνo k q1];exact hgk) (by rw [<- hνo k' q1'];exact hgk') hm hm'
   nodup:=HO hj2
   idsFree:=λk hk=>by
    have h1:=hc.idsFree k (FZ hj3 k hk);have:k≠j:=λe=>by rw [<- e] at hj4;rw [BT.2 hk] at hj4;cases hj4
    rw [hνo k this];exact h1
   size:=hc.size
   env:=λt d hlt=>(hc.env t d hlt).mono (Imm.le_refl I) hle
   defers:=hc.defers.ext hE }
 exact (h b cs I ν a w items hd hc').mono λe' a' w' hp=>hp.back (.of_le hle) hE
inductive Yields (P:Program):List D->Bun->Bool->Bun->Prop where
 | nil (S:Bun):Yields P [] S true S
 | cons {d:D} {l:List D} {S S1 S2:Bun} {r:Bool} (h:PG P [d] S true S1) (h1:Yields P l S1 r S2):Yields P (d::l) S r S2
 | stop {d:D} {l:List D} {S S1:Bun} (h:PG P [d] S false S1):Yields P (d::l) S false S1
theorem Yields.split {l m:List D} {S S2:Bun} {r:Bool} (h:Yields P (l++m) S r S2):(∃S1,Yields P l S true S1/\Yields P m S1 r S2)\/(r=false/\Yields P l S false S2):=by
 induction l generalizing S with
 | nil=>exact .inl ⟨S,.nil S,h⟩
 | cons d l ih =>
  cases h with
  | cons h h1 =>
   rcases ih h1 with ⟨S1,q1,q2⟩ | ⟨q1,q2⟩
   ·exact .inl ⟨S1,.cons h q1,q2⟩
   ·exact .inr ⟨q1,.cons h q2⟩
  | stop h=>exact .inr ⟨rfl,.stop h⟩
theorem Yields.nilInv {S S2:Bun} {r:Bool} (h:Yields P [] S r S2):r=true/\S2=S:=by
 cases h;exact ⟨rfl,rfl⟩
theorem Yields.all {l:List D} (S:Nat->Bun) (h:∀i d,l[i]?=some d->PG P [d] (S i) true (S (i+1))):Yields P l (S 0) true (S l.length):=by
 have:∀(l:List D) (k:Nat),(∀i d,l[i]?=some d->PG P [d] (S (k+i)) true (S (k+i+1)))->Yields P l (S k) true (S (k+l.length)):=by
  intro l
  induction l with
  | nil=>intro k _;exact .nil _
  | cons d l ih =>
   intro k h;have:=ih (k+1) λi d hi=>by
    have:=h (i+1) d (by simpa using hi)
    rwa [show k+1+i=k+(i+1) by omega]
   rw [show k+1+l.length=k+(d::l).length by simp;omega] at this;exact .cons (h 0 d rfl) this
 have:=this l 0 λi d hi=>by simpa using h i d hi
 simpa using this
end
end Go.Hk
