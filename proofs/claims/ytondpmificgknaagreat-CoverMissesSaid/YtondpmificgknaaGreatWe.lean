/- A part more of a node, a head more; contract of has. (And what it stands on.) -/
import Derived.Test.YtondpmificgknaaGreatWd
import Derived.Test.YtondpmificgknaaGreatWc
set_option linter.unusedSimpArgs false
set_option linter.unusedVariables false

set_option maxRecDepth 100000
namespace Go.Hk
def lB (j:Nat):List D->List D->Prop
 | [],[]=>True
 | d::r,d'::r'=>(d=d'\/(d = .nils/\d' = .own j 0))/\lB j r r'
 | _,_=>False
theorem TO {j:Nat}:∀{ds ds':List D},lB j ds ds'->ds.length=ds'.length/\∀(i:Nat) (d':D),ds'[i]?=some d'->∃d,ds[i]?=some d/\(d=d'\/(d = .nils/\d' = .own j 0))
 | [],[],_=>⟨rfl,λi d h=>by simp at h⟩
 | d::r,d'::r',h=>by
  obtain ⟨h1,h2⟩:=TO h.2;refine ⟨by simp [h1],λi x hx=>?_⟩;cases i with
  | zero=>simp at hx;subst hx;exact ⟨d,rfl,h.1⟩
  | succ i=>exact h2 i x (by simpa using hx)
 | [],_::_,h=>h.elim
 | _::_,[],h=>h.elim
section
variable {P:Program} {n:Nat} {F:List Nat} {Q:DQ} {tt:TT} {env env':Env} {st st':St} {ids ids':List Nat} {todo:List DI}
theorem SL (k j:Nat) {e t:TypeId} {sz sz':Nat} {ds:List D} (ds':List D) (hsz:0<sz) (hk:lk st k=some (some (.cells t sz' ds))) (hcl:lB j ds ds')
  (h:DGo P n F Q todo env ((k,some (.cells t sz' ds'))::(j,some (.row e sz []))::st) ids'):DGo P n F Q todo env st (j::ids'):=by
 refine CE λI μ a w hc=>?_;obtain ⟨gk,hgk,_⟩:=hc.blk k _ hk;have hjk:j≠k:=λe=>by rw [<- e,hc.idsFree j (by simp)] at hgk;cases hgk
 obtain ⟨q1,q2,q3⟩:=StRep.relay (R:=[]) (new:=[(j,.slice none 0 0,.row e sz [])]) (ids':=ids') hc.toStRep
  (λp hp b hb=>by rw [List.mem_singleton.1 hp] at hb;exact hb.elim)
  (λp hp q hq b _ _=>by rw [List.mem_singleton.1 hp,List.mem_singleton.1 hq]) (Imm.le_refl I) hc.imm (λb o h=>.inl h)
  (λ_ p hp=>by rw [List.mem_singleton.1 hp];exact ⟨[],World.ownsRow_nil w 0 e sz,.nil,by simp,by simp,hsz⟩)
 have hmj:DF [(j,Value.slice none 0 0,Blk.row e sz [])] μ j=some (.slice none 0 0):=by simp [DF,lk]
 have hk2:Aq ((j,some (.row e sz []))::st) k (.cells t sz' ds):=Ax.2 (.inr ⟨hjk.symm,hk⟩);obtain ⟨c1,c2⟩:=TO hcl;obtain ⟨p1,p2⟩:=q2.retell (st1:=(k,some (.cells t sz' ds'))::(j,some (.row e sz []))::st) (λi bb hlb=>by
  rcases Ax.1 hlb with ⟨rfl,rfl⟩ | ⟨_,h2⟩
  ·refine ⟨_,hk2,λgb hb=>?_⟩;obtain ⟨hs,b,us,e1,e2,e3,e4⟩:=hb;refine ⟨by rw [<- c1,hs],b,us,e1,e2,⟨by rw [<- c1,e3.1],λi v y hv hy=>?_⟩,e4⟩;obtain ⟨d,y1,y2⟩:=c2 i y hy;have hr:=e3.2 i v d hv y1;rcases y2 with rfl | ⟨rfl,rfl⟩
   ·exact hr
   ·cases hr;exact .own j 0 none 0 hmj
  ·exact ⟨bb,h2,λ_ h=>h⟩)
 exact ⟨I,_,env,_,ids',p1,λt d hd=>(hc.env t d hd).mono (Imm.le_refl I) q1,q3.trans p2,.of_le q1,h⟩
end
end Go.Hk
namespace Go.Hk
def KK:Env->Env
 | []=>[]
 | (t,.guard _ _ d)::r=>(t,d)::KK r
 | (t,d)::r=>(t,d)::KK r
def YX (cx:Prop) (env:Env):List Operand->List Prop
 | []=>[]
 | x::r=>match C9 env x with
  | some (.guard c w _)=>(cx->c=w)::YX cx env r
  | _=>YX cx env r
theorem Tp:∀{env:Env} {t:Nat} {d:D},lk (KK env) t=some d->lk env t=some d\/∃c w,lk env t=some (.guard c w d)
 | [],t,d,h=>by simp [KK,lk] at h
 | (s,x)::r,t,d,h=>by
  have hs:∃y,KK ((s,x)::r)=(s,y)::KK r/\(x=y\/∃c w,x = .guard c w y):=by
   cases x with
   | guard c w y=>exact ⟨y,rfl,.inr ⟨c,w,rfl⟩⟩
   | _=>exact ⟨_,rfl,.inl rfl⟩
  obtain ⟨y,h1,h2⟩:=hs;rw [h1] at h;by_cases e:s=t
  ·subst e;rw [Ao] at h ⊢;cases h;rcases h2 with rfl | ⟨c,w,rfl⟩
   ·exact .inl rfl
   ·exact .inr ⟨c,w,rfl⟩
  ·rw [Au _ _ e] at h ⊢;exact Tp h
theorem XW {env:Env} {x:Operand} {d:D} (h:C9 (KK env) x=some d):C9 env x=some d\/∃c w,C9 env x=some (.guard c w d):=by
 cases x with
 | tmp t=>exact Tp h
 | _=>exact .inl h
theorem RG {cx:Prop} {env:Env}:∀{l:List Operand},A7 (YX cx env l)->∀x∈l,∀c w d,C9 env x=some (.guard c w d)->cx->c=w
 | [],_,x,h=>by cases h
 | y::r,h,x,hx=>by
  simp only [YX] at h;intro c w d hd hc;rcases List.mem_cons.1 hx with rfl | hx
  ·simp only [hd] at h;exact h.1 hc
  ·refine RG (l:=r) ?_ x hx c w d hd hc
   split at h
   ·exact h.2
   ·exact h
structure PGe where
 g:Option (Bool×Bool)
 op:Op
 dst:Option Nat
 todo:List DI
def jV (n:Nat) (env:Env) (todo:List DI):Option PGe :=
 match AR todo ([],[]) with
 | some (all,o,todo')=>match BG all env o,Bw n o.dst with
  | some g,true=>some ⟨g,o.op,o.dst,todo'⟩
  | _,_=>none
 | none=>none
section
variable {P:Program} {n:Nat} {F:List Nat} {Q:DQ} {tt:TT} {env env':Env} {st st':St} {ids ids':List Nat} {todo:List DI} {d:D} {ob:List Prop}
theorem kG (htt:TTok P tt) {c:PGe} (h:jV n env todo=some c) (hnd:∀x,c.op ≠ .defer x) (he:∀st',FC tt (Ag c.g) (KK env) st' c.op = .p d ob) (hob:Ag c.g->A7 ob) (hg:A7 (YX (Ag c.g) env c.op.operands.toList))
  (hk:G P n F Q c.todo (Bt c.dst (gD c.g d) env) st ids):G P n F Q todo env st ids:=by
 unfold jV at h
 split at h
 ·rename_i all o todo' h1
  split at h
  ·rename_i g hgd hd;cases h;simp only at he hob hg hk hnd;refine Bm (fr:=[]) (wr:=[]) (rd:=[]) h1 (Cf hgd λI μ st1 ids1 a w hag hst hops hcx=>?_) hd hnd hk;have hops':CB I μ (KK env) a o.op:=λx hx d hd=>by
    rcases XW hd with h | ⟨c,w,h⟩
    ·exact hops x hx d h
    ·exact (hops x hx _ h).guardInv (RG hg x hx c w d h hcx)
   have:=Wy (st:=st1) (ids:=ids1) (w:=w) htt hst hops' hcx (by rw [he st1];rfl) (hob hcx);exact (valR.x this).mono (λv w' ⟨I',q1,q2,q3⟩=>⟨I',μ,q1,q2,Mu.le_refl μ,q3⟩) (λ_ _ h=>h)
  ·cases h
 ·cases h
end
end Go.Hk
namespace Go.Hk
mutual
def unn:V->V
 | .nilsl=>.sl []
 | .agg xs=>.agg (Fu xs)
 | .tup xs=>.tup (Fu xs)
 | .sl es=>.sl (KF es)
 | .ip t cs off=>.ip t (Fu cs) off
 | .iface t x=>.iface t (unn x)
 | x=>x
def Fu:List V->List V
 | []=>[]
 | x::r=>unn x::Fu r
def KF:List (List V)->List (List V)
 | []=>[]
 | x::r=>Fu x::KF r
end
theorem Fl:∀l:List V,Fu l=l.map unn
 | []=>rfl
 | x::r=>by simp [Fu,Fl r]
theorem KE:∀l:List (List V),KF l=l.map Fu
 | []=>rfl
 | x::r=>by simp [KF,KE r]
theorem RepV.unn {I:Imm} {v:Value} {x:V} (h:RepV I v x):RepV I v (unn x):=by
 have gL:∀{xs:List V} {i:Nat} {y:V},(Fu xs)[i]?=some y->∃z,xs[i]?=some z/\y=Go.Hk.unn z:=by
  intro xs i y hy;rw [Fl,List.getElem?_map] at hy;cases hz:xs[i]? with
  | none=>rw [hz] at hy;cases hy
  | some z=>rw [hz] at hy;cases hy;exact ⟨z,rfl,rfl⟩
 have gLL:∀{es:List (List V)} {i:Nat} {e:List V},(KF es)[i]?=some e->∃z,es[i]?=some z/\e=Fu z:=by
  intro es i y hy;rw [KE,List.getElem?_map] at hy;cases hz:es[i]? with
  | none=>rw [hz] at hy;cases hy
  | some z=>rw [hz] at hy;cases hy;exact ⟨z,rfl,rfl⟩
 induction h with
 | agg cs xs hl h1 _ ih=>exact .agg cs _ (by rw [Fl,List.length_map,hl]) h1 λi c y hc hy=>by obtain ⟨z,hz,rfl⟩:=gL hy;exact ih i c z hc hz
 | tup cs xs hl _ ih=>exact .tup cs _ (by rw [Fl,List.length_map,hl]) λi c y hc hy=>by obtain ⟨z,hz,rfl⟩:=gL hy;exact ih i c z hc hz
 | slnil=>exact .slnil
 | sl0 a=>exact .sl0 a
 | nilsl=>exact .slnil
 | sl b o len cap sz es vs hl hc hm hsz hcell _ ih =>
  refine .sl b o len cap sz _ vs (by rw [KE,List.length_map,hl]) hc hm (λe he=>?_) (λi e j x hi hj=>?_) (λi e j x hi hj=>?_)
  ·obtain ⟨i,hi⟩:=List.getElem?_of_mem he;obtain ⟨z,hz,rfl⟩:=gLL hi;rw [Fl,List.length_map];exact hsz z (List.mem_of_getElem? hz)
  ·obtain ⟨z,hz,rfl⟩:=gLL hi;obtain ⟨y,hy,rfl⟩:=gL hj;exact hcell i z j y hz hy
  ·obtain ⟨z,hz,rfl⟩:=gLL hi;obtain ⟨y,hy,rfl⟩:=gL hj;exact ih i z j y hz hy
 | iface t v x _ ih=>exact .iface t v _ ih
 | ip b o t cs off vs hcell _ ih =>
  refine .ip b o t _ off vs (λj y hj=>?_) (λj y hj=>?_)
  ·obtain ⟨z,hz,rfl⟩:=gL hj;exact hcell j z hz
  ·obtain ⟨z,hz,rfl⟩:=gL hj;exact ih j z hz
 | bool b=>exact .bool b
 | int k n=>exact .int k n
 | str s l hs=>exact .str s l hs
 | niliface=>exact .niliface
 | nilp=>exact .nilp
 | nilmap=>exact .nilmap
 | nilfn=>exact .nilfn
 | fn f=>exact .fn f
 | mapv b es clock kv hI hl hs h1 h2 _ _=>exact .mapv b es clock kv hI hl hs h1 h2
 | clo f first cap xs ys hf hc h1 h2 _ _=>exact .clo f first cap xs ys hf hc h1 h2
theorem OO {P:Program} {f:FuncId} {vs:List V} {v:V} (h:Ak P f (Fu vs) v):Ak P f vs v:=by
 intro I μ w xs hst hx;refine h I μ w xs hst ⟨by rw [hx.1];simp [Fl],λi u d hu hd=>?_⟩;rw [List.getElem?_map,Fl,List.getElem?_map] at hd;cases hz:vs[i]? with
 | none=>rw [hz] at hd;cases hd
 | some z =>
  rw [hz] at hd;cases hd;exact .imm _ _ (hx.2 i u (.imm z) hu (by simp [hz])).immInv.unn
def Xn:List D->List D->Prop
 | [],[]=>True
 | d::r,d'::r'=>(d=d'\/(d = .nils/\d' = .imm .nilsl))/\Xn r r'
 | _,_=>False
theorem OY:∀{ds ds':List D},Xn ds ds'->ds.length=ds'.length/\∀(i:Nat) (d':D),ds'[i]?=some d'->∃d,ds[i]?=some d/\(d=d'\/(d = .nils/\d' = .imm .nilsl))
 | [],[],_=>⟨rfl,λi d h=>by simp at h⟩
 | d::r,d'::r',h=>by
  obtain ⟨h1,h2⟩:=OY h.2;refine ⟨by simp [h1],λi x hx=>?_⟩;cases i with
  | zero=>simp at hx;subst hx;exact ⟨d,rfl,h.1⟩
  | succ i=>exact h2 i x (by simpa using hx)
 | [],_::_,h=>h.elim
 | _::_,[],h=>h.elim
theorem Xm {I:Imm} {μ:Mu} {vs:List Value} {ds ds':List D} (h:Xn ds ds') (hr:RepL I μ vs ds):RepL I μ vs ds':=by
 obtain ⟨h1,h2⟩:=OY h;refine ⟨by rw [hr.1,h1],λi v y hv hy=>?_⟩;obtain ⟨d,k1,k2⟩:=h2 i y hy;have:=hr.2 i v d hv k1;rcases k2 with rfl | ⟨rfl,rfl⟩
 ·exact this
 ·cases this;exact .imm _ _ .nilsl
section
variable {P:Program} {n:Nat} {F:List Nat} {Q:DQ} {tt:TT} {env env':Env} {st st':St} {ids ids':List Nat} {todo:List DI}
theorem Jg (k:Nat) {t:TypeId} {sz:Nat} {ds:List D} (ds':List D) (hk:lk st k=some (some (.cells t sz ds))) (hcl:Xn ds ds') (h:DGo P n F Q todo env ((k,some (.cells t sz ds'))::st) ids):DGo P n F Q todo env st ids:=by
 refine CE λI μ a w hc=>?_;obtain ⟨p1,p2⟩:=hc.toStRep.retell (st1:=(k,some (.cells t sz ds'))::st) (λi bb hlb=>by
  rcases Ax.1 hlb with ⟨rfl,rfl⟩ | ⟨_,h2⟩
  ·refine ⟨_,hk,λgb hb=>?_⟩;obtain ⟨hs,b,us,e1,e2,e3,e4⟩:=hb;exact ⟨by rw [<- (OY hcl).1,hs],b,us,e1,e2,Xm hcl e3,e4⟩
  ·exact ⟨bb,h2,λ_ h=>h⟩)
 exact ⟨I,μ,env,_,ids,p1,hc.env,p2,.refl _ _,h⟩
theorem JF (t:Nat) {ds:List D} (ds':List D) (ht:lk env t=some (.agg ds)) (hcl:Xn ds ds') (h:DGo P n F Q todo ((t,GO ds')::env) st ids):DGo P n F Q todo env st ids:=by
 refine CE λI μ a w hc=>⟨I,μ,_,st,ids,hc.toStRep,λt' d hd=>?_,Ext.refl _ _ _ _,.refl _ _,h⟩
 by_cases e:t=t'
 ·subst e;rw [Ao] at hd;cases hd;have hr:=hc.env t _ ht;obtain ⟨cs,hcs,h1,h2⟩:=hr.aggDInv;rw [hcs];exact FZ (Xm hcl h1) h2
 ·rw [Au _ _ e] at hd;exact hc.env t' d hd
def jZ (j:Nat):List D->List D->Prop
 | [],[]=>True
 | d::r,d'::r'=>(d=d'\/(d = .imm .nilsl/\d' = .own j 0))/\jZ j r r'
 | _,_=>False
theorem TL {j:Nat}:∀{ds ds':List D},jZ j ds ds'->ds.length=ds'.length/\∀(i:Nat) (d':D),ds'[i]?=some d'->∃d,ds[i]?=some d/\(d=d'\/(d = .imm .nilsl/\d' = .own j 0))
 | [],[],_=>⟨rfl,λi d h=>by simp at h⟩
 | d::r,d'::r',h=>by
  obtain ⟨h1,h2⟩:=TL h.2;refine ⟨by simp [h1],λi x hx=>?_⟩;cases i with
  | zero=>simp at hx;subst hx;exact ⟨d,rfl,h.1⟩
  | succ i=>exact h2 i x (by simpa using hx)
 | [],_::_,h=>h.elim
 | _::_,[],h=>h.elim
theorem N2 (k j:Nat) {e t:TypeId} {sz sz':Nat} {xs:List V} (ds':List D) (hsz:0<sz) (hk:lk st k=some (some (.immb t sz' xs))) (hcl:jZ j (xs.map .imm) ds')
  (h:DGo P n F Q todo env ((k,some (.cells t sz' ds'))::(j,some (.row e sz []))::st) ids'):DGo P n F Q todo env st (j::ids'):=by
 refine CE λI μ a w hc=>?_;obtain ⟨gk,hgk,_⟩:=hc.blk k _ hk;have hjk:j≠k:=λe=>by rw [<- e,hc.idsFree j (by simp)] at hgk;cases hgk
 obtain ⟨q1,q2,q3⟩:=StRep.relay (R:=[]) (new:=[(j,.slice none 0 0,.row e sz [])]) (ids':=ids') hc.toStRep
  (λp hp b hb=>by rw [List.mem_singleton.1 hp] at hb;exact hb.elim)
  (λp hp q hq b _ _=>by rw [List.mem_singleton.1 hp,List.mem_singleton.1 hq]) (Imm.le_refl I) hc.imm (λb o h=>.inl h)
  (λ_ p hp=>by rw [List.mem_singleton.1 hp];exact ⟨[],World.ownsRow_nil w 0 e sz,.nil,by simp,by simp,hsz⟩)
 have hmj:DF [(j,Value.slice none 0 0,Blk.row e sz [])] μ j=some (.slice none 0 0):=by simp [DF,lk]
 have hk2:Aq ((j,some (.row e sz []))::st) k (.immb t sz' xs):=Ax.2 (.inr ⟨hjk.symm,hk⟩);obtain ⟨c1,c2⟩:=TL hcl;obtain ⟨p1,p2⟩:=q2.retell (st1:=(k,some (.cells t sz' ds'))::(j,some (.row e sz []))::st) (λi bb hlb=>by
  rcases Ax.1 hlb with ⟨rfl,rfl⟩ | ⟨_,h2⟩
  ·refine ⟨_,hk2,λgb hb=>?_⟩;obtain ⟨hs,b,us,e1,e2,e3,e4⟩:=hb;refine ⟨by rw [<- c1,List.length_map,hs],b,us,e1,e2,⟨by rw [<- c1,List.length_map,e3.1],λi v y hv hy=>?_⟩,e4⟩;obtain ⟨d,y1,y2⟩:=c2 i y hy;rw [List.getElem?_map] at y1;cases hx:xs[i]? with
   | none=>rw [hx] at y1;cases y1
   | some x =>
    rw [hx] at y1;have hr:=e3.2 i v x hv hx;have y1:D.imm x=d:=by simpa using y1
    rcases y2 with rfl | ⟨rfl,rfl⟩
    ·rw [<- y1];exact .imm _ _ hr
    ·cases y1;cases hr;exact .own j 0 none 0 hmj
  ·exact ⟨bb,h2,λ_ h=>h⟩)
 exact ⟨I,_,env,_,ids',p1,λt d hd=>(hc.env t d hd).mono (Imm.le_refl I) q1,q3.trans p2,.of_le q1,h⟩
end
end Go.Hk
namespace Go.Hk
def Zw:List D->Option (List V)
 | []=>some []
 | .imm x::r=>match Zw r with
  | some xs=>some (x::xs)
  | none=>none
 | .nils::r=>match Zw r with
  | some xs=>some (.nilsl::xs)
  | none=>none
 | _=>none
def iF:D->Option V
 | .agg ds=>match Zw ds with
  | some xs=>some (.agg xs)
  | none=>none
 | d=>gA d
def Tn:List D->Option (List V)
 | []=>some []
 | d::r=>match iF d,Tn r with
  | some x,some xs=>some (x::xs)
  | _,_=>none
section
variable {P:Program} {n:Nat} {F:List Nat} {Q:DQ} {tt:TT} {env env':Env} {st st':St} {ids ids':List Nat} {todo todo':List DI} {I:Imm} {μ:Mu}
theorem On:∀{vs:List Value} {ds:List D} {xs:List V},Zw ds=some xs->RepL I μ vs ds->RepVL I vs xs
 | [],ds,xs,h,hr=>by
  cases ds with
  | nil=>cases h;exact .nil
  | cons d ds=>simp [RepL] at hr
 | v::vs,ds,xs,h,hr=>by
  cases ds with
  | nil=>simp [RepL] at hr
  | cons d ds =>
   obtain ⟨h1,h2⟩:=hr.cons;cases d <;> simp only [Zw,reduceCtorEq] at h
   ·split at h
    ·cases h;exact .mk h1.immInv (On (by assumption) h2)
    ·cases h
   ·split at h
    ·cases h;cases h1;exact .mk .nilsl (On (by assumption) h2)
    ·cases h
theorem ZF {v:Value} {d:D} {x:V} (h:iF d=some x) (hr:RepD I μ v d):RepV I v x:=by
 unfold iF at h
 split at h
 ·split at h
  ·rename_i xs hx;cases h;obtain ⟨cs,rfl,h1,h2⟩:=hr.aggDInv;have:=On hx h1;exact .agg cs xs (by have:=this.1;simpa using this) h2 λi c x hc hx=>this.2 i c x (by simpa using hc) hx
  ·cases h
 ·exact KI h hr
theorem QQ:∀{vs:List Value} {ds:List D} {xs:List V},Tn ds=some xs->RepL I μ vs ds->RepVL I vs xs
 | [],ds,xs,h,hr=>by
  cases ds with
  | nil=>cases h;exact .nil
  | cons d ds=>simp [RepL] at hr
 | v::vs,ds,xs,h,hr=>by
  cases ds with
  | nil=>simp [RepL] at hr
  | cons d ds =>
   obtain ⟨h1,h2⟩:=hr.cons;simp only [Tn] at h
   split at h
   ·cases h;exact .mk (ZF (by assumption) h1) (QQ (by assumption) h2)
   ·cases h
theorem bO {Pn:V->Prop} {all:List Oper} {o:Oper} {f:FuncId} {das:List D} {vs:List V} {v:V} {g:Option (Bool×Bool)} (hg:BG all env o=some g) (hc:D3 P o env f das (Ag g)) (hv:Tn das=some vs)
  (hE:Ag g->Ak P f vs v):LD P Pn all o env st [] [] [] (gD g (.imm v)):=by
 have key:∀I μ st1 ids1 a w,StRep I μ st1 ids1 w->CB I μ env a o.op->Ag g->valX P ((execOp a.eval o).run P w) (λu w'=>∃I' μ',StRep I' μ' st1 ids1 w'/\RepD I' μ' u (gD g (.imm v))/\μ.le μ'/\Ext I μ st1 w I' μ' st1 w') (IG Pn I μ st1 w):=by
  intro I μ st1 ids1 a w hst hop hcx;obtain ⟨xs,h1,h2⟩:=hc I μ a w hop hcx;have hx:=QQ hv h1;obtain ⟨q1,q2,q3⟩:=Fe (σ:=[]) (st0:=[]) hst trivial (das:=vs.map .imm) (by
   have:∀vs:List V,Hz (vs.map .imm)=[]:=λvs=>by induction vs with
    | nil=>rfl
    | cons x r ih=>simp [Hz,HG,ih]
   rw [this];rfl) hx.imm
  have hren:ER (Dl []) (vs.map .imm)=vs.map .imm:=by
   rw [Ep];simp [Iu]
  rw [hren] at q2;rw [h2];refine (hE hcx I _ w xs q1 q2).mono (λu w' hu=>?_) (λ_ _ h=>h.elim);obtain ⟨I',μ',r1,r2,r3,r4⟩:=hu;obtain ⟨ν,s1,s2,s3,s4⟩:=HF (fr:=[]) (ids':=ids1) (σ:=[]) (τ1:=[]) (das:=[]) (st0:=[]) hst trivial ⟨rfl,rfl,λ_ h=>by simp at h,rfl,rfl,λ_ h=>by simp at h⟩ r1 r2 r3 r4 q3;refine ⟨I',ν,s1,?_,s3,s4⟩;cases g with
  | none=>exact s2
  | some p=>exact .guard _ _ _ _ (λ_=>s2) (λhn=>absurd hcx hn)
 intro I μ st1 ids1 a w _ hst hon;have hwant:=E0 hg hon;refine ⟨λhw=>key I μ st1 ids1 a w hst (AN hon) (hwant.1 hw),λhw=>⟨rfl,rfl,?_⟩⟩;cases g with
 | none=>rw [hwant.2 trivial] at hw;cases hw
 | some p=>exact .guard _ _ _ _ (λhc=>by rw [hwant.2 hc] at hw;cases hw) (λ_=>rfl)
theorem eZ {c:Vk} {vs:List V} {v:V} (h:Uw n env todo=some c) (hv:Tn c.das=some vs) (hE:Ag c.g->Ak P c.f vs v) (hob:A7 c.ob) (h1:AR todo ([],[])=some (c.all,c.o,todo'))
  (hk:G P n F Q todo' (Bt c.dst (gD c.g (.imm v)) env) st ids):G P n F Q todo env st ids:=by
 obtain ⟨_,q2,q3,q4,q5,q6⟩:=P5 (P:=P) h hob;rw [q6] at q4 hk;exact Bm (fr:=[]) (wr:=[]) (rd:=[]) h1 (bO q2 q3 hv hE) q4 q5 hk
theorem Z9 {I:Imm} {vs:List Value} {xs:List V} (h:RepVL I vs xs):RepVL I vs (Fu xs):=by
 refine ⟨by rw [h.1];simp [Fl],λi v x hv hx=>?_⟩;rw [Fl,List.getElem?_map] at hx;cases hz:xs[i]? with
 | none=>rw [hz] at hx;cases hx
 | some z=>rw [hz] at hx;cases hx;exact (h.2 i v z hv hz).unn
theorem PF (k:Nat) {t:TypeId} {sz:Nat} {xs:List V} (xs':List V) (hk:lk st k=some (some (.immb t sz xs))) (hcl:Fu xs=xs') (h:DGo P n F Q todo env ((k,some (.immb t sz xs'))::st) ids):DGo P n F Q todo env st ids:=by
 subst hcl;refine CE λI μ a w hc=>?_;obtain ⟨p1,p2⟩:=hc.toStRep.retell (st1:=(k,some (.immb t sz (Fu xs)))::st) (λi bb hlb=>by
  rcases Ax.1 hlb with ⟨rfl,rfl⟩ | ⟨_,h2⟩
  ·refine ⟨_,hk,λgb hb=>?_⟩;obtain ⟨hs,b,us,e1,e2,e3,e4⟩:=hb;exact ⟨by rw [<- hs];simp [Fl],b,us,e1,e2,Z9 e3,e4⟩
  ·exact ⟨bb,h2,λ_ h=>h⟩)
 exact ⟨I,μ,env,_,ids,p1,hc.env,p2,.refl _ _,h⟩
end
end Go.Hk
namespace Go.Hk
open Go.Proofs
theorem YT {l:List Ty} {i:Nat} {t h:Ty} (ht:l[i]?=some t):B1 (l.drop i) h=(AK t h||B1 (l.drop (i+1)) h):=by rw [Ap ht];rfl
theorem Xw (l:List Ty) (h:Ty):Ak Tryz.prog 133 [.sl (Bg l),.agg (Al h)] (.bool (B1 l h)):=by
 have hS:=λa=>I8 a h;obtain ⟨h1,h2,h3,h4⟩:=h;refine AM λhv=>?_;simp [BX,Eh,Al,maxLen] at hv;refine Ae Ah Tryz.func133 (by decide +kernel) rfl [1,2,3] rfl rfl ?_;refine mg [] rfl (by simp) ?_;refine Aj (λi:Nat=>[(5,.imm (.int .i64 i)),(0,.imm (.sl (Bg l))),(3,.ref 1 0)]) (λ_=>[(1,some (.immb 35 4 (Al (.mk h1 h2 h3 h4))))]) [2,3] (λi=>l.length-i)
  (λi=>i<=l.length/\B1 l (.mk h1 h2 h3 h4)=B1 (l.drop i) (.mk h1 h2 h3 h4)) 0 ⟨Nat.zero_le _,rfl⟩ ⟨rfl,rfl,rfl,trivial⟩ ⟨rfl,trivial⟩ rfl λi hi ih=>?_
 obtain ⟨hi1,hi2⟩:=hi;refine md [] rfl (by simp) ?_;refine Aa rfl (λh=>?_) (λh=>?_)
 ·simp at h;obtain ⟨t,ht⟩:=Am h;rw [YT ht] at hi2;refine md [] rfl (by simp) ?_;refine mi rfl (c:=Al t) (λ_=>⟨by simp,by simpa using Av ht,by simp⟩) (by simp) ?_;refine mg [] rfl (by simp) ?_;refine Ac rfl (λ_=>hS t) (by simp) ?_;refine mg [] rfl (by simp;rfl) ?_;refine Aa rfl (λh=>?_) (λh=>?_)
  ·refine md [] rfl (by simp) ?_;rw [hi2,show AK t (.mk h1 h2 h3 h4)=true from h];exact Ab ⟨_,rfl,tV rfl,trivial⟩
  ·have h:AK t (.mk h1 h2 h3 h4)=false:=by simpa using h
   rw [h,Bool.false_or] at hi2;refine md [] rfl (by simp) ?_;exact Ad (ih (i+1) (by omega) ⟨by omega,hi2⟩) ⟨At (Bv (by omega) (by omega)),rfl,rfl,trivial⟩ ⟨rfl,trivial⟩ rfl
 ·simp at h;refine Ar rfl ?_;refine md [] rfl (by simp) ?_;rw [hi2,List.drop_eq_nil_of_le (by omega)];exact Ab ⟨_,rfl,tV rfl,trivial⟩
def Iw:Ty->List V
 | .mk f n x _=>[.int .i64 f,.int .i64 n,.str x,if f=0 then .sl [] else .nilsl]
def CC (l:List Ty):List (List V):=l.map Iw
@[simp] theorem dHds_length (l:List Ty):(CC l).length=l.length:=by simp [CC]
@[simp] theorem dHd_length (h:Ty):(Iw h).length=4:=by obtain ⟨a,b,c,d⟩:=h;rfl
theorem Jl (a b:List Ty):CC (a++b)=CC a++CC b:=by simp [CC]
theorem HE {l:List Ty} {i:Nat} {h:Ty} (e:l[i]?=some h):(CC l)[i]?=some (Iw h):=by simp [CC,e]
def E3:Ty->Ty
 | .mk f n x _=>.mk f n x []
theorem Vq (h:Ty):Fu (Iw h)=Al (E3 h):=by
 obtain ⟨f,n,x,ps⟩:=h;by_cases e:f=0 <;> simp [Iw,e,Fu,unn,E3,Al,Bg,KF]
theorem WM (l:List Ty):KF (CC l)=Bg (l.map E3):=by
 rw [KE,Cq,CC,List.map_map,List.map_map];exact List.map_congr_left λh _=>Vq h
mutual
theorem Z8:∀t:Ty,Fu (Al t)=Al t
 | .mk f n x ps=>by simp [Al,Fu,unn,WL ps]
theorem WL:∀l:List Ty,KF (Bg l)=Bg l
 | []=>rfl
 | t::r=>by simp [Bg,KF,Z8 t,WL r]
end
theorem P3 (a b:Ty):AK (E3 a) (E3 b)=AK a b:=by obtain ⟨_,_,_,_⟩:=a;obtain ⟨_,_,_,_⟩:=b;rfl
theorem Up (a b:Ty):AK (E3 a) b=AK a b:=by obtain ⟨_,_,_,_⟩:=a;obtain ⟨_,_,_,_⟩:=b;rfl
theorem YU (l:List Ty) (h:Ty):B1 (l.map E3) (E3 h)=B1 l h:=by simp only [B1,List.any_map];congr 1;funext x;exact P3 x h
theorem Wo (l:List Ty) (h:Ty):B1 (l.map E3) h=B1 l h:=by simp only [B1,List.any_map];congr 1;funext x;exact Up x h
theorem P4 (l:List Ty) (h:Ty):Ak Tryz.prog 133 [.sl (CC l),.agg (Iw h)] (.bool (B1 l h)):=OO (by
 have:=Xw (l.map E3) (E3 h);rw [YU] at this;have e:Fu [.sl (CC l),.agg (Iw h)]=[.sl (Bg (l.map E3)),.agg (Al (E3 h))]:=by simp only [Fu,unn,WM,Vq]
 rw [e];exact this)
theorem Ut (l:List Ty) (h:Ty):Ak Tryz.prog 133 [.sl (CC l),.agg (Al h)] (.bool (B1 l h)):=OO (by
 have:=Xw (l.map E3) h;rw [Wo] at this;have e:Fu [.sl (CC l),.agg (Al h)]=[.sl (Bg (l.map E3)),.agg (Al h)]:=by simp only [Fu,unn,WM,Z8]
 rw [e];exact this)
theorem Vw (a b:Ty):Ak Tryz.prog 86 [.agg (Iw a),.agg (Iw b)] (.bool (AK a b)):=OO (by
 have:=I8 (E3 a) (E3 b);rw [P3] at this;have e:Fu [.agg (Iw a),.agg (Iw b)]=[.agg (Al (E3 a)),.agg (Al (E3 b))]:=by simp only [Fu,unn,Vq]
 rw [e];exact this)
theorem bX (p:Ty):Ak Tryz.prog 171 [.agg (Al p)] (.agg (Iw (AJ p))):=by
 obtain ⟨s,n,x,ks⟩:=p;refine Ae Ah Tryz.func171 (by decide +kernel) rfl [1,2,3] rfl rfl ?_;simp only [AJ];by_cases h3:s=3
 ·subst h3;refine mg [] rfl (by simp) ?_;refine Aa rfl (λh=>?_) (λh=>by simp at h);refine md [] rfl (by simp) ?_;exact Jg 2 [.imm (.int .i64 1),.imm (.int .i64 n),.imm (.str []),.imm .nilsl] rfl (by simp [Xn]) (Ab ⟨_,rfl,tV rfl,trivial⟩)
 rw [if_neg h3];refine mg [] rfl (by simp) ?_;refine Aa rfl (λh=>absurd (by simpa using h) h3) (λh=>?_);clear h;refine md [] rfl (by simp) ?_;by_cases h4:s=4
 ·subst h4;refine Aa rfl (λh=>?_) (λh=>by simp at h);refine md [] rfl (by simp) ?_;exact Jg 2 [.imm (.int .i64 2),.imm (.int .i64 n),.imm (.str []),.imm .nilsl] rfl (by simp [Xn]) (Ab ⟨_,rfl,tV rfl,trivial⟩)
 rw [if_neg h4];refine Aa rfl (λh=>absurd (by simpa using h) h4) (λh=>?_);clear h;refine md [] rfl (by simp) ?_;by_cases h5:s=5
 ·subst h5;refine Aa rfl (λh=>?_) (λh=>by simp at h);refine md [] rfl (by simp) ?_;exact Jg 2 [.imm (.int .i64 3),.imm (.int .i64 0),.imm (.str []),.imm .nilsl] rfl (by simp [Xn]) (Ab ⟨_,rfl,tV rfl,trivial⟩)
 rw [if_neg h5];refine Aa rfl (λh=>absurd (by simpa using h) h5) (λh=>?_);clear h;refine md [] rfl (by simp) ?_;exact Jg 2 [.imm (.int .i64 4),.imm (.int .i64 0),.imm (.str x),.imm .nilsl] rfl (by simp [Xn]) (Ab ⟨_,rfl,tV rfl,trivial⟩)
def De (c:Cd):Ty:=.mk 4 0 c.name []
set_option maxHeartbeats 1000000 in
theorem RD (c:Cse) (t:Ty) (ho:OkD c.datas) (hn:AD c.datas t=true):Ak Tryz.prog 168 [.agg (dCse c),.agg (Al t)] (.sl (CC (A9 c.datas t))):=by
 obtain ⟨ds,⟨c1,c2,c3,c4⟩,rows⟩:=c;have hP:=ID ds (E4 t);obtain ⟨so,n,x,ps⟩:=t;simp only at ho hn hP ⊢;refine Ae Ah Tryz.func168 (by decide +kernel) rfl [1,2,3,4,5,6] rfl rfl ?_;simp only [A9];refine mg [] rfl (by simp) ?_;by_cases h2:so=2
 ·subst h2;refine Aa rfl (λh=>?_) (λh=>by simp at h);refine iN 4 rfl (by simp) ?_;refine JF 12 [.imm (.int .i64 2),.imm (.int .i64 0),.imm (.str []),.imm .nilsl] rfl (by simp [Xn]) ?_;refine JF 13 [.imm (.int .i64 2),.imm (.int .i64 1),.imm (.str []),.imm .nilsl] rfl (by simp [Xn]) ?_;refine md [] rfl (by simp) ?_;exact Ab ⟨_,rfl,tV rfl,trivial⟩
 rw [if_neg h2];refine Aa rfl (λh=>absurd (by simpa using h) h2) (λh=>?_);clear h;refine md [] rfl (by simp) ?_;by_cases h3:so=3
 ·subst h3;refine Aa rfl (λh=>?_) (λh=>by simp at h);refine iN 3 rfl (by simp) ?_;refine JF 17 [.imm (.int .i64 3),.imm (.int .i64 0),.imm (.str []),.imm .nilsl] rfl (by simp [Xn]) ?_;refine md [] rfl (by simp) ?_;exact Ab ⟨_,rfl,tV rfl,trivial⟩
 rw [if_neg h3];refine Aa rfl (λh=>absurd (by simpa using h) h3) (λh=>?_);clear h;refine md [] rfl (by simp) ?_;by_cases h8:so=8
 case neg =>
  rw [if_neg h8];refine Aa rfl (λh=>absurd (by simpa using h) h8) (λh=>?_);refine md [] rfl (by simp) ?_;exact Ab ⟨_,rfl,tV rfl,trivial⟩
 subst h8;rw [if_pos rfl];obtain ⟨hp,d,hd⟩:=Cu hn 8 n x ps rfl rfl;have hdl:=ho.len d (List.mem_of_getElem? hd);rw [hd];simp only;refine Aa rfl (λh=>?_) (λh=>by simp at h);clear h;refine md [] rfl (by simp) ?_;refine Ac rfl (λ_=>hP) (by simp) ?_;refine mg [] rfl (by simp) ?_;refine mi rfl (c:=BU d) (λ_=>⟨hp,by simpa [E4] using AQ hd,by simp⟩) (by simp) ?_;obtain ⟨dn,dc⟩:=d;simp only at hdl;refine mg [] rfl (by simp;rfl) ?_;refine Ct (e:=35) (sz:=4) 5 4 (by decide) rfl ?_;have el:∀i c,dc[i]?=some c->CC ((dc.take (i+1)).map De)=CC ((dc.take i).map De)++[Iw (De c)]:=λi c hc=>by rw [AS hc,List.map_append,Jl];rfl
 refine Aj (λi:Nat=>[(7,.imm (.int .i64 i)),(6,.ref 3 0),(5,.own 4 (CC ((dc.take i).map De)).length)]) (λi=>[(3,some (.immb 87 2 (BU ⟨dn,dc⟩))),(4,some (.row 35 4 (CC ((dc.take i).map De))))]) [5,6] (λi=>dc.length-i)
  (λi=>i<=dc.length) 0 (Nat.zero_le _) ⟨rfl,rfl,rfl,trivial⟩ ⟨rfl,rfl,trivial⟩ rfl λi hi ih=>?_
 refine md [] rfl (by simp) ?_;refine Aa rfl (λh=>?_) (λh=>?_)
 ·simp at h;obtain ⟨e,he⟩:=Am h;have et:=el i e he;have hlen:(CC ((dc.take i).map De)).length<=1000000:=by simp;omega
  have hih:=ih (i+1) (by omega) (by omega);rw [et] at hih;generalize CC ((dc.take i).map De)=l at *;refine md [] rfl (by simp) ?_;refine mi rfl (c:=Cw e) (λ_=>⟨by omega,by simpa using AQ he,by simp⟩) (by simp) ?_;obtain ⟨en,ea⟩:=e;refine jL 3 rfl (by simp) ?_;refine JF 44 [.imm (.int .i64 4),.imm (.int .i64 0),.imm (.str en),.imm .nilsl] rfl (by simp [Xn]) ?_;refine md [] rfl (by simp) ?_;refine Bp Ah rfl ⟨by simp [De],by simp [maxLen] at hlen ⊢;omega,by simp at hlen ⊢;omega,trivial⟩ ?_;refine mg [] rfl (by simp) ?_;refine A3 4 5 rfl ?_;exact Ad hih ⟨At (Bv (by omega) (by omega)),rfl,by simp only [List.length_append];rfl,trivial⟩ ⟨rfl,rfl,trivial⟩ rfl
 ·simp at h;refine Ar rfl ?_;refine AZ 4 rfl ?_;refine md [] rfl (by simp) ?_;rw [List.take_of_length_le (by omega)];exact Ab ⟨_,rfl,tV rfl,trivial⟩
mutual
def Im:Mi->List V
 | .mk ty nt hd ks=>Al ty++[.sl (CC nt)]++Iw hd++[.sl (FE ks)]
def FE:List Mi->List (List V)
 | []=>[]
 | k::r=>Im k::FE r
end
theorem JH:∀l:List Mi,FE l=l.map Im
 | []=>rfl
 | k::r=>by simp [FE,JH r]
@[simp] theorem dMis_length (l:List Mi):(FE l).length=l.length:=by rw [JH];simp
@[simp] theorem dMi_length (m:Mi):(Im m).length=10:=by obtain ⟨⟨a,b,c,d⟩,nt,⟨e,f,g,h⟩,ks⟩:=m;rfl
theorem UI (a b:List Mi):FE (a++b)=FE a++FE b:=by simp [JH]
theorem PK {l:List Mi} {i:Nat} {k:Mi} (h:l[i]?=some k):(FE l)[i]?=some (Im k):=by simp [JH,h]
def O6 (t:Ty):Bool:=decide (1<=Ba t/\Ba t<=8)
theorem O5 {b:Bool} {t:Ty} (h:BH b t=true) (h9:b=true->Ba t≠9):O6 t=true:=by
 obtain ⟨s,n,x,ps⟩:=t;simp only [BH,C0,Bool.and_eq_true] at h;have key:=h.2.1;clear h;refine decide_eq_true ?_;simp only [Ba] at *;unfold BK at key
 split at key
 ·omega
 ·split at key
  ·omega
  ·split at key
   ·omega
   ·split at key
    ·omega
    ·split at key
     ·rename_i e;cases b with
      | false=>simp at key
      | true=>exact absurd e (h9 rfl)
     ·cases key
structure OkW (ds:List Dt):Prop where
 okd:OkD ds
 dif:Bi (BO ds)=true
 ndif:Bi (Co ds)=true
 d4:ds.length<=4
 lim:∀d∈ds,d.cons.length<=5/\∀c∈d.cons,c.args.length<=3
 srt:∀d∈ds,∀c∈d.cons,∀t∈c.args,O6 t=true
theorem OkW.of {c:Cse} (h:Bz c=true):OkW c.datas:=by
 simp only [Bz,Jo,Bool.and_eq_true] at h;obtain ⟨h1,h2,h3,h4⟩:=KU h.1.1.1.1;exact ⟨OkD.of2 h.1.1.1.1,h3,h2,(Ew h1).1,(Ew h1).2,λd hd k hk t ht=>by
  simp only [H2,Bool.and_eq_true,List.all_eq_true] at h1;have hd:=h1.1.2 d hd;simp only [Fa,Bool.and_eq_true,List.all_eq_true] at hd;have hk:=hd.2 k hk;simp only [Kd,Bool.and_eq_true,List.all_eq_true] at hk;exact O5 (hk.2 t ht) (λh=>by cases h)⟩
theorem OkW.typ {c:Cse} (h:Bz c=true):O6 c.type=true:=by
 simp only [Bz,Jo,Bool.and_eq_true] at h;have h1:=h.1.1.2;have h2:=h.2.1;refine O5 h1 λ_ e=>?_;obtain ⟨ds,⟨s,n,x,ps⟩,rows⟩:=c;simp only [Ba] at e;subst e;simp [D7,IW] at h2
theorem L5 {ds:List Dt} (ho:OkW ds) (t:Ty) (s:Str):(B6 ds t s).1.args.length<=3:=by
 by_cases h:0<=(B6 ds t s).2
 ·obtain ⟨d,h1,h2⟩:=PS h;exact (ho.lim d h1).2 _ h2
 ·have hz:∀(l:List Cd) (i:Nat),¬0<=(CD s i l).2->(CD s i l).1=dX:=by
   intro l
   induction l with
   | nil=>intro i _;rfl
   | cons c r ih =>
    intro i hh;simp only [CD] at hh ⊢
    split
    ·rename_i e;rw [if_pos e] at hh;exact absurd (by simp) hh
    ·rename_i e;rw [if_neg e] at hh;exact ih _ hh
  obtain ⟨so,n,x,ps⟩:=t;simp only [B6] at h ⊢
  split
  ·rename_i e;rw [if_pos e] at h
   split
   ·rename_i d hd;simp only [hd] at h;rw [hz _ _ h];simp [dX]
   ·simp [dX]
  ·simp [dX]
theorem Fg {ds:List Dt} (ho:OkW ds) (t:Ty) (s:Str):(Bj ds t s).1.length<=3:=by
 have:=L5 ho t s;unfold Bj;cases decide (0<=(B6 ds t s).2)
 ·simp
 ·simpa using this
set_option maxHeartbeats 1000000 in
theorem Mo (c:Cse) (m:Mi) (h:Ty) (ho:OkW c.datas) (hn:AD c.datas m.ty=true):Ak Tryz.prog 172 [.agg (dCse c),.agg (Im m),.agg (Iw h)] (.agg (Im (AY c.datas m h))):=by
 have hC:=W8 c m.ty (E4 h) (Cu hn) (λd hd=>ho.okd.len d hd);have hargs:=L5 ho m.ty (E4 h);have hneg:¬0<=(B6 c.datas m.ty (E4 h)).2->(Bj c.datas m.ty (E4 h)).1=[]:=λh=>by simp [Bj,h]
 have hpos:0<=(B6 c.datas m.ty (E4 h)).2->(Bj c.datas m.ty (E4 h)).1=(B6 c.datas m.ty (E4 h)).1.args:=λh=>by simp [Bj,h]
 simp only [AY];generalize (Bj c.datas m.ty (E4 h)).1=L at *;generalize B6 c.datas m.ty (E4 h)=e at *;obtain ⟨ds,⟨c1,c2,c3,c4⟩,rows⟩:=c;obtain ⟨⟨so,n,x,ps⟩,nt,⟨hd1,hd2,hd3,hd4⟩,ks⟩:=m;obtain ⟨f,hm,y,qs⟩:=h;obtain ⟨⟨en,ea⟩,k⟩:=e;simp only [Mi.ty] at hargs hneg hpos hC ⊢;simp only [Im,Iw];generalize (if f=0 then V.sl [] else V.nilsl)=hw;refine Ae Ah Tryz.func172 (by decide +kernel) rfl [1,2,3,4,5,6,7,8] rfl rfl ?_;refine mg [] rfl (by simp) ?_;refine Ac rfl (λ_=>hC) (by simp) ?_;refine mg [] rfl (by simp) ?_;by_cases hk:0<=k
 case neg =>
  refine Aa rfl (λh=>absurd (by simpa using h) hk) (λh=>?_);refine md [] rfl (by simp) ?_;rw [hneg hk];exact Ab ⟨_,rfl,tV rfl,trivial⟩
 refine Aa rfl (λh=>?_) (λh=>absurd hk (by simpa using h));clear h;rw [hpos hk];clear hpos hneg hC;refine md [] rfl (by simp) ?_;have el:∀i t,ea[i]?=some t->FE ((ea.take (i+1)).map As)=FE ((ea.take i).map As)++[Im (As t)]:=λi c hc=>by rw [AS hc,List.map_append,UI];rfl
 refine SL (e:=122) (sz:=10) 5 7 [.imm (.int .i64 so),.imm (.int .i64 n),.imm (.str x),.imm (.sl (Bg ps)),.nils,.imm (.int .i64 f),.imm (.int .i64 hm),.imm (.str y),.imm hw,.own 7 0] (by decide) rfl (by simp [lB]) ?_;refine Aj (λi:Nat=>[(10,.imm (.int .i64 i)),(8,.ref 6 0),(7,.ref 5 0),(6,.ref 4 0)])
  (λi=>[(4,some (.cells 122 10 [.imm (.int .i64 0),.imm (.int .i64 0),.imm (.str []),.nils,.nils,.imm (.int .i64 0),.imm (.int .i64 0),.imm (.str []),.nils,.nils])),
   (5,some (.cells 122 10 [.imm (.int .i64 so),.imm (.int .i64 n),.imm (.str x),.imm (.sl (Bg ps)),.nils,.imm (.int .i64 f),.imm (.int .i64 hm),.imm (.str y),.imm hw,.own 7 (FE ((ea.take i).map As)).length])),
   (6,some (.immb 90 2 (Cw ⟨en,ea⟩))),(7,some (.row 122 10 (FE ((ea.take i).map As))))]) [8] (λi=>ea.length-i)
  (λi=>i<=ea.length) 0 (Nat.zero_le _) ⟨rfl,rfl,rfl,rfl,trivial⟩ ⟨rfl,rfl,rfl,rfl,trivial⟩ rfl λi hi ih=>?_
 refine md [] rfl (by simp) ?_;refine Aa rfl (λh=>?_) (λh=>?_)
 ·simp at h;obtain ⟨t,ht⟩:=Am h;have et:=el i t ht;have hlen:(FE ((ea.take i).map As)).length<=3:=by simp;omega
  have hih:=ih (i+1) (by omega) (by omega);rw [et] at hih;generalize FE ((ea.take i).map As)=l at *;refine md [] rfl (by simp) ?_;refine mi rfl (c:=Al t) (λ_=>⟨by omega,by simpa using Av ht,by simp⟩) (by simp) ?_;obtain ⟨t1,t2,t3,t4⟩:=t;refine mg [] rfl (by simp) ?_;refine Bp Ah rfl ⟨by simp,by simp [maxLen] at hlen ⊢;omega,by simp at hlen ⊢;omega,trivial⟩ ?_;refine mg [] rfl (by simp;rfl) ?_;refine A3 7 8 rfl ?_;exact Ad hih ⟨At (Bv (by omega) (by omega)),rfl,rfl,rfl,trivial⟩ ⟨rfl,by simp only [List.length_append];rfl,rfl,rfl,trivial⟩ rfl
 ·simp at h;refine Ar rfl ?_;refine AZ 7 rfl ?_;refine md [] rfl (by simp) ?_;rw [List.take_of_length_le (by omega)];exact Ab ⟨_,rfl,tV rfl,trivial⟩
def Qs (l:List Ty) (nt:List Ty):List Ty:=l.filter λh=>!B1 nt h
theorem Yk {l nt:List Ty} {i:Nat} {t:Ty} (h:l[i]?=some t):Qs (l.take (i+1)) nt=Qs (l.take i) nt++(if B1 nt t then [] else [t]):=by
 rw [AS h];cases hb:B1 nt t <;> simp [Qs,hb]
theorem Ig {ds:List Dt} (ho:OkW ds) (t:Ty):(A9 ds t).length<=5:=by
 obtain ⟨so,n,x,ps⟩:=t;simp only [A9]
 split
 ·simp
 ·split
  ·simp
  ·split
   ·split
    ·rename_i d hd;simpa using (ho.lim d (List.mem_of_getElem? hd)).1
    ·simp
   ·simp
set_option maxHeartbeats 1000000 in
theorem MU (c:Cse) (m:Mi) (ho:OkW c.datas) (hn:AD c.datas m.ty=true):Ak Tryz.prog 170 [.agg (dCse c),.agg (Im m)] (.agg (Im (Af c.datas m))):=by
 have hH:=RD c m.ty ho.okd hn;have hK:=λh=>Mo c m h ho hn;have hA:=λh=>P4 m.nt h;have hl:=Ig ho m.ty;have hs0:Ba m.hd≠0->Af c.datas m=m:=λh=>if_pos h;have hs1:Ba m.hd=0->Af c.datas m=match Qs (A9 c.datas m.ty) m.nt with | [h]=>AY c.datas m h | _=>m:=λh=>if_neg (λhh=>hh h)
 generalize Af c.datas m=S at *;generalize A9 c.datas m.ty=L at *;obtain ⟨kn,hkn⟩:∃kn:Ty->Mi,kn=AY c.datas m:=⟨_,rfl⟩
 simp only [<- hkn] at hK hs1;clear hkn hn;obtain ⟨ds,⟨c1,c2,c3,c4⟩,rows⟩:=c;obtain ⟨⟨so,n,x,ps⟩,nt,⟨f,hd2,hd3,hd4⟩,ks⟩:=m;simp only [Mi.ty,Mi.nt,Mi.hd,Ba] at *;refine Ae Ah Tryz.func170 (by decide +kernel) rfl [1,2,3,4,5,6] rfl rfl ?_;refine mg [] rfl (by simp) ?_;by_cases hf:f=0
 case neg =>
  refine Aa rfl (λh=>?_) (λh=>absurd (by simpa using h) hf);refine md [] rfl (by simp) ?_;rw [hs0 hf];exact Ab ⟨_,rfl,tV rfl,trivial⟩
 rw [hs1 hf];clear hs0 hs1;refine Aa rfl (λh=>absurd hf (by simpa using h)) (λh=>?_);clear h;refine md [] rfl (by simp) ?_;refine Ac rfl (λ_=>hH) (by simp) ?_;refine mg [] rfl (by simp) ?_;refine Ct (e:=35) (sz:=4) 6 4 (by decide) rfl ?_;refine Aj (λi:Nat=>[(7,.imm (.int .i64 i)),(6,.own 4 (CC (Qs (L.take i) nt)).length),(5,.imm (.sl (CC L))),(4,.ref 3 0),(3,.ref 2 0),(2,.ref 1 0)])
  (λi=>[(1,some (.immb 29 6 (dCse ⟨ds,.mk c1 c2 c3 c4,rows⟩))),(2,some (.immb 122 10 (Im (.mk (.mk so n x ps) nt (.mk f hd2 hd3 hd4) ks)))),
   (3,some (.cells 122 10 [.imm (.int .i64 0),.imm (.int .i64 0),.imm (.str []),.nils,.nils,.imm (.int .i64 0),.imm (.int .i64 0),.imm (.str []),.nils,.nils])),
   (4,some (.row 35 4 (CC (Qs (L.take i) nt))))]) [5,6] (λi=>L.length-i)
  (λi=>i<=L.length) 0 (Nat.zero_le _) ⟨rfl,rfl,rfl,rfl,rfl,rfl,trivial⟩ ⟨rfl,rfl,rfl,rfl,trivial⟩ rfl λi hi ih=>?_
 refine md [] rfl (by simp) ?_;refine Aa rfl (λh=>?_) (λh=>?_)
 ·simp at h;obtain ⟨t,ht⟩:=Am h;have hA:=hA t;have et:=Yk (nt:=nt) ht;have hlen:(Qs (L.take i) nt).length<=5:=by
   have:=List.length_filter_le (λh=>!B1 nt h) (L.take i);simp only [Qs,List.length_take] at this ⊢;omega
  have hih:=ih (i+1) (by omega) (by omega);rw [et,Jl] at hih;generalize Qs (L.take i) nt=R at *;generalize B1 nt t=b at *;refine md [] rfl (by simp) ?_;refine mi rfl (c:=Iw t) (λ_=>⟨by simp,by simpa using HE ht,by simp⟩) (by simp) ?_;refine mg [] rfl (by simp) ?_;refine Ac rfl (λ_=>hA) (by simp) ?_;refine mg [] rfl (by simp;rfl) ?_;cases b with
  | true =>
   refine Aa rfl (λh=>by simp at h) (λh=>?_);refine md [] rfl (by simp) ?_;simp only [if_true,show CC []=[] from rfl,List.append_nil] at hih;exact Ad hih ⟨At (Bv (by omega) (by omega)),rfl,rfl,rfl,rfl,rfl,trivial⟩ ⟨rfl,rfl,rfl,rfl,trivial⟩ rfl
  | false =>
   refine Aa rfl (λh=>?_) (λh=>by simp at h);refine md [] rfl (by simp) ?_;simp only [Bool.false_eq_true,if_false,show CC [t]=[Iw t] from rfl] at hih;have hlen:(CC R).length<=5:=by simpa using hlen
   generalize CC R=l at *;refine mi rfl (c:=Iw t) (λ_=>⟨by simp,by simpa using HE ht,by simp⟩) (by simp) ?_;obtain ⟨t1,t2,t3,t4⟩:=t;simp only [Iw] at hih ⊢;generalize (if t1=0 then V.sl [] else V.nilsl)=tw at *;refine mg [] rfl (by simp) ?_;refine Bp Ah rfl ⟨by simp,by simp [maxLen] at hlen ⊢;omega,by simp at hlen ⊢;omega,trivial⟩ ?_;refine mg [] rfl (by simp) ?_;refine A3 4 5 rfl ?_;exact Ad hih ⟨At (Bv (by omega) (by omega)),by simp only [List.length_append];rfl,rfl,rfl,rfl,rfl,trivial⟩ ⟨rfl,rfl,rfl,rfl,trivial⟩ rfl
 ·simp at h;refine Ar rfl ?_;rw [List.take_of_length_le (by omega)];generalize Qs L nt=R at *;refine AZ 4 rfl ?_;refine md [] rfl (by simp) ?_
  match R with
  | [] =>
   refine Aa rfl (λh=>by simp at h) (λh=>?_);refine md [] rfl (by simp) ?_;exact Ab ⟨_,rfl,tV rfl,trivial⟩
  | [t] =>
   have hK:=hK t;obtain ⟨k1,k2,k3,k4⟩:∃k1 k2 k3 k4,kn t = .mk k1 k2 k3 k4:=by cases kn t;exact ⟨_,_,_,_,rfl⟩
   refine Aa rfl (λh=>?_) (λh=>by simp at h);refine md [] rfl (by simp) ?_;refine mi rfl (c:=Iw t) (λ_=>⟨by simp,rfl,by simp⟩) (by simp) ?_;refine mg [] rfl (by simp) ?_;refine Ac rfl (λ_=>hK) (by simp) ?_;refine mg [] rfl (by simp;rfl) ?_;exact Ab ⟨_,rfl,tV rfl,trivial⟩
  | _::_::_ =>
   refine Aa rfl (λh=>by simp at h;omega) (λh=>?_);refine md [] rfl (by simp) ?_;exact Ab ⟨_,rfl,tV rfl,trivial⟩
mutual
def HH (ds:List Dt) (N:Nat):Mi->Bool
 | .mk ty nt hd ks=>(AD ds ty&&O6 ty)&&decide (ks.length<=3)&&decide (nt.length<=N)&&(C7 hd).isEmpty&&Vo ds N ks
def Vo (ds:List Dt) (N:Nat):List Mi->Bool
 | []=>true
 | k::r=>HH ds N k&&Vo ds N r
end
theorem Th (ds:List Dt) (N:Nat):∀l:List Mi,Vo ds N l=l.all (HH ds N)
 | []=>rfl
 | k::r=>by simp [Vo,Th ds N r]
theorem Be {ds:List Dt} {N:Nat} {m:Mi}:HH ds N m=true↔(AD ds m.ty=true/\m.ks.length<=3/\m.nt.length<=N)/\(C7 m.hd=[]/\O6 m.ty=true)/\∀k∈m.ks,HH ds N k=true:=by
 obtain ⟨ty,nt,hd,ks⟩:=m;simp only [HH,Bool.and_eq_true,decide_eq_true_eq,Th,List.all_eq_true,Mi.ty,Mi.ks,Mi.nt,Mi.hd,List.isEmpty_iff];constructor
 ·rintro ⟨⟨⟨⟨⟨a,s⟩,b⟩,c⟩,e⟩,d⟩;exact ⟨⟨a,b,c⟩,⟨e,s⟩,d⟩
 ·rintro ⟨⟨a,b,c⟩,⟨e,s⟩,d⟩;exact ⟨⟨⟨⟨⟨a,s⟩,b⟩,c⟩,e⟩,d⟩
theorem LC {ds:List Dt} (ho:OkW ds) {t:Ty} {s:Str}:∀a∈(Bj ds t s).1,O6 a=true:=by
 intro a ha;unfold Bj at ha;by_cases h:0<=(B6 ds t s).2
 ·obtain ⟨d,h1,h2⟩:=PS h;simp only [h,decide_true,if_true] at ha;exact ho.srt d h1 _ h2 a (by simpa using ha)
 ·simp [h] at ha
theorem Tg {ds:List Dt} {N:Nat} {t:Ty} (h:AD ds t=true) (hs:O6 t=true):HH ds N (As t)=true:=Be.2 ⟨⟨h,by simp [As,Mi.ks],by simp [As,Mi.nt]⟩,⟨rfl,hs⟩,λk hk=>by simp [As,Mi.ks] at hk⟩
theorem KA {ds:List Dt} (ho:OkW ds) {N:Nat} {m:Mi} {h:Ty} (hm:AD ds m.ty=true) (hs:O6 m.ty=true) (hp:C7 h=[]):HH ds N (AY ds m h)=true:=by
 have ha:=Dr ho.okd (t:=m.ty) (s:=E4 h);refine Be.2 ⟨⟨hm,by simpa [AY,Mi.ks] using Fg ho m.ty (E4 h),by simp [AY,Mi.nt]⟩,⟨hp,hs⟩,λk hk=>?_⟩;simp only [AY,Mi.ks,List.mem_map] at hk;obtain ⟨t,ht,rfl⟩:=hk;rw [Dk,List.all_eq_true] at ha;exact Tg (ha t ht) (LC ho t ht)
theorem BL {ds:List Dt} {t h:Ty} (hh:h∈A9 ds t):C7 h=[]/\Ba h≠0:=by
 obtain ⟨so,n,x,ps⟩:=t;simp only [A9] at hh
 split at hh
 ·rcases List.mem_cons.1 hh with rfl | hh
  ·exact ⟨rfl,by simp [Ba]⟩
  ·rw [List.mem_singleton.1 hh];exact ⟨rfl,by simp [Ba]⟩
 ·split at hh
  ·rw [List.mem_singleton.1 hh];exact ⟨rfl,by simp [Ba]⟩
  ·split at hh
   ·split at hh
    ·obtain ⟨c,_,rfl⟩:=List.mem_map.1 hh;exact ⟨rfl,by simp [Ba]⟩
    ·cases hh
   ·cases hh
theorem Gv {ds:List Dt} {m:Mi} {h:Ty} (hh:IP ds m=[h]):h∈A9 ds m.ty/\B1 m.nt h=false:=by
 have:h∈IP ds m:=by rw [hh];simp
 simp only [IP,List.mem_filter] at this;simpa using this
theorem CS {ds:List Dt} (ho:OkW ds) {N:Nat} {m:Mi} (hm:HH ds N m=true):HH ds N (Af ds m)=true:=by
 unfold Af
 split
 ·exact hm
 ·split
  ·rename_i h hh;exact KA ho (Be.1 hm).1.1 (Be.1 hm).2.1.2 (BL (Gv hh).1).1
  ·exact hm
theorem EM (ds:List Dt) (m:Mi):(Af ds m).ty=m.ty:=by
 unfold Af
 split
 ·rfl
 ·split <;> rfl
theorem Z1 {ds:List Dt} {N:Nat} {m k:Mi} {i:Nat} (hm:HH ds N m=true) (hk:m.ks[i]?=some k):HH ds N k=true:=(Be.1 hm).2.2 k (List.mem_of_getElem? hk)
def HS (ds:List Dt):Mi->List Int->Prop
 | _,[]=>True
 | m,i::p=>0<=i/\∃k,(Af ds m).ks[i.toNat]?=some k/\HS ds k p
theorem cZ (l:List Mi) (i:Nat) (k:Mi):FE (l.set i k)=(FE l).set i (Im k):=by simp [JH,List.map_set]
set_option maxHeartbeats 2000000 in
theorem LQ (c:Cse) (ho:OkW c.datas) (N:Nat) (hN:N<=1000000) (h:Ty) (is:Bool):∀(path:List Int) (m:Mi),HH c.datas N m=true->HS c.datas m path ->
  Ak Tryz.prog 124 [.agg (dCse c),.agg (Im m),.sl (AB path),.agg (Iw h),.bool is] (.agg (Im (AH c.datas m path h is)))
 | [],m,hm,hp=>by
  have hK:=Mo c m h ho (Be.1 hm).1.1;have hnt:=(Be.1 hm).1.2.2;have e1:AH c.datas m [] h true=AY c.datas m h:=rfl;have e2:AH c.datas m [] h false = .mk m.ty (m.nt++[h]) m.hd m.ks:=rfl;generalize AY c.datas m h=K at *;generalize hS:AH c.datas m [] h is=S at *;obtain ⟨ds,⟨c1,c2,c3,c4⟩,rows⟩:=c;obtain ⟨⟨so,n,x,ps⟩,nt,⟨f,hd2,hd3,hd4⟩,ks⟩:=m;obtain ⟨h1,h2,h3,h4⟩:=h;simp only [Mi.ty,Mi.nt,Mi.hd,Mi.ks] at *;refine Ae Ah Tryz.func124 (by decide +kernel) rfl [1,2,3,4,5,6,7,8] rfl rfl ?_;refine mg [] rfl (by simp) ?_;cases is with
  | true =>
   refine Aa rfl (λh=>?_) (λh=>by simp [AB] at h);refine md [] rfl (by simp) ?_;refine Ac rfl (λ_=>hK) (by simp) ?_;obtain ⟨k1,k2,k3,k4⟩:=K;refine mg [] rfl (by simp) ?_;rw [<- hS,e1];exact Ab ⟨_,rfl,tV rfl,trivial⟩
  | false =>
   refine Aa rfl (λh=>by simp [AB] at h) (λh=>?_);refine md [] rfl (by simp) ?_;refine Aa rfl (λh=>?_) (λh=>by simp [AB] at h);refine md [] rfl (by simp) ?_;have hnt:(CC nt).length<=1000000:=by simp;omega
   have hd:CC (nt++[.mk h1 h2 h3 h4])=[]++CC nt++[Iw (.mk h1 h2 h3 h4)]:=by rw [Jl];rfl
   have hsz:∀e∈CC nt,e.length=4:=λe he=>by rw [CC] at he;obtain ⟨t,_,rfl⟩:=List.mem_map.1 he;simp
   rw [<- hS,e2];clear e1 e2 hS;generalize hl:CC nt=l at *;refine Bp Ah rfl ⟨hsz,by simp [maxLen] at hnt ⊢;omega,by simp at hnt ⊢;omega,trivial⟩ ?_;refine mg [] rfl (by simp) ?_;refine Bp Ah rfl ⟨by simp,by simp [maxLen] at hnt ⊢;omega,by simp at hnt ⊢;omega,trivial⟩ ?_;refine mg [] rfl (by simp [hl];rfl) ?_;refine AZ 6 rfl ?_;refine md [] rfl (by simp) ?_;refine Ab ⟨_,rfl,tV ?_,trivial⟩;simp only [Im,hd];rfl
 | i::path,m,hm,hp=>by
  have hm2:=CS ho hm;obtain ⟨hi0,k,hk,hp2⟩:=hp;have hmw:=Be.1 hm2;have hset:=MU c m ho (Be.1 hm).1.1;have hR:=LQ c ho N hN h is path k (Z1 hm2 hk) hp2;have eS:AH c.datas m (i::path) h is = .mk (Af c.datas m).ty (Af c.datas m).nt (Af c.datas m).hd ((Af c.datas m).ks.set i.toNat (AH c.datas k path h is)):=by simp only [AH,hk]
  rw [eS];clear eS;generalize Af c.datas m=s at *;generalize AH c.datas k path h is=R at *;obtain ⟨ds,⟨c1,c2,c3,c4⟩,rows⟩:=c;obtain ⟨⟨so,n,x,ps⟩,nt,⟨f,hd2,hd3,hd4⟩,ks0⟩:=m;obtain ⟨⟨so',n',x',ps'⟩,nt',⟨f',hd2',hd3',hd4'⟩,ks⟩:=s;obtain ⟨h1,h2,h3,h4⟩:=h;simp only [Mi.ty,Mi.nt,Mi.hd,Mi.ks] at *;have hlt:=(List.getElem?_eq_some_iff.1 hk).1;have hks:ks.length<=3:=hmw.1.2.1;refine Ae Ah Tryz.func124 (by decide +kernel) rfl [1,2,3,4,5,6,7,8] rfl rfl ?_;refine mg [] rfl (by simp) ?_;refine Aa rfl (λh=>by simp [AB] at h;omega) (λh=>?_);clear h;refine md [] rfl (by simp) ?_;refine Aa rfl (λh=>by simp [AB] at h;omega) (λh=>?_);clear h;refine md [] rfl (by simp) ?_;refine Ac rfl (λ_=>hset) (by simp) ?_
  refine mg [] rfl (by simp) ?_;have hlk:(FE ks).length<=3:=by simpa using hks
  have hkk:(FE ks)[i.toNat]?=some (Im k):=PK hk;have hsz:∀e∈FE ks,e.length=10:=λe he=>by rw [JH] at he;obtain ⟨t,_,rfl⟩:=List.mem_map.1 he;simp
  have hltl:i.toNat<(FE ks).length:=by simpa using hlt
  have eset:=cZ ks i.toNat R;generalize hl:FE ks=l at *;refine Bp Ah rfl ⟨hsz,by simp [maxLen] at hlk ⊢;omega,by simp at hlk ⊢;omega,trivial⟩ ?_;refine mg [] rfl (by simp [hl]) ?_;refine mi rfl (c:=[.int .i64 i]) (λ_=>⟨by simp,by simp [AB],rfl⟩) (by simp) ?_;refine mg [] rfl (by simp) ?_;refine mi rfl (c:=[.int .i64 i]) (λ_=>⟨by simp,by simp [AB],rfl⟩) (by simp) ?_;refine mg [] rfl (by simp) ?_;refine CN Ah rfl (λ_=>⟨hi0,by simpa using by omega⟩) (by simp) ?_;refine mg [] rfl (by simp) ?_;refine Ih Ah (e:=Im k) rfl (λ_=>by simpa using hkk) rfl (by simp) ?_;refine mg [] rfl (by simp;exact ⟨by omega,λc hc=>by simp only [AB,List.mem_map] at hc;obtain ⟨q,_,rfl⟩:=hc;rfl⟩) ?_
  refine Ac rfl (λ_=>hR) (by simp) ?_;refine mg [] rfl (by simp) ?_;refine CN Ah rfl (λ_=>⟨hi0,by simpa using by omega⟩) (by simp) ?_;refine mg [] rfl (by simp) ?_;obtain ⟨r1,r2,r3,r4⟩:=R;refine HA Ah (e:=Im k) (e':=Im (.mk r1 r2 r3 r4)) rfl (by simpa using hkk) (by show 0+10<=10;decide) (by simp [List.drop_eq_nil_of_le]) (by simp) ?_;refine mg [] rfl (by simp;rfl) ?_;refine AZ 5 rfl ?_;refine md [] rfl (by simp) ?_;refine Ab ⟨_,rfl,tV ?_,trivial⟩;simp only [Im,eset];rfl
mutual
def Wv (ds:List Dt):Ty->Mi->Bool
 | .mk f n x ps,m=>decide (f=1)||decide (f=2)||decide (Ba (Af ds m).hd=0) || !AK (Af ds m).hd (AJ (.mk f n x ps))||(decide (ps.length<=(Af ds m).ks.length)&&JV ds ps (Af ds m).ks)
def JV (ds:List Dt):List Ty->List Mi->Bool
 | [],_=>true
 | _::_,[]=>true
 | p::r,k::s=>Wv ds p k&&JV ds r s
end
mutual
theorem IN (ds:List Dt):∀(p:Ty) (m:Mi),(A0 ds p m).2.1.length<=An p
 | .mk f n x ps,m=>by
  simp only [A0,An];have:=R0 ds ps (Af ds m).ks 0
  split
  ·simp
  ·split
   ·simp
   ·split
    ·simp
    ·omega
theorem R0 (ds:List Dt):∀(ps:List Ty) (ks:List Mi) (i:Int),(B8 ds i ps ks).2.1.length<=1+Ai ps
 | [],_,_=>by simp [B8]
 | _::_,[],_=>by simp [B8]
 | p::r,k::ks,i=>by
  have h1:=IN ds p k;have h2:=R0 ds r ks (i+1);have h3:1<=An p:=by obtain ⟨a,b,c,d⟩:=p;simp only [An];omega
  simp only [B8,Ai]
  split
  ·omega
  ·simp only [List.length_cons];omega
end
theorem Ph {ds:List Dt} {ps:List Ty} {ks:List Mi} {i:Nat} {p:Ty} {k:Mi} (hp:ps[i]?=some p) (hk:ks[i]?=some k) :
  B8 ds i (ps.drop i) (ks.drop i)=if (A0 ds p k).1=1 then B8 ds ((i+1:Nat):Int) (ps.drop (i+1)) (ks.drop (i+1)) else ((A0 ds p k).1,(i:Int)::(A0 ds p k).2.1,(A0 ds p k).2.2):=by
 rw [Ap hp,Ap hk];rfl
theorem Wu {ds:List Dt} {ps:List Ty} {ks:List Mi} {i:Nat} {p:Ty} {k:Mi} (hp:ps[i]?=some p) (hk:ks[i]?=some k):JV ds (ps.drop i) (ks.drop i)=(Wv ds p k&&JV ds (ps.drop (i+1)) (ks.drop (i+1))):=by
 rw [Ap hp,Ap hk];rfl
def gX (r:Int×List Int×Ty):V:=.tup [.int .i64 r.1,.sl (AB r.2.1),.agg (Iw r.2.2)]
set_option maxHeartbeats 2000000 in
theorem TX (c:Cse) (ho:OkW c.datas) (N:Nat):∀(p:Ty) (m:Mi),An p<=1000000->HH c.datas N m=true->Wv c.datas p m=true ->
  Ak Tryz.prog 122 [.agg (dCse c),.agg (Al p),.agg (Im m)] (gX (A0 c.datas p m))
 | .mk f n x ps,m,hN,hm,hf=>by
  have hm2:=CS ho hm;have hmw:=Be.1 hm2;have hset:=MU c m ho (Be.1 hm).1.1;have hH:=bX (.mk f n x ps);have hA:=P4 (Af c.datas m).nt (AJ (.mk f n x ps));have hE:=Vw (Af c.datas m).hd (AJ (.mk f n x ps));simp only [An] at hN;have e0:f=1\/f=2->A0 c.datas (.mk f n x ps) m=(1,[],zT):=λh=>by simp only [A0,if_pos h]
  have e1:¬(f=1\/f=2)->Ba (Af c.datas m).hd=0->B1 (Af c.datas m).nt (AJ (.mk f n x ps))=false->A0 c.datas (.mk f n x ps) m=(2,[],AJ (.mk f n x ps)):=λh1 h2 h3=>by simp only [A0,if_neg h1,if_pos (And.intro h2 h3)]
  have e2:¬(f=1\/f=2)->Ba (Af c.datas m).hd=0->B1 (Af c.datas m).nt (AJ (.mk f n x ps))=true->A0 c.datas (.mk f n x ps) m=(0,[],zT):=λh1 h2 h3=>by
   simp only [A0,if_neg h1];rw [if_neg (by rw [h3];simp),if_pos (Or.inl h2)]
  have e3:¬(f=1\/f=2)->Ba (Af c.datas m).hd≠0->AK (Af c.datas m).hd (AJ (.mk f n x ps))=false->A0 c.datas (.mk f n x ps) m=(0,[],zT):=λh1 h2 h3=>by
   simp only [A0,if_neg h1];rw [if_neg (λh=>h2 h.1),if_pos (Or.inr h3)]
  have e4:¬(f=1\/f=2)->Ba (Af c.datas m).hd≠0->AK (Af c.datas m).hd (AJ (.mk f n x ps))=true->A0 c.datas (.mk f n x ps) m=B8 c.datas 0 ps (Af c.datas m).ks:=λh1 h2 h3=>by
   simp only [A0,if_neg h1];rw [if_neg (λh=>h2 h.1),if_neg (λh=>by rcases h with h | h;exact h2 h;rw [h3] at h;cases h)]
  have hf2:¬(f=1\/f=2)->Ba (Af c.datas m).hd≠0->AK (Af c.datas m).hd (AJ (.mk f n x ps))=true->ps.length<=(Af c.datas m).ks.length/\JV c.datas ps (Af c.datas m).ks=true:=λh1 h2 h3=>by
   have a1:f≠1:=λh=>h1 (.inl h);have a2:f≠2:=λh=>h1 (.inr h);simpa [Wv,a1,a2,h2,h3] using hf
  generalize A0 c.datas (.mk f n x ps) m=L at *;generalize AJ (.mk f n x ps)=hd at *;generalize B1 (Af c.datas m).nt hd=hb at *;generalize AK (Af c.datas m).hd hd=eb at *;generalize Af c.datas m=s at *;obtain ⟨ds,⟨c1,c2,c3,c4⟩,rows⟩:=c;obtain ⟨⟨so,n0,x0,ps0⟩,nt0,⟨f0,hd2,hd3,hd4⟩,ks0⟩:=m;obtain ⟨⟨so',n',x',ps'⟩,nt',⟨f',hd2',hd3',hd4'⟩,ks⟩:=s;obtain ⟨h1,h2,h3,h4⟩:=hd;simp only [Mi.ty,Mi.nt,Mi.hd,Mi.ks,Ba] at *;refine Ae Ah Tryz.func122 (by decide +kernel) rfl [1,2,3,4,5,6,7,8,9] rfl rfl ?_;refine mg [] rfl (by simp) ?_;by_cases h12:f=1\/f=2
  ·refine Aa rfl (λh=>?_) (λh=>by exfalso;revert h;rcases h12 with rfl | rfl <;> simp);refine md [] rfl (by simp) ?_;rw [e0 h12];exact Ab ⟨_,rfl,tV rfl,trivial⟩
  have e1:=e1 h12;have e2:=e2 h12;have e3:=e3 h12;have e4:=e4 h12;have hf2:=hf2 h12;refine Aa rfl (λh=>by exfalso;apply h12;simpa using h) (λh=>?_);clear h e0;refine md [] rfl (by simp) ?_;refine Ac rfl (λ_=>hset) (by simp) ?_;refine mg [] rfl (by simp) ?_;refine Ac rfl (λ_=>hH) (by simp) ?_;refine mg [] rfl (by simp) ?_;by_cases h0:f'=0
  ·subst h0;refine Ac rfl (λ_=>hA) (by simp [Ag]) ?_;refine mg [] rfl (by simp [Ag]) ?_;cases hb with
   | false =>
    refine Aa rfl (λh=>?_) (λh=>by simp at h);refine md [] rfl (by simp;rfl) ?_;rw [e1 rfl rfl];exact Ab ⟨_,rfl,tV rfl,trivial⟩
   | true =>
    refine Aa rfl (λh=>by simp at h) (λh=>?_);refine md [] rfl (by simp) ?_;refine Ac (v:=.bool true) rfl (λh=>by simp [Ag] at h) (by simp [Ag]) ?_;refine mg [] rfl (by simp [Ag]) ?_;refine Aa rfl (λh=>?_) (λh=>by simp at h);refine md [] rfl (by simp) ?_;rw [e2 rfl rfl];exact Ab ⟨_,rfl,tV rfl,trivial⟩
  refine Ac (v:=.bool true) rfl (λh=>by simp [Ag,h0] at h) (by simp [Ag]) ?_;refine mg [] rfl (by simp [Ag]) ?_;refine Aa rfl (λh=>by simp [h0] at h) (λh=>?_);clear h;refine md [] rfl (by simp) ?_;refine Ac rfl (λ_=>hE) (by simp [Ag]) ?_;refine mg [] rfl (by simp [Ag]) ?_;cases eb with
  | false =>
   refine Aa rfl (λh=>?_) (λh=>by simp at h);refine md [] rfl (by simp) ?_;rw [e3 h0 rfl];exact Ab ⟨_,rfl,tV rfl,trivial⟩
  | true =>
  refine Aa rfl (λh=>by simp [h0] at h) (λh=>?_);clear h;obtain ⟨hl,hft⟩:=hf2 h0 rfl;rw [e4 h0 rfl];clear e1 e2 e3 e4 hf2;refine md [] rfl (by simp) ?_;refine Aj (λi:Nat=>[(10,.imm (.int .i64 i)),(8,.ref 4 0),(5,.ref 3 0),(4,.ref 2 0),(3,.ref 1 0)])
   (λi=>[(1,some (.immb 29 6 (dCse ⟨ds,.mk c1 c2 c3 c4,rows⟩))),(2,some (.immb 62 4 (Al (.mk f n x ps)))),(3,some (.immb 122 10 (Im (.mk (.mk so' n' x' ps') nt' (.mk f' hd2' hd3' hd4') ks)))),
    (4,some (.cells 35 4 [.imm (.int .i64 0),.imm (.int .i64 0),.imm (.str []),.nils]))]) [6,7,8,9] (λi=>ps.length-i)
   (λi=>i<=ps.length/\JV ds (ps.drop i) (ks.drop i)=true/\B8 ds 0 ps ks=B8 ds i (ps.drop i) (ks.drop i)) 0 ⟨Nat.zero_le _,hft,rfl⟩ ⟨rfl,rfl,rfl,rfl,rfl,trivial⟩ ⟨rfl,rfl,rfl,rfl,trivial⟩ rfl λi hi ih=>?_
  obtain ⟨hi1,hi2,hi3⟩:=hi;refine md [] rfl (by simp) ?_;refine Aa rfl (λh=>?_) (λh=>?_)
  ·simp at h;obtain ⟨p,hp⟩:=Am h;obtain ⟨k,hk⟩:=Am (l:=ks) (i:=i) (by omega);rw [Wu hp hk,Bool.and_eq_true] at hi2;rw [Ph hp hk] at hi3;have hnt:=B7 hp;have hll:=IN ds p k;have hL:=TX ⟨ds,.mk c1 c2 c3 c4,rows⟩ ho N p k (by omega) (Z1 (i:=i) hm2 hk) hi2.1;simp only at hL;generalize A0 ds p k=r at *;obtain ⟨r1,r2,r3⟩:=r;simp only at hi3 hll hL;refine md [] rfl (by simp) ?_;refine mi rfl (c:=Al p) (λ_=>⟨by simp,by simpa using Av hp,by simp⟩) (by simp) ?_;refine mg [] rfl (by simp) ?_;refine mi rfl (c:=Im k) (λ_=>⟨by simp,by simpa using PK hk,by simp⟩) (by simp) ?_;refine mg [] rfl (by simp) ?_;refine Ac rfl (λ_=>hL) (by simp) ?_;refine mg [] rfl (by simp;rfl) ?_;by_cases h1:r1=1
   ·subst h1;refine Aa rfl (λh=>by simp at h) (λh=>?_);refine md [] rfl (by simp) ?_;rw [if_pos rfl] at hi3;exact Ad (ih (i+1) (by omega) ⟨by omega,hi2.2,hi3⟩) ⟨At (Bv (by omega) (by omega)),rfl,rfl,rfl,rfl,trivial⟩ ⟨rfl,rfl,rfl,rfl,trivial⟩ rfl
   ·refine Aa rfl (λh=>?_) (λh=>absurd (by simpa using h) h1);rw [if_neg h1] at hi3;refine iN 4 rfl (by simp) ?_;have hrl:(AB r2).length<=1000000:=by simp;omega
    have hrs:∀c∈AB r2,c.length=1:=λc hc=>by simp only [AB,List.mem_map] at hc;obtain ⟨q,_,rfl⟩:=hc;rfl
    have er:AB (i::r2)=[[.int .i64 i]]++AB r2:=rfl;rw [hi3];simp only [gX,er];generalize AB r2=l at *;refine Wr Ah 7 rfl (by simp) ?_;refine mg [] rfl (by simp) ?_;refine Bp Ah rfl ⟨hrs,by simp [maxLen] at hrl ⊢;omega,by simp at hrl ⊢;omega,trivial⟩ ?_;refine mg [] rfl (by simp;rfl) ?_;refine AZ 8 rfl ?_;exact Ab ⟨_,rfl,tV rfl,trivial⟩
  ·simp at h;refine Ar rfl ?_;refine md [] rfl (by simp) ?_;rw [hi3,List.drop_eq_nil_of_le (by omega)];simp only [B8];exact Ab ⟨_,rfl,tV rfl,trivial⟩
termination_by p=>SizeOf.sizeOf p
decreasing_by
 have:=List.sizeOf_lt_of_mem (List.mem_of_getElem? hp);simp_wf;omega
set_option maxHeartbeats 1000000 in
theorem QP (c:Cse) (s:List Int) (hs:FT c.datas s) (h4:c.datas.length<=4) (args:List Ty) (hn:Bh c.datas args=true) (ha:args.length<=3) :
  Ak Tryz.prog 204 [.agg (dCse c),.sl (AB s),.sl (Bg args)] (.int .i64 (AA c.datas s 1 args)):=by
 have hP:=λx=>ID c.datas x;obtain ⟨ds,⟨c1,c2,c3,c4⟩,rows⟩:=c;simp only at hs h4 hn hP ⊢;have hpw:((4 ^ Mc s:Nat):Int)<=256:=by have:=Yx (n:=Mc s) (by have:=IK s;rw [hs.len] at this;omega);omega
 refine Ae Ah Tryz.func204 (by decide +kernel) rfl [1,2,3,4] rfl rfl ?_;refine mg [] rfl (by simp) ?_;refine Aj (λy:Nat×Int=>[(8,.imm (.int .i64 y.1)),(7,.imm (.int .i64 y.2)),(3,.ref 1 0),(2,.imm (.sl (Bg args))),(1,.imm (.sl (AB s)))]) (λ_=>[(1,some (.immb 29 6 (dCse ⟨ds,.mk c1 c2 c3 c4,rows⟩)))]) [2,3,4] (λy=>args.length-y.1)
  (λy=>y.1<=args.length/\AA ds s 1 args=AA ds s y.2 (args.drop y.1)/\0<=y.2/\y.2<=1+256*y.1) (0,1) ⟨Nat.zero_le _,rfl,by simp only;omega,by simp only;omega⟩ ⟨rfl,rfl,rfl,rfl,rfl,trivial⟩ ⟨rfl,trivial⟩ rfl λy hi ih=>?_
 obtain ⟨i,m⟩:=y;obtain ⟨hi1,hi2,hi3,hi4⟩:=hi;simp only at hi1 hi2 hi3 hi4;refine md [] rfl (by simp) ?_;refine Aa rfl (λh=>?_) (λh=>?_)
 ·simp at h;obtain ⟨t,ht⟩:=Am h;have hnt:=Dj hn ht;have hb:=Gq hs t;rw [Ap ht] at hi2;simp only [AA] at hi2;refine md [] rfl (by simp) ?_;refine mi rfl (c:=Al t) (λ_=>⟨by simp,by simpa using Av ht,by simp⟩) (by simp) ?_;obtain ⟨so,n,x,ps⟩:=t;refine mg [] rfl (by simp) ?_;by_cases h8:so=8
  ·subst h8;have hp:=(Cu hnt 8 n x ps rfl rfl).1;have hd:Je ds x=AP x 0 ds:=by simp [Je,hp]
   obtain ⟨k,d,k1,k2,k3⟩:=Gp x ds 0 hp;have hk:k<s.length:=by rw [hs.len];exact (List.getElem?_eq_some_iff.1 k2).1
   have ho:Eu ds s (.mk 8 n x ps)=s.getD k 0:=by simp [Eu,hd,k1]
   rw [ho] at hi2 hb;refine Aa rfl (λh=>?_) (λh=>by simp at h);refine md [] rfl (by simp) ?_;refine mi rfl (c:=Al (.mk 8 n x ps)) (λ_=>⟨by simp,by simpa using Av ht,by simp⟩) (by simp) ?_;refine mg [] rfl (by simp) ?_;refine Ac rfl (λ_=>hP x) (by simp) ?_;refine mg [] rfl (by simp) ?_;refine mi rfl (c:=[.int .i64 (s.getD k 0)]) (λ_=>⟨hp,by rw [k1];simpa using Eo hk,rfl⟩) (by simp) ?_;refine mg [] rfl (by simp;rfl) ?_;refine Aa rfl (λh=>?_) (λh=>?_)
   ·refine md [] rfl (by simp) ?_;rw [if_pos (by simpa using h)] at hi2;rw [hi2];exact Ab ⟨_,rfl,tV rfl,trivial⟩
   ·refine md [] rfl (by simp) ?_;rw [if_neg (by simpa using h)] at hi2;exact Ad (ih (i+1,m+s.getD k 0) (by simp only;omega) ⟨by simp only;omega,hi2,by simp only;omega,by simp only;omega⟩) ⟨At (Bv (by simp only;omega) (by simp only;omega)),At (Bv (by omega) (by omega)),rfl,rfl,rfl,trivial⟩ ⟨rfl,trivial⟩ rfl
  ·have ho:Eu ds s (.mk so n x ps)=1:=by simp [Eu,h8]
   rw [ho] at hi2;refine Aa rfl (λh=>absurd (by simpa using h) h8) (λh=>?_);refine md [] rfl (by simp) ?_;refine Aa rfl (λh=>by simp at h) (λh=>?_);refine md [] rfl (by simp) ?_;rw [if_neg (by omega)] at hi2;exact Ad (ih (i+1,m+1) (by simp only;omega) ⟨by simp only;omega,hi2,by simp only;omega,by simp only;omega⟩) ⟨At (Bv (by simp only;omega) (by simp only;omega)),At (Bv (by omega) (by omega)),rfl,rfl,rfl,trivial⟩ ⟨rfl,trivial⟩ rfl
 ·simp at h;refine Ar rfl ?_;refine md [] rfl (by simp) ?_;rw [hi2,List.drop_eq_nil_of_le (by omega)];exact Ab ⟨_,rfl,tV rfl,trivial⟩
set_option maxHeartbeats 2000000 in
theorem Yb (c:Cse) (ho:OkW c.datas):Ak Tryz.prog 203 [.agg (dCse c)] (.sl (AB (Ds c.datas))):=by
 obtain ⟨ds,⟨c1,c2,c3,c4⟩,rows⟩:=c;have hT:=λs hs args hn ha=>QP ⟨ds,.mk c1 c2 c3 c4,rows⟩ s hs ho.d4 args hn ha;have h4:=ho.d4;have hl2:=ho.lim;have hN:=ho.okd.named;simp only at h4 hl2 hN hT ⊢;have hl3:∀d∈ds,∀c∈d.cons,c.args.length<=3:=λd hd=>(hl2 d hd).2;have hnm:∀d∈ds,∀c∈d.cons,Bh ds c.args=true:=by simpa [BF] using hN
 refine Ae Ah Tryz.func203 (by decide +kernel) rfl [1,2,3] rfl rfl ?_;refine mg [] rfl (by simp) ?_;refine Mt Ah rfl rfl (by simp) (by simp;omega) (by simp [maxLen];omega) rfl ?_;have er:(List.replicate ((ds.map BU).length:Int).toNat [V.int .i64 0])=AB (List.replicate ds.length 0):=by rw [<- J0];simp
 simp only [Bt];rw [er,rowI_length,List.length_replicate];refine mg [] rfl (by simp) ?_;refine Aj (λy:Nat×List Int×Bool=>[(4,.imm (.bool y.2.2)),(3,.own 2 ds.length),(1,.ref 1 0)])
  (λy=>[(1,some (.immb 29 6 (dCse ⟨ds,.mk c1 c2 c3 c4,rows⟩))),(2,some (.row 3 1 (AB y.2.1)))]) [3] (λy=>if y.2.2 then y.1+1 else 0)
  (λy=>FT ds y.2.1/\if y.2.2 then Ds ds=IU ds y.1 y.2.1/\Is y.2.1<y.1 else Ds ds=y.2.1) (2000,List.replicate ds.length 0,true)
  ⟨Jx ds,by simp only [if_true];exact ⟨rfl,by have:=S9 (List.replicate ds.length 0) (λx hx=>by rw [List.eq_of_mem_replicate hx];omega);simp at this;omega⟩⟩ ⟨rfl,rfl,rfl,trivial⟩ ⟨rfl,rfl,trivial⟩ rfl λy hi ih=>?_
 obtain ⟨f,s,ch⟩:=y;obtain ⟨hs,hi⟩:=hi;simp only at hs hi;refine md [] rfl (by simp) ?_;cases ch with
 | false =>
  simp only [Bool.false_eq_true,if_false] at hi;refine Aa rfl (λh=>by simp at h) (λh=>?_);refine Ar rfl ?_;refine AZ 2 rfl ?_;refine md [] rfl (by simp) ?_;rw [hi];exact Ab ⟨_,rfl,tV rfl,trivial⟩
 | true =>
 simp only [if_true] at hi;refine Aa rfl (λh=>?_) (λh=>by simp at h);clear h;obtain ⟨hi1,hi2⟩:=hi;obtain ⟨f,rfl⟩:∃g,f=g+1:=⟨f-1,by omega⟩
 refine md [] rfl (by simp) ?_;refine Aj (λy:Nat×List Int×Bool=>[(5,.imm (.int .i64 y.1)),(4,.imm (.bool y.2.2)),(3,.own 2 ds.length),(1,.ref 1 0)])
  (λy=>[(1,some (.immb 29 6 (dCse ⟨ds,.mk c1 c2 c3 c4,rows⟩))),(2,some (.row 3 1 (AB y.2.1)))]) [3] (λy=>ds.length-y.1)
  (λy=>y.1<=ds.length/\Cl ds (s,false) 0 ds=Cl ds y.2 y.1 (ds.drop y.1)/\FT ds y.2.1/\Is y.2.1<=Is s/\(y.2.2=true->Is y.2.1<Is s)) (0,s,false)
  ⟨Nat.zero_le _,rfl,hs,Nat.le_refl _,λh=>by cases h⟩ ⟨rfl,rfl,rfl,rfl,trivial⟩ ⟨rfl,rfl,trivial⟩ rfl λy hy jh=>?_
 obtain ⟨i,p⟩:=y;obtain ⟨hy1,hy2,hy3,hy4,hy5⟩:=hy;simp only at hy1 hy2 hy3 hy4 hy5;refine md [] rfl (by simp) ?_;refine Aa rfl (λh=>?_) (λh=>?_)
 ·simp at h;have hil:=h;obtain ⟨d,hd⟩:=Am h;have hdm:=List.mem_of_getElem? hd;rw [Ap hd] at hy2;simp only [Cl] at hy2;have hd5:=(hl2 _ hdm).1;have hd3:=hl3 _ hdm;have hdn:=hnm _ hdm;have hdg:(ds.map BU)[(i:Int).toNat]?=some (BU d):=by simpa using AQ hd
  obtain ⟨dn,dc⟩:=d;simp only at hy2 hd5 hd3 hdn;refine md [] rfl (by simp) ?_;refine Aj (λy:Nat×List Int×Bool=>[(6,.imm (.int .i64 y.1)),(5,.imm (.int .i64 i)),(4,.imm (.bool y.2.2)),(3,.own 2 ds.length),(1,.ref 1 0)])
   (λy=>[(1,some (.immb 29 6 (dCse ⟨ds,.mk c1 c2 c3 c4,rows⟩))),(2,some (.row 3 1 (AB y.2.1)))]) [3] (λy=>dc.length-y.1)
   (λy=>y.1<=dc.length/\Hl ds i p dc=Hl ds i y.2 (dc.drop y.1)/\FT ds y.2.1/\Is y.2.1<=Is s/\(y.2.2=true->Is y.2.1<Is s)) (0,p)
   ⟨Nat.zero_le _,rfl,hy3,hy4,hy5⟩ ⟨rfl,rfl,rfl,rfl,rfl,trivial⟩ ⟨rfl,rfl,trivial⟩ rfl λy hk kh=>?_
  obtain ⟨k,q⟩:=y;obtain ⟨hk1,hk2,hk3,hk4,hk5⟩:=hk;simp only at hk1 hk2 hk3 hk4 hk5;refine md [] rfl (by simp) ?_;refine mi rfl (c:=BU ⟨dn,dc⟩) (λ_=>⟨by simp,hdg,by simp⟩) (by simp) ?_;refine mg [] rfl (by simp) ?_;refine Aa rfl (λh=>?_) (λh=>?_)
  ·simp at h;obtain ⟨c,hc⟩:=Am h;have hcm:=List.mem_of_getElem? hc;rw [Ap hc] at hk2;simp only [Hl] at hk2;have hcg:(dc.map Cw)[(k:Int).toNat]?=some (Cw c):=by simpa using AQ hc
   obtain ⟨cn,ca⟩:=c;have hca3:=hd3 _ hcm;have hcan:=hdn _ hcm;simp only at hca3 hcan hk2;refine md [] rfl (by simp) ?_;refine mi rfl (c:=BU ⟨dn,dc⟩) (λ_=>⟨by simp,hdg,by simp⟩) (by simp) ?_;refine mg [] rfl (by simp) ?_;refine mi rfl (c:=Cw ⟨cn,ca⟩) (λ_=>⟨by simp,hcg,by simp⟩) (by simp) ?_;have hstep:=KM (p:=q) h4 hil hca3 hk3;have hlen:q.1.length=ds.length:=hk3.len;obtain ⟨qs,qb⟩:=q;simp only at hk3 hk4 hk5 hlen hstep;refine mg [] rfl (by simp) ?_;refine GU rfl (v:=.int .i64 (AA ds qs 1 ca)) (λ_=>hT qs hk3 ca hcan hca3) rfl (by simp) ?_;have hst:GG ds i (qs,qb) ca=if 0<AA ds qs 1 ca/\(qs.getD i 0=0\/AA ds qs 1 ca<qs.getD i 0) then (qs.set i (AA ds qs 1 ca),true) else (qs,qb):=rfl
   generalize AA ds qs 1 ca=z at *;refine mg [] rfl (by simp;rfl) ?_;refine CN Ah rfl (λ_=>⟨by simp,by simp;omega⟩) (by simp [Ag]) ?_;refine mg [] rfl (by simp [Ag]) ?_;refine Ih (e:=[.int .i64 (qs.getD i 0)]) Ah rfl (λ_=>by simpa using Eo (s:=qs) (i:=i) (by omega)) rfl (by simp [Ag]) ?_;refine mg [] rfl (by simp [Ag];try exact λa b=>⟨a,b⟩) ?_;refine CN Ah rfl (λ_=>⟨by simp,by simp;omega⟩) (by simp [Ag]) ?_;refine mg [] rfl (by simp [Ag]) ?_;refine Ih (e:=[.int .i64 (qs.getD i 0)]) Ah rfl (λ_=>by simpa using Eo (s:=qs) (i:=i) (by omega)) rfl (by simp [Ag]) ?_;refine mg [] rfl (by simp [Ag];try exact λa b=>⟨a,b⟩) ?_;by_cases hz:0<z/\(qs.getD i 0=0\/z<qs.getD i 0)
   ·rw [if_pos hz] at hst;rw [hst] at hk2 hstep;have hstep3:=hstep.2.2 rfl;refine Aa rfl (λh=>?_) (λh=>by exfalso;simp at h;grind);refine md [] rfl (by simp) ?_;refine CN Ah rfl (λ_=>⟨by simp,by simp;omega⟩) (by simp) ?_;refine mg [] rfl (by simp) ?_;refine HA Ah (e:=[.int .i64 (qs.getD i 0)]) (e':=[.int .i64 z]) rfl (by simpa using Eo (s:=qs) (i:=i) (by omega)) (by show 0+1<=1;decide) (by simp) (by simp) ?_;refine mg [] rfl (by simp) ?_;refine Ad (kh (k+1,qs.set i z,true) (by simp only;omega) ⟨by simp only;omega,hk2,hstep.1,by have:=hstep.2.1;simp only at this ⊢;omega,λ_=>?_⟩) ⟨At (Bv (by omega) (by omega)),rfl,rfl,rfl,rfl,trivial⟩ ⟨rfl,by rw [<- OG];rfl,trivial⟩ rfl
    rcases hstep3 with h | h
    ·have:=hk5 h;have:=hstep.2.1;simp only at this ⊢;omega
    ·simp only at h ⊢;omega
   ·rw [if_neg hz] at hst;rw [hst] at hk2;refine Aa rfl (λh=>by exfalso;simp at h;grind) (λh=>?_);refine md [] rfl (by simp) ?_;exact Ad (kh (k+1,qs,qb) (by simp only;omega) ⟨by simp only;omega,hk2,hk3,hk4,hk5⟩) ⟨At (Bv (by omega) (by omega)),rfl,rfl,rfl,rfl,trivial⟩ ⟨rfl,rfl,trivial⟩ rfl
  ·simp at h;refine Ar rfl ?_;refine md [] rfl (by simp) ?_;rw [List.drop_eq_nil_of_le (by omega)] at hk2;simp only [Hl] at hk2;rw [hk2] at hy2;exact Ad (jh (i+1,q) (by simp only;omega) ⟨by simp only;omega,hy2,hk3,hk4,hk5⟩) ⟨At (Bv (by omega) (by omega)),rfl,rfl,rfl,trivial⟩ ⟨rfl,rfl,trivial⟩ rfl
 ·simp at h;refine Ar rfl ?_;refine md [] rfl (by simp) ?_;rw [List.drop_eq_nil_of_le (by omega)] at hy2;simp only [Cl] at hy2;simp only [IU,hy2] at hi1;obtain ⟨ps,pb⟩:=p;cases pb with
  | true =>
   have:=hy5 rfl;exact Ad (ih (f,ps,true) (by simp) ⟨hy3,by simp only [if_true];exact ⟨by simpa using hi1,by simp only at this;omega⟩⟩) ⟨rfl,rfl,rfl,trivial⟩ ⟨rfl,rfl,trivial⟩ rfl
  | false =>
   exact Ad (ih (f,ps,false) (by simp) ⟨hy3,by simpa using hi1⟩) ⟨rfl,rfl,rfl,trivial⟩ ⟨rfl,rfl,trivial⟩ rfl
theorem aY:∀(n:Nat) (l:List Int),(∀i:Nat,i<n->(i:Int)∈l)->n<=l.length
 | 0,_,_=>Nat.zero_le _
 | n+1,l,h=>by
  have hm:=h n (by omega);have h1:=aY n (l.erase (n:Int)) λi hi=>(List.mem_erase_of_ne (by omega)).2 (h i (by omega));have h2:=List.length_erase_of_mem hm;have h3:=List.length_pos_of_mem hm;omega
def nT:Ty->Int
 | .mk _ n _ _=>n
theorem eY {nt:List Ty} {i:Int} (h:B1 nt (.mk 1 i [] [])=true):i∈nt.map nT:=by
 simp only [B1,List.any_eq_true] at h;obtain ⟨⟨a,b,c,d⟩,h1,h2⟩:=h;simp only [AK,Bool.and_eq_true,beq_iff_eq] at h2;exact List.mem_map.2 ⟨_,h1,by simp only [nT];exact h2.1.2⟩
theorem Ks {nt:List Ty} {i:Nat} (h:∀j:Nat,j<i->B1 nt (.mk 1 j [] [])=true):i<=nt.length:=by
 have:=aY i (nt.map nT) λj hj=>eY (h j hj);simpa using this
theorem Rx {nt:List Ty} {i:Nat} (hi:i<=nt.length) (h:∀j:Nat,j<i->B1 nt (.mk 1 j [] [])=true):Ng nt (nt.length-i) i =
  if B1 nt (.mk 1 i [] [])=false then .mk 1 i [] [] else if B1 nt (.mk 1 (0-i) [] [])=false then .mk 1 (0-i) [] [] else Ng nt (nt.length-(i+1)) ((i+1:Nat):Int):=by
 by_cases hl:i=nt.length
 ·subst hl;have hf:B1 nt (.mk 1 nt.length [] [])=false:=by
   cases hb:B1 nt (.mk 1 nt.length [] []) with
   | false=>rfl
   | true =>
    have:=Ks (nt:=nt) (i:=nt.length+1) λj hj=>by
     by_cases e:j=nt.length
     ·rw [e];exact hb
     ·exact h j (by omega)
    omega
  rw [Nat.sub_self,if_pos hf];rfl
 ·obtain ⟨k,hk⟩:∃k,nt.length-i=k+1:=⟨nt.length-i-1,by omega⟩
  rw [hk,show nt.length-(i+1)=k by omega];rfl
set_option maxHeartbeats 1000000 in
theorem TS (nt:List Ty) (hl:nt.length<=1000000):Ak Tryz.prog 167 [.sl (CC nt)] (.agg (Al (Cy nt))):=by
 have hA:=λh=>Ut nt h;refine Ae Ah Tryz.func167 (by decide +kernel) rfl [1,2,3] rfl rfl ?_;refine mg [] rfl (by simp) ?_;refine Aj (λi:Nat=>[(3,.imm (.int .i64 i)),(2,.ref 1 0),(0,.imm (.sl (CC nt)))]) (λ_=>[(1,some (.cells 35 4 [.imm (.int .i64 0),.imm (.int .i64 0),.imm (.str []),.nils]))]) [2,3] (λi=>nt.length+1-i)
  (λi=>i<=nt.length/\Cy nt=Ng nt (nt.length-i) i/\∀j:Nat,j<i->B1 nt (.mk 1 j [] [])=true) 0 ⟨Nat.zero_le _,rfl,λj h=>by omega⟩ ⟨rfl,rfl,rfl,trivial⟩ ⟨rfl,trivial⟩ rfl λi hi ih=>?_
 obtain ⟨hi1,hi2,hi3⟩:=hi;rw [Rx hi1 hi3] at hi2;have h1:=hA (.mk 1 i [] []);have h2:=hA (.mk 1 (0-i) [] []);have hih:B1 nt (.mk 1 i [] [])=true->B1 nt (.mk 1 (0-i) [] [])=true->_:=λe1 e2=>ih (i+1) (by omega) ⟨Ks (i:=i+1) (λj hj=>by
   by_cases e:j=i
   ·rw [e];exact e1
   ·exact hi3 j (by omega)),by rw [hi2,e1,e2];simp,λj hj=>by
   by_cases e:j=i
   ·rw [e];exact e1
   ·exact hi3 j (by omega)⟩
 generalize Cy nt=R at *;generalize B1 nt (.mk 1 i [] [])=b1 at *;generalize B1 nt (.mk 1 (0-i) [] [])=b2 at *;clear ih hi3;refine md [] rfl (by simp) ?_;refine Ac rfl (λ_=>h1) (by simp) ?_;refine mg [] rfl (by simp) ?_;cases b1 with
 | false =>
  refine Aa rfl (λh=>?_) (λh=>by simp at h);refine md [] rfl (by simp) ?_;rw [hi2];exact Ab ⟨_,rfl,tV rfl,trivial⟩
 | true =>
 refine Aa rfl (λh=>by simp at h) (λh=>?_);have hw:IntKind.i64.wrap (0-(i:Int))=0-i:=Bv (by omega) (by omega);refine md [] rfl (by simp) ?_;refine Ac rfl (v:=.bool b2) (λ_=>by rw [hw];exact h2) (by simp) ?_;refine mg [] rfl (by simp) ?_;cases b2 with
 | false =>
  refine Aa rfl (λh=>?_) (λh=>by simp at h);refine md [] rfl (by simp) ?_;rw [hi2];refine Ab ⟨_,rfl,tV ?_,trivial⟩;rw [hw];rfl
 | true =>
  refine Aa rfl (λh=>by simp at h) (λh=>?_);refine md [] rfl (by simp) ?_;exact Ad (hih rfl rfl) ⟨At (Bv (by omega) (by omega)),rfl,rfl,trivial⟩ ⟨rfl,trivial⟩ rfl
def CI:Option Ty->List V
 | none=>.bool false::Al zT
 | some v=>.bool true::Al v
@[simp] theorem someR_length (r:Option Ty):(CI r).length=5:=by cases r <;> simp [CI]
theorem X6 {s:Str}:∀{l:List Cd} {i k:Nat} {c:Cd},l[k]?=some c->c.name=s->(∀j d,j<k->l[j]?=some d->d.name≠s)->CD s i l=(c,((i+k:Nat):Int))
 | [],_,k,c,h,_,_=>by simp at h
 | d::r,i,0,c,h,hs,_=>by
  simp at h;subst h;simp [CD,hs]
 | d::r,i,k+1,c,h,hs,hn=>by
  have:=hn 0 d (by omega) rfl;rw [CD,if_neg this,X6 (k:=k) (by simpa using h) hs λj d' hj hd=>hn (j+1) d' (by omega) (by simpa using hd)];congr 2;omega
theorem W6 {ds:List Dt} (h:Bi (BO ds)=true) {d:Dt} (hd:d∈ds):(d.cons.map Cd.name).Nodup:=by
 have hn:=N0.1 h;obtain ⟨a,b,rfl⟩:=List.append_of_mem hd;simp only [BO,List.flatMap_append,List.flatMap_cons] at hn;exact (List.nodup_append.1 (List.nodup_append.1 hn).2.1).1
theorem fN {ds:List Dt} (ho:OkW ds) {n:Int} {x:Str} {ps:List Ty} {d:Dt} (hd:ds[(AP x 0 ds).toNat]?=some d) {k:Nat} {c:Cd} (hc:d.cons[k]?=some c):B6 ds (.mk 8 n x ps) c.name=(c,(k:Int)):=by
 have hn:=W6 ho.dif (List.mem_of_getElem? hd);simp only [B6,if_true,hd];rw [X6 hc rfl λj e hj he h=>?_]
 ·simp
 ·have hlt:=(List.getElem?_eq_some_iff.1 hc).1;have h1:(d.cons.map Cd.name)[j]?=some c.name:=by simp [he,h]
  have h2:(d.cons.map Cd.name)[k]?=some c.name:=by simp [hc]
  have:=(List.getElem?_inj (by simpa using by omega) hn).1 (h1.trans h2.symm);omega
theorem Qa {ds:List Dt} (ho:OkW ds) {n:Int} {x:Str} {ps:List Ty} {d:Dt} (hd:ds[(AP x 0 ds).toNat]?=some d) {k:Nat} {c:Cd} (hc:d.cons[k]?=some c):Bj ds (.mk 8 n x ps) c.name=(c.args,true):=by
 simp [Bj,fN ho hd hc]
theorem Uh {ds:List Dt} (ho:OkW ds):∀(f:Nat) (s:List Int),FT ds s->FT ds (IU ds f s)
 | 0,s,h=>h
 | f+1,s,h=>by
  have:=(LN ho.d4 (l:=ds) (p:=(s,false)) (i:=0) (by simp) (λd hd=>(ho.lim d hd).2) h).1;simp only [IU];cases (Cl ds (s,false) 0 ds).2
  ·exact this
  ·exact Uh ho f _ this
theorem I5 {ds:List Dt} (ho:OkW ds):FT ds (Ds ds):=Uh ho _ _ (Jx ds)
def MZ (dc:List Cd) (b:Option (Nat×Int)):Option (Ty×Int):=b.map λp=>(De (dc[p.1]?.getD dX),p.2)
def Zq:Option (Nat×Int)->Int
 | none=>-1
 | some p=>p.1
def Jp:Option (Nat×Int)->Int
 | none=>0
 | some p=>p.2
def Y1 (b:Option (Nat×Int)) (i:Nat) (z:Int) (hb:Bool):Option (Nat×Int):=if 0<z/\hb=false/\(Zq b<0\/z<Jp b) then some (i,z) else b
theorem Yy {dc:List Cd} {i:Nat} {e:Cd} (he:dc[i]?=some e) (b:Option (Nat×Int)) (z:Int) (hb:Bool) :
  MZ dc (Y1 b i z hb)=if 0<z/\hb=false/\D2 (MZ dc b) z=true then some (De e,z) else MZ dc b:=by
 by_cases h:0<z/\hb=false/\(Zq b<0\/z<Jp b)
 ·rw [Y1,if_pos h,if_pos]
  ·simp [MZ,he]
  ·refine ⟨h.1,h.2.1,?_⟩;have h3:=h.2.2;cases b with
   | none=>rfl
   | some p=>simp only [Zq,Jp] at h3;simp only [MZ,Option.map_some];exact decide_eq_true (by omega)
 ·rw [Y1,if_neg h,if_neg];intro hh;apply h;refine ⟨hh.1,hh.2.1,?_⟩;have h3:=hh.2.2;cases b with
  | none=>left;simp [Zq]
  | some p=>simp only [MZ,Option.map_some,D2] at h3;right;simpa [Jp] using h3
set_option maxHeartbeats 2000000 in
theorem Sn (c:Cse) (m:Mi) (ho:OkW c.datas) (hn:AD c.datas m.ty=true) (h8:Ba m.ty=8) (R:Ty->Option Ty)
  (hR:∀h,A8 c.datas m=some h->Ak Tryz.prog 121 [.agg (dCse c),.agg (Im (AY c.datas m h))] (.agg (CI (R h)))) :
  Ak Tryz.prog 169 [.agg (dCse c),.agg (Im m)] (.agg (CI (match A8 c.datas m with | none=>none | some h=>R h))):=by
 have hZ:=Yb c ho;have hT:=λargs hn ha=>QP c (Ds c.datas) (I5 ho) ho.d4 args hn ha;have hK:=λh=>Mo c m h ho hn;have hA:=λh=>Ut m.nt h;obtain ⟨ds,⟨c1,c2,c3,c4⟩,rows⟩:=c;obtain ⟨⟨so,n,x,ps⟩,nt,⟨f,hd2,hd3,hd4⟩,ks⟩:=m;simp only [Mi.ty,Mi.nt,Ba] at *;subst h8;have hP:=ID ds x;obtain ⟨hp,d,hd⟩:=Cu hn 8 n x ps rfl rfl;have hdm:=List.mem_of_getElem? hd;have hlim:=ho.lim d hdm;have hnm:∀c∈d.cons,Bh ds c.args=true:=by
  have:=ho.okd.named;simp only [BF,List.all_eq_true] at this;exact this d hdm
 have hH:A9 ds (.mk 8 n x ps)=d.cons.map De:=by
  rw [show A9 ds (.mk 8 n x ps)=(match ds[(AP x 0 ds).toNat]? with | some d=>d.cons.map λc=>Ty.mk 4 0 c.name [] | none=>[]) from rfl,hd];rfl
 have hS:A8 ds (.mk (.mk 8 n x ps) nt (.mk f hd2 hd3 hd4) ks)=(Cb ds (.mk (.mk 8 n x ps) nt (.mk f hd2 hd3 hd4) ks) none (d.cons.map De)).map (·.1):=by rw [<- hH];rfl
 have hStep:∀(b:Option (Ty×Int)) (i:Nat) (e:Cd),d.cons[i]?=some e->Cb ds (.mk (.mk 8 n x ps) nt (.mk f hd2 hd3 hd4) ks) b ((d.cons.map De).drop i) =
   Cb ds (.mk (.mk 8 n x ps) nt (.mk f hd2 hd3 hd4) ks) (if 0<AA ds (Ds ds) 1 e.args/\B1 nt (De e)=false/\D2 b (AA ds (Ds ds) 1 e.args)=true then some (De e,AA ds (Ds ds) 1 e.args) else b) ((d.cons.map De).drop (i+1)):=by
  intro b i e he;rw [Ap (AQ he)];simp only [Cb,Bl,De,Ba,E4,if_true,Mi.ty,Mi.nt,Qa ho hd he];rfl
 rw [hS] at hR ⊢;clear hS hH hn;have hsb:=λargs=>El (I5 ho) args 1 (by omega);have hszl:(Ds ds).length<=4:=by rw [(I5 ho).len];exact ho.d4
 generalize Ds ds=sz at *;generalize hM:Mi.mk (.mk 8 n x ps) nt (.mk f hd2 hd3 hd4) ks=M at *;have hMd:Im M=Al (.mk 8 n x ps)++[.sl (CC nt)]++Iw (.mk f hd2 hd3 hd4)++[.sl (FE ks)]:=by rw [<- hM];rfl
 rw [hMd];generalize hrs:(Cb ds M none (d.cons.map De))=rs at *;obtain ⟨dn,dc⟩:=d;simp only at hlim hnm hrs hStep;refine Ae Ah Tryz.func169 (by decide +kernel) rfl [1,2,3,4,5] rfl rfl ?_;refine mg [] rfl (by simp) ?_;refine Ac rfl (λ_=>hZ) (by simp) ?_;refine mg [] rfl (by simp) ?_;refine Ac rfl (λ_=>hP) (by simp) ?_;refine mg [] rfl (by simp) ?_;refine mi rfl (c:=BU ⟨dn,dc⟩) (λ_=>⟨hp,by simpa using AQ hd,by simp⟩) (by simp) ?_;refine mg [] rfl (by simp;rfl) ?_;refine Aj (λy:Nat×Option (Nat×Int)=>[(9,.imm (.int .i64 y.1)),(8,.imm (.int .i64 (Jp y.2))),(7,.imm (.int .i64 (Zq y.2))),(6,.ref 4 0),(5,.imm (.sl (AB sz))),(4,.ref 3 0),(3,.ref 2 0),(2,.ref 1 0)])
  (λ_=>[(1,some (.immb 29 6 (dCse ⟨ds,.mk c1 c2 c3 c4,rows⟩))),(2,some (.immb 122 10 (Al (.mk 8 n x ps)++[V.sl (CC nt)]++Iw (.mk f hd2 hd3 hd4)++[V.sl (FE ks)]))),
   (3,some (.cells 46 5 [.imm (.bool false),.imm (.int .i64 0),.imm (.int .i64 0),.imm (.str []),.nils])),(4,some (.immb 87 2 (BU ⟨dn,dc⟩)))]) [5] (λy=>dc.length-y.1)
  (λy=>y.1<=dc.length/\rs=Cb ds M (MZ dc y.2) ((dc.map De).drop y.1)/\(∀p,y.2=some p->p.1<dc.length/\0<p.2/\p.2<=1000000)) (0,none)
  ⟨Nat.zero_le _,hrs.symm,(λp h=>by cases h)⟩ ⟨rfl,rfl,rfl,rfl,rfl,rfl,rfl,rfl,trivial⟩ ⟨rfl,rfl,rfl,rfl,trivial⟩ rfl λy hi ih=>?_
 obtain ⟨i,b⟩:=y;obtain ⟨hi1,hi2,hi3⟩:=hi;simp only at hi1 hi2 hi3;refine md [] rfl (by simp) ?_;refine Aa rfl (λh=>?_) (λh=>?_)
 ·simp at h;obtain ⟨e,he⟩:=Am h;have hem:=List.mem_of_getElem? he;have he3:=hlim.2 e hem;have hen:=hnm e hem;have hbd:=hsb e.args;rw [hStep _ i e he] at hi2;have hTe:=hT e.args hen he3;have hAe:=hA (De e);have heg:(dc.map Cw)[(i:Int).toNat]?=some (Cw e):=by simpa using AQ he
  have hpk:=λz hb=>Yy he b z hb;have hz8:AA ds sz 1 e.args<=1000000:=by
   have h4:=Yx (n:=Mc sz) (by have:=IK sz;have:=hszl;omega);have hbd:=hbd.2;generalize 4 ^ Mc sz=M4 at *;have:(e.args.length:Int)*(M4:Int)<=3*256:=Int.mul_le_mul (by omega) (by omega) (by omega) (by omega);omega
  generalize hz:AA ds sz 1 e.args=z at *;generalize B1 nt (De e)=hb at *;obtain ⟨en,ea⟩:=e;refine md [] rfl (by simp) ?_;refine mi rfl (c:=Cw ⟨en,ea⟩) (λ_=>⟨by simp,heg,by simp⟩) (by simp) ?_;refine mg [] rfl (by simp) ?_;refine Ac rfl (λ_=>hTe) (by simp) ?_;refine mg [] rfl (by simp;rfl) ?_;rw [<- hpk] at hi2;have hgo:=ih (i+1,Y1 b i z hb) (by simp only;omega) ⟨by simp only;omega,hi2,by
    intro p;simp only [Y1]
    split
    ·intro hp;cases hp;exact ⟨h,by simp only;omega,hz8⟩
    ·exact hi3 p⟩
  have hab : -1<=Zq b/\Zq b<=1000000/\0<=Jp b/\Jp b<=1000000:=by
   cases b with
   | none=>simp [Zq,Jp]
   | some p=>have:=hi3 p rfl;simp only [Zq,Jp] at *;omega
  have hnew:Y1 b i z hb=if 0<z/\hb=false/\(Zq b<0\/z<Jp b) then some (i,z) else b:=rfl
  refine mi rfl (c:=Cw ⟨en,ea⟩) (λ_=>⟨by simp,heg,by simp⟩) (by simp [Ag]) ?_;refine mg [] rfl (by simp [Ag]) ?_;refine kG Ah rfl (by simp) (λ_=>rfl) (λ_=>by simp) (by simp [YX,A7,Ag,Op.operands,C9,lk,TJ]) ?_;refine mg [] rfl (by simp [Ag]) ?_;refine Ac rfl (λ_=>hAe) (by simp [Ag]) ?_;refine mg [] rfl (by simp [Ag];exact ⟨rfl,λa b c=>⟨⟨a,b⟩,c⟩⟩) ?_;by_cases hc:0<z/\hb=false/\(Zq b<0\/z<Jp b)
  ·rw [if_pos hc] at hnew;rw [hnew] at hgo;refine Aa rfl (λh=>?_) (λh=>by exfalso;simp at h;grind);refine md [] rfl (by simp) ?_;exact Ad hgo ⟨At (Bv (by simp only;omega) (by simp only;omega)),rfl,rfl,rfl,rfl,rfl,rfl,rfl,trivial⟩ ⟨rfl,rfl,rfl,rfl,trivial⟩ rfl
  ·rw [if_neg hc] at hnew;rw [hnew] at hgo;refine Aa rfl (λh=>by exfalso;simp at h;grind) (λh=>?_);refine md [] rfl (by simp) ?_;exact Ad hgo ⟨At (Bv (by simp only;omega) (by simp only;omega)),rfl,rfl,rfl,rfl,rfl,rfl,rfl,trivial⟩ ⟨rfl,rfl,rfl,rfl,trivial⟩ rfl
 ·simp at h;refine Ar rfl ?_;rw [List.drop_eq_nil_of_le (by simpa using by omega)] at hi2;simp only [Cb] at hi2;subst hi2;cases b with
  | none =>
   refine md [] rfl (by simp) ?_;refine Aa rfl (λh=>?_) (λh=>by simp [Zq] at h);refine md [] rfl (by simp) ?_;exact Ab ⟨_,rfl,tV rfl,trivial⟩
  | some p =>
   obtain ⟨q,z⟩:=p;have hq:=(hi3 _ rfl).1;simp only at hq;obtain ⟨e,he⟩:=Am hq;have heg:(dc.map Cw)[(q:Int).toNat]?=some (Cw e):=by simpa using AQ he
   simp only [MZ,Option.map_some,he,Option.getD_some] at hR ⊢;have hRe:=hR _ rfl;have hKe:=hK (De e);rw [hMd] at hKe;generalize AY ds M (De e)=Kn at *;generalize R (De e)=Re at *;obtain ⟨en,ea⟩:=e;refine md [] rfl (by simp) ?_;refine Aa rfl (λh=>by exfalso;have h:decide ((q:Int)<0)=true:=h;have h:=of_decide_eq_true h;omega) (λh=>?_);refine md [] rfl (by simp) ?_;refine mi rfl (c:=Cw ⟨en,ea⟩) (λ_=>⟨by simp [Zq],heg,by simp⟩) (by simp) ?_;refine mg [] rfl (by simp) ?_;refine eZ rfl rfl (λ_=>hKe) (by simp) rfl ?_;refine mg [] rfl (by simp) ?_;refine Ac rfl (λ_=>hRe) (by simp) ?_;refine mg [] rfl (by simp;rfl) ?_;exact Ab ⟨_,rfl,tV rfl,trivial⟩
def DB (nt:List Ty):List Ty->Option Ty
 | []=>none
 | h::r=>if B1 nt h=false then some h else DB nt r
theorem Rm {ds:List Dt} {m:Mi}:∀{l:List Ty},(∀h∈l,Ba h≠4)->(∀b:Ty×Int,b.2=1->Cb ds m (some b) l=some b)/\Cb ds m none l=(DB m.nt l).map λh=>(h,1)
 | [],_=>⟨λb _=>rfl,rfl⟩
 | h::r,hl=>by
  obtain ⟨ih1,ih2⟩:=Rm (l:=r) (λx hx=>hl x (by simp [hx]));have hf:¬Ba h=4:=hl h (by simp);refine ⟨λb hb=>?_,?_⟩
  ·simp only [Cb,Bl,if_neg hf];rw [if_neg (λhh=>by have:=hh.2.2;simp [D2,hb] at this)];exact ih1 b hb
  ·simp only [Cb,Bl,if_neg hf,DB];by_cases hh:B1 m.nt h=false
   ·rw [if_pos ⟨by omega,hh,rfl⟩,if_pos hh,ih1 _ rfl];rfl
   ·rw [if_neg (λx=>hh x.2.1),if_neg hh,ih2]
theorem Nn {g:Mi->Option (Option Ty)} {k:Mi} {r:List Mi} {o:Option (List Ty)} (h:B4 g (k::r)=some o):∃v,g k=some v/\(match v with
  | none=>o=none
  | some x=>∃q,B4 g r=some q/\o=q.map (x :: ·)):=by
 simp only [B4] at h;cases hk:g k with
 | none=>simp [hk] at h
 | some v =>
  cases v with
  | none=>simp only [hk] at h;exact ⟨none,rfl,(Option.some.inj h).symm⟩
  | some x =>
   simp only [hk] at h;cases hr:B4 g r with
   | none=>simp [hr] at h
   | some q =>
    cases q with
    | none=>simp only [hr] at h;exact ⟨some x,rfl,none,rfl,(Option.some.inj h).symm⟩
    | some l=>simp only [hr] at h;exact ⟨some x,rfl,some l,rfl,(Option.some.inj h).symm⟩
theorem Ln {ds:List Dt} {f:Nat} {m:Mi} {r:Option Ty} (h:Bc ds (f+1) m=some r) (hf:Ba m.hd≠0):∃o,B4 (Bc ds f) m.ks=some o/\r=o.map (DT m.hd):=by
 simp only [Bc,if_neg hf] at h;cases hl:B4 (Bc ds f) m.ks with
 | none=>simp [hl] at h
 | some o=>simp only [hl,Option.map_some] at h;exact ⟨o,rfl,(Option.some.inj h).symm⟩
theorem M7 {ds:List Dt} {t:Ty} {s:Str} (h:Ba t≠8):Bj ds t s=([],false):=by
 obtain ⟨so,n,x,ps⟩:=t;simp only [Ba] at h;simp [Bj,B6,h]
theorem bR {c:Prop} [Decidable c] {α:Type} {a p:α} {b:Option α} (h:(if c then some a else b)=some p):a=p\/b=some p:=by
 by_cases hc:c
 ·rw [if_pos hc] at h;exact .inl (Option.some.inj h)
 ·rw [if_neg hc] at h;exact .inr h
theorem Rn {ds:List Dt} {m:Mi}:∀{l:List Ty} {b:Option (Ty×Int)} {p:Ty×Int},Cb ds m b l=some p->p.1∈l\/b=some p
 | [],b,p,h=>.inr h
 | x::r,b,p,h=>by
  simp only [Cb] at h;rcases Rn h with h | h
  ·exact .inl (by simp [h])
  ·rcases bR h with h | h
   ·subst h;exact .inl (by simp)
   ·exact .inr h
theorem Hx {ds:List Dt} {m:Mi} {y:Ty} (h:A8 ds m=some y):y∈A9 ds m.ty:=by
 simp only [A8,Option.map_eq_some_iff] at h;obtain ⟨p,hp,rfl⟩:=h;rcases Rn hp with h | h
 ·exact h
 ·cases h
theorem YB {ds:List Dt} {f:Nat} {m:Mi} {r:Option Ty} (h:Bc ds (f+1) m=some r) (hf:Ba m.hd=0) :
  (Ba m.ty=1->r=some (Cy m.nt))/\(Ba m.ty=4\/Ba m.ty=5\/Ba m.ty=6\/Ba m.ty=7->r=some (.mk 5 0 [] [])) /\
  (Ba m.ty=2\/Ba m.ty=3->r=DB m.nt (A9 ds m.ty))/\(Ba m.ty=8->match A8 ds m with
   | none=>r=none
   | some h=>Bc ds (f+1) (AY ds m h)=some r):=by
 simp only [Bc,if_pos hf] at h;refine ⟨λe=>?_,λe=>?_,λe=>?_,λe=>?_⟩
 ·rw [if_pos e] at h;exact (Option.some.inj h).symm
 ·rw [if_neg (by omega),if_pos e] at h;exact (Option.some.inj h).symm
 ·rw [if_neg (by omega),if_neg (by omega)] at h;have hh:∀x∈A9 ds m.ty,Ba x≠4/\DT x []=x:=λx hx=>by
   revert hx e;generalize m.ty=t;obtain ⟨so,n,x0,ps⟩:=t;simp only [Ba,A9];rintro (rfl | rfl) hx
   ·rcases List.mem_cons.1 hx with rfl | hx
    ·exact ⟨by simp [Ba],rfl⟩
    ·rw [List.mem_singleton.1 hx];exact ⟨by simp [Ba],rfl⟩
   ·rw [List.mem_singleton.1 hx];exact ⟨by simp [Ba],rfl⟩
  have hp:=(Rm (ds:=ds) (m:=m) (l:=A9 ds m.ty) (λx hx=>(hh x hx).1)).2;have hs:A8 ds m=DB m.nt (A9 ds m.ty):=by
   simp only [A8,hp];cases DB m.nt (A9 ds m.ty) <;> rfl
  have hm:∀(l:List Ty) (y:Ty),DB m.nt l=some y->y∈l:=by
   intro l
   induction l with
   | nil=>intro y hy;simp [DB] at hy
   | cons z q ih =>
    intro y hy;simp only [DB] at hy
    split at hy
    ·cases hy;simp
    ·exact List.mem_cons_of_mem _ (ih y hy)
  rw [hs] at h;cases hq:DB m.nt (A9 ds m.ty) with
  | none=>simp only [hq] at h;exact (Option.some.inj h).symm
  | some y =>
   simp only [hq,AY,Mi.ks,M7 (ds:=ds) (t:=m.ty) (s:=E4 y) (by omega),List.map_nil,B4,Option.map_some] at h;rw [(hh y (hm _ y hq)).2] at h;exact (Option.some.inj h).symm
 ·rw [if_neg (by omega),if_neg (by omega)] at h;cases hq:A8 ds m with
  | none=>simp only [hq] at h;exact (Option.some.inj h).symm
  | some y =>
   simp only [hq] at h ⊢;have:Ba (AY ds m y).hd≠0:=by
    simp only [AY,Mi.hd];have:y∈A9 ds m.ty:=Hx hq;exact (BL this).2
   simp only [Bc,if_neg this];exact h
set_option maxHeartbeats 2000000 in
theorem SD (c:Cse) (m:Mi) (g:Mi->Option (Option Ty)) (o:Option (List Ty)) (h1:B4 g m.ks=some o) (hf:Ba m.hd≠0) (hlk:m.ks.length<=3)
  (ihk:∀k v,k∈m.ks->g k=some v->Ak Tryz.prog 121 [.agg (dCse c),.agg (Im k)] (.agg (CI v))) :
  Ak Tryz.prog 121 [.agg (dCse c),.agg (Im m)] (.agg (CI (o.map (DT m.hd)))):=by
 obtain ⟨ds,⟨c1,c2,c3,c4⟩,rows⟩:=c;obtain ⟨⟨so,n,x,ps⟩,nt,⟨a,b,t,d⟩,ks⟩:=m;simp only [Mi.hd,Mi.ks,Ba] at *;refine Ae Ah Tryz.func121 (by decide +kernel) rfl [1,2,3,4,5,6,7] rfl rfl ?_;refine mg [] rfl (by simp) ?_;refine Aa rfl (λh=>?_) (λh=>absurd (by simpa using h) hf);simp only [Im,Iw,if_neg hf];refine md [] rfl (by simp) ?_;refine N2 (e:=35) (sz:=4) 4 5 [.imm (.int .i64 a),.imm (.int .i64 b),.imm (.str t),.own 5 0] (by decide) rfl (by simp [jZ]) ?_;have el:∀(l:List Ty) (v:Ty),Bg (l++[v])=Bg l++[Al v]:=λl v=>by rw [Jk];rfl
 refine Aj (λy:Nat×List Ty=>[(6,.imm (.int .i64 y.1)),(5,.ref 4 0),(4,.ref 3 0),(3,.ref 2 0),(2,.ref 1 0)])
  (λy=>[(1,some (.immb 29 6 (dCse ⟨ds,.mk c1 c2 c3 c4,rows⟩))),(2,some (.immb 122 10 (Al (.mk so n x ps)++[V.sl (CC nt)]++[V.int .i64 a,V.int .i64 b,V.str t,V.nilsl]++[V.sl (FE ks)]))),
   (3,some (.cells 46 5 [.imm (.bool false),.imm (.int .i64 0),.imm (.int .i64 0),.imm (.str []),.nils])),
   (4,some (.cells 35 4 [.imm (.int .i64 a),.imm (.int .i64 b),.imm (.str t),.own 5 (Bg y.2).length])),(5,some (.row 35 4 (Bg y.2)))]) [6,7] (λy=>ks.length-y.1)
  (λy=>y.1<=ks.length/\y.2.length=y.1/\∃q,B4 g (ks.drop y.1)=some q/\o=q.map (y.2 ++ ·)) (0,[])
  ⟨Nat.zero_le _,rfl,o,h1,by cases o <;> simp⟩ ⟨rfl,rfl,rfl,rfl,rfl,trivial⟩ ⟨rfl,rfl,rfl,rfl,rfl,trivial⟩ rfl λy hi jh=>?_
 obtain ⟨i,vs⟩:=y;obtain ⟨hi1,hi2,q,hi3,hi4⟩:=hi;simp only at hi1 hi2 hi3 hi4;refine md [] rfl (by simp) ?_;refine Aa rfl (λh=>?_) (λh=>?_)
 ·simp at h;obtain ⟨k,hk⟩:=Am h;rw [Ap hk] at hi3;obtain ⟨v,g1,g2⟩:=Nn hi3;have hc:=ihk k v (List.mem_of_getElem? hk) g1;refine md [] rfl (by simp) ?_;refine mi rfl (c:=Im k) (λ_=>⟨by simp,by simpa using PK hk,by simp⟩) (by simp) ?_;refine mg [] rfl (by simp) ?_;refine Ac rfl (λ_=>hc) (by simp) ?_;cases v with
  | none =>
   simp only at g2;subst g2;simp only [Option.map_none] at hi4;subst hi4;refine mg [] rfl (by simp;rfl) ?_;refine Aa rfl (λh=>?_) (λh=>by simp at h);refine md [] rfl (by simp) ?_;exact Ab ⟨_,rfl,tV rfl,trivial⟩
  | some v =>
   simp only at g2;obtain ⟨q',g3,g4⟩:=g2;have hgo:=jh (i+1,vs++[v]) (by simp only;omega) ⟨by simp only;omega,by simp [hi2],q',g3,by rw [hi4,g4];cases q' <;> simp⟩;simp only [el] at hgo;have hll:(Bg vs).length<=3:=by simp;omega
   generalize Bg vs=l at *;obtain ⟨v1,v2,v3,v4⟩:=v;refine mg [] rfl (by simp;rfl) ?_;refine Aa rfl (λh=>by simp at h) (λh=>?_);refine md [] rfl (by simp) ?_;refine Bp Ah rfl ⟨by simp,by simp [maxLen] at hll ⊢;omega,by simp at hll ⊢;omega,trivial⟩ ?_;refine mg [] rfl (by simp) ?_;refine A3 5 7 rfl ?_;exact Ad hgo ⟨At (Bv (by omega) (by omega)),rfl,rfl,rfl,rfl,trivial⟩ ⟨rfl,rfl,rfl,by simp only [List.length_append];rfl,rfl,trivial⟩ rfl
 ·simp at h;refine Ar rfl ?_;rw [List.drop_eq_nil_of_le (by omega)] at hi3;cases hi3;simp only [Option.map_some,List.append_nil] at hi4;subst hi4;refine AZ 5 rfl ?_;refine md [] rfl (by simp) ?_;exact Ab ⟨_,rfl,tV rfl,trivial⟩
set_option maxHeartbeats 2000000 in
theorem YC (c:Cse) (ho:OkW c.datas) (N:Nat) (hN:N<=1000000):∀(f:Nat) (m:Mi) (r:Option Ty),Bc c.datas f m=some r->HH c.datas N m=true ->
  Ak Tryz.prog 121 [.agg (dCse c),.agg (Im m)] (.agg (CI r)):=by
 intro f
 induction f with
 | zero=>intro m r h;simp [Bc] at h
 | succ f ih =>
 have known:∀m r,Bc c.datas (f+1) m=some r->HH c.datas N m=true->Ba m.hd≠0->Ak Tryz.prog 121 [.agg (dCse c),.agg (Im m)] (.agg (CI r)):=by
  intro m r h hm hf;obtain ⟨o,h1,h2⟩:=Ln h hf;subst h2;have hw:=Be.1 hm;exact SD c m _ o h1 hf hw.1.2.1 λk v hk hv=>ih k v hv (hw.2.2 k hk)
 intro m r h hm;by_cases hf:Ba m.hd=0
 case neg=>exact known m r h hm hf
 have hw:=Be.1 hm;have hH:=RD c m.ty ho.okd hw.1.1;have hA:=λh=>P4 m.nt h;have hNr:=TS m.nt (by have:=hw.1.2.2;omega);obtain ⟨u1,u2,u3,u4⟩:=YB h hf;have hS:Ba m.ty=8->Ak Tryz.prog 169 [.agg (dCse c),.agg (Im m)] (.agg (CI r)):=λh8=>by
  have h4:=u4 h8;have:=Sn c m ho hw.1.1 h8 (λ_=>r) (λx hx=>by
   rw [hx] at h4;have hp:=BL (Hx hx);exact known _ _ h4 (KA ho hw.1.1 hw.2.1.2 hp.1) (by simpa [AY,Mi.hd] using hp.2))
  cases hq:A8 c.datas m with
  | none=>rw [hq] at h4 this;simp only at h4 this;rw [h4];exact this
  | some y=>rw [hq] at this;exact this
 have hsr:1<=Ba m.ty/\Ba m.ty<=8:=of_decide_eq_true hw.2.1.2;have hhl:=Ig ho m.ty;have hpt:∀y∈A9 c.datas m.ty,C7 y=[]:=λy hy=>(BL hy).1;clear h u4 hw known ih hm;generalize A9 c.datas m.ty=L at *;generalize Cy m.nt=nr at *;obtain ⟨ds,⟨c1,c2,c3,c4⟩,rows⟩:=c;obtain ⟨⟨so,n,x,ps⟩,nt,⟨a,b,t,d⟩,ks⟩:=m;simp only [Mi.hd,Mi.ks,Mi.nt,Mi.ty,Ba,O6,decide_eq_true_eq] at *;subst hf;refine Ae Ah Tryz.func121 (by decide +kernel) rfl [1,2,3,4,5,6,7] rfl rfl ?_;refine mg [] rfl (by simp) ?_;refine Aa rfl (λh=>by simp at h) (λh=>?_);clear h;refine md [] rfl (by simp) ?_;by_cases s1:so=1
 ·subst s1;rw [u1 rfl];obtain ⟨v1,v2,v3,v4⟩:=nr;refine Aa rfl (λh=>?_) (λh=>by simp at h);refine md [] rfl (by simp) ?_;refine Ac rfl (λ_=>hNr) (by simp) ?_;refine mg [] rfl (by simp) ?_;exact Ab ⟨_,rfl,tV rfl,trivial⟩
 refine Aa rfl (λh=>absurd (by simpa using h) s1) (λh=>?_);clear h;refine md [] rfl (by simp) ?_;by_cases s23:so=2\/so=3
 ·rw [u3 s23];have hsmall:∀i,(i:Nat)<=L.length->i<=5:=λi hi=>by omega
  have hstep:∀(i:Nat) (t:Ty),L[i]?=some t->DB nt (L.drop i)=if B1 nt t=false then some t else DB nt (L.drop (i+1)):=λi t ht=>by rw [Ap ht];rfl
  rcases s23 with rfl | rfl
  ·refine Aa rfl (λh=>?_) (λh=>by simp at h);refine md [] rfl (by simp) ?_;refine Aa rfl (λh=>?_) (λh=>by simp at h);clear h;refine md [] rfl (by simp) ?_;refine Ac rfl (λ_=>hH) (by simp) ?_;refine mg [] rfl (by simp) ?_;refine Aj (λi:Nat=>[(9,.imm (.int .i64 i)),(8,.imm (.sl (CC L))),(4,.ref 3 0),(3,.ref 2 0)])
    (λ_=>[(2,some (.immb 122 10 (Im (.mk (.mk 2 n x ps) nt (.mk 0 b t d) ks)))),(3,some (.cells 46 5 [.imm (.bool false),.imm (.int .i64 0),.imm (.int .i64 0),.imm (.str []),.nils]))]) [4,5] (λi=>L.length-i)
    (λi=>i<=L.length/\DB nt L=DB nt (L.drop i)) 0 ⟨Nat.zero_le _,rfl⟩ ⟨rfl,rfl,rfl,rfl,trivial⟩ ⟨rfl,rfl,trivial⟩ rfl λi hi ih=>?_
   obtain ⟨hi1,hi2⟩:=hi;refine md [] rfl (by simp) ?_;refine Aa rfl (λh=>?_) (λh=>?_)
   ·simp at h;obtain ⟨y,hy⟩:=Am h;have hAy:=hA y;rw [hstep i y hy] at hi2;refine md [] rfl (by simp) ?_;refine mi rfl (c:=Iw y) (λ_=>⟨by simp,by simpa using HE hy,by simp⟩) (by simp) ?_;refine mg [] rfl (by simp) ?_;refine Ac rfl (λ_=>hAy) (by simp) ?_;cases hb:B1 nt y with
    | false =>
     rw [if_pos hb] at hi2;refine mg [] rfl (by simp;rfl) ?_;refine Aa rfl (λh=>?_) (λh=>by simp at h);refine md [] rfl (by simp) ?_;refine mi rfl (c:=Iw y) (λ_=>⟨by simp,by simpa using HE hy,by simp⟩) (by simp) ?_;obtain ⟨y1,y2,y3,y4⟩:=y;have hp:=hpt _ (List.mem_of_getElem? hy);simp only [C7] at hp;subst hp;rw [hi2];simp only [Iw];have hyw:unn (if y1=0 then V.sl [] else V.nilsl) = .sl []:=by split <;> rfl
     generalize (if y1=0 then V.sl [] else V.nilsl)=yw at *;refine mg [] rfl (by simp) ?_;exact PF 3 [.bool true,.int .i64 y1,.int .i64 y2,.str y3,.sl []] rfl (by simp [Fu,unn,hyw]) (Ab ⟨_,rfl,tV rfl,trivial⟩)
    | true =>
     rw [if_neg (by simp [hb])] at hi2;refine mg [] rfl (by simp;rfl) ?_;refine Aa rfl (λh=>by simp at h) (λh=>?_);refine md [] rfl (by simp) ?_;exact Ad (ih (i+1) (by omega) ⟨by omega,hi2⟩) ⟨At (Bv (by omega) (by omega)),rfl,rfl,rfl,trivial⟩ ⟨rfl,rfl,trivial⟩ rfl
   ·simp at h;refine Ar rfl ?_;refine md [] rfl (by simp) ?_;rw [hi2,List.drop_eq_nil_of_le (by omega)];exact Ab ⟨_,rfl,tV rfl,trivial⟩
  ·refine Aa rfl (λh=>by simp at h) (λh=>?_);refine md [] rfl (by simp) ?_;refine Aa rfl (λh=>?_) (λh=>by simp at h);clear h;refine md [] rfl (by simp) ?_;refine Ac rfl (λ_=>hH) (by simp) ?_;refine mg [] rfl (by simp) ?_;refine Aj (λi:Nat=>[(9,.imm (.int .i64 i)),(8,.imm (.sl (CC L))),(4,.ref 3 0),(3,.ref 2 0)])
    (λ_=>[(2,some (.immb 122 10 (Im (.mk (.mk 3 n x ps) nt (.mk 0 b t d) ks)))),(3,some (.cells 46 5 [.imm (.bool false),.imm (.int .i64 0),.imm (.int .i64 0),.imm (.str []),.nils]))]) [4,5] (λi=>L.length-i)
    (λi=>i<=L.length/\DB nt L=DB nt (L.drop i)) 0 ⟨Nat.zero_le _,rfl⟩ ⟨rfl,rfl,rfl,rfl,trivial⟩ ⟨rfl,rfl,trivial⟩ rfl λi hi ih=>?_
   obtain ⟨hi1,hi2⟩:=hi;refine md [] rfl (by simp) ?_;refine Aa rfl (λh=>?_) (λh=>?_)
   ·simp at h;obtain ⟨y,hy⟩:=Am h;have hAy:=hA y;rw [hstep i y hy] at hi2;refine md [] rfl (by simp) ?_;refine mi rfl (c:=Iw y) (λ_=>⟨by simp,by simpa using HE hy,by simp⟩) (by simp) ?_;refine mg [] rfl (by simp) ?_;refine Ac rfl (λ_=>hAy) (by simp) ?_;cases hb:B1 nt y with
    | false =>
     rw [if_pos hb] at hi2;refine mg [] rfl (by simp;rfl) ?_;refine Aa rfl (λh=>?_) (λh=>by simp at h);refine md [] rfl (by simp) ?_;refine mi rfl (c:=Iw y) (λ_=>⟨by simp,by simpa using HE hy,by simp⟩) (by simp) ?_;obtain ⟨y1,y2,y3,y4⟩:=y;have hp:=hpt _ (List.mem_of_getElem? hy);simp only [C7] at hp;subst hp;rw [hi2];simp only [Iw];have hyw:unn (if y1=0 then V.sl [] else V.nilsl) = .sl []:=by split <;> rfl
     generalize (if y1=0 then V.sl [] else V.nilsl)=yw at *;refine mg [] rfl (by simp) ?_;exact PF 3 [.bool true,.int .i64 y1,.int .i64 y2,.str y3,.sl []] rfl (by simp [Fu,unn,hyw]) (Ab ⟨_,rfl,tV rfl,trivial⟩)
    | true =>
     rw [if_neg (by simp [hb])] at hi2;refine mg [] rfl (by simp;rfl) ?_;refine Aa rfl (λh=>by simp at h) (λh=>?_);refine md [] rfl (by simp) ?_;exact Ad (ih (i+1) (by omega) ⟨by omega,hi2⟩) ⟨At (Bv (by omega) (by omega)),rfl,rfl,rfl,trivial⟩ ⟨rfl,rfl,trivial⟩ rfl
   ·simp at h;refine Ar rfl ?_;refine md [] rfl (by simp) ?_;rw [hi2,List.drop_eq_nil_of_le (by omega)];exact Ab ⟨_,rfl,tV rfl,trivial⟩
 refine Aa rfl (λh=>absurd (.inl (by simpa using h)) s23) (λh=>?_);clear h;refine md [] rfl (by simp) ?_;refine Aa rfl (λh=>absurd (.inr (by simpa using h)) s23) (λh=>?_);clear h;refine md [] rfl (by simp) ?_;by_cases s8:so=8
 ·subst s8;refine Aa rfl (λh=>?_) (λh=>by simp at h);refine md [] rfl (by simp) ?_;refine Ac rfl (λ_=>hS rfl) (by simp) ?_;have hre:∃x1 v1 v2 v3 v4,CI r=[x1,v1,v2,v3,v4]:=by
   cases r with
   | none=>exact ⟨_,_,_,_,_,rfl⟩
   | some v=>obtain ⟨a,b,c,d⟩:=v;exact ⟨_,_,_,_,_,rfl⟩
  obtain ⟨x1,y1,y2,y3,y4,hre⟩:=hre;rw [hre];refine mg [] rfl (by simp) ?_;exact Ab ⟨_,rfl,tV rfl,trivial⟩
 refine Aa rfl (λh=>absurd (by simpa using h) s8) (λh=>?_);clear h;refine md [] rfl (by simp) ?_;rw [u2 (by omega)];exact Ab ⟨_,rfl,tV rfl,trivial⟩
theorem KO {ds:List Dt} (hn:Bi (BO ds)=true) {n:Int} {x s:Str} {ps:List Ty} (hp:0<=AP x 0 ds) (hc:0<=(B6 ds (.mk 8 n x ps) s).2):(CH ds s).2=(B6 ds (.mk 8 n x ps) s).2:=by
 have hf:=U0 hn (n:=n) (s:=s) (ps:=ps) hp;unfold CH;cases hfs:F0 s 0 ds with
 | none=>rw [hfs] at hf;simp only at hf;omega
 | some p =>
  obtain ⟨a,b⟩:=p;rw [hfs] at hf;obtain ⟨hf1,hf2,hf3⟩:=hf;have ha:(a:Int)=AP x 0 ds:=by simpa [hc] using hf1
  obtain ⟨k,d,e1,e2,e3,e4⟩:=Kx hfs;have:a=k:=by omega
  subst this;simp only [B6,if_true];rw [show (AP x 0 ds).toNat=a by omega,e2];simp only [e3]
mutual
def Dn:Ty->Bool
 | .mk _ n _ ps=>decide (-1000000000000<=n/\n<=1000000000000)&&Gz ps
def Gz:List Ty->Bool
 | []=>true
 | p::r=>Dn p&&Gz r
end
theorem Ps:∀l:List Ty,Gz l=l.all Dn
 | []=>rfl
 | p::r=>by simp [Gz,Ps r]
theorem IJ {ds:List Dt}:∀{l m:List Ty} {i:Nat} {a p:Ty},JO ds l m=true->l[i]?=some a->m[i]?=some p->Lc ds a p=true
 | [],_,i,a,p,_,ha,_=>by simp at ha
 | _::_,[],i,a,p,_,_,hp=>by simp at hp
 | x::l,y::m,0,a,p,h,ha,hp=>by simp only [JO,Bool.and_eq_true] at h;simp at ha hp;subst ha;subst hp;exact h.1
 | x::l,y::m,i+1,a,p,h,ha,hp=>by simp only [JO,Bool.and_eq_true] at h;exact IJ h.2 (by simpa using ha) (by simpa using hp)
theorem Qi:∀v:Ty,An v<=1000000000000000->Ak Tryz.prog 76 [.agg (Al v)] (.int .i64 (An v))
 | .mk f n x ps,hN=>by
  refine AM λhv=>?_;simp [BX,Eh,Al,maxLen] at hv;simp only [An] at hN;refine Ae Ah Tryz.func76 (by decide +kernel) rfl [1,2,3] rfl rfl ?_;refine mg [] rfl (by simp) ?_;refine Aj (λi:Nat=>[(4,.imm (.int .i64 i)),(3,.imm (.int .i64 ((1+Ai (ps.take i):Nat):Int))),(1,.ref 1 0)]) (λ_=>[(1,some (.immb 35 4 (Al (.mk f n x ps))))]) [2,3] (λi=>ps.length-i) (λi=>i<=ps.length) 0 (Nat.zero_le _)
   ⟨rfl,rfl,rfl,trivial⟩ ⟨rfl,trivial⟩ rfl λi hi ih=>?_
  refine md [] rfl (by simp) ?_;refine Aa rfl (λh=>?_) (λh=>?_)
  ·simp at h;obtain ⟨p,hp⟩:=Am h;have hl:=B7 hp;have hs:=Qi p (by omega);have hn:Ai (ps.take (i+1))=Ai (ps.take i)+An p:=by
    have e:=Bs (ps.take i) [p];rw [AS hp,e];simp [Ai]
   refine md [] rfl (by simp) ?_;refine mi rfl (c:=Al p) (λ_=>⟨by simp,by simpa using Av hp,by simp⟩) (by simp) ?_;refine mg [] rfl (by simp) ?_;refine Ac rfl (λ_=>hs) (by simp) ?_;refine mg [] rfl (by simp) ?_;exact Ad (ih (i+1) (by omega) (by omega)) ⟨At (Bv (by omega) (by omega)),At (by rw [Bv (by omega) (by omega)];omega),rfl,trivial⟩ ⟨rfl,trivial⟩ rfl
  ·simp at h;refine Ar rfl ?_;rw [List.take_of_length_le (by omega)];refine md [] rfl (by simp) ?_;simp only [An];exact Ab ⟨_,rfl,tV rfl,trivial⟩
termination_by v=>SizeOf.sizeOf v
decreasing_by
 have:=List.sizeOf_lt_of_mem (List.mem_of_getElem? hp);simp_wf;omega
theorem aP (n:Int) (h : -1000000000000<=n/\n<=1000000000000):Ak Tryz.prog 129 [.int .i64 n] (.int .i64 (EA n)):=by
 refine Ae Ah Tryz.func129 (by decide +kernel) rfl [1,2] rfl rfl ?_;refine mg [] rfl (by simp) ?_;by_cases h0:0<n
 ·refine Aa rfl (λh=>?_) (λh=>absurd h0 (by simpa using h));refine md [] rfl (by simp) ?_;refine Ab ⟨_,rfl,tV ?_,trivial⟩;simp only [EA,if_pos h0];have e1:IntKind.i64.wrap (2*n)=2*n:=Bv (by omega) (by omega);rw [e1,Bv (by omega) (by omega)]
 ·refine Aa rfl (λh=>absurd (by simpa using h) h0) (λh=>?_);refine md [] rfl (by simp) ?_;refine Ab ⟨_,rfl,tV ?_,trivial⟩;simp only [EA,if_neg h0];rw [Bv (by omega) (by omega)]
theorem Oi {s:Str}:∀(l:List Cd) (i:Nat),(CD s i l).2<i+l.length/\(0<=(CD s i l).2->∃k,l[k]?=some (CD s i l).1/\(CD s i l).2=((i+k:Nat):Int))
 | [],i=>by simp [CD];omega
 | c::r,i=>by
  simp only [CD]
  split
  ·exact ⟨by simp only [List.length_cons];omega,λ_=>⟨0,rfl,rfl⟩⟩
  ·obtain ⟨h1,h2⟩:=Oi (s:=s) r (i+1);exact ⟨by simp only [List.length_cons];omega,λh=>let ⟨k,h3,h4⟩:=h2 h;⟨k+1,by simpa using h3,by rw [h4];congr 1;omega⟩⟩
theorem Oh {ds:List Dt} (ho:OkW ds) (t:Ty) (s:Str):(B6 ds t s).2<=5:=by
 obtain ⟨so,n,x,ps⟩:=t;simp only [B6]
 split
 ·split
  ·rename_i d hd;have:=(Oi (s:=s) d.cons 0).1;have:=(ho.lim d (List.mem_of_getElem? hd)).1;omega
  ·simp
 ·simp
theorem RT {ds:List Dt} {t:Ty} {s s':Str} (h:0<=(B6 ds t s).2) (e:(B6 ds t s).2=(B6 ds t s').2):(B6 ds t s).1=(B6 ds t s').1:=by
 obtain ⟨so,n,x,ps⟩:=t;by_cases h8:so=8
 ·simp only [B6,if_pos h8] at h e ⊢;cases hd:ds[(AP x 0 ds).toNat]? with
  | none=>simp
  | some d =>
   simp only [hd] at h e ⊢;obtain ⟨k,k1,k2⟩:=(Oi (s:=s) d.cons 0).2 h;obtain ⟨j,j1,j2⟩:=(Oi (s:=s') d.cons 0).2 (by omega);have:k=j:=by omega
   subst this;rw [k1] at j1;exact Option.some.inj j1
 ·simp only [B6,if_neg h8]
theorem Nc {ds:List Dt} {l m:List Ty} {i:Nat} {p q:Ty} (hp:l[i]?=some p) (hq:m[i]?=some q):Dw ds (l.drop i) (m.drop i)=if Et ds p q≠0 then Et ds p q else Dw ds (l.drop (i+1)) (m.drop (i+1)):=by
 rw [Ap hp,Ap hq];rfl
theorem Ib {l:List Ty} {i:Nat} {p:Ty} (h:Gz l=true) (hp:l[i]?=some p):Dn p=true:=by
 rw [Ps,List.all_eq_true] at h;exact h p (List.mem_of_getElem? hp)
set_option maxHeartbeats 2000000 in
theorem Rp (c:Cse) (ho:OkW c.datas):∀(a t b:Ty),AD c.datas t=true->Lc c.datas t a=true->Lc c.datas t b=true->Dn a=true->Dn b=true ->
  Ak Tryz.prog 77 [.agg (dCse c),.agg (Al t),.agg (Al a),.agg (Al b)] (.int .i64 (Et c.datas a b))
 | .mk f n x ps,.mk so m0 x0 qs0,.mk g n' x' ps',hn,ha,hb,hia,hib=>by
  have hR:=λc'=>aP c';have hC:=λs=>W8 c (.mk so m0 x0 qs0) s (Cu hn) (λd hd=>ho.okd.len d hd);obtain ⟨ds,⟨c1,c2,c3,c4⟩,rows⟩:=c;simp only [Dn,Bool.and_eq_true] at hia hib;have hia1:=of_decide_eq_true hia.1;have hib1:=of_decide_eq_true hib.1;simp only at hn ha hb hC ho;simp only [Lc] at ha hb;refine Ae Ah Tryz.func77 (by decide +kernel) rfl [1,2,3,4,5,6,7] rfl rfl ?_;refine mg [] rfl (by simp) ?_;simp only [Et];by_cases s1:so=1
  ·subst s1;have hf:f=1:=by simpa using ha
   subst hf;refine Aa rfl (λh=>?_) (λh=>by simp at h);refine md [] rfl (by simp) ?_;refine Ac rfl (λ_=>hR n hia1) (by simp) ?_;refine mg [] rfl (by simp) ?_;refine Ac rfl (λ_=>hR n' hib1) (by simp) ?_;refine mg [] rfl (by simp;rfl) ?_;have hr:∀z:Int,-1000000000000<=z/\z<=1000000000000 -> -2000000000000<=EA z/\EA z<=2000000000000:=λz hz=>by simp only [EA];split <;> omega
   have:=hr n hia1;have:=hr n' hib1;refine Ab ⟨_,rfl,tV ?_,trivial⟩;rw [Bv (by omega) (by omega)];rfl
  refine Aa rfl (λh=>absurd (by simpa using h) s1) (λh=>?_);clear h;refine md [] rfl (by simp) ?_;by_cases s2:so=2
  ·subst s2;have hf:f=2:=by simpa using ha
   subst hf;refine Aa rfl (λh=>?_) (λh=>by simp at h);refine md [] rfl (by simp) ?_;refine Ab ⟨_,rfl,tV ?_,trivial⟩;rw [Bv (by omega) (by omega)];rfl
  refine Aa rfl (λh=>absurd (by simpa using h) s2) (λh=>?_);clear h;refine md [] rfl (by simp) ?_;rw [if_neg s1,if_neg s2] at ha hb;by_cases s8:so=8
  case neg =>
   refine Aa rfl (λh=>absurd (by simpa using h) s8) (λh=>?_);clear h;refine md [] rfl (by simp) ?_;have hz:f=3\/f=5:=by
    by_cases s3:so=3
    ·rw [if_pos s3] at ha;left;simpa using ha
    ·rw [if_neg s3,if_neg s8] at ha;right;simpa using ha
   have e:(if f=1 then EA n-EA n' else if f=2 then n-n' else if f=4 then (if (CH ds x).2-(CH ds x').2≠0 then (CH ds x).2-(CH ds x').2 else Dw ds ps ps') else 0)=0:=by
    rw [if_neg (by omega),if_neg (by omega),if_neg (by omega)]
   rw [e];exact Ab ⟨_,rfl,tV rfl,trivial⟩
  subst s8;rw [if_neg (by decide),if_pos rfl] at ha hb;simp only [Bool.and_eq_true,decide_eq_true_eq] at ha hb;obtain ⟨hf,ha1,ha2,ha3⟩:=ha;obtain ⟨hg,hb1,hb2,hb3⟩:=hb;rw [Ip ds 8 0 m0 x0 x [] qs0] at ha1 ha2 ha3;rw [Ip ds 8 0 m0 x0 x' [] qs0] at hb1 hb2 hb3;subst hf;have hp:=(Cu hn 8 m0 x0 qs0 rfl rfl).1;have sa:=KO ho.dif (n:=m0) (s:=x) (ps:=qs0) hp ha1;have sb:=KO ho.dif (n:=m0) (s:=x') (ps:=qs0) hp hb1;have la:=Oh ho (.mk 8 m0 x0 qs0) x;have lb:=Oh ho (.mk 8 m0 x0 qs0) x';have hsame:=RT (ds:=ds) (t:=.mk 8 m0 x0 qs0) (s:=x) (s':=x') ha1;have hal:=L5 ho (.mk 8 m0 x0 qs0) x;have hnm:=Io ho.okd (t:=.mk 8 m0 x0 qs0) (s:=x) ha1;have hCx:=hC x;have hCx':=hC x'
  rw [show (if (4:Int)=1 then EA n-EA n' else if (4:Int)=2 then n-n' else if (4:Int)=4 then (if (CH ds x).2-(CH ds x').2≠0 then (CH ds x).2-(CH ds x').2 else Dw ds ps ps') else 0)=(if (CH ds x).2-(CH ds x').2≠0 then (CH ds x).2-(CH ds x').2 else Dw ds ps ps') from rfl,sa,sb];clear hC sa sb;generalize B6 ds (.mk 8 m0 x0 qs0) x=e1 at *;generalize B6 ds (.mk 8 m0 x0 qs0) x'=e2 at *;obtain ⟨⟨n1,A1⟩,k1⟩:=e1;obtain ⟨⟨n2,A2⟩,k2⟩:=e2;simp only at ha1 ha2 ha3 hb1 hb2 hb3 la lb hsame hal hnm hCx hCx' ⊢;refine Aa rfl (λh=>?_) (λh=>by simp at h);refine md [] rfl (by simp) ?_;refine Ac rfl (λ_=>hCx) (by simp) ?_;refine mg [] rfl (by simp) ?_;refine Ac rfl (λ_=>hCx') (by simp) ?_
  refine mg [] rfl (by simp) ?_;by_cases hk:k1=k2
  case neg =>
   refine Aa rfl (λh=>?_) (λh=>by simp at h;exact absurd h hk);refine md [] rfl (by simp) ?_;rw [if_pos (by omega)];refine Ab ⟨_,rfl,tV ?_,trivial⟩;rw [Bv (by omega) (by omega)]
  refine Aa rfl (λh=>by simp at h;exact absurd hk h) (λh=>?_);clear h;subst hk;have hsame:=hsame rfl;cases hsame;rw [if_neg (by omega)];refine md [] rfl (by simp) ?_;refine Aj (λi:Nat=>[(13,.imm (.int .i64 i)),(9,.ref 5 0),(7,.ref 4 0),(6,.ref 3 0),(4,.ref 1 0)])
   (λ_=>[(1,some (.immb 29 6 (dCse ⟨ds,.mk c1 c2 c3 c4,rows⟩))),(3,some (.immb 35 4 (Al (.mk 4 n x ps)))),(4,some (.immb 35 4 (Al (.mk g n' x' ps')))),(5,some (.immb 90 2 (Cw ⟨n1,A1⟩)))]) [7] (λi=>A1.length-i)
   (λi=>i<=A1.length/\Dw ds ps ps'=Dw ds (ps.drop i) (ps'.drop i)) 0 ⟨Nat.zero_le _,rfl⟩ ⟨rfl,rfl,rfl,rfl,rfl,trivial⟩ ⟨rfl,rfl,rfl,rfl,trivial⟩ rfl λi hi ih=>?_
  obtain ⟨hi1,hi2⟩:=hi;refine md [] rfl (by simp) ?_;refine Aa rfl (λh=>?_) (λh=>?_)
  ·simp at h;obtain ⟨t,ht⟩:=Am h;obtain ⟨p,hp⟩:=Am (l:=ps) (i:=i) (by omega);obtain ⟨q,hq⟩:=Am (l:=ps') (i:=i) (by omega);have hO:=Rp ⟨ds,.mk c1 c2 c3 c4,rows⟩ ho p t q (Dj hnm ht) (IJ ha3 ht hp) (IJ hb3 ht hq) (Ib hia.2 hp) (Ib hib.2 hq);simp only at hO;rw [Nc hp hq] at hi2;generalize Et ds p q=z at *;refine md [] rfl (by simp) ?_;refine mi rfl (c:=Al t) (λ_=>⟨by simp,by simpa using Av ht,by simp⟩) (by simp) ?_;refine mg [] rfl (by simp) ?_;refine mi rfl (c:=Al p) (λ_=>⟨by simp,by simpa using Av hp,by simp⟩) (by simp) ?_;refine mg [] rfl (by simp) ?_;refine mi rfl (c:=Al q) (λ_=>⟨by simp,by simpa using Av hq,by simp⟩) (by simp) ?_;refine mg [] rfl (by simp) ?_
   refine Ac rfl (λ_=>hO) (by simp) ?_;refine mg [] rfl (by simp;rfl) ?_;by_cases hz:z=0
   ·rw [if_neg (by simpa using hz)] at hi2;refine Aa rfl (λh=>by simp at h;exact absurd hz h) (λh=>?_);refine md [] rfl (by simp) ?_;exact Ad (ih (i+1) (by omega) ⟨by omega,hi2⟩) ⟨At (Bv (by omega) (by omega)),rfl,rfl,rfl,rfl,trivial⟩ ⟨rfl,rfl,rfl,rfl,trivial⟩ rfl
   ·rw [if_pos hz] at hi2;refine Aa rfl (λh=>?_) (λh=>by simp at h;exact absurd h hz);refine md [] rfl (by simp) ?_;rw [hi2];exact Ab ⟨_,rfl,tV rfl,trivial⟩
  ·simp at h;refine Ar rfl ?_;refine md [] rfl (by simp) ?_;rw [hi2,List.drop_eq_nil_of_le (by omega)];simp only [Dw];exact Ab ⟨_,rfl,tV rfl,trivial⟩
termination_by a=>SizeOf.sizeOf a
decreasing_by
 have:=List.sizeOf_lt_of_mem (List.mem_of_getElem? hp);simp_wf;omega
theorem WH (c:Cse) (ho:OkW c.datas) (a b:Ty) (hn:AD c.datas c.type=true) (ha:Lc c.datas c.type a=true) (hb:Lc c.datas c.type b=true) (hia:Dn a=true) (hib:Dn b=true)
  (hna:An a<=1000000000000000) (hnb:An b<=1000000000000000):Ak Tryz.prog 26 [.agg (dCse c),.agg (Al a),.agg (Al b)] (.bool (JK c.datas a b)):=by
 have hO:=Rp c ho a c.type b hn ha hb hia hib;have hA:=Qi a hna;have hB:=Qi b hnb;simp only [JK];obtain ⟨ds,⟨c1,c2,c3,c4⟩,rows⟩:=c;simp only at hO;generalize Et ds a b=z at *;generalize An a=n at *;generalize An b=m at *;obtain ⟨a1,a2,a3,a4⟩:=a;obtain ⟨b1,b2,b3,b4⟩:=b;refine Ae Ah Tryz.func26 (by decide +kernel) rfl [1,2,3,4] rfl rfl ?_;refine mg [] rfl (by simp) ?_;refine Ac rfl (λ_=>hA) (by simp) ?_;refine mg [] rfl (by simp) ?_;refine Ac rfl (λ_=>hB) (by simp) ?_;refine mg [] rfl (by simp;rfl) ?_;by_cases e:n=m
 ·subst e;refine Aa rfl (λh=>by simp at h) (λh=>?_);refine md [] rfl (by simp) ?_;refine Ac rfl (λ_=>hO) (by simp) ?_;refine mg [] rfl (by simp) ?_;exact Ab ⟨_,rfl,tV (by simp),trivial⟩
 ·refine Aa rfl (λh=>?_) (λh=>by simp at h;omega);refine md [] rfl (by simp) ?_;exact Ab ⟨_,rfl,tV (by simp [e]),trivial⟩
def Rq (c:Cse) (v:Ty):Prop:=Lc c.datas c.type v=true/\Dn v=true/\An v<=1000000000000000
theorem YZ (c:Cse) (ho:OkW c.datas) (hn:AD c.datas c.type=true) (a b:Option Ty) (ha:∀v,a=some v->Rq c v) (hb:∀v,b=some v->Rq c v) :
  Ak Tryz.prog 123 [.agg (dCse c),.agg (CI a),.agg (CI b)] (.agg (CI (Gj c.datas a b))):=by
 cases a with
 | none =>
  cases b with
  | none =>
   obtain ⟨ds,⟨c1,c2,c3,c4⟩,rows⟩:=c;refine Ae Ah Tryz.func123 (by decide +kernel) rfl [1,2,3,4] rfl rfl ?_;refine mg [] rfl (by simp) ?_;refine Ac (v:=.bool true) rfl (λh=>by simp [Ag] at h) (by simp [Ag]) ?_;refine mg [] rfl (by simp [Ag]) ?_;refine Aa rfl (λh=>?_) (λh=>by simp at h);refine md [] rfl (by simp) ?_;exact Ab ⟨_,rfl,tV rfl,trivial⟩
  | some y =>
   obtain ⟨ds,⟨c1,c2,c3,c4⟩,rows⟩:=c;obtain ⟨y1,y2,y3,y4⟩:=y;refine Ae Ah Tryz.func123 (by decide +kernel) rfl [1,2,3,4] rfl rfl ?_;refine mg [] rfl (by simp) ?_;refine Ac (v:=.bool true) rfl (λh=>by simp [Ag] at h) (by simp [Ag]) ?_;refine mg [] rfl (by simp [Ag]) ?_;refine Aa rfl (λh=>?_) (λh=>by simp at h);refine md [] rfl (by simp) ?_;exact Ab ⟨_,rfl,tV rfl,trivial⟩
 | some x =>
 cases b with
 | none =>
  obtain ⟨ds,⟨c1,c2,c3,c4⟩,rows⟩:=c;obtain ⟨x1,x2,x3,x4⟩:=x;refine Ae Ah Tryz.func123 (by decide +kernel) rfl [1,2,3,4] rfl rfl ?_;refine mg [] rfl (by simp) ?_;refine Ac (v:=.bool true) rfl (λh=>by simp [Ag] at h) (by simp [Ag]) ?_;refine mg [] rfl (by simp [Ag]) ?_;refine Aa rfl (λh=>by simp at h) (λh=>?_);refine md [] rfl (by simp) ?_;exact Ab ⟨_,rfl,tV rfl,trivial⟩
 | some y =>
  have hB:=WH c ho y x hn (hb _ rfl).1 (ha _ rfl).1 (hb _ rfl).2.1 (ha _ rfl).2.1 (hb _ rfl).2.2 (ha _ rfl).2.2;have e:Gj c.datas (some x) (some y)=if JK c.datas y x=true then some y else some x:=rfl
  rw [e];generalize JK c.datas y x=q at *;obtain ⟨ds,⟨c1,c2,c3,c4⟩,rows⟩:=c;obtain ⟨x1,x2,x3,x4⟩:=x;obtain ⟨y1,y2,y3,y4⟩:=y;refine Ae Ah Tryz.func123 (by decide +kernel) rfl [1,2,3,4] rfl rfl ?_;refine mg [] rfl (by simp) ?_;refine Ac rfl (λ_=>hB) (by simp [Ag]) ?_;refine mg [] rfl (by simp [Ag]) ?_;cases q with
  | true =>
   refine Aa rfl (λh=>?_) (λh=>by simp at h);refine md [] rfl (by simp) ?_;exact Ab ⟨_,rfl,tV rfl,trivial⟩
  | false =>
   refine Aa rfl (λh=>by simp at h) (λh=>?_);refine md [] rfl (by simp) ?_;exact Ab ⟨_,rfl,tV rfl,trivial⟩
def loS (ds:List Dt) (s s':List Int):Prop:=∀t,Eu ds s t≠0->0<Eu ds s' t/\Eu ds s' t<=Eu ds s t
theorem Jz {ds:List Dt} {s s':List Int} (h:loS ds s s') (hz:∀t,0<=Eu ds s t):∀(l:List Ty) (n n':Int),0<n'->n'<=n->0<AA ds s n l->0<AA ds s' n' l/\AA ds s' n' l<=AA ds s n l
 | [],n,n',h1,h2,_=>by simp only [AA];omega
 | t::r,n,n',h1,h2,h3=>by
  simp only [AA] at h3 ⊢;by_cases e:Eu ds s t=0
  ·rw [if_pos e] at h3;omega
  ·rw [if_neg e] at h3 ⊢;obtain ⟨a1,a2⟩:=h t e;rw [if_neg (by omega)];have:=hz t;exact Jz h hz r _ _ (by omega) (by omega) h3
theorem MS {ds:List Dt} {s:List Int}:∀{l:List Ty} {n:Int} {t:Ty},t∈l->Eu ds s t=0->AA ds s n l=0
 | x::r,n,t,ht,h=>by
  simp only [AA];rcases List.mem_cons.1 ht with rfl | ht
  ·rw [if_pos h]
  ·by_cases e:Eu ds s x=0
   ·rw [if_pos e]
   ·rw [if_neg e];exact MS ht h
def QC (ds:List Dt) (s:List Int):Prop:=∀i d,ds[i]?=some d->0<s.getD i 0->∃c∈d.cons,0<AA ds s 1 c.args/\AA ds s 1 c.args<=s.getD i 0
theorem Nu {s:List Int} {i:Nat} {n:Int} (h:i<s.length):(s.set i n).getD i 0=n:=by simp [List.getD,h]
theorem Nt {s:List Int} {i j:Nat} {n:Int} (h:i≠j):(s.set i n).getD j 0=s.getD j 0:=by simp [List.getD,List.getElem?_set_ne h]
theorem ZO {ds:List Dt} {i:Nat} {d:Dt} {c:Cd} (hd:ds[i]?=some d) (hc:c∈d.cons) {p:List Int×Bool} (hs:FT ds p.1) (ha:QC ds p.1):QC ds (GG ds i p c.args).1:=by
 simp only [GG]
 split
 ·rename_i h;obtain ⟨h1,h2⟩:=h;have hl:i<p.1.length:=by rw [hs.len];exact (List.getElem?_eq_some_iff.1 hd).1
  generalize hn:AA ds p.1 1 c.args=n at *;have hz:∀t,0<=Eu ds p.1 t:=λt=>(Gq hs t).1;have hlo:loS ds p.1 (p.1.set i n):=by
   intro t ht;obtain ⟨so,m,x,ps⟩:=t;have h0:=hz (.mk so m x ps);simp only [Eu] at ht h0 ⊢;by_cases h8:so=8
   ·simp only [if_pos h8] at ht h0 ⊢;by_cases e:i=(Je ds x).toNat
    ·rw [<- e] at ht h0 ⊢;rw [Nu hl];omega
    ·rw [Nt e];omega
   ·simp only [if_neg h8] at ht h0 ⊢;omega
  show QC ds (p.1.set i n);intro j e hj hpos;by_cases hij:i=j
  ·subst hij;rw [Nu hl] at hpos ⊢;rw [hd] at hj;cases hj;exact ⟨c,hc,(Jz hlo hz c.args 1 1 (by omega) (by omega) (by omega)).1,by have:=(Jz hlo hz c.args 1 1 (by omega) (by omega) (by omega)).2;omega⟩
  ·rw [Nt hij] at hpos ⊢;obtain ⟨c',k1,k2,k3⟩:=ha j e hj hpos;obtain ⟨q1,q2⟩:=Jz hlo hz c'.args 1 1 (by omega) (by omega) k2;exact ⟨c',k1,q1,by omega⟩
 ·exact ha
theorem X5 {ds:List Dt} (h4:ds.length<=4) {i:Nat} {d:Dt} (hd:ds[i]?=some d):∀{l:List Cd} {p:List Int×Bool},(∀c∈l,c∈d.cons/\c.args.length<=3)->FT ds p.1->QC ds p.1->QC ds (Hl ds i p l).1
 | [],p,_,_,ha=>ha
 | c::r,p,hl,hs,ha=>by
  have hi:=(List.getElem?_eq_some_iff.1 hd).1;simp only [Hl];exact X5 h4 hd (λx hx=>hl x (by simp [hx])) (KM h4 hi (hl c (by simp)).2 hs).1 (ZO hd (hl c (by simp)).1 hs ha)
theorem QT {ds:List Dt} (h4:ds.length<=4) (h3:∀d∈ds,∀c∈d.cons,c.args.length<=3):∀{l:List Dt} {p:List Int×Bool} {i:Nat},l=ds.drop i->FT ds p.1->QC ds p.1->QC ds (Cl ds p i l).1
 | [],p,i,_,_,ha=>ha
 | d::r,p,i,hl,hs,ha=>by
  have hd:ds[i]?=some d:=by
   have:=congrArg (·[0]?) hl;simpa using this.symm
  have hr:r=ds.drop (i+1):=by
   have:=congrArg List.tail hl;simpa using this
  have hi:=(List.getElem?_eq_some_iff.1 hd).1;have hdm:=List.mem_of_getElem? hd;simp only [Cl];exact QT h4 h3 hr (SQ h4 hi (h3 d hdm) hs).1 (X5 h4 hd (λc hc=>⟨hc,h3 d hdm c hc⟩) hs ha)
def kS (ds:List Dt) (s:List Int):Prop:=∀i d,ds[i]?=some d->∀c∈d.cons,0<AA ds s 1 c.args->s.getD i 0≠0/\s.getD i 0<=AA ds s 1 c.args
theorem UL {ds:List Dt} {i:Nat}:∀{l:List Cd} {p:List Int×Bool},(Hl ds i p l).2=false->p.2=false/\(Hl ds i p l)=p/\∀c∈l,¬(0<AA ds p.1 1 c.args/\(p.1.getD i 0=0\/AA ds p.1 1 c.args<p.1.getD i 0))
 | [],p,h=>⟨h,rfl,λc hc=>by cases hc⟩
 | c::r,p,h=>by
  simp only [Hl] at h ⊢;obtain ⟨h1,h2,h3⟩:=UL h;by_cases hc:0<AA ds p.1 1 c.args/\(p.1.getD i 0=0\/AA ds p.1 1 c.args<p.1.getD i 0)
  ·simp only [GG,if_pos hc] at h1;cases h1
  ·have e:GG ds i p c.args=p:=by simp only [GG,if_neg hc]
   rw [e] at h1 h2 h3 ⊢;exact ⟨h1,h2,λx hx=>by rcases List.mem_cons.1 hx with rfl | hx;exact hc;exact h3 x hx⟩
theorem O3 {ds:List Dt}:∀{l:List Dt} {p:List Int×Bool} {i:Nat},(Cl ds p i l).2=false->p.2=false/\Cl ds p i l=p/\∀k d,l[k]?=some d->∀c∈d.cons,¬(0<AA ds p.1 1 c.args/\(p.1.getD (i+k) 0=0\/AA ds p.1 1 c.args<p.1.getD (i+k) 0))
 | [],p,i,h=>⟨h,rfl,λk d hd=>by simp at hd⟩
 | d::r,p,i,h=>by
  simp only [Cl] at h ⊢;obtain ⟨h1,h2,h3⟩:=O3 h;obtain ⟨k1,k2,k3⟩:=UL h1;rw [k2] at h1 h2 h3 ⊢;refine ⟨k1,h2,λk e he=>?_⟩;cases k with
  | zero=>simp at he;subst he;simpa using k3
  | succ k=>have:=h3 k e (by simpa using he);rw [show i+(k+1)=i+1+k by omega];exact this
theorem Ug {ds:List Dt} (ho:OkW ds):∀(f:Nat) (s:List Int),FT ds s->QC ds s->Is s<f->QC ds (IU ds f s)/\kS ds (IU ds f s)
 | 0,s,_,_,h=>by omega
 | f+1,s,hs,ha,h=>by
  have h3:∀d∈ds,∀c∈d.cons,c.args.length<=3:=λd hd=>(ho.lim d hd).2;obtain ⟨b1,b2,b3⟩:=LN ho.d4 (l:=ds) (p:=(s,false)) (i:=0) (by simp) h3 hs;have b4:=QT ho.d4 h3 (l:=ds) (p:=(s,false)) (i:=0) rfl hs ha;simp only [IU];cases hb:(Cl ds (s,false) 0 ds).2 with
  | true =>
   rcases b3 hb with h' | h'
   ·cases h'
   ·simp only [cond_true];exact Ug ho f _ b1 b4 (by simp only at h';omega)
  | false =>
   simp only [cond_false];refine ⟨b4,?_⟩;obtain ⟨_,e,h5⟩:=O3 hb;rw [e];intro i d hd c hc hp;have:=h5 i d hd c hc;simp only [Nat.zero_add] at this;have hz:0<=s.getD i 0:=by
    rcases Ls (s:=s) (i:=i) with hm | hm
    ·exact (hs.le _ hm).1
    ·omega
   constructor
   ·intro e;exact this ⟨hp,.inl e⟩
   ·apply Int.not_lt.1;intro e;exact this ⟨hp,.inr e⟩
theorem eD {ds:List Dt} (ho:OkW ds):QC ds (Ds ds)/\kS ds (Ds ds):=by
 refine Ug ho _ _ (Jx ds) (λi d hd h=>?_) ?_
 ·have:(List.replicate ds.length (0:Int)).getD i 0=0:=by
   rcases Ls (s:=List.replicate ds.length (0:Int)) (i:=i) with hm | hm
   ·exact List.eq_of_mem_replicate hm
   ·exact hm
  omega
 ·have:=S9 (List.replicate ds.length 0) (λx hx=>by rw [List.eq_of_mem_replicate hx];omega);have:=ho.d4;simp at *;omega
def S5 (ds:List Dt) (t h:Ty):Prop:=h∈A9 ds t\/(Ba t=1/\∃n,h = .mk 1 n [] [] /\ -1000000000<=n/\n<=1000000000)
mutual
def E6 (ds:List Dt):Mi->Prop
 | .mk ty _ hd ks=>(Ba hd=0->ks=[])/\(Ba hd≠0->S5 ds ty hd/\ks.map Mi.ty=(Bj ds ty (E4 hd)).1)/\UN ds ks
def UN (ds:List Dt):List Mi->Prop
 | []=>True
 | k::r=>E6 ds k/\UN ds r
end
theorem RX (ds:List Dt):∀l:List Mi,UN ds l↔∀k∈l,E6 ds k
 | []=>by simp [UN]
 | k::r=>by simp [UN,RX ds r]
theorem BQ {ds:List Dt} {m:Mi}:E6 ds m↔(Ba m.hd=0->m.ks=[])/\(Ba m.hd≠0->S5 ds m.ty m.hd/\m.ks.map Mi.ty=(Bj ds m.ty (E4 m.hd)).1)/\∀k∈m.ks,E6 ds k:=by
 obtain ⟨ty,nt,hd,ks⟩:=m;simp only [E6,RX,Mi.ty,Mi.hd,Mi.ks]
mutual
def Iv:Mi->Nat
 | .mk _ _ _ ks=>FH ks+1
def FH:List Mi->Nat
 | []=>0
 | k::r=>max (Iv k) (FH r)
end
theorem Pz {l:List Mi} {n:Nat}:FH l<=n↔∀k∈l,Iv k<=n:=by
 induction l with
 | nil=>simp [FH]
 | cons k r ih=>simp only [FH,List.mem_cons,forall_eq_or_imp,<- ih];omega
theorem GT (m:Mi):Iv m=FH m.ks+1:=by obtain ⟨a,b,c,d⟩:=m;rfl
theorem Oa {m k:Mi} (h:k∈m.ks):Iv k+1<=Iv m:=by
 rw [GT m];have:=(Pz (l:=m.ks) (n:=FH m.ks)).1 (Nat.le_refl _) k h;omega
theorem RW (ds:List Dt) (t:Ty):E6 ds (As t):=BQ.2 ⟨λ_=>rfl,λh=>absurd rfl h,λk hk=>by simp [As,Mi.ks] at hk⟩
theorem cI (l:List Ty):(l.map As).map Mi.ty=l:=by
 rw [List.map_map]
 conv=>rhs;rw [<- List.map_id l]
 exact List.map_congr_left λt _=>rfl
theorem S4 {ds:List Dt} {t h:Ty} (hh:S5 ds t h):Ba h≠0/\C7 h=[]:=by
 rcases hh with hh | ⟨_,n,rfl,_⟩
 ·exact ⟨(BL hh).2,(BL hh).1⟩
 ·exact ⟨by simp [Ba],rfl⟩
theorem RU {ds:List Dt} {m:Mi} {h:Ty} (hh:S5 ds m.ty h):E6 ds (AY ds m h):=by
 refine BQ.2 ⟨λe=>absurd e (S4 hh).1,λ_=>⟨hh,cI _⟩,λk hk=>?_⟩;simp only [AY,Mi.ks,List.mem_map] at hk;obtain ⟨t,_,rfl⟩:=hk;exact RW ds t
theorem Dq {ds:List Dt} {m:Mi} (h:E6 ds m):E6 ds (Af ds m):=by
 unfold Af
 split
 ·exact h
 ·split
  ·rename_i x hx;exact RU (.inl (Gv hx).1)
  ·exact h
theorem RB (ds:List Dt) (m:Mi) (h:Ty):Iv (AY ds m h)<=2:=by
 rw [GT];have:FH (AY ds m h).ks<=1:=Pz.2 λk hk=>by
  simp only [AY,Mi.ks,List.mem_map] at hk;obtain ⟨t,_,rfl⟩:=hk;simp [As,Iv,FH]
 omega
theorem Nr (ds:List Dt) (m:Mi):Iv (Af ds m)<=max (Iv m) 2:=by
 unfold Af
 split
 ·omega
 ·split
  ·rename_i x hx;have:=RB ds m x;omega
  ·omega
theorem LX {ds:List Dt} {m:Mi}:∀{l:List Ty} {b:Option (Ty×Int)},Cb ds m b l=none->b=none/\∀h∈l,¬(0<Bl ds m h/\B1 m.nt h=false)
 | [],b,h=>⟨h,λx hx=>by cases hx⟩
 | x::r,b,h=>by
  simp only [Cb] at h;obtain ⟨h1,h2⟩:=LX h;by_cases hc:0<Bl ds m x/\B1 m.nt x=false/\D2 b (Bl ds m x)=true
  ·rw [if_pos hc] at h1;cases h1
  ·rw [if_neg hc] at h1;subst h1;refine ⟨rfl,λy hy=>?_⟩;rcases List.mem_cons.1 hy with rfl | hy
   ·intro h';exact hc ⟨h'.1,h'.2,rfl⟩
   ·exact h2 y hy
theorem FX {ds:List Dt} {m:Mi}:∀{l:List Ty} {b:Option (Ty×Int)} {p:Ty×Int},Cb ds m b l=some p ->
  (b=some p\/(p.1∈l/\p.2=Bl ds m p.1/\0<p.2/\B1 m.nt p.1=false))/\(∀b',b=some b'->p.2<=b'.2)/\(∀h∈l,0<Bl ds m h->B1 m.nt h=false->p.2<=Bl ds m h)
 | [],b,p,h=>by
  simp only [Cb] at h;subst h;exact ⟨.inl rfl,λb' hb=>by cases hb;exact Int.le_refl _,λx hx=>by cases hx⟩
 | x::r,b,p,h=>by
  simp only [Cb] at h;obtain ⟨h1,h2,h3⟩:=FX h;by_cases hc:0<Bl ds m x/\B1 m.nt x=false/\D2 b (Bl ds m x)=true
  ·rw [if_pos hc] at h1 h2;have h2x:p.2<=Bl ds m x:=h2 _ rfl;refine ⟨?_,λb' hb=>?_,λy hy h0 hn=>?_⟩
   ·rcases h1 with h1 | h1
    ·cases h1;exact .inr ⟨by simp,rfl,hc.1,hc.2.1⟩
    ·exact .inr ⟨by simp [h1.1],h1.2⟩
   ·subst hb;have:=of_decide_eq_true hc.2.2;omega
   ·rcases List.mem_cons.1 hy with rfl | hy
    ·exact h2x
    ·exact h3 y hy h0 hn
  ·rw [if_neg hc] at h1 h2;refine ⟨?_,h2,λy hy h0 hn=>?_⟩
   ·rcases h1 with h1 | h1
    ·exact .inl h1
    ·exact .inr ⟨by simp [h1.1],h1.2⟩
   ·rcases List.mem_cons.1 hy with rfl | hy
    ·cases b with
     | none=>exact absurd ⟨h0,hn,rfl⟩ hc
     | some b' =>
      have:=h2 b' rfl;have hd:¬(Bl ds m y<b'.2):=λhl=>hc ⟨h0,hn,decide_eq_true hl⟩;omega
    ·exact h3 y hy h0 hn
theorem H8 {ds:List Dt} (ho:OkW ds) {t h:Ty} (hn:AD ds t=true) (hh:h∈A9 ds t) :
  (Ba t=8/\Ba h=4/\(Bj ds t (E4 h)).2=true)\/(Ba t=2/\∃n,h = .mk 2 n [] []/\(n=0\/n=1))\/(Ba t=3/\h = .mk 3 0 [] []):=by
 obtain ⟨so,n,x,ps⟩:=t;simp only [A9] at hh
 split at hh
 ·rename_i e;subst e;rcases List.mem_cons.1 hh with rfl | hh
  ·exact .inr (.inl ⟨rfl,0,rfl,.inl rfl⟩)
  ·rw [List.mem_singleton.1 hh];exact .inr (.inl ⟨rfl,1,rfl,.inr rfl⟩)
 ·split at hh
  ·rename_i e;subst e;rw [List.mem_singleton.1 hh];exact .inr (.inr ⟨rfl,rfl⟩)
  ·split at hh
   ·rename_i e;subst e
    split at hh
    ·rename_i d hd;obtain ⟨c,hc,rfl⟩:=List.mem_map.1 hh;obtain ⟨k,hk,e⟩:=List.getElem_of_mem hc;have:=Qa ho (n:=n) (ps:=ps) hd (k:=k) (c:=c) (by rw [List.getElem?_eq_getElem hk,e]);exact .inl ⟨rfl,rfl,by rw [show E4 (.mk 4 0 c.name [])=c.name from rfl,this]⟩
    ·cases hh
   ·cases hh
theorem TK {ds:List Dt} (ho:OkW ds) {t h:Ty} {vs:List Ty} (hn:AD ds t=true) (hh:S5 ds t h) (hl:(Bj ds t (E4 h)).1.length=vs.length) (hv:JO ds (Bj ds t (E4 h)).1 vs=true):Lc ds t (DT h vs)=true:=by
 rw [VG];rcases hh with hh | ⟨h1,n,rfl,_⟩
 ·rcases H8 ho hn hh with ⟨h1,h2,h3⟩ | ⟨h1,n,rfl,_⟩ | ⟨h1,rfl⟩
  ·obtain ⟨so,m,x,ps⟩:=t;obtain ⟨f,k,y,qs⟩:=h;simp only [Ba,E4] at *;subst h1;subst h2;simp [S6,DT,hl,h3,hv]
  ·obtain ⟨so,m,x,ps⟩:=t;simp only [Ba] at h1;subst h1;simp [S6,DT]
  ·obtain ⟨so,m,x,ps⟩:=t;simp only [Ba] at h1;subst h1;simp [S6,DT]
 ·obtain ⟨so,m,x,ps⟩:=t;simp only [Ba] at h1;subst h1;simp [S6,DT]
theorem TI {ds:List Dt} (ho:OkW ds) {t h:Ty} (hn:AD ds t=true) (hh:S5 ds t h) {vs:List Ty} (hv:Gz vs=true):Dn (DT h vs)=true/\An (DT h vs)=1+Ai vs:=by
 obtain ⟨f,k,y,qs⟩:=h;refine ⟨?_,by simp [DT,An]⟩;simp only [DT,Dn,hv,Bool.and_true];refine decide_eq_true ?_;rcases hh with hh | ⟨_,n,e,hb⟩
 ·have hk:∀x∈A9 ds t,∀a b c d,x = .mk a b c d->0<=b/\b<=1:=by
   intro x hx a b c d e;rcases H8 ho hn hx with ⟨h1,h2,h3⟩ | ⟨h1,n,h2,h3⟩ | ⟨h1,h2⟩
   ·subst e;obtain ⟨so,m,z,ps⟩:=t;simp only [Ba] at h1;subst h1;simp only [A9] at hx;rw [if_neg (by decide),if_neg (by decide),if_pos trivial] at hx
    split at hx
    ·obtain ⟨q,_,e⟩:=List.mem_map.1 hx;cases e;omega
    ·cases hx
   ·rw [e] at h2;cases h2;omega
   ·rw [e] at h2;cases h2;omega
  have:=hk _ hh _ _ _ _ rfl;omega
 ·cases e;omega
theorem H4 {ds:List Dt} {f:Nat} {m:Mi} (h:Ba m.hd≠0):Bc ds (f+1) m=(B4 (Bc ds f) m.ks).map (·.map (DT m.hd)):=by
 show (if Ba m.hd=0 then _ else _)=_;rw [if_neg h]
theorem IR {ds:List Dt} {f:Nat} {m:Mi} (h:Ba m.hd=0) (h1:Ba m.ty=1):Bc ds (f+1) m=some (some (Cy m.nt)):=by
 show (if Ba m.hd=0 then _ else _)=_;rw [if_pos h,if_pos h1]
theorem IQ {ds:List Dt} {f:Nat} {m:Mi} (h:Ba m.hd=0) (h1:Ba m.ty=4\/Ba m.ty=5\/Ba m.ty=6\/Ba m.ty=7):Bc ds (f+1) m=some (some (.mk 5 0 [] [])):=by
 show (if Ba m.hd=0 then _ else _)=_;rw [if_pos h,if_neg (by omega),if_pos h1]
theorem EY {ds:List Dt} {f:Nat} {m:Mi} (h:Ba m.hd=0) (h1:¬Ba m.ty=1) (h4:¬(Ba m.ty=4\/Ba m.ty=5\/Ba m.ty=6\/Ba m.ty=7)):Bc ds (f+1) m=match A8 ds m with
  | none=>some none
  | some h=>Bc ds (f+1) (AY ds m h):=by
 have e:Bc ds (f+1) m=match A8 ds m with
  | none=>some none
  | some h=>(B4 (Bc ds f) (AY ds m h).ks).map (·.map (DT h)):=by
  show (if Ba m.hd=0 then _ else _)=_;rw [if_pos h,if_neg h1,if_neg h4];rfl
 rw [e];cases hq:A8 ds m with
 | none=>rfl
 | some x=>exact (H4 (m:=AY ds m x) (BL (Hx hq)).2).symm
abbrev DR (ds:List Dt) (t:Ty):Int:=Eu ds (Ds ds) t
theorem Gr {ds:List Dt} (ho:OkW ds) (t:Ty):0<=DR ds t/\DR ds t<=256:=by
 have h:=Gq (I5 ho) t;have h4:=Yx (n:=Mc (Ds ds)) (by have:=IK (Ds ds);rw [(I5 ho).len] at this;have:=ho.d4;omega);simp only [DR];omega
theorem LR {ds:List Dt} (ho:OkW ds) {l:List Ty} (h:l.length<=3):0<=AA ds (Ds ds) 1 l/\AA ds (Ds ds) 1 l<=769:=by
 have hb:=El (I5 ho) l 1 (by omega);have h4:=Yx (n:=Mc (Ds ds)) (by have:=IK (Ds ds);rw [(I5 ho).len] at this;have:=ho.d4;omega);generalize 4 ^ Mc (Ds ds)=M at *;have:(l.length:Int)*(M:Int)<=3*256:=Int.mul_le_mul (by omega) (by omega) (by omega) (by omega);omega
theorem Lm {ds:List Dt} {g:Mi->Option (Option Ty)}:∀{L:List Ty},(∀t∈L,∃v,g (As t)=some (some v)/\(An v:Int)=DR ds t/\Lc ds t v=true/\Dn v=true)->(∀t∈L,DR ds t≠0) ->
  ∃vs,B4 g (L.map As)=some (some vs)/\L.length=vs.length/\JO ds L vs=true/\Gz vs=true/\∀n,AA ds (Ds ds) n L=n+Ai vs
 | [],_,_=>⟨[],rfl,rfl,rfl,rfl,λn=>by simp [AA,Ai]⟩
 | t::r,h,hz=>by
  obtain ⟨v,v1,v2,v3,v4⟩:=h t (by simp);obtain ⟨vs,w1,w2,w3,w4,w5⟩:=Lm (L:=r) (λx hx=>h x (by simp [hx])) (λx hx=>hz x (by simp [hx]));refine ⟨v::vs,?_,by simp [w2],by simp [JO,v3,w3],by simp [Gz,v4,w4],λn=>?_⟩
  ·simp only [List.map_cons,B4,v1,w1]
  ·have:=hz t (by simp);simp only [AA,Ai];rw [if_neg this,w5];simp only [DR] at v2;omega
theorem R3 {ds:List Dt} {g:Mi->Option (Option Ty)}:∀{L:List Ty},(∀t∈L,∃r,g (As t)=some r/\(DR ds t=0->r=none))->(∃t∈L,DR ds t=0)->B4 g (L.map As)=some none
 | [],_,⟨t,ht,_⟩=>by cases ht
 | x::r,h,⟨t,ht,h0⟩=>by
  obtain ⟨q,q1,q2⟩:=h x (by simp);simp only [List.map_cons,B4,q1];cases q with
  | none=>rfl
  | some v =>
   simp only;rcases List.mem_cons.1 ht with rfl | ht
   ·cases q2 h0
   ·rw [R3 (L:=r) (λy hy=>h y (by simp [hy])) ⟨t,ht,h0⟩]
theorem Pc (nt:List Ty):∀(f:Nat) (i:Int),0<=i->∃n,Ng nt f i = .mk 1 n [] [] /\ -(i+f)<=n/\n<=i+f
 | 0,i,hi=>⟨i,rfl,by omega,by omega⟩
 | f+1,i,hi=>by
  simp only [Ng]
  split
  ·exact ⟨i,rfl,by omega,by omega⟩
  ·split
   ·exact ⟨0-i,rfl,by omega,by omega⟩
   ·obtain ⟨n,h1,h2,h3⟩:=Pc nt f (i+1) (by omega);exact ⟨n,h1,by omega,by omega⟩
theorem X4 {ds:List Dt} (ho:OkW ds) {m:Mi} (hn:AD ds m.ty=true) (h8:Ba m.ty=8) :
  (DR ds m.ty=0->∀h∈A9 ds m.ty,¬0<Bl ds m h)/\(DR ds m.ty≠0->(∃h∈A9 ds m.ty,0<Bl ds m h/\Bl ds m h<=DR ds m.ty)/\∀h∈A9 ds m.ty,0<Bl ds m h->DR ds m.ty<=Bl ds m h):=by
 obtain ⟨⟨so,n,x,ps⟩,nt,hdm,ks⟩:=m;simp only [Ba,Mi.ty] at *;subst h8;obtain ⟨hp,d,hd⟩:=Cu hn 8 n x ps rfl rfl;obtain ⟨f1,f2⟩:=eD ho;have hdv:(Je ds x).toNat=(AP x 0 ds).toNat:=by simp [Je,hp]
 have hone:DR ds (.mk 8 n x ps)=(Ds ds).getD (AP x 0 ds).toNat 0:=by simp only [DR,Eu,if_true];rw [hdv]
 have hH:A9 ds (.mk 8 n x ps)=d.cons.map De:=by
  rw [show A9 ds (.mk 8 n x ps)=(match ds[(AP x 0 ds).toNat]? with | some d=>d.cons.map λc=>Ty.mk 4 0 c.name [] | none=>[]) from rfl,hd];rfl
 have hc:∀c∈d.cons,Bl ds (.mk (.mk 8 n x ps) nt hdm ks) (De c)=AA ds (Ds ds) 1 c.args:=by
  intro c hc;obtain ⟨k,hk,e⟩:=List.getElem_of_mem hc;simp only [Bl,De,Ba,if_true,E4,Mi.ty];rw [Qa ho hd (k:=k) (c:=c) (by rw [List.getElem?_eq_getElem hk,e])]
 have h0:=(Gr ho (.mk 8 n x ps)).1;rw [hone] at h0 ⊢;rw [hH];constructor
 ·intro hz h hh hpos;obtain ⟨c,hcm,rfl⟩:=List.mem_map.1 hh;rw [hc c hcm] at hpos;exact (f2 _ d hd c hcm hpos).1 hz
 ·intro hz;constructor
  ·obtain ⟨c,hcm,c1,c2⟩:=f1 _ d hd (by omega);exact ⟨De c,List.mem_map_of_mem hcm,by rw [hc c hcm];exact c1,by rw [hc c hcm];exact c2⟩
  ·intro h hh hpos;obtain ⟨c,hcm,rfl⟩:=List.mem_map.1 hh;rw [hc c hcm] at hpos ⊢;exact (f2 _ d hd c hcm hpos).2
def kF (ds:List Dt) (t:Ty) (r:Option Ty):Prop:=(DR ds t=0->r=none)/\(DR ds t≠0->∃v,r=some v/\(An v:Int)=DR ds t/\Lc ds t v=true/\Dn v=true)
theorem Of {ds:List Dt} (ho:OkW ds) {m:Mi} {h:Ty} (hn:AD ds m.ty=true) (hh:S5 ds m.ty h):Bl ds m h=AA ds (Ds ds) 1 (Bj ds m.ty (E4 h)).1:=by
 unfold Bl
 split
 ·rfl
 ·rename_i h4;have:Ba m.ty≠8:=by
   rcases hh with hh | ⟨h1,_⟩
   ·rcases H8 ho hn hh with ⟨_,h2,_⟩ | ⟨h1,_⟩ | ⟨h1,_⟩
    ·exact absurd h2 h4
    ·omega
    ·omega
   ·omega
  rw [M7 this];rfl
theorem QX {ds:List Dt} (ho:OkW ds):∀{l:List Ty} {n:Int},0<AA ds (Ds ds) n l->n<=AA ds (Ds ds) n l/\∀t∈l,n+DR ds t<=AA ds (Ds ds) n l
 | [],n,h=>⟨by simp [AA],λt ht=>by cases ht⟩
 | x::r,n,h=>by
  simp only [AA] at h ⊢;by_cases e:Eu ds (Ds ds) x=0
  ·rw [if_pos e] at h;omega
  ·rw [if_neg e] at h ⊢;obtain ⟨h1,h2⟩:=QX ho h;have hx:=(Gr ho x).1;simp only [DR] at *;refine ⟨by omega,λt ht=>?_⟩;rcases List.mem_cons.1 ht with rfl | ht
   ·omega
   ·have:=h2 t ht;omega
theorem IS {ds:List Dt} (ho:OkW ds) {f:Nat} {m:Mi} {h:Ty} (hn:AD ds m.ty=true) (hh:S5 ds m.ty h) (ih:∀t,t∈(Bj ds m.ty (E4 h)).1->∃r,Bc ds f (As t)=some r/\kF ds t r) :
  ∃r,Bc ds (f+1) (AY ds m h)=some r/\(Bl ds m h=0->r=none)/\(0<Bl ds m h->∃v,r=some v/\(An v:Int)=Bl ds m h/\Lc ds m.ty v=true/\Dn v=true):=by
 have hk:=S4 hh;have e1:Bc ds (f+1) (AY ds m h)=(B4 (Bc ds f) ((Bj ds m.ty (E4 h)).1.map As)).map (·.map (DT h)):=by
  rw [H4 (m:=AY ds m h) hk.1];rfl
 rw [e1];clear e1;have hcost:=Of ho hn hh;have hlen:=Fg ho m.ty (E4 h);rw [hcost];by_cases hz:∃t∈(Bj ds m.ty (E4 h)).1,DR ds t=0
 ·have hno:=R3 (ds:=ds) (g:=Bc ds f) (λt ht=>let ⟨r,r1,r2,_⟩:=ih t ht;⟨r,r1,r2⟩) hz;obtain ⟨t,ht,h0⟩:=hz;rw [hno,MS ht h0];exact ⟨none,rfl,λ_=>rfl,λh=>by omega⟩
 ·have hz:∀t∈(Bj ds m.ty (E4 h)).1,DR ds t≠0:=λt ht e=>hz ⟨t,ht,e⟩;obtain ⟨vs,w1,w2,w3,w4,w5⟩:=Lm (ds:=ds) (g:=Bc ds f) (λt ht=>let ⟨r,r1,_,r3⟩:=ih t ht;let ⟨v,v1,v2⟩:=r3 (hz t ht);⟨v,by rw [r1,v1],v2⟩) hz;have hi:=TI ho hn hh w4;rw [w1,w5 1];exact ⟨some (DT h vs),rfl,λh=>by omega,λ_=>⟨_,rfl,by rw [hi.2];omega,TK ho hn hh w2 w3,hi.1⟩⟩
theorem Np {ds:List Dt} (ho:OkW ds):∀(k:Nat) (t:Ty),AD ds t=true->O6 t=true->DR ds t<=k->∀f,k+2<=f->∃r,Bc ds f (As t)=some r/\kF ds t r:=by
 intro k
 induction k with
 | zero =>
  intro t hn hs hk f hf;obtain ⟨f,rfl⟩:∃g,f=g+1:=⟨f-1,by omega⟩
  have hb:=(Gr ho t).1;have h8:Ba t=8:=by
   obtain ⟨so,n,x,ps⟩:=t;by_cases e:so=8
   ·exact e
   ·simp only [DR,Eu,if_neg e] at hk;omega
  have hc:=(X4 ho (m:=As t) hn h8).1 (by show DR ds t=0;omega);have hsm:A8 ds (As t)=none:=by
   cases hq:A8 ds (As t) with
   | none=>rfl
   | some h =>
    simp only [A8,Option.map_eq_some_iff] at hq;obtain ⟨p,hp,rfl⟩:=hq;obtain ⟨q1,_,_⟩:=FX hp;rcases q1 with q1 | ⟨q1,q2,q3,_⟩
    ·cases q1
    ·exact absurd (by omega) (hc _ q1)
  refine ⟨none,?_,λ_=>rfl,λh=>absurd (by omega) h⟩;rw [EY (m:=As t) rfl (show ¬Ba t=1 by omega) (show ¬(Ba t=4\/Ba t=5\/Ba t=6\/Ba t=7) by omega),hsm]
 | succ k ih =>
  intro t hn hs hk f hf;obtain ⟨f,rfl⟩:∃g,f=g+1:=⟨f-1,by omega⟩
  have hs':=of_decide_eq_true hs;have h1:Ba t≠8->DR ds t=1:=λh=>by obtain ⟨so,n,x,ps⟩:=t;simp only [DR,Eu];exact if_neg h
  by_cases t1:Ba t=1
  ·have ho1:=h1 (by omega);refine ⟨some (Cy []),?_,λh=>by omega,λ_=>⟨_,rfl,by rw [ho1];rfl,?_,rfl⟩⟩
   ·exact IR (m:=As t) rfl t1
   ·obtain ⟨so,n,x,ps⟩:=t;simp only [Ba] at t1;subst t1;rfl
  by_cases t4:Ba t=4\/Ba t=5\/Ba t=6\/Ba t=7
  ·have ho1:=h1 (by omega);refine ⟨some (.mk 5 0 [] []),?_,λh=>by omega,λ_=>⟨_,rfl,by rw [ho1];rfl,?_,rfl⟩⟩
   ·exact IQ (m:=As t) rfl t4
   ·obtain ⟨so,n,x,ps⟩:=t;simp only [Ba] at t4;simp only [Lc];rw [if_neg (by omega),if_neg (by omega),if_neg (by omega),if_neg (by omega)];rfl
  have hun:=EY (ds:=ds) (f:=f) (m:=As t) rfl t1 t4;rw [hun];have hall:∀h,h∈A9 ds t->0<Bl ds (As t) h->Bl ds (As t) h<=k+1->∃r,Bc ds (f+1) (AY ds (As t) h)=some r/\(Bl ds (As t) h=0->r=none)/\(0<Bl ds (As t) h->∃v,r=some v/\(An v:Int)=Bl ds (As t) h/\Lc ds t v=true/\Dn v=true):=by
   intro h hh h0 hc;refine IS ho (m:=As t) hn (.inl hh) λa ha=>?_;have ha:a∈(Bj ds t (E4 h)).1:=ha;have hna:=Dr ho.okd (t:=t) (s:=E4 h);rw [Dk,List.all_eq_true] at hna;rw [Of ho (m:=As t) hn (.inl hh)] at h0 hc;have:=(QX ho h0).2 a ha;exact ih a (hna a ha) (LC ho a ha) (by omega) f (by omega)
  have hpk:∀h,A8 ds (As t)=some h->h∈A9 ds t/\0<Bl ds (As t) h/\∀h'∈A9 ds t,0<Bl ds (As t) h'->Bl ds (As t) h<=Bl ds (As t) h':=λh hq=>by
   simp only [A8,Option.map_eq_some_iff] at hq;obtain ⟨p,hp,rfl⟩:=hq;obtain ⟨q1,_,q3⟩:=FX hp;rcases q1 with q1 | ⟨q1,q2,q4,_⟩
   ·cases q1
   ·exact ⟨q1,by omega,λh' hh' h0=>by rw [<- q2];exact q3 h' hh' h0 rfl⟩
  have hpn:A8 ds (As t)=none->∀h'∈A9 ds t,¬0<Bl ds (As t) h':=λhq h' hh' h0=>by
   simp only [A8,Option.map_eq_none_iff] at hq;exact (LX hq).2 h' hh' ⟨h0,rfl⟩
  by_cases t8:Ba t=8
  ·have hc:=X4 ho (m:=As t) hn t8;have hc1:DR ds t=0->∀h∈A9 ds t,¬0<Bl ds (As t) h:=hc.1;have hc2:DR ds t≠0->(∃h∈A9 ds t,0<Bl ds (As t) h/\Bl ds (As t) h<=DR ds t)/\∀h∈A9 ds t,0<Bl ds (As t) h->DR ds t<=Bl ds (As t) h:=hc.2;cases hq:A8 ds (As t) with
   | none =>
    refine ⟨none,rfl,λ_=>rfl,λhz=>?_⟩;obtain ⟨⟨h,h1,h2,_⟩,_⟩:=hc2 hz;exact absurd h2 (hpn hq h h1)
   | some h =>
    obtain ⟨p1,p2,p3⟩:=hpk h hq;have hz:DR ds t≠0:=λe=>hc1 e h p1 p2;obtain ⟨⟨h0,a1,a2,a3⟩,a4⟩:=hc2 hz;have:=p3 h0 a1 a2;have:=a4 h p1 p2;obtain ⟨r,r1,_,r3⟩:=hall h p1 p2 (by omega);obtain ⟨v,v1,v2,v3⟩:=r3 p2;exact ⟨r,r1,λe=>absurd e hz,λ_=>⟨v,v1,by omega,v3⟩⟩
  ·have ho1:=h1 t8;have hcost:∀h∈A9 ds t,Bl ds (As t) h=1:=λh hh=>by
    unfold Bl;rw [if_neg];intro h4;rcases H8 ho hn hh with ⟨h8,_⟩ | ⟨_,n,rfl,_⟩ | ⟨_,rfl⟩
    ·exact t8 h8
    ·simp [Ba] at h4
    ·simp [Ba] at h4
   have hne:∃h,h∈A9 ds t:=by
    obtain ⟨so,n,x,ps⟩:=t;simp only [Ba] at *;by_cases e:so=2
    ·subst e;exact ⟨.mk 2 0 [] [],by simp [A9]⟩
    ·have e:so=3:=by omega
     subst e;exact ⟨.mk 3 0 [] [],by simp [A9]⟩
   cases hq:A8 ds (As t) with
   | none =>
    obtain ⟨h,hh⟩:=hne;exact absurd (by rw [hcost h hh];omega) (hpn hq h hh)
   | some h =>
    obtain ⟨p1,p2,p3⟩:=hpk h hq;have hch:=hcost h p1;obtain ⟨r,r1,_,r3⟩:=hall h p1 p2 (by omega);obtain ⟨v,v1,v2,v3⟩:=r3 p2;exact ⟨r,r1,λe=>by omega,λ_=>⟨v,v1,by omega,v3⟩⟩
theorem bL {ds:List Dt} (ho:OkW ds) {f:Nat} (hf:770<=f) {m:Mi} (hn:AD ds m.ty=true) (hs:O6 m.ty=true) (hnt:m.nt.length<=1000000) (hh:Ba m.hd=0) :
  ∃r,Bc ds (f+1) m=some r/\∀v,r=some v->An v<=769/\Lc ds m.ty v=true/\Dn v=true:=by
 have hs':=of_decide_eq_true hs;by_cases t1:Ba m.ty=1
 ·refine ⟨_,IR hh t1,λv hv=>?_⟩;cases hv;obtain ⟨n,e,e1,e2⟩:=Pc m.nt m.nt.length 0 (by omega);rw [Cy,e];refine ⟨by simp [An,Ai],?_,?_⟩
  ·revert t1;generalize m.ty=t;obtain ⟨so,n,x,ps⟩:=t;intro t1;simp only [Ba] at t1;subst t1;rfl
  ·simp only [Dn,Gz,Bool.and_true];exact decide_eq_true (by omega)
 by_cases t4:Ba m.ty=4\/Ba m.ty=5\/Ba m.ty=6\/Ba m.ty=7
 ·refine ⟨_,IQ hh t4,λv hv=>?_⟩;cases hv;refine ⟨by simp [An,Ai],?_,rfl⟩;revert t4;generalize m.ty=t;obtain ⟨so,n,x,ps⟩:=t;intro t4;simp only [Ba] at t4;simp only [Lc];rw [if_neg (by omega),if_neg (by omega),if_neg (by omega),if_neg (by omega)];rfl
 rw [EY hh t1 t4];cases hq:A8 ds m with
 | none=>exact ⟨none,rfl,λv hv=>by cases hv⟩
 | some h =>
  have hm:=Hx hq;simp only [A8,Option.map_eq_some_iff] at hq;obtain ⟨p,hp,rfl⟩:=hq;obtain ⟨q1,_,_⟩:=FX hp;rcases q1 with q1 | ⟨_,q2,q3,_⟩
  ·cases q1
  have hce:=Of ho hn (.inl hm);have hup:=(LR ho (Fg ho m.ty (E4 p.1))).2;obtain ⟨r,r1,_,r3⟩:=IS ho (f:=f) hn (.inl hm) λa ha=>by
   have hna:=Dr ho.okd (t:=m.ty) (s:=E4 p.1);rw [Dk,List.all_eq_true] at hna;exact Np ho 256 a (hna a ha) (LC ho a ha) (Gr ho a).2 f (by omega)
  obtain ⟨v,v1,v2,v3⟩:=r3 (by omega);refine ⟨r,r1,λw hw=>?_⟩;rw [v1] at hw;cases hw;exact ⟨by omega,v3⟩
theorem Pm {ds:List Dt} {g:Mi->Option (Option Ty)} {B:Nat}:∀{ks:List Mi},(∀k∈ks,∃r,g k=some r/\∀v,r=some v->An v<=B/\Lc ds k.ty v=true/\Dn v=true) ->
  ∃o,B4 g ks=some o/\∀vs,o=some vs->ks.length=vs.length/\JO ds (ks.map Mi.ty) vs=true/\Gz vs=true/\Ai vs<=ks.length*B
 | [],_=>⟨some [],rfl,λvs h=>by cases h;exact ⟨rfl,rfl,rfl,by simp [Ai]⟩⟩
 | k::r,h=>by
  obtain ⟨x,x1,x2⟩:=h k (by simp);obtain ⟨o,o1,o2⟩:=Pm (ks:=r) (λy hy=>h y (by simp [hy]));cases x with
  | none=>exact ⟨none,by simp [B4,x1],λvs h=>by cases h⟩
  | some v =>
   obtain ⟨v1,v2,v3⟩:=x2 v rfl;cases o with
   | none=>exact ⟨none,by simp [B4,x1,o1],λvs h=>by cases h⟩
   | some vs =>
    obtain ⟨w1,w2,w3,w4⟩:=o2 vs rfl;refine ⟨some (v::vs),by simp [B4,x1,o1],λus h=>?_⟩;cases h;refine ⟨by simp [w1],by simp [JO,v2,w2],by simp [Gz,v3,w3],?_⟩;simp only [Ai,List.length_cons,Nat.add_mul];omega
theorem YA {ds:List Dt} (ho:OkW ds) {N:Nat} (hN:N<=1000000):∀(H:Nat) (m:Mi),HH ds N m=true->E6 ds m->Iv m<=H->∀f,H+771<=f ->
  ∃r,Bc ds f m=some r/\∀v,r=some v->An v<=1000*4 ^ H/\Lc ds m.ty v=true/\Dn v=true:=by
 intro H
 induction H with
 | zero=>intro m _ _ h;rw [GT] at h;omega
 | succ H ih =>
  intro m hw hc hg f hf;obtain ⟨f,rfl⟩:∃g,f=g+1:=⟨f-1,by omega⟩
  have hwi:=Be.1 hw;have hci:=BQ.1 hc;have hp1:1<=4 ^ H:=Nat.one_le_pow _ _ (by decide);have hp2:4 ^ (H+1)=4*4 ^ H:=by rw [Nat.pow_succ];omega
  by_cases hh:Ba m.hd=0
  ·obtain ⟨r,r1,r2⟩:=bL ho (f:=f) (by omega) hwi.1.1 hwi.2.1.2 (by omega) hh;exact ⟨r,r1,λv hv=>by obtain ⟨a,b⟩:=r2 v hv;exact ⟨by omega,b⟩⟩
  ·rw [H4 hh];obtain ⟨o,o1,o2⟩:=Pm (ds:=ds) (g:=Bc ds f) (B:=1000*4 ^ H) (ks:=m.ks) λk hk=>ih k (hwi.2.2 k hk) (hci.2.2 k hk) (by have:=Oa hk;omega) f (by omega);refine ⟨o.map (DT m.hd),by rw [o1];rfl,λv hv=>?_⟩;cases o with
   | none=>cases hv
   | some vs =>
    simp only [Option.map_some,Option.some.injEq] at hv;obtain ⟨w1,w2,w3,w4⟩:=o2 vs rfl;obtain ⟨c1,c2⟩:=hci.2.1 hh;rw [c2] at w2;have hi:=TI ho hwi.1.1 c1 w3;have hl:(Bj ds m.ty (E4 m.hd)).1.length=vs.length:=by rw [<- c2,List.length_map,w1]
    have h3:=hwi.1.2.1;subst hv;refine ⟨?_,TK ho hwi.1.1 c1 hl w2,hi.1⟩;rw [hi.2];have:m.ks.length*(1000*4 ^ H)<=3*(1000*4 ^ H):=Nat.mul_le_mul_right _ h3;omega
theorem JT {g:Mi->Option (Option Ty)}:∀{l r:List Mi},l.length=r.length->(∀(i:Nat) a b,l[i]?=some a->r[i]?=some b->g a=g b)->B4 g l=B4 g r
 | [],[],_,_=>rfl
 | a::l,b::r,hl,h=>by
  simp only [B4,h 0 a b rfl rfl,JT (l:=l) (r:=r) (by simpa using hl) λi x y hx hy=>h (i+1) x y (by simpa using hx) (by simpa using hy)]
 | [],_::_,hl,_=>by simp at hl
 | _::_,[],hl,_=>by simp at hl
theorem Gm {ds:List Dt} (m:Mi):(Af ds m=m)\/(Ba m.hd=0/\∃h,IP ds m=[h]/\Af ds m=AY ds m h):=by
 unfold Af;by_cases hh:Ba m.hd=0
 ·rw [if_neg (λh=>h hh)]
  split
  ·rename_i h e;exact .inr ⟨hh,h,e,rfl⟩
  ·exact .inl rfl
 ·rw [if_pos hh];exact .inl rfl
theorem Cr {ds:List Dt} {m:Mi} (h:Ba m.hd≠0):Af ds m=m:=by simp only [Af,if_pos h]
theorem Q1 {ds:List Dt} (ho:OkW ds) {f:Nat} (hf:770<=f) {m:Mi} (hn:AD ds m.ty=true):Bc ds (f+1) (Af ds m)=Bc ds (f+1) m:=by
 rcases Gm (ds:=ds) m with h | ⟨hh,h,h1,h2⟩
 ·rw [h]
 rw [h2];obtain ⟨hm,hnt⟩:=Gv h1;have hk:=H8 ho hn hm;have t1:¬Ba m.ty=1:=by rcases hk with ⟨a,_⟩ | ⟨a,_⟩ | ⟨a,_⟩ <;> omega
 have t4:¬(Ba m.ty=4\/Ba m.ty=5\/Ba m.ty=6\/Ba m.ty=7):=by rcases hk with ⟨a,_⟩ | ⟨a,_⟩ | ⟨a,_⟩ <;> omega
 rw [EY hh t1 t4];have honly:∀x∈A9 ds m.ty,B1 m.nt x=false->x=h:=λx hx hxn=>by
  have:x∈IP ds m:=List.mem_filter.2 ⟨hx,by simp [hxn]⟩;rw [h1] at this;simpa using this
 cases hq:A8 ds m with
 | some y =>
  have hy:=Hx hq;simp only [A8,Option.map_eq_some_iff] at hq;obtain ⟨p,hp,rfl⟩:=hq;obtain ⟨q1,_,_⟩:=FX hp;rcases q1 with q1 | ⟨_,_,_,q4⟩
  ·cases q1
  ·rw [honly _ hy q4]
 | none =>
  simp only [A8,Option.map_eq_none_iff] at hq;have hc:=(LX hq).2 h hm;have hce:=Of ho hn (.inl hm);have hup:=(LR ho (Fg ho m.ty (E4 h))).1;obtain ⟨r,r1,r2,_⟩:=IS ho (f:=f) hn (.inl hm) λa ha=>by
   have hna:=Dr ho.okd (t:=m.ty) (s:=E4 h);rw [Dk,List.all_eq_true] at hna;exact Np ho 256 a (hna a ha) (LC ho a ha) (Gr ho a).2 f (by omega)
  rw [r1,r2 (by have:¬0<Bl ds m h:=λh0=>hc ⟨h0,hnt⟩;omega)]
mutual
def stl (ds:List Dt) (m:Mi):Mi->Prop
 | .mk ty nt hd ks=>∃s,(s=m\/s=Af ds m)/\s.ty=ty/\s.nt=nt/\s.hd=hd/\ND ds s.ks ks
def ND (ds:List Dt) (l:List Mi):List Mi->Prop
 | []=>l=[]
 | k::r=>∃a b,l=a::b/\stl ds a k/\ND ds b r
end
theorem Gg {ds:List Dt}:∀{r l:List Mi},ND ds l r↔l.length=r.length/\∀(i:Nat) a k,l[i]?=some a->r[i]?=some k->stl ds a k
 | [],l=>by
  simp only [ND,List.length_nil,List.length_eq_zero_iff];exact ⟨λh=>⟨h,λi a k _ hk=>by simp at hk⟩,λh=>h.1⟩
 | k::r,l=>by
  simp only [ND];constructor
  ·rintro ⟨a,b,rfl,h1,h2⟩;obtain ⟨h3,h4⟩:=Gg.1 h2;refine ⟨by simp [h3],λi x y hx hy=>?_⟩;cases i with
   | zero=>simp at hx hy;subst hx;subst hy;exact h1
   | succ i=>exact h4 i x y (by simpa using hx) (by simpa using hy)
  ·rintro ⟨h1,h2⟩;cases l with
   | nil=>simp at h1
   | cons a b=>exact ⟨a,b,rfl,h2 0 a k rfl rfl,Gg.2 ⟨by simpa using h1,λi x y hx hy=>h2 (i+1) x y (by simpa using hx) (by simpa using hy)⟩⟩
theorem GF {ds:List Dt} {m c:Mi}:stl ds m c↔∃s,(s=m\/s=Af ds m)/\s.ty=c.ty/\s.nt=c.nt/\s.hd=c.hd/\ND ds s.ks c.ks:=by
 obtain ⟨a,b,d,e⟩:=c;rfl
mutual
theorem Ei (ds:List Dt):∀m:Mi,stl ds m m
 | .mk ty nt hd ks=>⟨_,.inl rfl,rfl,rfl,rfl,Jy ds ks⟩
theorem Jy (ds:List Dt):∀l:List Mi,ND ds l l
 | []=>rfl
 | k::r=>⟨k,r,rfl,Ei ds k,Jy ds r⟩
end
theorem iH {ds:List Dt} {m c:Mi} (h:stl ds m c):m.ty=c.ty:=by
 obtain ⟨s,h1,h2,_⟩:=GF.1 h;rcases h1 with rfl | rfl
 ·exact h2
 ·rw [<- h2,EM]
theorem I7 {ds:List Dt} {m c:Mi} (hm:E6 ds m) (h:stl ds m c):(Af ds m).ty=(Af ds c).ty/\(Af ds m).nt=(Af ds c).nt/\(Af ds m).hd=(Af ds c).hd/\ND ds (Af ds m).ks (Af ds c).ks:=by
 obtain ⟨s,h1,h2,h3,h4,h5⟩:=GF.1 h;rcases h1 with rfl | h1
 ·by_cases hh:Ba s.hd=0
  ·have hk:=(BQ.1 hm).1 hh;have hck:c.ks=[]:=by
    have:=(Gg.1 h5).1;rw [hk] at this;exact List.eq_nil_of_length_eq_zero this.symm
   have e:c=s:=by
    obtain ⟨a,b,d,e⟩:=c;obtain ⟨a',b',d',e'⟩:=s;simp only [Mi.ty,Mi.nt,Mi.hd,Mi.ks] at *;subst h2;subst h3;subst h4;rw [hk,hck]
   rw [e];exact ⟨rfl,rfl,rfl,Jy ds _⟩
  ·rw [Cr hh,Cr (m:=c) (by rw [<- h4];exact hh)];exact ⟨h2,h3,h4,h5⟩
 ·rcases Gm (ds:=ds) m with e | ⟨hh,x,e1,e2⟩
  ·rw [e] at h1;rw [h1] at h2 h3 h4 h5;by_cases hh:Ba m.hd=0
   ·have hk:=(BQ.1 hm).1 hh;have hck:c.ks=[]:=by
     have:=(Gg.1 h5).1;rw [hk] at this;exact List.eq_nil_of_length_eq_zero this.symm
    have e:c=m:=by
     obtain ⟨a,b,d,e⟩:=c;obtain ⟨a',b',d',e'⟩:=m;simp only [Mi.ty,Mi.nt,Mi.hd,Mi.ks] at *;subst h2;subst h3;subst h4;rw [hk,hck]
    rw [e];exact ⟨rfl,rfl,rfl,Jy ds _⟩
   ·rw [Cr hh,Cr (m:=c) (by rw [<- h4];exact hh)];exact ⟨h2,h3,h4,h5⟩
  ·have hne:Ba (Af ds m).hd≠0:=by rw [e2];exact (BL (Gv e1).1).2
   subst h1;rw [Cr (m:=c) (by rw [<- h4];exact hne)];exact ⟨h2,h3,h4,h5⟩
theorem Ud {ds:List Dt} {m c:Mi} (h:m.ty=c.ty) (x:Ty):AY ds m x=AY ds c x:=by
 simp only [AY,h]
theorem OP {ds:List Dt} {m c:Mi} (h1:m.ty=c.ty) (h2:m.nt=c.nt):∀(l:List Ty) (b:Option (Ty×Int)),Cb ds m b l=Cb ds c b l
 | [],b=>rfl
 | x::r,b=>by
  have hc:Bl ds m x=Bl ds c x:=by simp only [Bl,h1]
  simp only [Cb,hc,h2];exact OP h1 h2 r _
theorem O8 {ds:List Dt} {m c:Mi} (h1:m.ty=c.ty) (h2:m.nt=c.nt):A8 ds m=A8 ds c:=by
 simp only [A8,h1,OP h1 h2]
theorem Uc {ds:List Dt} {m c:Mi} (f:Nat) (h1:m.ty=c.ty) (h2:m.nt=c.nt) (h3:Ba m.hd=0) (h4:Ba c.hd=0):Bc ds (f+1) m=Bc ds (f+1) c:=by
 by_cases t1:Ba m.ty=1
 ·rw [IR h3 t1,IR h4 (by rw [<- h1];exact t1),h2]
 by_cases t4:Ba m.ty=4\/Ba m.ty=5\/Ba m.ty=6\/Ba m.ty=7
 ·rw [IQ h3 t4,IQ h4 (by rw [<- h1];exact t4)]
 rw [EY h3 t1 t4,EY h4 (by rw [<- h1];exact t1) (by rw [<- h1];exact t4),O8 h1 h2];cases A8 ds c with
 | none=>rfl
 | some x=>simp only [Ud h1]
theorem XX {ds:List Dt} (ho:OkW ds) {N:Nat}:∀(H:Nat) (m c:Mi),Iv c<=H->HH ds N m=true->stl ds m c->∀f,H+771<=f->Bc ds f m=Bc ds f c:=by
 intro H
 induction H with
 | zero=>intro m c h;rw [GT] at h;omega
 | succ H ih =>
  intro m c hg hw hs f hf;obtain ⟨f,rfl⟩:∃g,f=g+1:=⟨f-1,by omega⟩
  obtain ⟨s,h1,h2,h3,h4,h5⟩:=GF.1 hs;have e:Bc ds (f+1) m=Bc ds (f+1) s/\HH ds N s=true:=by
   rcases h1 with rfl | rfl
   ·exact ⟨rfl,hw⟩
   ·exact ⟨(Q1 ho (by omega) (Be.1 hw).1.1).symm,CS ho hw⟩
  rw [e.1];by_cases hh:Ba s.hd=0
  ·exact Uc f h2 h3 hh (by rw [<- h4];exact hh)
  ·rw [H4 hh,H4 (by rw [<- h4];exact hh),h4];obtain ⟨k1,k2⟩:=Gg.1 h5;rw [JT k1 λi a b ha hb=>ih a b (by have:=Oa (List.mem_of_getElem? hb);omega) ((Be.1 e.2).2.2 a (List.mem_of_getElem? ha)) (k2 i a b ha hb) f (by omega)]
mutual
theorem O4 {ds:List Dt}:∀(p:Ty) {m c:Mi},E6 ds m->stl ds m c->A0 ds p m=A0 ds p c
 | .mk f n x ps,m,c,hm,hs=>by
  obtain ⟨_,h2,h3,h4⟩:=I7 hm hs;simp only [A0,h2,h3];rw [QU ps (λk hk=>(BQ.1 (Dq hm)).2.2 k hk) h4 0]
theorem QU {ds:List Dt}:∀(ps:List Ty) {l r:List Mi},(∀k∈l,E6 ds k)->ND ds l r->∀i,B8 ds i ps l=B8 ds i ps r
 | [],_,_,_,_,i=>by simp only [B8]
 | p::ps,l,[],_,h,i=>by simp only [ND] at h;subst h;rfl
 | p::ps,l,k::r,hl,h,i=>by
  obtain ⟨a,b,rfl,h1,h2⟩:=h;simp only [B8,O4 p (hl a (by simp)) h1,QU ps (λy hy=>hl y (by simp [hy])) h2]
end
mutual
def Em (ds:List Dt):Ty->Mi->Mi
 | .mk f n x ps,m=>if f=1\/f=2 then m else if Ba (Af ds m).hd=0\/AK (Af ds m).hd (AJ (.mk f n x ps))=false then Af ds m else
  .mk (Af ds m).ty (Af ds m).nt (Af ds m).hd (CK ds ps (Af ds m).ks)
def CK (ds:List Dt):List Ty->List Mi->List Mi
 | [],ks=>ks
 | _::_,[]=>[]
 | p::r,k::ks=>Em ds p k::if (A0 ds p k).1=1 then CK ds r ks else ks
end
mutual
theorem WO {ds:List Dt}:∀(p:Ty) {m c:Mi},E6 ds m->stl ds m c->stl ds m (Em ds p c)
 | .mk f n x ps,m,c,hm,hs=>by
  obtain ⟨h1,h2,h3,h4⟩:=I7 hm hs;have hst:stl ds m (Af ds c):=GF.2 ⟨Af ds m,.inr rfl,h1,h2,h3,h4⟩;simp only [Em]
  split
  ·exact hs
  ·split
   ·exact hst
   ·exact GF.2 ⟨Af ds m,.inr rfl,h1,h2,h3,Tq ps (λk hk=>(BQ.1 (Dq hm)).2.2 k hk) h4⟩
theorem Tq {ds:List Dt}:∀(ps:List Ty) {l r:List Mi},(∀k∈l,E6 ds k)->ND ds l r->ND ds l (CK ds ps r)
 | [],_,_,_,h=>by simpa only [CK] using h
 | p::ps,l,[],_,h=>by simpa only [CK] using h
 | p::ps,l,k::r,hl,h=>by
  obtain ⟨a,b,rfl,h1,h2⟩:=h;simp only [CK];refine ⟨a,b,rfl,WO p (hl a (by simp)) h1,?_⟩
  split
  ·exact Tq ps (λy hy=>hl y (by simp [hy])) h2
  ·exact h2
end
mutual
def Vl (ds:List Dt):Ty->Mi->Nat
 | .mk f n x ps,m=>if f=1\/f=2 then 0 else if Ba (Af ds m).hd=0 then (if B1 (Af ds m).nt (AJ (.mk f n x ps))=true then 0 else 1+Ai ps) else
  if AK (Af ds m).hd (AJ (.mk f n x ps))=false then 0 else NC ds ps (Af ds m).ks
def NC (ds:List Dt):List Ty->List Mi->Nat
 | [],_=>0
 | _::_,[]=>0
 | p::r,k::ks=>Vl ds p k+NC ds r ks
end
mutual
theorem fZ (ds:List Dt):∀(p:Ty) (m:Mi),Vl ds p m<=An p
 | .mk f n x ps,m=>by
  have:=Vp ds ps (Af ds m).ks;simp only [Vl,An]
  split
  ·omega
  ·split
   ·split <;> omega
   ·split <;> omega
theorem Vp (ds:List Dt):∀(ps:List Ty) (l:List Mi),NC ds ps l<=Ai ps
 | [],l=>by simp [NC]
 | p::r,[]=>by simp [NC]
 | p::r,k::ks=>by
  have h1:=fZ ds p k;have h2:=Vp ds r ks;simp only [NC,Ai];omega
end
theorem Wm (h:Ty):AK h h=true:=by obtain ⟨a,b,c,d⟩:=h;simp [AK]
theorem P2 (a b:Ty):AK a b=AK b a:=by
 obtain ⟨a1,a2,a3,a4⟩:=a;obtain ⟨b1,b2,b3,b4⟩:=b;simp only [AK];rw [Bool.eq_iff_iff];simp only [Bool.and_eq_true,beq_iff_eq];exact ⟨λ⟨⟨h1,h2⟩,h3⟩=>⟨⟨h1.symm,h2.symm⟩,h3.symm⟩,λ⟨⟨h1,h2⟩,h3⟩=>⟨⟨h1.symm,h2.symm⟩,h3.symm⟩⟩
theorem OX {ds:List Dt} {t:Ty} {f n:Int} {x:Str} {ps:List Ty} (hn:AD ds t=true) (h:Cn ds t (.mk f n x ps)=true) (hp:B5 (.mk f n x ps)=true) (h12:¬(f=1\/f=2)) :
  S5 ds t (AJ (.mk f n x ps))/\(Bj ds t (E4 (AJ (.mk f n x ps)))).1.length=ps.length/\Cm ds (Bj ds t (E4 (AJ (.mk f n x ps)))).1 ps=true/\B3 ps=true:=by
 rw [LY] at h;obtain ⟨so,m,y,qs⟩:=t;simp only [B5,Bool.and_eq_true] at hp;obtain ⟨hb,hps⟩:=hp;have hz:∀t:Ty,Ba t≠8->ps=[]->∀s,(Bj ds t s).1.length=ps.length/\Cm ds (Bj ds t s).1 ps=true:=λt ht he s=>by
  rw [M7 ht,he];exact ⟨rfl,by simp [Cm]⟩
 simp only [Dh] at hb;simp only [J1] at h;by_cases h5:f=5
 ·subst h5;rw [if_pos (.inr rfl)] at hb;simp only [Bool.and_eq_true,beq_iff_eq] at hb;have he:ps=[]:=List.eq_nil_of_length_eq_zero (by omega);have hso:so=3:=by simpa using h
  subst hso;have:=hz (.mk 3 m y qs) (by simp [Ba]) he (E4 (AJ (.mk 5 n x ps)));exact ⟨.inl (by simp [AJ,A9]),this.1,this.2,hps⟩
 by_cases h3:f=3
 ·subst h3;rw [if_neg (by decide),if_neg (by decide),if_pos rfl] at hb;simp only [Bool.and_eq_true,beq_iff_eq,GC,decide_eq_true_eq] at hb;have he:ps=[]:=List.eq_nil_of_length_eq_zero (by omega);have hso:so=1:=by simpa using h
  subst hso;have:=hz (.mk 1 m y qs) (by simp [Ba]) he (E4 (AJ (.mk 3 n x ps)));exact ⟨.inr ⟨rfl,n,by simp [AJ],hb.2⟩,this.1,this.2,hps⟩
 by_cases h4:f=4
 ·subst h4;rw [if_neg (by decide),if_neg (by decide),if_neg (by decide),if_pos rfl] at hb;simp only [Bool.and_eq_true,beq_iff_eq,GC,decide_eq_true_eq] at hb;have he:ps=[]:=List.eq_nil_of_length_eq_zero (by omega);have hso:so=2:=by simpa using h
  subst hso;have:=hz (.mk 2 m y qs) (by simp [Ba]) he (E4 (AJ (.mk 4 n x ps)));have hn:n=0\/n=1:=by omega
  exact ⟨.inl (by rcases hn with rfl | rfl <;> simp [AJ,A9]),this.1,this.2,hps⟩
 have h6:f=6:=by
  have h1:f≠1:=λe=>h12 (.inl e);have h2:f≠2:=λe=>h12 (.inr e);rw [if_neg (by omega),if_neg (by omega),if_neg (by omega),if_neg (by omega)] at hb;by_cases e:f=6
  ·exact e
  ·rw [if_neg e] at hb;cases hb
 subst h6;rw [if_neg (by decide),if_neg (by decide),if_neg (by decide),if_pos rfl] at h;simp only [Bool.and_eq_true,decide_eq_true_eq] at h;have ht:AJ (.mk 6 n x ps) = .mk 4 0 x []:=rfl;rw [ht];refine ⟨.inl ?_,h.1,h.2.2,hps⟩;have hc:0<=(B6 ds (.mk so m y qs) x).2:=by
  have:=h.2.1;simp only [Bj] at this;by_cases e:0<=(B6 ds (.mk so m y qs) x).2
  ·exact e
  ·simp [e] at this
 have h8:so=8:=by
  by_cases e:so=8
  ·exact e
  ·simp [B6,e] at hc
 subst h8;obtain ⟨_,d,hd⟩:=Cu hn 8 m y qs rfl rfl;simp only [B6,if_true,hd] at hc;obtain ⟨c1,c2⟩:=Jm hc;rw [show A9 ds (.mk 8 m y qs)=(match ds[(AP y 0 ds).toNat]? with | some d=>d.cons.map λc=>Ty.mk 4 0 c.name [] | none=>[]) from rfl,hd];exact List.mem_map.2 ⟨_,c1,by rw [c2]⟩
theorem Jb {ds:List Dt} (ho:OkW ds):∀(p:Ty) {N:Nat} {m:Mi},HH ds N m=true->E6 ds m->Cn ds m.ty p=true->B5 p=true->Wv ds p m=true
 | .mk f n x ps,N,m,hw,hc,h,hp=>by
  simp only [Wv,Bool.or_eq_true,Bool.and_eq_true,decide_eq_true_eq,Bool.not_eq_true'];by_cases h12:f=1\/f=2
  ·rcases h12 with h1 | h2
   ·exact .inl (.inl (.inl (.inl h1)))
   ·exact .inl (.inl (.inl (.inr h2)))
  by_cases h0:Ba (Af ds m).hd=0
  ·exact .inl (.inl (.inr h0))
  by_cases hE:AK (Af ds m).hd (AJ (.mk f n x ps))=false
  ·exact .inl (.inr hE)
  right;obtain ⟨k1,k2,k3,k4⟩:=OX (Be.1 hw).1.1 h hp h12;have hsc:=BQ.1 (Dq hc);have hsw:=Be.1 (CS ho hw);have htx:E4 (Af ds m).hd=E4 (AJ (.mk f n x ps)):=by
   have:AK (Af ds m).hd (AJ (.mk f n x ps))=true:=by simpa using hE
   revert this;generalize (Af ds m).hd=a;generalize AJ (.mk f n x ps)=b;obtain ⟨a1,a2,a3,a4⟩:=a;obtain ⟨b1,b2,b3,b4⟩:=b;simp only [AK,E4,Bool.and_eq_true,beq_iff_eq];exact λh=>h.2
  have hks:=(hsc.2.1 h0).2;rw [htx,EM] at hks;have hl:ps.length=(Af ds m).ks.length:=by rw [<- k2,<- hks,List.length_map]
  refine ⟨by omega,?_⟩;have key:∀(qs:List Ty) (l:List Mi),(∀q∈qs,q∈ps)->(∀k∈l,HH ds N k=true/\E6 ds k)->Cm ds (l.map Mi.ty) qs=true->B3 qs=true->JV ds qs l=true:=by
   intro qs
   induction qs with
   | nil=>intro l _ _ _ _;simp [JV]
   | cons q r ih =>
    intro l hq hl h1 h2;cases l with
    | nil=>simp [JV]
    | cons k l =>
     simp only [List.map_cons,Cm,B3,Bool.and_eq_true,JV] at *;have:=List.sizeOf_lt_of_mem (hq q (by simp));exact ⟨Jb ho q (hl k (by simp)).1 (hl k (by simp)).2 h1.1 h2.1,ih l (λy hy=>hq y (by simp [hy])) (λy hy=>hl y (by simp [hy])) h1.2 h2.2⟩
  exact key ps _ (λq hq=>hq) (λk hk=>⟨hsw.2.2 k hk,hsc.2.2 k hk⟩) (by rw [hks];exact k3) k4
termination_by p=>SizeOf.sizeOf p
decreasing_by
 simp_wf;omega
structure Ask (ds:List Dt) (N:Nat) (p:Ty) (m:Mi) (path:List Int) (h:Ty):Prop where
 ok:HS ds m path
 prt:C7 h=[]
 wf:∀is,HH ds (N+1) (AH ds m path h is)=true
 coh:∀is,E6 ds (AH ds m path h is)
 typ:∀is,(AH ds m path h is).ty=m.ty
 hgt:∀is,Iv (AH ds m path h is)<=max (Iv m) (path.length+2)
 less:∀is,Vl ds p (AH ds m path h is)<Vl ds p m
 stl:∀is c,stl ds m c->stl ds (AH ds m path h is) (AH ds c path h is)
mutual
theorem Sf {ds:List Dt} {N M:Nat} (h:N<=M):∀m:Mi,HH ds N m=true->HH ds M m=true
 | .mk ty nt hd ks,hw=>by
  simp only [HH,Bool.and_eq_true,decide_eq_true_eq] at hw ⊢;obtain ⟨⟨⟨⟨a,b⟩,c⟩,d⟩,e⟩:=hw;exact ⟨⟨⟨⟨a,b⟩,by omega⟩,d⟩,Tf h ks e⟩
theorem Tf {ds:List Dt} {N M:Nat} (h:N<=M):∀l:List Mi,Vo ds N l=true->Vo ds M l=true
 | [],_=>rfl
 | k::r,hw=>by
  simp only [Vo,Bool.and_eq_true] at hw ⊢;exact ⟨Sf h k hw.1,Tf h r hw.2⟩
end
theorem R1 {ds:List Dt}:∀{ps:List Ty} {l:List Mi} {i:Int},(B8 ds i ps l).1=2->∃(j:Nat) (p:Ty) (k:Mi),ps[j]?=some p/\l[j]?=some k/\(A0 ds p k).1=2/\(B8 ds i ps l).2.1=(i+j)::(A0 ds p k).2.1/\(B8 ds i ps l).2.2=(A0 ds p k).2.2
 | [],l,i,h=>by simp [B8] at h
 | p::r,[],i,h=>by simp [B8] at h
 | p::r,k::ks,i,h=>by
  simp only [B8] at h ⊢;by_cases h1:(A0 ds p k).1=1
  ·rw [if_pos h1] at h;obtain ⟨j,q,m,a,b,c,d,e⟩:=R1 h;exact ⟨j+1,q,m,by simpa using a,by simpa using b,c,by rw [if_pos h1,d];congr 1;omega,by rw [if_pos h1,e]⟩
  ·rw [if_neg h1] at h;exact ⟨0,p,k,rfl,rfl,h,by rw [if_neg h1];simp,by rw [if_neg h1]⟩
theorem WK {ds:List Dt}:∀{ps:List Ty} {l:List Mi} {j:Nat} {p:Ty} {k k':Mi},ps[j]?=some p->l[j]?=some k->Vl ds p k'<Vl ds p k->NC ds ps (l.set j k')<NC ds ps l
 | [],l,j,p,k,k',h,_,_=>by simp at h
 | q::r,[],j,p,k,k',_,h,_=>by simp at h
 | q::r,a::l,0,p,k,k',h1,h2,h3=>by
  simp at h1 h2;subst h1;subst h2;simp only [List.set_cons_zero,NC];omega
 | q::r,a::l,j+1,p,k,k',h1,h2,h3=>by
  have:=WK (ds:=ds) (by simpa using h1) (by simpa using h2) h3;simp only [List.set_cons_succ,NC];omega
theorem Kv {α:Type} {l:List α} {j:Nat} {a x:α} (h:x∈l.set j a):x∈l\/x=a:=List.mem_or_eq_of_mem_set h
theorem IE {ds:List Dt}:∀{l m:List Ty} {i:Nat} {a p:Ty},Cm ds l m=true->l[i]?=some a->m[i]?=some p->Cn ds a p=true
 | [],_,i,a,p,_,ha,_=>by simp at ha
 | _::_,[],i,a,p,_,_,hp=>by simp at hp
 | x::l,y::m,0,a,p,h,ha,hp=>by simp only [Cm,Bool.and_eq_true] at h;simp at ha hp;subst ha;subst hp;exact h.1
 | x::l,y::m,i+1,a,p,h,ha,hp=>by simp only [Cm,Bool.and_eq_true] at h;exact IE h.2 (by simpa using ha) (by simpa using hp)
theorem Na {l:List Ty} {i:Nat} {p:Ty} (h:B3 l=true) (hp:l[i]?=some p):B5 p=true:=by
 induction l generalizing i with
 | nil=>simp at hp
 | cons a r ih =>
  simp only [B3,Bool.and_eq_true] at h;cases i with
  | zero=>simp at hp;subst hp;exact h.1
  | succ i=>exact ih h.2 (by simpa using hp)
theorem Uo {a b:Ty} (h:AK a b=true):E4 a=E4 b:=by
 obtain ⟨a1,a2,a3,a4⟩:=a;obtain ⟨b1,b2,b3,b4⟩:=b;simp only [AK,E4,Bool.and_eq_true,beq_iff_eq] at *;exact h.2
theorem M6 {ds:List Dt} (ho:OkW ds):∀(p:Ty) {N:Nat} {m:Mi},HH ds N m=true->E6 ds m->Cn ds m.ty p=true->B5 p=true->(A0 ds p m).1=2->Ask ds N p m (A0 ds p m).2.1 (A0 ds p m).2.2
 | .mk f n x ps,N,m,hw,hc,hpt,hps,hl=>by
  have hwi:=Be.1 hw;have hci:=BQ.1 hc;by_cases h12:f=1\/f=2
  ·exfalso;simp only [A0,if_pos h12] at hl;cases hl
  obtain ⟨k1,k2,k3,k4⟩:=OX hwi.1.1 hpt hps h12;by_cases hA:Ba (Af ds m).hd=0/\B1 (Af ds m).nt (AJ (.mk f n x ps))=false
  ·have e:A0 ds (.mk f n x ps) m=(2,[],AJ (.mk f n x ps)):=by simp only [A0,if_neg h12,if_pos hA]
   have hu:Vl ds (.mk f n x ps) m=1+Ai ps:=by simp only [Vl,if_neg h12,if_pos hA.1,hA.2];rfl
   rw [e];obtain ⟨hA1,hA2⟩:=hA;have hset:Af ds m=m:=by
    rcases Gm (ds:=ds) m with h | ⟨hh,h,h1,h2⟩
    ·exact h
    ·rw [h2] at hA1;exact absurd hA1 (BL (Gv h1).1).2
   rw [hset] at hA1 hA2;generalize hH:AJ (.mk f n x ps)=h at *;have hfm:=S4 k1;refine ⟨by simp [HS],hfm.2,λis=>?_,λis=>?_,λis=>?_,λis=>?_,λis=>?_,λis c hs=>?_⟩
   ·cases is
    ·simp only [AH];exact Be.2 ⟨⟨hwi.1.1,hwi.1.2.1,by simp [Mi.nt] at *;exact hwi.1.2.2⟩,hwi.2.1,λk hk=>Sf (by omega) k (hwi.2.2 k hk)⟩
    ·simp only [AH];exact KA ho hwi.1.1 hwi.2.1.2 hfm.2
   ·cases is
    ·simp only [AH];exact BQ.2 hci
    ·simp only [AH];exact RU k1
   ·cases is <;> rfl
   ·cases is
    ·simp only [AH,GT,Mi.ks];omega
    ·simp only [AH];have:=RB ds m h;omega
   ·rw [hu];cases is
    ·simp only [AH,Vl,if_neg h12,hH];rcases Gm (ds:=ds) (.mk m.ty (m.nt++[h]) m.hd m.ks) with e | ⟨hh,y,y1,y2⟩
     ·rw [e];have hh0:Ba (Mi.mk m.ty (m.nt++[h]) m.hd m.ks).hd=0:=hA1;rw [if_pos hh0,if_pos (by simp [Mi.nt,B1,Wm])];omega
     ·rw [y2];have hy:=Gv y1;rw [if_neg (show ¬Ba (AY ds (.mk m.ty (m.nt++[h]) m.hd m.ks) y).hd=0 from (BL hy.1).2)];have hne:AK y h=false:=by
       have:AK h y=false:=by
        have h2:=hy.2;simp only [B1,Mi.nt,List.any_append,List.any_cons,List.any_nil,Bool.or_false,Bool.or_eq_false_iff] at h2;exact h2.2
       rw [P2];exact this
      rw [if_pos (show AK (AY ds (.mk m.ty (m.nt++[h]) m.hd m.ks) y).hd h=false from hne)];omega
    ·simp only [AH,Vl,if_neg h12,hH];rw [Cr (show Ba (AY ds m h).hd≠0 from hfm.1),if_neg (show ¬Ba (AY ds m h).hd=0 from hfm.1)];have:=Vp ds ps (AY ds m h).ks
     split <;> omega
   ·have hty:=iH hs;cases is
    ·simp only [AH];obtain ⟨s,s1,s2,s3,s4,s5⟩:=GF.1 hs;have:s=m:=by rcases s1 with rfl | rfl;rfl;exact hset
     subst this;exact GF.2 ⟨_,.inl rfl,s2,by show s.nt++[h]=c.nt++[h];rw [s3],s4,s5⟩
    ·simp only [AH];rw [Ud hty];exact Ei ds _
  ·have hB:Ba (Af ds m).hd≠0/\AK (Af ds m).hd (AJ (.mk f n x ps))=true/\A0 ds (.mk f n x ps) m=B8 ds 0 ps (Af ds m).ks:=by
    simp only [A0,if_neg h12,if_neg hA] at hl ⊢;by_cases hC:Ba (Af ds m).hd=0\/AK (Af ds m).hd (AJ (.mk f n x ps))=false
    ·rw [if_pos hC] at hl;cases hl
    ·rw [if_neg hC];exact ⟨λh=>hC (.inl h),by cases hb:AK (Af ds m).hd (AJ (.mk f n x ps)) with | true=>rfl | false=>exact absurd (.inr hb) hC,rfl⟩
   obtain ⟨hB1,hB2,hB3⟩:=hB;rw [hB3] at hl ⊢;obtain ⟨j,q,k,j1,j2,j3,j4,j5⟩:=R1 hl;rw [j4,j5,Int.zero_add];have hsw:=CS ho hw;have hswi:=Be.1 hsw;have hsc:=Dq (ds:=ds) hc;have hsci:=BQ.1 hsc;have hkm:=List.mem_of_getElem? j2;have hks:=(hsci.2.1 hB1).2;rw [Uo hB2,EM] at hks;have hkt:(Bj ds m.ty (E4 (AJ (.mk f n x ps)))).1[j]?=some k.ty:=by rw [<- hks];simp [j2]
   have:=List.sizeOf_lt_of_mem (List.mem_of_getElem? j1);have A:=M6 ho q (hswi.2.2 k hkm) (hsci.2.2 k hkm) (IE k3 hkt j1) (Na k4 j1) j3;generalize (A0 ds q k).2.1=path at *;generalize (A0 ds q k).2.2=h at *;have eS:∀is,AH ds m ((j:Int)::path) h is = .mk (Af ds m).ty (Af ds m).nt (Af ds m).hd ((Af ds m).ks.set j (AH ds k path h is)):=λis=>by
    simp only [AH,Int.toNat_natCast,j2]
   have hjl:=(List.getElem?_eq_some_iff.1 j2).1;refine ⟨⟨by omega,k,by simpa using j2,A.ok⟩,A.prt,λis=>?_,λis=>?_,λis=>?_,λis=>?_,λis=>?_,λis c hs=>?_⟩
   ·rw [eS];refine Be.2 ⟨⟨hswi.1.1,by simpa [Mi.ks] using hswi.1.2.1,by have:=hswi.1.2.2;show (Af ds m).nt.length<=N+1;omega⟩,hswi.2.1,λy hy=>?_⟩;rcases Kv hy with hy | rfl
    ·exact Sf (by omega) y (hswi.2.2 y hy)
    ·exact A.wf is
   ·rw [eS];refine BQ.2 ⟨λh0=>absurd h0 hB1,λ_=>⟨(hsci.2.1 hB1).1,?_⟩,λy hy=>?_⟩
    ·show ((Af ds m).ks.set j (AH ds k path h is)).map Mi.ty=(Bj ds (Af ds m).ty (E4 (Af ds m).hd)).1;rw [<- (hsci.2.1 hB1).2];simp only [List.map_set,A.typ];apply List.ext_getElem?;intro i;rw [List.getElem?_set]
     split
     ·rename_i e;subst e;rw [if_pos (by simpa using hjl)];simp [j2]
     ·rfl
    ·rcases Kv hy with hy | rfl
     ·exact hsci.2.2 y hy
     ·exact A.coh is
   ·rw [eS];exact EM ds m
   ·rw [eS,GT];have h1:=Nr ds m;have h2:FH ((Af ds m).ks.set j (AH ds k path h is))<=max (Iv m) (path.length+3)-1:=Pz.2 λy hy=>by
     rcases Kv hy with hy | rfl
     ·have:=Oa hy;omega
     ·have:=A.hgt is;have:=Oa hkm;omega
    simp only [Mi.ks,List.length_cons] at *;omega
   ·rw [eS];have e1:Vl ds (.mk f n x ps) m=NC ds ps (Af ds m).ks:=by
     simp only [Vl,if_neg h12,if_neg hB1,hB2];rfl
    have hB2':AK (Mi.mk (Af ds m).ty (Af ds m).nt (Af ds m).hd ((Af ds m).ks.set j (AH ds k path h is))).hd (AJ (.mk f n x ps))=true:=hB2;have e2:Vl ds (.mk f n x ps) (.mk (Af ds m).ty (Af ds m).nt (Af ds m).hd ((Af ds m).ks.set j (AH ds k path h is)))=NC ds ps ((Af ds m).ks.set j (AH ds k path h is)):=by
     simp only [Vl,if_neg h12];rw [Cr (show Ba (Mi.mk (Af ds m).ty (Af ds m).nt (Af ds m).hd ((Af ds m).ks.set j (AH ds k path h is))).hd≠0 from hB1),if_neg (show ¬Ba (Mi.mk (Af ds m).ty (Af ds m).nt (Af ds m).hd ((Af ds m).ks.set j (AH ds k path h is))).hd=0 from hB1),hB2'];rfl
    rw [e1,e2];exact WK j1 j2 (A.less is)
   ·obtain ⟨t1,t2,t3,t4⟩:=I7 hc hs;obtain ⟨u1,u2⟩:=Gg.1 t4;obtain ⟨kc,hkc⟩:∃kc,(Af ds c).ks[j]?=some kc:=⟨_,List.getElem?_eq_getElem (by omega)⟩
    have eC:AH ds c ((j:Int)::path) h is = .mk (Af ds c).ty (Af ds c).nt (Af ds c).hd ((Af ds c).ks.set j (AH ds kc path h is)):=by
     simp only [AH,Int.toNat_natCast,hkc]
    rw [eS,eC];refine GF.2 ⟨_,.inl rfl,t1,t2,t3,Gg.2 ⟨by simpa [Mi.ks] using u1,λi a b ha hb=>?_⟩⟩;change ((Af ds m).ks.set j (AH ds k path h is))[i]?=some a at ha;change ((Af ds c).ks.set j (AH ds kc path h is))[i]?=some b at hb;rw [List.getElem?_set] at ha hb;by_cases e:j=i
    ·subst e;rw [if_pos rfl,if_pos hjl] at ha;rw [if_pos rfl,if_pos (by omega)] at hb;cases ha;cases hb;exact A.stl is kc (u2 j k kc j2 hkc)
    ·rw [if_neg e] at ha hb;exact u2 i a b ha hb
termination_by p=>SizeOf.sizeOf p
decreasing_by
 simp_wf;omega
def II (ds:List Dt) (t:Ty) (l:List (Ty×Int)):Prop:=∀x∈l,Cn ds t x.1=true/\B5 x.1=true/\An x.1<=12
def F6 (l:List (Ty×Int)):Nat:=(l.map λx=>An x.1+1).sum
def EB (ds:List Dt) (m:Mi):List (Ty×Int)->Nat
 | []=>0
 | (p,_)::r=>Vl ds p m+1+F6 r
theorem Gw (ds:List Dt) (m:Mi) (l:List (Ty×Int)):EB ds m l<=F6 l:=by
 cases l with
 | nil=>simp [EB,F6]
 | cons x r =>
  obtain ⟨p,b⟩:=x;have:=fZ ds p m;simp only [EB,F6,List.map_cons,List.sum_cons];omega
def MK (ds:List Dt) (t:Ty) (v:Ty):Prop:=Lc ds t v=true/\Dn v=true/\An v<=1000000000000
theorem WP {ds:List Dt} (a b:Option Ty):Gj ds a b=a\/Gj ds a b=b:=by
 cases a with
 | none=>exact .inr rfl
 | some a =>
  cases b with
  | none=>exact .inl rfl
  | some b=>simp only [Gj];split <;> simp
structure MOk (ds:List Dt) (t:Ty) (N:Nat) (m:Mi):Prop where
 wf:HH ds N m=true
 coh:E6 ds m
 typ:m.ty=t
 hgt:Iv m<=14
theorem MOk.split {ds:List Dt} (ho:OkW ds) {t:Ty} {N:Nat} {m:Mi} (h:MOk ds t N m) {p:Ty} (h1:Cn ds t p=true) (h2:B5 p=true) (h3:An p<=12) (hl:(A0 ds p m).1=2) (is:Bool):MOk ds t (N+1) (AH ds m (A0 ds p m).2.1 (A0 ds p m).2.2 is):=by
 have A:=M6 ho p h.wf h.coh (by rw [h.typ];exact h1) h2 hl;have hp:=IN ds p m;exact ⟨A.wf is,A.coh is,by rw [A.typ,h.typ],by have:=A.hgt is;have:=h.hgt;omega⟩
theorem MOk.least {ds:List Dt} (ho:OkW ds) {t:Ty} {N:Nat} (hN:N<=1000000) {m:Mi} (h:MOk ds t N m):∃r,bN ds m=some r/\∀v,r=some v->MK ds t v:=by
 obtain ⟨r,r1,r2⟩:=YA ho hN 14 m h.wf h.coh h.hgt 1000 (by omega);refine ⟨r,r1,λv hv=>?_⟩;obtain ⟨a,b,c⟩:=r2 v hv;exact ⟨by rw [<- h.typ];exact b,c,by omega⟩
theorem En {ds:List Dt} (ho:OkW ds) (t:Ty):∀(f N:Nat) (m:Mi) (l:List (Ty×Int)),N+f<=1000000->MOk ds t N m->II ds t l->EB ds m l<f->∃r,Du ds f m l=some r/\∀v,r=some v->MK ds t v:=by
 intro f
 induction f with
 | zero=>intro N m l _ _ _ h;omega
 | succ f ih =>
  intro N m l hN hm hr hf;cases l with
  | nil=>exact hm.least ho (by omega)
  | cons x r =>
   obtain ⟨p,b⟩:=x;obtain ⟨h1,h2,h3⟩:=hr (p,b) (by simp);simp only [EB] at hf;simp only [Du];by_cases hl:(A0 ds p m).1=2
   ·rw [if_pos hl];have A:=M6 ho p hm.wf hm.coh (by rw [hm.typ];exact h1) h2 hl;obtain ⟨x,x1,x2⟩:=ih (N+1) _ ((p,b)::r) (by omega) (hm.split ho h1 h2 h3 hl true) hr (by have:=A.less true;simp only [EB];omega);obtain ⟨y,y1,y2⟩:=ih (N+1) _ ((p,b)::r) (by omega) (hm.split ho h1 h2 h3 hl false) hr (by have:=A.less false;simp only [EB];omega);rw [x1,y1];refine ⟨Gj ds x y,rfl,λv hv=>?_⟩;rcases WP (ds:=ds) x y with e | e
    ·exact x2 v (by rw [<- e];exact hv)
    ·exact y2 v (by rw [<- e];exact hv)
   ·rw [if_neg hl]
    split
    ·exact ih N m r (by omega) hm (λx hx=>hr x (by simp [hx])) (by have:=Gw ds m r;omega)
    ·exact ⟨none,rfl,λv hv=>by cases hv⟩
theorem IH {c:Cse} {t v:Ty} (ht:c.type=t) (h:MK c.datas t v):Rq c v:=by subst ht;exact ⟨h.1,h.2.1,by have:=h.2.2;omega⟩
def GI (rows:List Ty) (must:List Int) (i:Nat):List (Ty×Int):=(rows.zip must).drop i
set_option maxHeartbeats 4000000 in
theorem Vv (c:Cse) (ho:OkW c.datas) (hn:AD c.datas c.type=true) (rows:List Ty) (must:List Int) (hlen:rows.length=must.length) (hrl:rows.length<=1000) (hr:II c.datas c.type (rows.zip must)) :
  ∀(f N:Nat) (m:Mi) (i:Nat),N+f<=1000000->MOk c.datas c.type N m->i<=rows.length->EB c.datas m (GI rows must i)<f->∀r,Du c.datas f m (GI rows must i)=some r ->
  Ak Tryz.prog 69 [.agg (dCse c),.agg (Im m),.sl (Bg rows),.sl (AB must),.int .i64 i] (.agg (CI r)):=by
 intro f
 induction f with
 | zero=>intro N m i _ _ _ h;omega
 | succ f ih =>
 intro N m i hN hm hi hU r hS;have hE:i=rows.length->Ak Tryz.prog 121 [.agg (dCse c),.agg (Im m)] (.agg (CI r)):=λe=>by
  have:GI rows must i=[]:=List.drop_eq_nil_of_le (by simp [<- hlen];omega);rw [this] at hS;exact YC c ho N (by omega) 1000 m r hS hm.wf
 by_cases hie:i=rows.length
 ·replace hE:=hE hie;clear ih hS;subst hie;have hre:∃x1 v1 v2 v3 v4,CI r=[x1,v1,v2,v3,v4]:=by
   cases r with
   | none=>exact ⟨_,_,_,_,_,rfl⟩
   | some v=>obtain ⟨a,b,c,d⟩:=v;exact ⟨_,_,_,_,_,rfl⟩
  obtain ⟨x1,y1,y2,y3,y4,hre⟩:=hre;rw [hre] at hE ⊢;obtain ⟨ds,⟨c1,c2,c3,c4⟩,rows0⟩:=c;obtain ⟨⟨so,n,x,ps⟩,nt,⟨hf,hd2,hd3,hd4⟩,ks⟩:=m;refine Ae Ah Tryz.func69 (by decide +kernel) rfl [1,2,3,4,5] rfl rfl ?_;refine mg [] rfl (by simp) ?_;refine Aa rfl (λh=>?_) (λh=>by simp at h);refine md [] rfl (by simp) ?_;refine Ac rfl (λ_=>hE) (by simp) ?_;refine mg [] rfl (by simp) ?_;exact Ab ⟨_,rfl,tV rfl,trivial⟩
 clear hE;have hil:i<rows.length:=by omega
 obtain ⟨p,hp⟩:=Am hil;obtain ⟨b,hb⟩:=Am (l:=must) (i:=i) (by omega);have hzip:(rows.zip must)[i]?=some (p,b):=List.getElem?_zip_eq_some.2 ⟨hp,hb⟩;have hrow:GI rows must i=(p,b)::GI rows must (i+1):=by simp only [GI];rw [Ap hzip]
 obtain ⟨p1,p2,p3⟩:=hr (p,b) (List.mem_of_getElem? hzip);simp only at p1 p2 p3;have hL:=TX c ho N p m (by omega) hm.wf (Jb ho p hm.wf hm.coh (by rw [hm.typ];exact p1) p2);rw [hrow] at hS hU;simp only [Du,EB] at hS hU;by_cases h2:(A0 c.datas p m).1=2
 ·have A:=M6 ho p hm.wf hm.coh (by rw [hm.typ];exact p1) p2 h2;have mT:=hm.split ho p1 p2 p3 h2 true;have mF:=hm.split ho p1 p2 p3 h2 false;have uT:EB c.datas (AH c.datas m (A0 c.datas p m).2.1 (A0 c.datas p m).2.2 true) (GI rows must i)<f:=by rw [hrow];have:=A.less true;simp only [EB];omega
  have uF:EB c.datas (AH c.datas m (A0 c.datas p m).2.1 (A0 c.datas p m).2.2 false) (GI rows must i)<f:=by rw [hrow];have:=A.less false;simp only [EB];omega
  have hro:II c.datas c.type (GI rows must i):=λx hx=>hr x (List.mem_of_mem_drop hx);obtain ⟨x,x1,x2⟩:=En ho c.type f (N+1) _ _ (by omega) mT hro uT;obtain ⟨y,y1,y2⟩:=En ho c.type f (N+1) _ _ (by omega) mF hro uF;have cT:=ih (N+1) _ i (by omega) mT hi uT x x1;have cF:=ih (N+1) _ i (by omega) mF hi uF y y1;have hF:=YZ c ho hn x y (λv hv=>IH rfl (x2 v hv)) (λv hv=>IH rfl (y2 v hv));have sT:=LQ c ho N (by omega) (A0 c.datas p m).2.2 true _ m hm.wf A.ok;have sF:=LQ c ho N (by omega) (A0 c.datas p m).2.2 false _ m hm.wf A.ok;rw [hrow] at x1 y1;rw [if_pos h2,x1,y1] at hS;have hS:r=Gj c.datas x y:=(Option.some.inj hS).symm;rw [<- hS] at hF
  have hpl:((A0 c.datas p m).2.1.length:Int)<=12:=by have:=IN c.datas p m;omega
  clear ih hS A mT mF uT uF x1 y1 x2 y2 hro hU hrow;generalize AH c.datas m (A0 c.datas p m).2.1 (A0 c.datas p m).2.2 true=MT at *;generalize AH c.datas m (A0 c.datas p m).2.1 (A0 c.datas p m).2.2 false=MF at *;generalize A0 c.datas p m=lk3 at *;obtain ⟨a1,path,h⟩:=lk3;simp only at h2 hL sT sF hpl;subst h2;have hre:∃x1 v1 v2 v3 v4,CI r=[x1,v1,v2,v3,v4]:=by
   cases r with
   | none=>exact ⟨_,_,_,_,_,rfl⟩
   | some v=>obtain ⟨a,b,c,d⟩:=v;exact ⟨_,_,_,_,_,rfl⟩
  obtain ⟨x1,y1,y2,y3,y4,hre⟩:=hre;rw [hre] at hF ⊢;have hm1:=hm.wf;clear hm hn ho hr hm1;obtain ⟨ds,⟨c1,c2,c3,c4⟩,rows0⟩:=c;obtain ⟨⟨so,n,x0,ps⟩,nt,⟨hf,hd2,hd3,hd4⟩,ks⟩:=m;obtain ⟨h1,h2,h3,h4⟩:=h;refine Ae Ah Tryz.func69 (by decide +kernel) rfl [1,2,3,4,5] rfl rfl ?_;refine mg [] rfl (by simp) ?_;refine Aa rfl (λh=>by simp at h;omega) (λh=>?_);clear h;refine md [] rfl (by simp) ?_;refine mi rfl (c:=Al p) (λ_=>⟨by simp,by simpa using Av hp,by simp⟩) (by simp) ?_;refine mg [] rfl (by simp) ?_;refine Ac rfl (λ_=>hL) (by simp) ?_;refine mg [] rfl (by simp;rfl) ?_;refine Aa rfl (λh=>?_) (λh=>by simp at h);refine md [] rfl (by simp) ?_;refine Ac rfl (λ_=>sT) (by simp) ?_
  refine mg [] rfl (by simp) ?_;refine Ac rfl (λ_=>cT) (by simp) ?_;refine mg [] rfl (by simp) ?_;refine Ac rfl (λ_=>sF) (by simp) ?_;refine mg [] rfl (by simp) ?_;refine Ac rfl (λ_=>cF) (by simp) ?_;refine mg [] rfl (by simp) ?_;refine Ac rfl (λ_=>hF) (by simp) ?_;refine mg [] rfl (by simp;rfl) ?_;exact Ab ⟨_,rfl,tV rfl,trivial⟩
 rw [if_neg h2] at hS;have hnext:(A0 c.datas p m).1=b->Ak Tryz.prog 69 [.agg (dCse c),.agg (Im m),.sl (Bg rows),.sl (AB must),.int .i64 ((i+1:Nat):Int)] (.agg (CI r)):=λe=>by
  rw [if_pos e] at hS;exact ih N m (i+1) (by omega) hm (by omega) (by have:=Gw c.datas m (GI rows must (i+1));omega) r hS
 have hstop:(A0 c.datas p m).1≠b->r=none:=λe=>by rw [if_neg e] at hS;exact (Option.some.inj hS).symm
 clear ih hS hU hrow;generalize A0 c.datas p m=lk3 at *;obtain ⟨a1,path,h⟩:=lk3;simp only at h2 hL hnext hstop;have hre:∃x1 v1 v2 v3 v4,CI r=[x1,v1,v2,v3,v4]:=by
  cases r with
  | none=>exact ⟨_,_,_,_,_,rfl⟩
  | some v=>obtain ⟨a,b,c,d⟩:=v;exact ⟨_,_,_,_,_,rfl⟩
 clear hm hn ho hr;obtain ⟨ds,⟨c1,c2,c3,c4⟩,rows0⟩:=c;obtain ⟨⟨so,n,x0,ps⟩,nt,⟨hf,hd2,hd3,hd4⟩,ks⟩:=m;obtain ⟨h1,hh2,h3,h4⟩:=h;refine Ae Ah Tryz.func69 (by decide +kernel) rfl [1,2,3,4,5] rfl rfl ?_;refine mg [] rfl (by simp) ?_;refine Aa rfl (λh=>by simp at h;omega) (λh=>?_);clear h;refine md [] rfl (by simp) ?_;refine mi rfl (c:=Al p) (λ_=>⟨by simp,by simpa using Av hp,by simp⟩) (by simp) ?_;refine mg [] rfl (by simp) ?_;refine Ac rfl (λ_=>hL) (by simp) ?_;refine mg [] rfl (by simp;rfl) ?_;refine Aa rfl (λh=>absurd (by simpa using h) h2) (λh=>?_);clear h;refine md [] rfl (by simp) ?_;have hil2:i<must.length:=by omega
 refine mi rfl (c:=[.int .i64 b]) (λ_=>⟨by simp,by simp [AB,hb],rfl⟩) (by simp) ?_;refine mg [] rfl (by simp) ?_;by_cases hab:a1=b
 ·have hnext:=hnext hab;have ew:IntKind.i64.wrap ((i:Int)+1)=((i+1:Nat):Int):=by rw [Bv (by omega) (by omega)];omega
  rw [<- ew] at hnext;obtain ⟨x1,y1,y2,y3,y4,hre⟩:=hre;rw [hre] at hnext ⊢;refine Aa rfl (λh=>by simp at h;exact absurd hab h) (λh=>?_);refine md [] rfl (by simp) ?_;refine Ac rfl (λ_=>hnext) (by simp) ?_;refine mg [] rfl (by simp) ?_;exact Ab ⟨_,rfl,tV rfl,trivial⟩
 ·have hstop:=hstop hab;subst hstop;refine Aa rfl (λh=>?_) (λh=>by simp at h;exact absurd h hab);refine md [] rfl (by simp) ?_;exact Ab ⟨_,rfl,tV rfl,trivial⟩
end Go.Hk
namespace Go.Hk
structure PMv where
 e:TypeId
 z:V
 bytes:Nat
 m:Int
 m2:Int
 dst:Option Nat
 todo:List DI
def jT (tt:TT) (n:Nat) (env:Env) (todo:List DI):Option PMv :=
 match Qx todo with
 | some o=>match o.guard,o.op with
  | none,.makeSlice t l c=>match lk tt t,C9 env l,C9 env c with
   | some { sh:=.sl e,.. },some (.imm (.int _ m)),some (.imm (.int _ m2))=>match lk tt e,Bw n o.dst,AR todo ([],[]) with
    | some ⟨_,_,1,bytes,[.imm z]⟩,true,some (_,_,todo')=>some ⟨e,z,bytes,m,m2,o.dst,todo'⟩
    | _,_,_=>none
   | _,_,_=>none
  | _,_=>none
 | _=>none
section
variable {P:Program} {n:Nat} {F:List Nat} {Q:DQ} {tt:TT} {env env':Env} {st st':St} {ids ids':List Nat} {k todo todo':List DI} {I:Imm} {μ:Mu} {w:World} {a:Act} {Pn:V->Prop} {d:D} {cx:Prop} {ob:List Prop}
theorem Wq (htt:TTok P tt) {c:PMv} (h:jT tt n env todo=some c) (hm:c.m2=c.m) (h0:0<=c.m) (h1:(c.bytes:Int)*c.m<=281474976710656) (h2:c.m<=maxLen)
  (hk:G P n F Q c.todo (Bt c.dst (.imm (.sl (List.replicate c.m.toNat [c.z]))) env) st ids):G P n F Q todo env st ids:=by
 unfold jT at h
 split at h
 ·rename_i o ho
  split at h
  ·rename_i t l cc hg hop
   split at h
   ·rename_i e _ _ _ _ k1 m k2 m2 ht hl hc
    split at h
    ·rename_i sh ag bytes z all o' todo' hi hd hn1;cases h;have ho':o'=o:=Dx ho hn1;subst ho';simp only at hm h0 h1 h2 hk;have hm:=hm.symm;subst hm;refine Bm (fr:=[]) (wr:=[]) (rd:=[]) hn1 ?_ hd (λc hc=>by rw [hop] at hc;cases hc) hk;intro I μ st1 ids1 a w hag hst hon;refine ⟨λ_=>?_,λhw=>by rw [A4 hg] at hw;cases hw⟩;have hops:=AN hon;rw [hop] at hops;have rl:=hops l (by simp [Op.operands]) _ hl;have rc:=hops cc (by simp [Op.operands]) _ hc;obtain ⟨inf,zv,i1,i2,i3,i4,i5,i6⟩:=(htt e _ hi).info;have hz1:=i5 I μ;have hzl:∃c0,zv.cells.toList=[c0]/\RepV I c0 z:=by
      have hl:=hz1.1
      match hcs:zv.cells.toList,hl with
      | [c0],_=>exact ⟨c0,rfl,(hz1.2 0 c0 _ (by rw [hcs];rfl) rfl).immInv⟩
     obtain ⟨c0,hc0,hr0⟩:=hzl;have hsz:inf.size=1:=i2;have hby:inf.bytes=bytes:=i3;have hrun:(execOp a.eval o').run P w = .ok (.value (.slice (some ⟨w.heap.size,0,none⟩) m.toNat m.toNat)) (w.alloc (.cells (Array.replicate m.toNat c0) e)):=by
      have hs:=(htt t _ ht).sh;have hx:=run_make (P:=P) w t e inf zv hs i1 i4 k1 k2 m m h0 (Int.le_refl _) (by rw [hby];exact h1) (by simpa [maxLen] using h2);rw [TW _ _ c0 hc0,hsz,Nat.mul_one] at hx;simp only [execOp,hop];generalize a.eval l=vl at rl;generalize a.eval cc=vc at rc;cases rl with
      | imm _ _ rl =>
      cases rc with
      | imm _ _ rc =>
      cases rl;cases rc;simp only [Sem.run_bind,hx,Result.andThen_ok,Sem.run_pure]
     rw [hrun];have hone0:c0.oneCell'=true:=i6 c0 (by rw [hc0];simp);have hR:∀q:Nat,(List.replicate q [c0]).flatten=List.replicate q c0:=λq=>by
      induction q with
      | zero=>rfl
      | succ q ih=>simp only [List.replicate_succ,List.flatten_cons,ih];rfl
     obtain ⟨I',s1,s2,s3⟩:=ZR hst e 1 (List.replicate m.toNat [c0]) (List.replicate m.toNat [z]) (by simp) (λc hc=>by rw [List.eq_of_mem_replicate hc];rfl) (λc hc=>by rw [List.eq_of_mem_replicate hc];rfl)
      (λk c x hc hx=>by
       rw [List.getElem?_replicate] at hc hx
       split at hc
       ·rename_i hq;rw [if_pos hq] at hx;cases hc;cases hx;exact ⟨⟨rfl,λi v y hv hy=>by
         match i with
         | 0=>cases hv;cases hy;exact hr0
         | i+1=>simp at hv⟩,λu hu=>by simp at hu;subst hu;exact hone0⟩
       ·cases hc) m.toNat (by simp) (by simp [maxLen] at h2 ⊢;omega) []
     rw [List.append_nil,hR,List.length_replicate] at *;have e1:(List.replicate m.toNat c0).toArray=Array.replicate m.toNat c0:=by simp
     rw [e1] at *;exact ⟨I',μ,s1,s2,Mu.le_refl μ,s3⟩
    ·cases h
   ·cases h
  ·cases h
 ·cases h
end
end Go.Hk
namespace Go.Hk
open Go.Proofs
def FK (ds:List Dt) (m:Mi) (l:List (Ty×Int)):Option Ty:=(Du ds 60 m l).getD none
theorem Kk {ds:List Dt} (ho:OkW ds) {t:Ty} {N:Nat} {m:Mi} {l:List (Ty×Int)} (hN:N<=999000) (hm:MOk ds t N m) (hr:II ds t l) (hc:F6 l<60):Du ds 60 m l=some (FK ds m l)/\∀v,FK ds m l=some v->MK ds t v:=by
 obtain ⟨r,r1,r2⟩:=En ho t 60 N m l (by omega) hm hr (by have:=Gw ds m l;omega);have e:FK ds m l=r:=by simp only [FK,r1,Option.getD_some]
 rw [e];exact ⟨r1,r2⟩
def DU (rows:List Ty) (row:Int):List (Ty×Int):=if row<0 then rows.map (·,(0:Int)) else (rows.take row.toNat).map (·,(0:Int))++(match rows[row.toNat]? with
 | some p=>[(p,1)]
 | none=>[])
def Db (c:Cse) (m:Mi) (row:Int):Option Ty:=FK c.datas m (DU c.rows row)
structure RowsOk (c:Cse):Prop where
 pat:∀p∈c.rows,Cn c.datas c.type p=true/\B5 p=true/\An p<=12
 len:c.rows.length<=5
 sum:Ai c.rows<=30
theorem SP (a b:List (Ty×Int)):F6 (a++b)=F6 a+F6 b:=by simp [F6]
theorem RQ (l:List Ty) (b:Int):F6 (l.map (·,b))=Ai l+l.length:=by
 induction l with
 | nil=>rfl
 | cons p r ih=>simp only [List.map_cons,F6,List.sum_cons,Ai,List.length_cons] at *;omega
theorem WI {c:Cse} (h:RowsOk c) (row:Int):II c.datas c.type (DU c.rows row)/\F6 (DU c.rows row)<60:=by
 have hl:=h.len;have hs:=h.sum;unfold DU
 split
 ·refine ⟨λx hx=>?_,by rw [RQ];omega⟩;obtain ⟨p,hp,rfl⟩:=List.mem_map.1 hx;exact h.pat p hp
 ·constructor
  ·intro x hx;rcases List.mem_append.1 hx with hx | hx
   ·obtain ⟨p,hp,rfl⟩:=List.mem_map.1 hx;exact h.pat p (List.mem_of_mem_take hp)
   ·split at hx
    ·rename_i p hp;rw [List.mem_singleton.1 hx];exact h.pat p (List.mem_of_getElem? hp)
    ·cases hx
  ·rw [SP,RQ];have h1:Ai (c.rows.take row.toNat)<=30:=by
    have e:=Bs (c.rows.take row.toNat) (c.rows.drop row.toNat);rw [List.take_append_drop] at e;omega
   have h2:(c.rows.take row.toNat).length<=5:=by rw [List.length_take];omega
   have h3:F6 (match c.rows[row.toNat]? with | some p=>[(p,1)] | none=>[])<=13:=by
    split
    ·rename_i p hp;have:=(h.pat p (List.mem_of_getElem? hp)).2.2;simp [F6];omega
    ·simp [F6]
   omega
theorem Sc (l:List Ty) (b:Int):l.zip (List.replicate l.length b)=l.map (·,b):=by
 induction l with
 | nil=>rfl
 | cons p r ih=>simp [List.replicate_succ,ih]
theorem dW (l:List Ty):∀{k:Nat} {p:Ty},l[k]?=some p->(l.take (k+1)).zip ((List.replicate (k+1) (0:Int)).set k 1)=(l.take k).map (·,(0:Int))++[(p,1)]:=by
 induction l with
 | nil=>intro k p h;simp at h
 | cons q r ih =>
  intro k p h;cases k with
  | zero=>simp at h;subst h;simp
  | succ k =>
   have:=ih (k:=k) (p:=p) (by simpa using h);rw [List.replicate_succ,List.take_succ_cons,List.set_cons_succ,List.zip_cons_cons,this];simp
set_option maxHeartbeats 2000000 in
theorem Xt (c:Cse) (ho:OkW c.datas) (hn:AD c.datas c.type=true) (hr:RowsOk c) (N:Nat) (hN:N<=999000) (m:Mi) (hm:MOk c.datas c.type N m) (row:Int) (h1 : -1<=row) (h2:row<c.rows.length) :
  Ak Tryz.prog 66 [.agg (dCse c),.agg (Im m),.int .i64 row] (.agg (CI (Db c m row))):=by
 obtain ⟨w1,w2⟩:=WI hr row;obtain ⟨v1,v2⟩:=Kk ho hN hm w1 w2;have hu:=Gw c.datas m (DU c.rows row);have hS:=λrows must i hl hrl hok hU hS=>Vv c ho hn rows must hl hrl hok 60 N m 0 (by omega) hm i hU (Db c m row) hS;have hlen:=hr.len;rw [show FK c.datas m (DU c.rows row)=Db c m row from rfl] at v1;have hre:∃x1 v1 v2 v3 v4,CI (Db c m row)=[x1,v1,v2,v3,v4]:=by
  cases Db c m row with
  | none=>exact ⟨_,_,_,_,_,rfl⟩
  | some v=>obtain ⟨a,b,c,d⟩:=v;exact ⟨_,_,_,_,_,rfl⟩
 by_cases h0:row<0
 ·have hw:DU c.rows row=c.rows.map (·,(0:Int)):=if_pos h0;rw [hw] at v1 hu w1 w2;have hc:=hS c.rows (List.replicate c.rows.length 0) (Nat.zero_le _) (by simp) (by omega) (by rw [Sc];exact w1) (by simp only [GI,Sc,List.drop_zero];omega) (by simp only [GI,Sc,List.drop_zero];exact v1);have er:AB (List.replicate c.rows.length 0)=List.replicate ((c.rows.length:Int)).toNat [V.int .i64 0]:=by rw [<- J0];simp
  rw [er] at hc;clear hS v1 v2 w1 w2 hm;obtain ⟨x1,y1,y2,y3,y4,hre⟩:=hre;rw [hre] at hc ⊢;obtain ⟨ds,⟨c1,c2,c3,c4⟩,rows⟩:=c;obtain ⟨⟨so,n,x,ps⟩,nt,⟨f,hd2,hd3,hd4⟩,ks⟩:=m;simp only at hlen hc;refine Ae Ah Tryz.func66 (by decide +kernel) rfl [1,2,3,4] rfl rfl ?_;refine mg [] rfl (by simp) ?_;refine Aa rfl (λh=>?_) (λh=>by simp at h;omega);refine md [] rfl (by simp) ?_;refine Wq Ah rfl rfl (by simp) (by simp;omega) (by simp [maxLen];omega) ?_;refine mg [] rfl (by simp) ?_;refine Ac rfl (λ_=>by simpa using hc) (by simp) ?_;refine mg [] rfl (by simp;rfl) ?_;exact Ab ⟨_,rfl,tV rfl,trivial⟩
 obtain ⟨k,rfl⟩:∃k:Nat,row=k:=⟨row.toNat,by omega⟩
 have hk:k<c.rows.length:=by omega
 obtain ⟨p,hp⟩:=Am hk;have hw:DU c.rows (k:Int)=(c.rows.take (k+1)).zip ((List.replicate (k+1) (0:Int)).set k 1):=by
  rw [dW c.rows hp];simp only [DU,if_neg h0,Int.toNat_natCast,hp]
 rw [hw] at v1 hu w1 w2;have hl1:(c.rows.take (k+1)).length=k+1:=by rw [List.length_take];omega
 have hc:=hS (c.rows.take (k+1)) ((List.replicate (k+1) (0:Int)).set k 1) (Nat.zero_le _) (by simp;omega) (by omega) w1 (by simp only [GI,List.drop_zero];omega) (by simp only [GI,List.drop_zero];exact v1);clear hS v1 v2 w1 w2 hm;have ew:IntKind.i64.wrap ((k:Int)+1)=((k+1:Nat):Int):=by rw [Bv (by omega) (by omega)];omega
 obtain ⟨x1,y1,y2,y3,y4,hre⟩:=hre;rw [hre] at hc ⊢;obtain ⟨ds,⟨c1,c2,c3,c4⟩,rows⟩:=c;obtain ⟨⟨so,n,x,ps⟩,nt,⟨f,hd2,hd3,hd4⟩,ks⟩:=m;simp only at hlen hc hk hp hl1;refine Ae Ah Tryz.func66 (by decide +kernel) rfl [1,2,3,4] rfl rfl ?_;refine mg [] rfl (by simp) ?_;refine Aa rfl (λh=>by simp at h;omega) (λh=>?_);refine md [] rfl (by simp) ?_;refine Mt Ah rfl rfl (by simp only [ew];omega) (by simp only [ew];omega) (by simp only [ew,maxLen];omega) rfl ?_;have er:(List.replicate (IntKind.i64.wrap ((k:Int)+1)).toNat [V.int .i64 0])=AB (List.replicate (k+1) 0):=by rw [ew,<- J0];simp
 simp only [Bt];rw [er,rowI_length,List.length_replicate];refine mg [] rfl (by simp) ?_;refine CN Ah rfl (λ_=>⟨by simp,by simp;omega⟩) (by simp) ?_;refine mg [] rfl (by simp) ?_;refine HA Ah (e:=[.int .i64 0]) (e':=[.int .i64 1]) rfl (by simp [AB]) (by show 0+1<=1;decide) (by simp) (by simp) ?_;refine jL 2 rfl (by simp) ?_;refine AZ 4 rfl ?_;have es:(AB (List.replicate (k+1) (0:Int))).set k (List.take 0 [V.int .i64 0]++[V.int .i64 1]++List.drop (0+1) [V.int .i64 0])=AB ((List.replicate (k+1) (0:Int)).set k 1):=by show (AB (List.replicate (k+1) (0:Int))).set k [V.int .i64 1]=_;rw [OG]
 have et:(Bg rows).take (k+1)=Bg (rows.take (k+1)):=by simp only [Cq,List.map_take]
 refine md [] rfl (by simp [ew];exact ⟨by omega,λc hc=>by rw [Cq] at hc;obtain ⟨t,_,rfl⟩:=List.mem_map.1 hc;simp⟩) ?_;refine Ac (v:=.agg [x1,y1,y2,y3,y4]) rfl (λ_=>?_) (by simp) ?_
 ·rw [ew];rw [<- es,<- et] at hc;exact hc
 refine mg [] rfl (by simp;rfl) ?_;exact Ab ⟨_,rfl,tV rfl,trivial⟩
theorem Vh (c:Cse) (ho:OkW c.datas) (hn:AD c.datas c.type=true) (hr:RowsOk c) (hm:MOk c.datas c.type 0 (As c.type)):Ak Tryz.prog 17 [.agg (dCse c)] (.agg (CI (Db c (As c.type) (-1)))):=by
 have hL:=Xt c ho hn hr 0 (by omega) _ hm (-1) (by omega) (by omega);have hre:∃x1 v1 v2 v3 v4,CI (Db c (As c.type) (-1))=[x1,v1,v2,v3,v4]:=by
  cases Db c (As c.type) (-1) with
  | none=>exact ⟨_,_,_,_,_,rfl⟩
  | some v=>obtain ⟨a,b,c,d⟩:=v;exact ⟨_,_,_,_,_,rfl⟩
 obtain ⟨x1,y1,y2,y3,y4,hre⟩:=hre;rw [hre] at hL ⊢;obtain ⟨ds,⟨c1,c2,c3,c4⟩,rows⟩:=c;refine Ae Ah Tryz.func17 (by decide +kernel) rfl [1,2,3,4] rfl rfl ?_;refine mg [] rfl (by simp) ?_;refine Ac rfl (λ_=>hL) (by simp) ?_;refine mg [] rfl (by simp) ?_;exact Ab ⟨_,rfl,tV rfl,trivial⟩
theorem WE (c:Cse) (ho:OkW c.datas) (hn:AD c.datas c.type=true) (hr:RowsOk c) (hm:MOk c.datas c.type 0 (As c.type)) (row:Int) (h1 : -1<=row) (h2:row<c.rows.length):Ak Tryz.prog 21 [.agg (dCse c),.int .i64 row] (.agg (CI (Db c (As c.type) row))):=by
 have hL:=Xt c ho hn hr 0 (by omega) _ hm row h1 h2;have hre:∃x1 v1 v2 v3 v4,CI (Db c (As c.type) row)=[x1,v1,v2,v3,v4]:=by
  cases Db c (As c.type) row with
  | none=>exact ⟨_,_,_,_,_,rfl⟩
  | some v=>obtain ⟨a,b,c,d⟩:=v;exact ⟨_,_,_,_,_,rfl⟩
 obtain ⟨x1,y1,y2,y3,y4,hre⟩:=hre;rw [hre] at hL ⊢;obtain ⟨ds,⟨c1,c2,c3,c4⟩,rows⟩:=c;refine Ae Ah Tryz.func21 (by decide +kernel) rfl [1,2,3,4] rfl rfl ?_;refine mg [] rfl (by simp) ?_;refine Ac rfl (λ_=>hL) (by simp) ?_;refine mg [] rfl (by simp) ?_;exact Ab ⟨_,rfl,tV rfl,trivial⟩
def LB (c:Cse) (p q:Ty):Option Ty:=FK c.datas (As c.type) [(p,1),(q,1)]
def Cx (c:Cse):Nat->List Int
 | 0=>[]
 | i+1=>Cx c i++(if (Db c (As c.type) i).isSome then [] else [(i:Int)])
theorem GD (c:Cse):∀i,(Cx c i).length<=i
 | 0=>Nat.le_refl _
 | i+1=>by
  have:=GD c i;simp only [Cx,List.length_append]
  split <;> simp <;> omega
set_option maxHeartbeats 1000000 in
theorem Vd (c:Cse) (ho:OkW c.datas) (hn:AD c.datas c.type=true) (hr:RowsOk c) (hm:MOk c.datas c.type 0 (As c.type)):Ak Tryz.prog 15 [.agg (dCse c)] (.sl (AB (Cx c c.rows.length))):=by
 have hS:=λrow h1 h2=>WE c ho hn hr hm row h1 h2;have hl:=hr.len;have hst:∀i,Cx c (i+1)=Cx c i++(if (Db c (As c.type) i).isSome then [] else [(i:Int)]):=λi=>rfl;have hul:=GD c;have h0:Cx c 0=[]:=rfl;generalize Cx c=U at *;generalize Db c (As c.type)=L at *;obtain ⟨ds,⟨c1,c2,c3,c4⟩,rows⟩:=c;simp only at hS hl hst ⊢;refine Ae Ah Tryz.func15 (by decide +kernel) rfl [1,2,3,4] rfl rfl ?_;refine mg [] rfl (by simp) ?_;refine Ct (e:=3) (sz:=1) 3 2 (by decide) rfl ?_;have er:∀a b,AB (a++b)=AB a++AB b:=λa b=>by simp [AB]
 refine Aj (λi:Nat=>[(4,.imm (.int .i64 i)),(3,.own 2 (AB (U i)).length),(1,.ref 1 0)]) (λi=>[(1,some (.immb 29 6 (dCse ⟨ds,.mk c1 c2 c3 c4,rows⟩))),(2,some (.row 3 1 (AB (U i))))]) [3,4] (λi=>rows.length-i)
  (λi=>i<=rows.length) 0 (Nat.zero_le _) ⟨rfl,by rw [h0];rfl,rfl,trivial⟩ ⟨rfl,by rw [h0];rfl,trivial⟩ rfl λi hi ih=>?_
 refine md [] rfl (by simp) ?_;refine Aa rfl (λh=>?_) (λh=>?_)
 ·simp at h;have hSi:=hS i (by omega) (by omega);have hih:=ih (i+1) (by omega) (by omega);rw [hst,er] at hih;have hll:(AB (U i)).length<=5:=by have:=hul i;simp;omega
  generalize AB (U i)=l at *;refine md [] rfl (by simp) ?_;refine Ac rfl (λ_=>hSi) (by simp) ?_;cases hLi:L i with
  | none =>
   rw [hLi] at hih;simp only [Option.isSome_none,Bool.false_eq_true,if_false] at hih;refine mg [] rfl (by simp) ?_;refine Aa rfl (λh=>?_) (λh=>by simp at h);refine md [] rfl (by simp) ?_;refine Bp Ah rfl ⟨by simp,by simp [maxLen] at hll ⊢;omega,by simp at hll ⊢;omega,trivial⟩ ?_;refine mg [] rfl (by simp) ?_;refine A3 2 3 rfl ?_;exact Ad hih ⟨At (Bv (by omega) (by omega)),by simp only [List.length_append];rfl,rfl,trivial⟩ ⟨rfl,rfl,trivial⟩ rfl
  | some v =>
   rw [hLi] at hih;simp only [Option.isSome_some,if_true,show AB []=[] from rfl,List.append_nil] at hih;obtain ⟨v1,v2,v3,v4⟩:=v;refine mg [] rfl (by simp) ?_;refine Aa rfl (λh=>by simp at h) (λh=>?_);refine md [] rfl (by simp) ?_;exact Ad hih ⟨At (Bv (by omega) (by omega)),rfl,rfl,trivial⟩ ⟨rfl,rfl,trivial⟩ rfl
 ·simp at h;refine Ar rfl ?_;refine AZ 2 rfl ?_;refine md [] rfl (by simp) ?_;rw [show i=rows.length by omega];exact Ab ⟨_,rfl,tV rfl,trivial⟩
end Go.Hk
namespace Go.Hk
structure kU where
 dx:D
 es:List (List V)
 es2:List (List V)
 sz:Nat
 bytes:Nat
 dst:Option Nat
 todo:List DI
def XB:D->Option (List (List V))
 | .nils=>some []
 | .clip es=>some es
 | _=>none
def gS (tt:TT) (n:Nat) (env:Env) (todo:List DI):Option kU :=
 match AR todo ([],[]) with
 | some (_,o,todo')=>match o.guard,o.op with
  | none,.call { callee:=.builtin .append,args:=⟨[x,y]⟩,argTypes:=⟨[t,t']⟩ }=>match Nat.beq t t',lk tt t,C9 env x,C9 env y with
   | true,some { sh:=.sl e,.. },some dx,some (.imm (.sl (e1::es2)))=>match lk tt e,XB dx with
    | some i,some es=>match Nat.beq i.zero.length i.size&&Nat.blt 0 i.size,Bw n o.dst with
     | true,true=>some ⟨dx,es,e1::es2,i.size,i.bytes,o.dst,todo'⟩
     | _,_=>none
    | _,_=>none
   | _,_,_,_=>none
  | _,_=>none
 | none=>none
section
variable {P:Program} {n:Nat} {F:List Nat} {Q:DQ} {tt:TT} {env env':Env} {st st':St} {ids ids':List Nat} {k todo todo':List DI} {I:Imm} {μ:Mu} {w w':World} {a:Act} {Pn:V->Prop} {d:D} {cx:Prop} {ob:List Prop}
theorem StRep.growI (hst:StRep I μ st ids w) (hg:w.grownBy w' none) {c:Nat} {o:Obj} (hc:w.heap.size<=c) (ho:w'.heap[c]?=some o):∃I',I' c=some o/\I.le I'/\StRep I' μ st ids w'/\Ext I μ st w I' μ st w':=by
 have hnew:I c=none:=by
  cases h:I c with
  | none=>rfl
  | some o'=>have:=BA (hst.imm _ _ h);omega
 have hold:∀b,b<w.heap.size->w'.heap[b]?=w.heap[b]?:=λb hb=>hg.block b hb (by simp);have hle:I.le (λb=>if b=c then some o else I b):=λb o' h=>by
  have:b≠c:=λe=>by rw [e,hnew] at h;cases h
  simp [this,h]
 refine ⟨λb=>if b=c then some o else I b,by simp,hle,?_,?_⟩
 ·refine { imm:=λb o' h=>?_,blk:=λid blk hl=>?_,apart:=λid blk g b hl hg' hb=>?_,inj:=hst.inj,nodup:=hst.nodup,idsFree:=hst.idsFree }
  ·by_cases hb:b=c
   ·subst hb;simp at h;subst h;exact ho
   ·simp [hb] at h;have:=hst.imm _ _ h;rw [hold b (BA this)];exact this
  ·obtain ⟨g,h1,h2⟩:=hst.blk id blk hl;exact ⟨g,h1,(h2.mono hle (Mu.le_refl μ)).world (λb hb=>hold b (hst.apart id blk g b hl h1 hb).2)⟩
  ·obtain ⟨h1,h2⟩:=hst.apart id blk g b hl hg' hb;have:b≠c:=by omega
   exact ⟨by simp [this,h1],Nat.lt_of_lt_of_le h2 hg.size⟩
 ·exact { imm:=hle,os:=hg.os,tape:=hg.tape,output:=hg.output,size:=hg.size,block:=λb hb _=>hold b hb,fresh:=λb _ h=>h,old:=λb hb _=>if_neg (by omega) }
theorem Vy {e:TypeId} {sz:Nat} {u:Value} {es:List (List V)} {xs:List Value} (h:w.ownsRow 0 e sz u es.length xs) (hr:RepVL I xs es.flatten) (hsz:∀c∈es,c.length=sz) (h1:∀v∈xs,v.oneCell'=true) {b:Nat} {o:Obj} (hb:u.ownBlock=some b) (ho:w.heap[b]?=some o) (hI:I b=some o):RepV I u (.sl es):=by
 rcases h.2 with ⟨rfl,_⟩ | ⟨g,cap,cur,rfl,_,hheap,hle,hcm,hcs,htake⟩
 ·cases hb
 ·have hb:g=b:=by simpa [Value.ownBlock] using hb
  subst hb;rw [hheap] at ho;cases ho;have hxl:=h.1;refine .sl g 0 es.length cap sz es (λi j=>(xs[i*sz+j]?).getD undef) rfl hle hcm hsz ?_ ?_
  ·intro i c j x hi hj;have hf:=Ca hsz i c j x hi hj;have hlt:i*sz+j<xs.length:=by rw [hr.1];exact (List.getElem?_eq_some_iff.1 hf).1
   have hxs:xs[i*sz+j]?=some xs[i*sz+j]:=List.getElem?_eq_getElem hlt;rw [hxs,Option.getD_some];refine ⟨?_,h1 _ (List.getElem_mem hlt)⟩;unfold Imm.cell;rw [hI];have hcur:cur[i*sz+j]?=some xs[i*sz+j]:=by
    have e1:(cur.toList.take (es.length*sz))[i*sz+j]?=some xs[i*sz+j]:=by rw [htake];exact hxs
    have e2:=e1;rw [List.getElem?_take] at e2
    split at e2
    ·simpa using e2
    ·cases e2
   simp only [Nat.zero_add,hcur]
  ·intro i c j x hi hj;have hf:=Ca hsz i c j x hi hj;have hlt:i*sz+j<xs.length:=by rw [hr.1];exact (List.getElem?_eq_some_iff.1 hf).1
   have hxs:xs[i*sz+j]?=some xs[i*sz+j]:=List.getElem?_eq_getElem hlt;rw [hxs,Option.getD_some];exact hr.2 _ _ x hxs hf
theorem RF (htt:TTok P tt) {c:kU} (h:gS tt n env todo=some c) (hok:dF c.sz c.bytes (.clip []) c.es c.es2) (hes:∀x∈c.es,x.length=c.sz)
  (hk:G P n F Q c.todo (Bt c.dst (.imm (.sl (c.es++c.es2))) env) st ids):G P n F Q todo env st ids:=by
 unfold gS at h
 split at h
 ·rename_i all o todo' hn1
  split at h
  ·rename_i x y t t' hg hop
   split at h
   ·rename_i e _ _ _ _ dx e1 es2 htt' ht hx hy;have:=Nat.eq_of_beq_eq_true htt';subst this
    split at h
    ·rename_i i es hi hb
     split at h
     ·rename_i hz hd;cases h;simp only at hok hes hk;refine Bm (fr:=[]) (wr:=[]) (rd:=[]) hn1 ?_ hd (λc hc=>by rw [hop] at hc;cases hc) hk;intro I μ st1 ids1 a w hag hst hon;refine ⟨λ_=>?_,λhw=>by rw [A4 hg] at hw;cases hw⟩;have hops:=AN hon;rw [hop] at hops;have rx:=hops x (by simp [Op.operands,Call.operands]) _ hx;have ry:=(hops y (by simp [Op.operands,Call.operands]) _ hy).immInv;obtain ⟨inf,z,z1,z2,z3,z4,z5,z6⟩:=(htt e i hi).info;have hu:P.underlying t=some (.slice e):=htt.sh ht;simp only [Bool.and_eq_true,Nat.blt_eq] at hz;have hzl:z.cells.size=i.size:=by
       have:=(z5 I μ).1;rw [Nat.eq_of_beq_eq_true hz.1] at this;simpa using this
      obtain ⟨k1,k2,k3,_⟩:=hok;have hrun:∀{u w'},(Builtin.append_ #[t,t] o.type #[a.eval x,a.eval y]).run P w = .ok u w'->(execOp a.eval o).run P w = .ok (.value u) w':=by
       intro u w' h;simp only [execOp,hop,resolve,invoke,builtin,Sem.run_bind,Sem.run_pure,Result.andThen_ok,List.map_toArray,List.map_cons,List.map_nil,h]
      rcases KQ hst.imm ry k1 hz.2 with ⟨_,e0⟩ | ⟨yb,yo,yc,news,ey,_,_,n1,n2,n3,n4,n5⟩
      ·cases e0
      have fin:∀{u:Value} {w':World} {xs:List Value},(Builtin.append_ #[t,t] o.type #[a.eval x,a.eval y]).run P w = .ok u w'->w'.ownsRow 0 e i.size u (es.length+(e1::es2).length) (xs++news)->w.grownBy w' none->(∀b,u.ownBlock=some b->w.heap.size<=b)->RepVL I xs es.flatten->(∀v∈xs,v.oneCell'=true) ->
        valX P ((execOp a.eval o).run P w) (λv w'=>∃I' μ',StRep I' μ' ([]++st1) ids1 w'/\RepD I' μ' v (.imm (.sl (es++e1::es2)))/\μ.le μ'/\Ext I μ st1 w I' μ' ([]++st1) w') (IG (KZ Q) I μ st1 w):=by
       intro u w' xs r1 r2 r3 r4 r5 r6;rw [hrun r1];obtain ⟨b,hb,hlt⟩:∃b,u.ownBlock=some b/\b<w'.heap.size:=by
        rcases r2.2 with ⟨_,hh⟩ | ⟨g,cap,cur,rfl,_,hheap,_⟩
        ·simp at hh
        ·exact ⟨g,rfl,BA hheap⟩
       have ho:w'.heap[b]?=some w'.heap[b]:=Array.getElem?_eq_getElem hlt;obtain ⟨I',q1,q2,q3,q4⟩:=hst.growI r3 (r4 b hb) ho;refine ⟨I',μ,q3,.imm _ _ (Vy (es:=es++e1::es2) (by rw [List.length_append];exact r2) ?_ ?_ ?_ hb ho q1),Mu.le_refl μ,q4⟩
       ·rw [List.flatten_append];exact (r5.append n4).mono q2
       ·intro c hc;exact (List.mem_append.1 hc).elim (hes c) (k1 c)
       ·intro v hv;exact (List.mem_append.1 hv).elim (r6 v) (n3 v)
      have hnil:a.eval x = .slice none 0 0->es=[]->valX P ((execOp a.eval o).run P w) (λv w'=>∃I' μ',StRep I' μ' ([]++st1) ids1 w'/\RepD I' μ' v (.imm (.sl (es++e1::es2)))/\μ.le μ'/\Ext I μ st1 w I' μ' ([]++st1) w') (IG (KZ Q) I μ st1 w):=λhv he=>by
       subst he;obtain ⟨v',w',q1,q2,q3,_⟩:=run_append_own (P:=P) w w.heap.size t o.type e inf z i.size i.bytes hu z1 z4 z2 z3 hzl hz.2 (.slice none 0 0) 0 [] (World.ownsRow_nil w _ e i.size) ⟨yb,yo,none⟩ (e1::es2).length yc news n1 n2 n3
        (by simpa using k2) (by simpa using k3) (Nat.le_refl _)
       have q2':w'.ownsRow 0 e i.size v' (0+(e1::es2).length) ([]++news):=⟨q2.1,q2.2.imp id λ⟨g,cap,cur,a1,_,a2⟩=>⟨g,cap,cur,a1,Nat.zero_le _,a2⟩⟩
       exact fin (by rw [hv,ey];exact q1) q2' ⟨q3.os,q3.tape,q3.output,q3.size,λb hb _=>q3.block b hb (by simp [Value.ownBlock])⟩ (λb h=>(q2.lt b h).1) .nil (by simp)
      have hgrow:∀(ad:Addr) (cap:Nat) (xs:List Value),a.eval x = .slice (some ad) es.length cap->xs.length=es.length*i.size->(∀j u,xs[j]?=some u->w.cell? (ad.add j)=some u)->cap<es.length+(e1::es2).length->RepVL I xs es.flatten->(∀v∈xs,v.oneCell'=true) ->
        valX P ((execOp a.eval o).run P w) (λv w'=>∃I' μ',StRep I' μ' ([]++st1) ids1 w'/\RepD I' μ' v (.imm (.sl (es++e1::es2)))/\μ.le μ'/\Ext I μ st1 w I' μ' ([]++st1) w') (IG (KZ Q) I μ st1 w):=λad cap xs hv hl hcell hlt hr h1=>by
       have hsmall:es.length+(e1::es2).length<=9223372036854775807:=by simp only [maxLen] at k2;omega
       have hr':=run_append_grow (P:=P) w t o.type e inf z hu z1 z4 ad es.length cap xs (by rw [z2];exact hl) hcell ⟨yb,yo,none⟩ (e1::es2).length yc news (by rw [z2];exact n1) n2 hlt (by omega) (by rw [z3];exact growslice_fits hlt k3);have hge:=grownCap_ge w (es.length+(e1::es2).length) cap e;have hcm:grownCap w (es.length+(e1::es2).length) cap e<=maxLen:=grownCap_le_maxLen w _ cap e k2;have hlen:(xs++news).length=(es.length+(e1::es2).length)*i.size:=by rw [List.length_append,hl,n1,Nat.add_mul]
       refine fin (by rw [hv,ey];exact hr') (xs:=xs) ⟨hlen,.inr ⟨w.heap.size,_,_,rfl,Nat.zero_le _,Dz w.drew _,hge,hcm,?_,?_⟩⟩ ⟨rfl,rfl,rfl,by simp,λk hk _=>FM w.drew _ hk⟩
        (λb h=>by simp [Value.ownBlock] at h;omega) hr h1
       ·simp only [Array.size_append,List.size_toArray,size_zeroCells,hzl,hl,n1,<- Nat.add_mul];congr 1;omega
       ·simp only [Array.toList_append,List.append_assoc];rw [<- List.append_assoc,<- hlen];exact List.take_left
      cases dx with
      | nils =>
       simp only [XB,Option.some.injEq] at hb;subst hb;have hv:a.eval x = .slice none 0 0:=by
        generalize a.eval x=v at rx;cases rx;rfl
       exact hnil hv rfl
      | clip es' =>
       simp only [XB,Option.some.injEq] at hb;subst hb;have rx':∃ad len,a.eval x = .slice ad len len/\RepV I (.slice ad len len) (.sl es'):=by
        generalize a.eval x=v at rx;cases rx with
        | clip ad len _ h=>exact ⟨ad,len,rfl,h⟩
       obtain ⟨ad,len,hv,hr⟩:=rx';rcases KQ hst.imm hr hes hz.2 with ⟨⟨adx,ex⟩,e0⟩ | ⟨xb,xo,xc,xs,ex,_,_,p1,p2,p3,p4,p5⟩
       ·cases adx with
        | none=>exact hnil (hv.trans ex) e0
        | some adx =>
         subst e0;exact hgrow adx 0 [] (hv.trans ex) (by simp) (λj u h=>by simp at h) (by simp) .nil (by simp)
       ·cases ex;exact hgrow ⟨xb,xo,none⟩ _ xs hv p1 p2 (by simp) p4 p3
      | _=>simp [XB] at hb
     ·cases h
    ·cases h
   ·cases h
  ·cases h
 ·cases h
end
end Go.Hk
namespace Go.Hk
structure PCl where
 es:List (List V)
 m:Int
 m2:Int
 dst:Option Nat
 todo:List DI
def gO (tt:TT) (n:Nat) (env:Env) (todo:List DI):Option PCl :=
 match AR todo ([],[]) with
 | some (_,o,todo')=>match o.guard,o.op with
  | none,.slice t x none (some h) (some c)=>match lk tt t,C9 env x,C9 env h,C9 env c,Bw n o.dst with
   | some { sh:=.sl e,.. },some (.imm (.sl es)),some (.imm (.int _ m)),some (.imm (.int _ m2)),true=>match lk tt e with
    | some _=>some ⟨es,m,m2,o.dst,todo'⟩
    | none=>none
   | _,_,_,_,_=>none
  | _,_=>none
 | none=>none
section
variable {P:Program} {n:Nat} {F:List Nat} {Q:DQ} {tt:TT} {env env':Env} {st st':St} {ids ids':List Nat} {k todo todo':List DI} {I:Imm} {μ:Mu} {w w':World} {a:Act}
theorem jC (htt:TTok P tt) {c:PCl} (h:gO tt n env todo=some c) (h1:c.m=c.es.length) (h2:c.m2=c.es.length)
  (hk:G P n F Q c.todo (Bt c.dst (.clip c.es) env) st ids):G P n F Q todo env st ids:=by
 unfold gO at h
 split at h
 ·rename_i all o todo' hn1
  split at h
  ·rename_i t x hh cc hg hop
   split at h
   ·rename_i e _ _ _ _ es k1 m k2 m2 ht hx hhh hcc hd
    split at h
    ·rename_i ti hti;cases h;simp only at h1 h2 hk;subst h1;subst h2;refine Bm (fr:=[]) (wr:=[]) (rd:=[]) hn1 ?_ hd (λc hc=>by rw [hop] at hc;cases hc) hk;intro I μ st1 ids1 a w hag hst hon;refine ⟨λ_=>?_,λhw=>by rw [A4 hg] at hw;cases hw⟩;have hops:=AN hon;rw [hop] at hops;have rx:=(hops x (by simp [Op.operands]) _ hx).immInv;have e1:a.eval hh = .int k1 es.length:=(hops hh (by simp [Op.operands]) _ hhh).immInv.intInv;have e2:a.eval cc = .int k2 es.length:=(hops cc (by simp [Op.operands]) _ hcc).immInv.intInv;have hb:∀(k:IntKind) (x y:Nat) (c:BoundsCode),x<=y->(Instr.sliceBound (.int k x) y c).run P w = .ok x w:=by
      intro k x y c hxy;simp [Instr.sliceBound,asIntOf,hxy]
     have hb0:∀(k:IntKind) (c:BoundsCode),(Instr.sliceBound (.int k 0) 0 c).run P w = .ok 0 w:=by
      intro k c;simp [Instr.sliceBound,asIntOf]
     have key:∃ad,(Instr.sliceAt t (a.eval x) none (some (.int k1 es.length)) (some (.int k2 es.length))).run P w = .ok (.slice ad es.length es.length) w/\RepV I (.slice ad es.length es.length) (.sl es):=by
      generalize a.eval x=v at rx;cases rx with
      | slnil=>exact ⟨none,by simp [Instr.sliceAt,run_underlying (htt.sh ht),Instr.slice,Instr.sliceBounds,hb0,(htt e ti hti).sizeOf w],.slnil⟩
      | sl0 ad=>exact ⟨ad,by simp [Instr.sliceAt,run_underlying (htt.sh ht),Instr.slice,Instr.sliceBounds,hb0,(htt e ti hti).sizeOf w],.sl0 ad⟩
      | sl b o len cap sz _ vs hl hc hm hsz hcell hrep =>
       subst hl;refine ⟨some ⟨b,o,none⟩,?_,.sl b o _ _ sz es vs rfl (Nat.le_refl _) (by omega) hsz hcell hrep⟩;simp [Instr.sliceAt,run_underlying (htt.sh ht),Instr.slice,Instr.sliceBounds,hb _ _ _ _ hc,hb _ _ _ _ (Nat.le_refl es.length),(htt e ti hti).sizeOf w,CQ]
     obtain ⟨ad,r1,r2⟩:=key;have hrun:(execOp a.eval o).run P w = .ok (.value (.slice ad es.length es.length)) w:=by
      simp only [execOp,hop,e1,e2,Option.map_none,Option.map_some,Sem.run_bind,r1,Result.andThen_ok,Sem.run_pure]
     rw [hrun];exact ⟨I,μ,hst,.clip _ _ _ r2,Mu.le_refl μ,Ext.refl _ _ _ _⟩
    ·cases h
   ·cases h
  ·cases h
 ·cases h
end
end Go.Hk
namespace Go.Hk
open Go.Proofs
def Bo (l:List Ty):List (List V):=l.map Bd
@[simp] theorem hdsV_length (l:List Ty):(Bo l).length=l.length:=by simp [Bo]
@[simp] theorem headV_length (h:Ty):(Bd h).length=3:=by obtain ⟨a,b,c,d⟩:=h;rfl
theorem IX {l:List Ty} {i:Nat} {h:Ty} (e:l[i]?=some h):(Bo l)[i]?=some (Bd h):=by simp [Bo,e]
theorem Ns (a b:List Ty):Bo (a++b)=Bo a++Bo b:=by simp [Bo]
theorem Xv (l:List Ty):∀c∈Bo l,c.length=3:=λc hc=>by obtain ⟨h,_,rfl⟩:=List.mem_map.1 hc;simp
def SG (h:Ty):Int->List Ty->Int
 | _,[]=>-1
 | i,x::r=>if AK h x=true then i else SG h (i+1) r
theorem Ul (h:Ty):∀(l:List Ty) (i:Int),0<=i->decide (0<=SG h i l)=B1 l h
 | [],i,_=>rfl
 | x::r,i,hi=>by
  have ih:=Ul h r (i+1) (by omega);have e:B1 (x::r) h=(AK h x||B1 r h):=by rw [P2 h x];rfl
  rw [e];by_cases hb:AK h x=true
  ·simp only [SG,if_pos hb];rw [hb];simp [hi]
  ·simp only [SG,if_neg hb];rw [ih];simp [hb]
theorem Zt (l:List Ty) (h:Ty):Ak Tryz.prog 197 [.sl (Bo l),.agg (Bd h)] (.int .i64 (SG h 0 l)):=by
 obtain ⟨h1,h2,h3,h4⟩:=h;refine AM λhv=>?_;simp [BX,Eh,maxLen,Bd] at hv;refine Ae Ah Tryz.func197 (by decide +kernel) rfl [1,2] rfl rfl ?_;refine mg [] rfl (by simp) ?_;refine Aj (λi:Nat=>[(8,.imm (.int .i64 i)),(7,.imm (.int .i64 l.length)),(0,.imm (.sl (Bo l))),(3,.ref 1 0)]) (λ_=>[(1,some (.immb 150 3 (Bd (.mk h1 h2 h3 h4))))]) [2] (λi=>l.length-i) (λi=>i<=l.length/\SG (.mk h1 h2 h3 h4) 0 l=SG (.mk h1 h2 h3 h4) i (l.drop i)) 0
  ⟨Nat.zero_le _,rfl⟩ ⟨rfl,At (by simp),rfl,rfl,trivial⟩ ⟨rfl,trivial⟩ rfl λi hi ih=>?_
 obtain ⟨hi1,hi2⟩:=hi;refine md [] rfl (by simp) ?_;refine Aa rfl (λh=>?_) (λh=>?_)
 ·simp at h;obtain ⟨x,hx⟩:=Am h;rw [Ap hx] at hi2;simp only [SG] at hi2;refine md [] rfl (by simp) ?_;refine mi rfl (c:=Bd x) (λ_=>⟨by simp,by simpa using IX hx,by simp⟩) (by simp [Ag]) ?_;obtain ⟨x1,x2,x3,x4⟩:=x;refine mg [] rfl (by simp [Ag]) ?_;refine Ux Ah rfl Lq (by simp [Ag]) ?_;refine mg [] rfl (by simp [Ag];rfl) ?_;by_cases e:AK (.mk h1 h2 h3 h4) (.mk x1 x2 x3 x4)=true
  ·rw [if_pos e] at hi2;simp only [AK] at e;refine Aa rfl (λh=>?_) (λh=>by exfalso;simp at h e;grind);refine md [] rfl (by simp) ?_;refine Ab ⟨_,rfl,tV ?_,trivial⟩;rw [hi2]
  ·rw [if_neg e] at hi2;simp only [AK] at e;refine Aa rfl (λh=>by exfalso;simp at h e;grind) (λh=>?_);refine md [] rfl (by simp) ?_;exact Ad (ih (i+1) (by omega) ⟨by omega,hi2⟩) ⟨At (Bv (by omega) (by omega)),rfl,rfl,rfl,trivial⟩ ⟨rfl,trivial⟩ rfl
 ·simp at h;rw [List.drop_eq_nil_of_le (by omega)] at hi2;refine Ar rfl ?_;refine md [] rfl (by simp) ?_;refine Ab ⟨_,rfl,tV ?_,trivial⟩;rw [hi2];rfl
theorem FV (l:List Ty) (h:Ty):Ak Tryz.prog 152 [.sl (Bo l),.agg (Bd h)] (.bool (B1 l h)):=by
 have hI:=Zt l h;have hh:=Ul h l 0 (by omega);generalize SG h 0 l=k at *;obtain ⟨h1,h2,h3,h4⟩:=h;refine Ae Ah Tryz.func152 (by decide +kernel) rfl [1,2] rfl rfl ?_;refine mg [] rfl (by simp) ?_;refine Ac rfl (λ_=>hI) (by simp) ?_;refine mg [] rfl (by simp) ?_;rw [<- hh];exact Ab ⟨_,rfl,tV rfl,trivial⟩
theorem Tk (h:Ty) (hf:Ba h≠0):Ak Tryz.prog 130 [.agg (Bd h)] (.agg (Iw h)):=by
 obtain ⟨h1,h2,h3,h4⟩:=h;refine Ae Ah Tryz.func130 (by decide +kernel) rfl [1,2] rfl rfl ?_;refine mg [] rfl (by simp) ?_;simp only [Iw,Ba] at hf ⊢;rw [if_neg hf];exact Jg 2 [.imm (.int .i64 h1),.imm (.int .i64 h2),.imm (.str h3),.imm .nilsl] rfl (by simp [Xn]) (Ab ⟨_,rfl,tV rfl,trivial⟩)
theorem Zv (path:List Int) (hl:path.length<=1000000):Ak Tryz.prog 153 [.sl (AB path)] (.sl (AB path)):=by
 have hs:∀c∈AB path,c.length=1:=λc hc=>by simp only [AB,List.mem_map] at hc;obtain ⟨q,_,rfl⟩:=hc;rfl
 have hl:(AB path).length<=1000000:=by simpa using hl
 generalize AB path=l at *;refine Ae Ah Tryz.func153 (by decide +kernel) rfl [1,2] rfl rfl ?_;refine mg [] rfl (by simp) ?_;refine RP Ah rfl λb hb=>?_;cases b with
 | true =>
  have he:l=[]:=by
   cases l with
   | nil=>rfl
   | cons a b=>exact absurd (hb (by simp)) (by simp)
  subst he;refine md [] rfl (by simp) ?_;refine Aa rfl (λh=>?_) (λh=>by simp at h);refine md [] rfl (by simp) ?_;exact Ab ⟨_,rfl,tV rfl,trivial⟩
 | false =>
  refine md [] rfl (by simp) ?_;refine Aa rfl (λh=>by simp at h) (λh=>?_);cases l with
  | nil =>
   refine md [] rfl (by simp) ?_;refine YW Ah rfl ?_;refine mg [] rfl (by simp) ?_;exact Ab ⟨_,rfl,tV rfl,trivial⟩
  | cons a b =>
   refine md [] rfl (by simp) ?_;refine RF Ah rfl ⟨hs,by simp only [maxLen,List.length_nil] at *;omega,by simp only [List.length_nil] at *;omega,λc hc=>by simp at hc,by simp⟩ (by simp) ?_;refine mg [] rfl (by simp) ?_;exact Ab ⟨_,rfl,tV rfl,trivial⟩
theorem dR (path:List Int):Bb Tryz.prog 154 [.imm (.sl (AB path))] [] (.ret (.clip (AB path)) []):=by
 generalize AB path=l at *;refine Ae Ah Tryz.func154 (by decide +kernel) rfl [1,2] rfl rfl ?_;refine mg [] rfl (by simp) ?_;refine jC Ah rfl rfl rfl ?_;refine mg [] rfl (by simp) ?_;exact Ab ⟨_,rfl,rfl,trivial⟩
set_option maxHeartbeats 1000000 in
theorem VJ (nt:List Ty) (hl:nt.length<=1000000):Ak Tryz.prog 159 [.sl (Bo nt)] (.agg (Bd (Cy nt))):=by
 have hA:=λh=>FV nt h;refine Ae Ah Tryz.func159 (by decide +kernel) rfl [1,2,3] rfl rfl ?_;refine mg [] rfl (by simp) ?_;refine Aj (λi:Nat=>[(3,.imm (.int .i64 i)),(2,.ref 1 0),(0,.imm (.sl (Bo nt)))]) (λ_=>[(1,some (.immb 150 3 [.int .i64 0,.int .i64 0,.str []]))]) [2,3] (λi=>nt.length+1-i)
  (λi=>i<=nt.length/\Cy nt=Ng nt (nt.length-i) i/\∀j:Nat,j<i->B1 nt (.mk 1 j [] [])=true) 0 ⟨Nat.zero_le _,rfl,λj h=>by omega⟩ ⟨rfl,rfl,rfl,trivial⟩ ⟨rfl,trivial⟩ rfl λi hi ih=>?_
 obtain ⟨hi1,hi2,hi3⟩:=hi;rw [Rx hi1 hi3] at hi2;have h1:=hA (.mk 1 i [] []);have h2:=hA (.mk 1 (0-i) [] []);have hih:B1 nt (.mk 1 i [] [])=true->B1 nt (.mk 1 (0-i) [] [])=true->_:=λe1 e2=>ih (i+1) (by omega) ⟨Ks (i:=i+1) (λj hj=>by
   by_cases e:j=i
   ·rw [e];exact e1
   ·exact hi3 j (by omega)),by rw [hi2,e1,e2];simp,λj hj=>by
   by_cases e:j=i
   ·rw [e];exact e1
   ·exact hi3 j (by omega)⟩
 generalize Cy nt=R at *;generalize B1 nt (.mk 1 i [] [])=b1 at *;generalize B1 nt (.mk 1 (0-i) [] [])=b2 at *;clear ih hi3;have hw:IntKind.i64.wrap (0-(i:Int))=0-i:=Bv (by omega) (by omega);have hn:∀q:Nat,q<2->∃x:Ty,[[V.int .i64 1,.int .i64 i,.str []],[.int .i64 1,.int .i64 (IntKind.i64.wrap (0-(i:Int))),.str []]][q]?=some (Bd x)/\x=(if q=0 then .mk 1 i [] [] else .mk 1 (0-i) [] []):=λq hq=>by
  have:q=0\/q=1:=by omega
  rcases this with rfl | rfl
  ·exact ⟨_,rfl,rfl⟩
  ·exact ⟨.mk 1 (0-i) [] [],by rw [hw];rfl,rfl⟩
 refine md [] rfl (by simp) ?_;obtain ⟨L2,hL⟩:∃L2,L2=[[V.int .i64 1,.int .i64 i,.str []],[.int .i64 1,.int .i64 (IntKind.i64.wrap (0-(i:Int))),.str []]]:=⟨_,rfl⟩
 rw [<- hL] at hn;have hl2:L2.length=2:=by rw [hL];rfl
 refine Aj (λq:Nat=>[(15,.imm (.int .i64 q)),(14,.imm (.int .i64 2)),(13,.imm (.sl L2)),(3,.imm (.int .i64 i)),(2,.ref 1 0),(0,.imm (.sl (Bo nt)))]) (λ_=>[(1,some (.immb 150 3 [.int .i64 0,.int .i64 0,.str []]))]) [2,3] (λq=>2-q)
  (λq=>q<=2/\(1<=q->b1=true)/\(2<=q->b2=true)) 0 ⟨Nat.zero_le _,λh=>by omega,λh=>by omega⟩ ⟨rfl,rfl,by rw [hL];rfl,rfl,rfl,rfl,trivial⟩ ⟨rfl,trivial⟩ rfl λq hq jh=>?_
 obtain ⟨hq1,hq2,hq3⟩:=hq;refine md [] rfl (by simp) ?_;refine Aa rfl (λh=>?_) (λh=>?_)
 ·have hq:q<2:=by simp at h;omega
  obtain ⟨x,x1,x2⟩:=hn q hq;refine md [] rfl (by simp) ?_;refine mi rfl (c:=Bd x) (λ_=>⟨by simp,by simpa using x1,by simp⟩) (by simp) ?_;have hx:Ak Tryz.prog 152 [.sl (Bo nt),.agg (Bd x)] (.bool (if q=0 then b1 else b2)):=by
   rw [x2];by_cases e:q=0
   ·rw [if_pos e,if_pos e];exact h1
   ·rw [if_neg e,if_neg e];exact h2
  have hb:(if q=0 then b1 else b2)=false->R=x:=λhb=>by
   rw [hi2,x2];by_cases e:q=0
   ·rw [if_pos e] at hb ⊢;rw [if_pos hb]
   ·rw [if_neg e] at hb ⊢;rw [if_neg (by rw [hq2 (by omega)];simp),if_pos hb]
  have hb':(if q=0 then b1 else b2)=true->(1<=q+1->b1=true)/\(2<=q+1->b2=true):=λhb=>by
   by_cases e:q=0
   ·rw [if_pos e] at hb;exact ⟨λ_=>hb,λh=>by omega⟩
   ·rw [if_neg e] at hb;exact ⟨λ_=>hq2 (by omega),λ_=>hb⟩
  generalize (if q=0 then b1 else b2)=bq at *;obtain ⟨y1,y2,y3,y4⟩:=x;refine mg [] rfl (by simp) ?_;refine Ac rfl (λ_=>hx) (by simp) ?_;refine mg [] rfl (by simp) ?_;cases bq with
  | false =>
   refine Aa rfl (λh=>?_) (λh=>by simp at h);refine md [] rfl (by simp) ?_;rw [hb rfl];exact Ab ⟨_,rfl,tV rfl,trivial⟩
  | true =>
   refine Aa rfl (λh=>by simp at h) (λh=>?_);refine md [] rfl (by simp) ?_;exact Ad (jh (q+1) (by omega) ⟨by omega,hb' rfl⟩) ⟨At (Bv (by omega) (by omega)),rfl,rfl,rfl,rfl,rfl,trivial⟩ ⟨rfl,trivial⟩ rfl
 ·have hq:¬q<2:=by simp at h;omega
  refine Ar rfl ?_;refine md [] rfl (by simp) ?_;exact Ad (hih (hq2 (by omega)) (hq3 (by omega))) ⟨At (Bv (by omega) (by omega)),rfl,rfl,trivial⟩ ⟨rfl,trivial⟩ rfl
end Go.Hk
namespace Go.Hk
theorem aS {P:Program} {f:FuncId} {vs:List V} {k:Nat} {e:TypeId} {sz:Nat} {es:List (List V)} (h:Bb P f (vs.map .imm) [] (.ret (.own k es.length) [(k,some (.row e sz es))])):Ak P f vs (.sl es):=by
 intro I μ w xs hst hx;refine (h I μ w xs hst hx).mono (λu w' hu=>?_) (λ_ _ h=>h.elim);obtain ⟨I',μ',r1,r2,r3,r4⟩:=hu;have hlive:Aq [(k,some (Blk.row e sz es))] k (.row e sz es):=by simp [Aq,lk]
 obtain ⟨g,hg,ys,hown,hrep,hsz,hone,hp⟩:=r2.blk k _ hlive;have hu:u=g:=by
  cases r1 with
  | own _ _ ad cap hm=>rw [hm] at hg;cases hg;rfl
 subst hu;have hno0:∀b,¬Bq μ [] b:=λb ⟨i,bi,g,h,_⟩=>by simp [Aq,lk] at h
 obtain ⟨J,hJ,hJs,hJr,hJo⟩:∃J:Imm,I'.le J/\(∀b,b<w.heap.size->J b=I' b)/\RepV J u (.sl es)/\(∀k o,J k=some o->(I' k=some o\/w'.heap[k]?=some o)):=by
  rcases hown.2 with ⟨rfl,h0⟩ | ⟨gb,cap,cur,rfl,_,hheap,hle,hcm,hcs,htake⟩
  ·have:es=[]:=List.eq_nil_of_length_eq_zero h0;subst this;exact ⟨I',Imm.le_refl I',λ_ _=>rfl,.slnil,λk o h=>.inl h⟩
  ·have hno:=(r2.apart k _ _ gb hlive hg rfl).1;have hge:w.heap.size<=gb:=by
    rcases Nat.lt_or_ge gb w.heap.size with hlt | hge
    ·exact absurd (r4.fresh gb hlt ⟨k,_,_,hlive,hg,rfl⟩) (hno0 gb)
    ·exact hge
   have hle':I'.le (λk=>if k=gb then some (.cells cur e (0,0)) else I' k):=λk o h=>by
    have:k≠gb:=λe=>by rw [e,hno] at h;cases h
    simp [this,h]
   refine ⟨_,hle',λb hb=>if_neg (by omega),?_,λk o h=>?_⟩
   ·refine Vy (w:=w') (xs:=ys) (u:=.slice (some ⟨gb,0,none⟩) es.length cap) hown (hrep.mono hle') hsz ?_ (b:=gb) rfl hheap (by simp);intro v hv;obtain ⟨q,hq⟩:=List.mem_iff_getElem?.1 hv;have hlt:q<es.flatten.length:=by rw [<- hrep.1];exact (List.getElem?_eq_some_iff.1 hq).1
    obtain ⟨c,hc,hx⟩:=List.mem_flatten.1 (List.getElem_mem hlt);exact (hrep.2 q v _ hq (List.getElem?_eq_getElem hlt)).one (hone c hc _ hx)
   ·by_cases hk:k=gb
    ·subst hk;simp at h;subst h;exact .inr hheap
    ·simp [hk] at h;exact .inl h
 refine ⟨J,μ',.imm _ _ hJr,?_,r3,?_⟩
 ·exact { imm:=λb o h=>(hJo b o h).elim (λh=>r2.imm b o h) id,blk:=λi b h=>by simp [Aq,lk] at h,apart:=λi b g k h=>by simp [Aq,lk] at h,inj:=λi j bi bj gi gj k h=>by simp [Aq,lk] at h,nodup:=r2.nodup,idsFree:=r2.idsFree }
 ·exact { imm:=λb o h=>hJ b o (r4.imm b o h),os:=r4.os,tape:=r4.tape,output:=r4.output,size:=r4.size,block:=r4.block,fresh:=λb _ ⟨i,bi,g,h,_⟩=>by simp [Aq,lk] at h,old:=λb hb ho=>by rw [hJs b hb];exact r4.old b hb ho }
end Go.Hk
namespace Go.Hk
open Go.Proofs
set_option maxHeartbeats 2000000 in
theorem RC (c:Cse) (sz:List (List V)) (t:Ty) (ho:OkW c.datas) (ht:AD c.datas t=true) :
  Bb Tryz.prog 195 [.imm (AL c sz),.imm (.agg (Al t))] [] (.ret (.own 2 (Bo (A9 c.datas t)).length) [(2,some (.row 150 3 (Bo (A9 c.datas t))))]):=by
 obtain ⟨ds,⟨c1,c2,c3,c4⟩,rows⟩:=c;obtain ⟨so,n,x,ps⟩:=t;simp only at ho ht ⊢;simp only [A9];refine Ae Ah Tryz.func195 (by decide +kernel) rfl [1,2,3,4] rfl rfl ?_;refine mg [] rfl (by simp) ?_;by_cases h2:so=2
 ·subst h2;refine Aa rfl (λh=>?_) (λh=>by simp at h);refine iN 4 rfl (by simp) ?_;refine Wr Ah 2 rfl (by simp) ?_;refine mg [] rfl (by simp) ?_;exact Ab ⟨_,rfl,rfl,rfl,trivial⟩
 rw [if_neg h2];refine Aa rfl (λh=>absurd (by simpa using h) h2) (λh=>?_);clear h;refine md [] rfl (by simp) ?_;by_cases h3:so=3
 ·subst h3;refine Aa rfl (λh=>?_) (λh=>by simp at h);refine iN 3 rfl (by simp) ?_;refine Wr Ah 2 rfl (by simp) ?_;refine mg [] rfl (by simp) ?_;exact Ab ⟨_,rfl,rfl,rfl,trivial⟩
 rw [if_neg h3];refine Aa rfl (λh=>absurd (by simpa using h) h3) (λh=>?_);clear h;refine md [] rfl (by simp) ?_;by_cases h8:so=8
 case neg =>
  rw [if_neg h8];refine Aa rfl (λh=>absurd (by simpa using h) h8) (λh=>?_);refine md [] rfl (by simp) ?_;refine Ct (e:=150) (sz:=3) 4 2 (by decide) rfl ?_;exact Ab ⟨_,rfl,rfl,rfl,trivial⟩
 subst h8;rw [if_pos rfl];obtain ⟨hp,d,hd⟩:=Cu ht 8 n x ps rfl rfl;have hdl:=(ho.lim d (List.mem_of_getElem? hd)).1;rw [hd];simp only;refine Aa rfl (λh=>?_) (λh=>by simp at h);clear h;refine md [] rfl (by simp) ?_;refine Fy Ah rfl rfl rfl (DV _) (by simp [Ag]) (z:=.int .i64 0) rfl (λ_=>.int _ _) (GS ds x) ?_;refine mg [] rfl (by simp) ?_;rw [show Je ds x=AP x 0 ds by simp [Je,hp]];refine mi rfl (c:=BU d) (λ_=>⟨hp,by simpa using AQ hd,by simp⟩) (by simp) ?_;obtain ⟨dn,dc⟩:=d;simp only at hdl;refine mg [] rfl (by simp;rfl) ?_;refine Ct (e:=150) (sz:=3) 5 2 (by decide) rfl ?_
 have el:∀i c,dc[i]?=some c->Bo ((dc.take (i+1)).map De)=Bo ((dc.take i).map De)++[Bd (De c)]:=λi c hc=>by rw [AS hc,List.map_append,Ns];rfl
 refine Aj (λi:Nat=>[(37,.imm (.int .i64 i)),(36,.imm (.int .i64 dc.length)),(35,.imm (.sl (dc.map Cw))),(5,.own 2 (Bo ((dc.take i).map De)).length)]) (λi=>[(2,some (.row 150 3 (Bo ((dc.take i).map De))))]) [3,4] (λi=>dc.length-i)
  (λi=>i<=dc.length) 0 (Nat.zero_le _) ⟨rfl,At (by simp),rfl,rfl,trivial⟩ ⟨rfl,trivial⟩ rfl λi hi ih=>?_
 refine md [] rfl (by simp) ?_;refine Aa rfl (λh=>?_) (λh=>?_)
 ·simp at h;obtain ⟨e,he⟩:=Am h;have et:=el i e he;have hlen:(Bo ((dc.take i).map De)).length<=5:=by simp;omega
  have hih:=ih (i+1) (by omega) (by omega);rw [et] at hih;generalize Bo ((dc.take i).map De)=l at *;refine md [] rfl (by simp) ?_;refine mi rfl (c:=Cw e) (λ_=>⟨by omega,by simpa using AQ he,by simp⟩) (by simp) ?_;obtain ⟨en,ea⟩:=e;refine mg [] rfl (by simp) ?_;refine Bp Ah rfl ⟨by simp [De],by simp [maxLen] at hlen ⊢;omega,by simp at hlen ⊢;omega,trivial⟩ ?_;refine mg [] rfl (by simp) ?_;refine A3 2 4 rfl ?_;exact Ad hih ⟨At (Bv (by omega) (by omega)),rfl,rfl,by simp only [List.length_append];rfl,trivial⟩ ⟨rfl,trivial⟩ rfl
 ·simp at h;refine Ar rfl ?_;refine md [] rfl (by simp) ?_;rw [List.take_of_length_le (by omega)];exact Ab ⟨_,rfl,rfl,rfl,trivial⟩
theorem bW (c:Cse) (sz:List (List V)) (t:Ty) (ho:OkW c.datas) (ht:AD c.datas t=true):Ak Tryz.prog 195 [AL c sz,.agg (Al t)] (.sl (Bo (A9 c.datas t))) :=
 aS (RC c sz t ho ht)
def ptr (b:Nat):Value:=.pointer (some ⟨b,0,none⟩)
def Rt (I:Imm) (w:World) (nt:List Ty) (nv:Value):Prop:=(∃xs,w.ownsRow 0 150 3 nv nt.length xs/\RepVL I xs (Bo nt).flatten)/\(nt=[]->nv = .slice none 0 0)
def J8 (w:World) (kbs:List Nat) (kv:Value):Prop:=w.ownsRow 0 109 1 kv kbs.length (kbs.map ptr)
def Hg (I:Imm) (w:World) (ty:Ty) (nt:List Ty) (hd:Ty) (nv kv:Value) (kbs:List Nat) (b:Nat):Prop :=
 (∃vs ts hs,w.heap[b]?=some (.cells vs 177 (0,0))/\vs.toList=ts++hs++[nv,kv]/\RepVL I ts (Al ty)/\RepVL I hs (Bd hd))/\Rt I w nt nv/\J8 w kbs kv
def AE (nv kv:Value) (b:Nat):List Nat:=b::(nv.ownBlock.toList++kv.ownBlock.toList)
mutual
def Ex (I:Imm) (w:World):Mi->Nat->List Nat->Prop
 | .mk ty nt hd ks,b,F=>∃nv kv kbs Fk,Hg I w ty nt hd nv kv kbs b/\CV I w ks kbs Fk/\F=AE nv kv b++Fk/\F.Nodup
def CV (I:Imm) (w:World):List Mi->List Nat->List Nat->Prop
 | [],kbs,F=>kbs=[]/\F=[]
 | k::r,kbs,F=>∃kb kr F1 F2,kbs=kb::kr/\Ex I w k kb F1/\CV I w r kr F2/\F=F1++F2
end
section
variable {I J:Imm} {w w':World}
theorem BC {e:TypeId} {sz n:Nat} {v:Value} {xs:List Value} (h:∀q∈v.ownBlock.toList,w'.heap[q]?=w.heap[q]?) (hr:w.ownsRow 0 e sz v n xs):w'.ownsRow 0 e sz v n xs:=by
 refine ⟨hr.1,?_⟩;rcases hr.2 with h0 | ⟨g,cap,cur,rfl,h1,h2,h3⟩
 ·exact .inl h0
 ·exact .inr ⟨g,cap,cur,rfl,h1,(h g (by simp [Value.ownBlock])).trans h2,h3⟩
theorem ET {ty:Ty} {nt:List Ty} {hd:Ty} {nv kv:Value} {kbs:List Nat} {b:Nat} (h:∀q∈AE nv kv b,w'.heap[q]?=w.heap[q]?) (hn:Hg I w ty nt hd nv kv kbs b):Hg I w' ty nt hd nv kv kbs b:=by
 obtain ⟨⟨vs,ts,hs,h1,h2⟩,⟨⟨xs,h3,h4⟩,h5⟩,h6⟩:=hn;exact ⟨⟨vs,ts,hs,(h b (by simp [AE])).trans h1,h2⟩,⟨⟨xs,BC (λq hq=>h q (by simp only [AE,List.mem_cons,List.mem_append];exact .inr (.inl hq))) h3,h4⟩,h5⟩,BC (λq hq=>h q (by simp only [AE,List.mem_cons,List.mem_append];exact .inr (.inr hq))) h6⟩
theorem DY {ty:Ty} {nt:List Ty} {hd:Ty} {nv kv:Value} {kbs:List Nat} {b:Nat} (h:I.le J) (hn:Hg I w ty nt hd nv kv kbs b):Hg J w ty nt hd nv kv kbs b:=by
 obtain ⟨⟨vs,ts,hs,h1,h2,h3,h4⟩,⟨⟨xs,h5,h6⟩,h7⟩,h8⟩:=hn;exact ⟨⟨vs,ts,hs,h1,h2,h3.mono h,h4.mono h⟩,⟨⟨xs,h5,h6.mono h⟩,h7⟩,h8⟩
mutual
theorem Gt:∀{c:Mi} {b:Nat} {F:List Nat},(∀q∈F,w'.heap[q]?=w.heap[q]?)->Ex I w c b F->Ex I w' c b F
 | .mk ty nt hd ks,b,F,h,⟨nv,kv,kbs,Fk,h1,h2,h3,h4⟩=>⟨nv,kv,kbs,Fk,ET (λq hq=>h q (by rw [h3];simp [hq])) h1,Cg (λq hq=>h q (by rw [h3];simp [hq])) h2,h3,h4⟩
theorem Cg:∀{ks:List Mi} {kbs:List Nat} {F:List Nat},(∀q∈F,w'.heap[q]?=w.heap[q]?)->CV I w ks kbs F->CV I w' ks kbs F
 | [],_,_,_,h=>h
 | k::r,kbs,F,h,⟨kb,kr,F1,F2,h1,h2,h3,h4⟩=>⟨kb,kr,F1,F2,h1,Gt (λq hq=>h q (by rw [h4];simp [hq])) h2,Cg (λq hq=>h q (by rw [h4];simp [hq])) h3,h4⟩
end
mutual
theorem GP (hI:I.le J):∀{c:Mi} {b:Nat} {F:List Nat},Ex I w c b F->Ex J w c b F
 | .mk ty nt hd ks,b,F,⟨nv,kv,kbs,Fk,h1,h2,h3,h4⟩=>⟨nv,kv,kbs,Fk,DY hI h1,Dm hI h2,h3,h4⟩
theorem Dm (hI:I.le J):∀{ks:List Mi} {kbs:List Nat} {F:List Nat},CV I w ks kbs F->CV J w ks kbs F
 | [],_,_,h=>h
 | k::r,kbs,F,⟨kb,kr,F1,F2,h1,h2,h3,h4⟩=>⟨kb,kr,F1,F2,h1,GP hI h2,Dm hI h3,h4⟩
end
theorem HX {c:Mi} {b:Nat} {F:List Nat} (h:Ex I w c b F):F.Nodup:=by
 obtain ⟨ty,nt,hd,ks⟩:=c;obtain ⟨_,_,_,_,_,_,_,h⟩:=h;exact h
theorem Gy:∀{ks:List Mi} {kbs:List Nat} {F:List Nat},CV I w ks kbs F->kbs.length=ks.length
 | [],_,_,h=>by rw [h.1];rfl
 | k::r,_,_,⟨kb,kr,F1,F2,h1,_,h3,_⟩=>by rw [h1];simp [Gy h3]
theorem Kw:∀{ks:List Mi} {kbs:List Nat} {F:List Nat} {i:Nat} {k:Mi},CV I w ks kbs F->ks[i]?=some k->∃kb F1 Fk F2,kbs[i]?=some kb/\Ex I w k kb Fk/\F=F1++Fk++F2 /\
  ∀J w2 k' Fk',I.le J->(∀q∈F1++F2,w2.heap[q]?=w.heap[q]?)->Ex J w2 k' kb Fk'->CV J w2 (ks.set i k') kbs (F1++Fk'++F2)
 | [],_,_,i,k,_,h=>by simp at h
 | x::r,kbs,F,0,k,⟨kb,kr,F1,F2,h1,h2,h3,h4⟩,h=>by
  simp at h;subst h;subst h1;refine ⟨kb,[],F1,F2,rfl,h2,by simpa using h4,λJ w2 k' Fk' hI hw hk=>?_⟩;simp only [List.set_cons_zero];exact ⟨kb,kr,Fk',F2,rfl,hk,Dm hI (Cg (λq hq=>hw q (by simp [hq])) h3),by simp⟩
 | x::r,kbs,F,i+1,k,⟨kb,kr,F1,F2,h1,h2,h3,h4⟩,h=>by
  subst h1;obtain ⟨kb',G1,Gk,G2,g1,g2,g3,g4⟩:=Kw h3 (i:=i) (k:=k) (by simpa using h);refine ⟨kb',F1++G1,Gk,G2,by simpa using g1,g2,by rw [h4,g3];simp,λJ w2 k' Fk' hI hw hk=>?_⟩;simp only [List.set_cons_succ];exact ⟨kb,kr,F1,G1++Fk'++G2,rfl,GP hI (Gt (λq hq=>hw q (by simp [hq])) h2),g4 J w2 k' Fk' hI (λq hq=>hw q (by simp at hq ⊢;rcases hq with h | h <;> simp [h])) hk,by simp⟩
end
def AU (c:Mi) (b:Nat):Asn where
 P _ I w bs:=∃F,Ex I w c b F/\∀q∈F,q∈bs
 mono:=λh ⟨F,h1,h2⟩=>⟨F,GP h h1,h2⟩
 loc:=λh ⟨F,h1,h2⟩=>⟨F,Gt (λq hq=>h q (h2 q hq)) h1,h2⟩
def Hb (c:Mi):Asn where
 P us I w bs:=∃b F,us=[ptr b]/\Ex I w c b F/\∀q∈F,q∈bs
 mono:=λh ⟨b,F,h0,h1,h2⟩=>⟨b,F,h0,GP h h1,h2⟩
 loc:=λh ⟨b,F,h0,h1,h2⟩=>⟨b,F,h0,Gt (λq hq=>h q (h2 q hq)) h1,h2⟩
def C2 (ty:Ty) (nt:List Ty) (hd:Ty) (ks:List Mi) (nv kv:Value) (kbs:List Nat) (b:Nat):Asn where
 P _ I w bs:=∃Fk,Hg I w ty nt hd nv kv kbs b/\CV I w ks kbs Fk/\(AE nv kv b++Fk).Nodup/\∀q∈AE nv kv b++Fk,q∈bs
 mono:=λh ⟨F,h1,h2,h3⟩=>⟨F,DY h h1,Dm h h2,h3⟩
 loc:=λh ⟨F,h1,h2,h3,h4⟩=>⟨F,ET (λq hq=>h q (h4 q (by simp [hq]))) h1,Cg (λq hq=>h q (h4 q (by simp [hq]))) h2,h3,h4⟩
def FI (b x:Nat) (T:Mi->Mi):Asn where
 P _ I w bs:=∀J w2 k F,I.le J->(∀q∈bs,w2.heap[q]?=w.heap[q]?)->Ex J w2 k x F->(∀q∈F,q∉bs)->∃G,Ex J w2 (T k) b G/\∀q∈G,q∈bs\/q∈F
 mono:=λh h1 J w2 k F hJ=>h1 J w2 k F (λb o hb=>hJ b o (h b o hb))
 loc:=λh h1 J w2 k F hJ hw=>h1 J w2 k F hJ λq hq=>(hw q hq).trans (h q hq)
theorem J2 {I:Imm} {w:World} {ty:Ty} {nt:List Ty} {hd:Ty} {ks:List Mi} {b:Nat} {us:List Value} {bs:List Nat} (h:(AU (.mk ty nt hd ks) b).P us I w bs):∃x:Value×Value×List Nat,(C2 ty nt hd ks x.1 x.2.1 x.2.2 b).P us I w bs:=by
 obtain ⟨F,⟨nv,kv,kbs,Fk,h1,h2,h3,h4⟩,h5⟩:=h;subst h3;exact ⟨(nv,kv,kbs),Fk,h1,h2,h4,h5⟩
theorem J3 {I:Imm} {w:World} {ty:Ty} {nt:List Ty} {hd:Ty} {ks:List Mi} {nv kv:Value} {kbs:List Nat} {b:Nat} {us vs:List Value} {bs:List Nat} (h:(C2 ty nt hd ks nv kv kbs b).P us I w bs):(AU (.mk ty nt hd ks) b).P vs I w bs:=by
 obtain ⟨Fk,h1,h2,h3,h4⟩:=h;exact ⟨_,⟨nv,kv,kbs,Fk,h1,h2,rfl,h3⟩,h4⟩
theorem QH {I:Imm} {w:World} {b x:Nat} {T:Mi->Mi} {k:Mi} {us vs:List Value} {b1 b2:List Nat} (h:(FI b x T).P us I w b1) (hk:(AU k x).P vs I w b2) (hd:∀q∈b1,q∉b2):∃bs,(∀q∈bs,q∈b1\/q∈b2)/\(AU (T k) b).P [] I w bs:=by
 obtain ⟨F,h1,h2⟩:=hk;obtain ⟨G,g1,g2⟩:=h I w k F (Imm.le_refl I) (λ_ _=>rfl) h1 (λq hq hq1=>hd q hq1 (h2 q hq));exact ⟨G,λq hq=>(g2 q hq).imp id (h2 q),G,g1,λq hq=>hq⟩
theorem XQ {I:Imm} {w:World} {b x y:Nat} {T S:Mi->Mi} {us vs:List Value} {b1 b2:List Nat} (h:(FI b x T).P us I w b1) (hk:(FI x y S).P vs I w b2) (hd:∀q∈b1,q∉b2):(FI b y (λk=>T (S k))).P [] I w (b1++b2):=by
 intro J w2 k F hJ hw hm hF;obtain ⟨G,g1,g2⟩:=hk J w2 k F hJ (λq hq=>hw q (by simp [hq])) hm (λq hq hq2=>hF q hq (by simp [hq2]));obtain ⟨G',g3,g4⟩:=h J w2 (S k) G hJ (λq hq=>hw q (by simp [hq])) g1 (λq hq hq1=>by
  rcases g2 q hq with h | h
  ·exact hd q hq1 h
  ·exact hF q h (by simp [hq1]))
 refine ⟨G',g3,λq hq=>?_⟩;rcases g4 q hq with h | h
 ·exact .inl (by simp [h])
 ·rcases g2 q h with h | h
  ·exact .inl (by simp [h])
  ·exact .inr h
theorem dZ {I:Imm} {w:World} {b:Nat} {us:List Value} {bs:List Nat}:(FI b b (λk=>k)).P us I w bs:=λJ w2 k F _ _ hm _=>⟨F,hm,λq hq=>.inr hq⟩
end Go.Hk
namespace Go.Hk
section
variable {P:Program} {n:Nat} {F:List Nat} {Q:DQ} {tt:TT} {env env':Env} {st st':St} {ids ids':List Nat} {k todo todo':List DI} {I:Imm} {μ:Mu} {w w':World} {a:Act}
theorem G5 (id t j:Nat) {B:Asn} (A:Asn) {v:Value} (hl:lk st id=some (some (.hp B))) (ht:lk env t=some (.raw v)) (h1:v.oneCell'=true)
  (hA:∀us I w bs,B.P us I w bs->A.P [v] I w bs) (h:DGo P n F Q todo ((t,.hv j 0)::env) ((j,some (.hp A))::(id,none)::st) ids'):DGo P n F Q todo env st (j::ids'):=by
 refine CE λI μ a w hc=>?_;obtain ⟨g,hg,us,bs,rfl,hP⟩:=hc.blk id _ hl;obtain ⟨q1,q2,q3⟩:=StRep.relay (R:=[id]) (new:=[(j,Mr [v] bs,.hp A)]) (ids':=ids') hc.toStRep
  (λp hp b hb=>by
   rw [List.mem_singleton.1 hp] at hb;exact ⟨id,_,_,by simp,hl,hg,AI.2 (AI.1 hb)⟩)
  (λp hp q hq b _ _=>by rw [List.mem_singleton.1 hp,List.mem_singleton.1 hq]) (Imm.le_refl I) hc.imm (λb o h=>.inl h)
  (λ_ p hp=>by rw [List.mem_singleton.1 hp];exact ⟨[v],bs,rfl,hA us I w bs hP⟩)
 have hmj:DF [(j,Mr [v] bs,.hp A)] μ j=some (Mr [v] bs):=by simp [DF,lk]
 refine ⟨I,_,_,_,ids',q2,λt' d hd=>?_,q3,.of_le q1,h⟩;by_cases e:t=t'
 ·subst e;rw [Ao] at hd;cases hd;have hv:=(hc.env t _ ht).rawInv;rw [hv];exact .hv v j 0 [v] bs hmj rfl h1
 ·rw [Au _ _ e] at hd;exact (hc.env t' d hd).mono (Imm.le_refl I) q1
end
end Go.Hk
namespace Go.Hk
open Go.Proofs
def H0:Value:=.slice none 0 0
theorem IB {I:Imm} {v:Value} (h:RepD I noMu v .nils):v=H0:=by cases h;rfl
theorem PT {I:Imm} {w:World} {ty:Ty} {hd:Ty} {b:Nat} {us:List Value} {bs:List Nat} (h:(Qn b 177 ((Al ty++Bd hd).map .imm++[.nils,.nils])).P us I w bs):(AU (.mk ty [] hd []) b).P us I w bs:=by
 obtain ⟨h1,vs,h2,h3,h4⟩:=h;obtain ⟨t1,t2,t3,t4⟩:=ty;obtain ⟨f1,f2,f3,f4⟩:=hd;have hl:=h3.1;simp only [Al,Bd,List.map_append,List.map_cons,List.map_nil,List.cons_append,List.nil_append,List.length_cons,List.length_nil] at hl h3
 match hvs:vs.toList,hl with
 | [a0,a1,a2,a3,a4,a5,a6,a7,a8],_ =>
 rw [hvs] at h3;have e7:a7=H0:=IB (h3.2 7 a7 _ rfl rfl);have e8:a8=H0:=IB (h3.2 8 a8 _ rfl rfl);subst e7;subst e8;subst h1;refine ⟨[b],⟨H0,H0,[],[],⟨⟨vs,[a0,a1,a2,a3],[a4,a5,a6],h2,by rw [hvs];rfl,?_,?_⟩,⟨⟨[],World.ownsRow_nil w 0 _ 3,.nil⟩,λ_=>rfl⟩,World.ownsRow_nil w 0 _ 1⟩,⟨rfl,rfl⟩,rfl,by simp⟩,λq hq=>hq⟩
 ·exact .mk (h3.2 0 a0 _ rfl rfl).immInv (.mk (h3.2 1 a1 _ rfl rfl).immInv (.mk (h3.2 2 a2 _ rfl rfl).immInv (.mk (h3.2 3 a3 _ rfl rfl).immInv .nil)))
 ·exact .mk (h3.2 4 a4 _ rfl rfl).immInv (.mk (h3.2 5 a5 _ rfl rfl).immInv (.mk (h3.2 6 a6 _ rfl rfl).immInv .nil))
theorem G0 (wd:V) (t:Ty):Bb Tryz.prog 58 [.imm wd,.imm (.agg (Al t))] [] (.ret (.hv 2 0) [(2,some (.hp (Hb (As t))))]):=by
 obtain ⟨t1,t2,t3,t4⟩:=t;refine Ae Ah Tryz.func58 (by decide +kernel) rfl [1,3,4,2] rfl rfl ?_;refine mg [] rfl (by simp) ?_;refine FP 3 4 rfl rfl λb=>?_;refine G5 4 4 2 (Hb (As (.mk t1 t2 t3 t4))) rfl rfl rfl (λus I w bs h=>?_) ?_
 ·obtain ⟨F,h1,h2⟩:=PT (ty:=.mk t1 t2 t3 t4) (hd:=zT) h;exact ⟨b,F,rfl,h1,h2⟩
 exact Ab ⟨_,rfl,rfl,rfl,trivial⟩
section
variable {I J:Imm} {w w':World} {ty:Ty} {nt:List Ty} {hd:Ty} {ks:List Mi} {nv kv:Value} {kbs:List Nat} {b:Nat} {us:List Value} {bs:List Nat}
theorem OU {e:TypeId} {sz n:Nat} {v:Value} {xs:List Value} {q:Nat} (h:w.ownsRow 0 e sz v n xs) (hq:q∈v.ownBlock.toList):q<w.heap.size:=by
 rcases h.2 with ⟨rfl,_⟩ | ⟨g,cap,cur,rfl,_,h2,_⟩
 ·simp [Value.ownBlock] at hq
 ·simp [Value.ownBlock] at hq;subst hq;exact BA h2
theorem S7 (h:Hg I w ty nt hd nv kv kbs b):∀q∈AE nv kv b,q<w.heap.size:=by
 obtain ⟨⟨vs,ts,hs,h1,_⟩,⟨⟨xs,h2,_⟩,_⟩,h3⟩:=h;intro q hq;simp only [AE,List.mem_cons,List.mem_append] at hq;rcases hq with rfl | hq | hq
 ·exact BA h1
 ·exact OU h2 hq
 ·exact OU h3 hq
mutual
theorem Xr:∀{c:Mi} {b:Nat} {F:List Nat},Ex I w c b F->∀q∈F,q<w.heap.size
 | .mk ty nt hd ks,b,F,⟨nv,kv,kbs,Fk,h1,h2,h3,_⟩,q,hq=>by
  rw [h3] at hq;rcases List.mem_append.1 hq with hq | hq
  ·exact S7 h1 q hq
  ·exact NZ h2 q hq
theorem NZ:∀{ks:List Mi} {kbs:List Nat} {F:List Nat},CV I w ks kbs F->∀q∈F,q<w.heap.size
 | [],_,_,h,q,hq=>by rw [h.2] at hq;cases hq
 | k::r,kbs,F,⟨kb,kr,F1,F2,h1,h2,h3,h4⟩,q,hq=>by
  rw [h4] at hq;rcases List.mem_append.1 hq with hq | hq
  ·exact Xr h2 q hq
  ·exact NZ h3 q hq
end
theorem JU:∀{ks:List Mi} {kbs:List Nat} {F:List Nat} {ks2:List Mi} {kbs2:List Nat} {F2:List Nat},CV I w ks kbs F->CV I w ks2 kbs2 F2->CV I w (ks++ks2) (kbs++kbs2) (F++F2)
 | [],_,_,_,_,_,h,h2=>by rw [h.1,h.2];exact h2
 | k::r,kbs,F,_,_,_,⟨kb,kr,F1,F2',h1,h2,h3,h4⟩,h5=>⟨kb,_,F1,_,by rw [h1];rfl,h2,JU h3 h5,by rw [h4];simp⟩
theorem Fb {off:Nat} {ds sub:List D} (h:CF I w b 0 ds) (hs:∀(j:Nat) d,sub[j]?=some d->ds[off+j]?=some d):CF I w b off sub:=by
 obtain ⟨vs,t,k,h1,h2⟩:=h;refine ⟨vs,t,k,h1,λj d hd=>?_⟩;obtain ⟨c,h3,h4⟩:=h2 _ _ (hs j d hd);exact ⟨c,by simpa using h3,h4⟩
def bH (ty hd:Ty) (nv kv:Value):List D:=(Al ty++Bd hd).map .imm++[.raw nv,.raw kv]
theorem DS (h:Hg I w ty nt hd nv kv kbs b):CF I w b 0 (bH ty hd nv kv):=by
 obtain ⟨⟨vs,ts,hs,h1,h2,h3,h4⟩,⟨⟨xs,h5,_⟩,_⟩,h6⟩:=h;obtain ⟨t1,t2,t3,t4⟩:=ty;obtain ⟨f1,f2,f3,f4⟩:=hd;have hl3:=h3.1;have hl4:=h4.1;have h3:=h3.2;have h4:=h4.2;simp only [Al,Bd,List.length_cons,List.length_nil] at hl3 hl4 h3 h4;have hn:=GL h5;have hk:=GL h6
 match ts,hl3 with
 | [a0,a1,a2,a3],_ =>
 match hs,hl4 with
 | [a4,a5,a6],_ =>
 have g:∀(j:Nat) (c:Value),([a0,a1,a2,a3,a4,a5,a6,nv,kv]:List Value)[j]?=some c->vs[0+j]?=some c:=λj c hc=>by
  have:vs.toList[j]?=some c:=by rw [h2];exact hc
  simpa using this
 refine ⟨vs,_,_,h1,λj d hd=>?_⟩;simp only [bH,Al,Bd,List.map_append,List.map_cons,List.map_nil,List.cons_append,List.nil_append] at hd;have r0:=h3 0 a0 _ rfl rfl;have r1:=h3 1 a1 _ rfl rfl;have r2:=h3 2 a2 _ rfl rfl;have r3:=h3 3 a3 _ rfl rfl;have r4:=h4 0 a4 _ rfl rfl;have r5:=h4 1 a5 _ rfl rfl;have r6:=h4 2 a6 _ rfl rfl
 match j,hd with
 | 0,hd=>cases hd;exact ⟨a0,g 0 a0 rfl,r0.one rfl,.imm _ _ r0⟩
 | 1,hd=>cases hd;exact ⟨a1,g 1 a1 rfl,r1.one rfl,.imm _ _ r1⟩
 | 2,hd=>cases hd;exact ⟨a2,g 2 a2 rfl,r2.one rfl,.imm _ _ r2⟩
 | 3,hd=>cases hd;exact ⟨a3,g 3 a3 rfl,r3.one rfl,.imm _ _ r3⟩
 | 4,hd=>cases hd;exact ⟨a4,g 4 a4 rfl,r4.one rfl,.imm _ _ r4⟩
 | 5,hd=>cases hd;exact ⟨a5,g 5 a5 rfl,r5.one rfl,.imm _ _ r5⟩
 | 6,hd=>cases hd;exact ⟨a6,g 6 a6 rfl,r6.one rfl,.imm _ _ r6⟩
 | 7,hd=>cases hd;exact ⟨nv,g 7 nv rfl,hn,.raw _ hn⟩
 | 8,hd=>cases hd;exact ⟨kv,g 8 kv rfl,hk,.raw _ hk⟩
 | j+9,hd=>simp at hd
theorem J4 (h:(C2 ty nt hd ks nv kv kbs b).P us I w bs):CF I w b 0 ((Al ty).map .imm):=by
 obtain ⟨F,h,_⟩:=h;obtain ⟨t1,t2,t3,t4⟩:=ty;obtain ⟨f1,f2,f3,f4⟩:=hd;exact Fb (off:=0) (DS h) λj d hd=>by match j,hd with | 0,hd=>exact hd | 1,hd=>exact hd | 2,hd=>exact hd | 3,hd=>exact hd | j+4,hd=>simp [Al] at hd
theorem Y7 (h:(C2 ty nt hd ks nv kv kbs b).P us I w bs):CF I w b 0 [.imm (.int .i64 (Ba ty))]:=by
 obtain ⟨F,h,_⟩:=h;obtain ⟨t1,t2,t3,t4⟩:=ty;obtain ⟨f1,f2,f3,f4⟩:=hd;exact Fb (off:=0) (DS h) λj d hd=>by match j,hd with | 0,hd=>exact hd | j+1,hd=>simp at hd
theorem NX (h:(C2 ty nt hd ks nv kv kbs b).P us I w bs):CF I w b 4 ((Bd hd).map .imm):=by
 obtain ⟨F,h,_⟩:=h;obtain ⟨t1,t2,t3,t4⟩:=ty;obtain ⟨f1,f2,f3,f4⟩:=hd;exact Fb (DS h) λj d hd=>by match j,hd with | 0,hd=>exact hd | 1,hd=>exact hd | 2,hd=>exact hd | j+3,hd=>simp [Bd] at hd
theorem Mk (h:(C2 ty nt hd ks nv kv kbs b).P us I w bs):CF I w b 4 [.imm (.int .i64 (Ba hd))]:=by
 obtain ⟨F,h,_⟩:=h;obtain ⟨t1,t2,t3,t4⟩:=ty;obtain ⟨f1,f2,f3,f4⟩:=hd;exact Fb (DS h) λj d hd=>by match j,hd with | 0,hd=>exact hd | j+1,hd=>simp at hd
theorem HY (h:(C2 ty nt hd ks nv kv kbs b).P us I w bs):CF I w b 7 [.raw nv]:=by
 obtain ⟨F,h,_⟩:=h;obtain ⟨t1,t2,t3,t4⟩:=ty;obtain ⟨f1,f2,f3,f4⟩:=hd;exact Fb (DS h) λj d hd=>by match j,hd with | 0,hd=>exact hd | j+1,hd=>simp at hd
theorem J5 (h:(C2 ty nt hd ks nv kv kbs b).P us I w bs):CF I w b 8 [.raw kv]:=by
 obtain ⟨F,h,_⟩:=h;obtain ⟨t1,t2,t3,t4⟩:=ty;obtain ⟨f1,f2,f3,f4⟩:=hd;exact Fb (DS h) λj d hd=>by match j,hd with | 0,hd=>exact hd | j+1,hd=>simp at hd
theorem C4 {b q:Nat} {cs:Array Value} (h:q≠b):(w.setRow b cs).heap[q]?=w.heap[q]?:=setRow_other w b q cs h
theorem Kq {nv kv:Value} {b:Nat} {F:List Nat} (h:(AE nv kv b++F).Nodup):(∀q∈nv.ownBlock.toList++kv.ownBlock.toList++F,q≠b):=by
 simp only [AE,List.cons_append,List.nodup_cons] at h;intro q hq e;subst e;exact h.1 (by simpa using hq)
theorem Kr {off:Nat} {ds:List D} {nt':List Ty} {hd':Ty} {ks':List Mi} {nv' kv':Value} {kbs':List Nat} (hoff:off+ds.length<=9)
  (hcell:∀(I:Imm) (ts hs cs:List Value),RepVL I ts (Al ty)->RepVL I hs (Bd hd)->RepL I noMu cs ds->∃hs',(ts++hs++[nv,kv]).take off++cs++(ts++hs++[nv,kv]).drop (off+ds.length)=ts++hs'++[nv',kv']/\RepVL I hs' (Bd hd'))
  (hnot:∀I w,Rt I w nt nv->Rt I w nt' nv') (hrow:∀w,J8 w kbs kv->J8 w kbs' kv') (hkids:∀I w F,CV I w ks kbs F->∃F',CV I w ks' kbs' F'/\F'.Sublist F)
  (hn:nv'.ownBlock.toList.Sublist nv.ownBlock.toList) (hk:kv'.ownBlock.toList.Sublist kv.ownBlock.toList) :
  LF (C2 ty nt hd ks nv kv kbs b) (C2 ty nt' hd' ks' nv' kv' kbs' b) b off ds:=by
 intro us I w bs ⟨Fk,⟨⟨vs,ts,hs,h1,h2,h3,h4⟩,h5,h6⟩,h7,h8,h9⟩;have hl:vs.toList.length=9:=by
  have:=h3.1;have:=h4.1;obtain ⟨t1,t2,t3,t4⟩:=ty;obtain ⟨f1,f2,f3,f4⟩:=hd;rw [h2];simp [Al,Bd] at *;omega
 have hvl:vs.size=9:=by simpa using hl
 refine ⟨h9 b (by simp [AE]),vs,_,h1,by omega,λcs hcs hone=>?_⟩;obtain ⟨hs',e1,e2⟩:=hcell I ts hs cs h3 h4 hcs;obtain ⟨F',g1,g2⟩:=hkids I w Fk h7;have hne:=Kq h8;have hsub:(AE nv' kv' b++F').Sublist (AE nv kv b++Fk):=by
  simp only [AE,List.cons_append];exact .cons_cons _ ((hn.append hk).append g2)
 have hnot':=hnot I w h5;have hrow':=hrow w h6;refine ⟨F',⟨⟨_,ts,hs',setRow_heap w b vs _ _ _ h1,by rw [List.toList_toArray,h2];exact e1,h3,e2⟩,⟨?_,hnot'.2⟩,?_⟩,?_,h8.sublist hsub,λq hq=>h9 q (hsub.subset hq)⟩
 ·obtain ⟨⟨xs,x1,x2⟩,_⟩:=hnot';exact ⟨xs,BC (λq hq=>C4 (hne q (by simp only [List.mem_append];exact .inl (.inl (hn.subset hq))))) x1,x2⟩
 ·exact BC (λq hq=>C4 (hne q (by simp only [List.mem_append];exact .inl (.inr (hk.subset hq))))) hrow'
 ·exact Cg (λq hq=>C4 (hne q (by simp only [List.mem_append];exact .inr (g2.subset hq)))) g1
theorem aK {cs:List Value} {xs:List V} (h:RepL I noMu cs (xs.map .imm)):RepVL I cs xs:=by
 refine ⟨by simpa using h.1,λi v x hv hx=>(h.2 i v (.imm x) hv (by simp [hx])).immInv⟩
theorem eF {ts hs cs:List Value} {nv kv:Value} (h1:ts.length=4) (h2:hs.length=3) (h3:cs.length=3):(ts++hs++[nv,kv]).take 4++cs++(ts++hs++[nv,kv]).drop (4+3)=ts++cs++[nv,kv]:=by
 match ts,h1 with
 | [a0,a1,a2,a3],_ =>
 match hs,h2 with
 | [a4,a5,a6],_=>simp
theorem Oy:(Al ty).length=4:=by obtain ⟨t1,t2,t3,t4⟩:=ty;rfl
theorem ZN (h:Ty):LF (C2 ty nt hd ks nv kv kbs b) (C2 ty nt h ks nv kv kbs b) b 4 ((Bd h).map .imm):=by
 refine Kr (by simp) (λI ts hs cs h1 h2 h3=>⟨cs,?_,aK h3⟩) (λ_ _ h=>h) (λ_ h=>h) (λ_ _ F h=>⟨F,h,.refl _⟩) (.refl _) (.refl _);have e3:cs.length=3:=by have:=h3.1;simpa using this
 have:=eF (nv:=nv) (kv:=kv) (by rw [h1.1,Oy]) (by rw [h2.1];simp) e3;simpa using this
theorem ZL:LF (C2 ty nt hd ks nv kv kbs b) (C2 ty [] hd ks H0 kv kbs b) b 7 [.nils]:=by
 refine Kr (by simp) (λI ts hs cs h1 h2 h3=>⟨hs,?_,h2⟩) (λI w _=>⟨⟨[],World.ownsRow_nil w 0 _ 3,.nil⟩,λ_=>rfl⟩) (λ_ h=>h) (λ_ _ F h=>⟨F,h,.refl _⟩) (by simp [H0,Value.ownBlock]) (.refl _);have e1:ts.length=4:=by rw [h1.1,Oy]
 have e2:hs.length=3:=by rw [h2.1];simp
 have e3:=h3.1
 match ts,e1 with
 | [a0,a1,a2,a3],_ =>
 match hs,e2 with
 | [a4,a5,a6],_ =>
 match cs,e3,h3 with
 | [c],_,h3 =>
  have:c=H0:=IB (h3.2 0 c _ rfl rfl);subst this;simp
theorem ZM:LF (C2 ty nt hd ks nv kv kbs b) (C2 ty nt hd [] nv H0 [] b) b 8 [.nils]:=by
 refine Kr (by simp) (λI ts hs cs h1 h2 h3=>⟨hs,?_,h2⟩) (λ_ _ h=>h) (λw _=>World.ownsRow_nil w 0 _ 1) (λ_ _ F h=>⟨[],⟨rfl,rfl⟩,List.nil_sublist _⟩) (.refl _) (by simp [H0,Value.ownBlock]);have e1:ts.length=4:=by rw [h1.1,Oy]
 have e2:hs.length=3:=by rw [h2.1];simp
 have e3:=h3.1
 match ts,e1 with
 | [a0,a1,a2,a3],_ =>
 match hs,e2 with
 | [a4,a5,a6],_ =>
 match cs,e3,h3 with
 | [c],_,h3 =>
  have:c=H0:=IB (h3.2 0 c _ rfl rfl);subst this;simp
end
end Go.Hk
namespace Go.Hk
open Go.Proofs
section
variable {I J:Imm} {w w':World} {ty:Ty} {nt:List Ty} {hd:Ty} {ks:List Mi} {nv kv:Value} {kbs:List Nat} {b:Nat} {us:List Value} {bs:List Nat}
def XA (I:Imm) (w:World) (ty hd:Ty) (nv kv:Value) (b:Nat):Prop:=∃vs ts hs,w.heap[b]?=some (.cells vs 177 (0,0))/\vs.toList=ts++hs++[nv,kv]/\RepVL I ts (Al ty)/\RepVL I hs (Bd hd)
def XH (ty:Ty) (nt:List Ty) (hd:Ty) (ks:List Mi) (b:Nat):Asn where
 P us I w bs:=∃v nv kv kbs Fk,us=[v]/\XA I w ty hd nv kv b/\Rt I w nt nv/\J8 w kbs v/\CV I w ks kbs Fk/\(AE nv v b++Fk).Nodup/\∀q∈AE nv v b++Fk,q∈bs
 mono:=λh ⟨v,nv,kv,kbs,Fk,h0,⟨vs,ts,hs,h1,h2,h3,h4⟩,⟨⟨xs,h5,h6⟩,h7⟩,h8,h9,h10⟩=>⟨v,nv,kv,kbs,Fk,h0,⟨vs,ts,hs,h1,h2,h3.mono h,h4.mono h⟩,⟨⟨xs,h5,h6.mono h⟩,h7⟩,h8,Dm h h9,h10⟩
 loc:=λh ⟨v,nv,kv,kbs,Fk,h0,⟨vs,ts,hs,h1,h2⟩,⟨⟨xs,h5,h6⟩,h7⟩,h8,h9,h10,h11⟩=>⟨v,nv,kv,kbs,Fk,h0,⟨vs,ts,hs,(h b (h11 b (by simp [AE]))).trans h1,h2⟩,
  ⟨⟨xs,BC (λq hq=>h q (h11 q (by simp only [AE,List.cons_append,List.mem_cons,List.mem_append];exact .inr (.inl (.inl hq))))) h5,h6⟩,h7⟩,BC (λq hq=>h q (h11 q (by simp only [AE,List.cons_append,List.mem_cons,List.mem_append];exact .inr (.inl (.inr hq))))) h8,
  Cg (λq hq=>h q (h11 q (by simp [hq]))) h9,h10,h11⟩
theorem S3 {e:TypeId} {sz:Nat} {base v':Value} {len:Nat} {xs news:List Value} (h:SX w e sz base len xs news v' w') {q:Nat} (hq:q∈v'.ownBlock.toList):(q∈base.ownBlock.toList)\/w.heap.size<=q:=by
 have hq:v'.ownBlock=some q:=by simpa [Option.mem_toList] using hq
 rcases h.2.2 q hq with h | h
 ·exact .inl (by simp [h])
 ·exact .inr h
theorem XD {k:Mi} {bytes:Nat} (hb:bytes<=100000) (hl:ks.length<=100):dU (C2 ty nt hd ks nv kv kbs b) (dN 109 (Hb k)) (XH ty nt hd (ks++[k]) b) 109 1 bytes kv:=by
 intro us vs I w b1 b2 ⟨Fk,⟨hcell,hnot,hrow⟩,h2,h3,h4⟩ ⟨c,u,us2,bs',g1,g2,g3,g4,⟨kb,F,g5,g6,g7⟩,g8,g9⟩ hdis;subst g5;have hkb:kbs.length<=100:=by rw [Gy h2];exact hl
 have hu:u=ptr kb:=by simpa using g2.symm
 subst hu;refine ⟨kbs.length,1,1,kbs.map ptr,[ptr kb],⟨c,0,none⟩,hrow,λq hq=>h4 q (by simp [AE,hq]),by rw [g1];rfl,rfl,λj u hu=>?_,λu hu=>by simp at hu;subst hu;rfl,⟨by simp only [maxLen];omega,?_⟩,λv' w' hg=>?_⟩
 ·match j with
  | 0 =>
   simp at hu;subst hu;rw [CQ];exact CW g3 0 _ (by simp)
  | j+1=>simp at hu
 ·have:(kbs.length+1)*bytes<=101*100000:=Nat.mul_le_mul (by omega) hb;omega
 have hb2:∀q∈F,q∈b2:=λq hq=>by rw [g9];exact List.mem_cons_of_mem _ (g7 q hq)
 have hne:∀q,q<w.heap.size->q∉kv.ownBlock.toList->w'.heap[q]?=w.heap[q]?:=λq hq hk=>hg.2.1.block q hq (λe=>hk (by simp [e]));have hbase:∀q∈kv.ownBlock.toList,q∈b1:=λq hq=>h4 q (by simp only [AE,List.cons_append,List.mem_cons,List.mem_append];exact .inr (.inl (.inr hq)));have hnod:=h3;simp only [AE,List.cons_append,List.append_assoc] at hnod;obtain ⟨n1,n2⟩:=List.nodup_cons.1 hnod;obtain ⟨n3,n4,n5⟩:=List.nodup_append.1 n2;obtain ⟨n6,n7,n8⟩:=List.nodup_append.1 n4;have hbk:b∉kv.ownBlock.toList:=λh=>n1 (by simp only [List.mem_append];exact .inr (.inl h));have hnk:∀q∈nv.ownBlock.toList,q∉kv.ownBlock.toList:=λq hq hk=>n5 q hq q (by simp only [List.mem_append];exact .inl hk) rfl
 have hFk:∀q∈Fk,q∉kv.ownBlock.toList:=λq hq hk=>n8 q hk q hq rfl;have hltn:=S7 (I:=I) (w:=w) (ty:=ty) (nt:=nt) (hd:=hd) (nv:=nv) (kv:=kv) (kbs:=kbs) (b:=b) ⟨hcell,hnot,hrow⟩;have hltb:b<w.heap.size:=hltn b (by simp [AE]);have hltnv:∀q∈nv.ownBlock.toList,q<w.heap.size:=λq hq=>hltn q (by simp only [AE,List.mem_cons,List.mem_append];exact .inr (.inl hq));have hltF:=NZ h2;have hltG:=Xr g6;have hFb:∀q∈F,q∉kv.ownBlock.toList:=λq hq hk=>hdis q (hbase q hk) (hb2 q hq);refine ⟨AE nv v' b++(Fk++F),λq hq=>?_,v',nv,kv,kbs++[kb],Fk++F,rfl,?_,?_,?_,?_,?_,λq hq=>hq⟩
 ·simp only [AE,List.cons_append,List.mem_cons,List.mem_append] at hq;have hw:q∈b1\/q∈b2\/(w.heap.size<=q/\q∈v'.ownBlock.toList):=by
   rcases hq with rfl | (hq | hq) | hq | hq
   ·exact .inl (h4 q (by simp [AE]))
   ·exact .inl (h4 q (by simp only [AE,List.cons_append,List.mem_cons,List.mem_append];exact .inr (.inl (.inl hq))))
   ·rcases S3 hg hq with h | h
    ·exact .inl (hbase q h)
    ·exact .inr (.inr ⟨h,hq⟩)
   ·exact .inl (h4 q (by simp [hq]))
   ·exact .inr (.inl (hb2 q hq))
  rcases hw with h | h | ⟨h,hq⟩
  ·exact .inl (.inl h)
  ·exact .inl (.inr h)
  ·exact .inr ⟨h,OU hg.1 hq⟩
 ·obtain ⟨vs0,ts,hs,c1,c2⟩:=hcell;exact ⟨vs0,ts,hs,(hne b hltb hbk).trans c1,c2⟩
 ·obtain ⟨⟨xs,x1,x2⟩,x3⟩:=hnot;exact ⟨⟨xs,BC (λq hq=>hne q (hltnv q hq) (hnk q hq)) x1,x2⟩,x3⟩
 ·have:=hg.1;simp only [J8,List.map_append,List.length_append,List.length_cons,List.length_nil,List.map_cons,List.map_nil];exact this
 ·exact JU (Cg (λq hq=>hne q (hltF q hq) (hFk q hq)) h2) ⟨kb,[],F,[],rfl,Gt (λq hq=>hne q (hltG q hq) (hFb q hq)) g6,⟨rfl,rfl⟩,by simp⟩
 ·have hv1:∀q∈v'.ownBlock.toList,q∈kv.ownBlock.toList\/w.heap.size<=q:=λq hq=>S3 hg hq;have hvn:v'.ownBlock.toList.Nodup:=by cases v'.ownBlock <;> simp
  simp only [AE,List.cons_append,List.append_assoc];refine List.nodup_cons.2 ⟨λh=>?_,List.nodup_append.2 ⟨n3,List.nodup_append.2 ⟨hvn,List.nodup_append.2 ⟨n7,HX g6,λx hx y hy e=>?_⟩,λx hx y hy e=>?_⟩,λx hx y hy e=>?_⟩⟩
  ·simp only [List.mem_append] at h;rcases h with h | h | h | h
   ·exact n1 (by simp only [List.mem_append];exact .inl h)
   ·rcases hv1 b h with h | h
    ·exact hbk h
    ·omega
   ·exact n1 (by simp only [List.mem_append];exact .inr (.inr h))
   ·exact hdis b (h4 b (by simp [AE])) (hb2 b h)
  ·subst e;exact hdis x (h4 x (by simp [hx])) (hb2 x hy)
  ·subst e;rcases List.mem_append.1 hy with hy | hy
   ·rcases hv1 x hx with h | h
    ·exact hFk x hy h
    ·have:=hltF x hy;omega
   ·rcases hv1 x hx with h | h
    ·exact hFb x hy h
    ·have:=hltG x hy;omega
  ·subst e;have hxb1:x∈b1:=h4 x (by simp only [AE,List.cons_append,List.mem_cons,List.mem_append];exact .inr (.inl (.inl hx)));simp only [List.mem_append] at hy;rcases hy with hy | hy | hy
   ·rcases hv1 x hy with h | h
    ·exact hnk x hx h
    ·have:=hltnv x hx;omega
   ·exact n5 x hx x (by simp only [List.mem_append];exact .inr hy) rfl
   ·exact hdis x hxb1 (hb2 x hy)
theorem Xo {vs:List Value} (h:(C2 ty nt hd ks nv kv kbs b).P us I w bs):(C2 ty nt hd ks nv kv kbs b).P vs I w bs:=h
theorem T7:Qg (XH ty nt hd ks b) (AU (.mk ty nt hd ks) b) b 8 0:=by
 intro us I w bs ⟨v,nv,kv,kbs,Fk,h0,⟨vs,ts,hs,h1,h2,h3,h4⟩,h5,h6,h7,h8,h9⟩;have e1:ts.length=4:=by rw [h3.1,Oy]
 have e2:hs.length=3:=by rw [h4.1];simp
 have hl:vs.toList.length=9:=by rw [h2];simp [e1,e2]
 refine ⟨h9 b (by simp [AE]),vs,_,h1,by simp at hl;omega,λu hu h1u=>?_⟩;subst h0;have hu:v=u:=by simpa using hu
 subst hu;have hne:=Kq h8;refine ⟨AE nv v b++Fk,⟨nv,v,kbs,Fk,⟨⟨_,ts,hs,setRow_heap w b vs _ _ _ h1,?_,h3,h4⟩,⟨?_,h5.2⟩,?_⟩,?_,rfl,h8⟩,h9⟩
 ·rw [List.toList_toArray,h2]
  match ts,e1 with
  | [a0,a1,a2,a3],_ =>
  match hs,e2 with
  | [a4,a5,a6],_=>simp
 ·obtain ⟨⟨xs,x1,x2⟩,_⟩:=h5;exact ⟨xs,BC (λq hq=>C4 (hne q (by simp only [List.mem_append];exact .inl (.inl hq)))) x1,x2⟩
 ·exact BC (λq hq=>C4 (hne q (by simp only [List.mem_append];exact .inl (.inr hq)))) h6
 ·exact Cg (λq hq=>C4 (hne q (by simp only [List.mem_append];exact .inr hq))) h7
end
set_option maxHeartbeats 2000000 in
theorem Wn (c:Cse) (sz:List (List V)) (m:Mi) (h:Ty) (b:Nat) (ho:OkW c.datas) (hn:AD c.datas m.ty=true) :
  Bb Tryz.prog 156 [.imm (AL c sz),.raw (ptr b),.imm (.agg (Bd h))] [(1,some (.hp (AU m b)))] (.ret GE [(2,some (.hp (AU (AY c.datas m h) b)))]):=by
 have hA:=Ol c sz m.ty (E4 h) ho.dif hn;have hlen:=Fg ho m.ty (E4 h);simp only [AY];generalize Bj c.datas m.ty (E4 h)=L at *;obtain ⟨L,lb⟩:=L;simp only at hA hlen ⊢;obtain ⟨⟨so,n,x,ps⟩,nt,⟨f,hd2,hd3,hd4⟩,ks⟩:=m;obtain ⟨h1,h2,h3,h4⟩:=h;simp only [Mi.ty] at *;refine Ae Ah Tryz.func156 (by decide +kernel) rfl [2,3,4,5,6,7,8] rfl rfl ?_;refine JG 1 2 (λy:Value×Value×List Nat=>C2 _ nt _ ks y.1 y.2.1 y.2.2 b) rfl (λvs I w bs h=>let ⟨y,hy⟩:=J2 h;⟨y,bs,λq hq=>hq,Xo hy⟩) λy=>?_;obtain ⟨nv,kv,kbs⟩:=y;refine md [] rfl (by simp) ?_;refine P6 Ah 2 _ rfl rfl (ZN (.mk h1 h2 h3 h4)) ?_;refine mg [] rfl (by simp) ?_;refine P6 Ah 2 _ rfl rfl ZL ?_;refine mg [] rfl (by simp) ?_;refine P6 Ah 2 _ rfl rfl ZM ?_
 refine mg [] rfl (by simp) ?_;refine Bk Ah 2 ((Al (.mk so n x ps)).map .imm) rfl rfl (λ_ vs I w bs h=>J4 h) rfl rfl (by simp [Ag]) ?_;refine mg [] rfl (by simp [Ag]) ?_;refine Ac rfl (λ_=>hA) (by simp [Ag]) ?_;refine mg [] rfl (by simp [Ag];rfl) ?_;have el:∀i t,L[i]?=some t->(L.take (i+1)).map As=(L.take i).map As++[As t]:=λi t ht=>by rw [AS ht,List.map_append];rfl
 refine BN 2 (λ_:Unit=>AU (.mk (.mk so n x ps) [] (.mk h1 h2 h3 h4) []) b) rfl (λvs I w bs h=>⟨(),J3 h⟩) λ_=>?_;refine Aj (λi:Nat=>[(33,.imm (.int .i64 i)),(32,.imm (.int .i64 L.length)),(31,.imm (.sl (Bg L))),(1,.raw (ptr b)),(0,.imm (AL c sz))])
  (λi=>[(2,some (.hp (AU (.mk (.mk so n x ps) [] (.mk h1 h2 h3 h4) ((L.take i).map As)) b)))]) [4,5,6,7,8] (λi=>L.length-i)
  (λi=>i<=L.length) 0 (Nat.zero_le _) ⟨rfl,At (by simp),rfl,rfl,rfl,trivial⟩ ⟨rfl,trivial⟩ rfl λi hi ih=>?_
 refine md [] rfl (by simp) ?_;refine Aa rfl (λh=>?_) (λh=>?_)
 ·simp at h;obtain ⟨t,ht⟩:=Am h;have hih:=ih (i+1) (by omega) (by omega);rw [el i t ht] at hih;have hkl:((L.take i).map As).length<=100:=by simp;omega
  generalize (L.take i).map As=K at *;refine BN 2 (λy:Value×Value×List Nat=>C2 (.mk so n x ps) [] (.mk h1 h2 h3 h4) K y.1 y.2.1 y.2.2 b) rfl (λvs I w bs h=>J2 h) λy=>?_;obtain ⟨nv,kv,kbs⟩:=y;refine md [] rfl (by simp) ?_;refine mi rfl (c:=Al t) (λ_=>⟨by simp,by simpa using Av ht,by simp⟩) (by simp) ?_;obtain ⟨t1,t2,t3,t4⟩:=t;refine mg [] rfl (by simp) ?_;refine Bk Ah 2 [.raw kv] rfl rfl (λ_ vs I w bs h=>J5 h) rfl rfl (by simp [Ag]) ?_;refine mg [] rfl (by simp [Ag]) ?_;refine BT [] [(2,5)] [] (fr:=[5]) (nm:=[5]) rfl trivial (by simp) (G0 (AL c sz) (.mk t1 t2 t3 t4)) trivial rfl trivial rfl rfl rfl ?_;refine mg [] rfl (by simp) ?_;refine cG Ah 5 6 rfl rfl ?_;refine mg [] rfl (by simp) ?_
  refine cH Ah 2 6 7 (XH (.mk so n x ps) [] (.mk h1 h2 h3 h4) (K++[As (.mk t1 t2 t3 t4)]) b) rfl rfl rfl (by decide) (XD (bytes:=8) (by decide) hkl) ?_;refine mg [] rfl (by simp) ?_;refine Ms Ah 7 _ rfl rfl T7 ?_;refine mg [] rfl (by simp [Ag];rfl) ?_;refine A3 2 7 rfl ?_;exact Ad hih ⟨At (Bv (by omega) (by omega)),rfl,rfl,rfl,rfl,trivial⟩ ⟨rfl,trivial⟩ rfl
 ·simp at h;refine Ar rfl ?_;rw [List.take_of_length_le (by omega)];exact Ce ⟨_,rfl,rfl,rfl,trivial⟩
end Go.Hk
