/- A slice whose capacity is cut to its length. (And what it stands on.) -/
import Derived.Test.YtegabgaflilabaaGreatVd
set_option linter.unusedSimpArgs false
set_option linter.unusedVariables false

set_option maxRecDepth 100000
set_option maxHeartbeats 4000000
namespace Go.Hk
mutual
def unn:V->V
 | .nilsl=>.sl []
 | .agg xs=>.agg (Gh xs)
 | .tup xs=>.tup (Gh xs)
 | .sl es=>.sl (Mf es)
 | .ip t cs off=>.ip t (Gh cs) off
 | .iface t x=>.iface t (unn x)
 | x=>x
def Gh:List V->List V
 | []=>[]
 | x::r=>unn x::Gh r
def Mf:List (List V)->List (List V)
 | []=>[]
 | x::r=>Gh x::Mf r
end
theorem FX:∀l:List V,Gh l=l.map unn
 | []=>rfl
 | x::r=>by simp [Gh,FX r]
theorem Me:∀l:List (List V),Mf l=l.map Gh
 | []=>rfl
 | x::r=>by simp [Mf,Me r]
theorem RepV.unn {I:Imm} {v:Value} {x:V} (h:RepV I v x):RepV I v (unn x):=by
 have gL:∀{xs:List V} {i:Nat} {y:V},(Gh xs)[i]?=some y->∃z,xs[i]?=some z/\y=Go.Hk.unn z:=by
  intro xs i y hy;rw [FX,List.getElem?_map] at hy;cases hz:xs[i]? with
  | none=>rw [hz] at hy;cases hy
  | some z=>rw [hz] at hy;cases hy;exact ⟨z,rfl,rfl⟩
 have gLL:∀{es:List (List V)} {i:Nat} {e:List V},(Mf es)[i]?=some e->∃z,es[i]?=some z/\e=Gh z:=by
  intro es i y hy;rw [Me,List.getElem?_map] at hy;cases hz:es[i]? with
  | none=>rw [hz] at hy;cases hy
  | some z=>rw [hz] at hy;cases hy;exact ⟨z,rfl,rfl⟩
 induction h with
 | agg cs xs hl h1 _ ih=>exact .agg cs _ (by rw [FX,List.length_map,hl]) h1 λi c y hc hy=>by obtain ⟨z,hz,rfl⟩:=gL hy;exact ih i c z hc hz
 | tup cs xs hl _ ih=>exact .tup cs _ (by rw [FX,List.length_map,hl]) λi c y hc hy=>by obtain ⟨z,hz,rfl⟩:=gL hy;exact ih i c z hc hz
 | slnil=>exact .slnil
 | sl0 a=>exact .sl0 a
 | nilsl=>exact .slnil
 | sl b o len cap sz es vs hl hc hm hsz hcell _ ih =>
  refine .sl b o len cap sz _ vs (by rw [Me,List.length_map,hl]) hc hm (λe he=>?_) (λi e j x hi hj=>?_) (λi e j x hi hj=>?_)
  ·obtain ⟨i,hi⟩:=List.getElem?_of_mem he;obtain ⟨z,hz,rfl⟩:=gLL hi;rw [FX,List.length_map];exact hsz z (List.mem_of_getElem? hz)
  ·obtain ⟨z,hz,rfl⟩:=gLL hi;obtain ⟨y,hy,rfl⟩:=gL hj;exact hcell i z j y hz hy
  ·obtain ⟨z,hz,rfl⟩:=gLL hi;obtain ⟨y,hy,rfl⟩:=gL hj;exact ih i z j y hz hy
 | iface t v x _ ih=>exact .iface t v _ ih
 | ip b o t cs off vs hcell _ ih =>
  refine .ip b o t _ off vs (λj y hj=>?_) (λj y hj=>?_)
  ·obtain ⟨z,hz,rfl⟩:=gL hj;exact hcell j z hz
  ·obtain ⟨z,hz,rfl⟩:=gL hj;exact ih j z hz
 | bool b=>exact .bool b
 | int k n=>exact .int k n
 | str s l hs=>exact .str s l hs
 | niliface=>exact .niliface
 | nilp=>exact .nilp
 | nilmap=>exact .nilmap
 | nilfn=>exact .nilfn
 | fn f=>exact .fn f
 | mapv b es clock kv hI hl hs h1 h2 _ _=>exact .mapv b es clock kv hI hl hs h1 h2
 | clo f first cap xs ys hf hc h1 h2 _ _=>exact .clo f first cap xs ys hf hc h1 h2
theorem Qy {P:Program} {f:FuncId} {vs:List V} {v:V} (h:Al P f (Gh vs) v):Al P f vs v:=by
 intro I μ w xs hst hx;refine h I μ w xs hst ⟨by rw [hx.1];simp [FX],λi u d hu hd=>?_⟩;rw [List.getElem?_map,FX,List.getElem?_map] at hd;cases hz:vs[i]? with
 | none=>rw [hz] at hd;cases hd
 | some z =>
  rw [hz] at hd;cases hd;exact .imm _ _ (hx.2 i u (.imm z) hu (by simp [hz])).immInv.unn
def Z3:List D->List D->Prop
 | [],[]=>True
 | d::r,d'::r'=>(d=d'\/(d = .nils/\d' = .imm .nilsl))/\Z3 r r'
 | _,_=>False
theorem QA:∀{ds ds':List D},Z3 ds ds'->ds.length=ds'.length/\∀(i:Nat) (d':D),ds'[i]?=some d'->∃d,ds[i]?=some d/\(d=d'\/(d = .nils/\d' = .imm .nilsl))
 | [],[],_=>⟨rfl,λi d h=>by simp at h⟩
 | d::r,d'::r',h=>by
  obtain ⟨h1,h2⟩:=QA h.2;refine ⟨by simp [h1],λi x hx=>?_⟩;cases i with
  | zero=>simp at hx;subst hx;exact ⟨d,rfl,h.1⟩
  | succ i=>exact h2 i x (by simpa using hx)
 | [],_::_,h=>h.elim
 | _::_,[],h=>h.elim
theorem Z2 {I:Imm} {μ:Mu} {vs:List Value} {ds ds':List D} (h:Z3 ds ds') (hr:RepL I μ vs ds):RepL I μ vs ds':=by
 obtain ⟨h1,h2⟩:=QA h;refine ⟨by rw [hr.1,h1],λi v y hv hy=>?_⟩;obtain ⟨d,k1,k2⟩:=h2 i y hy;have:=hr.2 i v d hv k1;rcases k2 with rfl | ⟨rfl,rfl⟩
 ·exact this
 ·cases this;exact .imm _ _ .nilsl
section
variable {P:Program} {n:Nat} {F:List Nat} {Q:DQ} {tt:TT} {env env':Env} {st st':St} {ids ids':List Nat} {todo:List DI}
theorem K2 (k:Nat) {t:TypeId} {sz:Nat} {ds:List D} (ds':List D) (hk:lk st k=some (some (.cells t sz ds))) (hcl:Z3 ds ds') (h:DGo P n F Q todo env ((k,some (.cells t sz ds'))::st) ids):DGo P n F Q todo env st ids:=by
 refine Dl λI μ a w hc=>?_;obtain ⟨p1,p2⟩:=hc.toStRep.retell (st1:=(k,some (.cells t sz ds'))::st) (λi bb hlb=>by
  rcases A8.1 hlb with ⟨rfl,rfl⟩ | ⟨_,h2⟩
  ·refine ⟨_,hk,λgb hb=>?_⟩;obtain ⟨hs,b,us,e1,e2,e3,e4⟩:=hb;exact ⟨by rw [<- (QA hcl).1,hs],b,us,e1,e2,Z2 hcl e3,e4⟩
  ·exact ⟨bb,h2,λ_ h=>h⟩)
 exact ⟨I,μ,env,_,ids,p1,hc.env,p2,.refl _ _,h⟩
theorem Lb (t:Nat) {ds:List D} (ds':List D) (ht:lk env t=some (.agg ds)) (hcl:Z3 ds ds') (h:DGo P n F Q todo ((t,HR ds')::env) st ids):DGo P n F Q todo env st ids:=by
 refine Dl λI μ a w hc=>⟨I,μ,_,st,ids,hc.toStRep,λt' d hd=>?_,Ext.refl _ _ _ _,.refl _ _,h⟩
 by_cases e:t=t'
 ·subst e;rw [Ax] at hd;cases hd;have hr:=hc.env t _ ht;obtain ⟨cs,hcs,h1,h2⟩:=hr.aggDInv;rw [hcs];exact GY (Z2 hcl h1) h2
 ·rw [A5 _ _ e] at hd;exact hc.env t' d hd
def qV (j:Nat):List D->List D->Prop
 | [],[]=>True
 | d::r,d'::r'=>(d=d'\/(d = .imm .nilsl/\d' = .own j 0))/\qV j r r'
 | _,_=>False
theorem VI {j:Nat}:∀{ds ds':List D},qV j ds ds'->ds.length=ds'.length/\∀(i:Nat) (d':D),ds'[i]?=some d'->∃d,ds[i]?=some d/\(d=d'\/(d = .imm .nilsl/\d' = .own j 0))
 | [],[],_=>⟨rfl,λi d h=>by simp at h⟩
 | d::r,d'::r',h=>by
  obtain ⟨h1,h2⟩:=VI h.2;refine ⟨by simp [h1],λi x hx=>?_⟩;cases i with
  | zero=>simp at hx;subst hx;exact ⟨d,rfl,h.1⟩
  | succ i=>exact h2 i x (by simpa using hx)
 | [],_::_,h=>h.elim
 | _::_,[],h=>h.elim
theorem OW (k j:Nat) {e t:TypeId} {sz sz':Nat} {xs:List V} (ds':List D) (hsz:0<sz) (hk:lk st k=some (some (.immb t sz' xs))) (hcl:qV j (xs.map .imm) ds')
  (h:DGo P n F Q todo env ((k,some (.cells t sz' ds'))::(j,some (.row e sz []))::st) ids'):DGo P n F Q todo env st (j::ids'):=by
 refine Dl λI μ a w hc=>?_;obtain ⟨gk,hgk,_⟩:=hc.blk k _ hk;have hjk:j≠k:=λe=>by rw [<- e,hc.idsFree j (by simp)] at hgk;cases hgk
 obtain ⟨q1,q2,q3⟩:=StRep.relay (R:=[]) (new:=[(j,.slice none 0 0,.row e sz [])]) (ids':=ids') hc.toStRep
  (λp hp b hb=>by rw [List.mem_singleton.1 hp] at hb;exact hb.elim)
  (λp hp q hq b _ _=>by rw [List.mem_singleton.1 hp,List.mem_singleton.1 hq]) (Imm.le_refl I) hc.imm (λb o h=>.inl h)
  (λ_ p hp=>by rw [List.mem_singleton.1 hp];exact ⟨[],World.ownsRow_nil w 0 e sz,.nil,by simp,by simp,hsz⟩)
 have hmj:E3 [(j,Value.slice none 0 0,Blk.row e sz [])] μ j=some (.slice none 0 0):=by simp [E3,lk]
 have hk2:Az ((j,some (.row e sz []))::st) k (.immb t sz' xs):=A8.2 (.inr ⟨hjk.symm,hk⟩);obtain ⟨c1,c2⟩:=VI hcl;obtain ⟨p1,p2⟩:=q2.retell (st1:=(k,some (.cells t sz' ds'))::(j,some (.row e sz []))::st) (λi bb hlb=>by
  rcases A8.1 hlb with ⟨rfl,rfl⟩ | ⟨_,h2⟩
  ·refine ⟨_,hk2,λgb hb=>?_⟩;obtain ⟨hs,b,us,e1,e2,e3,e4⟩:=hb;refine ⟨by rw [<- c1,List.length_map,hs],b,us,e1,e2,⟨by rw [<- c1,List.length_map,e3.1],λi v y hv hy=>?_⟩,e4⟩;obtain ⟨d,y1,y2⟩:=c2 i y hy;rw [List.getElem?_map] at y1;cases hx:xs[i]? with
   | none=>rw [hx] at y1;cases y1
   | some x =>
    rw [hx] at y1;have hr:=e3.2 i v x hv hx;have y1:D.imm x=d:=by simpa using y1
    rcases y2 with rfl | ⟨rfl,rfl⟩
    ·rw [<- y1];exact .imm _ _ hr
    ·cases y1;cases hr;exact .own j 0 none 0 hmj
  ·exact ⟨bb,h2,λ_ h=>h⟩)
 exact ⟨I,_,env,_,ids',p1,λt d hd=>(hc.env t d hd).mono (Imm.le_refl I) q1,q3.trans p2,.of_le q1,h⟩
end
end Go.Hk
namespace Go.Hk
def eO:List D->Option (List V)
 | []=>some []
 | .imm x::r=>match eO r with
  | some xs=>some (x::xs)
  | none=>none
 | .nils::r=>match eO r with
  | some xs=>some (.nilsl::xs)
  | none=>none
 | _=>none
def pB:D->Option V
 | .agg ds=>match eO ds with
  | some xs=>some (.agg xs)
  | none=>none
 | d=>lO d
def Vl:List D->Option (List V)
 | []=>some []
 | d::r=>match pB d,Vl r with
  | some x,some xs=>some (x::xs)
  | _,_=>none
section
variable {P:Program} {n:Nat} {F:List Nat} {Q:DQ} {tt:TT} {env env':Env} {st st':St} {ids ids':List Nat} {todo todo':List DI} {I:Imm} {μ:Mu}
theorem PM:∀{vs:List Value} {ds:List D} {xs:List V},eO ds=some xs->RepL I μ vs ds->RepVL I vs xs
 | [],ds,xs,h,hr=>by
  cases ds with
  | nil=>cases h;exact .nil
  | cons d ds=>simp [RepL] at hr
 | v::vs,ds,xs,h,hr=>by
  cases ds with
  | nil=>simp [RepL] at hr
  | cons d ds =>
   obtain ⟨h1,h2⟩:=hr.cons;cases d <;> simp only [eO,reduceCtorEq] at h
   ·split at h
    ·cases h;exact .mk h1.immInv (PM (by assumption) h2)
    ·cases h
   ·split at h
    ·cases h;cases h1;exact .mk .nilsl (PM (by assumption) h2)
    ·cases h
theorem fO {v:Value} {d:D} {x:V} (h:pB d=some x) (hr:RepD I μ v d):RepV I v x:=by
 unfold pB at h
 split at h
 ·split at h
  ·rename_i xs hx;cases h;obtain ⟨cs,rfl,h1,h2⟩:=hr.aggDInv;have:=PM hx h1;exact .agg cs xs (by have:=this.1;simpa using this) h2 λi c x hc hx=>this.2 i c x (by simpa using hc) hx
  ·cases h
 ·exact Mj h hr
theorem SE:∀{vs:List Value} {ds:List D} {xs:List V},Vl ds=some xs->RepL I μ vs ds->RepVL I vs xs
 | [],ds,xs,h,hr=>by
  cases ds with
  | nil=>cases h;exact .nil
  | cons d ds=>simp [RepL] at hr
 | v::vs,ds,xs,h,hr=>by
  cases ds with
  | nil=>simp [RepL] at hr
  | cons d ds =>
   obtain ⟨h1,h2⟩:=hr.cons;simp only [Vl] at h
   split at h
   ·cases h;exact .mk (fO (by assumption) h1) (SE (by assumption) h2)
   ·cases h
theorem jG {Pn:V->Prop} {all:List Oper} {o:Oper} {f:FuncId} {das:List D} {vs:List V} {v:V} {g:Option (Bool×Bool)} (hg:Ca all env o=some g) (hc:En P o env f das (Ap g)) (hv:Vl das=some vs)
  (hE:Ap g->Al P f vs v):LD P Pn all o env st [] [] [] (gD g (.imm v)):=by
 have key:∀I μ st1 ids1 a w,StRep I μ st1 ids1 w->Dh I μ env a o.op->Ap g->valX P ((execOp a.eval o).run P w) (λu w'=>∃I' μ',StRep I' μ' st1 ids1 w'/\RepD I' μ' u (gD g (.imm v))/\μ.le μ'/\Ext I μ st1 w I' μ' st1 w') (Kc Pn I μ st1 w):=by
  intro I μ st1 ids1 a w hst hop hcx;obtain ⟨xs,h1,h2⟩:=hc I μ a w hop hcx;have hx:=SE hv h1;obtain ⟨q1,q2,q3⟩:=FT (σ:=[]) (st0:=[]) hst trivial (das:=vs.map .imm) (by
   have:∀vs:List V,I6 (vs.map .imm)=[]:=λvs=>by induction vs with
    | nil=>rfl
    | cons x r ih=>simp [I6,IR,ih]
   rw [this];rfl) hx.imm
  have hren:FD (DY []) (vs.map .imm)=vs.map .imm:=by
   rw [Ff];simp [JF]
  rw [hren] at q2;rw [h2];refine (hE hcx I _ w xs q1 q2).mono (λu w' hu=>?_) (λ_ _ h=>h.elim);obtain ⟨I',μ',r1,r2,r3,r4⟩:=hu;obtain ⟨ν,s1,s2,s3,s4⟩:=IP (fr:=[]) (ids':=ids1) (σ:=[]) (τ1:=[]) (das:=[]) (st0:=[]) hst trivial ⟨rfl,rfl,λ_ h=>by simp at h,rfl,rfl,λ_ h=>by simp at h⟩ r1 r2 r3 r4 q3;refine ⟨I',ν,s1,?_,s3,s4⟩;cases g with
  | none=>exact s2
  | some p=>exact .guard _ _ _ _ (λ_=>s2) (λhn=>absurd hcx hn)
 intro I μ st1 ids1 a w _ hst hon;have hwant:=Fr hg hon;refine ⟨λhw=>key I μ st1 ids1 a w hst (Bc hon) (hwant.1 hw),λhw=>⟨rfl,rfl,?_⟩⟩;cases g with
 | none=>rw [hwant.2 trivial] at hw;cases hw
 | some p=>exact .guard _ _ _ _ (λhc=>by rw [hwant.2 hc] at hw;cases hw) (λ_=>rfl)
theorem mZ {c:Xn} {vs:List V} {v:V} (h:Wy n env todo=some c) (hv:Vl c.das=some vs) (hE:Ap c.g->Al P c.f vs v) (hob:AA c.ob) (h1:Bg todo ([],[])=some (c.all,c.o,todo'))
  (hk:G P n F Q todo' (B9 c.dst (gD c.g (.imm v)) env) st ids):G P n F Q todo env st ids:=by
 obtain ⟨_,q2,q3,q4,q5,q6⟩:=Ri (P:=P) h hob;rw [q6] at q4 hk;exact B6 (fr:=[]) (wr:=[]) (rd:=[]) h1 (jG q2 q3 hv hE) q4 q5 hk
theorem fF {I:Imm} {vs:List Value} {xs:List V} (h:RepVL I vs xs):RepVL I vs (Gh xs):=by
 refine ⟨by rw [h.1];simp [FX],λi v x hv hx=>?_⟩;rw [FX,List.getElem?_map] at hx;cases hz:xs[i]? with
 | none=>rw [hz] at hx;cases hx
 | some z=>rw [hz] at hx;cases hx;exact (h.2 i v z hv hz).unn
theorem Rt (k:Nat) {t:TypeId} {sz:Nat} {xs:List V} (xs':List V) (hk:lk st k=some (some (.immb t sz xs))) (hcl:Gh xs=xs') (h:DGo P n F Q todo env ((k,some (.immb t sz xs'))::st) ids):DGo P n F Q todo env st ids:=by
 subst hcl;refine Dl λI μ a w hc=>?_;obtain ⟨p1,p2⟩:=hc.toStRep.retell (st1:=(k,some (.immb t sz (Gh xs)))::st) (λi bb hlb=>by
  rcases A8.1 hlb with ⟨rfl,rfl⟩ | ⟨_,h2⟩
  ·refine ⟨_,hk,λgb hb=>?_⟩;obtain ⟨hs,b,us,e1,e2,e3,e4⟩:=hb;exact ⟨by rw [<- hs];simp [FX],b,us,e1,e2,fF e3,e4⟩
  ·exact ⟨bb,h2,λ_ h=>h⟩)
 exact ⟨I,μ,env,_,ids,p1,hc.env,p2,.refl _ _,h⟩
end
end Go.Hk
namespace Go.Hk
open Go.Proofs
theorem dL {l:List Ty} {i:Nat} {t h:Ty} (ht:l[i]?=some t):Bj (l.drop i) h=(AB t h||Bj (l.drop (i+1)) h):=by rw [Av ht];rfl
theorem ZC (l:List Ty) (h:Ty):Al Tryz.prog 105 [.sl (Bx l),.agg (Ao h)] (.bool (Bj l h)):=by
 have hS:=λa=>JS a h;obtain ⟨h1,h2,h3,h4⟩:=h;refine AW λhv=>?_;simp [Ct,ET,Ao,maxLen] at hv;refine Ae Ai Tryz.func105 (by decide +kernel) rfl [1,2,3] rfl rfl ?_;refine Aj rfl ?_;refine An (λi:Nat=>[(5,.imm (.int .i64 i)),(0,.imm (.sl (Bx l))),(3,.ref 1 0)]) (λ_=>[(1,some (.immb 46 4 (Ao (.mk h1 h2 h3 h4))))]) [2,3] (λi=>l.length-i)
  (λi=>i<=l.length/\Bj l (.mk h1 h2 h3 h4)=Bj (l.drop i) (.mk h1 h2 h3 h4)) 0 ⟨Nat.zero_le _,rfl⟩ ⟨rfl,rfl,rfl,trivial⟩ ⟨rfl,trivial⟩ rfl λi hi ih=>?_
 obtain ⟨hi1,hi2⟩:=hi;refine Ak rfl ?_;refine Ab rfl (λh=>?_) (λh=>?_)
 ·simp at h;obtain ⟨t,ht⟩:=As h;rw [dL ht] at hi2;refine Ak rfl ?_;refine mi rfl (c:=Ao t) (λ_=>⟨by simp,by simpa using A4 ht,by simp⟩) (by simp) ?_;refine Aj rfl ?_;refine Af rfl (λ_=>hS t) (by simp) ?_;refine mg [] rfl (by simp;rfl) ?_;refine Ab rfl (λh=>?_) (λh=>?_)
  ·refine Ak rfl ?_;rw [hi2,show AB t (.mk h1 h2 h3 h4)=true from h];exact Aa rfl rfl rfl
  ·have h:AB t (.mk h1 h2 h3 h4)=false:=by simpa using h
   rw [h,Bool.false_or] at hi2;refine Ak rfl ?_;exact Ad (ih (i+1) (by omega) ⟨by omega,hi2⟩) ⟨A0 (B2 (by omega) (by omega)),rfl,rfl,trivial⟩ ⟨rfl,trivial⟩ rfl
 ·simp at h;refine Aw rfl ?_;refine Ak rfl ?_;rw [hi2,List.drop_eq_nil_of_le (by omega)];exact Aa rfl rfl rfl
def G0:Ty->List V
 | .mk f n x _=>[.int .i64 f,.int .i64 n,.str x,if f=0 then .sl [] else .nilsl]
def BQ (l:List Ty):List (List V):=l.map G0
@[simp] theorem dHds_length (l:List Ty):(BQ l).length=l.length:=by simp [BQ]
@[simp] theorem dHd_length (h:Ty):(G0 h).length=4:=by obtain ⟨a,b,c,d⟩:=h;rfl
theorem K7 (a b:List Ty):BQ (a++b)=BQ a++BQ b:=by simp [BQ]
theorem IN {l:List Ty} {i:Nat} {h:Ty} (e:l[i]?=some h):(BQ l)[i]?=some (G0 h):=by simp [BQ,e]
def Dx:Ty->Ty
 | .mk f n x _=>.mk f n x []
theorem PV (h:Ty):Gh (G0 h)=Ao (Dx h):=by
 obtain ⟨f,n,x,ps⟩:=h;by_cases e:f=0 <;> simp [G0,e,Gh,unn,Dx,Ao,Bx,Mf]
theorem Zb (l:List Ty):Mf (BQ l)=Bx (l.map Dx):=by
 rw [Me,C8,BQ,List.map_map,List.map_map];exact List.map_congr_left λh _=>PV h
mutual
theorem fE:∀t:Ty,Gh (Ao t)=Ao t
 | .mk f n x ps=>by simp [Ao,Gh,unn,Za ps]
theorem Za:∀l:List Ty,Mf (Bx l)=Bx l
 | []=>rfl
 | t::r=>by simp [Bx,Mf,fE t,Za r]
end
theorem Rf (a b:Ty):AB (Dx a) (Dx b)=AB a b:=by obtain ⟨_,_,_,_⟩:=a;obtain ⟨_,_,_,_⟩:=b;rfl
theorem Wr (a b:Ty):AB (Dx a) b=AB a b:=by obtain ⟨_,_,_,_⟩:=a;obtain ⟨_,_,_,_⟩:=b;rfl
theorem dM (l:List Ty) (h:Ty):Bj (l.map Dx) (Dx h)=Bj l h:=by simp only [Bj,List.any_map];congr 1;funext x;exact Rf x h
theorem Yy (l:List Ty) (h:Ty):Bj (l.map Dx) h=Bj l h:=by simp only [Bj,List.any_map];congr 1;funext x;exact Wr x h
theorem Kw (l:List Ty) (h:Ty):Al Tryz.prog 105 [.sl (BQ l),.agg (G0 h)] (.bool (Bj l h)):=Qy (by
 have:=ZC (l.map Dx) (Dx h);rw [dM] at this;have e:Gh [.sl (BQ l),.agg (G0 h)]=[.sl (Bx (l.map Dx)),.agg (Ao (Dx h))]:=by simp only [Gh,unn,Zb,PV]
 rw [e];exact this)
theorem Rg (l:List Ty) (h:Ty):Al Tryz.prog 105 [.sl (BQ l),.agg (Ao h)] (.bool (Bj l h)):=Qy (by
 have:=ZC (l.map Dx) h;rw [Yy] at this;have e:Gh [.sl (BQ l),.agg (Ao h)]=[.sl (Bx (l.map Dx)),.agg (Ao h)]:=by simp only [Gh,unn,Zb,fE]
 rw [e];exact this)
theorem X2 (a b:Ty):Al Tryz.prog 80 [.agg (G0 a),.agg (G0 b)] (.bool (AB a b)):=Qy (by
 have:=JS (Dx a) (Dx b);rw [Rf] at this;have e:Gh [.agg (G0 a),.agg (G0 b)]=[.agg (Ao (Dx a)),.agg (Ao (Dx b))]:=by simp only [Gh,unn,PV]
 rw [e];exact this)
theorem jS (p:Ty):Al Tryz.prog 146 [.agg (Ao p)] (.agg (G0 (AO p))):=by
 obtain ⟨s,n,x,ks⟩:=p;refine Ae Ai Tryz.func146 (by decide +kernel) rfl [1,2,3] rfl rfl ?_;simp only [AO];by_cases h3:s=3
 ·subst h3;refine Aj rfl ?_;refine Ah rfl λh=>?_;refine Ak rfl ?_;exact K2 2 [.imm (.int .i64 1),.imm (.int .i64 n),.imm (.str []),.imm .nilsl] rfl (by simp [Z3]) (Au ⟨_,rfl,tV rfl,trivial⟩)
 rw [if_neg h3];refine Aj rfl ?_;refine Ab rfl (λh=>absurd (by simpa using h) h3) (λh=>?_);clear h;refine Ak rfl ?_;by_cases h4:s=4
 ·subst h4;refine Ah rfl λh=>?_;refine Ak rfl ?_;exact K2 2 [.imm (.int .i64 2),.imm (.int .i64 n),.imm (.str []),.imm .nilsl] rfl (by simp [Z3]) (Au ⟨_,rfl,tV rfl,trivial⟩)
 rw [if_neg h4];refine Ab rfl (λh=>absurd (by simpa using h) h4) (λh=>?_);clear h;refine Ak rfl ?_;by_cases h5:s=5
 ·subst h5;refine Ah rfl λh=>?_;refine Ak rfl ?_;exact K2 2 [.imm (.int .i64 3),.imm (.int .i64 0),.imm (.str []),.imm .nilsl] rfl (by simp [Z3]) (Au ⟨_,rfl,tV rfl,trivial⟩)
 rw [if_neg h5];refine Ab rfl (λh=>absurd (by simpa using h) h5) (λh=>?_);clear h;refine Ak rfl ?_;exact K2 2 [.imm (.int .i64 4),.imm (.int .i64 0),.imm (.str x),.imm .nilsl] rfl (by simp [Z3]) (Au ⟨_,rfl,tV rfl,trivial⟩)
def D2 (c:Cd):Ty:=.mk 4 0 c.name []
theorem NN (c:Cse) (t:Ty) (ho:OkD c.datas) (hn:AI c.datas t=true):Al Tryz.prog 149 [.agg (dCse c),.agg (Ao t)] (.sl (BQ (A6 c.datas t))):=by
 obtain ⟨ds,⟨c1,c2,c3,c4⟩,rows⟩:=c;have hP:=JY ds (C5 t);obtain ⟨so,n,x,ps⟩:=t;simp only at ho hn hP ⊢;refine Ae Ai Tryz.func149 (by decide +kernel) rfl [1,2,3,4,5,6] rfl rfl ?_;simp only [A6];refine Aj rfl ?_;by_cases h2:so=2
 ·subst h2;refine Ah rfl λh=>?_;refine pK 4 rfl (by simp) ?_;refine Lb 12 [.imm (.int .i64 2),.imm (.int .i64 0),.imm (.str []),.imm .nilsl] rfl (by simp [Z3]) ?_;refine Lb 13 [.imm (.int .i64 2),.imm (.int .i64 1),.imm (.str []),.imm .nilsl] rfl (by simp [Z3]) ?_;refine Ak rfl ?_;exact Aa rfl rfl rfl
 rw [if_neg h2];refine Ab rfl (λh=>absurd (by simpa using h) h2) (λh=>?_);clear h;refine Ak rfl ?_;by_cases h3:so=3
 ·subst h3;refine Ah rfl λh=>?_;refine pK 3 rfl (by simp) ?_;refine Lb 17 [.imm (.int .i64 3),.imm (.int .i64 0),.imm (.str []),.imm .nilsl] rfl (by simp [Z3]) ?_;refine Ak rfl ?_;exact Aa rfl rfl rfl
 rw [if_neg h3];refine Ab rfl (λh=>absurd (by simpa using h) h3) (λh=>?_);clear h;refine Ak rfl ?_;by_cases h8:so=8
 case neg =>
  rw [if_neg h8];refine Ab rfl (λh=>absurd (by simpa using h) h8) (λh=>?_);refine Ak rfl ?_;exact Aa rfl rfl rfl
 subst h8;rw [if_pos rfl];obtain ⟨hp,d,hd⟩:=Cr hn 8 n x ps rfl rfl;have hdl:=ho.len d (List.mem_of_getElem? hd);rw [hd];simp only;refine Ah rfl λh=>?_;clear h;refine Ak rfl ?_;refine Ag rfl hP ?_;refine Aj rfl ?_;refine mi rfl (c:=Cv d) (λ_=>⟨hp,by simpa [C5] using Be hd,by simp⟩) (by simp) ?_;obtain ⟨dn,dc⟩:=d;simp only at hdl;refine mg [] rfl (by simp;rfl) ?_;refine CZ (e:=46) (sz:=4) 5 4 (by decide) rfl ?_;have el:∀i c,dc[i]?=some c->BQ ((dc.take (i+1)).map D2)=BQ ((dc.take i).map D2)++[G0 (D2 c)]:=λi c hc=>by rw [Bh hc,List.map_append,K7];rfl
 refine An (λi:Nat=>[(7,.imm (.int .i64 i)),(6,.ref 3 0),(5,.own 4 (BQ ((dc.take i).map D2)).length)]) (λi=>[(3,some (.immb 72 2 (Cv ⟨dn,dc⟩))),(4,some (.row 46 4 (BQ ((dc.take i).map D2))))]) [5,6] (λi=>dc.length-i)
  (λi=>i<=dc.length) 0 (Nat.zero_le _) ⟨rfl,rfl,rfl,trivial⟩ ⟨rfl,rfl,trivial⟩ rfl λi hi ih=>?_
 refine Ak rfl ?_;refine Ab rfl (λh=>?_) (λh=>?_)
 ·simp at h;obtain ⟨e,he⟩:=As h;have et:=el i e he;have hlen:(BQ ((dc.take i).map D2)).length<=1000000:=by simp;omega
  have hih:=ih (i+1) (by omega) (by omega);rw [et] at hih;generalize BQ ((dc.take i).map D2)=l at *;refine Ak rfl ?_;refine mi rfl (c:=CM e) (λ_=>⟨by omega,by simpa using Be he,by simp⟩) (by simp) ?_;obtain ⟨en,ea⟩:=e;refine qI 3 rfl (by simp) ?_;refine Lb 44 [.imm (.int .i64 4),.imm (.int .i64 0),.imm (.str en),.imm .nilsl] rfl (by simp [Z3]) ?_;refine Ak rfl ?_;refine BE Ai rfl ⟨by simp [D2],by simp [maxLen] at hlen ⊢;omega,by simp at hlen ⊢;omega,trivial⟩ ?_;refine Aj rfl ?_;refine AF 4 5 rfl ?_;exact Ad hih ⟨A0 (B2 (by omega) (by omega)),rfl,by simp only [List.length_append];rfl,trivial⟩ ⟨rfl,rfl,trivial⟩ rfl
 ·simp at h;refine Aw rfl ?_;refine Bw 4 rfl ?_;refine Ak rfl ?_;rw [List.take_of_length_le (by omega)];exact Aa rfl rfl rfl
def Z5:Ty->Bool
 | .mk s n x ps=>Hu s n x ps.length
def P9 (ds:List Dt) (t h:Ty):Bool:=if AK t=1 then (AK h == 1)&&Z5 h else Bj (A6 ds t) h&&((B4 h).length:Int) == 0
theorem Yt (c:Cse) (t h:Ty) (ho:OkD c.datas) (hn:AI c.datas t=true):Al Tryz.prog 104 [.agg (dCse c),.agg (Ao t),.agg (Ao h)] (.bool (P9 c.datas t h)):=by
 have hH:=NN c t ho hn;have hA:=Rg (A6 c.datas t) h;have hN:Al Tryz.prog 148 [.agg (Ao h)] (.bool (Z5 h)):=by have:=iU h;obtain ⟨s,n,x,ps⟩:=h;exact this
 simp only [P9];obtain ⟨ds,⟨c1,c2,c3,c4⟩,rows⟩:=c;generalize A6 ds t=hs at *;generalize Bj hs h=b at *;generalize Z5 h=b2 at *;obtain ⟨so,n,x,ps⟩:=t;obtain ⟨f,m,y,qs⟩:=h;refine Ae Ai Tryz.func104 (by decide +kernel) rfl [1,2,3,4] rfl rfl ?_;refine Aj rfl ?_;by_cases h1:so=1
 ·subst h1;refine Ah rfl λh=>?_;refine Ak rfl ?_;refine AE rfl hN ?_;refine Du rfl ?_;exact Au ⟨_,rfl,tV (congrArg _ (by simp [AK])),trivial⟩
 ·refine Ab rfl (λh=>absurd (by simpa using h) h1) (λh=>?_);refine Ak rfl ?_;refine Ag rfl hH ?_;refine Aj rfl ?_;refine Ag rfl hA ?_;refine mg [] rfl (by simp [Ap];rfl) ?_;exact Au ⟨_,rfl,tV (congrArg _ (by simp [AK,h1,B4])),trivial⟩
mutual
def DL:Mi->List V
 | .mk ty nt hd ks=>Ao ty++[.sl (BQ nt)]++G0 hd++[.sl (Fx ks)]
def Fx:List Mi->List (List V)
 | []=>[]
 | k::r=>DL k::Fx r
end
theorem Ie:∀l:List Mi,Fx l=l.map DL
 | []=>rfl
 | k::r=>by simp [Fx,Ie r]
@[simp] theorem dMis_length (l:List Mi):(Fx l).length=l.length:=by rw [Ie];simp
@[simp] theorem dMi_length (m:Mi):(DL m).length=10:=by obtain ⟨⟨a,b,c,d⟩,nt,⟨e,f,g,h⟩,ks⟩:=m;rfl
theorem WM (a b:List Mi):Fx (a++b)=Fx a++Fx b:=by simp [Ie]
theorem Rz {l:List Mi} {i:Nat} {k:Mi} (h:l[i]?=some k):(Fx l)[i]?=some (DL k):=by simp [Ie,h]
def Qh (t:Ty):Bool:=decide (1<=AK t/\AK t<=8)
theorem Qg {b:Bool} {t:Ty} (h:Cb b t=true) (h9:b=true->AK t≠9):Qh t=true:=by
 obtain ⟨s,n,x,ps⟩:=t;simp only [Cb,CP,Bool.and_eq_true] at h;have key:=h.2.1;clear h;refine decide_eq_true ?_;simp only [AK] at *;unfold Ci at key
 split at key
 ·omega
 ·split at key
  ·omega
  ·split at key
   ·omega
   ·split at key
    ·omega
    ·split at key
     ·rename_i e;cases b with
      | false=>simp at key
      | true=>exact absurd e (h9 rfl)
     ·cases key
structure OkW (ds:List Dt):Prop where
 okd:OkD ds
 dif:B3 (Cn ds)=true
 ndif:B3 (CH ds)=true
 d4:ds.length<=4
 lim:∀d∈ds,d.cons.length<=5/\∀c∈d.cons,c.args.length<=3
 srt:∀d∈ds,∀c∈d.cons,∀t∈c.args,Qh t=true
theorem OkW.of {c:Cse} (h:By c=true):OkW c.datas:=by
 simp only [By,J8,Bool.and_eq_true] at h;obtain ⟨h1,h2,h3,h4⟩:=JW h.1.1.1.1;exact ⟨OkD.of2 h.1.1.1.1,h3,h2,(Fj h1).1,(Fj h1).2,λd hd k hk t ht=>by
  simp only [HQ,Bool.and_eq_true,List.all_eq_true] at h1;have hd:=h1.1.2 d hd;simp only [Ft,Bool.and_eq_true,List.all_eq_true] at hd;have hk:=hd.2 k hk;simp only [K8,Bool.and_eq_true,List.all_eq_true] at hk;exact Qg (hk.2 t ht) (λh=>by cases h)⟩
theorem OkW.typ {c:Cse} (h:By c=true):Qh c.type=true:=by
 simp only [By,J8,Bool.and_eq_true] at h;have h1:=h.1.1.2;have h2:=h.2.1;refine Qg h1 λ_ e=>?_;obtain ⟨ds,⟨s,n,x,ps⟩,rows⟩:=c;simp only [AK] at e;subst e;simp [Eu,Kt] at h2
theorem MY {ds:List Dt} (ho:OkW ds) (t:Ty) (s:Str):(BN ds t s).1.args.length<=3:=by
 by_cases h:0<=(BN ds t s).2
 ·obtain ⟨d,h1,h2⟩:=R7 h;exact (ho.lim d h1).2 _ h2
 ·have hz:∀(l:List Cd) (i:Nat),¬0<=(Di s i l).2->(Di s i l).1=lS:=by
   intro l
   induction l with
   | nil=>intro i _;rfl
   | cons c r ih =>
    intro i hh;simp only [Di] at hh ⊢
    split
    ·rename_i e;rw [if_pos e] at hh;exact absurd (by simp) hh
    ·rename_i e;rw [if_neg e] at hh;exact ih _ hh
  obtain ⟨so,n,x,ps⟩:=t;simp only [BN] at h ⊢
  split
  ·rename_i e;rw [if_pos e] at h
   split
   ·rename_i d hd;simp only [hd] at h;rw [hz _ _ h];simp [lS]
   ·simp [lS]
  ·simp [lS]
theorem ES {ds:List Dt} (ho:OkW ds) (t:Ty) (s:Str):(AZ ds t s).1.length<=3:=by
 have:=MY ho t s;unfold AZ;cases decide (0<=(BN ds t s).2)
 ·simp
 ·simpa using this
theorem NJ (c:Cse) (m:Mi) (h:Ty) (ho:OkW c.datas) (hn:AI c.datas m.ty=true):Al Tryz.prog 147 [.agg (dCse c),.agg (DL m),.agg (G0 h)] (.agg (DL (AY c.datas m h))):=by
 have hC:=YM c m.ty (C5 h) (Cr hn) (λd hd=>ho.okd.len d hd);have hargs:=MY ho m.ty (C5 h);have hneg:¬0<=(BN c.datas m.ty (C5 h)).2->(AZ c.datas m.ty (C5 h)).1=[]:=λh=>by simp [AZ,h]
 have hpos:0<=(BN c.datas m.ty (C5 h)).2->(AZ c.datas m.ty (C5 h)).1=(BN c.datas m.ty (C5 h)).1.args:=λh=>by simp [AZ,h]
 simp only [AY];generalize (AZ c.datas m.ty (C5 h)).1=L at *;generalize BN c.datas m.ty (C5 h)=e at *;obtain ⟨ds,⟨c1,c2,c3,c4⟩,rows⟩:=c;obtain ⟨⟨so,n,x,ps⟩,nt,⟨hd1,hd2,hd3,hd4⟩,ks⟩:=m;obtain ⟨f,hm,y,qs⟩:=h;obtain ⟨⟨en,ea⟩,k⟩:=e;simp only [Mi.ty] at hargs hneg hpos hC ⊢;simp only [DL,G0];generalize (if f=0 then V.sl [] else V.nilsl)=hw;refine Ae Ai Tryz.func147 (by decide +kernel) rfl [1,2,3,4,5,6,7,8] rfl rfl ?_;refine Aj rfl ?_;refine Ag rfl hC ?_;refine Aj rfl ?_;by_cases hk:0<=k
 case neg =>
  refine Ab rfl (λh=>absurd (by simpa using h) hk) (λh=>?_);refine Ak rfl ?_;rw [hneg hk];exact Aa rfl rfl rfl
 refine Ab rfl (λh=>?_) (λh=>absurd hk (by simpa using h));clear h;rw [hpos hk];clear hpos hneg hC;refine Ak rfl ?_;have el:∀i t,ea[i]?=some t->Fx ((ea.take (i+1)).map Ay)=Fx ((ea.take i).map Ay)++[DL (Ay t)]:=λi c hc=>by rw [Bh hc,List.map_append,WM];rfl
 refine UH (e:=108) (sz:=10) 5 7 [.imm (.int .i64 so),.imm (.int .i64 n),.imm (.str x),.imm (.sl (Bx ps)),.nils,.imm (.int .i64 f),.imm (.int .i64 hm),.imm (.str y),.imm hw,.own 7 0] (by decide) rfl (by simp [rV]) ?_;refine An (λi:Nat=>[(10,.imm (.int .i64 i)),(8,.ref 6 0),(7,.ref 5 0),(6,.ref 4 0)])
  (λi=>[(4,some (.cells 108 10 [.imm (.int .i64 0),.imm (.int .i64 0),.imm (.str []),.nils,.nils,.imm (.int .i64 0),.imm (.int .i64 0),.imm (.str []),.nils,.nils])),
   (5,some (.cells 108 10 [.imm (.int .i64 so),.imm (.int .i64 n),.imm (.str x),.imm (.sl (Bx ps)),.nils,.imm (.int .i64 f),.imm (.int .i64 hm),.imm (.str y),.imm hw,.own 7 (Fx ((ea.take i).map Ay)).length])),
   (6,some (.immb 75 2 (CM ⟨en,ea⟩))),(7,some (.row 108 10 (Fx ((ea.take i).map Ay))))]) [8] (λi=>ea.length-i)
  (λi=>i<=ea.length) 0 (Nat.zero_le _) ⟨rfl,rfl,rfl,rfl,trivial⟩ ⟨rfl,rfl,rfl,rfl,trivial⟩ rfl λi hi ih=>?_
 refine Ak rfl ?_;refine Ab rfl (λh=>?_) (λh=>?_)
 ·simp at h;obtain ⟨t,ht⟩:=As h;have et:=el i t ht;have hlen:(Fx ((ea.take i).map Ay)).length<=3:=by simp;omega
  have hih:=ih (i+1) (by omega) (by omega);rw [et] at hih;generalize Fx ((ea.take i).map Ay)=l at *;refine Ak rfl ?_;refine mi rfl (c:=Ao t) (λ_=>⟨by omega,by simpa using A4 ht,by simp⟩) (by simp) ?_;obtain ⟨t1,t2,t3,t4⟩:=t;refine Aj rfl ?_;refine BE Ai rfl ⟨by simp,by simp [maxLen] at hlen ⊢;omega,by simp at hlen ⊢;omega,trivial⟩ ?_;refine mg [] rfl (by simp;rfl) ?_;refine AF 7 8 rfl ?_;exact Ad hih ⟨A0 (B2 (by omega) (by omega)),rfl,rfl,rfl,trivial⟩ ⟨rfl,by simp only [List.length_append];rfl,rfl,rfl,trivial⟩ rfl
 ·simp at h;refine Aw rfl ?_;refine Bw 7 rfl ?_;refine Ak rfl ?_;rw [List.take_of_length_le (by omega)];exact Aa rfl rfl rfl
def RY (l:List Ty) (nt:List Ty):List Ty:=l.filter λh=>!Bj nt h
theorem bE {l nt:List Ty} {i:Nat} {t:Ty} (h:l[i]?=some t):RY (l.take (i+1)) nt=RY (l.take i) nt++(if Bj nt t then [] else [t]):=by
 rw [Bh h];cases hb:Bj nt t <;> simp [RY,hb]
theorem Jy {ds:List Dt} (ho:OkW ds) (t:Ty):(A6 ds t).length<=5:=by
 obtain ⟨so,n,x,ps⟩:=t;simp only [A6]
 split
 ·simp
 ·split
  ·simp
  ·split
   ·split
    ·rename_i d hd;simpa using (ho.lim d (List.mem_of_getElem? hd)).1
    ·simp
   ·simp
theorem HJ (c:Cse) (m:Mi) (ho:OkW c.datas) (hn:AI c.datas m.ty=true):Al Tryz.prog 145 [.agg (dCse c),.agg (DL m)] (.agg (DL (Ac c.datas m))):=by
 have hH:=NN c m.ty ho.okd hn;have hK:=λh=>NJ c m h ho hn;have hA:=λh=>Kw m.nt h;have hl:=Jy ho m.ty;have hs0:AK m.hd≠0->Ac c.datas m=m:=λh=>if_pos h;have hs1:AK m.hd=0->Ac c.datas m=match RY (A6 c.datas m.ty) m.nt with | [h]=>AY c.datas m h | _=>m:=λh=>if_neg (λhh=>hh h)
 generalize Ac c.datas m=S at *;generalize A6 c.datas m.ty=L at *;obtain ⟨kn,hkn⟩:∃kn:Ty->Mi,kn=AY c.datas m:=⟨_,rfl⟩
 simp only [<- hkn] at hK hs1;clear hkn hn;obtain ⟨ds,⟨c1,c2,c3,c4⟩,rows⟩:=c;obtain ⟨⟨so,n,x,ps⟩,nt,⟨f,hd2,hd3,hd4⟩,ks⟩:=m;simp only [Mi.ty,Mi.nt,Mi.hd,AK] at *;refine Ae Ai Tryz.func145 (by decide +kernel) rfl [1,2,3,4,5,6] rfl rfl ?_;refine Aj rfl ?_;by_cases hf:f=0
 case neg =>
  refine Ab rfl (λh=>?_) (λh=>absurd (by simpa using h) hf);refine Ak rfl ?_;rw [hs0 hf];exact Aa rfl rfl rfl
 rw [hs1 hf];clear hs0 hs1;refine Ab rfl (λh=>absurd hf (by simpa using h)) (λh=>?_);clear h;refine Ak rfl ?_;refine Ag rfl hH ?_;refine Aj rfl ?_;refine CZ (e:=46) (sz:=4) 6 4 (by decide) rfl ?_;refine An (λi:Nat=>[(7,.imm (.int .i64 i)),(6,.own 4 (BQ (RY (L.take i) nt)).length),(5,.imm (.sl (BQ L))),(4,.ref 3 0),(3,.ref 2 0),(2,.ref 1 0)])
  (λi=>[(1,some (.immb 29 6 (dCse ⟨ds,.mk c1 c2 c3 c4,rows⟩))),(2,some (.immb 108 10 (DL (.mk (.mk so n x ps) nt (.mk f hd2 hd3 hd4) ks)))),
   (3,some (.cells 108 10 [.imm (.int .i64 0),.imm (.int .i64 0),.imm (.str []),.nils,.nils,.imm (.int .i64 0),.imm (.int .i64 0),.imm (.str []),.nils,.nils])),
   (4,some (.row 46 4 (BQ (RY (L.take i) nt))))]) [5,6] (λi=>L.length-i)
  (λi=>i<=L.length) 0 (Nat.zero_le _) ⟨rfl,rfl,rfl,rfl,rfl,rfl,trivial⟩ ⟨rfl,rfl,rfl,rfl,trivial⟩ rfl λi hi ih=>?_
 refine Ak rfl ?_;refine Ab rfl (λh=>?_) (λh=>?_)
 ·simp at h;obtain ⟨t,ht⟩:=As h;have hA:=hA t;have et:=bE (nt:=nt) ht;have hlen:(RY (L.take i) nt).length<=5:=by
   have:=List.length_filter_le (λh=>!Bj nt h) (L.take i);simp only [RY,List.length_take] at this ⊢;omega
  have hih:=ih (i+1) (by omega) (by omega);rw [et,K7] at hih;generalize RY (L.take i) nt=R at *;generalize Bj nt t=b at *;refine Ak rfl ?_;refine mi rfl (c:=G0 t) (λ_=>⟨by simp,by simpa using IN ht,by simp⟩) (by simp) ?_;refine Aj rfl ?_;refine Ag rfl hA ?_;refine mg [] rfl (by simp;rfl) ?_;cases b with
  | true =>
   refine At rfl λh=>?_;refine Ak rfl ?_;simp only [if_true,show BQ []=[] from rfl,List.append_nil] at hih;exact Ad hih ⟨A0 (B2 (by omega) (by omega)),rfl,rfl,rfl,rfl,rfl,trivial⟩ ⟨rfl,rfl,rfl,rfl,trivial⟩ rfl
  | false =>
   refine Ah rfl λh=>?_;refine Ak rfl ?_;simp only [Bool.false_eq_true,if_false,show BQ [t]=[G0 t] from rfl] at hih;have hlen:(BQ R).length<=5:=by simpa using hlen
   generalize BQ R=l at *;refine mi rfl (c:=G0 t) (λ_=>⟨by simp,by simpa using IN ht,by simp⟩) (by simp) ?_;obtain ⟨t1,t2,t3,t4⟩:=t;simp only [G0] at hih ⊢;generalize (if t1=0 then V.sl [] else V.nilsl)=tw at *;refine Aj rfl ?_;refine BE Ai rfl ⟨by simp,by simp [maxLen] at hlen ⊢;omega,by simp at hlen ⊢;omega,trivial⟩ ?_;refine Aj rfl ?_;refine AF 4 5 rfl ?_;exact Ad hih ⟨A0 (B2 (by omega) (by omega)),by simp only [List.length_append];rfl,rfl,rfl,rfl,rfl,trivial⟩ ⟨rfl,rfl,rfl,rfl,trivial⟩ rfl
 ·simp at h;refine Aw rfl ?_;rw [List.take_of_length_le (by omega)];generalize RY L nt=R at *;refine Bw 4 rfl ?_;refine Ak rfl ?_
  match R with
  | [] =>
   refine At rfl λh=>?_;refine Ak rfl ?_;exact Aa rfl rfl rfl
  | [t] =>
   have hK:=hK t;obtain ⟨k1,k2,k3,k4⟩:∃k1 k2 k3 k4,kn t = .mk k1 k2 k3 k4:=by cases kn t;exact ⟨_,_,_,_,rfl⟩
   refine Ah rfl λh=>?_;refine Ak rfl ?_;refine mi rfl (c:=G0 t) (λ_=>⟨by simp,rfl,by simp⟩) (by simp) ?_;refine Aj rfl ?_;refine Ag rfl hK ?_;refine mg [] rfl (by simp;rfl) ?_;exact Aa rfl rfl rfl
  | _::_::_ =>
   refine Ab rfl (λh=>by simp at h;omega) (λh=>?_);refine Ak rfl ?_;exact Aa rfl rfl rfl
mutual
def GV (ds:List Dt) (N:Nat):Mi->Bool
 | .mk ty nt hd ks=>(AI ds ty&&Qh ty)&&decide (ks.length<=3)&&decide (nt.length<=N)&&(B4 hd).isEmpty&&Xr ds N ks
def Xr (ds:List Dt) (N:Nat):List Mi->Bool
 | []=>true
 | k::r=>GV ds N k&&Xr ds N r
end
theorem Vh (ds:List Dt) (N:Nat):∀l:List Mi,Xr ds N l=l.all (GV ds N)
 | []=>rfl
 | k::r=>by simp [Xr,Vh ds N r]
theorem AR {ds:List Dt} {N:Nat} {m:Mi}:GV ds N m=true↔(AI ds m.ty=true/\m.ks.length<=3/\m.nt.length<=N)/\(B4 m.hd=[]/\Qh m.ty=true)/\∀k∈m.ks,GV ds N k=true:=by
 obtain ⟨ty,nt,hd,ks⟩:=m;simp only [GV,Bool.and_eq_true,decide_eq_true_eq,Vh,List.all_eq_true,Mi.ty,Mi.ks,Mi.nt,Mi.hd,List.isEmpty_iff];constructor
 ·rintro ⟨⟨⟨⟨⟨a,s⟩,b⟩,c⟩,e⟩,d⟩;exact ⟨⟨a,b,c⟩,⟨e,s⟩,d⟩
 ·rintro ⟨⟨a,b,c⟩,⟨e,s⟩,d⟩;exact ⟨⟨⟨⟨⟨a,s⟩,b⟩,c⟩,e⟩,d⟩
theorem KC {ds:List Dt} (ho:OkW ds) {t:Ty} {s:Str}:∀a∈(AZ ds t s).1,Qh a=true:=by
 intro a ha;unfold AZ at ha;by_cases h:0<=(BN ds t s).2
 ·obtain ⟨d,h1,h2⟩:=R7 h;simp only [h,decide_true,if_true] at ha;exact ho.srt d h1 _ h2 a (by simpa using ha)
 ·simp [h] at ha
theorem Vg {ds:List Dt} {N:Nat} {t:Ty} (h:AI ds t=true) (hs:Qh t=true):GV ds N (Ay t)=true:=AR.2 ⟨⟨h,by simp [Ay,Mi.ks],by simp [Ay,Mi.nt]⟩,⟨rfl,hs⟩,λk hk=>by simp [Ay,Mi.ks] at hk⟩
theorem JI {ds:List Dt} (ho:OkW ds) {N:Nat} {m:Mi} {h:Ty} (hm:AI ds m.ty=true) (hs:Qh m.ty=true) (hp:B4 h=[]):GV ds N (AY ds m h)=true:=by
 have ha:=C4 ho.okd (t:=m.ty) (s:=C5 h);refine AR.2 ⟨⟨hm,by simpa [AY,Mi.ks] using ES ho m.ty (C5 h),by simp [AY,Mi.nt]⟩,⟨hp,hs⟩,λk hk=>?_⟩;simp only [AY,Mi.ks,List.mem_map] at hk;obtain ⟨t,ht,rfl⟩:=hk;rw [D4,List.all_eq_true] at ha;exact Vg (ha t ht) (KC ho t ht)
theorem Bs {ds:List Dt} {t h:Ty} (hh:h∈A6 ds t):B4 h=[]/\AK h≠0:=by
 obtain ⟨so,n,x,ps⟩:=t;simp only [A6] at hh
 split at hh
 ·rcases List.mem_cons.1 hh with rfl | hh
  ·exact ⟨rfl,by simp [AK]⟩
  ·rw [List.mem_singleton.1 hh];exact ⟨rfl,by simp [AK]⟩
 ·split at hh
  ·rw [List.mem_singleton.1 hh];exact ⟨rfl,by simp [AK]⟩
  ·split at hh
   ·split at hh
    ·obtain ⟨c,_,rfl⟩:=List.mem_map.1 hh;exact ⟨rfl,by simp [AK]⟩
    ·cases hh
   ·cases hh
theorem DG {ds:List Dt} {m:Mi} {h:Ty} (hh:HW ds m=[h]):h∈A6 ds m.ty/\Bj m.nt h=false:=by
 have:h∈HW ds m:=by rw [hh];simp
 simp only [HW,List.mem_filter] at this;simpa using this
theorem Cy {ds:List Dt} (ho:OkW ds) {N:Nat} {m:Mi} (hm:GV ds N m=true):GV ds N (Ac ds m)=true:=by
 unfold Ac
 split
 ·exact hm
 ·split
  ·rename_i h hh;exact JI ho (AR.1 hm).1.1 (AR.1 hm).2.1.2 (Bs (DG hh).1).1
  ·exact hm
theorem D6 (ds:List Dt) (m:Mi):(Ac ds m).ty=m.ty:=by
 unfold Ac
 split
 ·rfl
 ·split <;> rfl
theorem Xq {ds:List Dt} {N:Nat} {m k:Mi} {i:Nat} (hm:GV ds N m=true) (hk:m.ks[i]?=some k):GV ds N k=true:=(AR.1 hm).2.2 k (List.mem_of_getElem? hk)
def In (ds:List Dt):Mi->List Int->Prop
 | _,[]=>True
 | m,i::p=>0<=i/\∃k,(Ac ds m).ks[i.toNat]?=some k/\In ds k p
theorem kP (l:List Mi) (i:Nat) (k:Mi):Fx (l.set i k)=(Fx l).set i (DL k):=by simp [Ie,List.map_set]
theorem Ef (c:Cse) (ho:OkW c.datas) (N:Nat) (hN:N<=1000000) (h:Ty) (is:Bool):∀(path:List Int) (m:Mi),GV c.datas N m=true->In c.datas m path ->
  Al Tryz.prog 101 [.agg (dCse c),.agg (DL m),.sl (AJ path),.agg (G0 h),.bool is] (.agg (DL (A3 c.datas m path h is)))
 | [],m,hm,hp=>by
  have hK:=NJ c m h ho (AR.1 hm).1.1;have hnt:=(AR.1 hm).1.2.2;have e1:A3 c.datas m [] h true=AY c.datas m h:=rfl;have e2:A3 c.datas m [] h false = .mk m.ty (m.nt++[h]) m.hd m.ks:=rfl;generalize AY c.datas m h=K at *;generalize hS:A3 c.datas m [] h is=S at *;obtain ⟨ds,⟨c1,c2,c3,c4⟩,rows⟩:=c;obtain ⟨⟨so,n,x,ps⟩,nt,⟨f,hd2,hd3,hd4⟩,ks⟩:=m;obtain ⟨h1,h2,h3,h4⟩:=h;simp only [Mi.ty,Mi.nt,Mi.hd,Mi.ks] at *;refine Ae Ai Tryz.func101 (by decide +kernel) rfl [1,2,3,4,5,6,7,8] rfl rfl ?_;refine Aj rfl ?_;cases is with
  | true =>
   refine Ab rfl (λh=>?_) (λh=>by simp [AJ] at h);refine Ak rfl ?_;refine Ag rfl hK ?_;obtain ⟨k1,k2,k3,k4⟩:=K;refine Aj rfl ?_;rw [<- hS,e1];exact Aa rfl rfl rfl
  | false =>
   refine Ab rfl (λh=>by simp [AJ] at h) (λh=>?_);refine Ak rfl ?_;refine Ab rfl (λh=>?_) (λh=>by simp [AJ] at h);refine Ak rfl ?_;have hnt:(BQ nt).length<=1000000:=by simp;omega
   have hd:BQ (nt++[.mk h1 h2 h3 h4])=[]++BQ nt++[G0 (.mk h1 h2 h3 h4)]:=by rw [K7];rfl
   have hsz:∀e∈BQ nt,e.length=4:=λe he=>by rw [BQ] at he;obtain ⟨t,_,rfl⟩:=List.mem_map.1 he;simp
   rw [<- hS,e2];clear e1 e2 hS;generalize hl:BQ nt=l at *;refine BE Ai rfl ⟨hsz,by simp [maxLen] at hnt ⊢;omega,by simp at hnt ⊢;omega,trivial⟩ ?_;refine Aj rfl ?_;refine BE Ai rfl ⟨by simp,by simp [maxLen] at hnt ⊢;omega,by simp at hnt ⊢;omega,trivial⟩ ?_;refine mg [] rfl (by simp [hl];rfl) ?_;refine Bw 6 rfl ?_;refine Ak rfl ?_;refine Aa rfl rfl ?_;simp only [DL,hd];rfl
 | i::path,m,hm,hp=>by
  have hm2:=Cy ho hm;obtain ⟨hi0,k,hk,hp2⟩:=hp;have hmw:=AR.1 hm2;have hset:=HJ c m ho (AR.1 hm).1.1;have hR:=Ef c ho N hN h is path k (Xq hm2 hk) hp2;have eS:A3 c.datas m (i::path) h is = .mk (Ac c.datas m).ty (Ac c.datas m).nt (Ac c.datas m).hd ((Ac c.datas m).ks.set i.toNat (A3 c.datas k path h is)):=by simp only [A3,hk]
  rw [eS];clear eS;generalize Ac c.datas m=s at *;generalize A3 c.datas k path h is=R at *;obtain ⟨ds,⟨c1,c2,c3,c4⟩,rows⟩:=c;obtain ⟨⟨so,n,x,ps⟩,nt,⟨f,hd2,hd3,hd4⟩,ks0⟩:=m;obtain ⟨⟨so',n',x',ps'⟩,nt',⟨f',hd2',hd3',hd4'⟩,ks⟩:=s;obtain ⟨h1,h2,h3,h4⟩:=h;simp only [Mi.ty,Mi.nt,Mi.hd,Mi.ks] at *;have hlt:=(List.getElem?_eq_some_iff.1 hk).1;have hks:ks.length<=3:=hmw.1.2.1;refine Ae Ai Tryz.func101 (by decide +kernel) rfl [1,2,3,4,5,6,7,8] rfl rfl ?_;refine Aj rfl ?_;refine Ab rfl (λh=>by simp [AJ] at h;omega) (λh=>?_);clear h;refine Ak rfl ?_;refine Ab rfl (λh=>by simp [AJ] at h;omega) (λh=>?_);clear h;refine Ak rfl ?_;refine Ag rfl hset ?_;refine Aj rfl ?_
  have hlk:(Fx ks).length<=3:=by simpa using hks
  have hkk:(Fx ks)[i.toNat]?=some (DL k):=Rz hk;have hsz:∀e∈Fx ks,e.length=10:=λe he=>by rw [Ie] at he;obtain ⟨t,_,rfl⟩:=List.mem_map.1 he;simp
  have hltl:i.toNat<(Fx ks).length:=by simpa using hlt
  have eset:=kP ks i.toNat R;generalize hl:Fx ks=l at *;refine BE Ai rfl ⟨hsz,by simp [maxLen] at hlk ⊢;omega,by simp at hlk ⊢;omega,trivial⟩ ?_;refine mg [] rfl (by simp [hl]) ?_;refine mi rfl (c:=[.int .i64 i]) (λ_=>⟨by simp,by simp [AJ],rfl⟩) (by simp) ?_;refine Aj rfl ?_;refine mi rfl (c:=[.int .i64 i]) (λ_=>⟨by simp,by simp [AJ],rfl⟩) (by simp) ?_;refine Aj rfl ?_;refine Dv Ai rfl (λ_=>⟨hi0,by simpa using by omega⟩) (by simp) ?_;refine Aj rfl ?_;refine Jz Ai (e:=DL k) rfl (λ_=>by simpa using hkk) rfl (by simp) ?_;refine mg [] rfl (by simp;exact ⟨by omega,λc hc=>by simp only [AJ,List.mem_map] at hc;obtain ⟨q,_,rfl⟩:=hc;rfl⟩) ?_;refine Ag rfl hR ?_;refine Aj rfl ?_
  refine Dv Ai rfl (λ_=>⟨hi0,by simpa using by omega⟩) (by simp) ?_;refine Aj rfl ?_;obtain ⟨r1,r2,r3,r4⟩:=R;refine II Ai (e:=DL k) (e':=DL (.mk r1 r2 r3 r4)) rfl (by simpa using hkk) (by show 0+10<=10;decide) (by simp [List.drop_eq_nil_of_le]) (by simp) ?_;refine mg [] rfl (by simp;rfl) ?_;refine Bw 5 rfl ?_;refine Ak rfl ?_;refine Aa rfl rfl ?_;simp only [DL,eset];rfl
mutual
def Y6 (ds:List Dt):Ty->Mi->Bool
 | .mk f n x ps,m=>decide (f=1)||decide (f=2)||decide (AK (Ac ds m).hd=0) || !AB (Ac ds m).hd (AO (.mk f n x ps))||(decide (ps.length<=(Ac ds m).ks.length)&&Lr ds ps (Ac ds m).ks)
def Lr (ds:List Dt):List Ty->List Mi->Bool
 | [],_=>true
 | _::_,[]=>true
 | p::r,k::s=>Y6 ds p k&&Lr ds r s
end
mutual
theorem Fo (ds:List Dt):∀(p:Ty) (m:Mi),(Ar ds p m).2.1.length<=Aq p
 | .mk f n x ps,m=>by
  simp only [Ar,Aq];have:=Tu ds ps (Ac ds m).ks 0
  split
  ·simp
  ·split
   ·simp
   ·split
    ·simp
    ·omega
theorem Tu (ds:List Dt):∀(ps:List Ty) (ks:List Mi) (i:Int),(AP ds i ps ks).2.1.length<=1+Am ps
 | [],_,_=>by simp [AP]
 | _::_,[],_=>by simp [AP]
 | p::r,k::ks,i=>by
  have h1:=Fo ds p k;have h2:=Tu ds r ks (i+1);have h3:1<=Aq p:=by obtain ⟨a,b,c,d⟩:=p;simp only [Aq];omega
  simp only [AP,Am]
  split
  ·omega
  ·simp only [List.length_cons];omega
end
theorem QK {ds:List Dt} {ps:List Ty} {ks:List Mi} {i:Nat} {p:Ty} {k:Mi} (hp:ps[i]?=some p) (hk:ks[i]?=some k) :
  AP ds i (ps.drop i) (ks.drop i)=if (Ar ds p k).1=1 then AP ds ((i+1:Nat):Int) (ps.drop (i+1)) (ks.drop (i+1)) else ((Ar ds p k).1,(i:Int)::(Ar ds p k).2.1,(Ar ds p k).2.2):=by
 rw [Av hp,Av hk];rfl
theorem Y5 {ds:List Dt} {ps:List Ty} {ks:List Mi} {i:Nat} {p:Ty} {k:Mi} (hp:ps[i]?=some p) (hk:ks[i]?=some k):Lr ds (ps.drop i) (ks.drop i)=(Y6 ds p k&&Lr ds (ps.drop (i+1)) (ks.drop (i+1))):=by
 rw [Av hp,Av hk];rfl
def oU (r:Int×List Int×Ty):V:=.tup [.int .i64 r.1,.sl (AJ r.2.1),.agg (G0 r.2.2)]
theorem QM (c:Cse) (ho:OkW c.datas) (N:Nat):∀(p:Ty) (m:Mi),Aq p<=1000000->GV c.datas N m=true->Y6 c.datas p m=true ->
  Al Tryz.prog 100 [.agg (dCse c),.agg (Ao p),.agg (DL m)] (oU (Ar c.datas p m))
 | .mk f n x ps,m,hN,hm,hf=>by
  have hm2:=Cy ho hm;have hmw:=AR.1 hm2;have hset:=HJ c m ho (AR.1 hm).1.1;have hH:=jS (.mk f n x ps);have hA:=Kw (Ac c.datas m).nt (AO (.mk f n x ps));have hE:=X2 (Ac c.datas m).hd (AO (.mk f n x ps));simp only [Aq] at hN;have e0:f=1\/f=2->Ar c.datas (.mk f n x ps) m=(1,[],zT):=λh=>by simp only [Ar,if_pos h]
  have e1:¬(f=1\/f=2)->AK (Ac c.datas m).hd=0->Bj (Ac c.datas m).nt (AO (.mk f n x ps))=false->Ar c.datas (.mk f n x ps) m=(2,[],AO (.mk f n x ps)):=λh1 h2 h3=>by simp only [Ar,if_neg h1,if_pos (And.intro h2 h3)]
  have e2:¬(f=1\/f=2)->AK (Ac c.datas m).hd=0->Bj (Ac c.datas m).nt (AO (.mk f n x ps))=true->Ar c.datas (.mk f n x ps) m=(0,[],zT):=λh1 h2 h3=>by
   simp only [Ar,if_neg h1];rw [if_neg (by rw [h3];simp),if_pos (Or.inl h2)]
  have e3:¬(f=1\/f=2)->AK (Ac c.datas m).hd≠0->AB (Ac c.datas m).hd (AO (.mk f n x ps))=false->Ar c.datas (.mk f n x ps) m=(0,[],zT):=λh1 h2 h3=>by
   simp only [Ar,if_neg h1];rw [if_neg (λh=>h2 h.1),if_pos (Or.inr h3)]
  have e4:¬(f=1\/f=2)->AK (Ac c.datas m).hd≠0->AB (Ac c.datas m).hd (AO (.mk f n x ps))=true->Ar c.datas (.mk f n x ps) m=AP c.datas 0 ps (Ac c.datas m).ks:=λh1 h2 h3=>by
   simp only [Ar,if_neg h1];rw [if_neg (λh=>h2 h.1),if_neg (λh=>by rcases h with h | h;exact h2 h;rw [h3] at h;cases h)]
  have hf2:¬(f=1\/f=2)->AK (Ac c.datas m).hd≠0->AB (Ac c.datas m).hd (AO (.mk f n x ps))=true->ps.length<=(Ac c.datas m).ks.length/\Lr c.datas ps (Ac c.datas m).ks=true:=λh1 h2 h3=>by
   have a1:f≠1:=λh=>h1 (.inl h);have a2:f≠2:=λh=>h1 (.inr h);simpa [Y6,a1,a2,h2,h3] using hf
  generalize Ar c.datas (.mk f n x ps) m=L at *;generalize AO (.mk f n x ps)=hd at *;generalize Bj (Ac c.datas m).nt hd=hb at *;generalize AB (Ac c.datas m).hd hd=eb at *;generalize Ac c.datas m=s at *;obtain ⟨ds,⟨c1,c2,c3,c4⟩,rows⟩:=c;obtain ⟨⟨so,n0,x0,ps0⟩,nt0,⟨f0,hd2,hd3,hd4⟩,ks0⟩:=m;obtain ⟨⟨so',n',x',ps'⟩,nt',⟨f',hd2',hd3',hd4'⟩,ks⟩:=s;obtain ⟨h1,h2,h3,h4⟩:=hd;simp only [Mi.ty,Mi.nt,Mi.hd,Mi.ks,AK] at *;refine Ae Ai Tryz.func100 (by decide +kernel) rfl [1,2,3,4,5,6,7,8,9] rfl rfl ?_;refine Aj rfl ?_;by_cases h12:f=1\/f=2
  ·refine Ab rfl (λh=>?_) (λh=>by exfalso;revert h;rcases h12 with rfl | rfl <;> simp);refine Ak rfl ?_;rw [e0 h12];exact Aa rfl rfl rfl
  have e1:=e1 h12;have e2:=e2 h12;have e3:=e3 h12;have e4:=e4 h12;have hf2:=hf2 h12;refine Ab rfl (λh=>by exfalso;apply h12;simpa using h) (λh=>?_);clear h e0;refine Ak rfl ?_;refine Ag rfl hset ?_;refine Aj rfl ?_;refine Ag rfl hH ?_;refine Aj rfl ?_;by_cases h0:f'=0
  ·subst h0;refine AE rfl hA ?_;refine Du rfl ?_;cases hb with
   | false =>
    refine Ah rfl λh=>?_;refine md [] rfl (by simp;rfl) ?_;rw [e1 rfl rfl];exact Aa rfl rfl rfl
   | true =>
    refine At rfl λh=>?_;refine Ak rfl ?_;refine Af (v:=.bool true) rfl (λh=>by simp [Ap] at h) (by simp [Ap]) ?_;refine Du rfl ?_;refine Ah rfl λh=>?_;refine Ak rfl ?_;rw [e2 rfl rfl];exact Aa rfl rfl rfl
  refine Af (v:=.bool true) rfl (λh=>by simp [Ap,h0] at h) (by simp [Ap]) ?_;refine Du rfl ?_;refine Ab rfl (λh=>by simp [h0] at h) (λh=>?_);clear h;refine Ak rfl ?_;refine AE rfl hE ?_;refine Du rfl ?_;cases eb with
  | false =>
   refine Ah rfl λh=>?_;refine Ak rfl ?_;rw [e3 h0 rfl];exact Aa rfl rfl rfl
  | true =>
  refine Ab rfl (λh=>by simp [h0] at h) (λh=>?_);clear h;obtain ⟨hl,hft⟩:=hf2 h0 rfl;rw [e4 h0 rfl];clear e1 e2 e3 e4 hf2;refine Ak rfl ?_;refine An (λi:Nat=>[(10,.imm (.int .i64 i)),(8,.ref 4 0),(5,.ref 3 0),(4,.ref 2 0),(3,.ref 1 0)])
   (λi=>[(1,some (.immb 29 6 (dCse ⟨ds,.mk c1 c2 c3 c4,rows⟩))),(2,some (.immb 69 4 (Ao (.mk f n x ps)))),(3,some (.immb 108 10 (DL (.mk (.mk so' n' x' ps') nt' (.mk f' hd2' hd3' hd4') ks)))),
    (4,some (.cells 46 4 [.imm (.int .i64 0),.imm (.int .i64 0),.imm (.str []),.nils]))]) [6,7,8,9] (λi=>ps.length-i)
   (λi=>i<=ps.length/\Lr ds (ps.drop i) (ks.drop i)=true/\AP ds 0 ps ks=AP ds i (ps.drop i) (ks.drop i)) 0 ⟨Nat.zero_le _,hft,rfl⟩ ⟨rfl,rfl,rfl,rfl,rfl,trivial⟩ ⟨rfl,rfl,rfl,rfl,trivial⟩ rfl λi hi ih=>?_
  obtain ⟨hi1,hi2,hi3⟩:=hi;refine Ak rfl ?_;refine Ab rfl (λh=>?_) (λh=>?_)
  ·simp at h;obtain ⟨p,hp⟩:=As h;obtain ⟨k,hk⟩:=As (l:=ks) (i:=i) (by omega);rw [Y5 hp hk,Bool.and_eq_true] at hi2;rw [QK hp hk] at hi3;have hnt:=BR hp;have hll:=Fo ds p k;have hL:=QM ⟨ds,.mk c1 c2 c3 c4,rows⟩ ho N p k (by omega) (Xq (i:=i) hm2 hk) hi2.1;simp only at hL;generalize Ar ds p k=r at *;obtain ⟨r1,r2,r3⟩:=r;simp only at hi3 hll hL;refine Ak rfl ?_;refine mi rfl (c:=Ao p) (λ_=>⟨by simp,by simpa using A4 hp,by simp⟩) (by simp) ?_;refine Aj rfl ?_;refine mi rfl (c:=DL k) (λ_=>⟨by simp,by simpa using Rz hk,by simp⟩) (by simp) ?_;refine Aj rfl ?_;refine Ag rfl hL ?_;refine mg [] rfl (by simp;rfl) ?_;by_cases h1:r1=1
   ·subst h1;refine At rfl λh=>?_;refine Ak rfl ?_;rw [if_pos rfl] at hi3;exact Ad (ih (i+1) (by omega) ⟨by omega,hi2.2,hi3⟩) ⟨A0 (B2 (by omega) (by omega)),rfl,rfl,rfl,rfl,trivial⟩ ⟨rfl,rfl,rfl,rfl,trivial⟩ rfl
   ·refine Ab rfl (λh=>?_) (λh=>absurd (by simpa using h) h1);rw [if_neg h1] at hi3;refine pK 4 rfl (by simp) ?_;have hrl:(AJ r2).length<=1000000:=by simp;omega
    have hrs:∀c∈AJ r2,c.length=1:=λc hc=>by simp only [AJ,List.mem_map] at hc;obtain ⟨q,_,rfl⟩:=hc;rfl
    have er:AJ (i::r2)=[[.int .i64 i]]++AJ r2:=rfl;rw [hi3];simp only [oU,er];generalize AJ r2=l at *;refine Y1 Ai 7 rfl (by simp) ?_;refine Aj rfl ?_;refine BE Ai rfl ⟨hrs,by simp [maxLen] at hrl ⊢;omega,by simp at hrl ⊢;omega,trivial⟩ ?_;refine mg [] rfl (by simp;rfl) ?_;refine Bw 8 rfl ?_;exact Aa rfl rfl rfl
  ·simp at h;refine Aw rfl ?_;refine Ak rfl ?_;rw [hi3,List.drop_eq_nil_of_le (by omega)];simp only [AP];exact Aa rfl rfl rfl
termination_by p=>SizeOf.sizeOf p
decreasing_by
 have:=List.sizeOf_lt_of_mem (List.mem_of_getElem? hp);simp_wf;omega
theorem SD (c:Cse) (s:List Int) (hs:GS c.datas s) (h4:c.datas.length<=4) (args:List Ty) (hn:Bn c.datas args=true) (ha:args.length<=3) :
  Al Tryz.prog 209 [.agg (dCse c),.sl (AJ s),.sl (Bx args)] (.int .i64 (AM c.datas s 1 args)):=by
 have hP:=λx=>JY c.datas x;obtain ⟨ds,⟨c1,c2,c3,c4⟩,rows⟩:=c;simp only at hs h4 hn hP ⊢;have hpw:((4 ^ N8 s:Nat):Int)<=256:=by have:=bR (n:=N8 s) (by have:=Kg s;rw [hs.len] at this;omega);omega
 refine Ae Ai Tryz.func209 (by decide +kernel) rfl [1,2,3,4] rfl rfl ?_;refine Aj rfl ?_;refine An (λy:Nat×Int=>[(8,.imm (.int .i64 y.1)),(7,.imm (.int .i64 y.2)),(3,.ref 1 0),(2,.imm (.sl (Bx args))),(1,.imm (.sl (AJ s)))]) (λ_=>[(1,some (.immb 29 6 (dCse ⟨ds,.mk c1 c2 c3 c4,rows⟩)))]) [2,3,4] (λy=>args.length-y.1)
  (λy=>y.1<=args.length/\AM ds s 1 args=AM ds s y.2 (args.drop y.1)/\0<=y.2/\y.2<=1+256*y.1) (0,1) ⟨Nat.zero_le _,rfl,by simp only;omega,by simp only;omega⟩ ⟨rfl,rfl,rfl,rfl,rfl,trivial⟩ ⟨rfl,trivial⟩ rfl λy hi ih=>?_
 obtain ⟨i,m⟩:=y;obtain ⟨hi1,hi2,hi3,hi4⟩:=hi;simp only at hi1 hi2 hi3 hi4;refine Ak rfl ?_;refine Ab rfl (λh=>?_) (λh=>?_)
 ·simp at h;obtain ⟨t,ht⟩:=As h;have hnt:=D3 hn ht;have hb:=Hr hs t;rw [Av ht] at hi2;simp only [AM] at hi2;refine Ak rfl ?_;refine mi rfl (c:=Ao t) (λ_=>⟨by simp,by simpa using A4 ht,by simp⟩) (by simp) ?_;obtain ⟨so,n,x,ps⟩:=t;refine Aj rfl ?_;by_cases h8:so=8
  ·subst h8;have hp:=(Cr hnt 8 n x ps rfl rfl).1;have hd:K1 ds x=Ba x 0 ds:=by simp [K1,hp]
   obtain ⟨k,d,k1,k2,k3⟩:=Ho x ds 0 hp;have hk:k<s.length:=by rw [hs.len];exact (List.getElem?_eq_some_iff.1 k2).1
   have ho:EH ds s (.mk 8 n x ps)=s.getD k 0:=by simp [EH,hd,k1]
   rw [ho] at hi2 hb;refine Ah rfl λh=>?_;refine Ak rfl ?_;refine mi rfl (c:=Ao (.mk 8 n x ps)) (λ_=>⟨by simp,by simpa using A4 ht,by simp⟩) (by simp) ?_;refine Aj rfl ?_;refine Af rfl (λ_=>hP x) (by simp) ?_;refine Aj rfl ?_;refine mi rfl (c:=[.int .i64 (s.getD k 0)]) (λ_=>⟨hp,by rw [k1];simpa using Gm hk,rfl⟩) (by simp) ?_;refine mg [] rfl (by simp;rfl) ?_;refine Ab rfl (λh=>?_) (λh=>?_)
   ·refine Ak rfl ?_;rw [if_pos (by simpa using h)] at hi2;rw [hi2];exact Aa rfl rfl rfl
   ·refine Ak rfl ?_;rw [if_neg (by simpa using h)] at hi2;exact Ad (ih (i+1,m+s.getD k 0) (by simp only;omega) ⟨by simp only;omega,hi2,by simp only;omega,by simp only;omega⟩) ⟨A0 (B2 (by simp only;omega) (by simp only;omega)),A0 (B2 (by omega) (by omega)),rfl,rfl,rfl,trivial⟩ ⟨rfl,trivial⟩ rfl
  ·have ho:EH ds s (.mk so n x ps)=1:=by simp [EH,h8]
   rw [ho] at hi2;refine Ab rfl (λh=>absurd (by simpa using h) h8) (λh=>?_);refine Ak rfl ?_;refine At rfl λh=>?_;refine Ak rfl ?_;rw [if_neg (by omega)] at hi2;exact Ad (ih (i+1,m+1) (by simp only;omega) ⟨by simp only;omega,hi2,by simp only;omega,by simp only;omega⟩) ⟨A0 (B2 (by simp only;omega) (by simp only;omega)),A0 (B2 (by omega) (by omega)),rfl,rfl,rfl,trivial⟩ ⟨rfl,trivial⟩ rfl
 ·simp at h;refine Aw rfl ?_;refine Ak rfl ?_;rw [hi2,List.drop_eq_nil_of_le (by omega)];exact Aa rfl rfl rfl
theorem aU (c:Cse) (ho:OkW c.datas):Al Tryz.prog 208 [.agg (dCse c)] (.sl (AJ (Do c.datas))):=by
 obtain ⟨ds,⟨c1,c2,c3,c4⟩,rows⟩:=c;have hT:=λs hs args hn ha=>SD ⟨ds,.mk c1 c2 c3 c4,rows⟩ s hs ho.d4 args hn ha;have h4:=ho.d4;have hl2:=ho.lim;have hN:=ho.okd.named;simp only at h4 hl2 hN hT ⊢;have hl3:∀d∈ds,∀c∈d.cons,c.args.length<=3:=λd hd=>(hl2 d hd).2;have hnm:∀d∈ds,∀c∈d.cons,Bn ds c.args=true:=by simpa [BZ] using hN
 refine Ae Ai Tryz.func208 (by decide +kernel) rfl [1,2,3] rfl rfl ?_;refine Aj rfl ?_;refine NP Ai rfl rfl (by simp) (by simp;omega) (by simp [maxLen];omega) rfl ?_;have er:(List.replicate ((ds.map Cv).length:Int).toNat [V.int .i64 0])=AJ (List.replicate ds.length 0):=by rw [<- KL];simp
 simp only [B9];rw [er,rowI_length,List.length_replicate];refine Aj rfl ?_;refine An (λy:Nat×List Int×Bool=>[(4,.imm (.bool y.2.2)),(3,.own 2 ds.length),(1,.ref 1 0)])
  (λy=>[(1,some (.immb 29 6 (dCse ⟨ds,.mk c1 c2 c3 c4,rows⟩))),(2,some (.row 3 1 (AJ y.2.1)))]) [3] (λy=>if y.2.2 then y.1+1 else 0)
  (λy=>GS ds y.2.1/\if y.2.2 then Do ds=Ko ds y.1 y.2.1/\JD y.2.1<y.1 else Do ds=y.2.1) (2000,List.replicate ds.length 0,true)
  ⟨KI ds,by simp only [if_true];exact ⟨rfl,by have:=U3 (List.replicate ds.length 0) (λx hx=>by rw [List.eq_of_mem_replicate hx];omega);simp at this;omega⟩⟩ ⟨rfl,rfl,rfl,trivial⟩ ⟨rfl,rfl,trivial⟩ rfl λy hi ih=>?_
 obtain ⟨f,s,ch⟩:=y;obtain ⟨hs,hi⟩:=hi;simp only at hs hi;refine Ak rfl ?_;cases ch with
 | false =>
  simp only [Bool.false_eq_true,if_false] at hi;refine At rfl λh=>?_;refine Aw rfl ?_;refine Bw 2 rfl ?_;refine Ak rfl ?_;rw [hi];exact Aa rfl rfl rfl
 | true =>
 simp only [if_true] at hi;refine Ah rfl λh=>?_;clear h;obtain ⟨hi1,hi2⟩:=hi;obtain ⟨f,rfl⟩:∃g,f=g+1:=⟨f-1,by omega⟩
 refine Ak rfl ?_;refine An (λy:Nat×List Int×Bool=>[(5,.imm (.int .i64 y.1)),(4,.imm (.bool y.2.2)),(3,.own 2 ds.length),(1,.ref 1 0)])
  (λy=>[(1,some (.immb 29 6 (dCse ⟨ds,.mk c1 c2 c3 c4,rows⟩))),(2,some (.row 3 1 (AJ y.2.1)))]) [3] (λy=>ds.length-y.1)
  (λy=>y.1<=ds.length/\CG ds (s,false) 0 ds=CG ds y.2 y.1 (ds.drop y.1)/\GS ds y.2.1/\JD y.2.1<=JD s/\(y.2.2=true->JD y.2.1<JD s)) (0,s,false)
  ⟨Nat.zero_le _,rfl,hs,Nat.le_refl _,λh=>by cases h⟩ ⟨rfl,rfl,rfl,rfl,trivial⟩ ⟨rfl,rfl,trivial⟩ rfl λy hy jh=>?_
 obtain ⟨i,p⟩:=y;obtain ⟨hy1,hy2,hy3,hy4,hy5⟩:=hy;simp only at hy1 hy2 hy3 hy4 hy5;refine Ak rfl ?_;refine Ab rfl (λh=>?_) (λh=>?_)
 ·simp at h;have hil:=h;obtain ⟨d,hd⟩:=As h;have hdm:=List.mem_of_getElem? hd;rw [Av hd] at hy2;simp only [CG] at hy2;have hd5:=(hl2 _ hdm).1;have hd3:=hl3 _ hdm;have hdn:=hnm _ hdm;have hdg:(ds.map Cv)[(i:Int).toNat]?=some (Cv d):=by simpa using Be hd
  obtain ⟨dn,dc⟩:=d;simp only at hy2 hd5 hd3 hdn;refine Ak rfl ?_;refine An (λy:Nat×List Int×Bool=>[(6,.imm (.int .i64 y.1)),(5,.imm (.int .i64 i)),(4,.imm (.bool y.2.2)),(3,.own 2 ds.length),(1,.ref 1 0)])
   (λy=>[(1,some (.immb 29 6 (dCse ⟨ds,.mk c1 c2 c3 c4,rows⟩))),(2,some (.row 3 1 (AJ y.2.1)))]) [3] (λy=>dc.length-y.1)
   (λy=>y.1<=dc.length/\Is ds i p dc=Is ds i y.2 (dc.drop y.1)/\GS ds y.2.1/\JD y.2.1<=JD s/\(y.2.2=true->JD y.2.1<JD s)) (0,p)
   ⟨Nat.zero_le _,rfl,hy3,hy4,hy5⟩ ⟨rfl,rfl,rfl,rfl,rfl,trivial⟩ ⟨rfl,rfl,trivial⟩ rfl λy hk kh=>?_
  obtain ⟨k,q⟩:=y;obtain ⟨hk1,hk2,hk3,hk4,hk5⟩:=hk;simp only at hk1 hk2 hk3 hk4 hk5;refine Ak rfl ?_;refine mi rfl (c:=Cv ⟨dn,dc⟩) (λ_=>⟨by simp,hdg,by simp⟩) (by simp) ?_;refine Aj rfl ?_;refine Ab rfl (λh=>?_) (λh=>?_)
  ·simp at h;obtain ⟨c,hc⟩:=As h;have hcm:=List.mem_of_getElem? hc;rw [Av hc] at hk2;simp only [Is] at hk2;have hcg:(dc.map CM)[(k:Int).toNat]?=some (CM c):=by simpa using Be hc
   obtain ⟨cn,ca⟩:=c;have hca3:=hd3 _ hcm;have hcan:=hdn _ hcm;simp only at hca3 hcan hk2;refine Ak rfl ?_;refine mi rfl (c:=Cv ⟨dn,dc⟩) (λ_=>⟨by simp,hdg,by simp⟩) (by simp) ?_;refine Aj rfl ?_;refine mi rfl (c:=CM ⟨cn,ca⟩) (λ_=>⟨by simp,hcg,by simp⟩) (by simp) ?_;have hstep:=Mn (p:=q) h4 hil hca3 hk3;have hlen:q.1.length=ds.length:=hk3.len;obtain ⟨qs,qb⟩:=q;simp only at hk3 hk4 hk5 hlen hstep;refine Aj rfl ?_;refine Ia rfl (v:=.int .i64 (AM ds qs 1 ca)) (λ_=>hT qs hk3 ca hcan hca3) rfl (by simp) ?_;have hst:HH ds i (qs,qb) ca=if 0<AM ds qs 1 ca/\(qs.getD i 0=0\/AM ds qs 1 ca<qs.getD i 0) then (qs.set i (AM ds qs 1 ca),true) else (qs,qb):=rfl
   generalize AM ds qs 1 ca=z at *;refine mg [] rfl (by simp;rfl) ?_;refine Dv Ai rfl (λ_=>⟨by simp,by simp;omega⟩) (by simp [Ap]) ?_;refine Du rfl ?_;refine Jz (e:=[.int .i64 (qs.getD i 0)]) Ai rfl (λ_=>by simpa using Gm (s:=qs) (i:=i) (by omega)) rfl (by simp [Ap]) ?_;refine mg [] rfl (by simp [Ap];try exact λa b=>⟨a,b⟩) ?_;refine Dv Ai rfl (λ_=>⟨by simp,by simp;omega⟩) (by simp [Ap]) ?_;refine Du rfl ?_;refine Jz (e:=[.int .i64 (qs.getD i 0)]) Ai rfl (λ_=>by simpa using Gm (s:=qs) (i:=i) (by omega)) rfl (by simp [Ap]) ?_;refine mg [] rfl (by simp [Ap];try exact λa b=>⟨a,b⟩) ?_;by_cases hz:0<z/\(qs.getD i 0=0\/z<qs.getD i 0)
   ·rw [if_pos hz] at hst;rw [hst] at hk2 hstep;have hstep3:=hstep.2.2 rfl;refine Ab rfl (λh=>?_) (λh=>by exfalso;simp at h;grind);refine Ak rfl ?_;refine Dv Ai rfl (λ_=>⟨by simp,by simp;omega⟩) (by simp) ?_;refine Aj rfl ?_;refine II Ai (e:=[.int .i64 (qs.getD i 0)]) (e':=[.int .i64 z]) rfl (by simpa using Gm (s:=qs) (i:=i) (by omega)) (by show 0+1<=1;decide) (by simp) (by simp) ?_;refine Aj rfl ?_;refine Ad (kh (k+1,qs.set i z,true) (by simp only;omega) ⟨by simp only;omega,hk2,hstep.1,by have:=hstep.2.1;simp only at this ⊢;omega,λ_=>?_⟩) ⟨A0 (B2 (by omega) (by omega)),rfl,rfl,rfl,rfl,trivial⟩ ⟨rfl,by rw [<- Qr];rfl,trivial⟩ rfl;rcases hstep3 with h | h
    ·have:=hk5 h;have:=hstep.2.1;simp only at this ⊢;omega
    ·simp only at h ⊢;omega
   ·rw [if_neg hz] at hst;rw [hst] at hk2;refine Ab rfl (λh=>by exfalso;simp at h;grind) (λh=>?_);refine Ak rfl ?_;exact Ad (kh (k+1,qs,qb) (by simp only;omega) ⟨by simp only;omega,hk2,hk3,hk4,hk5⟩) ⟨A0 (B2 (by omega) (by omega)),rfl,rfl,rfl,rfl,trivial⟩ ⟨rfl,rfl,trivial⟩ rfl
  ·simp at h;refine Aw rfl ?_;refine Ak rfl ?_;rw [List.drop_eq_nil_of_le (by omega)] at hk2;simp only [Is] at hk2;rw [hk2] at hy2;exact Ad (jh (i+1,q) (by simp only;omega) ⟨by simp only;omega,hy2,hk3,hk4,hk5⟩) ⟨A0 (B2 (by omega) (by omega)),rfl,rfl,rfl,trivial⟩ ⟨rfl,rfl,trivial⟩ rfl
 ·simp at h;refine Aw rfl ?_;refine Ak rfl ?_;rw [List.drop_eq_nil_of_le (by omega)] at hy2;simp only [CG] at hy2;simp only [Ko,hy2] at hi1;obtain ⟨ps,pb⟩:=p;cases pb with
  | true =>
   have:=hy5 rfl;exact Ad (ih (f,ps,true) (by simp) ⟨hy3,by simp only [if_true];exact ⟨by simpa using hi1,by simp only at this;omega⟩⟩) ⟨rfl,rfl,rfl,trivial⟩ ⟨rfl,rfl,trivial⟩ rfl
  | false =>
   exact Ad (ih (f,ps,false) (by simp) ⟨hy3,by simpa using hi1⟩) ⟨rfl,rfl,rfl,trivial⟩ ⟨rfl,rfl,trivial⟩ rfl
theorem iJ:∀(n:Nat) (l:List Int),(∀i:Nat,i<n->(i:Int)∈l)->n<=l.length
 | 0,_,_=>Nat.zero_le _
 | n+1,l,h=>by
  have hm:=h n (by omega);have h1:=iJ n (l.erase (n:Int)) λi hi=>(List.mem_erase_of_ne (by omega)).2 (h i (by omega));have h2:=List.length_erase_of_mem hm;have h3:=List.length_pos_of_mem hm;omega
def nT:Ty->Int
 | .mk _ n _ _=>n
theorem mX {nt:List Ty} {i:Int} (h:Bj nt (.mk 1 i [] [])=true):i∈nt.map nT:=by
 simp only [Bj,List.any_eq_true] at h;obtain ⟨⟨a,b,c,d⟩,h1,h2⟩:=h;simp only [AB,Bool.and_eq_true,beq_iff_eq] at h2;exact List.mem_map.2 ⟨_,h1,by simp only [nT];exact h2.1.2⟩
theorem Jm {nt:List Ty} {i:Nat} (h:∀j:Nat,j<i->Bj nt (.mk 1 j [] [])=true):i<=nt.length:=by
 have:=iJ i (nt.map nT) λj hj=>mX (h j hj);simpa using this
theorem N9 {nt:List Ty} {i:Nat} (hi:i<=nt.length) (h:∀j:Nat,j<i->Bj nt (.mk 1 j [] [])=true):JC nt (nt.length-i) i =
  if Bj nt (.mk 1 i [] [])=false then .mk 1 i [] [] else if Bj nt (.mk 1 (0-i) [] [])=false then .mk 1 (0-i) [] [] else JC nt (nt.length-(i+1)) ((i+1:Nat):Int):=by
 by_cases hl:i=nt.length
 ·subst hl;have hf:Bj nt (.mk 1 nt.length [] [])=false:=by
   cases hb:Bj nt (.mk 1 nt.length [] []) with
   | false=>rfl
   | true =>
    have:=Jm (nt:=nt) (i:=nt.length+1) λj hj=>by
     by_cases e:j=nt.length
     ·rw [e];exact hb
     ·exact h j (by omega)
    omega
  rw [Nat.sub_self,if_pos hf];rfl
 ·obtain ⟨k,hk⟩:∃k,nt.length-i=k+1:=⟨nt.length-i-1,by omega⟩
  rw [hk,show nt.length-(i+1)=k by omega];rfl
theorem VR (nt:List Ty) (hl:nt.length<=1000000):Al Tryz.prog 198 [.sl (BQ nt)] (.agg (Ao (CE nt))):=by
 have hA:=λh=>Rg nt h;refine Ae Ai Tryz.func198 (by decide +kernel) rfl [1,2,3] rfl rfl ?_;refine Aj rfl ?_;refine An (λi:Nat=>[(3,.imm (.int .i64 i)),(2,.ref 1 0),(0,.imm (.sl (BQ nt)))]) (λ_=>[(1,some (.cells 46 4 [.imm (.int .i64 0),.imm (.int .i64 0),.imm (.str []),.nils]))]) [2,3] (λi=>nt.length+1-i)
  (λi=>i<=nt.length/\CE nt=JC nt (nt.length-i) i/\∀j:Nat,j<i->Bj nt (.mk 1 j [] [])=true) 0 ⟨Nat.zero_le _,rfl,λj h=>by omega⟩ ⟨rfl,rfl,rfl,trivial⟩ ⟨rfl,trivial⟩ rfl λi hi ih=>?_
 obtain ⟨hi1,hi2,hi3⟩:=hi;rw [N9 hi1 hi3] at hi2;have h1:=hA (.mk 1 i [] []);have h2:=hA (.mk 1 (0-i) [] []);have hih:Bj nt (.mk 1 i [] [])=true->Bj nt (.mk 1 (0-i) [] [])=true->_:=λe1 e2=>ih (i+1) (by omega) ⟨Jm (i:=i+1) (λj hj=>by
   by_cases e:j=i
   ·rw [e];exact e1
   ·exact hi3 j (by omega)),by rw [hi2,e1,e2];simp,λj hj=>by
   by_cases e:j=i
   ·rw [e];exact e1
   ·exact hi3 j (by omega)⟩
 generalize CE nt=R at *;generalize Bj nt (.mk 1 i [] [])=b1 at *;generalize Bj nt (.mk 1 (0-i) [] [])=b2 at *;clear ih hi3;refine Ak rfl ?_;refine Ag rfl h1 ?_;refine Aj rfl ?_;cases b1 with
 | false =>
  refine Ah rfl λh=>?_;refine Ak rfl ?_;rw [hi2];exact Aa rfl rfl rfl
 | true =>
 refine At rfl λh=>?_;have hw:IntKind.i64.wrap (0-(i:Int))=0-i:=B2 (by omega) (by omega);refine Ak rfl ?_;refine Af rfl (v:=.bool b2) (λ_=>by rw [hw];exact h2) (by simp) ?_;refine Aj rfl ?_;cases b2 with
 | false =>
  refine Ah rfl λh=>?_;refine Ak rfl ?_;rw [hi2];refine Aa rfl rfl ?_;rw [hw];rfl
 | true =>
  refine At rfl λh=>?_;refine Ak rfl ?_;exact Ad (hih rfl rfl) ⟨A0 (B2 (by omega) (by omega)),rfl,rfl,trivial⟩ ⟨rfl,trivial⟩ rfl
def Cj:Option Ty->List V
 | none=>.bool false::Ao zT
 | some v=>.bool true::Ao v
@[simp] theorem someR_length (r:Option Ty):(Cj r).length=5:=by cases r <;> simp [Cj]
theorem ZM {s:Str}:∀{l:List Cd} {i k:Nat} {c:Cd},l[k]?=some c->c.name=s->(∀j d,j<k->l[j]?=some d->d.name≠s)->Di s i l=(c,((i+k:Nat):Int))
 | [],_,k,c,h,_,_=>by simp at h
 | d::r,i,0,c,h,hs,_=>by
  simp at h;subst h;simp [Di,hs]
 | d::r,i,k+1,c,h,hs,hn=>by
  have:=hn 0 d (by omega) rfl;rw [Di,if_neg this,ZM (k:=k) (by simpa using h) hs λj d' hj hd=>hn (j+1) d' (by omega) (by simpa using hd)];congr 2;omega
theorem YK {ds:List Dt} (h:B3 (Cn ds)=true) {d:Dt} (hd:d∈ds):(d.cons.map Cd.name).Nodup:=by
 have hn:=OU.1 h;obtain ⟨a,b,rfl⟩:=List.append_of_mem hd;simp only [Cn,List.flatMap_append,List.flatMap_cons] at hn;exact (List.nodup_append.1 (List.nodup_append.1 hn).2.1).1
theorem UO {ds:List Dt} (ho:OkW ds) {n:Int} {x:Str} {ps:List Ty} {d:Dt} (hd:ds[(Ba x 0 ds).toNat]?=some d) {k:Nat} {c:Cd} (hc:d.cons[k]?=some c):BN ds (.mk 8 n x ps) c.name=(c,(k:Int)):=by
 have hn:=YK ho.dif (List.mem_of_getElem? hd);simp only [BN,if_true,hd];rw [ZM hc rfl λj e hj he h=>?_]
 ·simp
 ·have hlt:=(List.getElem?_eq_some_iff.1 hc).1;have h1:(d.cons.map Cd.name)[j]?=some c.name:=by simp [he,h]
  have h2:(d.cons.map Cd.name)[k]?=some c.name:=by simp [hc]
  have:=(List.getElem?_inj (by simpa using by omega) hn).1 (h1.trans h2.symm);omega
theorem RG {ds:List Dt} (ho:OkW ds) {n:Int} {x:Str} {ps:List Ty} {d:Dt} (hd:ds[(Ba x 0 ds).toNat]?=some d) {k:Nat} {c:Cd} (hc:d.cons[k]?=some c):AZ ds (.mk 8 n x ps) c.name=(c.args,true):=by
 simp [AZ,UO ho hd hc]
theorem Wj {ds:List Dt} (ho:OkW ds):∀(f:Nat) (s:List Int),GS ds s->GS ds (Ko ds f s)
 | 0,s,h=>h
 | f+1,s,h=>by
  have:=(Nv ho.d4 (l:=ds) (p:=(s,false)) (i:=0) (by simp) (λd hd=>(ho.lim d hd).2) h).1;simp only [Ko];cases (CG ds (s,false) 0 ds).2
  ·exact this
  ·exact Wj ho f _ this
theorem JO {ds:List Dt} (ho:OkW ds):GS ds (Do ds):=Wj ho _ _ (KI ds)
def O5 (dc:List Cd) (b:Option (Nat×Int)):Option (Ty×Int):=b.map λp=>(D2 (dc[p.1]?.getD lS),p.2)
def eG:Option (Nat×Int)->Int
 | none=>-1
 | some p=>p.1
def KA:Option (Nat×Int)->Int
 | none=>0
 | some p=>p.2
def bW (b:Option (Nat×Int)) (i:Nat) (z:Int) (hb:Bool):Option (Nat×Int):=if 0<z/\hb=false/\(eG b<0\/z<KA b) then some (i,z) else b
theorem bS {dc:List Cd} {i:Nat} {e:Cd} (he:dc[i]?=some e) (b:Option (Nat×Int)) (z:Int) (hb:Bool) :
  O5 dc (bW b i z hb)=if 0<z/\hb=false/\DR (O5 dc b) z=true then some (D2 e,z) else O5 dc b:=by
 by_cases h:0<z/\hb=false/\(eG b<0\/z<KA b)
 ·rw [bW,if_pos h,if_pos]
  ·simp [O5,he]
  ·refine ⟨h.1,h.2.1,?_⟩;have h3:=h.2.2;cases b with
   | none=>rfl
   | some p=>simp only [eG,KA] at h3;simp only [O5,Option.map_some];exact decide_eq_true (by omega)
 ·rw [bW,if_neg h,if_neg];intro hh;apply h;refine ⟨hh.1,hh.2.1,?_⟩;have h3:=hh.2.2;cases b with
  | none=>left;simp [eG]
  | some p=>simp only [O5,Option.map_some,DR] at h3;right;simpa [KA] using h3
theorem Um (c:Cse) (m:Mi) (ho:OkW c.datas) (hn:AI c.datas m.ty=true) (h8:AK m.ty=8) (R:Ty->Option Ty)
  (hR:∀h,AH c.datas m=some h->Al Tryz.prog 183 [.agg (dCse c),.agg (DL (AY c.datas m h))] (.agg (Cj (R h)))) :
  Al Tryz.prog 199 [.agg (dCse c),.agg (DL m)] (.agg (Cj (match AH c.datas m with | none=>none | some h=>R h))):=by
 have hZ:=aU c ho;have hT:=λargs hn ha=>SD c (Do c.datas) (JO ho) ho.d4 args hn ha;have hK:=λh=>NJ c m h ho hn;have hA:=λh=>Rg m.nt h;obtain ⟨ds,⟨c1,c2,c3,c4⟩,rows⟩:=c;obtain ⟨⟨so,n,x,ps⟩,nt,⟨f,hd2,hd3,hd4⟩,ks⟩:=m;simp only [Mi.ty,Mi.nt,AK] at *;subst h8;have hP:=JY ds x;obtain ⟨hp,d,hd⟩:=Cr hn 8 n x ps rfl rfl;have hdm:=List.mem_of_getElem? hd;have hlim:=ho.lim d hdm;have hnm:∀c∈d.cons,Bn ds c.args=true:=by
  have:=ho.okd.named;simp only [BZ,List.all_eq_true] at this;exact this d hdm
 have hH:A6 ds (.mk 8 n x ps)=d.cons.map D2:=by
  rw [show A6 ds (.mk 8 n x ps)=(match ds[(Ba x 0 ds).toNat]? with | some d=>d.cons.map λc=>Ty.mk 4 0 c.name [] | none=>[]) from rfl,hd];rfl
 have hS:AH ds (.mk (.mk 8 n x ps) nt (.mk f hd2 hd3 hd4) ks)=(C0 ds (.mk (.mk 8 n x ps) nt (.mk f hd2 hd3 hd4) ks) none (d.cons.map D2)).map (·.1):=by rw [<- hH];rfl
 have hStep:∀(b:Option (Ty×Int)) (i:Nat) (e:Cd),d.cons[i]?=some e->C0 ds (.mk (.mk 8 n x ps) nt (.mk f hd2 hd3 hd4) ks) b ((d.cons.map D2).drop i) =
   C0 ds (.mk (.mk 8 n x ps) nt (.mk f hd2 hd3 hd4) ks) (if 0<AM ds (Do ds) 1 e.args/\Bj nt (D2 e)=false/\DR b (AM ds (Do ds) 1 e.args)=true then some (D2 e,AM ds (Do ds) 1 e.args) else b) ((d.cons.map D2).drop (i+1)):=by
  intro b i e he;rw [Av (Be he)];simp only [C0,Bf,D2,AK,C5,if_true,Mi.ty,Mi.nt,RG ho hd he];rfl
 rw [hS] at hR ⊢;clear hS hH hn;have hsb:=λargs=>Fc (JO ho) args 1 (by omega);have hszl:(Do ds).length<=4:=by rw [(JO ho).len];exact ho.d4
 generalize Do ds=sz at *;generalize hM:Mi.mk (.mk 8 n x ps) nt (.mk f hd2 hd3 hd4) ks=M at *;have hMd:DL M=Ao (.mk 8 n x ps)++[.sl (BQ nt)]++G0 (.mk f hd2 hd3 hd4)++[.sl (Fx ks)]:=by rw [<- hM];rfl
 rw [hMd];generalize hrs:(C0 ds M none (d.cons.map D2))=rs at *;obtain ⟨dn,dc⟩:=d;simp only at hlim hnm hrs hStep;refine Ae Ai Tryz.func199 (by decide +kernel) rfl [1,2,3,4,5] rfl rfl ?_;refine Aj rfl ?_;refine Ag rfl hZ ?_;refine Aj rfl ?_;refine Ag rfl hP ?_;refine Aj rfl ?_;refine mi rfl (c:=Cv ⟨dn,dc⟩) (λ_=>⟨hp,by simpa using Be hd,by simp⟩) (by simp) ?_;refine mg [] rfl (by simp;rfl) ?_;refine An (λy:Nat×Option (Nat×Int)=>[(9,.imm (.int .i64 y.1)),(8,.imm (.int .i64 (KA y.2))),(7,.imm (.int .i64 (eG y.2))),(6,.ref 4 0),(5,.imm (.sl (AJ sz))),(4,.ref 3 0),(3,.ref 2 0),(2,.ref 1 0)])
  (λ_=>[(1,some (.immb 29 6 (dCse ⟨ds,.mk c1 c2 c3 c4,rows⟩))),(2,some (.immb 108 10 (Ao (.mk 8 n x ps)++[V.sl (BQ nt)]++G0 (.mk f hd2 hd3 hd4)++[V.sl (Fx ks)]))),
   (3,some (.cells 48 5 [.imm (.bool false),.imm (.int .i64 0),.imm (.int .i64 0),.imm (.str []),.nils])),(4,some (.immb 72 2 (Cv ⟨dn,dc⟩)))]) [5] (λy=>dc.length-y.1)
  (λy=>y.1<=dc.length/\rs=C0 ds M (O5 dc y.2) ((dc.map D2).drop y.1)/\(∀p,y.2=some p->p.1<dc.length/\0<p.2/\p.2<=1000000)) (0,none)
  ⟨Nat.zero_le _,hrs.symm,(λp h=>by cases h)⟩ ⟨rfl,rfl,rfl,rfl,rfl,rfl,rfl,rfl,trivial⟩ ⟨rfl,rfl,rfl,rfl,trivial⟩ rfl λy hi ih=>?_
 obtain ⟨i,b⟩:=y;obtain ⟨hi1,hi2,hi3⟩:=hi;simp only at hi1 hi2 hi3;refine Ak rfl ?_;refine Ab rfl (λh=>?_) (λh=>?_)
 ·simp at h;obtain ⟨e,he⟩:=As h;have hem:=List.mem_of_getElem? he;have he3:=hlim.2 e hem;have hen:=hnm e hem;have hbd:=hsb e.args;rw [hStep _ i e he] at hi2;have hTe:=hT e.args hen he3;have hAe:=hA (D2 e);have heg:(dc.map CM)[(i:Int).toNat]?=some (CM e):=by simpa using Be he
  have hpk:=λz hb=>bS he b z hb;have hz8:AM ds sz 1 e.args<=1000000:=by
   have h4:=bR (n:=N8 sz) (by have:=Kg sz;have:=hszl;omega);have hbd:=hbd.2;generalize 4 ^ N8 sz=M4 at *;have:(e.args.length:Int)*(M4:Int)<=3*256:=Int.mul_le_mul (by omega) (by omega) (by omega) (by omega);omega
  generalize hz:AM ds sz 1 e.args=z at *;generalize Bj nt (D2 e)=hb at *;obtain ⟨en,ea⟩:=e;refine Ak rfl ?_;refine mi rfl (c:=CM ⟨en,ea⟩) (λ_=>⟨by simp,heg,by simp⟩) (by simp) ?_;refine Aj rfl ?_;refine Ag rfl hTe ?_;refine mg [] rfl (by simp;rfl) ?_;rw [<- hpk] at hi2;have hgo:=ih (i+1,bW b i z hb) (by simp only;omega) ⟨by simp only;omega,hi2,by
    intro p;simp only [bW]
    split
    ·intro hp;cases hp;exact ⟨h,by simp only;omega,hz8⟩
    ·exact hi3 p⟩
  have hab : -1<=eG b/\eG b<=1000000/\0<=KA b/\KA b<=1000000:=by
   cases b with
   | none=>simp [eG,KA]
   | some p=>have:=hi3 p rfl;simp only [eG,KA] at *;omega
  have hnew:bW b i z hb=if 0<z/\hb=false/\(eG b<0\/z<KA b) then some (i,z) else b:=rfl
  refine mi rfl (c:=CM ⟨en,ea⟩) (λ_=>⟨by simp,heg,by simp⟩) (by simp [Ap]) ?_;refine Du rfl ?_;refine oX Ai rfl (by simp) (λ_=>rfl) (λ_=>by simp) (by simp [Y2,AA,Ap,Op.operands,CV,lk,Tj]) ?_;refine Du rfl ?_;refine AE rfl hAe ?_;refine mg [] rfl (by simp [Ap];exact ⟨rfl,λa b c=>⟨⟨a,b⟩,c⟩⟩) ?_;by_cases hc:0<z/\hb=false/\(eG b<0\/z<KA b)
  ·rw [if_pos hc] at hnew;rw [hnew] at hgo;refine Ab rfl (λh=>?_) (λh=>by exfalso;simp at h;grind);refine Ak rfl ?_;exact Ad hgo ⟨A0 (B2 (by simp only;omega) (by simp only;omega)),rfl,rfl,rfl,rfl,rfl,rfl,rfl,trivial⟩ ⟨rfl,rfl,rfl,rfl,trivial⟩ rfl
  ·rw [if_neg hc] at hnew;rw [hnew] at hgo;refine Ab rfl (λh=>by exfalso;simp at h;grind) (λh=>?_);refine Ak rfl ?_;exact Ad hgo ⟨A0 (B2 (by simp only;omega) (by simp only;omega)),rfl,rfl,rfl,rfl,rfl,rfl,rfl,trivial⟩ ⟨rfl,rfl,rfl,rfl,trivial⟩ rfl
 ·simp at h;refine Aw rfl ?_;rw [List.drop_eq_nil_of_le (by simpa using by omega)] at hi2;simp only [C0] at hi2;subst hi2;cases b with
  | none =>
   refine Ak rfl ?_;refine Ab rfl (λh=>?_) (λh=>by simp [eG] at h);refine Ak rfl ?_;exact Aa rfl rfl rfl
  | some p =>
   obtain ⟨q,z⟩:=p;have hq:=(hi3 _ rfl).1;simp only at hq;obtain ⟨e,he⟩:=As hq;have heg:(dc.map CM)[(q:Int).toNat]?=some (CM e):=by simpa using Be he
   simp only [O5,Option.map_some,he,Option.getD_some] at hR ⊢;have hRe:=hR _ rfl;have hKe:=hK (D2 e);rw [hMd] at hKe;generalize AY ds M (D2 e)=Kn at *;generalize R (D2 e)=Re at *;obtain ⟨en,ea⟩:=e;refine Ak rfl ?_;refine Ab rfl (λh=>by exfalso;have h:decide ((q:Int)<0)=true:=h;have h:=of_decide_eq_true h;omega) (λh=>?_);refine Ak rfl ?_;refine mi rfl (c:=CM ⟨en,ea⟩) (λ_=>⟨by simp [eG],heg,by simp⟩) (by simp) ?_;refine Aj rfl ?_;refine mZ rfl rfl (λ_=>hKe) (by simp) rfl ?_;refine Aj rfl ?_;refine Ag rfl hRe ?_;refine mg [] rfl (by simp;rfl) ?_;exact Aa rfl rfl rfl
def Ez (nt:List Ty):List Ty->Option Ty
 | []=>none
 | h::r=>if Bj nt h=false then some h else Ez nt r
theorem Tc {ds:List Dt} {m:Mi}:∀{l:List Ty},(∀h∈l,AK h≠4)->(∀b:Ty×Int,b.2=1->C0 ds m (some b) l=some b)/\C0 ds m none l=(Ez m.nt l).map λh=>(h,1)
 | [],_=>⟨λb _=>rfl,rfl⟩
 | h::r,hl=>by
  obtain ⟨ih1,ih2⟩:=Tc (l:=r) (λx hx=>hl x (by simp [hx]));have hf:¬AK h=4:=hl h (by simp);refine ⟨λb hb=>?_,?_⟩
  ·simp only [C0,Bf,if_neg hf];rw [if_neg (λhh=>by have:=hh.2.2;simp [DR,hb] at this)];exact ih1 b hb
  ·simp only [C0,Bf,if_neg hf,Ez];by_cases hh:Bj m.nt h=false
   ·rw [if_pos ⟨by omega,hh,rfl⟩,if_pos hh,ih1 _ rfl];rfl
   ·rw [if_neg (λx=>hh x.2.1),if_neg hh,ih2]
theorem OG {g:Mi->Option (Option Ty)} {k:Mi} {r:List Mi} {o:Option (List Ty)} (h:Bu g (k::r)=some o):∃v,g k=some v/\(match v with
  | none=>o=none
  | some x=>∃q,Bu g r=some q/\o=q.map (x :: ·)):=by
 simp only [Bu] at h;cases hk:g k with
 | none=>simp [hk] at h
 | some v =>
  cases v with
  | none=>simp only [hk] at h;exact ⟨none,rfl,(Option.some.inj h).symm⟩
  | some x =>
   simp only [hk] at h;cases hr:Bu g r with
   | none=>simp [hr] at h
   | some q =>
    cases q with
    | none=>simp only [hr] at h;exact ⟨some x,rfl,none,rfl,(Option.some.inj h).symm⟩
    | some l=>simp only [hr] at h;exact ⟨some x,rfl,some l,rfl,(Option.some.inj h).symm⟩
theorem MD {ds:List Dt} {f:Nat} {m:Mi} {r:Option Ty} (h:AT ds (f+1) m=some r) (hf:AK m.hd≠0):∃o,Bu (AT ds f) m.ks=some o/\r=o.map (CB m.hd):=by
 simp only [AT,if_neg hf] at h;cases hl:Bu (AT ds f) m.ks with
 | none=>simp [hl] at h
 | some o=>simp only [hl,Option.map_some] at h;exact ⟨o,rfl,(Option.some.inj h).symm⟩
theorem FV {ds:List Dt} {t:Ty} {s:Str} (h:AK t≠8):AZ ds t s=([],false):=by
 obtain ⟨so,n,x,ps⟩:=t;simp only [AK] at h;simp [AZ,BN,h]
theorem jL {c:Prop} [Decidable c] {α:Type} {a p:α} {b:Option α} (h:(if c then some a else b)=some p):a=p\/b=some p:=by
 by_cases hc:c
 ·rw [if_pos hc] at h;exact .inl (Option.some.inj h)
 ·rw [if_neg hc] at h;exact .inr h
theorem Td {ds:List Dt} {m:Mi}:∀{l:List Ty} {b:Option (Ty×Int)} {p:Ty×Int},C0 ds m b l=some p->p.1∈l\/b=some p
 | [],b,p,h=>.inr h
 | x::r,b,p,h=>by
  simp only [C0] at h;rcases Td h with h | h
  ·exact .inl (by simp [h])
  ·rcases jL h with h | h
   ·subst h;exact .inl (by simp)
   ·exact .inr h
theorem Gp {ds:List Dt} {m:Mi} {y:Ty} (h:AH ds m=some y):y∈A6 ds m.ty:=by
 simp only [AH,Option.map_eq_some_iff] at h;obtain ⟨p,hp,rfl⟩:=h;rcases Td hp with h | h
 ·exact h
 ·cases h
theorem cM {ds:List Dt} {f:Nat} {m:Mi} {r:Option Ty} (h:AT ds (f+1) m=some r) (hf:AK m.hd=0) :
  (AK m.ty=1->r=some (CE m.nt))/\(AK m.ty=4\/AK m.ty=5\/AK m.ty=6\/AK m.ty=7->r=some (.mk 5 0 [] [])) /\
  (AK m.ty=2\/AK m.ty=3->r=Ez m.nt (A6 ds m.ty))/\(AK m.ty=8->match AH ds m with
   | none=>r=none
   | some h=>AT ds (f+1) (AY ds m h)=some r):=by
 simp only [AT,if_pos hf] at h;refine ⟨λe=>?_,λe=>?_,λe=>?_,λe=>?_⟩
 ·rw [if_pos e] at h;exact (Option.some.inj h).symm
 ·rw [if_neg (by omega),if_pos e] at h;exact (Option.some.inj h).symm
 ·rw [if_neg (by omega),if_neg (by omega)] at h;have hh:∀x∈A6 ds m.ty,AK x≠4/\CB x []=x:=λx hx=>by
   revert hx e;generalize m.ty=t;obtain ⟨so,n,x0,ps⟩:=t;simp only [AK,A6];rintro (rfl | rfl) hx
   ·rcases List.mem_cons.1 hx with rfl | hx
    ·exact ⟨by simp [AK],rfl⟩
    ·rw [List.mem_singleton.1 hx];exact ⟨by simp [AK],rfl⟩
   ·rw [List.mem_singleton.1 hx];exact ⟨by simp [AK],rfl⟩
  have hp:=(Tc (ds:=ds) (m:=m) (l:=A6 ds m.ty) (λx hx=>(hh x hx).1)).2;have hs:AH ds m=Ez m.nt (A6 ds m.ty):=by
   simp only [AH,hp];cases Ez m.nt (A6 ds m.ty) <;> rfl
  have hm:∀(l:List Ty) (y:Ty),Ez m.nt l=some y->y∈l:=by
   intro l
   induction l with
   | nil=>intro y hy;simp [Ez] at hy
   | cons z q ih =>
    intro y hy;simp only [Ez] at hy
    split at hy
    ·cases hy;simp
    ·exact List.mem_cons_of_mem _ (ih y hy)
  rw [hs] at h;cases hq:Ez m.nt (A6 ds m.ty) with
  | none=>simp only [hq] at h;exact (Option.some.inj h).symm
  | some y =>
   simp only [hq,AY,Mi.ks,FV (ds:=ds) (t:=m.ty) (s:=C5 y) (by omega),List.map_nil,Bu,Option.map_some] at h;rw [(hh y (hm _ y hq)).2] at h;exact (Option.some.inj h).symm
 ·rw [if_neg (by omega),if_neg (by omega)] at h;cases hq:AH ds m with
  | none=>simp only [hq] at h;exact (Option.some.inj h).symm
  | some y =>
   simp only [hq] at h ⊢;have:AK (AY ds m y).hd≠0:=by
    simp only [AY,Mi.hd];have:y∈A6 ds m.ty:=Gp hq;exact (Bs this).2
   simp only [AT,if_neg this];exact h
theorem U7 (c:Cse) (m:Mi) (g:Mi->Option (Option Ty)) (o:Option (List Ty)) (h1:Bu g m.ks=some o) (hf:AK m.hd≠0) (hlk:m.ks.length<=3)
  (ihk:∀k v,k∈m.ks->g k=some v->Al Tryz.prog 183 [.agg (dCse c),.agg (DL k)] (.agg (Cj v))) :
  Al Tryz.prog 183 [.agg (dCse c),.agg (DL m)] (.agg (Cj (o.map (CB m.hd)))):=by
 obtain ⟨ds,⟨c1,c2,c3,c4⟩,rows⟩:=c;obtain ⟨⟨so,n,x,ps⟩,nt,⟨a,b,t,d⟩,ks⟩:=m;simp only [Mi.hd,Mi.ks,AK] at *;refine Ae Ai Tryz.func183 (by decide +kernel) rfl [1,2,3,4,5,6,7] rfl rfl ?_;refine Aj rfl ?_;refine Ab rfl (λh=>?_) (λh=>absurd (by simpa using h) hf);simp only [DL,G0,if_neg hf];refine Ak rfl ?_;refine OW (e:=46) (sz:=4) 4 5 [.imm (.int .i64 a),.imm (.int .i64 b),.imm (.str t),.own 5 0] (by decide) rfl (by simp [qV]) ?_;have el:∀(l:List Ty) (v:Ty),Bx (l++[v])=Bx l++[Ao v]:=λl v=>by rw [K6];rfl
 refine An (λy:Nat×List Ty=>[(6,.imm (.int .i64 y.1)),(5,.ref 4 0),(4,.ref 3 0),(3,.ref 2 0),(2,.ref 1 0)])
  (λy=>[(1,some (.immb 29 6 (dCse ⟨ds,.mk c1 c2 c3 c4,rows⟩))),(2,some (.immb 108 10 (Ao (.mk so n x ps)++[V.sl (BQ nt)]++[V.int .i64 a,V.int .i64 b,V.str t,V.nilsl]++[V.sl (Fx ks)]))),
   (3,some (.cells 48 5 [.imm (.bool false),.imm (.int .i64 0),.imm (.int .i64 0),.imm (.str []),.nils])),
   (4,some (.cells 46 4 [.imm (.int .i64 a),.imm (.int .i64 b),.imm (.str t),.own 5 (Bx y.2).length])),(5,some (.row 46 4 (Bx y.2)))]) [6,7] (λy=>ks.length-y.1)
  (λy=>y.1<=ks.length/\y.2.length=y.1/\∃q,Bu g (ks.drop y.1)=some q/\o=q.map (y.2 ++ ·)) (0,[])
  ⟨Nat.zero_le _,rfl,o,h1,by cases o <;> simp⟩ ⟨rfl,rfl,rfl,rfl,rfl,trivial⟩ ⟨rfl,rfl,rfl,rfl,rfl,trivial⟩ rfl λy hi jh=>?_
 obtain ⟨i,vs⟩:=y;obtain ⟨hi1,hi2,q,hi3,hi4⟩:=hi;simp only at hi1 hi2 hi3 hi4;refine Ak rfl ?_;refine Ab rfl (λh=>?_) (λh=>?_)
 ·simp at h;obtain ⟨k,hk⟩:=As h;rw [Av hk] at hi3;obtain ⟨v,g1,g2⟩:=OG hi3;have hc:=ihk k v (List.mem_of_getElem? hk) g1;refine Ak rfl ?_;refine mi rfl (c:=DL k) (λ_=>⟨by simp,by simpa using Rz hk,by simp⟩) (by simp) ?_;refine Aj rfl ?_;refine Ag rfl hc ?_;cases v with
  | none =>
   simp only at g2;subst g2;simp only [Option.map_none] at hi4;subst hi4;refine mg [] rfl (by simp;rfl) ?_;refine Ah rfl λh=>?_;refine Ak rfl ?_;exact Aa rfl rfl rfl
  | some v =>
   simp only at g2;obtain ⟨q',g3,g4⟩:=g2;have hgo:=jh (i+1,vs++[v]) (by simp only;omega) ⟨by simp only;omega,by simp [hi2],q',g3,by rw [hi4,g4];cases q' <;> simp⟩;simp only [el] at hgo;have hll:(Bx vs).length<=3:=by simp;omega
   generalize Bx vs=l at *;obtain ⟨v1,v2,v3,v4⟩:=v;refine mg [] rfl (by simp;rfl) ?_;refine At rfl λh=>?_;refine Ak rfl ?_;refine BE Ai rfl ⟨by simp,by simp [maxLen] at hll ⊢;omega,by simp at hll ⊢;omega,trivial⟩ ?_;refine Aj rfl ?_;refine AF 5 7 rfl ?_;exact Ad hgo ⟨A0 (B2 (by omega) (by omega)),rfl,rfl,rfl,rfl,trivial⟩ ⟨rfl,rfl,rfl,by simp only [List.length_append];rfl,rfl,trivial⟩ rfl
 ·simp at h;refine Aw rfl ?_;rw [List.drop_eq_nil_of_le (by omega)] at hi3;cases hi3;simp only [Option.map_some,List.append_nil] at hi4;subst hi4;refine Bw 5 rfl ?_;refine Ak rfl ?_;exact Aa rfl rfl rfl
theorem cN (c:Cse) (ho:OkW c.datas) (N:Nat) (hN:N<=1000000):∀(f:Nat) (m:Mi) (r:Option Ty),AT c.datas f m=some r->GV c.datas N m=true ->
  Al Tryz.prog 183 [.agg (dCse c),.agg (DL m)] (.agg (Cj r)):=by
 intro f
 induction f with
 | zero=>intro m r h;simp [AT] at h
 | succ f ih =>
 have known:∀m r,AT c.datas (f+1) m=some r->GV c.datas N m=true->AK m.hd≠0->Al Tryz.prog 183 [.agg (dCse c),.agg (DL m)] (.agg (Cj r)):=by
  intro m r h hm hf;obtain ⟨o,h1,h2⟩:=MD h hf;subst h2;have hw:=AR.1 hm;exact U7 c m _ o h1 hf hw.1.2.1 λk v hk hv=>ih k v hv (hw.2.2 k hk)
 intro m r h hm;by_cases hf:AK m.hd=0
 case neg=>exact known m r h hm hf
 have hw:=AR.1 hm;have hH:=NN c m.ty ho.okd hw.1.1;have hA:=λh=>Kw m.nt h;have hNr:=VR m.nt (by have:=hw.1.2.2;omega);obtain ⟨u1,u2,u3,u4⟩:=cM h hf;have hS:AK m.ty=8->Al Tryz.prog 199 [.agg (dCse c),.agg (DL m)] (.agg (Cj r)):=λh8=>by
  have h4:=u4 h8;have:=Um c m ho hw.1.1 h8 (λ_=>r) (λx hx=>by
   rw [hx] at h4;have hp:=Bs (Gp hx);exact known _ _ h4 (JI ho hw.1.1 hw.2.1.2 hp.1) (by simpa [AY,Mi.hd] using hp.2))
  cases hq:AH c.datas m with
  | none=>rw [hq] at h4 this;simp only at h4 this;rw [h4];exact this
  | some y=>rw [hq] at this;exact this
 have hsr:1<=AK m.ty/\AK m.ty<=8:=of_decide_eq_true hw.2.1.2;have hhl:=Jy ho m.ty;have hpt:∀y∈A6 c.datas m.ty,B4 y=[]:=λy hy=>(Bs hy).1;clear h u4 hw known ih hm;generalize A6 c.datas m.ty=L at *;generalize CE m.nt=nr at *;obtain ⟨ds,⟨c1,c2,c3,c4⟩,rows⟩:=c;obtain ⟨⟨so,n,x,ps⟩,nt,⟨a,b,t,d⟩,ks⟩:=m;simp only [Mi.hd,Mi.ks,Mi.nt,Mi.ty,AK,Qh,decide_eq_true_eq] at *;subst hf;refine Ae Ai Tryz.func183 (by decide +kernel) rfl [1,2,3,4,5,6,7] rfl rfl ?_;refine Aj rfl ?_;refine At rfl λh=>?_;clear h;refine Ak rfl ?_;by_cases s1:so=1
 ·subst s1;rw [u1 rfl];obtain ⟨v1,v2,v3,v4⟩:=nr;refine Ah rfl λh=>?_;refine Ak rfl ?_;refine Ag rfl hNr ?_;refine Aj rfl ?_;exact Aa rfl rfl rfl
 refine Ab rfl (λh=>absurd (by simpa using h) s1) (λh=>?_);clear h;refine Ak rfl ?_;by_cases s23:so=2\/so=3
 ·rw [u3 s23];have hsmall:∀i,(i:Nat)<=L.length->i<=5:=λi hi=>by omega
  have hstep:∀(i:Nat) (t:Ty),L[i]?=some t->Ez nt (L.drop i)=if Bj nt t=false then some t else Ez nt (L.drop (i+1)):=λi t ht=>by rw [Av ht];rfl
  rcases s23 with rfl | rfl
  ·refine Ah rfl λh=>?_;refine Ak rfl ?_;refine Ah rfl λh=>?_;clear h;refine Ak rfl ?_;refine Ag rfl hH ?_;refine Aj rfl ?_;refine An (λi:Nat=>[(9,.imm (.int .i64 i)),(8,.imm (.sl (BQ L))),(4,.ref 3 0),(3,.ref 2 0)])
    (λ_=>[(2,some (.immb 108 10 (DL (.mk (.mk 2 n x ps) nt (.mk 0 b t d) ks)))),(3,some (.cells 48 5 [.imm (.bool false),.imm (.int .i64 0),.imm (.int .i64 0),.imm (.str []),.nils]))]) [4,5] (λi=>L.length-i)
    (λi=>i<=L.length/\Ez nt L=Ez nt (L.drop i)) 0 ⟨Nat.zero_le _,rfl⟩ ⟨rfl,rfl,rfl,rfl,trivial⟩ ⟨rfl,rfl,trivial⟩ rfl λi hi ih=>?_
   obtain ⟨hi1,hi2⟩:=hi;refine Ak rfl ?_;refine Ab rfl (λh=>?_) (λh=>?_)
   ·simp at h;obtain ⟨y,hy⟩:=As h;have hAy:=hA y;rw [hstep i y hy] at hi2;refine Ak rfl ?_;refine mi rfl (c:=G0 y) (λ_=>⟨by simp,by simpa using IN hy,by simp⟩) (by simp) ?_;refine Aj rfl ?_;refine Ag rfl hAy ?_;cases hb:Bj nt y with
    | false =>
     rw [if_pos hb] at hi2;refine mg [] rfl (by simp;rfl) ?_;refine Ah rfl λh=>?_;refine Ak rfl ?_;refine mi rfl (c:=G0 y) (λ_=>⟨by simp,by simpa using IN hy,by simp⟩) (by simp) ?_;obtain ⟨y1,y2,y3,y4⟩:=y;have hp:=hpt _ (List.mem_of_getElem? hy);simp only [B4] at hp;subst hp;rw [hi2];simp only [G0];have hyw:unn (if y1=0 then V.sl [] else V.nilsl) = .sl []:=by split <;> rfl
     generalize (if y1=0 then V.sl [] else V.nilsl)=yw at *;refine Aj rfl ?_;exact Rt 3 [.bool true,.int .i64 y1,.int .i64 y2,.str y3,.sl []] rfl (by simp [Gh,unn,hyw]) (Au ⟨_,rfl,tV rfl,trivial⟩)
    | true =>
     rw [if_neg (by simp [hb])] at hi2;refine mg [] rfl (by simp;rfl) ?_;refine At rfl λh=>?_;refine Ak rfl ?_;exact Ad (ih (i+1) (by omega) ⟨by omega,hi2⟩) ⟨A0 (B2 (by omega) (by omega)),rfl,rfl,rfl,trivial⟩ ⟨rfl,rfl,trivial⟩ rfl
   ·simp at h;refine Aw rfl ?_;refine Ak rfl ?_;rw [hi2,List.drop_eq_nil_of_le (by omega)];exact Aa rfl rfl rfl
  ·refine At rfl λh=>?_;refine Ak rfl ?_;refine Ah rfl λh=>?_;clear h;refine Ak rfl ?_;refine Ag rfl hH ?_;refine Aj rfl ?_;refine An (λi:Nat=>[(9,.imm (.int .i64 i)),(8,.imm (.sl (BQ L))),(4,.ref 3 0),(3,.ref 2 0)])
    (λ_=>[(2,some (.immb 108 10 (DL (.mk (.mk 3 n x ps) nt (.mk 0 b t d) ks)))),(3,some (.cells 48 5 [.imm (.bool false),.imm (.int .i64 0),.imm (.int .i64 0),.imm (.str []),.nils]))]) [4,5] (λi=>L.length-i)
    (λi=>i<=L.length/\Ez nt L=Ez nt (L.drop i)) 0 ⟨Nat.zero_le _,rfl⟩ ⟨rfl,rfl,rfl,rfl,trivial⟩ ⟨rfl,rfl,trivial⟩ rfl λi hi ih=>?_
   obtain ⟨hi1,hi2⟩:=hi;refine Ak rfl ?_;refine Ab rfl (λh=>?_) (λh=>?_)
   ·simp at h;obtain ⟨y,hy⟩:=As h;have hAy:=hA y;rw [hstep i y hy] at hi2;refine Ak rfl ?_;refine mi rfl (c:=G0 y) (λ_=>⟨by simp,by simpa using IN hy,by simp⟩) (by simp) ?_;refine Aj rfl ?_;refine Ag rfl hAy ?_;cases hb:Bj nt y with
    | false =>
     rw [if_pos hb] at hi2;refine mg [] rfl (by simp;rfl) ?_;refine Ah rfl λh=>?_;refine Ak rfl ?_;refine mi rfl (c:=G0 y) (λ_=>⟨by simp,by simpa using IN hy,by simp⟩) (by simp) ?_;obtain ⟨y1,y2,y3,y4⟩:=y;have hp:=hpt _ (List.mem_of_getElem? hy);simp only [B4] at hp;subst hp;rw [hi2];simp only [G0];have hyw:unn (if y1=0 then V.sl [] else V.nilsl) = .sl []:=by split <;> rfl
     generalize (if y1=0 then V.sl [] else V.nilsl)=yw at *;refine Aj rfl ?_;exact Rt 3 [.bool true,.int .i64 y1,.int .i64 y2,.str y3,.sl []] rfl (by simp [Gh,unn,hyw]) (Au ⟨_,rfl,tV rfl,trivial⟩)
    | true =>
     rw [if_neg (by simp [hb])] at hi2;refine mg [] rfl (by simp;rfl) ?_;refine At rfl λh=>?_;refine Ak rfl ?_;exact Ad (ih (i+1) (by omega) ⟨by omega,hi2⟩) ⟨A0 (B2 (by omega) (by omega)),rfl,rfl,rfl,trivial⟩ ⟨rfl,rfl,trivial⟩ rfl
   ·simp at h;refine Aw rfl ?_;refine Ak rfl ?_;rw [hi2,List.drop_eq_nil_of_le (by omega)];exact Aa rfl rfl rfl
 refine Ab rfl (λh=>absurd (.inl (by simpa using h)) s23) (λh=>?_);clear h;refine Ak rfl ?_;refine Ab rfl (λh=>absurd (.inr (by simpa using h)) s23) (λh=>?_);clear h;refine Ak rfl ?_;by_cases s8:so=8
 ·subst s8;refine Ah rfl λh=>?_;refine Ak rfl ?_;refine Af rfl (λ_=>hS rfl) (by simp) ?_;have hre:∃x1 v1 v2 v3 v4,Cj r=[x1,v1,v2,v3,v4]:=by
   cases r with
   | none=>exact ⟨_,_,_,_,_,rfl⟩
   | some v=>obtain ⟨a,b,c,d⟩:=v;exact ⟨_,_,_,_,_,rfl⟩
  obtain ⟨x1,y1,y2,y3,y4,hre⟩:=hre;rw [hre];refine Aj rfl ?_;exact Aa rfl rfl rfl
 refine Ab rfl (λh=>absurd (by simpa using h) s8) (λh=>?_);clear h;refine Ak rfl ?_;rw [u2 (by omega)];exact Aa rfl rfl rfl
theorem Gj {ds:List Dt} (hn:B3 (Cn ds)=true) {n:Int} {x s:Str} {ps:List Ty} (hp:0<=Ba x 0 ds) (hc:0<=(BN ds (.mk 8 n x ps) s).2):(Cg ds s).2=(BN ds (.mk 8 n x ps) s).2:=by
 have hf:=W4 hn (n:=n) (s:=s) (ps:=ps) hp;unfold Cg;cases hfs:Gu s 0 ds with
 | none=>rw [hfs] at hf;simp only at hf;omega
 | some p =>
  obtain ⟨a,b⟩:=p;rw [hfs] at hf;obtain ⟨hf1,hf2,hf3⟩:=hf;have ha:(a:Int)=Ba x 0 ds:=by simpa [hc] using hf1
  obtain ⟨k,d,e1,e2,e3,e4⟩:=LN hfs;have:a=k:=by omega
  subst this;simp only [BN,if_true];rw [show (Ba x 0 ds).toNat=a by omega,e2];simp only [e3]
mutual
def Ea:Ty->Bool
 | .mk _ n _ ps=>decide (-1000000000000<=n/\n<=1000000000000)&&H2 ps
def H2:List Ty->Bool
 | []=>true
 | p::r=>Ea p&&H2 r
end
theorem QU:∀l:List Ty,H2 l=l.all Ea
 | []=>rfl
 | p::r=>by simp [H2,QU r]
theorem Kf {ds:List Dt}:∀{l m:List Ty} {i:Nat} {a p:Ty},Jf ds l m=true->l[i]?=some a->m[i]?=some p->LE ds a p=true
 | [],_,i,a,p,_,ha,_=>by simp at ha
 | _::_,[],i,a,p,_,_,hp=>by simp at hp
 | x::l,y::m,0,a,p,h,ha,hp=>by simp only [Jf,Bool.and_eq_true] at h;simp at ha hp;subst ha;subst hp;exact h.1
 | x::l,y::m,i+1,a,p,h,ha,hp=>by simp only [Jf,Bool.and_eq_true] at h;exact Kf h.2 (by simpa using ha) (by simpa using hp)
theorem RM:∀v:Ty,Aq v<=1000000000000000->Al Tryz.prog 71 [.agg (Ao v)] (.int .i64 (Aq v))
 | .mk f n x ps,hN=>by
  refine AW λhv=>?_;simp [Ct,ET,Ao,maxLen] at hv;simp only [Aq] at hN;refine Ae Ai Tryz.func71 (by decide +kernel) rfl [1,2,3] rfl rfl ?_;refine Aj rfl ?_;refine An (λi:Nat=>[(4,.imm (.int .i64 i)),(3,.imm (.int .i64 ((1+Am (ps.take i):Nat):Int))),(1,.ref 1 0)]) (λ_=>[(1,some (.immb 46 4 (Ao (.mk f n x ps))))]) [2,3] (λi=>ps.length-i) (λi=>i<=ps.length) 0 (Nat.zero_le _)
   ⟨rfl,rfl,rfl,trivial⟩ ⟨rfl,trivial⟩ rfl λi hi ih=>?_
  refine Ak rfl ?_;refine Ab rfl (λh=>?_) (λh=>?_)
  ·simp at h;obtain ⟨p,hp⟩:=As h;have hl:=BR hp;have hs:=RM p (by omega);have hn:Am (ps.take (i+1))=Am (ps.take i)+Aq p:=by
    have e:=BC (ps.take i) [p];rw [Bh hp,e];simp [Am]
   refine Ak rfl ?_;refine mi rfl (c:=Ao p) (λ_=>⟨by simp,by simpa using A4 hp,by simp⟩) (by simp) ?_;refine Aj rfl ?_;refine Ag rfl hs ?_;refine Aj rfl ?_;exact Ad (ih (i+1) (by omega) (by omega)) ⟨A0 (B2 (by omega) (by omega)),A0 (by rw [B2 (by omega) (by omega)];omega),rfl,trivial⟩ ⟨rfl,trivial⟩ rfl
  ·simp at h;refine Aw rfl ?_;rw [List.take_of_length_le (by omega)];refine Ak rfl ?_;simp only [Aq];exact Aa rfl rfl rfl
termination_by v=>SizeOf.sizeOf v
decreasing_by
 have:=List.sizeOf_lt_of_mem (List.mem_of_getElem? hp);simp_wf;omega
theorem gZ (n:Int) (h : -1000000000000<=n/\n<=1000000000000):Al Tryz.prog 120 [.int .i64 n] (.int .i64 (DE n)):=by
 refine Ae Ai Tryz.func120 (by decide +kernel) rfl [1,2] rfl rfl ?_;refine Aj rfl ?_;by_cases h0:0<n
 ·refine Ab rfl (λh=>?_) (λh=>absurd h0 (by simpa using h));refine Ak rfl ?_;refine Aa rfl rfl ?_;simp only [DE,if_pos h0];have e1:IntKind.i64.wrap (2*n)=2*n:=B2 (by omega) (by omega);rw [e1,B2 (by omega) (by omega)]
 ·refine Ab rfl (λh=>absurd (by simpa using h) h0) (λh=>?_);refine Ak rfl ?_;refine Aa rfl rfl ?_;simp only [DE,if_neg h0];rw [B2 (by omega) (by omega)]
theorem PH {s:Str}:∀(l:List Cd) (i:Nat),(Di s i l).2<i+l.length/\(0<=(Di s i l).2->∃k,l[k]?=some (Di s i l).1/\(Di s i l).2=((i+k:Nat):Int))
 | [],i=>by simp [Di];omega
 | c::r,i=>by
  simp only [Di]
  split
  ·exact ⟨by simp only [List.length_cons];omega,λ_=>⟨0,rfl,rfl⟩⟩
  ·obtain ⟨h1,h2⟩:=PH (s:=s) r (i+1);exact ⟨by simp only [List.length_cons];omega,λh=>let ⟨k,h3,h4⟩:=h2 h;⟨k+1,by simpa using h3,by rw [h4];congr 1;omega⟩⟩
theorem PG {ds:List Dt} (ho:OkW ds) (t:Ty) (s:Str):(BN ds t s).2<=5:=by
 obtain ⟨so,n,x,ps⟩:=t;simp only [BN]
 split
 ·split
  ·rename_i d hd;have:=(PH (s:=s) d.cons 0).1;have:=(ho.lim d (List.mem_of_getElem? hd)).1;omega
  ·simp
 ·simp
theorem NY {ds:List Dt} {t:Ty} {s s':Str} (h:0<=(BN ds t s).2) (e:(BN ds t s).2=(BN ds t s').2):(BN ds t s).1=(BN ds t s').1:=by
 obtain ⟨so,n,x,ps⟩:=t;by_cases h8:so=8
 ·simp only [BN,if_pos h8] at h e ⊢;cases hd:ds[(Ba x 0 ds).toNat]? with
  | none=>simp
  | some d =>
   simp only [hd] at h e ⊢;obtain ⟨k,k1,k2⟩:=(PH (s:=s) d.cons 0).2 h;obtain ⟨j,j1,j2⟩:=(PH (s:=s') d.cons 0).2 (by omega);have:k=j:=by omega
   subst this;rw [k1] at j1;exact Option.some.inj j1
 ·simp only [BN,if_neg h8]
theorem O8 {ds:List Dt} {l m:List Ty} {i:Nat} {p q:Ty} (hp:l[i]?=some p) (hq:m[i]?=some q):BW ds (l.drop i) (m.drop i)=if Cc ds p q≠0 then Cc ds p q else BW ds (l.drop (i+1)) (m.drop (i+1)):=by
 rw [Av hp,Av hq];rfl
theorem Jt {l:List Ty} {i:Nat} {p:Ty} (h:H2 l=true) (hp:l[i]?=some p):Ea p=true:=by
 rw [QU,List.all_eq_true] at h;exact h p (List.mem_of_getElem? hp)
theorem Tf (c:Cse) (ho:OkW c.datas):∀(a t b:Ty),AI c.datas t=true->LE c.datas t a=true->LE c.datas t b=true->Ea a=true->Ea b=true ->
  Al Tryz.prog 72 [.agg (dCse c),.agg (Ao t),.agg (Ao a),.agg (Ao b)] (.int .i64 (Cc c.datas a b))
 | .mk f n x ps,.mk so m0 x0 qs0,.mk g n' x' ps',hn,ha,hb,hia,hib=>by
  have hR:=λc'=>gZ c';have hC:=λs=>YM c (.mk so m0 x0 qs0) s (Cr hn) (λd hd=>ho.okd.len d hd);obtain ⟨ds,⟨c1,c2,c3,c4⟩,rows⟩:=c;simp only [Ea,Bool.and_eq_true] at hia hib;have hia1:=of_decide_eq_true hia.1;have hib1:=of_decide_eq_true hib.1;simp only at hn ha hb hC ho;simp only [LE] at ha hb;refine Ae Ai Tryz.func72 (by decide +kernel) rfl [1,2,3,4,5,6,7] rfl rfl ?_;refine Aj rfl ?_;simp only [Cc];by_cases s1:so=1
  ·subst s1;have hf:f=1:=by simpa using ha
   subst hf;refine Ah rfl λh=>?_;refine Ak rfl ?_;refine Af rfl (λ_=>hR n hia1) (by simp) ?_;refine Aj rfl ?_;refine Af rfl (λ_=>hR n' hib1) (by simp) ?_;refine mg [] rfl (by simp;rfl) ?_;have hr:∀z:Int,-1000000000000<=z/\z<=1000000000000 -> -2000000000000<=DE z/\DE z<=2000000000000:=λz hz=>by simp only [DE];split <;> omega
   have:=hr n hia1;have:=hr n' hib1;refine Aa rfl rfl ?_;rw [B2 (by omega) (by omega)];rfl
  refine Ab rfl (λh=>absurd (by simpa using h) s1) (λh=>?_);clear h;refine Ak rfl ?_;by_cases s2:so=2
  ·subst s2;have hf:f=2:=by simpa using ha
   subst hf;refine Ah rfl λh=>?_;refine Ak rfl ?_;refine Aa rfl rfl ?_;rw [B2 (by omega) (by omega)];rfl
  refine Ab rfl (λh=>absurd (by simpa using h) s2) (λh=>?_);clear h;refine Ak rfl ?_;rw [if_neg s1,if_neg s2] at ha hb;by_cases s8:so=8
  case neg =>
   refine Ab rfl (λh=>absurd (by simpa using h) s8) (λh=>?_);clear h;refine Ak rfl ?_;have hz:f=3\/f=5:=by
    by_cases s3:so=3
    ·rw [if_pos s3] at ha;left;simpa using ha
    ·rw [if_neg s3,if_neg s8] at ha;right;simpa using ha
   have e:(if f=1 then DE n-DE n' else if f=2 then n-n' else if f=4 then (if (Cg ds x).2-(Cg ds x').2≠0 then (Cg ds x).2-(Cg ds x').2 else BW ds ps ps') else 0)=0:=by
    rw [if_neg (by omega),if_neg (by omega),if_neg (by omega)]
   rw [e];exact Aa rfl rfl rfl
  subst s8;rw [if_neg (by decide),if_pos rfl] at ha hb;simp only [Bool.and_eq_true,decide_eq_true_eq] at ha hb;obtain ⟨hf,ha1,ha2,ha3⟩:=ha;obtain ⟨hg,hb1,hb2,hb3⟩:=hb;rw [J7 ds 8 0 m0 x0 x [] qs0] at ha1 ha2 ha3;rw [J7 ds 8 0 m0 x0 x' [] qs0] at hb1 hb2 hb3;subst hf;have hp:=(Cr hn 8 m0 x0 qs0 rfl rfl).1;have sa:=Gj ho.dif (n:=m0) (s:=x) (ps:=qs0) hp ha1;have sb:=Gj ho.dif (n:=m0) (s:=x') (ps:=qs0) hp hb1;have la:=PG ho (.mk 8 m0 x0 qs0) x;have lb:=PG ho (.mk 8 m0 x0 qs0) x';have hsame:=NY (ds:=ds) (t:=.mk 8 m0 x0 qs0) (s:=x) (s':=x') ha1;have hal:=MY ho (.mk 8 m0 x0 qs0) x;have hnm:=J6 ho.okd (t:=.mk 8 m0 x0 qs0) (s:=x) ha1;have hCx:=hC x;have hCx':=hC x'
  rw [show (if (4:Int)=1 then DE n-DE n' else if (4:Int)=2 then n-n' else if (4:Int)=4 then (if (Cg ds x).2-(Cg ds x').2≠0 then (Cg ds x).2-(Cg ds x').2 else BW ds ps ps') else 0)=(if (Cg ds x).2-(Cg ds x').2≠0 then (Cg ds x).2-(Cg ds x').2 else BW ds ps ps') from rfl,sa,sb];clear hC sa sb;generalize BN ds (.mk 8 m0 x0 qs0) x=e1 at *;generalize BN ds (.mk 8 m0 x0 qs0) x'=e2 at *;obtain ⟨⟨n1,A1⟩,k1⟩:=e1;obtain ⟨⟨n2,A2⟩,k2⟩:=e2;simp only at ha1 ha2 ha3 hb1 hb2 hb3 la lb hsame hal hnm hCx hCx' ⊢;refine Ah rfl λh=>?_;refine Ak rfl ?_;refine Ag rfl hCx ?_;refine Aj rfl ?_;refine Af rfl (λ_=>hCx') (by simp) ?_;refine Aj rfl ?_;by_cases hk:k1=k2
  case neg =>
   refine Ab rfl (λh=>?_) (λh=>by simp at h;exact absurd h hk);refine Ak rfl ?_;rw [if_pos (by omega)];refine Aa rfl rfl ?_;rw [B2 (by omega) (by omega)]
  refine Ab rfl (λh=>by simp at h;exact absurd hk h) (λh=>?_);clear h;subst hk;have hsame:=hsame rfl;cases hsame;rw [if_neg (by omega)];refine Ak rfl ?_;refine An (λi:Nat=>[(13,.imm (.int .i64 i)),(9,.ref 5 0),(7,.ref 4 0),(6,.ref 3 0),(4,.ref 1 0)])
   (λ_=>[(1,some (.immb 29 6 (dCse ⟨ds,.mk c1 c2 c3 c4,rows⟩))),(3,some (.immb 46 4 (Ao (.mk 4 n x ps)))),(4,some (.immb 46 4 (Ao (.mk g n' x' ps')))),(5,some (.immb 75 2 (CM ⟨n1,A1⟩)))]) [7] (λi=>A1.length-i)
   (λi=>i<=A1.length/\BW ds ps ps'=BW ds (ps.drop i) (ps'.drop i)) 0 ⟨Nat.zero_le _,rfl⟩ ⟨rfl,rfl,rfl,rfl,rfl,trivial⟩ ⟨rfl,rfl,rfl,rfl,trivial⟩ rfl λi hi ih=>?_
  obtain ⟨hi1,hi2⟩:=hi;refine Ak rfl ?_;refine Ab rfl (λh=>?_) (λh=>?_)
  ·simp at h;obtain ⟨t,ht⟩:=As h;obtain ⟨p,hp⟩:=As (l:=ps) (i:=i) (by omega);obtain ⟨q,hq⟩:=As (l:=ps') (i:=i) (by omega);have hO:=Tf ⟨ds,.mk c1 c2 c3 c4,rows⟩ ho p t q (D3 hnm ht) (Kf ha3 ht hp) (Kf hb3 ht hq) (Jt hia.2 hp) (Jt hib.2 hq);simp only at hO;rw [O8 hp hq] at hi2;generalize Cc ds p q=z at *;refine Ak rfl ?_;refine mi rfl (c:=Ao t) (λ_=>⟨by simp,by simpa using A4 ht,by simp⟩) (by simp) ?_;refine Aj rfl ?_;refine mi rfl (c:=Ao p) (λ_=>⟨by simp,by simpa using A4 hp,by simp⟩) (by simp) ?_;refine Aj rfl ?_;refine mi rfl (c:=Ao q) (λ_=>⟨by simp,by simpa using A4 hq,by simp⟩) (by simp) ?_;refine Aj rfl ?_;refine Ag rfl hO ?_;refine mg [] rfl (by simp;rfl) ?_;by_cases hz:z=0
   ·rw [if_neg (by simpa using hz)] at hi2;refine Ab rfl (λh=>by simp at h;exact absurd hz h) (λh=>?_);refine Ak rfl ?_;exact Ad (ih (i+1) (by omega) ⟨by omega,hi2⟩) ⟨A0 (B2 (by omega) (by omega)),rfl,rfl,rfl,rfl,trivial⟩ ⟨rfl,rfl,rfl,rfl,trivial⟩ rfl
   ·rw [if_pos hz] at hi2;refine Ab rfl (λh=>?_) (λh=>by simp at h;exact absurd h hz);refine Ak rfl ?_;rw [hi2];exact Aa rfl rfl rfl
  ·simp at h;refine Aw rfl ?_;refine Ak rfl ?_;rw [hi2,List.drop_eq_nil_of_le (by omega)];simp only [BW];exact Aa rfl rfl rfl
termination_by a=>SizeOf.sizeOf a
decreasing_by
 have:=List.sizeOf_lt_of_mem (List.mem_of_getElem? hp);simp_wf;omega
theorem YY (c:Cse) (ho:OkW c.datas) (a b:Ty) (hn:AI c.datas c.type=true) (ha:LE c.datas c.type a=true) (hb:LE c.datas c.type b=true) (hia:Ea a=true) (hib:Ea b=true)
  (hna:Aq a<=1000000000000000) (hnb:Aq b<=1000000000000000):Al Tryz.prog 23 [.agg (dCse c),.agg (Ao a),.agg (Ao b)] (.bool (Cm c.datas a b)):=by
 have hO:=Tf c ho a c.type b hn ha hb hia hib;have hA:=RM a hna;have hB:=RM b hnb;simp only [Cm];obtain ⟨ds,⟨c1,c2,c3,c4⟩,rows⟩:=c;simp only at hO;generalize Cc ds a b=z at *;generalize Aq a=n at *;generalize Aq b=m at *;obtain ⟨a1,a2,a3,a4⟩:=a;obtain ⟨b1,b2,b3,b4⟩:=b;refine Ae Ai Tryz.func23 (by decide +kernel) rfl [1,2,3,4] rfl rfl ?_;refine Aj rfl ?_;refine Ag rfl hA ?_;refine Aj rfl ?_;refine Ag rfl hB ?_;refine mg [] rfl (by simp;rfl) ?_;by_cases e:n=m
 ·subst e;refine At rfl λh=>?_;refine Ak rfl ?_;refine Ag rfl hO ?_;refine Aj rfl ?_;exact Au ⟨_,rfl,tV (by simp),trivial⟩
 ·refine Ab rfl (λh=>?_) (λh=>by simp at h;omega);refine Ak rfl ?_;exact Au ⟨_,rfl,tV (by simp [e]),trivial⟩
def Th (c:Cse) (v:Ty):Prop:=LE c.datas c.type v=true/\Ea v=true/\Aq v<=1000000000000000
theorem TH (c:Cse) (ho:OkW c.datas) (hn:AI c.datas c.type=true) (a b:Option Ty) (ha:∀v,a=some v->Th c v) (hb:∀v,b=some v->Th c v) :
  Al Tryz.prog 106 [.agg (dCse c),.agg (Cj a),.agg (Cj b)] (.agg (Cj (Gl c.datas a b))):=by
 cases a with
 | none =>
  cases b with
  | none =>
   obtain ⟨ds,⟨c1,c2,c3,c4⟩,rows⟩:=c;refine Ae Ai Tryz.func106 (by decide +kernel) rfl [1,2,3,4] rfl rfl ?_;refine Aj rfl ?_;refine Af (v:=.bool true) rfl (λh=>by simp [Ap] at h) (by simp [Ap]) ?_;refine Du rfl ?_;refine Ah rfl λh=>?_;refine Ak rfl ?_;exact Aa rfl rfl rfl
  | some y =>
   obtain ⟨ds,⟨c1,c2,c3,c4⟩,rows⟩:=c;obtain ⟨y1,y2,y3,y4⟩:=y;refine Ae Ai Tryz.func106 (by decide +kernel) rfl [1,2,3,4] rfl rfl ?_;refine Aj rfl ?_;refine Af (v:=.bool true) rfl (λh=>by simp [Ap] at h) (by simp [Ap]) ?_;refine Du rfl ?_;refine Ah rfl λh=>?_;refine Ak rfl ?_;exact Aa rfl rfl rfl
 | some x =>
 cases b with
 | none =>
  obtain ⟨ds,⟨c1,c2,c3,c4⟩,rows⟩:=c;obtain ⟨x1,x2,x3,x4⟩:=x;refine Ae Ai Tryz.func106 (by decide +kernel) rfl [1,2,3,4] rfl rfl ?_;refine Aj rfl ?_;refine Af (v:=.bool true) rfl (λh=>by simp [Ap] at h) (by simp [Ap]) ?_;refine Du rfl ?_;refine At rfl λh=>?_;refine Ak rfl ?_;exact Aa rfl rfl rfl
 | some y =>
  have hB:=YY c ho y x hn (hb _ rfl).1 (ha _ rfl).1 (hb _ rfl).2.1 (ha _ rfl).2.1 (hb _ rfl).2.2 (ha _ rfl).2.2;have e:Gl c.datas (some x) (some y)=if Cm c.datas y x=true then some y else some x:=rfl
  rw [e];generalize Cm c.datas y x=q at *;obtain ⟨ds,⟨c1,c2,c3,c4⟩,rows⟩:=c;obtain ⟨x1,x2,x3,x4⟩:=x;obtain ⟨y1,y2,y3,y4⟩:=y;refine Ae Ai Tryz.func106 (by decide +kernel) rfl [1,2,3,4] rfl rfl ?_;refine Aj rfl ?_;refine AE rfl hB ?_;refine Du rfl ?_;cases q with
  | true =>
   refine Ah rfl λh=>?_;refine Ak rfl ?_;exact Aa rfl rfl rfl
  | false =>
   refine At rfl λh=>?_;refine Ak rfl ?_;exact Aa rfl rfl rfl
def loS (ds:List Dt) (s s':List Int):Prop:=∀t,EH ds s t≠0->0<EH ds s' t/\EH ds s' t<=EH ds s t
theorem KK {ds:List Dt} {s s':List Int} (h:loS ds s s') (hz:∀t,0<=EH ds s t):∀(l:List Ty) (n n':Int),0<n'->n'<=n->0<AM ds s n l->0<AM ds s' n' l/\AM ds s' n' l<=AM ds s n l
 | [],n,n',h1,h2,_=>by simp only [AM];omega
 | t::r,n,n',h1,h2,h3=>by
  simp only [AM] at h3 ⊢;by_cases e:EH ds s t=0
  ·rw [if_pos e] at h3;omega
  ·rw [if_neg e] at h3 ⊢;obtain ⟨a1,a2⟩:=h t e;rw [if_neg (by omega)];have:=hz t;exact KK h hz r _ _ (by omega) (by omega) h3
theorem O0 {ds:List Dt} {s:List Int}:∀{l:List Ty} {n:Int} {t:Ty},t∈l->EH ds s t=0->AM ds s n l=0
 | x::r,n,t,ht,h=>by
  simp only [AM];rcases List.mem_cons.1 ht with rfl | ht
  ·rw [if_pos h]
  ·by_cases e:EH ds s x=0
   ·rw [if_pos e]
   ·rw [if_neg e];exact O0 ht h
def Sw (ds:List Dt) (s:List Int):Prop:=∀i d,ds[i]?=some d->0<s.getD i 0->∃c∈d.cons,0<AM ds s 1 c.args/\AM ds s 1 c.args<=s.getD i 0
theorem ON {s:List Int} {i:Nat} {n:Int} (h:i<s.length):(s.set i n).getD i 0=n:=by simp [List.getD,h]
theorem OM {s:List Int} {i j:Nat} {n:Int} (h:i≠j):(s.set i n).getD j 0=s.getD j 0:=by simp [List.getD,List.getElem?_set_ne h]
theorem fW {ds:List Dt} {i:Nat} {d:Dt} {c:Cd} (hd:ds[i]?=some d) (hc:c∈d.cons) {p:List Int×Bool} (hs:GS ds p.1) (ha:Sw ds p.1):Sw ds (HH ds i p c.args).1:=by
 simp only [HH]
 split
 ·rename_i h;obtain ⟨h1,h2⟩:=h;have hl:i<p.1.length:=by rw [hs.len];exact (List.getElem?_eq_some_iff.1 hd).1
  generalize hn:AM ds p.1 1 c.args=n at *;have hz:∀t,0<=EH ds p.1 t:=λt=>(Hr hs t).1;have hlo:loS ds p.1 (p.1.set i n):=by
   intro t ht;obtain ⟨so,m,x,ps⟩:=t;have h0:=hz (.mk so m x ps);simp only [EH] at ht h0 ⊢;by_cases h8:so=8
   ·simp only [if_pos h8] at ht h0 ⊢;by_cases e:i=(K1 ds x).toNat
    ·rw [<- e] at ht h0 ⊢;rw [ON hl];omega
    ·rw [OM e];omega
   ·simp only [if_neg h8] at ht h0 ⊢;omega
  show Sw ds (p.1.set i n);intro j e hj hpos;by_cases hij:i=j
  ·subst hij;rw [ON hl] at hpos ⊢;rw [hd] at hj;cases hj;exact ⟨c,hc,(KK hlo hz c.args 1 1 (by omega) (by omega) (by omega)).1,by have:=(KK hlo hz c.args 1 1 (by omega) (by omega) (by omega)).2;omega⟩
  ·rw [OM hij] at hpos ⊢;obtain ⟨c',k1,k2,k3⟩:=ha j e hj hpos;obtain ⟨q1,q2⟩:=KK hlo hz c'.args 1 1 (by omega) (by omega) k2;exact ⟨c',k1,q1,by omega⟩
 ·exact ha
theorem ZL {ds:List Dt} (h4:ds.length<=4) {i:Nat} {d:Dt} (hd:ds[i]?=some d):∀{l:List Cd} {p:List Int×Bool},(∀c∈l,c∈d.cons/\c.args.length<=3)->GS ds p.1->Sw ds p.1->Sw ds (Is ds i p l).1
 | [],p,_,_,ha=>ha
 | c::r,p,hl,hs,ha=>by
  have hi:=(List.getElem?_eq_some_iff.1 hd).1;simp only [Is];exact ZL h4 hd (λx hx=>hl x (by simp [hx])) (Mn h4 hi (hl c (by simp)).2 hs).1 (fW hd (hl c (by simp)).1 hs ha)
theorem SH {ds:List Dt} (h4:ds.length<=4) (h3:∀d∈ds,∀c∈d.cons,c.args.length<=3):∀{l:List Dt} {p:List Int×Bool} {i:Nat},l=ds.drop i->GS ds p.1->Sw ds p.1->Sw ds (CG ds p i l).1
 | [],p,i,_,_,ha=>ha
 | d::r,p,i,hl,hs,ha=>by
  have hd:ds[i]?=some d:=by
   have:=congrArg (·[0]?) hl;simpa using this.symm
  have hr:r=ds.drop (i+1):=by
   have:=congrArg List.tail hl;simpa using this
  have hi:=(List.getElem?_eq_some_iff.1 hd).1;have hdm:=List.mem_of_getElem? hd;simp only [CG];exact SH h4 h3 hr (UN h4 hi (h3 d hdm) hs).1 (ZL h4 hd (λc hc=>⟨hc,h3 d hdm c hc⟩) hs ha)
def rM (ds:List Dt) (s:List Int):Prop:=∀i d,ds[i]?=some d->∀c∈d.cons,0<AM ds s 1 c.args->s.getD i 0≠0/\s.getD i 0<=AM ds s 1 c.args
theorem WP {ds:List Dt} {i:Nat}:∀{l:List Cd} {p:List Int×Bool},(Is ds i p l).2=false->p.2=false/\(Is ds i p l)=p/\∀c∈l,¬(0<AM ds p.1 1 c.args/\(p.1.getD i 0=0\/AM ds p.1 1 c.args<p.1.getD i 0))
 | [],p,h=>⟨h,rfl,λc hc=>by cases hc⟩
 | c::r,p,h=>by
  simp only [Is] at h ⊢;obtain ⟨h1,h2,h3⟩:=WP h;by_cases hc:0<AM ds p.1 1 c.args/\(p.1.getD i 0=0\/AM ds p.1 1 c.args<p.1.getD i 0)
  ·simp only [HH,if_pos hc] at h1;cases h1
  ·have e:HH ds i p c.args=p:=by simp only [HH,if_neg hc]
   rw [e] at h1 h2 h3 ⊢;exact ⟨h1,h2,λx hx=>by rcases List.mem_cons.1 hx with rfl | hx;exact hc;exact h3 x hx⟩
theorem Qc {ds:List Dt}:∀{l:List Dt} {p:List Int×Bool} {i:Nat},(CG ds p i l).2=false->p.2=false/\CG ds p i l=p/\∀k d,l[k]?=some d->∀c∈d.cons,¬(0<AM ds p.1 1 c.args/\(p.1.getD (i+k) 0=0\/AM ds p.1 1 c.args<p.1.getD (i+k) 0))
 | [],p,i,h=>⟨h,rfl,λk d hd=>by simp at hd⟩
 | d::r,p,i,h=>by
  simp only [CG] at h ⊢;obtain ⟨h1,h2,h3⟩:=Qc h;obtain ⟨k1,k2,k3⟩:=WP h1;rw [k2] at h1 h2 h3 ⊢;refine ⟨k1,h2,λk e he=>?_⟩;cases k with
  | zero=>simp at he;subst he;simpa using k3
  | succ k=>have:=h3 k e (by simpa using he);rw [show i+(k+1)=i+1+k by omega];exact this
theorem Wi {ds:List Dt} (ho:OkW ds):∀(f:Nat) (s:List Int),GS ds s->Sw ds s->JD s<f->Sw ds (Ko ds f s)/\rM ds (Ko ds f s)
 | 0,s,_,_,h=>by omega
 | f+1,s,hs,ha,h=>by
  have h3:∀d∈ds,∀c∈d.cons,c.args.length<=3:=λd hd=>(ho.lim d hd).2;obtain ⟨b1,b2,b3⟩:=Nv ho.d4 (l:=ds) (p:=(s,false)) (i:=0) (by simp) h3 hs;have b4:=SH ho.d4 h3 (l:=ds) (p:=(s,false)) (i:=0) rfl hs ha;simp only [Ko];cases hb:(CG ds (s,false) 0 ds).2 with
  | true =>
   rcases b3 hb with h' | h'
   ·cases h'
   ·simp only [cond_true];exact Wi ho f _ b1 b4 (by simp only at h';omega)
  | false =>
   simp only [cond_false];refine ⟨b4,?_⟩;obtain ⟨_,e,h5⟩:=Qc hb;rw [e];intro i d hd c hc hp;have:=h5 i d hd c hc;simp only [Nat.zero_add] at this;have hz:0<=s.getD i 0:=by
    rcases MK (s:=s) (i:=i) with hm | hm
    ·exact (hs.le _ hm).1
    ·omega
   constructor
   ·intro e;exact this ⟨hp,.inl e⟩
   ·apply Int.not_lt.1;intro e;exact this ⟨hp,.inr e⟩
theorem lZ {ds:List Dt} (ho:OkW ds):Sw ds (Do ds)/\rM ds (Do ds):=by
 refine Wi ho _ _ (KI ds) (λi d hd h=>?_) ?_
 ·have:(List.replicate ds.length (0:Int)).getD i 0=0:=by
   rcases MK (s:=List.replicate ds.length (0:Int)) (i:=i) with hm | hm
   ·exact List.eq_of_mem_replicate hm
   ·exact hm
  omega
 ·have:=U3 (List.replicate ds.length 0) (λx hx=>by rw [List.eq_of_mem_replicate hx];omega);have:=ho.d4;simp at *;omega
def Lj (ds:List Dt) (t h:Ty):Prop:=h∈A6 ds t\/(AK t=1/\∃n,h = .mk 1 n [] [] /\ -1000000000<=n/\n<=1000000000)
mutual
def Ed (ds:List Dt):Mi->Prop
 | .mk ty _ hd ks=>(AK hd=0->ks=[])/\(AK hd≠0->Lj ds ty hd/\ks.map Mi.ty=(AZ ds ty (C5 hd)).1)/\WR ds ks
def WR (ds:List Dt):List Mi->Prop
 | []=>True
 | k::r=>Ed ds k/\WR ds r
end
theorem TU (ds:List Dt):∀l:List Mi,WR ds l↔∀k∈l,Ed ds k
 | []=>by simp [WR]
 | k::r=>by simp [WR,TU ds r]
theorem BI {ds:List Dt} {m:Mi}:Ed ds m↔(AK m.hd=0->m.ks=[])/\(AK m.hd≠0->Lj ds m.ty m.hd/\m.ks.map Mi.ty=(AZ ds m.ty (C5 m.hd)).1)/\∀k∈m.ks,Ed ds k:=by
 obtain ⟨ty,nt,hd,ks⟩:=m;simp only [Ed,TU,Mi.ty,Mi.hd,Mi.ks]
mutual
def JG:Mi->Nat
 | .mk _ _ _ ks=>GD ks+1
def GD:List Mi->Nat
 | []=>0
 | k::r=>max (JG k) (GD r)
end
theorem Rb {l:List Mi} {n:Nat}:GD l<=n↔∀k∈l,JG k<=n:=by
 induction l with
 | nil=>simp [GD]
 | cons k r ih=>simp only [GD,List.mem_cons,forall_eq_or_imp,<- ih];omega
theorem HY (m:Mi):JG m=GD m.ks+1:=by obtain ⟨a,b,c,d⟩:=m;rfl
theorem PA {m k:Mi} (h:k∈m.ks):JG k+1<=JG m:=by
 rw [HY m];have:=(Rb (l:=m.ks) (n:=GD m.ks)).1 (Nat.le_refl _) k h;omega
theorem TS (ds:List Dt) (t:Ty):Ed ds (Ay t):=BI.2 ⟨λ_=>rfl,λh=>absurd rfl h,λk hk=>by simp [Ay,Mi.ks] at hk⟩
theorem jZ (l:List Ty):(l.map Ay).map Mi.ty=l:=by
 rw [List.map_map]
 conv=>rhs;rw [<- List.map_id l]
 exact List.map_congr_left λt _=>rfl
theorem M2 {ds:List Dt} {t h:Ty} (hh:Lj ds t h):AK h≠0/\B4 h=[]:=by
 rcases hh with hh | ⟨_,n,rfl,_⟩
 ·exact ⟨(Bs hh).2,(Bs hh).1⟩
 ·exact ⟨by simp [AK],rfl⟩
theorem Oa {ds:List Dt} {m:Mi} {h:Ty} (hh:Lj ds m.ty h):Ed ds (AY ds m h):=by
 refine BI.2 ⟨λe=>absurd e (M2 hh).1,λ_=>⟨hh,jZ _⟩,λk hk=>?_⟩;simp only [AY,Mi.ks,List.mem_map] at hk;obtain ⟨t,_,rfl⟩:=hk;exact TS ds t
theorem Da {ds:List Dt} {m:Mi} (h:Ed ds m):Ed ds (Ac ds m):=by
 unfold Ac
 split
 ·exact h
 ·split
  ·rename_i x hx;exact Oa (.inl (DG hx).1)
  ·exact h
theorem T6 (ds:List Dt) (m:Mi) (h:Ty):JG (AY ds m h)<=2:=by
 rw [HY];have:GD (AY ds m h).ks<=1:=Rb.2 λk hk=>by
  simp only [AY,Mi.ks,List.mem_map] at hk;obtain ⟨t,_,rfl⟩:=hk;simp [Ay,JG,GD]
 omega
theorem OK (ds:List Dt) (m:Mi):JG (Ac ds m)<=max (JG m) 2:=by
 unfold Ac
 split
 ·omega
 ·split
  ·rename_i x hx;have:=T6 ds m x;omega
  ·omega
theorem KM {ds:List Dt} {m:Mi}:∀{l:List Ty} {b:Option (Ty×Int)},C0 ds m b l=none->b=none/\∀h∈l,¬(0<Bf ds m h/\Bj m.nt h=false)
 | [],b,h=>⟨h,λx hx=>by cases hx⟩
 | x::r,b,h=>by
  simp only [C0] at h;obtain ⟨h1,h2⟩:=KM h;by_cases hc:0<Bf ds m x/\Bj m.nt x=false/\DR b (Bf ds m x)=true
  ·rw [if_pos hc] at h1;cases h1
  ·rw [if_neg hc] at h1;subst h1;refine ⟨rfl,λy hy=>?_⟩;rcases List.mem_cons.1 hy with rfl | hy
   ·intro h';exact hc ⟨h'.1,h'.2,rfl⟩
   ·exact h2 y hy
theorem FE {ds:List Dt} {m:Mi}:∀{l:List Ty} {b:Option (Ty×Int)} {p:Ty×Int},C0 ds m b l=some p ->
  (b=some p\/(p.1∈l/\p.2=Bf ds m p.1/\0<p.2/\Bj m.nt p.1=false))/\(∀b',b=some b'->p.2<=b'.2)/\(∀h∈l,0<Bf ds m h->Bj m.nt h=false->p.2<=Bf ds m h)
 | [],b,p,h=>by
  simp only [C0] at h;subst h;exact ⟨.inl rfl,λb' hb=>by cases hb;exact Int.le_refl _,λx hx=>by cases hx⟩
 | x::r,b,p,h=>by
  simp only [C0] at h;obtain ⟨h1,h2,h3⟩:=FE h;by_cases hc:0<Bf ds m x/\Bj m.nt x=false/\DR b (Bf ds m x)=true
  ·rw [if_pos hc] at h1 h2;have h2x:p.2<=Bf ds m x:=h2 _ rfl;refine ⟨?_,λb' hb=>?_,λy hy h0 hn=>?_⟩
   ·rcases h1 with h1 | h1
    ·cases h1;exact .inr ⟨by simp,rfl,hc.1,hc.2.1⟩
    ·exact .inr ⟨by simp [h1.1],h1.2⟩
   ·subst hb;have:=of_decide_eq_true hc.2.2;omega
   ·rcases List.mem_cons.1 hy with rfl | hy
    ·exact h2x
    ·exact h3 y hy h0 hn
  ·rw [if_neg hc] at h1 h2;refine ⟨?_,h2,λy hy h0 hn=>?_⟩
   ·rcases h1 with h1 | h1
    ·exact .inl h1
    ·exact .inr ⟨by simp [h1.1],h1.2⟩
   ·rcases List.mem_cons.1 hy with rfl | hy
    ·cases b with
     | none=>exact absurd ⟨h0,hn,rfl⟩ hc
     | some b' =>
      have:=h2 b' rfl;have hd:¬(Bf ds m y<b'.2):=λhl=>hc ⟨h0,hn,decide_eq_true hl⟩;omega
    ·exact h3 y hy h0 hn
theorem FO {ds:List Dt} (ho:OkW ds) {t h:Ty} (hn:AI ds t=true) (hh:h∈A6 ds t) :
  (AK t=8/\AK h=4/\(AZ ds t (C5 h)).2=true)\/(AK t=2/\∃n,h = .mk 2 n [] []/\(n=0\/n=1))\/(AK t=3/\h = .mk 3 0 [] []):=by
 obtain ⟨so,n,x,ps⟩:=t;simp only [A6] at hh
 split at hh
 ·rename_i e;subst e;rcases List.mem_cons.1 hh with rfl | hh
  ·exact .inr (.inl ⟨rfl,0,rfl,.inl rfl⟩)
  ·rw [List.mem_singleton.1 hh];exact .inr (.inl ⟨rfl,1,rfl,.inr rfl⟩)
 ·split at hh
  ·rename_i e;subst e;rw [List.mem_singleton.1 hh];exact .inr (.inr ⟨rfl,rfl⟩)
  ·split at hh
   ·rename_i e;subst e
    split at hh
    ·rename_i d hd;obtain ⟨c,hc,rfl⟩:=List.mem_map.1 hh;obtain ⟨k,hk,e⟩:=List.getElem_of_mem hc;have:=RG ho (n:=n) (ps:=ps) hd (k:=k) (c:=c) (by rw [List.getElem?_eq_getElem hk,e]);exact .inl ⟨rfl,rfl,by rw [show C5 (.mk 4 0 c.name [])=c.name from rfl,this]⟩
    ·cases hh
   ·cases hh
theorem Q9 {ds:List Dt} (ho:OkW ds) {t h:Ty} {vs:List Ty} (hn:AI ds t=true) (hh:Lj ds t h) (hl:(AZ ds t (C5 h)).1.length=vs.length) (hv:Jf ds (AZ ds t (C5 h)).1 vs=true):LE ds t (CB h vs)=true:=by
 rw [Jg];rcases hh with hh | ⟨h1,n,rfl,_⟩
 ·rcases FO ho hn hh with ⟨h1,h2,h3⟩ | ⟨h1,n,rfl,_⟩ | ⟨h1,rfl⟩
  ·obtain ⟨so,m,x,ps⟩:=t;obtain ⟨f,k,y,qs⟩:=h;simp only [AK,C5] at *;subst h1;subst h2;simp [LC,CB,hl,h3,hv]
  ·obtain ⟨so,m,x,ps⟩:=t;simp only [AK] at h1;subst h1;simp [LC,CB]
  ·obtain ⟨so,m,x,ps⟩:=t;simp only [AK] at h1;subst h1;simp [LC,CB]
 ·obtain ⟨so,m,x,ps⟩:=t;simp only [AK] at h1;subst h1;simp [LC,CB]
theorem VH {ds:List Dt} (ho:OkW ds) {t h:Ty} (hn:AI ds t=true) (hh:Lj ds t h) {vs:List Ty} (hv:H2 vs=true):Ea (CB h vs)=true/\Aq (CB h vs)=1+Am vs:=by
 obtain ⟨f,k,y,qs⟩:=h;refine ⟨?_,by simp [CB,Aq]⟩;simp only [CB,Ea,hv,Bool.and_true];refine decide_eq_true ?_;rcases hh with hh | ⟨_,n,e,hb⟩
 ·have hk:∀x∈A6 ds t,∀a b c d,x = .mk a b c d->0<=b/\b<=1:=by
   intro x hx a b c d e;rcases FO ho hn hx with ⟨h1,h2,h3⟩ | ⟨h1,n,h2,h3⟩ | ⟨h1,h2⟩
   ·subst e;obtain ⟨so,m,z,ps⟩:=t;simp only [AK] at h1;subst h1;simp only [A6] at hx;rw [if_neg (by decide),if_neg (by decide),if_pos trivial] at hx
    split at hx
    ·obtain ⟨q,_,e⟩:=List.mem_map.1 hx;cases e;omega
    ·cases hx
   ·rw [e] at h2;cases h2;omega
   ·rw [e] at h2;cases h2;omega
  have:=hk _ hh _ _ _ _ rfl;omega
 ·cases e;omega
theorem FN {ds:List Dt} {f:Nat} {m:Mi} (h:AK m.hd≠0):AT ds (f+1) m=(Bu (AT ds f) m.ks).map (·.map (CB m.hd)):=by
 show (if AK m.hd=0 then _ else _)=_;rw [if_neg h]
theorem Hz {ds:List Dt} {f:Nat} {m:Mi} (h:AK m.hd=0) (h1:AK m.ty=1):AT ds (f+1) m=some (some (CE m.nt)):=by
 show (if AK m.hd=0 then _ else _)=_;rw [if_pos h,if_pos h1]
theorem Hy {ds:List Dt} {f:Nat} {m:Mi} (h:AK m.hd=0) (h1:AK m.ty=4\/AK m.ty=5\/AK m.ty=6\/AK m.ty=7):AT ds (f+1) m=some (some (.mk 5 0 [] [])):=by
 show (if AK m.hd=0 then _ else _)=_;rw [if_pos h,if_neg (by omega),if_pos h1]
theorem Ej {ds:List Dt} {f:Nat} {m:Mi} (h:AK m.hd=0) (h1:¬AK m.ty=1) (h4:¬(AK m.ty=4\/AK m.ty=5\/AK m.ty=6\/AK m.ty=7)):AT ds (f+1) m=match AH ds m with
  | none=>some none
  | some h=>AT ds (f+1) (AY ds m h):=by
 have e:AT ds (f+1) m=match AH ds m with
  | none=>some none
  | some h=>(Bu (AT ds f) (AY ds m h).ks).map (·.map (CB h)):=by
  show (if AK m.hd=0 then _ else _)=_;rw [if_pos h,if_neg h1,if_neg h4]
  try rfl
 rw [e];cases hq:AH ds m with
 | none=>rfl
 | some x=>exact (FN (m:=AY ds m x) (Bs (Gp hq)).2).symm
abbrev D1 (ds:List Dt) (t:Ty):Int:=EH ds (Do ds) t
theorem EI {ds:List Dt} (ho:OkW ds) (t:Ty):0<=D1 ds t/\D1 ds t<=256:=by
 have h:=Hr (JO ho) t;have h4:=bR (n:=N8 (Do ds)) (by have:=Kg (Do ds);rw [(JO ho).len] at this;have:=ho.d4;omega);simp only [D1];omega
theorem Ny {ds:List Dt} (ho:OkW ds) {l:List Ty} (h:l.length<=3):0<=AM ds (Do ds) 1 l/\AM ds (Do ds) 1 l<=769:=by
 have hb:=Fc (JO ho) l 1 (by omega);have h4:=bR (n:=N8 (Do ds)) (by have:=Kg (Do ds);rw [(JO ho).len] at this;have:=ho.d4;omega);generalize 4 ^ N8 (Do ds)=M at *;have:(l.length:Int)*(M:Int)<=3*256:=Int.mul_le_mul (by omega) (by omega) (by omega) (by omega);omega
theorem MC {ds:List Dt} {g:Mi->Option (Option Ty)}:∀{L:List Ty},(∀t∈L,∃v,g (Ay t)=some (some v)/\(Aq v:Int)=D1 ds t/\LE ds t v=true/\Ea v=true)->(∀t∈L,D1 ds t≠0) ->
  ∃vs,Bu g (L.map Ay)=some (some vs)/\L.length=vs.length/\Jf ds L vs=true/\H2 vs=true/\∀n,AM ds (Do ds) n L=n+Am vs
 | [],_,_=>⟨[],rfl,rfl,rfl,rfl,λn=>by simp [AM,Am]⟩
 | t::r,h,hz=>by
  obtain ⟨v,v1,v2,v3,v4⟩:=h t (by simp);obtain ⟨vs,w1,w2,w3,w4,w5⟩:=MC (L:=r) (λx hx=>h x (by simp [hx])) (λx hx=>hz x (by simp [hx]));refine ⟨v::vs,?_,by simp [w2],by simp [Jf,v3,w3],by simp [H2,v4,w4],λn=>?_⟩
  ·simp only [List.map_cons,Bu,v1,w1]
  ·have:=hz t (by simp);simp only [AM,Am];rw [if_neg this,w5];simp only [D1] at v2;omega
theorem Tz {ds:List Dt} {g:Mi->Option (Option Ty)}:∀{L:List Ty},(∀t∈L,∃r,g (Ay t)=some r/\(D1 ds t=0->r=none))->(∃t∈L,D1 ds t=0)->Bu g (L.map Ay)=some none
 | [],_,⟨t,ht,_⟩=>by cases ht
 | x::r,h,⟨t,ht,h0⟩=>by
  obtain ⟨q,q1,q2⟩:=h x (by simp);simp only [List.map_cons,Bu,q1];cases q with
  | none=>rfl
  | some v =>
   simp only;rcases List.mem_cons.1 ht with rfl | ht
   ·cases q2 h0
   ·rw [Tz (L:=r) (λy hy=>h y (by simp [hy])) ⟨t,ht,h0⟩]
theorem M3 (nt:List Ty):∀(f:Nat) (i:Int),0<=i->∃n,JC nt f i = .mk 1 n [] [] /\ -(i+f)<=n/\n<=i+f
 | 0,i,hi=>⟨i,rfl,by omega,by omega⟩
 | f+1,i,hi=>by
  simp only [JC]
  split
  ·exact ⟨i,rfl,by omega,by omega⟩
  ·split
   ·exact ⟨0-i,rfl,by omega,by omega⟩
   ·obtain ⟨n,h1,h2,h3⟩:=M3 nt f (i+1) (by omega);exact ⟨n,h1,by omega,by omega⟩
theorem UL {ds:List Dt} (ho:OkW ds) {m:Mi} (hn:AI ds m.ty=true) (h8:AK m.ty=8) :
  (D1 ds m.ty=0->∀h∈A6 ds m.ty,¬0<Bf ds m h)/\(D1 ds m.ty≠0->(∃h∈A6 ds m.ty,0<Bf ds m h/\Bf ds m h<=D1 ds m.ty)/\∀h∈A6 ds m.ty,0<Bf ds m h->D1 ds m.ty<=Bf ds m h):=by
 obtain ⟨⟨so,n,x,ps⟩,nt,hdm,ks⟩:=m;simp only [AK,Mi.ty] at *;subst h8;obtain ⟨hp,d,hd⟩:=Cr hn 8 n x ps rfl rfl;obtain ⟨f1,f2⟩:=lZ ho;have hdv:(K1 ds x).toNat=(Ba x 0 ds).toNat:=by simp [K1,hp]
 have hone:D1 ds (.mk 8 n x ps)=(Do ds).getD (Ba x 0 ds).toNat 0:=by simp only [D1,EH,if_true];rw [hdv]
 have hH:A6 ds (.mk 8 n x ps)=d.cons.map D2:=by
  rw [show A6 ds (.mk 8 n x ps)=(match ds[(Ba x 0 ds).toNat]? with | some d=>d.cons.map λc=>Ty.mk 4 0 c.name [] | none=>[]) from rfl,hd];rfl
 have hc:∀c∈d.cons,Bf ds (.mk (.mk 8 n x ps) nt hdm ks) (D2 c)=AM ds (Do ds) 1 c.args:=by
  intro c hc;obtain ⟨k,hk,e⟩:=List.getElem_of_mem hc;simp only [Bf,D2,AK,if_true,C5,Mi.ty];rw [RG ho hd (k:=k) (c:=c) (by rw [List.getElem?_eq_getElem hk,e])]
 have h0:=(EI ho (.mk 8 n x ps)).1;rw [hone] at h0 ⊢;rw [hH];constructor
 ·intro hz h hh hpos;obtain ⟨c,hcm,rfl⟩:=List.mem_map.1 hh;rw [hc c hcm] at hpos;exact (f2 _ d hd c hcm hpos).1 hz
 ·intro hz;constructor
  ·obtain ⟨c,hcm,c1,c2⟩:=f1 _ d hd (by omega);exact ⟨D2 c,List.mem_map_of_mem hcm,by rw [hc c hcm];exact c1,by rw [hc c hcm];exact c2⟩
  ·intro h hh hpos;obtain ⟨c,hcm,rfl⟩:=List.mem_map.1 hh;rw [hc c hcm] at hpos ⊢;exact (f2 _ d hd c hcm hpos).2
def rB (ds:List Dt) (t:Ty) (r:Option Ty):Prop:=(D1 ds t=0->r=none)/\(D1 ds t≠0->∃v,r=some v/\(Aq v:Int)=D1 ds t/\LE ds t v=true/\Ea v=true)
theorem MU {ds:List Dt} (ho:OkW ds) {m:Mi} {h:Ty} (hn:AI ds m.ty=true) (hh:Lj ds m.ty h):Bf ds m h=AM ds (Do ds) 1 (AZ ds m.ty (C5 h)).1:=by
 unfold Bf
 split
 ·rfl
 ·rename_i h4;have:AK m.ty≠8:=by
   rcases hh with hh | ⟨h1,_⟩
   ·rcases FO ho hn hh with ⟨_,h2,_⟩ | ⟨h1,_⟩ | ⟨h1,_⟩
    ·exact absurd h2 h4
    ·omega
    ·omega
   ·omega
  rw [FV this];rfl
theorem SM {ds:List Dt} (ho:OkW ds):∀{l:List Ty} {n:Int},0<AM ds (Do ds) n l->n<=AM ds (Do ds) n l/\∀t∈l,n+D1 ds t<=AM ds (Do ds) n l
 | [],n,h=>⟨by simp [AM],λt ht=>by cases ht⟩
 | x::r,n,h=>by
  simp only [AM] at h ⊢;by_cases e:EH ds (Do ds) x=0
  ·rw [if_pos e] at h;omega
  ·rw [if_neg e] at h ⊢;obtain ⟨h1,h2⟩:=SM ho h;have hx:=(EI ho x).1;simp only [D1] at *;refine ⟨by omega,λt ht=>?_⟩;rcases List.mem_cons.1 ht with rfl | ht
   ·omega
   ·have:=h2 t ht;omega
theorem HX {ds:List Dt} (ho:OkW ds) {f:Nat} {m:Mi} {h:Ty} (hn:AI ds m.ty=true) (hh:Lj ds m.ty h) (ih:∀t,t∈(AZ ds m.ty (C5 h)).1->∃r,AT ds f (Ay t)=some r/\rB ds t r) :
  ∃r,AT ds (f+1) (AY ds m h)=some r/\(Bf ds m h=0->r=none)/\(0<Bf ds m h->∃v,r=some v/\(Aq v:Int)=Bf ds m h/\LE ds m.ty v=true/\Ea v=true):=by
 have hk:=M2 hh;have e1:AT ds (f+1) (AY ds m h)=(Bu (AT ds f) ((AZ ds m.ty (C5 h)).1.map Ay)).map (·.map (CB h)):=by
  rw [FN (m:=AY ds m h) hk.1];rfl
 rw [e1];clear e1;have hcost:=MU ho hn hh;have hlen:=ES ho m.ty (C5 h);rw [hcost];by_cases hz:∃t∈(AZ ds m.ty (C5 h)).1,D1 ds t=0
 ·have hno:=Tz (ds:=ds) (g:=AT ds f) (λt ht=>let ⟨r,r1,r2,_⟩:=ih t ht;⟨r,r1,r2⟩) hz;obtain ⟨t,ht,h0⟩:=hz;rw [hno,O0 ht h0];exact ⟨none,rfl,λ_=>rfl,λh=>by omega⟩
 ·have hz:∀t∈(AZ ds m.ty (C5 h)).1,D1 ds t≠0:=λt ht e=>hz ⟨t,ht,e⟩;obtain ⟨vs,w1,w2,w3,w4,w5⟩:=MC (ds:=ds) (g:=AT ds f) (λt ht=>let ⟨r,r1,_,r3⟩:=ih t ht;let ⟨v,v1,v2⟩:=r3 (hz t ht);⟨v,by rw [r1,v1],v2⟩) hz;have hi:=VH ho hn hh w4;rw [w1,w5 1];exact ⟨some (CB h vs),rfl,λh=>by omega,λ_=>⟨_,rfl,by rw [hi.2];omega,Q9 ho hn hh w2 w3,hi.1⟩⟩
theorem Kl {ds:List Dt} (ho:OkW ds):∀(k:Nat) (t:Ty),AI ds t=true->Qh t=true->D1 ds t<=k->∀f,k+2<=f->∃r,AT ds f (Ay t)=some r/\rB ds t r:=by
 intro k
 induction k with
 | zero =>
  intro t hn hs hk f hf;obtain ⟨f,rfl⟩:∃g,f=g+1:=⟨f-1,by omega⟩
  have hb:=(EI ho t).1;have h8:AK t=8:=by
   obtain ⟨so,n,x,ps⟩:=t;by_cases e:so=8
   ·exact e
   ·simp only [D1,EH,if_neg e] at hk;omega
  have hc:=(UL ho (m:=Ay t) hn h8).1 (by show D1 ds t=0;omega);have hsm:AH ds (Ay t)=none:=by
   cases hq:AH ds (Ay t) with
   | none=>rfl
   | some h =>
    simp only [AH,Option.map_eq_some_iff] at hq;obtain ⟨p,hp,rfl⟩:=hq;obtain ⟨q1,_,_⟩:=FE hp;rcases q1 with q1 | ⟨q1,q2,q3,_⟩
    ·cases q1
    ·exact absurd (by omega) (hc _ q1)
  refine ⟨none,?_,λ_=>rfl,λh=>absurd (by omega) h⟩;rw [Ej (m:=Ay t) rfl (show ¬AK t=1 by omega) (show ¬(AK t=4\/AK t=5\/AK t=6\/AK t=7) by omega),hsm]
 | succ k ih =>
  intro t hn hs hk f hf;obtain ⟨f,rfl⟩:∃g,f=g+1:=⟨f-1,by omega⟩
  have hs':=of_decide_eq_true hs;have h1:AK t≠8->D1 ds t=1:=λh=>by obtain ⟨so,n,x,ps⟩:=t;simp only [D1,EH];exact if_neg h
  by_cases t1:AK t=1
  ·have ho1:=h1 (by omega);refine ⟨some (CE []),?_,λh=>by omega,λ_=>⟨_,rfl,by rw [ho1];rfl,?_,rfl⟩⟩
   ·exact Hz (m:=Ay t) rfl t1
   ·obtain ⟨so,n,x,ps⟩:=t;simp only [AK] at t1;subst t1;rfl
  by_cases t4:AK t=4\/AK t=5\/AK t=6\/AK t=7
  ·have ho1:=h1 (by omega);refine ⟨some (.mk 5 0 [] []),?_,λh=>by omega,λ_=>⟨_,rfl,by rw [ho1];rfl,?_,rfl⟩⟩
   ·exact Hy (m:=Ay t) rfl t4
   ·obtain ⟨so,n,x,ps⟩:=t;simp only [AK] at t4;simp only [LE];rw [if_neg (by omega),if_neg (by omega),if_neg (by omega),if_neg (by omega)];rfl
  have hun:=Ej (ds:=ds) (f:=f) (m:=Ay t) rfl t1 t4;rw [hun];have hall:∀h,h∈A6 ds t->0<Bf ds (Ay t) h->Bf ds (Ay t) h<=k+1->∃r,AT ds (f+1) (AY ds (Ay t) h)=some r/\(Bf ds (Ay t) h=0->r=none)/\(0<Bf ds (Ay t) h->∃v,r=some v/\(Aq v:Int)=Bf ds (Ay t) h/\LE ds t v=true/\Ea v=true):=by
   intro h hh h0 hc;refine HX ho (m:=Ay t) hn (.inl hh) λa ha=>?_;have ha:a∈(AZ ds t (C5 h)).1:=ha;have hna:=C4 ho.okd (t:=t) (s:=C5 h);rw [D4,List.all_eq_true] at hna;rw [MU ho (m:=Ay t) hn (.inl hh)] at h0 hc;have:=(SM ho h0).2 a ha;exact ih a (hna a ha) (KC ho a ha) (by omega) f (by omega)
  have hpk:∀h,AH ds (Ay t)=some h->h∈A6 ds t/\0<Bf ds (Ay t) h/\∀h'∈A6 ds t,0<Bf ds (Ay t) h'->Bf ds (Ay t) h<=Bf ds (Ay t) h':=λh hq=>by
   simp only [AH,Option.map_eq_some_iff] at hq;obtain ⟨p,hp,rfl⟩:=hq;obtain ⟨q1,_,q3⟩:=FE hp;rcases q1 with q1 | ⟨q1,q2,q4,_⟩
   ·cases q1
   ·exact ⟨q1,by omega,λh' hh' h0=>by rw [<- q2];exact q3 h' hh' h0 rfl⟩
  have hpn:AH ds (Ay t)=none->∀h'∈A6 ds t,¬0<Bf ds (Ay t) h':=λhq h' hh' h0=>by
   simp only [AH,Option.map_eq_none_iff] at hq;exact (KM hq).2 h' hh' ⟨h0,rfl⟩
  by_cases t8:AK t=8
  ·have hc:=UL ho (m:=Ay t) hn t8;have hc1:D1 ds t=0->∀h∈A6 ds t,¬0<Bf ds (Ay t) h:=hc.1;have hc2:D1 ds t≠0->(∃h∈A6 ds t,0<Bf ds (Ay t) h/\Bf ds (Ay t) h<=D1 ds t)/\∀h∈A6 ds t,0<Bf ds (Ay t) h->D1 ds t<=Bf ds (Ay t) h:=hc.2;cases hq:AH ds (Ay t) with
   | none =>
    refine ⟨none,rfl,λ_=>rfl,λhz=>?_⟩;obtain ⟨⟨h,h1,h2,_⟩,_⟩:=hc2 hz;exact absurd h2 (hpn hq h h1)
   | some h =>
    obtain ⟨p1,p2,p3⟩:=hpk h hq;have hz:D1 ds t≠0:=λe=>hc1 e h p1 p2;obtain ⟨⟨h0,a1,a2,a3⟩,a4⟩:=hc2 hz;have:=p3 h0 a1 a2;have:=a4 h p1 p2;obtain ⟨r,r1,_,r3⟩:=hall h p1 p2 (by omega);obtain ⟨v,v1,v2,v3⟩:=r3 p2;exact ⟨r,r1,λe=>absurd e hz,λ_=>⟨v,v1,by omega,v3⟩⟩
  ·have ho1:=h1 t8;have hcost:∀h∈A6 ds t,Bf ds (Ay t) h=1:=λh hh=>by
    unfold Bf;rw [if_neg];intro h4;rcases FO ho hn hh with ⟨h8,_⟩ | ⟨_,n,rfl,_⟩ | ⟨_,rfl⟩
    ·exact t8 h8
    ·simp [AK] at h4
    ·simp [AK] at h4
   have hne:∃h,h∈A6 ds t:=by
    obtain ⟨so,n,x,ps⟩:=t;simp only [AK] at *;by_cases e:so=2
    ·subst e;exact ⟨.mk 2 0 [] [],by simp [A6]⟩
    ·have e:so=3:=by omega
     subst e;exact ⟨.mk 3 0 [] [],by simp [A6]⟩
   cases hq:AH ds (Ay t) with
   | none =>
    obtain ⟨h,hh⟩:=hne;exact absurd (by rw [hcost h hh];omega) (hpn hq h hh)
   | some h =>
    obtain ⟨p1,p2,p3⟩:=hpk h hq;have hch:=hcost h p1;obtain ⟨r,r1,_,r3⟩:=hall h p1 p2 (by omega);obtain ⟨v,v1,v2,v3⟩:=r3 p2;exact ⟨r,r1,λe=>by omega,λ_=>⟨v,v1,by omega,v3⟩⟩
theorem jD {ds:List Dt} (ho:OkW ds) {f:Nat} (hf:770<=f) {m:Mi} (hn:AI ds m.ty=true) (hs:Qh m.ty=true) (hnt:m.nt.length<=1000000) (hh:AK m.hd=0) :
  ∃r,AT ds (f+1) m=some r/\∀v,r=some v->Aq v<=769/\LE ds m.ty v=true/\Ea v=true:=by
 have hs':=of_decide_eq_true hs;by_cases t1:AK m.ty=1
 ·refine ⟨_,Hz hh t1,λv hv=>?_⟩;cases hv;obtain ⟨n,e,e1,e2⟩:=M3 m.nt m.nt.length 0 (by omega);rw [CE,e];refine ⟨by simp [Aq,Am],?_,?_⟩
  ·revert t1;generalize m.ty=t;obtain ⟨so,n,x,ps⟩:=t;intro t1;simp only [AK] at t1;subst t1;rfl
  ·simp only [Ea,H2,Bool.and_true];exact decide_eq_true (by omega)
 by_cases t4:AK m.ty=4\/AK m.ty=5\/AK m.ty=6\/AK m.ty=7
 ·refine ⟨_,Hy hh t4,λv hv=>?_⟩;cases hv;refine ⟨by simp [Aq,Am],?_,rfl⟩;revert t4;generalize m.ty=t;obtain ⟨so,n,x,ps⟩:=t;intro t4;simp only [AK] at t4;simp only [LE];rw [if_neg (by omega),if_neg (by omega),if_neg (by omega),if_neg (by omega)];rfl
 rw [Ej hh t1 t4];cases hq:AH ds m with
 | none=>exact ⟨none,rfl,λv hv=>by cases hv⟩
 | some h =>
  have hm:=Gp hq;simp only [AH,Option.map_eq_some_iff] at hq;obtain ⟨p,hp,rfl⟩:=hq;obtain ⟨q1,_,_⟩:=FE hp;rcases q1 with q1 | ⟨_,q2,q3,_⟩
  ·cases q1
  have hce:=MU ho hn (.inl hm);have hup:=(Ny ho (ES ho m.ty (C5 p.1))).2;obtain ⟨r,r1,_,r3⟩:=HX ho (f:=f) hn (.inl hm) λa ha=>by
   have hna:=C4 ho.okd (t:=m.ty) (s:=C5 p.1);rw [D4,List.all_eq_true] at hna;exact Kl ho 256 a (hna a ha) (KC ho a ha) (EI ho a).2 f (by omega)
  obtain ⟨v,v1,v2,v3⟩:=r3 (by omega);refine ⟨r,r1,λw hw=>?_⟩;rw [v1] at hw;cases hw;exact ⟨by omega,v3⟩
theorem QQ {ds:List Dt} {g:Mi->Option (Option Ty)} {B:Nat}:∀{ks:List Mi},(∀k∈ks,∃r,g k=some r/\∀v,r=some v->Aq v<=B/\LE ds k.ty v=true/\Ea v=true) ->
  ∃o,Bu g ks=some o/\∀vs,o=some vs->ks.length=vs.length/\Jf ds (ks.map Mi.ty) vs=true/\H2 vs=true/\Am vs<=ks.length*B
 | [],_=>⟨some [],rfl,λvs h=>by cases h;exact ⟨rfl,rfl,rfl,by simp [Am]⟩⟩
 | k::r,h=>by
  obtain ⟨x,x1,x2⟩:=h k (by simp);obtain ⟨o,o1,o2⟩:=QQ (ks:=r) (λy hy=>h y (by simp [hy]));cases x with
  | none=>exact ⟨none,by simp [Bu,x1],λvs h=>by cases h⟩
  | some v =>
   obtain ⟨v1,v2,v3⟩:=x2 v rfl;cases o with
   | none=>exact ⟨none,by simp [Bu,x1,o1],λvs h=>by cases h⟩
   | some vs =>
    obtain ⟨w1,w2,w3,w4⟩:=o2 vs rfl;refine ⟨some (v::vs),by simp [Bu,x1,o1],λus h=>?_⟩;cases h;refine ⟨by simp [w1],by simp [Jf,v2,w2],by simp [H2,v3,w3],?_⟩;simp only [Am,List.length_cons,Nat.add_mul];omega
theorem cL {ds:List Dt} (ho:OkW ds) {N:Nat} (hN:N<=1000000):∀(H:Nat) (m:Mi),GV ds N m=true->Ed ds m->JG m<=H->∀f,H+771<=f ->
  ∃r,AT ds f m=some r/\∀v,r=some v->Aq v<=1000*4 ^ H/\LE ds m.ty v=true/\Ea v=true:=by
 intro H
 induction H with
 | zero=>intro m _ _ h;rw [HY] at h;omega
 | succ H ih =>
  intro m hw hc hg f hf;obtain ⟨f,rfl⟩:∃g,f=g+1:=⟨f-1,by omega⟩
  have hwi:=AR.1 hw;have hci:=BI.1 hc;have hp1:1<=4 ^ H:=Nat.one_le_pow _ _ (by decide);have hp2:4 ^ (H+1)=4*4 ^ H:=by rw [Nat.pow_succ];omega
  by_cases hh:AK m.hd=0
  ·obtain ⟨r,r1,r2⟩:=jD ho (f:=f) (by omega) hwi.1.1 hwi.2.1.2 (by omega) hh;exact ⟨r,r1,λv hv=>by obtain ⟨a,b⟩:=r2 v hv;exact ⟨by omega,b⟩⟩
  ·rw [FN hh];obtain ⟨o,o1,o2⟩:=QQ (ds:=ds) (g:=AT ds f) (B:=1000*4 ^ H) (ks:=m.ks) λk hk=>ih k (hwi.2.2 k hk) (hci.2.2 k hk) (by have:=PA hk;omega) f (by omega);refine ⟨o.map (CB m.hd),by rw [o1];rfl,λv hv=>?_⟩;cases o with
   | none=>cases hv
   | some vs =>
    simp only [Option.map_some,Option.some.injEq] at hv;obtain ⟨w1,w2,w3,w4⟩:=o2 vs rfl;obtain ⟨c1,c2⟩:=hci.2.1 hh;rw [c2] at w2;have hi:=VH ho hwi.1.1 c1 w3;have hl:(AZ ds m.ty (C5 m.hd)).1.length=vs.length:=by rw [<- c2,List.length_map,w1]
    have h3:=hwi.1.2.1;subst hv;refine ⟨?_,Q9 ho hwi.1.1 c1 hl w2,hi.1⟩;rw [hi.2];have:m.ks.length*(1000*4 ^ H)<=3*(1000*4 ^ H):=Nat.mul_le_mul_right _ h3;omega
theorem Lp {g:Mi->Option (Option Ty)}:∀{l r:List Mi},l.length=r.length->(∀(i:Nat) a b,l[i]?=some a->r[i]?=some b->g a=g b)->Bu g l=Bu g r
 | [],[],_,_=>rfl
 | a::l,b::r,hl,h=>by
  simp only [Bu,h 0 a b rfl rfl,Lp (l:=l) (r:=r) (by simpa using hl) λi x y hx hy=>h (i+1) x y (by simpa using hx) (by simpa using hy)]
 | [],_::_,hl,_=>by simp at hl
 | _::_,[],hl,_=>by simp at hl
theorem Dc {ds:List Dt} (m:Mi):(Ac ds m=m)\/(AK m.hd=0/\∃h,HW ds m=[h]/\Ac ds m=AY ds m h):=by
 unfold Ac;by_cases hh:AK m.hd=0
 ·rw [if_neg (λh=>h hh)]
  split
  ·rename_i h e;exact .inr ⟨hh,h,e,rfl⟩
  ·exact .inl rfl
 ·rw [if_pos hh];exact .inl rfl
theorem Pi {ds:List Dt} (m:Mi):Ac ds (Ac ds m)=Ac ds m:=by
 rcases Dc (ds:=ds) m with h | ⟨hh,h,h1,h2⟩
 ·rw [h,h]
 ·rw [h2];have:AK (AY ds m h).hd≠0:=(Bs (DG h1).1).2;simp only [Ac,if_pos this]
theorem CJ {ds:List Dt} {m:Mi} (h:AK m.hd≠0):Ac ds m=m:=by simp only [Ac,if_pos h]
theorem Si {ds:List Dt} (ho:OkW ds) {f:Nat} (hf:770<=f) {m:Mi} (hn:AI ds m.ty=true):AT ds (f+1) (Ac ds m)=AT ds (f+1) m:=by
 rcases Dc (ds:=ds) m with h | ⟨hh,h,h1,h2⟩
 ·rw [h]
 rw [h2];obtain ⟨hm,hnt⟩:=DG h1;have hk:=FO ho hn hm;have t1:¬AK m.ty=1:=by rcases hk with ⟨a,_⟩ | ⟨a,_⟩ | ⟨a,_⟩ <;> omega
 have t4:¬(AK m.ty=4\/AK m.ty=5\/AK m.ty=6\/AK m.ty=7):=by rcases hk with ⟨a,_⟩ | ⟨a,_⟩ | ⟨a,_⟩ <;> omega
 rw [Ej hh t1 t4];have honly:∀x∈A6 ds m.ty,Bj m.nt x=false->x=h:=λx hx hxn=>by
  have:x∈HW ds m:=List.mem_filter.2 ⟨hx,by simp [hxn]⟩;rw [h1] at this;simpa using this
 cases hq:AH ds m with
 | some y =>
  have hy:=Gp hq;simp only [AH,Option.map_eq_some_iff] at hq;obtain ⟨p,hp,rfl⟩:=hq;obtain ⟨q1,_,_⟩:=FE hp;rcases q1 with q1 | ⟨_,_,_,q4⟩
  ·cases q1
  ·rw [honly _ hy q4]
 | none =>
  simp only [AH,Option.map_eq_none_iff] at hq;have hc:=(KM hq).2 h hm;have hce:=MU ho hn (.inl hm);have hup:=(Ny ho (ES ho m.ty (C5 h))).1;obtain ⟨r,r1,r2,_⟩:=HX ho (f:=f) hn (.inl hm) λa ha=>by
   have hna:=C4 ho.okd (t:=m.ty) (s:=C5 h);rw [D4,List.all_eq_true] at hna;exact Kl ho 256 a (hna a ha) (KC ho a ha) (EI ho a).2 f (by omega)
  rw [r1,r2 (by have:¬0<Bf ds m h:=λh0=>hc ⟨h0,hnt⟩;omega)]
mutual
def stl (ds:List Dt) (m:Mi):Mi->Prop
 | .mk ty nt hd ks=>∃s,(s=m\/s=Ac ds m)/\s.ty=ty/\s.nt=nt/\s.hd=hd/\Ph ds s.ks ks
def Ph (ds:List Dt) (l:List Mi):List Mi->Prop
 | []=>l=[]
 | k::r=>∃a b,l=a::b/\stl ds a k/\Ph ds b r
end
theorem Hh {ds:List Dt}:∀{r l:List Mi},Ph ds l r↔l.length=r.length/\∀(i:Nat) a k,l[i]?=some a->r[i]?=some k->stl ds a k
 | [],l=>by
  simp only [Ph,List.length_nil,List.length_eq_zero_iff];exact ⟨λh=>⟨h,λi a k _ hk=>by simp at hk⟩,λh=>h.1⟩
 | k::r,l=>by
  simp only [Ph];constructor
  ·rintro ⟨a,b,rfl,h1,h2⟩;obtain ⟨h3,h4⟩:=Hh.1 h2;refine ⟨by simp [h3],λi x y hx hy=>?_⟩;cases i with
   | zero=>simp at hx hy;subst hx;subst hy;exact h1
   | succ i=>exact h4 i x y (by simpa using hx) (by simpa using hy)
  ·rintro ⟨h1,h2⟩;cases l with
   | nil=>simp at h1
   | cons a b=>exact ⟨a,b,rfl,h2 0 a k rfl rfl,Hh.2 ⟨by simpa using h1,λi x y hx hy=>h2 (i+1) x y (by simpa using hx) (by simpa using hy)⟩⟩
theorem HG {ds:List Dt} {m c:Mi}:stl ds m c↔∃s,(s=m\/s=Ac ds m)/\s.ty=c.ty/\s.nt=c.nt/\s.hd=c.hd/\Ph ds s.ks c.ks:=by
 obtain ⟨a,b,d,e⟩:=c;rfl
mutual
theorem E1 (ds:List Dt):∀m:Mi,stl ds m m
 | .mk ty nt hd ks=>⟨_,.inl rfl,rfl,rfl,rfl,KJ ds ks⟩
theorem KJ (ds:List Dt):∀l:List Mi,Ph ds l l
 | []=>rfl
 | k::r=>⟨k,r,rfl,E1 ds k,KJ ds r⟩
end
theorem pD {ds:List Dt} {m c:Mi} (h:stl ds m c):m.ty=c.ty:=by
 obtain ⟨s,h1,h2,_⟩:=HG.1 h;rcases h1 with rfl | rfl
 ·exact h2
 ·rw [<- h2,D6]
theorem JQ {ds:List Dt} {m c:Mi} (hm:Ed ds m) (h:stl ds m c):(Ac ds m).ty=(Ac ds c).ty/\(Ac ds m).nt=(Ac ds c).nt/\(Ac ds m).hd=(Ac ds c).hd/\Ph ds (Ac ds m).ks (Ac ds c).ks:=by
 obtain ⟨s,h1,h2,h3,h4,h5⟩:=HG.1 h;rcases h1 with rfl | h1
 ·by_cases hh:AK s.hd=0
  ·have hk:=(BI.1 hm).1 hh;have hck:c.ks=[]:=by
    have:=(Hh.1 h5).1;rw [hk] at this;exact List.eq_nil_of_length_eq_zero this.symm
   have e:c=s:=by
    obtain ⟨a,b,d,e⟩:=c;obtain ⟨a',b',d',e'⟩:=s;simp only [Mi.ty,Mi.nt,Mi.hd,Mi.ks] at *;subst h2;subst h3;subst h4;rw [hk,hck]
   rw [e];exact ⟨rfl,rfl,rfl,KJ ds _⟩
  ·rw [CJ hh,CJ (m:=c) (by rw [<- h4];exact hh)];exact ⟨h2,h3,h4,h5⟩
 ·rcases Dc (ds:=ds) m with e | ⟨hh,x,e1,e2⟩
  ·rw [e] at h1;rw [h1] at h2 h3 h4 h5;by_cases hh:AK m.hd=0
   ·have hk:=(BI.1 hm).1 hh;have hck:c.ks=[]:=by
     have:=(Hh.1 h5).1;rw [hk] at this;exact List.eq_nil_of_length_eq_zero this.symm
    have e:c=m:=by
     obtain ⟨a,b,d,e⟩:=c;obtain ⟨a',b',d',e'⟩:=m;simp only [Mi.ty,Mi.nt,Mi.hd,Mi.ks] at *;subst h2;subst h3;subst h4;rw [hk,hck]
    rw [e];exact ⟨rfl,rfl,rfl,KJ ds _⟩
   ·rw [CJ hh,CJ (m:=c) (by rw [<- h4];exact hh)];exact ⟨h2,h3,h4,h5⟩
  ·have hne:AK (Ac ds m).hd≠0:=by rw [e2];exact (Bs (DG e1).1).2
   subst h1;rw [CJ (m:=c) (by rw [<- h4];exact hne)];exact ⟨h2,h3,h4,h5⟩
theorem We {ds:List Dt} {m c:Mi} (h:m.ty=c.ty) (x:Ty):AY ds m x=AY ds c x:=by
 simp only [AY,h]
theorem Qz {ds:List Dt} {m c:Mi} (h1:m.ty=c.ty) (h2:m.nt=c.nt):∀(l:List Ty) (b:Option (Ty×Int)),C0 ds m b l=C0 ds c b l
 | [],b=>rfl
 | x::r,b=>by
  have hc:Bf ds m x=Bf ds c x:=by simp only [Bf,h1]
  simp only [C0,hc,h2];exact Qz h1 h2 r _
theorem Qk {ds:List Dt} {m c:Mi} (h1:m.ty=c.ty) (h2:m.nt=c.nt):AH ds m=AH ds c:=by
 simp only [AH,h1,Qz h1 h2]
theorem Wc {ds:List Dt} {m c:Mi} (f:Nat) (h1:m.ty=c.ty) (h2:m.nt=c.nt) (h3:AK m.hd=0) (h4:AK c.hd=0):AT ds (f+1) m=AT ds (f+1) c:=by
 by_cases t1:AK m.ty=1
 ·rw [Hz h3 t1,Hz h4 (by rw [<- h1];exact t1),h2]
 by_cases t4:AK m.ty=4\/AK m.ty=5\/AK m.ty=6\/AK m.ty=7
 ·rw [Hy h3 t4,Hy h4 (by rw [<- h1];exact t4)]
 rw [Ej h3 t1 t4,Ej h4 (by rw [<- h1];exact t1) (by rw [<- h1];exact t4),Qk h1 h2];cases AH ds c with
 | none=>rfl
 | some x=>simp only [We h1]
theorem aO {ds:List Dt} (ho:OkW ds) {N:Nat}:∀(H:Nat) (m c:Mi),JG c<=H->GV ds N m=true->stl ds m c->∀f,H+771<=f->AT ds f m=AT ds f c:=by
 intro H
 induction H with
 | zero=>intro m c h;rw [HY] at h;omega
 | succ H ih =>
  intro m c hg hw hs f hf;obtain ⟨f,rfl⟩:∃g,f=g+1:=⟨f-1,by omega⟩
  obtain ⟨s,h1,h2,h3,h4,h5⟩:=HG.1 hs;have e:AT ds (f+1) m=AT ds (f+1) s/\GV ds N s=true:=by
   rcases h1 with rfl | rfl
   ·exact ⟨rfl,hw⟩
   ·exact ⟨(Si ho (by omega) (AR.1 hw).1.1).symm,Cy ho hw⟩
  rw [e.1];by_cases hh:AK s.hd=0
  ·exact Wc f h2 h3 hh (by rw [<- h4];exact hh)
  ·rw [FN hh,FN (by rw [<- h4];exact hh),h4];obtain ⟨k1,k2⟩:=Hh.1 h5;rw [Lp k1 λi a b ha hb=>ih a b (by have:=PA (List.mem_of_getElem? hb);omega) ((AR.1 e.2).2.2 a (List.mem_of_getElem? ha)) (k2 i a b ha hb) f (by omega)]
theorem OH {g g':Mi->Option (Option Ty)} (h:∀k r,g k=some r->g' k=some r):∀{l:List Mi} {o:Option (List Ty)},Bu g l=some o->Bu g' l=some o
 | [],o,e=>e
 | k::r,o,e=>by
  simp only [Bu] at e ⊢;cases hk:g k with
  | none=>simp [hk] at e
  | some v =>
   rw [h k v hk];cases v with
   | none=>simpa [hk] using e
   | some v =>
    simp only [hk] at e ⊢;cases hr:Bu g r with
    | none=>simp [hr] at e
    | some q=>rw [OH h hr];simpa [hr] using e
theorem Wb {ds:List Dt}:∀(f:Nat) (m:Mi) (r:Option Ty),AT ds f m=some r->AT ds (f+1) m=some r:=by
 intro f
 induction f with
 | zero=>intro m r h;simp [AT] at h
 | succ f ih =>
  intro m r h;have hk:∀m r,AK m.hd≠0->AT ds (f+1) m=some r->AT ds (f+1+1) m=some r:=λm r hh h=>by
   rw [FN hh] at h ⊢;cases hl:Bu (AT ds f) m.ks with
   | none=>simp [hl] at h
   | some o=>rw [OH ih hl];simpa [hl] using h
  by_cases hh:AK m.hd=0
  ·by_cases t1:AK m.ty=1
   ·rw [Hz hh t1] at h ⊢;exact h
   by_cases t4:AK m.ty=4\/AK m.ty=5\/AK m.ty=6\/AK m.ty=7
   ·rw [Hy hh t4] at h ⊢;exact h
   rw [Ej hh t1 t4] at h ⊢;cases hq:AH ds m with
   | none=>rw [hq] at h;exact h
   | some x =>
    simp only [hq] at h ⊢;exact hk _ _ (Bs (Gp hq)).2 h
  ·exact hk m r hh h
theorem XX {ds:List Dt} {f g:Nat} (hg:f<=g) {m:Mi} {r:Option Ty} (h:AT ds f m=some r):AT ds g m=some r:=by
 induction hg with
 | refl=>exact h
 | step _ ih=>exact Wb _ _ _ ih
mutual
theorem JR {ds:List Dt}:∀(p:Ty) {m c:Mi},Ed ds m->stl ds m c->Ar ds p m=Ar ds p c
 | .mk f n x ps,m,c,hm,hs=>by
  obtain ⟨_,h2,h3,h4⟩:=JQ hm hs;simp only [Ar,h2,h3];rw [SI ps (λk hk=>(BI.1 (Da hm)).2.2 k hk) h4 0]
theorem SI {ds:List Dt}:∀(ps:List Ty) {l r:List Mi},(∀k∈l,Ed ds k)->Ph ds l r->∀i,AP ds i ps l=AP ds i ps r
 | [],_,_,_,_,i=>by simp only [AP]
 | p::ps,l,[],_,h,i=>by simp only [Ph] at h;subst h;rfl
 | p::ps,l,k::r,hl,h,i=>by
  obtain ⟨a,b,rfl,h1,h2⟩:=h;simp only [AP,JR p (hl a (by simp)) h1,SI ps (λy hy=>hl y (by simp [hy])) h2]
end
mutual
def EG (ds:List Dt):Ty->Mi->Mi
 | .mk f n x ps,m=>if f=1\/f=2 then m else if AK (Ac ds m).hd=0\/AB (Ac ds m).hd (AO (.mk f n x ps))=false then Ac ds m else
  .mk (Ac ds m).ty (Ac ds m).nt (Ac ds m).hd (Dq ds ps (Ac ds m).ks)
def Dq (ds:List Dt):List Ty->List Mi->List Mi
 | [],ks=>ks
 | _::_,[]=>[]
 | p::r,k::ks=>EG ds p k::if (Ar ds p k).1=1 then Dq ds r ks else ks
end
mutual
theorem Uk {ds:List Dt}:∀(p:Ty) {m c:Mi},Ed ds m->stl ds m c->stl ds m (EG ds p c)
 | .mk f n x ps,m,c,hm,hs=>by
  obtain ⟨h1,h2,h3,h4⟩:=JQ hm hs;have hst:stl ds m (Ac ds c):=HG.2 ⟨Ac ds m,.inr rfl,h1,h2,h3,h4⟩;simp only [EG]
  split
  ·exact hs
  ·split
   ·exact hst
   ·exact HG.2 ⟨Ac ds m,.inr rfl,h1,h2,h3,Vo ps (λk hk=>(BI.1 (Da hm)).2.2 k hk) h4⟩
theorem Vo {ds:List Dt}:∀(ps:List Ty) {l r:List Mi},(∀k∈l,Ed ds k)->Ph ds l r->Ph ds l (Dq ds ps r)
 | [],_,_,_,h=>by simpa only [Dq] using h
 | p::ps,l,[],_,h=>by simpa only [Dq] using h
 | p::ps,l,k::r,hl,h=>by
  obtain ⟨a,b,rfl,h1,h2⟩:=h;simp only [Dq];refine ⟨a,b,rfl,Uk p (hl a (by simp)) h1,?_⟩
  split
  ·exact Vo ps (λy hy=>hl y (by simp [hy])) h2
  ·exact h2
end
mutual
def Xo (ds:List Dt):Ty->Mi->Nat
 | .mk f n x ps,m=>if f=1\/f=2 then 0 else if AK (Ac ds m).hd=0 then (if Bj (Ac ds m).nt (AO (.mk f n x ps))=true then 0 else 1+Am ps) else
  if AB (Ac ds m).hd (AO (.mk f n x ps))=false then 0 else Pg ds ps (Ac ds m).ks
def Pg (ds:List Dt):List Ty->List Mi->Nat
 | [],_=>0
 | _::_,[]=>0
 | p::r,k::ks=>Xo ds p k+Pg ds r ks
end
mutual
theorem oA (ds:List Dt):∀(p:Ty) (m:Mi),Xo ds p m<=Aq p
 | .mk f n x ps,m=>by
  have:=Xs ds ps (Ac ds m).ks;simp only [Xo,Aq]
  split
  ·omega
  ·split
   ·split <;> omega
   ·split <;> omega
theorem Xs (ds:List Dt):∀(ps:List Ty) (l:List Mi),Pg ds ps l<=Am ps
 | [],l=>by simp [Pg]
 | p::r,[]=>by simp [Pg]
 | p::r,k::ks=>by
  have h1:=oA ds p k;have h2:=Xs ds r ks;simp only [Pg,Am];omega
end
theorem Yw (h:Ty):AB h h=true:=by obtain ⟨a,b,c,d⟩:=h;simp [AB]
theorem H3 (a b:Ty):AB a b=AB b a:=by
 obtain ⟨a1,a2,a3,a4⟩:=a;obtain ⟨b1,b2,b3,b4⟩:=b;simp only [AB];rw [Bool.eq_iff_iff];simp only [Bool.and_eq_true,beq_iff_eq];exact ⟨λ⟨⟨h1,h2⟩,h3⟩=>⟨⟨h1.symm,h2.symm⟩,h3.symm⟩,λ⟨⟨h1,h2⟩,h3⟩=>⟨⟨h1.symm,h2.symm⟩,h3.symm⟩⟩
theorem Ke {ds:List Dt} {t:Ty} {f n:Int} {x:Str} {ps:List Ty} (hn:AI ds t=true) (h:Cz ds t (.mk f n x ps)=true) (hp:BP (.mk f n x ps)=true) (h12:¬(f=1\/f=2)) :
  Lj ds t (AO (.mk f n x ps))/\(AZ ds t (C5 (AO (.mk f n x ps)))).1.length=ps.length/\Cp ds (AZ ds t (C5 (AO (.mk f n x ps)))).1 ps=true/\BF ps=true:=by
 rw [N4] at h;obtain ⟨so,m,y,qs⟩:=t;simp only [BP,Bool.and_eq_true] at hp;obtain ⟨hb,hps⟩:=hp;have hz:∀t:Ty,AK t≠8->ps=[]->∀s,(AZ ds t s).1.length=ps.length/\Cp ds (AZ ds t s).1 ps=true:=λt ht he s=>by
  rw [FV ht,he];exact ⟨rfl,by simp [Cp]⟩
 simp only [DV] at hb;simp only [KN] at h;by_cases h5:f=5
 ·subst h5;rw [if_pos (.inr rfl)] at hb;simp only [Bool.and_eq_true,beq_iff_eq] at hb;have he:ps=[]:=List.eq_nil_of_length_eq_zero (by omega);have hso:so=3:=by simpa using h
  subst hso;have:=hz (.mk 3 m y qs) (by simp [AK]) he (C5 (AO (.mk 5 n x ps)));exact ⟨.inl (by simp [AO,A6]),this.1,this.2,hps⟩
 by_cases h3:f=3
 ·subst h3;rw [if_neg (by decide),if_neg (by decide),if_pos rfl] at hb;simp only [Bool.and_eq_true,beq_iff_eq,Fp,decide_eq_true_eq] at hb;have he:ps=[]:=List.eq_nil_of_length_eq_zero (by omega);have hso:so=1:=by simpa using h
  subst hso;have:=hz (.mk 1 m y qs) (by simp [AK]) he (C5 (AO (.mk 3 n x ps)));exact ⟨.inr ⟨rfl,n,by simp [AO],hb.2⟩,this.1,this.2,hps⟩
 by_cases h4:f=4
 ·subst h4;rw [if_neg (by decide),if_neg (by decide),if_neg (by decide),if_pos rfl] at hb;simp only [Bool.and_eq_true,beq_iff_eq,Fp,decide_eq_true_eq] at hb;have he:ps=[]:=List.eq_nil_of_length_eq_zero (by omega);have hso:so=2:=by simpa using h
  subst hso;have:=hz (.mk 2 m y qs) (by simp [AK]) he (C5 (AO (.mk 4 n x ps)));have hn:n=0\/n=1:=by omega
  exact ⟨.inl (by rcases hn with rfl | rfl <;> simp [AO,A6]),this.1,this.2,hps⟩
 have h6:f=6:=by
  have h1:f≠1:=λe=>h12 (.inl e);have h2:f≠2:=λe=>h12 (.inr e);rw [if_neg (by omega),if_neg (by omega),if_neg (by omega),if_neg (by omega)] at hb;by_cases e:f=6
  ·exact e
  ·rw [if_neg e] at hb;cases hb
 subst h6;rw [if_neg (by decide),if_neg (by decide),if_neg (by decide),if_pos rfl] at h;simp only [Bool.and_eq_true,decide_eq_true_eq] at h;have ht:AO (.mk 6 n x ps) = .mk 4 0 x []:=rfl;rw [ht];refine ⟨.inl ?_,h.1,h.2.2,hps⟩;have hc:0<=(BN ds (.mk so m y qs) x).2:=by
  have:=h.2.1;simp only [AZ] at this;by_cases e:0<=(BN ds (.mk so m y qs) x).2
  ·exact e
  ·simp [e] at this
 have h8:so=8:=by
  by_cases e:so=8
  ·exact e
  ·simp [BN,e] at hc
 subst h8;obtain ⟨_,d,hd⟩:=Cr hn 8 m y qs rfl rfl;simp only [BN,if_true,hd] at hc;obtain ⟨c1,c2⟩:=IO hc;rw [show A6 ds (.mk 8 m y qs)=(match ds[(Ba y 0 ds).toNat]? with | some d=>d.cons.map λc=>Ty.mk 4 0 c.name [] | none=>[]) from rfl,hd];exact List.mem_map.2 ⟨_,c1,by rw [c2]⟩
theorem Ic {ds:List Dt} (ho:OkW ds):∀(p:Ty) {N:Nat} {m:Mi},GV ds N m=true->Ed ds m->Cz ds m.ty p=true->BP p=true->Y6 ds p m=true
 | .mk f n x ps,N,m,hw,hc,h,hp=>by
  simp only [Y6,Bool.or_eq_true,Bool.and_eq_true,decide_eq_true_eq,Bool.not_eq_true'];by_cases h12:f=1\/f=2
  ·rcases h12 with h1 | h2
   ·exact .inl (.inl (.inl (.inl h1)))
   ·exact .inl (.inl (.inl (.inr h2)))
  by_cases h0:AK (Ac ds m).hd=0
  ·exact .inl (.inl (.inr h0))
  by_cases hE:AB (Ac ds m).hd (AO (.mk f n x ps))=false
  ·exact .inl (.inr hE)
  right;obtain ⟨k1,k2,k3,k4⟩:=Ke (AR.1 hw).1.1 h hp h12;have hsc:=BI.1 (Da hc);have hsw:=AR.1 (Cy ho hw);have htx:C5 (Ac ds m).hd=C5 (AO (.mk f n x ps)):=by
   have:AB (Ac ds m).hd (AO (.mk f n x ps))=true:=by simpa using hE
   revert this;generalize (Ac ds m).hd=a;generalize AO (.mk f n x ps)=b;obtain ⟨a1,a2,a3,a4⟩:=a;obtain ⟨b1,b2,b3,b4⟩:=b;simp only [AB,C5,Bool.and_eq_true,beq_iff_eq];exact λh=>h.2
  have hks:=(hsc.2.1 h0).2;rw [htx,D6] at hks;have hl:ps.length=(Ac ds m).ks.length:=by rw [<- k2,<- hks,List.length_map]
  refine ⟨by omega,?_⟩;have key:∀(qs:List Ty) (l:List Mi),(∀q∈qs,q∈ps)->(∀k∈l,GV ds N k=true/\Ed ds k)->Cp ds (l.map Mi.ty) qs=true->BF qs=true->Lr ds qs l=true:=by
   intro qs
   induction qs with
   | nil=>intro l _ _ _ _;simp [Lr]
   | cons q r ih =>
    intro l hq hl h1 h2;cases l with
    | nil=>simp [Lr]
    | cons k l =>
     simp only [List.map_cons,Cp,BF,Bool.and_eq_true,Lr] at *;have:=List.sizeOf_lt_of_mem (hq q (by simp));exact ⟨Ic ho q (hl k (by simp)).1 (hl k (by simp)).2 h1.1 h2.1,ih l (λy hy=>hq y (by simp [hy])) (λy hy=>hl y (by simp [hy])) h1.2 h2.2⟩
  exact key ps _ (λq hq=>hq) (λk hk=>⟨hsw.2.2 k hk,hsc.2.2 k hk⟩) (by rw [hks];exact k3) k4
termination_by p=>SizeOf.sizeOf p
decreasing_by
 simp_wf;omega
structure Ask (ds:List Dt) (N:Nat) (p:Ty) (m:Mi) (path:List Int) (h:Ty):Prop where
 ok:In ds m path
 prt:B4 h=[]
 wf:∀is,GV ds (N+1) (A3 ds m path h is)=true
 coh:∀is,Ed ds (A3 ds m path h is)
 typ:∀is,(A3 ds m path h is).ty=m.ty
 hgt:∀is,JG (A3 ds m path h is)<=max (JG m) (path.length+2)
 less:∀is,Xo ds p (A3 ds m path h is)<Xo ds p m
 stl:∀is c,stl ds m c->stl ds (A3 ds m path h is) (A3 ds c path h is)
mutual
theorem Uf {ds:List Dt} {N M:Nat} (h:N<=M):∀m:Mi,GV ds N m=true->GV ds M m=true
 | .mk ty nt hd ks,hw=>by
  simp only [GV,Bool.and_eq_true,decide_eq_true_eq] at hw ⊢;obtain ⟨⟨⟨⟨a,b⟩,c⟩,d⟩,e⟩:=hw;exact ⟨⟨⟨⟨a,b⟩,by omega⟩,d⟩,Vf h ks e⟩
theorem Vf {ds:List Dt} {N M:Nat} (h:N<=M):∀l:List Mi,Xr ds N l=true->Xr ds M l=true
 | [],_=>rfl
 | k::r,hw=>by
  simp only [Xr,Bool.and_eq_true] at hw ⊢;exact ⟨Uf h k hw.1,Vf h r hw.2⟩
end
theorem Tv {ds:List Dt}:∀{ps:List Ty} {l:List Mi} {i:Int},(AP ds i ps l).1=2->∃(j:Nat) (p:Ty) (k:Mi),ps[j]?=some p/\l[j]?=some k/\(Ar ds p k).1=2/\(AP ds i ps l).2.1=(i+j)::(Ar ds p k).2.1/\(AP ds i ps l).2.2=(Ar ds p k).2.2
 | [],l,i,h=>by simp [AP] at h
 | p::r,[],i,h=>by simp [AP] at h
 | p::r,k::ks,i,h=>by
  simp only [AP] at h ⊢;by_cases h1:(Ar ds p k).1=1
  ·rw [if_pos h1] at h;obtain ⟨j,q,m,a,b,c,d,e⟩:=Tv h;exact ⟨j+1,q,m,by simpa using a,by simpa using b,c,by rw [if_pos h1,d];congr 1;omega,by rw [if_pos h1,e]⟩
  ·rw [if_neg h1] at h;exact ⟨0,p,k,rfl,rfl,h,by rw [if_neg h1];simp,by rw [if_neg h1]⟩
theorem YZ {ds:List Dt}:∀{ps:List Ty} {l:List Mi} {j:Nat} {p:Ty} {k k':Mi},ps[j]?=some p->l[j]?=some k->Xo ds p k'<Xo ds p k->Pg ds ps (l.set j k')<Pg ds ps l
 | [],l,j,p,k,k',h,_,_=>by simp at h
 | q::r,[],j,p,k,k',_,h,_=>by simp at h
 | q::r,a::l,0,p,k,k',h1,h2,h3=>by
  simp at h1 h2;subst h1;subst h2;simp only [List.set_cons_zero,Pg];omega
 | q::r,a::l,j+1,p,k,k',h1,h2,h3=>by
  have:=YZ (ds:=ds) (by simpa using h1) (by simpa using h2) h3;simp only [List.set_cons_succ,Pg];omega
theorem Jo {α:Type} {l:List α} {j:Nat} {a x:α} (h:x∈l.set j a):x∈l\/x=a:=List.mem_or_eq_of_mem_set h
theorem JZ {ds:List Dt}:∀{l m:List Ty} {i:Nat} {a p:Ty},Cp ds l m=true->l[i]?=some a->m[i]?=some p->Cz ds a p=true
 | [],_,i,a,p,_,ha,_=>by simp at ha
 | _::_,[],i,a,p,_,_,hp=>by simp at hp
 | x::l,y::m,0,a,p,h,ha,hp=>by simp only [Cp,Bool.and_eq_true] at h;simp at ha hp;subst ha;subst hp;exact h.1
 | x::l,y::m,i+1,a,p,h,ha,hp=>by simp only [Cp,Bool.and_eq_true] at h;exact JZ h.2 (by simpa using ha) (by simpa using hp)
theorem O6 {l:List Ty} {i:Nat} {p:Ty} (h:BF l=true) (hp:l[i]?=some p):BP p=true:=by
 induction l generalizing i with
 | nil=>simp at hp
 | cons a r ih =>
  simp only [BF,Bool.and_eq_true] at h;cases i with
  | zero=>simp at hp;subst hp;exact h.1
  | succ i=>exact ih h.2 (by simpa using hp)
theorem IG {a b:Ty} (h:AB a b=true):C5 a=C5 b:=by
 obtain ⟨a1,a2,a3,a4⟩:=a;obtain ⟨b1,b2,b3,b4⟩:=b;simp only [AB,C5,Bool.and_eq_true,beq_iff_eq] at *;exact h.2
theorem GB {ds:List Dt} (ho:OkW ds):∀(p:Ty) {N:Nat} {m:Mi},GV ds N m=true->Ed ds m->Cz ds m.ty p=true->BP p=true->(Ar ds p m).1=2->Ask ds N p m (Ar ds p m).2.1 (Ar ds p m).2.2
 | .mk f n x ps,N,m,hw,hc,hpt,hps,hl=>by
  have hwi:=AR.1 hw;have hci:=BI.1 hc;by_cases h12:f=1\/f=2
  ·exfalso;simp only [Ar,if_pos h12] at hl;cases hl
  obtain ⟨k1,k2,k3,k4⟩:=Ke hwi.1.1 hpt hps h12;by_cases hA:AK (Ac ds m).hd=0/\Bj (Ac ds m).nt (AO (.mk f n x ps))=false
  ·have e:Ar ds (.mk f n x ps) m=(2,[],AO (.mk f n x ps)):=by simp only [Ar,if_neg h12,if_pos hA]
   have hu:Xo ds (.mk f n x ps) m=1+Am ps:=by simp only [Xo,if_neg h12,if_pos hA.1,hA.2];rfl
   rw [e];obtain ⟨hA1,hA2⟩:=hA;have hset:Ac ds m=m:=by
    rcases Dc (ds:=ds) m with h | ⟨hh,h,h1,h2⟩
    ·exact h
    ·rw [h2] at hA1;exact absurd hA1 (Bs (DG h1).1).2
   rw [hset] at hA1 hA2;generalize hH:AO (.mk f n x ps)=h at *;have hfm:=M2 k1;refine ⟨by simp [In],hfm.2,λis=>?_,λis=>?_,λis=>?_,λis=>?_,λis=>?_,λis c hs=>?_⟩
   ·cases is
    ·simp only [A3];exact AR.2 ⟨⟨hwi.1.1,hwi.1.2.1,by simp [Mi.nt] at *;exact hwi.1.2.2⟩,hwi.2.1,λk hk=>Uf (by omega) k (hwi.2.2 k hk)⟩
    ·simp only [A3];exact JI ho hwi.1.1 hwi.2.1.2 hfm.2
   ·cases is
    ·simp only [A3];exact BI.2 hci
    ·simp only [A3];exact Oa k1
   ·cases is <;> rfl
   ·cases is
    ·simp only [A3,HY,Mi.ks];omega
    ·simp only [A3];have:=T6 ds m h;omega
   ·rw [hu];cases is
    ·simp only [A3,Xo,if_neg h12,hH];rcases Dc (ds:=ds) (.mk m.ty (m.nt++[h]) m.hd m.ks) with e | ⟨hh,y,y1,y2⟩
     ·rw [e];have hh0:AK (Mi.mk m.ty (m.nt++[h]) m.hd m.ks).hd=0:=hA1;rw [if_pos hh0,if_pos (by simp [Mi.nt,Bj,Yw])];omega
     ·rw [y2];have hy:=DG y1;rw [if_neg (show ¬AK (AY ds (.mk m.ty (m.nt++[h]) m.hd m.ks) y).hd=0 from (Bs hy.1).2)];have hne:AB y h=false:=by
       have:AB h y=false:=by
        have h2:=hy.2;simp only [Bj,Mi.nt,List.any_append,List.any_cons,List.any_nil,Bool.or_false,Bool.or_eq_false_iff] at h2;exact h2.2
       rw [H3];exact this
      rw [if_pos (show AB (AY ds (.mk m.ty (m.nt++[h]) m.hd m.ks) y).hd h=false from hne)];omega
    ·simp only [A3,Xo,if_neg h12,hH];rw [CJ (show AK (AY ds m h).hd≠0 from hfm.1),if_neg (show ¬AK (AY ds m h).hd=0 from hfm.1)];have:=Xs ds ps (AY ds m h).ks
     split <;> omega
   ·have hty:=pD hs;cases is
    ·simp only [A3];obtain ⟨s,s1,s2,s3,s4,s5⟩:=HG.1 hs;have:s=m:=by rcases s1 with rfl | rfl;rfl;exact hset
     subst this;exact HG.2 ⟨_,.inl rfl,s2,by show s.nt++[h]=c.nt++[h];rw [s3],s4,s5⟩
    ·simp only [A3];rw [We hty];exact E1 ds _
  ·have hB:AK (Ac ds m).hd≠0/\AB (Ac ds m).hd (AO (.mk f n x ps))=true/\Ar ds (.mk f n x ps) m=AP ds 0 ps (Ac ds m).ks:=by
    simp only [Ar,if_neg h12,if_neg hA] at hl ⊢;by_cases hC:AK (Ac ds m).hd=0\/AB (Ac ds m).hd (AO (.mk f n x ps))=false
    ·rw [if_pos hC] at hl;cases hl
    ·rw [if_neg hC];exact ⟨λh=>hC (.inl h),by cases hb:AB (Ac ds m).hd (AO (.mk f n x ps)) with | true=>rfl | false=>exact absurd (.inr hb) hC,rfl⟩
   obtain ⟨hB1,hB2,hB3⟩:=hB;rw [hB3] at hl ⊢;obtain ⟨j,q,k,j1,j2,j3,j4,j5⟩:=Tv hl;rw [j4,j5,Int.zero_add];have hsw:=Cy ho hw;have hswi:=AR.1 hsw;have hsc:=Da (ds:=ds) hc;have hsci:=BI.1 hsc;have hkm:=List.mem_of_getElem? j2;have hks:=(hsci.2.1 hB1).2;rw [IG hB2,D6] at hks;have hkt:(AZ ds m.ty (C5 (AO (.mk f n x ps)))).1[j]?=some k.ty:=by rw [<- hks];simp [j2]
   have:=List.sizeOf_lt_of_mem (List.mem_of_getElem? j1);have A:=GB ho q (hswi.2.2 k hkm) (hsci.2.2 k hkm) (JZ k3 hkt j1) (O6 k4 j1) j3;generalize (Ar ds q k).2.1=path at *;generalize (Ar ds q k).2.2=h at *;have eS:∀is,A3 ds m ((j:Int)::path) h is = .mk (Ac ds m).ty (Ac ds m).nt (Ac ds m).hd ((Ac ds m).ks.set j (A3 ds k path h is)):=λis=>by
    simp only [A3,Int.toNat_natCast,j2]
   have hjl:=(List.getElem?_eq_some_iff.1 j2).1;refine ⟨⟨by omega,k,by simpa using j2,A.ok⟩,A.prt,λis=>?_,λis=>?_,λis=>?_,λis=>?_,λis=>?_,λis c hs=>?_⟩
   ·rw [eS];refine AR.2 ⟨⟨hswi.1.1,by simpa [Mi.ks] using hswi.1.2.1,by have:=hswi.1.2.2;show (Ac ds m).nt.length<=N+1;omega⟩,hswi.2.1,λy hy=>?_⟩;rcases Jo hy with hy | rfl
    ·exact Uf (by omega) y (hswi.2.2 y hy)
    ·exact A.wf is
   ·rw [eS];refine BI.2 ⟨λh0=>absurd h0 hB1,λ_=>⟨(hsci.2.1 hB1).1,?_⟩,λy hy=>?_⟩
    ·show ((Ac ds m).ks.set j (A3 ds k path h is)).map Mi.ty=(AZ ds (Ac ds m).ty (C5 (Ac ds m).hd)).1;rw [<- (hsci.2.1 hB1).2];simp only [List.map_set,A.typ];apply List.ext_getElem?;intro i;rw [List.getElem?_set]
     split
     ·rename_i e;subst e;rw [if_pos (by simpa using hjl)];simp [j2]
     ·rfl
    ·rcases Jo hy with hy | rfl
     ·exact hsci.2.2 y hy
     ·exact A.coh is
   ·rw [eS];exact D6 ds m
   ·rw [eS,HY];have h1:=OK ds m;have h2:GD ((Ac ds m).ks.set j (A3 ds k path h is))<=max (JG m) (path.length+3)-1:=Rb.2 λy hy=>by
     rcases Jo hy with hy | rfl
     ·have:=PA hy;omega
     ·have:=A.hgt is;have:=PA hkm;omega
    simp only [Mi.ks,List.length_cons] at *;omega
   ·rw [eS];have e1:Xo ds (.mk f n x ps) m=Pg ds ps (Ac ds m).ks:=by
     simp only [Xo,if_neg h12,if_neg hB1,hB2];rfl
    have hB2':AB (Mi.mk (Ac ds m).ty (Ac ds m).nt (Ac ds m).hd ((Ac ds m).ks.set j (A3 ds k path h is))).hd (AO (.mk f n x ps))=true:=hB2;have e2:Xo ds (.mk f n x ps) (.mk (Ac ds m).ty (Ac ds m).nt (Ac ds m).hd ((Ac ds m).ks.set j (A3 ds k path h is)))=Pg ds ps ((Ac ds m).ks.set j (A3 ds k path h is)):=by
     simp only [Xo,if_neg h12];rw [CJ (show AK (Mi.mk (Ac ds m).ty (Ac ds m).nt (Ac ds m).hd ((Ac ds m).ks.set j (A3 ds k path h is))).hd≠0 from hB1),if_neg (show ¬AK (Mi.mk (Ac ds m).ty (Ac ds m).nt (Ac ds m).hd ((Ac ds m).ks.set j (A3 ds k path h is))).hd=0 from hB1),hB2'];rfl
    rw [e1,e2];exact YZ j1 j2 (A.less is)
   ·obtain ⟨t1,t2,t3,t4⟩:=JQ hc hs;obtain ⟨u1,u2⟩:=Hh.1 t4;obtain ⟨kc,hkc⟩:∃kc,(Ac ds c).ks[j]?=some kc:=⟨_,List.getElem?_eq_getElem (by omega)⟩
    have eC:A3 ds c ((j:Int)::path) h is = .mk (Ac ds c).ty (Ac ds c).nt (Ac ds c).hd ((Ac ds c).ks.set j (A3 ds kc path h is)):=by
     simp only [A3,Int.toNat_natCast,hkc]
    rw [eS,eC];refine HG.2 ⟨_,.inl rfl,t1,t2,t3,Hh.2 ⟨by simpa [Mi.ks] using u1,λi a b ha hb=>?_⟩⟩;change ((Ac ds m).ks.set j (A3 ds k path h is))[i]?=some a at ha;change ((Ac ds c).ks.set j (A3 ds kc path h is))[i]?=some b at hb;rw [List.getElem?_set] at ha hb;by_cases e:j=i
    ·subst e;rw [if_pos rfl,if_pos hjl] at ha;rw [if_pos rfl,if_pos (by omega)] at hb;cases ha;cases hb;exact A.stl is kc (u2 j k kc j2 hkc)
    ·rw [if_neg e] at ha hb;exact u2 i a b ha hb
termination_by p=>SizeOf.sizeOf p
decreasing_by
 simp_wf;omega
def Je (ds:List Dt) (t:Ty) (l:List (Ty×Int)):Prop:=∀x∈l,Cz ds t x.1=true/\BP x.1=true/\Aq x.1<=12
def Gy (l:List (Ty×Int)):Nat:=(l.map λx=>Aq x.1+1).sum
def F3 (ds:List Dt) (m:Mi):List (Ty×Int)->Nat
 | []=>0
 | (p,_)::r=>Xo ds p m+1+Gy r
theorem Hx (ds:List Dt) (m:Mi) (l:List (Ty×Int)):F3 ds m l<=Gy l:=by
 cases l with
 | nil=>simp [F3,Gy]
 | cons x r =>
  obtain ⟨p,b⟩:=x;have:=oA ds p m;simp only [F3,Gy,List.map_cons,List.sum_cons];omega
def Oo (ds:List Dt) (t:Ty) (v:Ty):Prop:=LE ds t v=true/\Ea v=true/\Aq v<=1000000000000
theorem Zd {ds:List Dt} (a b:Option Ty):Gl ds a b=a\/Gl ds a b=b:=by
 cases a with
 | none=>exact .inr rfl
 | some a =>
  cases b with
  | none=>exact .inl rfl
  | some b=>simp only [Gl];split <;> simp
structure MOk (ds:List Dt) (t:Ty) (N:Nat) (m:Mi):Prop where
 wf:GV ds N m=true
 coh:Ed ds m
 typ:m.ty=t
 hgt:JG m<=14
theorem MOk.split {ds:List Dt} (ho:OkW ds) {t:Ty} {N:Nat} {m:Mi} (h:MOk ds t N m) {p:Ty} (h1:Cz ds t p=true) (h2:BP p=true) (h3:Aq p<=12) (hl:(Ar ds p m).1=2) (is:Bool):MOk ds t (N+1) (A3 ds m (Ar ds p m).2.1 (Ar ds p m).2.2 is):=by
 have A:=GB ho p h.wf h.coh (by rw [h.typ];exact h1) h2 hl;have hp:=Fo ds p m;exact ⟨A.wf is,A.coh is,by rw [A.typ,h.typ],by have:=A.hgt is;have:=h.hgt;omega⟩
theorem MOk.least {ds:List Dt} (ho:OkW ds) {t:Ty} {N:Nat} (hN:N<=1000000) {m:Mi} (h:MOk ds t N m):∃r,jF ds m=some r/\∀v,r=some v->Oo ds t v:=by
 obtain ⟨r,r1,r2⟩:=cL ho hN 14 m h.wf h.coh h.hgt 1000 (by omega);refine ⟨r,r1,λv hv=>?_⟩;obtain ⟨a,b,c⟩:=r2 v hv;exact ⟨by rw [<- h.typ];exact b,c,by omega⟩
theorem Fe {ds:List Dt} (ho:OkW ds) (t:Ty):∀(f N:Nat) (m:Mi) (l:List (Ty×Int)),N+f<=1000000->MOk ds t N m->Je ds t l->F3 ds m l<f->∃r,CQ ds f m l=some r/\∀v,r=some v->Oo ds t v:=by
 intro f
 induction f with
 | zero=>intro N m l _ _ _ h;omega
 | succ f ih =>
  intro N m l hN hm hr hf;cases l with
  | nil=>exact hm.least ho (by omega)
  | cons x r =>
   obtain ⟨p,b⟩:=x;obtain ⟨h1,h2,h3⟩:=hr (p,b) (by simp);simp only [F3] at hf;simp only [CQ];by_cases hl:(Ar ds p m).1=2
   ·rw [if_pos hl];have A:=GB ho p hm.wf hm.coh (by rw [hm.typ];exact h1) h2 hl;obtain ⟨x,x1,x2⟩:=ih (N+1) _ ((p,b)::r) (by omega) (hm.split ho h1 h2 h3 hl true) hr (by have:=A.less true;simp only [F3];omega);obtain ⟨y,y1,y2⟩:=ih (N+1) _ ((p,b)::r) (by omega) (hm.split ho h1 h2 h3 hl false) hr (by have:=A.less false;simp only [F3];omega);rw [x1,y1];refine ⟨Gl ds x y,rfl,λv hv=>?_⟩;rcases Zd (ds:=ds) x y with e | e
    ·exact x2 v (by rw [<- e];exact hv)
    ·exact y2 v (by rw [<- e];exact hv)
   ·rw [if_neg hl]
    split
    ·exact ih N m r (by omega) hm (λx hx=>hr x (by simp [hx])) (by have:=Hx ds m r;omega)
    ·exact ⟨none,rfl,λv hv=>by cases hv⟩
theorem Kd {c:Cse} {t v:Ty} (ht:c.type=t) (h:Oo c.datas t v):Th c v:=by subst ht;exact ⟨h.1,h.2.1,by have:=h.2.2;omega⟩
def HK (rows:List Ty) (must:List Int) (i:Nat):List (Ty×Int):=(rows.zip must).drop i
theorem X1 (c:Cse) (ho:OkW c.datas) (hn:AI c.datas c.type=true) (rows:List Ty) (must:List Int) (hlen:rows.length=must.length) (hrl:rows.length<=1000) (hr:Je c.datas c.type (rows.zip must)) :
  ∀(f N:Nat) (m:Mi) (i:Nat),N+f<=1000000->MOk c.datas c.type N m->i<=rows.length->F3 c.datas m (HK rows must i)<f->∀r,CQ c.datas f m (HK rows must i)=some r ->
  Al Tryz.prog 150 [.agg (dCse c),.agg (DL m),.sl (Bx rows),.sl (AJ must),.int .i64 i] (.agg (Cj r)):=by
 intro f
 induction f with
 | zero=>intro N m i _ _ _ h;omega
 | succ f ih =>
 intro N m i hN hm hi hU r hS;have hE:i=rows.length->Al Tryz.prog 183 [.agg (dCse c),.agg (DL m)] (.agg (Cj r)):=λe=>by
  have:HK rows must i=[]:=List.drop_eq_nil_of_le (by simp [<- hlen];omega);rw [this] at hS;exact cN c ho N (by omega) 1000 m r hS hm.wf
 by_cases hie:i=rows.length
 ·replace hE:=hE hie;clear ih hS;subst hie;have hre:∃x1 v1 v2 v3 v4,Cj r=[x1,v1,v2,v3,v4]:=by
   cases r with
   | none=>exact ⟨_,_,_,_,_,rfl⟩
   | some v=>obtain ⟨a,b,c,d⟩:=v;exact ⟨_,_,_,_,_,rfl⟩
  obtain ⟨x1,y1,y2,y3,y4,hre⟩:=hre;rw [hre] at hE ⊢;obtain ⟨ds,⟨c1,c2,c3,c4⟩,rows0⟩:=c;obtain ⟨⟨so,n,x,ps⟩,nt,⟨hf,hd2,hd3,hd4⟩,ks⟩:=m;refine Ae Ai Tryz.func150 (by decide +kernel) rfl [1,2,3,4,5] rfl rfl ?_;refine Aj rfl ?_;refine Ah rfl λh=>?_;refine Ak rfl ?_;refine Ag rfl hE ?_;refine Aj rfl ?_;exact Aa rfl rfl rfl
 clear hE;have hil:i<rows.length:=by omega
 obtain ⟨p,hp⟩:=As hil;obtain ⟨b,hb⟩:=As (l:=must) (i:=i) (by omega);have hzip:(rows.zip must)[i]?=some (p,b):=List.getElem?_zip_eq_some.2 ⟨hp,hb⟩;have hrow:HK rows must i=(p,b)::HK rows must (i+1):=by simp only [HK];rw [Av hzip]
 obtain ⟨p1,p2,p3⟩:=hr (p,b) (List.mem_of_getElem? hzip);simp only at p1 p2 p3;have hL:=QM c ho N p m (by omega) hm.wf (Ic ho p hm.wf hm.coh (by rw [hm.typ];exact p1) p2);rw [hrow] at hS hU;simp only [CQ,F3] at hS hU;by_cases h2:(Ar c.datas p m).1=2
 ·have A:=GB ho p hm.wf hm.coh (by rw [hm.typ];exact p1) p2 h2;have mT:=hm.split ho p1 p2 p3 h2 true;have mF:=hm.split ho p1 p2 p3 h2 false;have uT:F3 c.datas (A3 c.datas m (Ar c.datas p m).2.1 (Ar c.datas p m).2.2 true) (HK rows must i)<f:=by rw [hrow];have:=A.less true;simp only [F3];omega
  have uF:F3 c.datas (A3 c.datas m (Ar c.datas p m).2.1 (Ar c.datas p m).2.2 false) (HK rows must i)<f:=by rw [hrow];have:=A.less false;simp only [F3];omega
  have hro:Je c.datas c.type (HK rows must i):=λx hx=>hr x (List.mem_of_mem_drop hx);obtain ⟨x,x1,x2⟩:=Fe ho c.type f (N+1) _ _ (by omega) mT hro uT;obtain ⟨y,y1,y2⟩:=Fe ho c.type f (N+1) _ _ (by omega) mF hro uF;have cT:=ih (N+1) _ i (by omega) mT hi uT x x1;have cF:=ih (N+1) _ i (by omega) mF hi uF y y1;have hF:=TH c ho hn x y (λv hv=>Kd rfl (x2 v hv)) (λv hv=>Kd rfl (y2 v hv));have sT:=Ef c ho N (by omega) (Ar c.datas p m).2.2 true _ m hm.wf A.ok;have sF:=Ef c ho N (by omega) (Ar c.datas p m).2.2 false _ m hm.wf A.ok;rw [hrow] at x1 y1;rw [if_pos h2,x1,y1] at hS;have hS:r=Gl c.datas x y:=(Option.some.inj hS).symm;rw [<- hS] at hF
  have hpl:((Ar c.datas p m).2.1.length:Int)<=12:=by have:=Fo c.datas p m;omega
  clear ih hS A mT mF uT uF x1 y1 x2 y2 hro hU hrow;generalize A3 c.datas m (Ar c.datas p m).2.1 (Ar c.datas p m).2.2 true=MT at *;generalize A3 c.datas m (Ar c.datas p m).2.1 (Ar c.datas p m).2.2 false=MF at *;generalize Ar c.datas p m=lk3 at *;obtain ⟨a1,path,h⟩:=lk3;simp only at h2 hL sT sF hpl;subst h2;have hre:∃x1 v1 v2 v3 v4,Cj r=[x1,v1,v2,v3,v4]:=by
   cases r with
   | none=>exact ⟨_,_,_,_,_,rfl⟩
   | some v=>obtain ⟨a,b,c,d⟩:=v;exact ⟨_,_,_,_,_,rfl⟩
  obtain ⟨x1,y1,y2,y3,y4,hre⟩:=hre;rw [hre] at hF ⊢;have hm1:=hm.wf;clear hm hn ho hr hm1;obtain ⟨ds,⟨c1,c2,c3,c4⟩,rows0⟩:=c;obtain ⟨⟨so,n,x0,ps⟩,nt,⟨hf,hd2,hd3,hd4⟩,ks⟩:=m;obtain ⟨h1,h2,h3,h4⟩:=h;refine Ae Ai Tryz.func150 (by decide +kernel) rfl [1,2,3,4,5] rfl rfl ?_;refine Aj rfl ?_;refine Ab rfl (λh=>by simp at h;omega) (λh=>?_);clear h;refine Ak rfl ?_;refine mi rfl (c:=Ao p) (λ_=>⟨by simp,by simpa using A4 hp,by simp⟩) (by simp) ?_;refine Aj rfl ?_;refine Ag rfl hL ?_;refine mg [] rfl (by simp;rfl) ?_;refine Ah rfl λh=>?_;refine Ak rfl ?_;refine Ag rfl sT ?_;refine Aj rfl ?_;refine Ag rfl cT ?_;refine Aj rfl ?_;refine Ag rfl sF ?_;refine Aj rfl ?_;refine Ag rfl cF ?_;refine Aj rfl ?_
  refine Ag rfl hF ?_;refine mg [] rfl (by simp;rfl) ?_;exact Aa rfl rfl rfl
 rw [if_neg h2] at hS;have hnext:(Ar c.datas p m).1=b->Al Tryz.prog 150 [.agg (dCse c),.agg (DL m),.sl (Bx rows),.sl (AJ must),.int .i64 ((i+1:Nat):Int)] (.agg (Cj r)):=λe=>by
  rw [if_pos e] at hS;exact ih N m (i+1) (by omega) hm (by omega) (by have:=Hx c.datas m (HK rows must (i+1));omega) r hS
 have hstop:(Ar c.datas p m).1≠b->r=none:=λe=>by rw [if_neg e] at hS;exact (Option.some.inj hS).symm
 clear ih hS hU hrow;generalize Ar c.datas p m=lk3 at *;obtain ⟨a1,path,h⟩:=lk3;simp only at h2 hL hnext hstop;have hre:∃x1 v1 v2 v3 v4,Cj r=[x1,v1,v2,v3,v4]:=by
  cases r with
  | none=>exact ⟨_,_,_,_,_,rfl⟩
  | some v=>obtain ⟨a,b,c,d⟩:=v;exact ⟨_,_,_,_,_,rfl⟩
 clear hm hn ho hr;obtain ⟨ds,⟨c1,c2,c3,c4⟩,rows0⟩:=c;obtain ⟨⟨so,n,x0,ps⟩,nt,⟨hf,hd2,hd3,hd4⟩,ks⟩:=m;obtain ⟨h1,hh2,h3,h4⟩:=h;refine Ae Ai Tryz.func150 (by decide +kernel) rfl [1,2,3,4,5] rfl rfl ?_;refine Aj rfl ?_;refine Ab rfl (λh=>by simp at h;omega) (λh=>?_);clear h;refine Ak rfl ?_;refine mi rfl (c:=Ao p) (λ_=>⟨by simp,by simpa using A4 hp,by simp⟩) (by simp) ?_;refine Aj rfl ?_;refine Ag rfl hL ?_;refine mg [] rfl (by simp;rfl) ?_;refine Ab rfl (λh=>absurd (by simpa using h) h2) (λh=>?_);clear h;refine Ak rfl ?_;have hil2:i<must.length:=by omega
 refine mi rfl (c:=[.int .i64 b]) (λ_=>⟨by simp,by simp [AJ,hb],rfl⟩) (by simp) ?_;refine Aj rfl ?_;by_cases hab:a1=b
 ·have hnext:=hnext hab;have ew:IntKind.i64.wrap ((i:Int)+1)=((i+1:Nat):Int):=by rw [B2 (by omega) (by omega)];omega
  rw [<- ew] at hnext;obtain ⟨x1,y1,y2,y3,y4,hre⟩:=hre;rw [hre] at hnext ⊢;refine Ab rfl (λh=>by simp at h;exact absurd hab h) (λh=>?_);refine Ak rfl ?_;refine Ag rfl hnext ?_;refine Aj rfl ?_;exact Aa rfl rfl rfl
 ·have hstop:=hstop hab;subst hstop;refine Ab rfl (λh=>?_) (λh=>by simp at h;exact absurd h hab);refine Ak rfl ?_;exact Aa rfl rfl rfl
end Go.Hk
namespace Go.Hk
structure PMv where
 e:TypeId
 z:V
 bytes:Nat
 m:Int
 m2:Int
 dst:Option Nat
 todo:List DI
def qP (tt:TT) (n:Nat) (env:Env) (todo:List DI):Option PMv :=
 match Sd todo with
 | some o=>match o.guard,o.op with
  | none,.makeSlice t l c=>match lk tt t,CV env l,CV env c with
   | some { sh:=.sl e,.. },some (.imm (.int _ m)),some (.imm (.int _ m2))=>match lk tt e,BH n o.dst,Bg todo ([],[]) with
    | some ⟨_,_,1,bytes,[.imm z]⟩,true,some (_,_,todo')=>some ⟨e,z,bytes,m,m2,o.dst,todo'⟩
    | _,_,_=>none
   | _,_,_=>none
  | _,_=>none
 | _=>none
section
variable {P:Program} {n:Nat} {F:List Nat} {Q:DQ} {tt:TT} {env env':Env} {st st':St} {ids ids':List Nat} {k todo todo':List DI} {I:Imm} {μ:Mu} {w:World} {a:Act} {Pn:V->Prop} {d:D} {cx:Prop} {ob:List Prop}
theorem Y0 (htt:TTok P tt) {c:PMv} (h:qP tt n env todo=some c) (hm:c.m2=c.m) (h0:0<=c.m) (h1:(c.bytes:Int)*c.m<=281474976710656) (h2:c.m<=maxLen)
  (hk:G P n F Q c.todo (B9 c.dst (.imm (.sl (List.replicate c.m.toNat [c.z]))) env) st ids):G P n F Q todo env st ids:=by
 unfold qP at h
 split at h
 ·rename_i o ho
  split at h
  ·rename_i t l cc hg hop
   split at h
   ·rename_i e _ _ _ _ k1 m k2 m2 ht hl hc
    split at h
    ·rename_i sh ag bytes z all o' todo' hi hd hn1;cases h;have ho':o'=o:=Eh ho hn1;subst ho';simp only at hm h0 h1 h2 hk;have hm:=hm.symm;subst hm;refine B6 (fr:=[]) (wr:=[]) (rd:=[]) hn1 ?_ hd (λc hc=>by rw [hop] at hc;cases hc) hk;intro I μ st1 ids1 a w hag hst hon;refine ⟨λ_=>?_,λhw=>by rw [AG hg] at hw;cases hw⟩;have hops:=Bc hon;rw [hop] at hops;have rl:=hops l (by simp [Op.operands]) _ hl;have rc:=hops cc (by simp [Op.operands]) _ hc;obtain ⟨inf,zv,i1,i2,i3,i4,i5,i6⟩:=(htt e _ hi).info;have hz1:=i5 I μ;have hzl:∃c0,zv.cells.toList=[c0]/\RepV I c0 z:=by
      have hl:=hz1.1
      match hcs:zv.cells.toList,hl with
      | [c0],_=>exact ⟨c0,rfl,(hz1.2 0 c0 _ (by rw [hcs];rfl) rfl).immInv⟩
     obtain ⟨c0,hc0,hr0⟩:=hzl;have hsz:inf.size=1:=i2;have hby:inf.bytes=bytes:=i3;have hrun:(execOp a.eval o').run P w = .ok (.value (.slice (some ⟨w.heap.size,0,none⟩) m.toNat m.toNat)) (w.alloc (.cells (Array.replicate m.toNat c0) e)):=by
      have hs:=(htt t _ ht).sh;have hx:=run_make (P:=P) w t e inf zv hs i1 i4 k1 k2 m m h0 (Int.le_refl _) (by rw [hby];exact h1) (by simpa [maxLen] using h2);rw [VU _ _ c0 hc0,hsz,Nat.mul_one] at hx;simp only [execOp,hop];generalize a.eval l=vl at rl;generalize a.eval cc=vc at rc;cases rl with
      | imm _ _ rl =>
      cases rc with
      | imm _ _ rc =>
      cases rl;cases rc;simp only [Sem.run_bind,hx,Result.andThen_ok,Sem.run_pure]
     rw [hrun];have hone0:c0.oneCell'=true:=i6 c0 (by rw [hc0];simp);have hR:∀q:Nat,(List.replicate q [c0]).flatten=List.replicate q c0:=λq=>by
      induction q with
      | zero=>rfl
      | succ q ih=>simp only [List.replicate_succ,List.flatten_cons,ih];rfl
     obtain ⟨I',s1,s2,s3⟩:=fZ hst e 1 (List.replicate m.toNat [c0]) (List.replicate m.toNat [z]) (by simp) (λc hc=>by rw [List.eq_of_mem_replicate hc];rfl) (λc hc=>by rw [List.eq_of_mem_replicate hc];rfl)
      (λk c x hc hx=>by
       rw [List.getElem?_replicate] at hc hx
       split at hc
       ·rename_i hq;rw [if_pos hq] at hx;cases hc;cases hx;exact ⟨⟨rfl,λi v y hv hy=>by
         match i with
         | 0=>cases hv;cases hy;exact hr0
         | i+1=>simp at hv⟩,λu hu=>by simp at hu;subst hu;exact hone0⟩
       ·cases hc) m.toNat (by simp) (by simp [maxLen] at h2 ⊢;omega) []
     rw [List.append_nil,hR,List.length_replicate] at *;have e1:(List.replicate m.toNat c0).toArray=Array.replicate m.toNat c0:=by simp
     rw [e1] at *;exact ⟨I',μ,s1,s2,Mu.le_refl μ,s3⟩
    ·cases h
   ·cases h
  ·cases h
 ·cases h
end
end Go.Hk
namespace Go.Hk
open Go.Proofs
def FZ (ds:List Dt) (m:Mi) (l:List (Ty×Int)):Option Ty:=(CQ ds 60 m l).getD none
theorem IX {ds:List Dt} (ho:OkW ds) {t:Ty} {N:Nat} {m:Mi} {l:List (Ty×Int)} (hN:N<=999000) (hm:MOk ds t N m) (hr:Je ds t l) (hc:Gy l<60):CQ ds 60 m l=some (FZ ds m l)/\∀v,FZ ds m l=some v->Oo ds t v:=by
 obtain ⟨r,r1,r2⟩:=Fe ho t 60 N m l (by omega) hm hr (by have:=Hx ds m l;omega);have e:FZ ds m l=r:=by simp only [FZ,r1,Option.getD_some]
 rw [e];exact ⟨r1,r2⟩
def Eo (rows:List Ty) (row:Int):List (Ty×Int):=if row<0 then rows.map (·,(0:Int)) else (rows.take row.toNat).map (·,(0:Int))++(match rows[row.toNat]? with
 | some p=>[(p,1)]
 | none=>[])
def EW (c:Cse) (m:Mi) (row:Int):Option Ty:=FZ c.datas m (Eo c.rows row)
structure RowsOk (c:Cse):Prop where
 pat:∀p∈c.rows,Cz c.datas c.type p=true/\BP p=true/\Aq p<=12
 len:c.rows.length<=5
 sum:Am c.rows<=30
theorem UM (a b:List (Ty×Int)):Gy (a++b)=Gy a+Gy b:=by simp [Gy]
theorem TP (l:List Ty) (b:Int):Gy (l.map (·,b))=Am l+l.length:=by
 induction l with
 | nil=>rfl
 | cons p r ih=>simp only [List.map_cons,Gy,List.sum_cons,Am,List.length_cons] at *;omega
theorem Ud {c:Cse} (h:RowsOk c) (row:Int):Je c.datas c.type (Eo c.rows row)/\Gy (Eo c.rows row)<60:=by
 have hl:=h.len;have hs:=h.sum;unfold Eo
 split
 ·refine ⟨λx hx=>?_,by rw [TP];omega⟩;obtain ⟨p,hp,rfl⟩:=List.mem_map.1 hx;exact h.pat p hp
 ·constructor
  ·intro x hx;rcases List.mem_append.1 hx with hx | hx
   ·obtain ⟨p,hp,rfl⟩:=List.mem_map.1 hx;exact h.pat p (List.mem_of_mem_take hp)
   ·split at hx
    ·rename_i p hp;rw [List.mem_singleton.1 hx];exact h.pat p (List.mem_of_getElem? hp)
    ·cases hx
  ·rw [UM,TP];have h1:Am (c.rows.take row.toNat)<=30:=by
    have e:=BC (c.rows.take row.toNat) (c.rows.drop row.toNat);rw [List.take_append_drop] at e;omega
   have h2:(c.rows.take row.toNat).length<=5:=by rw [List.length_take];omega
   have h3:Gy (match c.rows[row.toNat]? with | some p=>[(p,1)] | none=>[])<=13:=by
    split
    ·rename_i p hp;have:=(h.pat p (List.mem_of_getElem? hp)).2.2;simp [Gy];omega
    ·simp [Gy]
   omega
theorem Ua (l:List Ty) (b:Int):l.zip (List.replicate l.length b)=l.map (·,b):=by
 induction l with
 | nil=>rfl
 | cons p r ih=>simp [List.replicate_succ,ih]
theorem lQ (l:List Ty):∀{k:Nat} {p:Ty},l[k]?=some p->(l.take (k+1)).zip ((List.replicate (k+1) (0:Int)).set k 1)=(l.take k).map (·,(0:Int))++[(p,1)]:=by
 induction l with
 | nil=>intro k p h;simp at h
 | cons q r ih =>
  intro k p h;cases k with
  | zero=>simp at h;subst h;simp
  | succ k =>
   have:=ih (k:=k) (p:=p) (by simpa using h);rw [List.replicate_succ,List.take_succ_cons,List.set_cons_succ,List.zip_cons_cons,this];simp
theorem mP (c:Cse) (ho:OkW c.datas) (hn:AI c.datas c.type=true) (hr:RowsOk c) (N:Nat) (hN:N<=999000) (m:Mi) (hm:MOk c.datas c.type N m) (row:Int) (h1 : -1<=row) (h2:row<c.rows.length) :
  Al Tryz.prog 107 [.agg (dCse c),.agg (DL m),.int .i64 row] (.agg (Cj (EW c m row))):=by
 obtain ⟨w1,w2⟩:=Ud hr row;obtain ⟨v1,v2⟩:=IX ho hN hm w1 w2;have hu:=Hx c.datas m (Eo c.rows row);have hS:=λrows must i hl hrl hok hU hS=>X1 c ho hn rows must hl hrl hok 60 N m 0 (by omega) hm i hU (EW c m row) hS;have hlen:=hr.len;rw [show FZ c.datas m (Eo c.rows row)=EW c m row from rfl] at v1;have hre:∃x1 v1 v2 v3 v4,Cj (EW c m row)=[x1,v1,v2,v3,v4]:=by
  cases EW c m row with
  | none=>exact ⟨_,_,_,_,_,rfl⟩
  | some v=>obtain ⟨a,b,c,d⟩:=v;exact ⟨_,_,_,_,_,rfl⟩
 by_cases h0:row<0
 ·have hw:Eo c.rows row=c.rows.map (·,(0:Int)):=if_pos h0;rw [hw] at v1 hu w1 w2;have hc:=hS c.rows (List.replicate c.rows.length 0) (Nat.zero_le _) (by simp) (by omega) (by rw [Ua];exact w1) (by simp only [HK,Ua,List.drop_zero];omega) (by simp only [HK,Ua,List.drop_zero];exact v1);have er:AJ (List.replicate c.rows.length 0)=List.replicate ((c.rows.length:Int)).toNat [V.int .i64 0]:=by rw [<- KL];simp
  rw [er] at hc;clear hS v1 v2 w1 w2 hm;obtain ⟨x1,y1,y2,y3,y4,hre⟩:=hre;rw [hre] at hc ⊢;obtain ⟨ds,⟨c1,c2,c3,c4⟩,rows⟩:=c;obtain ⟨⟨so,n,x,ps⟩,nt,⟨f,hd2,hd3,hd4⟩,ks⟩:=m;simp only at hlen hc;refine Ae Ai Tryz.func107 (by decide +kernel) rfl [1,2,3,4] rfl rfl ?_;refine Aj rfl ?_;refine Ab rfl (λh=>?_) (λh=>by simp at h;omega);refine Ak rfl ?_;refine Y0 Ai rfl rfl (by simp) (by simp;omega) (by simp [maxLen];omega) ?_;refine Aj rfl ?_;refine Af rfl (λ_=>by simpa using hc) (by simp) ?_;refine mg [] rfl (by simp;rfl) ?_;exact Aa rfl rfl rfl
 obtain ⟨k,rfl⟩:∃k:Nat,row=k:=⟨row.toNat,by omega⟩
 have hk:k<c.rows.length:=by omega
 obtain ⟨p,hp⟩:=As hk;have hw:Eo c.rows (k:Int)=(c.rows.take (k+1)).zip ((List.replicate (k+1) (0:Int)).set k 1):=by
  rw [lQ c.rows hp];simp only [Eo,if_neg h0,Int.toNat_natCast,hp]
 rw [hw] at v1 hu w1 w2;have hl1:(c.rows.take (k+1)).length=k+1:=by rw [List.length_take];omega
 have hc:=hS (c.rows.take (k+1)) ((List.replicate (k+1) (0:Int)).set k 1) (Nat.zero_le _) (by simp;omega) (by omega) w1 (by simp only [HK,List.drop_zero];omega) (by simp only [HK,List.drop_zero];exact v1);clear hS v1 v2 w1 w2 hm;have ew:IntKind.i64.wrap ((k:Int)+1)=((k+1:Nat):Int):=by rw [B2 (by omega) (by omega)];omega
 obtain ⟨x1,y1,y2,y3,y4,hre⟩:=hre;rw [hre] at hc ⊢;obtain ⟨ds,⟨c1,c2,c3,c4⟩,rows⟩:=c;obtain ⟨⟨so,n,x,ps⟩,nt,⟨f,hd2,hd3,hd4⟩,ks⟩:=m;simp only at hlen hc hk hp hl1;refine Ae Ai Tryz.func107 (by decide +kernel) rfl [1,2,3,4] rfl rfl ?_;refine Aj rfl ?_;refine Ab rfl (λh=>by simp at h;omega) (λh=>?_);refine Ak rfl ?_;refine NP Ai rfl rfl (by simp only [ew];omega) (by simp only [ew];omega) (by simp only [ew,maxLen];omega) rfl ?_;have er:(List.replicate (IntKind.i64.wrap ((k:Int)+1)).toNat [V.int .i64 0])=AJ (List.replicate (k+1) 0):=by rw [ew,<- KL];simp
 simp only [B9];rw [er,rowI_length,List.length_replicate];refine Aj rfl ?_;refine Dv Ai rfl (λ_=>⟨by simp,by simp;omega⟩) (by simp) ?_;refine Aj rfl ?_;refine II Ai (e:=[.int .i64 0]) (e':=[.int .i64 1]) rfl (by simp [AJ]) (by show 0+1<=1;decide) (by simp) (by simp) ?_;refine qI 2 rfl (by simp) ?_;refine Bw 4 rfl ?_;have es:(AJ (List.replicate (k+1) (0:Int))).set k (List.take 0 [V.int .i64 0]++[V.int .i64 1]++List.drop (0+1) [V.int .i64 0])=AJ ((List.replicate (k+1) (0:Int)).set k 1):=by show (AJ (List.replicate (k+1) (0:Int))).set k [V.int .i64 1]=_;rw [Qr]
 have et:(Bx rows).take (k+1)=Bx (rows.take (k+1)):=by simp only [C8,List.map_take]
 refine md [] rfl (by simp [ew];exact ⟨by omega,λc hc=>by rw [C8] at hc;obtain ⟨t,_,rfl⟩:=List.mem_map.1 hc;simp⟩) ?_;refine Af (v:=.agg [x1,y1,y2,y3,y4]) rfl (λ_=>?_) (by simp) ?_
 ·rw [ew];rw [<- es,<- et] at hc;exact hc
 refine mg [] rfl (by simp;rfl) ?_;exact Aa rfl rfl rfl
def Nh (c:Cse) (p q:Ty):Option Ty:=FZ c.datas (Ay c.type) [(p,1),(q,1)]
def EZ (c:Cse):Nat->List Int
 | 0=>[]
 | i+1=>EZ c i++(if (EW c (Ay c.type) i).isSome then [] else [(i:Int)])
theorem Oq (c:Cse):∀i,(EZ c i).length<=i
 | 0=>Nat.le_refl _
 | i+1=>by
  have:=Oq c i;simp only [EZ,List.length_append]
  split <;> simp <;> omega
mutual
theorem Vy {ds:List Dt} (ho:OkW ds) {N:Nat}:∀(p:Ty) {m:Mi},GV ds N m=true->Ed ds m->GV ds N (EG ds p m)=true/\Ed ds (EG ds p m)/\(EG ds p m).ty=m.ty/\JG (EG ds p m)<=max (JG m) (Aq p+2)
 | .mk f n x ps,m,hw,hc=>by
  have hsw:=Cy ho hw;have hsc:=Da (ds:=ds) hc;have hsh:=OK ds m;have hst:=D6 ds m;simp only [EG,Aq]
  split
  ·exact ⟨hw,hc,rfl,by omega⟩
  ·split
   ·exact ⟨hsw,hsc,hst,by omega⟩
   ·rename_i h1 h2;generalize Ac ds m=s at *;obtain ⟨ty,nt,hd,ks⟩:=s;obtain ⟨a1,a2,a3⟩:=SR ho ps (l:=ks) (λk hk=>⟨(AR.1 hsw).2.2 k hk,(BI.1 hsc).2.2 k hk⟩);have hlen:(Dq ds ps ks).length=ks.length:=by simpa using congrArg List.length a2
    have w:=AR.1 hsw;have cc:=BI.1 hsc;rw [HY] at hsh;simp only [Mi.ty,Mi.nt,Mi.hd,Mi.ks] at w cc hsh hst h2 ⊢;refine ⟨AR.2 ⟨⟨w.1.1,by show (Dq ds ps ks).length<=3;rw [hlen];exact w.1.2.1,w.1.2.2⟩,w.2.1,λk hk=>(a1 k hk).1⟩,BI.2 ⟨λh=>absurd (.inl h) h2,λh=>⟨(cc.2.1 h).1,by show (Dq ds ps ks).map Mi.ty=_;rw [a2];exact (cc.2.1 h).2⟩,λk hk=>(a1 k hk).2⟩,hst,?_⟩;rw [HY];simp only [Mi.ks];omega
theorem SR {ds:List Dt} (ho:OkW ds) {N:Nat}:∀(ps:List Ty) {l:List Mi},(∀k∈l,GV ds N k=true/\Ed ds k)->(∀k∈Dq ds ps l,GV ds N k=true/\Ed ds k)/\(Dq ds ps l).map Mi.ty=l.map Mi.ty/\GD (Dq ds ps l)<=max (GD l) (Am ps+2)
 | [],l,h=>⟨by simpa only [Dq] using h,by simp only [Dq],by simp only [Dq];omega⟩
 | p::r,[],h=>⟨by simpa only [Dq] using h,by simp only [Dq],by simp [Dq,GD]⟩
 | p::r,k::ks,h=>by
  obtain ⟨b1,b2,b3,b4⟩:=Vy ho p (h k (by simp)).1 (h k (by simp)).2;obtain ⟨c1,c2,c3⟩:=SR ho r (l:=ks) (λy hy=>h y (by simp [hy]));simp only [Dq]
  split
  ·refine ⟨λy hy=>?_,by simp only [List.map_cons,b3,c2],by simp only [GD,Am];omega⟩;rcases List.mem_cons.1 hy with rfl | hy
   ·exact ⟨b1,b2⟩
   ·exact c1 y hy
  ·refine ⟨λy hy=>?_,by simp only [List.map_cons,b3],by simp only [GD,Am];omega⟩;rcases List.mem_cons.1 hy with rfl | hy
   ·exact ⟨b1,b2⟩
   ·exact h y (by simp [hy])
end
mutual
theorem FK (ds:List Dt):∀(p:Ty) (m:Mi),(Ar ds p m).1=0\/(Ar ds p m).1=1\/(Ar ds p m).1=2
 | .mk f n x ps,m=>by
  have h:=OD ds ps (Ac ds m).ks 0;simp only [Ar]
  split
  ·exact .inr (.inl rfl)
  ·split
   ·exact .inr (.inr rfl)
   ·split
    ·exact .inl rfl
    ·exact h
theorem OD (ds:List Dt):∀(ps:List Ty) (l:List Mi) (i:Int),(AP ds i ps l).1=0\/(AP ds i ps l).1=1\/(AP ds i ps l).1=2
 | [],l,i=>.inr (.inl (by simp only [AP]))
 | p::r,[],i=>.inr (.inl (by simp only [AP]))
 | p::r,k::ks,i=>by
  have h1:=FK ds p k;have h2:=OD ds r ks (i+1);simp only [AP]
  split
  ·exact h2
  ·exact h1
end
theorem MOk.see {ds:List Dt} (ho:OkW ds) {t:Ty} {N:Nat} {m:Mi} (h:MOk ds t N m) {p:Ty} (hp:Aq p<=12):MOk ds t N (EG ds p m):=by
 obtain ⟨a,b,c,d⟩:=Vy ho p h.wf h.coh;have:=h.hgt;exact ⟨a,b,by rw [c,h.typ],by omega⟩
def LY (x:Ty×Int):V:=.iface (if x.2=1 then 139 else 201) (.agg (Ao x.1))
def Cx (l:List (Ty×Int)):List (List V):=l.map λx=>[LY x]
@[simp] theorem wishVs_length (l:List (Ty×Int)):(Cx l).length=l.length:=by simp [Cx]
theorem RT (a b:List (Ty×Int)):Cx (a++b)=Cx a++Cx b:=by simp [Cx]
theorem Xp {l:List (Ty×Int)} {i:Nat} {x:Ty×Int} (h:l[i]?=some x):(Cx l)[i]?=some [LY x]:=by simp [Cx,h]
theorem Ve (l:List (Ty×Int)) (i:Nat):(Cx l).drop i=Cx (l.drop i):=by simp [Cx,List.map_drop]
def JB (ds:List Dt) (t v:Ty):Prop:=LE ds t v=true/\FH v=true
mutual
def IS (ds:List Dt):Mi->Ty->Prop
 | .mk ty nt hd ks,v=>JB ds ty v/\(AK hd=0->Bj nt v=false)/\(AK hd≠0->AB hd v=true/\DS ds ks (B4 v))
def DS (ds:List Dt):List Mi->List Ty->Prop
 | [],vs=>vs=[]
 | _::_,[]=>False
 | k::r,v::vs=>IS ds k v/\DS ds r vs
end
theorem BL {ds:List Dt} {m:Mi} {v:Ty}:IS ds m v↔JB ds m.ty v/\(AK m.hd=0->Bj m.nt v=false)/\(AK m.hd≠0->AB m.hd v=true/\DS ds m.ks (B4 v)):=by
 obtain ⟨a,b,c,d⟩:=m;simp only [IS,Mi.ty,Mi.nt,Mi.hd,Mi.ks]
theorem IE {ds:List Dt}:∀{ks:List Mi} {vs:List Ty},DS ds ks vs↔ks.length=vs.length/\∀(i:Nat) k v,ks[i]?=some k->vs[i]?=some v->IS ds k v
 | [],vs=>by
  simp only [DS,List.length_nil];constructor
  ·rintro rfl;exact ⟨rfl,λi k v h=>by simp at h⟩
  ·rintro ⟨h,_⟩;exact List.eq_nil_of_length_eq_zero h.symm
 | _::_,[]=>by simp [DS]
 | k::r,v::vs=>by
  simp only [DS,IE (ks:=r) (vs:=vs),List.length_cons,Nat.add_right_cancel_iff];constructor
  ·rintro ⟨h1,h2,h3⟩;refine ⟨h2,λi a b ha hb=>?_⟩;cases i with
   | zero=>simp at ha hb;subst ha;subst hb;exact h1
   | succ i=>exact h3 i a b (by simpa using ha) (by simpa using hb)
  ·rintro ⟨h1,h2⟩;exact ⟨h2 0 k v rfl rfl,h1,λi a b ha hb=>h2 (i+1) a b (by simpa using ha) (by simpa using hb)⟩
theorem HZ {a b c:Ty} (h1:AB a b=true):AB a c=AB b c:=by
 obtain ⟨a1,a2,a3,a4⟩:=a;obtain ⟨b1,b2,b3,b4⟩:=b;obtain ⟨c1,c2,c3,c4⟩:=c;simp only [AB,Bool.and_eq_true,beq_iff_eq] at h1;obtain ⟨⟨rfl,rfl⟩,rfl⟩:=h1;rfl
theorem GZ {nt:List Ty} {a b:Ty} (h:AB a b=true):Bj nt a=Bj nt b:=by
 simp only [Bj];congr 1;funext x;rw [H3 x a,H3 x b,HZ h]
theorem Ki:∀l:List Ty,Ga l=l.all FH
 | []=>rfl
 | t::r=>by simp [Ga,Ki r]
theorem Q8 {ds:List Dt}:∀{l vs:List Ty},l.length=vs.length->(Jf ds l vs=true↔∀(i:Nat) a v,l[i]?=some a->vs[i]?=some v->LE ds a v=true)
 | [],[],_=>by simp [Jf]
 | a::r,v::vs,h=>by
  simp only [Jf,Bool.and_eq_true,Q8 (l:=r) (vs:=vs) (by simpa using h)];constructor
  ·rintro ⟨h1,h2⟩ i x y hx hy;cases i with
   | zero=>simp at hx hy;subst hx;subst hy;exact h1
   | succ i=>exact h2 i x y (by simpa using hx) (by simpa using hy)
  ·intro h;exact ⟨h 0 a v rfl rfl,λi x y hx hy=>h (i+1) x y (by simpa using hx) (by simpa using hy)⟩
 | [],_::_,h=>by simp at h
 | _::_,[],h=>by simp at h
theorem Wm {ds:List Dt} {t v:Ty}:IS ds (Ay t) v↔JB ds t v:=by
 rw [BL];exact ⟨λh=>h.1,λh=>⟨h,λ_=>rfl,λh=>absurd rfl h⟩⟩
theorem dI {ds:List Dt} {l vs:List Ty}:DS ds (l.map Ay) vs↔l.length=vs.length/\∀(i:Nat) a v,l[i]?=some a->vs[i]?=some v->JB ds a v:=by
 rw [IE,List.length_map];constructor
 ·rintro ⟨h1,h2⟩;exact ⟨h1,λi a v ha hv=>Wm.1 (h2 i _ v (by simp [ha]) hv)⟩
 ·rintro ⟨h1,h2⟩;refine ⟨h1,λi k v hk hv=>?_⟩;simp only [List.getElem?_map,Option.map_eq_some_iff] at hk;obtain ⟨a,ha,rfl⟩:=hk;exact Wm.2 (h2 i a v ha hv)
theorem FF {ds:List Dt} {t v:Ty} (h:JB ds t v):(AZ ds t (C5 v)).1.length=(B4 v).length/\∀(i:Nat) a u,(AZ ds t (C5 v)).1[i]?=some a->(B4 v)[i]?=some u->JB ds a u:=by
 obtain ⟨so,m,x,qs⟩:=t;obtain ⟨f,n,y,ps⟩:=v;obtain ⟨h1,h2⟩:=h;rw [Jg] at h1;simp only [FH,Bool.and_eq_true,Ki,List.all_eq_true] at h2;obtain ⟨h2,h3⟩:=h2;simp only [LC] at h1;simp only [C5,B4];have hz:so≠8->ps=[]:=λh8=>by
  have hf:f≠4:=by
   intro e;subst e
   repeat' (split at h1)
   all_goals first | (simp at h1;done) | (exact absurd (by assumption) h8)
  simp only [Hu] at h3
  repeat' (split at h3)
  all_goals first | (exact absurd (by assumption) hf) | (simp only [Bool.and_eq_true,beq_iff_eq] at h3;exact List.eq_nil_of_length_eq_zero (by omega)) | cases h3
 by_cases h8:so=8
 ·subst h8;rw [if_neg (by decide),if_neg (by decide),if_neg (by decide),if_pos rfl] at h1;simp only [Bool.and_eq_true,decide_eq_true_eq] at h1;obtain ⟨_,h4,_,h5⟩:=h1;exact ⟨h4,λi a u ha hu=>⟨(Q8 h4).1 h5 i a u ha hu,h2 u (List.mem_of_getElem? hu)⟩⟩
 ·rw [FV (t:=.mk so m x qs) h8,hz h8];exact ⟨rfl,λi a u ha=>by simp at ha⟩
theorem dK {h v:Ty} (e:AB h v=true):C5 h=C5 v:=IG e
theorem Kr {ds:List Dt} {m:Mi} {h v:Ty} (hh:AK h≠0):IS ds (AY ds m h) v↔JB ds m.ty v/\AB h v=true:=by
 rw [BL];constructor
 ·rintro ⟨h1,_,h2⟩;exact ⟨h1,(h2 hh).1⟩
 ·rintro ⟨h1,h2⟩;refine ⟨h1,λe=>absurd e hh,λ_=>⟨h2,?_⟩⟩;show DS ds ((AZ ds m.ty (C5 h)).1.map Ay) _;rw [dI,dK h2];exact FF h1
theorem Q7 {ds:List Dt} {t v:Ty} (hn:AI ds t=true) (h:JB ds t v) (hs:AK t=2\/AK t=3\/AK t=8):∃x,x∈A6 ds t/\AB x v=true:=by
 obtain ⟨so,m,x,qs⟩:=t;obtain ⟨f,n,y,ps⟩:=v;obtain ⟨h1,h2⟩:=h;rw [Jg] at h1;simp only [FH,Bool.and_eq_true] at h2;obtain ⟨_,h3⟩:=h2;simp only [AK] at hs;simp only [LC] at h1;simp only [Hu] at h3;rcases hs with rfl | rfl | rfl
 ·have hf:f=2:=by simpa using h1
  subst hf;rw [if_neg (by decide),if_pos rfl] at h3;simp only [Bool.and_eq_true,beq_iff_eq,Fp,decide_eq_true_eq] at h3;obtain ⟨⟨h3,rfl⟩,_⟩:=h3;have:n=0\/n=1:=by omega
  rcases this with rfl | rfl
  ·exact ⟨.mk 2 0 [] [],by simp [A6],by simp [AB]⟩
  ·exact ⟨.mk 2 1 [] [],by simp [A6],by simp [AB]⟩
 ·have hf:f=3:=by simpa using h1
  subst hf;rw [if_neg (by decide),if_neg (by decide),if_pos (.inl rfl)] at h3;simp only [Bool.and_eq_true,beq_iff_eq] at h3;obtain ⟨⟨rfl,rfl⟩,_⟩:=h3;exact ⟨.mk 3 0 [] [],by simp [A6],by simp [AB]⟩
 ·rw [if_neg (by decide),if_neg (by decide),if_neg (by decide),if_pos rfl] at h1;simp only [Bool.and_eq_true,decide_eq_true_eq] at h1;obtain ⟨rfl,_,h4,_⟩:=h1;rw [if_neg (by decide),if_neg (by decide),if_neg (by decide),if_pos rfl] at h3;simp only [Bool.and_eq_true,beq_iff_eq] at h3;obtain ⟨⟨rfl,_⟩,_⟩:=h3;have hc:0<=(BN ds (.mk 8 m x qs) y).2:=by
   simp only [AZ] at h4;by_cases e:0<=(BN ds (.mk 8 m x qs) y).2
   ·exact e
   ·simp [e] at h4
  obtain ⟨_,d,hd⟩:=Cr hn 8 m x qs rfl rfl;simp only [BN,if_true,hd] at hc;obtain ⟨c1,c2⟩:=IO hc;refine ⟨.mk 4 0 y [],?_,by simp [AB]⟩;rw [show A6 ds (.mk 8 m x qs)=(match ds[(Ba x 0 ds).toNat]? with | some d=>d.cons.map λc=>Ty.mk 4 0 c.name [] | none=>[]) from rfl,hd];exact List.mem_map.2 ⟨_,c1,by rw [c2]⟩
theorem Rc {ds:List Dt} {t h:Ty} (hh:h∈A6 ds t):AK t=2\/AK t=3\/AK t=8:=by
 obtain ⟨so,n,x,ps⟩:=t;simp only [A6,AK] at *
 split at hh
 ·exact .inl (by assumption)
 ·split at hh
  ·exact .inr (.inl (by assumption))
  ·split at hh
   ·exact .inr (.inr (by assumption))
   ·cases hh
theorem jB {ds:List Dt} {m:Mi} {h:Ty}:h∈HW ds m↔h∈A6 ds m.ty/\Bj m.nt h=false:=by
 simp only [HW,List.mem_filter,Bool.not_eq_true']
theorem LK {ds:List Dt} {m:Mi} {v:Ty} (hn:AI ds m.ty=true):IS ds (Ac ds m) v↔IS ds m v:=by
 rcases Dc (ds:=ds) m with h | ⟨hh,h,h1,h2⟩
 ·rw [h]
 ·rw [h2,Kr (Bs (DG h1).1).2,BL];have hl:=DG h1;constructor
  ·rintro ⟨a,b⟩;exact ⟨a,λ_=>by rw [<- GZ b];exact hl.2,λe=>absurd hh e⟩
  ·rintro ⟨a,b,_⟩;refine ⟨a,?_⟩;obtain ⟨x,x1,x2⟩:=Q7 hn a (Rc hl.1);have:x∈HW ds m:=jB.2 ⟨x1,by rw [GZ x2];exact b hh⟩;rw [h1,List.mem_singleton] at this;rw [<- this];exact x2
mutual
def UZ (ds:List Dt):Mi->Prop
 | .mk ty nt _ ks=>(∀h∈nt,Lj ds ty h)/\iS ds ks
def iS (ds:List Dt):List Mi->Prop
 | []=>True
 | k::r=>UZ ds k/\iS ds r
end
theorem VK (ds:List Dt):∀l:List Mi,iS ds l↔∀k∈l,UZ ds k
 | []=>by simp [iS]
 | k::r=>by simp [iS,VK ds r]
theorem GI {ds:List Dt} {m:Mi}:UZ ds m↔(∀h∈m.nt,Lj ds m.ty h)/\∀k∈m.ks,UZ ds k:=by
 obtain ⟨ty,nt,hd,ks⟩:=m;simp only [UZ,VK,Mi.ty,Mi.nt,Mi.ks]
theorem VJ (ds:List Dt) (t:Ty):UZ ds (Ay t):=GI.2 ⟨λh hh=>by simp [Ay,Mi.nt] at hh,λk hk=>by simp [Ay,Mi.ks] at hk⟩
theorem QC (ds:List Dt) (m:Mi) (h:Ty):UZ ds (AY ds m h):=GI.2 ⟨λx hx=>by simp [AY,Mi.nt] at hx,λk hk=>by
 simp only [AY,Mi.ks,List.mem_map] at hk;obtain ⟨t,_,rfl⟩:=hk;exact VJ ds t⟩
theorem XN {ds:List Dt} {m:Mi} (h:UZ ds m):UZ ds (Ac ds m):=by
 rcases Dc (ds:=ds) m with e | ⟨_,x,_,e⟩
 ·rw [e];exact h
 ·rw [e];exact QC ds m x
def J0 (ds:List Dt) (h:Ty):Mi->List Int->Prop
 | m,[]=>AK m.hd=0/\Bj m.nt h=false/\Lj ds m.ty h
 | m,i::p=>∃k,(Ac ds m).ks[i.toNat]?=some k/\AK (Ac ds m).hd≠0/\J0 ds h k p
theorem gC {ds:List Dt} {ks:List Mi} {vs:List Ty} {i:Nat} {k k':Mi} (hk:ks[i]?=some k) (hs:∀v,IS ds k' v->IS ds k v) (h:DS ds (ks.set i k') vs):DS ds ks vs:=by
 rw [IE] at h ⊢;obtain ⟨h1,h2⟩:=h;rw [List.length_set] at h1;refine ⟨h1,λj a v ha hv=>?_⟩;by_cases e:i=j
 ·subst e;rw [hk] at ha;cases ha;exact hs v (h2 i k' v (by rw [List.getElem?_set_self (List.getElem?_eq_some_iff.1 hk).1]) hv)
 ·exact h2 j a v (by rw [List.getElem?_set_ne e];exact ha) hv
theorem jK {ds:List Dt} {ks:List Mi} {vs:List Ty} {i:Nat} {k:Mi} (hk:ks[i]?=some k) (h:DS ds ks vs):∃v,vs[i]?=some v/\IS ds k v/\∀k',IS ds k' v->DS ds (ks.set i k') vs:=by
 obtain ⟨h1,h2⟩:=IE.1 h;have hi:=(List.getElem?_eq_some_iff.1 hk).1;obtain ⟨v,hv⟩:=As (l:=vs) (i:=i) (by omega);refine ⟨v,hv,h2 i k v hk hv,λk' hk'=>IE.2 ⟨by rw [List.length_set];exact h1,λj a u ha hu=>?_⟩⟩;by_cases e:i=j
 ·subst e;rw [List.getElem?_set_self hi] at ha;cases ha;rw [hv] at hu;cases hu;exact hk'
 ·rw [List.getElem?_set_ne e] at ha;exact h2 j a u ha hu
theorem Qi {ds:List Dt} (ho:OkW ds) {N:Nat} {h:Ty} (hh:AK h≠0):∀(path:List Int) {m:Mi} {v:Ty},GV ds N m=true->J0 ds h m path ->
  (∀is,IS ds (A3 ds m path h is) v->IS ds m v)/\(IS ds m v->IS ds (A3 ds m path h true) v\/IS ds (A3 ds m path h false) v)
 | [],m,v,hw,⟨h1,h2,_⟩=>by
  refine ⟨λis=>?_,λhv=>?_⟩
  ·cases is with
   | true =>
    rw [show A3 ds m [] h true=AY ds m h from rfl,Kr hh,BL];exact λ⟨a,b⟩=>⟨a,λ_=>by rw [<- GZ b];exact h2,λe=>absurd h1 e⟩
   | false =>
    rw [show A3 ds m [] h false = .mk m.ty (m.nt++[h]) m.hd m.ks from rfl,BL,BL];rintro ⟨a,b,c⟩;refine ⟨a,λe=>?_,λe=>absurd h1 e⟩;have:=b e;simp only [Bj,Mi.nt,List.any_append,Bool.or_eq_false_iff] at this ⊢;exact this.1
  ·rw [BL] at hv;obtain ⟨a,b,_⟩:=hv;cases e:AB h v with
   | true=>exact .inl (by rw [show A3 ds m [] h true=AY ds m h from rfl,Kr hh];exact ⟨a,e⟩)
   | false =>
    right;rw [show A3 ds m [] h false = .mk m.ty (m.nt++[h]) m.hd m.ks from rfl,BL];refine ⟨a,λ_=>?_,λe=>absurd h1 e⟩;have hb:=b h1;simp only [Bj,Mi.nt,List.any_append,Bool.or_eq_false_iff,List.any_cons,List.any_nil,Bool.or_false] at hb ⊢;exact ⟨hb,e⟩
 | i::p,m,v,hw,⟨k,hk,h1,h2⟩=>by
  have hn:=(AR.1 hw).1.1;have hsw:=Cy ho hw;have ih:=λv=>Qi ho hh p (v:=v) (Xq hsw hk) h2;have es:∀is,A3 ds m (i::p) h is = .mk (Ac ds m).ty (Ac ds m).nt (Ac ds m).hd ((Ac ds m).ks.set i.toNat (A3 ds k p h is)):=λis=>by simp only [A3,hk]
  refine ⟨λis=>?_,λhv=>?_⟩
  ·rw [es,<- LK (m:=m) hn,BL,BL (m:=Ac ds m)];simp only [Mi.ty,Mi.nt,Mi.hd,Mi.ks];rintro ⟨a,b,c⟩;refine ⟨a,b,λe=>⟨(c e).1,gC hk (λv=>(ih v).1 is) (c e).2⟩⟩
  ·rw [<- LK (m:=m) hn,BL] at hv;obtain ⟨a,b,c⟩:=hv;obtain ⟨c1,c2⟩:=c h1;obtain ⟨u,u1,u2,u3⟩:=jK hk c2;have key:∀is,IS ds (A3 ds k p h is) u->IS ds (A3 ds m (i::p) h is) v:=λis hi=>by
    rw [es,BL];exact ⟨a,λe=>absurd e h1,λ_=>⟨c1,u3 _ hi⟩⟩
   exact ((ih u).2 u2).imp (key true) (key false)
theorem Kh {ds:List Dt} {h:Ty} (is:Bool):∀(path:List Int) {m:Mi},UZ ds m->J0 ds h m path->UZ ds (A3 ds m path h is)
 | [],m,hm,⟨_,_,h3⟩=>by
  cases is with
  | true=>exact QC ds m h
  | false =>
   refine GI.2 ⟨λx hx=>?_,(GI.1 hm).2⟩;rcases List.mem_append.1 hx with hx | hx
   ·exact (GI.1 hm).1 x hx
   ·rw [List.mem_singleton.1 hx];exact h3
 | i::p,m,hm,⟨k,hk,_,h2⟩=>by
  have hs:=GI.1 (XN hm);simp only [A3,hk];refine GI.2 ⟨hs.1,λx hx=>?_⟩;rcases Jo hx with hx | hx
  ·exact hs.2 x hx
  ·rw [hx];exact Kh is p (hs.2 k (List.mem_of_getElem? hk)) h2
mutual
theorem Jp {ds:List Dt} (ho:OkW ds) {N:Nat}:∀(p:Ty) {m:Mi} {v:Ty},GV ds N m=true->Ed ds m->Cz ds m.ty p=true->BP p=true ->
  ((Ar ds p m).1=2->J0 ds (Ar ds p m).2.2 m (Ar ds p m).2.1) /\
  (IS ds m v->((Ar ds p m).1=1->(Bo p v).2=true)/\((Ar ds p m).1=0->(Bo p v).2=false))
 | .mk f n x ps,m,v,hw,hc,hp,hpp=>by
  have hn:=(AR.1 hw).1.1;have hsw:=Cy ho hw;have hsc:=Da (ds:=ds) hc;by_cases h12:f=1\/f=2
  ·have e:Ar ds (.mk f n x ps) m=(1,[],zT):=by simp only [Ar,if_pos h12]
   rw [e];refine ⟨λh=>by simp at h,λ_=>⟨λ_=>?_,λh=>by simp at h⟩⟩;simp only [Bo];rcases h12 with rfl | rfl
   ·rw [if_pos rfl]
   ·rw [if_neg (by decide),if_pos rfl]
  obtain ⟨k1,k2,k3,k4⟩:=Ke hn hp hpp h12;have em:Bo (.mk f n x ps) v=if AB (AO (.mk f n x ps)) v=false then ([],false) else B0 ps (B4 v):=by
   simp only [Bo,if_neg (λh=>h12 (.inl h)),if_neg (λh=>h12 (.inr h))]
  rw [em];have el:Ar ds (.mk f n x ps) m=if AK (Ac ds m).hd=0/\Bj (Ac ds m).nt (AO (.mk f n x ps))=false then (2,[],AO (.mk f n x ps)) else
   if AK (Ac ds m).hd=0\/AB (Ac ds m).hd (AO (.mk f n x ps))=false then (0,[],zT) else AP ds 0 ps (Ac ds m).ks:=by simp only [Ar,if_neg h12]
  rw [el];rw [<- LK (m:=m) hn];have hst:=D6 ds m;have hse:=Pi (ds:=ds) m;have key:∀i:Int,AK (Ac ds m).hd≠0->AB (Ac ds m).hd (AO (.mk f n x ps))=true->(AZ ds m.ty (C5 (AO (.mk f n x ps)))).1=(Ac ds m).ks.map Mi.ty:=λi h0 hE=>by
   have:=((BI.1 hsc).2.1 h0).2;rw [IG hE,D6] at this;exact this.symm
  have hs0:AK (Ac ds m).hd=0->Ac ds m=m:=λh0=>by
   rcases Dc (ds:=ds) m with e | ⟨_,y,y1,y2⟩
   ·exact e
   ·rw [y2] at h0;exact absurd h0 (Bs (DG y1).1).2
  generalize AO (.mk f n x ps)=h at *;by_cases h0:AK (Ac ds m).hd=0
  ·cases hb:Bj (Ac ds m).nt h with
   | false =>
    rw [if_pos ⟨h0,rfl⟩];exact ⟨λ_=>by have e:=hs0 h0;rw [e] at h0 hb;exact ⟨h0,hb,k1⟩,λ_=>⟨λh=>by simp at h,λh=>by simp at h⟩⟩
   | true =>
    rw [if_neg (λh=>by cases h.2),if_pos (.inl h0)];refine ⟨λh=>by simp at h,λhv=>⟨λh=>by simp at h,λ_=>?_⟩⟩;have:=(BL.1 hv).2.1 h0;cases he:AB h v with
    | false=>rfl
    | true=>rw [GZ he,this] at hb;cases hb
  ·rw [if_neg (λh=>h0 h.1)];cases hE:AB (Ac ds m).hd h with
   | false =>
    rw [if_pos (.inr rfl)];refine ⟨λh=>by simp at h,λhv=>⟨λh=>by simp at h,λ_=>?_⟩⟩;have hv2:=((BL.1 hv).2.2 h0).1;rw [HZ hv2,H3] at hE;rw [if_pos hE]
   | true =>
    rw [if_neg (λh=>by rcases h with h | h;exact h0 h;cases h)];have hks:=key 0 h0 hE;rw [hks] at k3;obtain ⟨q1,q2⟩:=VV ho ps (l:=(Ac ds m).ks) (i:=0) (λk hk=>⟨(AR.1 hsw).2.2 k hk,(BI.1 hsc).2.2 k hk⟩) k3 k4;refine ⟨λhl=>?_,λhv=>?_⟩
    ·obtain ⟨j,k,j1,j2,j3⟩:=q1 hl;rw [j1];simp only [Int.zero_add];exact ⟨k,by simpa using j2,h0,j3⟩
    ·obtain ⟨hv1,hv2⟩:=(BL.1 hv).2.2 h0;have he:AB h v=true:=by rw [<- HZ hE];exact hv1
     rw [if_neg (by rw [he];simp)];exact q2 (B4 v) hv2
theorem VV {ds:List Dt} (ho:OkW ds) {N:Nat}:∀(ps:List Ty) {l:List Mi} {i:Int},(∀k∈l,GV ds N k=true/\Ed ds k)->Cp ds (l.map Mi.ty) ps=true->BF ps=true ->
  ((AP ds i ps l).1=2->∃(j:Nat) (k:Mi),(AP ds i ps l).2.1=(i+j)::(AP ds i ps l).2.1.tail/\l[j]?=some k/\J0 ds (AP ds i ps l).2.2 k (AP ds i ps l).2.1.tail) /\
  (∀vs,DS ds l vs->((AP ds i ps l).1=1->(B0 ps vs).2=true)/\((AP ds i ps l).1=0->(B0 ps vs).2=false))
 | [],l,i,_,_,_=>⟨λh=>by simp [AP] at h,λvs _=>⟨λ_=>by simp only [B0],λh=>by simp [AP] at h⟩⟩
 | p::r,[],i,_,_,_=>⟨λh=>by simp [AP] at h,λvs hv=>by
  simp only [DS] at hv;subst hv;exact ⟨λ_=>by simp only [B0],λh=>by simp [AP] at h⟩⟩
 | p::r,k::ks,i,hk,hp,hpp=>by
  simp only [List.map_cons,Cp,BF,Bool.and_eq_true] at hp hpp;have a:=λv=>Jp ho p (v:=v) (hk k (by simp)).1 (hk k (by simp)).2 hp.1 hpp.1;obtain ⟨b1,b2⟩:=VV ho r (l:=ks) (i:=i+1) (λy hy=>hk y (by simp [hy])) hp.2 hpp.2;simp only [AP]
  split
  ·rename_i h1;refine ⟨λhl=>?_,λvs hv=>?_⟩
   ·obtain ⟨j,y,y1,y2,y3⟩:=b1 hl;exact ⟨j+1,y,by rw [y1];simp only [List.tail_cons,List.cons.injEq,and_true];omega,by simpa using y2,y3⟩
   ·cases vs with
    | nil=>simp only [DS] at hv
    | cons v vs =>
     simp only [DS] at hv;have hm:=((a v).2 hv.1).1 h1;simp only [B0,hm,Bool.true_and];obtain ⟨c1,c2⟩:=b2 vs hv.2;exact ⟨λh=>by rw [c1 h];rfl,λh=>by rw [c2 h];rfl⟩
  ·rename_i h1;refine ⟨λhl=>⟨0,k,by simp,rfl,by simpa using (a zT).1 hl⟩,λvs hv=>?_⟩;cases vs with
   | nil=>simp only [DS] at hv
   | cons v vs =>
    simp only [DS] at hv;refine ⟨λh=>absurd h h1,λh=>?_⟩;have hm:=((a v).2 hv.1).2 h;simp only [B0,hm,Bool.false_and];rfl
end
theorem U0 {ds:List Dt} (ho:OkW ds) {t a b:Ty} (hn:AI ds t=true) (ha:JB ds t a) (hb:JB ds t b):AK a=AK b/\(AK a=4->(Cg ds (C5 a)).2=(Cg ds (C5 b)).2->(AZ ds t (C5 b)).1=(AZ ds t (C5 a)).1):=by
 have fa:=ha.1;have fb:=hb.1;rw [Jg] at fa fb;obtain ⟨so,m,x,qs⟩:=t;obtain ⟨f,n,y,ps⟩:=a;obtain ⟨g,n',y',ps'⟩:=b;simp only [LC] at fa fb;simp only [AK,C5,B4] at *;refine ⟨?_,λh4 hs=>?_⟩
 ·by_cases h1:so=1
  ·rw [if_pos h1] at fa fb;simp only [beq_iff_eq] at fa fb;omega
  rw [if_neg h1] at fa fb;by_cases h2:so=2
  ·rw [if_pos h2] at fa fb;simp only [beq_iff_eq] at fa fb;omega
  rw [if_neg h2] at fa fb;by_cases h3:so=3
  ·rw [if_pos h3] at fa fb;simp only [beq_iff_eq] at fa fb;omega
  rw [if_neg h3] at fa fb;by_cases h8:so=8
  ·rw [if_pos h8] at fa fb;simp only [Bool.and_eq_true,decide_eq_true_eq] at fa fb;omega
  rw [if_neg h8] at fa fb;simp only [beq_iff_eq] at fa fb;omega
 ·subst h4;have h8:so=8:=by
   repeat' (split at fa)
   all_goals first | assumption | (simp at fa;done)
  subst h8;rw [if_neg (by decide),if_neg (by decide),if_neg (by decide),if_pos rfl] at fa fb;simp only [Bool.and_eq_true,decide_eq_true_eq] at fa fb;obtain ⟨_,_,ca,_⟩:=fa;obtain ⟨_,_,cb,_⟩:=fb;have hc:∀s,(AZ ds (.mk 8 m x qs) s).2=true->0<=(BN ds (.mk 8 m x qs) s).2/\(AZ ds (.mk 8 m x qs) s).1=(BN ds (.mk 8 m x qs) s).1.args:=λs h=>by
   simp only [AZ] at h ⊢;by_cases e:0<=(BN ds (.mk 8 m x qs) s).2
   ·simp [e]
   ·simp [e] at h
  obtain ⟨a1,a2⟩:=hc y ca;obtain ⟨b1,b2⟩:=hc y' cb;have hp:=(Cr hn 8 m x qs rfl rfl).1;rw [Gj ho.dif (n:=m) (ps:=qs) hp a1,Gj ho.dif (n:=m) (ps:=qs) hp b1] at hs;have e:=NY a1 hs;rw [a2,b2,e]
theorem Hp (ds:List Dt) (a b:Ty):Cc ds a b=if AK a=1 then DE (nT a)-DE (nT b) else if AK a=2 then nT a-nT b else if AK a=4 then (if (Cg ds (C5 a)).2-(Cg ds (C5 b)).2≠0 then (Cg ds (C5 a)).2-(Cg ds (C5 b)).2 else BW ds (B4 a) (B4 b)) else 0:=by
 obtain ⟨f,n,x,ps⟩:=a;obtain ⟨g,n',x',ps'⟩:=b;simp only [Cc,AK,nT,C5,B4];rfl
theorem Ka {v u:Ty} (h:u∈B4 v):SizeOf.sizeOf u<SizeOf.sizeOf v:=by
 obtain ⟨f,n,x,ps⟩:=v;simp only [B4] at h;have:=List.sizeOf_lt_of_mem h;simp only [Ty.mk.sizeOf_spec];omega
theorem Hq {ds:List Dt} (ho:OkW ds):∀(k:Nat) (a t b:Ty),SizeOf.sizeOf a<k->AI ds t=true->JB ds t a->JB ds t b->Cc ds a b = - Cc ds b a:=by
 intro k
 induction k with
 | zero=>intro a t b h;omega
 | succ k ih =>
  intro a t b hk hn ha hb;obtain ⟨h1,h2⟩:=U0 ho hn ha hb;rw [Hp ds a b,Hp ds b a,<- h1]
  split
  ·omega
  ·split
   ·omega
   ·split
    ·rename_i h4;by_cases hs:(Cg ds (C5 a)).2=(Cg ds (C5 b)).2
     ·rw [if_neg (by omega),if_neg (by omega)];have l1:=C4 ho.okd (t:=t) (s:=C5 a);obtain ⟨l2,l4⟩:=FF ha;obtain ⟨l3,l5⟩:=FF hb;rw [h2 h4 hs] at l3 l5;have key:∀(ps qs:List Ty) (l:List Ty),(∀u∈ps,SizeOf.sizeOf u<k)->Bn ds l=true->l.length=ps.length->l.length=qs.length->(∀(i:Nat) t u,l[i]?=some t->ps[i]?=some u->JB ds t u)->(∀(i:Nat) t u,l[i]?=some t->qs[i]?=some u->JB ds t u)->BW ds ps qs = - BW ds qs ps:=by
       intro ps
       induction ps with
       | nil =>
        intro qs l _ _ e1 e2 _ _;cases qs with
        | nil=>simp [BW]
        | cons _ _=>exact absurd (e1.symm.trans e2) (by simp)
       | cons p r ih2 =>
        intro qs l hz hn e1 e2 g1 g2;cases qs with
        | nil=>exact absurd (e1.symm.trans e2) (by simp)
        | cons q s =>
         cases l with
         | nil=>simp at e1
         | cons t l =>
          simp only [Bn,Bool.and_eq_true] at hn;have hpq:=ih p t q (hz p (by simp)) hn.1 (g1 0 t p rfl rfl) (g2 0 t q rfl rfl);have hrs:=ih2 s l (λu hu=>hz u (by simp [hu])) hn.2 (by simpa using e1) (by simpa using e2) (λi t u h1 h2=>g1 (i+1) t u (by simpa using h1) (by simpa using h2)) (λi t u h1 h2=>g2 (i+1) t u (by simpa using h1) (by simpa using h2));simp only [BW];by_cases e:Cc ds p q=0
          ·rw [if_neg (by omega),if_neg (by omega)];exact hrs
          ·rw [if_pos e,if_pos (by omega)];exact hpq
      exact key _ _ _ (λu hu=>by have:=Ka hu;omega) l1 l2 l3 l4 l5
     ·rw [if_pos (by omega),if_pos (by omega)];omega
    ·omega
theorem bU {ds:List Dt} (ho:OkW ds):∀(k:Nat) (a t b c:Ty),SizeOf.sizeOf a<k->SizeOf.sizeOf b<k->SizeOf.sizeOf c<k->AI ds t=true->JB ds t a->JB ds t b->JB ds t c->Cc ds a c<0->Cc ds a b<0\/Cc ds b c<0:=by
 intro k
 induction k with
 | zero=>intro a t b c h;omega
 | succ k ih =>
  intro a t b c hk hkb hkc hn ha hb hc h;obtain ⟨h1,h2⟩:=U0 ho hn ha hb;obtain ⟨h3,h4⟩:=U0 ho hn hb hc;rw [Hp] at h;rw [Hp ds a b,Hp ds b c,<- h1]
  split
  ·rename_i f1;rw [if_pos f1] at h;omega
  ·rename_i f1;rw [if_neg f1] at h
   split
   ·rename_i f2;rw [if_pos f2] at h;omega
   ·rename_i f2;rw [if_neg f2] at h
    split
    ·rename_i f4;rw [if_pos f4] at h;by_cases hab:(Cg ds (C5 a)).2=(Cg ds (C5 b)).2
     ·by_cases hbc:(Cg ds (C5 b)).2=(Cg ds (C5 c)).2
      ·rw [if_neg (by omega)] at h;rw [if_neg (by omega),if_neg (by omega)];have l1:=C4 ho.okd (t:=t) (s:=C5 a);obtain ⟨l2,l4⟩:=FF ha;obtain ⟨l3,l5⟩:=FF hb;obtain ⟨l6,l7⟩:=FF hc;rw [h4 (by omega) hbc,h2 f4 hab] at l6 l7;rw [h2 f4 hab] at l3 l5;have key:∀(ps qs rs:List Ty) (l:List Ty),(∀u∈ps,SizeOf.sizeOf u<k)->(∀u∈qs,SizeOf.sizeOf u<k)->(∀u∈rs,SizeOf.sizeOf u<k)->Bn ds l=true->l.length=ps.length->l.length=qs.length->l.length=rs.length->(∀(i:Nat) t u,l[i]?=some t->ps[i]?=some u->JB ds t u)->(∀(i:Nat) t u,l[i]?=some t->qs[i]?=some u->JB ds t u)->(∀(i:Nat) t u,l[i]?=some t->rs[i]?=some u->JB ds t u) ->
         BW ds ps rs<0->BW ds ps qs<0\/BW ds qs rs<0:=by
        intro ps
        induction ps with
        | nil=>intro qs rs l _ _ _ _ _ _ _ _ _ _ h;simp [BW] at h
        | cons p r ih2 =>
         intro qs rs l hz hzq hzr hn e1 e2 e3 g1 g2 g3 hlt;cases l with
         | nil=>simp at e1
         | cons t l =>
          cases qs with
          | nil=>simp at e2
          | cons q s =>
           cases rs with
           | nil=>simp at e3
           | cons u v =>
            simp only [Bn,Bool.and_eq_true] at hn;have op:=g1 0 t p rfl rfl;have oq:=g2 0 t q rfl rfl;have ou:=g3 0 t u rfl rfl;have zp:=hz p (by simp);have zq:=hzq q (by simp);have zu:=hzr u (by simp);have i1:=ih p t q u zp zq zu hn.1 op oq ou;have i2:=ih u t p q zu zp zq hn.1 ou op oq;have i3:=ih q t u p zq zu zp hn.1 oq ou op;have a1:=Hq ho _ p t q (Nat.lt_succ_self _) hn.1 op oq;have a3:=Hq ho _ p t u (Nat.lt_succ_self _) hn.1 op ou;have a2:=Hq ho _ q t u (Nat.lt_succ_self _) hn.1 oq ou
            have ir:=ih2 s v l (λy hy=>hz y (by simp [hy])) (λy hy=>hzq y (by simp [hy])) (λy hy=>hzr y (by simp [hy])) hn.2 (by simpa using e1) (by simpa using e2) (by simpa using e3) (λi t u h1 h2=>g1 (i+1) t u (by simpa using h1) (by simpa using h2)) (λi t u h1 h2=>g2 (i+1) t u (by simpa using h1) (by simpa using h2)) (λi t u h1 h2=>g3 (i+1) t u (by simpa using h1) (by simpa using h2));simp only [BW] at hlt ⊢;by_cases pu:Cc ds p u=0
            ·rw [if_neg (by omega)] at hlt;by_cases pq:Cc ds p q=0
             ·by_cases qu:Cc ds q u=0
              ·rw [if_neg (by omega),if_neg (by omega)];exact ir hlt
              ·rw [if_pos qu];by_cases hneg:Cc ds q u<0
               ·exact .inr hneg
               ·exfalso;rcases i2 (by omega) with h | h <;> omega
             ·rw [if_pos pq];by_cases hneg:Cc ds p q<0
              ·exact .inl hneg
              ·right;have:Cc ds q u<0:=by
                rcases i3 (by omega) with h | h
                ·exact h
                ·omega
               rw [if_pos (by omega)];exact this
            ·rw [if_pos pu] at hlt;rcases i1 hlt with h | h
             ·left;rw [if_pos (by omega)];exact h
             ·right;rw [if_pos (by omega)];exact h
       exact key _ _ _ _ (λu hu=>by have:=Ka hu;omega) (λu hu=>by have:=Ka hu;omega) (λu hu=>by have:=Ka hu;omega) l1 l2 l3 l6 l4 l5 l7 h
      ·rw [if_neg (by omega),if_pos (by omega)];rw [if_pos (by omega)] at h;right;omega
     ·by_cases hbc:(Cg ds (C5 b)).2=(Cg ds (C5 c)).2
      ·rw [if_pos (by omega),if_neg (by omega)];rw [if_pos (by omega)] at h;left;omega
      ·rw [if_pos (by omega),if_pos (by omega)]
       split at h <;> omega
    ·rename_i f4;rw [if_neg f4] at h;omega
theorem YQ {ds:List Dt} (ho:OkW ds) {t a b c:Ty} (hn:AI ds t=true) (ha:JB ds t a) (hb:JB ds t b) (hc:JB ds t c) (h:Cm ds a c=true):Cm ds a b=true\/Cm ds b c=true:=by
 have k:=bU ho (SizeOf.sizeOf a+SizeOf.sizeOf b+SizeOf.sizeOf c+1) a t b c (by omega) (by omega) (by omega) hn ha hb hc;simp only [Cm] at h ⊢;by_cases e1:Aq a=Aq c
 ·rw [if_pos e1,decide_eq_true_eq] at h;by_cases e2:Aq a=Aq b
  ·rw [if_pos e2,if_pos (by omega),decide_eq_true_eq,decide_eq_true_eq];exact k h
  ·rw [if_neg e2,if_neg (by omega),decide_eq_true_eq,decide_eq_true_eq];omega
 ·rw [if_neg e1,decide_eq_true_eq] at h;by_cases e2:Aq a=Aq b
  ·right;rw [if_neg (by omega),decide_eq_true_eq];omega
  ·by_cases e3:Aq b=Aq c
   ·left;rw [if_neg (by omega),decide_eq_true_eq];omega
   ·rw [if_neg e2,if_neg e3,decide_eq_true_eq,decide_eq_true_eq];omega
theorem Xa {ds:List Dt} (ho:OkW ds) {t a b:Ty} (hn:AI ds t=true) (ha:JB ds t a) (hb:JB ds t b) (h:Cm ds b a=true):Cm ds a b=false:=by
 have han:=Hq ho _ a t b (Nat.lt_succ_self _) hn ha hb;simp only [Cm] at h ⊢;by_cases e:Aq a=Aq b
 ·rw [if_pos (by omega),decide_eq_true_eq] at h;rw [if_pos e,decide_eq_false_iff_not];omega
 ·rw [if_neg (by omega),decide_eq_true_eq] at h;rw [if_neg e,decide_eq_false_iff_not];omega
def Kq (ds:List Dt) (S:Ty->Prop):Option Ty->Prop
 | none=>∀v,¬S v
 | some v=>S v/\∀u,S u->Cm ds u v=false
theorem IC {ds:List Dt} {S S':Ty->Prop} (h:∀v,S v↔S' v) {r:Option Ty} (hr:Kq ds S r):Kq ds S' r:=by
 cases r with
 | none=>exact λv hv=>hr v ((h v).2 hv)
 | some v=>exact ⟨(h v).1 hr.1,λu hu=>hr.2 u ((h u).2 hu)⟩
theorem fX {ds:List Dt} (ho:OkW ds) {t:Ty} (hn:AI ds t=true) {A B:Ty->Prop} (hA:∀v,A v->JB ds t v) (hB:∀v,B v->JB ds t v) {a b:Option Ty} (ha:Kq ds A a) (hb:Kq ds B b):Kq ds (λv=>A v\/B v) (Gl ds a b):=by
 cases a with
 | none =>
  exact IC (λv=>⟨.inr,λh=>h.resolve_left (ha v)⟩) hb
 | some a =>
  cases b with
  | none=>exact IC (S:=A) (λv=>⟨.inl,λh=>h.resolve_right (hb v)⟩) ha
  | some b =>
   simp only [Gl];obtain ⟨a1,a2⟩:=ha;obtain ⟨b1,b2⟩:=hb;have no:∀{u x y:Ty},JB ds t u->JB ds t x->JB ds t y->Cm ds u y=false->Cm ds y x=false->Cm ds u x=false:=λhu hx hy h1 h2=>by
    cases e:Cm ds _ _ with
    | false=>rfl
    | true=>rcases YQ ho hn hu hy hx e with h | h <;> simp_all
   split
   ·rename_i h;refine ⟨.inr b1,λu hu=>?_⟩;rcases hu with hu | hu
    ·have hab:=Xa ho hn (hA a a1) (hB b b1) h;exact no (hA u hu) (hB b b1) (hA a a1) (a2 u hu) hab
    ·exact b2 u hu
   ·rename_i h;refine ⟨.inl a1,λu hu=>?_⟩;rcases hu with hu | hu
    ·exact a2 u hu
    ·exact no (hB u hu) (hA a a1) (hB b b1) (b2 u hu) (by simpa using h)
def grtW (ds:List Dt):Prop:=∀d∈ds,∀c∈d.cons,De c.name=true
theorem O1 {ds:List Dt}:∀{l vs:List Ty} (n:Int),0<n->l.length=vs.length->(∀(i:Nat) a v,l[i]?=some a->vs[i]?=some v->0<D1 ds a/\D1 ds a<=Aq v)->0<AM ds (Do ds) n l/\AM ds (Do ds) n l<=n+Am vs
 | [],[],n,hn,_,_=>by simp [AM,Am];exact hn
 | a::r,v::vs,n,hn,hl,h=>by
  obtain ⟨h1,h2⟩:=h 0 a v rfl rfl;obtain ⟨i1,i2⟩:=O1 (l:=r) (vs:=vs) (n+EH ds (Do ds) a) (by simp only [D1] at h1;omega) (by simpa using hl) λi x y hx hy=>h (i+1) x y (by simpa using hx) (by simpa using hy);simp only [D1] at h1 h2;simp only [AM,Am];rw [if_neg (by omega)];exact ⟨i1,by omega⟩
 | [],_::_,_,_,h,_=>by simp at h
 | _::_,[],_,_,h,_=>by simp at h
theorem gA {ds:List Dt} (ho:OkW ds):∀(k:Nat) (u t:Ty),SizeOf.sizeOf u<k->AI ds t=true->JB ds t u->(0<D1 ds t/\D1 ds t<=Aq u)/\∀m h,m.ty=t->h∈A6 ds t->AB h u=true->0<Bf ds m h/\Bf ds m h<=Aq u:=by
 intro k
 induction k with
 | zero=>intro u t h;omega
 | succ k ih =>
  intro u t hk hn hu;obtain ⟨p1,p2⟩:=FF hu;have hnm:=C4 ho.okd (t:=t) (s:=C5 u);have hs:=O1 (ds:=ds) 1 (by decide) p1 λi a v ha hv=>(ih v a (by have:=Ka (List.mem_of_getElem? hv);omega) (D3 hnm ha) (p2 i a v ha hv)).1;have hnu:Aq u=1+Am (B4 u):=by obtain ⟨a,b,c,d⟩:=u;rfl
  have hc:∀m h,m.ty=t->h∈A6 ds t->AB h u=true->0<Bf ds m h/\Bf ds m h<=Aq u:=λm h e hh he=>by
   subst e;rw [MU ho hn (.inl hh),IG he];exact ⟨hs.1,by omega⟩
  refine ⟨?_,hc⟩;by_cases h8:AK t=8
  ·obtain ⟨x,x1,x2⟩:=Q7 hn hu (.inr (.inr h8));obtain ⟨c1,c2⟩:=hc (Ay t) x rfl x1 x2;obtain ⟨z1,z2⟩:=UL ho (m:=Ay t) hn h8;have hb:=(EI ho t).1;have:D1 ds t≠0:=λe=>z1 e x x1 c1;have:=(z2 this).2 x x1 c1;have hty:(Ay t).ty=t:=rfl;rw [hty] at this;omega
  ·have:D1 ds t=1:=by obtain ⟨so,n,x,ps⟩:=t;simp only [D1,EH];exact if_neg h8
   omega
theorem V7 {ds:List Dt} {m:Mi}:∀{l:List Ty} {b:Option (Ty×Int)} {p:Ty×Int},C0 ds m b l=some p ->
  b=some p\/((∀q,b=some q->p.2<q.2)/\∃i:Nat,l[i]?=some p.1/\∀(j:Nat) y,j<i->l[j]?=some y->0<Bf ds m y->Bj m.nt y=false->p.2<Bf ds m y)
 | [],b,p,h=>.inl h
 | x::r,b,p,h=>by
  simp only [C0] at h;have ih:=V7 h;by_cases hc:0<Bf ds m x/\Bj m.nt x=false/\DR b (Bf ds m x)=true
  ·rw [if_pos hc] at ih;have hq:∀q,b=some q->Bf ds m x<q.2:=λq hq=>by subst hq;exact of_decide_eq_true hc.2.2
   right;rcases ih with e | ⟨h1,i,h2,h3⟩
   ·cases e;exact ⟨hq,0,rfl,λj y hj=>by omega⟩
   ·have h1:p.2<Bf ds m x:=h1 (x,Bf ds m x) rfl;refine ⟨λq e=>by have:=hq q e;omega,i+1,by simpa using h2,λj y hj hy h4 h5=>?_⟩;cases j with
    | zero=>simp at hy;subst hy;exact h1
    | succ j=>exact h3 j y (by omega) (by simpa using hy) h4 h5
  ·rw [if_neg hc] at ih;rcases ih with e | ⟨h1,i,h2,h3⟩
   ·exact .inl e
   ·refine .inr ⟨h1,i+1,by simpa using h2,λj y hj hy h4 h5=>?_⟩;cases j with
    | zero =>
     simp at hy;subst hy;cases b with
     | none=>exact absurd ⟨h4,h5,rfl⟩ hc
     | some q =>
      have:=h1 q rfl;have:¬(Bf ds m x<q.2):=λh=>hc ⟨h4,h5,decide_eq_true h⟩;omega
    | succ j=>exact h3 j y (by omega) (by simpa using hy) h4 h5
theorem Ut {a b:Int} (h:(0<=a/\(b <= -a\/a<=b))\/(a<0/\(b<=a \/ -a<b))):DE a<=DE b:=by
 simp only [DE];by_cases p:0<a <;> by_cases q:0<b <;> simp only [p,q,if_true,if_false] <;> omega
theorem iW {nt:List Ty}:∀(f:Nat) (i:Nat),(∀k:Int,-(i:Int)<k->k<i->Bj nt (.mk 1 k [] [])=true)->∀n,Bj nt (.mk 1 n [] [])=false->DE (nT (JC nt f i))<=DE n:=by
 intro f
 induction f with
 | zero =>
  intro i h n hn;have:n <= -(i:Int)\/(i:Int)<=n:=by
   by_cases h1 : -(i:Int)<n
   ·by_cases h2:n<i
    ·rw [h n h1 h2] at hn;cases hn
    ·omega
   ·omega
  simp only [JC,nT];exact Ut (by omega)
 | succ f ih =>
  intro i h n hn;have hr:n <= -(i:Int)\/(i:Int)<=n:=by
   by_cases h1 : -(i:Int)<n
   ·by_cases h2:n<i
    ·rw [h n h1 h2] at hn;cases hn
    ·omega
   ·omega
  simp only [JC];by_cases e1:Bj nt (.mk 1 i [] [])=false
  ·rw [if_pos e1];simp only [nT];exact Ut (by omega)
  ·rw [if_neg e1];have hni:n≠i:=λe=>by subst e;exact e1 hn
   by_cases e2:Bj nt (.mk 1 (0-i) [] [])=false
   ·rw [if_pos e2];simp only [nT];exact Ut (by omega)
   ·rw [if_neg e2];exact ih (i+1) (λk h1 h2=>by
     by_cases k1:k=i
     ·subst k1;simpa using e1
     ·by_cases k2:k=0-i
      ·subst k2;simpa using e2
      ·exact h k (by omega) (by omega)) n hn
theorem Tq (nt:List Ty):∀(i:Nat),i<=nt.length->(∀j:Nat,j<i->Bj nt (.mk 1 j [] [])=true)->Bj nt (JC nt (nt.length-i) i)=false
 | i,hi,h=>by
  rw [N9 hi h]
  split
  ·assumption
  ·split
   ·assumption
   ·rename_i e1 e2;have hb:=Jm (nt:=nt) (i:=i+1) λj hj=>by
     by_cases e:j=i
     ·rw [e];simpa using e1
     ·exact h j (by omega)
    exact Tq nt (i+1) hb λj hj=>by
     by_cases e:j=i
     ·rw [e];simpa using e1
     ·exact h j (by omega)
termination_by i=>nt.length-i
theorem XO (h:Ty) (vs:List Ty):Aq (CB h vs)=1+Am vs:=by obtain ⟨a,b,c,d⟩:=h;rfl
theorem VL (v:Ty):Aq v=1+Am (B4 v):=by obtain ⟨a,b,c,d⟩:=v;rfl
def oT (ds:List Dt) (us vs:List Ty):Prop:=us.length=vs.length/\∀(i:Nat) u v,us[i]?=some u->vs[i]?=some v->Cm ds u v=false
theorem Tn {ds:List Dt}:∀{us vs:List Ty},oT ds us vs->Am vs<=Am us/\(Am us=Am vs->0<=BW ds us vs)
 | [],[],_=>⟨Nat.le_refl _,λ_=>by simp [BW]⟩
 | u::us,v::vs,⟨h1,h2⟩=>by
  have h0:=h2 0 u v rfl rfl;obtain ⟨i1,i2⟩:=Tn (us:=us) (vs:=vs) ⟨by simpa using h1,λi x y hx hy=>h2 (i+1) x y (by simpa using hx) (by simpa using hy)⟩;simp only [Cm] at h0;simp only [Am,BW];by_cases e:Aq u=Aq v
  ·rw [if_pos e,decide_eq_false_iff_not] at h0;refine ⟨by omega,λhs=>?_⟩
   split
   ·omega
   ·exact i2 (by omega)
  ·rw [if_neg e,decide_eq_false_iff_not] at h0;exact ⟨by omega,λhs=>by omega⟩
 | [],_::_,⟨h,_⟩=>by simp at h
 | _::_,[],⟨h,_⟩=>by simp at h
theorem QP {ds:List Dt} {g:Mi->Option (Option Ty)}:∀{ks:List Mi} {o:Option (List Ty)},Bu g ks=some o->(∀k∈ks,∀r,g k=some r->Kq ds (IS ds k) r) ->
  match o with
  | none=>∀vs,¬DS ds ks vs
  | some vs=>DS ds ks vs/\∀us,DS ds ks us->oT ds us vs
 | [],o,h,_=>by
  simp only [Bu,Option.some.injEq] at h;subst h;exact ⟨by simp only [DS],λus hu=>by simp only [DS] at hu;subst hu;exact ⟨rfl,λi u v h=>by simp at h⟩⟩
 | k::r,o,h,hk=>by
  simp only [Bu] at h;cases hg:g k with
  | none=>rw [hg] at h;cases h
  | some q =>
   have hm:=hk k (by simp) q hg;rw [hg] at h;cases q with
   | none =>
    simp only [Option.some.injEq] at h;subst h;intro vs hv;cases vs with
    | nil=>simp only [DS] at hv
    | cons v vs=>simp only [DS] at hv;exact hm v hv.1
   | some v =>
    simp only at h;cases hl:Bu g r with
    | none=>rw [hl] at h;cases h
    | some o' =>
     have ih:=QP (o:=o') hl λy hy=>hk y (by simp [hy]);rw [hl] at h;cases o' with
     | none =>
      simp only [Option.some.injEq] at h;subst h;intro vs hv;cases vs with
      | nil=>simp only [DS] at hv
      | cons v vs=>simp only [DS] at hv;exact ih vs hv.2
     | some vs =>
      simp only [Option.some.injEq] at h;subst h;simp only at ih ⊢;refine ⟨⟨hm.1,ih.1⟩,λus hu=>?_⟩;cases us with
      | nil=>simp only [DS] at hu
      | cons u us =>
       simp only [DS] at hu;obtain ⟨n1,n2⟩:=ih.2 us hu.2;refine ⟨by simp [n1],λi x y hx hy=>?_⟩;cases i with
       | zero=>simp at hx hy;subst hx;subst hy;exact hm.2 _ hu.1
       | succ i=>exact n2 i x y (by simpa using hx) (by simpa using hy)
theorem YS {ds:List Dt} (hg:grtW ds) {t h:Ty} (hh:h∈A6 ds t) (h4:AK h=4):De (C5 h)=true:=by
 obtain ⟨so,n,x,ps⟩:=t;simp only [A6] at hh
 split at hh
 ·simp only [List.mem_cons,List.not_mem_nil,or_false] at hh;rcases hh with rfl | rfl <;> simp [AK] at h4
 ·split at hh
  ·rw [List.mem_singleton] at hh;subst hh;simp [AK] at h4
  ·split at hh
   ·split at hh
    ·rename_i d hd;obtain ⟨c,hc,rfl⟩:=List.mem_map.1 hh;exact hg d (List.mem_of_getElem? hd) c hc
    ·cases hh
   ·cases hh
theorem iR {ds:List Dt} (ho:OkW ds) (hg:grtW ds) {t h:Ty} {vs:List Ty} (hn:AI ds t=true) (hh:Lj ds t h) (hl:(AZ ds t (C5 h)).1.length=vs.length) (hv:∀(i:Nat) a v,(AZ ds t (C5 h)).1[i]?=some a->vs[i]?=some v->JB ds a v):JB ds t (CB h vs):=by
 refine ⟨Q9 ho hn hh hl ((Q8 hl).2 λi a v ha hv'=>(hv i a v ha hv').1),?_⟩;have hvn:Ga vs=true:=by
  rw [Ki,List.all_eq_true];intro v hm;obtain ⟨i,hi,e⟩:=List.getElem_of_mem hm;obtain ⟨a,ha⟩:=As (l:=(AZ ds t (C5 h)).1) (i:=i) (by omega);exact (hv i a v ha (by rw [List.getElem?_eq_getElem hi,e])).2
 have hal:=ES ho t (C5 h);have hkind:(AK t=8/\AK h=4)\/((AZ ds t (C5 h)).1=[]/\AK h≠4):=by
  rcases hh with hh | ⟨h1,n,rfl,_⟩
  ·rcases FO ho hn hh with ⟨h1,h2,_⟩ | ⟨h1,n,rfl,_⟩ | ⟨h1,rfl⟩
   ·exact .inl ⟨h1,h2⟩
   ·exact .inr ⟨by rw [FV (by omega)],by simp [AK]⟩
   ·exact .inr ⟨by rw [FV (by omega)],by simp [AK]⟩
  ·exact .inr ⟨by rw [FV (by omega)],by simp [AK]⟩
 have hz:h∈A6 ds t->AK h=4->nT h=0:=λhm h4=>by
  obtain ⟨so,n,x,ps⟩:=t;simp only [A6] at hm
  split at hm
  ·simp only [List.mem_cons,List.not_mem_nil,or_false] at hm;rcases hm with rfl | rfl <;> simp [AK] at h4
  ·split at hm
   ·rw [List.mem_singleton] at hm;subst hm;rfl
   ·split at hm
    ·split at hm
     ·obtain ⟨c,hc,rfl⟩:=List.mem_map.1 hm;rfl
     ·cases hm
    ·cases hm
 have hgr:=λhm h4=>YS hg (t:=t) (h:=h) hm h4;rcases hh with hh | ⟨h1,n,rfl,hb⟩
 ·rcases FO ho hn hh with ⟨h1,h2,_⟩ | ⟨h1,n,rfl,hb⟩ | ⟨h1,rfl⟩
  ·have h3:=hz hh h2;have h4:=hgr hh h2;obtain ⟨a,b,c,d⟩:=h;simp only [AK,nT,C5] at *;subst h2;subst h3;simp [CB,FH,Hu,hvn,h4];omega
  ·have:vs=[]:=List.eq_nil_of_length_eq_zero (by rcases hkind with ⟨_,e⟩ | ⟨e,_⟩;simp [AK] at e;rw [e] at hl;simpa using hl.symm);subst this;rcases hb with rfl | rfl <;> simp [CB,FH,Ga,Hu,Fp]
  ·have:vs=[]:=List.eq_nil_of_length_eq_zero (by rcases hkind with ⟨_,e⟩ | ⟨e,_⟩;simp [AK] at e;rw [e] at hl;simpa using hl.symm);subst this;simp [CB,FH,Ga,Hu]
 ·have:vs=[]:=List.eq_nil_of_length_eq_zero (by rcases hkind with ⟨_,e⟩ | ⟨e,_⟩;simp [AK] at e;rw [e] at hl;simpa using hl.symm);subst this;simp [CB,FH,Ga,Hu,Fp];omega
theorem mU {ds:List Dt} {ks:List Mi} {vs:List Ty} (h:DS ds ks vs):ks.length=vs.length/\∀(i:Nat) a v,(ks.map Mi.ty)[i]?=some a->vs[i]?=some v->JB ds a v:=by
 obtain ⟨h1,h2⟩:=IE.1 h;refine ⟨h1,λi a v ha hv=>?_⟩;simp only [List.getElem?_map,Option.map_eq_some_iff] at ha;obtain ⟨k,hk,rfl⟩:=ha;exact (BL.1 (h2 i k v hk hv)).1
theorem dJ (h:Ty) (vs:List Ty):AB h (CB h vs)=true:=by obtain ⟨a,b,c,d⟩:=h;simp [CB,AB]
theorem cS {ds:List Dt} (ho:OkW ds) (hg:grtW ds) {N f:Nat} {m:Mi} {r:Option Ty} (hw:GV ds N m=true) (hc:Ed ds m) (hh:AK m.hd≠0) (h:AT ds (f+1) m=some r) (ih:∀k∈m.ks,∀r,AT ds f k=some r->Kq ds (IS ds k) r):Kq ds (IS ds m) r:=by
 rw [FN hh] at h;have hci:=BI.1 hc;have hwi:=AR.1 hw;obtain ⟨c1,c2⟩:=hci.2.1 hh;cases hl:Bu (AT ds f) m.ks with
 | none=>rw [hl] at h;cases h
 | some o =>
  rw [hl] at h;simp only [Option.map_some,Option.some.injEq] at h;subst h;have hm:=QP hl ih;cases o with
  | none =>
   intro v hv;exact hm _ ((BL.1 hv).2.2 hh).2
  | some vs =>
   simp only at hm;obtain ⟨k1,k2⟩:=mU hm.1;rw [c2] at k2;have hlen:(AZ ds m.ty (C5 m.hd)).1.length=vs.length:=by rw [<- c2,List.length_map,k1]
   have hok:=iR ho hg hwi.1.1 c1 hlen k2;refine ⟨BL.2 ⟨hok,λe=>absurd e hh,λ_=>⟨dJ _ _,?_⟩⟩,λu hu=>?_⟩
   ·have:B4 (CB m.hd vs)=vs:=by generalize m.hd=h;obtain ⟨a,b,c,d⟩:=h;rfl
    rw [this];exact hm.1
   ·obtain ⟨u1,u2⟩:=(BL.1 hu).2.2 hh;obtain ⟨n1,n2⟩:=Tn (hm.2 _ u2);have hp:=VL u;have hq:=XO m.hd vs;simp only [Cm]
    split
    ·rename_i e;have hos:=n2 (by omega);rw [decide_eq_false_iff_not,Hp];have hx:nT u=nT (CB m.hd vs)/\C5 u=C5 (CB m.hd vs)/\B4 (CB m.hd vs)=vs:=by
      generalize m.hd=h at u1;obtain ⟨a,b,c,d⟩:=h;obtain ⟨a',b',c',d'⟩:=u;simp only [AB,Bool.and_eq_true,beq_iff_eq] at u1;simp only [CB,nT,C5,B4];exact ⟨u1.1.2.symm,u1.2.symm,trivial⟩
     rw [hx.1,hx.2.1,hx.2.2]
     split
     ·omega
     ·split
      ·omega
      ·split
       ·rw [if_neg (by omega)];omega
       ·omega
    ·rw [decide_eq_false_iff_not];omega
theorem jR {ds:List Dt} (ho:OkW ds) {t:Ty} (hn:AI ds t=true) {i j:Nat} {x y:Ty} (hi:(A6 ds t)[i]?=some x) (hj:(A6 ds t)[j]?=some y) {u v:Ty} (hu:AB x u=true) (hv:AB y v=true) (hij:i<j):Cc ds u v<0:=by
 obtain ⟨so,n,z,ps⟩:=t;rw [Hp];have hx:AK u=AK x/\nT u=nT x/\C5 u=C5 x:=by
  obtain ⟨a,b,c,d⟩:=x;obtain ⟨a',b',c',d'⟩:=u;simp only [AB,Bool.and_eq_true,beq_iff_eq] at hu;exact ⟨hu.1.1.symm,hu.1.2.symm,hu.2.symm⟩
 have hy:AK v=AK y/\nT v=nT y/\C5 v=C5 y:=by
  obtain ⟨a,b,c,d⟩:=y;obtain ⟨a',b',c',d'⟩:=v;simp only [AB,Bool.and_eq_true,beq_iff_eq] at hv;exact ⟨hv.1.1.symm,hv.1.2.symm,hv.2.symm⟩
 rw [hx.1,hx.2.1,hx.2.2,hy.2.1,hy.2.2];by_cases h2:so=2
 ·subst h2;have e:A6 ds (.mk 2 n z ps)=[.mk 2 0 [] [],.mk 2 1 [] []]:=by simp [A6]
  rw [e] at hi hj;have hj2:j<2:=by have:=(List.getElem?_eq_some_iff.1 hj).1;simpa using this
  have h0:i=0:=by omega
  have h1:j=1:=by omega
  subst h0;subst h1;simp at hi hj;subst hi;subst hj;simp [AK,nT]
 ·by_cases h3:so=3
  ·subst h3;have e:A6 ds (.mk 3 n z ps)=[.mk 3 0 [] []]:=by simp [A6]
   rw [e] at hj;have hj2:j<1:=by have:=(List.getElem?_eq_some_iff.1 hj).1;simpa using this
   omega
  ·by_cases h8:so=8
   ·subst h8;obtain ⟨hp,d,hd⟩:=Cr hn 8 n z ps rfl rfl;have hH:A6 ds (.mk 8 n z ps)=d.cons.map D2:=by
     rw [show A6 ds (.mk 8 n z ps)=(match ds[(Ba z 0 ds).toNat]? with | some d=>d.cons.map λc=>Ty.mk 4 0 c.name [] | none=>[]) from rfl,hd];rfl
    rw [hH] at hi hj;simp only [List.getElem?_map,Option.map_eq_some_iff] at hi hj;obtain ⟨a,ha,rfl⟩:=hi;obtain ⟨b,hb,rfl⟩:=hj;have ca:=UO ho (n:=n) (ps:=ps) hd ha;have cb:=UO ho (n:=n) (ps:=ps) hd hb;have sa:=Gj ho.dif (n:=n) (s:=a.name) (ps:=ps) hp (by rw [ca];simp);have sb:=Gj ho.dif (n:=n) (s:=b.name) (ps:=ps) hp (by rw [cb];simp);rw [ca] at sa;rw [cb] at sb;rw [show AK (D2 a)=4 from rfl,show C5 (D2 a)=a.name from rfl,show C5 (D2 b)=b.name from rfl,if_neg (by decide),if_neg (by decide),if_pos rfl,sa,sb,if_pos (by omega)];omega
   ·have e:A6 ds (.mk so n z ps)=[]:=by simp [A6,h2,h3,h8]
    rw [e] at hi;simp at hi
theorem cK {ds:List Dt} (ho:OkW ds) (hg:grtW ds) {N:Nat} (hN:N<=1000000):∀(f:Nat) (m:Mi) (r:Option Ty),GV ds N m=true->Ed ds m->UZ ds m->AT ds f m=some r->Kq ds (IS ds m) r:=by
 intro f
 induction f with
 | zero=>intro m r _ _ _ h;simp [AT] at h
 | succ f ih =>
  intro m r hw hc hnt h;have hwi:=AR.1 hw;have hci:=BI.1 hc;have hn:=hwi.1.1;have hkn:∀m r,GV ds N m=true->Ed ds m->UZ ds m->AK m.hd≠0->AT ds (f+1) m=some r->Kq ds (IS ds m) r:=λm r hw hc hnt hh h =>
   cS ho hg hw hc hh h λk hk r hr=>ih k r ((AR.1 hw).2.2 k hk) ((BI.1 hc).2.2 k hk) ((GI.1 hnt).2 k hk) hr
  by_cases hh:AK m.hd=0
  case neg=>exact hkn m r hw hc hnt hh h
  by_cases t1:AK m.ty=1
  ·rw [Hz hh t1] at h;simp only [Option.some.injEq] at h;subst h;obtain ⟨n,n1,n2,n3⟩:=M3 m.nt m.nt.length 0 (by omega);have hfree:=Tq m.nt 0 (Nat.zero_le _) λj hj=>by omega
   have hmin:=iW (nt:=m.nt) m.nt.length 0 λk h1 h2=>by omega
   simp only [CE];rw [Nat.sub_zero] at hfree;rw [show ((0:Nat):Int)=0 from rfl] at hfree hmin;rw [n1] at hfree hmin ⊢;have hnl:=hwi.1.2.2;have key:∀u,IS ds m u->∃k,u = .mk 1 k [] []/\Bj m.nt u=false:=λu hu=>by
    obtain ⟨⟨a,b⟩,c,_⟩:=BL.1 hu;refine ⟨nT u,?_,c hh⟩;rw [Jg] at a;generalize m.ty=t at *;obtain ⟨so,q,x,ps⟩:=t;obtain ⟨g,k,y,qs⟩:=u;simp only [AK] at t1;subst t1;have:g=1:=by simpa [LC] using a
    subst this;simp only [FH,Bool.and_eq_true,Hu,if_true,beq_iff_eq] at b;obtain ⟨_,⟨_,rfl⟩,b2⟩:=b;have:qs=[]:=List.eq_nil_of_length_eq_zero (by omega);subst this;rfl
   refine ⟨BL.2 ⟨⟨?_,?_⟩,λ_=>hfree,λe=>absurd hh e⟩,λu hu=>?_⟩
   ·rw [Jg];generalize m.ty=t at *;obtain ⟨so,q,x,ps⟩:=t;simp only [AK] at t1;subst t1;simp [LC]
   ·simp [FH,Ga,Hu,Fp];omega
   ·obtain ⟨k,rfl,k2⟩:=key u hu;have:=hmin k k2;simp only [nT] at this;simp only [Cm,Aq,Am,if_true,Cc,decide_eq_false_iff_not];omega
  by_cases t4:AK m.ty=4\/AK m.ty=5\/AK m.ty=6\/AK m.ty=7
  ·rw [Hy hh t4] at h;simp only [Option.some.injEq] at h;subst h;have key:∀u,JB ds m.ty u↔u = .mk 5 0 [] []:=λu=>by
    generalize m.ty=t at *;obtain ⟨so,q,x,ps⟩:=t;obtain ⟨g,k,y,qs⟩:=u;simp only [AK] at t1 t4;simp only [JB,Jg,LC,if_neg (show ¬so=1 by omega),if_neg (show ¬so=2 by omega),if_neg (show ¬so=3 by omega),if_neg (show ¬so=8 by omega),beq_iff_eq];constructor
    ·rintro ⟨rfl,b⟩;simp only [FH,Bool.and_eq_true,Hu] at b;rw [if_neg (by decide),if_neg (by decide),if_pos (.inr trivial)] at b;simp only [Bool.and_eq_true,beq_iff_eq] at b;obtain ⟨_,⟨rfl,rfl⟩,b2⟩:=b;have:qs=[]:=List.eq_nil_of_length_eq_zero (by omega);subst this;rfl
    ·intro e;cases e;exact ⟨rfl,by simp [FH,Ga,Hu]⟩
   have hz:m.nt=[]:=by
    cases hl:m.nt with
    | nil=>rfl
    | cons x r =>
     have:=(GI.1 hnt).1 x (by rw [hl];simp);rcases this with h | ⟨h,_⟩
     ·have:=Rc h;omega
     ·omega
   refine ⟨BL.2 ⟨(key _).2 rfl,λ_=>by rw [hz];rfl,λe=>absurd hh e⟩,λu hm=>?_⟩;rw [(key u).1 (BL.1 hm).1];simp [Cm,Cc]
  rw [Ej hh t1 t4] at h;have hs8:AK m.ty=2\/AK m.ty=3\/AK m.ty=8:=by
   have:=of_decide_eq_true hwi.2.1.2;omega
  have hu:∀u,IS ds m u->∃x,x∈A6 ds m.ty/\AB x u=true/\Bj m.nt x=false/\0<Bf ds m x/\Bf ds m x<=Aq u:=λu hu=>by
   obtain ⟨a,b,_⟩:=BL.1 hu;obtain ⟨x,x1,x2⟩:=Q7 hn a hs8;have:=(gA ho _ u m.ty (Nat.lt_succ_self _) hn a).2 m x rfl x1 x2;exact ⟨x,x1,x2,by rw [GZ x2];exact b hh,this.1,this.2⟩
  cases hq:AH ds m with
  | none =>
   rw [hq] at h;simp only [Option.some.injEq] at h;subst h;intro u hm;obtain ⟨x,x1,x2,x3,x4,_⟩:=hu u hm;simp only [AH,Option.map_eq_none_iff] at hq;exact (KM hq).2 x x1 ⟨x4,x3⟩
  | some h' =>
   rw [hq] at h;simp only at h;have hmem:=Gp hq;have hfm:=(Bs hmem).2;have hK:=hkn (AY ds m h') r (JI ho hn hwi.2.1.2 (Bs hmem).1) (Oa (.inl hmem)) (QC ds m h') hfm h;simp only [AH,Option.map_eq_some_iff] at hq;obtain ⟨p,hp,rfl⟩:=hq;obtain ⟨q1,_,q3⟩:=FE hp;rcases q1 with q1 | ⟨_,q2,q4,q5⟩
   ·cases q1
   rcases V7 hp with e | ⟨_,i,i1,i2⟩
   ·cases e
   obtain ⟨r',r1,_,r3⟩:=HX ho (f:=f+1000) hn (.inl hmem) λa ha=>by
    have hna:=C4 ho.okd (t:=m.ty) (s:=C5 p.1);rw [D4,List.all_eq_true] at hna;exact Kl ho 256 a (hna a ha) (KC ho a ha) (EI ho a).2 _ (by omega)
   have e:=XX (show f+1<=f+1000+1 by omega) h;rw [r1] at e;cases e;obtain ⟨v,rfl,v2,_⟩:=r3 (by omega);obtain ⟨k1,k2⟩:=hK;have hk1:=(Kr hfm).1 k1;refine ⟨BL.2 ⟨hk1.1,λ_=>by rw [<- GZ hk1.2];exact q5,λe=>absurd hh e⟩,λu hm=>?_⟩;obtain ⟨x,x1,x2,x3,x4,x5⟩:=hu u hm;cases hx:AB p.1 u with
   | true=>exact k2 u ((Kr hfm).2 ⟨(BL.1 hm).1,hx⟩)
   | false =>
    have hle:=q3 x x1 x4 x3;simp only [Cm]
    split
    ·rename_i en;rw [decide_eq_false_iff_not];obtain ⟨j,hj,e⟩:=List.getElem_of_mem x1;have hjx:(A6 ds m.ty)[j]?=some x:=by rw [List.getElem?_eq_getElem hj,e]
     have hij:i<j:=by
      by_cases hlt:j<i
      ·have:=i2 j x hlt hjx x4 x3;omega
      ·have hne:i≠j:=λe=>by subst e;rw [i1] at hjx;cases hjx;rw [x2] at hx;cases hx
       omega
     have h1:=jR ho hn i1 hjx hk1.2 x2 hij;have h2:=Hq ho _ u m.ty v (Nat.lt_succ_self _) hn (BL.1 hm).1 hk1.1;omega
    ·rw [decide_eq_false_iff_not];omega
def Om (l:List (Ty×Int)) (v:Ty):Prop:=∀x∈l,((Bo x.1 v).2=true↔x.2=1)
theorem eZ (v:Ty):Om [] v:=λx hx=>by cases hx
theorem S4 (x:Ty×Int) (l:List (Ty×Int)) (v:Ty):Om (x::l) v↔((Bo x.1 v).2=true↔x.2=1)/\Om l v:=by
 simp only [Om,List.mem_cons,forall_eq_or_imp]
theorem X0 {ds:List Dt} (ho:OkW ds) (hg:grtW ds) {t:Ty} (hn:AI ds t=true):∀(f N:Nat) (m:Mi) (l:List (Ty×Int)) (r:Option Ty),N+f<=1000000->MOk ds t N m->UZ ds m->Je ds t l->(∀y∈l,y.2=0\/y.2=1) ->
  CQ ds f m l=some r->Kq ds (λv=>IS ds m v/\Om l v) r:=by
 intro f
 induction f with
 | zero=>intro N m l r _ _ _ _ _ h;simp [CQ] at h
 | succ f ih =>
  intro N m l r hN hm hnt hr hb h;cases l with
  | nil =>
   have:=cK ho hg (by omega) 1000 m r hm.wf hm.coh hnt h;exact IC (λv=>⟨λh=>⟨h,eZ v⟩,λh=>h.1⟩) this
  | cons x l =>
   obtain ⟨p,b⟩:=x;obtain ⟨h1,h2,h3⟩:=hr (p,b) (by simp);have hb0:=hb (p,b) (by simp);simp only at h1 h2 h3 hb0;have hl:=λv=>Jp ho p (v:=v) hm.wf hm.coh (by rw [hm.typ];exact h1) h2;have hty:∀{m:Mi} {v:Ty},MOk ds t N m->IS ds m v->JB ds t v:=λhm hv=>by have:=(BL.1 hv).1;rwa [hm.typ] at this
   have hty1:∀{m:Mi} {v:Ty},MOk ds t (N+1) m->IS ds m v->JB ds t v:=λhm hv=>by have:=(BL.1 hv).1;rwa [hm.typ] at this
   simp only [CQ] at h;by_cases h22:(Ar ds p m).1=2
   ·rw [if_pos h22] at h;have hfree:=(hl zT).1 h22;have hfm:AK (Ar ds p m).2.2≠0:=by
     have A:=GB ho p hm.wf hm.coh (by rw [hm.typ];exact h1) h2 h22;have:∀(path:List Int) (m:Mi),J0 ds (Ar ds p m).2.2 m path->True:=λ_ _ _=>trivial;have key:∀{h:Ty} (path:List Int) (m:Mi),J0 ds h m path->AK h≠0:=by
      intro h path
      induction path with
      | nil=>intro m ⟨_,_,h3⟩;exact (M2 h3).1
      | cons i q ihq=>intro m ⟨k,_,_,h3⟩;exact ihq k h3
     exact key _ _ hfree
    have hsp:=λv=>Qi ho hfm (Ar ds p m).2.1 (v:=v) hm.wf hfree;have hmT:=hm.split ho h1 h2 h3 h22;cases ha:CQ ds f (A3 ds m (Ar ds p m).2.1 (Ar ds p m).2.2 true) ((p,b)::l) with
    | none=>rw [ha] at h;simp [Vs] at h
    | some ra =>
     cases hbb:CQ ds f (A3 ds m (Ar ds p m).2.1 (Ar ds p m).2.2 false) ((p,b)::l) with
     | none=>rw [ha,hbb] at h;simp [Vs] at h
     | some rb =>
      rw [ha,hbb] at h;simp only [Vs,Option.some.injEq] at h;subst h;have i1:=ih (N+1) _ _ ra (by omega) (hmT true) (Kh true _ hnt hfree) hr hb ha;have i2:=ih (N+1) _ _ rb (by omega) (hmT false) (Kh false _ hnt hfree) hr hb hbb;refine IC (λv=>?_) (fX ho hn (λv hv=>hty1 (hmT true) hv.1) (λv hv=>hty1 (hmT false) hv.1) i1 i2);constructor
      ·rintro (⟨a,c⟩ | ⟨a,c⟩)
       ·exact ⟨(hsp v).1 true a,c⟩
       ·exact ⟨(hsp v).1 false a,c⟩
      ·rintro ⟨a,c⟩;exact ((hsp v).2 a).imp (λa=>⟨a,c⟩) (λa=>⟨a,c⟩)
   ·rw [if_neg h22] at h;have hrg:=FK ds p m;have hm1:∀v,IS ds m v->(((Bo p v).2=true↔b=1)↔(Ar ds p m).1=b):=λv hv=>by
     obtain ⟨c1,c2⟩:=(hl v).2 hv;rcases hrg with e | e | e
     ·have hc:=c2 e;rw [e,hc];constructor
      ·intro h;by_cases hb1:b=1
       ·exact absurd (h.2 hb1) (by simp)
       ·omega
      ·intro h;subst h;simp
     ·have hc:=c1 e;rw [e,hc];constructor
      ·intro h;exact (h.1 rfl).symm
      ·intro h;subst h;simp
     ·exact absurd e h22
    by_cases e:(Ar ds p m).1=b
    ·rw [if_pos e] at h;have i1:=ih N m l r (by omega) hm hnt (λy hy=>hr y (by simp [hy])) (λy hy=>hb y (by simp [hy])) h;refine IC (λv=>?_) i1;rw [S4];constructor
     ·rintro ⟨a,c⟩;exact ⟨a,(hm1 v a).2 e,c⟩
     ·rintro ⟨a,_,c⟩;exact ⟨a,c⟩
    ·rw [if_neg e] at h;simp only [Option.some.injEq] at h;subst h;rintro v ⟨a,c⟩;rw [S4] at c;exact e ((hm1 v a).1 c.1)
end Go.Hk
namespace Go.Hk
structure rO where
 dx:D
 es:List (List V)
 es2:List (List V)
 sz:Nat
 bytes:Nat
 dst:Option Nat
 todo:List DI
def ZR:D->Option (List (List V))
 | .nils=>some []
 | .clip es=>some es
 | _=>none
def oO (tt:TT) (n:Nat) (env:Env) (todo:List DI):Option rO :=
 match Bg todo ([],[]) with
 | some (_,o,todo')=>match o.guard,o.op with
  | none,.call { callee:=.builtin .append,args:=⟨[x,y]⟩,argTypes:=⟨[t,t']⟩ }=>match Nat.beq t t',lk tt t,CV env x,CV env y with
   | true,some { sh:=.sl e,.. },some dx,some (.imm (.sl (e1::es2)))=>match lk tt e,ZR dx with
    | some i,some es=>match Nat.beq i.zero.length i.size&&Nat.blt 0 i.size,BH n o.dst with
     | true,true=>some ⟨dx,es,e1::es2,i.size,i.bytes,o.dst,todo'⟩
     | _,_=>none
    | _,_=>none
   | _,_,_,_=>none
  | _,_=>none
 | none=>none
section
variable {P:Program} {n:Nat} {F:List Nat} {Q:DQ} {tt:TT} {env env':Env} {st st':St} {ids ids':List Nat} {k todo todo':List DI} {I:Imm} {μ:Mu} {w w':World} {a:Act} {Pn:V->Prop} {d:D} {cx:Prop} {ob:List Prop}
theorem StRep.growI (hst:StRep I μ st ids w) (hg:w.grownBy w' none) {c:Nat} {o:Obj} (hc:w.heap.size<=c) (ho:w'.heap[c]?=some o):∃I',I' c=some o/\I.le I'/\StRep I' μ st ids w'/\Ext I μ st w I' μ st w':=by
 have hnew:I c=none:=by
  cases h:I c with
  | none=>rfl
  | some o'=>have:=BT (hst.imm _ _ h);omega
 have hold:∀b,b<w.heap.size->w'.heap[b]?=w.heap[b]?:=λb hb=>hg.block b hb (by simp);have hle:I.le (λb=>if b=c then some o else I b):=λb o' h=>by
  have:b≠c:=λe=>by rw [e,hnew] at h;cases h
  simp [this,h]
 refine ⟨λb=>if b=c then some o else I b,by simp,hle,?_,?_⟩
 ·refine { imm:=λb o' h=>?_,blk:=λid blk hl=>?_,apart:=λid blk g b hl hg' hb=>?_,inj:=hst.inj,nodup:=hst.nodup,idsFree:=hst.idsFree }
  ·by_cases hb:b=c
   ·subst hb;simp at h;subst h;exact ho
   ·simp [hb] at h;have:=hst.imm _ _ h;rw [hold b (BT this)];exact this
  ·obtain ⟨g,h1,h2⟩:=hst.blk id blk hl;exact ⟨g,h1,(h2.mono hle (Mu.le_refl μ)).world (λb hb=>hold b (hst.apart id blk g b hl h1 hb).2)⟩
  ·obtain ⟨h1,h2⟩:=hst.apart id blk g b hl hg' hb;have:b≠c:=by omega
   exact ⟨by simp [this,h1],Nat.lt_of_lt_of_le h2 hg.size⟩
 ·exact { imm:=hle,os:=hg.os,tape:=hg.tape,output:=hg.output,size:=hg.size,block:=λb hb _=>hold b hb,fresh:=λb _ h=>h,old:=λb hb _=>if_neg (by omega) }
theorem X4 {e:TypeId} {sz:Nat} {u:Value} {es:List (List V)} {xs:List Value} (h:w.ownsRow 0 e sz u es.length xs) (hr:RepVL I xs es.flatten) (hsz:∀c∈es,c.length=sz) (h1:∀v∈xs,v.oneCell'=true) {b:Nat} {o:Obj} (hb:u.ownBlock=some b) (ho:w.heap[b]?=some o) (hI:I b=some o):RepV I u (.sl es):=by
 rcases h.2 with ⟨rfl,_⟩ | ⟨g,cap,cur,rfl,_,hheap,hle,hcm,hcs,htake⟩
 ·cases hb
 ·have hb:g=b:=by simpa [Value.ownBlock] using hb
  subst hb;rw [hheap] at ho;cases ho;have hxl:=h.1;refine .sl g 0 es.length cap sz es (λi j=>(xs[i*sz+j]?).getD undef) rfl hle hcm hsz ?_ ?_
  ·intro i c j x hi hj;have hf:=C3 hsz i c j x hi hj;have hlt:i*sz+j<xs.length:=by rw [hr.1];exact (List.getElem?_eq_some_iff.1 hf).1
   have hxs:xs[i*sz+j]?=some xs[i*sz+j]:=List.getElem?_eq_getElem hlt;rw [hxs,Option.getD_some];refine ⟨?_,h1 _ (List.getElem_mem hlt)⟩;unfold Imm.cell;rw [hI];have hcur:cur[i*sz+j]?=some xs[i*sz+j]:=by
    have e1:(cur.toList.take (es.length*sz))[i*sz+j]?=some xs[i*sz+j]:=by rw [htake];exact hxs
    have e2:=e1;rw [List.getElem?_take] at e2
    split at e2
    ·simpa using e2
    ·cases e2
   simp only [Nat.zero_add,hcur]
  ·intro i c j x hi hj;have hf:=C3 hsz i c j x hi hj;have hlt:i*sz+j<xs.length:=by rw [hr.1];exact (List.getElem?_eq_some_iff.1 hf).1
   have hxs:xs[i*sz+j]?=some xs[i*sz+j]:=List.getElem?_eq_getElem hlt;rw [hxs,Option.getD_some];exact hr.2 _ _ x hxs hf
theorem T9 (htt:TTok P tt) {c:rO} (h:oO tt n env todo=some c) (hok:kX c.sz c.bytes (.clip []) c.es c.es2) (hes:∀x∈c.es,x.length=c.sz)
  (hk:G P n F Q c.todo (B9 c.dst (.imm (.sl (c.es++c.es2))) env) st ids):G P n F Q todo env st ids:=by
 unfold oO at h
 split at h
 ·rename_i all o todo' hn1
  split at h
  ·rename_i x y t t' hg hop
   split at h
   ·rename_i e _ _ _ _ dx e1 es2 htt' ht hx hy;have:=Nat.eq_of_beq_eq_true htt';subst this
    split at h
    ·rename_i i es hi hb
     split at h
     ·rename_i hz hd;cases h;simp only at hok hes hk;refine B6 (fr:=[]) (wr:=[]) (rd:=[]) hn1 ?_ hd (λc hc=>by rw [hop] at hc;cases hc) hk;intro I μ st1 ids1 a w hag hst hon;refine ⟨λ_=>?_,λhw=>by rw [AG hg] at hw;cases hw⟩;have hops:=Bc hon;rw [hop] at hops;have rx:=hops x (by simp [Op.operands,Call.operands]) _ hx;have ry:=(hops y (by simp [Op.operands,Call.operands]) _ hy).immInv;obtain ⟨inf,z,z1,z2,z3,z4,z5,z6⟩:=(htt e i hi).info;have hu:P.underlying t=some (.slice e):=htt.sh ht;simp only [Bool.and_eq_true,Nat.blt_eq] at hz;have hzl:z.cells.size=i.size:=by
       have:=(z5 I μ).1;rw [Nat.eq_of_beq_eq_true hz.1] at this;simpa using this
      obtain ⟨k1,k2,k3,_⟩:=hok;have hrun:∀{u w'},(Builtin.append_ #[t,t] o.type #[a.eval x,a.eval y]).run P w = .ok u w'->(execOp a.eval o).run P w = .ok (.value u) w':=by
       intro u w' h;simp only [execOp,hop,resolve,invoke,builtin,Sem.run_bind,Sem.run_pure,Result.andThen_ok,List.map_toArray,List.map_cons,List.map_nil,h]
      rcases Mq hst.imm ry k1 hz.2 with ⟨_,e0⟩ | ⟨yb,yo,yc,news,ey,_,_,n1,n2,n3,n4,n5⟩
      ·cases e0
      have fin:∀{u:Value} {w':World} {xs:List Value},(Builtin.append_ #[t,t] o.type #[a.eval x,a.eval y]).run P w = .ok u w'->w'.ownsRow 0 e i.size u (es.length+(e1::es2).length) (xs++news)->w.grownBy w' none->(∀b,u.ownBlock=some b->w.heap.size<=b)->RepVL I xs es.flatten->(∀v∈xs,v.oneCell'=true) ->
        valX P ((execOp a.eval o).run P w) (λv w'=>∃I' μ',StRep I' μ' ([]++st1) ids1 w'/\RepD I' μ' v (.imm (.sl (es++e1::es2)))/\μ.le μ'/\Ext I μ st1 w I' μ' ([]++st1) w') (Kc (Mz Q) I μ st1 w):=by
       intro u w' xs r1 r2 r3 r4 r5 r6;rw [hrun r1];obtain ⟨b,hb,hlt⟩:∃b,u.ownBlock=some b/\b<w'.heap.size:=by
        rcases r2.2 with ⟨_,hh⟩ | ⟨g,cap,cur,rfl,_,hheap,_⟩
        ·simp at hh
        ·exact ⟨g,rfl,BT hheap⟩
       have ho:w'.heap[b]?=some w'.heap[b]:=Array.getElem?_eq_getElem hlt;obtain ⟨I',q1,q2,q3,q4⟩:=hst.growI r3 (r4 b hb) ho;refine ⟨I',μ,q3,.imm _ _ (X4 (es:=es++e1::es2) (by rw [List.length_append];exact r2) ?_ ?_ ?_ hb ho q1),Mu.le_refl μ,q4⟩
       ·rw [List.flatten_append];exact (r5.append n4).mono q2
       ·intro c hc;exact (List.mem_append.1 hc).elim (hes c) (k1 c)
       ·intro v hv;exact (List.mem_append.1 hv).elim (r6 v) (n3 v)
      have hnil:a.eval x = .slice none 0 0->es=[]->valX P ((execOp a.eval o).run P w) (λv w'=>∃I' μ',StRep I' μ' ([]++st1) ids1 w'/\RepD I' μ' v (.imm (.sl (es++e1::es2)))/\μ.le μ'/\Ext I μ st1 w I' μ' ([]++st1) w') (Kc (Mz Q) I μ st1 w):=λhv he=>by
       subst he;obtain ⟨v',w',q1,q2,q3,_⟩:=run_append_own (P:=P) w w.heap.size t o.type e inf z i.size i.bytes hu z1 z4 z2 z3 hzl hz.2 (.slice none 0 0) 0 [] (World.ownsRow_nil w _ e i.size) ⟨yb,yo,none⟩ (e1::es2).length yc news n1 n2 n3
        (by simpa using k2) (by simpa using k3) (Nat.le_refl _)
       have q2':w'.ownsRow 0 e i.size v' (0+(e1::es2).length) ([]++news):=⟨q2.1,q2.2.imp id λ⟨g,cap,cur,a1,_,a2⟩=>⟨g,cap,cur,a1,Nat.zero_le _,a2⟩⟩
       exact fin (by rw [hv,ey];exact q1) q2' ⟨q3.os,q3.tape,q3.output,q3.size,λb hb _=>q3.block b hb (by simp [Value.ownBlock])⟩ (λb h=>(q2.lt b h).1) .nil (by simp)
      have hgrow:∀(ad:Addr) (cap:Nat) (xs:List Value),a.eval x = .slice (some ad) es.length cap->xs.length=es.length*i.size->(∀j u,xs[j]?=some u->w.cell? (ad.add j)=some u)->cap<es.length+(e1::es2).length->RepVL I xs es.flatten->(∀v∈xs,v.oneCell'=true) ->
        valX P ((execOp a.eval o).run P w) (λv w'=>∃I' μ',StRep I' μ' ([]++st1) ids1 w'/\RepD I' μ' v (.imm (.sl (es++e1::es2)))/\μ.le μ'/\Ext I μ st1 w I' μ' ([]++st1) w') (Kc (Mz Q) I μ st1 w):=λad cap xs hv hl hcell hlt hr h1=>by
       have hsmall:es.length+(e1::es2).length<=9223372036854775807:=by simp only [maxLen] at k2;omega
       have hr':=run_append_grow (P:=P) w t o.type e inf z hu z1 z4 ad es.length cap xs (by rw [z2];exact hl) hcell ⟨yb,yo,none⟩ (e1::es2).length yc news (by rw [z2];exact n1) n2 hlt (by omega) (by rw [z3];exact growslice_fits hlt k3);have hge:=grownCap_ge w (es.length+(e1::es2).length) cap e;have hcm:grownCap w (es.length+(e1::es2).length) cap e<=maxLen:=grownCap_le_maxLen w _ cap e k2;have hlen:(xs++news).length=(es.length+(e1::es2).length)*i.size:=by rw [List.length_append,hl,n1,Nat.add_mul]
       refine fin (by rw [hv,ey];exact hr') (xs:=xs) ⟨hlen,.inr ⟨w.heap.size,_,_,rfl,Nat.zero_le _,Ek w.drew _,hge,hcm,?_,?_⟩⟩ ⟨rfl,rfl,rfl,by simp,λk hk _=>GK w.drew _ hk⟩
        (λb h=>by simp [Value.ownBlock] at h;omega) hr h1
       ·simp only [Array.size_append,List.size_toArray,size_zeroCells,hzl,hl,n1,<- Nat.add_mul];congr 1;omega
       ·simp only [Array.toList_append,List.append_assoc];rw [<- List.append_assoc,<- hlen];exact List.take_left
      cases dx with
      | nils =>
       simp only [ZR,Option.some.injEq] at hb;subst hb;have hv:a.eval x = .slice none 0 0:=by
        generalize a.eval x=v at rx;cases rx;rfl
       exact hnil hv rfl
      | clip es' =>
       simp only [ZR,Option.some.injEq] at hb;subst hb;have rx':∃ad len,a.eval x = .slice ad len len/\RepV I (.slice ad len len) (.sl es'):=by
        generalize a.eval x=v at rx;cases rx with
        | clip ad len _ h=>exact ⟨ad,len,rfl,h⟩
       obtain ⟨ad,len,hv,hr⟩:=rx';rcases Mq hst.imm hr hes hz.2 with ⟨⟨adx,ex⟩,e0⟩ | ⟨xb,xo,xc,xs,ex,_,_,p1,p2,p3,p4,p5⟩
       ·cases adx with
        | none=>exact hnil (hv.trans ex) e0
        | some adx =>
         subst e0;exact hgrow adx 0 [] (hv.trans ex) (by simp) (λj u h=>by simp at h) (by simp) .nil (by simp)
       ·cases ex;exact hgrow ⟨xb,xo,none⟩ _ xs hv p1 p2 (by simp) p4 p3
      | _=>simp [ZR] at hb
     ·cases h
    ·cases h
   ·cases h
  ·cases h
 ·cases h
end
end Go.Hk
namespace Go.Hk
structure PCl where
 es:List (List V)
 m:Int
 m2:Int
 dst:Option Nat
 todo:List DI
def oL (tt:TT) (n:Nat) (env:Env) (todo:List DI):Option PCl :=
 match Bg todo ([],[]) with
 | some (_,o,todo')=>match o.guard,o.op with
  | none,.slice t x none (some h) (some c)=>match lk tt t,CV env x,CV env h,CV env c,BH n o.dst with
   | some { sh:=.sl e,.. },some (.imm (.sl es)),some (.imm (.int _ m)),some (.imm (.int _ m2)),true=>match lk tt e with
    | some _=>some ⟨es,m,m2,o.dst,todo'⟩
    | none=>none
   | _,_,_,_,_=>none
  | _,_=>none
 | none=>none
section
variable {P:Program} {n:Nat} {F:List Nat} {Q:DQ} {tt:TT} {env env':Env} {st st':St} {ids ids':List Nat} {k todo todo':List DI} {I:Imm} {μ:Mu} {w w':World} {a:Act}
theorem pZ (htt:TTok P tt) {c:PCl} (h:oL tt n env todo=some c) (h1:c.m=c.es.length) (h2:c.m2=c.es.length)
  (hk:G P n F Q c.todo (B9 c.dst (.clip c.es) env) st ids):G P n F Q todo env st ids:=by
 unfold oL at h
 split at h
 ·rename_i all o todo' hn1
  split at h
  ·rename_i t x hh cc hg hop
   split at h
   ·rename_i e _ _ _ _ es k1 m k2 m2 ht hx hhh hcc hd
    split at h
    ·rename_i ti hti;cases h;simp only at h1 h2 hk;subst h1;subst h2;refine B6 (fr:=[]) (wr:=[]) (rd:=[]) hn1 ?_ hd (λc hc=>by rw [hop] at hc;cases hc) hk;intro I μ st1 ids1 a w hag hst hon;refine ⟨λ_=>?_,λhw=>by rw [AG hg] at hw;cases hw⟩;have hops:=Bc hon;rw [hop] at hops;have rx:=(hops x (by simp [Op.operands]) _ hx).immInv;have e1:a.eval hh = .int k1 es.length:=(hops hh (by simp [Op.operands]) _ hhh).immInv.intInv;have e2:a.eval cc = .int k2 es.length:=(hops cc (by simp [Op.operands]) _ hcc).immInv.intInv;have hb:∀(k:IntKind) (x y:Nat) (c:BoundsCode),x<=y->(Instr.sliceBound (.int k x) y c).run P w = .ok x w:=by
      intro k x y c hxy;simp [Instr.sliceBound,asIntOf,hxy]
     have hb0:∀(k:IntKind) (c:BoundsCode),(Instr.sliceBound (.int k 0) 0 c).run P w = .ok 0 w:=by
      intro k c;simp [Instr.sliceBound,asIntOf]
     have key:∃ad,(Instr.sliceAt t (a.eval x) none (some (.int k1 es.length)) (some (.int k2 es.length))).run P w = .ok (.slice ad es.length es.length) w/\RepV I (.slice ad es.length es.length) (.sl es):=by
      generalize a.eval x=v at rx;cases rx with
      | slnil=>exact ⟨none,by simp [Instr.sliceAt,run_underlying (htt.sh ht),Instr.slice,Instr.sliceBounds,hb0,(htt e ti hti).sizeOf w],.slnil⟩
      | sl0 ad=>exact ⟨ad,by simp [Instr.sliceAt,run_underlying (htt.sh ht),Instr.slice,Instr.sliceBounds,hb0,(htt e ti hti).sizeOf w],.sl0 ad⟩
      | sl b o len cap sz _ vs hl hc hm hsz hcell hrep =>
       subst hl;refine ⟨some ⟨b,o,none⟩,?_,.sl b o _ _ sz es vs rfl (Nat.le_refl _) (by omega) hsz hcell hrep⟩;simp [Instr.sliceAt,run_underlying (htt.sh ht),Instr.slice,Instr.sliceBounds,hb _ _ _ _ hc,hb _ _ _ _ (Nat.le_refl es.length),(htt e ti hti).sizeOf w,Dz]
     obtain ⟨ad,r1,r2⟩:=key;have hrun:(execOp a.eval o).run P w = .ok (.value (.slice ad es.length es.length)) w:=by
      simp only [execOp,hop,e1,e2,Option.map_none,Option.map_some,Sem.run_bind,r1,Result.andThen_ok,Sem.run_pure]
     rw [hrun];exact ⟨I,μ,hst,.clip _ _ _ r2,Mu.le_refl μ,Ext.refl _ _ _ _⟩
    ·cases h
   ·cases h
  ·cases h
 ·cases h
end
end Go.Hk
