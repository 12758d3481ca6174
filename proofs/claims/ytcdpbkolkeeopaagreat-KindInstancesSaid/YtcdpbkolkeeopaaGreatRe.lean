/- Trees of types that are owned: rows known by address. -/
import Derived.Test.YtcdpbkolkeeopaaGreatRb
import Derived.Test.YtcdpbkolkeeopaaGreatRc
import Derived.Test.YtcdpbkolkeeopaaGreatRd
import Derived.Test.YtcdpbkolkeeopaaGreatProg
import Derived.WalkKit
import Derived.RowKit3
import Derived.Laws.NewBlocks
import Derived.Defers
import Derived.Recover
set_option linter.all false
set_option maxRecDepth 100000
set_option maxHeartbeats 4000000
namespace Go.Hk
open Go.Proofs.Tryz
open Go.Proofs
variable {θ:Int->Ty} {m:Md} {k n k' s:Int} {S ps L L' L1 L2 S' ts:List Ty} {I J:Imm} {w w':World} {t a p τ q:Ty} {Γ Γ1:Au} {T:List (Int×Ty)} {x:Str} {F ids ids':List Nat} {Q:DQ} {env env':Env} {st st' st0:St} {todo todo':List DI} {σ:Sb} {P:Program} {ob:List Prop} {vs:List Value} {v:Value} {es:List (List V)} {ks:List Tm} {tt:TT} {μ:Mu} {d:D} {sz j H:Nat} {e:TypeId} {c:List V} {g:Option (Bool×Bool)} {α:Type} {Pn:V->Prop} {cx:Prop} {das:List D} {l:List Dt} {t0 t1:Tm}
def Dj (t:Ty):Bool:=Cg t == 1||Cg t == 2||Cg t == 3
theorem Top.srt_eq (h:Sol σ θ) {u:Ty} (ht:Top σ t u):Cg (A8 θ t)=Cg u:=by
 rw [ht.ap h.eq];by_cases h9:Cg u=9
 ·rw [Hf h9,h.free _ (ht.end_ h9),h9];rfl
 ·obtain ⟨f,n,x,e1,_,e3⟩:=Y4 (θ:=θ) h9;rw [e3,e1];rfl
theorem eH {stay:List Int}:∀k:Nat,∃n:Nat,NthF stay k n:=by
 have big:∀k:Nat,∃n:Nat,k<=HX stay n:=by
  intro k
  induction k with
  | zero=>exact ⟨0,AJ _⟩
  | succ k ih =>
   obtain ⟨n,hn⟩:=ih;have:∃m:Nat,n<=m/\(m:Int)∉stay:=by
    obtain ⟨b,hb⟩:∃b:Int,∀x∈stay,x<=b:=by
     clear hn
     induction stay with
     | nil=>exact ⟨0,λx h=>nomatch h⟩
     | cons a r ih =>
      obtain ⟨b,hb⟩:=ih;refine ⟨max a b,λx hx=>?_⟩;rcases Cy.1 hx with rfl | hx
      ·omega
      ·have:=hb x hx;omega
    refine ⟨max n (b.toNat+1),by omega,λh=>?_⟩;have:=hb _ h;omega
   obtain ⟨m,h1,h2⟩:=this;refine ⟨m+1,?_⟩;rw [Dl,if_neg h2];have:=Ln (stay:=stay) h1;omega
 intro k;obtain ⟨n,hn⟩:=big (k+1)
 induction n with
 | zero=>simp [HX] at hn
 | succ n ih =>
  by_cases hc:k+1<=HX stay n
  ·exact ih hc
  ·rw [Dl] at hn;refine ⟨n,?_,?_⟩
   ·intro hm;rw [if_pos hm] at hn;omega
   ·split at hn <;> omega
noncomputable def E7 (stay:List Int) (k:Nat):Nat:=(eH (stay:=stay) k).choose
theorem MK (stay:List Int) (k:Nat):NthF stay k (E7 stay k):=(eH (stay:=stay) k).choose_spec
theorem U0 (a:Int) (r:List Int):∀n:Nat,HX r n<=HX (a::r) n+if 0<=a/\a<n then 1 else 0
 | 0=>by simp [HX]
 | n+1=>by
  have ih:=U0 a r n;rw [Dl,Dl];by_cases h1:(n:Int)∈r
  ·rw [if_pos h1,if_pos (Ip _ h1)]
   split at ih <;> split <;> omega
  ·rw [if_neg h1];by_cases h2:(n:Int)=a
   ·subst h2;rw [if_pos (QY ..),if_pos ⟨by omega,by omega⟩];rw [if_neg (by omega)] at ih;omega
   ·rw [if_neg (by simp [h1,h2])]
    split at ih <;> split <;> omega
theorem fW:∀(stay:List Int) (n:Nat),n<=HX stay n+stay.length
 | [],n=>by
  have:HX [] n=n:=by
   induction n with
   | zero=>rfl
   | succ n ih=>rw [Dl,ih,if_neg (by simp)]
  omega
 | a::r,n=>by
  have h1:=fW r n;have h2:=U0 a r n;rw [Da]
  split at h2 <;> omega
theorem wC (stay:List Int) (k:Nat):E7 stay k<=k+stay.length:=by
 have:=fW stay (E7 stay k);rw [(MK stay k).2] at this;exact this
theorem RS {a:Int} {r:List Int} (ha:a∉r):∀n:Nat,HX (a::r) n+(if 0<=a/\a<n then 1 else 0)<=HX r n
 | 0=>by
  rw [if_neg (by omega)];simp [HX]
 | n+1=>by
  have ih:=RS ha n;rw [Dl,Dl];by_cases h2:(n:Int)=a
  ·subst h2;rw [if_pos (QY ..),if_pos ⟨by omega,by omega⟩,if_neg ha];rw [if_neg (by omega)] at ih;omega
  ·by_cases h1:(n:Int)∈r
   ·rw [if_pos h1,if_pos (Ip _ h1)]
    split at ih <;> split <;> omega
   ·rw [if_neg h1,if_neg (by simp [h1,h2])]
    split at ih <;> split <;> omega
theorem Ox:∀{l:List Int} {n:Nat},l.Nodup->(∀x∈l,0<=x/\x<n)->l.length+HX l n<=n
 | [],n,_,_=>by
  have:∀n,HX [] n=n:=λn=>by
   induction n with
   | zero=>rfl
   | succ n ih=>rw [Dl,ih,if_neg (by simp)]
  simp [this]
 | a::r,n,hd,hb=>by
  rw [L6] at hd;have h1:=RS hd.1 n;rw [if_pos (hb a (by simp))] at h1;have h2:=Ox hd.2 λx hx=>hb x (by simp [hx]);rw [Da];omega
mutual
theorem Ui:∀(t:Ty) (l:List Int),l.Nodup->(Df t l).Nodup
 | .mk f n x ps,l,h=>by
  simp only [Df]
  split
  ·split
   ·exact h
   ·rename_i hn;rw [HM];exact ⟨h,by simp,λa ha b hb e=>by rw [AP.1 hb] at e;exact hn (e ▸ ha)⟩
  ·exact R6 ps l h
theorem R6:∀(ts:List Ty) (l:List Int),l.Nodup->(Cn ts l).Nodup
 | [],l,h=>h
 | t::r,l,h=>by simp only [Cn];exact R6 r _ (Ui t l h)
end
def GC:Au->List Int->List Int
 | [],l=>l
 | p::r,l=>GC r (Df p.2 l)
theorem Qx:∀(Γ:Au) (p:Str×Ty) (l:List Int),GC (Γ++[p]) l=Df p.2 (GC Γ l)
 | [],p,l=>rfl
 | q::r,p,l=>by simp only [De,GC,Qx r p]
theorem Xa {m:Int}:∀(Γ:Au) (l:List Int),m∈GC Γ l↔m∈l\/∃p∈Γ,m∈CL p.2
 | [],l=>by simp [GC]
 | p::r,l=>by simp only [GC,Xa r,PU];grind
theorem Qw:∀(Γ:Au) (l:List Int),l.Nodup->(GC Γ l).Nodup
 | [],l,h=>h
 | p::r,l,h=>Qw r _ (Ui p.2 l h)
theorem YK {B:Nat} (h:∀p∈Γ,inB B p.2):(GC Γ []).length<=B:=by
 have:=Ox (n:=B) (Qw Γ [] (by simp)) λx hx=>by
  rcases (Xa Γ []).1 hx with hx | ⟨p,hp,hx⟩
  ·cases hx
  ·exact h p hp x hx
 omega
mutual
def V8 (op:Int) (s:Str):Tm->Bool
 | .mk o _ x ks _=>(o == op&&x == s)||XG op s ks
def XG (op:Int) (s:Str):List Tm->Bool
 | []=>false
 | t::r=>V8 op s t||XG op s r
end
mutual
def Pp (op:Int):Tm->Bool
 | .mk o _ _ ks _=>o == op||Ml op ks
def Ml (op:Int):List Tm->Bool
 | []=>false
 | t::r=>Pp op t||Ml op r
end
inductive Rch (m:Md) (a:Nat):Nat->Prop
 | base:Rch m a a
 | step {j k:Nat} {f g:Fd}:Rch m a j->m.funs[j]?=some f->m.funs[k]?=some g->V8 4 g.name f.body=true->Rch m a k
noncomputable def tH (m:Md) (a:Nat) (op:Int):Bool:=open Classical in decide (∃j f,Rch m a j/\m.funs[j]?=some f/\Pp op f.body=true)
noncomputable def xU (m:Md) (a:Nat):List Int:=((List.range 13).map λi:Nat=>16+(i:Int)).filter (tH m a)
mutual
def Ge (m:Md):Ty->Bool
 | .mk f _ x ps=>if f=8 then m.datas.any (λd=>d.name == x) else GF m ps
def GF (m:Md):List Ty->Bool
 | []=>true
 | t::r=>Ge m t&&GF m r
end
def cnN (l:List Dt):List Str:=(l.map λd=>d.cons.map (·.name)).flatten
def zaj (m:Md) (n:Nat):Bool:=match m.datas[n]? with
 | some d=>(List.range d.cons.length).any λk=>match d.cons[k]? with
  | some c=>BE (cnN (m.datas.take n)++(d.cons.take k).map (·.name)) c.name
  | none=>false
 | none=>false
def Lt (m:Md) (n:Nat):Bool:=match m.datas[n]? with
 | some d=>(m.datas.take n).any (λe=>e.name == d.name)||d.cons.any (λc=>!GF m c.args)||zaj m n
 | none=>false
def yT (m:Md) (f:Fd):Prop:=∃N,Cf m f.body [(f.param,f.from_)] f.to_ N/\(∀S,Cf m f.body [(f.param,f.from_)] f.to_ S->∃η,N.map (A8 η)=S)/\N.all Dj=true
noncomputable def EH (m:Md) (f:Fd):Bool:=open Classical in decide (yT m f)
noncomputable def P4 (m:Md) (i:Nat):Bool:=match m.funs[i]? with
 | some f=>(m.funs.take i).any (λg=>g.name == f.name) || !Ge m f.from_ || !Ge m f.to_ || !EH m f
 | none=>false
def QR:Str:=[109,97,105,110]
def Vd (m:Md):Bool:=m.funs.any λf=>f.name == QR&&Cg f.from_ == 3
def FV (p:Nat->Bool):Nat->Nat->Option Nat
 | _,0=>none
 | i,n+1=>if p i then some i else FV p (i+1) n
noncomputable def JS (m:Md):Int×Int:=match FV (Lt m) 0 m.datas.length with
 | some i=>(1,i)
 | none=>match FV (P4 m) 0 m.funs.length with
  | some i=>(2,i)
  | none=>if Vd m then (0,0) else (3,0)
theorem oV {η:Int->Ty} (h:Dj t=true):Dj (A8 η t)=true:=by
 have h9:Cg t≠9:=by intro e;simp [Dj,e] at h
 obtain ⟨f,n,x,e1,_,e3⟩:=Y4 (θ:=η) h9;rw [e3];rw [e1] at h;exact h
open Classical in
theorem cL {f:Fd} {N:List Ty} (h1:Cf m f.body [(f.param,f.from_)] f.to_ N) (h2:∀S,Cf m f.body [(f.param,f.from_)] f.to_ S->∃η,N.map (A8 η)=S):EH m f=N.all Dj:=by
 unfold EH;cases hN:N.all Dj with
 | true=>exact decide_eq_true ⟨N,h1,h2,hN⟩
 | false =>
  refine decide_eq_false λ⟨N',a1,a2,a3⟩=>?_;obtain ⟨η,e⟩:=a2 N h1;have:N.all Dj=true:=by
   rw [<- e,Ob];rw [CS] at a3 ⊢;exact λt ht=>oV (a3 t ht)
  rw [hN] at this;cases this
open Classical in
theorem cM {f:Fd} (h:∀S,¬Cf m f.body [(f.param,f.from_)] f.to_ S):EH m f=false:=by
 unfold EH;exact decide_eq_false λ⟨N,a1,_⟩=>h N a1
theorem PQ {b:Bool} {k:Nat} (h:Ct b s n x k=true):s≠0/\k<=3/\(s=9->b=true/\x=[]/\k=0/\0<=n/\n<=99)/\(s≠9->n=0):=by
 unfold Ct at h;by_cases h1:s=1\/s=2\/s=3
 ·rw [if_pos h1] at h;simp only [Ap,beq_iff_eq] at h;refine ⟨by omega,by omega,λe=>by omega,λ_=>h.1.2⟩
 rw [if_neg h1] at h;by_cases h2:s=4
 ·rw [if_pos h2] at h;simp only [Ap,beq_iff_eq] at h;refine ⟨by omega,by omega,λe=>by omega,λ_=>h.1.2⟩
 rw [if_neg h2] at h;by_cases h3:s=5\/s=6\/s=7
 ·rw [if_pos h3] at h;simp only [Ap,beq_iff_eq] at h;refine ⟨by omega,by omega,λe=>by omega,λ_=>h.1.2⟩
 rw [if_neg h3] at h;by_cases h4:s=8
 ·rw [if_pos h4] at h;simp only [Ap,beq_iff_eq] at h;refine ⟨by omega,by omega,λe=>by omega,λ_=>h.1.2⟩
 rw [if_neg h4] at h;by_cases h5:s=9
 ·rw [if_pos h5] at h;simp only [Ap,beq_iff_eq,Dz,decide_eq_true_eq] at h;refine ⟨by omega,by omega,λ_=>⟨h.1.1.1,h.1.2,by omega,by omega,by omega⟩,λe=>absurd h5 e⟩
 ·rw [if_neg h5] at h;cases h
mutual
theorem M2 {b:Bool}:∀t:Ty,BL b t=true->Ck t=true/\inB 100 t/\(b=false->CL t=[])
 | .mk s n x ps,h=>by
  simp only [BL,Ap] at h;obtain ⟨h1,h2,h3,h4⟩:=PQ h.1;obtain ⟨p1,p2,p3⟩:=Tl ps h.2;by_cases e:s=9
  ·obtain ⟨q1,q2,q3,q4,q5⟩:=h3 e;have:ps=[]:=Kj.1 q3;subst this;subst q2;subst e;refine ⟨by simp [Ck,EJ],λm hm=>?_,λe=>by rw [q1] at e;cases e⟩;simp [CL] at hm;omega
  ·have hn:=h4 e;subst hn;refine ⟨?_,λm hm=>?_,λhb=>?_⟩
   ·simp [Ck,e,h1,h2,p1]
   ·simp only [CL,if_neg e] at hm;exact p2 m hm
   ·simp only [CL,if_neg e];exact p3 hb
theorem Tl {b:Bool}:∀l:List Ty,B9 b l=true->EJ l=true/\(∀m∈Dc l,0<=m/\m<100)/\(b=false->Dc l=[])
 | [],_=>by simp [EJ,Dc]
 | t::r,h=>by
  simp only [B9,Ap] at h;obtain ⟨a1,a2,a3⟩:=M2 t h.1;obtain ⟨b1,b2,b3⟩:=Tl r h.2;refine ⟨by simp [EJ,a1,b1],λm hm=>?_,λhb=>by simp [Dc,a3 hb,b3 hb]⟩;simp only [Dc,BN] at hm;exact hm.elim (a2 m) (b2 m)
end
mutual
def Ia:Ty->Ty->List (Int×Ty)->List (Int×Ty)×Bool
 | .mk f n x ps,b,T=>if f=9 then (Q5 T n b,match BG T n with
   | none=>true
   | some v=>Ib v b)
  else if f=Cg b/\x=cX b/\ps.length=(Ft b).length then JH ps (Ft b) T else (T,false)
def JH:List Ty->List Ty->List (Int×Ty)->List (Int×Ty)×Bool
 | p::ps,q::qs,T=>if (Ia p q T).2=true then JH ps qs (Ia p q T).1 else Ia p q T
 | _,_,T=>(T,true)
end
theorem gQ (h:σ n=some t):Ea σ n t=σ:=by
 funext m;unfold Ea
 split
 ·rename_i e;rw [e,h]
 ·rfl
mutual
theorem TK:∀(a b:Ty) (T:List (Int×Ty)),(Ia a b T).2=(I5 a b (BG T)).isSome/\∀σ',I5 a b (BG T)=some σ'->BG (Ia a b T).1=σ'
 | .mk f n x ps,b,T=>by
  by_cases e9:f=9
  ·rw [Ia,I5,if_pos e9,if_pos e9];cases hs:BG T n with
   | none=>exact ⟨rfl,λσ' h=>by cases h;exact Jm b n T⟩
   | some v =>
    simp only;cases he:Ib v b with
    | false=>exact ⟨rfl,λσ' h=>nomatch h⟩
    | true =>
     refine ⟨rfl,λσ' h=>?_⟩;cases h;rw [Jm];have:=(K7 v b).1 he;subst this;exact gQ hs
  ·rw [Ia,I5,if_neg e9,if_neg e9];by_cases hh:f=Cg b/\x=cX b/\ps.length=(Ft b).length
   ·rw [if_pos hh,if_pos hh];exact QP ps (Ft b) T
   ·rw [if_neg hh,if_neg hh];exact ⟨rfl,λσ' h=>nomatch h⟩
theorem QP:∀(aa bb:List Ty) (T:List (Int×Ty)),(JH aa bb T).2=(IL aa bb (BG T)).isSome/\∀σ',IL aa bb (BG T)=some σ'->BG (JH aa bb T).1=σ'
 | a::aa,b::bb,T=>by
  obtain ⟨h2,h3⟩:=TK a b T;rw [JH,IL];cases hm:I5 a b (BG T) with
  | none =>
   rw [hm] at h2;rw [if_neg (by rw [h2];simp)];exact ⟨h2,λσ' h=>nomatch h⟩
  | some σ1 =>
   rw [hm] at h2;rw [if_pos (by rw [h2];rfl)];have ih:=QP aa bb (Ia a b T).1;rw [h3 σ1 hm] at ih;exact ih
 | [],[],T=>⟨rfl,λσ' h=>by cases h;rfl⟩
 | [],_::_,T=>⟨rfl,λσ' h=>by cases h;rfl⟩
 | _::_,[],T=>⟨rfl,λσ' h=>by cases h;rfl⟩
end
theorem Z3 {qs:List Ty} {i:Nat} (hp:ps[i]?=some p) (hq:qs[i]?=some q) (T:List (Int×Ty)):JH (ps.drop i) (qs.drop i) T=if (Ia p q T).2=true then JH (ps.drop (i+1)) (qs.drop (i+1)) (Ia p q T).1 else Ia p q T:=by
 rw [Av hp,Av hq,JH]
theorem Pj:∀(a b:Ty) (T:List (Int×Ty)),Ck b=true->Tq4 60 [.imm (.agg (dTyc a)),.imm (.agg (dTyc b)),.mapr 1] [(1,some (Wt T))] (.ret (.imm (.bool (Ia a b T).2)) [(1,some (Wt (Ia a b T).1))])
 | .mk f n x ps,.mk g m y qs,T,hw=>by
  have hql:=I3 hw;have hqw:=E3 hw;simp only [Ft] at hql hqw;refine Ad ttY_ok func60 rfl [2,3,4,5]<|Ai rfl ?_;by_cases e9:f=9
  ·subst e9;have hr:Ia (.mk 9 n x ps) (.mk g m y qs) T=(Q5 T n (.mk g m y qs),match BG T n with
    | none=>true
    | some v=>Ib v (.mk g m y qs)):=by rw [Ia,if_pos rfl]
   rw [hr];have hst:=Kb n (.mk g m y qs) T;have hlk:=H2 n T;refine Al rfl λh=>As rfl ?_;cases hsb:BG T n with
   | none =>
    rw [hsb] at hlk;refine CR ttY_ok 1 (zd:=.agg (dTyc Hi)) (dr:=.imm (.tup [.agg (dTyc Hi),.bool false])) rfl rfl rfl (Ev T) (by simp) rfl Ie (by simp only [FR,hlk];rfl)<|Ai rfl<|F6 ttY_ok rfl rfl rfl (Ev T)<|BH rfl<|Aj (v:=.bool false) rfl (λhc=>by simp [Am] at hc) (by simp [Am])<|BH rfl ?_;simp only [Wt,<- hst];exact Ah ⟨_,AC⟩
   | some v =>
    rw [hsb] at hlk;have hS:=Xn v (.mk g m y qs)
    dsimp only
    generalize Ib v (.mk g m y qs)=o at *;obtain ⟨v1,v2,v3,v4⟩:=v;refine CR ttY_ok 1 (zd:=.agg (dTyc Hi)) (dr:=.imm (.tup [.agg (dTyc (.mk v1 v2 v3 v4)),.bool true])) rfl rfl rfl (Ev T) (by simp) rfl Ie (by simp only [FR,hlk];rfl)<|Ai rfl<|F6 ttY_ok rfl rfl rfl (Ev T)<|BH rfl<|AI rfl hS<|BH rfl ?_;simp only [Wt,<- hst];exact Ah ⟨_,AC⟩
  ·refine Ab rfl (λh=>by exfalso;simp at h;exact e9 h) (λh=>?_);refine Sn rfl ?_;by_cases hh:f=g/\x=y/\ps.length=qs.length
   ·have hr:Ia (.mk f n x ps) (.mk g m y qs) T=JH ps qs T:=by rw [Ia,if_neg e9];exact if_pos hh
    rw [hr];obtain ⟨rfl,rfl,hq⟩:=hh;refine Ab rfl (λh=>by exfalso;simp at h;omega) (λh=>?_);refine As rfl<|Ak (λz:Nat×List (Int×Ty)=>[(55,.imm (.int .i64 z.1)),(54,.imm (.int .i64 ps.length)),(3,.ref 2 0),(4,.ref 3 0),(2,.mapr 1)]) (λz=>[(1,some (Wt z.2)),(2,some (.immb 25 4 (dTyc (.mk f n x ps)))),(3,some (.immb 25 4 (dTyc (.mk f m x qs))))]) [4,5] (λz=>ps.length-z.1)
     (λz=>z.1<=ps.length/\JH ps qs T=JH (ps.drop z.1) (qs.drop z.1) z.2) (0,T)
     ⟨AJ _,rfl⟩ ⟨rfl,BB (by simp),AC⟩ AC rfl λz hz ih=>?_
    obtain ⟨i,K⟩:=z;obtain ⟨hz1,hz2⟩:=hz;simp only at hz1 hz2 ih;refine As rfl<|Ab rfl (λh=>?_) (λh=>?_)
    ·have hlt:i<ps.length:=by simp at h;omega
     obtain ⟨p,hp⟩:=Ao hlt;obtain ⟨q,hq'⟩:=Ao (l:=qs) (i:=i) (by omega);have hgp:=AE hp;have hgq:=AE hq';have hI:=Pj p q K (hqw q (AF hq'));rw [Z3 hp hq'] at hz2;have hih:=λhc=>ih (i+1,(Ia p q K).1) (by simp only;omega) ⟨by simp only;omega,hc⟩;generalize (Ia p q K)=r at *;obtain ⟨K',o⟩:=r;simp only at hz2 hI hih;obtain ⟨p1,p2,p3,p4⟩:=p;obtain ⟨q1,q2,q3,q4⟩:=q;refine As rfl<|Sl rfl hgp<|Ai rfl<|Sl rfl hgq<|Ai rfl<|Ae rfl hI Ax rfl<|yg [] rfl (by simp;rfl) ?_;cases o with
     | false =>
      rw [if_neg (by simp)] at hz2;rw [hz2];exact Al rfl λh=>As rfl<|Ah ⟨_,AC⟩
     | true =>
      rw [if_pos rfl] at hz2;exact Ag rfl λh=>As rfl<|Ac (hih hz2) ⟨AU,Cb⟩ AC rfl
    ·have hlt:¬i<ps.length:=by simp at h;omega
     rw [Bo (by omega)] at hz2;simp only [JH] at hz2;rw [hz2];exact Az rfl<|As rfl<|Ah ⟨_,AC⟩
   ·have hr:Ia (.mk f n x ps) (.mk g m y qs) T=(T,false):=by rw [Ia,if_neg e9];exact if_neg hh
    rw [hr];refine Ab rfl (λh=>?_) (λh=>by exfalso;simp at h;grind);exact As rfl<|Ah ⟨_,AC⟩
termination_by a=>SizeOf.sizeOf a
decreasing_by
 have:=Cj (AF hp);simp_wf;omega
theorem V0 (a b:Ty):Tq3 14 [.agg (dTyc a),.agg (dTyc b)] (.tup [.bool (AO true a&&AO true b&&(I5 a b λ_=>none).isSome),SI (AO true a&&AO true b)]):=by
 have hK:=FC [a,b];simp only [Dd,Jv,HI] at hK;cases hf:AO true a&&AO true b with
 | false =>
  rw [hf] at hK;obtain ⟨a1,a2,a3,a4⟩:=a;obtain ⟨b1,b2,b3,b4⟩:=b;exact Ad ttY_ok func14 rfl [1,2,3,4,5]<|Ai rfl<|Af rfl hK<|Ai rfl<|Al rfl λh=>As rfl<|Aa rfl rfl rfl
 | true =>
  rw [hf] at hK;have hw:Ck b=true:=by
   simp only [Ap,AO] at hf;exact (M2 b hf.2.2).1
  have hM:=Pj a b [] hw;obtain ⟨h2,_⟩:=TK a b [];rw [show BG []=λ_=>none from rfl] at h2;rw [<- h2];generalize Ia a b []=r at *;obtain ⟨T',o⟩:=r;obtain ⟨a1,a2,a3,a4⟩:=a;obtain ⟨b1,b2,b3,b4⟩:=b;exact Ad ttY_ok func14 rfl [1,2,3,4,5]<|Ai rfl<|Af rfl hK<|Ai rfl<|Ag rfl λh=>As rfl<|EF rfl<|Ai rfl<|Aq [] [(3,1)] [] rfl hM Ax rfl rfl<|Ai rfl<|Aa rfl rfl rfl
def lexT (θ:Int->Ty) (x h:Int):Prop:=EK (θ x)<EK (θ h)\/(EK (θ x)=EK (θ h)/\x<h)
theorem lexT.trans {x y z:Int} (h:lexT θ x y) (h':lexT θ y z):lexT θ x z:=by
 unfold lexT at *;omega
theorem lexT.irrefl {x:Int}:¬lexT θ x x:=by unfold lexT;omega
theorem Sol.below (hs:Sol σ θ) {h x:Int} (ht:σ h=some t) (hx:x∈CL t):lexT θ x h:=by
 have hθ:θ h=A8 θ t:=hs.eq h t ht;by_cases h9:Cg t=9
 ·have e:=DZ (hs.wf h t ht) h9;have hd:=hs.down h t ht h9;rw [e] at hx;simp [Aw,CL] at hx;refine .inr ⟨?_,by omega⟩;rw [hθ,Hf h9,hx]
 ·exact .inl (by rw [hθ];exact dF h9 hx)
def MetOk (θ:Int->Ty) (n:Int) (t:Ty) (met:List Int):Prop:=∀h∈met,n∉CL (θ h)\/∀x∈CL t,lexT θ x h
def MetNew (θ:Int->Ty) (n:Int) (met met':List Int):Prop:=∀h∈met',h∈met\/n∉CL (θ h)
theorem MetNew.refl (met:List Int):MetNew θ n met met:=λ_ h=>.inl h
theorem MetNew.trans {a b c:List Int} (h:MetNew θ n a b) (h':MetNew θ n b c):MetNew θ n a c:=λx hx=>by
 rcases h' x hx with hx | hx
 ·exact h x hx
 ·exact .inr hx
theorem MetOk.part {met:List Int} (h:MetOk θ n t met) (h9:Cg t≠9) (hp:p∈Ft t):MetOk θ n p met:=λx hx=>(h x hx).imp id λhb y hy=>hb y (by
 obtain ⟨f,m,z,ps⟩:=t;simp only [Cg] at h9;simp only [CL,if_neg h9];exact MQ.2 ⟨p,hp,hy⟩)
theorem MetOk.new {met met':List Int} (h:MetOk θ n t met) (h':MetNew θ n met met'):MetOk θ n t met':=λx hx=>by
 rcases h' x hx with hx | hx
 ·exact h x hx
 ·exact .inl hx
theorem MetOk.met {h:Int} {met:List Int} (hm:MetOk θ n (Aw h) met) (hh:h∈met):n∉CL (θ h):=by
 rcases hm h hh with h1 | h1
 ·exact h1
 ·exact absurd (h1 h (by simp [Aw,CL])) lexT.irrefl
theorem MetOk.next (hs:Sol σ θ) {h:Int} {met:List Int} (hm:MetOk θ n (Aw h) met) (ht:σ h=some t):MetOk θ n t (h::met):=λx hx=>by
 rcases Cy.1 hx with rfl | hx
 ·exact .inr λy hy=>hs.below ht hy
 ·exact (hm x hx).imp id λhb y hy=>(hs.below ht hy).trans (hb h (by simp [Aw,CL]))
def DT (l:List Int):List (V×V):=l.map λh=>(.int .i64 h,.bool true)
theorem CK (l:List Int):∀p∈DT l,Hs (.int .i64) p.1=true:=λp hp=>by
 obtain ⟨q,_,rfl⟩:=C2.1 hp;rfl
theorem NN (h:Int):∀l:List Int,GH (DT l) (.int .i64 h)=if h∈l then some (.bool true) else none
 | []=>rfl
 | x::r=>by
  have ih:=NN h r;simp only [DT,C6,GH,Lg] at ih ⊢;by_cases e:x=h
  ·subst e;rw [decide_eq_true rfl,if_pos (QY ..)];rfl
  ·rw [decide_eq_false e];simp only [Cy];rw [ih];have e':¬h=x:=λh'=>e h'.symm;simp only [e',false_or];rfl
theorem Gr (h:Int) (l:List Int):FR false (DT l) (.int .i64 h) (.bool false) = .imm (.bool (decide (h∈l))):=by
 simp only [FR,NN];by_cases e:h∈l <;> simp [e]
theorem II {h:Int}:∀{l:List Int},h∉l->FF (DT l) (.int .i64 h) (.bool true)=DT (l++[h])
 | [],_=>rfl
 | x::r,hn=>by
  simp only [Cy,not_or] at hn;have ih:=II (l:=r) hn.2;simp only [DT,C6,FF,Lg,De] at ih ⊢;rw [decide_eq_false (λe=>hn.1 e.symm),<- ih];rfl
def DY (m:Md) (T:List (Int×Ty)) (k:Int) (S:List Ty) (n:Int) (t:Ty) (met:List Int) (b:Bool) (met':List Int):Prop :=
 Tq4 118 [.ref 1 0,.imm (.int .i64 n),.imm (.agg (dTyc t)),.mapr 4] (CP m T k S++[(4,some (.map (DT met)))]) (.ret (.imm (.bool b)) (CP m T k S++[(4,some (.map (DT met')))]))
theorem YL (m:Md) (T:List (Int×Ty)) (k:Int) (S:List Ty) (n h:Int) (met:List Int) (hh:h∈met):DY m T k S n (Aw h) met false met:=by
 unfold DY;exact Ad ttY_ok func118 rfl [5,6,7,8,9]<|yg [.a] rfl (by simp)<|CR ttY_ok 4 (z:=.bool false) (zd:=.bool false) (dr:=.imm (.bool true)) rfl rfl rfl (CK met) (by simp) rfl (λ_=>.bool _) (by rw [Gr];simp [hh])<|yg [.a] rfl (by simp)<|Ah ⟨_,GU⟩
theorem Wl (m:Md) (T:List (Int×Ty)) (k:Int) (S:List Ty) (n:Int) (met:List Int) (hh:n∉met) (hs:BG T n=none):DY m T k S n (Aw n) met true (met++[n]):=by
 unfold DY;have hlk:=H2 n T;rw [hs] at hlk;have hnew:=II hh;exact Ad ttY_ok func118 rfl [5,6,7,8,9]<|yg [.a] rfl (by simp)<|CR ttY_ok 4 (z:=.bool false) (zd:=.bool false) (dr:=.imm (.bool false)) rfl rfl rfl (CK met) (by simp) rfl (λ_=>.bool _) (by rw [Gr];simp [hh])<|yg [.a] rfl (by simp)<|F6 ttY_ok rfl rfl rfl (CK met)<|Ai rfl<|CR ttY_ok 2 (zd:=.agg (dTyc Hi)) (dr:=.imm (.tup [.agg (dTyc Hi),.bool false])) rfl rfl rfl (Ev T) (by simp) rfl Ie (by simp only [FR,hlk];rfl)<|yg [] rfl (by simp [Am];rfl)<|PX (.imm (.bool false)) rfl (by simp [Am])<|BH rfl<|Ah ⟨_,rfl,tV (by simp),rfl,rfl,rfl,congrArg (λx=>some (some (Blk.map x))) hnew,trivial⟩
theorem Ka (m:Md) (T:List (Int×Ty)) (k:Int) (S:List Ty) (n h:Int) (met:List Int) (hh:h∉met) (hn:h≠n) (hs:BG T h=none):DY m T k S n (Aw h) met false (met++[h]):=by
 unfold DY;have hlk:=H2 h T;rw [hs] at hlk;have hnew:=II hh;have hb:(h == n)=false:=by simpa using hn
 exact Ad ttY_ok func118 rfl [5,6,7,8,9]<|yg [.a] rfl (by simp)<|CR ttY_ok 4 (z:=.bool false) (zd:=.bool false) (dr:=.imm (.bool false)) rfl rfl rfl (CK met) (by simp) rfl (λ_=>.bool _) (by rw [Gr];simp [hh])<|yg [.a] rfl (by simp)<|F6 ttY_ok rfl rfl rfl (CK met)<|Ai rfl<|CR ttY_ok 2 (zd:=.agg (dTyc Hi)) (dr:=.imm (.tup [.agg (dTyc Hi),.bool false])) rfl rfl rfl (Ev T) (by simp) rfl Ie (by simp only [FR,hlk];rfl)<|yg [] rfl (by simp [Am];rfl)<|PX (.imm (.bool false)) rfl (by simp [Am])<|BH rfl<|Ah ⟨_,rfl,tV (by simp [hb]),rfl,rfl,rfl,congrArg (λx=>some (some (Blk.map x))) hnew,trivial⟩
theorem Wm (m:Md) (T:List (Int×Ty)) (k:Int) (S:List Ty) (n h:Int) (met met':List Int) (u:Ty) (b:Bool) (hh:h∉met) (hn:h≠n) (hs:BG T h=some u) (hC:DY m T k S n u (met++[h]) b met'):DY m T k S n (Aw h) met b met':=by
 unfold DY at hC ⊢;have hlk:=H2 h T;rw [hs] at hlk;have hnew:=II hh;have hb:(h == n)=false:=by simpa using hn
 obtain ⟨u1,u2,u3,u4⟩:=u;refine Ad ttY_ok func118 rfl [5,6,7,8,9]<|yg [.a] rfl (by simp)<|CR ttY_ok 4 (z:=.bool false) (zd:=.bool false) (dr:=.imm (.bool false)) rfl rfl rfl (CK met) (by simp) rfl (λ_=>.bool _) (by rw [Gr];simp [hh])<|yg [.a] rfl (by simp)<|F6 ttY_ok rfl rfl rfl (CK met)<|Ai rfl<|CR ttY_ok 2 (zd:=.agg (dTyc Hi)) (dr:=.imm (.tup [.agg (dTyc (.mk u1 u2 u3 u4)),.bool true])) rfl rfl rfl (Ev T) (by simp) rfl Ie (by simp only [FR,hlk];rfl)<|yg [] rfl (by simp [Am];rfl) ?_;simp only [hnew];exact A5 [(1,1),(2,2),(3,3),(4,4)] [] [] (fr:=[]) (nm:=[1,2,3,4,1,2,3,4]) rfl (by simp [Am,hb]) (by simp [Am]) hC Kc rfl trivial rfl rfl rfl<|BH rfl<|Ah ⟨_,rfl,tV (by simp [hb]),Cb⟩
def bxS (n:Int):St:=[(5,some (.cells 92 1 [.ref 1 0])),(6,some (.immb 3 1 [.int .i64 n])),(7,some (.cells 120 1 [.mapr 4]))]
def stS (m:Md) (T:List (Int×Ty)) (k:Int) (S:List Ty) (n:Int) (met:List Int):St:=CP m T k S++[(4,some (.map (DT met)))]++bxS n
theorem YM {met met':List Int} {b:Bool} (hC:DY m T k S n t met b met') :
  Tq4 177 [.imm (.agg (dTyc t)),.ref 5 0,.ref 6 0,.ref 7 0] (stS m T k S n met) (.ret (.imm (.bool b)) (stS m T k S n met')):=by
 unfold DY at hC;obtain ⟨t1,t2,t3,t4⟩:=t;exact Ad ttY_ok func177 rfl [8,9]<|Ai rfl<|A5 [(1,1),(2,2),(3,3),(4,4)] [] [] (fr:=[]) (nm:=[1,2,3,4,1,2,3,4]) rfl trivial (by simp) hC Kc rfl trivial rfl rfl rfl<|Ai rfl<|Ah ⟨_,iN⟩
def Py (m:Md) (T:List (Int×Ty)) (k:Int) (S:List Ty) (n:Int):List Ty->List Int->Bool->List Int->Prop
 | [],met,b,met'=>b=false/\met'=met
 | t::r,met,b,met'=>∃b1 met1,DY m T k S n t met b1 met1/\if b1=true then b=true/\met'=met1 else Py m T k S n r met1 b met'
def N8 (m:Md) (T:List (Int×Ty)) (k:Int) (S:List Ty) (n:Int):Nat->List Ty->List Int->Int->List Int->Prop
 | _,[],met,i,met'=>i = -1/\met'=met
 | j,t::r,met,i,met'=>∃b1 met1,DY m T k S n t met b1 met1/\if b1=true then i=j/\met'=met1 else N8 m T k S n (j+1) r met1 i met'
theorem nI {m:Md} {T:List (Int×Ty)} {k:Int} {S:List Ty} {n:Int}:∀{ps:List Ty} (j:Nat) {met met':List Int} {b:Bool},Py m T k S n ps met b met'->∃i:Int,(0<=i↔b=true)/\N8 m T k S n j ps met i met'
 | [],j,met,met',b,h=>by
  obtain ⟨h1,h2⟩:=h;refine ⟨-1,⟨λh=>by omega,λh=>by rw [h1] at h;cases h⟩,?_⟩;rw [N8];exact ⟨rfl,h2⟩
 | t::r,j,met,met',b,h=>by
  rw [Py] at h;obtain ⟨b1,met1,h1,h2⟩:=h;cases b1 with
  | true =>
   rw [if_pos rfl] at h2;refine ⟨j,⟨λ_=>h2.1,λ_=>by omega⟩,?_⟩;rw [N8];refine ⟨true,met1,h1,?_⟩;rw [if_pos rfl];exact ⟨rfl,h2.2⟩
  | false =>
   rw [if_neg (by simp)] at h2;obtain ⟨i,i1,i2⟩:=nI (j+1) h2;refine ⟨i,i1,?_⟩;rw [N8];refine ⟨false,met1,h1,?_⟩;rw [if_neg (by simp)];exact i2
theorem bC {met met':List Int} {i:Int} (hl:ps.length<=3) (hC:N8 m T k S n 0 ps met i met') :
  Tq4 245 [.imm (.sl (AA ps)),.fn (.func 177) [] [.ref 5 0,.ref 6 0,.ref 7 0]] (stS m T k S n met) (.ret (.imm (.int .i64 i)) (stS m T k S n met')):=by
 refine Ad ttY_ok func245 rfl [8,9]<|Ai rfl<|Ak (λz:Nat×List Int=>[(8,.imm (.int .i64 z.1)),(7,.imm (.int .i64 ps.length)),(0,.imm (.sl (AA ps))),(1,.fn (.func 177) [] [.ref 5 0,.ref 6 0,.ref 7 0])]) (λz=>stS m T k S n z.2) [8,9] (λz=>ps.length-z.1) (λz=>z.1<=ps.length/\N8 m T k S n z.1 (ps.drop z.1) z.2 i met') (0,met)
  ⟨AJ _,hC⟩ ⟨rfl,BB (by simp),AK⟩ GD rfl λz hz ih=>?_
 clear hC;obtain ⟨j,K⟩:=z;obtain ⟨hj1,hj2⟩:=hz;simp only at hj1 hj2 ih;refine As rfl<|Ab rfl (λh=>?_) (λh=>?_)
 ·have hlt:j<ps.length:=by simp at h;omega
  obtain ⟨t,ht⟩:=Ao hlt;have hg:=AE ht;rw [Av ht,N8] at hj2;obtain ⟨b1,K1,h1,h2⟩:=hj2;have hQ:=YM h1;obtain ⟨t1,t2,t3,t4⟩:=t;refine As rfl<|Sl rfl hg<|Ai rfl<|Aq [] [(1,1),(2,2),(3,3),(4,4),(5,5),(6,6),(7,7)] [] rfl hQ W2 rfl rfl<|Ai rfl ?_;cases b1 with
  | true =>
   rw [if_pos rfl] at h2;obtain ⟨e1,e2⟩:=h2;subst e1;subst e2;exact Al rfl λh=>As rfl<|Ah ⟨_,iN⟩
  | false =>
   rw [if_neg (by simp)] at h2;exact Ag rfl λh=>As rfl<|Ac (ih (j+1,K1) (by simp only;omega) ⟨by simp only;omega,h2⟩) ⟨AU,AC⟩ GD rfl
 ·have hlt:¬j<ps.length:=by simp at h;omega
  rw [Bo (by omega),N8] at hj2;obtain ⟨e1,e2⟩:=hj2;subst e1;subst e2;exact Az rfl<|As rfl<|Ah ⟨_,iN⟩
theorem SB {met met':List Int} {b:Bool} (hl:ps.length<=3) (hC:Py m T k S n ps met b met') :
  Tq4 174 [.imm (.sl (AA ps)),.fn (.func 177) [] [.ref 5 0,.ref 6 0,.ref 7 0]] (stS m T k S n met) (.ret (.imm (.bool b)) (stS m T k S n met')):=by
 obtain ⟨i,h1,h2⟩:=nI 0 hC;have hI:=bC hl h2;have hb:decide (0<=i)=b:=by rw [Fq,decide_eq_true_iff];exact h1
 refine Ad ttY_ok func174 rfl [8,9]<|Ai rfl<|Aq [] [(1,1),(2,2),(3,3),(4,4),(5,5),(6,6),(7,7)] [] rfl hI W2 rfl rfl<|Ai rfl<|Ah ⟨_,rfl,tV ?_,GD⟩;rw [<- hb]
theorem UE {f n':Int} {met met':List Int} {b:Bool} (h9:f≠9) (hl:ps.length<=3) (hC:Py m T k S n ps met b met'):DY m T k S n (.mk f n' x ps) met b met':=by
 have hI:=SB hl hC;unfold DY;refine Ad ttY_ok func118 rfl [5,6,7,8,9]<|Ai rfl<|Ab rfl (λh=>by exfalso;simp at h;exact h9 h) (λh=>?_);exact As rfl<|Aq [] [(1,1),(2,2),(3,3),(4,4),(5,5),(6,6),(8,7)] [] rfl hI W2 rfl rfl<|Ai rfl<|Ah ⟨_,GU⟩
theorem Wk {P0:Ty->Prop} {m:Md} {T:List (Int×Ty)} {k:Int} {S:List Ty} {n:Int} {θ:Int->Ty} (hP:∀(p:Ty) (met:List Int),P0 p->MetOk θ n p met->∃b met',DY m T k S n p met b met'/\b=decide (n∈CL (A8 θ p))/\(b=false->MetNew θ n met met')) :
  ∀(ps:List Ty) (met:List Int),(∀p∈ps,P0 p)->(∀p∈ps,MetOk θ n p met)->∃b met',Py m T k S n ps met b met'/\b=decide (n∈Dc (Ca θ ps))/\(b=false->MetNew θ n met met')
 | [],met,_,_=>⟨false,met,⟨rfl,rfl⟩,by simp [Ca,Dc],λ_=>MetNew.refl met⟩
 | p::r,met,h0,hm=>by
  obtain ⟨b1,met1,c1,e1,n1⟩:=hP p met (h0 p (by simp)) (hm p (by simp));cases b1 with
  | true =>
   refine ⟨true,met1,?_,?_,λh=>nomatch h⟩
   ·rw [Py];refine ⟨true,met1,c1,?_⟩;rw [if_pos rfl];exact ⟨rfl,rfl⟩
   ·have:n∈CL (A8 θ p):=of_decide_eq_true e1.symm;simp [Ca,Dc,this]
  | false =>
   obtain ⟨b,met',c2,e2,n2⟩:=Wk hP r met1 (λq hq=>h0 q (by simp [hq])) (λq hq=>(hm q (by simp [hq])).new (n1 rfl));have hn:n∉CL (A8 θ p):=of_decide_eq_false e1.symm;refine ⟨b,met',?_,?_,λh=>(n1 rfl).trans (n2 h)⟩
   ·rw [Py];refine ⟨false,met1,c1,?_⟩;rw [if_neg (by simp)];exact c2
   ·rw [e2];simp [Ca,Dc,hn]
theorem Qy (m:Md) (T:List (Int×Ty)) (k:Int) (S:List Ty) (hs:Sol (BG T) θ) (hn:BG T n=none):∀(s:Nat) (t:Ty) (met:List Int),EK (A8 θ t)<=s->Ck t=true->MetOk θ n t met->∃b met',DY m T k S n t met b met'/\b=decide (n∈CL (A8 θ t))/\(b=false->MetNew θ n met met'):=by
 intro s
 induction s with
 | zero=>intro t met h;have:=KP (A8 θ t);omega
 | succ s IH =>
 intro t met hN hw hm;have node:∀(t:Ty) (met:List Int),Cg t≠9->EK (A8 θ t)<=s+1->Ck t=true->MetOk θ n t met->∃b met',DY m T k S n t met b met'/\b=decide (n∈CL (A8 θ t))/\(b=false->MetNew θ n met met'):=λt met h9 hN hw hm=>by
  obtain ⟨b,met',c,e,hnew⟩:=Wk (P0:=λp=>EK (A8 θ p)<=s/\Ck p=true) (m:=m) (T:=T) (k:=k) (S:=S) (λp met hp hmp=>IH p met hp.1 hp.2 hmp) (Ft t) met
   (λp hp=>⟨by have:=dE (θ:=θ) h9 hp;omega,E3 hw p hp⟩) (λp hp=>hm.part h9 hp)
  have hl:=I3 hw;obtain ⟨f,n',x,ps⟩:=t;simp only [Cg] at h9;refine ⟨b,met',UE h9 hl c,?_,hnew⟩;rw [e];have hi:n∈CL (A8 θ (.mk f n' x ps))↔n∈Dc (Ca θ ps):=by simp only [A8,CL,if_neg h9]
  exact decide_eq_decide.2 hi.symm
 by_cases h9:Cg t=9
 ·-- holes,one after the other
  have step:∀(h:Int) (met:List Int),(∀h' met,0<=h'->h'<h->EK (θ h')<=s+1->MetOk θ n (Aw h') met->∃b met',DY m T k S n (Aw h') met b met'/\b=decide (n∈CL (θ h'))/\(b=false->MetNew θ n met met')) ->
    EK (θ h)<=s+1->MetOk θ n (Aw h) met->∃b met',DY m T k S n (Aw h) met b met'/\b=decide (n∈CL (θ h))/\(b=false->MetNew θ n met met'):=λh met hrec hN hm=>by
   by_cases hh:h∈met
   ·exact ⟨false,met,YL m T k S n h met hh,(decide_eq_false (hm.met hh)).symm,λ_=>MetNew.refl met⟩
   by_cases hnn:h=n
   ·subst hnn;refine ⟨true,met++[h],Wl m T k S h met hh hn,?_,λh=>nomatch h⟩;rw [hs.free h hn];simp [Aw,CL]
   have hadd:n∉CL (θ h)->MetNew θ n met (met++[h]):=λhx y hy=>by
    rcases BN.1 hy with hy | hy
    ·exact .inl hy
    ·rw [AP.1 hy];exact .inr hx
   cases hsb:BG T h with
   | none =>
    have hx:n∉CL (θ h):=by rw [hs.free h hsb];simp [Aw,CL];exact λe=>hnn e.symm
    exact ⟨false,met++[h],Ka m T k S n h met hh hnn hsb,(decide_eq_false hx).symm,λ_=>hadd hx⟩
   | some u =>
    have hθ:θ h=A8 θ u:=hs.eq h u hsb;have hwu:=hs.wf h u hsb;have hmu:MetOk θ n u (met++[h]):=λy hy=>hm.next hs hsb y (by
     rcases BN.1 hy with hy | hy
     ·exact Ip _ hy
     ·rw [AP.1 hy];exact QY ..)
    have hrest:∃b met',DY m T k S n u (met++[h]) b met'/\b=decide (n∈CL (A8 θ u))/\(b=false->MetNew θ n (met++[h]) met'):=by
     by_cases hu9:Cg u=9
     ·have hd:=hs.down h u hsb hu9;have eu:=DZ hwu hu9;rw [Hf hu9];rw [eu] at hmu ⊢;have h':=hrec (num u) (met++[h]) hd.1 hd.2 (by rw [hθ,Hf hu9] at hN;exact hN) hmu;exact h'
     ·exact node u (met++[h]) hu9 (by rw [<- hθ];exact hN) hwu hmu
    obtain ⟨b,met',c,e,hnew⟩:=hrest;refine ⟨b,met',Wm m T k S n h met met' u b hh hnn hsb c,by rw [hθ];exact e,λhb=>?_⟩;have hx:n∉CL (θ h):=by
     rw [hθ];subst hb;exact of_decide_eq_false e.symm
    exact (hadd hx).trans (hnew hb)
  have key:∀(j:Nat) (h:Int) (met:List Int),(0<=h->h<j)->EK (θ h)<=s+1->MetOk θ n (Aw h) met->∃b met',DY m T k S n (Aw h) met b met'/\b=decide (n∈CL (θ h))/\(b=false->MetNew θ n met met'):=by
   intro j
   induction j with
   | zero =>
    intro h met hj hN hm;exact step h met (λh' _ h1 h2=>by omega) hN hm
   | succ j ih =>
    intro h met hj hN hm;exact step h met (λh' met h1 h2 h3 h4=>ih h' met (λ_=>by omega) h3 h4) hN hm
  have et:=DZ hw h9;rw [Hf h9] at hN ⊢;rw [et] at hm ⊢;exact key ((num t).toNat+1) (num t) met (λ_=>by omega) hN hm
 ·exact node t met h9 hN hw hm
section
variable {n:Nat} {k:List DI} {a:Act} {σ:List (Nat×Nat)}
def SX:D:=.slc 0 0 1 0
theorem Bx (t:Nat) (h:lk env t=some SX):DGo P n F Q todo env st ids:=by
 intro b cs I μ a w items hd hc;have hv:=hc.env t _ h;generalize a.tmps.getD t undef=v at hv;cases hv;omega
theorem Rh {all:List Oper} {o:Oper} {f:FuncId} {x:V} (hg:o.guard=none) (hc:Ff P o env f das True) (hE:Hy P f (F3 (DN σ) das) st0 (.pan x)) (hb:E8 σ st st0) (hn:Do σ (Bg σ) (IB das)=true) (hq:Pn x) :
  LD P Pn all o env st (EO σ) [] [] d:=by
 intro I μ st2 ids1 a w hag hst hon;refine ⟨λ_=>?_,λhw=>by rw [AH hg] at hw;cases hw⟩;obtain ⟨xs,h1,h2⟩:=hc I μ a w (Bj hon) trivial;have hb':=Gb hag hb;obtain ⟨p1,p2,p3⟩:=G4 hst hb' hn h1;rw [h2];refine (hE I _ w xs p1 p2).mono (λ_ _ h=>h.elim) λchain w' hp=>?_;obtain ⟨v,y,I',r1,r2,r3,r4,r5⟩:=hp;subst r2;have hE':Ext I μ st2 w I' μ [] w':={ imm:=r5.imm,os:=r5.os,tape:=r5.tape,output:=r5.output,size:=r5.size,block:=λb hb ho=>r5.block b hb (λh=>ho (p3 b h)),fresh:=λb hb ⟨i,bi,g,h1,_⟩=>by simp [A1,lk] at h1,old:=λb hb ho=>r5.old b hb (λh=>ho (p3 b h)) }
 exact ⟨v,y,I',r1,hq,r3,r4,hE'⟩
theorem Bd {c:P2} {x:V} (σ:List (Nat×Nat)) (h:Po n env todo=some c) (hob:A4 c.ob) (hE:Hy P c.f (F3 (DN σ) c.das) st0 (.pan x)) (hb:E8 σ st st0) (hn:Do σ (Bg σ) (IB c.das)=true) (hq:Lw Q x)
  (h1:Bm todo (EO σ,[])=some (c.all,c.o,todo')) (hk:G P n F Q todo' (BK c.dst SX env) st ids):G P n F Q todo env st ids:=by
 obtain ⟨_,q2,q3,q4,q5,q6⟩:=Nq (P:=P) h hob;rw [q6] at q4 hk;exact BF (fr:=[]) (wr:=[]) h1 (Rh q2 q3 hE hb hn hq) q4 q5 hk
end
def Dq (m:Md) (T:List (Int×Ty)) (k:Int) (S:List Ty) (a b:Ty) (T':List (Int×Ty)):Prop :=
 Tq4 57 [.ref 1 0,.imm (.agg (dTyc a)),.imm (.agg (dTyc b))] (CP m T k S) (.ret (.imm (.tup [])) (CP m T' k S))
def DU (m:Md) (T:List (Int×Ty)) (k:Int) (S:List Ty) (a b:Ty):Prop :=
 Tq4 57 [.ref 1 0,.imm (.agg (dTyc a)),.imm (.agg (dTyc b))] (CP m T k S) (.pan G0)
theorem tE (m:Md) (T:List (Int×Ty)) (k:Int) (S:List Ty) (hs:Sol (BG T) θ) (a b:Ty) (h:Int) (ha:Top (BG T) a (Aw h)) (hb:Top (BG T) b (Aw h)):Dq m T k S a b T:=by
 unfold Dq;have hA:=Cp m T k S hs a _ ha;have hB:=Cp m T k S hs b _ hb;obtain ⟨a1,a2,a3,a4⟩:=a;obtain ⟨b1,b2,b3,b4⟩:=b;exact Ad ttY_ok func57 rfl [4,5,6,7]<|Ai rfl<|A5 [(1,1),(2,2),(3,3)] [] [1,2,3] (fr:=[]) (nm:=[]) rfl trivial (by simp) hA Ay rfl El rfl rfl rfl<|Ai rfl<|A5 [(1,1),(2,2),(3,3)] [] [1,2,3] (fr:=[]) (nm:=[]) rfl trivial (by simp) hB Ay rfl El rfl rfl rfl<|yg [] rfl (by simp [Am];rfl)<|Ag rfl λh=>yd [.a] rfl (by simp [Am])<|Al rfl λh=>As rfl<|Ah ⟨_,B6⟩
theorem XW (m:Md) (T:List (Int×Ty)) (k:Int) (S:List Ty) (hs:Sol (BG T) θ) (a b u:Ty) (h:Int) (ha:Top (BG T) a (Aw h)) (hb:Top (BG T) b u) (hu:Cg u≠9) (hwu:Ck u=true) (ho:h∉CL (A8 θ u)):Dq m T k S a b (Q5 T h u):=by
 unfold Dq;have hA:=Cp m T k S hs a _ ha;have hB:=Cp m T k S hs b _ hb;have hfree:BG T h=none:=ha.end_ rfl;obtain ⟨o,met',hC,e,_⟩:=Qy m T k S hs hfree _ u [] (BQ _) hwu (λx hx=>nomatch hx);rw [decide_eq_false ho] at e;subst e;unfold DY at hC;have hst:=Kb h u T;obtain ⟨a1,a2,a3,a4⟩:=a;obtain ⟨b1,b2,b3,b4⟩:=b;obtain ⟨u1,u2,u3,u4⟩:=u;simp only [Cg] at hu;have hub:(u1 == 9)=false:=by simpa using hu
 refine Ad ttY_ok func57 rfl [4,5,6,7]<|Ai rfl<|A5 [(1,1),(2,2),(3,3)] [] [1,2,3] (fr:=[]) (nm:=[]) rfl trivial (by simp) hA Ay rfl El rfl rfl rfl<|Ai rfl<|A5 [(1,1),(2,2),(3,3)] [] [1,2,3] (fr:=[]) (nm:=[]) rfl trivial (by simp) hB Ay rfl El rfl rfl rfl<|yg [] rfl (by simp [Am];rfl)<|Ab rfl (λh=>by exfalso;simp [hub] at h) (λh=>?_);refine yd [.a] rfl (by simp [Am])<|Ab rfl (λh=>by exfalso;simp [hub] at h) (λh=>?_)
 exact As rfl<|EF rfl<|Ai rfl<|A5 [(1,1),(2,2),(3,3),(6,4)] [] [1,2,3] (fr:=[]) (nm:=[6,6]) rfl trivial (by simp) hC Kc rfl El rfl rfl rfl<|Ai rfl<|Af rfl FA<|Ai rfl<|F6 ttY_ok rfl rfl rfl (Ev T)<|yg [] rfl (by simp;rfl)<|BR ⟨_,rfl,rfl,rfl,congrArg (λx=>some (some (Blk.map x))) hst,A9⟩
theorem fM (m:Md) (T:List (Int×Ty)) (k:Int) (S:List Ty) (hs:Sol (BG T) θ) (a b u:Ty) (h:Int) (ha:Top (BG T) a (Aw h)) (hb:Top (BG T) b u) (hu:Cg u≠9) (hwu:Ck u=true) (ho:h∈CL (A8 θ u)):DU m T k S a b:=by
 unfold DU;have hA:=Cp m T k S hs a _ ha;have hB:=Cp m T k S hs b _ hb;have hfree:BG T h=none:=ha.end_ rfl;obtain ⟨o,met',hC,e,_⟩:=Qy m T k S hs hfree _ u [] (BQ _) hwu (λx hx=>nomatch hx);rw [decide_eq_true ho] at e;subst e;unfold DY at hC;obtain ⟨a1,a2,a3,a4⟩:=a;obtain ⟨b1,b2,b3,b4⟩:=b;obtain ⟨u1,u2,u3,u4⟩:=u;simp only [Cg] at hu;have hub:(u1 == 9)=false:=by simpa using hu
 refine Ad ttY_ok func57 rfl [4,5,6,7]<|Ai rfl<|A5 [(1,1),(2,2),(3,3)] [] [1,2,3] (fr:=[]) (nm:=[]) rfl trivial (by simp) hA Ay rfl El rfl rfl rfl<|Ai rfl<|A5 [(1,1),(2,2),(3,3)] [] [1,2,3] (fr:=[]) (nm:=[]) rfl trivial (by simp) hB Ay rfl El rfl rfl rfl<|yg [] rfl (by simp [Am];rfl)<|Ab rfl (λh=>by exfalso;simp [hub] at h) (λh=>?_);refine yd [.a] rfl (by simp [Am])<|Ab rfl (λh=>by exfalso;simp [hub] at h) (λh=>?_);exact As rfl<|EF rfl<|Ai rfl<|A5 [(1,1),(2,2),(3,3),(6,4)] [] [1,2,3] (fr:=[]) (nm:=[6,6]) rfl trivial (by simp) hC Kc rfl El rfl rfl rfl<|Ai rfl<|Bd [] rfl (by simp) (IQ _ rfl) trivial rfl rfl rfl<|Bx 99 rfl
theorem xP (m:Md) (T:List (Int×Ty)) (k:Int) (S:List Ty) (hs:Sol (BG T) θ) (a b:Ty) (h g:Int) (ha:Top (BG T) a (Aw h)) (hb:Top (BG T) b (Aw g)) (hg:g<h):Dq m T k S a b (Q5 T h (Aw g)):=by
 unfold Dq;have hA:=Cp m T k S hs a _ ha;have hB:=Cp m T k S hs b _ hb;have hC:=Ka m T k S h g [] (by simp) (by omega) (hb.end_ rfl);unfold DY at hC;have hst:=Kb h (Aw g) T;obtain ⟨a1,a2,a3,a4⟩:=a;obtain ⟨b1,b2,b3,b4⟩:=b;refine Ad ttY_ok func57 rfl [4,5,6,7]<|Ai rfl<|A5 [(1,1),(2,2),(3,3)] [] [1,2,3] (fr:=[]) (nm:=[]) rfl trivial (by simp) hA Ay rfl El rfl rfl rfl<|Ai rfl<|A5 [(1,1),(2,2),(3,3)] [] [1,2,3] (fr:=[]) (nm:=[]) rfl trivial (by simp) hB Ay rfl El rfl rfl rfl<|yg [] rfl (by simp [Am];rfl)<|Ab rfl (λh'=>by exfalso;simp at h';omega) (λh'=>?_);refine yd [.a] rfl (by simp [Am])<|Ab rfl (λh'=>by exfalso;simp at h';omega) (λh'=>?_)
 exact As rfl<|EF rfl<|Ai rfl<|A5 [(1,1),(2,2),(3,3),(6,4)] [] [1,2,3] (fr:=[]) (nm:=[6,6]) rfl trivial (by simp) hC Kc rfl El rfl rfl rfl<|Ai rfl<|Af rfl FA<|Ai rfl<|F6 ttY_ok rfl rfl rfl (Ev T)<|yg [] rfl (by simp;rfl)<|BR ⟨_,rfl,rfl,rfl,congrArg (λx=>some (some (Blk.map x))) hst,A9⟩
theorem tC (m:Md) (T:List (Int×Ty)) (k:Int) (S:List Ty) (hs:Sol (BG T) θ) (a b:Ty) (h g:Int) (ha:Top (BG T) a (Aw h)) (hb:Top (BG T) b (Aw g)) (hg:h<g):Dq m T k S a b (Q5 T g (Aw h)):=by
 unfold Dq;have hA:=Cp m T k S hs a _ ha;have hB:=Cp m T k S hs b _ hb;have hC:=Ka m T k S g h [] (by simp) (by omega) (ha.end_ rfl);unfold DY at hC;have hst:=Kb g (Aw h) T;obtain ⟨a1,a2,a3,a4⟩:=a;obtain ⟨b1,b2,b3,b4⟩:=b;refine Ad ttY_ok func57 rfl [4,5,6,7]<|Ai rfl<|A5 [(1,1),(2,2),(3,3)] [] [1,2,3] (fr:=[]) (nm:=[]) rfl trivial (by simp) hA Ay rfl El rfl rfl rfl<|Ai rfl<|A5 [(1,1),(2,2),(3,3)] [] [1,2,3] (fr:=[]) (nm:=[]) rfl trivial (by simp) hB Ay rfl El rfl rfl rfl<|yg [] rfl (by simp [Am];rfl)<|Ab rfl (λh'=>?_) (λh'=>by exfalso;simp at h';omega);refine yd [.a] rfl (by simp [Am])<|Ab rfl (λh'=>by exfalso;simp at h';omega) (λh'=>?_)
 exact As rfl<|EF rfl<|Ai rfl<|A5 [(1,1),(2,2),(3,3),(6,4)] [] [1,2,3] (fr:=[]) (nm:=[6,6]) rfl trivial (by simp) hC Kc rfl El rfl rfl rfl<|Ai rfl<|Af rfl FA<|Ai rfl<|F6 ttY_ok rfl rfl rfl (Ev T)<|yg [] rfl (by simp;rfl)<|BR ⟨_,rfl,rfl,rfl,congrArg (λx=>some (some (Blk.map x))) hst,A9⟩
theorem tD (m:Md) (T T':List (Int×Ty)) (k:Int) (S:List Ty) (hs:Sol (BG T) θ) (a b u:Ty) (h:Int) (ha:Top (BG T) a u) (hb:Top (BG T) b (Aw h)) (hu:Cg u≠9) (hE:Dq m T k S (Aw h) u T'):Dq m T k S a b T':=by
 unfold Dq at hE ⊢;have hA:=Cp m T k S hs a _ ha;have hB:=Cp m T k S hs b _ hb;obtain ⟨a1,a2,a3,a4⟩:=a;obtain ⟨b1,b2,b3,b4⟩:=b;obtain ⟨u1,u2,u3,u4⟩:=u;simp only [Cg] at hu;have hub:(u1 == 9)=false:=by simpa using hu
 refine Ad ttY_ok func57 rfl [4,5,6,7]<|Ai rfl<|A5 [(1,1),(2,2),(3,3)] [] [1,2,3] (fr:=[]) (nm:=[]) rfl trivial (by simp) hA Ay rfl El rfl rfl rfl<|Ai rfl<|A5 [(1,1),(2,2),(3,3)] [] [1,2,3] (fr:=[]) (nm:=[]) rfl trivial (by simp) hB Ay rfl El rfl rfl rfl<|yg [] rfl (by simp [Am];rfl)<|Ab rfl (λh'=>by exfalso;simp [hub] at h') (λh'=>?_);refine As rfl<|Ab rfl (λh'=>by exfalso;simp [hub] at h') (λh'=>?_);exact yd [.a] rfl (by simp)<|Aq [] [(1,1),(2,2),(3,3)] [] rfl hE Ay rfl rfl<|Ai rfl<|BR ⟨_,B6⟩
theorem lE (m:Md) (T:List (Int×Ty)) (k:Int) (S:List Ty) (hs:Sol (BG T) θ) (a b u:Ty) (h:Int) (ha:Top (BG T) a u) (hb:Top (BG T) b (Aw h)) (hu:Cg u≠9) (hE:DU m T k S (Aw h) u):DU m T k S a b:=by
 unfold DU at hE ⊢;have hA:=Cp m T k S hs a _ ha;have hB:=Cp m T k S hs b _ hb;obtain ⟨a1,a2,a3,a4⟩:=a;obtain ⟨b1,b2,b3,b4⟩:=b;obtain ⟨u1,u2,u3,u4⟩:=u;simp only [Cg] at hu;have hub:(u1 == 9)=false:=by simpa using hu
 refine Ad ttY_ok func57 rfl [4,5,6,7]<|Ai rfl<|A5 [(1,1),(2,2),(3,3)] [] [1,2,3] (fr:=[]) (nm:=[]) rfl trivial (by simp) hA Ay rfl El rfl rfl rfl<|Ai rfl<|A5 [(1,1),(2,2),(3,3)] [] [1,2,3] (fr:=[]) (nm:=[]) rfl trivial (by simp) hB Ay rfl El rfl rfl rfl<|yg [] rfl (by simp [Am];rfl)<|Ab rfl (λh'=>by exfalso;simp [hub] at h') (λh'=>?_);refine As rfl<|Ab rfl (λh'=>by exfalso;simp [hub] at h') (λh'=>?_);exact yd [.a] rfl (by simp)<|Bd [(1,1),(2,2),(3,3)] rfl (by simp) hE Ay rfl rfl rfl<|Bx 114 rfl
theorem bW (m:Md) (T:List (Int×Ty)) (k:Int) (S:List Ty) (hs:Sol (BG T) θ) (a b u v:Ty) (ha:Top (BG T) a u) (hb:Top (BG T) b v) (hu:Cg u≠9) (hv:Cg v≠9) (hd:¬HE u v):DU m T k S a b:=by
 unfold DU;have hA:=Cp m T k S hs a _ ha;have hB:=Cp m T k S hs b _ hb;obtain ⟨a1,a2,a3,a4⟩:=a;obtain ⟨b1,b2,b3,b4⟩:=b;obtain ⟨u1,u2,u3,u4⟩:=u;obtain ⟨v1,v2,v3,v4⟩:=v;simp only [Cg] at hu hv;simp only [HE,Cg,num,cX,Ft] at hd;have hub:(u1 == 9)=false:=by simpa using hu
 have hvb:(v1 == 9)=false:=by simpa using hv
 refine Ad ttY_ok func57 rfl [4,5,6,7]<|Ai rfl<|A5 [(1,1),(2,2),(3,3)] [] [1,2,3] (fr:=[]) (nm:=[]) rfl trivial (by simp) hA Ay rfl El rfl rfl rfl<|Ai rfl<|A5 [(1,1),(2,2),(3,3)] [] [1,2,3] (fr:=[]) (nm:=[]) rfl trivial (by simp) hB Ay rfl El rfl rfl rfl<|yg [] rfl (by simp [Am];rfl)<|Ab rfl (λh'=>by exfalso;simp [hub] at h') (λh'=>?_);refine As rfl<|Ab rfl (λh'=>by exfalso;simp [hub] at h') (λh'=>?_);refine As rfl<|Ab rfl (λh'=>by exfalso;simp [hvb] at h') (λh'=>?_);refine Sn rfl<|Bd [] rfl (by simp) (IQ _ (by
  show (bif bif bif u1 == v1 then u2 == v2 else false then u3 == v3 else false then ((AA u4).length:Int) == (AA v4).length else false)=false;rw [Bool.eq_false_iff];intro hc;apply hd;simp at hc;obtain ⟨⟨⟨c1,c2⟩,c3⟩,c4⟩:=hc;exact ⟨c1,c2,c3,by omega⟩)) trivial rfl rfl rfl ?_
 exact Bx 58 rfl
def mC (m:Md) (k:Int) (S:List Ty):List Ty->List Ty->List (Int×Ty)->List (Int×Ty)->Prop
 | a::r,b::q,T,T'=>∃T1,Dq m T k S a b T1/\mC m k S r q T1 T'
 | _,_,T,T'=>T'=T
theorem lF (m:Md) (T T':List (Int×Ty)) (k:Int) (S:List Ty) (hs:Sol (BG T) θ) (a b u v:Ty) (ha:Top (BG T) a u) (hb:Top (BG T) b v) (hu:Cg u≠9) (hv:Cg v≠9) (hd:HE u v) (hw:Ck u=true) (hC:mC m k S (Ft u) (Ft v) T T'):Dq m T k S a b T':=by
 unfold Dq;have hA:=Cp m T k S hs a _ ha;have hB:=Cp m T k S hs b _ hb;have hul:=I3 hw;obtain ⟨a1,a2,a3,a4⟩:=a;obtain ⟨b1,b2,b3,b4⟩:=b;obtain ⟨u1,u2,u3,ps⟩:=u;obtain ⟨v1,v2,v3,qs⟩:=v;simp only [Cg] at hu hv;simp only [HE,Cg,num,cX,Ft] at hd hul hC;obtain ⟨rfl,rfl,rfl,hl⟩:=hd;have hub:(u1 == 9)=false:=by simpa using hu
 refine Ad ttY_ok func57 rfl [4,5,6,7]<|Ai rfl<|A5 [(1,1),(2,2),(3,3)] [] [1,2,3] (fr:=[]) (nm:=[]) rfl trivial (by simp) hA Ay rfl El rfl rfl rfl<|Ai rfl<|A5 [(1,1),(2,2),(3,3)] [] [1,2,3] (fr:=[]) (nm:=[]) rfl trivial (by simp) hB Ay rfl El rfl rfl rfl<|yg [] rfl (by simp [Am];rfl)<|Ab rfl (λh'=>by exfalso;simp [hub] at h') (λh'=>?_);refine As rfl<|Ab rfl (λh'=>by exfalso;simp [hub] at h') (λh'=>?_);refine As rfl<|Ab rfl (λh'=>by exfalso;simp [hub] at h') (λh'=>?_);refine Sn rfl ?_;have hwt:Tq3 117 [.bool (bif bif bif u1 == u1 then u2 == u2 else false then u3 == u3 else false then ((AA ps).length:Int) == (AA qs).length else false)] (.tup []):=by
  rw [show (bif bif bif u1 == u1 then u2 == u2 else false then u3 == u3 else false then ((AA ps).length:Int) == (AA qs).length else false)=true by simp;omega];exact FA
 refine Af rfl hwt<|Ai rfl<|Ak (λz:Nat×List (Int×Ty)=>[(62,.imm (.int .i64 z.1)),(61,.imm (.int .i64 ps.length)),(0,.ref 1 0),(4,.ref 4 0),(5,.ref 5 0)]) (λz=>(4,some (.immb 25 4 (dTyc (.mk u1 u2 u3 ps))))::(5,some (.immb 25 4 (dTyc (.mk u1 u2 u3 qs))))::CP m z.2 k S) [6,7] (λz=>ps.length-z.1)
  (λz=>z.1<=ps.length/\mC m k S (ps.drop z.1) (qs.drop z.1) z.2 T') (0,T)
  ⟨AJ _,hC⟩ ⟨rfl,BB (by simp),AC⟩ B6 rfl λz hz ih=>?_
 clear hC;obtain ⟨j,K⟩:=z;obtain ⟨hj1,hj2⟩:=hz;simp only at hj1 hj2 ih;refine As rfl<|Ab rfl (λh'=>?_) (λh'=>?_)
 ·have hlt:j<ps.length:=by simp at h';omega
  obtain ⟨p,hp⟩:=Ao hlt;obtain ⟨q,hq⟩:=Ao (l:=qs) (i:=j) (by omega);have hgp:=AE hp;have hgq:=AE hq;rw [Av hp,Av hq,mC] at hj2;obtain ⟨K1,hE,hj2⟩:=hj2;unfold Dq at hE;obtain ⟨p1,p2,p3,p4⟩:=p;obtain ⟨q1,q2,q3,q4⟩:=q;exact As rfl<|Sl rfl hgp<|Ai rfl<|Sl rfl hgq<|Ai rfl<|Aq [] [(1,1),(2,2),(3,3)] [] rfl hE Ay rfl rfl<|yg [] rfl (by simp;rfl)<|Ac (ih (j+1,K1) (by simp only;omega) ⟨by simp only;omega,hj2⟩) ⟨AU,Cb⟩ B6 rfl
 ·have hlt:¬j<ps.length:=by simp at h';omega
  rw [Bo (by omega)] at hj2;simp only [mC] at hj2;subst hj2;exact Az rfl<|As rfl<|BR ⟨_,B6⟩
def mB (m:Md) (k:Int) (S:List Ty):List Ty->List Ty->List (Int×Ty)->Prop
 | a::r,b::q,T=>DU m T k S a b\/∃T1,Dq m T k S a b T1/\mB m k S r q T1
 | _,_,_=>False
theorem bV (m:Md) (T:List (Int×Ty)) (k:Int) (S:List Ty) (hs:Sol (BG T) θ) (a b u v:Ty) (ha:Top (BG T) a u) (hb:Top (BG T) b v) (hu:Cg u≠9) (hv:Cg v≠9) (hd:HE u v) (hw:Ck u=true) (hC:mB m k S (Ft u) (Ft v) T):DU m T k S a b:=by
 unfold DU;have hA:=Cp m T k S hs a _ ha;have hB:=Cp m T k S hs b _ hb;have hul:=I3 hw;obtain ⟨a1,a2,a3,a4⟩:=a;obtain ⟨b1,b2,b3,b4⟩:=b;obtain ⟨u1,u2,u3,ps⟩:=u;obtain ⟨v1,v2,v3,qs⟩:=v;simp only [Cg] at hu hv;simp only [HE,Cg,num,cX,Ft] at hd hul hC;obtain ⟨rfl,rfl,rfl,hl⟩:=hd;have hub:(u1 == 9)=false:=by simpa using hu
 refine Ad ttY_ok func57 rfl [4,5,6,7]<|Ai rfl<|A5 [(1,1),(2,2),(3,3)] [] [1,2,3] (fr:=[]) (nm:=[]) rfl trivial (by simp) hA Ay rfl El rfl rfl rfl<|Ai rfl<|A5 [(1,1),(2,2),(3,3)] [] [1,2,3] (fr:=[]) (nm:=[]) rfl trivial (by simp) hB Ay rfl El rfl rfl rfl<|yg [] rfl (by simp [Am];rfl)<|Ab rfl (λh'=>by exfalso;simp [hub] at h') (λh'=>?_);refine As rfl<|Ab rfl (λh'=>by exfalso;simp [hub] at h') (λh'=>?_);refine As rfl<|Ab rfl (λh'=>by exfalso;simp [hub] at h') (λh'=>?_);refine Sn rfl ?_;have hwt:Tq3 117 [.bool (bif bif bif u1 == u1 then u2 == u2 else false then u3 == u3 else false then ((AA ps).length:Int) == (AA qs).length else false)] (.tup []):=by
  rw [show (bif bif bif u1 == u1 then u2 == u2 else false then u3 == u3 else false then ((AA ps).length:Int) == (AA qs).length else false)=true by simp;omega];exact FA
 refine Af rfl hwt<|Ai rfl<|Ak (λz:Nat×List (Int×Ty)=>[(62,.imm (.int .i64 z.1)),(61,.imm (.int .i64 ps.length)),(0,.ref 1 0),(4,.ref 4 0),(5,.ref 5 0)]) (λz=>(4,some (.immb 25 4 (dTyc (.mk u1 u2 u3 ps))))::(5,some (.immb 25 4 (dTyc (.mk u1 u2 u3 qs))))::CP m z.2 k S) [6,7] (λz=>ps.length-z.1)
  (λz=>z.1<=ps.length/\mB m k S (ps.drop z.1) (qs.drop z.1) z.2) (0,T)
  ⟨AJ _,hC⟩ ⟨rfl,BB (by simp),AC⟩ B6 rfl λz hz ih=>?_
 clear hC;obtain ⟨j,K⟩:=z;obtain ⟨hj1,hj2⟩:=hz;simp only at hj1 hj2 ih;refine As rfl<|Ab rfl (λh'=>?_) (λh'=>?_)
 ·have hlt:j<ps.length:=by simp at h';omega
  obtain ⟨p,hp⟩:=Ao hlt;obtain ⟨q,hq⟩:=Ao (l:=qs) (i:=j) (by omega);have hgp:=AE hp;have hgq:=AE hq;rw [Av hp,Av hq,mB] at hj2;obtain ⟨p1,p2,p3,p4⟩:=p;obtain ⟨q1,q2,q3,q4⟩:=q;refine As rfl<|Sl rfl hgp<|Ai rfl<|Sl rfl hgq<|Ai rfl ?_;rcases hj2 with hE | ⟨K1,hE,hj2⟩
  ·unfold DU at hE;exact Bd [(1,1),(2,2),(3,3)] rfl (by simp) hE Ay rfl rfl rfl<|ND 1 rfl (by simp;rfl)<|Bx 76 rfl
  ·unfold Dq at hE;exact Aq [] [(1,1),(2,2),(3,3)] [] rfl hE Ay rfl rfl<|yg [] rfl (by simp;rfl)<|Ac (ih (j+1,K1) (by simp only;omega) ⟨by simp only;omega,hj2⟩) ⟨AU,Cb⟩ B6 rfl
 ·have hlt:¬j<ps.length:=by simp at h';omega
  rw [Bo (by omega)] at hj2;simp only [mB] at hj2
def zdj (m:Md) (T:List (Int×Ty)) (k:Int) (S:List Ty) (a b:Ty):Option Sb->Prop
 | some σ'=>∃T',Dq m T k S a b T'/\BG T'=σ'
 | none=>DU m T k S a b
def EqsR (m:Md) (T:List (Int×Ty)) (k:Int) (S:List Ty) (xs ys:List Ty):Option Sb->Prop
 | some σ'=>∃T',mC m k S xs ys T T'/\BG T'=σ'
 | none=>mB m k S xs ys T
theorem Us {m:Md} {k:Int} {S:List Ty} {H n:Nat} (hE:∀(T:List (Int×Ty)) (a b:Ty) (r:Option Sb),U7 n (BG T) a b r->(∃θ,Sol (BG T) θ)->Dom H (BG T)->Ck a=true->Ck b=true->inB H a->inB H b->zdj m T k S a b r) :
  ∀(xs ys:List Ty) (T:List (Int×Ty)) (r:Option Sb),Sj (U7 n) (BG T) xs ys r->(∃θ,Sol (BG T) θ)->Dom H (BG T)->(∀x∈xs,Ck x=true/\inB H x)->(∀y∈ys,Ck y=true/\inB H y)->EqsR m T k S xs ys r
 | [],[],T,r,h,_,_,_,_=>by
  have e:r=some (BG T):=h;subst e;exact ⟨T,rfl,rfl⟩
 | [],_::_,_,_,h,_,_,_,_=>h.elim
 | _::_,[],_,_,h,_,_,_,_=>h.elim
 | x::xs,y::ys,T,r,h,hs,hd,hx,hy=>by
  rcases h with ⟨h1,rfl⟩ | ⟨σ1,h1,h2⟩
  ·exact .inl (hE T x y none h1 hs hd (hx x (by simp)).1 (hy y (by simp)).1 (hx x (by simp)).2 (hy y (by simp)).2)
  ·obtain ⟨T1,c1,e1⟩:=hE T x y (some σ1) h1 hs hd (hx x (by simp)).1 (hy y (by simp)).1 (hx x (by simp)).2 (hy y (by simp)).2;obtain ⟨θ,hθ⟩:=hs;obtain ⟨g1,g2,_,_⟩:=RC h1 hθ hd (hx x (by simp)).1 (hy y (by simp)).1 (hx x (by simp)).2 (hy y (by simp)).2;subst e1;have ih:=Us hE xs ys T1 r h2 g1 g2 (λz hz=>hx z (by simp [hz])) (λz hz=>hy z (by simp [hz]));cases r with
   | none=>exact .inr ⟨T1,c1,ih⟩
   | some σ' =>
    obtain ⟨T',c2,e2⟩:=ih;exact ⟨T',⟨T1,c1,c2⟩,e2⟩
theorem fN (m:Md) (k:Int) (S:List Ty):∀(n:Nat) (T:List (Int×Ty)) (a b:Ty) (r:Option Sb),U7 n (BG T) a b r->(∃θ,Sol (BG T) θ)->Dom H (BG T)->Ck a=true->Ck b=true->inB H a->inB H b->zdj m T k S a b r:=by
 intro n
 induction n with
 | zero=>intro T a b r h;exact h.elim
 | succ n IH =>
 intro T a b r hE hs hd wa wb ia ib;obtain ⟨u,v,hu,hv,hT⟩:=hE;obtain ⟨θ,hθ⟩:=hs;have wu:=hu.wf hθ wa;have wv:=hv.wf hθ wb;have iu:=hu.inB hd ia;have iv:=hv.inB hd ib;by_cases u9:Cg u=9
 ·have eu:=DZ wu u9;by_cases v9:Cg v=9
  ·have ev:=DZ wv v9;rw [eu] at hu;rw [ev] at hv;by_cases e:num u=num v
   ·have hr:r=some (BG T):=by simpa [D0,u9,v9,e] using hT
    subst hr;rw [e] at hu;exact ⟨T,tE m T k S hθ a b (num v) hu hv,rfl⟩
   ·have hr:r=some (Ea (BG T) (max (num u) (num v)) (Aw (min (num u) (num v)))):=by simpa [D0,u9,v9,e] using hT
    subst hr;rcases Int.lt_or_gt_of_ne e with hl | hl
    ·rw [ZM (by omega),ZK (by omega)];exact ⟨_,tC m T k S hθ a b (num u) (num v) hu hv hl,Jm _ _ _⟩
    ·rw [ZL (by omega),ZJ (by omega)];exact ⟨_,xP m T k S hθ a b (num u) (num v) hu hv hl,Jm _ _ _⟩
  ·rw [eu] at hu;by_cases o:uN (BG T) (num u) v
   ·have hr:r=none:=by simpa [D0,u9,v9,o] using hT
    subst hr;exact fM m T k S hθ a b v (num u) hu hv v9 wv (hθ.occ.1 o)
   ·have hr:r=some (Ea (BG T) (num u) v):=by simpa [D0,u9,v9,o] using hT
    subst hr;exact ⟨_,XW m T k S hθ a b v (num u) hu hv v9 wv (λh=>o (hθ.occ.2 h)),Jm _ _ _⟩
 ·by_cases v9:Cg v=9
  ·have ev:=DZ wv v9;rw [ev] at hv;have hvv:Top (BG T) (Aw (num v)) (Aw (num v)):=Wg hv;have huu:=Wg hu;by_cases o:uN (BG T) (num v) u
   ·have hr:r=none:=by simpa [D0,u9,v9,o] using hT
    subst hr;exact lE m T k S hθ a b u (num v) hu hv u9 (fM m T k S hθ _ _ u (num v) hvv huu u9 wu (hθ.occ.1 o))
   ·have hr:r=some (Ea (BG T) (num v) u):=by simpa [D0,u9,v9,o] using hT
    subst hr;exact ⟨_,tD m T _ k S hθ a b u (num v) hu hv u9 (XW m T k S hθ _ _ u (num v) hvv huu u9 wu (λh=>o (hθ.occ.2 h))),Jm _ _ _⟩
  ·by_cases sh:HE u v
   ·have hr:Sj (U7 n) (BG T) (Ft u) (Ft v) r:=by simpa [D0,u9,v9,sh] using hT
    have hc:=Us IH (Ft u) (Ft v) T r hr ⟨θ,hθ⟩ hd (λp hp=>⟨E3 wu p hp,iu.part u9 hp⟩) (λp hp=>⟨E3 wv p hp,iv.part v9 hp⟩);cases r with
    | none=>exact bV m T k S hθ a b u v hu hv u9 v9 sh wu hc
    | some σ' =>
     obtain ⟨T',c,e⟩:=hc;exact ⟨T',lF m T T' k S hθ a b u v hu hv u9 v9 sh wu c,e⟩
   ·have hr:r=none:=by simpa [D0,u9,v9,sh] using hT
    subst hr;exact bW m T k S hθ a b u v hu hv u9 v9 sh
def uW:TT:=[
 (3,⟨.int .i64,false,1,8,[.imm (.int .i64 0)]⟩),
 (4,⟨.bool,false,1,1,[.imm (.bool false)]⟩),
 (25,⟨.struct [(0,22),(1,3),(2,9),(3,23)],true,4,56,[.imm (.int .i64 0),.imm (.int .i64 0),.imm (.str []),.nils]⟩),
 (23,⟨.sl 25,false,1,24,[.nils]⟩),
 (105,⟨.struct [(0,23),(1,23)],true,2,48,[.nils,.nils]⟩),
 (9,⟨.str,false,1,16,[.imm (.str [])]⟩),
 (45,⟨.int .i64,false,1,8,[.imm (.int .i64 0)]⟩),
 (22,⟨.int .i64,false,1,8,[.imm (.int .i64 0)]⟩),
 (43,⟨.struct [(0,9),(1,40),(2,41)],true,3,64,[.imm (.str []),.nils,.nils]⟩),
 (44,⟨.sl 84,false,1,24,[.nils]⟩),
 (130,⟨.sl 3,false,1,24,[.nils]⟩),
 (49,⟨.struct [(0,45),(1,3),(2,9),(3,46),(4,47)],true,5,80,[.imm (.int .i64 0),.imm (.int .i64 0),.imm (.str []),.nils,.nils]⟩),
 (46,⟨.sl 49,false,1,24,[.nils]⟩),
 (40,⟨.sl 113,false,1,24,[.nils]⟩),
 (41,⟨.sl 71,false,1,24,[.nils]⟩),
 (111,⟨.sl 178,false,1,24,[.nils]⟩),
 (71,⟨.struct [(0,9),(1,9),(2,25),(6,25),(10,49)],true,15,224,[.imm (.str []),.imm (.str []),.imm (.int .i64 0),.imm (.int .i64 0),.imm (.str []),.nils,.imm (.int .i64 0),.imm (.int .i64 0),.imm (.str []),.nils,.imm (.int .i64 0),.imm (.int .i64 0),.imm (.str []),.nils,.nils]⟩),
 (178,⟨.struct [(0,9),(1,23)],true,2,40,[.imm (.str []),.nils]⟩),
 (113,⟨.struct [(0,9),(1,111)],true,2,40,[.imm (.str []),.nils]⟩),
 (84,⟨.struct [(0,9),(1,25)],true,5,72,[.imm (.str []),.imm (.int .i64 0),.imm (.int .i64 0),.imm (.str []),.nils]⟩),
 (47,⟨.sl 182,false,1,24,[.nils]⟩),
 (180,⟨.int .i64,false,1,8,[.imm (.int .i64 0)]⟩),
 (182,⟨.struct [(0,180),(1,3),(2,9),(3,47)],true,4,56,[.imm (.int .i64 0),.imm (.int .i64 0),.imm (.str []),.nils]⟩),
 (58,⟨.sl 45,false,1,24,[.nils]⟩),
 (73,⟨.sl 9,false,1,24,[.nils]⟩),
 (64,⟨.int .i64,false,1,8,[.imm (.int .i64 0)]⟩)]
theorem Du:TTok prog uW:=.of_eq (l:=[3,4,25,23,105,9,45,22,43,44,130,49,46,40,41,111,71,178,113,84,47,180,182,58,73,64]) (by kernel_rfl)
section
variable {n:Nat} {k:List DI}
theorem rd (path:List Pt) (h:run uW n 300 path todo env st ids [] = .at k env' st' ids' ob) (hob:A4 ob) (hd:Tq1 n F Q k env' st' ids'):Tq2 n F Q todo env st ids:=KC Du Fi 300 path h hob hd
theorem E5 (h:run uW n 300 [] todo env st ids [] = .at k env' st' ids' ob) (hd:Tq1 n F Q k env' st' ids') (hob:A4 ob:=by simp):Tq2 n F Q todo env st ids:=rd [] h hob hd
theorem zay (h:run uW n 300 [] todo env st ids [] = .at k env' st' ids' ob) (hd:Tq1 n F Q k env' st' ids') (hob:A4 ob:=by simp [Am]):Tq2 n F Q todo env st ids:=rd [] h hob hd
theorem rg (path:List Pt) (h:run uW n 300 path todo env st ids [] = .at k env' st' ids' ob) (hob:A4 ob) (hd:Tq1 n F Q k env' st' ids'):Tq1 n F Q todo env st ids:=JL Du Fi 300 path h hob hd
theorem EL (h:run uW n 300 [] todo env st ids [] = .at k env' st' ids' ob) (hd:Tq1 n F Q k env' st' ids') (hob:A4 ob:=by simp):Tq1 n F Q todo env st ids:=rg [] h hob hd
theorem zax (h:run uW n 300 [] todo env st ids [] = .at k env' st' ids' ob) (hd:Tq1 n F Q k env' st' ids') (hob:A4 ob:=by simp [Am]):Tq1 n F Q todo env st ids:=rg [] h hob hd
theorem ri {m:Int} {t:Nat} (h:FO uW n env todo=some ⟨es,m,sz,e,g,ob,some t,todo'⟩) (hc:Am g->0<=m/\es[m.toNat]?=some c/\c.length=sz) (hob:A4 ob) (hk:Tq1 n F Q todo' ((t,gD g (.ip e c 0))::env) st ids):Tq1 n F Q todo env st ids:=Ht Du h hc hob hk
theorem zA {i:Nat} {t:Nat} (h:FO uW n env todo=some ⟨es,(i:Int),sz,e,g,ob,some t,todo'⟩) (hg:es[i]?=some c) (hk:Tq1 n F Q todo' ((t,gD g (.ip e c 0))::env) st ids) (hl:c.length=sz:=by simp) (hob:A4 ob:=by simp):Tq1 n F Q todo env st ids:=ri h (λ_=>⟨by omega,by simpa using hg,hl⟩) hob hk
theorem rizc {i:Nat} {t:Nat} (h:FO uW n env todo=some ⟨es,(i:Int),sz,e,g,ob,some t,todo'⟩) (hg:es[i]?=some c) (hk:Tq1 n F Q todo' ((t,gD g (.ip e c 0))::env) st ids) (hl:c.length=sz:=by simp) (hob:A4 ob:=by simp [Am]):Tq1 n F Q todo env st ids:=ri h (λ_=>⟨by omega,by simpa using hg,hl⟩) hob hk
end
def cC (L S:List Ty):List V:=[.sl (AA L),.sl (AA S)]
@[simp] theorem dSt_length (L S:List Ty):(cC L S).length=2:=rfl
theorem tM (L:List Ty) (i:Nat) (t:Ty):AA (L.set i t)=(AA L).set i (dTyc t):=by simp [Dg,List.map_set]
theorem xD (L S:List Ty) (hs:Sol (Mr L) θ) (hd:Dom L.length (Mr L)) (t u:Ty) (ht:Top (Mr L) t u) (hi:inB L.length t):Tq3 123 [.agg (cC L S),.agg (dTyc t)] (.agg (dTyc u)):=by
 obtain ⟨a1,a2,a3,a4⟩:=t;refine Ad Du func123 rfl [1,2,3,4]<|EL rfl<|Ak (λx:Ty=>[(2,.ref 1 0),(3,.ref 2 0),(4,.ref 3 0)]) (λx=>[(1,some (.immb 105 2 (cC L S))),(2,some (.immb 25 4 (dTyc x))),(3,some (.cells 25 4 [.imm (.int .i64 0),.imm (.int .i64 0),.imm (.str []),.nils]))]) [4] (λx=>if Cg x=9/\Mr L (num x)≠none then (num x).toNat+1 else 0)
  (λx=>Top (Mr L) x u/\inB L.length x) (.mk a1 a2 a3 a4) ⟨ht,hi⟩ AC AC rfl λx hx ih=>?_
 obtain ⟨hx1,hx2⟩:=hx;clear ht hi;obtain ⟨f,m,y,ps⟩:=x;by_cases e9:f=9
 ·subst e9;have hm:=hx2.num rfl;simp only [num] at hm;obtain ⟨v,hv⟩:=Ao (l:=L) (i:=m.toNat) (by omega);have hg:=AE hv;have hsb:=dI hv;rw [show ((m.toNat:Nat):Int)=m by omega] at hsb;obtain ⟨v1,v2,v3,v4⟩:=v;refine E5 rfl<|ri rfl (c:=dTyc (.mk v1 v2 v3 v4)) (λ_=>⟨hm.1,by simpa using hg,by simp⟩) (by simp [Am])<|zax rfl ?_;by_cases ev:v1=0
  ·subst ev;have hsb:Mr L m=none:=hsb.trans (if_pos rfl);refine Ag rfl λh=>Az rfl ?_;have hu:Ty.mk 9 m y ps=u:=by
    cases hx1 with
    | stop _=>rfl
    | step _ h2 _=>rw [show num (Ty.mk 9 m y ps)=m from rfl,hsb] at h2;cases h2
   subst hu;exact E5 rfl<|Aa rfl rfl rfl
  ·have hsb:Mr L m=some (.mk v1 v2 v3 v4):=hsb.trans (if_neg ev);refine Ab rfl (λh=>?_) (λh=>by exfalso;simp at h;exact ev h);clear h;refine E5 rfl<|ri rfl (c:=dTyc (.mk v1 v2 v3 v4)) (λ_=>⟨hm.1,by simpa using hg,by simp⟩) (by simp)<|EL rfl ?_;have hx3:Top (Mr L) (.mk v1 v2 v3 v4) u:=by
    cases hx1 with
    | stop h=>have:=h rfl;rw [show num (Ty.mk 9 m y ps)=m from rfl,hsb] at this;cases this
    | step _ h2 h3=>rw [show num (Ty.mk 9 m y ps)=m from rfl,hsb] at h2;cases h2;exact h3
   refine Ac (ih (.mk v1 v2 v3 v4) ?_ ⟨hx3,(hd m _ hsb).2⟩) AC AC rfl;rw [if_pos (show Cg (Ty.mk 9 m y ps)=9/\Mr L (num (Ty.mk 9 m y ps))≠none from ⟨rfl,by rw [show num (Ty.mk 9 m y ps)=m from rfl,hsb];simp⟩)]
   split
   ·rename_i h;have:=hs.down m _ hsb h.1;simp only [num] at *;omega
   ·omega
 ·refine E5 rfl<|ri rfl (c:=dTyc Hi) (λh=>absurd (of_decide_eq_true (show decide (f=9)=true from h)) e9) (by simp [Am])<|zax rfl<|Ab rfl (λh=>by exfalso;simp [e9] at h) (λh=>?_);refine Az rfl ?_;have hu:Ty.mk f m y ps=u:=by
   cases hx1 with
   | stop _=>rfl
   | step h1 _ _=>exact absurd h1 e9
  subst hu;exact E5 rfl<|Aa rfl rfl rfl
theorem gI (n:Int):Tq3 48 [.int .i64 n] (.agg (dTyc (Aw n))):=by
 exact Ad Du func48 rfl [1,2]<|EL rfl<|Aa rfl rfl rfl
structure StL (L:List Ty):Prop where
 sol:∃θ,Sol (Mr L) θ
 dom:Dom L.length (Mr L)
 len:L.length<=1000000
structure TypL (L:List Ty) (t:Ty):Prop where
 wf:Ck t=true
 inb:inB L.length t
theorem TypL.part (h:TypL L t) (h9:Cg t≠9) (hp:p∈Ft t):TypL L p:=⟨E3 h.wf p hp,h.inb.part h9 hp⟩
theorem StL.of {k:Nat} {b:Ty} {σ':Sb} (hL:StL L) (ha:TypL L a) (hb:TypL L b) (h:U7 k (Mr L) a b (some σ')) (hl:L'.length=L.length) (he:Mr L'=σ'):StL L':=by
 obtain ⟨θ,hs⟩:=hL.sol;obtain ⟨g1,g2,_,_⟩:=RC h hs hL.dom ha.wf hb.wf ha.inb hb.inb;subst he;exact ⟨g1,by rw [hl];exact g2,by rw [hl];exact hL.len⟩
theorem TypL.len (h:L'.length=L.length) (ht:TypL L t):TypL L' t:=⟨ht.wf,by rw [h];exact ht.inb⟩
theorem KM:∀a b:Ty,Tq3 21 [.agg (dTyc a),.agg (dTyc b)] (.bool (Ib a b))
 | .mk s n x ps,.mk s' n' x' qs=>by
  refine B3 λhv=>?_;simp [CV,F0,dTyc,maxLen] at hv;have hw1:=hv.1;refine Ad Du func21 rfl [1,2,3]<|zax rfl<|Ab rfl (λh=>?_) (λh=>?_)
  ·refine E5 rfl<|Aa rfl rfl (congrArg _ ?_)
   symm
   simp only [Ib];by_cases hl:ps.length=qs.length
   ·simp [hl] at h;cases he:FY ps qs <;> grind
   ·rw [Ut hl,Bool.and_false]
  have hl:s=s'/\n=n'/\x=x'/\ps.length=qs.length:=by
   simp at h;grind
  obtain ⟨rfl,rfl,rfl,hl⟩:=hl;refine E5 rfl<|Ak (λi:Nat=>[(5,.imm (.int .i64 i)),(2,.ref 1 0),(3,.ref 2 0)]) (λ_=>[(1,some (.immb 25 4 (dTyc (.mk s n x ps)))),(2,some (.immb 25 4 (dTyc (.mk s n x qs))))]) [3] (λi=>ps.length-i) (λi=>i<=ps.length/\FY ps qs=FY (ps.drop i) (qs.drop i)) 0
   ⟨AJ _,rfl⟩ AC AK rfl λi hi ih=>?_
  obtain ⟨hi1,hi2⟩:=hi;refine E5 rfl<|Ab rfl (λh1=>?_) (λh1=>?_)
  ·simp at h1;obtain ⟨p,hp⟩:=Ao h1;obtain ⟨q,hq⟩:=Ao (l:=qs) (i:=i) (by omega);rw [Av hp,Av hq] at hi2;simp only [FY] at hi2;refine E5 rfl<|zA rfl (AE hp)<|EL rfl<|zA rfl (AE hq)<|EL rfl<|Aj rfl (λ_=>KM p q) (by simp)<|rg [] rfl (by simp;rfl)<|Ab rfl (λh2=>?_) (λh2=>?_)
   ·refine E5 rfl<|Aa rfl rfl (congrArg _ ?_);have:Ib p q=false:=by simpa using h2
    simp [Ib,hi2,this]
   ·refine E5 rfl ?_;have:Ib p q=true:=by simpa using h2
    rw [this,Jx] at hi2;exact Ac (ih (i+1) (by omega) ⟨by omega,hi2⟩) ⟨AU,AK⟩ AK rfl
  ·simp at h1;rw [Bo (by omega),Bo (by omega)] at hi2;refine Az rfl<|E5 rfl<|Aa rfl rfl (congrArg _ ?_);simp [Ib,hi2,FY]
termination_by a=>SizeOf.sizeOf a
decreasing_by
 all_goals
  have:=Cj (AF hp);simp_wf;omega
theorem VS (s:Int) (ps:List Ty):Tq3 105 [.int .i64 s,.sl (AA ps)] (.agg (dTyc (.mk s 0 [] ps))):=by
 exact Ad Du func105 rfl [1,2]<|EL rfl<|Aa rfl rfl rfl
theorem zb2:Tq3 49 [] (.agg (dTyc AR)):=by
 exact Ad Du func49 rfl [1,2]<|EL rfl<|Aj rfl (λ_=>VS 1 []) (by simp)<|EL rfl<|Aa rfl rfl rfl
theorem yS:Tq3 50 [] (.agg (dTyc BW)):=by
 exact Ad Du func50 rfl [1,2]<|EL rfl<|Aj rfl (λ_=>VS 2 []) (by simp)<|EL rfl<|Aa rfl rfl rfl
theorem uT (a b:Ty):Tq3 41 [.agg (dTyc a),.agg (dTyc b)] (.agg (dTyc (AN a b))):=by
 have h:=VS 4 [a,b];obtain ⟨a1,a2,a3,a4⟩:=a;obtain ⟨b1,b2,b3,b4⟩:=b;exact Ad Du func41 rfl [1,2,3,4]<|EL rfl<|Af rfl h<|EL rfl<|Aa rfl rfl rfl
theorem tN (n:Nat) (t:Ty):AA (List.replicate n t)=List.replicate n (dTyc t):=by simp [Dg]
mutual
def JG:Ty->Int
 | .mk f n _ ps=>if f=9 then n+1 else GX ps
def GX:List Ty->Int
 | []=>0
 | t::r=>max (JG t) (GX r)
end
mutual
def HC:Ty->Bool
 | .mk f n _ ps=>(f != 9||(decide (0<=n)&&decide (n<=99)))&&G6 ps
def G6:List Ty->Bool
 | []=>true
 | t::r=>HC t&&G6 r
end
theorem OH:∀{l:List Ty},G6 l=true↔∀t∈l,HC t=true
 | []=>by simp [G6]
 | t::r=>by simp [G6,OH (l:=r)]
mutual
theorem Zz:∀t:Ty,HC t=true->0<=JG t/\JG t<=100/\inB (JG t) t
 | .mk f n x ps,h=>by
  simp only [HC,Ap] at h;by_cases e:f=9
  ·subst e;simp at h;simp only [JG,if_true];exact ⟨by omega,by omega,λm hm=>by simp [CL] at hm;rw [hm];omega⟩
  ·obtain ⟨h1,h2,h3⟩:=eK ps h.2;simp only [JG,if_neg e];exact ⟨h1,h2,λm hm=>by simp only [CL,if_neg e] at hm;exact h3 m hm⟩
theorem eK:∀l:List Ty,G6 l=true->0<=GX l/\GX l<=100/\∀m∈Dc l,0<=m/\m<GX l
 | [],_=>by simp [GX,Dc]
 | t::r,h=>by
  simp only [G6,Ap] at h;obtain ⟨a1,a2,a3⟩:=Zz t h.1;obtain ⟨b1,b2,b3⟩:=eK r h.2;simp only [GX,Dc,BN];refine ⟨by omega,by omega,λm hm=>?_⟩;rcases hm with hm | hm
  ·have:=a3 m hm;omega
  ·have:=b3 m hm;omega
end
theorem OU:∀(l:List Ty) (t:Ty),GX (l++[t])=max (GX l) (JG t)
 | [],t=>by simp only [IO,GX];omega
 | a::r,t=>by simp only [De,GX,OU r t];omega
theorem eL:∀t:Ty,HC t=true->Tq3 63 [.agg (dTyc t)] (.int .i64 (JG t))
 | .mk f n x ps,h=>by
  refine B3 λhv=>?_;simp [CV,F0,dTyc,maxLen] at hv;have hb:=Zz _ h;simp only [HC,Ap] at h;refine Ad Du func63 rfl [1,2]<|EL rfl ?_;by_cases e:f=9
  ·subst e;simp at h;refine Al rfl λh=>E5 rfl<|Aa rfl rfl (congrArg _ ?_);simp only [JG,if_true];exact GR (by omega) (by omega)
  ·refine Ab rfl (λh=>by exfalso;simp [e] at h) (λh=>?_);simp only [JG,if_neg e] at hb ⊢;refine E5 rfl<|Ak (λi:Nat=>[(4,.imm (.int .i64 i)),(3,.imm (.int .i64 (GX (ps.take i)))),(1,.ref 1 0)]) (λ_=>[(1,some (.immb 25 4 (dTyc (.mk f n x ps))))]) [2] (λi=>ps.length-i) (λi=>i<=ps.length) 0 (AJ _)
    AC A9 rfl λi hi ih=>?_
   refine E5 rfl<|Ab rfl (λh=>?_) (λh=>?_)
   ·have hlt:i<ps.length:=by simp at h;omega
    obtain ⟨p,hp⟩:=Ao hlt;have hg:=AE hp;have hs:=OH.1 ‹_/\G6 ps=true›.2 p (AF hp);have hI:=eL p hs;have hih:=ih (i+1) (by omega) (by omega);rw [Bp hp,OU] at hih;obtain ⟨p1,p2,p3,p4⟩:=p;refine E5 rfl<|zA rfl hg<|EL rfl<|Af rfl hI<|EL rfl ?_;exact Ac hih ⟨AU,BB (by split <;> omega),A9⟩ A9 rfl
   ·have hlt:¬i<ps.length:=by simp at h;omega
    refine Az rfl ?_;rw [Db (by omega)];exact E5 rfl<|Aa rfl rfl rfl
termination_by t=>SizeOf.sizeOf t
decreasing_by
 have:=Cj (AF hp);simp_wf;omega
def fS (p:Str×Ty):List V:=.str p.1::dTyc p.2
def D5 (Γ:Au):List (List V):=Γ.map fS
@[simp] theorem dKn_length (p:Str×Ty):(fS p).length=5:=by simp [fS]
@[simp] theorem dKns_length (Γ:Au):(D5 Γ).length=Γ.length:=by simp [D5]
theorem RO {i:Nat} {p:Str×Ty} (h:Γ[i]?=some p):(D5 Γ)[i]?=some (fS p):=by simp [D5,h]
theorem VL {i:Nat} {d:Dt} (h:l[i]?=some d):(l.map C7)[i]?=some (C7 d):=by simp [h]
theorem fT {l:List Cd} {i:Nat} {d:Cd} (h:l[i]?=some d):(l.map Fa)[i]?=some (Fa d):=by simp [h]
theorem Lm {l:List Fd} {i:Nat} {d:Fd} (h:l[i]?=some d):(l.map CG)[i]?=some (CG d):=by simp [h]
theorem Xm:∀(Γ:Au) (p:Str×Ty) (x:Str),HP (Γ++[p]) x=if p.1=x then some p.2 else HP Γ x
 | [],(y,t),x=>by simp [HP]
 | (z,u)::r,p,x=>by
  simp only [De,HP,Xm r p x];by_cases h:p.1=x
  ·simp [h]
  ·simp [h]
theorem lQ {l:List Cd} {i:Nat} {c:Cd} (h:l[i]?=some c) (x:Str):Ow (l.drop i) x=if c.name=x then some c else Ow (l.drop (i+1)) x:=by rw [Av h];rfl
theorem kW {l:List Fd} {i:Nat} {f:Fd} (h:l[i]?=some f) (x:Str):JP (l.drop i) x=if f.name=x then some (AN f.from_ f.to_) else JP (l.drop (i+1)) x:=by rw [Av h];rfl
noncomputable def thS (σ:Sb):Int->Ty:=open Classical in if h:∃θ,Sol σ θ then h.choose else Aw
theorem Qt (h:Sol σ θ):thS σ=θ:=by
 have h':∃θ,Sol σ θ:=⟨θ,h⟩
 rw [thS,dif_pos h'];exact h'.choose_spec.unique h
def MZ (σ:Sb):Nat->Nat
 | 0=>0
 | i+1=>if (σ (i:Int)).isSome then i+1 else MZ σ i
noncomputable def mW (σ:Sb) (H:Nat):List Ty:=(List.range (MZ σ H)).map λi:Nat=>thS σ i
theorem Z4 {qs:List Ty} {i:Nat} (hp:ps[i]?=some p) (hq:qs[i]?=some q) (l:List Ty):Kh (ps.drop i) (qs.drop i) l=if (Gf p q l).2=true then Kh (ps.drop (i+1)) (qs.drop (i+1)) (Gf p q l).1 else Gf p q l:=by
 rw [Av hp,Av hq,Kh]
theorem QO:∀(a b:Ty) (l:List Ty),Ck b=true->inB l.length a->l.length<=100->Tq3 62 [.agg (dTyc a),.agg (dTyc b),.sl (AA l)] (.tup [.sl (AA (Gf a b l).1),.bool (Gf a b l).2])
 | .mk f n x ps,.mk g m y qs,l,hb,ha,hl=>by
  by_cases e9:f=9
  ·subst e9;have hn:=ha.num rfl;simp only [num] at hn;obtain ⟨v,hv⟩:=Ao (l:=l) (i:=n.toNat) (by omega);have hg:=AE hv;have hd:l.getD n.toNat Hi=v:=by rw [ZB,hv];rfl
   have hS:=KM v (.mk g m y qs);by_cases h0:Cg v=0
   ·have hr:Gf (.mk 9 n x ps) (.mk g m y qs) l=(l.set n.toNat (.mk g m y qs),true):=by rw [Gf,if_pos rfl,hd,if_pos h0]
    ·rw [hr];have h4:∀c∈AA l,c.length=4:=λc hc=>by rw [Dg] at hc;obtain ⟨x,_,rfl⟩:=C2.1 hc;simp
     have hset:=tM l n.toNat (.mk g m y qs)
     have hlen:(AA l).length=l.length:=dTys_length l;have hne:AA l≠[]:=λe=>by rw [e] at hg;simp at hg
     obtain ⟨v1,v2,v3,v4⟩:=v;simp only [Cg] at h0;subst h0;refine Ad Du func62 rfl [1,2,3,4,5,6]<|EL rfl<|Al rfl λh=>E5 rfl<|ri rfl (c:=dTyc (.mk 0 v2 v3 v4)) (λ_=>⟨hn.1,by simpa using hg,by simp⟩) (by simp)<|EL rfl<|Al rfl λh=>E5 rfl<|B7 Du rfl ⟨h4,by simp only [maxLen,Cz] at *;omega,by simp only [Cz] at *;omega,trivial⟩<|EL rfl<|FU Du rfl (λ_=>⟨hn.1,by simp;omega⟩) (by simp)<|EL rfl<|K3 Du (e:=dTyc (.mk 0 v2 v3 v4)) (e':=dTyc (.mk g m y qs)) rfl (by simpa using hg) (by show 0+4<=4;decide) (by simp) (by simp)<|EL rfl<|BC 3 rfl<|Aa rfl rfl ?_;simp only [hset];rfl
   ·have hr:Gf (.mk 9 n x ps) (.mk g m y qs) l=(l,Ib v (.mk g m y qs)):=by rw [Gf,if_pos rfl,hd,if_neg h0]
    ·rw [hr];obtain ⟨v1,v2,v3,v4⟩:=v;simp only [Cg] at h0;refine Ad Du func62 rfl [1,2,3,4,5,6]<|EL rfl<|Al rfl λh=>E5 rfl<|ri rfl (c:=dTyc (.mk v1 v2 v3 v4)) (λ_=>⟨hn.1,by simpa using hg,by simp⟩) (by simp)<|EL rfl<|Ab rfl (λh=>by exfalso;simp at h;exact h0 h) (λh=>?_);exact E5 rfl<|ri rfl (c:=dTyc (.mk v1 v2 v3 v4)) (λ_=>⟨hn.1,by simpa using hg,by simp⟩) (by simp)<|EL rfl<|Af rfl hS<|rg [] rfl (by simp;rfl)<|Aa rfl rfl rfl
  ·by_cases hh:f=g/\x=y/\ps.length=qs.length
   ·have hr:Gf (.mk f n x ps) (.mk g m y qs) l=Kh ps qs l:=by rw [Gf,if_neg e9];exact if_pos hh
    obtain ⟨rfl,rfl,hq⟩:=hh;have hbl:=I3 hb;simp only [Ft] at hbl;rw [hr];have hpi:∀p∈ps,inB l.length p:=λp hp=>ha.part e9 hp;have hqw:∀q∈qs,Ck q=true:=E3 hb;refine Ad Du func62 rfl [1,2,3,4,5,6]<|EL rfl<|Ab rfl (λh=>by exfalso;simp at h;exact e9 h) (λh=>?_);refine zay rfl<|Ab rfl (λh=>by exfalso;simp at h;exact h (by omega)) (λh=>?_);refine E5 rfl<|Ak (λz:Nat×List Ty×Bool=>[(9,.imm (.int .i64 z.1)),(2,.imm (.sl (AA z.2.1))),(8,.imm (.bool z.2.2)),(3,.ref 1 0),(4,.ref 2 0)]) (λ_=>[(1,some (.immb 25 4 (dTyc (.mk f n x ps)))),(2,some (.immb 25 4 (dTyc (.mk f m x qs))))]) [3,4,5,6] (λz=>ps.length-z.1)
     (λz=>z.1<=ps.length/\z.2.1.length=l.length/\Kh ps qs l=if z.2.2=true then Kh (ps.drop z.1) (qs.drop z.1) z.2.1 else (z.2.1,false)) (0,l,true)
     ⟨AJ _,rfl,rfl⟩ B6 AK rfl λz hz ih=>?_
    obtain ⟨i,k,o⟩:=z;obtain ⟨hz1,hz2,hz3⟩:=hz;simp only at hz1 hz2 hz3 ih;refine zay rfl<|Ab rfl (λh=>?_) (λh=>?_)
    ·have hlt:i<ps.length/\o=true:=by simp at h;exact ⟨by omega,by grind⟩
     obtain ⟨hlt,rfl⟩:=hlt;obtain ⟨p,hp⟩:=Ao hlt;obtain ⟨q,hq'⟩:=Ao (l:=qs) (i:=i) (by omega);have hgp:=AE hp;have hgq:=AE hq';have hI:=QO p q k (hqw q (AF hq')) (by rw [hz2];exact hpi p (AF hp)) (by omega);have hlen:=qA p q k (hqw q (AF hq')) (by rw [hz2];exact hpi p (AF hp));rw [if_pos rfl,Z4 hp hq'] at hz3;have hih:=ih (i+1,(Gf p q k).1,(Gf p q k).2) (by simp only;omega) ⟨by simp only;omega,by simp only;omega,by
      rw [hz3];cases hc:(Gf p q k).2 with
      | true=>rfl
      | false=>simp only [DK,if_false];rw [<- hc]⟩
     generalize (Gf p q k).1=k' at *;generalize (Gf p q k).2=o' at *;obtain ⟨p1,p2,p3,p4⟩:=p;obtain ⟨q1,q2,q3,q4⟩:=q;exact E5 rfl<|zA rfl hgp<|EL rfl<|zA rfl hgq<|EL rfl<|Af rfl hI<|rg [] rfl (by simp;rfl)<|Ac hih ⟨AU,Cb⟩ AK rfl
    ·have hlt:i=ps.length\/o=false:=by simp at h;grind
     refine Az rfl<|E5 rfl<|Aa rfl rfl ?_;rw [hz3];cases o with
     | false=>rfl
     | true =>
      rcases hlt with rfl | h
      ·rw [if_pos rfl,Bo (BQ _)];simp only [Kh]
      ·cases h
   ·have hr:Gf (.mk f n x ps) (.mk g m y qs) l=(l,false):=by rw [Gf,if_neg e9];exact if_neg hh
    rw [hr];refine Ad Du func62 rfl [1,2,3,4,5,6]<|EL rfl<|Ab rfl (λh=>by exfalso;simp at h;exact e9 h) (λh=>?_);refine zay rfl<|Ab rfl (λh=>?_) (λh=>by exfalso;simp at h;grind);exact E5 rfl<|Aa rfl rfl rfl
termination_by a=>SizeOf.sizeOf a
decreasing_by
 have:=Cj (AF hp);simp_wf;omega
theorem VT (a b:Ty) (hb:Ck b=true) (sa:HC a=true):Tq3 16 [.agg (dTyc a),.agg (dTyc b)] (.bool (I5 a b λ_=>none).isSome):=by
 obtain ⟨u0,u1,u2⟩:=Zz a sa;have hM:=eL a sa;obtain ⟨H,hH⟩:∃H:Nat,JG a=H:=⟨(JG a).toNat,by omega⟩
 have hI:inB (List.replicate H Hi).length a:=by rw [qN,<- hH];exact u2
 have hC:=QO a b (List.replicate H Hi) hb hI (by simp;omega);obtain ⟨_,h2,_⟩:=NZ a b (List.replicate H Hi) hb hI;rw [nQ] at h2;rw [<- h2];rw [hH] at hM;generalize (Gf a b (List.replicate H Hi)).1=l' at *;generalize (Gf a b (List.replicate H Hi)).2=o at *;rw [tN] at hC;obtain ⟨a1,a2,a3,a4⟩:=a;obtain ⟨b1,b2,b3,b4⟩:=b;exact Ad Du func16 rfl [1,2,3,4]<|EL rfl<|Af rfl hM<|EL rfl<|bM Du rfl rfl (by simp) (by simp;omega) (by simp [maxLen];omega)<|EL rfl<|Af rfl hC<|rg [] rfl (by simp;rfl)<|Aa rfl rfl rfl
def vT {α:Type} (o:Bool) (x:α):Option α:=if o=true then some x else none
@[simp] theorem resO_true (x:α):vT true x=some x:=rfl
@[simp] theorem resO_false (x:α):vT false x=none:=rfl
theorem zck {β:Type} (f:α->β) (o:Bool) (x:α):(vT o x).map f=vT o (f x):=by cases o <;> rfl
theorem StL.ok (h:StL L):StOk L.length (Mr L):=⟨by omega,h.dom,h.sol⟩
def uM (m:Md) (S:List Ty) (p t:Ty) (Γ:Au) (L:List Ty) (Γ':Au) (L':List Ty) (o:Bool):Prop :=
 Tq3 220 [.agg (dMdc m),.sl (D5 Γ),.agg (dTyc p),.agg (dTyc t),.agg (cC L S)] (.tup [.sl (D5 Γ'),.agg (cC L' S),.bool o])
def PatsC (m:Md) (S:List Ty):List Ty->List Ty->Au->List Ty->Au->List Ty->Bool->Prop
 | p::ps,t::ts,Γ,L,Γ',L',o=>∃Γ1 L1 o1,uM m S p t Γ L Γ1 L1 o1/\if o1=true then PatsC m S ps ts Γ1 L1 Γ' L' o else (Γ'=Γ1/\L'=L1/\o=false)
 | _,_,Γ,L,Γ',L',o=>Γ'=Γ/\L'=L/\o=true
theorem PatsC.stop (h:uM m S p t Γ L Γ1 L1 false):PatsC m S (p::ps) (t::ts) Γ L Γ1 L1 false:=by
 rw [PatsC];exact ⟨Γ1,L1,false,h,by rw [if_neg (by simp)];exact ⟨rfl,rfl,rfl⟩⟩
theorem PatsC.step {Γ2:Au} {o:Bool} (h:uM m S p t Γ L Γ1 L1 true) (h2:PatsC m S ps ts Γ1 L1 Γ2 L2 o):PatsC m S (p::ps) (t::ts) Γ L Γ2 L2 o:=by
 rw [PatsC];exact ⟨Γ1,L1,true,h,by rw [if_pos rfl];exact h2⟩
theorem TypL.lit (f:Int):TypL L (PC f):=by
 refine ⟨?_,?_⟩
 ·unfold PC;split
  ·rfl
  ·split <;> rfl
 ·refine Cr ?_ _;unfold PC;split
  ·rfl
  ·split <;> rfl
theorem TypL.data (x:Str):TypL L (Bw x):=⟨by simp [Bw,Ck,EJ],Cr (by simp [Bw,CL,Dc]) _⟩
mutual
def KQ:Tm->Nat
 | .mk _ _ _ ks ps=>1+Dx ks+DB ps
def Dx:List Tm->Nat
 | []=>0
 | t::r=>KQ t+Dx r
end
theorem dG (t:Tm):1<=KQ t:=by cases t;simp [KQ];omega
theorem MM:∀{l:List Tm},Cm l=true↔∀t∈l,BU t=true
 | []=>by simp [Cm]
 | t::r=>by simp [Cm,MM (l:=r)]
def Ar (op:Int) (k p:Nat):Prop:=(op=4/\k=0)\/(op=5/\k=1)\/(op=27/\k=1)\/(op=6/\k=2)\/(op=7/\k=2)\/op=14\/(op=15/\k=1+p)\/(Cx op/\k=(Bu op (Aw 0)).1.length)
theorem Ar.rule {op:Int} {k p:Nat} (h:Cx op) (hk:k=(Bu op (Aw 0)).1.length):Ar op k p:=.inr (.inr (.inr (.inr (.inr (.inr (.inr ⟨h,hk⟩))))))
theorem pP {op:Int} {k p:Nat} (h:Bv op n x k p=true):Ar op k p:=by
 unfold Bv at h;by_cases e0:op=1
 ·rw [if_pos e0] at h;have hk:k=0:=by simp only [Ap,beq_iff_eq] at h;omega
  subst e0;exact Ar.rule (by unfold Cx;decide) (by rw [hk];rfl)
 rw [if_neg e0] at h;by_cases e1:op=2
 ·rw [if_pos e1] at h;have hk:k=0:=by simp only [Ap,beq_iff_eq] at h;omega
  subst e1;exact Ar.rule (by unfold Cx;decide) (by rw [hk];rfl)
 rw [if_neg e1] at h;by_cases e2:op=3\/op=21\/op=25\/op=28
 ·rw [if_pos e2] at h;have hk:k=0:=by simp only [Ap,beq_iff_eq] at h;omega
  rcases e2 with rfl | rfl | rfl | rfl
  ·exact Ar.rule (by unfold Cx;decide) (by rw [hk];rfl)
  ·exact Ar.rule (by unfold Cx;decide) (by rw [hk];rfl)
  ·exact Ar.rule (by unfold Cx;decide) (by rw [hk];rfl)
  ·exact Ar.rule (by unfold Cx;decide) (by rw [hk];rfl)
 rw [if_neg e2] at h;by_cases e3:op=4
 ·rw [if_pos e3] at h;have hk:k=0:=by simp only [Ap,beq_iff_eq] at h;omega
  subst e3;exact .inl ⟨rfl,hk⟩
 rw [if_neg e3] at h;by_cases e4:op=5\/op=27
 ·rw [if_pos e4] at h;have hk:k=1:=by simp only [Ap,beq_iff_eq] at h;omega
  rcases e4 with rfl | rfl
  ·exact .inr (.inl ⟨rfl,hk⟩)
  ·exact .inr (.inr (.inl ⟨rfl,hk⟩))
 rw [if_neg e4] at h;by_cases e5:op=7
 ·rw [if_pos e5] at h;have hk:k=2:=by simp only [Ap,beq_iff_eq] at h;omega
  subst e5;exact .inr (.inr (.inr (.inr (.inl ⟨rfl,hk⟩))))
 rw [if_neg e5] at h;by_cases e6:op=8
 ·rw [if_pos e6] at h;have hk:k=3:=by simp only [Ap,beq_iff_eq] at h;omega
  subst e6;exact Ar.rule (by unfold Cx;decide) (by rw [hk];rfl)
 rw [if_neg e6] at h;by_cases e7:op=14
 ·rw [if_pos e7] at h;subst e7;exact .inr (.inr (.inr (.inr (.inr (.inl rfl)))))
 rw [if_neg e7] at h;by_cases e8:op=15
 ·rw [if_pos e8] at h;have hk:k=1+p:=by simp only [Ap,beq_iff_eq] at h;omega
  subst e8;exact .inr (.inr (.inr (.inr (.inr (.inr (.inl ⟨rfl,hk⟩))))))
 rw [if_neg e8] at h;by_cases e9:op=16\/op=17\/op=19\/op=20\/op=23\/op=26
 ·rw [if_pos e9] at h;have hk:k=1:=by simp only [Ap,beq_iff_eq] at h;omega
  rcases e9 with rfl | rfl | rfl | rfl | rfl | rfl
  ·exact Ar.rule (by unfold Cx;decide) (by rw [hk];rfl)
  ·exact Ar.rule (by unfold Cx;decide) (by rw [hk];rfl)
  ·exact Ar.rule (by unfold Cx;decide) (by rw [hk];rfl)
  ·exact Ar.rule (by unfold Cx;decide) (by rw [hk];rfl)
  ·exact Ar.rule (by unfold Cx;decide) (by rw [hk];rfl)
  ·exact Ar.rule (by unfold Cx;decide) (by rw [hk];rfl)
 rw [if_neg e9] at h;by_cases e10:op=24
 ·rw [if_pos e10] at h;have hk:k=1:=by simp only [Ap,beq_iff_eq] at h;omega
  subst e10;exact Ar.rule (by unfold Cx;decide) (by rw [hk];rfl)
 rw [if_neg e10] at h;by_cases e11:op=6\/op=9\/op=10\/op=11\/op=12\/op=13\/op=18\/op=22
 ·rw [if_pos e11] at h;have hk:k=2:=by simp only [Ap,beq_iff_eq] at h;omega
  rcases e11 with rfl | rfl | rfl | rfl | rfl | rfl | rfl | rfl
  ·exact .inr (.inr (.inr (.inl ⟨rfl,hk⟩)))
  ·exact Ar.rule (by unfold Cx;decide) (by rw [hk];rfl)
  ·exact Ar.rule (by unfold Cx;decide) (by rw [hk];rfl)
  ·exact Ar.rule (by unfold Cx;decide) (by rw [hk];rfl)
  ·exact Ar.rule (by unfold Cx;decide) (by rw [hk];rfl)
  ·exact Ar.rule (by unfold Cx;decide) (by rw [hk];rfl)
  ·exact Ar.rule (by unfold Cx;decide) (by rw [hk];rfl)
  ·exact Ar.rule (by unfold Cx;decide) (by rw [hk];rfl)
 rw [if_neg e11] at h;cases h
theorem wE {op:Int} (h:BU (.mk op n x ks ps)=true):Ar op ks.length ps.length:=by
 simp only [BU,Ap] at h;exact pP h.1.1
theorem jD {op:Int} (h:BU (.mk op n x ks ps)=true):∀t∈ks,BU t=true:=by
 simp only [BU,Ap] at h;exact MM.1 h.2
def zb3 (m:Md) (Γ:Au) (t:Tm) (L S:List Ty) (τ:Ty) (L' S':List Ty) (o:Bool):Prop :=
 Tq3 88 [.agg (dMdc m),.sl (D5 Γ),.agg (dTmc t),.agg (cC L S)] (.tup [.agg (dTyc τ),.agg (cC L' S'),.bool o])
def zb7 (L S:List Ty) (a b:Ty) (L':List Ty) (o:Bool):Prop :=
 Tq3 65 [.agg (cC L S),.agg (dTyc a),.agg (dTyc b)] (.tup [.agg (cC L' S),.bool o])
def AllK (m:Md) (Γ:Au):List Tm->List Ty->List Ty->List Ty->List Ty->List Ty->Bool->Prop
 | t::ts,u::us,L,S,L',S',o=>∃τ L1 S1 o1,zb3 m Γ t L S τ L1 S1 o1/\if o1=true then (∃L2 o2,zb7 L1 S1 τ u L2 o2/\if o2=true then AllK m Γ ts us L2 S1 L' S' o else (L'=L2/\S'=S1/\o=false)) else (L'=L/\S'=S/\o=false)
 | _,_,L,S,L',S',o=>L'=L/\S'=S/\o=true
def AllC (m:Md) (Γ:Au) (ts:List Tm) (us:List Ty) (L S L' S':List Ty) (o:Bool):Prop :=
 Tq3 147 [.agg (dMdc m),.sl (D5 Γ),.sl (EQ ts),.sl (AA us),.agg (cC L S)] (.tup [.agg (cC L' S'),.bool o])
theorem zc8 (m:Md) (Γ:Au) (ts:List Tm) (us:List Ty) (L S L' S':List Ty) (o:Bool) (hl:ts.length<=us.length) (h:AllK m Γ ts us L S L' S' o):AllC m Γ ts us L S L' S' o:=by
 unfold AllC;refine B3 λhv=>?_;simp [CV,F0,maxLen] at hv;obtain ⟨m1,m2,m3⟩:=m;refine Ad Du func147 rfl [1,2,3,4,5,6,7,8]<|EL rfl<|Ak (λz:Nat×List Ty×List Ty=>[(12,.imm (.int .i64 z.1)),(1,.imm (.sl (D5 Γ))),(2,.imm (.sl (EQ ts))),(3,.imm (.sl (AA us))),(5,.ref 1 0),(9,.ref 2 0),(10,.ref 3 0)])
  (λz=>[(1,some (.immb 43 3 (dMdc ⟨m1,m2,m3⟩))),(2,some (.immb 105 2 (cC z.2.1 z.2.2))),(3,some (.cells 105 2 [.nils,.nils]))]) [4,5,6,7,8] (λz=>ts.length-z.1)
  (λz=>z.1<=ts.length/\AllK ⟨m1,m2,m3⟩ Γ (ts.drop z.1) (us.drop z.1) z.2.1 z.2.2 L' S' o) (0,L,S)
  ⟨AJ _,h⟩ GD AC rfl λz hz ih=>?_
 clear h;obtain ⟨j,K,R⟩:=z;obtain ⟨hz1,hz2⟩:=hz;simp only at hz1 hz2 ih;refine E5 rfl<|Ab rfl (λh=>?_) (λh=>?_)
 ·have hlt:j<ts.length:=by simp at h;omega
  obtain ⟨t,ht⟩:=Ao hlt;obtain ⟨u,hu⟩:=Ao (l:=us) (i:=j) (by omega);have hgt:=Eu ht;have hgu:=AE hu;rw [Av ht,Av hu,AllK] at hz2;obtain ⟨τ,K1,R1,o1,hI,hz2⟩:=hz2;unfold zb3 at hI;obtain ⟨t1,t2,t3,t4,t5⟩:=t;obtain ⟨u1,u2,u3,u4⟩:=u;obtain ⟨a1,a2,a3,a4⟩:=τ;refine E5 rfl<|zA rfl hgt<|EL rfl<|Af rfl hI ?_;cases o1 with
  | false =>
   refine rg [] rfl (by simp;rfl)<|Al rfl λh=>E5 rfl<|Aa rfl rfl ?_;obtain ⟨h1,h2,h3⟩:=hz2;rw [h1,h2,h3]
  | true =>
   obtain ⟨K2,o2,hE,hz2⟩:=hz2;unfold zb7 at hE;refine rg [] rfl (by simp;rfl)<|Ag rfl λh=>E5 rfl<|zA rfl hgu<|EL rfl<|Af rfl hE ?_;cases o2 with
   | false =>
    refine rg [] rfl (by simp;rfl)<|Al rfl λh=>E5 rfl<|Aa rfl rfl ?_;obtain ⟨h1,h2,h3⟩:=hz2;rw [h1,h2,h3]
   | true =>
    refine rg [] rfl (by simp;rfl)<|Ag rfl λh=>E5 rfl ?_;have hih:=ih (j+1,K2,R1) (by simp only;omega) ⟨by simp only;omega,hz2⟩;exact Ac hih ⟨AU,GU⟩ AC rfl
 ·have hlt:j=ts.length:=by simp at h;omega
  subst hlt;refine Az rfl<|E5 rfl ?_;rw [Bo (BQ _)] at hz2;simp only [AllK] at hz2;obtain ⟨h1,h2,h3⟩:=hz2;refine Aa rfl rfl ?_;rw [h1,h2,h3]
theorem AllK.step {t:Tm} {ts:List Tm} {u:Ty} {us:List Ty} {S1:List Ty} {o:Bool} (h:zb3 m Γ t L S τ L1 S1 true) (h2:zb7 L1 S1 τ u L2 true) (h3:AllK m Γ ts us L2 S1 L' S' o):AllK m Γ (t::ts) (u::us) L S L' S' o:=by
 rw [AllK];refine ⟨τ,L1,S1,true,h,?_⟩;rw [if_pos rfl];refine ⟨L2,true,h2,?_⟩;rw [if_pos rfl];exact h3
def RowsC (m:Md) (Γ:Au) (b a:Ty):List Ty->List Tm->List Ty->List Ty->List Ty->List Ty->Bool->Prop
 | p::ps,t::ts,L,S,L',S',o=>∃Γ1 L1 o1,uM m S p b Γ L Γ1 L1 o1/\if o1=true then (∃L2 S2 o2,AllC m Γ1 [t] [a] L1 S L2 S2 o2/\if o2=true then RowsC m Γ b a ps ts L2 S2 L' S' o else (L'=L2/\S'=S2/\o=false)) else (L'=L/\S'=S/\o=false)
 | _,_,L,S,L',S',o=>L'=L/\S'=S/\o=true
theorem AllC.one {t:Tm} {u:Ty} {o:Bool} (h:AllK m Γ [t] [u] L S L' S' o):AllC m Γ [t] [u] L S L' S' o:=zc8 m Γ [t] [u] L S L' S' o (by simp) h
theorem RowsC.step {b:Ty} {t:Tm} {ts:List Tm} {S2:List Ty} {o:Bool} (h:uM m S p b Γ L Γ1 L1 true) (h2:AllC m Γ1 [t] [a] L1 S L2 S2 true) (h3:RowsC m Γ b a ps ts L2 S2 L' S' o):RowsC m Γ b a (p::ps) (t::ts) L S L' S' o:=by
 rw [RowsC];refine ⟨Γ1,L1,true,h,?_⟩;rw [if_pos rfl];refine ⟨L2,S2,true,h2,?_⟩;rw [if_pos rfl];exact h3
theorem AllK.end_:AllK m Γ [] [] L S L S true:=by
 rw [AllK]
 ·exact ⟨rfl,rfl,rfl⟩
 ·intro _ _ _ _ h;cases h
theorem StL.fresh (h:StL L) (hl:L.length<1000000):StL (L++[Hi]):=by
 refine ⟨by rw [Tu];exact h.sol,?_,by simp;omega⟩;rw [Tu];exact h.dom.mono (by simp;omega)
theorem iM {op:Int} (h:Cx op) (a b:Ty):(Bu op a).1.length=(Bu op b).1.length:=by
 rcases h with rfl | rfl | rfl | rfl | rfl | rfl | rfl | rfl | rfl | rfl | rfl | rfl | rfl | rfl | rfl | rfl | rfl | rfl | rfl | rfl | rfl <;> rfl
def TyK (k:Int) (t:Ty):Prop:=Ck t=true/\inB k t
theorem TyK.i:TyK k AR:=⟨rfl,Cr rfl _⟩
theorem TyK.b:TyK k BW:=⟨rfl,Cr rfl _⟩
theorem TyK.u:TyK k Di:=⟨rfl,Cr rfl _⟩
theorem TyK.f {b:Ty} (h:TyK k a) (h':TyK k b):TyK k (AN a b):=⟨cU h.1 h'.1,X8 h.2 h'.2⟩
theorem TyK.o (hs:s≠9) (h0:s≠0) (h:TyK k a):TyK k (GJ s a):=⟨mP hs h0 h.1,eW hs h.2⟩
theorem Q8 {op:Int} (h:Cx op) (ha:TyK k a):(∀u∈(Bu op a).1,TyK k u)/\TyK k (Bu op a).2.1/\∀u∈(Bu op a).2.2,TyK k u:=by
 have h5:=TyK.o (s:=5) (by decide) (by decide) ha;have h6:=TyK.o (s:=6) (by decide) (by decide) ha;have h7:=TyK.o (s:=7) (by decide) (by decide) ha;have hf:=TyK.f (TyK.u (k:=k)) ha;have hi:=TyK.i (k:=k);have hb:=TyK.b (k:=k);have hu:=TyK.u (k:=k);have n0:∀u∈([]:List Ty),TyK k u:=λu h=>nomatch h;have n1:∀{x:Ty},TyK k x->∀u∈[x],TyK k u:=λhx u h=>by rw [AP.1 h];exact hx
 have n2:∀{x y:Ty},TyK k x->TyK k y->∀u∈[x,y],TyK k u:=λhx hy u h=>by
  rcases Cy.1 h with rfl | h
  ·exact hx
  ·exact n1 hy u h
 have n3:∀{x y z:Ty},TyK k x->TyK k y->TyK k z->∀u∈[x,y,z],TyK k u:=λhx hy hz u h=>by
  rcases Cy.1 h with rfl | h
  ·exact hx
  ·exact n2 hy hz u h
 rcases h with rfl | rfl | rfl | rfl | rfl | rfl | rfl | rfl | rfl | rfl | rfl | rfl | rfl | rfl | rfl | rfl | rfl | rfl | rfl | rfl | rfl
 ·exact ⟨n0,hi,n0⟩
 ·exact ⟨n0,hi,n0⟩
 ·exact ⟨n0,hb,n0⟩
 ·exact ⟨n0,hu,n0⟩
 ·exact ⟨n0,hu,n0⟩
 ·exact ⟨n3 hb ha ha,ha,n0⟩
 ·exact ⟨n2 hi hi,hi,n0⟩
 ·exact ⟨n2 hi hi,hi,n0⟩
 ·exact ⟨n2 hi hi,hi,n0⟩
 ·exact ⟨n2 hi hi,hb,n0⟩
 ·exact ⟨n2 ha ha,hb,n1 ha⟩
 ·exact ⟨n1 ha,h5,n0⟩
 ·exact ⟨n1 h5,ha,n0⟩
 ·exact ⟨n2 h5 ha,hu,n0⟩
 ·exact ⟨n1 hf,h7,n0⟩
 ·exact ⟨n1 h7,ha,n0⟩
 ·exact ⟨n0,h6,n0⟩
 ·exact ⟨n2 h6 ha,hu,n0⟩
 ·exact ⟨n1 h6,ha,n0⟩
 ·exact ⟨n1 hi,hu,n0⟩
 ·exact ⟨n1 hi,hi,n0⟩
theorem TyK.h (h:0<=n/\n<k):TyK k (Aw n):=⟨by simp [Aw,Ck,EJ],Kx h⟩
abbrev L0:=Option (Ty×List (Int×Ty)×Int×List Ty)
def UH (m:Md) (T:List (Int×Ty)) (k:Int) (S:List Ty):St:=[(1,some (iB m k 2 4 (AA S).length)),(2,some (Wt T)),(4,some (.row 25 4 (AA S)))]
def Dp (m:Md):L0->Out
 | some (τ,T',k',S')=>.ret (.imm (.agg (dTyc τ))) (UH m T' k' S')
 | none=>.pan G0
def C0 (f:FuncId) (m:Md) (Γ:Au) (t:Tm) (T:List (Int×Ty)) (k:Int) (S:List Ty) (r:L0):Prop :=
 Tq4 f [.ref 1 0,.imm (.agg (dTmc t)),.imm (.sl (D5 Γ))] (CP m T k S) (Dp m r)
def EI (m:Md) (Γ:Au) (t:Tm) (T:List (Int×Ty)) (k:Int) (S:List Ty) (r:L0):Prop:=C0 79 m Γ t T k S r
def yR (m:Md) (T:List (Int×Ty)) (k:Int) (S:List Ty) (a b:Ty):Option (List (Int×Ty))->Prop
 | some T'=>Dq m T k S a b T'
 | none=>DU m T k S a b
abbrev Id:=Option (List (Int×Ty)×Int×List Ty)
def B2 (m:Md) (Γ:Au):List Tm->List Ty->List (Int×Ty)->Int->List Ty->Id->Prop
 | t::ts,u::us,T,k,S,r=>(EI m Γ t T k S none/\r=none)\/∃τ T1 k1 S1,EI m Γ t T k S (some (τ,T1,k1,S1))/\((DU m T1 k1 S1 τ u/\r=none)\/∃T2,Dq m T1 k1 S1 τ u T2/\B2 m Γ ts us T2 k1 S1 r)
 | _,_,T,k,S,r=>r=some (T,k,S)
def pJ (m:Md) (k:Int) (S:List Ty):Option (Au×List (Int×Ty))->Out
 | some (Γ',T')=>.ret (.imm (.sl (D5 Γ'))) (CP m T' k S)
 | none=>.pan G0
def GQ (m:Md) (Γ:Au) (p τ:Ty) (T:List (Int×Ty)) (k:Int) (S:List Ty) (r:Option (Au×List (Int×Ty))):Prop :=
 Tq4 263 [.ref 1 0,.imm (.agg (dTyc p)),.imm (.agg (dTyc τ)),.imm (.sl (D5 Γ))] (CP m T k S) (pJ m k S r)
def NA (m:Md) (k:Int) (S:List Ty):List Ty->List Ty->Au->List (Int×Ty)->Option (Au×List (Int×Ty))->Prop
 | p::ps,t::ts,Γ,T,r=>(GQ m Γ p t T k S none/\r=none)\/∃Γ1 T1,GQ m Γ p t T k S (some (Γ1,T1))/\NA m k S ps ts Γ1 T1 r
 | _,_,Γ,T,r=>r=some (Γ,T)
def KN (m:Md) (Γ:Au) (b a:Ty):List Ty->List Tm->List (Int×Ty)->Int->List Ty->Id->Prop
 | p::ps,t::ts,T,k,S,r=>(GQ m Γ p b T k S none/\r=none)\/∃Γ1 T1,GQ m Γ p b T k S (some (Γ1,T1))/\((EI m Γ1 t T1 k S none/\r=none)\/∃τ T2 k2 S2,EI m Γ1 t T1 k S (some (τ,T2,k2,S2)) /\
   ((DU m T2 k2 S2 τ a/\r=none)\/∃T3,Dq m T2 k2 S2 τ a T3/\KN m Γ b a ps ts T3 k2 S2 r))
 | _,_,T,k,S,r=>r=some (T,k,S)
theorem StOk.mono (h:StOk k σ) (hk:k<=k'):StOk k' σ:=⟨by have:=h.1;omega,h.2.1.mono hk,h.2.2⟩
def zb6 (T:List (Int×Ty)) (k:Int) (a b:Ty):Option (List (Int×Ty))->Prop
 | some T'=>StpR k (BG T) k (BG T') (λ_=>()) (λη _=>A8 η a=A8 η b)
 | none=>StpN (BG T) (β:=Unit) (λη _=>A8 η a=A8 η b)
theorem IW (m:Md) (T:List (Int×Ty)) (k:Int) (S:List Ty) {b:Ty} (h:StOk k (BG T)) (ha:TyK k a) (hb:TyK k b):∃r,yR m T k S a b r/\zb6 T k a b r:=by
 obtain ⟨n,r,h1,h2⟩:=oE h ha.1 hb.1 ha.2 hb.2;obtain ⟨h0,hd,hs⟩:=h;have ek:((k.toNat:Nat):Int)=k:=by omega
 obtain ⟨a1,a2⟩:=ha;obtain ⟨b1,b2⟩:=hb;rw [<- ek] at hd a2 b2;have h3:=fN m k S n T a b r h1 hs hd a1 b1 a2 b2;cases r with
 | none=>exact ⟨none,h3,h2⟩
 | some σ' =>
  obtain ⟨T',c,e⟩:=h3;exact ⟨some T',c,by subst e;exact h2⟩
structure yU (Γ:Au) (T:List (Int×Ty)) (k:Int) (S:List Ty) (n:Nat):Prop where
 st:StOk k (BG T)
 env:EnvOk k Γ
 l:k+n<=1000000
 s:S.length+n<=1000000
 g:Γ.length+n<=1000000
def yQ (m:Md) (t:Tm) (Γ:Au) (T:List (Int×Ty)) (k:Int) (S:List Ty):L0->Prop
 | some (τ,T',k',S')=>∃N,BS m Γ t k (BG T) (some (τ,k',BG T',N))/\S'=S++N/\N.length<=KQ t/\k'<=k+KQ t
 | none=>BS m Γ t k (BG T) none
def uQ (m:Md) (ts:List Tm) (us:List Ty) (Γ:Au) (T:List (Int×Ty)) (k:Int) (S:List Ty):Id->Prop
 | some (T',k',S')=>∃N,I1 m ts (us.map λu=>(Γ,u)) k (BG T) (some (k',BG T',N))/\S'=S++N/\N.length<=Dx ts/\k'<=k+Dx ts
 | none=>I1 m ts (us.map λu=>(Γ,u)) k (BG T) none
def VU (m:Md) (n:Nat):Prop:=∀(t:Tm) (Γ:Au) (T:List (Int×Ty)) (k:Int) (S:List Ty),KQ t<=n->BU t=true->yU Γ T k S (KQ t)->∃r,EI m Γ t T k S r/\yQ m t Γ T k S r
theorem TyK.mono (h:TyK k t) (hk:k<=k'):TyK k' t:=⟨h.1,h.2.mono hk⟩
theorem H3 {m:Md} {n:Nat} (hI:VU m n):∀(ts:List Tm) (us:List Ty) (Γ:Au) (T:List (Int×Ty)) (k:Int) (S:List Ty),ts.length=us.length->Dx ts<=n->(∀t∈ts,BU t=true)->(∀u∈us,TyK k u)->yU Γ T k S (Dx ts) ->
  ∃r,B2 m Γ ts us T k S r/\uQ m ts us Γ T k S r
 | [],[],Γ,T,k,S,_,_,_,_,hB=>by
  refine ⟨some (T,k,S),?_,[],rR hB.st,by simp,by simp [Dx],by simp [Dx]⟩;simp only [B2]
 | [],_::_,_,_,_,_,h,_,_,_,_=>by cases h
 | _::_,[],_,_,_,_,h,_,_,_,_=>by cases h
 | t::ts,u::us,Γ,T,k,S,h,hn,hf,hu,⟨b1,b2,b3,b4,b5⟩=>by
  simp only [Dx] at hn b3 b4 b5;obtain ⟨r1,c1,g1⟩:=hI t Γ T k S (by omega) (hf t (by simp)) ⟨b1,b2,by omega,by omega,by omega⟩;cases r1 with
  | none =>
   refine ⟨none,?_,PE (k:=k) (σ:=BG T) g1⟩;rw [B2];exact .inl ⟨c1,rfl⟩
  | some z =>
   obtain ⟨τ,T1,k1,S1⟩:=z;obtain ⟨N1,r1,s1,s2,s3⟩:=g1;have hle:k<=k1:=r1.1.1;have hu0:=hu u (by simp);obtain ⟨r2,c2,g2⟩:=IW m T1 k1 S1 r1.1.2.1 ⟨r1.2.1,r1.2.2.1⟩ (hu0.mono hle);cases r2 with
   | none =>
    refine ⟨none,?_,Vu r1 hu0.2 g2⟩;rw [B2];exact .inr ⟨τ,T1,k1,S1,c1,.inl ⟨c2,rfl⟩⟩
   | some T2 =>
    obtain ⟨r,c3,g3⟩:=H3 hI ts us Γ T2 k1 S1 (by simpa using h) (by omega) (λt ht=>hf t (by simp [ht])) (λv hv=>(hu v (by simp [hv])).mono hle)
     ⟨g2.2.1,b2.mono hle,by omega,by rw [s1,B5];omega,by omega⟩
    have hko:KidsOk k ((Γ,u)::us.map λu=>(Γ,u)):=by
     intro p hp;rcases Cy.1 hp with rfl | hp
     ·exact ⟨b2,hu0⟩
     ·obtain ⟨v,hv,rfl⟩:=C2.1 hp;exact ⟨b2,hu v (by simp [hv])⟩
    refine ⟨r,?_,?_⟩
    ·rw [B2];exact .inr ⟨τ,T1,k1,S1,c1,.inr ⟨T2,c2,c3⟩⟩
    ·cases r with
     | none =>
      exact TX (r:=none) hko r1 g2 g3
     | some y =>
      obtain ⟨T',k',S'⟩:=y;obtain ⟨N,r3,t1,t2,t3⟩:=g3;refine ⟨N1++N,TX (r:=some (k',BG T',N)) hko r1 g2 r3,by rw [t1,s1,CF],by rw [B5];simp only [Dx];omega,by simp only [Dx];omega⟩
def VR (m:Md) (p τ:Ty) (Γ:Au) (T:List (Int×Ty)) (k:Int):Option (Au×List (Int×Ty))->Prop
 | some (Γ',T')=>Mo m p τ Γ k (BG T) (some (Γ',BG T'))/\Γ'.length<=Γ.length+EK p
 | none=>Mo m p τ Γ k (BG T) none
def uL (m:Md) (ps ts:List Ty) (Γ:Au) (T:List (Int×Ty)) (k:Int):Option (Au×List (Int×Ty))->Prop
 | some (Γ',T')=>Sf m ps ts Γ k (BG T) (some (Γ',BG T'))/\Γ'.length<=Γ.length+DB ps
 | none=>Sf m ps ts Γ k (BG T) none
theorem TB {m:Md} {S:List Ty} {k:Int} {n:Nat} (hP:∀(p τ:Ty) (Γ:Au) (T:List (Int×Ty)),EK p<=n->StOk k (BG T)->TyK k τ->EnvOk k Γ->Γ.length+EK p<=1000000->∃r,GQ m Γ p τ T k S r/\VR m p τ Γ T k r) :
  ∀(ps ts:List Ty) (Γ:Au) (T:List (Int×Ty)),ps.length=ts.length->DB ps<=n->StOk k (BG T)->(∀t∈ts,TyK k t)->EnvOk k Γ->Γ.length+DB ps<=1000000->∃r,NA m k S ps ts Γ T r/\uL m ps ts Γ T k r
 | [],[],Γ,T,_,_,hs,_,hΓ,_=>by
  refine ⟨some (Γ,T),by simp only [NA],pB hs hΓ,by simp [DB]⟩
 | [],_::_,_,_,h,_,_,_,_,_=>by cases h
 | _::_,[],_,_,h,_,_,_,_,_=>by cases h
 | p::ps,t::ts,Γ,T,h,hn,hs,ht,hΓ,hg=>by
  simp only [DB] at hn hg;obtain ⟨r1,c1,g1⟩:=hP p t Γ T (by omega) hs (ht t (by simp)) hΓ (by omega);cases r1 with
  | none =>
   refine ⟨none,?_,iY (k:=k) (σ:=BG T) g1⟩;rw [NA];exact .inl ⟨c1,rfl⟩
  | some z =>
   obtain ⟨Γ1,T1⟩:=z;obtain ⟨g1,l1⟩:=g1;obtain ⟨r,c2,g2⟩:=TB hP ps ts Γ1 T1 (by simpa using h) (by omega) g1.1.2.1 (λu hu=>ht u (by simp [hu])) g1.2 (by omega);refine ⟨r,?_,?_⟩
   ·rw [NA];exact .inr ⟨Γ1,T1,c1,c2⟩
   ·have hto:TysOk k ts:=λu hu=>ht u (by simp [hu]);cases r with
    | none=>exact TA (r:=none) hto g1 g2
    | some y =>
     obtain ⟨Γ',T'⟩:=y;exact ⟨TA (r:=some (Γ',BG T')) hto g1 g2.1,by have:=g2.2;simp only [DB];omega⟩
def uJ (m:Md) (b a:Ty) (ps:List Ty) (ts:List Tm) (Γ:Au) (T:List (Int×Ty)) (k:Int) (S:List Ty):Id->Prop
 | some (T',k',S')=>∃N,LO m b a Γ ps ts k (BG T) (some (k',BG T',N))/\S'=S++N/\N.length<=Dx ts/\k'<=k+Dx ts
 | none=>LO m b a Γ ps ts k (BG T) none
def gF (m:Md):Prop:=∀(S:List Ty) (k:Int) (p τ:Ty) (Γ:Au) (T:List (Int×Ty)),StOk k (BG T)->TyK k τ->EnvOk k Γ->Γ.length+EK p<=1000000->∃r,GQ m Γ p τ T k S r/\VR m p τ Γ T k r
theorem Tw {m:Md} (hP:gF m) {n:Nat} (hI:VU m n):∀(ps:List Ty) (ts:List Tm) (Γ:Au) (b a:Ty) (T:List (Int×Ty)) (k:Int) (S:List Ty),ps.length=ts.length->Dx ts<=n->(∀t∈ts,BU t=true)->TyK k b->TyK k a->yU Γ T k S (Dx ts+DB ps) ->
  ∃r,KN m Γ b a ps ts T k S r/\uJ m b a ps ts Γ T k S r
 | [],[],Γ,b,a,T,k,S,_,_,_,_,_,hB=>by
  refine ⟨some (T,k,S),by simp only [KN],[],nY hB.st,by simp,by simp [Dx],by simp [Dx]⟩
 | [],_::_,_,_,_,_,_,_,h,_,_,_,_,_=>by cases h
 | _::_,[],_,_,_,_,_,_,h,_,_,_,_,_=>by cases h
 | p::ps,t::ts,Γ,b,a,T,k,S,h,hn,hf,hb,ha,⟨b1,b2,b3,b4,b5⟩=>by
  simp only [Dx,DB] at hn b3 b4 b5;obtain ⟨r1,c1,g1⟩:=hP S k p b Γ T b1 hb b2 (by omega);cases r1 with
  | none =>
   refine ⟨none,?_,Ss (k:=k) (σ:=BG T) g1⟩;rw [KN];exact .inl ⟨c1,rfl⟩
  | some z =>
   obtain ⟨Γ1,T1⟩:=z;obtain ⟨r1,l1⟩:=g1;obtain ⟨r2,c2,g2⟩:=hI t Γ1 T1 k S (by omega) (hf t (by simp)) ⟨r1.1.2.1,r1.2,by omega,by omega,by omega⟩;cases r2 with
   | none =>
    refine ⟨none,?_,P7 r1 g2⟩;rw [KN];exact .inr ⟨Γ1,T1,c1,.inl ⟨c2,rfl⟩⟩
   | some z =>
    obtain ⟨τ,T2,k2,S2⟩:=z;obtain ⟨N1,r2,d1,d2,d3⟩:=g2;have hle:k<=k2:=r2.1.1;obtain ⟨r3,c3,g3⟩:=IW m T2 k2 S2 r2.1.2.1 ⟨r2.2.1,r2.2.2.1⟩ (ha.mono hle);cases r3 with
    | none =>
     refine ⟨none,?_,UM ha.2 r1 r2 g3⟩;rw [KN];exact .inr ⟨Γ1,T1,c1,.inr ⟨τ,T2,k2,S2,c2,.inl ⟨c3,rfl⟩⟩⟩
    | some T3 =>
     obtain ⟨r,c4,g4⟩:=Tw hP hI ps ts Γ b a T3 k2 S2 (by simpa using h) (by omega) (λt ht=>hf t (by simp [ht])) (hb.mono hle) (ha.mono hle)
      ⟨g3.2.1,b2.mono hle,by omega,by rw [d1,B5];omega,by omega⟩
     refine ⟨r,?_,?_⟩
     ·rw [KN];exact .inr ⟨Γ1,T1,c1,.inr ⟨τ,T2,k2,S2,c2,.inr ⟨T3,c3,c4⟩⟩⟩
     ·cases r with
      | none=>exact Tv (r:=none) ha.2 hb.2 b2 r1 r2 g3 g4
      | some y =>
       obtain ⟨T',k',S'⟩:=y;obtain ⟨N,r4,t1,t2,t3⟩:=g4;exact ⟨N1++N,Tv (r:=some (k',BG T',N)) ha.2 hb.2 b2 r1 r2 g3 r4,by rw [t1,d1,CF],by rw [B5];simp only [Dx];omega,by simp only [Dx];omega⟩
def pA (tt:TT) (n:Nat) (env:Env) (todo:List DI):Option PBa :=
 match Bm todo ([],[]) with
 | some (_,o,todo')=>match o.guard,o.op with
  | none,.build t ⟨parts⟩=>match lk tt t with
   | some { sh:=.arr m e,zero:=z0::z,.. }=>match lk tt e,Ke env 1 parts,BM n o.dst with
    | some ti,some ds,true=>match Nat.beq ti.size 1,Nat.beq (ds.length+1) m,Nat.beq (z.length+1) m,z0.one with
     | true,true,true,true=>some ⟨z0::ds,o.dst,todo'⟩
     | _,_,_,_=>none
    | _,_,_=>none
   | _=>none
  | _,_=>none
 | none=>none
structure PVx where
 xs:List V
 len:Nat
 m:Int
 g:Option (Bool×Bool)
 ob:List Prop
 t:Nat
 todo:List DI
def zC (tt:TT) (n:Nat) (env:Env) (todo:List DI):Option PVx :=
 match Bm todo ([],[]) with
 | some (all,o,todo')=>match o.op,Cq all env o with
  | .index t x i,some g=>match lk tt t,Mv (Am g) env x,Mv (Am g) env i with
   | some { sh:=.arr len e,.. },some (.imm (.agg xs),o1),some (.imm (.int _ m),o2)=>match lk tt e,o.dst,BM n o.dst with
    | some ti,some t',true=>match Nat.beq ti.size 1,ti.agg with
     | true,false=>some ⟨xs,len,m,g,Jh o1 o2,t',todo'⟩
     | _,_=>none
    | _,_,_=>none
   | _,_,_=>none
  | _,_=>none
 | none=>none
section
variable {n:Nat} {k:List DI} {a:Act}
theorem xH (htt:TTok P tt) {c:PBa} (h:pA tt n env todo=some c) (hk:G P n F Q c.todo (BK c.dst (In c.ds) env) st ids):G P n F Q todo env st ids:=by
 unfold pA at h
 split at h
 ·rename_i all o todo' h1
  split at h
  ·rename_i t parts hg hop
   split at h
   ·rename_i m e _ _ _ z0 z ht
    split at h
    ·rename_i ti ds hti hps hd
     split at h
     ·rename_i hsz hlen hzlen hone;cases h;refine BF (fr:=[]) (wr:=[]) (rd:=[]) h1 ?_ hd (λc hc=>by rw [hop] at hc;cases hc) hk;intro I μ st1 ids1 a w hag hst hon;refine ⟨λ_=>?_,λhw=>by rw [AH hg] at hw;cases hw⟩;have hops:=Bj hon;rw [hop] at hops;obtain ⟨q1,q2,q3⟩:=ON (a:=a) (I:=I) (μ:=μ) hps (λx hx=>hops x (by simp only [Op.operands];simpa using hx));have hty:=htt t _ ht;obtain ⟨inf,zv,hi1,_,_,hi4,hi5,hi6⟩:=hty.info;have hu:P.underlying t=some (.array m e):=htt.sh ht;have hs1:ti.size=1:=CD hsz;obtain ⟨hz1,hz2⟩:=hi5 I μ;have hzl:zv.cells.toList.length=m:=by
       rw [hz1];exact CD hzlen
      have hpl:(parts.map λp=>a.eval p.2).length+1=m:=by rw [q2.1];exact CD hlen
      obtain ⟨v0,vr,hvz⟩:∃v0 vr,zv.cells.toList=v0::vr:=by
       cases hc:zv.cells.toList with
       | nil=>rw [hc] at hzl;simp at hzl;omega
       | cons a b=>exact ⟨a,b,rfl⟩
      rw [hvz] at hzl hz2;have hv0:RepD I μ v0 z0:=hz2 0 v0 z0 rfl rfl;have hfill:=XR (parts.map λp=>a.eval p.2) [v0] vr (by simp at hzl;simp at hpl;simp;omega) q3;simp only [Da,Cz,De,IO,Dh] at hfill;have hrun:(execOp a.eval o).run P w = .ok (.value (.agg (v0::parts.map λp=>a.eval p.2).toArray)) w:=by
       simp only [execOp,hop,Instr.build,Sem.run_bind,zeroValue,typeInfo,run_program,Result.andThen_ok,hi1,hi4,Sem.run_pure,run_underlying hu,(htt e ti hti).sizeOf w,hs1,MU,q1];rw [show zv.cells=zv.cells.toList.toArray from rfl,hvz,hfill];rfl
      rw [hrun];refine ⟨I,μ,hst,H1 ⟨by simp [q2.1],λi v d p q=>?_⟩ (λv hv=>?_),Mu.le_refl μ,Ext.refl _ _ _ _⟩
      ·match i,p,q with
       | 0,p,q=>cases p;cases q;exact hv0
       | i+1,p,q=>exact q2.2 i v d (by simpa using p) (by simpa using q)
      ·rcases Cy.1 hv with rfl | hv
       ·exact hv0.one hone
       ·exact q3 v hv
     ·cases h
    ·cases h
   ·cases h
  ·cases h
 ·cases h
theorem zbg (htt:TTok P tt) {c:PVx} {x:V} (h:zC tt n env todo=some c) (hc:Am c.g->0<=c.m/\c.m<c.len/\c.xs[c.m.toNat]?=some x) (hob:A4 c.ob)
  (hk:G P n F Q c.todo ((c.t,gD c.g (.imm x))::env) st ids):G P n F Q todo env st ids:=by
 unfold zC at h
 split at h
 ·rename_i all o todo' h1
  split at h
  ·rename_i t y i g hop hg
   split at h
   ·rename_i len e _ _ _ _ xs o1 kk m o2 ht hx hi
    split at h
    ·rename_i ti t' hti hdst hd
     split at h
     ·rename_i hsz hagg;cases h;have hk:G P n F Q todo' (BK o.dst (gD g (.imm x)) env) st ids:=by rw [hdst];exact hk
      refine BF (fr:=[]) (wr:=[]) (rd:=[]) h1 (D3 hg λI μ st1 ids1 a w _ hst hops hcx=>?_) (by rw [hdst] at hd ⊢;exact hd) (λc hc=>by rw [hop] at hc;cases hc) hk;rw [hop] at hops;obtain ⟨ho1,ho2⟩:=B4 hob;have rx:=(Eh hx ho1 hcx (hops y (by simp [Op.operands]))).immInv;have ri:=(Eh hi ho2 hcx (hops i (by simp [Op.operands]))).immInv.intInv;obtain ⟨c0,c1,c2⟩:=hc hcx;simp only at c0 c1 c2;have hu:P.underlying t=some (.array len e):=htt.sh ht;have hs1:ti.size=1:=CD hsz;obtain ⟨cs,hcs,hl,hrep⟩:∃cs:Array Value,a.eval y = .agg cs/\cs.size=xs.length/\∀(i:Nat) (c:Value) (x:V),cs[i]?=some c->xs[i]?=some x->RepV I c x:=by
       have:∀v,RepV I v (.agg xs)->∃cs:Array Value,v = .agg cs/\cs.size=xs.length/\∀(i:Nat) (c:Value) (x:V),cs[i]?=some c->xs[i]?=some x->RepV I c x:=λv hv=>by
        cases hv with
        | agg cs _ hl _ h=>exact ⟨cs,rfl,hl,h⟩
       exact this _ rx
      have hlt:m.toNat<cs.size:=by rw [hl];exact (AL.1 c2).1
      have hget:cs[m.toNat]?=some cs[m.toNat]:=PB hlt;have hr:=hrep m.toNat _ x hget c2;have hna:=(htt e ti hti).isAgg w;rw [hagg] at hna;simp only [execOp,hop,ri,hcs];have hrun:(do pure (.value (<- Instr.index t (.agg cs) (.int kk m))):Sem Next).run P w = .ok (.value cs[m.toNat]) w:=by
       apply A7;simp only [Instr.index,Sem.run_bind,asIntOf,Sem.run_pure,Result.andThen_ok,run_underlying hu];simp [c0,c1,(htt e ti hti).sizeOf w,hs1,part,hna,hget]
      rw [hrun];exact ⟨I,μ,hst,.imm _ _ hr,Mu.le_refl μ,Ext.refl _ _ _ _⟩
     ·cases h
    ·cases h
   ·cases h
  ·cases h
 ·cases h
end
section
variable {n:Nat}
def cV (m:Nat):D:=.agg (List.replicate (m+1) SX)
theorem Bn (t m:Nat) (h:lk env t=some (cV m)):DGo P n F Q todo env st ids:=by
 intro b cs I μ a w items hd hc;have hv:=hc.env t _ h;generalize a.tmps.getD t undef=v at hv;cases hv with
 | agg cs ds hl _ hr =>
  have h0:0<cs.size:=by rw [hl];simp
  have:=hr 0 cs[0] SX (PB h0) rfl;generalize cs[0]=u at this;cases this;omega
theorem Bf {c:P2} {x:V} (m:Nat) (σ:List (Nat×Nat)) (h:Po n env todo=some c) (hob:A4 c.ob) (hE:Hy P c.f (F3 (DN σ) c.das) st0 (.pan x)) (hb:E8 σ st st0) (hn:Do σ (Bg σ) (IB c.das)=true) (hq:Lw Q x)
  (h1:Bm todo (EO σ,[])=some (c.all,c.o,todo')) (hk:G P n F Q todo' (BK c.dst (cV m) env) st ids):G P n F Q todo env st ids:=by
 obtain ⟨_,q2,q3,q4,q5,q6⟩:=Nq (P:=P) h hob;rw [q6] at q4 hk;exact BF (fr:=[]) (wr:=[]) h1 (Rh q2 q3 hE hb hn hq) q4 q5 hk
theorem DG {m:Nat} (I:Imm) (μ:Mu) (v:Value):¬RepD I μ v (cV m):=λh=>by
 cases h with
 | agg cs ds hl _ hr =>
  have h0:0<cs.size:=by rw [hl];simp
  have:=hr 0 cs[0] SX (PB h0) rfl;generalize cs[0]=u at this;cases this;omega
theorem jC (I:Imm) (μ:Mu) (v:Value):¬RepD I μ v SX:=λh=>by
 cases h;omega
structure PVo where
 d:D
 all:List Oper
 o:Oper
 todo:List DI
def zB (n:Nat) (env:Env) (t:Nat) (todo:List DI):Option PVo :=
 match Bm todo ([],[]) with
 | some (all,o,todo')=>match o.guard,Fp (o.op.operands.toList.filterMap λx=>match x with | .tmp i=>some i | _=>none) t,lk env t,BM n o.dst with
  | none,true,some d,true=>some ⟨d,all,o,todo'⟩
  | _,_,_,_=>none
 | none=>none
theorem Et (t:Nat) (d':D) {c:PVo} (h:zB n env t todo=some c) (hv:∀I μ v,¬RepD I μ v c.d) (hnd:∀x,c.o.op ≠ .defer x) (hk:G P n F Q c.todo (BK c.o.dst d' env) st ids):G P n F Q todo env st ids:=by
 unfold zB at h
 split at h
 ·rename_i all o todo' h1
  split at h
  ·rename_i d hg hm hl hd;cases h;refine BF (fr:=[]) (wr:=[]) (rd:=[]) h1 (λI μ st2 ids1 a w hag hst hon=>⟨λ_=>?_,λhw=>by rw [AH hg] at hw;cases hw⟩) hd hnd hk;exfalso;have hm:=BT.1 hm;obtain ⟨x,hx,e⟩:=List.mem_filterMap.1 hm;cases x with
   | tmp i =>
    cases e;exact hv I μ _ ((Bj hon) (.tmp t) (by simpa using hx) d hl)
   | _=>cases e
  ·cases h
 ·cases h
end
theorem cD (Γ:Au):∀c∈D5 Γ,c.length=5:=λc hc=>by obtain ⟨x,_,rfl⟩:=C2.1 hc;simp [fS]
theorem sA (es:List (List V)):Tq4 137 [.imm (.sl es)] [] (.ret (.clip es) []):=by
 exact Ad ttY_ok func137 rfl [1,2]<|Ai rfl<|zbh ttY_ok rfl rfl rfl<|Ai rfl<|Ah ⟨_,AK⟩
theorem Ko (Γ:Au) (x:Str) (t:Ty) (hΓ:Γ.length<=1000000):Tq3 75 [.sl (D5 Γ),.str x,.agg (dTyc t)] (.sl (D5 (Γ++[(x,t)]))):=by
 have hC:=sA (D5 Γ);have h5:=cD Γ;have hl:(D5 Γ).length<=1000000:=by simpa [D5] using hΓ
 have he:D5 (Γ++[(x,t)])=D5 Γ++[.str x::dTyc t]:=by simp [D5,fS]
 rw [he];generalize D5 Γ=es at *;obtain ⟨t1,t2,t3,t4⟩:=t;exact Ad ttY_ok func75 rfl [1,2,3]<|Ai rfl<|Aq [] [] [] rfl hC trivial rfl rfl<|Ai rfl<|kU ttY_ok rfl ⟨by simp,by simp [maxLen];omega,by simp;omega,λc hc=>h5 c hc,by simp⟩ (λc hc=>h5 c hc)<|yg [] rfl (by simp;rfl)<|Aa rfl rfl rfl
def nT:List V:=[.nilfn,.fn (.func 192),.fn (.func 193),.fn (.func 194),.fn (.func 195),.fn (.func 196),.fn (.func 197),.fn (.func 198),.fn (.func 199),.fn (.func 200),.fn (.func 200),.fn (.func 200),.fn (.func 201),.fn (.func 202),.fn (.func 203),.fn (.func 204),.fn (.func 205),.fn (.func 206),.fn (.func 207),.fn (.func 208),.fn (.func 209),.fn (.func 210),.fn (.func 211),.fn (.func 212),.fn (.func 213),.fn (.func 192),.fn (.func 214),.fn (.func 215),.fn (.func 194)]
theorem jP:Tq3 141 [] (.agg nT):=by
 exact Ad ttY_ok func141 rfl [1]<|Ai rfl<|xH ttY_ok rfl<|Ai rfl<|Aa rfl rfl rfl
theorem Ed (op:Nat) {f:FuncId} (hop:nT[op]?=some (.fn (.func f))) {r:L0} (h:C0 f m Γ (.mk op n x ks ps) T k S r):EI m Γ (.mk op n x ks ps) T k S r:=by
 have hlt:op<29:=(AL.1 hop).1;have hR:=jP;unfold EI C0;unfold C0 at h;refine Ad ttY_ok func79 rfl [5,6,4,7]<|Ai rfl<|Af rfl hR<|Ai rfl<|zbg ttY_ok rfl (λ_=>⟨by simp,by simp;omega,by simpa using hop⟩) (by simp)<|Ai rfl ?_;cases r with
 | some z =>
  obtain ⟨⟨τ1,τ2,τ3,τ4⟩,T',k',S'⟩:=z;exact A5 [(1,1),(2,2),(3,3)] [(4,4)] [] (fr:=[4]) (nm:=[1,2,4,1,2,3]) rfl trivial (by simp) h Ay rfl trivial rfl rfl rfl<|yg [] rfl (by simp;rfl)<|Ah ⟨_,B6⟩
 | none =>
  exact Bf 3 [(1,1),(2,2),(3,3)] rfl (by simp) h Ay rfl rfl rfl<|yg [] rfl (by simp;rfl)<|Bn 14 3 rfl
theorem CI {i:Nat} {u:Tm} {op:Int} (hu:ks[i]?=some u) {r:L0} (h:EI m Γ u T k S r) :
  Tq4 260 [.ref 1 0,.imm (.agg (dTmc (.mk op n x ks ps))),.imm (.int .i64 i),.imm (.sl (D5 Γ))] (CP m T k S) (Dp m r):=by
 unfold EI C0 at h;have hg:=Eu hu;have hlt:=(AL.1 hu).1;obtain ⟨u1,u2,u3,u4,u5⟩:=u;refine Ad ttY_ok func260 rfl [5,6,4,7]<|Ai rfl<|Sl rfl hg<|Ai rfl ?_;cases r with
 | some z =>
  obtain ⟨⟨τ1,τ2,τ3,τ4⟩,T',k',S'⟩:=z;exact Aq [4] [(1,1),(2,2),(3,3)] [(4,4)] rfl h Ay rfl rfl<|Ai rfl<|Ah ⟨_,B6⟩
 | none =>
  exact Bf 3 [(1,1),(2,2),(3,3)] rfl (by simp) h Ay rfl rfl rfl<|Bn 16 3 rfl
def rnL (i j:Nat):List D->List D->Prop
 | [],[]=>True
 | d::r,d'::r'=>(d=d'\/∃l,d = .own i l/\d' = .own j l)/\rnL i j r r'
 | _,_=>False
theorem W8 {i j:Nat}:∀{ds ds':List D},rnL i j ds ds'->ds.length=ds'.length/\∀(q:Nat) (d':D),ds'[q]?=some d'->∃d,ds[q]?=some d/\(d=d'\/∃l,d = .own i l/\d' = .own j l)
 | [],[],_=>⟨rfl,λi d h=>by simp at h⟩
 | d::r,d'::r',h=>by
  obtain ⟨h1,h2⟩:=W8 h.2;refine ⟨by simp [h1],λq x hx=>?_⟩
  match q,hx with
  | 0,hx=>simp at hx;subst hx;exact ⟨d,rfl,h.1⟩
  | q+1,hx=>exact h2 q x (by simpa using hx)
 | [],_::_,h=>h.elim
 | _::_,[],h=>h.elim
theorem F7 {n:Nat} (i j k:Nat) {t:TypeId} {sz':Nat} {ds:List D} (ds':List D) (hl:lk st i=some (some (.row e sz es))) (hk:lk st k=some (some (.cells t sz' ds))) (hik:i≠k) (hcl:rnL i j ds ds') (h:DGo P n F Q todo env ((k,some (.cells t sz' ds'))::(j,some (.row e sz es))::(i,none)::st) ids'):DGo P n F Q todo env st (j::ids'):=by
 refine EY λI μ a w hc=>?_;obtain ⟨g,hg,hr⟩:=hc.blk i _ hl;obtain ⟨gk,hgk,_⟩:=hc.blk k _ hk;have hjk:j≠k:=λe=>by rw [<- e,hc.idsFree j (by simp)] at hgk;cases hgk
 obtain ⟨q1,q2,q3⟩:=StRep.relay (R:=[i]) (new:=[(j,g,.row e sz es)]) (ids':=ids') hc.toStRep
  (λp hp b hb=>by rw [AP.1 hp] at hb;exact ⟨i,_,g,by simp,hl,hg,hb⟩)
  (λp hp q hq b _ _=>by rw [AP.1 hp,AP.1 hq]) (Imm.le_refl I) hc.imm (λb o h=>.inl h)
  (λhle p hp=>by rw [AP.1 hp];exact hr.mono (Imm.le_refl I) hle)
 have hmj:Eo [(j,g,Blk.row e sz es)] μ j=some g:=by simp [Eo,lk]
 have hmi:∀x v,μ x=some v->Eo [(j,g,Blk.row e sz es)] μ x=some v:=q1;have hk2:A1 ((j,some (.row e sz es))::(i,none)::st) k (.cells t sz' ds):=by
  refine AB.2 (.inr ⟨hjk.symm,?_⟩);show lk ((i,none)::st) k=_;rw [A6 _ _ hik];exact hk
 obtain ⟨c1,c2⟩:=W8 hcl;obtain ⟨p1,p2⟩:=q2.retell (st1:=(k,some (.cells t sz' ds'))::(j,some (.row e sz es))::(i,none)::st) (λx bb hlb=>by
  rcases AB.1 hlb with ⟨rfl,rfl⟩ | ⟨_,h2⟩
  ·refine ⟨_,hk2,λgb hb=>?_⟩;obtain ⟨hs,b,us,e1,e2,e3,e4⟩:=hb;refine ⟨by rw [<- c1,hs],b,us,e1,e2,⟨by rw [<- c1,e3.1],λq v y hv hy=>?_⟩,e4⟩;obtain ⟨d,y1,y2⟩:=c2 q y hy;have hr:=e3.2 q v d hv y1;rcases y2 with rfl | ⟨l,rfl,rfl⟩
   ·exact hr
   ·cases hr with
    | own _ _ ad cap hm =>
     rw [hmi i g hg] at hm;cases hm;exact .own j l ad cap hmj
  ·exact ⟨bb,h2,λ_ h=>h⟩)
 exact ⟨I,_,env,_,ids',p1,λt d hd=>(hc.env t d hd).mono (Imm.le_refl I) q1,q3.trans p2,.of_le q1,h⟩
def outK (m:Md):Id->Out
 | some (T',k',S')=>.ret (.imm (.tup [])) (UH m T' k' S')
 | none=>.pan G0
theorem Kt (m:Md) (Γ:Au) (op n:Int) (x:Str) (ks:List Tm) (ps:List Ty) (u:Ty) (T:List (Int×Ty)) (k:Int) (S:List Ty) (r:Id) (hl:ks.length<=1000000) (h:B2 m Γ ks (ks.map λ_=>u) T k S r) :
  Tq4 261 [.ref 1 0,.imm (.agg (dTmc (.mk op n x ks ps))),.imm (.sl (D5 Γ)),.imm (.agg (dTyc u))] (CP m T k S) (outK m r):=by
 obtain ⟨u1,u2,u3,u4⟩:=u;refine Ad ttY_ok func261 rfl [5,6,4,7,8,9]<|Ai rfl<|F7 3 4 1 [.imm (.str m.name),.imm (.sl (m.datas.map C7)),.imm (.sl (m.funs.map CG)),.mapr 2,.imm (.int .i64 (k)),.own 4 (AA S).length] rfl rfl (by decide) ⟨.inl rfl,.inl rfl,.inl rfl,.inl rfl,.inl rfl,.inr ⟨_,rfl,rfl⟩,trivial⟩<|Ak (λz:Nat×List (Int×Ty)×Int×List Ty=>[(12,.imm (.int .i64 z.1)),(11,.imm (.int .i64 ks.length)),(0,.ref 1 0),(2,.imm (.sl (D5 Γ))),(5,.ref 5 0),(7,.ref 6 0)]) (λz=>(5,some (.immb 49 5 (dTmc (.mk op n x ks ps))))::(6,some (.immb 25 4 (dTyc (.mk u1 u2 u3 u4))))::UH m z.2.1 z.2.2.1 z.2.2.2) [7,8,9] (λz=>ks.length-z.1)
  (λz=>z.1<=ks.length/\B2 m Γ (ks.drop z.1) ((ks.drop z.1).map λ_=>.mk u1 u2 u3 u4) z.2.1 z.2.2.1 z.2.2.2 r) (0,T,k,S)
  ⟨AJ _,h⟩ ⟨rfl,BB (by simp),Cb⟩ B6 rfl λz hz ih=>?_
 clear h;obtain ⟨j,T1,k1,S1⟩:=z;obtain ⟨hj1,hj2⟩:=hz;simp only at hj1 hj2 ih;refine As rfl<|Ab rfl (λh'=>?_) (λh'=>?_)
 ·have hlt:j<ks.length:=by simp at h';omega
  obtain ⟨t,ht⟩:=Ao hlt;rw [Av ht,C6,B2] at hj2;refine As rfl ?_;rcases hj2 with ⟨hI,rfl⟩ | ⟨⟨τ1,τ2,τ3,τ4⟩,T2,k2,S2,hI,hj2⟩
  ·have hK:=CI (op:=op) (n:=n) (x:=x) (ps:=ps) ht hI;simp only [Dp] at hK;exact Bf 3 [(1,1),(2,2),(4,3)] rfl (by simp) hK Ay rfl rfl rfl<|Ai rfl<|Et 20 (.imm (.tup [])) rfl DG (λx h=>by cases h)<|yg [] rfl (by simp;rfl)<|Bn 20 3 rfl
  ·have hK:=CI (op:=op) (n:=n) (x:=x) (ps:=ps) ht hI;simp only [Dp] at hK;refine A5 [(1,1),(2,2),(4,3)] [(4,7)] [] (fr:=[7]) (nm:=[1,2,7,1,2,4]) rfl trivial (by simp) hK Ay rfl trivial rfl rfl rfl<|Ai rfl ?_;rcases hj2 with ⟨hE,rfl⟩ | ⟨T3,hE,hj2⟩
   ·unfold DU at hE;exact Bd [(1,1),(2,2),(7,3)] rfl (by simp) hE Ay rfl rfl rfl<|ND 1 rfl (by simp;rfl)<|Bx 22 rfl
   ·unfold Dq at hE;exact A5 [(1,1),(2,2),(7,3)] [] [] (fr:=[]) (nm:=[1,2,7,1,2,7]) rfl trivial (by simp) hE Ay rfl trivial rfl rfl rfl<|yg [] rfl (by simp;rfl)<|Bt 7 4 rfl<|Ac (ih (j+1,T3,k2,S2) (by simp only;omega) ⟨by simp only;omega,hj2⟩) ⟨AU,B6⟩ B6 rfl
 ·have hlt:¬j<ks.length:=by simp at h';omega
  rw [Bo (by omega)] at hj2;simp only [HL,B2] at hj2;subst hj2;exact Az rfl<|As rfl<|BR ⟨_,B6⟩
theorem Kq (m:Md) (Γ:Au) (op n:Int) (x:Str) (t0:Tm) (ks:List Tm) (ps:List Ty) (s:Int) (T:List (Int×Ty)) (k:Int) (S:List Ty) (r:Id) (hk:0<=k/\k<=1000000) (h:B2 m Γ [t0] [GJ s (Aw k)] T (k+1) S r) :
  Tq4 264 [.ref 1 0,.imm (.agg (dTmc (.mk op n x (t0::ks) ps))),.imm (.int .i64 s),.imm (.sl (D5 Γ))] (CP m T k S) (Dp m (r.map λz=>(Aw k,z))):=by
 have hA:=Ir m T k S hk;have hKd:=BA s [Aw k];have ht:(t0::ks)[0]?=some t0:=rfl;rw [B2] at h;refine Ad ttY_ok func264 rfl [5,6,7,4,8]<|Ai rfl<|Aq [] [(1,1),(2,2),(3,3)] [] rfl hA Ay rfl rfl<|Ai rfl ?_;rcases h with ⟨hI,rfl⟩ | ⟨⟨τ1,τ2,τ3,τ4⟩,T2,k2,S2,hI,h⟩
 ·have hK:=CI (op:=op) (n:=n) (x:=x) (ps:=ps) ht hI;simp only [Dp] at hK;exact Bf 3 [(1,1),(2,2),(3,3)] rfl (by simp) hK Ay rfl rfl rfl<|Ai rfl<|Af rfl hKd<|Ai rfl<|Et 16 (.imm (.tup [])) rfl DG (λx h=>by cases h)<|yg [] rfl (by simp;rfl)<|Bn 16 3 rfl
 ·have hK:=CI (op:=op) (n:=n) (x:=x) (ps:=ps) ht hI;simp only [Dp] at hK;refine A5 [(1,1),(2,2),(3,3)] [(4,4)] [] (fr:=[4]) (nm:=[1,2,4,1,2,3]) rfl trivial (by simp) hK Ay rfl trivial rfl rfl rfl<|Ai rfl<|Af rfl hKd<|Ai rfl ?_;rcases h with ⟨hE,rfl⟩ | ⟨T3,hE,h⟩
  ·unfold DU at hE;exact Bd [(1,1),(2,2),(4,3)] rfl (by simp) hE Ay rfl rfl rfl<|ND 1 rfl (by simp;rfl)<|Bx 21 rfl
  ·unfold Dq at hE;simp only [B2] at h;subst h;exact A5 [(1,1),(2,2),(4,3)] [] [] (fr:=[]) (nm:=[1,2,4,1,2,4]) rfl trivial (by simp) hE Ay rfl trivial rfl rfl rfl<|yg [] rfl (by simp;rfl)<|Ah ⟨_,B6⟩
theorem Rk (m:Md) (Γ:Au) (op n:Int) (x:Str) (ks:List Tm) (ps:List Ty) (T:List (Int×Ty)) (k:Int) (S:List Ty):C0 192 m Γ (.mk op n x ks ps) T k S (some (AR,T,k,S)):=by
 have hKd:=BA 1 [];unfold C0;exact Ad ttY_ok func192 rfl [4,5,6,7]<|F7 3 4 1 [.imm (.str m.name),.imm (.sl (m.datas.map C7)),.imm (.sl (m.funs.map CG)),.mapr 2,.imm (.int .i64 (k)),.own 4 (AA S).length] rfl rfl (by decide) ⟨.inl rfl,.inl rfl,.inl rfl,.inl rfl,.inl rfl,.inr ⟨_,rfl,rfl⟩,trivial⟩<|As rfl<|Af rfl hKd<|Ai rfl<|Ah ⟨_,B6⟩
theorem rL (m:Md) (Γ:Au) (op n:Int) (x:Str) (ks:List Tm) (ps:List Ty) (T:List (Int×Ty)) (k:Int) (S:List Ty):C0 193 m Γ (.mk op n x ks ps) T k S (some (BW,T,k,S)):=by
 have hKd:=BA 2 [];unfold C0;exact Ad ttY_ok func193 rfl [4,5,6,7]<|F7 3 4 1 [.imm (.str m.name),.imm (.sl (m.datas.map C7)),.imm (.sl (m.funs.map CG)),.mapr 2,.imm (.int .i64 (k)),.own 4 (AA S).length] rfl rfl (by decide) ⟨.inl rfl,.inl rfl,.inl rfl,.inl rfl,.inl rfl,.inr ⟨_,rfl,rfl⟩,trivial⟩<|As rfl<|Af rfl hKd<|Ai rfl<|Ah ⟨_,B6⟩
theorem Rj (m:Md) (Γ:Au) (op n:Int) (x:Str) (ks:List Tm) (ps:List Ty) (T:List (Int×Ty)) (k:Int) (S:List Ty):C0 194 m Γ (.mk op n x ks ps) T k S (some (Di,T,k,S)):=by
 have hKd:=BA 3 [];unfold C0;exact Ad ttY_ok func194 rfl [4,5,6,7]<|F7 3 4 1 [.imm (.str m.name),.imm (.sl (m.datas.map C7)),.imm (.sl (m.funs.map CG)),.mapr 2,.imm (.int .i64 (k)),.own 4 (AA S).length] rfl rfl (by decide) ⟨.inl rfl,.inl rfl,.inl rfl,.inl rfl,.inl rfl,.inr ⟨_,rfl,rfl⟩,trivial⟩<|As rfl<|Af rfl hKd<|Ai rfl<|Ah ⟨_,B6⟩
theorem ZZ (m:Md) (Γ:Au) (op n:Int) (x:Str) (ks:List Tm) (ps:List Ty) (T:List (Int×Ty)) (k:Int) (S:List Ty) (r:Id) (hl:ks.length<=1000000) (h:B2 m Γ ks (ks.map λ_=>AR) T k S r):C0 200 m Γ (.mk op n x ks ps) T k S (r.map λz=>(AR,z)):=by
 have hKd:=BA 1 [];have hKi:=BA 1 [];have hH:=Kt m Γ op n x ks ps AR T k S r hl h;unfold C0;refine Ad ttY_ok func200 rfl [5,6,4,7]<|Ai rfl<|Af rfl hKi<|Ai rfl ?_;cases r with
 | none =>
  exact Bd [(1,1),(2,2),(3,3)] rfl (by simp) hH Ay rfl rfl rfl<|ND 1 rfl (by simp;rfl)<|Bx 11 rfl
 | some z =>
  obtain ⟨T',k',S'⟩:=z;exact A5 [(1,1),(2,2),(3,3)] [(4,4)] [] (fr:=[4]) (nm:=[1,2,4,1,2,3]) rfl trivial (by simp) hH Ay rfl trivial rfl rfl rfl<|yg [] rfl (by simp;rfl)<|Af rfl hKd<|Ai rfl<|Ah ⟨_,B6⟩
theorem wU (m:Md) (Γ:Au) (op n:Int) (x:Str) (ks:List Tm) (ps:List Ty) (T:List (Int×Ty)) (k:Int) (S:List Ty) (r:Id) (hl:ks.length<=1000000) (h:B2 m Γ ks (ks.map λ_=>AR) T k S r):C0 201 m Γ (.mk op n x ks ps) T k S (r.map λz=>(BW,z)):=by
 have hKd:=BA 2 [];have hKi:=BA 1 [];have hH:=Kt m Γ op n x ks ps AR T k S r hl h;unfold C0;refine Ad ttY_ok func201 rfl [5,6,4,7]<|Ai rfl<|Af rfl hKi<|Ai rfl ?_;cases r with
 | none =>
  exact Bd [(1,1),(2,2),(3,3)] rfl (by simp) hH Ay rfl rfl rfl<|ND 1 rfl (by simp;rfl)<|Bx 11 rfl
 | some z =>
  obtain ⟨T',k',S'⟩:=z;exact A5 [(1,1),(2,2),(3,3)] [(4,4)] [] (fr:=[4]) (nm:=[1,2,4,1,2,3]) rfl trivial (by simp) hH Ay rfl trivial rfl rfl rfl<|yg [] rfl (by simp;rfl)<|Af rfl hKd<|Ai rfl<|Ah ⟨_,B6⟩
theorem za7 (m:Md) (Γ:Au) (op n:Int) (x:Str) (ks:List Tm) (ps:List Ty) (T:List (Int×Ty)) (k:Int) (S:List Ty) (r:Id) (hl:ks.length<=1000000) (h:B2 m Γ ks (ks.map λ_=>AR) T k S r):C0 213 m Γ (.mk op n x ks ps) T k S (r.map λz=>(Di,z)):=by
 have hKd:=BA 3 [];have hKi:=BA 1 [];have hH:=Kt m Γ op n x ks ps AR T k S r hl h;unfold C0;refine Ad ttY_ok func213 rfl [5,6,4,7]<|Ai rfl<|Af rfl hKi<|Ai rfl ?_;cases r with
 | none =>
  exact Bd [(1,1),(2,2),(3,3)] rfl (by simp) hH Ay rfl rfl rfl<|ND 1 rfl (by simp;rfl)<|Bx 11 rfl
 | some z =>
  obtain ⟨T',k',S'⟩:=z;exact A5 [(1,1),(2,2),(3,3)] [(4,4)] [] (fr:=[4]) (nm:=[1,2,4,1,2,3]) rfl trivial (by simp) hH Ay rfl trivial rfl rfl rfl<|yg [] rfl (by simp;rfl)<|Af rfl hKd<|Ai rfl<|Ah ⟨_,B6⟩
theorem rO (m:Md) (Γ:Au) (op n:Int) (x:Str) (ks:List Tm) (ps:List Ty) (T:List (Int×Ty)) (k:Int) (S:List Ty) (r:Id) (hl:ks.length<=1000000) (h:B2 m Γ ks (ks.map λ_=>AR) T k S r):C0 214 m Γ (.mk op n x ks ps) T k S (r.map λz=>(AR,z)):=by
 have hKd:=BA 1 [];have hKi:=BA 1 [];have hH:=Kt m Γ op n x ks ps AR T k S r hl h;unfold C0;refine Ad ttY_ok func214 rfl [5,6,4,7]<|Ai rfl<|Af rfl hKi<|Ai rfl ?_;cases r with
 | none =>
  exact Bd [(1,1),(2,2),(3,3)] rfl (by simp) hH Ay rfl rfl rfl<|ND 1 rfl (by simp;rfl)<|Bx 11 rfl
 | some z =>
  obtain ⟨T',k',S'⟩:=z;exact A5 [(1,1),(2,2),(3,3)] [(4,4)] [] (fr:=[4]) (nm:=[1,2,4,1,2,3]) rfl trivial (by simp) hH Ay rfl trivial rfl rfl rfl<|yg [] rfl (by simp;rfl)<|Af rfl hKd<|Ai rfl<|Ah ⟨_,B6⟩
theorem rV (m:Md) (Γ:Au) (op n:Int) (x:Str) (ks:List Tm) (ps:List Ty) (T:List (Int×Ty)) (k:Int) (S:List Ty) (r:Id) (hk:0<=k/\k<=1000000) (hl:ks.length<=1000000) (hS:∀z,r=some z->z.2.2.length<=1000000) (h:B2 m Γ ks (ks.map λ_=>Aw k) T (k+1) S r):C0 202 m Γ (.mk op n x ks ps) T k S (r.map λz=>(BW,z.1,z.2.1,z.2.2++[Aw k])):=by
 have hA:=Ir m T k S hk;have hKd:=BA 2 [];have hH:=Kt m Γ op n x ks ps (Aw k) T (k+1) S r hl h;unfold C0;refine Ad ttY_ok func202 rfl [5,6,7,8,4,9,10]<|Ai rfl<|Aq [] [(1,1),(2,2),(3,3)] [] rfl hA Ay rfl rfl<|Ai rfl ?_;cases r with
 | none =>
  exact Bd [(1,1),(2,2),(3,3)] rfl (by simp) hH Ay rfl rfl rfl<|Bx 14 rfl
 | some z =>
  obtain ⟨T',k',S'⟩:=z;have hSl:=hS _ rfl;simp only at hSl;have hap:AA (S'++[Aw k])=AA S'++[dTyc (Aw k)]:=by rw [GM];rfl
  have hln:(AA S').length=S'.length:=dTys_length S';have hst:(AA S'++[[V.int .i64 0,V.int .i64 0,V.str [],V.sl []]]).set (AA S').length (dTyc (Aw k))=AA (S'++[Aw k]):=by
   rw [hap,ZA _ _ (BQ _),Mb];rfl
  have hgt:(AA S'++[[V.int .i64 0,V.int .i64 0,V.str [],V.sl []]])[(AA S').length]?=some [V.int .i64 0,V.int .i64 0,V.str [],V.sl []]:=by
   rw [Pa (BQ _),Mb];rfl
  exact Aq [8] [(1,1),(2,2),(3,3)] [(4,8)] rfl hH Ay rfl rfl<|Ai rfl<|B7 ttY_ok rfl ⟨by simp,by simp [maxLen];omega,by simp;omega,trivial⟩<|Ai rfl<|FU ttY_ok rfl (λ_=>⟨by show (0:Int)<=((AA S').length:Int);omega,by show ((AA S').length:Int)<((AA S'++[[V.int .i64 0,V.int .i64 0,V.str [],V.sl []]]).length:Int);simp;omega⟩) (by simp [Am])<|Ai rfl<|K3 ttY_ok (e:=[V.int .i64 0,V.int .i64 0,V.str [],V.sl []]) (e':=dTyc (Aw k)) rfl (by simpa using hgt) (by show 0+4<=4;decide) (by simp [Aw,dTyc]) (by simp)<|yg [] rfl (by simp;rfl)<|Af rfl hKd<|Ai rfl<|Ah ⟨_,rfl,rfl,congrArg (λq=>some (some (iB m k' 2 4 q))) (by simp:(AA S'++[[V.int .i64 0,V.int .i64 0,V.str [],V.sl []]]).length=(AA (S'++[Aw k])).length),rfl,congrArg (λq=>some (some (Blk.row 25 4 q))) hst,trivial⟩
theorem Xs {u0 u1:Ty} {r:Id} (h:B2 m Γ [t0,t1] [u0,u1] T k S r) :
  ∃r1,B2 m Γ [t0] [u0] T k S r1/\((r1=none/\r=none)\/∃T1 k1 S1,r1=some (T1,k1,S1)/\B2 m Γ [t1] [u1] T1 k1 S1 r):=by
 rw [B2] at h;rcases h with ⟨hI,rfl⟩ | ⟨τ,T2,k2,S2,hI,h⟩
 ·refine ⟨none,?_,.inl ⟨rfl,rfl⟩⟩;rw [B2];exact .inl ⟨hI,rfl⟩
 ·rcases h with ⟨hE,rfl⟩ | ⟨T3,hE,h⟩
  ·refine ⟨none,?_,.inl ⟨rfl,rfl⟩⟩;rw [B2];exact .inr ⟨τ,T2,k2,S2,hI,.inl ⟨hE,rfl⟩⟩
  ·refine ⟨some (T3,k2,S2),?_,.inr ⟨T3,k2,S2,rfl,h⟩⟩;rw [B2];exact .inr ⟨τ,T2,k2,S2,hI,.inr ⟨T3,hE,by simp only [B2]⟩⟩
theorem za8 (m:Md) (Γ:Au) (n:Int) (x:Str) (t0:Tm) (ks:List Tm) (ps:List Ty) (T:List (Int×Ty)) (k:Int) (S:List Ty) (r:Id) (hk:0<=k/\k<=1000000) (h:B2 m Γ [t0] [GJ 5 (Aw k)] T (k+1) S r):C0 206 m Γ (.mk 17 n x (t0::ks) ps) T k S (r.map λz=>(Aw k,z)):=by
 have hP:=Kq m Γ 17 n x t0 ks ps 5 T k S r hk h;unfold C0;refine Ad ttY_ok func206 rfl [5,6,4,7]<|Ai rfl ?_;cases r with
 | none =>
  exact Bf 3 [(1,1),(2,2),(3,3)] rfl (by simp) hP Ay rfl rfl rfl<|Bn 10 3 rfl
 | some z =>
  obtain ⟨T',k',S'⟩:=z;exact Aq [4] [(1,1),(2,2),(3,3)] [(4,4)] rfl hP Ay rfl rfl<|Ai rfl<|Ah ⟨_,B6⟩
theorem wV (m:Md) (Γ:Au) (n:Int) (x:Str) (t0:Tm) (ks:List Tm) (ps:List Ty) (T:List (Int×Ty)) (k:Int) (S:List Ty) (r:Id) (hk:0<=k/\k<=1000000) (h:B2 m Γ [t0] [GJ 7 (Aw k)] T (k+1) S r):C0 209 m Γ (.mk 20 n x (t0::ks) ps) T k S (r.map λz=>(Aw k,z)):=by
 have hP:=Kq m Γ 20 n x t0 ks ps 7 T k S r hk h;unfold C0;refine Ad ttY_ok func209 rfl [5,6,4,7]<|Ai rfl ?_;cases r with
 | none =>
  exact Bf 3 [(1,1),(2,2),(3,3)] rfl (by simp) hP Ay rfl rfl rfl<|Bn 10 3 rfl
 | some z =>
  obtain ⟨T',k',S'⟩:=z;exact Aq [4] [(1,1),(2,2),(3,3)] [(4,4)] rfl hP Ay rfl rfl<|Ai rfl<|Ah ⟨_,B6⟩
theorem wQ (m:Md) (Γ:Au) (n:Int) (x:Str) (t0:Tm) (ks:List Tm) (ps:List Ty) (T:List (Int×Ty)) (k:Int) (S:List Ty) (r:Id) (hk:0<=k/\k<=1000000) (h:B2 m Γ [t0] [GJ 6 (Aw k)] T (k+1) S r):C0 212 m Γ (.mk 23 n x (t0::ks) ps) T k S (r.map λz=>(Aw k,z)):=by
 have hP:=Kq m Γ 23 n x t0 ks ps 6 T k S r hk h;unfold C0;refine Ad ttY_ok func212 rfl [5,6,4,7]<|Ai rfl ?_;cases r with
 | none =>
  exact Bf 3 [(1,1),(2,2),(3,3)] rfl (by simp) hP Ay rfl rfl rfl<|Bn 10 3 rfl
 | some z =>
  obtain ⟨T',k',S'⟩:=z;exact Aq [4] [(1,1),(2,2),(3,3)] [(4,4)] rfl hP Ay rfl rfl<|Ai rfl<|Ah ⟨_,B6⟩
theorem za6 (m:Md) (Γ:Au) (n:Int) (x:Str) (t0 t1:Tm) (ks:List Tm) (ps:List Ty) (T:List (Int×Ty)) (k:Int) (S:List Ty) (r:Id) (hk:0<=k/\k<=1000000) (h:B2 m Γ [t0,t1] [GJ 5 (Aw k),Aw k] T (k+1) S r):C0 207 m Γ (.mk 18 n x (t0::t1::ks) ps) T k S (r.map λz=>(Di,z)):=by
 have hKd:=BA 3 [];have ht:(t0::t1::ks)[1]?=some t1:=rfl;obtain ⟨r1,hP,h⟩:=Xs h;have hP:=Kq m Γ 18 n x t0 (t1::ks) ps 5 T k S r1 hk hP;unfold C0;refine Ad ttY_ok func207 rfl [5,6,8,7,4,9]<|Ai rfl ?_;rcases h with ⟨rfl,rfl⟩ | ⟨T1,k1,S1,rfl,h⟩
 ·exact Bf 3 [(1,1),(2,2),(3,3)] rfl (by simp) hP Ay rfl rfl rfl<|Bn 11 3 rfl
 ·rw [B2] at h;refine Aq [8] [(1,1),(2,2),(3,3)] [(4,8)] rfl hP Ay rfl rfl<|Ai rfl ?_;rcases h with ⟨hI,rfl⟩ | ⟨⟨τ1,τ2,τ3,τ4⟩,T2,k2,S2,hI,h⟩
  ·have hK:=CI (op:=18) (n:=n) (x:=x) (ps:=ps) ht hI;simp only [Dp] at hK;exact Bf 3 [(1,1),(2,2),(8,3)] rfl (by simp) hK Ay rfl rfl rfl<|Ai rfl<|Et 16 (.imm (.tup [])) rfl DG (λx h=>by cases h)<|yg [] rfl (by simp;rfl)<|Bn 16 3 rfl
  ·have hK:=CI (op:=18) (n:=n) (x:=x) (ps:=ps) ht hI;simp only [Dp] at hK;refine A5 [(1,1),(2,2),(8,3)] [(4,4)] [] (fr:=[4]) (nm:=[1,2,4,1,2,8]) rfl trivial (by simp) hK Ay rfl trivial rfl rfl rfl<|Ai rfl ?_;rcases h with ⟨hE,rfl⟩ | ⟨T3,hE,h⟩
   ·unfold DU at hE;exact Bd [(1,1),(2,2),(4,3)] rfl (by simp) hE Ay rfl rfl rfl<|ND 1 rfl (by simp;rfl)<|Bx 18 rfl
   ·unfold Dq at hE;simp only [B2] at h;subst h;exact A5 [(1,1),(2,2),(4,3)] [] [] (fr:=[]) (nm:=[1,2,4,1,2,4]) rfl trivial (by simp) hE Ay rfl trivial rfl rfl rfl<|yg [] rfl (by simp;rfl)<|Af rfl hKd<|Ai rfl<|Ah ⟨_,B6⟩
theorem wR (m:Md) (Γ:Au) (n:Int) (x:Str) (t0 t1:Tm) (ks:List Tm) (ps:List Ty) (T:List (Int×Ty)) (k:Int) (S:List Ty) (r:Id) (hk:0<=k/\k<=1000000) (h:B2 m Γ [t0,t1] [GJ 6 (Aw k),Aw k] T (k+1) S r):C0 211 m Γ (.mk 22 n x (t0::t1::ks) ps) T k S (r.map λz=>(Di,z)):=by
 have hKd:=BA 3 [];have ht:(t0::t1::ks)[1]?=some t1:=rfl;obtain ⟨r1,hP,h⟩:=Xs h;have hP:=Kq m Γ 22 n x t0 (t1::ks) ps 6 T k S r1 hk hP;unfold C0;refine Ad ttY_ok func211 rfl [5,6,8,7,4,9]<|Ai rfl ?_;rcases h with ⟨rfl,rfl⟩ | ⟨T1,k1,S1,rfl,h⟩
 ·exact Bf 3 [(1,1),(2,2),(3,3)] rfl (by simp) hP Ay rfl rfl rfl<|Bn 11 3 rfl
 ·rw [B2] at h;refine Aq [8] [(1,1),(2,2),(3,3)] [(4,8)] rfl hP Ay rfl rfl<|Ai rfl ?_;rcases h with ⟨hI,rfl⟩ | ⟨⟨τ1,τ2,τ3,τ4⟩,T2,k2,S2,hI,h⟩
  ·have hK:=CI (op:=22) (n:=n) (x:=x) (ps:=ps) ht hI;simp only [Dp] at hK;exact Bf 3 [(1,1),(2,2),(8,3)] rfl (by simp) hK Ay rfl rfl rfl<|Ai rfl<|Et 16 (.imm (.tup [])) rfl DG (λx h=>by cases h)<|yg [] rfl (by simp;rfl)<|Bn 16 3 rfl
  ·have hK:=CI (op:=22) (n:=n) (x:=x) (ps:=ps) ht hI;simp only [Dp] at hK;refine A5 [(1,1),(2,2),(8,3)] [(4,4)] [] (fr:=[4]) (nm:=[1,2,4,1,2,8]) rfl trivial (by simp) hK Ay rfl trivial rfl rfl rfl<|Ai rfl ?_;rcases h with ⟨hE,rfl⟩ | ⟨T3,hE,h⟩
   ·unfold DU at hE;exact Bd [(1,1),(2,2),(4,3)] rfl (by simp) hE Ay rfl rfl rfl<|ND 1 rfl (by simp;rfl)<|Bx 18 rfl
   ·unfold Dq at hE;simp only [B2] at h;subst h;exact A5 [(1,1),(2,2),(4,3)] [] [] (fr:=[]) (nm:=[1,2,4,1,2,4]) rfl trivial (by simp) hE Ay rfl trivial rfl rfl rfl<|yg [] rfl (by simp;rfl)<|Af rfl hKd<|Ai rfl<|Ah ⟨_,B6⟩
theorem rM (m:Md) (Γ:Au) (n:Int) (x:Str) (t0:Tm) (ks:List Tm) (ps:List Ty) (T:List (Int×Ty)) (k:Int) (S:List Ty) (r:Id) (hk:0<=k/\k<=1000000) (h:B2 m Γ [t0] [AN Di (Aw k)] T (k+1) S r):C0 208 m Γ (.mk 19 n x (t0::ks) ps) T k S (r.map λz=>(GJ 7 (Aw k),z)):=by
 have hA:=Ir m T k S hk;have hK3:=BA 3 [];have hK4:=BA 4 [Di,Aw k];have hK7:=BA 7 [Aw k];have ht:(t0::ks)[0]?=some t0:=rfl;rw [B2] at h;unfold C0;refine Ad ttY_ok func208 rfl [5,6,8,4,7]<|Ai rfl<|Aq [] [(1,1),(2,2),(3,3)] [] rfl hA Ay rfl rfl<|Ai rfl ?_;rcases h with ⟨hI,rfl⟩ | ⟨⟨τ1,τ2,τ3,τ4⟩,T2,k2,S2,hI,h⟩
 ·have hK:=CI (op:=19) (n:=n) (x:=x) (ps:=ps) ht hI;simp only [Dp] at hK;exact Bf 3 [(1,1),(2,2),(3,3)] rfl (by simp) hK Ay rfl rfl rfl<|Ai rfl<|Af rfl hK3<|Ai rfl<|Af rfl hK4<|Ai rfl<|Et 14 (.imm (.tup [])) rfl DG (λx h=>by cases h)<|yg [] rfl (by simp;rfl)<|Bn 14 3 rfl
 ·have hK:=CI (op:=19) (n:=n) (x:=x) (ps:=ps) ht hI;simp only [Dp] at hK;refine A5 [(1,1),(2,2),(3,3)] [(4,4)] [] (fr:=[4]) (nm:=[1,2,4,1,2,3]) rfl trivial (by simp) hK Ay rfl trivial rfl rfl rfl<|Ai rfl<|Af rfl hK3<|Ai rfl<|Af rfl hK4<|Ai rfl ?_;rcases h with ⟨hE,rfl⟩ | ⟨T3,hE,h⟩
  ·unfold DU at hE;exact Bd [(1,1),(2,2),(4,3)] rfl (by simp) hE Ay rfl rfl rfl<|ND 1 rfl (by simp;rfl)<|Bx 19 rfl
  ·unfold Dq at hE;simp only [B2] at h;subst h;exact A5 [(1,1),(2,2),(4,3)] [] [] (fr:=[]) (nm:=[1,2,4,1,2,4]) rfl trivial (by simp) hE Ay rfl trivial rfl rfl rfl<|yg [] rfl (by simp;rfl)<|Af rfl hK7<|Ai rfl<|Ah ⟨_,B6⟩
theorem aY (m:Md) (Γ:Au) (op n:Int) (x:Str) (ks:List Tm) (ps:List Ty) (T:List (Int×Ty)) (k:Int) (S:List Ty) (hk:0<=k/\k<=1000000):C0 210 m Γ (.mk op n x ks ps) T k S (some (GJ 6 (Aw k),T,k+1,S)):=by
 have hA:=Ir m T k S hk;have hKd:=BA 6 [Aw k];unfold C0;exact Ad ttY_ok func210 rfl [4,5,6,7]<|F7 3 4 1 [.imm (.str m.name),.imm (.sl (m.datas.map C7)),.imm (.sl (m.funs.map CG)),.mapr 2,.imm (.int .i64 (k)),.own 4 (AA S).length] rfl rfl (by decide) ⟨.inl rfl,.inl rfl,.inl rfl,.inl rfl,.inl rfl,.inr ⟨_,rfl,rfl⟩,trivial⟩<|As rfl<|Aq [] [(1,1),(2,2),(4,3)] [] rfl hA Ay rfl rfl<|Ai rfl<|Af rfl hKd<|Ai rfl<|Ah ⟨_,B6⟩
theorem wX (m:Md) (Γ:Au) (n:Int) (x:Str) (t0:Tm) (ks:List Tm) (ps:List Ty) (T:List (Int×Ty)) (k:Int) (S:List Ty) {r:L0} (h:EI m Γ t0 T k S r):C0 205 m Γ (.mk 16 n x (t0::ks) ps) T k S (r.map λz=>(GJ 5 z.1,z.2)):=by
 have ht:(t0::ks)[0]?=some t0:=rfl;unfold C0;refine Ad ttY_ok func205 rfl [5,6,4,7]<|Ai rfl ?_;cases r with
 | none =>
  have hK:=CI (op:=16) (n:=n) (x:=x) (ps:=ps) ht h;simp only [Dp] at hK;exact Bf 3 [(1,1),(2,2),(3,3)] rfl (by simp) hK Ay rfl rfl rfl<|Bn 10 3 rfl
 | some z =>
  obtain ⟨⟨τ1,τ2,τ3,τ4⟩,T',k',S'⟩:=z;have hKd:=BA 5 [.mk τ1 τ2 τ3 τ4];have hK:=CI (op:=16) (n:=n) (x:=x) (ps:=ps) ht h;simp only [Dp] at hK;exact Aq [4] [(1,1),(2,2),(3,3)] [(4,4)] rfl hK Ay rfl rfl<|Ai rfl<|Af rfl hKd<|Ai rfl<|Ah ⟨_,B6⟩
def ApO (m:Md) (Γ:Au) (t0 t1:Tm) (T:List (Int×Ty)) (k:Int) (S:List Ty) (r:L0):Prop :=
 (EI m Γ t0 T k S none/\r=none)\/∃τ T1 k1 S1,EI m Γ t0 T k S (some (τ,T1,k1,S1))/\((EI m Γ t1 T1 k1 S1 none/\r=none)\/∃a T2 k2 S2,EI m Γ t1 T1 k1 S1 (some (a,T2,k2,S2))/\(0<=k2/\k2<=1000000) /\
  ((DU m T2 (k2+1) S2 τ (AN a (Aw k2))/\r=none)\/∃T3,Dq m T2 (k2+1) S2 τ (AN a (Aw k2)) T3/\r=some (Aw k2,T3,k2+1,S2)))
def LetO (m:Md) (Γ:Au) (x:Str) (t0 t1:Tm) (T:List (Int×Ty)) (k:Int) (S:List Ty) (r:L0):Prop :=
 (EI m Γ t0 T k S none/\r=none)\/∃τ T1 k1 S1,EI m Γ t0 T k S (some (τ,T1,k1,S1))/\EI m (Γ++[(x,τ)]) t1 T1 k1 S1 r
def IfO (m:Md) (Γ:Au) (t0 t1 t2:Tm) (T:List (Int×Ty)) (k:Int) (S:List Ty) (r:L0):Prop :=
 (B2 m Γ [t0] [BW] T k S none/\r=none)\/∃T1 k1 S1,B2 m Γ [t0] [BW] T k S (some (T1,k1,S1))/\((EI m Γ t1 T1 k1 S1 none/\r=none)\/∃τ T2 k2 S2,EI m Γ t1 T1 k1 S1 (some (τ,T2,k2,S2)) /\
  ((EI m Γ t2 T2 k2 S2 none/\r=none)\/∃a T3 k3 S3,EI m Γ t2 T2 k2 S2 (some (a,T3,k3,S3))/\((DU m T3 k3 S3 τ a/\r=none)\/∃T4,Dq m T3 k3 S3 τ a T4/\r=some (τ,T4,k3,S3))))
theorem za9 (m:Md) (Γ:Au) (n:Int) (x:Str) (t0:Tm) (ks:List Tm) (ps:List Ty) (T:List (Int×Ty)) (k:Int) (S:List Ty) (hk:0<=k/\k<=1000000) (hΓ:Γ.length<=1000000) {r:L0} (h:EI m (Γ++[(x,Aw k)]) t0 T (k+1) S r):C0 196 m Γ (.mk 5 n x (t0::ks) ps) T k S (r.map λz=>(AN (Aw k) z.1,z.2)):=by
 have hA:=Ir m T k S hk;have hW:=Ko Γ x (Aw k) hΓ;have ht:(t0::ks)[0]?=some t0:=rfl;unfold C0;refine Ad ttY_ok func196 rfl [5,6,7,4,8,9]<|Ai rfl<|Aq [] [(1,1),(2,2),(3,3)] [] rfl hA Ay rfl rfl<|Ai rfl<|Af rfl hW<|Ai rfl ?_;cases r with
 | none =>
  have hK:=CI (op:=5) (n:=n) (x:=x) (ps:=ps) ht h;simp only [Dp] at hK;exact Bf 3 [(1,1),(2,2),(3,3)] rfl (by simp) hK Ay rfl rfl rfl<|yg [] rfl (by simp;rfl)<|Bn 18 3 rfl
 | some z =>
  obtain ⟨⟨τ1,τ2,τ3,τ4⟩,T',k',S'⟩:=z;have hKd:=BA 4 [Aw k,.mk τ1 τ2 τ3 τ4];have hK:=CI (op:=5) (n:=n) (x:=x) (ps:=ps) ht h;simp only [Dp] at hK;exact A5 [(1,1),(2,2),(3,3)] [(4,4)] [] (fr:=[4]) (nm:=[1,2,4,1,2,3]) rfl trivial (by simp) hK Ay rfl trivial rfl rfl rfl<|yg [] rfl (by simp;rfl)<|Af rfl hKd<|Ai rfl<|Ah ⟨_,B6⟩
theorem rN (m:Md) (Γ:Au) (n:Int) (x:Str) (t0:Tm) (ks:List Tm) (ps:List Ty) (T:List (Int×Ty)) (k:Int) (S:List Ty) (hk:0<=k/\k<=1000000) (hΓ:Γ.length<=1000000) {r:Id} (h:B2 m (Γ++[(x,AN (Aw k) AR)]) [t0] [AR] T (k+1) S r):C0 215 m Γ (.mk 27 n x (t0::ks) ps) T k S (r.map λz=>(Aw k,z)):=by
 have hA:=Ir m T k S hk;have hK1:=BA 1 [];have hK4:=BA 4 [Aw k,AR];have hW:=Ko Γ x (AN (Aw k) AR) hΓ;have ht:(t0::ks)[0]?=some t0:=rfl;rw [B2] at h;unfold C0;refine Ad ttY_ok func215 rfl [5,6,7,4,8,9]<|Ai rfl<|Aq [] [(1,1),(2,2),(3,3)] [] rfl hA Ay rfl rfl<|Ai rfl<|Af rfl hK1<|Ai rfl<|Af rfl hK4<|Ai rfl<|Af rfl hW<|Ai rfl ?_;rcases h with ⟨hI,rfl⟩ | ⟨⟨τ1,τ2,τ3,τ4⟩,T2,k2,S2,hI,h⟩
 ·have hK:=CI (op:=27) (n:=n) (x:=x) (ps:=ps) ht hI;simp only [Dp] at hK;exact Bf 3 [(1,1),(2,2),(3,3)] rfl (by simp) hK Ay rfl rfl rfl<|Ai rfl<|Af rfl hK1<|Ai rfl<|Et 21 (.imm (.tup [])) rfl DG (λx h=>by cases h)<|yg [] rfl (by simp;rfl)<|Bn 21 3 rfl
 ·have hK:=CI (op:=27) (n:=n) (x:=x) (ps:=ps) ht hI;simp only [Dp] at hK;refine A5 [(1,1),(2,2),(3,3)] [(4,4)] [] (fr:=[4]) (nm:=[1,2,4,1,2,3]) rfl trivial (by simp) hK Ay rfl trivial rfl rfl rfl<|Ai rfl<|Af rfl hK1<|Ai rfl ?_;rcases h with ⟨hE,rfl⟩ | ⟨T3,hE,h⟩
  ·unfold DU at hE;exact Bd [(1,1),(2,2),(4,3)] rfl (by simp) hE Ay rfl rfl rfl<|ND 1 rfl (by simp;rfl)<|Bx 23 rfl
  ·unfold Dq at hE;simp only [B2] at h;subst h;exact A5 [(1,1),(2,2),(4,3)] [] [] (fr:=[]) (nm:=[1,2,4,1,2,4]) rfl trivial (by simp) hE Ay rfl trivial rfl rfl rfl<|yg [] rfl (by simp;rfl)<|Ah ⟨_,B6⟩
theorem Nd (m:Md) (Γ:Au) (n:Int) (x:Str) (t0 t1:Tm) (ks:List Tm) (ps:List Ty) (T:List (Int×Ty)) (k:Int) (S:List Ty) (r:L0) (h:ApO m Γ t0 t1 T k S r):C0 197 m Γ (.mk 6 n x (t0::t1::ks) ps) T k S (r):=by
 have ht:(t0::t1::ks)[0]?=some t0:=rfl;have ht1:(t0::t1::ks)[1]?=some t1:=rfl;unfold C0;refine Ad ttY_ok func197 rfl [5,6,8,7,4,9,10]<|Ai rfl ?_;rcases h with ⟨hI,rfl⟩ | ⟨⟨τ1,τ2,τ3,τ4⟩,T1,k1,S1,hI,h⟩
 ·have hK:=CI (op:=6) (n:=n) (x:=x) (ps:=ps) ht hI;simp only [Dp] at hK;exact Bf 3 [(1,1),(2,2),(3,3)] rfl (by simp) hK Ay rfl rfl rfl<|Bn 13 3 rfl
 ·have hK:=CI (op:=6) (n:=n) (x:=x) (ps:=ps) ht hI;simp only [Dp] at hK;refine Aq [8] [(1,1),(2,2),(3,3)] [(4,8)] rfl hK Ay rfl rfl<|Ai rfl ?_;rcases h with ⟨hI2,rfl⟩ | ⟨⟨a1,a2,a3,a4⟩,T2,k2,S2,hI2,hk2,h⟩
  ·have hK2:=CI (op:=6) (n:=n) (x:=x) (ps:=ps) ht1 hI2;simp only [Dp] at hK2;exact Bf 3 [(1,1),(2,2),(8,3)] rfl (by simp) hK2 Ay rfl rfl rfl<|Bn 17 3 rfl
  ·have hA:=Ir m T2 k2 S2 hk2;have hK4:=BA 4 [.mk a1 a2 a3 a4,Aw k2];have hK2:=CI (op:=6) (n:=n) (x:=x) (ps:=ps) ht1 hI2;simp only [Dp] at hK2;refine Aq [4] [(1,1),(2,2),(8,3)] [(4,4)] rfl hK2 Ay rfl rfl<|Ai rfl<|Aq [] [(1,1),(2,2),(4,3)] [] rfl hA Ay rfl rfl<|Ai rfl<|Af rfl hK4<|Ai rfl ?_;rcases h with ⟨hE,rfl⟩ | ⟨T3,hE,rfl⟩
   ·unfold DU at hE;exact Bd [(1,1),(2,2),(4,3)] rfl (by simp) hE Ay rfl rfl rfl<|ND 1 rfl (by simp;rfl)<|Bx 26 rfl
   ·unfold Dq at hE;exact A5 [(1,1),(2,2),(4,3)] [] [] (fr:=[]) (nm:=[1,2,4,1,2,4]) rfl trivial (by simp) hE Ay rfl trivial rfl rfl rfl<|yg [] rfl (by simp;rfl)<|Ah ⟨_,B6⟩
theorem rQ (m:Md) (Γ:Au) (n:Int) (x:Str) (t0 t1:Tm) (ks:List Tm) (ps:List Ty) (T:List (Int×Ty)) (k:Int) (S:List Ty) (r:L0) (hΓ:Γ.length<=1000000) (h:LetO m Γ x t0 t1 T k S r):C0 198 m Γ (.mk 7 n x (t0::t1::ks) ps) T k S (r):=by
 have ht:(t0::t1::ks)[0]?=some t0:=rfl;have ht1:(t0::t1::ks)[1]?=some t1:=rfl;unfold C0;refine Ad ttY_ok func198 rfl [5,6,8,7,4,9,10]<|Ai rfl ?_;rcases h with ⟨hI,rfl⟩ | ⟨⟨τ1,τ2,τ3,τ4⟩,T1,k1,S1,hI,h⟩
 ·have hK:=CI (op:=7) (n:=n) (x:=x) (ps:=ps) ht hI;simp only [Dp] at hK;exact Bf 3 [(1,1),(2,2),(3,3)] rfl (by simp) hK Ay rfl rfl rfl<|Bn 11 3 rfl
 ·have hW:=Ko Γ x (.mk τ1 τ2 τ3 τ4) hΓ;have hK:=CI (op:=7) (n:=n) (x:=x) (ps:=ps) ht hI;simp only [Dp] at hK;refine Aq [8] [(1,1),(2,2),(3,3)] [(4,8)] rfl hK Ay rfl rfl<|Ai rfl<|Af rfl hW<|Ai rfl ?_;cases r with
  | none =>
   have hK2:=CI (op:=7) (n:=n) (x:=x) (ps:=ps) ht1 h;simp only [Dp] at hK2;exact Bf 3 [(1,1),(2,2),(8,3)] rfl (by simp) hK2 Ay rfl rfl rfl<|yg [] rfl (by simp;rfl)<|Bn 19 3 rfl
  | some z =>
   obtain ⟨⟨a1,a2,a3,a4⟩,T',k',S'⟩:=z;have hK2:=CI (op:=7) (n:=n) (x:=x) (ps:=ps) ht1 h;simp only [Dp] at hK2;exact A5 [(1,1),(2,2),(8,3)] [(4,4)] [] (fr:=[4]) (nm:=[1,2,4,1,2,8]) rfl trivial (by simp) hK2 Ay rfl trivial rfl rfl rfl<|yg [] rfl (by simp;rfl)<|Ah ⟨_,B6⟩
theorem Xr (m:Md) (Γ:Au) (n:Int) (x:Str) (t0 t1 t2:Tm) (ks:List Tm) (ps:List Ty) (T:List (Int×Ty)) (k:Int) (S:List Ty) (r:L0) (h:IfO m Γ t0 t1 t2 T k S r):C0 199 m Γ (.mk 8 n x (t0::t1::t2::ks) ps) T k S (r):=by
 have ht:(t0::t1::t2::ks)[0]?=some t0:=rfl;have ht1:(t0::t1::t2::ks)[1]?=some t1:=rfl;have ht2:(t0::t1::t2::ks)[2]?=some t2:=rfl;have hKb:=BA 2 [];unfold C0;refine Ad ttY_ok func199 rfl [5,6,8,9,7,4,10]<|Ai rfl ?_;rcases h with ⟨h,rfl⟩ | ⟨T1,k1,S1,h,h'⟩
 ·rw [B2] at h;rcases h with ⟨hI,_⟩ | ⟨⟨τ1,τ2,τ3,τ4⟩,T2,k2,S2,hI,h⟩
  ·have hK:=CI (op:=8) (n:=n) (x:=x) (ps:=ps) ht hI;simp only [Dp] at hK;exact Bf 3 [(1,1),(2,2),(3,3)] rfl (by simp) hK Ay rfl rfl rfl<|Bn 12 3 rfl
  ·have hK:=CI (op:=8) (n:=n) (x:=x) (ps:=ps) ht hI;simp only [Dp] at hK;refine Aq [8] [(1,1),(2,2),(3,3)] [(4,8)] rfl hK Ay rfl rfl<|Ai rfl<|Af rfl hKb<|Ai rfl ?_;rcases h with ⟨hE,_⟩ | ⟨T3,hE,h⟩
   ·unfold DU at hE;exact Bd [(1,1),(2,2),(8,3)] rfl (by simp) hE Ay rfl rfl rfl<|Bx 14 rfl
   ·simp only [B2] at h;cases h
 ·rw [B2] at h;rcases h with ⟨_,h⟩ | ⟨⟨τ1,τ2,τ3,τ4⟩,T2,k2,S2,hI,h⟩
  ·cases h
  rcases h with ⟨_,h⟩ | ⟨T3,hE,h⟩
  ·cases h
  simp only [B2] at h;cases h;unfold Dq at hE;have hK:=CI (op:=8) (n:=n) (x:=x) (ps:=ps) ht hI;simp only [Dp] at hK;refine Aq [8] [(1,1),(2,2),(3,3)] [(4,8)] rfl hK Ay rfl rfl<|Ai rfl<|Af rfl hKb<|Ai rfl<|Aq [] [(1,1),(2,2),(8,3)] [] rfl hE Ay rfl rfl<|Ai rfl ?_;rcases h' with ⟨hI2,rfl⟩ | ⟨⟨a1,a2,a3,a4⟩,T4,k4,S4,hI2,h⟩
  ·have hK2:=CI (op:=8) (n:=n) (x:=x) (ps:=ps) ht1 hI2;simp only [Dp] at hK2;exact Bf 3 [(1,1),(2,2),(8,3)] rfl (by simp) hK2 Ay rfl rfl rfl<|Bn 18 3 rfl
  ·have hK2:=CI (op:=8) (n:=n) (x:=x) (ps:=ps) ht1 hI2;simp only [Dp] at hK2;refine Aq [9] [(1,1),(2,2),(8,3)] [(4,9)] rfl hK2 Ay rfl rfl<|Ai rfl ?_;rcases h with ⟨hI3,rfl⟩ | ⟨⟨c1,c2,c3,c4⟩,T5,k5,S5,hI3,h⟩
   ·have hK3:=CI (op:=8) (n:=n) (x:=x) (ps:=ps) ht2 hI3;simp only [Dp] at hK3;exact Bf 3 [(1,1),(2,2),(9,3)] rfl (by simp) hK3 Ay rfl rfl rfl<|Ai rfl<|Et 24 (.imm (.tup [])) rfl DG (λx h=>by cases h)<|yg [] rfl (by simp;rfl)<|Bn 24 3 rfl
   ·have hK3:=CI (op:=8) (n:=n) (x:=x) (ps:=ps) ht2 hI3;simp only [Dp] at hK3;refine A5 [(1,1),(2,2),(9,3)] [(4,4)] [] (fr:=[4]) (nm:=[1,2,4,1,2,9]) rfl trivial (by simp) hK3 Ay rfl trivial rfl rfl rfl<|Ai rfl ?_;rcases h with ⟨hE2,rfl⟩ | ⟨T6,hE2,rfl⟩
    ·unfold DU at hE2;exact Bd [(1,1),(2,2),(4,3)] rfl (by simp) hE2 Ay rfl rfl rfl<|ND 1 rfl (by simp;rfl)<|Bx 25 rfl
    ·unfold Dq at hE2;exact A5 [(1,1),(2,2),(4,3)] [] [] (fr:=[]) (nm:=[1,2,4,1,2,4]) rfl trivial (by simp) hE2 Ay rfl trivial rfl rfl rfl<|yg [] rfl (by simp;rfl)<|Ah ⟨_,B6⟩
theorem wT (m:Md) (Γ:Au) (n:Int) (x:Str) (ks:List Tm) (ps:List Ty) (T:List (Int×Ty)) (k:Int) (S:List Ty):C0 195 m Γ (.mk 4 n x ks ps) T k S ((BO m Γ x).map λτ=>(τ,T,k,S)):=by
 obtain ⟨m1,ds,fs⟩:=m;unfold C0;refine Ad ttY_ok func195 rfl [4,5,6,7,8]<|F7 3 4 1 [.imm (.str m1),.imm (.sl (ds.map C7)),.imm (.sl (fs.map CG)),.mapr 2,.imm (.int .i64 k),.own 4 (AA S).length] rfl rfl (by decide) ⟨.inl rfl,.inl rfl,.inl rfl,.inl rfl,.inl rfl,.inr ⟨_,rfl,rfl⟩,trivial⟩<|FZ (t:=2) rfl λhv=>?_;simp [F0,maxLen,D5] at hv;refine As rfl<|Ak (λj:Nat=>[(7,.imm (.int .i64 ((j:Int)-1))),(0,.ref 1 0),(2,.imm (.sl (D5 Γ))),(4,.ref 5 0),(6,.ref 6 0)]) (λ_=>(5,some (.immb 49 5 (dTmc (.mk 4 n x ks ps))))::(6,some (.cells 25 4 [.imm (.int .i64 0),.imm (.int .i64 0),.imm (.str []),.nils]))::UH ⟨m1,ds,fs⟩ T k S) [7,8] (λj=>j)
  (λj=>j<=Γ.length/\HP Γ x=HP (Γ.take j) x) Γ.length
  ⟨BQ _,by rw [Jw]⟩ ⟨BB (by simp [D5];exact GR (by omega) (by omega)),Cb⟩ B6 rfl λj hj jh=>?_
 refine As rfl<|Ab rfl (λh=>?_) (λh=>?_)
 ·have h1:1<=j:=by simp at h;omega
  obtain ⟨i,rfl⟩:∃i,j=i+1:=⟨j-1,by omega⟩
  obtain ⟨p,hp⟩:=Ao (l:=Γ) (i:=i) (by omega);have hg:=RO hp;have hlk:=hj.2;rw [Bp hp,Xm] at hlk;obtain ⟨y,u1,u2,u3,u4⟩:=p;refine As rfl<|yi rfl (c:=fS (y,.mk u1 u2 u3 u4)) (λ_=>⟨by simp,by simpa using hg,by simp⟩) (by simp)<|yg [] rfl (by simp;rfl)<|Ab rfl (λh2=>?_) (λh2=>?_)
  ·have hx:y=x:=by simpa using h2
   rw [if_pos hx] at hlk;have hr:BO ⟨m1,ds,fs⟩ Γ x=some (.mk u1 u2 u3 u4):=by simp only [BO,hlk]
   rw [hr];exact As rfl<|yi rfl (c:=fS (y,.mk u1 u2 u3 u4)) (λ_=>⟨by simp,by simpa using hg,by simp⟩) (by simp)<|Ai rfl<|Ah ⟨_,B6⟩
  ·have hx:y≠x:=by simpa using h2
   rw [if_neg hx] at hlk;exact As rfl<|Ac (jh i (by omega) ⟨by omega,hlk⟩) ⟨BB (by rw [GR (by omega) (by omega)];omega),Cb⟩ B6 rfl
 ·have h1:j=0:=by simp at h;omega
  subst h1;have hlk:HP Γ x=none:=hj.2;clear hj jh;refine Az rfl<|As rfl<|FZ (t:=34) rfl λhv2=>?_;simp [F0,maxLen] at hv2;refine Ak (λi:Nat=>[(36,.imm (.int .i64 i)),(35,.imm (.int .i64 fs.length)),(34,.imm (.sl (fs.map CG))),(4,.ref 5 0),(6,.ref 6 0)]) (λ_=>(5,some (.immb 49 5 (dTmc (.mk 4 n x ks ps))))::(6,some (.cells 25 4 [.imm (.int .i64 0),.imm (.int .i64 0),.imm (.str []),.nils]))::UH ⟨m1,ds,fs⟩ T k S) [7,8] (λi=>fs.length-i)
   (λi=>i<=fs.length/\JP fs x=JP (fs.drop i) x) 0
   ⟨AJ _,rfl⟩ ⟨rfl,BB (by simp),AC⟩ B6 rfl λi hi ih=>?_
  refine As rfl<|Ab rfl (λh=>?_) (λh=>?_)
  ·have hlt:i<fs.length:=by simp at h;omega
   obtain ⟨f,hf⟩:=Ao hlt;have hg:=Lm hf;have hft:=hi.2;rw [kW hf] at hft;have hF:=BA 4 [f.from_,f.to_];obtain ⟨f1,f2,⟨a1,a2,a3,a4⟩,⟨b1,b2,b3,b4⟩,⟨c1,c2,c3,c4,c5⟩⟩:=f;simp only at hft hF;refine As rfl<|yi rfl (c:=CG ⟨f1,f2,⟨a1,a2,a3,a4⟩,⟨b1,b2,b3,b4⟩,⟨c1,c2,c3,c4,c5⟩⟩) (λ_=>⟨by simp,by simpa using hg,by simp [CG]⟩) (by simp)<|Ai rfl<|Ab rfl (λh2=>?_) (λh2=>?_)
   ·have hx:f1=x:=by simpa using h2
    rw [if_pos hx] at hft;have hr:BO ⟨m1,ds,fs⟩ Γ x=some (AN (.mk a1 a2 a3 a4) (.mk b1 b2 b3 b4)):=by simp only [BO,hlk,hft]
    rw [hr];exact As rfl<|Af rfl hF<|Ai rfl<|Ah ⟨_,B6⟩
   ·have hx:f1≠x:=by simpa using h2
    rw [if_neg hx] at hft;exact As rfl<|Ac (ih (i+1) (by omega) ⟨by omega,hft⟩) ⟨AU,Cb⟩ B6 rfl
  ·have hlt:¬i<fs.length:=by simp at h;omega
   have hft:=hi.2;rw [Bo (by omega)] at hft;have hr:BO ⟨m1,ds,fs⟩ Γ x=none:=by simp only [BO,hlk,hft];rfl
   rw [hr];exact Az rfl<|As rfl<|IY rfl rfl rfl rfl
def Zr (m:Md) (T:List (Int×Ty)) (k:Int) (S:List Ty):Option (Cd×Str)->Out
 | some (c,y)=>.ret (.imm (.tup [.agg (Fa c),.agg (dTyc (Bw y))])) (CP m T k S)
 | none=>.pan G0
theorem lP {i:Nat} {d:Dt} (h:l[i]?=some d) (x:Str):FH (l.drop i) x=match Ow d.cons x with
 | some c=>some (c,d.name)
 | none=>FH (l.drop (i+1)) x:=by rw [Av h];rfl
theorem KY (m:Md) (x:Str) (T:List (Int×Ty)) (k:Int) (S:List Ty):Tq4 262 [.ref 1 0,.imm (.str x)] (CP m T k S) (Zr m T k S (FH m.datas x)):=by
 obtain ⟨m1,ds,fs⟩:=m;refine Ad ttY_ok func262 rfl [5,6,7,8,9]<|Ai rfl<|FZ (t:=14) rfl λhv=>?_;simp [F0,maxLen] at hv;refine Ak (λi:Nat=>[(16,.imm (.int .i64 i)),(15,.imm (.int .i64 ds.length)),(14,.imm (.sl (ds.map C7))),(1,.imm (.str x)),(4,.ref 5 0),(5,.ref 6 0)]) (λ_=>(5,some (.cells 178 2 [.imm (.str []),.nils]))::(6,some (.cells 25 4 [.imm (.int .i64 0),.imm (.int .i64 0),.imm (.str []),.nils]))::CP ⟨m1,ds,fs⟩ T k S) [7,8,9] (λi=>ds.length-i)
  (λi=>i<=ds.length/\FH ds x=FH (ds.drop i) x) 0
  ⟨AJ _,rfl⟩ ⟨rfl,BB (by simp),Cb⟩ B6 rfl λi hi ih=>?_
 refine As rfl<|Ab rfl (λh=>?_) (λh=>?_)
 ·have hlt:i<ds.length:=by simp at h;omega
  obtain ⟨d,hd⟩:=Ao hlt;have hg:=VL hd;have hcd:=hi.2;rw [lP hd] at hcd;obtain ⟨d1,cs⟩:=d;simp only at hcd;refine As rfl<|yi rfl (c:=C7 ⟨d1,cs⟩) (λ_=>⟨by simp,by simpa using hg,by simp [C7]⟩) (by simp)<|Ai rfl<|FZ (t:=21) rfl λhv2=>?_;simp [F0,maxLen] at hv2
  refine Ak (λj:Nat=>[(23,.imm (.int .i64 j)),(22,.imm (.int .i64 cs.length)),(21,.imm (.sl (cs.map Fa))),(7,.ref 7 0),(16,.imm (.int .i64 i)),(15,.imm (.int .i64 ds.length)),(14,.imm (.sl (ds.map C7))),(1,.imm (.str x)),(4,.ref 5 0),(5,.ref 6 0)]) (λ_=>(7,some (.immb 113 2 (C7 ⟨d1,cs⟩)))::(5,some (.cells 178 2 [.imm (.str []),.nils]))::(6,some (.cells 25 4 [.imm (.int .i64 0),.imm (.int .i64 0),.imm (.str []),.nils]))::CP ⟨m1,ds,fs⟩ T k S) [8,9] (λj=>cs.length-j)
   (λj=>j<=cs.length/\Ow cs x=Ow (cs.drop j) x) 0
   ⟨AJ _,rfl⟩ ⟨rfl,BB (by simp),OK⟩ GU rfl λj hj jh=>?_
  refine As rfl<|Ab rfl (λh=>?_) (λh=>?_)
  ·have hlt2:j<cs.length:=by simp at h;omega
   obtain ⟨c,hc⟩:=Ao hlt2;have hgc:=fT hc;have hcl:=hj.2;rw [lQ hc] at hcl;obtain ⟨c1,ag⟩:=c;simp only at hcl;refine As rfl<|yi rfl (c:=Fa ⟨c1,ag⟩) (λ_=>⟨by simp,by simpa using hgc,by simp [Fa]⟩) (by simp)<|Ai rfl<|Ab rfl (λh2=>?_) (λh2=>?_)
   ·have hx:c1=x:=by simpa using h2
    rw [if_pos hx] at hcl;have hr:FH ds x=some (⟨c1,ag⟩,d1):=by rw [hcd,hcl]
    simp only [hr];exact yd [] rfl (by simp;rfl)<|Ah ⟨_,B6⟩
   ·have hx:c1≠x:=by simpa using h2
    rw [if_neg hx] at hcl;exact As rfl<|Ac (jh (j+1) (by omega) ⟨by omega,hcl⟩) ⟨AU,iN⟩ GU rfl
  ·have hlt2:¬j<cs.length:=by simp at h;omega
   have hcl:=hj.2;rw [Bo (by omega)] at hcl;have hcl:Ow cs x=none:=hcl;rw [hcl] at hcd;simp only at hcd;exact Az rfl<|As rfl<|Ac (ih (i+1) (by omega) ⟨by omega,hcd⟩) ⟨AU,B6⟩ B6 rfl
 ·have hlt:¬i<ds.length:=by simp at h;omega
  have hcd:=hi.2;rw [Bo (by omega)] at hcd;have hr:FH ds x=none:=hcd;simp only [hr];exact Az rfl<|As rfl<|IY rfl rfl rfl rfl
theorem TZ (m:Md) (Γ:Au) (n:Int) (x:Str) (ks:List Tm) (ps:List Ty) (T:List (Int×Ty)) (k:Int) (S:List Ty) (h:FH m.datas x=none\/∃c y,FH m.datas x=some (c,y)/\c.args.length≠ks.length):C0 203 m Γ (.mk 14 n x ks ps) T k S none:=by
 have hF:=KY m x T k S;unfold C0;refine Ad ttY_ok func203 rfl [5,6,7,8,4,9]<|Ai rfl ?_;rcases h with h | ⟨c,y,h,hl⟩
 ·rw [h] at hF;simp only [Zr] at hF;exact Bf 1 [(1,1),(2,2),(3,3)] rfl (by simp) hF Ay rfl rfl rfl<|Bn 15 1 rfl
 ·rw [h] at hF;obtain ⟨c1,ag⟩:=c;simp only [Zr] at hF;exact Aq [] [(1,1),(2,2),(3,3)] [] rfl hF Ay rfl rfl<|Ai rfl<|Bd [] rfl (by simp) (IQ _ (by simp at hl ⊢;omega)) trivial rfl rfl rfl<|Bx 25 rfl
theorem zba (m:Md) (Γ:Au) (n:Int) (x:Str) (ks:List Tm) (ps:List Ty) (T:List (Int×Ty)) (k:Int) (S:List Ty) (r:Id) (c:Cd) (y:Str) (hC:FH m.datas x=some (c,y)) (hl:c.args.length=ks.length) (h:B2 m Γ ks c.args T k S r):C0 203 m Γ (.mk 14 n x ks ps) T k S (r.map λz=>(Bw y,z)):=by
 have hF:=KY m x T k S;rw [hC] at hF;obtain ⟨c1,ag⟩:=c;simp only [Zr] at hF;simp only at hl h;have hwt:Tq3 117 [.bool (((AA ag).length:Int) == (EQ ks).length)] (.tup []):=by
  rw [show (((AA ag).length:Int) == (EQ ks).length)=true by simp;omega];exact FA
 unfold C0;refine Ad ttY_ok func203 rfl [5,6,7,8,4,9,10,11]<|Ai rfl<|Aq [] [(1,1),(2,2),(3,3)] [] rfl hF Ay rfl rfl<|Ai rfl<|Af rfl hwt<|Ai rfl<|F7 3 4 1 [.imm (.str m.name),.imm (.sl (m.datas.map C7)),.imm (.sl (m.funs.map CG)),.mapr 2,.imm (.int .i64 (k)),.own 4 (AA S).length] rfl rfl (by decide) ⟨.inl rfl,.inl rfl,.inl rfl,.inl rfl,.inl rfl,.inr ⟨_,rfl,rfl⟩,trivial⟩<|FZ (t:=27) rfl λhv=>?_;simp [F0,maxLen] at hv
 refine Ak (λz:Nat×List (Int×Ty)×Int×List Ty=>[(29,.imm (.int .i64 z.1)),(28,.imm (.int .i64 ag.length)),(27,.imm (.sl (AA ag))),(0,.ref 1 0),(2,.imm (.sl (D5 Γ))),(4,.ref 5 0),(6,.ref 6 0),(8,.ref 8 0)]) (λz=>(5,some (.immb 49 5 (dTmc (.mk 14 n x ks ps))))::(6,some (.cells 25 4 [.imm (.int .i64 0),.imm (.int .i64 0),.imm (.str []),.nils]))::(8,some (.immb 25 4 (dTyc (Bw y))))::UH m z.2.1 z.2.2.1 z.2.2.2) [9,10,11] (λz=>ag.length-z.1)
  (λz=>z.1<=ag.length/\B2 m Γ (ks.drop z.1) (ag.drop z.1) z.2.1 z.2.2.1 z.2.2.2 r) (0,T,k,S)
  ⟨AJ _,h⟩ ⟨rfl,BB (by simp),GU⟩ GU rfl λz hz ih=>?_
 clear h;obtain ⟨j,T1,k1,S1⟩:=z;obtain ⟨hj1,hj2⟩:=hz;simp only at hj1 hj2 ih;refine As rfl<|Ab rfl (λh'=>?_) (λh'=>?_)
 ·have hlt:j<ag.length:=by simp at h';omega
  obtain ⟨u,hu⟩:=Ao hlt;obtain ⟨t,ht⟩:=Ao (l:=ks) (i:=j) (by omega);have hgu:=AE hu;rw [Av ht,Av hu,B2] at hj2;obtain ⟨u1,u2,u3,u4⟩:=u;refine As rfl<|Sl rfl hgu<|Ai rfl ?_;rcases hj2 with ⟨hI,rfl⟩ | ⟨⟨τ1,τ2,τ3,τ4⟩,T2,k2,S2,hI,hj2⟩
  ·have hK:=CI (op:=14) (n:=n) (x:=x) (ps:=ps) ht hI;simp only [Dp] at hK;exact Bf 3 [(1,1),(2,2),(4,3)] rfl (by simp) hK Ay rfl rfl rfl<|Ai rfl<|Et 39 (.imm (.tup [])) rfl DG (λx h=>by cases h)<|yg [] rfl (by simp;rfl)<|Bn 39 3 rfl
  ·have hK:=CI (op:=14) (n:=n) (x:=x) (ps:=ps) ht hI;simp only [Dp] at hK;refine A5 [(1,1),(2,2),(4,3)] [(4,10)] [] (fr:=[10]) (nm:=[1,2,10,1,2,4]) rfl trivial (by simp) hK Ay rfl trivial rfl rfl rfl<|Ai rfl ?_;rcases hj2 with ⟨hE,rfl⟩ | ⟨T3,hE,hj2⟩
   ·unfold DU at hE;exact Bd [(1,1),(2,2),(10,3)] rfl (by simp) hE Ay rfl rfl rfl<|ND 1 rfl (by simp;rfl)<|Bx 41 rfl
   ·unfold Dq at hE;exact A5 [(1,1),(2,2),(10,3)] [] [] (fr:=[]) (nm:=[1,2,10,1,2,10]) rfl trivial (by simp) hE Ay rfl trivial rfl rfl rfl<|yg [] rfl (by simp;rfl)<|Bt 10 4 rfl<|Ac (ih (j+1,T3,k2,S2) (by simp only;omega) ⟨by simp only;omega,hj2⟩) ⟨AU,GD⟩ GU rfl
 ·have hlt:¬j<ag.length:=by simp at h';omega
  rw [Bo (by omega:ks.length<=j)] at hj2;simp only [B2] at hj2;subst hj2;exact Az rfl<|As rfl<|Ah ⟨_,B6⟩
theorem jQ (m:Md) (Γ:Au) (n:Int) (x:Str) (ps:List Ty) (τ:Ty) (T:List (Int×Ty)) (k:Int) (S:List Ty) (hΓ:Γ.length<=1000000):GQ m Γ (.mk 2 n x ps) τ T k S (some (Γ++[(x,τ)],T)):=by
 have hW:=Ko Γ x τ hΓ;obtain ⟨τ1,τ2,τ3,τ4⟩:=τ;unfold GQ;exact Ad ttY_ok func263 rfl [5,6,7,8]<|yg [.a] rfl (by simp)<|Af rfl hW<|Ai rfl<|Ah ⟨_,B6⟩
theorem rP (m:Md) (Γ:Au) (f n:Int) (x:Str) (ps:List Ty) (τ:Ty) (T:List (Int×Ty)) (k:Int) (S:List Ty) (hf:f≠2/\f≠3/\f≠4/\f≠5/\f≠6):GQ m Γ (.mk f n x ps) τ T k S (some (Γ,T)):=by
 obtain ⟨τ1,τ2,τ3,τ4⟩:=τ;unfold GQ;refine Ad ttY_ok func263 rfl [5,6,7,8]<|Ai rfl<|Ab rfl (λh=>by exfalso;simp at h;omega) (λh=>?_);refine As rfl<|Ab rfl (λh=>by exfalso;simp at h;omega) (λh=>?_);refine As rfl<|Ab rfl (λh=>by exfalso;simp at h;omega) (λh=>?_);refine As rfl<|Ab rfl (λh=>by exfalso;simp at h;omega) (λh=>?_);refine As rfl<|Ab rfl (λh=>by exfalso;simp at h;omega) (λh=>?_);exact As rfl<|Ah ⟨_,B6⟩
theorem jT (m:Md) (Γ:Au) (n:Int) (x:Str) (ps:List Ty) (τ:Ty) (T:List (Int×Ty)) (k:Int) (S:List Ty) (r:Option (List (Int×Ty))) (h:yR m T k S τ (PC 3) r):GQ m Γ (.mk 3 n x ps) τ T k S (r.map λT'=>(Γ,T')):=by
 have hKd:=BA 1 [];obtain ⟨τ1,τ2,τ3,τ4⟩:=τ;unfold GQ;refine Ad ttY_ok func263 rfl [5,6,7,8]<|yg [.a,.a] rfl (by simp)<|Af rfl hKd<|Ai rfl ?_;cases r with
 | none =>
  have h:DU m T k S _ (.mk 1 0 [] []):=h;unfold DU at h;exact Bd [(1,1),(2,2),(3,3)] rfl (by simp) h Ay rfl rfl rfl<|ND 1 rfl (by simp;rfl)<|Bx 27 rfl
 | some T' =>
  have h:Dq m T k S _ (.mk 1 0 [] []) T':=h;unfold Dq at h;exact A5 [(1,1),(2,2),(3,3)] [] [] (fr:=[]) (nm:=[1,2,3,1,2,3]) rfl trivial (by simp) h Ay rfl trivial rfl rfl rfl<|yg [] rfl (by simp;rfl)<|Ah ⟨_,B6⟩
theorem jS (m:Md) (Γ:Au) (n:Int) (x:Str) (ps:List Ty) (τ:Ty) (T:List (Int×Ty)) (k:Int) (S:List Ty) (r:Option (List (Int×Ty))) (h:yR m T k S τ (PC 4) r):GQ m Γ (.mk 4 n x ps) τ T k S (r.map λT'=>(Γ,T')):=by
 have hKd:=BA 2 [];obtain ⟨τ1,τ2,τ3,τ4⟩:=τ;unfold GQ;refine Ad ttY_ok func263 rfl [5,6,7,8]<|yg [.a,.a,.a] rfl (by simp)<|Af rfl hKd<|Ai rfl ?_;cases r with
 | none =>
  have h:DU m T k S _ (.mk 2 0 [] []):=h;unfold DU at h;exact Bd [(1,1),(2,2),(3,3)] rfl (by simp) h Ay rfl rfl rfl<|ND 1 rfl (by simp;rfl)<|Bx 33 rfl
 | some T' =>
  have h:Dq m T k S _ (.mk 2 0 [] []) T':=h;unfold Dq at h;exact A5 [(1,1),(2,2),(3,3)] [] [] (fr:=[]) (nm:=[1,2,3,1,2,3]) rfl trivial (by simp) h Ay rfl trivial rfl rfl rfl<|yg [] rfl (by simp;rfl)<|Ah ⟨_,B6⟩
theorem jR (m:Md) (Γ:Au) (n:Int) (x:Str) (ps:List Ty) (τ:Ty) (T:List (Int×Ty)) (k:Int) (S:List Ty) (r:Option (List (Int×Ty))) (h:yR m T k S τ (PC 5) r):GQ m Γ (.mk 5 n x ps) τ T k S (r.map λT'=>(Γ,T')):=by
 have hKd:=BA 3 [];obtain ⟨τ1,τ2,τ3,τ4⟩:=τ;unfold GQ;refine Ad ttY_ok func263 rfl [5,6,7,8]<|yg [.a,.a,.a,.a] rfl (by simp)<|Af rfl hKd<|Ai rfl ?_;cases r with
 | none =>
  have h:DU m T k S _ (.mk 3 0 [] []):=h;unfold DU at h;exact Bd [(1,1),(2,2),(3,3)] rfl (by simp) h Ay rfl rfl rfl<|ND 1 rfl (by simp;rfl)<|Bx 39 rfl
 | some T' =>
  have h:Dq m T k S _ (.mk 3 0 [] []) T':=h;unfold Dq at h;exact A5 [(1,1),(2,2),(3,3)] [] [] (fr:=[]) (nm:=[1,2,3,1,2,3]) rfl trivial (by simp) h Ay rfl trivial rfl rfl rfl<|yg [] rfl (by simp;rfl)<|Ah ⟨_,B6⟩
theorem LC (m:Md) (Γ:Au) (n:Int) (x:Str) (ps:List Ty) (τ:Ty) (T:List (Int×Ty)) (k:Int) (S:List Ty) (h:FH m.datas x=none\/∃c y,FH m.datas x=some (c,y)/\c.args.length≠ps.length):GQ m Γ (.mk 6 n x ps) τ T k S none:=by
 have hF:=KY m x T k S;obtain ⟨τ1,τ2,τ3,τ4⟩:=τ;unfold GQ;refine Ad ttY_ok func263 rfl [5,6,7,8,9]<|yg (CU 4 [.a]) rfl (by simp) ?_;rcases h with h | ⟨c,y,h,hl⟩
 ·rw [h] at hF;simp only [Zr] at hF;exact Bf 1 [(1,1),(2,2),(3,3)] rfl (by simp) hF Ay rfl rfl rfl<|Bn 46 1 rfl
 ·rw [h] at hF;obtain ⟨c1,ag⟩:=c;simp only [Zr] at hF;exact Aq [] [(1,1),(2,2),(3,3)] [] rfl hF Ay rfl rfl<|Ai rfl<|Bd [] rfl (by simp) (IQ _ (by simp at hl ⊢;omega)) trivial rfl rfl rfl<|Bx 56 rfl
theorem Xo (m:Md) (Γ:Au) (n:Int) (x:Str) (ps:List Ty) (τ:Ty) (T:List (Int×Ty)) (k:Int) (S:List Ty) (r:Option (Au×List (Int×Ty))) (c:Cd) (y:Str) (hC:FH m.datas x=some (c,y)) (hl:c.args.length=ps.length)
  (h:(DU m T k S τ (Bw y)/\r=none)\/∃T1,Dq m T k S τ (Bw y) T1/\NA m k S ps c.args Γ T1 r):GQ m Γ (.mk 6 n x ps) τ T k S r:=by
 have hF:=KY m x T k S;rw [hC] at hF;obtain ⟨c1,ag⟩:=c;simp only [Zr] at hF;simp only at hl h;have hwt:Tq3 117 [.bool (((AA ag).length:Int) == (AA ps).length)] (.tup []):=by
  rw [show (((AA ag).length:Int) == (AA ps).length)=true by simp;omega];exact FA
 obtain ⟨τ1,τ2,τ3,τ4⟩:=τ;unfold GQ;refine Ad ttY_ok func263 rfl [5,6,7,8,9,10]<|yg (CU 4 [.a]) rfl (by simp)<|Aq [] [(1,1),(2,2),(3,3)] [] rfl hF Ay rfl rfl<|Ai rfl<|Af rfl hwt<|Ai rfl ?_;rcases h with ⟨hE,rfl⟩ | ⟨T1,hE,h⟩
 ·unfold DU at hE;exact Bd [(1,1),(2,2),(3,3)] rfl (by simp) hE Ay rfl rfl rfl<|Bx 60 rfl
 unfold Dq at hE;refine Aq [] [(1,1),(2,2),(3,3)] [] rfl hE Ay rfl rfl<|Ai rfl<|FZ (t:=62) rfl λhv=>?_;simp [F0,maxLen] at hv;refine Ak (λz:Nat×Au×List (Int×Ty)=>[(64,.imm (.int .i64 z.1)),(63,.imm (.int .i64 ps.length)),(62,.imm (.sl (AA ps))),(0,.ref 1 0),(3,.imm (.sl (D5 z.2.1))),(9,.ref 7 0)]) (λz=>(7,some (.immb 178 2 (Fa ⟨c1,ag⟩)))::CP m z.2.2 k S) [9,10] (λz=>ps.length-z.1)
  (λz=>z.1<=ps.length/\NA m k S (ps.drop z.1) (ag.drop z.1) z.2.1 z.2.2 r) (0,Γ,T1)
  ⟨AJ _,h⟩ ⟨rfl,BB (by simp),Cb⟩ Cb rfl λz hz ih=>?_
 clear h;obtain ⟨j,Γ1,T2⟩:=z;obtain ⟨hj1,hj2⟩:=hz;simp only at hj1 hj2 ih;refine As rfl<|Ab rfl (λh'=>?_) (λh'=>?_)
 ·have hlt:j<ps.length:=by simp at h';omega
  obtain ⟨p,hp⟩:=Ao hlt;obtain ⟨u,hu⟩:=Ao (l:=ag) (i:=j) (by omega);have hgp:=AE hp;have hgu:=AE hu;rw [Av hp,Av hu,NA] at hj2;obtain ⟨u1,u2,u3,u4⟩:=u;obtain ⟨p1,p2,p3,p4⟩:=p;refine As rfl<|Sl rfl hgp<|Ai rfl<|Sl rfl hgu<|Ai rfl ?_;rcases hj2 with ⟨hP,rfl⟩ | ⟨Γ2,T3,hP,hj2⟩
  ·unfold GQ at hP;simp only [pJ] at hP;exact Bd [(1,1),(2,2),(3,3)] rfl (by simp) hP Ay rfl rfl rfl<|yg [] rfl (by simp;rfl)<|Bx 77 rfl
  ·unfold GQ at hP;simp only [pJ] at hP;exact A5 [(1,1),(2,2),(3,3)] [] [] (fr:=[]) (nm:=[1,2,3,1,2,3]) rfl trivial (by simp) hP Ay rfl trivial rfl rfl rfl<|yg [] rfl (by simp;rfl)<|Ac (ih (j+1,Γ2,T3) (by simp only;omega) ⟨by simp only;omega,hj2⟩) ⟨AU,B6⟩ Cb rfl
 ·have hlt:¬j<ps.length:=by simp at h';omega
  rw [Bo (by omega:ps.length<=j)] at hj2;simp only [NA] at hj2;subst hj2;exact Az rfl<|As rfl<|Ah ⟨_,B6⟩
theorem pE (hm:DS m):gF m:=by
 intro S k;have key:∀(N:Nat) (p τ:Ty) (Γ:Au) (T:List (Int×Ty)),EK p<=N->StOk k (BG T)->TyK k τ->EnvOk k Γ->Γ.length+EK p<=1000000->∃r,GQ m Γ p τ T k S r/\VR m p τ Γ T k r:=by
  intro N
  induction N with
  | zero=>intro p t Γ L h;have:=KP p;omega
  | succ N ih =>
  intro p t Γ T hN hs ht hΓ hB;obtain ⟨f,n,x,ps⟩:=p;have hB':=hB;simp only [EK] at hN hB';by_cases e2:f=2
  ·subst e2;refine ⟨some (Γ++[(x,t)],T),jQ m Γ n x ps t T k S (by omega),pC hs hΓ ht.1 ht.2,?_⟩;simp only [EK,B5,Da,Cz];omega
  by_cases e345:f=3\/f=4\/f=5
  ·have hlit:TyK k (PC f):=by
    unfold PC;split
    ·exact TyK.i
    ·split
     ·exact TyK.b
     ·exact TyK.u
   obtain ⟨r,hE,hR⟩:=IW m T k S hs ht hlit;have hP:GQ m Γ (.mk f n x ps) t T k S (r.map λT'=>(Γ,T')):=by
    rcases e345 with rfl | rfl | rfl
    ·exact jT m Γ n x ps t T k S r hE
    ·exact jS m Γ n x ps t T k S r hE
    ·exact jR m Γ n x ps t T k S r hE
   refine ⟨_,hP,?_⟩;cases r with
   | none=>exact dX (m:=m) (n:=n) (x:=x) (ps:=ps) (τ:=t) (r:=none) hΓ e345 hR
   | some T'=>exact ⟨dX (m:=m) (n:=n) (x:=x) (ps:=ps) (τ:=t) (r:=some (BG T')) hΓ e345 hR,by omega⟩
  by_cases e6:f=6
  ·subst e6;cases hC:FH m.datas x with
   | none=>exact ⟨none,LC m Γ n x ps t T k S (.inl hC),MB (k:=k) (σ:=BG T) (.inl hC)⟩
   | some cy =>
    obtain ⟨c,y⟩:=cy;by_cases hl:c.args.length=ps.length
    ·obtain ⟨r,hE,hR⟩:=IW m T k S hs ht (b:=Bw y) ⟨by simp [Bw,Ck,EJ],Cr (by simp [Bw,CL,Dc]) _⟩;cases r with
     | none=>exact ⟨none,Xo m Γ n x ps t T k S none c y hC hl (.inl ⟨hE,rfl⟩),Zn (k:=k) (σ:=BG T) hC hR⟩
     | some T1 =>
      have hT:∀u∈c.args,TyK k u:=λu hu=>⟨(Jd hm hC u hu).2,Cr (Jd hm hC u hu).1 _⟩
      obtain ⟨r,c1,g1⟩:=TB ih ps c.args Γ T1 hl.symm (by omega) hR.2.1 hT hΓ (by omega);refine ⟨r,Xo m Γ n x ps t T k S r c y hC hl (.inr ⟨T1,hE,c1⟩),?_⟩;cases r with
      | none=>exact dZ hm (r:=none) hC hl hΓ hR g1
      | some z =>
       obtain ⟨Γ',T'⟩:=z;exact ⟨dZ hm (r:=some (Γ',BG T')) hC hl hΓ hR g1.1,by have:=g1.2;simp only [EK];omega⟩
    ·exact ⟨none,LC m Γ n x ps t T k S (.inr ⟨c,y,hC,hl⟩),MB (k:=k) (σ:=BG T) (.inr ⟨c,y,hC,hl⟩)⟩
  ·have hf:f≠2/\f≠3/\f≠4/\f≠5/\f≠6:=⟨e2,λh=>e345 (.inl h),λh=>e345 (.inr (.inl h)),λh=>e345 (.inr (.inr h)),e6⟩
   exact ⟨some (Γ,T),rP m Γ f n x ps t T k S hf,vW hs hΓ hf,by omega⟩
 exact λp τ Γ T=>key (EK p) p τ Γ T (BQ _)
def zb1 (m:Md) (Γ:Au) (t0:Tm) (ks:List Tm) (ps:List Ty) (T:List (Int×Ty)) (k:Int) (S:List Ty) (r:L0):Prop :=
 (EI m Γ t0 T k S none/\r=none)\/∃b T1 k1 S1,EI m Γ t0 T k S (some (b,T1,k1,S1))/\(0<=k1/\k1<=1000000)/\∃r',KN m Γ b (Aw k1) ps ks T1 (k1+1) S1 r'/\r=r'.map λz=>(Aw k1,z)
theorem Xq (m:Md) (Γ:Au) (n:Int) (x:Str) (t0:Tm) (ks:List Tm) (ps:List Ty) (T:List (Int×Ty)) (k:Int) (S:List Ty) (r:L0) (hl:ks.length=ps.length) (h:zb1 m Γ t0 ks ps T k S r):C0 204 m Γ (.mk 15 n x (t0::ks) ps) T k S r:=by
 have ht:(t0::ks)[0]?=some t0:=rfl;unfold C0;refine Ad ttY_ok func204 rfl [5,6,8,7,9,10,11,12]<|Ai rfl ?_;rcases h with ⟨hI,rfl⟩ | ⟨⟨b1,b2,b3,b4⟩,T1,k1,S1,hI,hk1,r',h,rfl⟩
 ·have hK:=CI (op:=15) (n:=n) (x:=x) (ps:=ps) ht hI;simp only [Dp] at hK;exact Bf 3 [(1,1),(2,2),(3,3)] rfl (by simp) hK Ay rfl rfl rfl<|Bn 14 3 rfl
 have hA:=Ir m T1 k1 S1 hk1;have hK:=CI (op:=15) (n:=n) (x:=x) (ps:=ps) ht hI;simp only [Dp] at hK;refine Aq [8] [(1,1),(2,2),(3,3)] [(4,8)] rfl hK Ay rfl rfl<|Ai rfl<|Aq [] [(1,1),(2,2),(8,3)] [] rfl hA Ay rfl rfl<|Ai rfl<|Bt 8 4 rfl<|FZ (t:=18) rfl λhv=>?_;simp [F0,maxLen] at hv
 refine Ak (λz:Nat×List (Int×Ty)×Int×List Ty=>[(20,.imm (.int .i64 z.1)),(19,.imm (.int .i64 ps.length)),(18,.imm (.sl (AA ps))),(0,.ref 1 0),(2,.imm (.sl (D5 Γ))),(4,.ref 5 0),(6,.ref 6 0),(7,.ref 7 0),(8,.ref 9 0)]) (λz=>(5,some (.immb 49 5 (dTmc (.mk 15 n x (t0::ks) ps))))::(6,some (.cells 25 4 [.imm (.int .i64 0),.imm (.int .i64 0),.imm (.str []),.nils]))::(7,some (.immb 25 4 (dTyc (.mk b1 b2 b3 b4))))::(9,some (.immb 25 4 (dTyc (Aw k1))))::UH m z.2.1 z.2.2.1 z.2.2.2) [10,11,12] (λz=>ps.length-z.1)
  (λz=>z.1<=ps.length/\KN m Γ (.mk b1 b2 b3 b4) (Aw k1) (ps.drop z.1) (ks.drop z.1) z.2.1 z.2.2.1 z.2.2.2 r') (0,T1,k1+1,S1)
  ⟨AJ _,h⟩ ⟨rfl,BB (by simp),GD⟩ GD rfl λz hz ih=>?_
 clear h hK hA hI;obtain ⟨j,T2,k2,S2⟩:=z;obtain ⟨hj1,hj2⟩:=hz;simp only at hj1 hj2 ih;refine As rfl<|Ab rfl (λh'=>?_) (λh'=>?_)
 ·have hlt:j<ps.length:=by simp at h';omega
  obtain ⟨p,hp⟩:=Ao hlt;obtain ⟨t,ht1⟩:=Ao (l:=ks) (i:=j) (by omega);have ht2:(t0::ks)[j+1]?=some t:=by simpa using ht1
  have hw:IntKind.i64.wrap ((j:Int)+1)=((j+1:Nat):Int):=by rw [GR (by omega) (by omega)];omega
  have hgp:=AE hp;rw [Av hp,Av ht1,KN] at hj2;obtain ⟨p1,p2,p3,p4⟩:=p;refine As rfl<|Sl rfl hgp<|Ai rfl ?_;rcases hj2 with ⟨hP,rfl⟩ | ⟨Γ1,T3,hP,hj2⟩
  ·unfold GQ at hP;simp only [pJ] at hP;exact Bd [(1,1),(2,2),(4,3)] rfl (by simp) hP Ay rfl rfl rfl<|Et 34 (cV 3) rfl jC (λx h=>by cases h)<|Ai rfl<|Et 35 (.imm (.tup [])) rfl DG (λx h=>by cases h)<|yg [] rfl (by simp;rfl)<|Bn 35 3 rfl
  ·unfold GQ at hP;simp only [pJ] at hP;refine A5 [(1,1),(2,2),(4,3)] [] [] (fr:=[]) (nm:=[1,2,4,1,2,4]) rfl trivial (by simp) hP Ay rfl trivial rfl rfl rfl<|Ai rfl ?_;rcases hj2 with ⟨hI,rfl⟩ | ⟨⟨τ1,τ2,τ3,τ4⟩,T4,k4,S4,hI,hj2⟩
   ·have hK:=CI (op:=15) (n:=n) (x:=x) (ps:=ps) ht2 hI;simp only [Dp] at hK;rw [<- hw] at hK;exact Bf 3 [(1,1),(2,2),(4,3)] rfl (by simp) hK Ay rfl rfl rfl<|Ai rfl<|Et 35 (.imm (.tup [])) rfl DG (λx h=>by cases h)<|yg [] rfl (by simp;rfl)<|Bn 35 3 rfl
   ·have hK:=CI (op:=15) (n:=n) (x:=x) (ps:=ps) ht2 hI;simp only [Dp] at hK;rw [<- hw] at hK;refine A5 [(1,1),(2,2),(4,3)] [(4,11)] [] (fr:=[11]) (nm:=[1,2,11,1,2,4]) rfl trivial (by simp) hK Ay rfl trivial rfl rfl rfl<|Ai rfl ?_;rcases hj2 with ⟨hE,rfl⟩ | ⟨T5,hE,hj2⟩
    ·unfold DU at hE;exact Bd [(1,1),(2,2),(11,3)] rfl (by simp) hE Ay rfl rfl rfl<|ND 1 rfl (by simp;rfl)<|Bx 37 rfl
    ·unfold Dq at hE;exact A5 [(1,1),(2,2),(11,3)] [] [] (fr:=[]) (nm:=[1,2,11,1,2,11]) rfl trivial (by simp) hE Ay rfl trivial rfl rfl rfl<|yg [] rfl (by simp;rfl)<|Bt 11 4 rfl<|Ac (ih (j+1,T5,k4,S4) (by simp only;omega) ⟨by simp only;omega,hj2⟩) ⟨AU,OK⟩ GD rfl
 ·have hlt:¬j<ps.length:=by simp at h';omega
  rw [Bo (by omega:ps.length<=j)] at hj2;simp only [KN] at hj2;subst hj2;exact Az rfl<|As rfl<|Ah ⟨_,B6⟩
theorem sH {t2:Tm} {k1 k2:Int} {σ1 σ2:Sb} {N1 N2:List Ty} (hΓ:EnvOk k Γ) (r1:I1 m [t0] [(Γ,BW)] k σ (some (k1,σ1,N1))) (r2:BS m Γ t1 k1 σ1 (some (τ,k2,σ2,N2))) (r3:BS m Γ t2 k2 σ2 none):BS m Γ (.mk 8 n x [t0,t1,t2] ps) k σ none:=by
 obtain ⟨a1,a2⟩:=r1;obtain ⟨c1,c2,c3,c4⟩:=r2;have hB:StpR k σ k2 σ2 (λη=>(N1.map (A8 η),A8 η τ,N2.map (A8 η))) (λη (w:List Ty×Ty×List Ty)=>C9 m [t0] [(FE η Γ,BW)] w.1/\Cf m t1 (FE η Γ) w.2.1 w.2.2) :=
  a1.bind c1 (λη g1 g2=>⟨by simpa [Hg] using g1,g2⟩) λη w hG=>⟨w.1,by simpa [Hg] using hG.1,λη1 ha hv=>⟨(w.2.1,w.2.2),by rw [ha.env hΓ];exact hG.2,λη2 hb _ hv2=>by
   obtain ⟨w1,w2,w3⟩:=w;simp only [Bc] at hv2 ⊢;exact ⟨by rw [hb.tys a2,hv],hv2.1,hv2.2⟩⟩⟩
 refine StpN.second hB r3 λη w hw=>?_;obtain ⟨S1,S2,S3,q1,q2,q3,_⟩:=Oh.1 hw;exact ⟨(S1,w.1,S2),⟨q1,q2⟩,λη1 ha _=>⟨(w.1,S3),by rw [ha.env hΓ];exact q3⟩⟩
def jOk (op:Int) (j:Nat):Prop:=j<=1/\(C5 op->op≠8->op≠16->j=1)
theorem YS {op:Int} (h:Cx op) (a:Ty):(Bu op a).2.2.length<=1:=by
 rcases h with rfl | rfl | rfl | rfl | rfl | rfl | rfl | rfl | rfl | rfl | rfl | rfl | rfl | rfl | rfl | rfl | rfl | rfl | rfl | rfl | rfl <;> simp [Bu]
theorem UL {op:Int} (h:Cx op) (h8:op≠8) (h16:op≠16) (ho:¬C5 op) (a b:Ty):Bu op a=Bu op b:=by
 rcases h with rfl | rfl | rfl | rfl | rfl | rfl | rfl | rfl | rfl | rfl | rfl | rfl | rfl | rfl | rfl | rfl | rfl | rfl | rfl | rfl | rfl <;> first | rfl | (exfalso;simp [C5] at ho)
theorem iL {op:Int} (h:Cx op) (h8:op≠8) (h16:op≠16) (hj:jOk op j) (hk:0<=k):(∀u∈(Bu op (Aw k)).1,TyK (k+j) u)/\TyK (k+j) (Bu op (Aw k)).2.1/\∀u∈(Bu op (Aw k)).2.2,TyK (k+j) u:=by
 by_cases ho:C5 op
 ·have:=hj.2 ho h8 h16;subst this;exact Q8 h (TyK.h ⟨hk,by omega⟩)
 ·rw [UL h h8 h16 ho (Aw k) AR];exact Q8 h TyK.i
theorem E4 {t:Tm} {us:List Ty} (hk:k'=k+j) (h:∀r,B2 m Γ ks us T k' S r->EI m Γ t T k S (r.map λz=>(τ,z))) :
  ∀r,B2 m Γ ks us T (k+j) S r->EI m Γ t T k S (r.map λz=>(τ,z.1,z.2.1,z.2.2++[])):=λr hr=>by
 subst hk;have:=h r hr;cases r with
 | none=>exact this
 | some z=>simpa using this
theorem wS (m:Md) (Γ:Au) (op n:Int) (x:Str) (ks:List Tm) (ps:List Ty) (T:List (Int×Ty)) (k:Int) (S:List Ty) (hr:Cx op) (h8:op≠8) (h16:op≠16) (hk:0<=k/\k<=1000000) (hl:ks.length=(Bu op (Aw k)).1.length) :
  ∃j:Nat,jOk op j/\∀r,B2 m Γ ks (Bu op (Aw k)).1 T (k+j) S r->(∀z,r=some z->z.2.2.length<=1000000)->EI m Γ (.mk op n x ks ps) T k S (r.map λz=>((Bu op (Aw k)).2.1,z.1,z.2.1,z.2.2++(Bu op (Aw k)).2.2)):=by
 have c0:jOk op 0\/C5 op:=by
  by_cases h:C5 op
  ·exact .inr h
  ·exact .inl ⟨by omega,λh'=>absurd h' h⟩
 have c1:jOk op 1:=⟨by omega,λ_ _ _=>rfl⟩
 have k0:k=k+(0:Nat):=by simp
 rcases hr with rfl | rfl | rfl | rfl | rfl | rfl | rfl | rfl | rfl | rfl | rfl | rfl | rfl | rfl | rfl | rfl | rfl | rfl | rfl | rfl | rfl
 ·obtain rfl:ks=[]:=Kj.1 hl;exact ⟨0,c0.resolve_right (by simp [C5]),λr hr _=>E4 k0 (λr h=>by simp only [Bu,B2] at h;subst h;exact Ed 1 rfl (Rk m Γ 1 n x [] ps T k S)) r hr⟩
 ·obtain rfl:ks=[]:=Kj.1 hl;exact ⟨0,c0.resolve_right (by simp [C5]),λr hr _=>E4 k0 (λr h=>by simp only [Bu,B2] at h;subst h;exact Ed 25 rfl (Rk m Γ 25 n x [] ps T k S)) r hr⟩
 ·obtain rfl:ks=[]:=Kj.1 hl;exact ⟨0,c0.resolve_right (by simp [C5]),λr hr _=>E4 k0 (λr h=>by simp only [Bu,B2] at h;subst h;exact Ed 2 rfl (rL m Γ 2 n x [] ps T k S)) r hr⟩
 ·obtain rfl:ks=[]:=Kj.1 hl;exact ⟨0,c0.resolve_right (by simp [C5]),λr hr _=>E4 k0 (λr h=>by simp only [Bu,B2] at h;subst h;exact Ed 3 rfl (Rj m Γ 3 n x [] ps T k S)) r hr⟩
 ·obtain rfl:ks=[]:=Kj.1 hl;exact ⟨0,c0.resolve_right (by simp [C5]),λr hr _=>E4 k0 (λr h=>by simp only [Bu,B2] at h;subst h;exact Ed 28 rfl (Rj m Γ 28 n x [] ps T k S)) r hr⟩
 ·exact absurd rfl h8
 ·obtain ⟨a,b,rfl⟩:∃a b,ks=[a,b]:=by
   match ks,hl with
   | [a,b],_=>exact ⟨a,b,rfl⟩
  exact ⟨0,c0.resolve_right (by simp [C5]),λr hr _=>E4 k0 (λr h=>Ed 9 rfl (ZZ m Γ 9 n x [a,b] ps T k S r (by simp) h)) r hr⟩
 ·obtain ⟨a,b,rfl⟩:∃a b,ks=[a,b]:=by
   match ks,hl with
   | [a,b],_=>exact ⟨a,b,rfl⟩
  exact ⟨0,c0.resolve_right (by simp [C5]),λr hr _=>E4 k0 (λr h=>Ed 10 rfl (ZZ m Γ 10 n x [a,b] ps T k S r (by simp) h)) r hr⟩
 ·obtain ⟨a,b,rfl⟩:∃a b,ks=[a,b]:=by
   match ks,hl with
   | [a,b],_=>exact ⟨a,b,rfl⟩
  exact ⟨0,c0.resolve_right (by simp [C5]),λr hr _=>E4 k0 (λr h=>Ed 11 rfl (ZZ m Γ 11 n x [a,b] ps T k S r (by simp) h)) r hr⟩
 ·obtain ⟨a,b,rfl⟩:∃a b,ks=[a,b]:=by
   match ks,hl with
   | [a,b],_=>exact ⟨a,b,rfl⟩
  exact ⟨0,c0.resolve_right (by simp [C5]),λr hr _=>E4 k0 (λr h=>Ed 12 rfl (wU m Γ 12 n x [a,b] ps T k S r (by simp) h)) r hr⟩
 ·obtain ⟨a,b,rfl⟩:∃a b,ks=[a,b]:=by
   match ks,hl with
   | [a,b],_=>exact ⟨a,b,rfl⟩
  exact ⟨1,c1,λr hr hb=>Ed 13 rfl (rV m Γ 13 n x [a,b] ps T k S r hk (by simp) hb hr)⟩
 ·exact absurd rfl h16
 ·obtain ⟨a,rfl⟩:∃a,ks=[a]:=by
   match ks,hl with
   | [a],_=>exact ⟨a,rfl⟩
  exact ⟨1,c1,λr hr _=>E4 (by simp) (λr h=>Ed 17 rfl (za8 m Γ n x a [] ps T k S r hk h)) r hr⟩
 ·obtain ⟨a,b,rfl⟩:∃a b,ks=[a,b]:=by
   match ks,hl with
   | [a,b],_=>exact ⟨a,b,rfl⟩
  exact ⟨1,c1,λr hr _=>E4 (by simp) (λr h=>Ed 18 rfl (za6 m Γ n x a b [] ps T k S r hk h)) r hr⟩
 ·obtain ⟨a,rfl⟩:∃a,ks=[a]:=by
   match ks,hl with
   | [a],_=>exact ⟨a,rfl⟩
  exact ⟨1,c1,λr hr _=>E4 (by simp) (λr h=>Ed 19 rfl (rM m Γ n x a [] ps T k S r hk h)) r hr⟩
 ·obtain ⟨a,rfl⟩:∃a,ks=[a]:=by
   match ks,hl with
   | [a],_=>exact ⟨a,rfl⟩
  exact ⟨1,c1,λr hr _=>E4 (by simp) (λr h=>Ed 20 rfl (wV m Γ n x a [] ps T k S r hk h)) r hr⟩
 ·obtain rfl:ks=[]:=Kj.1 hl;exact ⟨1,c1,λr hr _=>E4 (k':=k+1) (by simp) (λr h=>by simp only [Bu,B2] at h;subst h;exact Ed 21 rfl (aY m Γ 21 n x [] ps T k S hk)) r hr⟩
 ·obtain ⟨a,b,rfl⟩:∃a b,ks=[a,b]:=by
   match ks,hl with
   | [a,b],_=>exact ⟨a,b,rfl⟩
  exact ⟨1,c1,λr hr _=>E4 (by simp) (λr h=>Ed 22 rfl (wR m Γ n x a b [] ps T k S r hk h)) r hr⟩
 ·obtain ⟨a,rfl⟩:∃a,ks=[a]:=by
   match ks,hl with
   | [a],_=>exact ⟨a,rfl⟩
  exact ⟨1,c1,λr hr _=>E4 (by simp) (λr h=>Ed 23 rfl (wQ m Γ n x a [] ps T k S r hk h)) r hr⟩
 ·obtain ⟨a,rfl⟩:∃a,ks=[a]:=by
   match ks,hl with
   | [a],_=>exact ⟨a,rfl⟩
  exact ⟨0,c0.resolve_right (by simp [C5]),λr hr _=>E4 k0 (λr h=>Ed 24 rfl (za7 m Γ 24 n x [a] ps T k S r (by simp) h)) r hr⟩
 ·obtain ⟨a,rfl⟩:∃a,ks=[a]:=by
   match ks,hl with
   | [a],_=>exact ⟨a,rfl⟩
  exact ⟨0,c0.resolve_right (by simp [C5]),λr hr _=>E4 k0 (λr h=>Ed 26 rfl (rO m Γ 26 n x [a] ps T k S r (by simp) h)) r hr⟩
theorem StOk.fresh (h:StOk k σ):StOk (k+1) σ:=h.mono (by omega)
theorem X6 (hm:DS m):∀n,VU m n:=by
 intro n
 induction n with
 | zero=>intro t Γ T k S h;have:=dG t;omega
 | succ n IH =>
 intro t Γ T k S hn hf hB;obtain ⟨op,nn,x,ks,ps⟩:=t;have hk:=jD hf;have har:=wE hf;obtain ⟨b1,b2,b3,b4,b5⟩:=hB;have hsz:KQ (.mk op nn x ks ps)=1+Dx ks+DB ps:=rfl;rw [hsz] at hn b3 b4 b5;have hk0:0<=k:=b1.1;have hΓ':EnvOk (k+1) Γ:=b2.mono (by omega);have hh:TyK (k+1) (Aw k):=TyK.h ⟨hk0,by omega⟩;rcases har with ⟨rfl,h0⟩ | ⟨rfl,h0⟩ | ⟨rfl,h0⟩ | ⟨rfl,h0⟩ | ⟨rfl,h0⟩ | rfl | ⟨rfl,h0⟩ | ⟨hr,h0⟩
 ·-- a name
  obtain rfl:ks=[]:=Kj.1 h0;refine ⟨_,Ed 4 rfl (wT m Γ nn x [] ps T k S),?_⟩;have:=sF hm (n:=nn) (x:=x) (ps:=ps) b1 b2;cases hl:BO m Γ x with
  | none=>rw [hl] at this;exact this
  | some τ=>rw [hl] at this;exact ⟨[],this,by simp,by simp,by omega⟩
 ·-- a function
  obtain ⟨t0,rfl⟩:=Z9.1 h0;have hs0:Dx [t0]=KQ t0:=by simp [Dx]
  rw [hs0] at hn b3 b4 b5 hsz;obtain ⟨r,c1,g1⟩:=IH t0 (Γ++[(x,Aw k)]) T (k+1) S (by omega) (hk t0 (by simp)) ⟨b1.fresh,hΓ'.add hh.1 hh.2,by omega,by omega,by rw [B5,Vg];omega⟩;refine ⟨_,Ed 5 rfl (za9 m Γ nn x t0 [] ps T k S (by omega) (by omega) c1),?_⟩;cases r with
  | none=>exact eU (n:=nn) (ps:=ps) (r:=none) b1 b2 g1
  | some z =>
   obtain ⟨τ,T1,k1,S1⟩:=z;obtain ⟨N,r1,s1,s2,s3⟩:=g1;exact ⟨N,eU (n:=nn) (ps:=ps) (r:=some (τ,k1,BG T1,N)) b1 b2 r1,s1,by rw [hsz];omega,by rw [hsz];omega⟩
 ·-- a continuation
  obtain ⟨t0,rfl⟩:=Z9.1 h0;have hs0:Dx [t0]=KQ t0:=by simp [Dx]
  have hkf:TyK (k+1) (AN (Aw k) AR):=TyK.f hh TyK.i;have hE:EnvOk (k+1) (Γ++[(x,AN (Aw k) AR)]):=hΓ'.add hkf.1 hkf.2;obtain ⟨r,c1,g1⟩:=H3 IH [t0] [AR] (Γ++[(x,AN (Aw k) AR)]) T (k+1) S rfl (by omega) hk (λu hu=>by rw [AP.1 hu];exact TyK.i) ⟨b1.fresh,hE,by omega,by omega,by rw [B5,Vg];omega⟩;refine ⟨_,Ed 27 rfl (rN m Γ nn x t0 [] ps T k S (by omega) (by omega) c1),?_⟩;have hN:∀{r},I1 m [t0] [(Γ++[(x,AN (Aw k) AR)],AR)] (k+1) (BG T) r->BS m Γ (.mk 27 nn x [t0] ps) k (BG T) (r.map λy=>(Aw k,y.1,y.2.1,y.2.2++[])):=λhr =>
   Rv (op:=27) (n:=nn) (x:=x) (ps:=ps) (j:=1) b1 (iF (by omega) b2) (λp hp=>by rw [AP.1 hp];exact ⟨hE,rfl,Cr rfl _⟩) hh.1 hh.2 (λt h=>nomatch h) hr
  cases r with
  | none=>exact hN (r:=none) g1
  | some z =>
   obtain ⟨T1,k1,S1⟩:=z;obtain ⟨N,r1,s1,s2,s3⟩:=g1;exact ⟨N,by simpa using hN (r:=some (k1,BG T1,N)) r1,s1,by rw [hsz];omega,by rw [hsz];omega⟩
 ·-- an application
  obtain ⟨t0,u0,rfl⟩:∃t0 u0,ks=[t0,u0]:=by
   match ks,h0 with
   | [a,b],_=>exact ⟨a,b,rfl⟩
  have hs0:Dx [t0,u0]=KQ t0+KQ u0:=by simp [Dx]
  rw [hs0] at hn b3 b4 b5 hsz;obtain ⟨r1,c1,g1⟩:=IH t0 Γ T k S (by omega) (hk t0 (by simp)) ⟨b1,b2,by omega,by omega,by omega⟩;cases r1 with
  | none=>exact ⟨none,Ed 6 rfl (Nd m Γ nn x t0 u0 [] ps T k S none (.inl ⟨c1,rfl⟩)),rS (k:=k) (k0:=k) (σ:=BG T) g1 λη w hw=>by
    obtain ⟨a0,S1,S2,q1,q2,_⟩:=Jf.1 hw;exact ⟨_,_,q1⟩⟩
  | some z =>
   obtain ⟨f,T1,k1,S1⟩:=z;obtain ⟨N1,r1,s1,s2,s3⟩:=g1;have hle:k<=k1:=r1.1.1;obtain ⟨r2,c2,g2⟩:=IH u0 Γ T1 k1 S1 (by omega) (hk u0 (by simp)) ⟨r1.1.2.1,b2.mono hle,by omega,by rw [s1,B5];omega,by omega⟩;cases r2 with
   | none=>exact ⟨none,Ed 6 rfl (Nd m Γ nn x t0 u0 [] ps T k S none (.inr ⟨f,T1,k1,S1,c1,.inl ⟨c2,rfl⟩⟩)),jY b2 r1 g2 λη w hw=>by
     obtain ⟨a0,S1,S2,q1,q2,_⟩:=Jf.1 hw;exact ⟨⟨_,_,q1⟩,_,_,q2⟩⟩
   | some z =>
    obtain ⟨a,T2,k2,S2⟩:=z;obtain ⟨N2,r2,u1,u2,u3⟩:=g2;have hle2:k1<=k2:=r2.1.1;have hh2:TyK (k2+1) (Aw k2):=TyK.h ⟨by omega,by omega⟩;have ha2:TyK k2 a:=⟨r2.2.1,r2.2.2.1⟩
    obtain ⟨r3,c3,g3⟩:=IW m T2 (k2+1) S2 r2.1.2.1.fresh (a:=f) (b:=AN a (Aw k2)) (TyK.mono ⟨r1.2.1,r1.2.2.1⟩ (by omega)) (TyK.f (ha2.mono (by omega)) hh2);cases r3 with
    | none=>exact ⟨none,Ed 6 rfl (Nd m Γ nn x t0 u0 [] ps T k S none (.inr ⟨f,T1,k1,S1,c1,.inr ⟨a,T2,k2,S2,c2,by omega,.inl ⟨c3,rfl⟩⟩⟩)),LH (r:=none) b2 r1 r2 g3⟩
    | some T3=>exact ⟨some (Aw k2,T3,k2+1,S2),Ed 6 rfl (Nd m Γ nn x t0 u0 [] ps T k S _ (.inr ⟨f,T1,k1,S1,c1,.inr ⟨a,T2,k2,S2,c2,by omega,.inr ⟨T3,c3,rfl⟩⟩⟩)),N1++N2,LH (r:=some (BG T3)) b2 r1 r2 g3,by rw [u1,s1,CF],by rw [hsz,B5];omega,by rw [hsz];omega⟩
 ·-- let
  obtain ⟨t0,u0,rfl⟩:∃t0 u0,ks=[t0,u0]:=by
   match ks,h0 with
   | [a,b],_=>exact ⟨a,b,rfl⟩
  have hs0:Dx [t0,u0]=KQ t0+KQ u0:=by simp [Dx]
  rw [hs0] at hn b3 b4 b5 hsz;obtain ⟨r1,c1,g1⟩:=IH t0 Γ T k S (by omega) (hk t0 (by simp)) ⟨b1,b2,by omega,by omega,by omega⟩;cases r1 with
  | none=>exact ⟨none,Ed 7 rfl (rQ m Γ nn x t0 u0 [] ps T k S none (by omega) (.inl ⟨c1,rfl⟩)),V2 (k:=k) (k0:=k) (σ:=BG T) g1⟩
  | some z =>
   obtain ⟨τ,T1,k1,S1⟩:=z;obtain ⟨N1,r1,s1,s2,s3⟩:=g1;have hle:k<=k1:=r1.1.1;obtain ⟨r2,c2,g2⟩:=IH u0 (Γ++[(x,τ)]) T1 k1 S1 (by omega) (hk u0 (by simp)) ⟨r1.1.2.1,(b2.mono hle).add r1.2.1 r1.2.2.1,by omega,by rw [s1,B5];omega,by rw [B5,Vg];omega⟩;refine ⟨r2,Ed 7 rfl (rQ m Γ nn x t0 u0 [] ps T k S r2 (by omega) (.inr ⟨τ,T1,k1,S1,c1,c2⟩)),?_⟩;cases r2 with
   | none=>exact eT (n:=nn) (ps:=ps) (r:=none) (Kl _) b2 r1 g2
   | some z =>
    obtain ⟨τ',T2,k2,S2⟩:=z;obtain ⟨N2,r2,u1,u2,u3⟩:=g2;exact ⟨N1++N2,eT (n:=nn) (ps:=ps) (r:=some (τ',k2,BG T2,N2)) (Kl _) b2 r1 r2,by rw [u1,s1,CF],by rw [hsz,B5];omega,by rw [hsz];omega⟩
 ·-- a constructor
  cases hC:FH m.datas x with
  | none=>exact ⟨none,Ed 14 rfl (TZ m Γ nn x ks ps T k S (.inl hC)),V3 (k:=k) (σ:=BG T) hC⟩
  | some cy =>
   obtain ⟨c,y⟩:=cy;by_cases hl:c.args.length=ks.length
   ·obtain ⟨r,c1,g1⟩:=H3 IH ks c.args Γ T k S hl.symm (by omega) hk (λu hu=>⟨(Jd hm hC u hu).2,Cr (Jd hm hC u hu).1 _⟩) ⟨b1,b2,by omega,by omega,by omega⟩;refine ⟨_,Ed 14 rfl (zba m Γ nn x ks ps T k S r c y hC hl c1),?_⟩;cases r with
    | none=>exact V4 hm (n:=nn) (ps:=ps) (r:=none) b1 b2 hC g1
    | some z =>
     obtain ⟨T1,k1,S1⟩:=z;obtain ⟨N,r1,s1,s2,s3⟩:=g1;exact ⟨N,V4 hm (n:=nn) (ps:=ps) (r:=some (k1,BG T1,N)) b1 b2 hC r1,s1,by rw [hsz];omega,by rw [hsz];omega⟩
   ·exact ⟨none,Ed 14 rfl (TZ m Γ nn x ks ps T k S (.inr ⟨c,y,hC,hl⟩)),V4 hm (n:=nn) (ps:=ps) (r:=none) b1 b2 hC (jX (by simpa using λh=>hl h.symm))⟩
 ·-- a match
  obtain ⟨t0,ks,rfl⟩:∃t0 l,ks=t0::l:=by
   cases ks with
   | nil=>simp at h0;omega
   | cons a l=>exact ⟨a,l,rfl⟩
  have hs0:Dx (t0::ks)=KQ t0+Dx ks:=rfl;rw [hs0] at hn b3 b4 b5 hsz;obtain ⟨r1,c1,g1⟩:=IH t0 Γ T k S (by omega) (hk t0 (by simp)) ⟨b1,b2,by omega,by omega,by omega⟩;cases r1 with
  | none=>exact ⟨none,Ed 15 rfl (Xq m Γ nn x t0 ks ps T k S none (by simp at h0;omega) (.inl ⟨c1,rfl⟩)),Rw (k:=k) (k0:=k) (σ:=BG T) g1⟩
  | some z =>
   obtain ⟨b,T1,k1,S1⟩:=z;obtain ⟨N1,r1,s1,s2,s3⟩:=g1;have hle:k<=k1:=r1.1.1;have hh2:TyK (k1+1) (Aw k1):=TyK.h ⟨by omega,by omega⟩;obtain ⟨r2,c2,g2⟩:=Tw (pE hm) IH ps ks Γ b (Aw k1) T1 (k1+1) S1 (by simp at h0;omega) (by omega) (λt ht=>hk t (by simp [ht])) (TyK.mono ⟨r1.2.1,r1.2.2.1⟩ (by omega)) hh2 ⟨r1.1.2.1.fresh,b2.mono (by omega),by omega,by rw [s1,B5];omega,by omega⟩;refine ⟨_,Ed 15 rfl (Xq m Γ nn x t0 ks ps T k S (r2.map λz=>(Aw k1,z)) (by simp at h0;omega) (.inr ⟨b,T1,k1,S1,c1,by omega,r2,c2,rfl⟩)),?_⟩;cases r2 with
   | none=>exact LG (n:=nn) (x:=x) (r:=none) b2 r1 g2
   | some z =>
    obtain ⟨T2,k2,S2⟩:=z;obtain ⟨N2,r2,u1,u2,u3⟩:=g2;exact ⟨N1++N2,LG (n:=nn) (x:=x) (r:=some (k2,BG T2,N2)) b2 r1 r2,by rw [u1,s1,CF],by rw [hsz,B5];omega,by rw [hsz];omega⟩
 ·-- the others
  by_cases h16:op=16
  ·subst h16;obtain ⟨t0,rfl⟩:∃t0,ks=[t0]:=Z9.1 (by rw [h0];rfl);have hs0:Dx [t0]=KQ t0:=by simp [Dx]
   rw [hs0] at hn b3 b4 b5 hsz;obtain ⟨r,c1,g1⟩:=IH t0 Γ T k S (by omega) (hk t0 (by simp)) ⟨b1,b2,by omega,by omega,by omega⟩;refine ⟨_,Ed 16 rfl (wX m Γ nn x t0 [] ps T k S c1),?_⟩;cases r with
   | none=>exact Ng (k:=k) (σ:=BG T) (n:=nn) (x:=x) (ps:=ps) (r:=none) g1
   | some z =>
    obtain ⟨τ,T1,k1,S1⟩:=z;obtain ⟨N,r1,s1,s2,s3⟩:=g1;exact ⟨N,Ng (n:=nn) (x:=x) (ps:=ps) (r:=some (τ,k1,BG T1,N)) r1,s1,by rw [hsz];omega,by rw [hsz];omega⟩
  by_cases h8:op=8
  ·subst h8;obtain ⟨t0,t1,t2,rfl⟩:∃t0 t1 t2,ks=[t0,t1,t2]:=by
    match ks,h0 with
    | [a,b,c],_=>exact ⟨a,b,c,rfl⟩
   have hs0:Dx [t0,t1,t2]=KQ t0+KQ t1+KQ t2:=by simp [Dx];omega
   rw [hs0] at hn b3 b4 b5 hsz;have hs1:Dx [t0]=KQ t0:=by simp [Dx]
   obtain ⟨r1,c1,g1⟩:=H3 IH [t0] [BW] Γ T k S rfl (by omega) (λt ht=>hk t (by rw [AP.1 ht];simp)) (λu hu=>by rw [AP.1 hu];exact TyK.b) ⟨b1,b2,by omega,by omega,by omega⟩;cases r1 with
   | none=>exact ⟨none,Ed 8 rfl (Xr m Γ nn x t0 t1 t2 [] ps T k S none (.inl ⟨c1,rfl⟩)),StpN.first g1 λη w hw=>by
     obtain ⟨S1,S2,S3,q1,_⟩:=Oh.1 hw;exact ⟨S1,by simpa [Hg] using q1⟩⟩
   | some z =>
    obtain ⟨T1,k1,S1⟩:=z;obtain ⟨N1,r1,s1,s2,s3⟩:=g1;have hle:k<=k1:=r1.1.1;obtain ⟨r2,c2,g2⟩:=IH t1 Γ T1 k1 S1 (by omega) (hk t1 (by simp)) ⟨r1.1.2.1,b2.mono hle,by omega,by rw [s1,B5];omega,by omega⟩;cases r2 with
    | none=>exact ⟨none,Ed 8 rfl (Xr m Γ nn x t0 t1 t2 [] ps T k S none (.inr ⟨T1,k1,S1,c1,.inl ⟨c2,rfl⟩⟩)),StpN.second r1.1 g2 λη w hw=>by
      obtain ⟨S1,S2,S3,q1,q2,q3,_⟩:=Oh.1 hw;exact ⟨S1,by simpa [Hg] using q1,λη1 ha _=>⟨(_,S2),by rw [ha.env b2];exact q2⟩⟩⟩
    | some z =>
     obtain ⟨τ,T2,k2,S2⟩:=z;obtain ⟨N2,r2,u1,u2,u3⟩:=g2;have hle2:k1<=k2:=r2.1.1;obtain ⟨r3,c3,g3⟩:=IH t2 Γ T2 k2 S2 (by omega) (hk t2 (by simp)) ⟨r2.1.2.1,b2.mono (by omega),by omega,by rw [u1,s1,B5,B5];omega,by omega⟩;cases r3 with
     | none =>
      refine ⟨none,Ed 8 rfl (Xr m Γ nn x t0 t1 t2 [] ps T k S none (.inr ⟨T1,k1,S1,c1,.inr ⟨τ,T2,k2,S2,c2,.inl ⟨c3,rfl⟩⟩⟩)),?_⟩;exact sH b2 r1 r2 g3
     | some z =>
      obtain ⟨a,T3,k3,S3⟩:=z;obtain ⟨N3,r3,v1,v2,v3⟩:=g3;have hle3:k2<=k3:=r3.1.1;obtain ⟨r4,c4,g4⟩:=IW m T3 k3 S3 r3.1.2.1 (a:=τ) (b:=a) (TyK.mono ⟨r2.2.1,r2.2.2.1⟩ hle3) ⟨r3.2.1,r3.2.2.1⟩;cases r4 with
      | none=>exact ⟨none,Ed 8 rfl (Xr m Γ nn x t0 t1 t2 [] ps T k S none (.inr ⟨T1,k1,S1,c1,.inr ⟨τ,T2,k2,S2,c2,.inr ⟨a,T3,k3,S3,c3,.inl ⟨c4,rfl⟩⟩⟩⟩)),Rx (r:=none) b2 r1 r2 r3 g4⟩
      | some T4=>exact ⟨some (τ,T4,k3,S3),Ed 8 rfl (Xr m Γ nn x t0 t1 t2 [] ps T k S _ (.inr ⟨T1,k1,S1,c1,.inr ⟨τ,T2,k2,S2,c2,.inr ⟨a,T3,k3,S3,c3,.inr ⟨T4,c4,rfl⟩⟩⟩⟩)),N1++(N2++N3),Rx (r:=some (BG T4)) b2 r1 r2 r3 g4,by rw [v1,u1,s1];simp,by rw [hsz,B5,B5];omega,by rw [hsz];omega⟩
  obtain ⟨k1,k2,k3⟩:=Q8 hr hh;have hlen:ks.length=(Bu op (Aw k)).1.length:=h0.trans (iM hr _ _);obtain ⟨j,hj,hw⟩:=wS m Γ op nn x ks ps T k S hr h8 h16 (by omega) hlen;obtain ⟨n1,n2,n3⟩:=iL hr h8 h16 (j:=j) hj hk0;have hj1:j<=1:=hj.1;obtain ⟨r,c1,g1⟩:=H3 IH ks (Bu op (Aw k)).1 Γ T (k+j) S hlen (by omega) hk n1 ⟨b1.mono (by omega),b2.mono (by omega),by omega,by omega,by omega⟩;have hI:∀{r},I1 m ks ((Bu op (Aw k)).1.map λu=>(Γ,u)) (k+j) (BG T) r->BS m Γ (.mk op nn x ks ps) k (BG T) (r.map λy=>((Bu op (Aw k)).2.1,y.1,y.2.1,y.2.2++(Bu op (Aw k)).2.2)):=λhr' =>
   Rv (op:=op) (n:=nn) (x:=x) (ps:=ps) (j:=j) b1 (nP hr (λho=>by have:=hj.2 ho h8 h16;omega) b2) (λp hp=>by
    obtain ⟨u,hu,rfl⟩:=C2.1 hp;exact ⟨b2.mono (by omega),n1 u hu⟩) n2.1 n2.2 n3 hr'
  refine ⟨_,hw r c1 (λz hz=>by
   subst hz;obtain ⟨T1,k1',S1⟩:=z;obtain ⟨N,_,s1,s2,_⟩:=g1;simp only [s1,B5];omega),?_⟩
  cases r with
  | none=>exact hI (r:=none) g1
  | some z =>
   obtain ⟨T1,k1',S1⟩:=z;obtain ⟨N,r1,s1,s2,s3⟩:=g1;have hSl:(Bu op (Aw k)).2.2.length<=1:=YS hr _;exact ⟨N++(Bu op (Aw k)).2.2,hI (r:=some (k1',BG T1,N)) r1,by rw [s1,CF],by rw [hsz,B5];omega,by show k1'<=_;rw [hsz];omega⟩
def Jc (l:List Int):List (List V):=l.map λx=>[.int .i64 x]
@[simp] theorem dNums_length (l:List Int):(Jc l).length=l.length:=by simp [Jc]
theorem zco (L S:List Ty) (hs:Sol (Mr L) θ) (hd:Dom L.length (Mr L)) (hS:∀t∈S,inB L.length t):Tq3 89 [.agg (cC L S)] (.bool ((S.map (A8 θ)).all Dj)):=by
 refine B3 λhv=>?_;simp [CV,F0,cC,maxLen] at hv;refine Ad Du func89 rfl [1,2,3]<|EL rfl<|Ak (λi:Nat=>[(3,.imm (.int .i64 i)),(1,.ref 1 0)]) (λ_=>[(1,some (.immb 105 2 (cC L S)))]) [2,3] (λi=>S.length-i) (λi=>i<=S.length/\(S.map (A8 θ)).all Dj=((S.drop i).map (A8 θ)).all Dj) 0
  ⟨AJ _,rfl⟩ AK A9 rfl λi hi ih=>?_
 obtain ⟨hi1,hi2⟩:=hi;refine E5 rfl<|Ab rfl (λh=>?_) (λh=>?_)
 ·have hlt:i<S.length:=by simp at h;omega
  obtain ⟨p,hp⟩:=Ao hlt;have hg:=AE hp;obtain ⟨u,hu⟩:=NJ hs p;have hH:=xD L S hs hd p u hu (hS p (AF hp));have hu1:=hu.srt_eq hs;rw [Av hp,C6,Dd] at hi2;have hpl:Dj (A8 θ p)=(Cg u == 1||Cg u == 2||Cg u == 3):=by rw [Dj,hu1]
  rw [hpl] at hi2;clear hu hu1 hpl;obtain ⟨p1,p2,p3,p4⟩:=p;obtain ⟨f,u2,u3,u4⟩:=u;simp only [Cg] at hi2;refine E5 rfl<|zA rfl hg<|EL rfl<|Af rfl hH<|rg [] rfl (by simp [Am];rfl) ?_;by_cases hf:f=1\/f=2\/f=3
  ·have hb:(f == 1||f == 2||f == 3)=true:=by simpa [or_assoc] using hf
   rw [hb,Jx] at hi2;refine Ab rfl (λh=>by exfalso;simp at h;grind) (λh=>?_);exact E5 rfl<|Ac (ih (i+1) (by omega) ⟨by omega,hi2⟩) ⟨AU,A9⟩ A9 rfl
  ·have hb:(f == 1||f == 2||f == 3)=false:=by simp only [not_or] at hf;simp [hf.1,hf.2.1,hf.2.2]
   rw [hb,Bool.false_and] at hi2;refine Ab rfl (λh=>?_) (λh=>by exfalso;simp at h;grind);exact E5 rfl<|Ah ⟨_,rfl,tV (by rw [hi2]),trivial⟩
 ·have hlt:¬i<S.length:=by simp at h;omega
  refine Az rfl<|E5 rfl ?_;rw [Bo (by omega)] at hi2;exact Ah ⟨_,rfl,tV (by rw [hi2];rfl),trivial⟩
def plS (m:Md) (T:List (Int×Ty)) (k:Int) (S:List Ty):St:=CP m T k S++[(5,some (.cells 92 1 [.ref 1 0]))]
def Zk (m:Md) (T:List (Int×Ty)) (k:Int) (S:List Ty):St:=plS m T k S++[(6,some (.cells 26 1 [.fn (.func 142) [] [.ref 5 0]]))]
theorem Vt (m:Md) (T:List (Int×Ty)) (k:Int) (S:List Ty) (hs:Sol (BG T) θ) (t:Ty) :
  Tq4 142 [.imm (.agg (dTyc t)),.ref 5 0] (plS m T k S) (.ret (.imm (.bool (Dj (A8 θ t)))) (plS m T k S)):=by
 obtain ⟨u,hu⟩:=NJ hs t;have hH:=Cp m T k S hs t u hu;have hu1:=hu.srt_eq hs;have hpl:Dj (A8 θ t)=(Cg u == 1||Cg u == 2||Cg u == 3):=by rw [Dj,hu1]
 rw [hpl];clear hu hu1 hpl;obtain ⟨t1,t2,t3,t4⟩:=t;obtain ⟨f,u2,u3,u4⟩:=u;refine Ad ttY_ok func142 rfl [7,8,9]<|Ai rfl<|A5 [(1,1),(2,2),(3,3)] [] [] (fr:=[]) (nm:=[1,2,3,1,2,3]) rfl trivial (by simp) hH Ay rfl trivial rfl rfl rfl<|Ai rfl<|Ah ⟨_,rfl,tV (congrArg _ ?_),Cb⟩;simp only [Cg];by_cases h1:f=1
 ·subst h1;rfl
 by_cases h2:f=2
 ·subst h2;rfl
 by_cases h3:f=3
 ·subst h3;rfl
 ·simp [h1,h2,h3]
theorem kK (m:Md) (T:List (Int×Ty)) (k:Int) (S:List Ty) (hs:Sol (BG T) θ) (t:Ty) :
  Tq4 175 [.imm (.agg (dTyc t)),.ref 6 0] (Zk m T k S) (.ret (.imm (.bool (!Dj (A8 θ t)))) (Zk m T k S)):=by
 have hH:=Vt m T k S hs t;generalize Dj (A8 θ t)=o at *;obtain ⟨t1,t2,t3,t4⟩:=t;exact Ad ttY_ok func175 rfl [7,8,9]<|Ai rfl<|A5 [(1,1),(2,2),(3,3),(5,5)] [] [] (fr:=[]) (nm:=[1,2,3,5,1,2,3,5]) rfl trivial (by simp) hH Kc rfl trivial rfl rfl rfl<|Ai rfl<|Ah ⟨_,rfl,tV rfl,B6⟩
theorem bD (m:Md) (T:List (Int×Ty)) (k:Int) (S:List Ty) (hs:Sol (BG T) θ) (hl:S.length<=1000000) :
  ∃i:Int,(0<=i↔(S.map (A8 θ)).all Dj=false)/\Tq4 245 [.own 3 (AA S).length,.fn (.func 175) [] [.ref 6 0]] (Zk m T k S) (.ret (.imm (.int .i64 i)) (Zk m T k S)):=by
 have hfi:∃i:Int,(0<=i↔(S.map (A8 θ)).all Dj=false)/\((i = -1/\(S.map (A8 θ)).all Dj=true)\/∃(j:Nat) (t:Ty),i=j/\S[j]?=some t/\Dj (A8 θ t)=false/\((S.take j).map (A8 θ)).all Dj=true):=by
  cases h:(S.map (A8 θ)).all Dj with
  | true=>exact ⟨-1,⟨λh=>by omega,λh=>nomatch h⟩,.inl ⟨rfl,rfl⟩⟩
  | false =>
   have key:∀(n:Nat),((S.take n).map (A8 θ)).all Dj=false->∃(j:Nat) (t:Ty),S[j]?=some t/\Dj (A8 θ t)=false/\((S.take j).map (A8 θ)).all Dj=true:=λn=>by
    induction n with
    | zero=>intro h;simp at h
    | succ n ih =>
     intro h;cases hn:((S.take n).map (A8 θ)).all Dj with
     | false=>exact ih hn
     | true =>
      by_cases hl:n<S.length
      ·obtain ⟨t,ht⟩:=Ao hl;rw [Bp ht,CE,HJ,hn,Jx] at h;exact ⟨n,t,ht,by simpa using h,hn⟩
      ·rw [Db (by omega)] at h hn;rw [hn] at h;cases h
   obtain ⟨j,t,k1,k2,k3⟩:=key S.length (by rw [Jw];exact h);exact ⟨j,⟨λ_=>rfl,λ_=>by omega⟩,.inr ⟨j,t,rfl,k1,k2,k3⟩⟩
 obtain ⟨i,h1,h2⟩:=hfi;refine ⟨i,h1,?_⟩;clear h1;refine Ad ttY_ok func245 rfl [7,8,9]<|Ai rfl<|Ak (λj:Nat=>[(8,.imm (.int .i64 j)),(7,.imm (.int .i64 S.length)),(0,.own 3 (AA S).length),(1,.fn (.func 175) [] [.ref 6 0])]) (λ_=>Zk m T k S) [7,8,9] (λj=>S.length-j) (λj=>j<=S.length/\((S.take j).map (A8 θ)).all Dj=true) 0
  ⟨AJ _,rfl⟩ ⟨rfl,BB (by simp),AK⟩ B6 rfl λj hj ih=>?_
 obtain ⟨hj1,hj2⟩:=hj;refine As rfl<|Ab rfl (λh=>?_) (λh=>?_)
 ·have hlt:j<S.length:=by simp at h;omega
  obtain ⟨t,ht⟩:=Ao hlt;have hg:=AE ht;have hQ:=kK m T k S hs t;have htk:((S.take (j+1)).map (A8 θ)).all Dj=Dj (A8 θ t):=by rw [Bp ht,CE,HJ,hj2];simp
  have hfound:Dj (A8 θ t)=false->i=j:=λhqt=>by
   rcases h2 with ⟨_,h⟩ | ⟨k',u,rfl,k1,k2,k3⟩
   ·rw [CS.1 h _ (C2.2 ⟨t,AF ht,rfl⟩)] at hqt;cases hqt
   ·congr 1;rcases Mc k' j with hc | hc | hc
    ·rw [CS.1 hj2 _ (C2.2 ⟨u,DL.2 ⟨k',by rw [D6,if_pos hc];exact k1⟩,rfl⟩)] at k2;cases k2
    ·exact hc
    ·rw [CS.1 k3 _ (C2.2 ⟨t,DL.2 ⟨j,by rw [D6,if_pos hc];exact ht⟩,rfl⟩)] at hqt;cases hqt
  generalize Dj (A8 θ t)=o at *;obtain ⟨t1,t2,t3,t4⟩:=t;refine As rfl<|FU ttY_ok rfl (λ_=>⟨by simp,by simpa using hlt⟩) (by simp)<|Ai rfl<|PW ttY_ok (e:=dTyc (.mk t1 t2 t3 t4)) rfl (λ_=>by simpa using hg) rfl (by simp)<|Ai rfl<|Aq [] [(1,1),(2,2),(3,3),(5,5),(6,6)] [] rfl hQ W1 rfl rfl<|Ai rfl ?_;cases o with
  | false =>
   exact Al rfl λh=>As rfl<|Ah ⟨_,rfl,tV (by rw [hfound rfl]),B6⟩
  | true =>
   exact Ag rfl λh=>As rfl<|Ac (ih (j+1) (by omega) ⟨by omega,htk⟩) ⟨AU,AC⟩ B6 rfl
 ·have hlt:¬j<S.length:=by simp at h;omega
  rw [Db (by omega)] at hj2;have hi:i = -1:=by
   rcases h2 with ⟨h,_⟩ | ⟨k',u,_,k1,k2,_⟩
   ·exact h
   ·rw [CS.1 hj2 _ (C2.2 ⟨u,AF k1,rfl⟩)] at k2;cases k2
  exact Az rfl<|As rfl<|Ah ⟨_,rfl,tV (by rw [hi]),B6⟩
theorem SC (m:Md) (T:List (Int×Ty)) (k:Int) (S:List Ty) (hs:Sol (BG T) θ) (hl:S.length<=1000000) :
  Tq4 174 [.own 3 (AA S).length,.fn (.func 175) [] [.ref 6 0]] (Zk m T k S) (.ret (.imm (.bool (!((S.map (A8 θ)).all Dj)))) (Zk m T k S)):=by
 obtain ⟨i,h1,hI⟩:=bD m T k S hs hl;have hb:decide (0<=i) = !((S.map (A8 θ)).all Dj):=by rw [Fq,decide_eq_true_iff,h1];simp
 refine Ad ttY_ok func174 rfl [7,8,9]<|Ai rfl<|Aq [] [(1,1),(2,2),(3,3),(5,5),(6,6)] [] rfl hI W1 rfl rfl<|Ai rfl<|Ah ⟨_,rfl,tV ?_,B6⟩;rw [<- hb]
theorem Xw (m:Md) (T:List (Int×Ty)) (k:Int) (S:List Ty) (hs:Sol (BG T) θ) (hl:S.length<=1000000) :
  Tq4 112 [.own 3 (AA S).length,.fn (.func 142) [] [.ref 5 0]] (plS m T k S) (.ret (.imm (.bool ((S.map (A8 θ)).all Dj))) (plS m T k S)):=by
 have hC:=SC m T k S hs hl;refine Ad ttY_ok func112 rfl [6,7,8,9]<|Ai rfl<|Aq [] [(1,1),(2,2),(3,3),(5,5),(6,6)] [] rfl hC W1 rfl rfl<|Ai rfl<|Ah ⟨_,rfl,tV (congrArg _ ?_),Cb⟩;rw [Fq];simp
theorem Nb (m:Md) (T:List (Int×Ty)) (k:Int) (S:List Ty) (hs:Sol (BG T) θ) (hl:S.length<=1000000) (hp:(S.map (A8 θ)).all Dj=true) :
  Tq4 80 [.ref 1 0] (CP m T k S) (.ret (.imm (.tup [])) (CP m T k S)):=by
 have hC:=Xw m T k S hs hl;rw [hp] at hC;exact Ad ttY_ok func80 rfl [5,6,7,8,9]<|Ai rfl<|Aq [] [(1,1),(2,2),(3,3),(5,5)] [] rfl hC Kc rfl rfl<|Ai rfl<|Af rfl FA<|Ai rfl<|BR ⟨_,B6⟩
theorem Ph (m:Md) (T:List (Int×Ty)) (k:Int) (S:List Ty) (hs:Sol (BG T) θ) (hl:S.length<=1000000) (hp:(S.map (A8 θ)).all Dj=false) :
  Tq4 80 [.ref 1 0] (CP m T k S) (.pan G0):=by
 have hC:=Xw m T k S hs hl;rw [hp] at hC;exact Ad ttY_ok func80 rfl [5,6,7,8,9]<|Ai rfl<|Aq [] [(1,1),(2,2),(3,3),(5,5)] [] rfl hC Kc rfl rfl<|Ai rfl<|Bd [] rfl (by simp) (IQ _ rfl) trivial rfl rfl rfl<|Ai rfl<|Bx 8 rfl
theorem zcu:∀(fn:Fn) (first cap:Array Value) (w:World),(Instr.makeFunc fn first cap).run prog w = .ok (.func fn first cap) w:=λ_ _ _ _=>rfl
theorem Vw (p:Addr) (w:World) :
  CallsD prog 115 #[.pointer (some p)] .returning w λe u' w'=>e = .returned (.tuple #[])/\u' = .returning/\w'=w:=by
 refine callsD_of_wpS func115 rfl λc₀ cs hu=>?_;apply wpS_seq;apply wpS_region;simp [wpOpsS,go_sem,recoverD,hu,Tryz.ntmps115,Exit.thenS];apply wpS_seq;apply wpS_region;simp [wpOpsS,go_sem,Exit.thenS];refine wpS_cond (t:=false) (by simp [Act.eval,Array.replicate]) ?_;simp only [if_false,DK];refine wpS_of_wp (wp_skip ?_);cases c₀;simp_all [bodyPostS,results,Tryz.results115]
theorem Vx (pb:Nat) (x:Value) (w:World) (hpb:pb<w.heap.size) (hx:w.cell? ⟨pb,0,none⟩=some x) (hz:w.frozen? ⟨pb,0,none⟩=false) :
  CallsD prog 115 #[.pointer (some ⟨pb,0,none⟩)] (.panicking [{ v:=.iface 167 (.agg #[]),recovered:=false }]) w λe u' w'=>e = .returned (.tuple #[]) /\
   u' = .panicking [{ v:=.iface 167 (.agg #[]),recovered:=true }]/\w'=(w.setCell ⟨pb,0,none⟩ (.bool false)).alloc (.cells #[] 167):=by
 refine callsD_of_wpS func115 rfl λc₀ cs hu=>?_;change Code.wpS _ _ _ { tmps:=#[.pointer (some ⟨pb,0,none⟩),undef,undef,undef,undef,undef,undef,undef,undef,undef,undef,undef,undef,undef,undef],defers:=[] } _ _;apply wpS_seq;apply wpS_region;simp [wpOpsS,go_sem,recoverD,hu,Tryz.ntmps115,Exit.thenS];apply wpS_seq;apply wpS_region;simp [wpOpsS,go_sem,Exit.thenS];refine wpS_cond (t:=true) (by simp [Act.eval,Array.replicate]) ?_;simp only [if_true];refine wpS_of_wp ?_;clear hu;have hta:∀w:World,(Instr.typeAssert (.iface 167 (.agg #[])) 20 167 true).run prog w = .ok (.tuple #[.agg #[],.bool true]) w:=λ_=>by kernel_rfl
 have hx':(w.alloc (.cells #[] 167)).cell? ⟨pb,0,none⟩=some x:=by rw [World.cell?_alloc_past _ _ _ hpb];exact hx
 have hz':(w.alloc (.cells #[] 167)).frozen? ⟨pb,0,none⟩=false:=by rw [RowKit.frozen?_alloc_cells];exact hz
 go_wp2
 simp [bodyPostS,results,Tryz.results115]
theorem Vv (g:FuncId) (fi ca:Array Value) (w:World) (K:World->Prop) (Kp:World->Prop)
  (hen:(callFunc g (fi++ca)).run prog (w.alloc (.cells #[.bool false] 4)) = .ok (.enter g (fi++ca)) (w.alloc (.cells #[.bool false] 4)))
  (hcall:Tq6 g (fi++ca) (w.alloc (.cells #[.bool false] 4)) λe w'=>match e with
   | .returned _=>K w'
   | .panicked chain=>chain=[{ v:=.iface 167 (.agg #[]),recovered:=false }]/\Kp w'
   | .outgrown=>False)
  (hK:∀w',K w'->w'.heap[w.heap.size]?=some (.cells #[.bool false] 4 (0,0))) (hKp:∀w',Kp w'->w'.heap[w.heap.size]?=some (.cells #[.bool false] 4 (0,0))) :
  Tq6 55 #[.func (.func g) fi ca] w λe w'=>(e = .returned (.bool true)/\∃w1,K w1/\w'=w1.setCell ⟨w.heap.size,0,none⟩ (.bool true)) \/
   (e = .returned (.bool false)/\∃w1,Kp w1/\w'=(w1.setCell ⟨w.heap.size,0,none⟩ (.bool false)).alloc (.cells #[] 167)):=by
 go_enter_defers func55,Tryz.ntmps55
 have hmf:=zcu
 go_wp2_with fail
 clear hen;refine hcall.mono ?_;intro e w' he;cases e with
 | outgrown=>exact he.elim
 | returned v =>
  have hc:w'.cell? ⟨w.heap.size,0,none⟩=some (.bool false):=by unfold World.cell?;simp [hK w' he]
  have hz:w'.frozen? ⟨w.heap.size,0,none⟩=false:=by unfold World.frozen?;simp [hK w' he]
  simp only
  go_wp2
  refine leaves_cons (f:=115) (args:=#[.pointer (some ⟨w.heap.size,0,none⟩)]) (by simp) (by simp [go_sem])<|(Vw ⟨w.heap.size,0,none⟩ _).mono ?_;rintro e u' w'' ⟨rfl,rfl,rfl⟩;simp [Leaves,settle,results,Tryz.results55,go_sem,hc];exact ⟨w',he,rfl⟩
 | panicked chain =>
  obtain ⟨rfl,he⟩:=he;have hc:w'.cell? ⟨w.heap.size,0,none⟩=some (.bool false):=by unfold World.cell?;simp [hKp w' he]
  have hz:w'.frozen? ⟨w.heap.size,0,none⟩=false:=by unfold World.frozen?;simp [hKp w' he]
  have hlt:w.heap.size<w'.heap.size:=(GY.1 (hKp w' he)).1;refine leaves_cons (f:=115) (args:=#[.pointer (some ⟨w.heap.size,0,none⟩)]) (by simp) (by simp [go_sem])<|(Vx w.heap.size _ _ hlt hc hz).mono ?_;rintro e u' w'' ⟨rfl,rfl,rfl⟩;have hc2:((w'.setCell ⟨w.heap.size,0,none⟩ (.bool false)).alloc (.cells #[] 167)).cell? ⟨w.heap.size,0,none⟩=some (.bool false):=by
   rw [E0 (hKp w' he),World.cell?_alloc_past _ _ _ (by simpa using hlt)];unfold World.cell?;simp [hlt]
  simp [Leaves,settle,results,Tryz.results55,go_sem,hc2];exact ⟨w',he,rfl⟩
theorem FB:Ls prog 55 167 4:=λg fi ca w K Kp h1 h2 h3 h4=>Vv g fi ca w K Kp h1 h2 h3 h4
def zah (m:Md) (T:List (Int×Ty)) (k:Int) (S:List Ty) (a b:Ty):St:=(4,some (.cells 92 1 [.ref 1 0]))::(5,some (.immb 25 4 (dTyc a)))::(6,some (.immb 25 4 (dTyc b)))::CP m T k S
theorem YH {T':List (Int×Ty)} {b:Ty} (hE:Dq m T k S a b T'):Tq4 56 [.ref 4 0,.ref 5 0,.ref 6 0] (zah m T k S a b) (.ret (.imm (.tup [])) (zah m T' k S a b)):=by
 unfold Dq at hE;obtain ⟨a1,a2,a3,a4⟩:=a;obtain ⟨b1,b2,b3,b4⟩:=b;exact Ad ttY_ok func56 rfl [7,8]<|Ai rfl<|Aq [] [(1,1),(2,2),(3,3)] [] rfl hE Ay rfl rfl<|Ai rfl<|BR ⟨_,OK⟩
theorem gS {b:Ty} (hE:DU m T k S a b):Tq4 56 [.ref 4 0,.ref 5 0,.ref 6 0] (zah m T k S a b) (.pan G0):=by
 unfold DU at hE;obtain ⟨a1,a2,a3,a4⟩:=a;obtain ⟨b1,b2,b3,b4⟩:=b;exact Ad ttY_ok func56 rfl [7,8]<|Ai rfl<|Bd [(1,1),(2,2),(3,3)] rfl (by simp) hE Ay rfl rfl rfl<|Bx 6 rfl
theorem Rq:Tq3 138 [.sl []] (.sl []):=by
 refine Ad ttY_ok func138 rfl [1]<|Ai rfl<|Lj ttY_ok rfl λb hb=>?_;cases b with
 | true =>
  exact yd [.a] rfl (by simp)<|Aa rfl rfl rfl
 | false =>
  exact yd [.a] rfl (by simp)<|Uk ttY_ok rfl<|Ai rfl<|Aa rfl rfl rfl
theorem Ku (es:List (List V)) (hne:es≠[]) (hs:∀c∈es,c.length=4) (hlen:es.length<=1000000):Tq4 138 [.imm (.sl es)] [] (.ret (.own 1 es.length) [(1,some (.row 25 4 es))]):=by
 cases es with
 | nil=>exact absurd rfl hne
 | cons e r =>
  refine Ad ttY_ok func138 rfl [1,2]<|Ai rfl<|Lj ttY_ok rfl λb hb=>?_;have hb:b=false:=hb (by simp);subst hb;exact yd [.a] rfl (by simp)<|B7 ttY_ok rfl ⟨hs,by simp only [maxLen,Cz] at *;omega,by simp only [Cz] at *;omega,λc hc=>by simp at hc,by simp⟩<|Ai rfl<|Ah ⟨_,AC⟩
def rI:V:=.iface 171 (.agg [])
def Ic (m:Md) (T:List (Int×Ty)) (k:Int) (S:List Ty) (c:Int):St:=(4,some (.immb 3 1 [.int .i64 c]))::CP m T k S
def Si (m:Md) (T:List (Int×Ty)) (k:Int) (S:List Ty) (t:Ty) (c:Int) (u:Ty) (c':Int):Prop :=
 Tq4 120 [.ref 1 0,.imm (.agg (dTyc t)),.ref 4 0] (Ic m T k S c) (.ret (.imm (.agg (dTyc u))) (Ic m T k S c'))
def VW (m:Md) (T:List (Int×Ty)) (k:Int) (S:List Ty) (t:Ty) (c:Int):Prop :=
 Tq4 120 [.ref 1 0,.imm (.agg (dTyc t)),.ref 4 0] (Ic m T k S c) (.pan rI)
theorem kX (m:Md) (T:List (Int×Ty)) (k:Int) (S:List Ty) (hs:Sol (BG T) θ) (t:Ty):VW m T k S t 0:=by
 unfold VW;obtain ⟨u,hu⟩:=NJ hs t;have hA:=Cp m T k S hs t u hu;obtain ⟨t1,t2,t3,t4⟩:=t;obtain ⟨u1,u2,u3,u4⟩:=u;refine Ad ttY_ok func120 rfl [5,6,7,8]<|Ai rfl<|Aq [] [(1,1),(2,2),(3,3)] [] rfl hA Ay rfl rfl<|Ai rfl<|Ab rfl (λh'=>?_) (λh'=>by exfalso;simp at h';revert h';decide);exact As rfl<|IY rfl rfl rfl rfl
theorem Ul (m:Md) (T:List (Int×Ty)) (k:Int) (S:List Ty) (hs:Sol (BG T) θ) (t:Ty) (f n:Int) (x:Str) (hu:Top (BG T) t (.mk f n x [])) (c:Int) (hc:1<=c/\c<=1000000):Si m T k S t c (.mk f n x []) (c-1):=by
 unfold Si;have hA:=Cp m T k S hs t _ hu;have e1:IntKind.i64.wrap (c-1)=c-1:=GR (by omega) (by omega);obtain ⟨t1,t2,t3,t4⟩:=t;refine Ad ttY_ok func120 rfl [5,6,7,8]<|Ai rfl<|Aq [] [(1,1),(2,2),(3,3)] [] rfl hA Ay rfl rfl<|Ai rfl<|Ab rfl (λh'=>by exfalso;simp [e1] at h';omega) (λh'=>?_);refine As rfl<|Af rfl Rq<|Ai rfl<|Ak (λ_:Unit=>[(29,.imm (.int .i64 0)),(28,.imm (.int .i64 0)),(7,.imm (.sl [])),(4,.ref 5 0),(6,.ref 6 0)]) (λ_=>(5,some (.immb 25 4 (dTyc (.mk f n x []))))::(6,some (.cells 25 4 [.imm (.int .i64 0),.imm (.int .i64 0),.imm (.str []),.nils]))::Ic m T k S (IntKind.i64.wrap (c-1))) [7,8] (λ_=>0) (λ_=>True) ()
  trivial B6 GU rfl λ_ _ ih=>?_
 refine As rfl<|Ab rfl (λh'=>by exfalso;simp at h') (λh'=>?_);exact Az rfl<|As rfl<|Ah ⟨_,rfl,tV rfl,congrArg (λz=>some (some (Blk.immb 3 1 [V.int .i64 z]))) e1,AC⟩
theorem RK (L:List Ty) (i:Nat) (t:Ty):AA (L.set i t)=(AA L).set i (dTyc t):=by simp [Dg,List.map_set]
def P1 (m:Md) (T:List (Int×Ty)) (k:Int) (S:List Ty):List Ty->Int->List Ty->Int->Prop
 | [],c,us,c'=>us=[]/\c'=c
 | p::r,c,us,c'=>∃v c1 vs,Si m T k S p c v c1/\us=v::vs/\P1 m T k S r c1 vs c'
theorem kY (m:Md) (T:List (Int×Ty)) (k:Int) (S:List Ty) (hs:Sol (BG T) θ) (t:Ty) (f n:Int) (x:Str) (ps us:List Ty) (hne:ps≠[]) (hl:ps.length<=3) (hu:Top (BG T) t (.mk f n x ps)) (c c':Int) (hc:1<=c/\c<=1000000) (hlu:us.length=ps.length) (hC:P1 m T k S ps (c-1) us c'):Si m T k S t c (.mk f n x us) c':=by
 unfold Si;have hA:=Cp m T k S hs t _ hu;have e1:IntKind.i64.wrap (c-1)=c-1:=GR (by omega) (by omega);have hpe:AA ps≠[]:=λe=>hne (by have:=congrArg List.length e;simpa using this);have h4:∀c∈AA ps,c.length=4:=λc hc=>by rw [Dg] at hc;obtain ⟨x,_,rfl⟩:=C2.1 hc;simp
 have hK:=Ku (AA ps) hpe h4 (by simp;omega);obtain ⟨t1,t2,t3,t4⟩:=t;rw [<- e1] at hC;refine Ad ttY_ok func120 rfl [5,6,7,8,9]<|Ai rfl<|Aq [] [(1,1),(2,2),(3,3)] [] rfl hA Ay rfl rfl<|Ai rfl<|Ab rfl (λh'=>by exfalso;simp [e1] at h';omega) (λh'=>?_);refine As rfl<|Aq [7] [] [(1,7)] rfl hK trivial rfl rfl<|Ai rfl<|Ak (λz:Nat×Int=>[(29,.imm (.int .i64 z.1)),(28,.imm (.int .i64 ps.length)),(27,.own 7 (AA ps).length),(7,.own 7 (AA ps).length),(0,.ref 1 0),(2,.ref 4 0),(4,.ref 5 0),(6,.ref 6 0)])
  (λz=>(5,some (.immb 25 4 (dTyc (.mk f n x ps))))::(6,some (.cells 25 4 [.imm (.int .i64 0),.imm (.int .i64 0),.imm (.str []),.nils]))::(7,some (.row 25 4 (AA (us.take z.1++ps.drop z.1))))::Ic m T k S z.2) [8,9] (λz=>ps.length-z.1)
  (λz=>z.1<=ps.length/\P1 m T k S (ps.drop z.1) z.2 (us.drop z.1) c') (0,IntKind.i64.wrap (c-1))
  ⟨AJ _,hC⟩ ⟨rfl,BB (by simp),GU⟩ GD rfl λz hz ih=>?_
 clear hC;obtain ⟨j,e⟩:=z;obtain ⟨hj1,hj2⟩:=hz;simp only at hj1 hj2 ih;refine As rfl<|Ab rfl (λh'=>?_) (λh'=>?_)
 ·have hlt:j<ps.length:=by simp at h';omega
  obtain ⟨p,hp⟩:=Ao hlt;rw [Av hp,P1] at hj2;obtain ⟨v,e2,vs,hF,hus,hj2⟩:=hj2;have hv:us[j]?=some v:=by
   have:=congrArg (·[0]?) hus;simpa using this
  have hvs:us.drop (j+1)=vs:=by
   rw [Av hv] at hus;exact (List.cons.inj hus).2
  have hlen:(us.take j).length=j:=by rw [HH];omega
  have hg:(AA (us.take j++ps.drop j))[j]?=some (dTyc p):=AE (by rw [Pa (by omega),hlen,Mb,Fj];simpa using hp);have hset:(AA (us.take j++ps.drop j)).set j (dTyc v)=AA (us.take (j+1)++ps.drop (j+1)):=by
   rw [<- RK,ZA _ _ (by omega),hlen,Mb,Av hp,Bp hv];simp
  have hrl:(AA (us.take j++ps.drop j)).length=(AA ps).length:=by simp;omega
  have hpl:(AA ps).length=ps.length:=dTys_length ps;have hih:=ih (j+1,e2) (by simp only;omega) ⟨by simp only;omega,by rw [hvs];exact hj2⟩;unfold Si at hF;simp only [<- hset] at hih;generalize AA (us.take j++ps.drop j)=R at *;obtain ⟨p1,p2,p3,p4⟩:=p;obtain ⟨v1,v2,v3,v4⟩:=v
  exact As rfl<|FU ttY_ok rfl (λ_=>⟨by simp,by simp;omega⟩) (by simp [Am])<|BH rfl<|PW ttY_ok (e:=dTyc (.mk p1 p2 p3 p4)) rfl (λ_=>by simpa using hg) rfl (by simp [Am])<|Ai rfl<|Aq [] [(1,1),(2,2),(3,3),(4,4)] [] rfl hF Kc rfl rfl<|Ai rfl<|FU ttY_ok rfl (λ_=>⟨by simp,by simp;omega⟩) (by simp [Am])<|BH rfl<|K3 ttY_ok (e:=dTyc (.mk p1 p2 p3 p4)) (e':=dTyc (.mk v1 v2 v3 v4)) rfl (by simpa using hg) (by show 0+4<=4;decide) (by simp) (by simp)<|Ai rfl<|Ac hih ⟨AU,GD⟩ GD rfl
 ·have hlt:j=ps.length:=by simp at h';omega
  subst hlt;rw [Bo (BQ _),P1] at hj2;obtain ⟨_,e2⟩:=hj2;subst e2;have hrow:us.take ps.length++ps.drop ps.length=us:=by rw [Bo (BQ _),JI,Db (by omega)]
  simp only [hrow];clear ih hrow;exact Az rfl<|BC 7 rfl<|As rfl<|Ah ⟨_,rfl,tV rfl,Cb⟩
def Pz (m:Md) (T:List (Int×Ty)) (k:Int) (S:List Ty):List Ty->Int->Prop
 | [],_=>False
 | p::r,c=>VW m T k S p c\/∃v c1,Si m T k S p c v c1/\Pz m T k S r c1
theorem bN (m:Md) (T:List (Int×Ty)) (k:Int) (S:List Ty) (hs:Sol (BG T) θ) (t:Ty) (f n:Int) (x:Str) (ps:List Ty) (hne:ps≠[]) (hl:ps.length<=3) (hu:Top (BG T) t (.mk f n x ps)) (c:Int) (hc:1<=c/\c<=1000000) (hC:Pz m T k S ps (c-1)):VW m T k S t c:=by
 unfold VW;have hA:=Cp m T k S hs t _ hu;have e1:IntKind.i64.wrap (c-1)=c-1:=GR (by omega) (by omega);have hpe:AA ps≠[]:=λe=>hne (by have:=congrArg List.length e;simpa using this);have h4:∀c∈AA ps,c.length=4:=λc hc=>by rw [Dg] at hc;obtain ⟨x,_,rfl⟩:=C2.1 hc;simp
 have hK:=Ku (AA ps) hpe h4 (by simp;omega);obtain ⟨t1,t2,t3,t4⟩:=t;rw [<- e1] at hC;refine Ad ttY_ok func120 rfl [5,6,7,8,9]<|Ai rfl<|Aq [] [(1,1),(2,2),(3,3)] [] rfl hA Ay rfl rfl<|Ai rfl<|Ab rfl (λh'=>by exfalso;simp [e1] at h';omega) (λh'=>?_);refine As rfl<|Aq [7] [] [(1,7)] rfl hK trivial rfl rfl<|Ai rfl<|Ak (λz:Nat×Int×List Ty=>[(29,.imm (.int .i64 z.1)),(28,.imm (.int .i64 ps.length)),(27,.own 7 (AA ps).length),(7,.own 7 (AA ps).length),(0,.ref 1 0),(2,.ref 4 0),(4,.ref 5 0),(6,.ref 6 0)])
  (λz=>(5,some (.immb 25 4 (dTyc (.mk f n x ps))))::(6,some (.cells 25 4 [.imm (.int .i64 0),.imm (.int .i64 0),.imm (.str []),.nils]))::(7,some (.row 25 4 (AA z.2.2)))::Ic m T k S z.2.1) [8,9] (λz=>ps.length-z.1)
  (λz=>z.1<=ps.length/\z.2.2.length=ps.length/\z.2.2.drop z.1=ps.drop z.1/\Pz m T k S (ps.drop z.1) z.2.1) (0,IntKind.i64.wrap (c-1),ps)
  ⟨AJ _,rfl,rfl,hC⟩ ⟨rfl,BB (by simp),GU⟩ GD rfl λz hz ih=>?_
 clear hC;obtain ⟨j,e,R0⟩:=z;obtain ⟨hj1,hjl,hjd,hj2⟩:=hz;simp only at hj1 hjl hjd hj2 ih;refine As rfl<|Ab rfl (λh'=>?_) (λh'=>?_)
 ·have hlt:j<ps.length:=by simp at h';omega
  obtain ⟨p,hp⟩:=Ao hlt;rw [Av hp,Pz] at hj2;have hR:R0[j]?=some p:=by
   have:=congrArg (·[0]?) hjd;simp only [Fj,Iq] at this;rw [this,hp]
  have hg:(AA R0)[j]?=some (dTyc p):=AE hR;have hrl:(AA R0).length=(AA ps).length:=by simp;omega
  have hpl:(AA ps).length=ps.length:=dTys_length ps;have hih:=λ(v:Ty) (e2:Int) (h2:Pz m T k S (ps.drop (j+1)) e2)=>ih (j+1,e2,R0.set j v) (by simp only;omega) ⟨by simp only;omega,by simpa using hjl,by
   show (R0.set j v).drop (j+1)=ps.drop (j+1);rw [List.drop_set,if_pos (by omega)];have:=congrArg (·.drop 1) hjd;simpa [qE,Nat.add_comm] using this,h2⟩
  simp only [RK] at hih;generalize AA R0=R at *;clear hR hjd;obtain ⟨p1,p2,p3,p4⟩:=p;refine As rfl<|FU ttY_ok rfl (λ_=>⟨by simp,by simp;omega⟩) (by simp [Am])<|BH rfl<|PW ttY_ok (e:=dTyc (.mk p1 p2 p3 p4)) rfl (λ_=>by simpa using hg) rfl (by simp [Am])<|Ai rfl ?_;rcases hj2 with hF | ⟨v,e2,hF,hj2⟩
  ·unfold VW at hF;exact Bd [(1,1),(2,2),(3,3),(4,4)] rfl (by simp) hF Kc rfl rfl rfl<|Bx 39 rfl
  ·unfold Si at hF;have hihv:=hih v e2 hj2;obtain ⟨v1,v2,v3,v4⟩:=v;exact Aq [] [(1,1),(2,2),(3,3),(4,4)] [] rfl hF Kc rfl rfl<|Ai rfl<|FU ttY_ok rfl (λ_=>⟨by simp,by simp;omega⟩) (by simp [Am])<|BH rfl<|K3 ttY_ok (e:=dTyc (.mk p1 p2 p3 p4)) (e':=dTyc (.mk v1 v2 v3 v4)) rfl (by simpa using hg) (by show 0+4<=4;decide) (by simp) (by simp)<|Ai rfl<|Ac hihv ⟨AU,GD⟩ GD rfl
 ·have hlt:j=ps.length:=by simp at h';omega
  subst hlt;rw [Bo (BQ _),Pz] at hj2;exact hj2.elim
def zb5 (m:Md) (T:List (Int×Ty)) (k:Int) (S:List Ty) (θ:Int->Ty) (t:Ty) (c:Int):Prop :=
 ((EK (A8 θ t):Int)<=c->Si m T k S t c (A8 θ t) (c-EK (A8 θ t)))/\(c<(EK (A8 θ t):Int)->VW m T k S t c)
theorem R7 {m:Md} {T:List (Int×Ty)} {k:Int} {S:List Ty} {θ:Int->Ty}:∀(ps:List Ty) (c:Int),0<=c->(∀p∈ps,∀c,0<=c->c<=1000000->zb5 m T k S θ p c)->c<=1000000 ->
  ((DB (Ca θ ps):Int)<=c->P1 m T k S ps c (Ca θ ps) (c-DB (Ca θ ps)))/\(c<(DB (Ca θ ps):Int)->Pz m T k S ps c)
 | [],c,h0,_,_=>by
  refine ⟨λ_=>?_,λh=>?_⟩
  ·rw [P1];exact ⟨rfl,by simp [Ca,DB]⟩
  ·simp [Ca,DB] at h;omega
 | p::r,c,h0,hp,hc=>by
  have h1:=hp p (by simp) c h0 hc;have hpos:0<=(EK (A8 θ p):Int):=by omega
  refine ⟨λh=>?_,λh=>?_⟩
  ·simp only [Ca,DB] at h ⊢;have h2:=(R7 (m:=m) (T:=T) (k:=k) (S:=S) (θ:=θ) r (c-EK (A8 θ p)) (by omega) (λq hq=>hp q (by simp [hq])) (by omega)).1 (by omega);rw [P1];refine ⟨_,_,_,h1.1 (by omega),rfl,?_⟩;rw [show c-((EK (A8 θ p)+DB (Ca θ r):Nat):Int)=c-EK (A8 θ p)-DB (Ca θ r) by omega];exact h2
  ·simp only [Ca,DB] at h;rw [Pz];by_cases hb:c<(EK (A8 θ p):Int)
   ·exact .inl (h1.2 hb)
   ·have h2:=(R7 (m:=m) (T:=T) (k:=k) (S:=S) (θ:=θ) r (c-EK (A8 θ p)) (by omega) (λq hq=>hp q (by simp [hq])) (by omega)).2 (by omega);exact .inr ⟨_,_,h1.1 (by omega),h2⟩
theorem sS (m:Md) (T:List (Int×Ty)) (k:Int) (S:List Ty) (hs:Sol (BG T) θ):∀(s:Nat) (t:Ty),EK (A8 θ t)<=s->Ck t=true->∀c,0<=c->c<=1000000->zb5 m T k S θ t c:=by
 intro s
 induction s with
 | zero=>intro t h;have:=KP (A8 θ t);omega
 | succ s IH =>
 intro t ht hw c h0 hc;have hpos:=KP (A8 θ t);by_cases hz:c=0
 ·subst hz;exact ⟨λh=>by omega,λ_=>kX m T k S hs t⟩
 obtain ⟨u,hu⟩:=NJ hs t;have he:A8 θ t=A8 θ u:=hu.ap hs.eq;have hwu:=hu.wf hs hw;rw [he] at ht hpos;unfold zb5;rw [he];by_cases h9:Cg u=9
 ·have eu:=DZ hwu h9;have hfree:=hu.end_ h9;have ea:A8 θ u=u:=by rw [Hf h9,hs.free _ hfree];exact eu.symm
  rw [ea];rw [eu] at hu ⊢;refine ⟨λ_=>?_,λh=>?_⟩
  ·have:=Ul m T k S hs t 9 (num u) [] hu c ⟨by omega,hc⟩;simpa [Aw,EK,DB] using this
  ·simp [Aw,EK,DB] at h;omega
 ·obtain ⟨f,n,x,ps⟩:=u;simp only [Cg] at h9;have hlen:=I3 hwu;have hpw:=E3 hwu;simp only [Ft] at hlen hpw;have ea:A8 θ (.mk f n x ps) = .mk f n x (Ca θ ps):=by simp only [A8,if_neg h9]
  rw [ea] at ht ⊢;simp only [EK] at ht ⊢;by_cases hne:ps=[]
  ·subst hne;refine ⟨λ_=>?_,λh=>?_⟩
   ·have:=Ul m T k S hs t f n x hu c ⟨by omega,hc⟩;simpa [Ca,DB] using this
   ·simp [Ca,DB] at h;omega
  ·have hF:=R7 (m:=m) (T:=T) (k:=k) (S:=S) (θ:=θ) ps (c-1) (by omega) (λp hp c h0 hc=>IH p (by
    have:=Qv (Vp (f:=A8 θ) hp);rw [<- Iz] at this;omega) (hpw p hp) c h0 hc) (by omega)
   refine ⟨λh=>?_,λh=>?_⟩
   ·have hk:=hF.1 (by omega);have:=kY m T k S hs t f n x ps (Ca θ ps) hne hlen hu c _ ⟨by omega,hc⟩ (by rw [Iz,Dn]) hk;rw [show c-((1+DB (Ca θ ps):Nat):Int)=c-1-DB (Ca θ ps) by omega];exact this
   ·exact bN m T k S hs t f n x ps hne hlen hu c ⟨by omega,hc⟩ (hF.2 (by omega))
mutual
def GT:Ty->List Ty
 | .mk f n x ps=>.mk f n x ps::CN ps
def CN:List Ty->List Ty
 | []=>[]
 | t::r=>GT t++CN r
end
def DA (l:List Ty):List D:=l.map λu=>.imm (.agg (dTyc u))
theorem So (a b:List Ty):DA (a++b)=DA a++DA b:=by simp [DA]
def WS (r:St):St:=(1,some (.cells 26 1 [.yld 3]))::(2,some (.cells 26 1 [.fn (.func 140) [] [.ref 1 0,.ref 2 0]]))::r
def za1 (t:Ty) (b:Bool) (S S':Bun):Prop:=Hy prog 140 [.imm (.agg (dTyc t)),.ref 1 0,.ref 2 0]
 (WS [(3,some .pin),(4,some (.bun 3 S))]) (.ret (.imm (.bool b)) (WS [(3,some .pin),(5,some (.bun 3 S'))]))
theorem pQ (s n:Int) (x:Str) (ps:List Ty) (IH:∀t∈ps,∀{b:Bool} {S S':Bun},Yields prog (DA (GT t)) S b S'->za1 t b S S') {b:Bool} {S S':Bun} (hY:Yields prog (DA (CN ps)) S b S') :
  Tq2 Tryz.f140.ntmps [1,2,3,4] (JD Wa Tryz.f140.results.toList (.ret (.imm (.bool b)) (WS [(3,some .pin),(5,some (.bun 3 S'))])))
   [.code (FK Tryz.f140 2)] [(3,.ref 8 0),(1,.ref 1 0),(2,.ref 2 0)] ((8,some (.immb 25 4 (dTyc (.mk s n x ps))))::WS [(3,some .pin),(6,some (.bun 3 S))]) [7,9,10,11,5]:=by
 refine Sn rfl<|FZ (t:=12) rfl λhv=>?_;have hlen:ps.length<=9223372036854775807:=by simp [F0,maxLen] at hv;omega
 refine Ak (λy:Nat×Bun=>[(14,.imm (.int .i64 y.1)),(13,.imm (.int .i64 ps.length)),(12,.imm (.sl (AA ps))),(1,.ref 1 0),(2,.ref 2 0)])
  (λy=>WS [(3,some .pin),(6,some (.bun 3 y.2))]) [7,9,10,11,5] (λy=>ps.length-y.1)
  (λy=>y.1<=ps.length/\Yields prog (DA (CN (ps.drop y.1))) y.2 b S') (0,S) ⟨AJ _,hY⟩ ⟨rfl,BB (by simp),AC⟩ Cb rfl λy hi ih=>?_
 obtain ⟨i,S0⟩:=y;obtain ⟨hi1,hi2⟩:=hi;simp only at hi1 hi2;refine Sn rfl<|Ab rfl (λh=>?_) (λh=>?_)
 ·simp at h;obtain ⟨t,ht⟩:=Ao h;have hd:ps.drop i=t::ps.drop (i+1):=Av ht;rw [hd,CN,So] at hi2;obtain ⟨t1,t2,t3,t4⟩:=t;refine Sn rfl<|Sl rfl (AE ht)<|BH rfl ?_;rcases Yields.split hi2 with ⟨S1,q1,q2⟩ | ⟨q1,q2⟩
  ·exact Aq [9] [(1,1),(2,2),(3,3),(6,4)] [(5,9)] rfl (IH _ (AF ht) q1) Kc rfl rfl<|Ai rfl<|Ag rfl λh=>As rfl<|Bt 6 9 rfl<|Ac (ih (i+1,S1) (by simp only;omega) ⟨by simp only;omega,q2⟩) ⟨BB (GR (by simp only;omega) (by simp only;omega)),Cb⟩ Cb rfl
  ·subst q1;exact Aq [9] [(1,1),(2,2),(3,3),(6,4)] [(5,9)] rfl (IH _ (AF ht) q2) Kc rfl rfl<|Ai rfl<|Al rfl λh=>As rfl<|Lk (ids':=[]) 9 5 rfl rfl<|Ah ⟨_,rfl,tV rfl,Cb⟩
 ·simp at h;have hd:ps.drop i=[]:=Bo (by omega);rw [hd] at hi2;obtain ⟨rfl,rfl⟩:=Yields.nilInv hi2;exact Az rfl<|As rfl<|Lk (ids':=[]) 6 5 rfl rfl<|Ah ⟨_,rfl,tV rfl,Cb⟩
theorem pR:∀(t:Ty) {b:Bool} {S S':Bun},Yields prog (DA (GT t)) S b S'->za1 t b S S'
 | .mk s n x ps,b,S,S',hY=>by
  have IH:∀t∈ps,∀{b:Bool} {S S':Bun},Yields prog (DA (GT t)) S b S'->za1 t b S S':=λt ht {b S S'} h=>pR t h;refine fP ttY_ok func140 (by decide +kernel) rfl [8,6,7,9,10,11,5] rfl rfl ?_;refine BH rfl ?_;have e:DA (GT (.mk s n x ps)) = .imm (.agg (dTyc (.mk s n x ps)))::DA (CN ps):=rfl;rw [e] at hY;cases hY with
  | cons h h1 =>
   refine fE (j:=4) (j2:=6) rfl (by simp [Am]) (by simp [Am]) h rfl rfl rfl rfl rfl ?_;refine Ai rfl ?_;refine Ag rfl λh=>?_;refine IX ?_;exact Ac (pQ s n x ps IH h1) ⟨rfl,rfl,rfl,trivial⟩ ⟨rfl,rfl,rfl,rfl,rfl,trivial⟩ rfl
  | stop h =>
   refine fE (j:=4) (j2:=6) rfl (by simp [Am]) (by simp [Am]) h rfl rfl rfl rfl rfl ?_;refine Ai rfl ?_;refine Al rfl λh=>?_;refine As rfl ?_;refine Lk (ids':=[]) 6 5 rfl rfl ?_;exact Ah ⟨_,rfl,tV rfl,rfl,rfl,rfl,rfl,trivial⟩
termination_by t=>SizeOf.sizeOf t
decreasing_by
 all_goals
  have:=List.sizeOf_lt_of_mem ht;simp_wf;omega
def Gm (t:Ty):St:=[(6,some (.immb 25 4 (dTyc t)))]
theorem NV (t:Ty) {b:Bool} {S S':Bun} (hY:Yields prog (DA (GT t)) S b S') :
  Tq4 139 [.yld 3,.ref 6 0] ((3,some .pin)::(4,some (.bun 3 S))::Gm t) (.ret (.tup []) ((3,some .pin)::(5,some (.bun 3 S'))::Gm t)):=by
 have hC:=pR t hY;obtain ⟨t1,t2,t3,t4⟩:=t;exact Ad ttY_ok func139 rfl [1,2,7,5]<|BH rfl<|Aq [7] [(1,1),(2,2),(3,3),(4,4)] [(5,7)] rfl hC Kc rfl rfl<|BH rfl<|Lk (ids':=[]) 7 5 rfl rfl<|BR ⟨[],B6⟩
theorem TV (t:Ty):Tq4 77 [.imm (.agg (dTyc t))] [] (.ret (.fn (.func 139) [] [.ref 6 0]) (Gm t)):=by
 obtain ⟨t1,t2,t3,t4⟩:=t;exact Ad ttY_ok func77 rfl [6]<|BH rfl<|Ah ⟨_,AC⟩
mutual
def FW:Ty->Ty
 | .mk f n x ps=>.mk (if f=9 then 10 else f) n x (LI ps)
def LI:List Ty->List Ty
 | []=>[]
 | t::r=>FW t::LI r
end
theorem R9:∀l:List Ty,LI l=l.map FW
 | []=>rfl
 | t::r=>by simp [LI,R9 r]
theorem Xu:∀t:Ty,Ck t=true->Tq3 76 [.agg (dTyc t)] (.agg (dTyc (FW t)))
 | .mk f n x ps,hw=>by
  have hl:=I3 hw;simp only [Ft] at hl;have IH:∀t∈ps,Tq3 76 [.agg (dTyc t)] (.agg (dTyc (FW t))):=λt ht=>Xu t (E3 hw t (by simpa [Ft] using ht));clear hw;have node:∀g:Int,(if f=9 then 10 else f)=g ->
   Tq2 Tryz.f76.ntmps (D8 []) (JD Wa Tryz.f76.results.toList (.ret (.imm (.agg (dTyc (FW (.mk f n x ps))))) []))
    [.code (FK Tryz.f76 2)] [(1,.ref 1 0),(2,.ref 2 0)] [(1,some (.immb 25 4 (dTyc (.mk g n x ps)))),(2,some (.cells 25 4 [.imm (.int .i64 0),.imm (.int .i64 0),.imm (.str []),.nils]))] [7,8,9,10]:=λg hg=>by
   rw [FW,hg,R9];clear hg;refine As rfl ?_;cases ps with
   | nil =>
    refine Af rfl Rq<|Ai rfl<|Ak (λ_:Unit=>[(15,.imm (.int .i64 0)),(14,.imm (.int .i64 0)),(3,.imm (.sl [])),(1,.ref 1 0),(2,.ref 2 0)]) (λ_=>[(1,some (.immb 25 4 (dTyc (.mk g n x [])))),(2,some (.cells 25 4 [.imm (.int .i64 0),.imm (.int .i64 0),.imm (.str []),.nils]))]) [7,8,9,10] (λ_=>0) (λ_=>True) ()
     trivial B6 AK rfl λ_ _ ih=>?_
    refine As rfl<|Ab rfl (λh'=>by exfalso;simp at h') (λh'=>?_);exact Az rfl<|As rfl<|Aa rfl rfl rfl
   | cons p0 r0 =>
    generalize hps:p0::r0=ps at *;have hne:ps≠[]:=by rw [<- hps];simp
    clear hps;have hpe:AA ps≠[]:=λe=>hne (by have:=congrArg List.length e;simpa using this);have h4:∀c∈AA ps,c.length=4:=λc hc=>by rw [Dg] at hc;obtain ⟨x,_,rfl⟩:=C2.1 hc;simp
    have hK:=Ku (AA ps) hpe h4 (by simp;omega);refine Aq [7] [] [(1,7)] rfl hK trivial rfl rfl<|Ai rfl<|Ak (λz:Nat=>[(15,.imm (.int .i64 z)),(14,.imm (.int .i64 ps.length)),(13,.own 7 (AA ps).length),(3,.own 7 (AA ps).length),(1,.ref 1 0),(2,.ref 2 0)])
     (λz=>[(1,some (.immb 25 4 (dTyc (.mk g n x ps)))),(2,some (.cells 25 4 [.imm (.int .i64 0),.imm (.int .i64 0),.imm (.str []),.nils])),(7,some (.row 25 4 (AA ((ps.map FW).take z++ps.drop z))))]) [8,9,10] (λz=>ps.length-z)
     (λz=>z<=ps.length) 0
     (AJ _) ⟨rfl,BB (by simp),Cb⟩ AC rfl λj hj1 ih=>?_
    refine As rfl<|Ab rfl (λh'=>?_) (λh'=>?_)
    ·have hlt:j<ps.length:=by simp at h';omega
     obtain ⟨p,hp⟩:=Ao hlt;have hv:(ps.map FW)[j]?=some (FW p):=by simp [hp]
     have hlen:((ps.map FW).take j).length=j:=by rw [HH,Dn];omega
     have hg:(AA ((ps.map FW).take j++ps.drop j))[j]?=some (dTyc p):=AE (by rw [Pa (by omega),hlen,Mb,Fj];simpa using hp);have hset:(AA ((ps.map FW).take j++ps.drop j)).set j (dTyc (FW p))=AA ((ps.map FW).take (j+1)++ps.drop (j+1)):=by
      rw [<- RK,ZA _ _ (by omega),hlen,Mb,Av hp,Bp hv];simp
     have hrl:(AA ((ps.map FW).take j++ps.drop j)).length=(AA ps).length:=by simp;omega
     have hpl:(AA ps).length=ps.length:=dTys_length ps;have hih:=ih (j+1) (by omega) (by omega);have hF:=IH p (AF hp);simp only [<- hset] at hih;generalize AA ((ps.map FW).take j++ps.drop j)=R at *;generalize FW p=v at *;obtain ⟨p1,p2,p3,p4⟩:=p;obtain ⟨v1,v2,v3,v4⟩:=v;exact As rfl<|FU ttY_ok rfl (λ_=>⟨by simp,by simp;omega⟩) (by simp [Am])<|BH rfl<|PW ttY_ok (e:=dTyc (.mk p1 p2 p3 p4)) rfl (λ_=>by simpa using hg) rfl (by simp [Am])<|Ai rfl<|Af rfl hF<|Ai rfl<|FU ttY_ok rfl (λ_=>⟨by simp,by simp;omega⟩) (by simp [Am])<|BH rfl<|K3 ttY_ok (e:=dTyc (.mk p1 p2 p3 p4)) (e':=dTyc (.mk v1 v2 v3 v4)) rfl (by simpa using hg) (by show 0+4<=4;decide) (by simp) (by simp)<|Ai rfl<|Ac hih ⟨AU,B6⟩ AC rfl
    ·have hlt:j=ps.length:=by simp at h';omega
     subst hlt;have hrow:(ps.map FW).take ps.length++ps.drop ps.length=ps.map FW:=by rw [Bo (BQ _),JI,Db (by simp)]
     simp only [hrow];clear ih hrow;exact Az rfl<|BC 7 rfl<|As rfl<|Aa rfl rfl rfl
  refine Ad ttY_ok func76 rfl [1,2,7,8,9,10]<|Ai rfl ?_;by_cases h9:f=9
  ·subst h9;exact Al rfl λh=>ydf 4 rfl (by simp)<|Ac (node 10 rfl) AK AK rfl
  ·refine Ab rfl (λh=>by exfalso;simp at h;exact h9 h) (λh=>?_);exact IX<|Ac (node f (if_neg h9)) AK AK rfl
termination_by t=>SizeOf.sizeOf t
decreasing_by
 have:=Cj ht;simp_wf;omega
inductive Tr where
 | nd (f n:Int) (x:Str) (v:Value) (ks:List Tr)
 | im (cs:List Value) (c:List V)
 | gp (f n:Int) (x:Str) (v:Value)
def cT:Tr->List Value
 | .nd f n x v _=>[.int .i64 f,.int .i64 n,vQ x,v]
 | .im cs _=>cs
 | .gp f n x v=>[.int .i64 f,.int .i64 n,vQ x,v]
mutual
def Wb (I:Imm) (w:World):Tr->Prop
 | .nd _ _ _ v ks=>W6 w 25 4 v ks.length/\Jl I w (FD v) 0 ks
 | .im cs c=>RepVL I cs c/\(∀y∈cs,y.oneCell'=true)/\c.length=4
 | .gp _ _ _ v=>v.oneCell'=true
def Jl (I:Imm) (w:World) (b:Nat):Nat->List Tr->Prop
 | _,[]=>True
 | i,a::r=>(yI w b (i*4) (cT a)/\Wb I w a)/\Jl I w b (i+1) r
end
mutual
def YE:Tr->List Nat
 | .nd _ _ _ v ks=>HF v ks.length++Hj ks
 | .im _ _=>[]
 | .gp _ _ _ _=>[]
def Hj:List Tr->List Nat
 | []=>[]
 | a::r=>YE a++Hj r
end
mutual
def X1:Tr->Ty->Prop
 | .nd f n x _ ks,.mk f' n' x' ps=>f=f'/\n=n'/\x=x'/\IT ks ps
 | _,_=>False
def IT:List Tr->List Ty->Prop
 | [],[]=>True
 | a::r,t::q=>X1 a t/\IT r q
 | _,_=>False
end
theorem Nf:∀{l:List Tr} {q:List Ty},IT l q->l.length=q.length
 | [],[],_=>rfl
 | _::_,_::_,h=>by simp only [IT] at h;simp [Nf h.2]
 | [],_::_,h=>by simp [IT] at h
 | _::_,[],h=>by simp [IT] at h
theorem IS:∀{l:List Tr} {q:List Ty},IT l q↔l.length=q.length/\∀(i:Nat) a t,l[i]?=some a->q[i]?=some t->X1 a t
 | [],[]=>by simp [IT]
 | a::r,t::q=>by
  simp only [IT,IS (l:=r) (q:=q),Da,Nat.add_right_cancel_iff];constructor
  ·rintro ⟨h1,h2,h3⟩;refine ⟨h2,λi a' t' ha ht=>?_⟩
   match i,ha,ht with
   | 0,ha,ht=>simp at ha ht;rw [<- ha,<- ht];exact h1
   | i+1,ha,ht=>exact h3 i a' t' (by simpa using ha) (by simpa using ht)
  ·rintro ⟨h2,h3⟩;exact ⟨h3 0 a t rfl rfl,h2,λi a' t' ha ht=>h3 (i+1) a' t' (by simpa using ha) (by simpa using ht)⟩
 | [],_::_=>by simp [IT]
 | _::_,[]=>by simp [IT]
theorem Fr {I:Imm} {w:World} {b:Nat}:∀{gs:List Tr} {i:Nat},Jl I w b i gs↔∀(j:Nat) a,gs[j]?=some a->yI w b ((i+j)*4) (cT a)/\Wb I w a
 | [],i=>by simp [Jl]
 | x::r,i=>by
  simp only [Jl,Fr (gs:=r) (i:=i+1)];constructor
  ·rintro ⟨h1,h2⟩ j a ha
   match j,ha with
   | 0,ha=>simp at ha;rw [<- ha];exact h1
   | j+1,ha=>rw [show i+(j+1)=i+1+j by omega];exact h2 j a (by simpa using ha)
  ·intro h;exact ⟨h 0 x rfl,λj a ha=>by rw [show i+1+j=i+(j+1) by omega];exact h (j+1) a (by simpa using ha)⟩
theorem MP {k:Nat}:∀{gs:List Tr},k∈Hj gs↔∃a∈gs,k∈YE a
 | []=>by simp [Hj]
 | x::r=>by simp [Hj,MP (gs:=r)]
mutual
theorem UC {I:Imm} {w w':World}:∀{a:Tr},(∀k∈YE a,w'.heap[k]?=w.heap[k]?)->Wb I w a->Wb I w' a
 | .im _ _,_,h=>h
 | .gp _ _ _ _,_,h=>h
 | .nd f n x v ks,h,ha=>by
  simp only [Wb] at ha ⊢;simp only [YE,BN] at h;exact ⟨W5 (λk hk=>h k (.inl hk)) ha.1,Qp (λhne=>h (FD v) (.inl (by cases ks with | nil=>exact absurd rfl hne | cons=>simp [HF]))) (λk hk=>h k (.inr hk)) ha.2⟩
theorem Qp {I:Imm} {w w':World} {b:Nat}:∀{gs:List Tr} {i:Nat},(gs≠[]->w'.heap[b]?=w.heap[b]?)->(∀k∈Hj gs,w'.heap[k]?=w.heap[k]?)->Jl I w b i gs->Jl I w' b i gs
 | [],_,_,_,_=>by simp [Jl]
 | a::r,i,hb,h,ha=>by
  simp only [Jl] at ha ⊢;simp only [Hj,BN] at h;exact ⟨⟨yG (hb (by simp)) ha.1.1,UC (λk hk=>h k (.inl hk)) ha.1.2⟩,Qp (λ_=>hb (by simp)) (λk hk=>h k (.inr hk)) ha.2⟩
end
mutual
theorem nA {I J:Imm} {w:World} (h:I.le J):∀{a:Tr},Wb I w a->Wb J w a
 | .nd f n x v ks,ha=>by
  simp only [Wb] at ha ⊢;exact ⟨ha.1,NH h ha.2⟩
 | .im cs c,ha=>⟨ha.1.mono h,ha.2⟩
 | .gp _ _ _ _,ha=>ha
theorem NH {I J:Imm} {w:World} (h:I.le J) {b:Nat}:∀{gs:List Tr} {i:Nat},Jl I w b i gs->Jl J w b i gs
 | [],_,_=>by simp [Jl]
 | a::r,i,ha=>by
  simp only [Jl] at ha ⊢;exact ⟨⟨ha.1.1,nA h ha.1.2⟩,NH h ha.2⟩
end
theorem tT {a:Tr} (h:Wb I w a):(cT a).length=4:=by
 cases a with
 | nd f n x v ks=>rfl
 | im cs c=>simp only [Wb] at h;exact h.1.1.trans h.2.2
 | gp f n x v=>rfl
theorem zbs {a:Tr} (h:Wb I w a):∀c∈cT a,c.oneCell'=true:=by
 cases a with
 | im cs c=>simp only [Wb] at h;exact h.2.1
 | nd f n x v ks =>
  simp only [Wb] at h;have h1:=W4 h.1;intro c hc;simp only [cT,Cy,LZ,or_false] at hc;rcases hc with rfl | rfl | rfl | rfl <;> first | rfl | exact h1
 | gp f n x v =>
  intro c hc;simp only [cT,Cy,LZ,or_false] at hc;rcases hc with rfl | rfl | rfl | rfl <;> first | rfl | exact h
def F9 (v:Value) (gs:List Tr):Asn where
 P:=λ_ I w bs=>W6 w 25 4 v gs.length/\Jl I w (FD v) 0 gs/\bs=HF v gs.length++Hj gs/\bs.Nodup
 mono:=λh ⟨h1,h2,h3⟩=>⟨h1,NH h h2,h3⟩
 loc:=λ{vs I w w' bs} h ⟨h1,h2,h3,h4⟩=>⟨W5 (λk hk=>h k (by rw [h3];simp [hk])) h1,Qp (λhne=>h _ (by rw [h3];cases gs with | nil=>exact absurd rfl hne | cons=>simp [HF])) (λk hk=>h k (by rw [h3];simp [hk])) h2,h3,h4⟩
def JO (ps:List Ty):Asn where
 P:=λvs I w bs=>∃v ks,IT ks ps/\vs=[v]/\(F9 v ks).P [] I w bs
 mono:=λh ⟨v,ks,h1,h2,h3⟩=>⟨v,ks,h1,h2,(F9 v ks).mono h h3⟩
 loc:=λh ⟨v,ks,h1,h2,h3⟩=>⟨v,ks,h1,h2,(F9 v ks).loc h h3⟩
def Rz:List (List Value)->List (List V)->List Tr
 | cs::r,c::q=>.im cs c::Rz r q
 | _,_=>[]
def Mp (es:List (List V)):Asn where
 P:=λvs I w bs=>∃v css,css.length=es.length/\vs=[v]/\(F9 v (Rz css es)).P [] I w bs
 mono:=λh hx=>by
  obtain ⟨v,css,h1,h2,h3⟩:=hx;exact ⟨v,css,h1,h2,(F9 v (Rz css es)).mono h h3⟩
 loc:=λh hx=>by
  obtain ⟨v,css,h1,h2,h3⟩:=hx;exact ⟨v,css,h1,h2,(F9 v (Rz css es)).loc h h3⟩
theorem eY:∀{css:List (List Value)} {es:List (List V)} {i:Nat},css.length=es.length->(Rz css es)[i]?=match css[i]?,es[i]? with | some cs,some c=>some (.im cs c) | _,_=>none
 | [],[],i,_=>by simp [Rz]
 | cs::r,c::q,0,_=>rfl
 | cs::r,c::q,i+1,h=>by simpa [Rz] using eY (css:=r) (es:=q) (i:=i) (by simpa using h)
 | [],_::_,_,h=>by cases h
 | _::_,[],_,h=>by cases h
theorem J2:∀{css:List (List Value)} {es:List (List V)},css.length=es.length->(Rz css es).length=es.length
 | [],[],_=>rfl
 | cs::r,c::q,h=>by simp [Rz,J2 (css:=r) (es:=q) (by simpa using h)]
 | [],_::_,h=>by cases h
 | _::_,[],h=>by cases h
theorem zX:∀{css:List (List Value)} {es:List (List V)},Hj (Rz css es)=[]
 | [],_=>by simp [Rz,Hj]
 | _::_,[]=>by simp [Rz,Hj]
 | cs::r,c::q=>by simp [Rz,Hj,YE,zX (css:=r) (es:=q)]
theorem U1 {bs:List Nat} (h0:es=[]->∃v,vs=[v]/\bs=[]/\(∃a c,v = .slice a 0 c)/\∀I,RepV I v (.sl [])) (h:es≠[]->∃b cap cur,vs=[.slice (some ⟨b,0,none⟩) es.length cap]/\bs=[b]/\w.heap[b]?=some (.cells cur 25 (0,0))/\es.length<=cap/\cap<=maxLen/\cur.size=cap*4 /\
   ∀(j:Nat) (e:List V),es[j]?=some e->∃cs:List Value,(∀(i:Nat) (c:Value),cs[i]?=some c->cur[j*4+i]?=some c)/\RepVL I cs e/\(∀c∈cs,c.oneCell'=true)/\e.length=4):(Mp es).P vs I w bs:=by
 by_cases hne:es=[]
 ·obtain ⟨v,rfl,rfl,h1,h2⟩:=h0 hne;subst hne;exact ⟨v,[],rfl,rfl,.inl ⟨rfl,h1,h2⟩,by simp [Rz,Jl],by simp [Rz,HF,Hj],.nil⟩
 ·obtain ⟨b,cap,cur,rfl,rfl,h1,h2,h3,h4,h5⟩:=h hne;have key:∀(l:List (List V)) (o:Nat),(∀(j:Nat) (e:List V),l[j]?=some e->∃cs:List Value,(∀(i:Nat) (c:Value),cs[i]?=some c->cur[(o+j)*4+i]?=some c)/\RepVL I cs e/\(∀c∈cs,c.oneCell'=true)/\e.length=4) ->
    ∃css:List (List Value),css.length=l.length/\Jl I w b o (Rz css l):=by
   intro l
   induction l with
   | nil=>exact λo _=>⟨[],rfl,by simp [Rz,Jl]⟩
   | cons e r ih =>
    intro o hl;obtain ⟨cs,q1,q2,q3,q4⟩:=hl 0 e rfl;obtain ⟨css,e1,e2⟩:=ih (o+1) λj e' he'=>by
     have:=hl (j+1) e' (by simpa using he')
     rwa [show o+(j+1)=o+1+j by omega] at this
    refine ⟨cs::css,by simp [e1],?_⟩;simp only [Rz,Jl];exact ⟨⟨⟨cur,_,_,h1,λi c hc=>by simpa using q1 i c hc⟩,q2,q3,q4⟩,e2⟩
  obtain ⟨css,e1,e2⟩:=key es 0 λj e he=>by rw [Dh];exact h5 j e he
  have hpos:0<es.length:=by cases es with | nil=>exact absurd rfl hne | cons=>simp
  refine ⟨_,css,e1,rfl,.inr ⟨by rw [J2 e1];exact hpos,b,cap,cur,by rw [J2 e1],h1,by rw [J2 e1];exact h2,h3,h4⟩,e2,?_,by simp⟩;rw [J2 e1,zX];cases hl:es.length with
  | zero=>omega
  | succ n=>simp [HF,FD]
theorem dM {bs:List Nat} {gs:List Tr} (h:(F9 v gs).P vs I w bs) {i:Nat} {a:Tr} (ha:gs[i]?=some a):∃cur ty k,w.heap[FD v]?=some (.cells cur ty k)/\(∀(j:Nat) (c:Value),(cT a)[j]?=some c->cur[i*4+j]?=some c)/\Wb I w a:=by
 obtain ⟨h1,h2⟩:=Fr.1 h.2.1 i a ha;obtain ⟨cur,ty,k,q1,q2⟩:=h1;rw [Dh] at q2;exact ⟨cur,ty,k,q1,q2,h2⟩
theorem YX {bs:List Nat} {gs:List Tr} (h:(F9 v gs).P vs I w bs) {i:Nat} {cs:List Value} (ha:gs[i]?=some (.im cs c)):Qd I w (FD v) (i*4) (c.map .imm):=by
 obtain ⟨cur,ty,k,q1,q2,h3,h4,h5⟩:=dM h ha;refine ⟨cur,ty,k,q1,λj d hd=>?_⟩;rw [Ep] at hd;cases hx:c[j]? with
 | none=>rw [hx] at hd;cases hd
 | some x =>
  rw [hx] at hd;cases hd;have hlt:j<cs.length:=by rw [h3.1];exact (AL.1 hx).1
  have hc:=Br hlt;exact ⟨_,q2 j _ hc,h4 _ (AF hc),.imm _ _ (h3.2 j _ x hc hx)⟩
theorem YY {bs:List Nat} {gs:List Tr} (h:(F9 v gs).P vs I w bs) {i:Nat} {f:Int} {u:Value} (ha:gs[i]?=some (.gp f n x u)):Qd I w (FD v) (i*4) [.imm (.int .i64 f),.imm (.int .i64 n),.imm (.str x),.raw u]:=by
 obtain ⟨cur,ty,k,q1,q2,h3⟩:=dM h ha;refine ⟨cur,ty,k,q1,λj d hd=>?_⟩
 match j,hd with
 | 0,hd=>cases hd;exact ⟨_,q2 0 _ rfl,rfl,.imm _ _ (.int _ _)⟩
 | 1,hd=>cases hd;exact ⟨_,q2 1 _ rfl,rfl,.imm _ _ (.int _ _)⟩
 | 2,hd=>cases hd;exact ⟨_,q2 2 _ rfl,rfl,.imm _ _ (.encStr _ _)⟩
 | 3,hd=>cases hd;exact ⟨_,q2 3 _ rfl,h3,.raw _ h3⟩
 | j+4,hd=>simp at hd
theorem M6 {bs:List Nat} {gs:List Tr} (h:(F9 v gs).P vs I w bs):∃a cap,v = .slice a gs.length cap/\(0<gs.length->∃b,a=some ⟨b,0,none⟩):=by
 rcases h.1 with ⟨h0,⟨a,c,rfl⟩,_⟩ | ⟨h0,b,cap,cur,rfl,_⟩
 ·exact ⟨a,c,by rw [h0],λh=>by omega⟩
 ·exact ⟨_,cap,rfl,λ_=>⟨b,rfl⟩⟩
theorem Qq {a:Tr}:∀{gs:List Tr} {i:Nat} {g:Tr},gs[i]?=some g->YE g=[]->∃l r,Hj gs=l++r/\Hj (gs.set i a)=l++(YE a++r)
 | x::q,0,g,h,h0=>by
  simp at h;subst h;exact ⟨[],Hj q,by simp [Hj,h0],by simp [Hj]⟩
 | x::q,i+1,g,h,h0=>by
  obtain ⟨l,r,e1,e2⟩:=Qq (a:=a) (gs:=q) (i:=i) (by simpa using h) h0;exact ⟨YE x++l,r,by simp [Hj,e1],by simp [Hj,e2]⟩
theorem YV {b1 b2:List Nat} {gs:List Tr} (h:(F9 v gs).P vs I w b1) {i:Nat} {g a:Tr} (hg:gs[i]?=some g) (h0:YE g=[]) (ha:Wb I w a) (hb:b2=YE a) (hd2:b2.Nodup) (hdis:∀b∈b1,b∉b2) :
  FD v∈b1/\∃cur,w.heap[FD v]?=some (.cells cur 25 (0,0))/\i*4+4<=cur.size /\
   ∃bs,(∀b∈bs,b∈b1\/b∈b2)/\(F9 v (gs.set i a)).P [] I (w.setRow (FD v) (cur.toList.take (i*4)++cT a++cur.toList.drop (i*4+4)).toArray) bs:=by
 obtain ⟨h1,h2,h3,h4⟩:=h;have hlt:i<gs.length:=(AL.1 hg).1;rcases h1 with ⟨q0,_⟩ | ⟨q0,b,cap,cur,rfl,hheap,hcap,hcm,hcs⟩
 ·omega
 have hbl:FD (.slice (some ⟨b,0,none⟩) gs.length cap)=b:=rfl;rw [hbl] at h2 ⊢;have hrb:HF (.slice (some ⟨b,0,none⟩) gs.length cap) gs.length=[b]:=by
  cases hl:gs.length with
  | zero=>omega
  | succ n=>simp [HF,FD]
 rw [hrb] at h3;have hbs:b∈b1:=by rw [h3];simp
 have hfit:i*4+4<=cur.size:=by rw [hcs];omega
 refine ⟨hbs,cur,hheap,hfit,?_⟩;have hcl:=tT ha;have hf:i*4+(cT a).length<=cur.size:=by rw [hcl];exact hfit
 have hnb:b∉Hj gs:=by
  rw [h3] at h4;intro hk;exact (HM.1 h4).2.2 b (by simp) b hk rfl
 have hnb2:b∉YE a:=λhk=>hdis b hbs (by rw [hb];exact hk);obtain ⟨l,r,e1,e2⟩:=Qq (a:=a) hg h0;refine ⟨[b]++Hj (gs.set i a),λk hk=>?_,?_,?_,?_,?_⟩
 ·rw [e2] at hk;rw [h3,e1,hb];simp only [BN] at hk ⊢;grind
 ·rw [Vf];refine .inr ⟨q0,b,cap,(cur.toList.take (i*4)++cT a++cur.toList.drop (i*4+4)).toArray,rfl,?_,hcap,hcm,?_⟩
  ·have:=NM (off:=i*4) (cs:=cT a) hheap
   rwa [hcl] at this
  ·rw [<- hcs];have hl2:cur.toList.length=cur.size:=TP;show (cur.toList.take (i*4)++cT a++cur.toList.drop (i*4+4)).length=cur.size;rw [B5,B5,HH,JJ];omega
 ·have e4:i*4+4=i*4+(cT a).length:=by rw [hcl]
  rw [e4,hbl,Fr];intro j y hy;rw [Dh];by_cases e:i=j
  ·subst e;rw [L9 (by omega)] at hy;cases hy;exact ⟨yH hheap hf,UC (λk hk=>setRow_other w b k _ (λe=>hnb2 (e ▸ hk))) ha⟩
  ·rw [L8 e] at hy;obtain ⟨p1,p2⟩:=Fr.1 h2 j y hy;rw [Dh] at p1;refine ⟨uA hheap hf p1 ?_,UC (λk hk=>setRow_other w b k _ (λe=>hnb (e ▸ MP.2 ⟨y,AF hy,hk⟩))) p2⟩;have:=tT p2;rcases Nat.lt_or_gt_of_ne e with hc | hc
   ·right;omega
   ·left;omega
 ·rw [Vf,hrb]
 ·rw [e2];rw [h3,e1] at h4;have hd:∀k∈[b]++(l++r),k∉YE a:=λk hk=>by rw [<- hb];exact hdis k (by rw [h3,e1];exact hk)
  rw [hb] at hd2;simp only [De,IO,L6,BN,HM,not_or] at h4 hd ⊢;grind
theorem YW {bs:List Nat} {gs:List Tr} (h:(F9 v gs).P vs I w bs) {i:Nat} {f:Int} {u:Value} {ks:List Tr} (hg:gs[i]?=some (.nd f n x u ks)) :
  ∃b1 b2,(∀b∈b1,b∈bs)/\(∀b∈b2,b∈bs)/\(∀b∈b1,b∉b2)/\(F9 v (gs.set i (.gp f n x u))).P [] I w b1/\(F9 u ks).P [] I w b2:=by
 obtain ⟨h1,h2,h3,h4⟩:=h;have hlt:i<gs.length:=(AL.1 hg).1;have hset:(gs.set i (.gp f n x u)).set i (.nd f n x u ks)=gs:=by
  rw [List.set_set];apply qM;intro j;by_cases e:i=j
  ·subst e;rw [L9 hlt,hg]
  ·rw [L8 e]
 obtain ⟨l,r,e1,e2⟩:=Qq (a:=.nd f n x u ks) (gs:=gs.set i (.gp f n x u)) (i:=i) (L9 hlt) rfl;rw [hset] at e2;obtain ⟨p1,p2⟩:=Fr.1 h2 i _ hg;simp only [Wb] at p2;have hB:YE (.nd f n x u ks)=HF u ks.length++Hj ks:=rfl;rw [h3,e2,hB] at h4;refine ⟨HF v gs.length++(l++r),HF u ks.length++Hj ks,λb hb=>?_,λb hb=>?_,λb hb hb2=>?_,⟨by rw [Vf];exact h1,?_,by rw [Vf,e1],?_⟩,p2.1,p2.2,rfl,?_⟩
 ·rw [h3,e2,hB];simp only [BN] at hb ⊢;grind
 ·rw [h3,e2,hB];simp only [BN] at hb ⊢;grind
 ·simp only [HM,BN] at h4 hb hb2;grind
 ·rw [Fr];intro j y hy;by_cases e:i=j
  ·subst e;rw [L9 hlt] at hy;cases hy;exact ⟨p1,W4 p2.1⟩
  ·rw [L8 e] at hy;exact Fr.1 h2 j y hy
 ·simp only [HM,BN] at h4 ⊢;grind
 ·simp only [HM,BN] at h4 ⊢;grind
theorem W7 {gs:List Tr} (hr:W6 w 25 4 v gs.length) (hw:Jl I w (FD v) 0 gs) (hJ:∀k∈HF v gs.length,J k=w.heap[k]?) (hp:IT gs ps) (ih:∀(i:Nat) a t,gs[i]?=some a->ps[i]?=some t->RepVL J (cT a) (dTyc t)):RepV J v (.sl (AA ps)):=by
 have hlen:=Nf hp;rcases hr with ⟨h0,_,h1⟩ | ⟨h0,b,cap,cur,rfl,h1,h2,h3,h4⟩
 ·have:ps=[]:=L7 (by omega);subst this;exact h1 J
 ·have hJb:J b=some (.cells cur 25 (0,0)):=by
   rw [hJ b (by cases gs with | nil=>simp at h0 | cons=>simp [HF,FD]),h1]
  have hb:FD (.slice (some ⟨b,0,none⟩) gs.length cap)=b:=rfl;rw [hb] at hw;have hget:∀(i:Nat) (e:List V) (j:Nat) (x:V),(AA ps)[i]?=some e->e[j]?=some x->∃c,cur[i*4+j]?=some c/\c.oneCell'=true/\RepV J c x:=by
   intro i e j x hi hj;rw [Dg,Ep] at hi;cases ht:ps[i]? with
   | none=>rw [ht] at hi;cases hi
   | some t =>
    rw [ht] at hi;cases hi;obtain ⟨a,ha⟩:=Ao (l:=gs) (i:=i) (by rw [hlen];exact (AL.1 ht).1);obtain ⟨g2,g3⟩:=Fr.1 hw i a ha;have hrep:=ih i a t ha ht;have hlt:j<(cT a).length:=by rw [hrep.1];exact (AL.1 hj).1
    have hc:=Br hlt;obtain ⟨cur',ty,k,q1,q2⟩:=g2;rw [h1] at q1;cases q1;refine ⟨_,?_,zbs g3 _ (AF hc),hrep.2 j _ x hc hj⟩;have:=q2 j _ hc
    rwa [Dh] at this
  refine .sl b 0 gs.length cap 4 (AA ps) (λi j=>(cur[i*4+j]?).getD undef) (by simpa using hlen) h2 h3 (λe he=>?_) (λi e j x hi hj=>?_) (λi e j x hi hj=>?_)
  ·rw [Dg] at he;obtain ⟨t,_,rfl⟩:=C2.1 he;simp
  ·obtain ⟨c,k3,k4,k5⟩:=hget i e j x hi hj;simp [Imm.cell,hJb,k3,k4]
  ·obtain ⟨c,k3,k4,k5⟩:=hget i e j x hi hj;simpa [k3] using k5
theorem eR {w:World} {I J:Imm}:∀{t:Ty} {a:Tr},X1 a t->Wb I w a->(∀k∈YE a,J k=w.heap[k]?)->RepVL J (cT a) (dTyc t)
 | .mk f n x ps,.nd f' n' x' v ks,h,hw,hJ=>by
  simp only [X1] at h;obtain ⟨rfl,rfl,rfl,h⟩:=h;simp only [Wb] at hw;simp only [YE,BN] at hJ;have hv:RepV J v (.sl (AA ps)):=W7 hw.1 hw.2 (λk hk=>hJ k (.inl hk)) h λi a t ha ht =>
   eR ((IS.1 h).2 i a t ha ht) (Fr.1 hw.2 i a ha).2 λk hk=>hJ k (.inr (MP.2 ⟨a,AF ha,hk⟩))
  refine ⟨rfl,λi c y h1 h2=>?_⟩;simp only [cT] at h1
  match i with
  | 0=>cases h1;cases h2;exact .int _ _
  | 1=>cases h1;cases h2;exact .int _ _
  | 2=>cases h1;cases h2;exact .encStr _ _
  | 3=>cases h1;cases h2;exact hv
  | i+4=>simp at h1
 | .mk _ _ _ _,.im _ _,h,_,_=>by simp [X1] at h
 | .mk _ _ _ _,.gp _ _ _ _,h,_,_=>by simp [X1] at h
termination_by t=>SizeOf.sizeOf t
decreasing_by
 have:=Cj (AF ht);simp_wf;omega
end Go.Hk
