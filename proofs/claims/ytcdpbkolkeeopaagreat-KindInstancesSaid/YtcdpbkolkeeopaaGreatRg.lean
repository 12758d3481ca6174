/- hearthlaw03.KindInstances returns true for all its arguments, and changes nothing: a module whose function has a term as its body has types just if the function's type is an instance of the term's one. No condition. -/
import Derived.Test.YtcdpbkolkeeopaaGreatRf
import Derived.Test.YtcdpbkolkeeopaaGreatRd
import Derived.Test.YtcdpbkolkeeopaaGreatRb
import Derived.Below
import Derived.ChangeSame
import Derived.ChangeOld
import Derived.Carry
import Derived.ChangeArms
import Derived.DataReads
import Derived.Test.YtcdpbkolkeeopaaGreatRe
import Derived.WideKeyArgs
import Derived.OpenShut
import Derived.RowKit
import Derived.ProofKit
import Derived.Test.YtcdpbkolkeeopaaGreatRows
import Derived.WalkKit
set_option linter.all false
set_option maxRecDepth 100000
set_option maxHeartbeats 4000000
namespace Go.Hk
open Go.Proofs.Tryz
open Go.Proofs
open Go.RowKit Go.WideShapes Go.ChangeShapes
open Go.RowKit Go.WideShapes Go.ChangeShapes Go.ChangeAt
variable {W W':World} {m:Md} {P:Program} {g f:Fd} {t:Tm} {H α:Type} {v:Value} {Γ:Au} {a c b:Bool} {sz:Nat} {z:List D} {τ u T:Ty} {S ps:List Ty} {n:Int} {s:Str} {cs vs:List Value} {p:Nat->Bool} {L:List Int} {x:V} {xs:List V} {tt:TT}
def FG (m:Md) (g:Fd):Md:=⟨m.name,m.datas,m.funs++[g]⟩
theorem XL:∀(l:List Fd) (g:Fd) (y:Str),JP (l++[g]) y=match JP l y with | some t=>some t | none=>if g.name=y then some (AN g.from_ g.to_) else none
 | [],g,y=>by simp only [IO,JP]
 | f::r,g,y=>by
  simp only [De,JP,XL r g y]
  split <;> rfl
theorem Xi {y:Str} (h:(BO m Γ y).isSome=true\/y≠g.name):BO (FG m g) Γ y=BO m Γ y:=by
 simp only [BO,FG,XL] at h ⊢;cases e1:HP Γ y with
 | some t=>rfl
 | none =>
  rw [e1] at h;cases e2:JP m.funs y with
  | some t=>rfl
  | none =>
   rw [e2] at h;rcases h with h | h
   ·cases h
   ·show (if g.name=y then some (AN g.from_ g.to_) else none)=none;rw [if_neg λe=>h e.symm]
theorem fB (hp:Fv t) (h:∀y,mG t y->(BO m Γ y).isSome=true\/y≠g.name):Cf (FG m g) t Γ τ S↔Cf m t Γ τ S :=
 ⟨V7 (m:=FG m g) (m':=m) rfl t Γ Γ τ S hp λy hy=>(Xi (h y hy)).symm,V7 (m:=m) (m':=FG m g) rfl t Γ Γ τ S hp λy hy=>Xi (h y hy)⟩
theorem fZ {m':Md} (h:∀S,Cf m' f.body [(f.param,f.from_)] f.to_ S↔Cf m f.body [(f.param,f.from_)] f.to_ S):EH m' f=EH m f:=by
 have h2:yT m' f↔yT m f:=by unfold yT;simp only [h]
 unfold EH;exact decide_eq_decide.2 h2
open Classical in
theorem yE (hp:Fv f.body) (hb:EH m f=true):EH (FG m g) f=true:=by
 have hb':=hb;unfold EH at hb';obtain ⟨N,h1,_⟩:=of_decide_eq_true hb';rw [fZ λS=>fB hp λy hy=>.inl (XF f.body _ _ _ hp h1 y hy)];exact hb
theorem yF (hp:Fv g.body) (hn:¬mG g.body g.name):EH (FG m g) g=EH m g :=
 fZ λS=>fB hp λy hy=>.inr λe=>hn (e ▸ hy)
mutual
theorem MN (m:Md) (g:Fd):∀t:Ty,Ge (FG m g) t=Ge m t
 | .mk f n x ps=>by simp only [Ge,QM m g ps];rfl
theorem QM (m:Md) (g:Fd):∀l:List Ty,GF (FG m g) l=GF m l
 | []=>rfl
 | t::r=>by simp only [GF,MN m g t,QM m g r]
end
theorem vC (m:Md) (g:Fd) (i:Nat):Lt (FG m g) i=Lt m i:=by
 unfold Lt zaj;simp only [QM];rfl
theorem XN {p:Nat->Bool}:∀(k i:Nat),(∀j,i<=j->j<i+k->p j=false)->FV p i (k+1)=if p (i+k)=true then some (i+k) else none
 | 0,i,_=>by simp [FV]
 | k+1,i,h=>by
  rw [FV,if_neg (by rw [h i (BQ _) (by omega)];simp),XN k (i+1) λj h1 h2=>h j (by omega) (by omega),show i+1+k=i+(k+1) by omega]
theorem XM {p:Nat->Bool}:∀(k i:Nat),FV p i k=none->∀j,i<=j->j<i+k->p j=false
 | 0,i,_,j,h1,h2=>by omega
 | k+1,i,h,j,h1,h2=>by
  rw [FV] at h;cases e:p i with
  | true=>rw [e] at h;simp at h
  | false =>
   rw [e,if_neg (by simp)] at h;by_cases hj:j=i
   ·rw [hj];exact e
   ·exact XM k (i+1) h j (by omega) (by omega)
theorem mL (h:(JS m).1=0):FV (Lt m) 0 m.datas.length=none/\FV (P4 m) 0 m.funs.length=none/\Vd m=true:=by
 unfold JS at h;cases h1:FV (Lt m) 0 m.datas.length with
 | some i=>rw [h1] at h;simp at h
 | none =>
  rw [h1] at h;cases h2:FV (P4 m) 0 m.funs.length with
  | some i=>rw [h2] at h;simp at h
  | none =>
   rw [h2] at h;cases h3:Vd m with
   | true=>exact ⟨rfl,rfl,rfl⟩
   | false=>rw [h3] at h;simp at h
theorem uZ (hw:(JS m).1=0) (hnm:∀f∈m.funs,f.name≠g.name) (hpa:∀f∈m.funs,Fv f.body) (hpg:Fv g.body) (hng:¬mG g.body g.name) :
  (JS (FG m g)).1=if (Ge m g.from_&&Ge m g.to_&&EH m g)=true then 0 else 2:=by
 obtain ⟨h1,h2,h3⟩:=mL hw;have hf:=XM _ _ h2;have e1:FV (Lt (FG m g)) 0 (FG m g).datas.length=none:=by
  rw [show Lt (FG m g)=Lt m from funext (vC m g)];exact h1
 have e2:∀j,0<=j->j<0+m.funs.length->P4 (FG m g) j=false:=λj _ hj=>by
  obtain ⟨f,hg⟩:=Ao (l:=m.funs) (i:=j) (by omega);have hfm:=AF hg;have:=hf j (by omega) (by omega);rw [Mt hg] at this;have hg':(FG m g).funs[j]?=some f:=by
   show (m.funs++[g])[j]?=some f;rw [Pb (by omega)];exact hg
  rw [Mt hg',MN,MN,show (FG m g).funs.take j=m.funs.take j from qR (by omega)];simp only [Kk,ZD] at this ⊢;exact ⟨this.1,yE (hpa f hfm) this.2⟩
 have e3:P4 (FG m g) (0+m.funs.length) = !(Ge m g.from_&&Ge m g.to_&&EH m g):=by
  rw [Dh];have hg':(FG m g).funs[m.funs.length]?=some g:=by
   show (m.funs++[g])[m.funs.length]?=some g;simp
  have ha:(m.funs.any λf=>f.name == g.name)=false:=by
   rw [List.any_eq_false];exact λf hf=>by simpa using hnm f hf
  rw [Mt hg',MN,MN,yF hpg hng,show (FG m g).funs.take m.funs.length=m.funs by show (m.funs++[g]).take m.funs.length=m.funs;simp,ha];cases Ge m g.from_ <;> cases Ge m g.to_ <;> cases EH m g <;> rfl
 have e4:Vd (FG m g)=true:=by
  show (m.funs++[g]).any _=true;rw [GZ];show (Vd m||_)=true;rw [h3];rfl
 unfold JS;rw [e1,show (FG m g).funs.length=m.funs.length+1 by simp [FG],XN m.funs.length 0 e2,e3,e4];cases (Ge m g.from_&&Ge m g.to_&&EH m g) <;> simp
mutual
theorem pZ {c b:Bool}:∀(t u:Ty) (σ σ':Sb),BL c t=true->BL b u=true->I5 t u σ=some σ'->(∀n v,σ n=some v->σ' n=some v)/\∀η:Int->Ty,(∀n v,σ' n=some v->η n=v)->A8 η t=u
 | .mk f n x ps,.mk f2 n2 x2 ps2,σ,σ',hs,hs2,h=>by
  rw [I5] at h;by_cases e9:f=9
  ·rw [if_pos e9] at h;cases hv:σ n with
   | none =>
    rw [hv] at h;simp only [Ce] at h;subst h;refine ⟨λk v hk=>?_,λη hη=>?_⟩
    ·rw [Ea];by_cases e:k=n
     ·subst e;rw [hv] at hk;cases hk
     ·rw [if_neg e];exact hk
    ·rw [A8,if_pos e9];exact hη n _ (by rw [Ea,if_pos rfl])
   | some v =>
    rw [hv] at h;simp only at h;by_cases e:Ib v (.mk f2 n2 x2 ps2)=true
    ·rw [if_pos e] at h;cases h;exact ⟨λk v h=>h,λη hη=>by rw [A8,if_pos e9,hη n v hv];exact (K7 _ _).1 e⟩
    ·rw [if_neg e] at h;cases h
  ·rw [if_neg e9] at h;by_cases hh:f=Cg (.mk f2 n2 x2 ps2)/\x=cX (.mk f2 n2 x2 ps2)/\ps.length=(Ft (.mk f2 n2 x2 ps2)).length
   ·rw [if_pos hh] at h;obtain ⟨q1,q2,q3⟩:=hh;simp only [BL,Ap] at hs hs2;obtain ⟨r1,r2⟩:=eM ps ps2 σ σ' hs.2 hs2.2 q3 h;refine ⟨r1,λη hη=>?_⟩;rw [A8,if_neg e9,r2 η hη];have hq1:f=f2:=q1;have hq2:x=x2:=q2;have z1:=(PQ hs.1).2.2.2 e9;have z2:=(PQ hs2.1).2.2.2 (by rw [<- hq1];exact e9);rw [hq1,hq2,z1,z2]
   ·rw [if_neg hh] at h;cases h
theorem eM {c b:Bool}:∀(l r:List Ty) (σ σ':Sb),B9 c l=true->B9 b r=true->l.length=r.length->IL l r σ=some σ'->(∀n v,σ n=some v->σ' n=some v)/\∀η:Int->Ty,(∀n v,σ' n=some v->η n=v)->Ca η l=r
 | [],[],σ,σ',_,_,_,h=>by simp only [IL,Ce] at h;subst h;exact ⟨λ_ _ h=>h,λ_ _=>rfl⟩
 | [],_::_,_,_,_,_,hl,_=>by simp at hl
 | _::_,[],_,_,_,_,hl,_=>by simp at hl
 | t::l,u::r,σ,σ',hs,hs2,hl,h=>by
  simp only [B9,Ap] at hs hs2;rw [IL] at h;cases hm:I5 t u σ with
  | none=>rw [hm] at h;cases h
  | some σ1 =>
   rw [hm] at h;obtain ⟨a1,a2⟩:=pZ t u σ σ1 hs.1 hs2.1 hm;obtain ⟨b1,b2⟩:=eM l r σ1 σ' hs.2 hs2.2 (by simpa using hl) h;exact ⟨λn v hn=>b1 n v (a1 n v hn),λη hη=>by rw [Ca,a2 η λn v hn=>hη n v (b1 n v hn),b2 η hη]⟩
end
theorem sB {t:Ty} (ht:BL c t=true) (hu:BL b u=true):(I5 t u λ_=>none).isSome=true↔∃η:Int->Ty,A8 η t=u:=by
 constructor
 ·intro h;obtain ⟨σ',hm⟩:=Ve.1 h;exact ⟨λn=>(σ' n).getD (Aw n),(pZ t u _ σ' ht hu hm).2 _ λn v hv=>by rw [hv];rfl⟩
 ·rintro ⟨η,rfl⟩;obtain ⟨σ',h,_⟩:=eN (η:=η) t (λ_=>none) (λn v h=>by cases h);rw [h];rfl
mutual
theorem WC {stay L:List Int}:∀t:Ty,eI Mi t=true->Ck t=true->F5 stay L t=A8 (λh=>Aw (E7 stay (L.idxOf h):Nat)) t
 | .mk f n x ps,h,hw=>by
  simp only [eI,Ap,Mi,HN,beq_eq_false_iff_ne] at h;by_cases e9:f=9
  ·have hq:=DZ hw (by simp [Cg,e9]);simp only [Aw,num,Ty.mk.injEq] at hq;rw [hq.2.2.1,hq.2.2.2,F5,A8,if_neg h.1,if_pos e9,if_pos e9,e9];rfl
  ·simp only [Ck,Ap] at hw;rw [F5,A8,if_neg h.1,if_neg e9,if_neg e9,Tz ps h.2 hw.2]
theorem Tz {stay L:List Int}:∀l:List Ty,QL Mi l=true->EJ l=true->GG stay L l=Ca (λh=>Aw (E7 stay (L.idxOf h):Nat)) l
 | [],_,_=>rfl
 | t::r,h,hw=>by
  simp only [QL,EJ,Ap] at h hw;rw [GG,Ca,WC t h.1 hw.1,Tz r h.2 hw.2]
end
theorem oF (hn:eI Mi T=true) (hw:Ck T=true):(∃η:Int->Ty,A8 η (F5 [] (Df T []) T)=u)↔∃η:Int->Ty,A8 η T=u:=by
 rw [WC T hn hw];simp only [JB,CH];constructor
 ·rintro ⟨η,h⟩;exact ⟨_,h⟩
 ·rintro ⟨η,h⟩;refine ⟨λj=>η ((Df T []).getD j.toNat 0),?_⟩;rw [<- h];refine Ew T λn hn'=>?_;have hm:n∈Df T []:=(PU T []).2 (.inr hn');have hl:=List.idxOf_lt_length_of_mem hm;show η ((Df T []).getD ((E7 [] ((Df T []).idxOf n):Nat):Int).toNat 0)=η n;rw [WQ,ZG,ZB,Br hl];simp
theorem PZ {x:Str}:Cf m (.mk 5 n x [t] ps) Γ τ S↔∃a b,τ=AN a b/\Cf m t (Γ++[(x,a)]) b S:=by
 constructor
 ·rintro ⟨K,S1,S2,q1,q2,q3⟩;simp [AT] at q1;obtain ⟨a,b,rfl,rfl,rfl⟩:=q1;obtain ⟨T1,T2,q4,q5,q6⟩:=q2;simp only [C9] at q5;subst q5;simp at q3 q6;subst q3;subst q6;exact ⟨a,b,rfl,q4⟩
 ·rintro ⟨a,b,rfl,h⟩;exact ⟨[(Γ++[(x,a)],b)],S,[],by rw [nU];exact ⟨a,b,rfl,rfl,rfl⟩,⟨S,[],h,rfl,by simp⟩,by simp⟩
theorem xE (hm:DS m) (η:Int->Ty) (h:Cf m t [] τ S):Cf m t [] (A8 η τ) (S.map (A8 η)):=by
 refine bL (φ:=A8 η) ⟨by simp [AR,A8,Ca],by simp [BW,A8,Ca],by simp [Di,A8,Ca],λa b=>by simp [AN,A8,Ca],λa=>by simp [GJ,A8,Ca],λa=>by simp [GJ,A8,Ca],λa=>by simp [GJ,A8,Ca],λx=>by simp [Bw,A8,Ca],λf hf=>?_,λd hd c hc t ht=>?_⟩ t [] τ S h
 ·exact Fe (hm.1 f hf).1 (hm.1 f hf).2 η
 ·exact Fe (hm.2 d hd c hc t ht).1 (hm.2 d hd c hc t ht).2 η
theorem tW {k:Int} (h:BS m [] (.mk 5 n g.param [g.body] ps) k (λ_=>none) none):EH m g=false :=
 cM λS hS=>sE (λp hp=>by cases hp) h (AN g.from_ g.to_) S (PZ.2 ⟨_,_,rfl,hS⟩)
open Classical in
theorem tX (hm:DS m) {N:List Ty} (hP:yN m [] (.mk 5 n g.param [g.body] ps) T N) (hN:N.all Dj=true) (hg:CL (AN g.from_ g.to_)=[]) (hgw:Ck (AN g.from_ g.to_)=true) :
  EH m g=true↔∃η:Int->Ty,A8 η T=AN g.from_ g.to_:=by
 constructor
 ·intro hb;unfold EH at hb;obtain ⟨S,h1,_⟩:=of_decide_eq_true hb;obtain ⟨η,h2,_⟩:=hP.2 (AN g.from_ g.to_) S (PZ.2 ⟨_,_,rfl,h1⟩);exact ⟨η,h2⟩
 ·rintro ⟨η,hη⟩;have e0:A8 (λh=>if h∈CL T then η h else Aw h) T=AN g.from_ g.to_:=by
   rw [<- hη];exact Ew T λh hh=>if_pos hh
  have hcl:∀h∈CL T,CL (η h)=[]:=λh hh=>by
   apply List.eq_nil_iff_forall_not_mem.2;intro j hj;have:=(bK (θ:=η) (m:=j) T).2 ⟨h,hh,hj⟩;rw [hη,hg] at this;cases this
  have hb:=xE hm (λh=>if h∈CL T then η h else Aw h) hP.1;rw [e0] at hb;obtain ⟨a,b,q1,q2⟩:=PZ.1 hb;simp only [AN,Ty.mk.injEq,DM,and_true,true_and] at q1;obtain ⟨rfl,rfl⟩:=q1;rw [cL q2 λS hS=>?_]
  ·rw [CS] at hN ⊢;intro t ht;obtain ⟨u,hu,rfl⟩:=C2.1 ht;exact oV (hN u hu)
  ·obtain ⟨η2,r1,r2⟩:=hP.2 (AN g.from_ g.to_) S (PZ.2 ⟨_,_,rfl,hS⟩);have hag:=uE T (r1.trans hη.symm);refine ⟨η2,?_⟩;rw [<- r2,Rc];refine HK λt _=>?_;simp only [Function.comp];rw [JB];refine Ew t λh _=>?_;show A8 η2 (if h∈CL T then η h else Aw h)=η2 h;by_cases hh:h∈CL T
   ·rw [if_pos hh,hag h hh];have hw:Ck (η h)=true:=mO T (by rw [hη];exact hgw) h hh;exact Fe (hcl h hh) hw η2
   ·rw [if_neg hh,CH]
def atR (t:Tm) (path:List Int):Tm×Int:=bif EB t then (match rF t path with | some r=>(r,0) | none=>(zTm,2)) else (zTm,2)
mutual
theorem Qo:∀(t:Tm) (l d:Int),(0<=AY t l d↔(Je t:Int)<=l/\(uX t:Int)<=d)/\((Je t:Int)<=l->(uX t:Int)<=d->AY t l d=l-Je t)
 | .mk o n x ks ps,l,d=>by
  have h:=OA ks (l-1) (d-1) 0;have hd:=VF ks 0;have hk:(0:Int)<=Fl ks:=by omega
  simp only [AY,Je,uX];by_cases h0:l<1\/d<1
  ·rw [if_pos h0];refine ⟨⟨λh=>by omega,λ⟨h1,h2⟩=>by omega⟩,λh1 h2=>by omega⟩
  ·rw [if_neg h0];obtain ⟨h1,h2⟩:=h (by omega) (by omega);refine ⟨⟨λq=>?_,λ⟨q1,q2⟩=>h1.2 ⟨by omega,by omega⟩⟩,λq1 q2=>by rw [h2 (by omega) (by omega)];omega⟩;obtain ⟨a,b⟩:=h1.1 q;exact ⟨by omega,by omega⟩
theorem OA:∀(ts:List Tm) (l d:Int) (m:Nat),0<=l->(m:Int)<=d->(0<=Bs ts l d↔(Fl ts:Int)<=l/\(SK ts m:Int)<=d)/\((Fl ts:Int)<=l->(SK ts m:Int)<=d->Bs ts l d=l-Fl ts)
 | [],l,d,m,h0,hm=>by simp [Bs,Fl,SK];omega
 | t::r,l,d,m,h0,hm=>by
  obtain ⟨t1,t2⟩:=Qo t l d;simp only [Bs,if_pos h0,Fl,SK];have hle:=VF r (max m (uX t));by_cases hw:0<=AY t l d
  ·obtain ⟨c1,c2⟩:=t1.1 hw;have e:=t2 c1 c2;obtain ⟨r1,r2⟩:=OA r (AY t l d) d (max m (uX t)) hw (by omega);rw [e] at r1 r2 ⊢;refine ⟨⟨λq=>?_,λ⟨q1,q2⟩=>r1.2 ⟨by omega,q2⟩⟩,λq1 q2=>by rw [r2 (by omega) q2];omega⟩;obtain ⟨a,b⟩:=r1.1 q;exact ⟨by omega,b⟩
  ·have hneg:∀(ts:List Tm) (l:Int),l<0->Bs ts l d=l:=by
    intro ts l hl;cases ts with
    | nil=>rfl
    | cons=>simp only [Bs];rw [if_neg (by omega)]
   rw [hneg r _ (by omega)];have hnot:¬((Je t:Int)<=l/\(uX t:Int)<=d):=λh=>hw (t1.2 h);have hc:=fV t;refine ⟨⟨λq=>absurd q hw,λ⟨q1,q2⟩=>absurd ⟨by omega,by omega⟩ hnot⟩,λq1 q2=>absurd ⟨by omega,by omega⟩ hnot⟩
end
theorem hO (t:Tm):EB t=true↔BU t=true/\Je t<=60/\uX t<=14:=by
 simp only [EB,Ap,decide_eq_true_eq,(Qo t 60 14).1];constructor
 ·rintro ⟨⟨a,b⟩,c⟩;exact ⟨c,by omega,by omega⟩
 ·rintro ⟨a,b,c⟩;exact ⟨⟨by omega,by omega⟩,a⟩
def zc1 (Γ:Au):Bool:=decide (Γ.length<=20)&&Γ.all λp=>DH p.1&&cW p.2
theorem jI (h:BV m=true):cQ m:=by
 simp only [BV,Ap,decide_eq_true_eq,Dz] at h;obtain ⟨⟨⟨⟨h1,h2⟩,h3⟩,h4⟩,h5⟩:=h;refine ⟨λf hf=>?_,λd hd c hc t ht=>?_⟩
 ·have:=CS.1 h5 f hf;simp only [K5,Ap] at this;simp [this]
 ·have:=CS.1 h4 d hd;simp only [He,Ap,decide_eq_true_eq,Dz] at this;have:=CS.1 this.2 c hc;simp only [Lz,Ap,decide_eq_true_eq] at this;exact CS.1 this.2 t ht
theorem zbv (hm:Hc m=BV m) (ht:G3 t=EB t):Is m Γ t=(BV m&&zc1 Γ&&EB t):=by
 have:Γ.all Oj=Γ.all λp=>DH p.1&&cW p.2:=by
  congr 1;funext p;simp only [Oj,XP]
 rw [Is,zc1,hm,ht,this];simp only [Me]
def CB:Str:=[111,116,104,101,114]
def Gk (s:Str) (t:Tm):Tm:=.mk 5 0 s [t] []
theorem kV (h:EB (Gk s t)=true):EB t=true:=by
 rw [hO] at h ⊢;obtain ⟨h1,h2,h3⟩:=h;simp only [Gk,BU,Cm,Ap,Je,Fl,uX,SK] at h1 h2 h3;exact ⟨h1.2.1,by omega,by omega⟩
theorem zaz {a b:Ty} (hs:BY m=true) (hm:BV m=true) (h5:m.funs.length<5) (hn:DH s=true) (ht:EB t=true) (hts:D1 t=true) (hsl:s.length<=30) (ha:Cw a=true) (hb:Cw b=true) (hsa:BJ a=true) (hsb:BJ b=true) :
  BY (FG m ⟨CB,s,a,b,t⟩)=true/\BV (FG m ⟨CB,s,a,b,t⟩)=true:=by
 obtain ⟨m1,m2,m3⟩:=m;have h5:m3.length<5:=h5;show BY ⟨m1,m2,m3++[⟨CB,s,a,b,t⟩]⟩=true/\BV ⟨m1,m2,m3++[⟨CB,s,a,b,t⟩]⟩=true;simp only [BY,BV,Ap,decide_eq_true_eq,Dz,HJ,B5,Vg] at hs hm ⊢;obtain ⟨⟨⟨⟨a1,a2⟩,a3⟩,a4⟩,a5⟩:=hs;obtain ⟨⟨⟨⟨b1,b2⟩,b3⟩,b4⟩,b5⟩:=hm;refine ⟨⟨⟨⟨⟨a1,a2⟩,by omega⟩,a4⟩,a5,?_⟩,⟨⟨⟨b1,b2⟩,by omega⟩,b4⟩,b5,?_⟩
 ·simp [Ez,hsa,hsb,hts,CB];omega
 ·simp [K5,hn,ha,hb,ht];decide
theorem bJ {a b:Ty} (hsm:BY m=true) (hm:BV m=true) (hF:EB (Gk s t)=true) (hts:D1 t=true) (hsl:s.length<=30) (ha:Cw a=true) (hb:Cw b=true) :
  ∃(e:Int) (k:Ty),Tq3 26 [.agg (dMdc m),.sl [],.agg (dTmc (Gk s t))] (.tup [.agg (dTyc k),Es e])/\(e=0\/e=3\/e=7) /\
   (e=7->EH m ⟨CB,s,a,b,t⟩=false\/nK t=true)/\(e=0->HC k=true/\(I5 k (AN a b) λ_=>none).isSome=EH m ⟨CB,s,a,b,t⟩):=by
 have hOk:=(Vb hm).1;have hcl:EnvCl []:=λp hp=>by cases hp
 have hsF:FM (Gk s t)=true:=by
  simp only [D1,Ap] at hts;simp [Gk,FM,Ek,hts.2,hsl]
 have hcF:G3 (Gk s t)=EB (Gk s t):=by
  simp only [G3,EB];rw [LX _ hsF]
 have hia:Is m [] (Gk s t)=true:=by
  rw [zbv (Vc m hsm) hcF,hm,hF];rfl
 obtain ⟨hn,hz⟩:=Th hF;obtain ⟨r,hr,hP⟩:=Ua hOk.closed [] (Gk s t) hia (λp hp=>by cases hp) hn hz;have hr:BS m [] (Gk s t) 0 (λ_=>none) r:=hr;have hP:Tq3 26 [.agg (dMdc m),.sl [],.agg (dTmc (Gk s t))] (Rl [] r):=hP;have hfc:CL (AN a b)=[]/\Ck (AN a b)=true:=by
  obtain ⟨a1,a2⟩:=H7 ha;obtain ⟨b1,b2⟩:=H7 hb;exact ⟨by simp [AN,CL,Dc,a1,b1],by simp [AN,Ck,EJ,a2,b2]⟩
 have hfs:BL false (AN a b)=true:=by
  simp only [Cw,Ap] at ha hb;simp [AN,BL,B9,ha.2,hb.2,Ct]
 cases r with
 | none=>exact ⟨7,Hi,hP,.inr (.inr rfl),λ_=>.inl (tW (g:=⟨CB,s,a,b,t⟩) hr),λh=>by cases h⟩
 | some z =>
  obtain ⟨τ,k,σ,N⟩:=z;obtain ⟨θ,hθ⟩:=hr.1.2.1.2.2;have hp:=Ru hcl hr hθ;have hw:Ck (A8 θ τ)=true:=SU (λn=>hθ.wfθ n) _ hr.2.1;simp only [Rl,Qt hθ] at hP;generalize A8 θ τ=T at *;generalize N.map (A8 θ)=M at *;cases hpl:M.all Dj with
  | false =>
   rw [hpl,if_neg (by simp)] at hP;refine ⟨7,Hi,hP,.inr (.inr rfl),λ_=>.inr ?_,λh=>by cases h⟩;cases hs:nK t with
   | true=>rfl
   | false =>
    have:=XE (Gk s t) _ _ _ (by simp [Gk,nK,Ws,hs]) hp.1;rw [this] at hpl;cases hpl
  | true =>
   rw [hpl,if_pos rfl] at hP;unfold Nc at hP;by_cases h12:EK T<=12
   ·rw [if_pos h12] at hP;cases hf:AO true (F5 [] (Df T []) T) with
    | false =>
     rw [hf,if_neg (by simp)] at hP;exact ⟨3,Hi,hP,.inr (.inl rfl),(λh=>by cases h),λh=>by cases h⟩
    | true =>
     rw [hf,if_pos rfl] at hP;refine ⟨0,_,hP,.inl rfl,(λh=>by cases h),λ_=>⟨(J5 hf).2.2,?_⟩⟩;have hno:eI Mi T=true:=Zi (jI hm) hp hw fitF (λn=>rfl) λe he=>by cases he
     have hfo:=hf;simp only [AO,Ap] at hfo;rw [Fq,sB hfo.2 hfs,oF hno hw];exact (tX (g:=⟨CB,s,a,b,t⟩) hOk.closed hp hpl hfc.1 hfc.2).symm
   ·rw [if_neg h12] at hP;exact ⟨3,Hi,hP,.inr (.inl rfl),(λh=>by cases h),λh=>by cases h⟩
theorem KindInstances_pure (m:Md) (t:Tm) (s:Str) (a b:Ty):Tq3 8 [.agg (dMdc m),.agg (dTmc t),.str s,.agg (dTyc a),.agg (dTyc b)] (.bool true):=by
 have hK:=Xp;have hsm:=Se m;have hst:=N9 t;have hsa:=Gc a;have hsb:=Gc b;have hMo:=U5 m;have hNm:=Hw s;have hWa:=KK a;have hWb:=KK b;have hTF:=VQ (Gk s t);by_cases hs:BY m=true/\D1 t=true/\BJ a=true/\BJ b=true/\s.length<=30/\BV m=true/\DH s=true/\m.funs.length<5/\Cw a=true/\Cw b=true
 case neg =>
  clear hTF;have hdf:(dMdc m)[2]?=some (.sl (m.funs.map CG)):=rfl;generalize BY m=o1 at *;generalize D1 t=o2 at *;generalize BJ a=o3 at *;generalize BJ b=o4 at *;generalize BV m=o5 at *;generalize DH s=o6 at *;generalize Cw a=o7 at *;generalize Cw b=o8 at *;obtain ⟨m1,m2,m3⟩:=m;obtain ⟨t1,t2,t3,t4,t5⟩:=t;obtain ⟨a1,a2,a3,a4⟩:=a;obtain ⟨b1,b2,b3,b4⟩:=b;refine Ad ttY_ok func8 rfl [1,2,3,4,5,6,7,8,9,10]<|Ai rfl<|Af rfl hsm<|BH rfl<|AI rfl hst<|BH rfl<|AI rfl hsa<|BH rfl<|AI rfl hsb<|BH rfl<|AI rfl hMo<|BH rfl<|AI rfl hNm<|BH rfl<|AI rfl hWa<|BH rfl<|AI rfl hWb<|BH rfl<|Ab rfl (λh=>?_) (λh=>by
   exfalso;apply hs;clear hs;cases o1 <;> cases o2 <;> cases o3 <;> cases o4 <;> simp at h ⊢;cases o5 <;> cases o6 <;> cases o7 <;> cases o8 <;> simp at h ⊢ <;> omega)
  exact As rfl<|Af rfl hK<|Ai rfl<|Aa rfl rfl rfl
 case pos =>
  obtain ⟨s1,s2,s3,s4,s5,s6,s7,s8,s9,s10⟩:=hs;have hOk:=Vb s6;have hKM:=Rp (m:=m) λ_=>hOk;rw [if_pos ((Vc m s1).trans s6),YF s6] at hKM;rw [s1] at hsm;rw [s2] at hst;rw [s3] at hsa;rw [s4] at hsb;rw [s6] at hMo;rw [s7] at hNm;rw [s9] at hWa;rw [s10] at hWb;have hfl:m.funs.length<=5:=by omega
  have hf1:1<=m.funs.length:=by
   simp only [BV,Ap,decide_eq_true_eq,Dz] at s6;omega
  by_cases hc:EB (Gk s t)=true/\(JS m).1=0
  case neg =>
   have e1:(if (JS m).1=0 then Es 0 else Es 7)=Es (if (JS m).1=0 then 0 else 7):=by split <;> rfl
   rw [e1] at hKM;have e2:(EB (Gk s t)=true/\(if (JS m).1=0 then (0:Int) else 7)=0)->False:=λ⟨h1,h2⟩=>hc ⟨h1,by by_cases h:(JS m).1=0;exact h;rw [if_neg h] at h2;omega⟩;generalize (if (JS m).1=0 then (0:Int) else 7)=r at *;generalize EB (Gk s t)=o at *;clear e1 hc hOk s6 s1 s2 s3 s4 s9 s10;obtain ⟨m1,m2,m3⟩:=m;have s8:m3.length<5:=s8;obtain ⟨t1,t2,t3,t4,t5⟩:=t;obtain ⟨a1,a2,a3,a4⟩:=a;obtain ⟨b1,b2,b3,b4⟩:=b;refine Ad ttY_ok func8 rfl [1,2,3,4,5,6,7,8,9,10]<|Ai rfl<|Af rfl hsm<|BH rfl<|AI rfl hst<|BH rfl<|AI rfl hsa<|BH rfl<|AI rfl hsb<|BH rfl<|AI rfl hMo<|BH rfl<|AI rfl hNm<|BH rfl<|AI rfl hWa<|BH rfl<|AI rfl hWb<|BH rfl<|Ab rfl (λh=>by exfalso;simp at h;omega) (λh=>?_);clear h
   refine As rfl<|Af rfl hTF<|BH rfl<|AI rfl hKM<|BH rfl<|Ab rfl (λh=>?_) (λh=>by exfalso;apply e2;cases o <;> simp at h ⊢;exact h);exact As rfl<|Af rfl hK<|Ai rfl<|Aa rfl rfl rfl
  case pos =>
   obtain ⟨hF1,hW⟩:=hc;rw [if_pos hW] at hKM;rw [hF1] at hTF;have htB:=kV hF1;obtain ⟨p1,_,p3,p4⟩:=Ti t htB;have hFr:=WG t p3 (by omega);have hHas:=VV (Fh t) CB;have hPo:=WJ t p3;obtain ⟨w1,w2⟩:=zaz s1 s6 s8 s7 htB s2 s5 s9 s10 s3 s4;have hO2:=Vb w2;have hKO:=Rp (m:=FG m ⟨CB,s,a,b,t⟩) λ_=>hO2;rw [if_pos ((Vc _ w1).trans w2),YF w2] at hKO;obtain ⟨e,k,hI,he,h7,h0⟩:=bJ s1 s6 hF1 s2 s5 s9 s10;have hFn:=uT a b;have hal:=s9;have hbl:=s10;simp only [Cw,Ap] at hal hbl;have wfa:=(H7 s9).2;have wfb:=(H7 s10).2;have hdl:m.datas.length<=1000000:=by
    simp only [BV,Ap,decide_eq_true_eq] at s6;omega
   have hDa:=VJ m hdl a wfa;have hDb:=VJ m hdl b wfb;rw [VI m a hal.2] at hDa;rw [VI m b hbl.2] at hDb;have hIn:=λh=>VT k (AN a b) (by simp [AN,Ck,EJ,wfa,wfb]) h;have hpa:∀f∈m.funs,Fv f.body:=λf hf=>by
    simp only [BV,Ap] at s6;have:=CS.1 s6.2 f hf;simp only [K5,Ap] at this;exact (Ti f.body this.2).1
   have hfin:(∀f∈m.funs,f.name≠CB)->BE (Fh t) CB=false->(if (JS (FG m ⟨CB,s,a,b,t⟩)).1=0 then Es 0 else Es 7)=Es (bif Ge m a&&Ge m b&&EH m ⟨CB,s,a,b,t⟩ then 0 else 7):=λh1 h2=>by
    have hng:¬mG t CB:=λh=>by
     have:=Oi.2 ((WA t CB).2 h);rw [h2] at this;cases this
    rw [uZ (g:=⟨CB,s,a,b,t⟩) hW h1 hpa p1 hng];cases (Ge m a&&Ge m b&&EH m ⟨CB,s,a,b,t⟩) <;> rfl
   generalize (if (JS (FG m ⟨CB,s,a,b,t⟩)).1=0 then Es 0 else Es 7)=vo at *;generalize EH m ⟨CB,s,a,b,t⟩=oI at *;generalize Ge m a=oA at *;generalize Ge m b=oB at *;generalize nK t=oS at *;generalize Fh t=fr at *;clear hW hOk hO2 w1 w2 s1 s2 s3 s4 s6 s7 s9 s10 hpa htB p1 p3 p4 hF1 hal hbl wfa wfb hdl;have hown:dMdc (FG m ⟨CB,s,a,b,t⟩)=[.str m.name,.sl (m.datas.map C7),.sl (m.funs.map CG++[CG ⟨CB,s,a,b,t⟩])]:=by simp [dMdc,FG]
   rw [hown] at hKO;clear hown;obtain ⟨m1,m2,m3⟩:=m;obtain ⟨t1,t2,t3,t4,t5⟩:=t;obtain ⟨a1,a2,a3,a4⟩:=a;obtain ⟨b1,b2,b3,b4⟩:=b;obtain ⟨k1,k2,k3,k4⟩:=k;simp only at hKO hfin;have s8:m3.length<5:=s8;have hf1:1<=m3.length:=hf1;refine Ad ttY_ok func8 rfl [1,2,3,4,5,6,7,8,9,10]<|Ai rfl<|Af rfl hsm<|BH rfl<|AI rfl hst<|BH rfl<|AI rfl hsa<|BH rfl<|AI rfl hsb<|BH rfl<|AI rfl hMo<|BH rfl<|AI rfl hNm<|BH rfl<|AI rfl hWa<|BH rfl<|AI rfl hWb<|BH rfl<|Ab rfl (λh=>by exfalso;simp at h;omega) (λh=>?_);clear h;refine As rfl<|Af rfl hTF<|BH rfl<|AI rfl hKM<|BH rfl<|Ag rfl λh=>?_;clear h
   refine As rfl<|Ak (λi:Nat=>[(13,.imm (.int .i64 i)),(12,.imm (.str CB)),(5,.ref 1 0),(6,.ref 2 0),(8,.ref 3 0),(9,.ref 4 0),(11,.ref 5 0),(2,.imm (.str s))]) (λ_=>[(1,some (.immb 43 3 (dMdc ⟨m1,m2,m3⟩))),(2,some (.immb 49 5 (dTmc (.mk t1 t2 t3 t4 t5)))),(3,some (.immb 25 4 (dTyc (.mk a1 a2 a3 a4)))),(4,some (.immb 25 4 (dTyc (.mk b1 b2 b3 b4)))),(5,some (.cells 49 5 [.imm (.int .i64 5),.imm (.int .i64 0),.imm (.str s),.imm (.sl [dTmc (.mk t1 t2 t3 t4 t5)]),.nils]))]) [6,7,8,9,10] (λi=>m3.length-i) (λi=>i<=m3.length/\(∀f∈m3.take i,f.name≠CB)/\(0<i->BE fr CB=false)) 0
    ⟨AJ _,by simp,by simp⟩ OK B6 rfl λi hi ih=>?_
   obtain ⟨hi1,hi2,hi3⟩:=hi;refine As rfl<|Ab rfl (λh=>?_) (λh=>?_)
   ·have hlt:i<m3.length:=by simp at h;omega
    obtain ⟨f,hf⟩:=Ao hlt;have hg:=Lm hf;have hih:=ih (i+1) (by omega);rw [Bp hf] at hih;obtain ⟨f1,f2,⟨c1,c2,c3,c4⟩,⟨d1,d2,d3,d4⟩,⟨z1,z2,z3,z4,z5⟩⟩:=f;generalize BE fr CB=oH at *;refine As rfl<|yi rfl (c:=CG ⟨f1,f2,⟨c1,c2,c3,c4⟩,⟨d1,d2,d3,d4⟩,⟨z1,z2,z3,z4,z5⟩⟩) (λ_=>⟨by simp,by simpa using hg,by simp [CG]⟩) (by simp)<|BH rfl<|AI rfl hFr<|BH rfl<|AI rfl hHas<|BH rfl ?_;by_cases hx:f1≠CB/\oH=false
    ·obtain ⟨hx,rfl⟩:=hx;refine Ab rfl (λh=>by exfalso;simp at h;exact hx h) (λh=>?_);exact As rfl<|Ac (hih ⟨by omega,λg hg=>by
      rcases BN.1 hg with hg | hg
      ·exact hi2 g hg
      ·rw [AP.1 hg];exact hx,λ_=>rfl⟩) ⟨AU,GD⟩ B6 rfl
    ·refine Ab rfl (λh=>?_) (λh=>by exfalso;apply hx;cases oH <;> simp at h ⊢;exact h);exact As rfl<|Af rfl hK<|Ai rfl<|Aa rfl rfl rfl
   ·have hlt:i=m3.length:=by simp at h;omega
    subst hlt;rw [Jw] at hi2;have hv:=hfin hi2 (hi3 (by omega));subst hv;clear ih hfin hi1 hi2 hi3 h;refine Az rfl<|As rfl<|B7 ttY_ok rfl ⟨λc hc=>by obtain ⟨x,_,rfl⟩:=C2.1 hc;simp [CG],by simp [maxLen];omega,by simp;omega,trivial⟩<|Ai rfl<|B7 ttY_ok rfl ⟨by simp [CG],by simp [maxLen];omega,by simp;omega,trivial⟩<|ND 4 rfl (by simp;kernel_rfl)<|BC 8 rfl<|As rfl<|Af rfl hI<|Ai rfl ?_;rcases he with rfl | rfl | rfl
    ·obtain ⟨q1,q2⟩:=h0 rfl;have hIs:=hIn q1;rw [q2] at hIs;clear h0 h7 hIn q1 q2;refine Ag rfl λh=>As rfl<|Af rfl hKO<|Ai rfl<|Ag rfl λh=>As rfl<|Af rfl hFn<|BH rfl<|AI rfl hIs<|BH rfl<|AI rfl hDa<|BH rfl<|AI rfl hDb<|yg [] rfl (by simp [Am];exact ⟨λh1 h2=>⟨h1,h2⟩,by kernel_rfl⟩)<|AI rfl hK<|BH rfl ?_;exact Ah ⟨_,rfl,tV (congrArg _ (by cases oI <;> cases oA <;> cases oB <;> rfl)),trivial⟩
    ·exact Al rfl λh=>As rfl<|Af rfl hK<|Ai rfl<|Aa rfl rfl rfl
    ·have h8:=h7 rfl;clear h0 h7 hIn;refine Ag rfl λh=>As rfl<|Af rfl hKO<|Ai rfl<|Al rfl λh=>Sn rfl<|AI rfl hPo<|yg [] rfl (by simp [Am];cases oA <;> cases oB <;> cases oI <;> simp)<|AI rfl hK<|BH rfl ?_;exact Ah ⟨_,rfl,tV (congrArg _ (by rcases h8 with rfl | rfl;cases oA <;> cases oB <;> rfl;cases oI <;> cases oA <;> cases oB <;> rfl)),trivial⟩
theorem Ext.below {I I':Imm} {μ μ':Mu} {w w':World} {st':St} (h:Ext I μ [] w I' μ' st' w'):Below w.heap.size w w' :=
 ⟨h.os,h.tape,h.output,h.size,λk hk=>h.block k hk (by rintro ⟨id,blk,g,hl,_⟩;cases hl)⟩
theorem rH {enc:TypeId×Value->H} {f:Func} {s:ChangeSpec} {apart fresh handsOn again:Bool} {args:Array Value} {ds gs:List (DataW H)} {before pa pv:List MemPlace} (hW:DataW.Whole enc P f.params.toList s.vars apart W args.toList ds gs before) (hb:Below W.heap.size W W') (hps:before=pa++pv) (hres:∀(b:Nat) (sp:Nat->Bool) (hd:Bool),DataW.TrodAll enc P W' b sp hd f.resultTypes.toList (v.resultList f.resultTypes.size) (s.fn H (ds++gs)).results []) (hargs:∀sp:Nat->Bool,(∀p∈before,sp p.block=true)->DataW.TrodAll enc P W' 0 sp true f.params.toList args.toList (s.fn H (ds++gs)).args pa) (hvars:∀sp:Nat->Bool,(∀p∈before,sp p.block=true)->DataW.TrodVars enc P W' sp s.vars (s.fn H (ds++gs)).vars pv) (hok:∀(j:Nat) (t:TypeId) (r:Value),f.resultTypes[j]?=some t->(v.resultList f.resultTypes.size)[j]?=some r->Value.okWide P W' .any 0 t r) :
  s.post enc P f apart fresh handsOn again W args v W':=by
 have lt:∀p∈before,decide (p.block<W.heap.size)=true:=λp hp=>by simpa using hW.lt p hp
 refine ⟨ds,gs,before,[],pa,pv,hW,hres _ _ _,hargs (λb=>decide (b<W.heap.size)) lt,hvars (λb=>decide (b<W.heap.size)) lt,World.keptBut_mono (λp hp=>⟨hp,.inr ?_⟩) (hb.frame (· ∈ before)),λ_=>⟨hok,?_⟩⟩
 ·rw [hps] at hp;exact BN.1 hp
 ·have hlt:=hW.lt;obtain ⟨_,_,_,_,_,hz,hn⟩:=hW;refine ⟨(s.fn H (ds++gs)).results++(s.fn H (ds++gs)).args,(s.fn H (ds++gs)).vars,pa++pv,⟨pa,pv,?_,hvars _ (λ_ _=>rfl),rfl,λb off hp=>?_,λha=>?_⟩,λp hp _=>by rw [hps];exact hp⟩
  ·have:=trodAll_append (hargs (λ_=>true) λ_ _=>rfl) (hres 0 (λ_=>true) true);simpa using this
  ·have hin:MemPlace.cell b off∈before:=by rw [hps];exact hp
   rw [hb.frozen (hlt _ hin)];exact hz b off hin
  ·rw [<- hps];exact hn ha
def Og (W:World):Imm:=λb=>W.heap[b]?
theorem xC (W:World):(Og W).ok W:=λ_ _ h=>h
def Rds (P:Program) (W:World) (n:Nat) (t:TypeId) (cs:List Value):Prop :=
 ∃(H:Type) (enc:TypeId×Value->H) (x:DataW H×List MemPlace),DataW.trod enc P W 0 (λ_=>true) true n t cs=some x
def RV (W:World) (cs:List Value) (xs:List V):Prop:=RepVL (Og W) cs xs/\∀c∈cs,c.oneCell'=true
theorem RV.app {a b:List Value} {x y:List V} (h:RV W a x) (k:RV W b y):RV W (a++b) (x++y) :=
 ⟨h.1.append k.1,λc hc=>(BN.1 hc).elim (h.2 c) (k.2 c)⟩
theorem RV.one (h:RepV (Og W) v x) (h1:v.oneCell'=true):RV W [v] [x] :=
 ⟨.mk h .nil,λc hc=>by simp at hc;rw [hc];exact h1⟩
theorem RV.agg {cs:Array Value} (h:RV W cs.toList xs):RepV (Og W) (.agg cs) (.agg xs) :=
 .agg _ _ (by simpa using h.1.1) h.2 (λi c x a b=>h.1.2 i c x (by simpa using a) b)
theorem RV.len (h:RV W cs xs):cs.length=xs.length:=h.1.1
section
variable {n:Nat} {t:TypeId}
theorem PS {k:IntKind} {by_:Nat} (htt:TTok P tt) (hl:lk tt t=some ⟨.int k,a,sz,by_,z⟩) (h:Rds P W n t cs):∃m,RV W cs [.int k m]/\(Lit.int k m).wf=true:=by
 obtain ⟨H,enc,x,h⟩:=h;have hu:P.underlying t=some (.int k):=htt.sh hl;cases n with
 | zero=>simp [DataW.trod] at h
 | succ n =>
  unfold DataW.trod at h;rw [hu] at h
  split at h <;> simp_all
  rename_i k' m heq;exact ⟨m,.one (.int _ _) rfl,h.1.2⟩
theorem rds_str {by_:Nat} (htt:TTok P tt) (hl:lk tt t=some ⟨.str,a,sz,by_,z⟩) (h:Rds P W n t cs):∃s,RV W cs [.str s]/\s.length<=maxLen:=by
 obtain ⟨H,enc,x,h⟩:=h;have hu:P.underlying t=some .string:=htt.sh hl;cases n with
 | zero=>simp [DataW.trod] at h
 | succ n =>
  unfold DataW.trod at h;rw [hu] at h
  split at h <;> simp_all
  rename_i s;exact ⟨s.data.toList,.one (.str _ _ rfl) rfl,by have:=h.1;simpa using this⟩
theorem RU {a:Addr} {k:Nat} {cs':List Value} (h:W.cells? 0 a k=some cs') (hk:0<k):a.spot=none/\∀(j:Nat) (v:Value),cs'[j]?=some v->(Og W).cell a.block (a.off+j)=some v:=by
 obtain ⟨_,h2,h3⟩:=World.cells?_some h;have cell:∀(b:Addr) (v:Value),W.cell? b=some v->b.spot=none/\(Og W).cell b.block b.off=some v:=by
  intro b v hb;unfold World.cell? at hb
  split at hb
  ·rename_i c t0 fz hh
   split at hb
   ·cases hb
   ·rename_i hs;refine ⟨by cases h:b.spot with | none=>rfl | some _=>rw [h] at hs;exact absurd rfl hs,?_⟩;unfold Imm.cell Og;rw [hh];exact hb
  ·cases hb
 have hs:a.spot=none:=by
  have hlt:0<cs'.length:=by omega
  have:=h3 0 hk;rw [Br hlt] at this;exact (cell (a.add 0) _ this).1
 refine ⟨hs,λj v hv=>?_⟩;have hj:=(AL.1 hv).1;have:=(cell (a.add j) v (by rw [h3 j (by omega)];exact hv)).2;unfold Addr.add at this;by_cases h0:j=0
 ·subst h0;simpa using this
 ·rw [if_neg h0] at this;exact this
theorem Gu {e:TypeId} {by_:Nat} {i:TyI} {d:α->List V} (htt:TTok P tt) (hl:lk tt t=some ⟨.sl e,a,sz,by_,z⟩) (hi:lk tt e=some i) (hpos:0<i.size) (hd:∀x,(d x).length=i.size) (hel:∀m,m<n->∀cs',Rds P W m e cs'->∃x,RV W cs' (d x)) (h:Rds P W n t cs):∃xs:List α,RV W cs [.sl (xs.map d)]:=by
 obtain ⟨H,enc,x,h⟩:=h;have hu:P.underlying t=some (.slice e):=htt.sh hl;have hce:P.cellsOf e=i.size:=(htt e i hi).cellsOf;rcases DataW.trod_slice hu h with ⟨rfl,_⟩ | ⟨ad,len,cap,elems,rest,m,rfl,rfl,_,_,h1,h2,h3,h4,h5,_⟩
 ·exact ⟨[],.one .slnil rfl⟩
 rw [hce] at h4 h5;have he:∀k,k<len->∃(cs':List Value) (x:α),W.cells? 0 (ad.add (k*i.size)) i.size=some cs'/\RV W cs' (d x):=by
  intro k hk;have:=h4 k hk;rw [Br (by omega)] at this;obtain ⟨cs',q1,q2⟩:=qK.1 this;obtain ⟨x,hx⟩:=hel m (by omega) cs' ⟨H,enc,_,q2⟩;exact ⟨cs',x,q1,hx⟩
 have hch:∃(C:Nat->List Value) (X:Nat->Option α),∀k,k<len->∃x,X k=some x/\W.cells? 0 (ad.add (k*i.size)) i.size=some (C k)/\RV W (C k) (d x):=by
  classical
  refine ⟨λk=>if hk:k<len then (he k hk).choose else [],λk=>if hk:k<len then some ((he k hk).choose_spec.choose) else none,λk hk=>?_⟩;simp only [hk,dif_pos];exact ⟨_,rfl,(he k hk).choose_spec.choose_spec⟩
 obtain ⟨C,X,hCX⟩:=hch;have hlist:∀l,l<=len->∃xs:List α,xs.length=l/\∀k x,xs[k]?=some x->X k=some x:=by
  intro l
  induction l with
  | zero=>exact λ_=>⟨[],rfl,λk x h=>by simp at h⟩
  | succ l ih =>
   intro hl';obtain ⟨xs,q1,q2⟩:=ih (by omega);obtain ⟨x,hx,_⟩:=hCX l (by omega);refine ⟨xs++[x],by simp [q1],λk y hy=>?_⟩;by_cases hk:k<xs.length
   ·rw [Pb hk] at hy;exact q2 k y hy
   ·rw [Pa (by omega)] at hy;have:k-xs.length=0:=by
     have:=(AL.1 hy).1;simp at this;omega
    rw [this] at hy;cases hy;have:k=l:=by omega
    rw [this];exact hx
 obtain ⟨xs,hx1,hx2⟩:=hlist len (BQ _);refine ⟨xs,.one ?_ rfl⟩;by_cases hcap:cap=0
 ·have:len=0:=by omega
  subst this;subst hcap;have:xs=[]:=L7 hx1;subst this;exact .sl0 ad
 have hspot:ad.spot=none:=by
  by_cases hlen:0<len
  ·obtain ⟨x,_,q,_⟩:=hCX 0 hlen;have:=(RU q hpos).1;simpa [Addr.add] using this
  ·have h6:=h5 rfl;have h7:=h6.2 0 (by omega);rw [Br (by omega)] at h7;obtain ⟨cs',q1,q2⟩:=qK.1 h7;have:=(RU q1 hpos).1;have hl0:len=0:=by omega
   subst hl0;simpa [Addr.add] using this
 obtain ⟨b,o,sp⟩:=ad;simp only at hspot;subst hspot;have hget:∀(k:Nat) (e:List V),(xs.map d)[k]?=some e->k<len/\∃x,X k=some x/\e=d x/\W.cells? 0 ⟨b,o+k*i.size,none⟩ i.size=some (C k)/\RV W (C k) (d x):=by
  intro k e hk;rw [Ep,Pe] at hk;obtain ⟨x,q1,q2⟩:=hk;have hlt:=(AL.1 q1).1;obtain ⟨y,r1,r2,r3⟩:=hCX k (by omega);rw [hx2 k x q1] at r1;cases r1;refine ⟨by omega,x,hx2 k x q1,q2.symm,?_,r3⟩;rw [<- r2];congr 1;unfold Addr.add;by_cases h0:k*i.size=0
  ·simp [h0]
  ·simp [h0]
 refine .sl b o len cap i.size _ (λk j=>(C k).getD j undef) (by simp [hx1]) h1 h2 (λe he=>?_) (λk e j x hk hj=>?_) (λk e j x hk hj=>?_)
 ·obtain ⟨x,_,rfl⟩:=C2.1 he;exact hd x
 ·obtain ⟨_,y,_,rfl,q3,q4⟩:=hget k e hk;have hlt:j<(C k).length:=by rw [q4.len];exact (AL.1 hj).1
  have hv:(C k)[j]?=some ((C k)[j]):=Br hlt;have hD:(C k).getD j undef=(C k)[j]:=by simp [List.getD,hv]
  show (Og W).cell b (o+k*i.size+j)=some ((C k).getD j undef)/\((C k).getD j undef).oneCell'=true;rw [hD];exact ⟨(RU q3 hpos).2 j _ hv,q4.2 _ (IP _)⟩
 ·obtain ⟨_,y,_,rfl,q3,q4⟩:=hget k e hk;have hlt:j<(C k).length:=by rw [q4.len];exact (AL.1 hj).1
  have hv:(C k)[j]?=some ((C k)[j]):=Br hlt;have hD:(C k).getD j undef=(C k)[j]:=by simp [List.getD,hv]
  show RepV (Og W) ((C k).getD j undef) x;rw [hD];exact q4.1.2 j _ x hv hj
theorem Gt {fs:List (Nat×TypeId)} {by_:Nat} (htt:TTok P tt) (hl:lk tt t=some ⟨.struct fs,a,sz,by_,z⟩) (h:Rds P W n t cs) :
  cs.length=sz/\∃m,n=m+1/\∀(j off:Nat) (ft:TypeId) (i:TyI),fs[j]?=some (off,ft)->lk tt ft=some i->Rds P W m ft ((cs.drop off).take i.size):=by
 obtain ⟨H,enc,x,h⟩:=h;obtain ⟨fields,hu,hmap,_⟩:∃fields,P.underlying t=some (.struct fields)/\fields.toList.map (λf=>(f.offset,f.type))=fs/\∀f∈fields.toList,0<P.cellsOf f.type:=htt.sh hl;obtain ⟨xs,m,rfl,_,h1,h2,h3⟩:=DataW.trod_struct hu h;refine ⟨by rw [h1];exact (htt t _ hl).cellsOf,m,rfl,λj off ft i hj hi=>?_⟩;rw [<- hmap,Ep,Pe] at hj;obtain ⟨f,q1,q2⟩:=hj;cases q2;have hf:fields[j]?=some f:=by rw [<- QW];exact q1
 have hlt:=(GY.1 hf).1;have:=h3 j f hf;rw [Br (by omega),(htt _ i hi).cellsOf] at this;exact ⟨H,enc,_,this⟩
end
theorem four {l:List α} (h:l.length=4):∃a b c d,l=[a,b,c,d]:=by
 match l,h with
 | [a,b,c,d],_=>exact ⟨a,b,c,d,rfl⟩
theorem five {l:List α} (h:l.length=5):∃a b c d e,l=[a,b,c,d,e]:=by
 match l,h with
 | [a,b,c,d,e],_=>exact ⟨a,b,c,d,e,rfl⟩
theorem RL (l:List Ty):l.map dTyc=AA l:=(Dg l).symm
theorem tO (l:List Tm):l.map dTmc=EQ l:=(Nu l).symm
theorem T7 (tt0 ts tl:TypeId) (hs:lk YC tt0=some ⟨.struct [(0,ts),(1,3),(2,9),(3,tl)],true,4,56,[.imm (.int .i64 0),.imm (.int .i64 0),.imm (.str []),.nils]⟩)
  (h1:lk YC ts=some ⟨.int .i64,false,1,8,[.imm (.int .i64 0)]⟩) (h2:lk YC tl=some ⟨.sl tt0,false,1,24,[.nils]⟩) :
  ∀(n:Nat) (cs:List Value),Rds prog W n tt0 cs->∃t:Ty,RV W cs (dTyc t):=by
 intro n
 induction n using Nat.strongRecOn with
 | ind n ih =>
  intro cs h;obtain ⟨hl,m,rfl,hf⟩:=Gt Be hs h;obtain ⟨a,b,c,d,rfl⟩:=four hl;obtain ⟨s,r1,_⟩:=PS Be h1 (hf 0 0 ts _ rfl h1);obtain ⟨k,r2,_⟩:=PS Be rfl (hf 1 1 3 _ rfl rfl);obtain ⟨x,r3,_⟩:=rds_str Be rfl (hf 2 2 9 _ rfl rfl);obtain ⟨ps,r4⟩:=Gu (d:=dTyc) Be h2 hs (show 0<4 by decide) dTyc_length (λm' hm cs'=>ih m' (by omega) cs') (hf 3 3 tl _ rfl h2);exact ⟨.mk s k x ps,by rw [dTyc,<- RL];exact ((r1.app r2).app r3).app r4⟩
theorem read_type (n:Nat) (cs:List Value) (h:Rds prog W n 25 cs):∃t:Ty,RV W cs (dTyc t):=T7 25 22 23 rfl rfl rfl n cs h
theorem oG (n:Nat) (cs:List Value) (h:Rds prog W n 182 cs):∃t:Ty,RV W cs (dTyc t):=T7 182 180 47 rfl rfl rfl n cs h
theorem read_term:∀(n:Nat) (cs:List Value),Rds prog W n 49 cs->∃t:Tm,RV W cs (dTmc t):=by
 intro n
 induction n using Nat.strongRecOn with
 | ind n ih =>
  intro cs h;obtain ⟨hl,m,rfl,hf⟩:=Gt Be rfl h;obtain ⟨a,b,c,d,e,rfl⟩:=five hl;obtain ⟨s,r1,_⟩:=PS Be rfl (hf 0 0 45 _ rfl rfl);obtain ⟨k,r2,_⟩:=PS Be rfl (hf 1 1 3 _ rfl rfl);obtain ⟨x,r3,_⟩:=rds_str Be rfl (hf 2 2 9 _ rfl rfl);obtain ⟨ks,r4⟩:=Gu (d:=dTmc) Be rfl (e:=49) rfl (by decide) dTmc_length (λm' hm cs'=>ih m' (by omega) cs') (hf 3 3 46 _ rfl rfl);obtain ⟨ps,r5⟩:=Gu (d:=dTyc) Be rfl (e:=182) rfl (by decide) dTyc_length (λm' hm cs'=>oG m' cs') (hf 4 4 47 _ rfl rfl);exact ⟨.mk s k x ks ps,by rw [dTmc,<- RL,<- tO];exact (((r1.app r2).app r3).app r4).app r5⟩
theorem oK (n:Nat) (cs:List Value) (h:Rds prog W n 178 cs):∃c:Cd,RV W cs (Fa c):=by
 obtain ⟨hl,m,rfl,hf⟩:=Gt Be rfl h
 match cs,hl with
 | [a,b],_ =>
 obtain ⟨x,r1,_⟩:=rds_str Be rfl (hf 0 0 9 _ rfl rfl);obtain ⟨ts,r2⟩:=Gu (d:=dTyc) Be rfl (e:=25) rfl (by decide) dTyc_length (λm' hm cs'=>read_type m' cs') (hf 1 1 23 _ rfl rfl);exact ⟨⟨x,ts⟩,by rw [Fa,<- RL];exact r1.app r2⟩
theorem iU (n:Nat) (cs:List Value) (h:Rds prog W n 113 cs):∃c:Dt,RV W cs (C7 c):=by
 obtain ⟨hl,m,rfl,hf⟩:=Gt Be rfl h
 match cs,hl with
 | [a,b],_ =>
 obtain ⟨x,r1,_⟩:=rds_str Be rfl (hf 0 0 9 _ rfl rfl);obtain ⟨ts,r2⟩:=Gu (d:=Fa) Be rfl (e:=178) rfl (by decide) (λ_=>rfl) (λm' hm cs'=>oK m' cs') (hf 1 1 111 _ rfl rfl);exact ⟨⟨x,ts⟩,r1.app r2⟩
theorem oJ (n:Nat) (cs:List Value) (h:Rds prog W n 71 cs):∃c:Fd,RV W cs (CG c):=by
 obtain ⟨hl,m,rfl,hf⟩:=Gt Be rfl h
 match cs,hl with
 | [a0,a1,a2,a3,a4,a5,a6,a7,a8,a9,a10,a11,a12,a13,a14],_ =>
 obtain ⟨x,r1,_⟩:=rds_str Be rfl (hf 0 0 9 _ rfl rfl);obtain ⟨y,r2,_⟩:=rds_str Be rfl (hf 1 1 9 _ rfl rfl);obtain ⟨t1,r3⟩:=read_type _ _ (hf 2 2 25 _ rfl rfl);obtain ⟨t2,r4⟩:=read_type _ _ (hf 3 6 25 _ rfl rfl);obtain ⟨b,r5⟩:=read_term _ _ (hf 4 10 49 _ rfl rfl);exact ⟨⟨x,y,t1,t2,b⟩,(((r1.app r2).app r3).app r4).app r5⟩
theorem read_module (n:Nat) (cs:List Value) (h:Rds prog W n 43 cs):∃c:Md,RV W cs (dMdc c):=by
 obtain ⟨hl,m,rfl,hf⟩:=Gt Be rfl h
 match cs,hl with
 | [a,b,c],_ =>
 obtain ⟨x,r1,_⟩:=rds_str Be rfl (hf 0 0 9 _ rfl rfl);obtain ⟨ds,r2⟩:=Gu (d:=C7) Be rfl (e:=113) rfl (by decide) (λ_=>rfl) (λm' hm cs'=>iU m' cs') (hf 1 1 40 _ rfl rfl);obtain ⟨fs,r3⟩:=Gu (d:=CG) Be rfl (e:=71) rfl (by decide) (λc=>by simp [CG]) (λm' hm cs'=>oJ m' cs') (hf 2 2 41 _ rfl rfl);exact ⟨⟨x,ds,fs⟩,(r1.app r2).app r3⟩
theorem Mx {H:Type} {enc:TypeId×Value->H} {P:Program} (hl:laidOutB P=true) {W W':World} (hb:Below W.heap.size W W') {sp:Nat->Bool} :
  ∀{ts:List TypeId} {vs:List Value} {ds:List (DataW H)} {ps:List MemPlace},ts.all (λt=>P.readableRec t&&decide (t<P.types.size))=true->DataW.TrodAll enc P W 0 (λ_=>true) true ts vs ds ps ->
   (∀p∈ps,p.block<W.heap.size)->(∀p∈ps,sp p.block=true)->DataW.TrodAll enc P W' 0 sp true ts vs ds ps
 | [],[],[],_,_,h,_,_=>h
 | [],[],_::_,_,_,h,_,_=>h.elim
 | [],_::_,_,_,_,h,_,_=>h.elim
 | _::_,[],_,_,_,h,_,_=>h.elim
 | _::_,_::_,[],_,_,h,_,_=>h.elim
 | t::ts,v::vs,d::ds,ps,ht,h,hlt,hs=>by
  obtain ⟨p,q,h1,h2,rfl⟩:=h;rw [Dd,Ap,Ap,decide_eq_true_eq] at ht;refine ⟨p,q,WideElems.Trod_stays hl ht.1.1 ht.1.2 h1 (λx hx=>hb.same (hlt x (Mf _ hx))) (λx hx=>hs x (Mf _ hx)),?_,rfl⟩;exact Mx hl hb ht.2 h2 (λx hx=>hlt x (ZU _ hx)) (λx hx=>hs x (ZU _ hx))
theorem Rds.of {enc:TypeId×Value->H} {t:TypeId} {d:DataW H} {ps:List MemPlace} (h:DataW.Trod enc P W 0 (λ_=>true) true t v d ps):∃n,Rds P W n t v.cells.toList:=by
 obtain ⟨n,hn⟩:=h;exact ⟨n,H,enc,_,hn⟩
section
variable {enc:TypeId×Value->H} {sp:Nat->Bool} {hd:Bool}
theorem trodAll0 {ds:List (DataW H)} {ps:List MemPlace} (h:DataW.TrodAll enc P W 0 sp hd [] vs ds ps):vs=[]/\ds=[]:=by
 cases vs with
 | nil=>cases ds with
  | nil=>exact ⟨rfl,rfl⟩
  | cons=>exact h.elim
 | cons=>cases ds <;> exact h.elim
theorem trodAllS {t:TypeId} {ts:List TypeId} {ds:List (DataW H)} {ps:List MemPlace} (h:DataW.TrodAll enc P W 0 sp hd (t::ts) vs ds ps) :
  ∃v vs' d ds' p q,vs=v::vs'/\ds=d::ds'/\DataW.Trod enc P W 0 sp hd t v d p/\DataW.TrodAll enc P W 0 sp hd ts vs' ds' q:=by
 cases vs with
 | nil=>cases ds <;> exact h.elim
 | cons v vs=>cases ds with
  | nil=>exact h.elim
  | cons d ds =>
   obtain ⟨p,q,h1,h2,_⟩:=h;exact ⟨v,vs,d,ds,p,q,rfl,rfl,h1,h2⟩
end
theorem agg_of {base:Nat} {t:TypeId} {fs:Array Field} (hu:P.underlying t=some (.struct fs)) (h:Value.okWide P W .any base t v):∃cs,v = .agg cs:=by
 unfold Value.okWide at h;rw [hu] at h;obtain ⟨cs,e,_⟩:=h;exact ⟨cs,e⟩
theorem one_of {base:Nat} {t:TypeId} (h:Value.okWide P W .any base t v) (hu:P.underlying t=some .string\/∃e,P.underlying t=some (.slice e)) (hr:RV W v.cells.toList [x]):RepV (Og W) v x:=by
 have hc:v.cells = #[v]:=by
  cases v <;> first
   | rfl
   | (exfalso
      unfold Value.okWide at h;rcases hu with hu | ⟨e,hu⟩ <;> (rw [hu] at h;unfold Cell.okWide Cell.ok at h;rw [hu] at h;exact h))
 rw [hc] at hr;exact hr.1.2 0 v x rfl rfl
theorem SO {P: Program} {f: FuncId} {fn: Func} {c: Code} (hf : P.funcs[f]? = some fn) (hname : (fn.name == "runtime.NumGoroutine") = false) (hb : fn.body = some c) {W: World} {args: Array Value} {vs: List V} {b: Bool} (hv : RepVL (Og W) args.toList vs) (hp : Hh P f vs (.bool b)) :
  Calls P f args W λe W'=>e = .returned (.bool b)/\Below W.heap.size W W':=by
 have h:=hp (Og W) (λ_=>none) W args { imm:=xC W,blk:=λid blk hl=>(by cases hl),apart:=λid blk g b hl=>(by cases hl),inj:=λi j bi bj gi gj b hl=>(by cases hl),nodup:=.nil,idsFree:=λid hi=>(by cases hi) }
  ⟨by simpa using hv.1,λi v d h1 h2=>by
   rw [Ep,Pe] at h2;obtain ⟨x,q1,rfl⟩:=h2;exact .imm _ _ (hv.2 i v x h1 q1)⟩
 rw [B1 hf hname hb] at h;refine Calls.mono h λe w' he=>?_;cases e with
 | returned v =>
  obtain ⟨I',μ',h1,_,_,h4⟩:=he;cases h1 with
  | imm v x hx =>
   cases hx;exact ⟨rfl,h4.below⟩
 | panicked=>exact he.elim
 | outgrown=>exact he.elim
theorem law_done {enc:TypeId×Value->H} {f:FuncId} {fn:Func} {c:Code} {s:ChangeSpec} {apart fresh handsOn again:Bool} {args:Array Value} {ds gs:List (DataW H)} {before:List MemPlace} {tb:TypeId} {vs:List V} (hW : DataW.Whole enc P fn.params.toList s.vars apart W args.toList ds gs before) (hv : s.vars = []) (hf : P.funcs[f]? = some fn) (hname : (fn.name == "runtime.NumGoroutine") = false) (hb : fn.body = some c) (hrt : fn.resultTypes = #[tb]) (hbool : P.underlying tb = some .bool) (hl:laidOutB P=true) (hpar:fn.params.toList.all (λt=>P.readableRec t&&decide (t<P.types.size))=true) (hs:s.fn H ds={ results:=[.lit (.bool true)],args:=ds }) (hx:RepVL (Og W) args.toList vs) (hp:Hh P f vs (.bool true)) :
  Calls P f args W λe W'=>∃v,e = .returned v/\s.post enc P fn apart fresh handsOn again W args v W':=by
 refine (SO hf hname hb hx hp).mono λe W' ⟨he,hg⟩=>?_;subst he;have hW':=hW;obtain ⟨p,q,hA,hV,e1,hfz,hnd⟩:=hW;rw [hv] at hV;have hg0:gs=[]/\q=[]:=by
  cases gs with
  | nil=>exact ⟨rfl,hV⟩
  | cons=>exact hV.elim
 obtain ⟨rfl,rfl⟩:=hg0;rw [JI] at e1;subst e1;have hlt:=hW'.lt;refine ⟨_,rfl,rH (pa:=before) (pv:=[]) hW' hg (by simp) (λb sp hd=>?_) (λsp hsp=>?_) (λsp hsp=>?_) ?_⟩
 ·rw [JI,hs,hrt];exact trodAll_cons_mk (shut_bool hbool _) trodAll_mk0
 ·rw [JI,hs];exact Mx hl hg hpar hA hlt hsp
 ·rw [JI,hs,hv];rfl
 ·exact ok_one hrt rfl (okWide_bool_mk hbool _)
end Go.Hk
namespace Go.Proofs.YtcdpbkolkeeopaaGreat.kindInstances
open Go.ChangeShapes Go.WideShapes Go.RowKit
set_option linter.unusedVariables false
theorem own:ownKnob Tryz.prog.godebug=none:=by kernel_rfl
theorem za4 (os:Os) (started:os.Started) (H:Type) (enc:TypeId×Value->H) :
  ReturnsInHanded {} Tryz.checked os 8 .any (Rows.kindInstancesSpec.pre6 enc Tryz.prog Tryz.f8 Rows.kindInstancesRow.domain false) (Rows.kindInstancesSpec.post enc Tryz.prog Tryz.f8 false true false false):=by
 refine returnsInHanded_of_change (C:=Tryz.checked) own started (by kernel_rfl) Tryz.func8
  (ChangeSpec.witness6 (enc:=enc) (C:=Tryz.checked) false ⟨#[],#[.agg #[.string ⟨#[]⟩,.slice none 0 0,.slice none 0 0],.agg #[.int .i64 0,.int .i64 0,.string ⟨#[]⟩,.slice none 0 0,.slice none 0 0],.string ⟨#[]⟩,.agg #[.int .i64 0,.int .i64 0,.string ⟨#[]⟩,.slice none 0 0],.agg #[.int .i64 0,.int .i64 0,.string ⟨#[]⟩,.slice none 0 0]],[]⟩ 8 (by kernel_rfl) (by kernel_rfl) (by kernel_rfl) (by kernel_rfl)) ?_
 intro W base args ds gs before hval hW hcnd _;obtain ⟨p,q,hA,_⟩:=id hW;obtain ⟨v1,w1,d1,x1,p1,q1,e1,rfl,hd1,hA⟩:=Hk.trodAllS (t:=43) hA;obtain ⟨v2,w2,d2,x2,p2,q2,e2,rfl,hd2,hA⟩:=Hk.trodAllS (t:=49) hA;obtain ⟨v3,w3,d3,x3,p3,q3,e3,rfl,hd3,hA⟩:=Hk.trodAllS (t:=9) hA;obtain ⟨v4,w4,d4,x4,p4,q4,e4,rfl,hd4,hA⟩:=Hk.trodAllS (t:=25) hA;obtain ⟨v5,w5,d5,x5,p5,q5,e5,rfl,hd5,hA⟩:=Hk.trodAllS (t:=25) hA;obtain ⟨rfl,rfl⟩:=Hk.trodAll0 hA;obtain ⟨args⟩:=args;simp only at e1;subst e5;subst e4;subst e3;subst e2;subst e1;obtain ⟨n1,hn1⟩:=Hk.Rds.of hd1;obtain ⟨m1,hm1⟩:=Hk.read_module n1 _ hn1;obtain ⟨c1,rfl⟩:=Hk.agg_of Tryz.underlying43 (hval 0 43 v1 rfl rfl);obtain ⟨n2,hn2⟩:=Hk.Rds.of hd2
 obtain ⟨m2,hm2⟩:=Hk.read_term n2 _ hn2;obtain ⟨c2,rfl⟩:=Hk.agg_of Tryz.underlying49 (hval 1 49 v2 rfl rfl);obtain ⟨n3,hn3⟩:=Hk.Rds.of hd3;obtain ⟨m3,hm3,_⟩:=Hk.rds_str Hk.ttY_ok (t:=9) rfl hn3;have r3:=Hk.one_of (hval 2 9 v3 rfl rfl) (.inl Tryz.underlying9) hm3;obtain ⟨n4,hn4⟩:=Hk.Rds.of hd4;obtain ⟨m4,hm4⟩:=Hk.read_type n4 _ hn4;obtain ⟨c4,rfl⟩:=Hk.agg_of Tryz.underlying25 (hval 3 25 v4 rfl rfl);obtain ⟨n5,hn5⟩:=Hk.Rds.of hd5;obtain ⟨m5,hm5⟩:=Hk.read_type n5 _ hn5;obtain ⟨c5,rfl⟩:=Hk.agg_of Tryz.underlying25 (hval 4 25 v5 rfl rfl)
 exact Hk.law_done hW rfl Tryz.func8 (by decide +kernel) rfl rfl Tryz.underlying4 (by kernel_rfl) (by kernel_rfl) rfl (vs:=[.agg (Hk.dMdc m1),.agg (Hk.dTmc m2),.str m3,.agg (Hk.dTyc m4),.agg (Hk.dTyc m5)]) (.mk (Hk.RV.agg hm1) (.mk (Hk.RV.agg hm2) (.mk r3 (.mk (Hk.RV.agg hm4) (.mk (Hk.RV.agg hm5) .nil))))) (Hk.KindInstances_pure m1 m2 m3 m4 m5)
theorem zc0:laidOutB Tryz.pinned.checked.prog=true:=by kernel_rfl
theorem zcz:mapsRowed Tryz.pinned.checked.prog=true:=by kernel_rfl
theorem zbl:(Rows.kindInstancesRow.inPlace == Tryz.pinned.checked.prog.inPlace 8)=true:=by kernel_rfl
theorem zbk:(Rows.kindInstancesRow.unfollowed == Tryz.pinned.checked.prog.unfollowed 8)=true:=by kernel_rfl
theorem zbj:(Rows.kindInstancesRow.recurses == Tryz.pinned.checked.prog.recurses 8)=true:=by kernel_rfl
theorem zbi:(Rows.kindInstancesRow.named == Tryz.pinned.checked.prog.varsNamed 8)=true:=by kernel_rfl
theorem closed:joinedFacts Tryz.pinned.checked.prog 8 Tryz.f8 Rows.kindInstancesSpec Rows.kindInstancesRow=true:=by
 unfold joinedFacts;simp only [Bool.and_eq_true];exact ⟨⟨⟨⟨⟨⟨⟨⟨⟨⟨⟨⟨⟨⟨⟨⟨⟨⟨⟨⟨⟨⟨⟨⟨⟨⟨⟨⟨⟨⟨⟨by kernel_rfl,zc0⟩,zcz⟩,by kernel_rfl⟩,by kernel_rfl⟩,by kernel_rfl⟩,by kernel_rfl⟩,by kernel_rfl⟩,by kernel_rfl⟩,zbl⟩,zbk⟩,zbj⟩,zbi⟩,by kernel_rfl⟩,by kernel_rfl⟩,by kernel_rfl⟩,by kernel_rfl⟩,by kernel_rfl⟩,by kernel_rfl⟩,by kernel_rfl⟩,by kernel_rfl⟩,by kernel_rfl⟩,by kernel_rfl⟩,by kernel_rfl⟩,by kernel_rfl⟩,by kernel_rfl⟩,by kernel_rfl⟩,by kernel_rfl⟩,by kernel_rfl⟩,by kernel_rfl⟩,by kernel_rfl⟩,by kernel_rfl⟩
theorem over:Rows.kindInstancesRow.holds Tryz.pinned (OpenSpec.ofChange Rows.kindInstancesSpec) :=
 OpenClaim.holds_of_wide 8 Tryz.f8 rfl rfl rfl rfl rfl rfl rfl ⟨rfl,rfl,rfl,rfl,rfl⟩ rfl rfl rfl rfl rfl (by kernel_rfl) Tryz.func8 closed
  (of_decide_eq_true (by kernel_rfl)) (by unfold Func.isWrapper;first | (rw [if_pos (by decide +kernel)];kernel_rfl) | (rw [if_neg (by decide +kernel)];exact ⟨rfl,rfl⟩))
  (λos started H enc _=>za4 os started H enc)
theorem proved:Rows.KindInstancesSaid :=
 over
end Go.Proofs.YtcdpbkolkeeopaaGreat.kindInstances
