/- A part that is lent comes back. -/
import Derived.Test.YtcdpbkolkeeopaaGreatJc
import Derived.Sort.Walk0
set_option linter.all false
set_option maxRecDepth 100000
set_option maxHeartbeats 4000000
namespace Go.Hk
open Go.Proofs.Tryz
open Go.Proofs
variable {w w':World} {I J:U} {b n i sz off j E p:Nat} {st au a8:St} {F ids' aa:L1 Nat} {Q:DQ} {env q:Env} {todo k C:L1 DI} {x x2:Z} {P:Program} {v u:Value} {d:D} {vs cs:L1 Value} {μ ν:Mu} {t:Tm} {a:Act} {r:TT} {ob:L1 Prop} {s:Bool} {o o2 n2:Int} {e:TypeId} {A B:Asn} {ps S:L1 Y} {es:G1} {α:Type} {m:Md} {Γ:Ax} {Pn:V->Prop} {h:Prop} {K:K2} {τ:Y} {ds l:L1 D} {g:Option (Bool×Bool)} {c xs:L1 V} {ks:L1 Tm}
def du:=@Std.le_iff_lt_or_eq
def ziq {a b:Z} (h:¬a<b) (f:a≠b):b<a:=by have q:b<=a:=List.not_lt.1 h;rcases du.1 q with h2|h2;exact h2;exact absurd h2.symm f
def dl:=@beq_self_eq_true
def Sk:∀(l:L1 Z) (s:Z),l.Pairwise (· < ·)->(Rb l s).Pairwise (· < ·)
 |[],s,_=>by simp[Rb]
 |y::r,s,h=>by let⟨D,G⟩:=Vo.1 h;simp only[Rb,_root_.Go.Proofs.bytesLess_eq];by_cases f:y<s;simp only[f,decide_true,ar];refine Vo.2 ⟨λz q=>?_,Sk r s G⟩;rcases(eF r s z).1 q with h|h;rw[h];exact f;exact D z h;simp only[f,decide_false,DN,aw];by_cases C:y=s;subst C;simp only[dl,ar];exact h;have:(y==s)=false:=by{simpa using C};simp only[this,DN,aw];have E:=ziq f C;refine Vo.2 ⟨λz q=>?_,h⟩;rcases Ck.1 q with h3|h3;rw[h3];exact E;exact List.lt_trans E (D z h3)
def Oz (b:L1 Z):∀(l f:L1 Z),f.Pairwise (· < ·)->(Jy b l f).Pairwise (· < ·)
 |[],_,h=>h
 |y::r,f,h=>by simp only[Jy];refine Oz b r _ ?_;split;exact h;exact Sk f y h
def Mi (t:Tm):∀(i:Nat) (ks:L1 Tm) (f:L1 Z),f.Pairwise (· < ·)->(GZ t i ks f).Pairwise (· < ·)
 |_,[],_,h=>by simpa[GZ]using h
 |i,k::r,f,h=>by simp only[GZ];exact Mi t (i+1) r _ (Oz _ _ _ h)
def Z5:∀t:Tm,(Gp t).Pairwise (· < ·)
 |.mk f n x ks ps=>by simp only[Gp];split;simp;exact Mi _ 0 ks [] .nil
def NZ:∀(a b:L1 Z),a.Pairwise (· < ·)->b.Pairwise (· < ·)->(∀x,x∈a↔x∈b)->a=b
 |[],[],_,_,_=>rfl
 |[],y::r,_,_,h=>by have:=(h y).2 (by simp);simp at this
 |x::r,[],_,_,h=>by have:=(h x).1 (by simp);simp at this
 |x::r,y::t,D,E,h=>by let⟨q,G⟩:=Vo.1 D;let⟨C,H⟩:=Vo.1 E;have e:x=y:=by{have L:=(h x).1 (by simp);have N:=(h y).2 (by simp);rcases Ck.1 L with h1|h1;exact h1;rcases Ck.1 N with h2|h2;exact h2.symm;exact absurd (List.lt_trans (C x h1) (q y h2)) (nO _)};subst e;have:r=t:=NZ r t G H λz=>by{constructor;intro f;rcases Ck.1 ((h z).1 (by simp[f]))with h1|h1;subst h1;exact absurd (q z f) (nO _);exact h1;intro f;rcases Ck.1 ((h z).2 (by simp[f]))with h1|h1;subst h1;exact absurd (C z f) (nO _);exact h1};rw[this]
def ZL (l:L1 Z) (h:l.Nodup):(l.mergeSort (λx y=>decide (x<=y))).Pairwise (· < ·):=by have r:(l.mergeSort (λx y=>decide (x<=y))).Pairwise (λa b=>decide (a<=b)=true):=List.pairwise_mergeSort (λa b c f q=>by simp only[al]at *;exact List.le_trans f q) (λa b=>by simp only[Fg,al];exact List.le_total a b) l;have z:(l.mergeSort (λx y=>decide (x<=y))).Nodup:=(List.mergeSort_perm l _).nodup_iff.2 h;refine(r.and z).imp λ{a b} f=>?_;have C:a<=b:=by{simpa using f.1};rcases du.1 C with h4|h4;exact h4;exact absurd h4 f.2
def rK {m:L1 Z} (h:m.Nodup) (x:Z):(TI m x).Nodup:=by unfold TI;split;exact h;rename_i q;have:x∉m:=λr=>q (FR.2 r);refine CV.2 ⟨h,by simp,λa y b f=>?_⟩;simp at f;subst f;exact λe=>this (e▸y)
mutual
def SM:∀(t:Tm) (s m:L1 Z),m.Nodup->(Gd t s m).Nodup
 |.mk f n x ks ps,s,m,h=>by simp only[Gd];split;split;exact h;exact rK h x;exact Qo _ 0 ks s m h
def Qo (t:Tm):∀(i:Nat) (ks:L1 Tm) (s m:L1 Z),m.Nodup->(FG t i ks s m).Nodup
 |_,[],_,_,h=>by simpa[FG]using h
 |i,k::r,s,m,h=>by simp only[FG];exact Qo t (i+1) r s _ (SM k _ m h)
end
def iJ (t:Tm) (h:Nm t):(Gd t [] []).mergeSort (λx y=>decide (x<=y))=Gp t:=NZ _ _ (ZL _ (SM t [] [] .nil)) (Z5 t) λx=>by{rw[List.mem_mergeSort,iK t [] [] x h,UF];simp[Bm]}
mutual
def Oe:∀t:Tm,AV t=true->Nm t
 |.mk y n x ks ps,h=>by
  simp only[AV,Am]at h;simp only[Nm];refine⟨λp q=>?_,Mq ks h.2⟩;have r:ps.all CI=true:=by
   first
    |exact h.1.2
    |exact h.1.1
  have f:=CJ.1 r p q;simp only[CI,Am]at f;exact f.1.2
def Mq:∀f:L1 Tm,Br f=true->P7 f
 |[],_=>trivial
 |t::r,h=>by simp only[Br,Am]at h;exact⟨Oe t h.1,Mq r h.2⟩
end
def vJ (t:Tm):1<=Hn t:=by obtain⟨_,_,_,_,_⟩:=t;simp[Hn]
def aE:∀ks:L1 Tm,ks.length<=Eu ks
 |[]=>by simp[Eu]
 |k::r=>by have:=aE r;have:=vJ k;simp only[Co,Eu];omega
def XV {p:Y} (h:CI p=true):Bn p<=12:=by simp only[CI,Am,al]at h;have:=Ey p 12 h.1.1;omega
def mV {op n:Int} {k:Nat} (h:Bl op n x k p=true) (f:C5 op i=true) (q:i<k):((i:Int)-1).toNat<p:=by simp only[C5,Am,ao,al]at f;obtain⟨rfl,r⟩:=f;simp[Bl]at h;omega
mutual
def Sr:∀t:Tm,AV t=true->Hn t<=1000000->ZF t/\Mk t
 |.mk z n x ks ps,h,C=>by simp only[AV,Am]at h;obtain⟨⟨D,E⟩,G⟩:=h;simp only[Hn]at C;have R:=aE ks;let⟨H,L⟩:=PK ks G (by omega);have get:∀i:Nat,i<ks.length->C5 z i=true->∃p,ps[((i:Int)-1).toNat]?=some p/\Bn p<=12:=λi f q=>by{have r:=mV D q f;exact⟨ps[((i:Int)-1).toNat],by simp[r],XV (CJ.1 E _ (by simp))⟩};refine⟨⟨by omega,λi f _ q=>?_,H⟩,⟨by omega,λi f _ q=>?_,L⟩⟩;let⟨p,y,N⟩:=get i f q;exact⟨p,y,by omega⟩;let⟨p,y,N⟩:=get i f q;have:=XQ p;exact⟨p,y,by simp only[C4,C6];omega⟩
def PK:∀f:L1 Tm,Br f=true->Eu f<=1000000->US f/\TQ f
 |[],_,_=>⟨ab,ab⟩
 |t::r,h,q=>by simp only[Br,Am]at h;simp only[Eu]at q;let⟨y,z⟩:=Sr t h.1 (by omega);let⟨C,D⟩:=PK r h.2 (by omega);exact⟨⟨y,C⟩,⟨z,D⟩⟩
end
mutual
def Xt:∀(t:Tm) (l d:Int),0<=Be t l d->Be t l d+Hn t<=l
 |.mk _ _ _ ks _,l,d,h=>by simp only[Be]at h ⊢;by_cases f:l<1\/d<1;rw[ae f]at h;omega;rw[ac f]at h ⊢;have:=Uj ks (l-1) (d-1) h;simp only[Hn];omega
def Uj:∀(f:L1 Tm) (l d:Int),0<=B7 f l d->B7 f l d+Eu f<=l
 |[],l,_,h=>by simp[B7,Eu]
 |t::r,l,d,h=>by simp only[B7]at h ⊢;by_cases q:0<=l;rw[ae q]at h ⊢;have z:=Uj r (Be t l d) d h;by_cases y:0<=Be t l d;have:=Xt t l d y;simp only[Eu];omega;have:=(J7 r (Be t l d) d (Hz t l d).1).2;omega;rw[ac q]at h;omega
end
def IK (t:Tm) (h:Cs t=true):Nm t/\Mk t/\ZF t/\Hn t<=60:=by simp only[Cs,Am,al]at h;have q:=Xt t 60 14 h.1;have f:Hn t<=60:=by{omega};let⟨a,b⟩:=Sr t h.2 (by omega);exact⟨Oe t h.2,b,a,f⟩
def aD:∀(Γ f:Ax) (x:Z),JP (Γ++f) x=match JP f x with|some t=>some t|none=>JP Γ x
 |[],f,x=>by simp only[HZ,JP];cases JP f x<;>rfl
 |(y,t)::r,f,x=>by simp only[Dj,JP,aD r f x];cases JP f x<;>rfl
def dmE (Γ:Ax):L1 Z:=Γ.map (·.1)
def oH:∀(Γ:Ax) (x:Z),(JP Γ x).isSome=true↔x∈dmE Γ
 |[],x=>by simp[JP,dmE]
 |(y,t)::r,x=>by have f:=oH r x;simp only[dmE]at f;simp only[JP,dmE,C0,Ck];cases h:JP r x with|some u=>rw[h]at f;simp[<- f]|none=>{rw[h]at f;by_cases e:y=x;simp[e];have:¬x∈r.map (·.1):=λq=>by{simpa using f.2 q};rw[ac e];simp[this];exact λh=>e h.symm}
def fO {E:Ax} (h:x∉dmE E):CG m (Γ++E) x=CG m Γ x:=by simp only[CG,aD];cases e:JP E x with|some t=>exact absurd ((oH E x).1 (by rw[e];rfl)) h|none=>{rfl}
def cv:=@beq_eq_false_iff_ne
def Yh {f n:Int} (h:BI (.mk f n x ps)=true) (z:f≠6) (y:f≠2):AS (.mk f n x ps)=[]:=by simp only[BI,Am]at h;have q:=h.1;unfold Fc at q;have:ps=[]:=by{cases ps with|nil=>rfl|cons a r=>{exfalso;have C:((((a::r).length:Nat):Int)==0)=false:=by{simp only[Co,cv,ne_eq];omega};rw[C]at q;simp[z,y]at q}};subst this;simp[AS,y,AI]
def xE {op:Int} (s:op≠4) (t:op≠5) (v:op≠7) (W:op≠15) (b:op≠27) (f:Bc m Γ op x ps K τ S):∃g:L1 Y,K=g.map (λu=>(Γ,u))/\∀(e:Md) (h:Ax),e.datas=m.datas->Bc e h op x ps (g.map λu=>(h,u)) τ S:=by unfold Bc at f ⊢;simp only[ac s,ac t,ac v,ac W,ac b]at f ⊢;by_cases i:op=1\/op=25;simp only[ae i]at f ⊢;exact⟨[],f.1,λ_ _ _=>⟨rfl,f.2⟩⟩;simp only[ac i]at f ⊢;by_cases j:op=2;simp only[ae j]at f ⊢;exact⟨[],f.1,λ_ _ _=>⟨rfl,f.2⟩⟩;simp only[ac j]at f ⊢;by_cases k:op=3\/op=28;simp only[ae k]at f ⊢;exact⟨[],f.1,λ_ _ _=>⟨rfl,f.2⟩⟩;simp only[ac k]at f ⊢;by_cases l:op=6;simp only[ae l]at f ⊢;obtain⟨a,q,r⟩:=f;exact⟨[_,_],q,λ_ _ _=>⟨a,rfl,r⟩⟩;simp only[ac l]at f ⊢;by_cases n:op=8;simp only[ae n]at f ⊢;exact⟨[_,_,_],f.1,λ_ _ _=>⟨rfl,f.2⟩⟩;simp only[ac n]at f ⊢;by_cases o:op=9\/op=10\/op=11;simp only[ae o]at f ⊢;exact⟨[_,_],f.1,λ_ _ _=>⟨rfl,f.2⟩⟩;simp only[ac o]at f ⊢;by_cases p:op=12;simp only[ae p]at f ⊢;exact⟨[_,_],f.1,λ_ _ _=>⟨rfl,f.2⟩⟩;simp only[ac p]at f ⊢;by_cases y:op=13;simp only[ae y]at f ⊢;obtain⟨a,q,r⟩:=f;exact⟨[_,_],q,λ_ _ _=>⟨a,rfl,r⟩⟩;simp only[ac y]at f ⊢;by_cases z:op=14;simp only[ae z]at f ⊢;obtain⟨c,d,q,w,A⟩:=f;exact⟨c.args,w,λe _ B=>⟨c,d,by rw[B];exact q,rfl,A⟩⟩;simp only[ac z]at f ⊢;by_cases C:op=16;simp only[ae C]at f ⊢;obtain⟨a,q,r⟩:=f;exact⟨[_],q,λ_ _ _=>⟨a,rfl,r⟩⟩;simp only[ac C]at f ⊢;by_cases D:op=17;simp only[ae D]at f ⊢;exact⟨[_],f.1,λ_ _ _=>⟨rfl,f.2⟩⟩;simp only[ac D]at f ⊢;by_cases E:op=18;simp only[ae E]at f ⊢;obtain⟨a,q,r⟩:=f;exact⟨[_,_],q,λ_ _ _=>⟨a,rfl,r⟩⟩;simp only[ac E]at f ⊢;by_cases G:op=19;simp only[ae G]at f ⊢;obtain⟨a,q,r⟩:=f;exact⟨[_],q,λ_ _ _=>⟨a,rfl,r⟩⟩;simp only[ac G]at f ⊢;by_cases H:op=20;simp only[ae H]at f ⊢;exact⟨[_],f.1,λ_ _ _=>⟨rfl,f.2⟩⟩;simp only[ac H]at f ⊢;by_cases L:op=21;simp only[ae L]at f ⊢;obtain⟨a,q,r⟩:=f;exact⟨[],q,λ_ _ _=>⟨a,rfl,r⟩⟩;simp only[ac L]at f ⊢;by_cases N:op=22;simp only[ae N]at f ⊢;obtain⟨a,q,r⟩:=f;exact⟨[_,_],q,λ_ _ _=>⟨a,rfl,r⟩⟩;simp only[ac N]at f ⊢;by_cases R:op=23;simp only[ae R]at f ⊢;exact⟨[_],f.1,λ_ _ _=>⟨rfl,f.2⟩⟩;simp only[ac R]at f ⊢;by_cases T:op=24;simp only[ae T]at f ⊢;exact⟨[_],f.1,λ_ _ _=>⟨rfl,f.2⟩⟩;simp only[ac T]at f ⊢;by_cases V:op=26;simp only[ae V]at f ⊢;exact⟨[_],f.1,λ_ _ _=>⟨rfl,f.2⟩⟩;simp only[ac V]at f
def zlm:Bc m Γ 5 x ps K τ S=∃a b,K=[(Γ++[(x,a)],b)]/\τ=Bz a b/\S=[]:=rfl
def zll:Bc m Γ 7 x ps K τ S=∃a,K=[(Γ,a),(Γ++[(x,a)],τ)]/\S=[]:=rfl
def zcu:Bc m Γ 15 x ps K τ S=∃a l,Kf m a Γ ps l/\K=(Γ,a)::l.map (λf=>(f,τ))/\S=[]:=rfl
def zct:Bc m Γ 27 x ps K τ S=(K=[(Γ++[(x,Bz τ Bk)],Bk)]/\S=[]):=rfl
def YY (n:Int) (x:Z) (ks:L1 Tm) (ps:L1 Y) (j:Nat):Cu (.mk 15 n x ks ps) ((j+1:Nat):Int)=match ps[j]? with|some p=>AS p|none=>[]:=by have f:((((j+1:Nat):Int)-1).toNat)=j:=by{omega};have h:C5 15 ((j+1:Nat):Int)=true:=by{simp only[C5,dl,Jj,al];omega};have q:BN 15 ((j+1:Nat):Int)=false:=by{simp[BN]};simp only[Cu,f,h,q,DN,aw,ar];cases ps[j]?<;>rfl
def JB {α:Type} {sz f:Nat} {ys:L1 α}:∀(es:L1 (L1 α)) (k:Nat) (c:L1 α),(∀e∈es,e.length=sz)->es[k]?=some c->f+ys.length<=sz->(es.set k (c.take f++ys++c.drop (f+ys.length))).flatten=es.flatten.take (k*sz+f)++ys++es.flatten.drop (k*sz+f+ys.length)
 |[],_,_,_,h,_=>by simp at h
 |e::r,0,c,q,h,y=>by simp at h;subst h;have z:=q e (by simp);simp only[nN,LO,Nat.zero_mul,BS];rw[List.take_append_of_le_length (by omega),List.drop_append_of_le_length (by omega)];simp
 |e::r,k+1,c,q,h,y=>by have z:=q e (by simp);have C:=JB r k c (λe h=>q e (by simp[h])) (by simpa using h) y;simp only[ZT,LO,C];have D:(k+1)*sz+f=e.length+(k*sz+f):=by{rw[z,JN];omega};rw[D,Yo e.length,List.take_length_add_append,List.drop_length_add_append];simp
def RepVL.splice {ns:L1 Value} {ys:L1 V} (h:RepVL I vs xs) (k:RepVL I ns ys) (off:Nat):RepVL I (vs.take off++ns++vs.drop (off+ns.length)) (xs.take off++ys++xs.drop (off+ys.length)):=by
 have D:∀{a b:L1 Value} {x y:L1 V},RepVL I a x->RepVL I b y->RepVL I (a++b) (x++y):=λ{a b x y} p q=>
  ⟨by simp[p.1,q.1],λi v z f r=>by
   rw[OV]at f r;by_cases C:i<a.length
   ·rw[ae C]at f;rw[ae (by rw[<- p.1];exact C)]at r;exact p.2 i v z f r
   ·rw[ac C]at f;rw[ac (by rw[<- p.1];exact C),<- p.1]at r;exact q.2 _ v z f r⟩
 refine D (D ⟨by simp[h.1],λi v z f r=>?_⟩ k) ⟨by simp[h.1,k.1],λi v z f r=>?_⟩
 ·rw[DO]at f r;by_cases C:i<off
  ·rw[ae C]at f r;exact h.2 i v z f r
  ·rw[ac C]at f;cases f
 ·rw[EU]at f r;rw[k.1]at f;exact h.2 _ v z f r
structure POi where
 id:Nat
 es:List (List V)
 m:Int
 sz:Nat
 g:Option (Bool×Bool)
 ob:List Prop
 t:Nat
 todo:List DI
def zls (r:TT) (n:Nat) (env:Env) (st:St) (todo:L1 DI):Option POi :=
 match B1 todo ([],[])with
 |some (f,o,_)=>match o.op,CF f env o with
  |.indexAddr t x i,some g=>match lk r t,Pm (Ap g) env x,Pm (Ap g) env i with
   |some { sh:=.sl e,.. },some (.own id _,h),some (.imm (.int _ m),o2)=>match lk r e,lk st id,o.dst,Ce n o.dst,B1 todo ([id],[])with
    |some ti,some (some (.row _ sz es)),some q,true,some (_,_,C)=>match Nat.beq sz ti.size with
     |true=>some ⟨id,es,m,sz,g,Lb h o2,q,C⟩
     |false=>none
    |_,_,_,_,_=>none
   |_,_,_=>none
  |_,_=>none
 |none=>none
structure POl where
 id:Nat
 es:List (List V)
 k:Nat
 f:Nat
 sz:Nat
 i:TyI
 g:Option (Bool×Bool)
 ob:List Prop
 t:Nat
 todo:List DI
def zdi (r:TT) (n:Nat) (env:Env) (st:St) (todo:L1 DI):Option POl :=
 match B1 todo ([],[])with
 |some (h,o,_)=>match o.op,CF h env o with
  |.load t x,some g=>match lk r t,Pm (Ap g) env x with
   |some i,some (.elp id k sz f,y)=>match lk st id,o.dst,Ce n o.dst,B1 todo ([id],[])with
    |some (some (.row _ q es)),some z,true,some (_,_,C)=>match Nat.beq sz q with
     |true=>some ⟨id,es,k,f,sz,i,g,y,z,C⟩
     |false=>none
    |_,_,_,_=>none
   |_,_=>none
  |_,_=>none
 |none=>none
structure POs where
 id:Nat
 e:TypeId
 es:List (List V)
 k:Nat
 f:Nat
 sz:Nat
 ys:List V
 n:Nat
 ob:List Prop
 todo:List DI
def sT (r:TT) (env:Env) (st:St) (todo:L1 DI):Option POs :=
 match B1 todo ([],[])with
 |some (_,o,_)=>match o.guard,o.dst,o.op with
  |none,none,.store t p x=>match lk r t,EM env p,EM env x with
   |some i,some (.elp id k sz f),some q=>match lk st id,B1 todo ([id],[id]),elemOf i.size q with
    |some (some (.row e h es)),some (_,_,C),some (y,ob)=>match Nat.beq sz h with
     |true=>some ⟨id,e,es,k,f,sz,y,i.size,ob,C⟩
     |false=>none
    |_,_,_=>none
   |_,_,_=>none
  |_,_,_=>none
 |none=>none
def Lq {f E:L1 Nat×L1 Nat} {all y:L1 Oper} {o D:Oper} (h:B1 todo f=some (all,o,k)) (z:B1 todo E=some (y,D,C)):y=all/\D=o:=by rcases KA h with⟨r,q,rfl,_⟩|⟨r,G,q,rfl,_⟩;simp[B1]at z;exact⟨z.1.symm,z.2.1.symm⟩;simp[B1]at z;exact⟨z.1.symm,z.2.1.symm⟩
def UC {id:Nat} (r:StRep I μ st aa w) (C:Aw st id (.row e sz es)) (y:es≠[]):∃b cap ca,μ id=some (.slice (some ⟨b,0,none⟩) es.length cap)/\w.heap[b]?=some (.cells ca e (0,0))/\es.length<=cap/\cap<=maxLen/\ca.size=cap*sz/\RepVL I (ca.toList.take (es.length*sz)) es.flatten/\(∀c∈es,c.length=sz)/\(∀c∈es,∀x∈c,V.one x=true)/\0<sz:=by let⟨g,D,xs,⟨_,h⟩,f,z,q,E⟩:=r.blk id _ C;rcases h with⟨_,G⟩|⟨b,cap,ca,rfl,_,H,L,N,R,T⟩;exact absurd (Iu G) y;rw[<- T]at f;exact⟨b,cap,ca,D,H,L,N,R,f,z,q,E⟩
def Ft (D:TTok P r) {c:POi} (h:zls r n env st todo=some c) (N:Ap c.g->0<=c.m/\c.m<c.es.length) (R:A8 c.ob) (T:G P n F Q c.todo ((c.t,gD c.g (.elp c.id c.m.toNat c.sz 0))::env) st aa):G P n F Q todo env st aa:=by unfold zls at h;split at h;rename_i all o V h0;split at h;rename_i t x i g y hg;split at h;rename_i e _ _ _ _ id ln o1 kk m o2 ht hx hi;split at h;rename_i ti e' sz es t' u o' C W hl q A B;split at h;rename_i d;cases h;obtain⟨rfl,rfl⟩:=Lq h0 B;have T:G P n F Q C (Ca o'.dst (gD g (.elp id m.toNat sz 0)) env) st aa:=by{rw[q];exact T};refine BQ (fr:=[]) (wr:=[]) (rd:=[id]) B (Ea hg λI μ a8 J a w j E f z=>?_) (by rw[q]at A ⊢;exact A) (λc N=>by rw[y]at N;cases N) T;rw[y]at f;let⟨k,l⟩:=BL R;have K:=E6 hx k z (f x (by simp[Op.operands]));have ri:=(E6 hi l z (f i (by simp[Op.operands]))).immInv.intInv;let⟨S,c1⟩:=N z;simp only at S c1;have p:Aw a8 id (.row e' sz es):=by{unfold Aw;rw[j id (by simp)];exact hl};let⟨b,cap,ca,H,s,hcap,hcm,hcs,hrep,hlen,hone,hp⟩:=UC E p (by rintro rfl;simp at c1;omega);have hs:=CU d;subst hs;have hu:P.underlying t=some (.slice e):=D.sh ht;simp only[execOp,y,ri];generalize hv:a.eval x=v at K;cases K with|own _ _ ad cp hm=>{rw[hm]at H;cases H;have hr:=Rw (w:=w) hu (D e ti W) (b:=b) (off:=0) (len:=es.length) (cap:=cap) (kk:=kk) S (by omega);have L:(do pure (.value (<- Instr.indexAt t (.slice (some ⟨b,0,none⟩) es.length cap) (.int kk m))):Sem Next).run P w=.ok (.value (.pointer (some ⟨b,0+m.toNat*ti.size,none⟩))) w:=AE hr;rw[L,BS];exact⟨I,μ,E,.elp b id _ cap m.toNat ti.size 0 hm,Mu.le_refl μ,Ext.refl _ _ _ _⟩};cases h;cases h;cases h;cases h;cases h
def Ny (htt:TTok P r) {c:POl} {e:L1 V} (h:zdi r n env st todo=some c) (S:Ap c.g->c.es[c.k]?=some e) (hd:PY c.i (Nat.beq c.sz c.i.size) e c.f=some d) (hob:A8 c.ob) (hk:G P n F Q c.todo ((c.t,gD c.g d)::env) st aa):G P n F Q todo env st aa:=by unfold zdi at h;split at h;rename_i all o todo0 h0;split at h;rename_i t x g L hg;split at h;rename_i i id N sz f o1 ht hx;split at h;rename_i e' sz' es t' all' o' C hl z k l;split at h;rename_i hsz;cases h;obtain⟨rfl,rfl⟩:=Lq h0 l;have hk:G P n F Q C (Ca o'.dst (gD g d) env) st aa:=by{rw[z];exact hk};refine BQ (fr:=[]) (wr:=[]) (rd:=[id]) l (Ea hg λI μ a8 ids1 a w hag m D p=>?_) (by rw[z]at k ⊢;exact k) (λc S=>by rw[L]at S;cases S) hk;rw[L]at D;have rx:=E6 hx hob p (D x (by simp[Op.operands]));have s:=S p;simp only at s;have hs:=CU hsz;subst hs;have hl1:Aw a8 id (.row e' sz es):=by{unfold Aw;rw[hag id (by simp)];exact hl};let⟨b,cap,R,A,T,hcap,hcm,hcs,E,H,B,hp⟩:=UC m hl1 (by rintro rfl;simp at s);have he:=H e (AF s);simp only[execOp,L];generalize hv:a.eval x=v at rx;cases rx with|elp _ _ ln cp _ _ _ hm=>{rw[hm]at A;cases A;have q:∀j y,e[j]?=some y->∃u,R[N*sz+j]?=some u/\M I u y/\u.oneCell'=true:=by{intro j y W;have l:=CO H N e j y s W;have hlt:N*sz+j<(R.toList.take (es.length*sz)).length:=by{rw[E.1];exact(A9.1 l).1};have h2:=Bq hlt;have h3:=E.2 _ _ _ h2 l;refine⟨_,?_,h3,h3.one (B e (AF s) y (AF W))⟩;rw[DO]at h2;split at h2;simp;cases h2};let⟨u,q1,q2⟩:=PX (P:=P) (w:=w) (I:=I) (μ:=μ) (htt t i ht) (b:=b) (o:=N*sz) (off:=f) (xs:=e) (vs:=λj=>(R[N*sz+j]?).getD undef) (same:=Nat.beq sz i.size) (λj y W=>by{let⟨u,J,k2,k3⟩:=q j y W;refine⟨?_,by simp[J,k3]⟩;rw[FX T (N*sz+j) u (by simpa using J)];simp[J]}) (λj y W=>by{let⟨u,J,k2,k3⟩:=q j y W;simpa[J]using k2}) (λ_ hs _=>by rw[he];exact CU hs) hd;have K:(do pure (.value (<- Instr.loadAt t (.pointer (some ⟨b,N*sz+f,none⟩)))):Sem Next).run P w=.ok (.value u) w:=AE q1;rw[K];exact⟨I,μ,m,q2,Mu.le_refl μ,Ext.refl _ _ _ _⟩};cases h;cases h;cases h;cases h;cases h
def Ql (htt:TTok P r) {c:POs} {e e':L1 V} (h:sT r env st todo=some c) (R:c.es[c.k]?=some e) (hf:c.f+c.n<=c.sz) (A:e'=e.take c.f++c.ys++e.drop (c.f+c.n)) (B:A8 c.ob) (s:G P n F Q c.todo env ((c.id,some (.row c.e c.sz (c.es.set c.k e')))::st) aa):G P n F Q todo env st aa:=by unfold sT at h;split at h;rename_i all o todo0 h0;split at h;rename_i t p x hgd W l;split at h;rename_i i id z sz f dx ht hp hx;split at h;rename_i u sz' es all' o' C ys ob hl h1 hel;split at h;rename_i hsz;cases h;obtain⟨rfl,rfl⟩:=Lq h0 h1;have hs:=CU hsz;subst hs;simp only at R hf A B s;have s:G P n F Q C (Ca o'.dst .undef env) ([(id,some (.row u sz (es.set z e')))]++st) aa:=by{rw[W];exact s};refine BQ (fr:=[]) (wr:=[(id,some (.row u sz (es.set z e')))]) (rd:=[id]) h1 ?_ (by simp[Ce,W]) (λc R=>by rw[l]at R;cases R) s;intro I μ a8 ids1 a w hag J hon;refine⟨λ_=>?_,λhw=>by rw[AJ hgd]at hw;cases hw⟩;have E:=Bx hon;rw[l]at E;have rp:=E p (by simp[Op.operands]) _ hp;let⟨r1,r2,r3,r4⟩:=VY hel (E x (by simp[Op.operands]) _ hx) B;have K:Aw a8 id (.row u sz es):=by{unfold Aw;rw[hag id (by simp)];exact hl};let⟨b,H,q,S,L,d,hcm,hcs,hrep,N,g,hpos⟩:=UC J K (by rintro rfl;simp at R);have hkl:=(A9.1 R).1;have hfit:z*sz+f+i.size<=es.length*sz:=by{have:(z+1)*sz<=es.length*sz:=Ip _ hkl;rw[JN]at this;omega};have hcapz:es.length*sz<=H*sz:=Ip _ d;generalize hv:a.eval p=v at rp;cases rp with|elp _ _ ln cp _ _ _ hm=>{rw[hm]at S;cases S;have D:(a.eval x).cells.toList.length=i.size:=by{simpa using r2};have hrun:(execOp a.eval o').run P w=.ok .skip (w.setRow b (q.toList.take (z*sz+f)++(a.eval x).cells.toList++q.toList.drop (z*sz+f+(a.eval x).cells.toList.length)).toArray):=by{simp only[execOp,l,hv,aj,H4 (htt t i ht) L r2 r4 (show z*sz+f+(a.eval x).cells.toList.length<=q.size by rw[D];omega),ah,am]};rw[hrun];have hcl:q.toList.length=H*sz:=by{simpa using hcs};have hnew:BlkRep I μ (w.setRow b (q.toList.take (z*sz+f)++(a.eval x).cells.toList++q.toList.drop (z*sz+f+(a.eval x).cells.toList.length)).toArray) (.slice (some ⟨b,0,none⟩) es.length H) (.row u sz (es.set z e')):=by{subst A;have T:ys.length=i.size:=r3;have e1:=JB (ys:=ys) es z e N R (by rw[T];exact hf);rw[T]at e1;have e2:(q.toList.take (z*sz+f)++(a.eval x).cells.toList++q.toList.drop (z*sz+f+(a.eval x).cells.toList.length)).take (es.length*sz)=(q.toList.take (es.length*sz)).take (z*sz+f)++(a.eval x).cells.toList++(q.toList.take (es.length*sz)).drop (z*sz+f+(a.eval x).cells.toList.length):=by{rw[D,Cl,PT,PT,Vg,Vg,Gt,D,Cl];rw[PR (by omega:z*sz+f<=q.toList.length),tS (by omega:z*sz+f<=es.length*sz),PR (by omega:z*sz+f<=es.length*sz)];rw[CA (l:=(a.eval x).cells.toList) (by omega),nM];congr 3;omega};have hR:=RepVL.splice hrep r1 (z*sz+f);rw[D,T]at hR;rw[D]at e2;have Dc:(es.set z (e.take f++ys++e.drop (f+i.size))).length=es.length:=by{simp};refine⟨_,⟨?_,.inr ⟨b,H,_,by rw[Dc],AK _,b8 w b q _ u _ L,by rw[Dc];exact d,hcm,?_,rfl⟩⟩,?_,?_,?_,hpos⟩;simp;omega;simp;omega;rw[Dc,D,Mt,e2];exact e1▸hR;intro c m;rcases OR m with h|h;exact N c h;rw[h];have:=N e (AF R);simp[T];omega;intro c m y hy;rcases OR m with h|h;exact g c h y hy;rw[h]at hy;have h5:=g e (AF R);rcases B2.1 hy with hy|hy;rcases B2.1 hy with hy|hy;exact h5 y (PU hy);let⟨j,hj⟩:=DW.1 hy;have hjl:j<(a.eval x).cells.toList.length:=by{rw[r1.1];exact(A9.1 hj).1};exact(r1.2 j _ y (Bq hjl) hj).oneV (r4 _ (KG _));exact h5 y (Vk hy)};let⟨q1,q2⟩:=J.update (id:=id) (blk:=.row u sz es) (g:=.slice (some ⟨b,0,none⟩) es.length H) (b:=b) K hm rfl (w':=w.setRow b _) (br w b _) rfl rfl rfl (λk s=>az w b k _ s) hnew;exact⟨I,μ,q1,.undef _,Mu.le_refl μ,q2⟩};cases h;cases h;cases h;cases h;cases h
def noMu:Mu:=λ_=>none
def zjg (μ:Mu):noMu.le μ:=λ_ _ h=>by cases h
def Ex (I:U) (w:World) (b off:Nat) (ds:L1 D):Prop :=
 ∃vs t k,w.heap[b]?=some (.cells vs t k)/\∀j d,ds[j]?=some d->∃c,vs[off+j]?=some c/\c.oneCell'=true/\X I noMu c d
structure PRi where
 a:Addr
 len:Nat
 m:Int
 sz:Nat
 g:Option (Bool×Bool)
 ob:List Prop
 t:Nat
 todo:List DI
def zlr (r:TT) (n:Nat) (env:Env) (todo:L1 DI):Option PRi :=
 match B1 todo ([],[])with
 |some (f,o,C)=>match o.op,CF f env o with
  |.indexAddr t x i,some g=>match lk r t,Pm (Ap g) env x,Pm (Ap g) env i with
   |some { sh:=.sl e,.. },some (.raw (.slice (some a) h _),q),some (.imm (.int _ m),o2)=>match lk r e,o.dst,Ce n o.dst with
    |some ti,some y,true=>some ⟨a,h,m,ti.size,g,Lb q o2,y,C⟩
    |_,_,_=>none
   |_,_,_=>none
  |_,_=>none
 |none=>none
structure PRl where
 b:Nat
 off:Nat
 i:TyI
 g:Option (Bool×Bool)
 ob:List Prop
 t:Nat
 todo:List DI
def ZE (r:TT) (n:Nat) (env:Env) (id:Nat) (todo:L1 DI):Option PRl :=
 match B1 todo ([id],[])with
 |some (f,o,C)=>match o.op,CF f env o with
  |.load t x,some g=>match lk r t,Pm (Ap g) env x with
   |some i,some (.raw (.pointer (some ⟨b,off,none⟩)),h)=>match o.dst,Ce n o.dst with
    |some q,true=>some ⟨b,off,i,g,h,q,C⟩
    |_,_=>none
   |_,_=>none
  |_,_=>none
 |none=>none
structure PRs where
 b:Nat
 off:Nat
 ds:List D
 todo:List DI
def sS (r:TT) (env:Env) (id:Nat) (todo:L1 DI):Option PRs :=
 match B1 todo ([id],[id])with
 |some (_,o,C)=>match o.guard,o.dst,o.op with
  |none,none,.store t p x=>match lk r t,EM env p,EM env x with
   |some i,some (.raw (.pointer (some ⟨b,off,none⟩))),some f=>match Nf f with
    |some ds=>match Nat.beq ds.length i.size,FQ ds with
     |true,[]=>some ⟨b,off,ds,C⟩
     |_,_=>none
    |none=>none
   |_,_,_=>none
  |_,_,_=>none
 |none=>none
def X.rawInv (h:X I μ v (.raw u)):v=u:=by cases h;rfl
def Er (D:TTok P r) {c:PRi} (h:zlr r n env todo=some c) (d:c.a.spot=none) (H:Ap c.g->0<=c.m/\c.m<c.len) (L:A8 c.ob) (N:G P n F Q c.todo ((c.t,gD c.g (.raw (.pointer (some ⟨c.a.block,c.a.off+c.m.toNat*c.sz,none⟩))))::env) st aa):G P n F Q todo env st aa:=by unfold zlr at h;split at h;rename_i p o C s;split at h;rename_i t x i g y u;split at h;rename_i e _ _ _ _ ad len cap o1 kk m o2 v A B;split at h;rename_i ti t' R q j;cases h;obtain⟨b,off,k⟩:=ad;simp only at d;subst d;have N:G P n F Q C (Ca o.dst (gD g (.raw (.pointer (some ⟨b,off+m.toNat*ti.size,none⟩)))) env) st aa:=by{rw[q];exact N};refine BQ (fr:=[]) (wr:=[]) (rd:=[]) s (Ea u λI μ a8 l a w _ T f z=>?_) (by rw[q]at j ⊢;exact j) (λc H=>by rw[y]at H;cases H) N;rw[y]at f;let⟨V,W⟩:=BL L;have J:=(E6 A V z (f x (by simp[Op.operands]))).rawInv;have ri:=(E6 B W z (f i (by simp[Op.operands]))).immInv.intInv;let⟨K,S⟩:=H z;have hu:P.underlying t=some (.slice e):=D.sh v;simp only[execOp,y,ri,J];have hr:=Rw (w:=w) hu (D e ti R) (b:=b) (off:=off) (len:=len) (cap:=cap) (kk:=kk) K S;have E:(do pure (.value (<- Instr.indexAt t (.slice (some ⟨b,off,none⟩) len cap) (.int kk m))):Sem Next).run P w=.ok (.value (.pointer (some ⟨b,off+m.toNat*ti.size,none⟩))) w:=AE hr;rw[E];exact⟨I,μ,T,.raw _ O,Mu.le_refl μ,Ext.refl _ _ _ _⟩;cases h;cases h;cases h;cases h
def tT {t:TypeId} {i:TyI} (W:TyOk P t i) (h:Ex I w b off ds) (a:ds.length=i.size) (z:Iv i true ds 0=some d) (μ:Mu):∃v,(Instr.loadAt t (.pointer (some ⟨b,off,none⟩))).run P w=.ok v w/\X I μ v d:=by obtain⟨vs,m,n,C,N⟩:=h;have f:∀(j:Nat),j<ds.length->∃c d,ds[j]?=some d/\vs[off+j]?=some c/\c.oneCell'=true/\X I μ c d:=λj r=>by{let⟨c,E,y,R⟩:=N j _ (Bq r);exact⟨c,_,Bq r,E,y,R.mono (U.le_refl I) (zjg μ)⟩};have T:∀j,j<ds.length->w.cell? ⟨b,off+j,none⟩=some ((vs[off+j]?).getD undef):=λj r=>by{let⟨c,d,_,y,_⟩:=f j r;rw[FX C (off+j) c (by simpa using y)];simp[y]};cases G:i.agg with|true=>simp only[Iv,G]at z;cases z;have D:=Nt W b off (λj=>(vs[off+j]?).getD undef) (w:=w) (λj r=>T j (by omega)) (λe=>by rw[G]at e;cases e);rw[G]at D;simp only[ar]at D;refine⟨_,D,?_⟩;have:=IP (I:=I) (μ:=μ) (vs:=(List.range i.size).map λj=>(vs[off+j]?).getD undef) (ds:=ds) ⟨by simp[a],λj v d H z=>?_⟩ (λc k=>?_);simpa using this;rw[Ct]at H;let⟨c,g,E,y,_,V⟩:=f j (A9.1 z).1;rw[E]at z;cases z;cases r:(List.range i.size)[j]? with|none=>rw[r]at H;cases H|some q=>{rw[r]at H;have:q=j:=by{let⟨o,l⟩:=A9.1 r;simpa using l.symm};subst this;cases H;simpa[y]using V};obtain⟨j,r,rfl⟩:=C7.1 k;let⟨c,g,_,y,R,_⟩:=f j (by rw[a];simpa using r);simpa[y]using R|false=>{simp only[Iv,G]at z;have L:0<ds.length:=by{cases ds with|nil=>simp[OM]at z|cons=>{simp}};have D:=Nt W b off (λj=>(vs[off+j]?).getD undef) (w:=w) (λj r=>T j (by omega)) (λ_=>T 0 L);rw[G]at D;simp only[DN,aw]at D;let⟨c,g,E,y,_,V⟩:=f 0 L;rw[HB,E]at z;cases z;rw[Gs]at y;exact⟨_,D,by simpa[y]using V⟩}
def CR (R:TTok P r) (id:Nat) {c:PRl} (ds:L1 D) (h:ZE r n env id todo=some c) (m:lk st id=some (some (.hp A))) (p:Ap c.g->∀vs I w T,A.P vs I w T->Ex I w c.b c.off ds) (z:ds.length=c.i.size) (s:Iv c.i true ds 0=some d) (V:A8 c.ob) (W:G P n F Q c.todo ((c.t,gD c.g d)::env) st aa):G P n F Q todo env st aa:=by unfold ZE at h;split at h;rename_i u o C B;split at h;rename_i t x g y J;split at h;rename_i i b off o1 K S;split at h;rename_i t' f E;cases h;have W:G P n F Q C (Ca o.dst (gD g d) env) st aa:=by{rw[f];exact W};refine BQ (fr:=[]) (wr:=[]) (rd:=[id]) B (Ea J λI μ a8 k a w e H q L=>?_) (by rw[f]at E ⊢;exact E) (λc l=>by rw[y]at l;cases l) W;rw[y]at q;have rx:=(E6 S V L (q x (by simp[Op.operands]))).rawInv;have j:Aw a8 id (.hp A):=by{unfold Aw;rw[e id (by simp)];exact m};let⟨gg,hg',us,T,e1,e2⟩:=H.blk id _ j;let⟨v,q1,q2⟩:=tT (P:=P) (R t i K) (p L us I w T e2) z s μ;simp only[execOp,y,rx];have N:(do pure (.value (<- Instr.loadAt t (.pointer (some ⟨b,off,none⟩)))):Sem Next).run P w=.ok (.value v) w:=AE q1;rw[N];exact⟨I,μ,H,q2,Mu.le_refl μ,Ext.refl _ _ _ _⟩;cases h;cases h;cases h;cases h
def bB (V:TTok P r) (id:Nat) {y:Nat} {S:Bun} {c:PRl} (ds:L1 D) (h:ZE r n env id todo=some c) (s:lk st id=some (some (.bun y S))) (u:Ap c.g->∀I w b W,S.P I w b W->Ex I w c.b c.off ds) (H:ds.length=c.i.size) (A:Iv c.i true ds 0=some d) (e:A8 c.ob) (j:G P n F Q c.todo ((c.t,gD c.g d)::env) st aa):G P n F Q todo env st aa:=by unfold ZE at h;split at h;rename_i B o C J;split at h;rename_i t x g z K;split at h;rename_i i b off o1 ht hx;split at h;rename_i t' f L;cases h;have j:G P n F Q C (Ca o.dst (gD g d) env) st aa:=by{rw[f];exact j};refine BQ (fr:=[]) (wr:=[]) (rd:=[id]) J (Ea K λI μ a8 m a w k N q R=>?_) (by rw[f]at L ⊢;exact L) (λc p=>by rw[z]at p;cases p) j;rw[z]at q;have rx:=(E6 hx e R (q x (by simp[Op.operands]))).rawInv;have l:Aw a8 id (.bun y S):=by{unfold Aw;rw[k id (by simp)];exact s};let⟨gg,hg',E,W,_,e1,e2⟩:=N.blk id _ l;let⟨v,q1,q2⟩:=tT (P:=P) (V t i ht) (u R I w E W e2) H A μ;simp only[execOp,z,rx];have T:(do pure (.value (<- Instr.loadAt t (.pointer (some ⟨b,off,none⟩)))):Sem Next).run P w=.ok (.value v) w:=AE q1;rw[T];exact⟨I,μ,N,q2,Mu.le_refl μ,Ext.refl _ _ _ _⟩;cases h;cases h;cases h;cases h
def bR (A q:Asn) (b off:Nat) (ds:L1 D):Prop:=∀h I w f,A.P h I w f->b∈f/\∃vs t,w.heap[b]?=some (.cells vs t (0,0))/\off+ds.length<=vs.size /\
 ∀cs,RepL I noMu cs ds->(∀c∈cs,c.oneCell'=true)->q.P h I (w.setRow b (vs.toList.take off++cs++vs.toList.drop (off+ds.length)).toArray) f
def zga (T:TTok P r) (id:Nat) (E:Asn) {c:PRs} (h:sS r env id todo=some c) (hl:lk st id=some (some (.hp A))) (s:bR A E c.b c.off c.ds) (D:G P n F Q c.todo env ((id,some (.hp E))::st) aa):G P n F Q todo env st aa:=by unfold sS at h;split at h;rename_i all o C h1;split at h;rename_i t p x V q y;split at h;rename_i i b off dx ht hp hx;split at h;rename_i ds W;split at h;rename_i d e;cases h;simp only at s D;have D:G P n F Q C (Ca o.dst .undef env) ([(id,some (.hp E))]++st) aa:=by{rw[q];exact D};refine BQ (fr:=[]) (wr:=[(id,some (.hp E))]) (rd:=[id]) h1 ?_ (by simp[Ce,q]) (λc u=>by rw[y]at u;cases u) D;intro I μ a8 v a w g H l;refine⟨λ_=>?_,λB=>by rw[AJ V]at B;cases B⟩;have f:=Bx l;rw[y]at f;have rp:=(f p (by simp[Op.operands]) _ hp).rawInv;let⟨J,K⟩:=J8 W (f x (by simp[Op.operands]) _ hx);have L:Aw a8 id (.hp A):=by{unfold Aw;rw[g id (by simp)];exact hl};let⟨S,m,us,bs,e1,e2⟩:=H.blk id _ L;let⟨k1,vs,bt,k2,k3,k4⟩:=s us I w bs e2;have z:(a.eval x).cells.toList.length=ds.length:=J.1;have hs:=CU d;have N:(execOp a.eval o).run P w=.ok .skip (w.setRow b (vs.toList.take off++(a.eval x).cells.toList++vs.toList.drop (off+(a.eval x).cells.toList.length)).toArray):=by{simp only[execOp,y,rp,aj,H4 (T t i ht) k2 (by rw[<- hs,<- z];simp) K (show off+(a.eval x).cells.toList.length<=vs.size by rw[z];exact k3),ah,am]};rw[N,z];have hR:RepL I noMu (a.eval x).cells.toList ds:=J.sub λj hj=>by{rw[e]at hj;cases hj};have R:BlkRep I μ (w.setRow b (vs.toList.take off++(a.eval x).cells.toList++vs.toList.drop (off+ds.length)).toArray) S (.hp E):=⟨us,bs,e1,k4 _ hR K⟩;let⟨q1,q2⟩:=H.update (id:=id) (blk:=.hp A) (g:=S) (b:=b) L m (by rw[e1];exact BM.2 k1) (w':=w.setRow b _) (br w b _) O O O (λk D=>az w b k _ D) R;exact⟨I,μ,q1,.undef _,Mu.le_refl μ,q2⟩;cases h;cases h;cases h;cases h;cases h
def Sv:L1 (Nat×Value×Blk)->St
 |[]=>[]
 |(i,_,b)::r=>(i,some b)::Sv r
def Sw:L1 (Nat×Value×Blk)->L1 Nat
 |[]=>[]
 |(i,_,_)::r=>i::Sw r
def Fq (new:L1 (Nat×Value×Blk)) (μ:Mu):Mu:=λi=>match lk new i with
 |some p=>some p.1
 |none=>μ i
def tI (R:L1 Nat) (μ:Mu) (st:St) (b:Nat):Prop:=∃r f g,r∈R/\Aw st r f/\μ r=some g/\Ek g b
abbrev R1:=L1 (Nat×Value×Blk)
def mY {new:R1} {b:Blk}:Aw (Sv new++st) i b->(∃g,(i,g,b)∈new/\lk new i=some (g,b))\/(lk new i=none/\Aw st i b):=by induction new with|nil=>intro h;exact .inr ⟨rfl,h⟩|cons p r f=>{obtain⟨k,g,x⟩:=p;intro h;simp only[Sv,Dj]at h;rcases A1.1 h with⟨rfl,rfl⟩|⟨q,y⟩;exact .inl ⟨g,by simp,A7 _ _ _⟩;rw[AB _ _ (λe=>q e.symm)];rcases f y with⟨z,C,D⟩|h;exact .inl ⟨z,by simp[C],D⟩;exact .inr h}
def fA {new:R1}:lk new i=none↔i∉Sw new:=by induction new with|nil=>simp[lk,Sw]|cons p r f=>{obtain⟨k,g,x⟩:=p;by_cases h:k=i;subst h;rw[A7];simp[Sw];rw[AB _ _ h,f];simp[Sw];exact λ_ e=>h e.symm}
def StRep.relay {R:L1 Nat} {new:R1} (z:StRep I μ st (Sw new++ids') w)
  (G:∀p∈new,∀b,Ek p.2.1 b->tI R μ st b) (e:∀p∈new,∀q∈new,∀b,Ek p.2.1 b->Ek q.2.1 b->p.1=q.1)
  (S:I.le J) (hJ:J.ok w) (L:∀b o,J b=some o->I b=some o\/(tI R μ st b/\∀p∈new,¬Ek p.2.1 b))
  (B:μ.le (Fq new μ)->∀p∈new,BlkRep J (Fq new μ) w p.2.1 p.2.2) :
  μ.le (Fq new μ)/\StRep J (Fq new μ) (Sv new++(CC R++st)) ids' w/\Ext I μ st w J (Fq new μ) (Sv new++(CC R++st)) w:=by
 have F:=CV.1 z.nodup;have l:μ.le (Fq new μ):=λi v h=>by
  have:i∉Sw new:=λx=>by rw[z.idsFree i (by simp[x])]at h;cases h
  simp[Fq,fA.2 this,h]
 have y:∀{i b},Aw (Sv new++(CC R++st)) i b->(∃g,(i,g,b)∈new/\Fq new μ i=some g)\/(i∉R/\Aw st i b/\Fq new μ i=μ i):=by
  intro i b h;rcases mY h with⟨g,a,N⟩|⟨a,N⟩
  ·exact .inl ⟨g,a,by simp[Fq,N]⟩
  ·let⟨h3,h4⟩:=Pb N;exact .inr ⟨h3,h4,by simp[Fq,a]⟩
 have m:∀{b},AX μ st b->(∀r∈R,∀blk g,Aw st r blk->μ r=some g->¬Ek g b)->J b=none:=by
  intro b ⟨i,blk,g,a,N,P⟩ hR;have hI0:=(z.apart i blk g b a N P).1;cases E:J b with
  |none=>rfl
  |some o=>
   rcases L b o E with h|⟨⟨r,f,H,T,C,V,k4⟩,_⟩
   ·rw[hI0]at h;cases h
   ·exact absurd k4 (hR r T f H C V)
 have hE:Ext I μ st w J (Fq new μ) (Sv new++(CC R++st)) w :=
  {imm:=S,os:=rfl,tape:=rfl,output:=rfl,size:=BO _,block:=λ_ _ _=>rfl
   fresh:=λb _ ⟨i,blk,g,a,N,P⟩=>by
    rcases y a with⟨H,T,C⟩|⟨_,C,V⟩
    ·rw[C]at N;cases N;let⟨r,f,H,_,n,s,t⟩:=G _ T b P;exact⟨r,f,H,n,s,t⟩
    ·exact⟨i,blk,g,C,by rw[<- V];exact N,P⟩
   old:=λb _ ho=>by
    cases E:J b with
    |none=>
     cases hIb:I b with
     |none=>rfl
     |some o=>rw[S b o hIb]at E;cases E
    |some o=>
     rcases L b o E with h|⟨⟨r,blk,g,_,C,V,k4⟩,_⟩
     ·exact h.symm
     ·exact absurd ⟨r,blk,g,C,V,k4⟩ ho }
 refine⟨l,{ imm:=hJ,blk:=λi b hl=>?_,apart:=λi b g k hl A K=>?_,inj:=λi j bi bj gi gj k x hj W D c d=>?_,nodup:=F.2.1,idsFree:=λi x=>?_ },hE⟩
 ·rcases y hl with⟨g,T,C⟩|⟨_,C,V⟩
  ·exact⟨g,C,B l _ T⟩
  ·let⟨g,a,N⟩:=z.blk i b C;exact⟨g,by rw[V];exact a,N.mono S l⟩
 ·rcases y hl with⟨H,T,C⟩|⟨kR,C,V⟩
  ·rw[C]at A;cases A;let⟨r,f,H,Q,n,s,t⟩:=G _ T k K;let⟨z1,z2⟩:=z.apart r f H k n s t;refine⟨?_,z2⟩;cases E:J k with
   |none=>rfl
   |some o=>
    rcases L k o E with h|⟨_,h⟩
    ·rw[z1]at h;cases h
    ·exact absurd K (h _ T)
  ·rw[V]at A;let⟨z1,z2⟩:=z.apart i b g k C A K;refine⟨m ⟨i,b,g,C,A,K⟩ λr hr f H h1 h2 h3=>?_,z2⟩;exact kR (by rw[z.inj i r b f g H k C h1 A h2 K h3];exact hr)
 ·rcases y x with⟨g1,T,C⟩|⟨kR,C,V⟩
  ·rw[C]at W;cases W;rcases y hj with⟨g2,l1,u⟩|⟨lR,u,l3⟩
   ·rw[u]at D;cases D;exact e _ T _ l1 k c d
   ·rw[l3]at D;let⟨r,f,H,Q,n,s,t⟩:=G _ T k c;exact absurd (by rw[z.inj j r bj f gj H k u n D s d t];exact Q) lR
  ·rw[V]at W;rcases y hj with⟨g2,l1,u⟩|⟨lR,u,l3⟩
   ·rw[u]at D;cases D;let⟨r,f,H,Q,n,s,t⟩:=G _ l1 k d;exact absurd (by rw[z.inj i r bi f gi H k C n W s c t];exact Q) kR
   ·rw[l3]at D;exact z.inj i j bi bj gi gj k C u W D c d
 ·have:i∉Sw new:=λh=>F.2.2 i h i x O;simp only[Fq,fA.2 this];exact z.idsFree i (by simp[x])
def Es (h:∀I μ a w,Conc n I μ env st aa a w->∃J ν q au ids',StRep J ν au ids' w/\(∀t d,lk q t=some d->X J ν (a.tmps.getD t undef) d)/\Ext I μ st w J ν au w/\Pin F μ ν/\DGo P n F Q todo q au ids'):DGo P n F Q todo env st aa:=by intro b cs I μ a w f z r;let⟨J,ν,q,au,ids',C,D,y,E,G⟩:=h I μ a w r;exact(G b cs J ν a w f z { C with size:=r.size,env:=D,defers:=r.defers.ext y }).mono λe L w' H=>H.back E y
def vD (id j:Nat) (B:α->Asn) (C:lk st id=some (some (.hp A))) (G:∀vs I w y,A.P vs I w y->∃x f,(∀b∈f,b∈y)/\(B x).P [] I w f) (h:∀x,DGo P n F Q todo env ((j,some (.hp (B x)))::(id,none)::st) ids'):DGo P n F Q todo env st (j::ids'):=by refine Es λI μ a w z=>?_;obtain⟨g,H,vs,y,rfl,L⟩:=z.blk id _ C;let⟨x,f,N,R⟩:=G vs I w y L;let⟨D,T,V⟩:=StRep.relay (R:=[id]) (new:=[(j,Tz [] f,.hp (B x))]) (ids':=ids') z.toStRep (λp r b E=>by{rw[AL.1 r]at E;exact⟨id,_,_,by simp,C,H,BM.2 (N b (BM.1 E))⟩}) (λp r q W b _ _=>by rw[AL.1 r,AL.1 W]) (U.le_refl I) z.imm (λb o h=>.inl h) (λ_ p r=>by rw[AL.1 r];exact⟨[],f,rfl,R⟩);exact⟨I,_,env,_,ids',T,λt d c=>(z.env t d c).mono (U.le_refl I) D,V,.of_le D,h x⟩
def uZ (id i j:Nat) (B C:α->Asn) (E:lk st id=some (some (.hp A))) (W:∀vs I w z,A.P vs I w z->∃x r y,(∀b∈r,b∈z)/\(∀b∈y,b∈z)/\(∀b∈r,b∉y)/\(B x).P [] I w r/\(C x).P [] I w y) (h:∀x,DGo P n F Q todo env ((i,some (.hp (B x)))::(j,some (.hp (C x)))::(id,none)::st) ids'):DGo P n F Q todo env st (i::j::ids'):=by
 refine Es λI μ a w D=>?_;obtain⟨g,G,vs,z,rfl,c⟩:=D.blk id _ E;let⟨x,r,y,e,k,H,l,m⟩:=W vs I w z c;let⟨L,s,u⟩:=StRep.relay (R:=[id]) (new:=[(i,Tz [] r,.hp (B x)),(j,Tz [] y,.hp (C x))]) (ids':=ids') D.toStRep
  (λp f b N=>by
   simp only[Ck,Ji,cb]at f;rcases f with rfl|rfl
   ·exact⟨id,_,_,by simp,E,G,BM.2 (e b (BM.1 N))⟩
   ·exact⟨id,_,_,by simp,E,G,BM.2 (k b (BM.1 N))⟩)
  (λp f q R b T V=>by
   simp only[Ck,Ji,cb]at f R;rcases f with rfl|rfl<;>rcases R with rfl|rfl<;>first
    |rfl
    |exact absurd (BM.1 V) (H b (BM.1 T))
    |exact absurd (BM.1 T) (H b (BM.1 V))) (U.le_refl I) D.imm (λb o h=>.inl h)
  (λ_ p f=>by
   simp only[Ck,Ji,cb]at f;rcases f with rfl|rfl
   ·exact⟨[],r,rfl,l⟩
   ·exact⟨[],y,rfl,m⟩)
 exact⟨I,_,env,_,ids',s,λt d v=>(D.env t d v).mono (U.le_refl I) L,u,.of_le L,h x⟩
def vC (i j id:Nat) (C:α->Asn) (H:lk st i=some (some (.hp A))) (L:lk st j=some (some (.hp B))) (N:i≠j) (e:∀vs R I w r y,A.P vs I w r->B.P R I w y->(∀b∈r,b∉y)->∃x z,(∀b∈z,b∈r\/b∈y)/\(C x).P [] I w z) (h:∀x,DGo P n F Q todo env ((id,some (.hp (C x)))::(i,none)::(j,none)::st) ids'):DGo P n F Q todo env st (id::ids'):=by
 refine Es λI μ a w f=>?_;obtain⟨K,D,vs,r,rfl,T⟩:=f.blk i _ H;obtain⟨S,E,R,y,rfl,V⟩:=f.blk j _ L;let⟨x,z,g,k⟩:=e vs R I w r y T V λb l m=>N (f.inj i j _ _ _ _ b H L D E (BM.2 l) (BM.2 m));let⟨W,s,u⟩:=StRep.relay (R:=[i,j]) (new:=[(id,Tz [] z,.hp (C x))]) (ids':=ids') f.toStRep
  (λp G b c=>by
   rw[AL.1 G]at c;rcases g b (BM.1 c)with h|h
   ·exact⟨i,_,_,by simp,H,D,BM.2 h⟩
   ·exact⟨j,_,_,by simp,L,E,BM.2 h⟩)
  (λp G q v b _ _=>by rw[AL.1 G,AL.1 v]) (U.le_refl I) f.imm (λb o h=>.inl h)
  (λ_ p G=>by rw[AL.1 G];exact⟨[],z,rfl,k⟩)
 exact⟨I,_,env,_,ids',s,λt d J=>(f.env t d J).mono (U.le_refl I) W,u,.of_le W,h x⟩
mutual
def eR (id:Nat) (vs:L1 Value):D->D
 |.hv i k=>match Nat.beq i id,OM vs k with
  |true,some v=>.raw v
  |_,_=>.hv i k
 |.agg cs=>.agg (Tt id vs cs)
 |.tup cs=>.tup (Tt id vs cs)
 |d=>d
def Tt (id:Nat) (vs:L1 Value):L1 D->L1 D
 |[]=>[]
 |d::r=>eR id vs d::Tt id vs r
end
def xZ (id:Nat) (vs:L1 Value):Env->Env
 |[]=>[]
 |(t,d)::r=>(t,eR id vs d)::xZ id vs r
def zpa (id:Nat) (vs:L1 Value):Blk->Blk
 |.cells t sz cs=>.cells t sz (Tt id vs cs)
 |b=>b
def WS (id:Nat) (vs:L1 Value):St->St
 |[]=>[]
 |(i,some b)::r=>(i,some (zpa id vs b))::WS id vs r
 |(i,none)::r=>(i,none)::WS id vs r
def I6 (id:Nat) (vs:L1 Value):∀l:L1 D,Tt id vs l=l.map (eR id vs)
 |[]=>rfl
 |d::r=>by simp[Tt,I6 id vs r]
def fj:=@Value.tuple.injEq
def X.opn {id:Nat} {n:L1 Nat} (q:μ id=some (Tz vs n)) (h:X I μ v d):X I μ v (eR id vs d):=by have L:∀{l:L1 D} {i:Nat} {x:D},(Tt id vs l)[i]?=some x->∃y,l[i]?=some y/\x=eR id vs y:=by{intro l i x C;rw[I6,Ct]at C;cases E:l[i]? with|none=>rw[E]at C;cases C|some y=>{rw[E]at C;cases C;exact⟨y,rfl,rfl⟩}};induction h with|hv v i k p cs h s H=>simp only[eR];split;rename_i u w V;rw[CU w,q]at h;have g:vs=p/\n=cs:=by{simp only[Tz,Ci,fj,Array.mk.injEq,BP,Value.agg.injEq,be]at h;refine⟨by simpa using h.1,?_⟩;have W:=af Array.toList h.2;simp only[UL]at W;exact(List.map_inj_right (λx y e=>by simpa using e)).1 W};rw[HB,g.1,s]at V;cases V;exact .raw _ H;exact .hv v i k p cs h s H|agg cs ds E H _ j=>refine .agg cs _ (by rw[I6,C6,E]) H λi c x N C=>?_;obtain⟨y,m,rfl⟩:=L C;exact j i c y N m|tup cs ds E _ j=>refine .tup cs _ (by rw[I6,C6,E]) λi c x N C=>?_;obtain⟨y,m,rfl⟩:=L C;exact j i c y N m|undef v=>exact .undef v|imm v x C=>exact .imm v x C|nils=>exact .nils|ref b id off q=>exact .ref b id off q|ip b o t cs off vs G R=>exact .ip b o t cs off vs G R|own i r a z q=>exact .own i r a z q|elp b i r z k sz f q=>exact .elp b i r z k sz f q|mapr i b q=>exact .mapr i b q|iter i b q=>exact .iter i b q|fn f first z A B F N H W _ _=>{exact .fn f first z A B F N H W}|iface t v d h _=>exact .iface t v d h|guard c T v d h V _=>exact .guard c T v d h V|clip a r es J=>exact .clip a r es J|slc b i off r z q E C=>exact .slc b i off r z q E C|yld b i q=>exact .yld b i q|raw v h=>{exact .raw v h}
def tJ {id:Nat} {vs:L1 Value}:∀{env:Env} {t:Nat} {d:D},lk (xZ id vs env) t=some d->∃d0,lk env t=some d0/\d=eR id vs d0
 |[],t,d,h=>by simp[xZ,lk]at h
 |(s,x)::r,t,d,h=>by simp only[xZ]at h;by_cases f:s=t;subst f;rw[A7]at h ⊢;cases h;exact⟨x,rfl,rfl⟩;rw[AB _ _ f]at h ⊢;exact tJ h
def Rg {id:Nat} {vs:L1 Value} {i:Nat} {b:Blk}:∀{st:St},Aw (WS id vs st) i b->∃f,Aw st i f/\b=zpa id vs f
 |[],h=>by simp[WS,Aw,lk]at h
 |(k,some x)::r,h=>by simp only[WS]at h;rcases A1.1 h with⟨q,y⟩|⟨q,y⟩;exact⟨x,by unfold Aw;rw[q,A7],y⟩;let⟨f,z,C⟩:=Rg y;exact⟨f,A1.2 (.inr ⟨q,z⟩),C⟩
 |(k,none)::r,h=>by simp only[WS]at h;let⟨q,y⟩:=B3.1 h;let⟨f,z,C⟩:=Rg y;exact⟨f,B3.2 ⟨q,z⟩,C⟩
def StRep.retell (f:StRep I μ st aa w) (h:∀i b,Aw a8 i b->∃r,Aw st i r/\∀g,BlkRep I μ w g r->BlkRep I μ w g b):StRep I μ a8 aa w/\Ext I μ st w I μ a8 w:=by
 refine⟨{ imm:=f.imm,blk:=λi b C=>?_,apart:=λi b g k C D G=>?_,inj:=λi j E H L N k R T=>?_,nodup:=f.nodup,idsFree:=f.idsFree },?_⟩
 ·let⟨r,y,z⟩:=h i b C;let⟨g,D,V⟩:=f.blk i r y;exact⟨g,D,z g V⟩
 ·let⟨r,y,_⟩:=h i b C;exact f.apart i r g k y D G
 ·let⟨r,y,_⟩:=h i E R;let⟨W,z,_⟩:=h j H T;exact f.inj i j r W L N k y z
 ·exact { imm:=U.le_refl I,os:=rfl,tape:=rfl,output:=rfl,size:=BO _,block:=λ_ _ _=>rfl,old:=λ_ _ _=>rfl
          fresh:=λb _ ⟨i,E,g,y,z⟩=>let⟨r,q,_⟩:=h i E y;⟨i,r,g,q,z⟩ }
def Jo (id j:Nat) (val:α->L1 Value) (B:α->Asn) (c:lk st id=some (some (.hp A))) (s:∀vs I w D,A.P vs I w D->∃x,vs=val x/\(B x).P [] I w D) (h:∀x,DGo P n F Q todo (xZ id (val x) env) ((j,some (.hp (B x)))::(id,none)::WS id (val x) st) ids'):DGo P n F Q todo env st (j::ids'):=by
 refine Es λI μ a w N=>?_;obtain⟨g,T,vs,D,rfl,u⟩:=N.blk id _ c;obtain⟨x,rfl,f⟩:=s vs I w D u;let⟨J,K⟩:=N.toStRep.retell (a8:=WS id (val x) st) (λi b V=>by
  obtain⟨e,R,rfl⟩:=Rg V;refine⟨e,R,λgb E=>?_⟩;cases e with
  |cells t sz cs=>
   obtain⟨S,b,us,e1,e2,l,e4⟩:=E;exact⟨by rw[I6,C6,S],b,us,e1,e2,⟨by rw[I6,C6,l.1],λi v y hv G=>by
    rw[I6,Ct]at G;cases C:cs[i]? with
    |none=>rw[C]at G;cases G
    |some z=>rw[C]at G;cases G;exact(l.2 i v z hv C).opn T⟩,e4⟩
  |_=>exact E)
 have W:Aw (WS id (val x) st) id (.hp A):=by
  have:∀{st:St},Aw st id (.hp A)->Aw (WS id (val x) st) id (.hp A):=by
   intro st
   induction st with
   |nil=>intro h;simp[Aw,lk]at h
   |cons p r m=>
    obtain⟨k,y⟩:=p;intro h;cases y with
    |none=>let⟨H,f⟩:=B3.1 h;exact B3.2 ⟨H,m f⟩
    |some y=>
     rcases A1.1 h with⟨H,f⟩|⟨H,f⟩
     ·exact A1.2 (.inl ⟨H,by rw[<- f];rfl⟩)
     ·exact A1.2 (.inr ⟨H,m f⟩)
  exact this c
 let⟨R,q2,q3⟩:=StRep.relay (R:=[id]) (new:=[(j,Tz [] D,.hp (B x))]) (ids':=ids') J
  (λp L b E=>by
   rw[AL.1 L]at E;exact⟨id,_,_,by simp,W,T,BM.2 (BM.1 E)⟩)
  (λp L q hq b _ _=>by rw[AL.1 L,AL.1 hq]) (U.le_refl I) N.imm (λb o h=>.inl h)
  (λ_ p L=>by rw[AL.1 L];exact⟨[],D,rfl,f⟩)
 refine⟨I,_,xZ id (val x) env,_,ids',q2,λt d hd=>?_,K.trans q3,.of_le R,h x⟩;obtain⟨d0,h0,rfl⟩:=tJ hd;exact((N.env t d0 h0).opn T).mono (U.le_refl I) R
def clD (j:Nat) (vs:L1 Value) (d f:D):Prop:=d=f\/∃k v,d=.raw v/\f=.hv j k/\vs[k]?=some v
def clL (j:Nat) (vs:L1 Value):L1 D->L1 D->Prop
 |[],[]=>True
 |d::r,f::h=>clD j vs d f/\clL j vs r h
 |_,_=>False
def jO {j:Nat} {vs:L1 Value}:∀{ds f:L1 D},clL j vs ds f->ds.length=f.length/\∀(i:Nat) (q:D),f[i]?=some q->∃d,ds[i]?=some d/\clD j vs d q
 |[],[],_=>⟨rfl,λi d h=>by simp at h⟩
 |d::r,q::E,h=>by let⟨z,C⟩:=jO h.2;refine⟨by simp[z],λi x y=>?_⟩;cases i with|zero=>simp at y;subst y;exact⟨d,rfl,h.1⟩|succ i=>{exact C i x (by simpa using y)}
 |[],_::_,h=>h.elim
 |_::_,[],h=>h.elim
def KT (id k j:Nat) (vs:L1 Value) {t:TypeId} (r:L1 D) (N:lk st id=some (some (.hp B))) (H:lk st k=some (some (.cells t sz ds))) (hA:∀C I w f,B.P C I w f->A.P vs I w f) (R:clL j vs ds r) (h:DGo P n F Q todo env ((k,some (.cells t sz r))::(j,some (.hp A))::(id,none)::st) ids'):DGo P n F Q todo env st (j::ids'):=by
 refine Es λI μ a w z=>?_;obtain⟨g,hg,C,f,rfl,hP⟩:=z.blk id _ N;obtain⟨gk,E,s,b,xs,rfl,T,x,J⟩:=z.blk k _ H;have V:j≠k:=λe=>by rw[<- e,z.idsFree j (by simp)]at E;cases E
 have W:id≠k:=λe=>by subst e;rw[N]at H;cases H
 let⟨K,q2,q3⟩:=StRep.relay (R:=[id]) (new:=[(j,Tz vs f,.hp A)]) (ids':=ids') z.toStRep
  (λp G b L=>by
   rw[AL.1 G]at L;exact⟨id,_,_,by simp,N,hg,BM.2 (BM.1 L)⟩)
  (λp G q hq b _ _=>by rw[AL.1 G,AL.1 hq]) (U.le_refl I) z.imm (λb o h=>.inl h)
  (λ_ p G=>by rw[AL.1 G];exact⟨vs,f,rfl,hA C I w f hP⟩)
 have c:Aw ((j,some (.hp A))::(id,none)::st) k (.cells t sz ds):=A1.2 (.inr ⟨V.symm,B3.2 ⟨W.symm,H⟩⟩);have l:Fq [(j,Tz vs f,.hp A)] μ j=some (Tz vs f):=by simp[Fq,lk]
 let⟨S,c2⟩:=jO R;let⟨p1,p2⟩:=q2.retell (a8:=(k,some (.cells t sz r))::(j,some (.hp A))::(id,none)::st) (λi bb m=>by
  rcases A1.1 m with⟨rfl,rfl⟩|⟨_,h2⟩
  ·refine⟨_,c,λgb L=>?_⟩;obtain⟨s,b,C,e1,e2,e3,e4⟩:=L;refine⟨by rw[<- S,s],b,C,e1,e2,⟨by rw[<- S,e3.1],λi v y hv hy=>?_⟩,e4⟩;let⟨d,y1,y2⟩:=c2 i y hy;have hr:=e3.2 i v d hv y1;rcases y2 with rfl|⟨kk,u,rfl,rfl,hu⟩
   ·exact hr
   ·have:=hr.rawInv;subst this;exact .hv _ j kk vs f l hu (e4 _ (AF hv))
  ·exact⟨_,h2,λ_ h=>h⟩)
 exact⟨I,_,env,_,ids',p1,λt d hd=>(z.env t d hd).mono (U.le_refl I) K,q3.trans p2,.of_le K,h⟩
def U.plus (I:U) (f:L1 Nat) (w:World):U:=λb=>if Gg f b=true then w.heap[b]? else I b
def Q3 (id k:Nat) {t:TypeId} (xs:L1 V) (G:lk st id=some (some (.hp A))) (H:lk st k=some (some (.cells t sz ds))) (hA:∀vs I J w f,A.P vs I w f->I.le J->(∀b∈f,J b=w.heap[b]?)->∀(cs:L1 Value),RepL J noMu cs ds->RepVL J cs xs) (L:FQ ds=[]) (h:DGo P n F Q todo env ((k,some (.immb t sz xs))::(id,none)::st) aa):DGo P n F Q todo env st aa:=by
 refine Es λI μ a w z=>?_;obtain⟨g,B,vs,f,rfl,hP⟩:=z.blk id _ G;obtain⟨gk,hgk,hs,b,us,rfl,N,K,S⟩:=z.blk k _ H;have R:id≠k:=λe=>by subst e;rw[G]at H;cases H
 have T:∀b∈f,I b=none/\b<w.heap.size:=λb C=>z.apart id _ _ b G B (BM.2 C);have q:I.le (I.plus f w):=λb o h=>by
  have:Gg f b=false:=by
   cases W:Gg f b with
   |false=>rfl
   |true=>rw[(T b (Cp.1 W)).1]at h;cases h
  simp[U.plus,this,h]
 have c:∀b∈f,I.plus f w b=w.heap[b]?:=λb C=>by simp[U.plus,Cp.2 C]
 let⟨q1,q2,q3⟩:=StRep.relay (R:=[id]) (new:=[]) (ids':=aa) (J:=I.plus f w) z.toStRep (λp r=>by cases r) (λp r=>by cases r) q
  (λb o h=>by
   unfold U.plus at h
   split at h
   ·exact h
   ·exact z.imm b o h)
  (λb o h=>by
   unfold U.plus at h
   split at h
   ·rename_i W;exact .inr ⟨⟨id,_,_,by simp,G,B,BM.2 (Cp.1 W)⟩,λp r=>by cases r⟩
   ·exact .inl h)
  (λ_ p r=>by cases r)
 have l:Aw ((id,none)::st) k (.cells t sz ds):=B3.2 ⟨R.symm,H⟩;let⟨p1,p2⟩:=q2.retell (a8:=(k,some (.immb t sz xs))::(id,none)::st) (λi bb m=>by
  rcases A1.1 m with⟨rfl,rfl⟩|⟨_,h2⟩
  ·refine⟨_,l,λgb C=>?_⟩;obtain⟨s,E,y,e1,e2,u,e4⟩:=C;have v:Fq ([]:R1) μ=μ:=by funext i;simp[Fq,lk]
   rw[v]at u;have x:RepL (I.plus f w) noMu y.toList ds:=u.sub λj hj=>by rw[L]at hj;cases hj
   have D:=hA vs I (I.plus f w) w f hP q c y.toList x;exact⟨by rw[<- D.1,u.1,s],E,y,e1,e2,D,e4⟩
  ·exact⟨_,h2,λ_ h=>h⟩)
 exact⟨_,_,env,_,aa,p1,λt d hd=>(z.env t d hd).mono q q1,q3.trans p2,.of_le q1,h⟩
def zla (e:TypeId) (sz:Nat) (es:L1 (L1 V)) (v:Value):Asn where
 P:=λ_ I w bs=>(v=.slice none 0 0/\es=[]/\bs=[])\/∃b cap ca,v=.slice (some ⟨b,0,none⟩) es.length cap/\bs=[b]/\w.heap[b]?=some (.cells ca e (0,0))/\es.length<=cap/\cap<=maxLen /\
  ca.size=cap*sz/\RepVL I (ca.toList.take (es.length*sz)) es.flatten/\(∀c∈es,c.length=sz)/\(∀c∈es,∀x∈c,V.one x=true)/\0<sz
 mono:=λh hp=>by
  rcases hp with hp|⟨b,cap,ca,h1,h2,h3,h4,h5,h6,h7,h8⟩
  ·exact .inl hp
  ·exact .inr ⟨b,cap,ca,h1,h2,h3,h4,h5,h6,h7.mono h,h8⟩
 loc:=λh hp=>by
  rcases hp with hp|⟨b,cap,ca,h1,h2,h3,h4⟩
  ·exact .inl hp
  ·exact .inr ⟨b,cap,ca,h1,h2,(h b (by simp[h2])).trans h3,h4⟩
structure PA0 where
 dx:D
 dst:Option Nat
 todo:List DI
def zlz (r:TT) (n:Nat) (env:Env) (todo:L1 DI):Option PA0 :=
 match B1 todo ([],[])with
 |some (_,o,C)=>match o.guard,o.op with
  |none,.call { callee:=.builtin .append,args:=⟨[x,y]⟩,argTypes:=⟨[t,f]⟩ }=>match Nat.beq t f,lk r t,EM env x,EM env y with
   |true,some { sh:=.sl e,.. },some (.clip es),some (.imm (.sl []))=>match lk r e,Ce n o.dst with
    |some _,true=>some ⟨.clip es,o.dst,C⟩
    |_,_=>none
   |true,some { sh:=.sl e,.. },some (.imm (.sl es)),some (.imm (.sl []))=>match lk r e,Ce n o.dst with
    |some _,true=>some ⟨.imm (.sl es),o.dst,C⟩
    |_,_=>none
   |_,_,_,_=>none
  |_,_=>none
 |none=>none
structure PEn where
 es:List (List V)
 eq:Bool
 dst:Option Nat
 todo:List DI
def zo8 (r:TT) (n:Nat) (env:Env) (todo:L1 DI):Option PEn :=
 match B1 todo ([],[])with
 |some (_,o,C)=>match o.guard,o.op with
  |none,.binOp .eql t x y _=>match lk r t,EM env x,EM env y,Ce n o.dst with
   |some { sh:=.sl _,.. },some (.imm (.sl es)),some .nils,true=>some ⟨es,true,o.dst,C⟩
   |_,_,_,_=>none
  |none,.binOp .neq t x y _=>match lk r t,EM env x,EM env y,Ce n o.dst with
   |some { sh:=.sl _,.. },some (.imm (.sl es)),some .nils,true=>some ⟨es,false,o.dst,C⟩
   |_,_,_,_=>none
  |_,_=>none
 |none=>none
def zlf (x:V):Asn where
 P:=λvs I _ bs=>bs=[]/\∃v,vs=[v]/\M I v x/\v.oneCell'=true
 mono:=λh ⟨h1,v,h2,h3,h4⟩=>⟨h1,v,h2,h3.mono h,h4⟩
 loc:=λ_ h=>h
def zk9 (e:TypeId) (sz:Nat) (es:L1 (L1 V)):Asn where
 P:=λvs I w bs=>∃v,vs=[v]/\(zla e sz es v).P [] I w bs
 mono:=λh ⟨v,h1,h2⟩=>⟨v,h1,(zla e sz es v).mono h h2⟩
 loc:=λh ⟨v,h1,h2⟩=>⟨v,h1,(zla e sz es v).loc h h2⟩
def zT (I:U) (j:Nat) (vs:L1 Value) (c:Value) (d:D):Prop:=match d with
 |.hv i k=>i=j/\vs[k]?=some c
 |d=>X I noMu c d
def Gw (A B:Asn) (y:Asn) (j b off:Nat) (ds:L1 D):Prop:=∀z vs I w h q,A.P z I w h->B.P vs I w q->(∀b∈h,b∉q)->b∈h/\∃f t,w.heap[b]?=some (.cells f t (0,0))/\off+ds.length<=f.size /\
 ∀cs:L1 Value,cs.length=ds.length->(∀(i:Nat) (c:Value) (d:D),cs[i]?=some c->ds[i]?=some d->zT I j vs c d)->(∀c∈cs,c.oneCell'=true) ->
  ∃r,(∀b∈r,b∈h\/b∈q)/\y.P [] I (w.setRow b (f.toList.take off++cs++f.toList.drop (off+ds.length)).toArray) r
def Yd (j:Nat):L1 D->Bool
 |[]=>true
 |.hv i _::r=>Nat.beq i j&&Yd j r
 |d::r=>(match Hb d with|[]=>true|_=>false)&&Yd j r
structure PRj where
 b:Nat
 off:Nat
 ds:List D
 todo:List DI
def eI (r:TT) (env:Env) (id j id':Nat) (todo:L1 DI):Option PRj :=
 match B1 todo ([id,j],[id',id,j])with
 |some (_,o,C)=>match o.guard,o.dst,o.op with
  |none,none,.store t p x=>match lk r t,EM env p,EM env x with
   |some i,some (.raw (.pointer (some ⟨b,off,none⟩))),some f=>match Nf f with
    |some ds=>match Nat.beq ds.length i.size,Yd j ds with
     |true,true=>some ⟨b,off,ds,C⟩
     |_,_=>none
    |none=>none
   |_,_,_=>none
  |_,_,_=>none
 |none=>none
def Pw (h:M I v (.sl es)):∃ad len cap,v=.slice ad len cap/\len<=cap/\len=es.length:=by cases h with|slnil=>exact⟨_,_,_,rfl,BO _,rfl⟩|sl0 ad=>exact⟨_,_,_,rfl,BO _,rfl⟩|sl b o len cap sz _ vs f q=>{exact⟨_,_,_,rfl,q,f⟩}
def N5 (H:TTok P r) {c:PA0} (h:zlz r n env todo=some c) (i:G P n F Q c.todo (Ca c.dst c.dx env) st aa):G P n F Q todo env st aa:=by have N:∀{C:L1 DI} {o:Oper} {L:L1 Oper} {x y:Operand} {t e:TypeId} {j:D} {es:G1} {ti:TyI},B1 todo ([],[])=some (L,o,C)->o.guard=none->o.op=.call { callee:=.builtin .append,args:=⟨[x,y]⟩,argTypes:=⟨[t,t]⟩ }->P.underlying t=some (.slice e)->lk r e=some ti->EM env x=some j->EM env y=some (.imm (.sl []))->(∀I μ v,X I μ v j->M I v (.sl es))->Ce n o.dst=true->G P n F Q C (Ca o.dst j env) st aa->G P n F Q todo env st aa:=by{intro C o L x y t e j es ti k l f hu R T W b d i;refine BQ (fr:=[]) (wr:=[]) (rd:=[]) k ?_ d (λc A=>by rw[f]at A;cases A) i;intro I μ a8 B a w hag m p;refine⟨λ_=>?_,λJ=>by rw[AJ l]at J;cases J⟩;have q:=Bx p;rw[f]at q;have K:=q x (by simp[Op.operands,Call.operands]) _ T;have ry:=(q y (by simp[Op.operands,Call.operands]) _ W).immInv;let⟨ad,len,cap,e1,e2,_⟩:=Pw (b _ _ _ K);let⟨s,ly,S,e3,e4,e5⟩:=Pw ry;obtain⟨inf,z,z1,z2,z3,z4,z5,z6⟩:=(H e ti R).info;simp only[Cb]at e5;subst e5;have hr:(Builtin.append_ #[t,t] o.type #[a.eval x,a.eval y]).run P w=.ok (a.eval x) w:=by{rw[e1,e3];cases ad<;>cases s<;>simp[Builtin.append_,ak hu,sizeOf,typeInfo,z1,Builtin.lenOf,e2,Builtin.firstCells,loadCells,loadCellsFrom,storeCells]};have g:(execOp a.eval o).run P w=.ok (.value (a.eval x)) w:=by{simp only[execOp,f,resolve,invoke,builtin,aj,am,ah,PS,C0,Jk,hr]};rw[g];exact⟨I,μ,m,K,Mu.le_refl μ,Ext.refl _ _ _ _⟩};unfold zlz at h;split at h;{rename_i L o C k;split at h;{rename_i x y t t' l f;split at h;{rename_i e _ _ _ _ es E u T W;have:=CU E;subst this;split at h;{rename_i ti R b;cases h;exact N k l f (H.sh u) R T W (λI μ v h=>by cases h;assumption) b i};cases h};rename_i e _ _ _ _ es E u T W;have:=CU E;subst this;split at h;rename_i ti R b;cases h;exact N k l f (H.sh u) R T W (λI μ v h=>h.immInv) b i;cases h;cases h};cases h};cases h
def zg2 {all rest:L1 Oper} {o:Oper} (f:α->D) (q:α->Prop) (E:∀c,o.op≠.defer c) (T:o.guard=none) (V:∀t,o.dst=some t->t<n) (W:∀I μ a w,StRep I μ st aa w->EN I μ env a o.op->∃x v,q x/\(execOp a.eval o).run P w=.ok (.value v) w/\X I μ v (f x)) (h:∀x,q x->DGo P n F Q (.ops all rest::k) (Ca o.dst (f x) env) st aa):DGo P n F Q (.ops all (o::rest)::k) env st aa:=by intro b cs I μ a w G e r;obtain⟨j,g,rfl,i,l⟩:=JX e;let⟨m,H⟩:=EW i;have L:LR (o.looksAt all.toArray) I μ env a:=λt _ d N=>r.env t d N;let⟨x,v,p,y,s⟩:=W I μ a w r.toStRep (Bx L);let⟨u,A,R⟩:=HN (n:=n) (w:=w) (dst:=o.dst) (λt d N=>r.env t d N) r.size V s;have:=h x p b cs I μ (a.put o.dst v) w (.inRegion all.toArray (List.range' (j+1) rest.length)::g) ⟨⟨rfl,j+1,H,rfl⟩,l⟩ {r.toStRep with size:=A,env:=by cases z:o.dst<;>simpa[Ca,z]using u,defers:=by rw[R];exact r.defers };rw[R]at this;have C:(o::rest).length=rest.length+1:=rfl;rw[C,Ms];refine Gq m (AJ T) E ?_;unfold RU;rw[y];exact this
def Xf (m:Nat) {t:TypeId} (f:P.underlying t=some (.slice e)) (ad:Option Addr) (len cap:Nat):(Op.equalIn (m+1) t (.slice ad len cap) (.slice none 0 0)).run P w=.ok ad.isNone w:=by cases ad<;>simp[Op.equalIn,ak f]
def SP {t:TypeId} (f:P.underlying t=some (.slice e)) (ad:Option Addr) (len cap:Nat):(Op.equal t (.slice ad len cap) (.slice none 0 0)).run P w=.ok ad.isNone w:=Xf 9999 f ad len cap
def Ov {t:TypeId} (f:P.underlying t=some (.slice e)) (x y:Operand) (ad:Option Addr) (len cap:Nat):(do eqGuard .eql t x y (.slice ad len cap) (.slice none 0 0);binOp .eql t (.slice ad len cap) (.slice none 0 0):Sem Value).run P w=.ok (.bool ad.isNone) w/\(do eqGuard .neq t x y (.slice ad len cap) (.slice none 0 0);binOp .neq t (.slice ad len cap) (.slice none 0 0):Sem Value).run P w=.ok (.bool (!ad.isNone)) w:=by constructor;simp only[aj,E1 .eql t x y (.slice ad len cap) (.slice none 0 0) (by simp) (by simp),ah,binOp,SP f,am];simp only[aj,E1 .neq t x y (.slice ad len cap) (.slice none 0 0) (by simp) (by simp),ah,binOp,SP f,am]
def GP (L:TTok P r) {all rest:L1 Oper} {o:Oper} {c:PEn} (h:zo8 r n env (.ops all (o::rest)::k)=some c) (m:∀b:Bool,(c.es≠[]->b = !c.eq)->DGo P n F Q c.todo (Ca c.dst (.imm (.bool b)) env) st aa):DGo P n F Q (.ops all (o::rest)::k) env st aa:=by unfold zo8 at h;simp only[B1]at h;have D:∀{I:U} {v:Value} {es:G1},M I v (.sl es)->∃ad z C,v=.slice ad z C/\(es≠[]->ad.isNone=false):=by{intro I v es h;cases h with|slnil=>exact⟨_,_,_,rfl,λh=>absurd rfl h⟩|sl0 ad=>exact⟨_,_,_,rfl,λ_=>rfl⟩|sl b o z C sz _ vs s H=>{exact⟨_,_,_,rfl,λ_=>rfl⟩}};split at h;rename_i t x y p N q;split at h;rename_i e _ _ _ _ es E R T G;cases h;have W:∀t,o.dst=some t->t<n:=λt E=>by{unfold Ce at G;rw[E]at G;simpa[JO]using G};refine zg2 (λb=>.imm (.bool b)) (λb=>es≠[]->b=false) (λc H=>by rw[q]at H;cases H) N W (λI μ a w d f=>?_) λb g=>m b g;rw[q]at f;let⟨ad,z,C,i,j⟩:=D (f x (by simp[Op.operands]) _ R).immInv;have l:a.eval y=.slice none 0 0:=by{have:=f y (by simp[Op.operands]) _ T;generalize a.eval y=v at this;cases this;rfl};refine⟨ad.isNone,.bool ad.isNone,j,?_,.imm _ _ (.bool _)⟩;simp only[execOp,q,i,l];exact AE (Ov (L.sh E) x y ad z C).1;cases h;rename_i t x y p N q;split at h;rename_i e _ _ _ _ es E R T G;cases h;have W:∀t,o.dst=some t->t<n:=λt E=>by{unfold Ce at G;rw[E]at G;simpa[JO]using G};refine zg2 (λb=>.imm (.bool b)) (λb=>es≠[]->b=true) (λc H=>by rw[q]at H;cases H) N W (λI μ a w d f=>?_) λb g=>m b g;rw[q]at f;let⟨ad,z,C,i,j⟩:=D (f x (by simp[Op.operands]) _ R).immInv;have l:a.eval y=.slice none 0 0:=by{have:=f y (by simp[Op.operands]) _ T;generalize a.eval y=v at this;cases this;rfl};refine⟨!ad.isNone,.bool (!ad.isNone),λh=>by rw[j h];rfl,?_,.imm _ _ (.bool _)⟩;simp only[execOp,q,i,l];exact AE (Ov (L.sh E) x y ad z C).2;cases h;cases h
def GO (t j:Nat) {d0:D} {x:V} (L:lk env t=some d0) (f:toV d0=some x) (N:V.one x=true) (h:DGo P n F Q todo ((t,.hv j 0)::env) ((j,some (.hp (zlf x)))::st) ids'):DGo P n F Q todo env st (j::ids'):=by refine Es λI μ a w y=>?_;have z:M I (a.tmps.getD t undef) x:=TL f (y.env t _ L);have C:=z.one N;let⟨E,R,T⟩:=StRep.relay (R:=[]) (new:=[(j,Tz [a.tmps.getD t undef] [],.hp (zlf x))]) (ids':=ids') y.toStRep (λp r b G=>by rw[AL.1 r]at G;cases BM.1 G) (λp r q W b _ _=>by rw[AL.1 r,AL.1 W]) (U.le_refl I) y.imm (λb o h=>.inl h) (λ_ p r=>by rw[AL.1 r];exact⟨_,[],rfl,rfl,_,rfl,z,C⟩);refine⟨I,_,_,_,ids',R,λH d f=>?_,T,.of_le E,h⟩;by_cases e:t=H;subst e;rw[A7]at f;cases f;exact .hv _ j 0 [a.tmps.getD t undef] [] (by simp[Fq,lk]) O C;rw[AB _ _ e]at f;exact(y.env H d f).mono (U.le_refl I) E
def MM (t id j:Nat) {len:Nat} (k:lk env t=some (.own id len)) (W:lk st id=some (some (.row e sz es))) (h:DGo P n F Q todo ((t,.hv j 0)::env) ((j,some (.hp (zk9 e sz es)))::(id,none)::st) ids'):DGo P n F Q todo env st (j::ids'):=by refine Es λI μ a w E=>?_;let⟨g,N,xs,⟨_,f⟩,r,R,G,y⟩:=E.blk id _ W;have l:a.tmps.getD t undef=g:=by{have:=E.env t _ k;generalize a.tmps.getD t undef=v at this;cases this with|own _ _ ad z m=>{rw[m]at N;cases N;rfl}};have T:g.oneCell'=true:=by{rcases f with⟨rfl,_⟩|⟨b,z,H,rfl,_⟩<;>rfl};obtain⟨C,s,V⟩:∃C,(zla e sz es g).P [] I w C/\∀b∈C,Ek g b:=by{rcases f with⟨rfl,u⟩|⟨b,z,H,rfl,_,x,A,B,J,K⟩;exact⟨[],.inl ⟨rfl,Iu u,rfl⟩,λb D=>by cases D⟩;rw[<- K]at r;exact⟨[b],.inr ⟨b,z,H,rfl,rfl,x,A,B,J,r,R,G,y⟩,λb D=>by rw[AL.1 D];rfl⟩};let⟨c,S,q3⟩:=StRep.relay (R:=[id]) (new:=[(j,Tz [g] C,.hp (zk9 e sz es))]) (ids':=ids') E.toStRep (λp y b D=>by{rw[AL.1 y]at D;exact⟨id,_,_,by simp,W,N,V b (BM.1 D)⟩}) (λp y q hq b _ _=>by rw[AL.1 y,AL.1 hq]) (U.le_refl I) E.imm (λb o h=>.inl h) (λ_ p y=>by rw[AL.1 y];exact⟨_,C,rfl,_,rfl,s⟩);refine⟨I,_,_,_,ids',S,λi d L=>?_,q3,.of_le c,h⟩;by_cases e:t=i;subst e;rw[A7]at L;cases L;rw[l];exact .hv _ j 0 [g] C (by simp[Fq,lk]) O T;rw[AB _ _ e]at L;exact(E.env i d L).mono (U.le_refl I) c
def eX {j:Nat}:∀{ds:L1 D} {i:Nat} {d:D},Yd j ds=true->ds[i]?=some d->(∃k,d=.hv j k)\/Hb d=[]
 |[],i,d,_,h=>by simp at h
 |x::r,i,d,f,h=>by
  cases i with
  |zero=>
   simp at h;subst h;cases x<;>simp only[Yd,Am]at f<;>first
    |exact .inl ⟨_,by rw[CU f.1]⟩
    |(right;revert f;split<;>simp_all)
  |succ i=>
   refine eX (ds:=r) (i:=i) ?_ (by simpa using h);cases x<;>simp only[Yd,Am]at f<;>exact f.2
def IT (htt:TTok P r) (id j id':Nat) (H:Asn) {c:PRj} (h:eI r env id j id' todo=some c) (hl:lk st id=some (some (.hp A))) (hlj:lk st j=some (some (.hp B))) (J:id≠j) (hA:Gw A B H j c.b c.off c.ds) (u:G P n F Q c.todo env ((id',some (.hp H))::(id,none)::(j,none)::st) ids'):G P n F Q todo env st (id'::ids'):=by
 unfold eI at h
 split at h
 ·rename_i all o C L
  split at h
  ·rename_i t p x hgd N R
   split at h
   ·rename_i i b off dx ht T hx
    split at h
    ·rename_i ds hds
     split at h
     ·rename_i hsz hnm;cases h;simp only at hA u;have u:G P n F Q C (Ca o.dst .undef env) ([(id',some (.hp H)),(id,none),(j,none)]++st) ids':=by rw[N];exact u
      refine BQ (fr:=[id']) (wr:=[(id',some (.hp H)),(id,none),(j,none)]) (rd:=[id,j]) L ?_ (by simp[Ce,N]) (λc hc=>by rw[R]at hc;cases hc) u;intro I μ a8 K a w S z hon;refine⟨λ_=>?_,λhw=>by rw[AJ hgd]at hw;cases hw⟩;have y:=Bx hon;rw[R]at y;have rp:=(y p (by simp[Op.operands]) _ T).rawInv;let⟨r1,r2⟩:=J8 hds (y x (by simp[Op.operands]) _ hx);have V:Aw a8 id (.hp A):=by unfold Aw;rw[S id (by simp)];exact hl
      have W:Aw a8 j (.hp B):=by unfold Aw;rw[S j (by simp)];exact hlj
      obtain⟨g1,g,us,b1,rfl,hP1⟩:=z.blk id _ V;obtain⟨g2,l,vs,b2,rfl,hP2⟩:=z.blk j _ W;let⟨k1,f,bt,k2,k3,k4⟩:=hA us vs I w b1 b2 hP1 hP2 λb L h2=>J (z.inj id j _ _ _ _ b V W g l (BM.2 L) (BM.2 h2));have D:(a.eval x).cells.toList.length=ds.length:=r1.1;have hs:=CU hsz;have hrun:(execOp a.eval o).run P w=.ok .skip (w.setRow b (f.toList.take off++(a.eval x).cells.toList++f.toList.drop (off+(a.eval x).cells.toList.length)).toArray):=by
       simp only[execOp,R,rp,aj,H4 (htt t i ht) k2 (by rw[<- hs,<- D];simp) r2 (show off+(a.eval x).cells.toList.length<=f.size by rw[D];exact k3),ah,am]
      rw[hrun,D];let⟨bs,z1,z2⟩:=k4 (a.eval x).cells.toList D (λq c d hc hd=>by
       have hr:=r1.2 q c d hc hd;rcases eX hnm hd with⟨kk,rfl⟩|hno
       ·cases hr with
        |hv _ _ _ us' E hm hi L=>
         rw[l]at hm;have:vs=us':=by
          simp only[Tz,Ci,fj,Array.mk.injEq,BP,Value.agg.injEq,be]at hm;simpa using hm.1
         exact⟨rfl,by rw[this];exact hi⟩
       ·have:X I noMu c d:=hr.sub λj hj=>by rw[hno]at hj;cases hj
        cases d<;>first|exact this|simp[Hb]at hno) r2
      let⟨p1,p2⟩:=z.update (id:=id) (blk:=.hp A) (blk':=.hp { P:=λ_ _ w' E=>w'=w.setRow b (f.toList.take off++(a.eval x).cells.toList++f.toList.drop (off+ds.length)).toArray/\E=b1\/True,mono:=λ_ h=>h,loc:=λ_ _=>.inr ab }) (g:=Tz us b1) (b:=b) V g (BM.2 k1) (w':=w.setRow b (f.toList.take off++(a.eval x).cells.toList++f.toList.drop (off+ds.length)).toArray) (br w b _) O O O (λk u=>az w b k _ u) ⟨us,b1,rfl,.inr ab⟩;let⟨q1,q2,q3⟩:=StRep.relay (R:=[id,j]) (new:=[(id',Tz [] bs,.hp H)]) (ids':=K) p1
       (λp T b hb=>by
        rw[AL.1 T]at hb;rcases z1 b (BM.1 hb)with h|h
        ·exact⟨id,_,_,by simp,A1.2 (.inl ⟨rfl,rfl⟩),g,BM.2 h⟩
        ·exact⟨j,_,_,by simp,A1.2 (.inr ⟨λe=>J e.symm,W⟩),l,BM.2 h⟩)
       (λp T q hq b _ _=>by rw[AL.1 T,AL.1 hq]) (U.le_refl I) p1.imm (λb o h=>.inl h)
       (λ_ p T=>by rw[AL.1 T];exact⟨[],bs,rfl,z2⟩)
      have m:∀i v,Aw ([(id',some (.hp H)),(id,none),(j,none)]++a8) i v->Aw (Sv [(id',Tz [] bs,Blk.hp H)]++(CC [id,j]++(id,some (.hp { P:=λ_ _ w' E=>w'=w.setRow b (f.toList.take off++(a.eval x).cells.toList++f.toList.drop (off+ds.length)).toArray/\E=b1\/True,mono:=λ_ h=>h,loc:=λ_ _=>.inr ab }))::a8)) i v:=by
       intro i v s;rcases A1.1 s with⟨L,h2⟩|⟨L,h2⟩
       ·exact A1.2 (.inl ⟨L,h2⟩)
       ·let⟨h3,h4⟩:=B3.1 h2;let⟨h5,h6⟩:=B3.1 h4;exact A1.2 (.inr ⟨L,B3.2 ⟨h3,B3.2 ⟨h5,A1.2 (.inr ⟨h3,h6⟩)⟩⟩⟩)
      let⟨y1,y2⟩:=q2.retell (a8:=[(id',some (.hp H)),(id,none),(j,none)]++a8) λi v s=>⟨v,m i v s,λ_ h=>h⟩
      exact⟨I,_,y1,.undef _,q1,(p2.trans q3).trans y2⟩
     ·cases h
    ·cases h
   ·cases h
  ·cases h
 ·cases h
def K4 (l:Z):Value:=.string ⟨l.toArray⟩
inductive An where
 |mk (s:Bool) (o n:Int) (x:Z) (v:Value) (ks:List An) (u:Value) (ps:List An)
 |im (s:Bool) (cs:List Value) (c:List V)
def tyA:Bool->TypeId
 |true=>49
 |false=>182
def Gb:Bool->Nat
 |true=>5
 |false=>4
def C9:An->Bool
 |.mk s _ _ _ _ _ _ _=>s
 |.im s _ _=>s
def XL:An->L1 Value
 |.mk s _ _ _ v _ u _=>match s with
  |true=>[v,u]
  |false=>[v]
 |.im _ _ _=>[]
def cA:An->L1 Value
 |.mk s o n x v _ u _=>match s with
  |true=>[.int .i64 o,.int .i64 n,K4 x,v,u]
  |false=>[.int .i64 o,.int .i64 n,K4 x,v]
 |.im _ cs _=>cs
mutual
def vA:An->L1 V
 |.mk s o n x _ ks _ ps=>match s with
  |true=>[.int .i64 o,.int .i64 n,.str x,.sl (It ks),.sl (It ps)]
  |false=>[.int .i64 o,.int .i64 n,.str x,.sl (It ks)]
 |.im _ _ c=>c
def It:L1 An->L1 (L1 V)
 |[]=>[]
 |a::r=>vA a::It r
end
def Ki:∀l:L1 An,It l=l.map vA
 |[]=>rfl
 |a::r=>by simp[It,Ki r]
@[simp] theorem vAs_length (l:L1 An):(It l).length=l.length:=by rw[Ki];simp
mutual
def Id:An->Prop
 |.mk _ _ _ _ _ ks _ ps=>E0 ks/\E0 ps
 |.im _ _ _=>False
def E0:L1 An->Prop
 |[]=>True
 |a::r=>Id a/\E0 r
end
def HR:∀{a b:L1 An},E0 a->E0 b->E0 (a++b)
 |[],_,_,h=>h
 |x::r,b,h,k=>⟨h.1,HR h.2 k⟩
def OX:∀{l:L1 An} {i:Nat} {a:An},E0 l->l[i]?=some a->Id a
 |[],i,a,_,h=>by simp at h
 |x::r,0,a,f,h=>by simp at h;subst h;exact f.1
 |x::r,i+1,a,f,h=>OX f.2 (by simpa using h)
def O4 (a b:L1 An):It (a++b)=It a++It b:=by simp[Ki]
def B4:Value->Nat
 |.slice (some a) _ _=>a.block
 |_=>0
def Da (v:Value):Nat->L1 Nat
 |0=>[]
 |_+1=>[B4 v]
def To (w:World) (q:TypeId) (sz:Nat) (v:Value) (len:Nat):Prop :=
 (len=0/\(∃a c,v=.slice a 0 c)/\∀I,M I v (.sl [])) \/
 (0<len/\∃b f h,v=.slice (some ⟨b,0,none⟩) len f/\w.heap[b]?=some (.cells h q (0,0))/\len<=f/\f<=maxLen/\h.size=f*sz)
def Wx (w:World) (b off:Nat) (cs:L1 Value):Prop:=∃f h k,w.heap[b]?=some (.cells f h k)/\∀(j:Nat) (c:Value),cs[j]?=some c->f[off+j]?=some c
mutual
def ID (I:U) (w:World):An->Prop
 |.mk s _ _ _ v ks u ps=>(To w (tyA s) (Gb s) v ks.length/\Ef I w s (B4 v) 0 ks)/\(s=true->To w (tyA false) (Gb false) u ps.length/\Ef I w false (B4 u) 0 ps)
 |.im s cs c=>RepVL I cs c/\(∀y∈cs,y.oneCell'=true)/\c.length=Gb s
def Ef (I:U) (w:World) (s:Bool) (b:Nat):Nat->L1 An->Prop
 |_,[]=>True
 |i,a::r=>(C9 a=s/\Wx w b (i*Gb s) (cA a)/\ID I w a)/\Ef I w s b (i+1) r
end
mutual
def F4:An->L1 Nat
 |.mk s _ _ _ v ks u ps=>(Da v ks.length++D3 ks)++match s with
  |true=>Da u ps.length++D3 ps
  |false=>[]
 |.im _ _ _=>[]
def D3:L1 An->L1 Nat
 |[]=>[]
 |a::r=>F4 a++D3 r
end
def MX (a b:L1 An):D3 (a++b)=D3 a++D3 b:=by induction a with|nil=>rfl|cons x r f=>{simp[D3,f]}
def Ev {I:U} {w:World} {s:Bool} {b:Nat}:∀{gs:L1 An} {i j:Nat} {a:An},Ef I w s b i gs->gs[j]?=some a->C9 a=s/\Wx w b ((i+j)*Gb s) (cA a)/\ID I w a
 |[],i,j,a,_,h=>by simp at h
 |x::r,i,0,a,f,h=>by simp at h;subst h;simp only[Ef]at f;exact f.1
 |x::r,i,j+1,a,f,h=>by simp only[Ef]at f;have:=Ev f.2 (j:=j) (by simpa using h);rwa [show i+1+j=i+(j+1) by omega]at this
def Kc {I:U} {w:World} {s:Bool} {b:Nat}:∀{gs f:L1 An} {i:Nat},Ef I w s b i (gs++f)↔Ef I w s b i gs/\Ef I w s b (i+gs.length) f
 |[],f,i=>by simp[Ef]
 |x::r,f,i=>by simp only[Dj,Ef,Co];rw[Kc,show i+1+r.length=i+(r.length+1) by omega,<- dn]
def Jc {y:TypeId} {len:Nat} (h:∀k∈Da v len,w'.heap[k]?=w.heap[k]?) (f:To w y sz v len):To w' y sz v len:=by rcases f with f|⟨z,b,q,r,rfl,C,D⟩;exact .inl f;refine .inr ⟨z,b,q,r,rfl,(h b ?_).trans C,D⟩;cases len with|zero=>omega|succ n=>{simp[Da,B4]}
def NL (h:w'.heap[b]?=w.heap[b]?) (q:Wx w b off cs):Wx w' b off cs:=by obtain⟨f,r,k,y,z⟩:=q;exact⟨f,r,k,h.trans y,z⟩
mutual
def Kd {I:U} {w w':World}:∀{a:An},(∀k∈F4 a,w'.heap[k]?=w.heap[k]?)->ID I w a->ID I w' a
 |.im s cs c,_,r=>r
 |.mk s o n x v ks u ps,h,r=>by simp only[ID]at r ⊢;simp only[F4,B2]at h;obtain⟨⟨y,z⟩,C⟩:=r;refine⟨⟨Jc (λk f=>h k (.inl (.inl f))) y,?_⟩,λD=>?_⟩;exact Hq (λq=>h (B4 v) (.inl (.inl (by cases ks with|nil=>exact absurd rfl q|cons=>simp[Da])))) (λk f=>h k (.inl (.inr f))) z;subst D;let⟨E,G⟩:=C rfl;simp only[B2]at h;exact⟨Jc (λk f=>h k (.inr (.inl f))) E,Hq (λq=>h (B4 u) (.inr (.inl (by cases ps with|nil=>exact absurd rfl q|cons=>simp[Da])))) (λk f=>h k (.inr (.inr f))) G⟩
def Hq {I:U} {w w':World} {s:Bool} {b:Nat}:∀{gs:L1 An} {i:Nat},(gs≠[]->w'.heap[b]?=w.heap[b]?)->(∀k∈D3 gs,w'.heap[k]?=w.heap[k]?)->Ef I w s b i gs->Ef I w' s b i gs
 |[],_,_,_,_=>by simp[Ef]
 |a::r,i,y,h,f=>by simp only[Ef]at f ⊢;simp only[D3,B2]at h;exact⟨⟨f.1.1,NL (y (by simp)) f.1.2.1,Kd (λk q=>h k (.inl q)) f.1.2.2⟩,Hq (λ_=>y (by simp)) (λk q=>h k (.inr q)) f.2⟩
end
mutual
def W0 {I J:U} {w:World} (h:I.le J):∀{a:An},ID I w a->ID J w a
 |.mk s o n x v ks u ps,f=>by simp only[ID]at f ⊢;exact⟨⟨f.1.1,NM h f.1.2⟩,λq=>⟨(f.2 q).1,NM h (f.2 q).2⟩⟩
 |.im s cs c,f=>⟨f.1.mono h,f.2⟩
def NM {I J:U} {w:World} (h:I.le J) {s:Bool} {b:Nat}:∀{gs:L1 An} {i:Nat},Ef I w s b i gs->Ef J w s b i gs
 |[],_,_=>by simp[Ef]
 |a::r,i,f=>by simp only[Ef]at f ⊢;exact⟨⟨f.1.1,f.1.2.1,W0 h f.1.2.2⟩,NM h f.2⟩
end
def wE {a:An} (h:ID I w a):(vA a).length=Gb (C9 a):=by cases a with|mk s o n x v ks u ps=>cases s<;>simp[vA,C9,Gb]|im s cs c=>{exact h.2.2}
def RI {a:An} (h:ID I w a):(cA a).length=Gb (C9 a):=by cases a with|mk s o n x v ks u ps=>cases s<;>simp[cA,C9,Gb]|im s cs c=>{exact h.1.1.trans h.2.2}
def HT {f:TypeId} {len:Nat} (h:To w f sz v len):v.oneCell'=true:=by rcases h with⟨_,⟨a,c,rfl⟩,_⟩|⟨_,b,q,r,rfl,_⟩<;>rfl
def rB {a:An} (h:ID I w a):∀c∈cA a,c.oneCell'=true:=by
 cases a with
 |im s cs c=>exact h.2.1
 |mk s o n x v ks u ps=>
 simp only[ID]at h;have q:=HT h.1.1;intro c f;cases s with
 |true=>
  have r:=HT (h.2 O).1;simp only[cA,Ck,Ji,cb]at f;rcases f with rfl|rfl|rfl|rfl|rfl<;>first|rfl|assumption
 |false=>
  simp only[cA,Ck,Ji,cb]at f;rcases f with rfl|rfl|rfl|rfl<;>first|rfl|assumption
def M.encStr (I:U) (l:L1 UInt8):M I (K4 l) (.str l):=.str _ _ (by simp)
def sJ {gs:L1 An} (m:To w (tyA s) (Gb s) v gs.length) (D:Ef I w s (B4 v) 0 gs) (n:∀k∈Da v gs.length,J k=w.heap[k]?) (o:∀a∈gs,RepVL J (cA a) (vA a)):M J v (.sl (It gs)):=by rcases m with⟨H,_,E⟩|⟨H,b,C,r,rfl,E,p,t,Q⟩;have:gs=[]:=Iu H;subst this;exact E J;have L:J b=some (.cells r (tyA s) (0,0)):=by{rw[n b (by cases gs with|nil=>simp at H|cons=>simp[Da,B4]),E]};have u:B4 (.slice (some ⟨b,0,none⟩) gs.length C)=b:=rfl;rw[u]at D;have h:∀(i:Nat) (e:L1 V) (j:Nat) (x:V),(It gs)[i]?=some e->e[j]?=some x->∃a c,gs[i]?=some a/\(cA a)[j]?=some c/\r[i*Gb s+j]?=some c/\c.oneCell'=true/\M J c x:=by{intro i e j x f y;rw[Ki,Ct]at f;cases z:gs[i]? with|none=>rw[z]at f;cases f|some a=>{rw[z]at f;cases f;let⟨S,A,B⟩:=Ev D z;have q:=o a (AF z);have N:j<(cA a).length:=by{rw[q.1];exact(A9.1 y).1};have G:=Bq N;obtain⟨T,ty,k,W,F⟩:=A;rw[E]at W;cases W;refine⟨a,_,rfl,G,?_,rB B _ (AF G),q.2 j _ x G y⟩;have:=F j _ G;rwa [BS]at this}};refine .sl b 0 gs.length C (Gb s) (It gs) (λi j=>(r[i*Gb s+j]?).getD undef) (by simp) p t (λe d=>?_) (λi e j x f y=>?_) (λi e j x f y=>?_);rw[Ki]at d;obtain⟨a,z,rfl⟩:=C7.1 d;let⟨i,f⟩:=HW z;rw[wE (Ev D f).2.2,(Ev D f).1];let⟨a,c,K,P,R,g,l⟩:=h i e j x f y;simp[U.cell,L,R,g];let⟨a,c,K,P,R,g,l⟩:=h i e j x f y;simpa[R]using l
mutual
def zhn {w:World} {I J:U} (r:I.le J):∀{a:An},ID I w a->(∀k∈F4 a,J k=w.heap[k]?)->RepVL J (cA a) (vA a)
 |.im s cs c,h,_=>h.1.mono r
 |.mk s o n x v ks u ps,h,C=>by simp only[ID]at h;simp only[F4,B2]at C;have D:M J v (.sl (It ks)):=sJ h.1.1 h.1.2 (λk z=>C k (.inl (.inl z))) (bQ r h.1.2 λk z=>C k (.inl (.inr z)));cases s with|true=>{simp only[B2]at C;let⟨G,E⟩:=h.2 rfl;have H:M J u (.sl (It ps)):=sJ G E (λk z=>C k (.inr (.inl z))) (bQ r E λk z=>C k (.inr (.inr z)));refine⟨rfl,λi c y f q=>?_⟩;simp only[cA,vA]at f q;match i with|0=>cases f;cases q;exact .int _ _|1=>cases f;cases q;exact .int _ _|2=>cases f;cases q;exact .encStr _ _|3=>cases f;cases q;exact D|4=>cases f;cases q;exact H|i+5=>{simp at f}}|false=>{refine⟨rfl,λi c y f q=>?_⟩;simp only[cA,vA]at f q;match i with|0=>cases f;cases q;exact .int _ _|1=>cases f;cases q;exact .int _ _|2=>cases f;cases q;exact .encStr _ _|3=>cases f;cases q;exact D|i+4=>{simp at f}}
def bQ {w:World} {I J:U} (f:I.le J) {s:Bool} {b:Nat}:∀{gs:L1 An} {i:Nat},Ef I w s b i gs->(∀k∈D3 gs,J k=w.heap[k]?)->∀a∈gs,RepVL J (cA a) (vA a)
 |[],_,_,_=>λa h=>by cases h
 |x::r,i,q,y=>by simp only[Ef]at q;simp only[D3,B2]at y;have C:=zhn f q.1.2.2 λk z=>y k (.inl z);have D:=bQ f q.2 (λk z=>y k (.inr z));intro a h;rcases Ck.1 h with rfl|h;exact C;exact D a h
end
def IM {ca:Array Value} {f:TypeId} {k:Nat×Nat} (h:w.heap[b]?=some (.cells ca f k)):(w.setRow b (ca.toList.take off++cs++ca.toList.drop (off+cs.length)).toArray).heap[b]?=some (.cells (ca.toList.take off++cs++ca.toList.drop (off+cs.length)).toArray f k):=b8 w b ca _ f k h
def H5 {ca:L1 Value} (q:off+cs.length<=ca.length) (i:Nat):(ca.take off++cs++ca.drop (off+cs.length))[i]?=if i<off then ca[i]? else if i<off+cs.length then cs[i-off]? else ca[i]?:=by rw[Cl,OV,Gt,PR (by omega)];by_cases h:i<off;rw[ae h,ae h,DO,ae h];rw[ac h,ac h,OV];by_cases f:i<off+cs.length;rw[ae f,ae (by omega)];rw[ac f,ac (by omega),EU];congr 1;omega
def vO {ca:Array Value} {f:TypeId} {k:Nat×Nat} (h:w.heap[b]?=some (.cells ca f k)) (r:off+cs.length<=ca.size):Wx (w.setRow b (ca.toList.take off++cs++ca.toList.drop (off+cs.length)).toArray) b off cs:=by refine⟨_,f,k,IM h,λj c q=>?_⟩;have y:=(A9.1 q).1;have:=H5 (ca:=ca.toList) (off:=off) (cs:=cs) (by simpa using r) (off+j);rw[ac (by omega),ae (by omega),nL,q]at this;simpa using this
def Ww {f:Nat} {ca:Array Value} {r:TypeId} {k:Nat×Nat} {q:L1 Value} (h:w.heap[b]?=some (.cells ca r k)) (E:off+cs.length<=ca.size) (G:Wx w b f q) (hd:f+q.length<=off\/off+cs.length<=f):Wx (w.setRow b (ca.toList.take off++cs++ca.toList.drop (off+cs.length)).toArray) b f q:=by obtain⟨y,H,R,z,L⟩:=G;rw[h]at z;cases z;refine⟨_,r,k,IM h,λj c C=>?_⟩;have N:=(A9.1 C).1;have D:=L j c C;have:=H5 (ca:=ca.toList) (off:=off) (cs:=cs) (by simpa using E) (f+j);rcases hd with hd|hd;rw[ae (by omega)]at this;simpa[D]using this;rw[ac (by omega),ac (by omega)]at this;simpa[D]using this
def TJ (a:An):Asn where
 P:=λ_ I w bs=>bs=F4 a/\bs.Nodup/\ID I w a
 mono:=λh ⟨h1,h2,h3⟩=>⟨h1,h2,W0 h h3⟩
 loc:=λh ⟨h1,h2,h3⟩=>⟨h1,h2,Kd (λk hk=>h k (by rw[h1];exact hk)) h3⟩
def Th (s:Bool) (c:L1 V):Asn where
 P:=λvs I w bs=>∃o n x v ks u ps,(vA (.mk s o n x v ks u ps)=c/\Id (.mk s o n x v ks u ps))/\vs=XL (.mk s o n x v ks u ps)/\(TJ (.mk s o n x v ks u ps)).P [] I w bs
 mono:=λh ⟨o,n,x,v,ks,u,ps,h2,h3,h4⟩=>⟨o,n,x,v,ks,u,ps,h2,h3,(TJ _).mono h h4⟩
 loc:=λh ⟨o,n,x,v,ks,u,ps,h2,h3,h4⟩=>⟨o,n,x,v,ks,u,ps,h2,h3,(TJ _).loc h h4⟩
def HK (s:Bool) (v:Value) (gs:L1 An) (rest:L1 (L1 V)):Asn where
 P:=λ_ I w bs=>To w (tyA s) (Gb s) v (gs.length+rest.length)/\Ef I w s (B4 v) 0 gs /\
  (∀(j:Nat) (e:L1 V),rest[j]?=some e->∃cs:L1 Value,Wx w (B4 v) ((gs.length+j)*Gb s) cs/\RepVL I cs e/\(∀c∈cs,c.oneCell'=true)/\e.length=Gb s) /\
  bs=Da v (gs.length+rest.length)++D3 gs/\bs.Nodup
 mono:=λh ⟨h1,h2,h3,h4⟩=>⟨h1,NM h h2,λj e hj=>let⟨cs,a,b,c⟩:=h3 j e hj;⟨cs,a,b.mono h,c⟩,h4⟩
 loc:=λ{vs I w w' bs} h ⟨h1,h2,h3,h4,h5⟩=>by
  have hb:gs.length+rest.length≠0->w'.heap[B4 v]?=w.heap[B4 v]?:=λhne=>h _ (by
   rw[h4];cases hl:gs.length+rest.length with
   |zero=>exact absurd hl hne
   |succ n=>simp[Da])
  refine⟨Jc (λk hk=>h k (by rw[h4];simp[hk])) h1,Hq (λhne=>hb (by cases gs with|nil=>exact absurd rfl hne|cons=>simp)) (λk hk=>h k (by rw[h4];simp[hk])) h2,λj e hj=>?_,h4,h5⟩;obtain⟨cs,a,b⟩:=h3 j e hj;exact⟨cs,NL (hb (by have:=(A9.1 hj).1;omega)) a,b⟩
def zlc (s:Bool) (v:Value) (gs:L1 An) (e:L1 V) (rest:L1 (L1 V)):Asn where
 P:=λ_ I w bs=>∃a,(vA a=e/\Id a)/\(HK s v (gs++[a]) rest).P [] I w bs
 mono:=λh ⟨a,h1,h2⟩=>⟨a,h1,(HK s v (gs++[a]) rest).mono h h2⟩
 loc:=λh ⟨a,h1,h2⟩=>⟨a,h1,(HK s v (gs++[a]) rest).loc h h2⟩
def J0 (s:Bool) (es:L1 (L1 V)):Asn where
 P:=λvs I w bs=>∃v,vs=[v]/\(HK s v [] es).P [] I w bs
 mono:=λh ⟨v,h1,h2⟩=>⟨v,h1,(HK s v [] es).mono h h2⟩
 loc:=λh ⟨v,h1,h2⟩=>⟨v,h1,(HK s v [] es).loc h h2⟩
def NH {y:L1 Nat} (s:Bool) (h:(zlf (.sl [])).P vs I w y):(J0 s []).P vs I w y:=by obtain⟨rfl,v,rfl,z,L⟩:=h;refine⟨v,rfl,.inl ⟨rfl,?_,?_⟩,by simp[Ef],λj e C=>by simp at C,by simp[Da,D3],.nil⟩;obtain⟨ad,f,q,rfl,_,rfl⟩:=Pw z;exact⟨_,_,rfl⟩;intro J;cases z with|slnil=>exact .slnil|sl0 a=>exact .sl0 a|sl b o f q sz es vs D E G _ _ _=>{exact .sl b o f q sz [] vs D E G (λe H=>by cases H) (λi e j x r=>by simp at r) (λi e j x r=>by simp at r)}
def YR {T:L1 Nat} (z:es≠[]) (h:(zk9 (tyA s) (Gb s) es).P vs I w T):(J0 s es).P vs I w T:=by obtain⟨v,rfl,⟨_,k,_⟩|⟨b,D,q,rfl,rfl,V,W,l,m,n,a,o,K⟩⟩:=h;exact absurd k z;have E:0<es.length:=by{cases es with|nil=>exact absurd rfl z|cons=>simp};refine⟨_,rfl,.inr ⟨by simpa using E,b,D,q,by simp,V,by simpa using W,l,m⟩,by simp[Ef],λj e H=>?_,?_,by simp⟩;have d:=a e (AF H);have L:=(A9.1 H).1;have G:(j+1)*Gb s<=es.length*Gb s:=Ip _ L;rw[JN]at G;have N:es.length*Gb s<=D*Gb s:=Ip _ W;have y:∀i,i<Gb s->∃c x,q.toList[j*Gb s+i]?=some c/\e[i]?=some x/\M I c x/\c.oneCell'=true:=by{intro i r;obtain⟨x,C⟩:∃x,e[i]?=some x:=⟨_,Bq (by omega)⟩;have p:=CO a j e i x H C;obtain⟨c,f⟩:∃c,q.toList[j*Gb s+i]?=some c:=⟨_,Bq (by simp;omega)⟩;have g:=n.2 (j*Gb s+i) c x (by rw[DO,ae (by omega)];exact f) p;exact⟨c,x,f,C,g,g.one (o e (AF H) x (AF C))⟩};refine⟨(q.toList.drop (j*Gb s)).take (Gb s),⟨q,_,_,V,λi c f=>?_⟩,⟨?_,λi c x f C=>?_⟩,λc f=>?_,d⟩;rw[DO]at f;split at f;rw[EU]at f;simpa using f;cases f;rw[Gt,Jg,d];simp;omega;rw[DO]at f;split at f;rename_i r;rw[EU]at f;let⟨t,u,R,A,B,_⟩:=y i r;rw[R]at f;cases f;rw[A]at C;cases C;exact B;cases f;let⟨i,r⟩:=HW f;rw[DO]at r;split at r;rename_i F;rw[EU]at r;let⟨t,u,R,_,_,J⟩:=y i F;rw[R]at r;cases r;exact J;cases r;cases es with|nil=>exact absurd rfl z|cons=>{simp[Da,B4,D3]}
def TS {q:L1 Nat} {gs:L1 An} {rest:G1} (h:(HK s v gs rest).P vs I w q):∃a cap,v=.slice a (gs.length+rest.length) cap/\(0<gs.length+rest.length->∃b,a=some ⟨b,0,none⟩):=by rcases h.1 with⟨f,⟨a,c,rfl⟩,_⟩|⟨f,b,cap,r,rfl,_⟩;exact⟨a,c,by rw[f],λh=>by omega⟩;exact⟨_,cap,rfl,λ_=>⟨b,rfl⟩⟩
def Va {E:L1 Nat} {gs:L1 An} {e:L1 V} {rest:G1} (h:(HK s v gs (e::rest)).P vs I w E):Ex I w (B4 v) (gs.length*Gb s) (e.map .imm):=by let⟨cs,⟨r,G,k,H,C⟩,D,L,N⟩:=h.2.2.1 0 e rfl;rw[Gs]at C;refine⟨r,G,k,H,λj d f=>?_⟩;rw[Ct]at f;cases q:e[j]? with|none=>rw[q]at f;cases f|some x=>{rw[q]at f;cases f;have y:j<cs.length:=by{rw[D.1];exact(A9.1 q).1};have z:=Bq y;exact⟨_,C j _ z,L _ (AF z),.imm _ _ (D.2 j _ x z q)⟩}
def TD (j:Nat):Bool->L1 V->L1 D
 |true,[o,n,x,_,_]=>[.imm o,.imm n,.imm x,.hv j 0,.hv j 1]
 |false,[o,n,x,_]=>[.imm o,.imm n,.imm x,.hv j 0]
 |_,_=>[]
def M.strEq {l:L1 UInt8} (h:M I v (.str l)):v=K4 l:=by cases h with|str s _ f=>{subst f;obtain⟨⟨l⟩⟩:=s;rfl}
def zhb {n:Int} {ks:L1 An} {ps:L1 An} (r:cs.length=(TD j s (vA (.mk s o n x v ks u ps))).length) (h:∀(i:Nat) (c:Value) (d:D),cs[i]?=some c->(TD j s (vA (.mk s o n x v ks u ps)))[i]?=some d->zT I j (XL (.mk s o n x v ks u ps)) c d):cs=cA (.mk s o n x v ks u ps):=by have f:∀{c:Value} {y:V},zT I j (XL (.mk s o n x v ks u ps)) c (.imm y)->M I c y:=λh=>by{have h:X I noMu _ (.imm _):=h;exact h.immInv};cases s with|true=>{simp only[C9,vA,TD,Co,Cb]at r h;match cs,r with|[H,L,N,R,T],_=>{have z:=(f (h 0 _ _ O O)).intInv;have C:=(f (h 1 _ _ O O)).intInv;have E:=(f (h 2 _ _ O O)).strEq;have q:=h 3 _ _ O O;have G:=h 4 _ _ O O;simp only[zT,XL,ay]at q G;simp at q G;rw[z,C,E,<- q,<- G];rfl}}|false=>{simp only[C9,vA,TD,Co,Cb]at r h;match cs,r with|[H,L,N,R],_=>{have z:=(f (h 0 _ _ O O)).intInv;have C:=(f (h 1 _ _ O O)).intInv;have E:=(f (h 2 _ _ O O)).strEq;have q:=h 3 _ _ O O;simp only[zT,XL,ay]at q;simp at q;rw[z,C,E,<- q];rfl}}
def qJ {n:Int} {ks:L1 An} {ps:L1 An}:(TD j s (vA (.mk s o n x v ks u ps))).length=Gb s:=by cases s<;>simp[vA,TD,Gb]
def Rk {gs:L1 An} {e:L1 V} {rest:G1}:Gw (HK s v gs (e::rest)) (Th s e) (zlc s v gs e rest) j (B4 v) (gs.length*Gb s) (TD j s e):=by intro us vs I w b1 b2 ⟨h1,h2,h3,B,K⟩ ⟨o,n,x,v',ks,u,ps,⟨k2,kf⟩,k3,T,k5,P⟩ E;obtain⟨a,W⟩:∃a,a=An.mk s o n x v' ks u ps:=⟨_,rfl⟩;have k1:C9 a=s:=by{rw[W];rfl};have G:(TD j (C9 a) (vA a)).length=Gb (C9 a):=by{rw[W];exact qJ};have Q:∀{cs:L1 Value},cs.length=(TD j (C9 a) (vA a)).length->(∀(i:Nat) (c:Value) (d:D),cs[i]?=some c->(TD j (C9 a) (vA a))[i]?=some d->zT I j (XL a) c d)->cs=cA a:=by{rw[W];exact zhb};rw[<- W]at k2 k3 T P kf;clear W;subst k1;subst k2;subst k3;rcases h1 with⟨S,_⟩|⟨S,b,g,h,rfl,f,H,hcm,l⟩;simp at S;simp only[B4]at h2 h3 ⊢;have m:b∈b1:=by{rw[B];have:gs.length+(vA a::rest).length=(gs.length+rest.length)+1:=by{simp;omega};rw[this];simp[Da,B4]};have L:gs.length*Gb (C9 a)+Gb (C9 a)<=h.size:=by{rw[l,<- JN];exact Ip _ (by simp at H;omega)};refine⟨m,h,_,f,by rw[G];exact L,λcs hl p hone=>?_⟩;have t:=Q hl p;have N:cs.length=Gb (C9 a):=by{rw[t,RI P]};have hdl:(TD j (C9 a) (vA a)).length=cs.length:=by{rw[G,N]};rw[hdl];have F:gs.length*Gb (C9 a)+cs.length<=h.size:=by{rw[N];exact L};have z:(gs++[a]).length+rest.length=gs.length+(vA a::rest).length:=by{simp;omega};have hnb:∀k∈D3 gs,k≠b:=λk hk e=>by{subst e;rw[B]at K;have hd:=(CV.1 K).2.2 k (by{have:gs.length+(vA a::rest).length=(gs.length+rest.length)+1:=by{simp;omega};rw[this];simp[Da,B4]}) k hk;exact hd O};have A:∀k∈F4 a,k≠b:=λk hk e=>by{subst e;exact E k m (by rw[T];exact hk)};refine⟨Da (.slice (some ⟨b,0,none⟩) (gs.length+(vA a::rest).length) g) ((gs++[a]).length+rest.length)++D3 (gs++[a]),λk hk=>?_,a,⟨rfl,kf⟩,?_,?_,?_,rfl,?_⟩;rw[z,MX,<- Cl,<- B,B2]at hk;rcases hk with hk|hk;exact .inl hk;right;rw[T];simpa[D3]using hk;rw[z];refine .inr ⟨S,b,g,_,rfl,IM f,H,hcm,?_⟩;rw[<- l];have hl2:h.toList.length=h.size:=PV;generalize gs.length*Gb (C9 a)=off at F;show(h.toList.take off++cs++h.toList.drop (off+cs.length)).length=h.size;rw[AZ,AZ,Gt,Jg];omega;rw[Kc];constructor;have:∀{q:L1 An} {i:Nat},(∀k∈D3 q,k≠b)->i+q.length<=gs.length->Ef I w (C9 a) b i q->Ef I (w.setRow b (h.toList.take (gs.length*Gb (C9 a))++cs++h.toList.drop (gs.length*Gb (C9 a)+cs.length)).toArray) (C9 a) b i q:=by{intro q;induction q with|nil=>intro i _ _ _;simp[Ef]|cons y r ih=>{intro i hk hi R;simp only[Ef]at R ⊢;simp only[D3,B2]at hk;simp only[Co]at hi;refine⟨⟨R.1.1,Ww f F R.1.2.1 (.inl ?_),Kd (λk C=>az w b k _ (hk k (.inl C))) R.1.2.2⟩,ih (λk C=>hk k (.inr C)) (by omega) R.2⟩;rw[RI R.1.2.2,R.1.1,<- JN];exact Ip _ (by omega)}};exact this hnb (by omega) h2;simp only[Ef,be,BS];refine⟨ab,?_,Kd (λk hk=>az w b k _ (A k hk)) P⟩;rw[<- t];exact vO f F;intro i e' he';let⟨cs',q1,q2,q3,q4⟩:=h3 (i+1) e' (by simpa using he');refine⟨cs',?_,q2,q3,q4⟩;have e1:(gs++[a]).length+i=gs.length+(i+1):=by{simp;omega};rw[e1];refine Ww f F q1 (.inr ?_);rw[N,<- JN];exact Ip _ (by omega);rw[z,MX,<- Cl,<- B];refine CV.2 ⟨K,by simpa[D3,<- T]using k5,λk hk k' C e=>?_⟩;subst e;exact E k hk (by rw[T];simpa[D3]using C)
def zjl {f:L1 Nat} {gs:L1 An} {n:Int} (h:(HK false v gs []).P vs I w f):(TJ (.mk false o n x v gs (.bool true) [])).P [] I w f:=by obtain⟨q,r,_,y,z⟩:=h;exact⟨by rw[y];simp[F4],z,⟨q,r⟩,λh=>by cases h⟩
def zef {r:L1 Value} {f q:L1 Nat} {ks ps:L1 An} {n:Int} (h:(HK true v ks []).P vs I w f) (k:(HK false u ps []).P r I w q) (y:∀b∈f,b∉q):(TJ (.mk true o n x v ks u ps)).P [] I w (f++q):=by obtain⟨z,C,_,D,E⟩:=h;obtain⟨G,H,_,L,N⟩:=k;refine⟨by rw[D,L];simp[F4],CV.2 ⟨E,N,λa R b T e=>y a R (e▸T)⟩,⟨z,C⟩,λ_=>⟨G,H⟩⟩
def Dz (id:Nat) (B:α->Asn) (D:lk st id=some (some (.hp A))) (R:∀vs I w E,A.P vs I w E->∃x,(B x).P vs I w E) (h:∀x,DGo P n F Q todo env ((id,some (.hp (B x)))::st) aa):DGo P n F Q todo env st aa:=by
 refine Es λI μ a w y=>?_;obtain⟨g,T,vs,E,rfl,V⟩:=y.blk id _ D;let⟨x,W⟩:=R vs I w E V;have r:∀i b,Aw ((id,some (.hp (B x)))::st) i b->(i=id/\b=.hp (B x))\/(i≠id/\Aw st i b):=λi b D=>by
  rcases A1.1 D with⟨rfl,rfl⟩|h
  ·exact .inl ⟨rfl,rfl⟩
  ·exact .inr h
 have f:∀i b,Aw ((id,some (.hp (B x)))::st) i b->∃z,Aw st i z:=λi b D=>by
  rcases r i b D with⟨rfl,_⟩|⟨_,h⟩
  ·exact⟨_,‹lk st i=_›⟩
  ·exact⟨_,h⟩
 refine⟨I,μ,env,_,aa,{ imm:=y.imm,blk:=λi b C=>?_,apart:=λi b g k C G c=>?_,inj:=λi j H e l m k o p=>?_,nodup:=y.nodup,idsFree:=y.idsFree },λt d s=>y.env t d s,?_,Pin.refl _ _,h x⟩
 ·rcases r i b C with⟨rfl,rfl⟩|⟨_,h⟩
  ·exact⟨_,T,vs,E,rfl,W⟩
  ·exact y.blk i b h
 ·let⟨z,L⟩:=f i b C;exact y.apart i z g k L G c
 ·let⟨z,L⟩:=f i H o;let⟨u,N⟩:=f j e p;exact y.inj i j z u l m k L N
 ·exact { imm:=U.le_refl I,os:=rfl,tape:=rfl,output:=rfl,size:=BO _,block:=λ_ _ _=>rfl,old:=λ_ _ _=>rfl
          fresh:=λb _ ⟨i,H,g,N,v⟩=>let⟨z,q⟩:=f i H N;⟨i,z,g,q,v⟩ }
def Ti (es:G1) (z:∀c∈es,c.length=4) (q:es.length<=1000000):Tq4 229 [.imm (.sl es)] [] (.ret (.hv 1 0) [(1,some (.hp (J0 false es)))]):=by cases es with|nil=>{refine Ac C3 func229 O [1]<|DF O<|GP C3 O λb f=>?_;cases b with|true=>{exact jJ [.a] O<|GO (x:=.sl []) 2 1 O O O<|Dz 1 (λ_:Unit=>J0 false []) O (λvs I w y h=>⟨(),NH false h⟩) λ_=>Af ⟨_,AC⟩}|false=>{exact jJ [.a] O<|N5 C3 O<|DF O<|GO (x:=.sl []) 2 1 O O O<|Dz 1 (λ_:Unit=>J0 false []) O (λvs I w y h=>⟨(),NH false h⟩) λ_=>Af ⟨_,AC⟩}}|cons e r=>{refine Ac C3 func229 O [2,1]<|DF O<|GP C3 O λb f=>?_;have f:b=false:=f (by simp);subst f;exact jJ [.a] O<|BK C3 O ⟨z,by simp only[maxLen,Cb]at *;omega,by simp only[Cb]at *;omega,λc C=>by simp at C,by simp⟩<|DF O<|MM 2 2 1 O O<|Dz 1 (λ_:Unit=>J0 false (e::r)) O (λvs I w y h=>⟨(),YR (s:=false) (by simp) h⟩) λ_=>Af ⟨_,AC⟩}
def bX (es:G1) (z:∀c∈es,c.length=5) (q:es.length<=1000000):Tq4 228 [.imm (.sl es)] [] (.ret (.hv 1 0) [(1,some (.hp (J0 true es)))]):=by cases es with|nil=>{refine Ac C3 func228 O [1]<|DF O<|GP C3 O λb f=>?_;cases b with|true=>{exact jJ [.a] O<|GO (x:=.sl []) 2 1 O O O<|Dz 1 (λ_:Unit=>J0 true []) O (λvs I w y h=>⟨(),NH true h⟩) λ_=>Af ⟨_,AC⟩}|false=>{exact jJ [.a] O<|N5 C3 O<|DF O<|GO (x:=.sl []) 2 1 O O O<|Dz 1 (λ_:Unit=>J0 true []) O (λvs I w y h=>⟨(),NH true h⟩) λ_=>Af ⟨_,AC⟩}}|cons e r=>{refine Ac C3 func228 O [2,1]<|DF O<|GP C3 O λb f=>?_;have f:b=false:=f (by simp);subst f;exact jJ [.a] O<|BK C3 O ⟨z,by simp only[maxLen,Cb]at *;omega,by simp only[Cb]at *;omega,λc C=>by simp at C,by simp⟩<|DF O<|MM 2 2 1 O O<|Dz 1 (λ_:Unit=>J0 true (e::r)) O (λvs I w y h=>⟨(),YR (s:=true) (by simp) h⟩) λ_=>Af ⟨_,AC⟩}
def Pd {q:L1 Nat} (h:(J0 s es).P vs I w q):∃x:Option Addr×Nat,vs=[.slice x.1 es.length x.2]/\(HK s (.slice x.1 es.length x.2) [] es).P [] I w q:=by obtain⟨v,rfl,h⟩:=h;obtain⟨a,f,rfl,_⟩:=TS h;rw[Cb,BS]at h ⊢;exact⟨(a,f),rfl,h⟩
mutual
def Pl:Y->Prop
 |.mk _ _ _ ps=>ps.length<=1000000/\QM ps
def QM:L1 Y->Prop
 |[]=>True
 |p::r=>Pl p/\QM r
end
def O3:∀{l:L1 Y} {t:Y},QM l->t∈l->Pl t
 |[],_,_,h=>by simp at h
 |p::r,t,h,hm=>by rcases Ck.1 hm with rfl|hm;exact h.1;exact O3 h.2 hm
def cd:=@Value.slice.injEq
def Wk:∀t:Y,Pl t->Tq4 230 [.imm (.agg (As t))] [] (.ret (.agg (TD 1 false (As t))) [(1,some (.hp (Th false (As t))))])
 |.mk f n x ps,o=>by obtain⟨V,W⟩:=o;refine Ac C3 func230 O [2,3,4,5,1,6,7]<|DF O<|Ao [4] [] [(1,4)] O (Ti (A4 ps) (λc j=>by rw[D1]at j;obtain⟨p,_,rfl⟩:=C7.1 j;simp) (by simpa using V)) ab O O<|fg_ [] O (by simp<;>rfl)<|Jo (ids':=[1,6,7]) 4 5 (λx:Option Addr×Nat=>[.slice x.1 (A4 ps).length x.2]) (λx=>HK false (.slice x.1 (A4 ps).length x.2) [] (A4 ps)) O (λvs I w G h=>Pd h) λy=>?_;obtain⟨ad,q⟩:=y;refine DH O<|Al (λy:Nat×L1 An=>[(12,i7 y.1),(11,i7 ((A4 ps).length)),(10,.raw (.slice ad (A4 ps).length q)),(1,.ref 2 0),(2,.ref 3 0)]) (λy=>[(2,some (.cells 182 4 [i7 f,i7 n,.imm (.str x),.raw (.slice ad (A4 ps).length q)])),(3,some (.cells 182 4 [i7 0,i7 0,.imm (.str []),.nils])),(5,some (.hp (HK false (.slice ad (A4 ps).length q) y.2 (A4 (ps.drop y.1)))))]) [1,6,7] (λy=>ps.length-y.1) (λy=>y.1<=ps.length/\y.2.length=y.1/\It y.2=A4 (ps.take y.1)/\E0 y.2) (0,[]) ⟨AK _,AP⟩ BD AC O λy s u=>?_;obtain⟨i,r⟩:=y;obtain⟨d,E,C,D⟩:=s;simp only at d E C D;subst E;refine DH O<|Aa O (λh=>?_) (λh=>?_);simp at h;let⟨k,H⟩:=At h;have v:r.length<(A4 ps).length:=by{simpa using h};rw[Au H];refine Dz 5 (λ_:{ b:Nat // ad=some ⟨b,0,none⟩ }=>HK false (.slice ad (A4 ps).length q) r (A4 (k::ps.drop (r.length+1)))) O (λvs I w G h=>?_) λz=>?_;let⟨a,l,m,A⟩:=TS h;simp only[cd]at m;let⟨b,B⟩:=A (by simp only[A4,Co];omega);exact⟨⟨b,by rw[m.1,B]⟩,h⟩;obtain⟨b,rfl⟩:=z;obtain⟨L,N,R,T⟩:=k;refine DH O<|Er C3 O O (λ_=>⟨by simp,by simpa using h⟩) (by simp)<|DF O<|CR C3 5 ((As (.mk L N R T)).map .imm) O O (λ_ vs I w G h=>by have:=Va h;simpa[Gb,B4]using this) O O (by simp)<|DF O<|Ao [6] [] [(1,6)] O (Wk (.mk L N R T) (O3 W (AF H))) ab O O<|DF O<|Er C3 O O (λ_=>⟨by simp,by simpa using h⟩) (by simp)<|DF O<|IT C3 5 6 7 (zlc false (.slice (some ⟨b,0,none⟩) (A4 ps).length q) r (As (.mk L N R T)) (A4 (ps.drop (r.length+1)))) O O O (by decide) (by{have e:0+((r.length:Int)).toNat*4=r.length*Gb false:=by{simp[Gb]};show Gw _ _ _ 6 b (0+((r.length:Int)).toNat*4) _;rw[e];exact Rk}) ?_;refine fg_ [] O (by simp<;>rfl)<|Dz 7 (λa:{ a:An // vA a=As (.mk L N R T)/\Id a }=>HK false (.slice (some ⟨b,0,none⟩) (A4 ps).length q) (r++[a.1]) (A4 (ps.drop (r.length+1)))) O (λvs I w G h=>?_) λz=>?_;obtain⟨a,F,J⟩:=h;exact⟨⟨a,F⟩,J⟩;obtain⟨a,K,g⟩:=z;refine AR 5 7 O<|Ad (u (r.length+1,r++[a]) (by simp only;omega) ⟨by simp only;omega,by simp,?_,HR D ⟨g,ab⟩⟩) ⟨B8 (Gx (by simp only;omega) (by simp only;omega)),B0⟩ AC O;simp only;rw[Ba H,FH,O4,C];simp[It,A4,K];simp at h;have P:r.length=ps.length:=by{omega};rw[Bu (by omega)];refine Az O<|DH O<|KT 5 3 1 [.slice ad (A4 ps).length q] (A:=Th false (As (.mk f n x ps))) (TD 1 false (As (.mk f n x ps))) O O (λQ I w G h=>?_) ⟨.inl O,.inl O,.inl O,.inr ⟨0,_,rfl,rfl,rfl⟩,ab⟩ ?_;refine⟨f,n,x,.slice ad (A4 ps).length q,r,.bool true,[],⟨?_,D,ab⟩,rfl,?_⟩;rw[CA (by omega)]at C;simp[vA,As,C];exact zjl h;exact Af ⟨_,AC⟩
termination_by t=>SizeOf.sizeOf t
decreasing_by all_goals(have:=Cr (AF H);simp_wf;simp at this;omega)
mutual
def RN:Tm->Prop
 |.mk _ _ _ ks ps=>ks.length<=1000000/\ps.length<=1000000/\(∀p∈ps,Pl p)/\Zf ks
def Zf:L1 Tm->Prop
 |[]=>True
 |k::r=>RN k/\Zf r
end
def Lc:∀{l:L1 Tm} {t:Tm},Zf l->t∈l->RN t
 |[],_,_,h=>by simp at h
 |p::r,t,h,hm=>by rcases Ck.1 hm with rfl|hm;exact h.1;exact Lc h.2 hm
def YP:∀t:Tm,RN t->Tq4 158 [.imm (.agg (dTmc t))] [] (.ret (.agg (TD 1 true (dTmc t))) [(1,some (.hp (Th true (dTmc t))))])
 |.mk o n x ks ps,hw=>by obtain⟨P,Q,S,hw4⟩:=hw;refine Ac C3 func158 O [2,3,4,5,6,7,1,8,9,10]<|DF O<|Ao [4] [] [(1,4)] O (bX (Cz ks) (λc g=>by rw[LF]at g;obtain⟨p,_,rfl⟩:=C7.1 g;simp) (by simpa using P)) ab O O<|DF O<|Ao [5] [] [(1,5)] O (Ti (A4 ps) (λc g=>by rw[D1]at g;obtain⟨p,_,rfl⟩:=C7.1 g;simp) (by simpa using Q)) ab O O<|fg_ [] O (by simp<;>rfl)<|Jo (ids':=[7,1,8,9,10]) 4 6 (λx:Option Addr×Nat=>[.slice x.1 (Cz ks).length x.2]) (λx=>HK true (.slice x.1 (Cz ks).length x.2) [] (Cz ks)) O (λvs I w R h=>Pd h) λy=>?_;obtain⟨ad,q⟩:=y;refine Jo (ids':=[1,8,9,10]) 5 7 (λx:Option Addr×Nat=>[.slice x.1 (A4 ps).length x.2]) (λx=>HK false (.slice x.1 (A4 ps).length x.2) [] (A4 ps)) O (λvs I w R h=>Pd h) λy=>?_;obtain⟨r,f⟩:=y;refine DH O<|Al (λy:Nat×L1 An=>[(18,i7 y.1),(17,i7 ((Cz ks).length)),(16,.raw (.slice ad (Cz ks).length q)),(1,.ref 2 0),(2,.ref 3 0)]) (λy=>[(2,some (.cells 49 5 [i7 o,i7 n,.imm (.str x),.raw (.slice ad (Cz ks).length q),.raw (.slice r (A4 ps).length f)])),(3,some (.cells 49 5 [i7 0,i7 0,.imm (.str []),.nils,.nils])),(6,some (.hp (HK true (.slice ad (Cz ks).length q) y.2 (Cz (ks.drop y.1))))),(7,some (.hp (HK false (.slice r (A4 ps).length f) [] (A4 ps))))]) [1,8,9,10] (λy=>ks.length-y.1) (λy=>y.1<=ks.length/\y.2.length=y.1/\It y.2=Cz (ks.take y.1)/\E0 y.2) (0,[]) ⟨AK _,AP⟩ BD B0 O λy hi B=>?_;obtain⟨i,C⟩:=y;obtain⟨hi1,j,E,V⟩:=hi;simp only at hi1 j E V;subst j;refine DH O<|Aa O (λh=>?_) (λh=>?_);simp at h;let⟨k,T⟩:=At h;rw[Au T];refine Dz 6 (λ_:{ b:Nat // ad=some ⟨b,0,none⟩ }=>HK true (.slice ad (Cz ks).length q) C (Cz (k::ks.drop (C.length+1)))) O (λvs I w R h=>?_) λz=>?_;let⟨a,l,m,e2⟩:=TS h;simp only[cd]at m;let⟨b,s⟩:=e2 (by simp only[Cz,Co];omega);exact⟨⟨b,by rw[m.1,s]⟩,h⟩;obtain⟨b,rfl⟩:=z;obtain⟨F,G,H,J,L⟩:=k;refine DH O<|Er C3 O O (λ_=>⟨by simp,by simpa using h⟩) (by simp)<|DF O<|CR C3 6 ((dTmc (.mk F G H J L)).map .imm) O O (λ_ vs I w R h=>by have:=Va h;simpa[Gb,B4]using this) O O (by simp)<|DF O<|Ao [8] [] [(1,8)] O (YP (.mk F G H J L) (Lc hw4 (AF T))) ab O O<|DF O<|Er C3 O O (λ_=>⟨by simp,by simpa using h⟩) (by simp)<|DF O<|IT C3 6 8 9 (zlc true (.slice (some ⟨b,0,none⟩) (Cz ks).length q) C (dTmc (.mk F G H J L)) (Cz (ks.drop (C.length+1)))) O O O (by decide) (by{have e:0+((C.length:Int)).toNat*5=C.length*Gb true:=by{simp[Gb]};show Gw _ _ _ 8 b (0+((C.length:Int)).toNat*5) _;rw[e];exact Rk}) ?_;refine fg_ [] O (by simp<;>rfl)<|Dz 9 (λa:{ a:An // vA a=dTmc (.mk F G H J L)/\Id a }=>HK true (.slice (some ⟨b,0,none⟩) (Cz ks).length q) (C++[a.1]) (Cz (ks.drop (C.length+1)))) O (λvs I w R h=>?_) λz=>?_;obtain⟨a,u,v⟩:=h;exact⟨⟨a,u⟩,v⟩;obtain⟨a,ha,W⟩:=z;refine AR 6 9 O<|Ad (B (C.length+1,C++[a]) (by simp only;omega) ⟨by simp only;omega,by simp,?_,HR V ⟨W,ab⟩⟩) ⟨B8 (Gx (by simp only;omega) (by simp only;omega)),B0⟩ B0 O;simp only;rw[Ba T,JZ,O4,E];simp[It,Cz,ha];simp at h;have hl:C.length=ks.length:=by{omega};rw[Bu (by omega)];rw[CA (by omega)]at E;clear B;refine Az O<|DH O<|Al (λy:Nat×L1 An=>[(33,i7 y.1),(32,i7 ((A4 ps).length)),(31,.raw (.slice r (A4 ps).length f)),(1,.ref 2 0),(2,.ref 3 0)]) (λy=>[(2,some (.cells 49 5 [i7 o,i7 n,.imm (.str x),.raw (.slice ad (Cz ks).length q),.raw (.slice r (A4 ps).length f)])),(3,some (.cells 49 5 [i7 0,i7 0,.imm (.str []),.nils,.nils])),(6,some (.hp (HK true (.slice ad (Cz ks).length q) C []))),(7,some (.hp (HK false (.slice r (A4 ps).length f) y.2 (A4 (ps.drop y.1)))))]) [8,1,9,10] (λy=>ps.length-y.1) (λy=>y.1<=ps.length/\y.2.length=y.1/\It y.2=A4 (ps.take y.1)/\E0 y.2) (0,[]) ⟨AK _,AP⟩ BD B0 O λy hi B=>?_;obtain⟨i,D⟩:=y;obtain⟨hj1,A,N,d⟩:=hi;simp only at hj1 A N d;subst A;refine DH O<|Aa O (λh=>?_) (λh=>?_);simp at h;let⟨k,T⟩:=At h;rw[Au T];refine Dz 7 (λ_:{ b:Nat // r=some ⟨b,0,none⟩ }=>HK false (.slice r (A4 ps).length f) D (A4 (k::ps.drop (D.length+1)))) O (λvs I w R h=>?_) λz=>?_;let⟨a,l,m,e2⟩:=TS h;simp only[cd]at m;let⟨b,s⟩:=e2 (by simp only[A4,Co];omega);exact⟨⟨b,by rw[m.1,s]⟩,h⟩;obtain⟨b,rfl⟩:=z;obtain⟨K,G,H,L⟩:=k;refine DH O<|Er C3 O O (λ_=>⟨by simp,by simpa using h⟩) (by simp)<|DF O<|CR C3 7 ((As (.mk K G H L)).map .imm) O O (λ_ vs I w R h=>by have:=Va h;simpa[Gb,B4]using this) O O (by simp)<|DF O<|Ao [1] [] [(1,1)] O (Wk (.mk K G H L) (S _ (AF T))) ab O O<|DF O<|Er C3 O O (λ_=>⟨by simp,by simpa using h⟩) (by simp)<|DF O<|IT C3 7 1 9 (zlc false (.slice (some ⟨b,0,none⟩) (A4 ps).length f) D (As (.mk K G H L)) (A4 (ps.drop (D.length+1)))) O O O (by decide) (by{have e:0+((D.length:Int)).toNat*4=D.length*Gb false:=by{simp[Gb]};show Gw _ _ _ 1 b (0+((D.length:Int)).toNat*4) _;rw[e];exact Rk}) ?_;refine fg_ [] O (by simp<;>rfl)<|Dz 9 (λa:{ a:An // vA a=As (.mk K G H L)/\Id a }=>HK false (.slice (some ⟨b,0,none⟩) (A4 ps).length f) (D++[a.1]) (A4 (ps.drop (D.length+1)))) O (λvs I w R h=>?_) λz=>?_;obtain⟨a,u,v⟩:=h;exact⟨⟨a,u⟩,v⟩;obtain⟨a,ha,W⟩:=z;refine AR 7 9 O<|Ad (B (D.length+1,D++[a]) (by simp only;omega) ⟨by simp only;omega,by simp,?_,HR d ⟨W,ab⟩⟩) ⟨B8 (Gx (by simp only;omega) (by simp only;omega)),B0⟩ B0 O;simp only;rw[Ba T,FH,O4,N];simp[It,A4,ha];simp at h;rw[Bu (by omega)];rw[CA (by omega)]at N;refine Az O<|DH O<|vC (ids':=[1,9,10]) 6 7 8 (λ_:Unit=>TJ (.mk true o n x (.slice ad (Cz ks).length q) C (.slice r (A4 ps).length f) D)) O O (by decide) (λvs us I w b1 b2 u v hd=>⟨(),b1++b2,λb s=>B2.1 s,?_⟩) λ_=>?_;let⟨q1,q2,q3⟩:=zef (o:=o) (n:=n) (x:=x) u v hd;exact⟨q1,q2,q3⟩;refine KT (ids':=[9,10]) 8 3 1 [.slice ad (Cz ks).length q,.slice r (A4 ps).length f] (A:=Th true (dTmc (.mk o n x ks ps))) (TD 1 true (dTmc (.mk o n x ks ps))) O O (λus I w R h=>?_) ⟨.inl O,.inl O,.inl O,.inr ⟨0,_,rfl,rfl,rfl⟩,.inr ⟨1,_,rfl,rfl,rfl⟩,ab⟩ ?_;exact⟨o,n,x,.slice ad (Cz ks).length q,C,.slice r (A4 ps).length f,D,⟨by simp[vA,dTmc,E,N],V,d⟩,rfl,h⟩;exact Af ⟨_,AC⟩
termination_by t=>SizeOf.sizeOf t
decreasing_by all_goals(have:=Cr (AF T);simp_wf;simp at this;omega)
def iM:∀(vs y f:L1 Value),f.length=vs.length->(∀v∈vs,v.oneCell'=true)->Instr.fill (λi=>some (i*1,1)) (y++f).toArray (vs.zipIdx y.length |>.map λp=>(p.2,p.1))=some (y++vs).toArray
 |[],y,f,h,_=>by have:f=[]:=Iu h;subst this;rfl
 |v::r,y,f,h,z=>by cases f with|nil=>simp at h|cons p q=>{have D:=HH (z v (by simp));simp only[zen,C0,Instr.fill,D];rw[ac (by simp)];have C:=iM r (y++[v]) q (by simpa using h) (λu E=>z u (by simp[E]));simp only[AZ,Co,Cb,Cl,Dj,HZ]at C;rw[<- C];congr 1;simp[Io]}
def Ml (env:Env):Nat->L1 (Nat×Operand)->Option (L1 D)
 |_,[]=>some []
 |i,(j,x)::r=>match Nat.beq i j,EM env x,Ml env (i+1) r with
  |true,some d,some ds=>match d.one with
   |true=>some (d::ds)
   |false=>none
  |_,_,_=>none
structure PBa where
 ds:List D
 dst:Option Nat
 todo:List DI
def So {a:Act}:∀{ps:R0} {i:Nat} {ds:L1 D},Ml env i ps=some ds->(∀x∈ps.map (·.2),∀d,EM env x=some d->X I μ (a.eval x) d)->ps.map (λp=>(p.1,a.eval p.2))=((ps.map λp=>a.eval p.2).zipIdx i).map (λp=>(p.2,p.1))/\RepL I μ (ps.map λp=>a.eval p.2) ds/\∀v∈ps.map (λp=>a.eval p.2),v.oneCell'=true
 |[],i,ds,h,_=>by simp only[Ml,Ci]at h;subst h;exact⟨rfl,⟨rfl,λi v d h=>by simp at h⟩,λv h=>by simp at h⟩
 |(j,x)::r,i,ds,h,C=>by simp only[Ml]at h;split at h;rename_i d L q N R;split at h;rename_i f;cases h;have q:=CU q;subst q;have E:=C x (by simp) d N;let⟨T,G,V⟩:=So (a:=a) R (λy H=>C y (by simp at H ⊢;exact .inr H));refine⟨by simp[T],⟨by simp[G.1],λk v W f z=>?_⟩,λv hv'=>?_⟩;cases k with|zero=>simp at f z;rw[<- f,<- z];exact E|succ k=>{exact G.2 k v W (by simpa using f) (by simpa using z)};simp only[C0,Ck]at hv';rcases hv' with rfl|hv';exact E.one f;exact V v hv';cases h;cases h
def WH:TT:=ttF++[
 (130,⟨.sl 3,false,1,24,[.nils]⟩),
 (358,⟨.func,false,1,8,[.imm .nilfn]⟩)]
def Lf:TTok prog WH:=.of_eq (l:=[4,3,9,49,25,182,45,47,5,23,22,73,46,180,71,43,178,40,41,113,111,28,293,195,1,139,296,190,183,185,187,26,246,191,270,235,233,232,268,312,230,225,262,264,130,358]) (by kernel_rfl)
def qd (f:L1 Pt) (h:run WH n 300 f todo env st aa []=.at k q au ids' ob) (r:A8 ob) (y:Tq1 n F Q k q au ids'):Tq2 n F Q todo env st aa:=JY Lf mixed 300 f h r y
def P3 (h:run WH n 300 [] todo env st aa []=.at k q au ids' ob) (r:Tq1 n F Q k q au ids') (f:A8 ob:=by simp):Tq2 n F Q todo env st aa:=qd [] h f r
def qg (f:L1 Pt) (h:run WH n 300 f todo env st aa []=.at k q au ids' ob) (r:A8 ob) (y:Tq1 n F Q k q au ids'):Tq1 n F Q todo env st aa:=Iw Lf mixed 300 f h r y
def Ra (h:run WH n 300 [] todo env st aa []=.at k q au ids' ob) (r:Tq1 n F Q k q au ids') (f:A8 ob:=by simp):Tq1 n F Q todo env st aa:=qg [] h f r
def qi_ {m:Int} {t:Nat} (h:Fm WH n env todo=some ⟨es,m,sz,e,g,ob,some t,C⟩) (q:Ap g->0<=m/\es[m.toNat]?=some c/\c.length=sz) (f:A8 ob) (r:Tq1 n F Q C ((t,gD g (.ip e c 0))::env) st aa):Tq1 n F Q todo env st aa:=G4 Lf h q f r
def zi4 {t:Nat} (h:Fm WH n env todo=some ⟨es,(i:Int),sz,e,g,ob,some t,C⟩) (q:es[i]?=some c) (r:Tq1 n F Q C ((t,gD g (.ip e c 0))::env) st aa) (y:c.length=sz:=by simp) (f:A8 ob:=by simp):Tq1 n F Q todo env st aa:=qi_ h (λ_=>⟨by omega,by simpa using q,y⟩) f r
def qi_zc {t:Nat} (h:Fm WH n env todo=some ⟨es,(i:Int),sz,e,g,ob,some t,C⟩) (q:es[i]?=some c) (r:Tq1 n F Q C ((t,gD g (.ip e c 0))::env) st aa) (y:c.length=sz:=by simp) (f:A8 ob:=by simp[Ap]):Tq1 n F Q todo env st aa:=qi_ h (λ_=>⟨by omega,by simpa using q,y⟩) f r
mutual
def qK:Tm->Nat
 |.mk _ _ _ ks _=>TE ks 0+1
def TE:L1 Tm->Nat->Nat
 |[],m=>m
 |k::r,m=>TE r (max m (qK k))
end
def bF:∀(ks:L1 Tm) (m:Nat),m<=TE ks m
 |[],m=>by simp[TE]
 |k::r,m=>by have:=bF r (max m (qK k));simp only[TE];omega
def rM (b:Nat) (t:TypeId) (ds:L1 D):Asn where
 P:=λ_ I w bs=>bs=[b]/\∃vs,w.heap[b]?=some (.cells vs t (0,0))/\RepL I noMu vs.toList ds/\∀v∈vs.toList,v.oneCell'=true
 mono:=λh ⟨h1,vs,h2,h3,h4⟩=>⟨h1,vs,h2,h3.mono h (Mu.le_refl _),h4⟩
 loc:=λh ⟨h1,vs,h2,h3⟩=>⟨h1,vs,(h b (by simp[h1])).trans h2,h3⟩
mutual
def mE (id b:Nat):D->D
 |.ref i off=>bif Nat.beq i id then .raw (.pointer (some ⟨b,off,none⟩))else .ref i off
 |.agg cs=>.agg (mD id b cs)
 |.tup cs=>.tup (mD id b cs)
 |d=>d
def mD (id b:Nat):L1 D->L1 D
 |[]=>[]
 |d::r=>mE id b d::mD id b r
end
def xQ (id b:Nat):Env->Env
 |[]=>[]
 |(t,d)::r=>(t,mE id b d)::xQ id b r
def zm7 (id b:Nat):Blk->Blk
 |.cells t sz cs=>.cells t sz (mD id b cs)
 |x=>x
def UH (id b:Nat):St->St
 |[]=>[]
 |(i,some x)::r=>(i,some (zm7 id b x))::UH id b r
 |(i,none)::r=>(i,none)::UH id b r
def Lk (id b:Nat):∀l:L1 D,mD id b l=l.map (mE id b)
 |[]=>rfl
 |d::r=>by simp[mD,Lk id b r]
def X.refd {id:Nat} (z:μ id=some (.pointer (some ⟨b,0,none⟩))) (h:X I μ v d):X I μ v (mE id b d):=by have L:∀{l:L1 D} {i:Nat} {x:D},(mD id b l)[i]?=some x->∃y,l[i]?=some y/\x=mE id b y:=by{intro l i x C;rw[Lk,Ct]at C;cases G:l[i]? with|none=>rw[G]at C;cases C|some y=>{rw[G]at C;cases C;exact⟨y,rfl,rfl⟩}};induction h with|ref E i off h=>{simp only[mE];cases g:Nat.beq i id with|false=>exact .ref E i off h|true=>{rw[CU g,z]at h;cases h;exact .raw _ O}}|agg cs ds G N _ W=>refine .agg cs _ (by rw[Lk,C6,G]) N λi c x R C=>?_;obtain⟨y,e,rfl⟩:=L C;exact W i c y R e|tup cs ds G _ W=>refine .tup cs _ (by rw[Lk,C6,G]) λi c x R C=>?_;obtain⟨y,e,rfl⟩:=L C;exact W i c y R e|undef v=>exact .undef v|imm v x C=>exact .imm v x C|nils=>exact .nils|own i q a r z=>exact .own i q a r z|ip b o t cs off vs H T=>exact .ip b o t cs off vs H T|elp b i q r k sz f z=>exact .elp b i q r k sz f z|mapr i b z=>exact .mapr i b z|iter i b z=>exact .iter i b z|fn f first r j m n R N p _ _=>{exact .fn f first r j m n R N p}|iface t v d h _=>exact .iface t v d h|guard c V v d h s _=>exact .guard c V v d h s|clip a q es u=>exact .clip a q es u|slc b i off q r z G C=>exact .slc b i off q r z G C|yld b i z=>exact .yld b i z|raw v h=>exact .raw v h|hv v i k w cs h A N=>{exact .hv v i k w cs h A N}
def sN {id b:Nat}:∀{env:Env} {t:Nat} {d:D},lk (xQ id b env) t=some d->∃d0,lk env t=some d0/\d=mE id b d0
 |[],t,d,h=>by simp[xQ,lk]at h
 |(s,x)::r,t,d,h=>by simp only[xQ]at h;by_cases f:s=t;subst f;rw[A7]at h ⊢;cases h;exact⟨x,rfl,rfl⟩;rw[AB _ _ f]at h ⊢;exact sN h
def QZ {id b i:Nat} {x:Blk}:∀{st:St},Aw (UH id b st) i x->∃f,Aw st i f/\x=zm7 id b f
 |[],h=>by simp[UH,Aw,lk]at h
 |(k,some y)::r,h=>by simp only[UH]at h;rcases A1.1 h with⟨q,z⟩|⟨q,z⟩;exact⟨y,by unfold Aw;rw[q,A7],z⟩;let⟨f,C,D⟩:=QZ z;exact⟨f,A1.2 (.inr ⟨q,C⟩),D⟩
 |(k,none)::r,h=>by simp only[UH]at h;let⟨q,z⟩:=B3.1 h;let⟨f,C,D⟩:=QZ z;exact⟨f,B3.2 ⟨q,C⟩,D⟩
def Rq {id b i:Nat} {x:Blk}:∀{st:St},Aw st i x->Aw (UH id b st) i (zm7 id b x)
 |[],h=>by simp[Aw,lk]at h
 |(k,some y)::r,h=>by simp only[UH];rcases A1.1 h with⟨f,q⟩|⟨f,q⟩;exact A1.2 (.inl ⟨f,by rw[q]⟩);exact A1.2 (.inr ⟨f,Rq q⟩)
 |(k,none)::r,h=>by simp only[UH];let⟨f,q⟩:=B3.1 h;exact B3.2 ⟨f,Rq q⟩
def bI (id j:Nat) {t:TypeId} (e:lk st id=some (some (.cells t sz ds))) (T:FQ ds=[]) (h:∀b,DGo P n F Q todo (xQ id b env) ((j,some (.hp (rM b t ds)))::(id,none)::UH id b st) ids'):DGo P n F Q todo env st (j::ids'):=by
 refine Es λI μ a w N=>?_;obtain⟨g,V,k,b,W,rfl,f,C,D⟩:=N.blk id _ e;let⟨u,A⟩:=N.toStRep.retell (a8:=UH id b st) (λi x c=>by
  obtain⟨l,R,rfl⟩:=QZ c;refine⟨l,R,λgb G=>?_⟩;cases l with
  |cells t sz cs=>
   obtain⟨k,E,W,B,J,m,K⟩:=G;exact⟨by rw[Lk,C6,k],E,W,B,J,⟨by rw[Lk,C6,m.1],λi v y S H=>by
    rw[Lk,Ct]at H;cases r:cs[i]? with
    |none=>rw[r]at H;cases H
    |some z=>rw[r]at H;cases H;exact(m.2 i v z S r).refd V⟩,K⟩
  |_=>exact G)
 let⟨R,q2,q3⟩:=StRep.relay (R:=[id]) (new:=[(j,Tz [] [b],.hp (rM b t ds))]) (ids':=ids') u
  (λp L E G=>by
   rw[AL.1 L]at G;have:=BM.1 G;rw[AL.1 this];exact⟨id,_,_,by simp,Rq e,V,rfl⟩)
  (λp L q hq b _ _=>by rw[AL.1 L,AL.1 hq]) (U.le_refl I) N.imm (λb o h=>.inl h)
  (λ_ p L=>by rw[AL.1 L];exact⟨[],[b],rfl,rfl,W,f,C.sub (λj s=>by rw[T]at s;cases s),D⟩)
 refine⟨I,_,xQ id b env,_,ids',q2,λt d hd=>?_,A.trans q3,.of_le R,h b⟩;obtain⟨d0,h0,rfl⟩:=sN hd;exact((N.env t d0 h0).refd V).mono (U.le_refl I) R
abbrev Is:=L1 (Bool×Nat)
def Eb:An->Bool×Nat->Option (An×Nat×Nat)
 |.mk s _ _ _ v ks u ps,(r,k)=>match r with
  |false=>(ks[k]?).map λc=>(c,B4 v,k*Gb s)
  |true=>match s with
   |true=>(ps[k]?).map λc=>(c,B4 u,k*Gb false)
   |false=>none
 |.im _ _ _,_=>none
def D5 (a:An) (b off:Nat):Is->Option (An×Nat×Nat)
 |[]=>some (a,b,off)
 |p::r=>match Eb a p with
  |some (c,E,f)=>D5 c E f r
  |none=>none
def QX:An->Bool×Nat->An->An
 |.mk s o n x v ks u ps,(r,k),c=>match r with
  |false=>.mk s o n x v (ks.set k c) u ps
  |true=>.mk s o n x v ks u (ps.set k c)
 |.im s cs f,_,_=>.im s cs f
def K8 (a:An):Is->An->An
 |[],f=>f
 |p::r,f=>match Eb a p with
  |some (c,_,_)=>QX a p (K8 c r f)
  |none=>a
structure Upd (w w':World) (b off sz:Nat):Prop where
 other:∀k,k≠b->w'.heap[k]?=w.heap[k]?
 same:∀ca ty k,w.heap[b]?=some (.cells ca ty k)->∃cur',w'.heap[b]?=some (.cells cur' ty k)/\cur'.size=ca.size/\∀i,(i<off\/off+sz<=i)->cur'[i]?=ca[i]?
def Upd.row (h:Upd w w' b off sz) {y:TypeId} {s:Nat} {len:Nat} (z:To w y s v len):To w' y s v len:=by rcases z with z|⟨C,E,f,q,rfl,D,G,H,L⟩;exact .inl z;by_cases e:E=b;subst e;let⟨r,N,R,_⟩:=h.same q y (0,0) D;exact .inr ⟨C,E,f,r,rfl,N,G,H,by rw[R,L]⟩;exact .inr ⟨C,E,f,q,rfl,(h.other E e).trans D,G,H,L⟩
def Upd.at (h:Upd w w' b off sz) {q f:Nat} (G:Wx w q f cs) (H:q=b->f+cs.length<=off\/off+sz<=f):Wx w' q f cs:=by obtain⟨r,z,k,C,D⟩:=G;by_cases e:q=b;subst e;let⟨y,L,T,N⟩:=h.same r z k C;refine⟨y,z,k,L,λj c E=>?_⟩;have R:=(A9.1 E).1;rw[N (f+j) (by rcases H rfl with h|h<;>omega)];exact D j c E;exact⟨r,z,k,(h.other q e).trans C,D⟩
def kX {ca:Array Value} {r:TypeId} {k:Nat×Nat} {off0:Nat} (h:w.heap[b]?=some (.cells ca r k)) (y:off+cs.length<=ca.size) (E:off0<=off/\off+cs.length<=off0+sz):Upd w (w.setRow b (ca.toList.take off++cs++ca.toList.drop (off+cs.length)).toArray) b off0 sz:=by refine⟨λk z=>az w b k _ z,λf C G q=>?_⟩;rw[h]at q;cases q;refine⟨_,IM h,?_,λi hi=>?_⟩;have D:ca.toList.length=ca.size:=PV;show(ca.toList.take off++cs++ca.toList.drop (off+cs.length)).length=ca.size;rw[AZ,AZ,Gt,Jg];omega;have:=H5 (ca:=ca.toList) (off:=off) (cs:=cs) (by simpa using y) i;rcases hi with hi|hi;rw[ae (by omega)]at this;simpa using this;rw[ac (by omega),ac (by omega)]at this;simpa using this
def Jm {a c:An} {p:Bool×Nat} (h:Eb a p=some (c,b,off)):b∈F4 a/\(∀k∈F4 c,k∈F4 a)/\((F4 a).Nodup->(F4 c).Nodup/\b∉F4 c):=by rcases a with⟨s,o,n,x,v,ks,u,ps⟩|⟨T,N,V⟩;(case im=>simp[Eb]at h);obtain⟨r,k⟩:=p;have f:∀{l:L1 An} {i:Nat} {c:An},l[i]?=some c->∀k∈F4 c,k∈D3 l:=by{intro l;induction l with|nil=>intro i c h;simp at h|cons y r E=>{intro i c h k C;simp only[D3,B2];cases i with|zero=>simp at h;subst h;exact .inl C|succ i=>{exact .inr (E (by simpa using h) k C)}}};have nd:∀{l:L1 An} {i:Nat} {c:An},l[i]?=some c->(D3 l).Nodup->(F4 c).Nodup:=by{intro l;induction l with|nil=>intro i c h;simp at h|cons y r E=>{intro i c h q;simp only[D3]at q;have q:=CV.1 q;cases i with|zero=>simp at h;subst h;exact q.1|succ i=>{exact E (by simpa using h) q.2.1}}};have L:∀{l:L1 An} {v:Value} {i:Nat} {c:An},l[i]?=some c->Da v l.length=[B4 v]:=by{intro l v i c h;cases l with|nil=>simp at h|cons=>{rfl}};cases r with|false=>simp only[Eb,EV,AN]at h;obtain⟨R,z,rfl,rfl,rfl⟩:=h;simp only[F4,L z];refine⟨by simp,λk C=>by simp[f z k C],λq=>?_⟩;have G:=(CV.1 q).1;have D:=CV.1 G;exact⟨nd z D.2.1,λH=>D.2.2 _ (by simp) _ (f z _ H) O⟩|true=>{cases s with|false=>simp[Eb]at h|true=>{simp only[Eb,EV,AN]at h;obtain⟨R,z,rfl,rfl,rfl⟩:=h;simp only[F4,L z];refine⟨by simp,λk C=>by simp[f z k C],λq=>?_⟩;have G:=(CV.1 q).2.1;have D:=CV.1 G;exact⟨nd z D.2.1,λH=>D.2.2 _ (by simp) _ (f z _ H) O⟩}}
def aL {a c:An} {p:Bool×Nat} (h:Eb a p=some (c,b,off)) (q:ID I w a):Wx w b off (cA c)/\ID I w c:=by rcases a with⟨s,o,n,x,v,ks,u,ps⟩|⟨E,C,G⟩;(case im=>simp[Eb]at h);obtain⟨r,k⟩:=p;simp only[ID]at q;cases r with|false=>simp only[Eb,EV,AN]at h;obtain⟨D,y,rfl,rfl,rfl⟩:=h;let⟨_,f,z⟩:=Ev q.1.2 y;rw[BS]at f;exact⟨f,z⟩|true=>{cases s with|false=>simp[Eb]at h|true=>{simp only[Eb,EV,AN]at h;obtain⟨D,y,rfl,rfl,rfl⟩:=h;let⟨_,f,z⟩:=Ev (q.2 rfl).2 y;rw[BS]at f;exact⟨f,z⟩}}
def TU {I:U} {w:World}:∀{p:Is} {a:An} {b off:Nat} {a':An} {E f:Nat},D5 a b off p=some (a',E,f)->Wx w b off (cA a)->ID I w a->Wx w E f (cA a')/\ID I w a'
 |[],a,b,off,a',E,f,h,z,y=>by simp only[D5,Ci,AN]at h;obtain⟨rfl,rfl,rfl⟩:=h;exact⟨z,y⟩
 |q::r,a,b,off,a',E,f,h,z,y=>by simp only[D5]at h;split at h;rename_i c L C D;let⟨G,H⟩:=aL D y;exact TU h G H;cases h
def M2:∀{p:Is} {a:An} {b off:Nat} {a':An} {E f:Nat},D5 a b off p=some (a',E,f)->(p=[]/\E=b/\f=off/\a'=a)\/(p≠[]/\E∈F4 a)
 |[],a,b,off,a',E,f,h=>by simp only[D5,Ci,AN]at h;obtain⟨rfl,rfl,rfl⟩:=h;exact .inl ⟨rfl,rfl,rfl,rfl⟩
 |q::r,a,b,off,a',E,f,h=>by simp only[D5]at h;split at h;rename_i c G y z;let⟨C,D,_⟩:=Jm z;refine .inr ⟨by simp,?_⟩;rcases M2 h with⟨_,rfl,_⟩|⟨_,h⟩;exact C;exact D _ h;cases h
def zk0 (a c:An) (p:Bool×Nat):cA (QX a p c)=cA a:=by rcases a with⟨s,o,n,x,v,ks,u,ps⟩|⟨h,f,q⟩;(case im=>rfl);obtain⟨r,k⟩:=p;cases r<;>cases s<;>rfl
def Wy {I:U} {w w':World} {s:Bool} {b E G sz:Nat} (L:Upd w w' E G sz) {c R:An}:∀{l:L1 An} {i k:Nat},Ef I w s b i l->l[k]?=some c->C9 R=s->Wx w' b ((i+k)*Gb s) (cA R)->ID I w' R->(∀x∈D3 l,x=E->x∈F4 c)->(D3 l).Nodup->(E=b->G=(i+k)*Gb s/\sz=Gb s)->Ef I w' s b i (l.set k R)
 |[],i,k,_,h,_,_,_,_,_,_=>by simp at h
 |y::r,i,0,f,h,W,p,a,H,N,T=>by simp at h;subst h;simp only[Ef]at f;simp only[nN,Ef];simp only[D3]at H N;have C:=CV.1 N;refine⟨⟨W,p,a⟩,?_⟩;have d:∀x∈D3 r,x≠E:=λx D e=>by{subst e;exact C.2.2 x (H x (OU _ D) O) x D O};have:∀{l:L1 An} {j:Nat},i+1<=j->(∀x∈D3 l,x≠E)->Ef I w s b j l->Ef I w' s b j l:=by{intro l;induction l with|nil=>intro j _ _ _;simp[Ef]|cons z q g=>{intro j v m f;simp only[Ef]at f ⊢;simp only[D3,B2]at m;refine⟨⟨f.1.1,L.at f.1.2.1 λe=>?_,Kd (λk V=>L.other k (m k (.inl V))) f.1.2.2⟩,g (by omega) (λx D=>m x (.inr D)) f.2⟩;let⟨n,t⟩:=T e.symm;right;rw[n,t,Gs,<- JN];exact Ip _ v}};exact this (BO _) d f.2
 |y::r,i,k+1,f,h,W,p,a,H,N,T=>by simp only[Ef]at f;simp only[ZT,Ef];simp only[D3]at H N;have C:=CV.1 N;have u:r[k]?=some c:=by{simpa using h};have o:∀x∈F4 c,x∈D3 r:=by{have:∀{l:L1 An} {i:Nat},l[i]?=some c->∀k∈F4 c,k∈D3 l:=by{intro l;induction l with|nil=>intro i h;simp at h|cons y r g=>{intro i h k V;simp only[D3,B2];cases i with|zero=>simp at h;subst h;exact .inl V|succ i=>{exact .inr (g (by simpa using h) k V)}}};exact this u};refine⟨⟨f.1.1,L.at f.1.2.1 λe=>?_,Kd (λx D=>L.other x λe=>?_) f.1.2.2⟩,Wy L f.2 u W (by rwa [show i+1+k=i+(k+1) by omega]) a (λx D e=>H x (OU _ D) e) C.2.1 (λe=>by rw[show i+1+k=i+(k+1) by omega];exact T e)⟩;let⟨n,t⟩:=T e.symm;left;rw[n,RI f.1.2.2,f.1.1,<- JN];exact Ip _ (by omega);subst e;exact C.2.2 x D x (o x (H x (Ko _ D) O)) O
def cK {I:U} {w w':World}:∀{p:Is} {a:An} {b off:Nat} {a':An} {E f:Nat} {a2:An},D5 a b off p=some (a',E,f)->Upd w w' E f (Gb (C9 a'))->C9 a2=C9 a'->Wx w' E f (cA a2)->ID I w' a2->Wx w b off (cA a)->ID I w a->b∉F4 a->(F4 a).Nodup->Wx w' b off (cA (K8 a p a2))/\ID I w' (K8 a p a2)/\C9 (K8 a p a2)=C9 a
 |[],a,b,off,a',E,f,a2,h,G,F,S,h2,_,_,_,_=>by simp only[D5,Ci,AN]at h;obtain⟨rfl,rfl,rfl⟩:=h;exact⟨S,h2,F⟩
 |q::r,a,b,off,a',E,f,a2,h,G,F,S,h2,h3,g,hb,j=>by have J:=M2 h;simp only[D5]at h;simp only[K8];split at h;{rename_i c b1 K D;let⟨k1,k2,k3⟩:=Jm D;let⟨k4,k5⟩:=k3 j;let⟨k6,k7⟩:=aL D g;let⟨i1,i2,i3⟩:=cK h G F S h2 k6 k7 k5 k4;have hbb:E∈F4 a:=by{rcases J with⟨h,_⟩|⟨_,h⟩;cases h;exact h};have L:b≠E:=λe=>hb (e▸hbb);rw[zk0];refine⟨G.at h3 λe=>absurd e L,?_,?_⟩;{rcases a with⟨s,o,n,x,v,ks,u,ps⟩|⟨s0,cs0,c0⟩;(case im=>simp[Eb]at D);obtain⟨rr,k⟩:=q;have m:E=b1\/E∈F4 c:=by{rcases M2 h with⟨_,e,_⟩|⟨_,h⟩;exact .inl e;exact .inr h};have B:E=b1->f=K/\a'=c:=λe=>by{rcases M2 h with⟨_,_,P,H⟩|⟨_,h⟩;exact⟨P,H⟩;exact absurd (e▸h) k5};simp only[ID]at g;simp only[F4]at j;cases rr with|false=>{simp only[Eb,EV,AN]at D;obtain⟨t,A,rfl,rfl,rfl⟩:=D;simp only[QX,ID,Kl];have N:=CV.1 j;have R:=CV.1 N.1;have T:Da v ks.length=[B4 v]:=by{cases ks with|nil=>simp at A|cons=>rfl};have z:C9 t=s:=(Ev g.1.2 A).1;have V:∀x∈F4 t,x∈D3 ks:=λx C=>by{have:∀{l:L1 An} {i:Nat},l[i]?=some t->∀k∈F4 t,k∈D3 l:=by{intro l;induction l with|nil=>intro i h;simp at h|cons y r ih=>{intro i h k D;simp only[D3,B2];cases i with|zero=>simp at h;subst h;exact .inl D|succ i=>{exact .inr (ih (by simpa using h) k D)}}};exact this A x C};have W:B4 v∉D3 ks:=λh=>R.2.2 _ (by rw[T];simp) _ h O;refine⟨⟨G.row g.1.1,?_⟩,λF=>?_⟩;refine Wy G g.1.2 A (i3.trans z) (by rw[BS];exact i1) i2 (λx C e=>?_) R.2.1 (λe=>?_);rcases m with H|h;exact absurd (by rw[<- H,<- e];exact C) W;rw[e];exact h;rw[BS];let⟨P,H⟩:=B e;exact⟨P,by rw[H,z]⟩;subst F;let⟨m1,Q⟩:=g.2 rfl;have d:∀x∈Da u ps.length++D3 ps,x≠E:=λx C e=>by{subst e;refine N.2.2 x ?_ x C O;rcases m with H|h;rw[H,T];simp;simp[V _ h]};refine⟨G.row m1,Hq (λL=>G.other _ λe=>?_) (λx C=>G.other x λe=>d x (by simp[C]) e) Q⟩;exact d _ (by cases ps with|nil=>exact absurd rfl L|cons=>simp[Da]) e}|true=>{cases s with|false=>simp[Eb]at D|true=>{simp only[Eb,EV,AN]at D;obtain⟨t,A,rfl,rfl,rfl⟩:=D;simp only[QX,ID,Kl];have N:=CV.1 j;have R:=CV.1 N.2.1;have T:Da u ps.length=[B4 u]:=by{cases ps with|nil=>simp at A|cons=>rfl};let⟨m1,Q⟩:=g.2 rfl;have z:C9 t=false:=(Ev Q A).1;have V:∀x∈F4 t,x∈D3 ps:=λx C=>by{have:∀{l:L1 An} {i:Nat},l[i]?=some t->∀k∈F4 t,k∈D3 l:=by{intro l;induction l with|nil=>intro i h;simp at h|cons y r ih=>{intro i h k D;simp only[D3,B2];cases i with|zero=>simp at h;subst h;exact .inl D|succ i=>{exact .inr (ih (by simpa using h) k D)}}};exact this A x C};have W:B4 u∉D3 ps:=λh=>R.2.2 _ (by rw[T];simp) _ h O;have d:∀x∈Da v ks.length++D3 ks,x≠E:=λx C e=>by{subst e;refine N.2.2 x C x ?_ O;rcases m with H|h;rw[H,T];simp;simp[V _ h]};refine⟨⟨G.row g.1.1,Hq (λL=>G.other _ λe=>d _ (by cases ks with|nil=>exact absurd rfl L|cons=>simp[Da]) e) (λx C=>G.other x λe=>d x (by simp[C]) e) g.1.2⟩,λ_=>⟨G.row m1,?_⟩⟩;refine Wy G Q A (i3.trans z) (by rw[BS];exact i1) i2 (λx C e=>?_) R.2.1 (λe=>?_);rcases m with H|h;exact absurd (by rw[<- H,<- e];exact C) W;rw[e];exact h;rw[BS];let⟨P,H⟩:=B e;exact⟨P,by rw[H,z]⟩}}};{rcases a with⟨s,o,n,x,v,ks,u,ps⟩|⟨s0,cs0,c0⟩;(case im=>rfl);obtain⟨rr,k⟩:=q;cases rr<;>rfl}};cases h
def zme (l:L1 Int):L1 (L1 V):=l.map λx=>[.int .i64 x]
@[simp] theorem dInts_length (l:L1 Int):(zme l).length=l.length:=by simp[zme]
def zTm:Tm:=.mk 0 0 [] [] []
def kidT:Tm->Int->Option Tm
 |.mk _ _ _ ks _,k=>if 0<=k then ks[k.toNat]? else none
def ze7:Tm->L1 Int->Option Tm
 |t,[]=>some t
 |t,k::r=>match kidT t k with
  |some c=>ze7 c r
  |none=>none
mutual
def cH:∀p:Y,Bn p<=1000000->Pl p
 |.mk s n x ps,h=>by simp only[Bn]at h;have f:=Xp ps (by omega);exact⟨by have:=f.1;omega,f.2⟩
def Xp:∀l:L1 Y,A6 l<=1000000->l.length<=A6 l/\QM l
 |[],_=>⟨by simp[A6],ab⟩
 |p::r,h=>by simp only[A6]at h;have q:=cH p (by omega);have f:=Xp r (by omega);have y:1<=Bn p:=by{obtain⟨_,_,_,_⟩:=p;simp only[Bn];omega};exact⟨by have:=f.1;simp only[Co,A6];omega,q,f.2⟩
end
def Yc {op n:Int} {k:Nat} (h:Bl op n x k p=true):p<=5:=by have f:∀{n:Int} {x:Z} {p:Nat} {a b:Bool},AT n x p a b false=true->p<=5:=by{intro n x p a b h;simp only[AT,Vn,Am,ao]at h;have:=h.2;omega};unfold Bl at h;by_cases q:op=15;subst q;simp[DP]at h;omega;{by_cases z:op=1;{rw[ae z]at h;simp only[Am]at h;first|exact f h.2|exact f h.1.2};rw[ac z]at h;by_cases C:op=2;{rw[ae C]at h;simp only[Am]at h;first|exact f h.2|exact f h.1.2};rw[ac C]at h;by_cases D:op=3\/op=21\/op=25\/op=28;{rw[ae D]at h;simp only[Am]at h;first|exact f h.2|exact f h.1.2};rw[ac D]at h;by_cases E:op=4;{rw[ae E]at h;simp only[Am]at h;first|exact f h.2|exact f h.1.2};rw[ac E]at h;by_cases G:op=5\/op=27;{rw[ae G]at h;simp only[Am]at h;first|exact f h.2|exact f h.1.2};rw[ac G]at h;by_cases H:op=7;{rw[ae H]at h;simp only[Am]at h;first|exact f h.2|exact f h.1.2};rw[ac H]at h;by_cases L:op=8;{rw[ae L]at h;simp only[Am]at h;first|exact f h.2|exact f h.1.2};rw[ac L]at h;by_cases N:op=14;{rw[ae N]at h;simp only[Am]at h;first|exact f h.2|exact f h.1.2};rw[ac N]at h;rw[ac q]at h;by_cases R:op=16\/op=17\/op=19\/op=20\/op=23\/op=26;{rw[ae R]at h;simp only[Am]at h;first|exact f h.2|exact f h.1.2};rw[ac R]at h;by_cases r:op=24;{rw[ae r]at h;simp only[Am]at h;first|exact f h.2|exact f h.1.2};rw[ac r]at h;by_cases y:op=6\/op=9\/op=10\/op=11\/op=12\/op=13\/op=18\/op=22;{rw[ae y]at h;simp only[Am]at h;first|exact f h.2|exact f h.1.2};rw[ac y]at h;cases h}
mutual
def rO:∀t:Tm,AV t=true->Hn t<=1000000->RN t
 |.mk C n x ks ps,h,q=>by simp only[AV,Am]at h;obtain⟨⟨r,y⟩,z⟩:=h;simp only[Hn]at q;have D:=aE ks;have f:=Yc r;refine⟨by omega,by omega,λp f=>?_,cG ks z (by omega)⟩;have:=XV (CJ.1 y p f);exact cH p (by omega)
def cG:∀f:L1 Tm,Br f=true->Eu f<=1000000->Zf f
 |[],_,_=>trivial
 |t::r,h,q=>by simp only[Br,Am]at h;simp only[Eu]at q;exact⟨rO t h.1 (by omega),cG r h.2 (by omega)⟩
end
def O2 (h:Cs t=true):RN t:=by let⟨_,_,_,f⟩:=IK t h;simp only[Cs,Am]at h;exact rO t h.2 (by omega)
mutual
def Iq:Y->Y->Bool
 |.mk s n x ps,.mk h q r f=>s==h&&n==q&&x==r&&EX ps f
def EX:L1 Y->L1 Y->Bool
 |[],[]=>true
 |a::r,b::q=>Iq a b&&EX r q
 |_,_=>false
end
mutual
def MJ:∀a b:Y,Iq a b=true↔a=b
 |.mk s n x ps,.mk h q r f=>by simp only[Iq,Am,ao,Y.mk.injEq,NC ps f,dn]
def NC:∀a b:L1 Y,EX a b=true↔a=b
 |[],[]=>by simp[EX]
 |a::r,b::q=>by simp only[EX,Am,MJ a b,NC r q,BP]
 |[],_::_=>by simp[EX]
 |_::_,[]=>by simp[EX]
end
mutual
def NV:Tm->Tm->Bool
 |.mk o n x ks ps,.mk q r y f h=>o==q&&n==r&&x==y&&EX ps h&&JS ks f
def JS:L1 Tm->L1 Tm->Bool
 |[],[]=>true
 |a::r,b::q=>NV a b&&JS r q
 |_,_=>false
end
mutual
def iZ:∀a b:Tm,NV a b=true↔a=b
 |.mk o n x ks ps,.mk q r y f h=>by simp only[NV,Am,ao,Tm.mk.injEq,NC ps h,RD ks f,dn];constructor;rintro ⟨a,b,c,d,e⟩;exact⟨a,b,c,e,d⟩;rintro ⟨a,b,c,d,e⟩;exact⟨a,b,c,e,d⟩
def RD:∀a b:L1 Tm,JS a b=true↔a=b
 |[],[]=>by simp[JS]
 |a::r,b::q=>by simp only[JS,Am,iZ a b,RD r q,BP]
 |[],_::_=>by simp[JS]
 |_::_,[]=>by simp[JS]
end
def RC {a b:L1 Y} (h:a.length≠b.length):EX a b=false:=by cases f:EX a b with|false=>rfl|true=>{exact absurd (af List.length ((NC a b).1 f)) h}
def zao {a b:L1 Tm} (h:a.length≠b.length):JS a b=false:=by cases f:JS a b with|false=>rfl|true=>{exact absurd (af List.length ((RD a b).1 f)) h}
def zaz {f:L1 Nat} {n:Int} (h:(Th true (dTmc (.mk o n x ks ps))).P vs I w f):∃y:{ y:Value×L1 An×Value×L1 An // (It y.2.1=Cz ks/\It y.2.2.2=A4 ps)/\E0 y.2.1/\E0 y.2.2.2 },vs=[y.1.1,y.1.2.2.1]/\(TJ (.mk true o n x y.1.1 y.1.2.1 y.1.2.2.1 y.1.2.2.2)).P [] I w f:=by obtain⟨L,N,R,v,r,u,z,⟨q,C⟩,D,E⟩:=h;simp only[vA,dTmc,BP,V.int.injEq,V.str.injEq,V.sl.injEq,ay,be]at q;obtain⟨rfl,rfl,rfl,G,H⟩:=q;exact⟨⟨(v,r,u,z),⟨G,H⟩,C⟩,D,E⟩
def zio {n:Int} {q r:L1 An} (C:It q=Cz ks) (D:It r=A4 ps) {z:L1 Nat} (h:(TJ (.mk true o n x v q u r)).P vs I w z) (y:I.le J) (E:∀b∈z,J b=w.heap[b]?) (cs:L1 Value) (f:RepL J noMu cs [i7 o,i7 n,.imm (.str x),.raw v,.raw u]):RepVL J cs (dTmc (.mk o n x ks ps)):=by obtain⟨G,_,H⟩:=h;have L:=zhn y H (λk N=>E k (by rw[G];exact N));have e:cs=cA (.mk true o n x v q u r):=by{have R:=f.1;match cs,R with|[d,g,i,j,l],_=>{have T:=(f.2 0 _ _ O O).immInv.intInv;have V:=(f.2 1 _ _ O O).immInv.intInv;have W:=(f.2 2 _ _ O O).immInv.strEq;have a:=(f.2 3 _ _ O O).rawInv;have c:=(f.2 4 _ _ O O).rawInv;rw[T,V,W,a,c];rfl}};rw[e];simpa[vA,dTmc,C,D]using L
def atR (t:Tm) (f:L1 Int):Tm×Int:=bif Cs t then(match ze7 t f with|some r=>(r,0)|none=>(zTm,2))else(zTm,2)
def zg6 (l:L1 Tm) (i:Nat) (t:Tm):Cz (l.set i t)=(Cz l).set i (dTmc t):=by simp[LF,My]
def QF (b:Nat) (a:An):Asn where
 P:=λ_ I w bs=>bs=b::F4 a/\bs.Nodup/\C9 a=true/\(∃ca,w.heap[b]?=some (.cells ca 49 (0,0))/\ca.size=5)/\Wx w b 0 (cA a)/\ID I w a
 mono:=λh ⟨h1,h2,h3,h4,h5,h6⟩=>⟨h1,h2,h3,h4,h5,W0 h h6⟩
 loc:=λh ⟨h1,h2,h3,⟨ca,h4,h5⟩,h6,h7⟩=>⟨h1,h2,h3,⟨ca,(h b (by simp[h1])).trans h4,h5⟩,NL (h b (by simp[h1])) h6,Kd (λk hk=>h k (by simp[h1,hk])) h7⟩
def Zi {l:L1 An} {a:An} (h:l[i]?=some a):(It l)[i]?=some (vA a):=by simp[Ki,h]
mutual
def UX:∀t:Tm,AV t=true->Ha t=true
 |.mk f n x ks ps,h=>by simp only[AV,Am]at h;have:=Yc h.1.1;simp only[Ha,eV f n x ks.length ps (by omega),Am];exact⟨h.1,Ss ks h.2⟩
def Ss:∀f:L1 Tm,Br f=true->FB f=true
 |[],_=>rfl
 |t::r,h=>by simp only[Br,Am]at h;simp only[FB,Am];exact⟨UX t h.1,Ss r h.2⟩
end
def jQ (h:AV t=true):FI t=Cs t:=by simp only[FI,Cs,h,UX t h]
mutual
def O5:∀(t:Tm) (l d:Int),(0<=Be t l d↔(Hn t:Int)<=l/\(qK t:Int)<=d)/\((Hn t:Int)<=l->(qK t:Int)<=d->Be t l d=l-Hn t)
 |.mk o n x ks ps,l,d=>by have h:=RW ks (l-1) (d-1) 0;have D:=bF ks 0;have E:(0:Int)<=Eu ks:=by{omega};simp only[Be,Hn,qK];by_cases y:l<1\/d<1;rw[ae y];refine⟨⟨λh=>by omega,λ⟨f,r⟩=>by omega⟩,λf r=>by omega⟩;rw[ac y];let⟨f,r⟩:=h (by omega) (by omega);refine⟨⟨λq=>?_,λ⟨z,C⟩=>f.2 ⟨by omega,by omega⟩⟩,λz C=>by rw[r (by omega) (by omega)];omega⟩;let⟨a,b⟩:=f.1 q;exact⟨by omega,by omega⟩
def RW:∀(f:L1 Tm) (l d:Int) (m:Nat),0<=l->(m:Int)<=d->(0<=B7 f l d↔(Eu f:Int)<=l/\(TE f m:Int)<=d)/\((Eu f:Int)<=l->(TE f m:Int)<=d->B7 f l d=l-Eu f)
 |[],l,d,m,H,N=>by simp[B7,Eu,TE];omega
 |t::r,l,d,m,H,N=>by let⟨t1,t2⟩:=O5 t l d;simp only[B7,ae H,Eu,TE];have R:=bF r (max m (qK t));by_cases D:0<=Be t l d;let⟨T,V⟩:=t1.1 D;have e:=t2 T V;let⟨E,L⟩:=RW r (Be t l d) d (max m (qK t)) D (by omega);rw[e]at E L ⊢;refine⟨⟨λq=>?_,λ⟨G,z⟩=>E.2 ⟨by omega,z⟩⟩,λG z=>by rw[L (by omega) z];omega⟩;let⟨a,b⟩:=E.1 q;exact⟨by omega,b⟩;have C:∀(f:L1 Tm) (l:Int),l<0->B7 f l d=l:=by{intro f l W;cases f with|nil=>rfl|cons=>{simp only[B7];rw[ac (by omega)]}};rw[C r _ (by omega)];have y:¬((Hn t:Int)<=l/\(qK t:Int)<=d):=λh=>D (t1.2 h);have c:=vJ t;refine⟨⟨λq=>absurd q D,λ⟨G,z⟩=>absurd ⟨by omega,by omega⟩ y⟩,λG z=>absurd ⟨by omega,by omega⟩ y⟩
end
def X7 (t:Tm):Cs t=true↔AV t=true/\Hn t<=60/\qK t<=14:=by simp only[Cs,Am,al,(O5 t 60 14).1];constructor;rintro ⟨⟨a,b⟩,c⟩;exact⟨c,by omega,by omega⟩;rintro ⟨a,b,c⟩;exact⟨⟨by omega,by omega⟩,a⟩
def J9 (h:Cs t=true):FI t=Cs t:=jQ (by simp only[Cs,Am]at h;exact h.2)
def ptr (b off:Nat):Value:=.pointer (some ⟨b,off,none⟩)
mutual
def kT:An->Prop
 |.mk s _ _ _ v ks _ _=>s=false/\((ks=[]/\∃a c,v=.slice a 0 c)\/∃b c,v=.slice (some ⟨b,0,none⟩) ks.length c)/\ks.length<=1000000/\PH ks
 |.im _ _ _=>False
def PH:L1 An->Prop
 |[]=>True
 |a::r=>kT a/\PH r
end
mutual
def skW (I:U) (w:World):An->Nat->Nat->Prop
 |.mk _ o _ _ v ks _ _,b,off=>Ex I w b (El off 0) [.imm (.int .i64 o)]/\Ex I w b (El off 3) [.raw v]/\lL I w (B4 v) 0 ks
 |.im _ _ _,_,_=>False
def lL (I:U) (w:World) (b:Nat):Nat->L1 An->Prop
 |_,[]=>True
 |i,a::r=>skW I w a b (i*4)/\lL I w b (i+1) r
end
mutual
def K9:An->Nat->Nat->L1 D
 |.mk _ o _ _ v ks _ _,b,off=>(if o=2 then[.raw (ptr b (El off 2))]else[])++HU (B4 v) 0 ks
 |.im _ _ _,_,_=>[]
def HU (b:Nat):Nat->L1 An->L1 D
 |_,[]=>[]
 |i,a::r=>K9 a b (i*4)++HU b (i+1) r
end
def Mn:∀{l:L1 An} {i:Nat} {a:An},PH l->l[i]?=some a->kT a
 |[],i,a,_,h=>by simp at h
 |x::r,0,a,f,h=>by simp at h;subst h;exact f.1
 |x::r,i+1,a,f,h=>Mn f.2 (by simpa using h)
def dD {I:U} {w:World} {b:Nat}:∀{l:L1 An} {i j:Nat} {a:An},lL I w b i l->l[j]?=some a->skW I w a b ((i+j)*4)
 |[],i,j,a,_,h=>by simp at h
 |x::r,i,0,a,f,h=>by simp at h;subst h;exact f.1
 |x::r,i,j+1,a,f,h=>by have:=dD f.2 (j:=j) (by simpa using h);rwa [show i+1+j=i+(j+1) by omega]at this
def Rounds (l:L1 D) (S:Nat->Bun) (k:Nat):Prop:=∀j d,l[j]?=some d->La prog [d] (S (k+j)) true (S (k+j+1))
def Rounds.left {m:L1 D} {S:Nat->Bun} {k:Nat} (h:Rounds (l++m) S k):Rounds l S k:=λj d f=>h j d (by rw[KD (A9.1 f).1];exact f)
def Rounds.right {m:L1 D} {S:Nat->Bun} {k:Nat} (h:Rounds (l++m) S k):Rounds m S (k+l.length):=λj d f=>by{have:=h (l.length+j) d (by rw[Jf (by omega)];simpa using f);rwa [<- Yo]at this}
def zgi (b off:Nat) (S S':Bun):Prop:=Ht prog 274 [.raw (.pointer (some ⟨b,off,none⟩)),.ref 1 0,.ref 2 0]
 (Kt [(3,some .pin),(4,some (.bun 3 S))]) (.ret (.imm (.bool true)) (Kt [(3,some .pin),(5,some (.bun 3 S'))]))
def VR (s:Bool) (o n:Int) (x:Z) (v:Value) (ks:L1 An) (u:Value) (ps:L1 An) (b off:Nat) (S:Nat->Bun) (k:Nat) (H:kT (.mk s o n x v ks u ps)) (D:∀j I w q z,(S j).P I w q z->skW I w (.mk s o n x v ks u ps) b off) (g:∀a∈ks,∀b off k,kT a->(∀j I w q z,(S j).P I w q z->skW I w a b off)->Rounds (K9 a b off) S k->zgi b off (S k) (S (k+(K9 a b off).length))) (l:Rounds (HU (B4 v) 0 ks) S k):Tq2 Tryz.f274.ntmps [1,2,3,4] (KZ rS Tryz.f274.results.toList (.ret (.imm (.bool true)) (Kt [(3,some .pin),(5,some (.bun 3 (S (k+(HU (B4 v) 0 ks).length))))]))) [.code (ES Tryz.f274 2)] [(0,.raw (.pointer (some ⟨b,off,none⟩))),(1,.ref 1 0),(2,.ref 2 0)] (Kt [(3,some .pin),(6,some (.bun 3 (S k)))]) [7,8,5]:=by obtain⟨_,m,d,L⟩:=H;obtain⟨ad,c,rfl,N⟩:∃ad c,v=.slice ad ks.length c/\(ks≠[]->∃q,ad=some ⟨q,0,none⟩):=by{rcases m with⟨rfl,a,c,rfl⟩|⟨q,c,rfl⟩;exact⟨a,c,rfl,λh=>absurd rfl h⟩;exact⟨_,c,rfl,λ_=>⟨q,rfl⟩⟩};refine Ee O<|bB Cj 6 [.raw (.slice ad ks.length c)] O O (λ_ I w q z h=>(D k I w q z h).2.1) O O (by simp)<|EI O<|Al (λy:Nat×Nat=>[(24,i7 y.1),(23,i7 ks.length),(0,.raw (.pointer (some ⟨b,off,none⟩))),(1,.ref 1 0),(2,.ref 2 0)]) (λy=>Kt [(3,some .pin),(6,some (.bun 3 (S y.2)))]) [7,8,5] (λy=>ks.length-y.1) (λy=>y.1<=ks.length/\Rounds (HU (B4 (.slice ad ks.length c)) y.1 (ks.drop y.1)) S y.2/\y.2+(HU (B4 (.slice ad ks.length c)) y.1 (ks.drop y.1)).length=k+(HU (B4 (.slice ad ks.length c)) 0 ks).length) (0,k) ⟨AK _,l,rfl⟩ ⟨rfl,B8 (by simp),AC⟩ B0 O λy p t=>?_;obtain⟨i,R⟩:=y;obtain⟨T,r,f⟩:=p;simp only at T r f;refine Ee O<|Aa O (λh=>?_) (λh=>?_);simp at h;let⟨a,E⟩:=At h;have V:ks.drop i=a::ks.drop (i+1):=Au E;rw[V]at r f;simp only[HU]at r f;obtain⟨q,rfl⟩:=N (λe=>by rw[e]at E;simp at E);have C:0+(i:Int).toNat*4=i*4:=by{simp};have G:=g a (AF E) q (i*4) R (Mn L E) (λj I w W z h=>by{have:=dD (D j I w W z h).2.2 E;simpa[B4]using this}) r.left;rw[<- C]at G;refine Ee O<|bB Cj 6 [.raw (.slice (some ⟨q,0,none⟩) ks.length c)] O O (λ_ I w W z h=>(D R I w W z h).2.1) O O (by simp)<|EI O<|Er Cj O O (λ_=>⟨by simp,by simp;omega⟩) (by simp)<|EI O<|Ao [7] T5 [(5,7)] O G H9 O O<|ng [] O (by simp[Ap];rfl)<|Ag O λh=>yF O<|AR 6 7 O ?_;rw[C];exact Ad (t (i+1,R+(K9 a q (i*4)).length) (by simp only;omega) ⟨by simp only;omega,r.right,by simp only[AZ]at f ⊢;simp only[B4]at f ⊢;omega⟩) ⟨B8 (Gx (by simp only;omega) (by simp only;omega)),B0⟩ B0 O;simp at h;have V:ks.drop i=[]:=Bu (by omega);rw[V]at f;simp only[HU,Cb,Gs]at f;subst f;exact Az O<|yF O<|BY (ids':=[]) 6 5 O O<|Af ⟨_,rfl,tV O,B0⟩
def iI:∀(a:An) (b off:Nat) (S:Nat->Bun) (k:Nat),kT a->(∀j I w y z,(S j).P I w y z->skW I w a b off)->Rounds (K9 a b off) S k->zgi b off (S k) (S (k+(K9 a b off).length))
 |.im _ _ _,_,_,_,_,h,_,_=>h.elim
 |.mk s o n x v ks u ps,b,off,S,k,C,f,q=>by have E:∀a∈ks,∀b off k,kT a->(∀j I w y z,(S j).P I w y z->skW I w a b off)->Rounds (K9 a b off) S k->zgi b off (S k) (S (k+(K9 a b off).length)):=λa G b off k H L N=>iI a b off S k H L N;refine Ac Cj func274 O [6,7,8,5]<|EI O<|bB Cj 4 [i7 o] O O (λ_ I w y z h=>(f k I w y z h).1) O O (by simp)<|EI O ?_;simp only[K9]at q ⊢;by_cases r:o=2;rw[ae r]at q ⊢;have h:=q 0 _ O;refine HQ (j:=4) (j2:=6) O (by simp[Ap]) (by simp[Ap,r]) h O O O O O<|ng [] O (by simp[Ap];rfl)<|Aa O (λh=>by simp[r]at h) (λh=>?_);refine Gu ?_;have R:=VR s o n x v ks u ps b off S (k+1) C f E (q.right (l:=[_]));rw[show k+([D.raw (ptr b (El off 2))]++HU (B4 v) 0 ks).length=k+1+(HU (B4 v) 0 ks).length by simp;omega];exact Ad R AC B0 O;rw[ac r]at q ⊢;refine Nz (.imm (.bool true)) O (by simp[Ap,r])<|ng [] O (by simp[Ap];rfl)<|Aa O (λh=>by simp[r]at h) (λh=>?_);exact Gu<|BY (ids':=[7,8,5]) 4 6 O O<|Ad (VR s o n x v ks u ps b off S k C f E q) AC B0 O
termination_by a=>SizeOf.sizeOf a
decreasing_by all_goals(have:=Cr G;simp_wf;omega)
def vM (v:Value):St:=[(6,some (.cells 270 1 [.raw v]))]
def zhe (v:Value):St:=[(6,some (.cells 230 1 [.raw v]))]
def mZ (a:An) (b off:Nat) (S:Nat->Bun) (k:Nat) (f:kT a) (h:∀j I w q r,(S j).P I w q r->skW I w a b off) (y:Rounds (K9 a b off) S k):Tq4 273 [.yld 3,.ref 6 0] ((3,some .pin)::(4,some (.bun 3 (S k)))::vM (.pointer (some ⟨b,off,none⟩))) (.ret (.tup []) ((3,some .pin)::(5,some (.bun 3 (S (k+(K9 a b off).length))))::vM (.pointer (some ⟨b,off,none⟩)))):=by exact Ac Cj func273 O [1,2,7,5]<|EI O<|Ao [7] c6 [(5,7)] O (iI a b off S k f h y) H9 O O<|EI O<|BY (ids':=[]) 7 5 O O<|Bw ⟨[],BD⟩
def yH (b off:Nat):Tq4 232 [.raw (.pointer (some ⟨b,off,none⟩))] [] (.ret (.fn (.func 273) [] [.ref 6 0]) (vM (.pointer (some ⟨b,off,none⟩)))):=by exact Ac Cj func232 O [6]<|EI O<|Af ⟨_,AC⟩
def rG (b off:Nat) (S:Nat->Bun) (k:Nat) (h:Rounds [.raw (ptr b (El off 2))] S k):Tq4 231 [.yld 3,.ref 6 0] ((3,some .pin)::(4,some (.bun 3 (S k)))::zhe (.pointer (some ⟨b,off,none⟩))) (.ret (.tup []) ((3,some .pin)::(5,some (.bun 3 (S (k+1))))::zhe (.pointer (some ⟨b,off,none⟩)))):=by refine Ac Cj func231 O [7,5]<|EI O ?_;have h:=h 0 _ O;exact HQ (j:=4) (j2:=7) O (by simp[Ap]) ab h O O O O O<|EI O<|BY (ids':=[]) 7 5 O O<|Bw ⟨[],BD⟩
def Zy (A:Asn) (b:Nat) (op:Int):Prop:=∀vs I w f,A.P vs I w f->Ex I w b 0 [.imm (.int .i64 op)]
def zck (A:Asn) (b:Nat) (u:Value):Prop:=∀vs I w f,A.P vs I w f->Ex I w b 4 [.raw u]
def jZ (A:Asn) (b:Nat) (op f:Int) (y:Zy A b op) (h:BN op f=true):Tq4 166 [.raw (.pointer (some ⟨b,0,none⟩)),i7 f] [(1,some (.hp A))] (.ret (.fn (.func 231) [] [.ref 6 0]) ((1,some (.hp A))::zhe (.pointer (some ⟨b,0,none⟩)))):=by refine Ac Cj func166 O [6]<|EI O<|CR Cj 1 [i7 op] O O (λ_=>y) O O (by simp)<|EI O ?_;have C:(op==5||op==27||(op==7&&f==1))=true:=h;refine Aa rfl (λz=>?_) (λz=>?_);refine Ee O<|Aa O (λ_=>?_) (λq=>by rw[z]at q;cases q);exact Ee O<|Af ⟨_,B0⟩;refine Ee O<|CR Cj 1 [i7 op] O O (λ_=>y) O O (by simp)<|EI O<|Aa O (λq=>?_) (λq=>?_);refine Ee O<|Aa O (λ_=>?_) (λr=>by rw[q]at r;cases r);exact Ee O<|Af ⟨_,B0⟩;refine Ee O<|CR Cj 1 [i7 op] O O (λ_=>y) O O (by simp)<|EI O<|Aa O (λ_=>?_) (λr=>?_);exact Ee O<|Af ⟨_,B0⟩;exfalso;rw[z,q]at C;cases D:(op==7)<;>cases E:(f==1)<;>simp[D,E]at C r
def rF (A:Asn) (b:Nat) (op f:Int) (z len c j:Nat) (C:Zy A b op) (D:zck A b (.slice (some ⟨z,0,none⟩) len c)) (h:BN op f=false) (N:C5 op f=true) (e:f=(j:Int)+1) (g:j<len) (i:f<=1000000):Tq4 166 [.raw (.pointer (some ⟨b,0,none⟩)),i7 f] [(1,some (.hp A))] (.ret (.fn (.func 273) [] [.ref 6 0]) ((1,some (.hp A))::vM (.pointer (some ⟨z,j*4,none⟩)))):=by refine Ac Cj func166 O [7,6] ?_;have G:(op==5||op==27||(op==7&&f==1))=false:=h;have q:(op==15&&decide (0<f))=true:=N;simp only[Lu]at G;obtain⟨⟨R,T⟩,V⟩:=G;simp only[Am,al]at q;have E:IntKind.i64.wrap (f-1)=(j:Int):=by{rw[Gx (by omega) (by omega)];omega};have y:0+(IntKind.i64.wrap (f-1)).toNat*4=j*4:=by{rw[E];simp};refine EI O<|CR Cj 1 [i7 op] O O (λ_=>C) O O (by simp)<|EI O<|Aa O (λr=>by rw[R]at r;cases r) (λr=>?_);refine Ee O<|CR Cj 1 [i7 op] O O (λ_=>C) O O (by simp)<|EI O<|Aa O (λr=>by rw[T]at r;cases r) (λr=>?_);refine Ee O<|CR Cj 1 [i7 op] O O (λ_=>C) O O (by simp)<|EI O<|Aa O (λH=>?_) (λH=>?_);exfalso;cases W:(op==7)<;>cases a:(f==1)<;>simp[W,a]at V H;refine Ee O<|CR Cj 1 [i7 op] O O (λ_=>C) O O (by simp)<|EI O<|Aa O (λL=>?_) (λL=>by simp[q.1,q.2]at L);refine Ee O<|CR Cj 1 [.raw (.slice (some ⟨z,0,none⟩) len c)] O O (λ_=>D) O O (by simp)<|EI O<|Er Cj O O (λ_=>⟨by simp[E],by simp[E];omega⟩) (by simp)<|EI O ?_;have d:=yH z (0+(IntKind.i64.wrap (f-1)).toNat*4);refine L6 (bl:=[]) (fr:=[6]) [] [(6,6)] O (by simp) d ab O O O O<|EI O ?_;rw[<- y];exact Af ⟨_,B0⟩
def kC (A:Asn) (b:Nat) (op f:Int) (r:Zy A b op) (h:BN op f=false) (H:C5 op f=false):Tq4 166 [.raw (.pointer (some ⟨b,0,none⟩)),i7 f] [(1,some (.hp A))] (.ret (.imm (.fn (.func 233))) [(1,some (.hp A))]):=by refine Ac Cj func166 O [7,6] ?_;have D:(op==5||op==27||(op==7&&f==1))=false:=h;have y:(op==15&&decide (0<f))=false:=H;simp only[Lu]at D;obtain⟨⟨L,N⟩,R⟩:=D;refine EI rfl<|CR Cj 1 [i7 op] O O (λ_=>r) O O (by simp)<|EI O<|Aa O (λq=>by rw[L]at q;cases q) (λq=>?_);refine Ee O<|CR Cj 1 [i7 op] O O (λ_=>r) O O (by simp)<|EI O<|Aa O (λq=>by rw[N]at q;cases q) (λq=>?_);refine Ee O<|CR Cj 1 [i7 op] O O (λ_=>r) O O (by simp)<|EI O<|Aa O (λE=>?_) (λE=>?_);exfalso;cases z:(op==7)<;>cases C:(f==1)<;>simp[z,C]at R E;refine Ee O<|CR Cj 1 [i7 op] O O (λ_=>r) O O (by simp)<|EI O<|Aa O (λG=>?_) (λG=>?_);{exfalso;cases z:(op==15)<;>cases C:decide (0<f)<;>simp[z,C]at y G<;>simp_all};exact Ee O<|Af ⟨_,rfl,tV O,AG⟩
def GQ (h:Wx w b off cs) {c:Value} (r:cs[i]?=some c) (y:c.oneCell'=true) (z:X I noMu c d):Ex I w b (El off i) [d]:=by obtain⟨f,C,k,D,E⟩:=h;refine⟨f,C,k,D,λj G q=>?_⟩;cases j with|zero=>simp at q;subst q;refine⟨c,?_,y,z⟩;rw[FZ];exact E i c r|succ j=>{simp at q}
mutual
def dC {I:U} {w:World}:∀(a:An) (b off:Nat),Id a->C9 a=false->Wx w b off (cA a)->ID I w a->skW I w a b off
 |.im _ _ _,_,_,h,_,_,_=>h.elim
 |.mk s o n x v ks u ps,b,off,y,q,r,f=>by have q:s=false:=q;subst q;simp only[ID]at f;refine⟨GQ r (i:=0) O O (.imm _ _ (.int _ _)),GQ r (i:=3) O (HT f.1.1) (.raw _ (HT f.1.1)),?_⟩;exact U1 ks (B4 v) 0 y.1 f.1.2
def U1 {I:U} {w:World}:∀(l:L1 An) (b i:Nat),E0 l->Ef I w false b i l->lL I w b i l
 |[],_,_,_,_=>trivial
 |a::r,b,i,h,f=>by simp only[Ef]at f;exact⟨dC a b (i*4) h.1 f.1.1 f.1.2.1 f.1.2.2,U1 r b (i+1) h.2 f.2⟩
end
mutual
def zd1 {I:U} {w:World}:∀(a:An) (t:Y),Id a->C9 a=false->ID I w a->vA a=As t->Pl t->kT a
 |.im _ _ _,_,h,_,_,_,_=>h.elim
 |.mk s o n x v ks u ps,.mk N R T f,E,q,r,z,C=>by have q:s=false:=q;subst q;simp only[ID]at r;have D:It ks=A4 f:=by{simp only[vA,As,BP,V.sl.injEq]at z;exact z.2.2.2.1};have G:ks.length=f.length:=by{have:=af List.length D;simpa using this};refine⟨rfl,?_,by rw[G];exact C.1,OL ks f (B4 v) 0 E.1 r.1.2 D C.2⟩;rcases r.1.1 with⟨H,⟨a,c,rfl⟩,_⟩|⟨_,b,y,L,rfl,_⟩;exact .inl ⟨Iu H,a,c,rfl⟩;exact .inr ⟨b,y,rfl⟩
def OL {I:U} {w:World}:∀(l:L1 An) (z:L1 Y) (b i:Nat),E0 l->Ef I w false b i l->It l=A4 z->QM z->PH l
 |[],_,_,_,_,_,_,_=>trivial
 |a::r,[],_,_,_,_,h,_=>by simp[It,A4]at h
 |a::r,t::q,b,i,C,f,y,D=>by simp only[Ef]at f;simp only[It,A4,BP]at y;exact⟨zd1 a t C.1 f.1.1 f.1.2.2 y.1 D.1,OL r q b (i+1) C.2 f.2 y.2 D.2⟩
end
mutual
def OA:An->An
 |.mk s o n _ v ks u ps=>.mk s o n [] v (Oa ks) u (Oa ps)
 |.im s cs c=>.im s cs c
def Oa:L1 An->L1 An
 |[]=>[]
 |a::r=>OA a::Oa r
end
def Px:∀l:L1 An,Oa l=l.map OA
 |[]=>rfl
 |a::r=>by simp[Oa,Px r]
def ppaths:An->L1 Is
 |.mk _ o _ _ _ ks _ _=>(if o=2 then[[]]else[])++ppathss 0 ks
 |.im _ _ _=>[]
where ppathss:Nat->L1 An->L1 Is
 |_,[]=>[]
 |i,a::r=>(ppaths a).map ((false,i)::·)++ppathss (i+1) r
def dG:An->Z->An
 |.mk s o n _ v ks u ps,x=>.mk s o n x v ks u ps
 |a,_=>a
def wU (a c d:An) (p:Bool×Nat) (b off:Nat) (h:Eb a p=some (c,b,off)) (y:OA d=OA c):OA (QX a p d)=OA a:=by have st:∀{l:L1 An} {k:Nat},l[k]?=some c->Oa (l.set k d)=Oa l:=by{intro l k q;rw[Px,Px,My,y];apply S7;intro i;rw[ZV];split;rename_i e;subst e;rw[Ct,q];simp;exact(A9.1 q).1;rfl};rcases a with⟨s,o,n,x,v,ks,u,ps⟩|⟨D,z,E⟩;(case im=>simp[Eb]at h);obtain⟨r,k⟩:=p;cases r with|false=>simp only[Eb,EV,AN]at h;obtain⟨C,f,rfl,_,_⟩:=h;simp only[QX,OA,st f]|true=>{cases s with|true=>simp only[Eb,EV,AN]at h;obtain⟨C,f,rfl,_,_⟩:=h;simp only[QX,OA,st f]|false=>{simp[Eb]at h}}
def XC:∀(p:Is) (a:An) (b off:Nat) (a':An) (E f:Nat) (a2:An),D5 a b off p=some (a',E,f)->OA a2=OA a'->OA (K8 a p a2)=OA a
 |[],a,b,off,a',E,f,a2,h,z=>by simp only[D5,Ci,AN]at h;obtain⟨rfl,_,_⟩:=h;exact z
 |q::r,a,b,off,a',E,f,a2,h,z=>by simp only[D5]at h;simp only[K8];split at h;rename_i c C y D;exact wU a c _ q C y D (XC r c C y a' E f a2 h z);cases h
mutual
def sX:∀(a:An) (b off:Nat),kT a->∀(j:Nat) (d:D),(K9 a b off)[j]?=some d->∃p a' E f,(ppaths a)[j]?=some p/\D5 a b off p=some (a',E,f)/\d=.raw (ptr E (El f 2))/\∃n x v ks u ps,a'=.mk false 2 n x v ks u ps
 |.im _ _ _,_,_,h,_,_,_=>h.elim
 |.mk s o n x v ks u ps,b,off,z,j,d,h=>by obtain⟨G,_,_,C⟩:=z;subst G;simp only[K9]at h;have q:∀j,(HU (B4 v) 0 ks)[j]?=some d->∃p a' E f,(ppaths.ppathss 0 ks)[j]?=some p/\D5 (.mk false o n x v ks u ps) b off p=some (a',E,f)/\d=.raw (ptr E (El f 2))/\∃n x v ks u ps,a'=.mk false 2 n x v ks u ps:=λj H=>by{let⟨k,a,r,a',E,f,L,N,R,T,V⟩:=eJ ks (B4 v) 0 C j d H;refine⟨(false,0+k)::r,a',E,f,L,?_,T,V⟩;simp only[D5,Eb,BS,N,HX];simpa[Gb]using R};by_cases y:o=2;rw[ae y]at h;simp only[ppaths];rw[ae y];cases j with|zero=>simp at h;subst h;subst y;exact⟨[],_,b,off,by simp,rfl,rfl,n,x,v,ks,u,ps,rfl⟩|succ j=>{simp only[Lv,Vv]at h ⊢;exact q j h};rw[ac y]at h;simp only[ppaths];rw[ac y];exact q j h
def eJ:∀(l:L1 An) (b i:Nat),PH l->∀(j:Nat) (d:D),(HU b i l)[j]?=some d->∃k a r a' E f,(ppaths.ppathss i l)[j]?=some ((false,i+k)::r)/\l[k]?=some a/\D5 a b ((i+k)*4) r=some (a',E,f)/\d=.raw (ptr E (El f 2))/\∃n x v ks u ps,a'=.mk false 2 n x v ks u ps
 |[],_,_,_,_,_,h=>by simp[HU]at h
 |a::r,b,i,y,j,d,h=>by simp only[HU]at h;have z:=P5 a b (i*4);by_cases N:j<(K9 a b (i*4)).length;rw[KD N]at h;let⟨p,a',E,f,C,G,L,H⟩:=sX a b (i*4) y.1 j d h;refine⟨0,a,p,a',E,f,?_,rfl,by simpa using G,L,H⟩;simp only[ppaths.ppathss];rw[KD (by simp;omega),Ct,C];rfl;rw[Jf (by omega)]at h;let⟨k,c,q,a',E,f,C,G,L,H,R⟩:=eJ r b (i+1) y.2 _ d h;refine⟨k+1,c,q,a',E,f,?_,by simpa using G,by rwa [show i+(k+1)=i+1+k by omega],H,R⟩;simp only[ppaths.ppathss];rw[Jf (by simp;omega)];simp only[C6,<- z];rw[C,show i+(k+1)=i+1+k by omega]
def P5:∀(a:An) (b off:Nat),(K9 a b off).length=(ppaths a).length
 |.im _ _ _,_,_=>rfl
 |.mk s o n x v ks u ps,b,off=>by simp only[K9,ppaths,AZ,XR ks (B4 v) 0];by_cases h:o=2<;>simp[h]
def XR:∀(l:L1 An) (b i:Nat),(HU b i l).length=(ppaths.ppathss i l).length
 |[],_,_=>rfl
 |a::r,b,i=>by simp only[HU,ppaths.ppathss,AZ,C6,P5 a,XR r b (i+1)]
end
def Zv (l:L1 An):(Oa l).length=l.length:=by rw[Px];simp
mutual
def W1:∀a:An,F4 (OA a)=F4 a
 |.im _ _ _=>rfl
 |.mk s o n x v ks u ps=>by have f:=Ph ks;have h:=Ph ps;cases s<;>simp[OA,F4,f,h,Zv]
def Ph:∀l:L1 An,D3 (Oa l)=D3 l
 |[]=>rfl
 |a::r=>by simp only[Oa,D3,W1 a,Ph r]
end
def Sg {W:L1 Nat} {a:An} {p:Is} {a':An} {f:Nat} (h:(QF b a).P vs I w W) (d:D5 a b 0 p=some (a',E,f)):E∈W/\∃ca H,w.heap[E]?=some (.cells ca H (0,0))/\f+Gb (C9 a')<=ca.size:=by obtain⟨e,h2,k,⟨ca,l,m⟩,h6,t⟩:=h;rcases M2 d with⟨_,rfl,rfl,rfl⟩|⟨L,A⟩;exact⟨by simp[e],ca,_,l,by rw[k];simp[Gb,m]⟩;{refine⟨by simp[e,A],?_⟩;have:∀{p:Is} {a:An} {b off:Nat},D5 a b off p=some (a',E,f)->p≠[]->ID I w a->∃ca H,w.heap[E]?=some (.cells ca H (0,0))/\f+Gb (C9 a')<=ca.size:=by{intro p;induction p with|nil=>intro a b off _ h;exact absurd rfl h|cons q r B=>{intro a b off h _ D;simp only[D5]at h;split at h;{rename_i c b1 g z;by_cases j:r=[];{subst j;simp only[D5,Ci,AN]at h;obtain⟨rfl,rfl,rfl⟩:=h;rcases a with⟨s,o,n,x,v,ks,u,ps⟩|⟨s0,F,c0⟩;(case im=>simp[Eb]at z);obtain⟨J,i⟩:=q;simp only[ID]at D;cases J with|false=>simp only[Eb,EV,AN]at z;obtain⟨N,G,rfl,rfl,rfl⟩:=z;have y:C9 N=s:=(Ev D.1.2 G).1;have R:=(A9.1 G).1;rcases D.1.1 with⟨K,_⟩|⟨_,P,C,ca,rfl,T,Q,S,V⟩;omega;refine⟨ca,_,T,?_⟩;have:(i+1)*Gb s<=C*Gb s:=Ip _ (by omega);rw[JN,<- V]at this;rw[y];exact this|true=>{cases s with|false=>simp[Eb]at z|true=>{simp only[Eb,EV,AN]at z;obtain⟨N,G,rfl,rfl,rfl⟩:=z;have y:C9 N=false:=(Ev (D.2 O).2 G).1;have R:=(A9.1 G).1;rcases(D.2 rfl).1 with⟨K,_⟩|⟨_,P,C,ca,rfl,T,Q,S,V⟩;omega;refine⟨ca,_,T,?_⟩;have:(i+1)*Gb false<=C*Gb false:=Ip _ (by omega);rw[JN,<- V]at this;rw[y];exact this}}};exact B h j (aL z D).2};cases h}};exact this d L t}
def Vy:∀{p:Is} {a:An} {b off:Nat} {a':An} {E f:Nat},D5 a b off p=some (a',E,f)->b∉F4 a->(F4 a).Nodup->E∉F4 a'
 |[],a,b,off,a',E,f,h,D,_=>by simp only[D5,Ci,AN]at h;obtain⟨rfl,rfl,rfl⟩:=h;exact D
 |q::r,a,b,off,a',E,f,h,_,y=>by simp only[D5]at h;split at h;rename_i c H z G;let⟨_,_,C⟩:=Jm G;exact Vy h (C y).2 (C y).1;cases h
def Zm {c:Value} (h:X I μ c (.imm (.str x))):c=K4 x:=by cases h with|imm _ _ h=>{cases h with|str s l h=>{show Value.string s=Value.string ⟨x.toArray⟩;rw[<- h]}}
def Ut {a:An} {p:Is} {n:Int} {G:Z} {ks:L1 An} {ps:L1 An} {f:Nat} (x:Z) (y:D5 a b 0 p=some (.mk s o n G v ks u ps,E,f)):bR (QF b a) (QF b (K8 a p (.mk s o n x v ks u ps))) E (El f 2) [.imm (.str x)]:=by intro us I w bs m;let⟨r1,ca,t,H,r3⟩:=Sg m y;obtain⟨A,R,h3,⟨q,B,F⟩,J,K⟩:=m;have P:4<=Gb (C9 (.mk s o n G v ks u ps)):=by{cases s<;>simp[C9,Gb]};have h:b∉F4 a/\(F4 a).Nodup:=by{rw[A]at R;exact Fr.1 R};rw[FZ];refine⟨r1,ca,t,H,by simp only[DM];omega,λcs z Q=>?_⟩;obtain⟨c,rfl⟩:∃c,cs=[c]:=Rn.1 z.1;have hc:c=K4 x:=Zm (z.2 0 c _ O O);subst hc;have S:f+2+[K4 x].length<=ca.size:=by{simp only[DM];omega};have L:=kX (off0:=f) (sz:=Gb (C9 (.mk s o n G v ks u ps))) H S ⟨by omega,by simp only[DM];omega⟩;let⟨⟨cur2,ty2,k2,N,T⟩,q2⟩:=TU y J K;rw[H]at N;cases N;have V:=Vy y h.1 h.2;have W:Wx (w.setRow E (ca.toList.take (f+2)++[K4 x]++ca.toList.drop (f+2+[K4 x].length)).toArray) E f (cA (.mk s o n x v ks u ps)):=by{refine⟨_,t,(0,0),IM H,λj d g=>?_⟩;have r:=H5 (ca:=ca.toList) (off:=f+2) (cs:=[K4 x]) (by simpa using S) (f+j);simp only[DM]at r ⊢;have i:(ca.toList.take (f+2)++[K4 x]++ca.toList.drop (f+2+1))[f+j]?=some d:=by{by_cases e2:j=2;subst e2;rw[r,ac (by omega),ae (by omega),Mx];cases s<;>(simp[cA]at g;subst g;rfl);have C:(cA (.mk s o n G v ks u ps))[j]?=some d:=by{rw[<- g];match j with|0=>cases s<;>rfl|1=>cases s<;>rfl|2=>exact absurd rfl e2|3=>cases s<;>rfl|4=>cases s<;>rfl|j+5=>{cases s<;>rfl}};have:=T j d C;rw[r];split;simpa using this;rw[ac (by omega)];simpa using this};simpa using i};have l:ID I (w.setRow E (ca.toList.take (f+2)++[K4 x]++ca.toList.drop (f+2+[K4 x].length)).toArray) (.mk s o n x v ks u ps):=by{have:=Kd (λk hk=>L.other k λe=>V (e▸hk)) q2;simpa only[ID]using this};let⟨q3,q4,q5⟩:=cK (a2:=.mk s o n x v ks u ps) y L rfl W l J K h.1 h.2;have hB:F4 (K8 a p (.mk s o n x v ks u ps))=F4 a:=by{rw[<- W1,XC p a b 0 _ E f _ y (by simp[OA]),W1]};refine⟨by rw[hB];exact A,R,by rw[q5];exact h3,?_,q3,q4⟩;by_cases e:b=E;subst e;let⟨D,N,T,_⟩:=L.same q _ _ B;exact⟨D,N,by rw[T,F]⟩;exact⟨q,(L.other b e).trans B,F⟩
def JC:V->Bool
 |.bool _|.int ..|.str _=>true
 |_=>false
def GY:L1 V->Bool
 |[]=>true
 |x::r=>JC x&&GY r
def Zz:L1 (L1 V)->Bool
 |[]=>true
 |e::r=>GY e&&Zz r
def Z0:L1 (V×V)->Bool
 |[]=>true
 |(a,b)::r=>JC a&&JC b&&Z0 r
def zcm:D->Bool
 |.imm x=>JC x
 |.tup []=>true
 |.own _ _=>true
 |.tup [.imm a,.imm b]=>JC a&&JC b
 |_=>false
def zcn:Blk->Prop
 |.map f=>Z0 f=true
 |.row _ _ es=>Zz es=true
 |.immb _ _ xs=>GY xs=true
 |_=>False
def sF:St->Prop
 |[]=>True
 |(_,some b)::r=>zcn b/\sF r
 |(_,none)::r=>sF r
def H7 {x:V} (h:JC x=true) (f:M J v x):M I v x:=by cases f<;>first|(simp[JC]at h;done)|constructor<;>assumption
def U8:∀{xs:L1 V} {vs:L1 Value},GY xs=true->RepVL J vs xs->RepVL I vs xs:=by intro xs vs h q;refine⟨q.1,λi v x C z=>?_⟩;have:∀{xs:L1 V} {i:Nat} {x:V},GY xs=true->xs[i]?=some x->JC x=true:=by{intro xs;induction xs with|nil=>intro i x _ h;simp at h|cons y r D=>{intro i x f h;simp only[GY,Am]at f;cases i with|zero=>simp at h;subst h;exact f.1|succ i=>{exact D f.2 (by simpa using h)}}};exact H7 (this h z) (q.2 i v x C z)
def Sf:∀{es:G1},Zz es=true->GY es.flatten=true
 |[],_=>rfl
 |e::r,h=>by simp only[Zz,Am]at h;have:∀{a b:L1 V},GY a=true->GY b=true->GY (a++b)=true:=by{intro a;induction a with|nil=>intro b _ h;exact h|cons x r q=>{intro b f y;simp only[GY,Am,Dj]at f ⊢;exact⟨f.1,q f.2 y⟩}};exact this h.1 (Sf h.2)
def OD:∀{q:L2} {i:Nat} {p:V×V},Z0 q=true->q[i]?=some p->JC p.1=true/\JC p.2=true
 |[],i,p,_,h=>by simp at h
 |(a,b)::r,i,p,f,h=>by simp only[Z0,Am]at f;cases i with|zero=>simp at h;subst h;exact f.1|succ i=>{exact OD f.2 (by simpa using h)}
def xB {g:Value} {b:Blk} (h:zcn b) (z:BlkRep J μ w g b):BlkRep I ν w g b:=by cases b with|map G=>obtain⟨b,es,f,q,r,y,C,D⟩:=z;exact⟨b,es,f,q,r,y,C,λi e p a b=>⟨H7 (OD h b).1 (D i e p a b).1,H7 (OD h b).2 (D i e p a b).2⟩⟩|row t sz es=>obtain⟨xs,q,r,y⟩:=z;exact⟨xs,q,U8 (Sf h) r,y⟩|immb t sz xs=>obtain⟨E,b,vs,q,r,y,C⟩:=z;exact⟨E,b,vs,q,r,U8 h y,C⟩|_=>{exact h.elim}
def OC:∀{st:St} {i:Nat} {b:Blk},sF st->Aw st i b->zcn b
 |[],i,b,_,h=>by simp[Aw,lk]at h
 |(k,some y)::r,i,b,f,h=>by rcases A1.1 h with⟨_,rfl⟩|⟨_,h⟩;exact f.1;exact OC f.2 h
 |(k,none)::r,i,b,f,h=>OC (st:=r) f (B3.1 h).2
def xA (h:zcm d=true) (q:X J μ v d) (D:∀i∈Hb d,∀g,μ i=some g->ν i=some g):X I ν v d:=by unfold zcm at h;split at h;exact .imm _ _ (H7 h q.immInv);cases q with|tup cs _ r _=>{exact .tup cs [] r λi c x _ f=>by simp at f};cases q with|own _ _ a y E=>{exact .own _ _ a y (D _ (by simp[Hb]) _ E)};rename_i a b;rw[Am]at h;cases q with|tup cs _ r z=>{refine .tup cs _ r λi c x C f=>?_;match i with|0=>simp at f;subst f;exact .imm _ _ (H7 h.1 (z 0 c _ C O).immInv)|1=>simp at f;subst f;exact .imm _ _ (H7 h.2 (z 1 c _ C O).immInv)|i+2=>{simp at f}};cases h
def ML (t j:Nat) (z:0<sz) (G:lk env t=some .nils) (h:DGo P n F Q todo ((t,.own j 0)::env) ((j,some (.row e sz []))::st) ids'):DGo P n F Q todo env st (j::ids'):=by refine Es λI μ a w r=>?_;have H:a.tmps.getD t undef=.slice none 0 0:=by{have:=r.env t _ G;generalize a.tmps.getD t undef=v at this;cases this with|nils=>{rfl}};let⟨C,L,N⟩:=StRep.relay (R:=[]) (new:=[(j,.slice none 0 0,.row e sz [])]) (ids':=ids') r.toStRep (λp f b D=>by rw[AL.1 f]at D;exact D.elim) (λp f q R b _ _=>by rw[AL.1 f,AL.1 R]) (U.le_refl I) r.imm (λb o h=>.inl h) (λ_ p f=>by{rw[AL.1 f];exact⟨[],b6 w _ e sz,⟨rfl,λi v x h _=>by simp at h⟩,λ_ h=>by simp at h,λ_ h=>by simp at h,z⟩});refine⟨I,_,_,_,ids',L,λE d y=>?_,N,.of_le C,h⟩;by_cases e:t=E;subst e;rw[A7]at y;cases y;rw[H];exact .own j 0 none 0 (by simp[Fq,lk]);rw[AB _ _ e]at y;exact(r.env E d y).mono (U.le_refl I) C
noncomputable def SD (I:U) (μ:Mu) (st:St) (w:World):U:=λb=>open Classical in if AX μ st b then w.heap[b]? else I b
def zar {f:FuncId} {das S:L1 D} {stL bl:St} (hE:Ht P f das bl (.ret d a8)) (hd:zcm d=true) (hs:sF a8) (h0:∀i∈CT stL,i∉CT bl/\i∉CT a8/\i∉Hb d) (hcl:∀i b,Aw stL i b->∀j∈LM b,j∈CT stL) (hview:∀I J μ w,StRep I μ stL [] w->I.le J->(∀i blk g b,Aw stL i blk->μ i=some g->Ek g b->J b=w.heap[b]?)->∀xs:L1 Value,RepL J μ xs S->RepL J μ xs das) :
  Ht P f S (stL++bl) (.ret d (stL++a8)):=by
 intro I μ w xs G hx;have N:∀{i b},Aw stL i b->Aw (stL++bl) i b:=λh=>Yr h;have up:∀{i b},Aw bl i b->Aw (stL++bl) i b:=λ{i b} h=>Yq (λhm=>(h0 i hm).1 (CB h)) h;have T:∀b,AX μ stL b->I b=none/\b<w.heap.size:=λb ⟨i,blk,g,C,q,W⟩=>G.apart i blk g b (N C) q W;have m:I.le (SD I μ stL w):=λb o h=>by
  unfold SD;by_cases n:AX μ stL b
  ·rw[(T b n).1]at h;cases h
  ·simp[n,h]
 have hJb:∀b,AX μ stL b->SD I μ stL w b=w.heap[b]?:=λb n=>by simp[SD,n]
 have hno:∀b,AX μ stL b->¬AX μ bl b:=λb ⟨i,x,A,a,B,q3⟩ ⟨j,c,l,C,q,W⟩=>by
  have:=G.inj i j x c A l b (N a) (up C) B q q3 W;subst this;exact(h0 i (CB a)).1 (CB C)
 have p:StRep I μ stL [] w :=
  {imm:=G.imm,blk:=λi b h=>G.blk i b (N h),apart:=λi b g k h=>G.apart i b g k (N h),inj:=λi j x c A l b H hj=>G.inj i j x c A l b (N H) (N hj),nodup:=.nil,idsFree:=λi H=>by cases H }
 have hst0:StRep (SD I μ stL w) μ bl [] w :=
  {imm:=λb o h=>by
    by_cases n:AX μ stL b
    ·rw[hJb b n]at h;exact h
    ·simp[SD,n]at h;exact G.imm b o h
   blk:=λi b hl=>by
    let⟨g,C,q⟩:=G.blk i b (up hl);exact⟨g,C,q.mono m (Mu.le_refl μ)⟩
   apart:=λi b g F hl E R=>by
    let⟨C,q⟩:=G.apart i b g F (up hl) E R;refine⟨?_,q⟩;have:¬AX μ stL F:=λn=>hno F n ⟨i,b,g,hl,E,R⟩;simp[SD,this,C]
   inj:=λi j x c A l b H hj=>G.inj i j x c A l b (up H) (up hj)
   nodup:=.nil
   idsFree:=λi H=>by cases H }
 refine(hE (SD I μ stL w) μ w xs hst0 (hview I _ μ w p m (λi blk g b C q W=>hJb b ⟨i,blk,g,C,q,W⟩) _ (hx.mono m (Mu.le_refl μ)))).mono (λu w' hu=>?_) (λ_ _ h=>h);obtain⟨I',μ',r1,r2,r3,s⟩:=hu;obtain⟨ν,hν⟩:∃ν:Mu,ν=λi=>if i∈CT stL then μ i else μ' i:=⟨_,rfl⟩
 have y:∀i,i∈CT stL->ν i=μ i:=λi H=>by rw[hν];simp[H]
 have z:∀i,i∉CT stL->ν i=μ' i:=λi H=>by rw[hν];simp[H]
 have r:∀{i b},Aw (stL++a8) i b->Aw stL i b\/(i∉CT stL/\Aw a8 i b):=λh=>ze5 h;have hheap:∀b,AX μ stL b->w'.heap[b]?=w.heap[b]?:=λb R=>s.block b (T b R).2 (hno b R);have hno1:∀b,AX μ stL b->∀i blk g,Aw a8 i blk->μ' i=some g->¬Ek g b:=λb R i blk g C q W=>hno b R (s.fresh b (T b R).2 ⟨i,blk,g,C,q,W⟩);refine⟨I,ν,xA hd r1 (λi H g E=>by rw[z i (λe=>(h0 i e).2.2 H)];exact E),?_,?_,?_⟩
 ·refine { imm:=λb o h=>r2.imm b o (s.imm b o (m b o h)),blk:=λi b hl=>?_,apart:=λi b g F hl E R=>?_,inj:=λi j x c A l b H hj V L K Q=>?_,nodup:=.nil,idsFree:=λi H=>by cases H }
  ·rcases r hl with h|⟨t,h⟩
   ·let⟨g,a,B⟩:=p.blk i b h;refine⟨g,by rw[y i (CB h)];exact a,?_⟩;exact(B.world λk hk=>hheap k ⟨i,b,g,h,a,hk⟩).sub λj hj g' E=>by rw[y j (hcl i b h j hj)];exact E
   ·let⟨g,a,B⟩:=r2.blk i b h;exact⟨g,by rw[z i t];exact a,xB (OC hs h) B⟩
  ·rcases r hl with h|⟨t,h⟩
   ·rw[y i (CB h)]at E;have:=T F ⟨i,b,g,h,E,R⟩;exact⟨this.1,ZM this.2 s.size⟩
   ·rw[z i t]at E;let⟨a,B⟩:=r2.apart i b g F h E R;refine⟨?_,B⟩;cases hI:I F with
    |none=>rfl
    |some o=>rw[s.imm F o (m F o hI)]at a;cases a
  ·rcases r H with C|⟨hni,C⟩
   ·rw[y i (CB C)]at V;rcases r hj with q|⟨hnj,q⟩
    ·rw[y j (CB q)]at L;exact p.inj i j x c A l b C q V L K Q
    ·rw[z j hnj]at L;exact absurd Q (hno1 b ⟨i,x,A,C,V,K⟩ j c l q L)
   ·rw[z i hni]at V;rcases r hj with q|⟨hnj,q⟩
    ·rw[y j (CB q)]at L;exact absurd K (hno1 b ⟨j,c,l,q,L,Q⟩ i x A C V)
    ·rw[z j hnj]at L;exact r2.inj i j x c A l b C q V L K Q
 ·intro i H v hv;by_cases e:i∈CT stL
  ·rw[y i e];exact hv
  ·rw[z i e];refine r3 i ?_ v hv;simp only[CT,Cy,B2]at H e ⊢;exact H.resolve_left e
 ·refine { imm:=U.le_refl I,os:=s.os,tape:=s.tape,output:=s.output,size:=s.size,block:=λb R n=>s.block b R λh=>n ?_,fresh:=λb R ⟨i,blk,g,C,q,W⟩=>?_,old:=λ_ _ _=>rfl }
  ·obtain⟨i,blk,g,C,q,W⟩:=h;exact⟨i,blk,g,up C,q,W⟩
  ·rcases r C with h|⟨t,h⟩
   ·rw[y i (CB h)]at q;exact⟨_,_,_,N h,q,W⟩
   ·rw[z i t]at q;let⟨j,c,l,a,B,q3⟩:=s.fresh b R ⟨i,blk,g,h,q,W⟩;exact⟨j,c,l,up a,B,q3⟩
def fV {g:Value} (h:BlkRep I μ w g (.row e sz es)) (R:I.le J) (o:∀b,Ek g b->J b=w.heap[b]?):M J g (.sl es):=by obtain⟨xs,G,q,H,L,A⟩:=h;rcases G.2 with⟨rfl,p⟩|⟨T,W,r,rfl,_,y,N,a,s,z⟩;have:es=[]:=Iu p;subst this;exact .slnil;have d:J T=some (.cells r e (0,0)):=(o T O).trans y;have f:∀(i:Nat) (c:L1 V) (j:Nat) (x:V),es[i]?=some c->c[j]?=some x->∃v,xs[i*sz+j]?=some v/\r[i*sz+j]?=some v/\M I v x/\v.oneCell'=true:=by{intro i c j x C D;have m:=CO H i c j x C D;have k:i*sz+j<xs.length:=by{rw[q.1];exact(A9.1 m).1};obtain⟨v,E⟩:∃v,xs[i*sz+j]?=some v:=⟨_,Bq k⟩;have n:=q.2 _ _ _ E m;refine⟨v,E,?_,n,?_⟩;rw[<- z,DO]at E;split at E;simpa using E;cases E;have:=L c (AF C) x (AF D);exact n.one this};refine .sl T 0 _ W sz es (λi j=>(r[i*sz+j]?).getD undef) O N a H (λi c j x C D=>?_) (λi c j x C D=>?_);let⟨v,_,l,_,t⟩:=f i c j x C D;simp[U.cell,d,l,t];let⟨v,_,l,u,_⟩:=f i c j x C D;simp only[l,KF];exact u.mono R
def zc3 (o n:Int) (x:Z) (v u:Value):D:=.agg [.imm (.int .i64 o),.imm (.int .i64 n),.imm (.str x),.raw v,.raw u]
mutual
def Eo:Y->Nat->Z->Y
 |.mk s n y ps,j,x=>if s=2 then(match j with|0=>.mk s n x ps|j+1=>.mk s n y (EB ps j x))else .mk s n y (EB ps j x)
def EB:L1 Y->Nat->Z->L1 Y
 |[],_,_=>[]
 |t::r,j,x=>if j<(Ej t).length then Eo t j x::r else t::EB r (j-(Ej t).length) x
end
mutual
def Ln:∀(a:An) (t:Y),kT a->vA a=As t->(ppaths a).length=(Ej t).length
 |.im _ _ _,_,h,_=>h.elim
 |.mk s o n x v ks u ps,.mk C D E y,f,r=>by obtain⟨rfl,_,_,q⟩:=f;simp only[vA,As,BP,V.sl.injEq,V.int.injEq,ay]at r;obtain⟨rfl,_,_,z,_⟩:=r;have:=Sl ks y 0 q z;simp only[ppaths,Ej,AZ,this];by_cases h:o=2<;>simp[h]
def Sl:∀(l:L1 An) (y:L1 Y) (i:Nat),PH l->It l=A4 y->(ppaths.ppathss i l).length=(CQ y).length
 |[],[],_,_,_=>rfl
 |[],_::_,_,_,h=>by simp[It,A4]at h
 |_::_,[],_,_,h=>by simp[It,A4]at h
 |a::r,t::q,i,f,h=>by simp only[It,A4,BP]at h;simp only[ppaths.ppathss,CQ,AZ,C6,Ln a t f.1 h.1,Sl r q (i+1) f.2 h.2]
end
mutual
def zdf:∀(a:An) (t:Y),kT a->vA a=As t->∀(j:Nat) (p:Is) (x:Z),(ppaths a)[j]?=some p->∀(b off:Nat) (a':An) (E f:Nat),D5 a b off p=some (a',E,f)->vA (K8 a p (dG a' x))=As (Eo t j x)
 |.im _ _ _,_,h,_,_,_,_,_,_,_,_,_,_,_=>h.elim
 |.mk s o n y v ks u ps,.mk g i l R,H,L,j,p,x,q,b,off,a',E,f,G=>by obtain⟨rfl,_,_,N⟩:=H;have d:=L;simp only[vA,As,BP,V.sl.injEq,V.int.injEq,V.str.injEq,ay]at L;obtain⟨rfl,rfl,rfl,T,_⟩:=L;have z:∀j,(ppaths.ppathss 0 ks)[j]?=some p->vA (K8 (.mk false o n y v ks u ps) p (dG a' x))=As (.mk o n y (EB R j x)):=λj e=>by{obtain⟨k,c,r,rfl,W,C⟩:=sQ ks R 0 N T j p x e;simp only[D5,Eb,BS,W,HX]at G;have:=C _ _ _ _ _ G;simp only[K8,Eb,BS,W,HX,QX,vA,As,this]};simp only[ppaths]at q;by_cases D:o=2;rw[ae D]at q;cases j with|zero=>simp at q;subst q;simp only[D5,Ci,AN]at G;obtain⟨rfl,_,_⟩:=G;simp[Eo,D,K8,dG,vA,As,T]|succ j=>{simp only[Lv,Vv]at q;rw[z j q];simp[Eo,D]};rw[ac D]at q;rw[z j q];simp[Eo,D]
def sQ:∀(l:L1 An) (R:L1 Y) (i:Nat),PH l->It l=A4 R->∀(j:Nat) (p:Is) (x:Z),(ppaths.ppathss i l)[j]?=some p->∃k c r,p=(false,i+k)::r/\l[k]?=some c/\∀(b off:Nat) (C:An) (E f:Nat),D5 c b off r=some (C,E,f)->It (l.set k (K8 c r (dG C x)))=A4 (EB R j x)
 |[],_,_,_,_,_,_,_,h=>by simp[ppaths.ppathss]at h
 |_::_,[],_,_,h,_,_,_,_=>by simp[It,A4]at h
 |a::r,t::q,i,z,h,j,p,x,D=>by simp only[It,A4,BP]at h;have y:=Ln a t z.1 h.1;simp only[ppaths.ppathss]at D;by_cases H:j<(ppaths a).length;rw[KD (by simpa using H),Ct]at D;obtain⟨T,L,rfl⟩:=EV.1 D;refine⟨0,a,T,rfl,rfl,λb off C E f N=>?_⟩;have:=zdf a t z.1 h.1 j T x L b off C E f N;simp only[nN,It,EB,ae (y▸H),A4,this,h.2];rw[Jf (by simp;omega)]at D;simp only[C6]at D;obtain⟨k,c,V,rfl,W,G⟩:=sQ r q (i+1) z.2 h.2 _ p x D;refine⟨k+1,c,V,by rw[show i+(k+1)=i+1+k by omega],by simpa using W,λb off C E f N=>?_⟩;have:=G b off C E f N;simp only[ZT,It,EB,h.1,<- y,this,ac H,A4]
end
mutual
def er:An->An
 |.mk s o n _ v ks u ps=>.mk s o n [] v (Qu ks) u (Qu ps)
 |.im s _ _=>.im s [] []
def Qu:L1 An->L1 An
 |[]=>[]
 |a::r=>er a::Qu r
end
def LA:∀l:L1 An,Qu l=l.map er
 |[]=>rfl
 |a::r=>by simp[Qu,LA r]
def GD (l:L1 An):(Qu l).length=l.length:=by rw[LA];simp
def Qt {l:L1 An} {a:An} (h:l[i]?=some a):(Qu l)[i]?=some (er a):=by rw[LA,Ct,h];rfl
def zkn {l:L1 An} {c:An} (h:(Qu l)[i]?=some c):∃a,l[i]?=some a/\er a=c:=by rw[LA,Ct]at h;exact EV.1 h
mutual
def cj:=@Iff.rfl
def zna:∀a:An,kT (er a)↔kT a
 |.im _ _ _=>cj
 |.mk s o n x v ks u ps=>by have h:Qu ks=[]↔ks=[]:=by{cases ks<;>simp[Qu]};simp only[er,kT,Mo ks,GD,h]
def Mo:∀l:L1 An,PH (Qu l)↔PH l
 |[]=>cj
 |a::r=>by simp only[Qu,PH,zna a,Mo r]
end
mutual
def KP:∀a:An,Id (er a)↔Id a
 |.im _ _ _=>cj
 |.mk s o n x v ks u ps=>by simp only[er,Id,HG ks,HG ps]
def HG:∀l:L1 An,E0 (Qu l)↔E0 l
 |[]=>cj
 |a::r=>by simp only[Qu,E0,KP a,HG r]
end
mutual
def XP:∀a:An,ppaths (er a)=ppaths a
 |.im _ _ _=>rfl
 |.mk s o n x v ks u ps=>by simp only[er,ppaths,Sm ks 0]
def Sm:∀(l:L1 An) (i:Nat),ppaths.ppathss i (Qu l)=ppaths.ppathss i l
 |[],_=>rfl
 |a::r,i=>by simp only[Qu,ppaths.ppathss,XP a,Sm r (i+1)]
end
mutual
def lM {I:U} {w:World}:∀(a:An) (b off:Nat),skW I w (er a) b off↔skW I w a b off
 |.im _ _ _,_,_=>cj
 |.mk s o n x v ks u ps,b,off=>by simp only[er,skW,dE ks]
def dE {I:U} {w:World}:∀(l:L1 An) (b i:Nat),lL I w b i (Qu l)↔lL I w b i l
 |[],_,_=>cj
 |a::r,b,i=>by simp only[Qu,lL,lM a,dE r]
end
mutual
def W2:∀a:An,F4 (er a)=F4 a
 |.im _ _ _=>rfl
 |.mk s o n x v ks u ps=>by have f:=Wz ks;have h:=Wz ps;cases s<;>simp[er,F4,f,h,GD]
def Wz:∀l:L1 An,D3 (Qu l)=D3 l
 |[]=>rfl
 |a::r=>by simp only[Qu,D3,W2 a,Wz r]
end
def zj1 (a:An) (p:Bool×Nat):Eb (er a) p=(Eb a p).map λr=>(er r.1,r.2.1,r.2.2):=by rcases a with⟨s,o,n,x,v,ks,u,ps⟩|⟨h,f,q⟩;(case im=>rfl);obtain⟨r,k⟩:=p;cases r with|false=>simp only[er,Eb,LA,Ct];cases ks[k]?<;>rfl|true=>{cases s with|false=>rfl|true=>{simp only[er,Eb,LA,Ct];cases ps[k]?<;>rfl}}
def Ns:∀(p:Is) (a:An) (b off:Nat),D5 (er a) b off p=(D5 a b off p).map λr=>(er r.1,r.2.1,r.2.2)
 |[],a,b,off=>rfl
 |q::r,a,b,off=>by simp only[D5,zj1];cases Eb a q with|none=>rfl|some y=>{exact Ns r y.1 y.2.1 y.2.2}
def uT (a c d:An) (p:Bool×Nat) (b off:Nat) (h:Eb a p=some (c,b,off)) (y:er d=er c):er (QX a p d)=er a:=by have st:∀{l:L1 An} {k:Nat},l[k]?=some c->Qu (l.set k d)=Qu l:=by{intro l k q;rw[LA,LA,My,y];apply S7;intro i;rw[ZV];split;rename_i e;subst e;rw[Ct,q];simp;exact(A9.1 q).1;rfl};rcases a with⟨s,o,n,x,v,ks,u,ps⟩|⟨D,z,E⟩;(case im=>simp[Eb]at h);obtain⟨r,k⟩:=p;cases r with|false=>simp only[Eb,EV,AN]at h;obtain⟨C,f,rfl,_,_⟩:=h;simp only[QX,er,st f]|true=>{cases s with|true=>simp only[Eb,EV,AN]at h;obtain⟨C,f,rfl,_,_⟩:=h;simp only[QX,er,st f]|false=>{simp[Eb]at h}}
def TX:∀(p:Is) (a:An) (b off:Nat) (a':An) (E f:Nat) (a2:An),D5 a b off p=some (a',E,f)->er a2=er a'->er (K8 a p a2)=er a
 |[],a,b,off,a',E,f,a2,h,z=>by simp only[D5,Ci,AN]at h;obtain⟨rfl,_,_⟩:=h;exact z
 |q::r,a,b,off,a',E,f,a2,h,z=>by simp only[D5]at h;simp only[K8];split at h;rename_i c C y D;exact uT a c _ q C y D (TX r c C y a' E f a2 h z);cases h
mutual
def zf5:∀(a:An) (t:Y),kT a->vA a=As t->∀(j:Nat) (p:Is),(ppaths a)[j]?=some p->∀(b off:Nat) (a':An) (E f:Nat),D5 a b off p=some (a',E,f)->∃s o n x v ks u ps,a'=.mk s o n x v ks u ps/\(C4 t)[j]?=some x
 |.im _ _ _,_,h,_,_,_,_,_,_,_,_,_,_=>h.elim
 |.mk s o n y v ks u ps,.mk e g i N,H,R,j,p,q,b,off,a',E,f,G=>by obtain⟨rfl,_,_,L⟩:=H;simp only[vA,As,BP,V.sl.injEq,V.int.injEq,V.str.injEq,ay]at R;obtain⟨rfl,rfl,rfl,T,_⟩:=R;have z:∀j,(ppaths.ppathss 0 ks)[j]?=some p->∃s o n x v ks u ps,a'=.mk s o n x v ks u ps/\((CQ N).map F7)[j]?=some x:=λj W=>by{obtain⟨k,c,r,rfl,d,C⟩:=uK ks N 0 L T j p W;simp only[D5,Eb,BS,d,HX]at G;exact C _ _ _ _ _ G};simp only[ppaths]at q;simp only[C4,Ej];by_cases D:o=2;rw[ae D]at q;have l:(o==2)=true:=by{simp[D]};simp only[D,ar,Lv,C0];cases j with|zero=>simp at q;subst q;simp only[D5,Ci,AN]at G;obtain⟨rfl,_,_⟩:=G;exact⟨_,_,_,_,_,_,_,_,rfl,by simp[F7]⟩|succ j=>{simp only[Lv,Vv]at q ⊢;exact z j q};rw[ac D]at q;simp only[D,aw,HZ];exact z j q
def uK:∀(l:L1 An) (R:L1 Y) (i:Nat),PH l->It l=A4 R->∀(j:Nat) (p:Is),(ppaths.ppathss i l)[j]?=some p->∃k c r,p=(false,i+k)::r/\l[k]?=some c/\∀(b off:Nat) (a':An) (E f:Nat),D5 c b off r=some (a',E,f)->∃s o n x v ks u ps,a'=.mk s o n x v ks u ps/\((CQ R).map F7)[j]?=some x
 |[],_,_,_,_,_,_,h=>by simp[ppaths.ppathss]at h
 |_::_,[],_,_,h,_,_,_=>by simp[It,A4]at h
 |a::r,t::q,i,y,h,j,p,z=>by simp only[It,A4,BP]at h;have C:=Ln a t y.1 h.1;simp only[ppaths.ppathss]at z;by_cases V:j<(ppaths a).length;rw[KD (by simpa using V),Ct]at z;obtain⟨T,G,rfl⟩:=EV.1 z;refine⟨0,a,T,rfl,rfl,λb off a' E f H=>?_⟩;let⟨s,o,n,x,v,ks,u,ps,L,N⟩:=zf5 a t y.1 h.1 j T G b off a' E f H;refine⟨s,o,n,x,v,ks,u,ps,L,?_⟩;simp only[CQ,Cy];rw[KD (by simp;omega)];exact N;rw[Jf (by simp;omega)]at z;simp only[C6]at z;obtain⟨k,c,W,rfl,d,D⟩:=uK r q (i+1) y.2 h.2 _ p z;refine⟨k+1,c,W,by rw[show i+(k+1)=i+1+k by omega],by simpa using d,λb off a' E f H=>?_⟩;let⟨s,o,n,x,v,ks,u,ps,L,N⟩:=D b off a' E f H;refine⟨s,o,n,x,v,ks,u,ps,L,?_⟩;simp only[CQ,Cy];rw[Jf (by simp;omega)];simpa[<- C]using N
end
def bp:An->Int->L1 Is
 |.mk _ o _ _ _ _ _ f,i=>bif BN o i then[[]]else bif C5 o i then(match f[(i-1).toNat]? with
  |some q=>(ppaths q).map ((true,(i-1).toNat)::·)
  |none=>[])else[]
 |.im _ _ _,_=>[]
def Wt (a:An) (i:Int):bp (er a) i=bp a i:=by rcases a with⟨s,o,n,x,v,ks,u,ps⟩|⟨h,f,r⟩;simp only[er,bp,LA,Ct];cases ps[(i-1).toNat]? with|none=>rfl|some q=>{simp[XP]};rfl
def plD (b:Nat) (a:An) (p:Is):D:=match D5 a b 0 p with
 |some (_,E,f)=>.raw (ptr E (El f 2))
 |none=>.undef
def Hv:Tm->Int->Nat->Z->Tm
 |.mk f n y ks ps,i,j,x=>if BN f i then .mk f n x ks ps else if C5 f i then(match ps[(i-1).toNat]? with
  |some p=>.mk f n y ks (ps.set (i-1).toNat (Eo p j x))
  |none=>.mk f n y ks ps)else .mk f n y ks ps
def yA:An->Prop
 |.mk s _ _ _ _ _ _ f=>s=true/\PH f
 |.im _ _ _=>False
def Kk (a:An):yA (er a)↔yA a:=by cases a with|mk s o n x v ks u ps=>simp only[er,yA,Mo]|im=>{exact cj}
def zax {l:L1 Y} {c:Y}:A4 (l.set i c)=(A4 l).set i (As c):=by simp[D1,My]
def YM {l:L1 Y} {c:Y} (h:l[i]?=some c):(A4 l)[i]?=some (As c):=by simp[D1,h]
def UN {a:An} (r:kT a) (b off:Nat) {p:Is} (h:(ppaths a)[j]?=some p):∃a' E f,D5 a b off p=some (a',E,f)/\(K9 a b off)[j]?=some (.raw (ptr E (El f 2))):=by have q:j<(K9 a b off).length:=by{rw[P5];exact(A9.1 h).1};let⟨D,a',E,f,y,z,C,_⟩:=sX a b off r j _ (Bq q);rw[h]at y;cases y;exact⟨a',E,f,z,by rw[Bq q,C]⟩
def Ua {a:An} (H:yA a) (d:vA a=dTmc t) {i:Int} {p:Is} (f:(bp a i)[j]?=some p) (b:Nat):∃s o n x v ks u ps E h,D5 a b 0 p=some (.mk s o n x v ks u ps,E,h)/\(A0 t i)[j]?=some x/\∀y,vA (K8 a p (.mk s o n y v ks u ps))=dTmc (Hv t i j y):=by rcases a with⟨s,o,n,x,v,ks,u,k⟩|⟨s0,A,c0⟩;(case im=>exact H.elim);obtain⟨op,tn,tx,B,L⟩:=t;obtain⟨rfl,F⟩:=H;have I:=d;simp only[vA,dTmc,BP,V.int.injEq,V.str.injEq,V.sl.injEq,ay,be]at d;obtain⟨rfl,rfl,rfl,m,W⟩:=d;simp only[bp]at f;cases z:BN o i with|true=>{simp only[z,bg]at f;cases j with|succ j=>simp at f|zero=>{simp at f;subst f;exact⟨_,_,_,_,_,_,_,_,b,0,rfl,by simp[A0,z],λy=>by simp[K8,vA,Hv,z,dTmc,m,W]⟩}}|false=>{cases c:C5 o i with|false=>simp[z,c]at f|true=>{simp only[z,c,bg,bh]at f;cases C:k[(i-1).toNat]? with|none=>simp only[C]at f;simp at f|some q=>{simp only[C,Ct]at f;obtain⟨w,D,rfl⟩:=EV.1 f;have r:=Mn F C;obtain⟨N,G⟩:∃N,L[(i-1).toNat]?=some N:=by{have R:k.length=L.length:=by{have:=af List.length W;simpa using this};exact At (by rw[<- R];exact(A9.1 C).1)};have T:vA q=As N:=by{have:=af (λl=>l[(i-1).toNat]?) W;simp only[Zi C,YM G]at this;exact JM this};let⟨a',E,h,R,_⟩:=UN r (B4 u) ((i-1).toNat*4) D;obtain⟨s,J,K,P,Q,e,S,g,rfl,hx⟩:=zf5 q N r T j w D _ _ _ _ _ R;refine⟨s,J,K,P,Q,e,S,g,E,h,?_,?_,λy=>?_⟩;simp only[D5,Eb,C,HX];exact R;simp only[A0,z,c,G,ar,DN,aw];exact hx;have:=zdf q N r T j w y D _ _ _ _ _ R;simp only[dG]at this;simp only[K8,Eb,C,HX,QX,vA,Hv,z,c,G,ar,DN,aw,dTmc,m];congr 5;rw[Ki,My,<- Ki,this,W,zax]}}}
def EZ (b:Nat) (sk:An) (t:Tm):Asn where
 P:=λvs I w bs=>∃a,er a=sk/\vA a=dTmc t/\(QF b a).P vs I w bs
 mono:=λh ⟨a,h1,h2,h3⟩=>⟨a,h1,h2,(QF b a).mono h h3⟩
 loc:=λh ⟨a,h1,h2,h3⟩=>⟨a,h1,h2,(QF b a).loc h h3⟩
def lY {h:An} (q:yA h) {i:Int} {p:Is} (z:(bp h i)[j]?=some p) {a0:An} {f:Nat} (r:D5 h b 0 p=some (a0,E,f)) (N:(A0 t i)[j]?=some x):∀vs I w C,(EZ b h t).P vs I w C->Ex I w E (El f 2) [.imm (.str x)]:=by rintro vs I w C ⟨a,rfl,R,D⟩;rw[Wt]at z;let⟨s,o,n,T,v,ks,u,ps,V,G,H,L,_⟩:=Ua ((Kk a).1 q) R z b;rw[N]at L;cases L;rw[Ns,H]at r;simp only[HX,Ci,AN]at r;obtain⟨_,rfl,rfl⟩:=r;have y:=(TU H D.2.2.2.2.1 D.2.2.2.2.2).1;exact GQ y (i:=2) (c:=K4 x) (by cases s<;>rfl) O (.imm _ _ (.encStr _ _))
def dU {h:An} (q:yA h) {i:Int} {p:Is} (C:(bp h i)[j]?=some p) {a0:An} {f:Nat} (r:D5 h b 0 p=some (a0,E,f)) (x:Z):bR (EZ b h t) (EZ b h (Hv t i j x)) E (El f 2) [.imm (.str x)]:=by rintro vs I w G ⟨a,rfl,H,L⟩;rw[Wt]at C;let⟨s,o,n,g,v,ks,u,ps,k,D,y,_,N⟩:=Ua ((Kk a).1 q) H C b;rw[Ns,y]at r;simp only[HX,Ci,AN]at r;obtain⟨_,rfl,rfl⟩:=r;let⟨R,z,T,V,W,c⟩:=Ut x y vs I w G L;exact⟨R,z,T,V,W,λcs d e=>⟨_,TX p a b 0 _ _ _ _ y (by simp[er]),N x,c cs d e⟩⟩
def UE {h:An} {op n:Int} (f:yA h):Zy (EZ b h (.mk op n x ks ps)) b op:=by rintro vs I w z ⟨a,rfl,q,r⟩;have f:=(Kk a).1 f;rcases a with⟨s,o,n,x,v,ks,u,C⟩|⟨D,y,E⟩;(case im=>exact f.elim);obtain⟨rfl,_⟩:=f;simp only[vA,dTmc,BP,V.int.injEq,ay]at q;obtain⟨rfl,_⟩:=q;have:=GQ (I:=I) r.2.2.2.2.1 (i:=0) (c:=.int .i64 o) O O (.imm _ _ (.int _ _));simpa[FZ]using this
def Jd {n:Int} {ks:L1 An} {E:L1 An} {G:L1 Nat} (h:(EZ b (.mk true o n x v ks u E) t).P vs I w G):Ex I w b 3 [.raw v]/\Ex I w b 4 [.raw u]:=by obtain⟨a,f,V,q⟩:=h;rcases a with⟨s,W,c,d,H,L,N,R⟩|⟨e,T,g⟩;(case im=>simp[er]at f);simp only[er,An.mk.injEq]at f;obtain⟨rfl,rfl,rfl,_,rfl,_,rfl,_⟩:=f;have r:=q.2.2.2.2.2;simp only[ID]at r;have y:=HT r.1.1;have z:=HT (r.2 ab).1;have C:=GQ (I:=I) q.2.2.2.2.1 (i:=3) (c:=H) O y (.raw _ y);have D:=GQ (I:=I) q.2.2.2.2.1 (i:=4) (c:=N) O z (.raw _ z);simp only[FZ,BS]at C D;exact⟨C,D⟩
def Hf (n:Nat):Z:=if n<26 then[UInt8.ofNat (97+n)]else[UInt8.ofNat (97+(n / 26-1)),UInt8.ofNat (97+n % 26)]
def zS:Hg 1 []++Hg 2 []=(List.range 702).map Hf:=by decide +kernel
def namesAt:L1 Nat:=(List.range 702).filter λn=>BV (Hf n)
def ze6 {a:Nat} (C:a<702) (D:b<702) (h:Hf a=Hf b):a=b:=by have u:∀x y:Nat,x<256->y<256->UInt8.ofNat x=UInt8.ofNat y->x=y:=λx y f q e=>by{have:=af UInt8.toNat e;simpa[Nat.mod_eq_of_lt f,Nat.mod_eq_of_lt q]using this};unfold Hf at h;by_cases r:a<26<;>by_cases z:b<26<;>simp only[r,z,ar,aw,BP,be,reduceCtorEq,and_false]at h;have:=u _ _ (by omega) (by omega) h;omega;have E:=u _ _ (by omega) (by omega) h.1;have G:=u _ _ (by omega) (by omega) h.2;omega
def hO {l:L1 Z} {s:Z}:Bm l s=true↔s∈l:=by induction l with|nil=>simp[Bm]|cons x r f=>{simp only[Bm,Fg,ao,Ck,f];constructor;rintro (h|h);exact .inl h.symm;exact .inr h;rintro (h|h);exact .inl h.symm;exact .inr h}
def Oh:∀(a:L1 Nat) (l:L1 Z),a.Nodup->(∀n∈a,n<702)->(∀n∈a,Hf n∈l)->a.length<=l.length
 |[],_,_,_,_=>by simp
 |n::r,l,D,q,z=>by let⟨E,G⟩:=Fr.1 D;have f:=z n (by simp);have:=Oh r (l.erase (Hf n)) G (λx h=>q x (by simp[h])) λx h=>by{have y:Hf x≠Hf n:=λe=>E (ze6 (q x (by simp[h])) (q n (by simp)) e▸h);exact(List.mem_erase_of_ne y).2 (z x (by simp[h]))};rw[List.length_erase_of_mem f]at this;have C:0<l.length:=List.length_pos_of_mem f;simp only[Co];omega
def yG:decide (700<=namesAt.length)=true:=by decide +kernel
def di:=@Classical.byContradiction
def zag (l:L1 Z) (L:l.length<=699):∃k,k<702/\(∀j<k,EL l (Hf j)=false)/\EL l (Hf k)=true:=by have q:∃k,k<702/\EL l (Hf k)=true:=by{apply di;intro r;have f:∀n∈namesAt,Hf n∈l:=λn h=>by{simp only[namesAt,Lt,Of]at h;apply di;intro E;refine r ⟨n,h.1,?_⟩;have:Bm l (Hf n)=false:=by{cases G:Bm l (Hf n)with|false=>rfl|true=>{exact absurd (hO.1 G) E}};simp[EL,h.2,this]};have:=Oh namesAt l (List.Pairwise.filter _ List.nodup_range) (λn h=>by simp only[namesAt,Lt,Of]at h;exact h.1) f;have N:=ap yG;omega};obtain⟨k,y,z⟩:=q;induction k using Nat.strongRecOn with|_ k H=>{by_cases f:∀j<k,EL l (Hf j)=false;exact⟨k,y,f,z⟩;simp only[Classical.not_forall,Bool.not_eq_false]at f;obtain⟨j,C,D⟩:=f;exact H j C (by omega) D}
def DG (l:L1 Z):Z:=Hf (((List.range 702).find? λk=>EL l (Hf k)).getD 0)
def zah {l:L1 Z} {k:Nat} (C:k<702) (f:∀j<k,EL l (Hf j)=false) (q:EL l (Hf k)=true):DG l=Hf k:=by have r:(List.range 702).find? (λk=>EL l (Hf k))=some k:=by{have e:List.range 702=List.range k++k::List.range' (k+1) (701-k):=by{rw[Yl,Yl,<- Ms];have h:=zew (s:=0) (m:=k) (n:=701-k+1);rw[BS]at h;rw[h];congr 1;omega};rw[e,List.find?_append];have y:(List.range k).find? (λk=>EL l (Hf k))=none:=by{rw[List.find?_eq_none];intro j z;simp[f j (Of.1 z)]};rw[y];simp[q]};rw[DG,r];rfl
def SK (l:L1 Z) (r:l.length<=699):∃k,k<702/\(∀j<k,EL l (Hf j)=false)/\EL l (Hf k)=true/\DG l=Hf k:=by let⟨k,f,h,q⟩:=zag l r;exact⟨k,f,h,q,zah f h q⟩
def bC (l:L1 Z) (h:l.length<=699):BV (DG l)=true/\DG l∉l:=by let⟨k,_,_,f,q⟩:=SK l h;rw[<- q]at f;simp only[EL,Am,Kq]at f;refine⟨f.1,λr=>?_⟩;have:=hO.2 r;rw[f.2]at this;cases this
def lD (l:L1 Z) (q:l.length<=699):Tq3 167 [.sl (Cq l)] (.str (DG l)):=by let⟨k,C,f,r,e⟩:=SK l q;rw[e];refine zh5 l (Hf k) ((List.range k).map Hf) ((List.range' (k+1) (701-k)).map Hf) (by omega) ?_ (λx y=>?_) r;rw[zS];have:List.range 702=List.range k++k::List.range' (k+1) (701-k):=by{rw[Yl,Yl,<- Ms];have h:=zew (s:=0) (m:=k) (n:=701-k+1);rw[BS]at h;rw[h];congr 1;omega};rw[this];simp;obtain⟨j,z,rfl⟩:=C7.1 y;exact f j (Of.1 z)
structure PMs where
 e:TypeId
 z:V
 bytes:Nat
 m:Int
 m2:Int
 id':Nat
 ids':List Nat
 dst:Option Nat
 todo:List DI
def zo5 (r:TT) (n:Nat) (env:Env) (aa:L1 Nat) (todo:L1 DI):Option PMs :=
 match OK todo,aa with
 |some o,f::ids'=>match o.guard,o.op with
  |none,.makeSlice t l c=>match lk r t,EM env l,EM env c with
   |some { sh:=.sl e,.. },some (.imm (.int _ m)),some (.imm (.int _ h))=>match lk r e,Ce n o.dst,B1 todo ([],[f])with
    |some ⟨_,_,1,bytes,[.imm z]⟩,true,some (_,_,C)=>some ⟨e,z,bytes,m,h,f,ids',o.dst,C⟩
    |_,_,_=>none
   |_,_,_=>none
  |_,_=>none
 |_,_=>none
structure PFs where
 id:Nat
 e:TypeId
 es:List (List V)
 k:Nat
 x:V
 j:Nat
 todo:List DI
def sY (r:TT) (env:Env) (st:St) (todo:L1 DI):Option PFs :=
 match OK todo with
 |some o=>match o.guard,o.dst,o.op with
  |none,none,.store t p x=>match lk r t,EM env p,EM env x with
   |some i,some (.elp id k 1 0),some (.ref j off)=>match lk st id,lk st j,B1 todo ([id,j],[id,j]),Nat.beq i.size 1,Nat.beq id j with
    |some (some (.row e 1 es)),some (some (.immb f _ xs)),some (_,_,C),true,false=>some ⟨id,e,es,k,.ip f xs off,j,C⟩
    |_,_,_,_,_=>none
   |_,_,_=>none
  |_,_,_=>none
 |none=>none
def zei (z:Array Value) (n:Nat) (c:Value) (h:z.toList=[c]):madeCells z n=Array.replicate n c:=by obtain⟨z⟩:=z;simp at h;subst h;apply Array.ext;simp[madeCells];intro i f q;simp[madeCells,Nat.mod_one]
def zY (T:TTok P r) {c:PMs} (h:zo5 r n env aa todo=some c) (p:c.m2=c.m) (h0:0<=c.m) (h1:(c.bytes:Int)*c.m<=281474976710656) (B:c.m<=maxLen) (hz:V.one c.z=true)
  (hk:G P n F Q c.todo (Ca c.dst (.own c.id' (List.replicate c.m.toNat [c.z]).length) env) ((c.id',some (.row c.e 1 (List.replicate c.m.toNat [c.z])))::st) c.ids'):G P n F Q todo env st aa:=by
 unfold zo5 at h
 split at h
 ·rename_i o W ids' ho
  split at h
  ·rename_i t l cc hg L
   split at h
   ·rename_i e _ _ _ _ k1 m k2 m2 ht J H
    split at h
    ·rename_i sh ag bytes z all o' C hi hd b;cases h;have K:o'=o:=Dp ho b;subst K;simp only at p h0 h1 B hz hk;have p:=p.symm;subst p;refine BQ (fr:=[W]) (wr:=[(W,some (.row e 1 (List.replicate m.toNat [z])))]) (rd:=[]) b ?_ hd (λc H=>by rw[L]at H;cases H) hk;intro I μ a8 ids1 a w hag S hon;refine⟨λ_=>?_,λhw=>by rw[AJ hg]at hw;cases hw⟩;have E:=Bx hon;rw[L]at E;have s:=E l (by simp[Op.operands]) _ J;have u:=E cc (by simp[Op.operands]) _ H;obtain⟨N,zv,i1,i2,i3,i4,i5,i6⟩:=(T e _ hi).info;have d:=i5 I μ;have hzl:∃D,zv.cells.toList=[D]/\M I D z:=by
      have J:=d.1
      match hcs:zv.cells.toList,J with
      |[D],_=>exact⟨D,rfl,(d.2 0 D _ (by rw[hcs];rfl) O).immInv⟩
     obtain⟨D,g,hr0⟩:=hzl;have hsz:N.size=1:=i2;have hby:N.bytes=bytes:=i3;have j:(execOp a.eval o').run P w=.ok (.value (.slice (some ⟨w.heap.size,0,none⟩) m.toNat m.toNat)) (w.alloc (.cells (Array.replicate m.toNat D) e)):=by
      have hs:=(T t _ ht).sh;have R:=run_make (P:=P) w t e N zv hs i1 i4 k1 k2 m m h0 (M0 _) (by rw[hby];exact h1) (by simpa[maxLen]using B);rw[zei _ _ D g,hsz,Io]at R;simp only[execOp,L];generalize a.eval l=vl at s;generalize a.eval cc=vc at u;cases s with
      |imm _ _ s=>
      cases u with
      |imm _ _ u=>
      cases s;cases u;simp only[aj,R,ah,am]
     rw[j];have f:(List.replicate m.toNat [z]).length=m.toNat:=by simp
     have hone0:D.oneCell'=true:=i6 D (by rw[g];simp);let⟨k,q1,q2,q3,q4⟩:=S.allocO (.cells (Array.replicate m.toNat D) e) (.slice (some ⟨w.heap.size,0,none⟩) m.toNat m.toNat) (λ_ h=>cw h) (.row e 1 (List.replicate m.toNat [z])) (λk _=>
      ⟨(List.replicate m.toNat D),⟨by simp[f],.inr ⟨w.heap.size,m.toNat,Array.replicate m.toNat D,by rw[f],AK _,Fi w _,by rw[f];exact BO _,by simp[maxLen]at B ⊢;omega,by simp,by rw[f];simp⟩⟩,⟨by simp,λi v x A R=>by
       have e1:(List.replicate m.toNat [z]).flatten=List.replicate m.toNat z:=by
        generalize m.toNat=q
        induction q with
        |zero=>rfl
        |succ q ih=>simp only[List.replicate_succ,LO,ih];rfl
       rw[e1]at R;rw[List.getElem?_replicate]at A R
       split at A
       ·rename_i hq;rw[ae hq]at R;cases A;cases R;exact hr0
       ·cases A⟩,λc H=>by rw[zev H];rfl,λc H y hy=>by
       rw[zev H]at hy;simp at hy;subst hy;exact hz,ZS⟩)
     rw[f]at *;exact⟨I,k,q3,.own _ _ _ _ q1,q2,q4⟩
    ·cases h
   ·cases h
  ·cases h
 ·cases h
def StRep.freezeI {id:Nat} {c:TypeId} (f:StRep I μ st aa w) (q:Aw st id (.immb c sz xs)) :
  ∃J:U,I.le J/\StRep J μ ((id,none)::st) aa w/\Ext I μ st w J μ ((id,none)::st) w/\∀v off,X I μ v (.ref id off)->M J v (.ip c xs off):=by
 obtain⟨g,d,t,C,vs,rfl,D,r,T⟩:=f.blk id _ q;let⟨n,A⟩:=f.apart id _ _ C q d rfl;obtain⟨J,l⟩:∃J:U,J=λk=>if k=C then some (.cells vs c (0,0))else I k:=⟨_,rfl⟩
 have y:I.le J:=λk o h=>by
  have:k≠C:=λe=>by rw[e,n]at h;cases h
  rw[l];simp[this,h]
 have V:∀k o,J k=some o->I k=some o\/(k=C/\w.heap[k]?=some o):=λk o h=>by
  rw[l]at h;by_cases W:k=C
  ·subst W;simp at h;subst h;exact .inr ⟨rfl,D⟩
  ·simp[W]at h;exact .inl h
 refine⟨J,y,?_,?_,?_⟩
 ·exact
   {imm:=λk o h=>(V k o h).elim (λh=>f.imm k o h) λh=>h.2
    blk:=λi G H=>by
     let⟨_,N⟩:=B3.1 H;let⟨L,z,B⟩:=f.blk i G N;exact⟨L,z,B.mono y (Mu.le_refl μ)⟩
    apart:=λi G L k H z W=>by
     let⟨p,N⟩:=B3.1 H;let⟨F,K⟩:=f.apart i G L k N z W;refine⟨?_,K⟩;cases s:J k with
     |none=>rfl
     |some o=>
      rcases V k o s with h|⟨h,_⟩
      ·rw[F]at h;cases h
      ·subst h;exact absurd (f.inj i id _ _ _ _ k N q z d W O) p
    inj:=λi j G P L Q b S R=>f.inj i j G P L Q b (B3.1 S).2 (B3.1 R).2
    nodup:=f.nodup
    idsFree:=f.idsFree }
 ·exact
   {imm:=y,os:=rfl,tape:=rfl,output:=rfl,size:=BO _
    block:=λ_ _ _=>rfl
    fresh:=λk _ ⟨i,G,L,p,N,h3⟩=>⟨i,G,L,(B3.1 p).2,N,h3⟩
    old:=λk _ ho=>by
     have:k≠C:=λe=>ho (e▸⟨id,_,_,q,d,rfl⟩);rw[l];simp[this] }
 ·intro v off hv;have a:v=.pointer (some ⟨C,off,none⟩):=by
   cases hv with
   |ref E _ _ u=>rw[d]at u;cases u;rfl
  rw[a];have:=M.ip (I:=J) C 0 c xs off (λj=>(vs[j]?).getD undef) (λj x m=>?_) (λj x m=>?_)
  ·simpa using this
  ·have R:j<vs.size:=by have:=r.1;have:=(A9.1 m).1;simp at *;omega
   rw[l];simp only[U.cell,ar,BS,PW R,KF,ay];exact T _ (by simp)
  ·have R:j<vs.size:=by have:=r.1;have:=(A9.1 m).1;simp at *;omega
   simp only[PW R,KF];exact(r.2 j _ x (by simp[R]) m).mono y
def zgd (htt:TTok P r) {c:PFs} {y:V} (h:sY r env st todo=some c) (l:c.es[c.k]?=some [y])
  (K:G P n F Q c.todo env ((c.id,some (.row c.e 1 (c.es.set c.k [c.x])))::(c.j,none)::st) aa):G P n F Q todo env st aa:=by
 unfold sY at h
 split at h
 ·rename_i o ho
  split at h
  ·rename_i t p x hgd W m
   split at h
   ·rename_i i id D j off ht hp hx
    split at h
    ·rename_i s es E sz2 xs all o' C hl hlj S hsz R;cases h;have ho':o'=o:=Dp ho S;subst ho';have hs:=CU hsz;have R:id≠j:=λe=>by rw[e]at R;simp at R
     simp only at l K;have K:G P n F Q C (Ca o'.dst .undef env) ([(id,some (.row s 1 (es.set D [.ip E xs off]))),(j,none)]++st) aa:=by rw[W];exact K
     refine BQ (fr:=[]) (wr:=[(id,some (.row s 1 (es.set D [.ip E xs off]))),(j,none)]) (rd:=[id,j]) S ?_ (by simp[Ce,W]) (λc l=>by rw[m]at l;cases l) K;intro I μ a8 ids1 a w hag hst hon;refine⟨λ_=>?_,λhw=>by rw[AJ hgd]at hw;cases hw⟩;have H:=Bx hon;rw[m]at H;have rp:=H p (by simp[Op.operands]) _ hp;have rx:=H x (by simp[Op.operands]) _ hx;have hl1:Aw a8 id (.row s 1 es):=by unfold Aw;rw[hag id (by simp)];exact hl
     have hl2:Aw a8 j (.immb E sz2 xs):=by unfold Aw;rw[hag j (by simp)];exact hlj
     let⟨J,f1,f2,f3,f4⟩:=hst.freezeI hl2;have hl3:Aw ((j,none)::a8) id (.row s 1 es):=B3.2 ⟨R,hl1⟩;have rv:=f4 _ _ rx;let⟨b,T,f,hmu,L,hcap,hcm,A,d,g,hone,hpos⟩:=UC f2 hl3 (by rintro rfl;simp at l);have hkl:=(A9.1 l).1;rw[Io]at A;generalize hv:a.eval p=v at rp;generalize hu:a.eval x=u at rx rv;have N:u.cells = #[u]/\u.oneCell'=true:=by cases rx;exact⟨rfl,rfl⟩
     cases rp with
     |elp _ _ ln cp _ _ _ hm=>
      rw[hm]at hmu;cases hmu;have hfit:D*1+0+u.cells.toList.length<=f.size:=by rw[N.1,A];simp;omega
      have hrun:(execOp a.eval o').run P w=.ok .skip (w.setRow b (f.toList.take (D*1+0)++u.cells.toList++f.toList.drop (D*1+0+u.cells.toList.length)).toArray):=by
       simp only[execOp,m,hv,hu,aj,H4 (htt t i ht) L (by rw[N.1,hs];rfl) (λz hz=>by rw[N.1]at hz;simp at hz;subst hz;exact N.2) hfit,ah,am]
      rw[hrun];have hcl:f.toList.length=T:=by simpa using A
      rw[N.1];simp only[Io,Gs,DM];simp only[Io]at d;have hnew:BlkRep J μ (w.setRow b (f.toList.take D++[u]++f.toList.drop (D+1)).toArray) (.slice (some ⟨b,0,none⟩) es.length T) (.row s 1 (es.set D [.ip E xs off])):=by
       have e1:=JB (sz:=1) (f:=0) (ys:=[V.ip E xs off]) es D [y] g l (by simp);simp only[fN,HZ,DM,BS,Io,Gs]at e1;have e1':(es.set D [V.ip E xs off]).flatten=es.flatten.take D++[V.ip E xs off]++es.flatten.drop (D+1):=by simpa using e1
       have e2:(f.toList.take D++[u]++f.toList.drop (D+1)).take es.length=(f.toList.take es.length).take D++[u]++(f.toList.take es.length).drop (D+1):=by
        rw[Cl,PT,PT,Vg,Vg,Gt,Cl];rw[PR (by omega:D<=f.toList.length),tS (by omega:D<=es.length),PR (by omega:D<=es.length)];rw[CA (l:=[u]) (by simp;omega),nM];congr 3
       have hR:=RepVL.splice d (ns:=[u]) (ys:=[V.ip E xs off]) ⟨rfl,λq v z S h2=>by
        match q with
        |0=>simp at S h2;subst S;subst h2;exact rv
        |q+1=>simp at S⟩ D
       simp only[DM]at hR;have Dc:(es.set D [V.ip E xs off]).length=es.length:=by simp
       refine⟨_,⟨?_,.inr ⟨b,T,_,by rw[Dc],AK _,b8 w b f _ s _ L,by rw[Dc];exact hcap,hcm,?_,rfl⟩⟩,?_,?_,?_,ZS⟩
       ·simp;omega
       ·simp;omega
       ·rw[Dc,Io,Mt,e2,e1'];exact hR
       ·intro c B;rcases OR B with h|h
        ·exact g c h
        ·rw[h];rfl
       ·intro c B y hy;rcases OR B with h|h
        ·exact hone c h y hy
        ·rw[h]at hy;simp at hy;subst hy;rfl
      let⟨q1,q2⟩:=f2.update (id:=id) (blk:=.row s 1 es) (g:=.slice (some ⟨b,0,none⟩) es.length T) (b:=b) hl3 hm rfl (w':=w.setRow b _) (br w b _) rfl rfl rfl (λk K=>az w b k _ K) hnew;exact⟨J,μ,q1,.undef _,Mu.le_refl μ,f3.trans q2⟩
    ·cases h
   ·cases h
  ·cases h
 ·cases h
def ttX:TT:=ttF++[
 (260,⟨.sl 225,false,1,24,[.nils]⟩),
 (217,⟨.ptr 220,false,1,8,[.imm .nilp]⟩),
 (220,⟨.struct [(0,73)],true,1,24,[.nils]⟩),
 (160,⟨.struct [(0,9),(1,49),(6,139)],true,7,104,[.imm (.str []),.imm (.int .i64 0),.imm (.int .i64 0),.imm (.str []),.nils,.nils,.imm .nilmap]⟩)]
def Dl:TTok prog ttX:=.of_eq (l:=[4,3,9,49,25,182,45,47,5,23,22,73,46,180,71,43,178,40,41,113,111,28,293,195,1,139,296,190,183,185,187,26,246,191,270,235,233,232,268,312,230,225,262,264,260,217,220,160]) (by kernel_rfl)
def xd (f:L1 Pt) (h:run ttX n 300 f todo env st aa []=.at k q au ids' ob) (r:A8 ob) (y:Tq1 n F Q k q au ids'):Tq2 n F Q todo env st aa:=JY Dl mixed 300 f h r y
def LU (h:run ttX n 300 [] todo env st aa []=.at k q au ids' ob) (r:Tq1 n F Q k q au ids') (f:A8 ob:=by simp):Tq2 n F Q todo env st aa:=xd [] h f r
def xdqc (h:run ttX n 300 [] todo env st aa []=.at k q au ids' ob) (r:Tq1 n F Q k q au ids') (f:A8 ob:=by simp[Ap]):Tq2 n F Q todo env st aa:=xd [] h f r
def xg (f:L1 Pt) (h:run ttX n 300 f todo env st aa []=.at k q au ids' ob) (r:A8 ob) (y:Tq1 n F Q k q au ids'):Tq1 n F Q todo env st aa:=Iw Dl mixed 300 f h r y
def GU (h:run ttX n 300 [] todo env st aa []=.at k q au ids' ob) (r:Tq1 n F Q k q au ids') (f:A8 ob:=by simp):Tq1 n F Q todo env st aa:=xg [] h f r
def vY (h:run ttX n 300 [] todo env st aa []=.at k q au ids' ob) (r:Tq1 n F Q k q au ids') (f:A8 ob:=by simp[Ap]):Tq1 n F Q todo env st aa:=xg [] h f r
def LQ (h:An) (t:Tm):Prop:=∃(a:An) (o n:Int) (x:Z) (ad:Option Addr) (c:Nat) (ks:L1 An) (u:Value) (f:L1 An),
 er a=h/\vA a=dTmc t/\a=.mk true o n x (.slice ad ks.length c) ks u f/\PH f/\E0 f/\(0<ks.length->∃b,ad=some ⟨b,0,none⟩)/\(0<f.length->∃q r,u=.slice (some ⟨q,0,none⟩) f.length r)
def iH:An->Prop
 |.mk _ _ _ _ _ _ _ f=>E0 f
 |.im _ _ _=>False
def zgg (a:An):iH (er a)↔iH a:=by cases a with|mk s o n x v ks u ps=>simp only[er,iH,HG]|im=>{exact cj}
def zki {L:An} (z:iH L) (d:∀p∈(match t with|.mk _ _ _ _ ps=>ps),Pl p) {g:L1 Nat} (h:(EZ b L t).P vs I w g):LQ L t:=by obtain⟨a,rfl,G,W⟩:=h;have z:=(zgg a).1 z;rcases a with⟨s,o,n,x,v,ks,u,C⟩|⟨K,i,P⟩;(case im=>exact z.elim);have j:s=true:=W.2.2.1;subst j;obtain⟨Q,S,tx,k,y⟩:=t;have f:=W.2.2.2.2.2;simp only[ID]at f;have m:It C=A4 y:=by{simp only[vA,dTmc,BP,V.sl.injEq]at G;exact G.2.2.2.2.1};have D:PH C:=OL C y (B4 u) 0 z (f.2 ab).2 m (by{have:∀l:L1 Y,(∀p∈l,Pl p)->QM l:=λl=>by{induction l with|nil=>exact λ_=>trivial|cons p r A=>{exact λh=>⟨h p (by simp),A λq N=>h q (by simp[N])⟩}};exact this y d});rcases f.1.1 with⟨H,⟨B,c,rfl⟩,_⟩|⟨H,F,c,J,rfl,_⟩;refine⟨_,o,n,x,B,c,ks,u,C,rfl,G,by rw[H],D,z,λh=>by omega,λN=>?_⟩;rcases(f.2 ab).1 with⟨H,_⟩|⟨_,R,T,E,e,_⟩;omega;exact⟨R,T,e⟩;refine⟨_,o,n,x,some ⟨F,0,none⟩,c,ks,u,C,rfl,G,rfl,D,z,λh=>⟨_,rfl⟩,λN=>?_⟩;rcases(f.2 ab).1 with⟨H,_⟩|⟨_,R,T,E,e,_⟩;omega;exact⟨R,T,e⟩
def Qs {f:An} (h:LQ f t):yA f:=by obtain⟨a,o,n,x,ad,c,ks,u,r,rfl,_,rfl,q,_⟩:=h;exact(Kk _).2 ⟨rfl,q⟩
def P6 {a:An} {n:Int} {ks:L1 An} {q:L1 An} (e:a=.mk true o n x v ks u q) (r:vA a=dTmc t):∃f h,t=.mk o n x f h/\ks.length=f.length/\q.length=h.length/\It ks=Cz f/\It q=A4 h:=by subst e;obtain⟨C,D,E,f,h⟩:=t;simp only[vA,dTmc,BP,V.sl.injEq,V.int.injEq,V.str.injEq,ay,be]at r;obtain⟨rfl,rfl,rfl,y,z⟩:=r;exact⟨f,h,rfl,by have:=af List.length y;simpa using this,by have:=af List.length z;simpa using this,y,z⟩
def rC {D:An} (h:LQ D t) (i:Int):(bp D i).length=(A0 t i).length:=by obtain⟨a,o,n,x,ad,c,ks,u,G,rfl,H,E,L,_⟩:=h;obtain⟨N,f,rfl,_,R,_,T⟩:=P6 E H;subst E;rw[Wt];simp only[bp,A0];cases BN o i with|true=>rfl|false=>{cases C5 o i with|false=>rfl|true=>{simp only[bh,bg,DN,aw,ar];cases y:G[(i-1).toNat]? with|none=>have:f[(i-1).toNat]?=none:=by{rw[OQ]at y ⊢;omega};rw[this];rfl|some q=>{obtain⟨z,r⟩:∃z,f[(i-1).toNat]?=some z:=At (by rw[<- R];exact(A9.1 y).1);have C:vA q=As z:=by{have:=af (λl=>l[(i-1).toNat]?) T;simp only[Zi y,YM r]at this;exact JM this};rw[r];simp only[C6,C4];exact Ln q z (Mn L y) C}}}
def jY (f:TypeId) (v:Value):St:=[(6,some (.cells f 1 [.raw v]))]
def zk4 {z:An} (f:LQ z t) {op G:Int} {H:Z} {J:L1 Tm} {N:L1 Y} (ht:t=.mk op G H J N) (hi:i<=1000000) (h:BN op i=true\/(BN op i=false/\C5 op i=true/\i-1<N.length)) :
  ∃ (K:Nat) (P:TypeId) (Q:Value) (fc:Func) (c:Code), prog.funcs[K]? = some fc∧(fc.name=="runtime.NumGoroutine")=false∧fc.body=some c ∧
   Tq4 166 [.raw (.pointer (some ⟨b,0,none⟩)),i7 i] [(1,some (.hp (EZ b z t)))] (.ret (.fn (.func K) [] [.ref 6 0]) ((1,some (.hp (EZ b z t)))::jY P Q)) /\
   ∀S:Nat->Bun,(∀j,∃T,∀I w r A,(S j).P I w r A->∃vs R,(EZ b z T).P vs I w R)->Rounds ((bp z i).map (plD b z)) S 0 ->
    Tq4 K [.yld 3,.ref 6 0] ((3,some .pin)::(4,some (.bun 3 (S 0)))::jY P Q) (.ret (.tup []) ((3,some .pin)::(5,some (.bun 3 (S (0+(bp z i).length))))::jY P Q)):=by
 have C:=Qs f;subst ht;rcases h with h|⟨h,h2,h3⟩
 ·refine⟨231,230,.pointer (some ⟨b,0,none⟩),_,_,func231,by decide +kernel,rfl,?_,λS hS V=>?_⟩
  ·exact jZ (EZ b z _) b op i (UE C) h
  ·have hb:bp z i=[[]]:=by
    obtain⟨a,o,n,x,ad,c,ks,u,y,rfl,hv,W,h1,_⟩:=f;let⟨d,g,e,_⟩:=P6 W hv;cases e;subst W;rw[Wt];simp[bp,h]
   rw[hb]at V ⊢;exact rG b 0 S 0 V
 ·obtain⟨a,o,n,x,ad,c,ks,u,y,rfl,hv,W,h1,D,_,h4⟩:=f;let⟨d,g,e,_,hl,_,_⟩:=P6 W hv;cases e;subst W;have hi1:0<i:=by simp[C5]at h2;omega
  obtain⟨q,k⟩:∃q,y[i-1]?=some q:=At (by omega);obtain⟨r,L,rfl⟩:=h4 (by omega);have l:=Mn h1 k;have hqf:=OX D k;have ei:((i:Int)-1).toNat=i-1:=by omega
  refine⟨273,270,.pointer (some ⟨r,(i-1)*4,none⟩),_,_,func273,by decide +kernel,rfl,?_,λS hS V=>?_⟩
  ·refine rF (EZ b _ _) b op i r y.length L (i-1) (UE C) (λvs I w A hP=>(Jd (by simpa only[er]using hP)).2) h h2 (by omega) (by omega) (by omega)
  ·have hb:bp (er (.mk true op G H (.slice ad ks.length c) ks (.slice (some ⟨r,0,none⟩) y.length L) y)) i=(ppaths q).map ((true,i-1)::·):=by
    rw[Wt];simp only[bp,h,h2,ei,k,bh,bg]
   have m:(bp (er (.mk true op G H (.slice ad ks.length c) ks (.slice (some ⟨r,0,none⟩) y.length L) y)) i).map (plD b (er (.mk true op G H (.slice ad ks.length c) ks (.slice (some ⟨r,0,none⟩) y.length L) y)))=K9 q r ((i-1)*4):=by
    rw[hb,Vr];apply S7;intro j;rw[Ct];cases hj:(ppaths q)[j]? with
    |none=>
     rw[OQ]at hj;rw[OQ.2 (by rw[P5];exact hj)];rfl
    |some p=>
     let⟨a',E,s,k1,B⟩:=UN l r ((i-1)*4) hj;rw[B];have e1:D5 (er (.mk true op G H (.slice ad ks.length c) ks (.slice (some ⟨r,0,none⟩) y.length L) y)) b 0 ((true,i-1)::p)=some (er a',E,s):=by
      rw[Ns];simp only[D5,Eb,k,HX];show(D5 q r ((i-1)*4) p).map _=_;rw[k1];rfl
     simp only[HX,Function.comp,plD,e1]
   rw[m]at V;have v:(bp (er (.mk true op G H (.slice ad ks.length c) ks (.slice (some ⟨r,0,none⟩) y.length L) y)) i).length=(K9 q r ((i-1)*4)).length:=by rw[<- m,C6]
   rw[v];refine mZ q r ((i-1)*4) S 0 l (λj I w b1 A hP=>?_) V;let⟨T,hT⟩:=hS j;let⟨vs,R,a2,e2,hv2,hP2⟩:=hT I w b1 A hP;rcases a2 with⟨s',o',n',x',v',ks',u',qs'⟩|⟨s0,cs0,c0⟩
   case im=>simp[er]at e2
   simp only[er,An.mk.injEq]at e2;obtain⟨rfl,rfl,rfl,_,rfl,_,rfl,e3⟩:=e2;have hq':(Qu qs')[i-1]?=some (er q):=by rw[e3];exact Qt k
   let⟨q',k1,B⟩:=zkn hq';have hw:=hP2.2.2.2.2.2;simp only[ID]at hw;have F:=Ev (hw.2 ab).2 k1;rw[BS]at F;have:=dC q' r ((i-1)*4) ((KP q').1 (by rw[B];exact(KP q).2 hqf)) F.1 F.2.1 F.2.2;rw[<- lM,<- B,lM];exact this
def Fz:L1 (Z×Z)->V
 |[]=>.nilp
 |(x,y)::r=>.ip 264 [.str x,.str y,Fz r] 0
def DY:L1 (Z×Z)->Z->Option Z
 |[],_=>none
 |(x,y)::r,s=>if x==s then some y else DY r s
def ze2 (l:L1 (Z×Z)) (s:Z):Tq3 162 [Fz l,.str s] (.tup [.str ((DY l s).getD []),.bool (DY l s).isSome]):=by refine Ac C3 func162 O [1]<|DF O<|Al (λr:L1 (Z×Z)=>[(0,.imm (Fz r)),(1,.imm (.str s))]) (λ_=>[]) [1] (λr=>r.length) (λr=>DY l s=DY r s) l O AP ab O λr q z=>?_;rcases r with _|⟨⟨x,y⟩,r⟩;refine DH O<|Ag O λh=>Az O<|DH O ?_;rw[q];exact Ab O O O;refine bG 0 O<|DH O<|Aq O λh=>DH O<|Aa O (λf=>?_) (λf=>?_);refine DH O ?_;have e:DY l s=some y:=by{rw[q];simp at f;simp[DY,f]};rw[e];exact Ab O O O;refine DH O ?_;have e:DY ((x,y)::r) s=DY r s:=by{simp at f;simp[DY,f]};exact Ad (z r (by simp) (by rw[q,e])) AP ab O
def lC (l:L1 Z) (len:Nat) (f:l.length<=699):Tq4 167 [.own 1 len] [(1,some (.row 9 1 (Cq l)))] (.ret (.imm (.str (DG l))) [(1,some (.row 9 1 (Cq l)))]):=by refine zar (stL:=[(1,some (.row 9 1 (Cq l)))]) (bl:=[]) (a8:=[]) (lD l f) O trivial (by simp[CT,Hb]) (λi b h j E=>?_) λI J μ w q r G xs z=>?_;rcases A1.1 h with⟨_,rfl⟩|⟨_,h⟩;simp[LM]at E;simp[Aw,lk]at h;refine⟨z.1,λi v d H y=>?_⟩;match i with|0=>{simp at y;subst y;have L:=z.2 0 v _ H O;cases L with|own _ _ a N C=>{have f:Aw [(1,some (.row 9 1 (Cq l)))] 1 (.row 9 1 (Cq l)):=A1.2 (.inl ⟨rfl,rfl⟩);let⟨g,D,R⟩:=q.blk 1 _ f;rw[C]at D;cases D;exact .imm _ _ (fV R r λb T=>G 1 _ _ b f C T)}}|i+1=>{simp at y}
def RK (sk:An) (t:Tm):Asn where
 P:=λvs I w bs=>∃a,er a=sk/\vA a=dTmc t/\(TJ a).P vs I w bs
 mono:=λh ⟨a,h1,h2,h3⟩=>⟨a,h1,h2,(TJ a).mono h h3⟩
 loc:=λh ⟨a,h1,h2,h3⟩=>⟨a,h1,h2,(TJ a).loc h h3⟩
def kN (b:Nat) (sk:An) (t:Tm) (i:Nat):Asn where
 P:=λ_ I w bs=>∃a c w0,er a=sk/\vA a=dTmc t/\(QF b a).P [] I w0 (b::F4 a)/\Eb a (false,i)=some (c,B4 (match a with|.mk _ _ _ _ v _ _ _=>v|_=>.bool true),i*5)/\bs=(b::F4 a).filter (λk=>decide (k∉F4 c))/\∀k∈bs,w.heap[k]?=w0.heap[k]?
 mono:=λh ⟨a,c,w0,h1,h2,h3,h4⟩=>⟨a,c,w0,h1,h2,(QF b a).mono h h3,h4⟩
 loc:=λh ⟨a,c,w0,h1,h2,h3,h4,h5,h6⟩=>⟨a,c,w0,h1,h2,h3,h4,h5,λk hk=>(h k hk).trans (h6 k hk)⟩
def wW {l:L1 α} {c:α} (h:l[i]?=some c) (d:α):l=l.take i++c::l.drop (i+1)/\l.set i d=l.take i++d::l.drop (i+1):=by have f:=(A9.1 h).1;constructor;have:=fM i l;rw[Au h]at this;exact this.symm;exact lqq47.trans (ae f)
def zb8 {G:World} {n:Int} {ks:L1 An} {C:L1 An} {c c2:An} (f:ks[i]?=some c) (h:ID I G (.mk true o n x v ks u C)) (nd:(F4 (.mk true o n x v ks u C)).Nodup) (z:∀k∈F4 (.mk true o n x v ks u C),k∉F4 c->w.heap[k]?=G.heap[k]?) (V:ID I w c2) (W:cA c2=cA c) (a:C9 c2=C9 c):ID I w (.mk true o n x v (ks.set i c2) u C):=by
 let⟨R,b⟩:=wW f c2;have D:(ks.take i).length=i:=by rw[Gt];have:=(A9.1 f).1;omega
 simp only[ID]at h ⊢;have L:D3 ks=D3 (ks.take i)++(F4 c++D3 (ks.drop (i+1))):=by
  conv=>lhs;rw[R]
  rw[MX];rfl
 simp only[F4]at nd z;rw[L]at nd;have H:=CV.1 nd;have n2:=CV.1 H.1;have T:=CV.1 n2.2.1;have d:=CV.1 T.2.1;have y:∀k∈Da v ks.length,w.heap[k]?=G.heap[k]?:=λk f=>z k (by simp[f]) λr=>n2.2.2 k f k (by simp[r]) O;have N:w.heap[B4 v]?=G.heap[B4 v]?:=y _ (by
  have:=(A9.1 f).1;cases e:ks.length with
  |zero=>omega
  |succ m=>simp[Da])
 have q:=h.1.2;rw[R,Kc]at q;simp only[Ef]at q;rw[D,BS]at q;refine⟨⟨?_,?_⟩,λ_=>⟨?_,?_⟩⟩
 ·rw[Kl];exact Jc y h.1.1
 ·rw[b,Kc];simp only[Ef];rw[D,BS];refine⟨Hq (λ_=>N) (λk f=>z k (by rw[L];simp[f]) λr=>T.2.2 k f k (by simp[r]) O) q.1,⟨by rw[a];exact q.2.1.1,by rw[W];exact NL N q.2.1.2.1,V⟩,?_⟩;exact Hq (λ_=>N) (λk f=>z k (by rw[L];simp[f]) λr=>d.2.2 k r k f O) q.2.2
 ·exact Jc (λk f=>z k (by simp[f]) λr=>H.2.2 k (by simp[r]) k (by simp[f]) O) (h.2 ab).1
 ·exact Hq (λE=>z _ (by cases C with|nil=>exact absurd rfl E|cons=>simp[Da]) λr=>H.2.2 _ (by simp[r]) (B4 u) (by cases C with|nil=>exact absurd rfl E|cons=>simp[Da]) O) (λk f=>z k (by simp[f]) λr=>H.2.2 k (by simp[r]) k (by simp[f]) O) (h.2 ab).2
def skK:An->Nat->Option An
 |.mk _ _ _ _ _ ks _ _,i=>ks[i]?
 |.im _ _ _,_=>none
def tmK:Tm->Nat->Option Tm
 |.mk _ _ _ ks _,i=>ks[i]?
def zci:Tm->Nat->Tm->Tm
 |.mk f n x ks ps,i,k=>.mk f n x (ks.set i k) ps
def P1 {a:An} (E:yA a) (G:vA a=dTmc t) {k:Tm} (q:tmK t i=some k):∃o n x v ks u r c y f h,a=.mk true o n x v ks u r/\t=.mk o n y f h/\y=x/\ks[i]?=some c/\vA c=dTmc k/\Eb a (false,i)=some (c,B4 v,i*5)/\f[i]?=some k/\It ks=Cz f/\It r=A4 h:=by rcases a with⟨s,o,n,x,v,ks,u,r⟩|⟨R,H,T⟩;(case im=>exact E.elim);obtain⟨rfl,_⟩:=E;obtain⟨W,b,y,f,h⟩:=t;simp only[vA,dTmc,BP,V.sl.injEq,V.int.injEq,V.str.injEq,ay,be]at G;obtain⟨rfl,rfl,rfl,z,L⟩:=G;simp only[tmK]at q;have N:ks.length=f.length:=by{have:=af List.length z;simpa using this};obtain⟨c,C⟩:∃c,ks[i]?=some c:=At (by rw[N];exact(A9.1 q).1);have D:vA c=dTmc k:=by{have:=af (λl=>l[i]?) z;simp only[Zi C,Et q]at this;exact JM this};exact⟨o,n,x,v,ks,u,r,c,x,f,h,rfl,rfl,rfl,C,D,by simp[Eb,C,Gb],q,z,L⟩
def pV {G r:An} {k:Tm} (g:yA G) (H:skK G i=some r) (y:tmK t i=some k) {L:L1 Nat} (h:(EZ b G t).P vs I w L):∃N R,(∀k∈N,k∈L)/\(∀k∈R,k∈L)/\(∀k∈N,k∉R)/\(kN b G t i).P [] I w N/\(RK r k).P [] I w R:=by obtain⟨a,rfl,W,z⟩:=h;obtain⟨o,n,x,v,ks,u,T,c,s,j,l,rfl,rfl,_,d,V,q,_⟩:=P1 ((Kk a).1 g) W y;have C:er c=r:=by{simp only[er,skK]at H;rw[Qt d]at H;exact JM H};have f:=z.1;have D:=z.2.1;let⟨A,m,p⟩:=Jm q;have E:(F4 (.mk true o n x v ks u T)).Nodup:=by{rw[f]at D;exact(Fr.1 D).2};refine⟨(b::F4 (.mk true o n x v ks u T)).filter (λk=>decide (k∉F4 c)),F4 c,λk y=>?_,λk y=>?_,λk y=>?_,?_,?_⟩;rw[f];exact(Lt.1 y).1;rw[f];exact Gr _ (m k y);have:=(Lt.1 y).2;simpa using this;refine⟨.mk true o n x v ks u T,c,w,rfl,W,?_,q,rfl,λ_ _=>rfl⟩;rw[f]at z;exact z;refine⟨c,C,V,rfl,(p E).1,?_⟩;have e:=z.2.2.2.2.2;simp only[ID]at e;exact(Ev e.1.2 d).2.2
def zfy {n:Int} {ks:L1 An} {D:L1 An} {z:L1 Nat} (h:(kN b (.mk true o n x v ks u D) t i).P vs I w z):Ex I w b 3 [.raw v]:=by obtain⟨a,c,E,G,H,C,f,q,r⟩:=h;have:=(Jd (b:=b) (t:=t) (vs:=[]) (I:=I) (w:=E) ⟨a,G,H,C⟩).1;obtain⟨y,L,k,N,R⟩:=this;refine⟨y,L,k,?_,R⟩;have T:b∈z:=by{rw[q,Lt];refine⟨by simp,?_⟩;have:=(Fr.1 C.2.1).1;simp only[al];exact λV=>this ((Jm f).2.1 b V)};rw[r b T];exact N
def pW {g C:An} {k:Tm} {n:Int} {len cap E:Nat} {ks:L1 An} {qs:L1 An} {oc nc H L:Int} {xc N:Z} {vc:Value} {m:L1 An} {uc:Value} {p:L1 An} {ks2:L1 Tm} {ps2:L1 Y} (hq:yA g) (R:g=.mk true o n x (.slice (some ⟨E,0,none⟩) len cap) ks u qs) (s:skK g i=some C) (T:C=.mk true oc nc xc vc m uc p) (hk:tmK t i=some k) (v:k=.mk H L N ks2 ps2) {bs:L1 Nat} (h:(kN b g t i).P vs I w bs):Ex I w E (i*5) [i7 H,i7 L,.imm (.str N),.raw vc,.raw uc]:=by obtain⟨a,c,w0,he,hv,hP,z,A,B⟩:=h;subst he;obtain⟨o',n',x',v',F,u',J,c',tx,tks,tps,rfl,rfl,rfl,hc,W,r,htk,e1,e2⟩:=P1 ((Kk a).1 hq) hv hk;rw[z]at r;simp only[Ci,AN]at r;obtain⟨rfl,_,_⟩:=r;have D:v'=.slice (some ⟨E,0,none⟩) len cap:=by{simp only[er,An.mk.injEq]at R;exact R.2.2.2.2.1};have q:er c=C:=by{simp only[er,skK]at s;rw[Qt hc]at s;exact JM s};rw[T]at q;rcases c with⟨sc,K,P,yc,Q,kc,S,qc⟩|⟨s0,cs0,c0⟩;(case im=>simp[er]at q);simp only[er,An.mk.injEq]at q;obtain⟨rfl,rfl,rfl,_,rfl,_,rfl,_⟩:=q;subst v;simp only[vA,dTmc,BP,V.int.injEq,V.str.injEq,ay]at W;obtain⟨rfl,rfl,rfl,_⟩:=W;have hw:=hP.2.2.2.2.2;simp only[ID]at hw;have hg:=Ev hw.1.2 hc;have f:=rB hg.2.2;obtain⟨ca,ty,kk,q1,G⟩:=hg.2.1;let⟨e,kb2,kb3⟩:=Jm z;have hnd:(F4 (.mk true o' n' tx v' F u' J)).Nodup:=(Fr.1 hP.2.1).2;have hrb:E∈bs:=by{rw[A,Lt];have l:=(kb3 hnd).2;rw[D]at l e;rw[D];have l:E∉F4 (.mk true K P yc Q kc S qc):=l;exact⟨Gr _ e,by simpa using l⟩};rw[D]at q1;simp only[BS,Gb]at G;refine⟨ca,ty,kk,(B E hrb).trans q1,λj d y=>?_⟩;match j with|0=>simp at y;subst y;exact⟨_,G 0 _ O,f _ (by simp[cA]),.imm _ _ (.int _ _)⟩|1=>simp at y;subst y;exact⟨_,G 1 _ O,f _ (by simp[cA]),.imm _ _ (.int _ _)⟩|2=>simp at y;subst y;exact⟨_,G 2 _ O,f _ (by simp[cA]),.imm _ _ (.encStr _ _)⟩|3=>simp at y;subst y;exact⟨_,G 3 _ O,f _ (by simp[cA]),.raw _ (f _ (by simp[cA]))⟩|4=>simp at y;subst y;exact⟨_,G 4 _ O,f _ (by simp[cA]),.raw _ (f _ (by simp[cA]))⟩|j+5=>{simp at y}
def xH {C f:An} {k:Tm} (W:yA C) (G:Id f) (D:skK C i=some f) (d:tmK t i=some k) {e:L1 Nat} (h:(EZ b C t).P vs I w e):∃o n x v g u H L r y,f=.mk true o n x v g u H/\k=.mk o n L r y:=by obtain⟨a,rfl,j,l⟩:=h;obtain⟨o,n,x,v,ks,u,H,c,L,r,y,rfl,rfl,_,N,z,R,_⟩:=P1 ((Kk a).1 W) j d;have q:er c=f:=by{simp only[er,skK]at D;rw[Qt N]at D;exact JM D};have T:=l.2.2.2.2.2;simp only[ID]at T;have E:=(Ev T.1.2 N).1;rcases c with⟨m,p,s,P,A,Q,B,S⟩|⟨s0,F,c0⟩;(case im=>rw[<- q]at G;exact G.elim);have E:m=true:=E;subst E;obtain⟨o2,n2,x2,J,K⟩:=k;simp only[vA,dTmc,BP,V.int.injEq,V.str.injEq,ay]at z;obtain⟨rfl,rfl,_⟩:=z;exact⟨_,_,_,_,_,_,_,_,_,_,q.symm,rfl⟩
def dV {D:An} {n:Int} {ks:L1 An} {H:L1 An} {ks2:L1 Tm} {ps2:L1 Y} (z:D=.mk true o n x v ks u H) (L:t=.mk o2 n2 x2 ks2 ps2) {N:L1 Nat} (h:(EZ b D t).P vs I w N):Ex I w b 0 [i7 o2,i7 n2,.imm (.str x2),.raw v,.raw u]:=by obtain⟨a,y,E,G⟩:=h;rw[z]at y;rcases a with⟨s,i,k,l,m,R,p,T⟩|⟨A,W,B⟩;(case im=>simp[er]at y);simp only[er,An.mk.injEq]at y;obtain⟨rfl,rfl,rfl,_,rfl,_,rfl,_⟩:=y;subst L;simp only[vA,dTmc,BP,V.int.injEq,V.str.injEq,ay]at E;obtain⟨rfl,rfl,rfl,_⟩:=E;have f:=rB G.2.2.2.2.2;obtain⟨C,c,e,g,r⟩:=G.2.2.2.2.1;refine⟨C,c,e,g,λj d q=>?_⟩;match j with|0=>simp at q;subst q;exact⟨_,r 0 _ O,f _ (by simp[cA]),.imm _ _ (.int _ _)⟩|1=>simp at q;subst q;exact⟨_,r 1 _ O,f _ (by simp[cA]),.imm _ _ (.int _ _)⟩|2=>simp at q;subst q;exact⟨_,r 2 _ O,f _ (by simp[cA]),.imm _ _ (.encStr _ _)⟩|3=>simp at q;subst q;exact⟨_,r 3 _ O,f _ (by simp[cA]),.raw _ (f _ (by simp[cA]))⟩|4=>simp at q;subst q;exact⟨_,r 4 _ O,f _ (by simp[cA]),.raw _ (f _ (by simp[cA]))⟩|j+5=>{simp at q}
def zc2 {q:An} {r:L1 Nat} (h:(EZ b q t).P vs I w r):∃f,(∀k∈f,k∈r)/\(RK q t).P [] I w f:=by obtain⟨a,C,D,E⟩:=h;obtain⟨y,z,_,_,_,G⟩:=E;rw[y]at z;exact⟨F4 a,λk H=>by rw[y];exact Gr _ H,a,C,D,rfl,(Fr.1 z).2,G⟩
def cY {ca:L1 Value} {c0 c1 c2 c3 c4 y:Value} (C:off+5<=ca.length) (h:∀(j:Nat) (c:Value),[c0,c1,c2,c3,c4][j]?=some c->ca[off+j]?=some c):ca.take off++[c0,c1,y,c3,c4]++ca.drop (off+5)=ca.take (off+2)++[y]++ca.drop (off+2+1):=by apply S7;intro i;have q:=H5 (ca:=ca) (off:=off) (cs:=[c0,c1,y,c3,c4]) (by simpa using C) i;have r:=H5 (ca:=ca) (off:=off+2) (cs:=[y]) (by simp;omega) i;simp only[Co,Cb,BS,Nat.reduceAdd]at q r;rw[q,r];by_cases z:i<off;rw[ae z,ae (by omega)];rw[ac z];by_cases f:i<off+5;rw[ae f];obtain⟨j,rfl⟩:∃j,i=off+j:=⟨i-off,by omega⟩;rw[nL];match j,f with|0,_=>rw[ae (by omega),h 0 c0 O];rfl|1,_=>rw[ae (by omega),h 1 c1 O];rfl|2,_=>rw[ac (by omega),ae (by omega)];simp|3,_=>rw[ac (by omega),ac (by omega),h 3 c3 O];rfl|4,_=>rw[ac (by omega),ac (by omega),h 4 c4 O];rfl|j+5,f=>{omega};rw[ac f,ac (by omega),ac (by omega)]
def zgu {a d:An} {n:Int} {ks:L1 An} {q:L1 An} (h:er a=er d) (r:d=.mk true o n x v ks u q):∃y ks' f,a=.mk true o n y v ks' u f/\Qu ks'=Qu ks/\Qu f=Qu q:=by subst r;rcases a with⟨s,G,H,z,L,ks',N,f⟩|⟨R,C,T⟩;(case im=>simp[er]at h);simp only[er,An.mk.injEq]at h;obtain⟨rfl,rfl,rfl,_,rfl,D,rfl,E⟩:=h;exact⟨z,ks',f,rfl,D,E⟩
def pU {sk p:An} {k:Tm} {ks2:L1 Tm} {ps2:L1 Y} {n:Int} {len cap rb:Nat} {ks:L1 An} {qs:L1 An} {oc nc:Int} {xc:Z} {vc:Value} {ksc:L1 An} {uc:Value} {qsc:L1 An} (j:Nat) (hq:yA sk) (hsk:sk=.mk true o n x (.slice (some ⟨rb,0,none⟩) len cap) ks u qs) (hs:skK sk i=some p) (v:p=.mk true oc nc xc vc ksc uc qsc) (hk:tmK t i=some k) :
  Gw (kN b sk t i) (RK p (.mk o2 n2 x2 ks2 ps2)) (EZ b sk (zci t i (.mk o2 n2 x2 ks2 ps2))) j rb (i*5) [i7 o2,i7 n2,.imm (.str x2),.raw vc,.raw uc]:=by
 rintro us vs I w b1 b2 ⟨a,c,w0,he,hv,hP,L,B,heq⟩ ⟨a2,R,hv2,hb2,hnd2,hw2⟩ hdis;subst he;obtain⟨e,g,x',N,r,l,y,c',m,tks,tps,rfl,rfl,rfl,hc,hvc,H,htk,e1,e2⟩:=P1 ((Kk a).1 hq) hv hk;rw[L]at H;simp only[Ci,AN]at H;obtain⟨rfl,_,_⟩:=H;have hvv:N=.slice (some ⟨rb,0,none⟩) len cap:=by simp only[er,An.mk.injEq]at hsk;exact hsk.2.2.2.2.1
 have F:er c=p:=by
  simp only[er,skK]at hs;rw[Qt hc]at hs;exact JM hs
 have J:er a2=er c:=by rw[R,F]
 rcases a2 with⟨s2,f,q,y2,z,T,C,W⟩|⟨s0,cs0,c0⟩
 case im=>rw[v]at R;simp[er]at R
 rw[v]at R;simp only[er,An.mk.injEq]at R;obtain⟨rfl,rfl,rfl,_,rfl,_,rfl,_⟩:=R;simp only[vA,dTmc,BP,V.sl.injEq,V.int.injEq,V.str.injEq,ay,be]at hv2;obtain⟨rfl,rfl,rfl,g1,g2⟩:=hv2;rcases c with⟨sc,oc',nc',D,vc',P,uc',Q⟩|⟨s0,cs0,c0⟩
 case im=>simp[er]at J
 simp only[er,An.mk.injEq]at J;obtain⟨rfl,rfl,rfl,_,rfl,hk2,rfl,hq2⟩:=J;have hnd:(F4 (.mk true e g m N r l y)).Nodup:=(Fr.1 hP.2.1).2;have hbn:b∉F4 (.mk true e g m N r l y):=(Fr.1 hP.2.1).1;let⟨kb1,kb2,kb3⟩:=Jm L;have hBc:F4 (.mk true f q D z T C W)=F4 (.mk true f q D z P C Q):=by
  rw[<- W2,<- W2 (.mk true f q D z P C Q)];simp only[er,hk2,hq2]
 have hBc2:F4 (.mk true f q y2 z T C W)=F4 (.mk true f q D z T C W):=rfl;have hin:∀k,k∈b::F4 (.mk true e g m N r l y)->k∉F4 (.mk true f q D z P C Q)->w.heap[k]?=w0.heap[k]?:=λk K S=>heq k (by rw[B,Lt];exact⟨K,by simpa using S⟩);have hw1:ID I w (.mk true f q D z T C W):=by simpa only[ID]using hw2
 have hA1:=zb8 (c2:=.mk true f q D z T C W) hc hP.2.2.2.2.2 hnd (λk K S=>hin k (Gr _ K) S) hw1 O O;have hloc0:D5 (.mk true e g m N r l y) b 0 [(false,i)]=some (.mk true f q D z P C Q,B4 N,i*5):=by
  simp only[D5];rw[L]
 have heA:er (.mk true e g m N (r.set i (.mk true f q D z T C W)) l y)=er (.mk true e g m N r l y) :=
  uT _ _ (.mk true f q D z T C W) (false,i) _ _ L (by simp only[er,hk2,hq2])
 have hBA:F4 (.mk true e g m N (r.set i (.mk true f q D z T C W)) l y)=F4 (.mk true e g m N r l y):=by rw[<- W2,heA,W2]
 have hbW:w.heap[b]?=w0.heap[b]?:=hin b (by simp) λh=>hbn (kb2 b h);have s:(QF b (.mk true e g m N (r.set i (.mk true f q D z T C W)) l y)).P [] I w (b::F4 (.mk true e g m N r l y)):=by
  obtain⟨_,p2,p3,⟨ca,p4,p5⟩,p6,_⟩:=hP;exact⟨by rw[hBA],p2,rfl,⟨ca,hbW.trans p4,p5⟩,NL hbW p6,hA1⟩
 have hc1:(r.set i (.mk true f q D z T C W))[i]?=some (.mk true f q D z T C W):=by
  rw[HY (A9.1 hc).1]
 have E:D5 (.mk true e g m N (r.set i (.mk true f q D z T C W)) l y) b 0 [(false,i)]=some (.mk true f q D z T C W,rb,i*5):=by
  simp only[D5,Eb,hc1,HX,Gb,hvv,B4]
 let⟨s1,ca,ty,s2,s3,s4⟩:=Ut y2 E [] I w _ s;have hrb:rb∉F4 (.mk true f q D z P C Q):=by
  have:=(kb3 hnd).2;rw[hvv]at this;exact this
 have A:i*5+5<=ca.size:=by
  let⟨_,cur2,ty2,r2,r3⟩:=Sg s E;rw[s2]at r2;cases r2;exact r3
 refine⟨?_,ca,ty,s2,A,λcs hl G hone=>?_⟩
 ·rw[B,Lt];exact⟨s1,by simpa using hrb⟩
 ·have hcs:cs=[.int .i64 f,.int .i64 q,K4 y2,z,C]:=by
   match cs,hl with
   |[c0,c1,c2,c3,c4],_=>
    have e0:=(G 0 c0 _ O O).immInv.intInv;have e1:=(G 1 c1 _ O O).immInv.intInv;have e2:=Zm (G 2 c2 _ O O);have e3:=(G 3 c3 _ O O).rawInv;have e4:=(G 4 c4 _ O O).rawInv;rw[e0,e1,e2,e3,e4]
  subst hcs;have hat:=(TU E s.2.2.2.2.1 s.2.2.2.2.2).1;obtain⟨cur',ty',k',t1,t2⟩:=hat
  rw[s2]at t1;cases t1;have hsp:=cY (ca:=ca.toList) (off:=i*5) (y:=K4 y2) (c0:=.int .i64 f) (c1:=.int .i64 q) (c2:=K4 D) (c3:=z) (c4:=C) (by simpa using A) (λj c hj=>by have:=t2 j c (by simpa[cA]using hj);simpa using this);refine⟨b::F4 (.mk true e g m N r l y),λk hk=>?_,?_⟩
  ·by_cases hkc:k∈F4 (.mk true f q D z P C Q)
   ·right;rw[hb2,hBc2,hBc];exact hkc
   ·left;rw[B,Lt];exact⟨hk,by simpa using hkc⟩
  ·simp only[Co,Cb,BS,Nat.reduceAdd];rw[hsp];have:=s4 [K4 y2] ⟨rfl,λj c d K S=>by
    match j with
    |0=>simp at K S;subst K;subst S;exact .imm _ _ (.encStr _ _)
    |j+1=>simp at K⟩ (by simp;rfl)
   simp only[FZ,DM]at this;refine⟨_,?_,?_,this⟩
   ·rw[TX [(false,i)] _ b 0 _ _ _ _ E (by simp[er]),heA]
   ·simp only[K8,Eb,hc1,HX,QX,vA,zci,dTmc,ZR];congr 4
    ·rw[Ki,My,<- Ki,e1,zg6];simp only[vA,dTmc,g1,g2]
    ·rw[e2]
end Go.Hk
