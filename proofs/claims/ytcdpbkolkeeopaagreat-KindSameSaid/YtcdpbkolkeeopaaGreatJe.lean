/- A hole in a type, plainly. -/
import Derived.Test.YtcdpbkolkeeopaaGreatJd
import Derived.Shelf.SortM.Plain
import Derived.Shelf.SortM.SortNone
import Derived.Sort.MapsRangeIn
import Derived.Sort.KeysCollected
import Derived.Sort.OwnSorted
import Derived.Maps.AppendAt
set_option linter.all false
set_option maxRecDepth 100000
set_option maxHeartbeats 4000000
namespace Go.Hk
open Go.Proofs.Tryz
open Go.Proofs
variable {t T:Tm} {j i n b:Nat} {st au:St} {I:U} {w:World} {P:Program} {F aa ids':L1 Nat} {Q:DQ} {env l:Env} {todo k s:L1 DI} {x:Z} {ks:L1 Tm} {ps:L1 Y} {L:I0} {r:TT} {μ:Mu} {a:Act} {Pn:V->Prop} {d:D} {z:Prop} {ob:L1 Prop}
abbrev Sc:=L1 (Z×Z)
def GV (i:Int) (st:Nat×Tm×L1 Z×Sc) (x:Z):Nat×Tm×L1 Z×Sc :=
 (st.1+1,Hv st.2.1 i st.1 (DG st.2.2.1),st.2.2.1++[DG st.2.2.1],(x,DG st.2.2.1)::st.2.2.2)
def Jw (i:Int) (e:L1 Z) (T:Tm) (f:L1 Z) (s:Sc):Nat×Tm×L1 Z×Sc:=e.foldl (GV i) (0,T,f,s)
def l1:Nat->Nat->Tm->L1 Z->Sc->L1 Sc->Tm×L1 Z×L1 Sc
 |0,_,T,f,_,e=>(T,f,e)
 |m+1,i,T,f,s,e=>l1 m (i+1) (Jw i (A0 T i) T f s).2.1 (Jw i (A0 T i) T f s).2.2.1 s (e++[(Jw i (A0 T i) T f s).2.2.2])
def XG:Tm->L1 Tm->Tm
 |.mk e n x _ ps,ks=>.mk e n x ks ps
mutual
def EQ:Tm->Sc->L1 Z->Tm×L1 Z
 |.mk e n x ks ps,s,f=>if e=4 then(.mk e n ((DY s x).getD x) ks ps,f)else
  (XG (l1 ks.length 0 (.mk e n x ks ps) f s []).1 (DK ks (l1 ks.length 0 (.mk e n x ks ps) f s []).2.2 (l1 ks.length 0 (.mk e n x ks ps) f s []).2.1).1,
   (DK ks (l1 ks.length 0 (.mk e n x ks ps) f s []).2.2 (l1 ks.length 0 (.mk e n x ks ps) f s []).2.1).2)
def DK:L1 Tm->L1 Sc->L1 Z->L1 Tm×L1 Z
 |[],_,f=>([],f)
 |k::r,e,f=>((EQ k (e.headD []) f).1::(DK r e.tail (EQ k (e.headD []) f).2).1,(DK r e.tail (EQ k (e.headD []) f).2).2)
end
def lZ {r:An} {op n:Int} {S:Z} {v u:Value} {W d:L1 An} (l:r=.mk true op n S v W u d) (g:t=.mk op n x ks ps) {vs i:L1 Value} {m y:L1 Nat} (o:(RK r t).P vs I w m) (E:(rM b 49 [i7 op,i7 n,.imm (.str x),.raw v,.raw u]).P i I w y) (F:∀k∈m,k∉y):(∀k∈b::m,k∈m\/k∈y)/\(EZ b r t).P [] I w (b::m):=by obtain⟨a,q,z,A,B,C⟩:=o;obtain⟨e,f,K,h,z3⟩:=E;subst g;rw[l]at q;rcases a with⟨s,J,L,N,P,D,Q,G⟩|⟨s0,T,c0⟩;(case im=>simp[er]at q);simp only[er,An.mk.injEq]at q;obtain⟨rfl,rfl,rfl,H,rfl,rfl,rfl,rfl⟩:=q;have hx:N=x:=by{simp only[vA,dTmc,BP,V.str.injEq]at z;exact z.2.2.1};subst hx;have p:f.toList=cA (.mk true J L N P D Q G):=by{obtain⟨f⟩:=f;have hl:=h.1;match f,hl with|[c0,c1,c2,c3,c4],_=>{have e0:=(h.2 0 _ _ O O).immInv.intInv;have A:=(h.2 1 _ _ O O).immInv.intInv;have B:=Zm (h.2 2 _ _ O O);have C:=(h.2 3 _ _ O O).rawInv;have e4:=(h.2 4 _ _ O O).rawInv;rw[e0,A,B,C,e4];rfl}};refine⟨λk hk=>?_,_,?_,z,by rw[A],Fr.2 ⟨λhb=>F b hb (by simp[e]),B⟩,rfl,⟨f,K,?_⟩,⟨f,_,_,K,λj c R=>?_⟩,C⟩;rcases Ck.1 hk with rfl|hk;right;simp[e];exact .inl hk;rw[l,<- H];rfl;have:=af List.length p;simpa[cA]using this;rw[<- p]at R;simpa using R
def J4 (t:Tm):Nat->Nat->Nat
 |0,_=>0
 |m+1,i=>(A0 t i).length+J4 t m (i+1)
mutual
def Mp:Tm->Nat
 |.mk e n x ks ps=>if e=4 then 0 else J4 (.mk e n x ks ps) ks.length 0+Je ks
def Je:L1 Tm->Nat
 |[]=>0
 |k::r=>Mp k+Je r
end
def zmt:Tm->Z
 |.mk _ _ x _ _=>x
mutual
def Yg:∀(t:Y) (j:Nat) (x:Z),(Ej (Eo t j x)).map F7=((Ej t).map F7).set j x
 |.mk s n y ps,j,x=>by by_cases h:s=2;cases j with|zero=>simp[Eo,h,Ej,F7]|succ j=>{simp[Eo,h,Ej,F7,ON ps j x]};simp[Eo,h,Ej,ON ps j x]
def ON:∀(l:L1 Y) (j:Nat) (x:Z),(CQ (EB l j x)).map F7=((CQ l).map F7).set j x
 |[],j,x=>by simp[EB,CQ]
 |t::r,j,x=>by simp only[EB];split;rename_i h;simp only[CQ,Cy,Yg t j x,List.set_append,C6,ae h];rename_i h;simp only[CQ,Cy,ON r _ x,List.set_append,C6,ac h]
end
def Lo (t:Y) (j:Nat) (x:Z):C4 (Eo t j x)=(C4 t).set j x:=Yg t j x
def dM (op n:Int) (y:Z) (ks:L1 Tm) (ps:L1 Y) (i:Int) (j:Nat) (x:Z):∃e ps',Hv (.mk op n y ks ps) i j x=.mk op n e ks ps'/\ps'.length=ps.length:=by simp only[Hv];split;exact⟨_,_,rfl,rfl⟩;split;split;exact⟨_,_,rfl,by simp⟩;exact⟨_,_,rfl,rfl⟩;exact⟨_,_,rfl,rfl⟩
def za8 {i:Int} (x:Z) (h:j<(A0 t i).length):A0 (Hv t i j x) i=(A0 t i).set j x:=by obtain⟨r,n,y,ks,ps⟩:=t;simp only[A0]at h;simp only[Hv];by_cases f:BN r i=true;simp only[f,ar,DM]at h;have:j=0:=by{omega};subst this;simp[A0,f];by_cases l:C5 r i=true;rw[ac f,ae l]at h ⊢;cases m:ps[(i-1).toNat]? with|none=>simp only[m]at h;simp at h|some p=>{have q:=(A9.1 m).1;have e:(ps.set (i-1).toNat (Eo p j x))[(i-1).toNat]?=some (Eo p j x):=by{rw[HY q]};simp only[A0];rw[ac f,ae l,ac f,ae l];simp only[e,m];exact Lo p j x};rw[ac f,ac l]at h;simp at h
def Ox (t:Tm) (i:Int) (j:Nat) (x:Z) (m:Int):(A0 (Hv t i j x) m).length=(A0 t m).length:=by obtain⟨l,n,y,ks,ps⟩:=t;simp only[Hv];by_cases s:BN l i=true;rw[ae s];simp only[A0];by_cases f:BN l m=true;simp[f];rw[ac f,ac f];rw[ac s];by_cases u:C5 l i=true;rw[ae u];cases v:ps[(i-1).toNat]? with|none=>rfl|some p=>{have r:=(A9.1 v).1;simp only[A0];by_cases f:BN l m=true;simp[f];rw[ac f,ac f];by_cases q:C5 l m=true;rw[ae q,ae q];by_cases e:(m-1).toNat=(i-1).toNat;rw[e,HY r,v];simp only[Lo,Kl];rw[KE (λh=>e h.symm)];rw[ac q,ac q]};rw[ac u]
def zgl {q:An} (h:LQ q t) {i:Int} {p:Is} (D:(bp q i)[j]?=some p) (x:Z):LQ q (Hv t i j x):=by have r:=Qs h;obtain⟨a,o,n,y,ad,c,ks,u,v,rfl,K,N,R,S,V,W⟩:=h;rw[Wt]at D;let⟨s,b,d,J,g,z,k,A,L,G,w,_,f⟩:=Ua ((Kk a).1 r) K D 0;have H:=TX p a 0 0 _ _ _ (.mk s b d x g z k A) w (by simp[er]);let⟨E,l,e,F,I,B⟩:=zgu H N;have m:l.length=ks.length:=by{rw[<- GD,I,GD]};have C:e.length=v.length:=by{rw[<- GD,B,GD]};refine⟨_,o,n,E,ad,c,l,u,e,H,f x,by rw[F,m],(Mo e).1 (by rw[B];exact(Mo v).2 R),(HG e).1 (by rw[B];exact(HG v).2 S),by rw[m];exact V,by rw[C];exact W⟩
def zk3 {e:An} (h:LQ e t) (i:Int):(bp e i).length=(A0 t i).length:=rC h i
def NQ (i:Int) (T:Tm) (e:L1 Z) (s:Sc) (j:Nat):Nat×Tm×L1 Z×Sc:=((A0 T i).take j).foldl (GV i) (0,T,e,s)
def eE {i:Int} {e:L1 Z} {s:Sc} (h:(A0 T i)[j]?=some x):NQ i T e s (j+1)=GV i (NQ i T e s j) x:=by simp only[NQ,Ba h,ZQ,LP,ZP]
def zi3 (i:Int) (T:Tm) (e:L1 Z) (s:Sc):NQ i T e s (A0 T i).length=Jw i (A0 T i) T e s:=by simp only[NQ,Jw,CA (BO _)]
def ZA {i:Int} {l:An} {T:Tm} (C:LQ l T) (f:L1 Z) (s:Sc):∀j,j<=(A0 T i).length->(NQ i T f s j).1=j/\LQ l (NQ i T f s j).2.1/\(∀m,j<=m->(A0 (NQ i T f s j).2.1 i)[m]?=(A0 T i)[m]?)/\(∀m,(A0 (NQ i T f s j).2.1 m).length=(A0 T m).length)/\(NQ i T f s j).2.2.1.length=f.length+j/\(∀op n y ks ps,T=.mk op n y ks ps->∃q ps',(NQ i T f s j).2.1=.mk op n q ks ps'/\ps'.length=ps.length)
 |0,_=>⟨rfl,C,λ_ _=>rfl,λ_=>rfl,rfl,λop n y ks ps e=>⟨y,ps,e,rfl⟩⟩
 |j+1,d=>by let⟨D,u,G,v,H,K⟩:=ZA (i:=i) C f s j (by omega);let⟨x,N⟩:=At (show j<(A0 T i).length by omega);rw[eE N];generalize NQ i T f s j=r at *;obtain⟨z,R,A,g⟩:=r;simp only at D u G v H K;subst D;have h:z<(A0 R i).length:=by{rw[v];omega};let⟨p,S⟩:=At (show z<(bp l i).length by rw[zk3 u];exact h);refine⟨rfl,zgl u S _,λm k=>?_,λm=>?_,?_,λop n y ks ps e=>?_⟩;simp only[GV];rw[za8 _ h,KE (by omega),G m (by omega)];simp only[GV];rw[Ox,v];simp only[GV,AZ,DM,H];omega;let⟨q,ps',V,W⟩:=K op n y ks ps e;simp only[GV];rw[V];let⟨a,B,b,c⟩:=dM op n q ks ps' i z (DG A);exact⟨a,B,b,by rw[c,W]⟩
def SO (i:Int):∀(l:L1 Z) (r:Nat×Tm×L1 Z×Sc) (op n:Int) (x:Z) (ks:L1 Tm) (ps:L1 Y),r.2.1=.mk op n x ks ps->∃x' ps',(l.foldl (GV i) r).2.1=.mk op n x' ks ps'/\ps'.length=ps.length
 |[],r,op,n,x,ks,ps,h=>⟨x,ps,h,rfl⟩
 |y::l,r,op,n,x,ks,ps,h=>by let⟨m,e,p,q⟩:=dM op n x ks ps i r.1 (DG r.2.2.1);let⟨s,f,u,v⟩:=SO i l (GV i r y) op n m ks e (by simp only[GV,h];exact p);exact⟨s,f,u,v.trans q⟩
def Qb:∀(m i:Nat) (T:Tm) (f:L1 Z) (s:Sc) (e:L1 Sc) (op n:Int) (x:Z) (ks:L1 Tm) (ps:L1 Y),T=.mk op n x ks ps->∃x' ps',(l1 m i T f s e).1=.mk op n x' ks ps'/\ps'.length=ps.length
 |0,i,T,f,s,e,op,n,x,ks,ps,h=>⟨x,ps,h,rfl⟩
 |m+1,i,T,f,s,e,op,n,x,ks,ps,h=>by let⟨q,l,r,u⟩:=SO i (A0 T i) (0,T,f,s) op n x ks ps h;let⟨v,p,y,z⟩:=Qb m (i+1) (Jw i (A0 T i) T f s).2.1 (Jw i (A0 T i) T f s).2.2.1 s (e++[(Jw i (A0 T i) T f s).2.2.2]) op n q ks l r;exact⟨v,p,y,z.trans u⟩
def Pf (op n:Int) (x:Z) (ks:L1 Tm) (ps:L1 Y) (s:Sc) (e:L1 Z):∃x' ks' ps',(EQ (.mk op n x ks ps) s e).1=.mk op n x' ks' ps':=by by_cases h:op=4;exact⟨(DY s x).getD x,ks,ps,by simp only[EQ,ae h]⟩;let⟨x',ps',f,_⟩:=Qb ks.length 0 (.mk op n x ks ps) e s [] op n x ks ps rfl;exact⟨x',_,ps',by simp only[EQ,ac h,f,XG];rfl⟩
def LG {t u:Tm} (h:∀m,(A0 t m).length=(A0 u m).length):∀m i,J4 t m i=J4 u m i
 |0,_=>rfl
 |m+1,i=>by simp only[J4,h,LG h m]
def N7 (i:Int):∀(l:L1 Z) (r:Nat×Tm×L1 Z×Sc),(l.foldl (GV i) r).2.2.1.length=r.2.2.1.length+l.length/\∀m,(A0 (l.foldl (GV i) r).2.1 m).length=(A0 r.2.1 m).length
 |[],r=>⟨rfl,λ_=>rfl⟩
 |x::l,r=>by let⟨f,h⟩:=N7 i l (GV i r x);refine⟨?_,λm=>?_⟩;have e:(GV i r x).2.2.1.length=r.2.2.1.length+1:=by{simp[GV]};rw[LP,f,e,Co];omega;rw[LP,h];simp only[GV,Ox]
def aH:∀(m i:Nat) (T:Tm) (h:L1 Z) (s:Sc) (f:L1 Sc),(l1 m i T h s f).2.1.length=h.length+J4 T m i/\(l1 m i T h s f).2.2.length=f.length+m
 |0,i,T,h,s,f=>⟨rfl,rfl⟩
 |m+1,i,T,h,s,f=>by let⟨l,p⟩:=N7 i (A0 T i) (0,T,h,s);let⟨q,r⟩:=aH m (i+1) (Jw i (A0 T i) T h s).2.1 (Jw i (A0 T i) T h s).2.2.1 s (f++[(Jw i (A0 T i) T h s).2.2.2]);simp only[l1];refine⟨?_,?_⟩;rw[q];have e:(Jw i (A0 T i) T h s).2.2.1.length=h.length+(A0 T i).length:=l;have u:J4 (Jw i (A0 T i) T h s).2.1 m (i+1)=J4 T m (i+1):=LG p m (i+1);rw[e,u];simp only[J4];omega;rw[r,AZ,DM];omega
mutual
def QB:∀(t:Tm) (s:Sc) (e:L1 Z),(EQ t s e).2.length=e.length+Mp t
 |.mk f n x ks ps,s,e=>by by_cases h:f=4;simp[EQ,Mp,h];simp only[EQ,Mp,ac h];rw[YV,(aH ks.length 0 (.mk f n x ks ps) e s []).1];omega
def YV:∀(l:L1 Tm) (e:L1 Sc) (f:L1 Z),(DK l e f).2.length=f.length+Je l
 |[],e,f=>rfl
 |k::r,e,f=>by simp only[DK,Je];rw[YV r,QB k];omega
end
def xI (i j:Nat):L1 D->L1 D
 |[]=>[]
 |.own k e::r=>.own (bif Nat.beq k i then j else k) e::xI i j r
 |d::r=>d::xI i j r
def dW {i j:Nat}:∀{ds:L1 D} {m:Nat} {d:D},(xI i j ds)[m]?=some d->∃d0,ds[m]?=some d0/\(d=d0\/∃len,d0=.own i len/\d=.own j len)
 |[],m,d,h=>by simp[xI]at h
 |x::r,0,d,h=>by
  refine⟨x,rfl,?_⟩;cases x<;>simp only[xI,zem,Ci]at h<;>first
   |exact .inl h.symm
   |skip
  rename_i k len;cases e:Nat.beq k i with
  |true=>right;have:=CU e;subst this;exact⟨len,rfl,by rw[<- h,e];rfl⟩
  |false=>left;rw[<- h,e];rfl
 |x::r,m+1,d,h=>by
  have:(xI i j r)[m]?=some d:=by cases x<;>simpa[xI]using h
  let⟨d0,f,l⟩:=dW this;exact⟨d0,by simpa using f,l⟩
def OE {i j:Nat}:∀ds:L1 D,(xI i j ds).length=ds.length
 |[]=>rfl
 |x::r=>by cases x<;>simp[xI,OE r]
def qN (i j k:Nat) {blk:Blk} {t:TypeId} {sz:Nat} {ds:L1 D} (hl:lk st i=some (some blk)) (C:lk st k=some (some (.cells t sz ds))) (u:Nat.beq k i=false)
  (h:DGo P n F Q todo env ((k,some (.cells t sz (xI i j ds)))::(j,some blk)::(i,none)::st) ids'):DGo P n F Q todo env st (j::ids'):=by
 have u:k≠i:=λe=>by rw[e]at u;simp at u
 refine Es λI μ a w y=>?_;have z:Aw st i blk:=hl;let⟨g,hg,hr⟩:=y.blk i _ z;have H:μ j=none:=y.idsFree j (by simp);have E:i≠j:=λe=>by rw[e,H]at hg;cases hg
 let⟨gk,K,hrk⟩:=y.blk k _ C;have J:k≠j:=λe=>by rw[e,H]at K;cases K
 obtain⟨N,L⟩:∃N:Mu,N=λk=>if k=j then some g else μ k:=⟨_,rfl⟩
 have A:N j=some g:=by rw[L];simp
 have s:∀k,k≠j->N k=μ k:=λk C=>by rw[L];simp[C]
 have r:μ.le N:=λk v C=>by
  have:k≠j:=λe=>by rw[e,H]at C;cases C
  rw[s k this];exact C
 have G:∀f q,Aw ((k,some (.cells t sz (xI i j ds)))::(j,some blk)::(i,none)::st) f q->(f=k/\q=.cells t sz (xI i j ds))\/(f≠k/\f=j/\q=blk)\/(f≠k/\f≠j/\f≠i/\Aw st f q):=λf q h=>by
  rcases A1.1 h with h|⟨T,h⟩
  ·exact .inl h
  ·rcases A1.1 h with h|⟨B,h⟩
   ·exact .inr (.inl ⟨T,h⟩)
   ·let⟨c,R⟩:=B3.1 h;exact .inr (.inr ⟨T,B,c,R⟩)
 have old:∀f q,Aw ((k,some (.cells t sz (xI i j ds)))::(j,some blk)::(i,none)::st) f q->∀p,N f=some p->∃S b0,Aw st S b0/\μ S=some p/\(S=if f=j then i else f):=λf q h p l=>by
  rcases G f q h with⟨rfl,rfl⟩|⟨_,rfl,rfl⟩|⟨_,B,_,R⟩
  ·exact⟨f,_,C,by rw[<- s f J];exact l,by rw[ac J]⟩
  ·exact⟨i,_,z,by rw[A]at l;rw[hg];exact l,by rw[ae O]⟩
  ·exact⟨f,_,R,by rw[<- s f B];exact l,by rw[ac B]⟩
 refine⟨I,N,env,_,ids',?_,λt d hl=>(y.env t d hl).mono (U.le_refl I) r,?_,λk C v hv=>?_,h⟩
 ·exact
   {imm:=y.imm
    blk:=λf q h=>by
     rcases G f q h with⟨rfl,rfl⟩|⟨_,rfl,rfl⟩|⟨_,B,_,R⟩
     ·refine⟨gk,r _ _ K,?_⟩;obtain⟨hs,b,us,o,x,e3,e4⟩:=hrk;refine⟨by rw[OE];exact hs,b,us,o,x,⟨by rw[OE];exact e3.1,λm v d hv hd=>?_⟩,e4⟩;let⟨d0,V,W⟩:=dW hd;have T:=e3.2 m v d0 hv V;rcases W with rfl|⟨len,rfl,rfl⟩
      ·exact T.mono (U.le_refl I) r
      ·cases T with
       |own _ _ a cap hm=>rw[hg]at hm;cases hm;exact .own _ _ _ _ A
     ·exact⟨g,A,hr.mono (U.le_refl I) r⟩
     ·let⟨g',p1,p2⟩:=y.blk f q R;exact⟨g',r _ _ p1,p2.mono (U.le_refl I) r⟩
    apart:=λf q p m h l hm=>by
     let⟨S,b0,V,W,_⟩:=old f q h p l;exact y.apart S b0 p m V W hm
    inj:=λk1 k2 bk1 bk2 g1 g2 m B c hg1 hg2 hm1 hm2=>by
     let⟨p1,c1,V,W,q3⟩:=old k1 bk1 B g1 hg1;let⟨p2,c2,r1,r2,r3⟩:=old k2 bk2 c g2 hg2;have e:=y.inj p1 p2 c1 c2 g1 g2 m V r1 W r2 hm1 hm2;have n1:k1≠i:=by
      rcases G k1 bk1 B with⟨rfl,_⟩|⟨_,rfl,_⟩|⟨_,_,h,_⟩
      ·exact u
      ·exact λe=>E e.symm
      ·exact h
     have n2:k2≠i:=by
      rcases G k2 bk2 c with⟨rfl,_⟩|⟨_,rfl,_⟩|⟨_,_,h,_⟩
      ·exact u
      ·exact λe=>E e.symm
      ·exact h
     rw[q3,r3]at e;by_cases o:k1=j<;>by_cases x:k2=j
     ·rw[o,x]
     ·rw[ae o,ac x]at e;exact absurd e.symm n2
     ·rw[ac o,ae x]at e;exact absurd e n1
     ·rw[ac o,ac x]at e;exact e
    nodup:=(Fr.1 y.nodup).2
    idsFree:=λf hk'=>by
     have:f≠j:=λe=>(Fr.1 y.nodup).1 (e▸hk');rw[s f this];exact y.idsFree f (by simp[hk']) }
 ·exact { imm:=U.le_refl I,os:=rfl,tape:=rfl,output:=rfl,size:=BO _,block:=λ_ _ _=>rfl
          fresh:=λb _ ⟨f,q,p,B,c,R⟩=>by
           let⟨S,b0,V,W,_⟩:=old f q B p c;exact⟨S,b0,p,V,W,R⟩
          old:=λ_ _ _=>rfl }
 ·exact r _ _ hv
def P2:Code->Option (Code×Code)
 |.rangeFunc _ _ a b=>some (a,b)
 |.seq x y=>match P2 x with
  |some r=>some r
  |none=>P2 y
 |.block _ c=>P2 c
 |.loop c=>P2 c
 |.scope c=>P2 c
 |.cond _ x y=>match P2 x with
  |some r=>some r
  |none=>P2 y
 |_=>none
def zm6 (f:Func):Code:=match P2 (ES f 0)with
 |some (a,_)=>a
 |none=>.skip
def zi1 (f:Func):Code:=match P2 (ES f 0)with
 |some (_,b)=>b
 |none=>.skip
def Mh (e:L1 Sc) (s:Sc) (m:Nat):L1 (L1 V):=e.map (λs=>[Fz s])++[Fz s]::List.replicate m [.nilp]
def zc1 (e:L1 Sc) (s:Sc) (m:Nat):(Mh e s m)[e.length]?=some [Fz s]:=by rw[Mh,Jf (by simp)];simp
def zc0 (e:L1 Sc) (s f:Sc) (m:Nat):(Mh e s m).set e.length [Fz f]=Mh e f m:=by rw[Mh,Vm _ _ (by simp)];simp[Mh]
def dT (e:L1 Sc) (s:Sc) (m:Nat):(Mh e s m).length=e.length+1+m:=by simp[Mh];omega
def wQ (b:Nat) (f:An) (n:Nat) (e:L1 Sc) (r:Nat×Tm×L1 Z×Sc):St :=
 [(2,some (.cells 217 1 [.ref 7 0])),(4,some (.cells 49 5 [.imm (.int .i64 0),.imm (.int .i64 0),.imm (.str []),.nils,.nils])),(9,some (.hp (EZ b f r.2.1))),
  (7,some (.cells 220 1 [.own 13 r.2.2.1.length])),(13,some (.row 9 1 (Cq r.2.2.1))),(10,some (.row 225 1 (Mh e r.2.2.2 (n-e.length-1)))),(11,some (.cells 260 1 [.own 10 n])),(12,some (.immb 3 1 [.int .i64 e.length]))]
def zaq (b n i:Nat) (s:Sc):Env:=[(36,.imm (.int .i64 i)),(35,.imm (.int .i64 n)),(2,.imm (Fz s)),(9,.ref 11 0),(4,.raw (.pointer (some ⟨b,0,none⟩))),(3,.ref 2 0),(6,.ref 4 0),(10,.ref 12 0)]
def fF (b:Nat) (l:An) (n:Nat) (e:L1 Sc) (T:Tm) (z:L1 Z) (s Q:Sc) (hf:LQ l T) (j:Nat) (hj:j<(A0 T e.length).length) (i:z.length+(A0 T e.length).length<=699) (hn:e.length<n) (hn2:n<=1000000) (d:D) (k:((bp l e.length).map (plD b l))[j]?=some d) (h1:prog.funcs[L.fn]?.isSome) (h2:L.tmps.size=Tryz.f157.ntmps) (h3:L.ps = #[45]) (h4:L.asg=zm6 Tryz.f157) (h5:L.body=zi1 Tryz.f157) (t:L.E=zaq b n e.length Q) (w:L.F=[1,7,8]):La prog [d] (Cg L (wQ b l n e (NQ e.length T z s j)) none) true (Cg L (wQ b l n e (NQ e.length T z s (j+1))) none):=by let⟨fc,K⟩:=Mz.1 h1;let⟨x,E⟩:=At hj;let⟨F,N,I,i4,i5,_⟩:=ZA (i:=e.length) hf z s j (by omega);rw[eE E];generalize NQ e.length T z s j=r at *;obtain⟨A,G,f,m⟩:=r;simp only at F N I i4 i5;subst F;have q:=Qs N;rw[Ct]at k;obtain⟨p,H,rfl⟩:=EV.1 k;obtain⟨J,v,h,B,hD⟩:∃J v h,D5 l b 0 p=some (J,v,h)/\plD b l p=.raw (ptr v (El h 2)):=by{obtain⟨a,o,nn,y,ad,c,ks,u,qs,rfl,hv,_⟩:=id N;rw[Wt]at H;let⟨s,o',n',x',v',ks',u',ps',v,h,B,_,_⟩:=Ua ((Kk a).1 q) hv H b;refine⟨_,v,h,by rw[Ns,B];rfl,?_⟩;simp only[plD,Ns,B,HX]};have R:(A0 G e.length)[A]?=some x:=by{rw[I A (BO _)];exact E};have S:=lY q H B (b:=b) R;have W:=dU q H B (b:=b) (t:=G) (DG f);rw[hD];refine Qw (cf:=none) (d:=.raw (ptr v (El h 2))) (aa:=[14,15,16]) (t:=11) (p:=45) K h3 (h4.trans O) h2 O O O O (by decide) (by decide) ?_ ?_;rw[t,w];refine⟨by decide,?_⟩;simp[wQ,zaq,PM,Hb,Dx,LM,FQ];{rw[h5,t,w];refine xdqc O<|Ao [] [(13,1)] [] O (lC f _ (by omega)) A2 O O<|vY O<|BK Dl O ⟨by simp,by simp[maxLen];omega,by simp;omega,ab⟩<|xg [] O (by simp[Ap];rfl)<|CR Dl 9 [.imm (.str x)] O O (λ_=>S) O O (by simp)<|vY O<|Ft Dl O (λ_=>⟨by simp,by simp only[dT];omega⟩) (by simp)<|vY O ?_;have P:V.one (Fz m)=true:=by{rcases m with _|⟨⟨_,_⟩,_⟩<;>rfl};have C:=zc1 e m (n-e.length-1);have g:=zc0 e m ((x,DG f)::m) (n-e.length-1);rcases m with _|⟨⟨y1,y2⟩,m⟩;all_goals(refine Ny Dl O (λ_=>C) O (by simp)<|vY O<|Ft Dl O (λ_=>⟨by simp,by simp only[dT];omega⟩) (by simp)<|zgd Dl O C<|xg [] O (by simp[Ap];rfl)<|zga Dl 9 (EZ b l (Hv G e.length A (DG f))) O O W<|vY O<|AR 13 14 O<|Bw ?_;show Gl _ (wQ b l n e (A+1,Hv G e.length A (DG f),f++[DG f],(x,DG f)::_));have e3:(f++[DG f]).length=(Cq f++[[V.str (DG f)]]).length:=by{simp[Cq]};have e4:Cq (f++[DG f])=Cq f++[[V.str (DG f)]]:=by{simp[Cq]};simp only[wQ];rw[e3,e4,<- g];exact WO)}
structure PVs where
 id:Nat
 e:TypeId
 es:List (List V)
 k:Nat
 x:V
 todo:List DI
def sP (r:TT) (env:Env) (st:St) (todo:L1 DI):Option PVs :=
 match OK todo with
 |some o=>match o.guard,o.dst,o.op with
  |none,none,.store t p x=>match lk r t,EM env p,EM env x with
   |some i,some (.elp id k 1 0),some (.imm f)=>match lk st id,B1 todo ([id],[id]),Nat.beq i.size 1 with
    |some (some (.row e 1 es)),some (_,_,s),true=>some ⟨id,e,es,k,f,s⟩
    |_,_,_=>none
   |_,_,_=>none
  |_,_,_=>none
 |none=>none
def zf8 (htt:TTok P r) {c:PVs} {y:V} (h:sP r env st todo=some c) (R:c.es[c.k]?=some [y]) (B:V.one c.x=true)
  (g:G P n F Q c.todo env ((c.id,some (.row c.e 1 (c.es.set c.k [c.x])))::st) aa):G P n F Q todo env st aa:=by
 unfold sP at h
 split at h
 ·rename_i o ho
  split at h
  ·rename_i t p x hgd D S
   split at h
   ·rename_i i id f H ht hp hx
    split at h
    ·rename_i j es all o' s hl E hsz;cases h;have ho':o'=o:=Dp ho E;subst ho';have hs:=CU hsz;simp only at R g B;have g:G P n F Q s (Ca o'.dst .undef env) ([(id,some (.row j 1 (es.set f [H])))]++st) aa:=by rw[D];exact g
     refine BQ (fr:=[]) (wr:=[(id,some (.row j 1 (es.set f [H])))]) (rd:=[id]) E ?_ (by simp[Ce,D]) (λc R=>by rw[S]at R;cases R) g;intro I μ a8 ids1 a w hag J hon;refine⟨λ_=>?_,λhw=>by rw[AJ hgd]at hw;cases hw⟩;have l:=Bx hon;rw[S]at l;have rp:=l p (by simp[Op.operands]) _ hp;have rx:=l x (by simp[Op.operands]) _ hx;have L:Aw a8 id (.row j 1 es):=by unfold Aw;rw[hag id (by simp)];exact hl
     have rv:=rx.immInv;let⟨b,C,e,T,m,hcap,hcm,W,K,N,hone,hpos⟩:=UC J L (by rintro rfl;simp at R);have hkl:=(A9.1 R).1;rw[Io]at W;generalize hv:a.eval p=v at rp;generalize hu:a.eval x=u at rx rv;have A:u.cells = #[u]/\u.oneCell'=true:=⟨HH (rv.one B),rv.one B⟩
     cases rp with
     |elp _ _ ln cp _ _ _ hm=>
      rw[hm]at T;cases T;have hfit:f*1+0+u.cells.toList.length<=e.size:=by rw[A.1,W];simp;omega
      have hrun:(execOp a.eval o').run P w=.ok .skip (w.setRow b (e.toList.take (f*1+0)++u.cells.toList++e.toList.drop (f*1+0+u.cells.toList.length)).toArray):=by
       simp only[execOp,S,hv,hu,aj,H4 (htt t i ht) m (by rw[A.1,hs];rfl) (λz hz=>by rw[A.1]at hz;simp at hz;subst hz;exact A.2) hfit,ah,am]
      rw[hrun];have hcl:e.toList.length=C:=by simpa using W
      rw[A.1];simp only[Io,Gs,DM];simp only[Io]at K;have hnew:BlkRep I μ (w.setRow b (e.toList.take f++[u]++e.toList.drop (f+1)).toArray) (.slice (some ⟨b,0,none⟩) es.length C) (.row j 1 (es.set f [H])):=by
       have e1:=JB (sz:=1) (f:=0) (ys:=[H]) es f [y] N R (by simp);simp only[fN,HZ,DM,BS,Io,Gs]at e1;have e1':(es.set f [H]).flatten=es.flatten.take f++[H]++es.flatten.drop (f+1):=by simpa using e1
       have e2:(e.toList.take f++[u]++e.toList.drop (f+1)).take es.length=(e.toList.take es.length).take f++[u]++(e.toList.take es.length).drop (f+1):=by
        rw[Cl,PT,PT,Vg,Vg,Gt,Cl];rw[PR (by omega:f<=e.toList.length),tS (by omega:f<=es.length),PR (by omega:f<=es.length)];rw[CA (l:=[u]) (by simp;omega),nM];congr 3
       have hR:=RepVL.splice K (ns:=[u]) (ys:=[H]) ⟨rfl,λq v z E h2=>by
        match q with
        |0=>simp at E h2;subst E;subst h2;exact rv
        |q+1=>simp at E⟩ f
       simp only[DM]at hR;have Dc:(es.set f [H]).length=es.length:=by simp
       refine⟨_,⟨?_,.inr ⟨b,C,_,by rw[Dc],AK _,b8 w b e _ j _ m,by rw[Dc];exact hcap,hcm,?_,rfl⟩⟩,?_,?_,?_,ZS⟩
       ·simp;omega
       ·simp;omega
       ·rw[Dc,Io,Mt,e2,e1'];exact hR
       ·intro c d;rcases OR d with h|h
        ·exact N c h
        ·rw[h];rfl
       ·intro c d y hy;rcases OR d with h|h
        ·exact hone c h y hy
        ·rw[h]at hy;simp at hy;subst hy;exact B
      let⟨q1,q2⟩:=J.update (id:=id) (blk:=.row j 1 es) (g:=.slice (some ⟨b,0,none⟩) es.length C) (b:=b) L hm rfl (w':=w.setRow b _) (br w b _) rfl rfl rfl (λk g=>az w b k _ g) hnew;exact⟨I,μ,q1,.undef _,Mu.le_refl μ,q2⟩
    ·cases h
   ·cases h
  ·cases h
 ·cases h
def zn6 {cf:Option Code} {f:L1 Nat} (h:(Cg L st cf).P I w b f) {A:Asn} (l:lk st i=some (some (.hp A))):∃vs e,A.P vs I w e:=by obtain⟨r,μ,m,s,u,v,y,z,p,B⟩:=h;let⟨g,_,vs,e,_,q⟩:=p i _ l;exact⟨vs,e,q⟩
def NO (e:L1 Sc) (m:Nat):L1 (L1 V):=e.map (λs=>[Fz s])++List.replicate m [.nilp]
def zcz (e:L1 Sc) (m:Nat):(NO e (m+1))[e.length]?=some [.nilp]:=by rw[NO,Jf (by simp)];simp[List.replicate]
def zcx (e:L1 Sc) (s:Sc) (m:Nat):(NO e (m+1)).set e.length [Fz s]=Mh e s m:=by rw[NO,Vm _ _ (by simp)];simp[Mh,List.replicate]
def zm4 (e:L1 Sc) (s:Sc) (m:Nat):Mh e s m=NO (e++[s]) m:=by simp[Mh,NO]
def zcy {e:L1 Sc} {l:Sc} (h:e[i]?=some l) (m:Nat):(NO e m)[i]?=some [Fz l]:=by have f:=(A9.1 h).1;rw[NO,KD (by simpa using f),Ct,h];rfl
def dQ (e:L1 Sc) (m:Nat):(NO e m).length=e.length+m:=by simp[NO]
def stL1 (b:Nat) (e:An) (n:Nat) (y:Tm×L1 Z×L1 Sc):St :=
 [(2,some (.cells 217 1 [.ref 7 0])),(4,some (.cells 49 5 [.imm (.int .i64 0),.imm (.int .i64 0),.imm (.str []),.nils,.nils])),(9,some (.hp (EZ b e y.1))),
  (7,some (.cells 220 1 [.own 13 y.2.1.length])),(13,some (.row 9 1 (Cq y.2.1))),(10,some (.row 225 1 (NO y.2.2 (n-y.2.2.length)))),(11,some (.cells 260 1 [.own 10 n]))]
def zpm (b n i:Nat) (s:Sc):Env:=[(36,.imm (.int .i64 i)),(35,.imm (.int .i64 n)),(2,.imm (Fz s)),(9,.ref 11 0),(4,.raw (.pointer (some ⟨b,0,none⟩))),(3,.ref 2 0),(6,.ref 4 0)]
def stL2 (b:Nat) (h:An) (n:Nat) (e:L1 Sc) (T:Tm) (f:L1 Z):St :=
 [(2,some (.cells 217 1 [.ref 7 0])),(4,some (.cells 49 5 [.imm (.int .i64 0),.imm (.int .i64 0),.imm (.str []),.nils,.nils])),(9,some (.hp (EZ b h T))),
  (7,some (.cells 220 1 [.own 13 f.length])),(13,some (.row 9 1 (Cq f))),(10,some (.row 225 1 (NO e (n-e.length)))),(11,some (.cells 260 1 [.own 10 n]))]
def zpl (b n i:Nat) (v:Value):Env:=[(82,.imm (.int .i64 i)),(81,.imm (.int .i64 n)),(80,.raw v),(9,.ref 11 0),(4,.raw (.pointer (some ⟨b,0,none⟩))),(3,.ref 2 0),(6,.ref 4 0)]
def zmi (l:An) (t:Tm) (n:Nat) (f:L1 Z) (s:Sc) (y:Tm×L1 Z×L1 Sc):Prop :=
 y.2.2.length<=n/\LQ l y.1/\(∀h m x ks ps,t=.mk h m x ks ps->∃p e,y.1=.mk h m p ks e/\e.length=ps.length)/\(∀m,(A0 y.1 m).length=(A0 t m).length) /\
  y.2.1.length+J4 t (n-y.2.2.length) y.2.2.length<=f.length+J4 t n 0/\l1 n 0 t f s []=l1 (n-y.2.2.length) y.2.2.length y.1 y.2.1 s y.2.2
def zpf (f:Mk t) {op n:Int} (l:t=.mk op n x ks ps) (m:i<ks.length) (r:BN op i=false) (e:C5 op i=true):i-1<ps.length:=by subst l;obtain⟨_,h,_⟩:=f;let⟨p,q,_⟩:=h i m r e;have:=(A9.1 q).1;have s:0<i:=by{simp[C5]at e;omega};omega
def fG:∀(t:Tm) (s:Sc) (F:L1 Z) (A:An) (op n:Int) (x xx:Z) (v u:Value) (js qs:L1 An) (ks:L1 Tm) (ps:L1 Y),t=.mk op n x ks ps->A=.mk true op n xx v js u qs->Id A->RN t->Mk t->F.length+Mp t<=699 ->
  Tq4 157 [.ref 7 0,zc3 op n x v u,.imm (Fz s)] [(1,some (.hp (RK A t))),(7,some (.cells 220 1 [.own 8 F.length])),(8,some (.row 9 1 (Cq F)))]
  (.ret (zc3 op n (zmt (EQ t s F).1) v u) [(5,some (.hp (RK A (EQ t s F).1))),(7,some (.cells 220 1 [.own 13 (EQ t s F).2.length])),(13,some (.row 9 1 (Cq (EQ t s F).2)))])
 |t,s,F,A,op,n,x,xx,v,u,js,qs,ks,ps,J,q,C,B,N,htk=>by
  refine Ac Dl func157 O [2,3,4,13,5,9,10,11,12,6,14,15,16,17,18]<|GU O<|qN (ids':=[5,9,10,11,12,6,14,15,16,17,18]) 8 13 7 O O O<|Aa O (λh=>?_) (λh=>?_)
  ·have e:op=4:=by simpa using h
   have key:∀y:Z,∀Q I w R,(RK A t).P Q I w R->∃(_:Unit) (bs':L1 Nat),(∀b∈bs',b∈R)/\(RK A (.mk op n y ks ps)).P [] I w bs':=by
    rintro y Q I w R ⟨a,H,h2,h3,h4,h5⟩;subst J;rcases a with⟨s0,o',n',x',v',ks',u',ps'⟩|⟨s0,cs0,c0⟩
    case im=>rw[q]at H;simp[er]at H
    have hs:s0=true:=by rw[q]at H;simp only[er,An.mk.injEq]at H;exact H.1
    subst hs;refine⟨(),R,λ_ h=>h,.mk true o' n' y v' ks' u' ps',by rw[<- H];rfl,?_,h3,h4,by simpa only[ID]using h5⟩;simp only[vA,dTmc,BP]at h2 ⊢;exact⟨h2.1,h2.2.1,ab,h2.2.2.2⟩
   refine vD (ids':=[9,10,11,12,6,14,15,16,17,18]) 1 5 (λ_:Unit=>RK A (.mk op n ((DY s x).getD x) ks ps)) O (key _) λ_=>LU O<|Ah O (ze2 s x) ?_;have e2:EQ t s F=(.mk op n ((DY s x).getD x) ks ps,F):=by subst J;simp[EQ,e]
   rw[e2];cases hl:DY s x with
   |none=>
    exact GU O<|Ag O λh=>LU O<|Af ⟨_,BD⟩
   |some y=>
    exact GU O<|Aq O λh=>LU O<|Af ⟨_,BD⟩
  ·have e:op≠4:=by simpa using h
   refine bI (ids':=[9,10,11,12,6,14,15,16,17,18]) 3 5 O O λb=>vC (ids':=[10,11,12,6,14,15,16,17,18]) 1 5 9 (λ_:Unit=>EZ b A t) O O (by decide) (λQ us I w b1 b2 H h2 hd=>⟨(),b::b1,lZ q J H h2 hd⟩) λ_=>?_;have hfQ:iH A:=by rw[q]at C ⊢;exact C.2
   refine Dz 9 (λ_:{ _y:Unit // LQ A t }=>EZ b A t) O (λQ I w R h=>⟨⟨(),zki hfQ (by rw[J]at B ⊢;exact B.2.2.1) h⟩,h⟩) λz=>?_;obtain⟨_,hfine⟩:=z;have hv:∃ad c,v=.slice ad ks.length c/\js.length=ks.length/\(0<ks.length->∃rb,ad=some ⟨rb,0,none⟩):=by
    obtain⟨a,o',n',x',ad,c,ks',u',qs',H,h2,h3,_,_,h4,_⟩:=hfine;let⟨tks,tps,h5,h6,_⟩:=P6 h3 h2;rw[J]at h5;cases h5;rw[q,h3]at H;simp only[er,An.mk.injEq]at H;exact⟨ad,c,by rw[<- H.2.2.2.2.1,h6],by rw[<- H.2.2.2.2.2.1,GD,h6],by rw[<- h6];exact h4⟩
   obtain⟨ad,c,rfl,hjl,hadr⟩:=hv;refine LU O ?_;have hkl:ks.length<=1000000:=by rw[J]at B;exact B.1
   refine CR Dl 9 [.raw (.slice ad ks.length c)] O O (λ_ Q I w R h=>(Jd (by rw[q]at h;exact h)).1) O O (by simp)<|GU O<|zY Dl O O (by simp) (by simp;omega) (by simp[maxLen];omega) O ?_;rw[List.length_replicate];refine GU O<|CR Dl 9 [.raw (.slice ad ks.length c)] O O (λ_ Q I w R h=>(Jd (by rw[q]at h;exact h)).1) O O (by simp)<|GU O ?_;have hocc:J4 t ks.length 0+Je ks=Mp t:=by rw[J];simp[Mp,e]
   refine Al (λy:Tm×L1 Z×L1 Sc=>zpm b ks.length y.2.2.length s) (λy=>stL1 b A ks.length y) [12,6,14,15,16,17,18] (λy=>ks.length-y.2.2.length) (zmi A t ks.length F s) (t,F,[])
    ⟨AK _,hfine,λ_ _ _ _ _ h=>⟨_,_,h,rfl⟩,λ_=>rfl,BO _,rfl⟩ K5 K5 O λy hi ih=>?_
   obtain⟨T,p,f⟩:=y;obtain⟨g1,g2,g3,g4,g5,g6⟩:=hi;simp only at g1 g2 g3 g4 g5 g6;refine LU O<|Aa O (λh=>?_) (λh=>?_)
   ·simp at h;obtain⟨m,hm⟩:∃m,ks.length-f.length=m+1:=⟨ks.length-f.length-1,by omega⟩
    have hm2:ks.length-f.length-1=m:=by omega
    refine LU O<|Ft Dl O (λ_=>⟨by simp,by simp only[dQ];omega⟩) (by simp) ?_;have hone:V.one (Fz s)=true:=by
     rcases s with _|⟨⟨_,_⟩,_⟩<;>rfl
    refine zf8 (y:=.nilp) Dl O (by simp only[hm];exact zcz f m) hone<|GU O ?_;have hrow:(NO f (ks.length-f.length)).set f.length [Fz s]=Mh f s (ks.length-f.length-1):=by rw[hm,zcx];rfl
    let⟨x1,K,hT,hps1⟩:=g3 _ _ _ _ _ J;have hbl:=zpf N J h;have hb90:p.length+(A0 T f.length).length<=699:=by
     rw[hm]at g5;simp only[J4]at g5;rw[g4];omega
    let⟨r1,r2,r3,r4,r5,r6⟩:=ZA (i:=f.length) g2 p s (A0 T f.length).length (BO _);have S:zmi A t ks.length F s ((NQ f.length T p s (A0 T f.length).length).2.1,(NQ f.length T p s (A0 T f.length).length).2.2.1,f++[(NQ f.length T p s (A0 T f.length).length).2.2.2]):=by
     refine⟨?_,r2,λop' m' x' ks' ps' e=>?_,λm'=>(r4 m').trans (g4 m'),?_,?_⟩
     ·simp only[AZ,DM];omega
     ·let⟨xa,pa,ea,la⟩:=g3 _ _ _ _ _ e;let⟨xb,pb,eb,lb⟩:=r6 _ _ _ _ _ ea;exact⟨xb,pb,eb,lb.trans la⟩
     ·simp only[AZ,DM];rw[r5];rw[hm]at g5;simp only[J4]at g5;rw[show ks.length-(f.length+1)=m by omega,g4];omega
     ·rw[g6,hm];simp only[l1,AZ,DM];rw[zi3,show ks.length-(f.length+1)=m by omega]
    have W:Mh f (NQ f.length T p s (A0 T f.length).length).2.2.2 (ks.length-f.length-1)=NO (f++[(NQ f.length T p s (A0 T f.length).length).2.2.2]) (ks.length-(f++[(NQ f.length T p s (A0 T f.length).length).2.2.2]).length):=by
     rw[zm4];congr 1;simp only[AZ,DM];omega
    by_cases hB:BN op f.length=true\/(BN op f.length=false/\C5 op f.length=true)
    ·let⟨fB,ty,vB,fcB,cB,q1,q2,q3,q4,q5⟩:=zk4 (b:=b) (i:=f.length) g2 hT (by omega) (by
      rcases hB with hB|⟨hB1,hB2⟩
      ·exact .inl hB
      ·refine .inr ⟨hB1,hB2,?_⟩;have:=hbl hB1 hB2;rw[hps1];exact this)
     refine Ao [6] [(9,1)] [(6,6)] O q4 A2 O O<|GU O<|FU (y:=3) (j:=4) (j2:=5) (stc:=jY ty vB) (stc':=jY ty vB) (stx:=wQ b A ks.length f (NQ f.length T p s 0)) (stB:=wQ b A ks.length f (NQ f.length T p s (A0 T f.length).length)) (cf:=none) (E:=zaq b ks.length f.length s) (ids':=[6,14,15,16,17,18]) (d:=.tup []) O q1 q2 q3 (show XM∉[1,7,8] by decide) WO
      (CH ⟨rfl,rfl,rfl,rfl,rfl,rfl,af (λr=>some (some (Blk.row 225 1 r))) hrow,AP⟩) (λL H h2 h3 h4 h5 h6 h7=>?_) ?_ ?_ ?_ ?_ ?_
     ·have:=q5 (λj=>Cg L (wQ b A ks.length f (NQ f.length T p s j)) none) (λj=>⟨(NQ f.length T p s j).2.1,λI w bb R hP=>zn6 (i:=9) hP O⟩) λj d hd=>by
       have hj:j<(A0 T f.length).length:=by
        have:=(A9.1 hd).1
        rwa [C6,rC g2]at this
       rw[BS];exact fF b A ks.length f T p s s g2 j hj hb90 h hkl d hd H h2 h3 h4 h5 h6 h7
      rw[BS,rC g2]at this;exact this
     ·simp[jY,wQ,CT]
     ·simp[jY,CT]
     ·intro i hi;have e:FQ (F1 (DZ (Bg [(9,1)]++[(6,6)])) []++F1 (DZ (Bg [(9,1)]++[(6,6)])) [.ref 6 0])=[6]:=rfl;rw[e]at hi;simpa[jY,CT,Dx,LM,FQ,Hb]using hi
     ·refine⟨by decide,?_⟩;simp[wQ,zaq,PM,Hb,Dx,LM,FQ,CT]
     ·refine LU O<|Ad (ih _ (by simp only[AZ,DM];omega) S) ⟨by rw[AZ];exact Bf,EG⟩ ⟨rfl,rfl,rfl,rfl,rfl,(show X2 (Blk.row 225 1 (Mh f (NQ f.length T p s (A0 T f.length).length).2.2.2 (ks.length-f.length-1))) (Blk.row 225 1 (NO (f++[(NQ f.length T p s (A0 T f.length).length).2.2.2]) (ks.length-(f++[(NQ f.length T p s (A0 T f.length).length).2.2.2]).length)))from by rw[W];rfl),AG⟩ O
    ·have hN:BN op f.length=false/\C5 op f.length=false:=by
      cases e1:BN op f.length<;>cases e2:C5 op f.length<;>simp[e1,e2]at hB ⊢
     have hb0:(A0 T f.length).length=0:=by rw[hT];simp[A0,hN.1,hN.2]
     rw[hb0]at S W;refine Ao [] [(9,1)] [] O (kC (EZ b A T) b op f.length (by rw[hT];exact UE (Qs g2)) hN.1 hN.2) A2 O O<|GU O<|bH 44 O<|FU (y:=3) (j:=4) (j2:=5) (stc:=[]) (stc':=[]) (stx:=wQ b A ks.length f (NQ f.length T p s 0)) (stB:=wQ b A ks.length f (NQ f.length T p s 0)) (cf:=none) (E:=zaq b ks.length f.length s) (ids':=[6,14,15,16,17,18]) (d:=.tup []) O func233 (by decide +kernel) O (show XM∉[1,7,8] by decide) WO
      (CH ⟨rfl,rfl,rfl,rfl,rfl,af (λr=>some (some (Blk.row 225 1 r))) hrow,AP⟩) (λL H h2 h3 h4 h5 h6 h7=>YX) ?_ ?_ ?_ ?_ ?_
     ·simp[CT]
     ·simp[CT]
     ·intro i hi;have e:FQ (([]:L1 D)++[])=[]:=rfl;rw[e]at hi;simp[Dx]at hi
     ·refine⟨by decide,?_⟩;simp[wQ,zaq,PM,Hb,Dx,LM,FQ,CT]
     ·refine LU O<|Ad (ih _ (by simp only[AZ,DM];omega) S) ⟨by rw[AZ];exact Bf,EG⟩ ⟨rfl,rfl,rfl,rfl,rfl,(show X2 (Blk.row 225 1 (Mh f (NQ f.length T p s 0).2.2.2 (ks.length-f.length-1))) (Blk.row 225 1 (NO (f++[(NQ f.length T p s 0).2.2.2]) (ks.length-(f++[(NQ f.length T p s 0).2.2.2]).length)))from by rw[W];rfl),AG⟩ O
   ·simp at h;have hn:f.length=ks.length:=by omega
    have hz:ks.length-f.length=0:=by omega
    rw[hz]at g5 g6;simp only[l1]at g6;simp only[J4]at g5;clear ih;let⟨x1,K,hT,hps1⟩:=g3 _ _ _ _ _ J;refine Az O<|LU O<|CR Dl 9 [.raw (.slice ad ks.length c)] O O (λ_ Q I w R h=>(Jd (by rw[q]at h;exact h)).1) O O (by simp)<|GU O ?_;have hcan:EQ t s F=(.mk op n x1 (DK ks f p).1 K,(DK ks f p).2):=by
     subst J;simp only[EQ,ac e,g6,hT,XG]
    have P:=Qs g2;refine Al (λy:Nat×L1 Tm×L1 Z=>zpl b ks.length y.1 (.slice ad ks.length c)) (λy=>stL2 b A ks.length f (.mk op n x1 y.2.1 K) y.2.2) [6,14,12,15,16,17,18] (λy=>ks.length-y.1)
     (λy=>y.1<=ks.length/\y.2.1.length=ks.length/\y.2.1.drop y.1=ks.drop y.1/\y.2.2.length+Je (ks.drop y.1)<=699/\DK ks f p=(y.2.1.take y.1++(DK (ks.drop y.1) (f.drop y.1) y.2.2).1,(DK (ks.drop y.1) (f.drop y.1) y.2.2).2)) (0,ks,p)
     ⟨AK _,rfl,rfl,by simp only[Yn];omega,rfl⟩ K5 ⟨rfl,rfl,by rw[hT];rfl,B0⟩ O λy hi ih=>?_
    obtain⟨i,kn,g⟩:=y;obtain⟨d1,d2,d3,d4,d5⟩:=hi;simp only at d1 d2 d3 d4 d5;refine LU O<|Aa O (λh=>?_) (λh=>?_)
    ·simp at h;obtain⟨rb,rfl⟩:=hadr (by omega);let⟨k,hk⟩:=At h;have hkn:kn[i]?=some k:=by
      have:=af (λl=>l[0]?) d3;simp only[EU,Gs]at this;rw[this];exact hk
     have hkK:tmK (.mk op n x1 kn K) i=some k:=hkn;let⟨sc,hsc⟩:=At (show i<f.length by omega);obtain⟨E,hskc⟩:∃E,js[i]?=some E:=At (by omega);have hsK:skK A i=some E:=by rw[q];exact hskc
     have hfc:Id E:=by rw[q]at C;exact OX C.1 hskc
     refine Dz 9 (λ_:{ y:Int×Int×Z×Value×L1 An×Value×L1 An×Z×L1 Tm×L1 Y // E=.mk true y.1 y.2.1 y.2.2.1 y.2.2.2.1 y.2.2.2.2.1 y.2.2.2.2.2.1 y.2.2.2.2.2.2.1/\k=.mk y.1 y.2.1 y.2.2.2.2.2.2.2.1 y.2.2.2.2.2.2.2.2.1 y.2.2.2.2.2.2.2.2.2 }=>EZ b A (.mk op n x1 kn K)) O (λQ I w R h=>by
      let⟨o,n,x,v,js,u,qs,tx,tks,tps,H,h2⟩:=xH P hfc hsK hkK h;exact⟨⟨(o,n,x,v,js,u,qs,tx,tks,tps),H,h2⟩,h⟩) λz=>?_
     obtain⟨⟨oc,nc,xc,vc,jsc,uc,qsc,tx,tks,tps⟩,G,hk2⟩:=z;simp only at G hk2;refine uZ (ids':=[12,15,16,17,18]) 9 6 14 (λ_:Unit=>kN b A (.mk op n x1 kn K) i) (λ_=>RK E k) O (λQ I w R h=>by
      let⟨b1,b2,e1,e2,e3,e4,e5⟩:=pV P hsK hkK h;exact⟨(),b1,b2,e1,e2,e3,e4,e5⟩) λ_=>?_
     refine LU O<|Er Dl O O (λ_=>⟨by simp,by simpa using h⟩) (by simp)<|GU O<|CR Dl 6 [i7 oc,i7 nc,.imm (.str tx),.raw vc,.raw uc] O O (λ_ Q I w R h=>by have:=pW P q hsK G hkK hk2 h;simpa using this) O O (by simp)<|GU O<|CR Dl 6 [.raw (.slice (some ⟨rb,0,none⟩) ks.length c)] O O (λ_ Q I w R h=>zfy (by rw[q]at h;exact h)) O O (by simp)<|GU O<|Ft Dl O (λ_=>⟨by simp,by simp only[dQ];omega⟩) (by simp)<|GU O<|Ny (e:=[Fz sc]) Dl O (λ_=>zcy hsc _) O (by simp)<|GU O ?_;have hmem:k∈ks:=AF hk;have hoc:Je (ks.drop i)=Mp k+Je (ks.drop (i+1)):=by rw[Au hk];rfl
     have IH:=fG k sc g E oc nc tx xc vc uc jsc qsc tks tps hk2 G hfc (by rw[J]at B;exact Lc B.2.2.2 hmem) (by rw[J]at N;exact Mj N.2.2 hmem) (by omega);let⟨x2,ks2,ps2,hsh⟩:=Pf oc nc tx tks tps sc g;rw[<- hk2]at hsh;rw[hsh]at IH;refine Ao [15,16] [(14,1),(7,7),(13,8)] [(5,15),(13,16)] O IH A5 O O<|GU O<|Er Dl O O (λ_=>⟨by simp,by simpa using h⟩) (by simp)<|IT Dl 6 15 17 (EZ b A (zci (.mk op n x1 kn K) i (.mk oc nc x2 ks2 ps2))) O O O (by decide) (by
      have:=pU (b:=b) (o2:=oc) (n2:=nc) (x2:=x2) (ks2:=ks2) (ps2:=ps2) 15 P q hsK G hkK;have e:0+((i:Int)).toNat*5=i*5:=by simp
      show Gw _ _ _ 15 rb (0+((i:Int)).toNat*5) [i7 oc,i7 nc,.imm (.str x2),.raw vc,.raw uc];rw[e];exact this) ?_
     refine xg [] O (by simp;rfl)<|AR 9 17 O<|AR 13 16 O ?_;have hcl:=QB k sc g;have hcan2:DK (ks.drop i) (f.drop i) g=(.mk oc nc x2 ks2 ps2::(DK (ks.drop (i+1)) (f.drop (i+1)) (EQ k sc g).2).1,(DK (ks.drop (i+1)) (f.drop (i+1)) (EQ k sc g).2).2):=by
      rw[Au hk,Au hsc];simp only[DK,List.headD_cons,List.tail_cons,hsh]
     have hks:(kn.set i (.mk oc nc x2 ks2 ps2))[i]?=some (.mk oc nc x2 ks2 ps2):=by rw[HY (by omega)]
     refine Ad (ih (i+1,kn.set i (.mk oc nc x2 ks2 ps2),(EQ k sc g).2) (by simp only;omega) ⟨by simp only;omega,by simp only[Kl];exact d2,?_,by simp only;omega,?_⟩) ⟨B8 (Gx (by simp only;omega) (by simp only;omega)),EG⟩ K5 O
     ·simp only;rw[List.drop_set_of_lt (by omega)];have:=af (List.drop 1) d3
      rwa [Ym,Ym]at this
     ·simp only;rw[d5,hcan2,Ba hks,zeu (BO _)];simp
    ·simp at h;have hi:i=ks.length:=by omega
     subst hi;rw[Bu (BO _)]at d5;simp only[DK,JL]at d5;rw[CA (by omega)]at d5;rw[d5]at hcan;clear ih;refine Az O<|LU O<|CR Dl 9 [i7 op,i7 n,.imm (.str x1),.raw (.slice ad ks.length c),.raw u] O O (λ_ Q I w R h=>dV q O h) O O (by simp)<|GU O<|vD (ids':=[14,12,15,16,17,18]) 9 6 (λ_:Unit=>RK A (.mk op n x1 kn K)) O (λQ I w R h=>⟨(),zc2 h⟩) λ_=>AR 5 6 O ?_;rw[hcan];exact Af ⟨_,BD⟩
termination_by t=>SizeOf.sizeOf t
decreasing_by
 all_goals
  have:=Cr hmem;subst J;simp_wf;omega
end Go.Hk
namespace Go.Proofs
open Go.Shelf
def Tryz.mSort_ren:Go.Shelf.Ren:=⟨fun|6=>227|8=>272|9=>271|19=>297|20=>298|21=>288|22=>289|23=>290|24=>291|25=>292|26=>293|27=>294|28=>295|29=>296|36=>303|31=>304|32=>305|37=>306|38=>307|39=>308|41=>319|n=>n,fun|27=>73|29=>9|3=>3|32=>311|26=>73|0=>0|44=>330|46=>332|4=>4|36=>323|35=>322|41=>204|5=>5|9=>9|53=>335|57=>174|63=>345|64=>346|n=>n,fun|n=>n⟩
theorem Tryz.mSort:Go.Proofs.SlLaysM.n6 Tryz.prog Tryz.mSort_ren:={mixed:=by kernel_rfl,f6:=⟨Tryz.f227.name,by decide,Tryz.func227.trans (congrArg some (by kernel_rfl))⟩,f8:=Tryz.func272.trans (congrArg some (by kernel_rfl)),f9:=⟨Tryz.f271.name,by decide,Tryz.func271.trans (congrArg some (by kernel_rfl))⟩,f19:=Tryz.func297.trans (congrArg some (by kernel_rfl)),f20:=Tryz.func298.trans (congrArg some (by kernel_rfl)),f21:=⟨Tryz.f288.name,by decide,Tryz.func288.trans (congrArg some (by kernel_rfl))⟩,f22:=⟨Tryz.f289.name,by decide,Tryz.func289.trans (congrArg some (by kernel_rfl))⟩,f23:=⟨Tryz.f290.name,by decide,Tryz.func290.trans (congrArg some (by kernel_rfl))⟩,f24:=⟨Tryz.f291.name,by decide,Tryz.func291.trans (congrArg some (by kernel_rfl))⟩,f25:=⟨Tryz.f292.name,by decide,Tryz.func292.trans (congrArg some (by kernel_rfl))⟩,f26:=⟨Tryz.f293.name,by decide,Tryz.func293.trans (congrArg some (by kernel_rfl))⟩,f27:=⟨Tryz.f294.name,by decide,Tryz.func294.trans (congrArg some (by kernel_rfl))⟩,f28:=⟨Tryz.f295.name,by decide,Tryz.func295.trans (congrArg some (by kernel_rfl))⟩,f29:=⟨Tryz.f296.name,by decide,Tryz.func296.trans (congrArg some (by kernel_rfl))⟩,f31:=Tryz.func304.trans (congrArg some (by kernel_rfl)),f32:=Tryz.func305.trans (congrArg some (by kernel_rfl)),f36:=⟨Tryz.f303.name,by decide,Tryz.func303.trans (congrArg some (by kernel_rfl))⟩,f37:=⟨Tryz.f306.name,by decide,Tryz.func306.trans (congrArg some (by kernel_rfl))⟩,f38:=⟨Tryz.f307.name,by decide,Tryz.func307.trans (congrArg some (by kernel_rfl))⟩,f39:=⟨Tryz.f308.name,by decide,Tryz.func308.trans (congrArg some (by kernel_rfl))⟩,f41:=⟨Tryz.f319.name,by decide,Tryz.func319.trans (congrArg some (by kernel_rfl))⟩,t0:=Tryz.underlying0,a0:=Tryz.isAgg0,z0:=Tryz.sizeOf0,v0:=Tryz.zeroValue0,t3:=Tryz.underlying3,a3:=Tryz.isAgg3,z3:=Tryz.sizeOf3,v3:=Tryz.zeroValue3,t4:=Tryz.underlying4,a4:=Tryz.isAgg4,z4:=Tryz.sizeOf4,v4:=Tryz.zeroValue4,t5:=Tryz.underlying5,a5:=Tryz.isAgg5,z5:=Tryz.sizeOf5,v5:=Tryz.zeroValue5,t9:=Tryz.underlying9,a9:=Tryz.isAgg9,z9:=Tryz.sizeOf9,v9:=Tryz.zeroValue9,t26:=Tryz.underlying73,a26:=Tryz.isAgg73,z26:=Tryz.sizeOf73,v26:=Tryz.zeroValue73,t27:=Tryz.underlying73,a27:=Tryz.isAgg73,z27:=Tryz.sizeOf73,v27:=Tryz.zeroValue73,t29:=Tryz.underlying9,a29:=Tryz.isAgg9,z29:=Tryz.sizeOf9,v29:=Tryz.zeroValue9,t32:=Tryz.underlying311,a32:=Tryz.isAgg311,z32:=Tryz.sizeOf311,v32:=Tryz.zeroValue311,t35:=Tryz.underlying322,a35:=Tryz.isAgg322,z35:=Tryz.sizeOf322,v35:=Tryz.zeroValue322,t36:=Tryz.underlying323,a36:=Tryz.isAgg323,z36:=Tryz.sizeOf323,v36:=Tryz.zeroValue323,t41:=Tryz.underlying204,a41:=Tryz.isAgg204,z41:=Tryz.sizeOf204,v41:=Tryz.zeroValue204,t44:=Tryz.underlying330,a44:=Tryz.isAgg330,z44:=Tryz.sizeOf330,v44:=Tryz.zeroValue330,t46:=Tryz.underlying332,a46:=Tryz.isAgg332,z46:=Tryz.sizeOf332,v46:=Tryz.zeroValue332,t53:=Tryz.underlying335,a53:=Tryz.isAgg335,z53:=Tryz.sizeOf335,v53:=Tryz.zeroValue335,t57:=Tryz.underlying174,a57:=Tryz.isAgg174,z57:=Tryz.sizeOf174,v57:=Tryz.zeroValue174,t63:=Tryz.underlying345,a63:=Tryz.isAgg345,z63:=Tryz.sizeOf345,v63:=Tryz.zeroValue345,t64:=Tryz.underlying346,a64:=Tryz.isAgg346,z64:=Tryz.sizeOf346,v64:=Tryz.zeroValue346 }
end Go.Proofs
namespace Go.Hk
open Go.Proofs Go.RowKit Go.Maps Go.Sort
def Qe:Keyed Tryz.prog 9:=string_keyed Tryz.underlying9
def zj6:(Tryz.prog.info? 9).map (λi=>(i.zero,i.size,i.bytes))=some (some (.string ⟨#[]⟩),1,16):=by kernel_rfl
def ef:=@callsIn_wide
def zis (m:Nat) (blk off cap:Nat) (f:L1 (L1 UInt8)) (W:World) (p:Holds encStr W blk off f.toArray) (h:blk<W.heap.size) (l:f.length<4611686018427387904):CallsIn Fence.wide m Tryz.prog 227 #[.slice (some ⟨blk,off,none⟩) f.length cap] W λe w'=>e=.returned (.tuple #[])/\∃k os,w'=grow (putRow encStr (Sort.ahead W k) blk off (f.mergeSort λx y=>decide (x<=y)).toArray) os:=ef.2 (AnyM.slices_Sort_string Tryz.mSort blk off cap f W p h l)
def zcd (m:Nat) (p:Option Addr) (cap:Nat) (W:World):CallsIn Fence.wide m Tryz.prog 227 #[.slice p 0 cap] W λe w'=>e=.returned (.tuple #[])/\w'=W:=ef.2 (AnyM.slices_Sort_string_none Tryz.mSort p cap W)
def Zp {H:Type} (b n:Nat) (C:DataW H) (w:World) (r:w.ownsMap Tryz.prog 9 (plainElem Tryz.prog 4) b n C) (hmax:Maps.size C<=maxLen) (F:16*Maps.size C<=140737488355328) :
  CallsIn Fence.wide 68 Tryz.prog 156 #[.map (some b)] w λe w'=>∃(v:Value) (q:L1 (L1 UInt8)),e=.returned v/\q.Perm (strKeys C) /\
   w'.ownsRow w.heap.size 9 1 v q.length ((q.mergeSort (λx y=>decide (x<=y))).map encStr)/\(v=.slice none 0 0↔q=[])/\Below w.heap.size w w':=by
 let⟨i0,hi,I,J,L⟩:=info_parts zj6;have P:=r.lt;have hfn:Fence.wide.fn 227:=trivial;refine callsIn_of_wp Tryz.func156 O trivial ?_ O;simp only[Tryz.ntmps156,aB,Co,Cb,Nat.reduceAdd,Nat.reduceSub,Array.replicate_succ,Array.replicate_zero,List.push_toArray,List.append_toArray,HZ,Dj]
 gi_wp2_with (first
  |(gi_at_range;refine wpListIn_range_own _ O _ 139 O 9 4 Qe Tryz.underlying139 _ b n _ O r ?_;intro w0 d Q hs0)
  |gi_in)
 go_frame
 gi_loopw [3] (λv wr=>∃(left:Lit->Bool) (cD:Nat) (q:L1 (L1 UInt8)),wr.ranges Tryz.prog 9 (plainElem Tryz.prog 4) b w.heap.size n C left cD/\q.length+cD<=Maps.size C /\
   wr.ownsRow w.heap.size 9 1 v q.length (q.map encStr)/\(v=.slice none 0 0↔q=[])/\Collected C left q/\Below w.heap.size w wr)
  (λ_ wr=>wr.rangeLeft b w.heap.size)
 case atStart=>
  exact⟨_,_,[],d,by simp,b6 _ _ _ _,by simp,Collected.start C,(Below.refl _ _).grown Q (BO _) (λj R=>by cases R)⟩
 case round=>
  obtain⟨left,cD,q,S,hcs,s,T,hC,m⟩:=hrel
  gi_wp2_with (first
   |(gi_at_next;refine wpListIn_next_ranges _ rfl _ rfl 9 Qe (plainElem Tryz.prog 4) encStr (λv:Value=>v) (λkey kl hk=>by let⟨x,hx,_⟩:=Maps.keyOf_str Tryz.underlying9 hk;exact⟨x,hx⟩) (λv y hv=>⟨v,rfl⟩) b w.heap.size n _ _ _ O S ?_ ?_)
   |gi_in)
  ·intro hc0 i;rcases s.2 with⟨k,hz⟩|⟨g,cap,ca,hv,u,hb,h1,h2,h3,h4⟩
   ·have hss:q=[]:=Iu hz;subst hss;subst k
    gi_wp2_with (gi_at_call 227;refine(zcd _ none 0 _).mono ?_;rintro e w' ⟨rfl,rfl⟩)
    go_ret
    exact⟨_,[],rfl,hC.perm r Qe Tryz.underlying9 i,by simpa using s,by simp,m⟩
   ·subst hv;have hH:Holds encStr wr g 0 q.toArray:=holds_of_block hb (by simpa using h4);have hgl:g<wr.heap.size:=(GS.1 hb).1;have hc:=zis 67 g 0 cap q wr hH hgl (by omega)
    gi_wp2_with (gi_at_call 227;refine hc.mono ?_;rintro e w' ⟨rfl,nn,os,rfl⟩)
    go_ret
    exact⟨_,q,rfl,hC.perm r Qe Tryz.underlying9 i,ownsRow_sorted (by simp) u hb h1 h2 h3,T,m.grown (grownBy_sorted _) m.size (λj R=>by cases R;exact u)⟩
  ·intro x c kl yd yp w2 o t hlk hv hat K hlt z hs2 hen;obtain⟨x',ex,rfl,_⟩:=Maps.keyOf_str Tryz.underlying9 t;obtain rfl:x=x':=encStr_inj ex;have l:=s.kept z (Or.inr (row_ne_iter s S).symm);clear hs2
   gi_wp2_with (first
    |(gi_at_builtin;refine wpListIn_append_own _ O _ _ 73 O w.heap.size 9 i0 (.string ⟨#[]⟩) 1 16 Tryz.underlying73 hi I J L O (by decide) _ _ _ O (l.alloc _) ⟨w2.heap.size,0,none⟩ 1 1 [encStr x] O O (cell_one_new _ _ _) (by simp[Value.oneCell',encStr]) (by unfold maxLen at *;omega) (by omega) (by have:=m.size;have:=z.size;simp;omega) ?_;intro v' w3 V E W;go_frame)
    |gi_in)
   have N:=(K.alloc _).kept E (row_ne_low l P) (row_ne_iter l K)
   go_roundw
   case rel=>
    refine⟨_,o,q++[x],N,by simp;omega,by simpa using V,⟨λhv'=>by have:=(W.1 hv').2;omega,λh=>by simp at h⟩,hC.step hlk hat,?_⟩;exact((m.grown z m.size (λj R=>by cases R;exact BO _)).alloc (by have:=m.size;have:=z.size;omega) _).grown E (by have:=m.size;have:=z.size;simp;omega) (λj R=>(l.lt j R).1)
   case measure=>rw[N.left_eq,S.left_eq];exact hlt
end Go.Hk
namespace Go.Hk
open Go.Proofs Go.RowKit Go.Maps Go.Sort Go.MapKept
open Go.WideElems (Fit rd rg rg_of rd_mk)
def zj3:Value->L1 UInt8
 |.string s=>s.data.toList
 |_=>[]
def Zo (w:World) (z:Nat) (es:Array MapEntry) (f:Nat) (V:w.heap[z]?=some (.map es f)) (C:Stamped es f) (W:∀e∈es.toList,(∃s:ByteArray,e.key=.string s/\s.size<=maxLen)/\∃c,e.val=.bool c) (a:es.size<=1000000):Tq6 156 #[.map (some z)] w λe w'=>∃(v:Value) (m:L1 (L1 UInt8)),e=.returned v/\m.Perm (es.toList.map λe=>zj3 e.key)/\w'.ownsRow w.heap.size 9 1 v m.length ((m.mergeSort (λx y=>decide (x<=y))).map encStr)/\(v=.slice none 0 0↔m=[])/\Below w.heap.size w w':=by have h:∀e∈es.toList,∃d,rd (H:=Unit) Tryz.prog 9 (plainElem Tryz.prog 4) e=some (.string (zj3 e.key),d):=by{intro e D;let⟨⟨s,A,G⟩,c,B⟩:=W e D;obtain⟨k,v,R⟩:=e;simp only at A B;subst A;subst B;have S:=Tryz.underlying4;have b:plainElem (H:=Unit) Tryz.prog 4 (.bool c)=some (.lit (.bool c),[]):=by{unfold plainElem;generalize Tryz.prog.underlying 4=u at S;subst S;rfl};exact⟨_,rd_mk (WideMaps.keyOf_string_mk Tryz.underlying9 G) b⟩};have q:Fit (H:=Unit) Tryz.prog 9 (plainElem Tryz.prog 4) es f:=⟨by unfold maxLen;omega,C,λx i=>by let⟨d,K⟩:=h x i;exact⟨_,K⟩⟩;have r:w.ownsMap (H:=Unit) Tryz.prog 9 (plainElem Tryz.prog 4) z es.size (.map ((es.toList.map (rg Tryz.prog 9 (plainElem Tryz.prog 4))).foldr DataW.insert [])):=⟨es,f,V,q,BO _,rfl⟩;have l:Maps.size (H:=Unit) (.map ((es.toList.map (rg Tryz.prog 9 (plainElem Tryz.prog 4))).foldr DataW.insert []))=es.size:=by{show(List.foldr DataW.insert [] _).length=_;rw[length_sorted];simp};refine(ef.1 (Zp z es.size _ w r (by rw[l];unfold maxLen;omega) (by rw[l];omega))).mono ?_;rintro e w' ⟨v,m,A,G,B,j,n⟩;refine⟨v,m,A,G.trans ?_,B,j,n⟩;show(List.map (λp=>strOf p.1) (List.foldr DataW.insert [] (es.toList.map (rg Tryz.prog 9 (plainElem Tryz.prog 4))))).Perm _;refine((WideShapes.sorted_perm _).map _).trans ?_;rw[Vr];refine List.Perm.of_eq (Kn λe D=>?_);let⟨d,K⟩:=h e D;simp only[Function.comp_apply,rg_of K,strOf]
end Go.Hk
namespace Go.Hk
open Go.Proofs Go.RowKit Go.Maps Go.Sort
def Me (m:L1 Z):L1 Z:=m.mergeSort λx y=>decide (x<=y)
def qI (I:U) (l:L1 UInt8):M I (encStr l) (.str l):=.str _ _ (by simp)
mutual
def SL:∀(t:Tm) (s m:L1 Z),AV t=true->∀x∈Gd t s m,x∈m\/x.length<=8
 |.mk f n x ks ps,s,m,h,y,hy=>by simp only[AV,Am]at h;simp only[Gd]at hy;by_cases e:f=4;subst e;have l:=h.1.1;simp[Bl,BV]at l;rw[ae O]at hy;split at hy;exact .inl hy;simp only[TI]at hy;split at hy;exact .inl hy;rcases B2.1 hy with hy|hy;exact .inl hy;right;have:y=x:=by{simpa using hy};subst this;omega;rw[ac e]at hy;exact Qn _ 0 ks s m h.2 y hy
def Qn:∀(t:Tm) (i:Nat) (ks:L1 Tm) (s m:L1 Z),Br ks=true->∀x∈FG t i ks s m,x∈m\/x.length<=8
 |_,_,[],_,_,_,x,e=>.inl (by simpa[FG]using e)
 |t,i,k::r,s,m,h,x,e=>by simp only[Br,Am]at h;simp only[FG]at e;rcases Qn t (i+1) r s _ h.2 x e with h1|h1;exact SL k _ m h.1 x h1;exact .inr h1
end
mutual
def R8:∀(t:Tm) (s m:L1 Z),(Gd t s m).length<=m.length+Hn t
 |.mk f n x ks ps,s,m=>by simp only[Gd,Hn];by_cases e:f=4;rw[ae e];split;omega;simp only[TI];split;omega;simp only[AZ,Co,Cb];omega;rw[ac e];have:=VT (.mk f n x ks ps) 0 ks s m;omega
def VT:∀(t:Tm) (i:Nat) (ks:L1 Tm) (s m:L1 Z),(FG t i ks s m).length<=m.length+Eu ks
 |_,_,[],_,m=>by simp[FG]
 |t,i,k::r,s,m=>by simp only[FG,Eu];have e:=VT t (i+1) r s (Gd k ((A0 t i).reverse++s) m);have f:=R8 k ((A0 t i).reverse++s) m;omega
end
end Go.Hk
namespace Go.Hk
open Go.Proofs
end Go.Hk
namespace Go.Hk
open Go.Proofs Go.RowKit Go.Maps Go.Sort
def lI (m:L1 Z) (hm:∀s∈m,s.length<=maxLen) (p:m.length<=1000000) :
  Tq4 156 [.mapr 1] [(1,some (.map (E3 m)))] (.ret (.own 2 (Cq (Me m)).length) [(1,some (.map (E3 m))),(2,some (.row 9 1 (Cq (Me m))))]):=by
 intro I μ w xs B d;obtain⟨xl⟩:=xs;have hx1:xl.length=1:=d.1
 match xl,hx1 with
 |[x],_=>
 have hxm:X I μ x (.mapr 1):=d.2 0 x _ O O;let⟨g,hg,r,es,P,e1,e2,e3,e4,e5⟩:=B.blk 1 _ rfl;subst e1;have hxv:x=.map (some r):=by
  cases hxm with
  |mapr _ b h=>rw[hg]at h;cases h;rfl
 subst hxv;have R:es.toList.length=m.length:=by simpa[E3]using e3
 have J:∀(i:Nat) (e:MapEntry),es.toList[i]?=some e->∃s,m[i]?=some s/\zj3 e.key=s/\(∃b:ByteArray,e.key=.string b/\b.size<=maxLen)/\∃c,e.val=.bool c:=by
  intro i e S;obtain⟨s,hs⟩:∃s,m[i]?=some s:=⟨_,Bq (by rw[<- R];exact(A9.1 S).1)⟩
  let⟨N,n⟩:=e5 i e (.str s,.bool true) (by simpa using S) (by simp[E3,hs]);refine⟨s,hs,?_⟩;generalize e.key=k at N;generalize e.val=u at n;cases N with
  |str b l hb=>
   cases n with
   |bool c=>
    refine⟨hb,⟨b,rfl,?_⟩,_,rfl⟩;have:=hm s (AF hs);rw[<- hb]at this;show b.data.size<=maxLen;rw[<- PV];exact this
 have Q:es.toList.map (λe=>zj3 e.key)=m:=by
  refine S7 λi=>?_;rw[Ct];cases S:es.toList[i]? with
  |none=>
   have:m[i]?=none:=by
    rw[OQ]at S ⊢;omega
   rw[this];rfl
  |some e=>
   let⟨s,N,n,_⟩:=J i e S;rw[N,<- n];rfl
 have hrun:(callFunc 156 #[.map (some r)]).run Tryz.prog w=.ok (.enter 156 #[.map (some r)]) w:=Hk.run_callFunc_body (Go.Proofs.Tryz.func156) (by decide +kernel) O _;show valX Tryz.prog ((callFunc 156 #[.map (some r)]).run Tryz.prog w) _ _;rw[hrun];refine(Zo w r es P e2 e4 (λe T=>?_) (by rw[<- PV,R];exact p)).mono ?_
 ·let⟨i,S⟩:=HW T;let⟨s,_,_,h⟩:=J i e S;exact h
 rintro e w' ⟨v,ss,rfl,n,h3,h4,h5⟩;rw[Q]at n;have hss:ss.mergeSort (λx y=>decide (x<=y))=Me m:=mergeSort_of_perm n;rw[hss]at h3;have hsz:(Me m).length=ss.length:=by rw[<- hss];exact zet _
 have hw:∀k,k<w.heap.size->w'.heap[k]?=w.heap[k]?:=λk q=>h5.block k q;obtain⟨ν,hν⟩:∃ν:Mu,ν=λk=>if k=2 then some v else μ k:=⟨_,rfl⟩
 have z:ν 2=some v:=by rw[hν];simp
 have A:∀k,k≠2->ν k=μ k:=λk q=>by rw[hν];simp[q]
 have p:(Cq (Me m)).length=ss.length:=by simp[Cq,hsz]
 have H:∀k,Ek v k->w.heap.size<=k:=λk q=>by
  rcases h3.2 with⟨rfl,_⟩|⟨gb,C,t,rfl,G,_⟩
  ·exact q.elim
  ·exact q▸G
 have hadr2:∀k,Ek v k->k<w'.heap.size:=λk q=>by
  rcases h3.2 with⟨rfl,_⟩|⟨gb,C,t,rfl,G,hheap,_⟩
  ·exact q.elim
  ·exact q▸(GS.1 hheap).1
 have hI:∀k,w.heap.size<=k->I k=none:=λk q=>by
  cases hk':I k with
  |none=>rfl
  |some o=>
   have:=(GS.1 (B.imm k o hk')).1;omega
 have hblk:BlkRep I ν w' v (.row 9 1 (Cq (Me m))):=by
  refine⟨(Me m).map encStr,?_,?_,λe T=>?_,λe T x d=>?_,ZS⟩
  ·refine⟨by rw[p];simpa using h3.1,?_⟩;rcases h3.2 with⟨h0,N⟩|⟨gb,C,t,N,G,n⟩
   ·exact .inl ⟨h0,by rw[p];exact N⟩
   ·exact .inr ⟨gb,C,t,by rw[p];exact N,AK _,by rw[p];exact n⟩
  ·generalize Me m=l;have e1:(Cq l).flatten=l.map V.str:=by
    induction l with
    |nil=>rfl
    |cons a r ih=>rw[show Cq (a::r)=[V.str a]::Cq r from rfl,LO,ih];rfl
   refine⟨by rw[e1];simp,λi c x hc d=>?_⟩;rw[e1,Ct]at d;rw[Ct]at hc;cases L:l[i]? with
   |none=>rw[L]at hc;cases hc
   |some a=>rw[L]at hc d;cases hc;cases d;exact qI _ _
  ·simp only[Cq,C7]at T;obtain⟨a,_,rfl⟩:=T;rfl
  ·simp only[Cq,C7]at T;obtain⟨a,_,rfl⟩:=T;simp at d;subst d;rfl
 have D:∀i b,Aw [(1,some (Blk.map (E3 m))),(2,some (.row 9 1 (Cq (Me m))))] i b->(i=1/\b=.map (E3 m))\/(i=2/\b=.row 9 1 (Cq (Me m))):=λi b h=>by
  rcases A1.1 h with h|⟨_,h⟩
  ·exact .inl h
  ·rcases A1.1 h with h|⟨_,h⟩
   ·exact .inr h
   ·simp[Aw,lk]at h
 have K:Aw [(1,some (Blk.map (E3 m)))] 1 (.map (E3 m)):=A1.2 (.inl ⟨rfl,rfl⟩);refine⟨I,ν,?_,?_,?_,?_⟩
 ·rw[p];obtain⟨a,C,rfl⟩:∃a C,v=.slice a ss.length C:=by
   rcases h3.2 with⟨h0,N⟩|⟨gb,C,t,N,_⟩
   ·exact⟨none,0,by rw[h0,N]⟩
   ·exact⟨_,C,N⟩
  exact .own _ _ _ _ z
 ·exact
   {imm:=λk o h=>by
     have:=B.imm k o h;rw[hw k (GS.1 this).1];exact this
    blk:=λi b L=>by
     rcases D i b L with⟨rfl,rfl⟩|⟨rfl,rfl⟩
     ·let⟨E,q1,q2⟩:=B.blk 1 _ K;exact⟨E,by rw[A 1 (by decide)];exact q1,(show BlkRep I ν w' E (.map (E3 m))from q2.world λk q=>hw k (B.apart 1 _ E k K q1 q).2)⟩
     ·exact⟨v,z,hblk⟩
    apart:=λi b E k L f q=>by
     rcases D i b L with⟨rfl,rfl⟩|⟨rfl,rfl⟩
     ·rw[A 1 (by decide)]at f;let⟨q1,q2⟩:=B.apart 1 _ E k K f q;exact⟨q1,ZM q2 h5.size⟩
     ·rw[z]at f;cases f;exact⟨hI k (H k q),hadr2 k q⟩
    inj:=λi j bi bj E gj k S hj f F W hkj=>by
     rcases D i bi S with⟨rfl,rfl⟩|⟨rfl,rfl⟩<;>rcases D j bj hj with⟨rfl,rfl⟩|⟨rfl,rfl⟩
     ·rfl
     ·rw[A 1 (by decide)]at f;rw[z]at F;cases F;have:=(B.apart 1 _ E k K f W).2;have:=H k hkj;omega
     ·rw[A 1 (by decide)]at F;rw[z]at f;cases f;have:=(B.apart 1 _ gj k K F hkj).2;have:=H k W;omega
     ·rfl
    nodup:=.nil
    idsFree:=λ_ h=>by simp at h }
 ·intro i S u hu;have:i≠2:=λe=>by subst e;simp[CT]at S
  rw[A i this];exact hu
 ·exact
   {imm:=U.le_refl I,os:=h5.os,tape:=h5.tape,output:=h5.output,size:=h5.size
    block:=λk q _=>hw k q
    fresh:=λk q ⟨i,b,E,L,f,W⟩=>by
     rcases D i b L with⟨rfl,rfl⟩|⟨rfl,rfl⟩
     ·exact⟨1,_,E,K,by rw[<- A 1 (by decide)];exact f,W⟩
     ·rw[z]at f;cases f;have:=H k W;omega
    old:=λk q _=>rfl }
end Go.Hk
namespace Go.Hk
open Go.Proofs
mutual
def dH:∀(t:Y) (j:Nat) (x:Z),BV x=true->BI t=true->BI (Eo t j x)=true/\∀l,B6 (Eo t j x) l=B6 t l
 |.mk s n y ps,j,x,f,h=>by simp only[BI,Am]at h;have q:∀j,Eo (.mk s n y ps) (j+1) x=.mk s n y (EB ps j x)\/s≠2:=λj=>by{by_cases e:s=2;exact .inl (by simp[Eo,e]);exact .inr e};by_cases e:s=2;{cases j with|zero=>have m:=h.1;simp[Fc,e]at m;simp[Eo,BI,Fc,B6,e,m,f,h.2];have:=h.2;rw[m.1.1]at this;exact this|succ j=>{let⟨a,b,c⟩:=QV ps j x f h.2;have p:Eo (.mk s n y ps) (j+1) x=.mk s n y (EB ps j x):=by{simp[Eo,e]};rw[p];simp only[BI,B6,c,h.1,a,b,Vl];exact⟨ab,λ_=>trivial⟩}};{let⟨a,b,c⟩:=QV ps j x f h.2;have p:Eo (.mk s n y ps) j x=.mk s n y (EB ps j x):=by{simp[Eo,e]};rw[p];simp only[BI,B6,c,h.1,a,b,Vl];exact⟨ab,λ_=>trivial⟩}
def QV:∀(l:L1 Y) (j:Nat) (x:Z),BV x=true->BX l=true->BX (EB l j x)=true/\(∀w,BA (EB l j x) w=BA l w)/\(EB l j x).length=l.length
 |[],j,x,f,h=>by simp[EB,BX,BA]
 |t::r,j,x,f,h=>by simp only[BX,Am]at h;let⟨a,b⟩:=dH t j x f h.1;let⟨c,d,e⟩:=QV r (j-(Ej t).length) x f h.2;simp only[EB];split;simp[BX,BA,a,b,h.2];simp[BX,BA,c,d,e,h.1]
end
def Q2:∀(l f:L1 Z),BU f l=true↔l.Nodup/\∀x∈l,x∉f
 |[],f=>by simp[BU]
 |x::r,f=>by have s:Bm f x=false↔x∉f:=by{cases h:Bm f x with|true=>simp[FR.1 h]|false=>{simp;intro u;rw[FR.2 u]at h;cases h}};simp only[BU,Am,Kq,s,Q2 r,Fr,B2,Ck,Ji,cb,ga];constructor;rintro ⟨p,q,m⟩;refine⟨⟨λh=>(m x h).2 O,q⟩,λy hy=>?_⟩;rcases hy with rfl|hy;exact p;exact(m y hy).1;rintro ⟨⟨p,q⟩,m⟩;exact⟨m x (.inl O),q,λy hy=>⟨m y (.inr hy),λe=>p (e▸hy)⟩⟩
def SS (l:L1 Z):JV l=true↔l.Nodup:=by simp[JV,Q2]
def Oc (p:Y):Nat->L1 Z->Y
 |_,[]=>p
 |j,f::r=>Oc (Eo p j f) (j+1) r
def Fy (T:Tm) (i:Int):Nat->L1 Z->Tm
 |_,[]=>T
 |j,f::r=>Fy (Hv T i j f) i (j+1) r
def FF:Nat->L1 Z->L1 Z
 |0,_=>[]
 |n+1,e=>DG e::FF n (e++[DG e])
def L8:∀(n:Nat) (e:L1 Z),(FF n e).length=n
 |0,_=>rfl
 |n+1,e=>by simp[FF,L8 n]
def R7:∀(n:Nat) (l:L1 Z),l.length+n<=700->(FF n l).Nodup/\∀f∈FF n l,BV f=true/\f∉l
 |0,l,_=>by simp[FF]
 |n+1,l,h=>by let⟨q,r⟩:=bC l (by omega);let⟨s,p⟩:=R7 n (l++[DG l]) (by simp;omega);simp only[FF,Fr];refine⟨⟨λm=>?_,s⟩,λf hf=>?_⟩;exact(p _ m).2 (OU _ (AL.2 O));rcases Ck.1 hf with e|hf;rw[e];exact⟨q,r⟩;let⟨a,b⟩:=p f hf;exact⟨a,λm=>b (by simp[m])⟩
def Qr (i:Int):∀(e:L1 Z) (j:Nat) (T:Tm) (f:L1 Z) (s:Sc),e.foldl (GV i) (j,T,f,s)=(j+e.length,Fy T i j (FF e.length f),f++FF e.length f,(e.zip (FF e.length f)).reverse++s)
 |[],j,T,f,s=>by simp[FF,Fy]
 |x::r,j,T,f,s=>by rw[LP];simp only[GV];rw[Qr i r];simp only[Co,FF,Fy,nK,Vu,Cl,Lv,Dj,HZ];congr 1;omega
def kE (i:Int) (e:L1 Z) (T:Tm) (f:L1 Z) (s:Sc):Jw i e T f s=(e.length,Fy T i 0 (FF e.length f),f++FF e.length f,(e.zip (FF e.length f)).reverse++s):=by rw[Jw,Qr];simp
def GJ (op n:Int) (ks:L1 Tm) (i:Int):∀(s:L1 Z) (j:Nat) (y:Z) (ps:L1 Y),
  Fy (.mk op n y ks ps) i j s=if BN op i then .mk op n (s.getLast?.getD y) ks ps else if C5 op i then(match ps[(i-1).toNat]? with
   |some p=>.mk op n y ks (ps.set (i-1).toNat (Oc p j s))
   |none=>.mk op n y ks ps)else .mk op n y ks ps
 |[],j,y,ps=>by
  simp only[Fy,List.getLast?_nil,Option.getD_none,Oc]
  split
  ·rfl
  ·split
   ·split
    ·rename_i p q;let⟨l,e⟩:=A9.1 q;rw[<- e,List.set_getElem_self]
    ·rfl
   ·rfl
 |f::r,j,y,ps=>by
  simp only[Fy,Hv];by_cases h:BN op i=true
  ·simp only[h,ar];rw[GJ op n ks i r];simp only[h,ar];congr 1;cases r with
   |nil=>rfl
   |cons a r=>rw[List.getLast?_cons_cons];rw[List.getLast?_eq_some_getLast (by simp)];rfl
  ·by_cases m:C5 op i=true
   ·simp only[ac h,ae m];cases q:ps[(i-1).toNat]? with
    |none=>
     simp only[];rw[GJ op n ks i r];simp only[ac h,ae m,q]
    |some p=>
     have l:=(A9.1 q).1;simp only[];rw[GJ op n ks i r];simp only[ac h,ae m,HY l,ZR,Oc]
   ·simp only[ac h,ac m];rw[GJ op n ks i r];simp only[ac h,ac m]
def sD:∀(e:L1 Z) (p:Y) (j:Nat),(∀f∈e,BV f=true)->BI p=true->BI (Oc p j e)=true/\∀l,B6 (Oc p j e) l=B6 p l
 |[],p,j,_,h=>⟨h,λ_=>rfl⟩
 |f::r,p,j,m,h=>by let⟨a,b⟩:=dH p j f (m f (by simp)) h;let⟨c,d⟩:=sD r (Eo p j f) (j+1) (λg q=>m g (by simp[q])) a;exact⟨c,λl=>(d l).trans (b l)⟩
def OB:∀(e:L1 Z) (p:Y) (j:Nat),j+e.length=(C4 p).length->C4 (Oc p j e)=(C4 p).take j++e
 |[],p,j,h=>by simp only[Oc,JL];rw[CA (by simp at h;omega)]
 |f::r,p,j,h=>by simp only[Oc];have l:j<(C4 p).length:=by{simp at h;omega};rw[OB r (Eo p j f) (j+1) (by rw[Lo,Kl];simp at h;omega),Lo];rw[show(((C4 p).set j f).take (j+1))=(C4 p).take j++[f]from by{rw[fe,HY l,zeu (BO _)];rfl}];simp
def Zx (T:Tm) (i:Int) (m:L1 Z) (h:m.length=(A0 T i).length):A0 (Fy T i 0 m) i=m:=by obtain⟨s,n,y,ks,ps⟩:=T;rw[GJ];simp only[A0]at h;by_cases e:BN s i=true;simp only[e,ar,DM]at h ⊢;obtain⟨f,rfl⟩:=Rn.1 h;simp[A0,e];by_cases l:C5 s i=true;rw[ac e,ae l]at h ⊢;cases q:ps[(i-1).toNat]? with|none=>simp only[q,Cb]at h;have:=Iu h;subst this;simp only[A0,ac e,ae l,q]|some p=>{have r:=(A9.1 q).1;simp only[q]at h;simp only[A0,ac e,ae l,HY r];rw[OB m p 0 (by omega)];simp};rw[ac e,ac l]at h ⊢;have:=Iu h;subst this;simp only[A0,ac e,ac l]
def Zw (T:Tm) (i k:Int) (q:L1 Z) (r:i≠k) (s:∀op n y ks ps,T=.mk op n y ks ps->BN op i=true->BN op k=true->False):A0 (Fy T i 0 q) k=A0 T k:=by obtain⟨op,n,y,ks,ps⟩:=T;rw[GJ];by_cases l:BN op i=true;have e:¬BN op k=true:=λh=>s op n y ks ps O l h;simp only[l,ar,A0,ac e];rw[ac l];by_cases e:C5 op i=true;rw[ae e];cases u:ps[(i-1).toNat]? with|none=>rfl|some p=>{simp only[A0];by_cases m:BN op k=true;simp only[m,ar];rw[ac m,ac m];by_cases f:C5 op k=true;rw[ae f,ae f];have:(i-1).toNat≠(k-1).toNat:=by{simp only[C5,Am,al]at e f;omega};rw[KE this];rw[ac f,ac f]};rw[ac e]
def uS:Tm->Prop
 |.mk e n x ks ps=>Bl e n x ks.length ps.length=true/\ps.all CI=true
def eQ {op n:Int} {x y:Z} {k p:Nat} {i:Int} (h:BN op i=true\/op=4) (e:Bl op n x k p=true) (f:BV y=true):Bl op n y k p=true:=by simp only[BN,Fg,Am,ao]at h;rcases h with((h|h)|⟨h,_⟩)|h<;>subst h<;>simp[Bl,AT]at e ⊢<;>grind
def zi9 {op n:Int} {x:Z} {k p:Nat} (e:Bl op n x k p=true) {i j:Nat} (m:i<k) (q:j<k) (f:BN op i=true) (l:BN op j=true):i=j:=by simp only[BN,Fg,Am,ao]at f l;rcases f with(h|h)|⟨h,r⟩;subst h;simp[Bl,AT]at e;omega;subst h;simp[Bl,AT]at e;omega;subst h;simp at l;omega
def zaj {T:Tm} {i:Int} {e:L1 Z} (m:uS T) (r:e.length=(A0 T i).length) (C:e.Nodup) (v:∀f∈e,BV f=true):uS (Fy T i 0 e):=by obtain⟨z,n,y,ks,ps⟩:=T;rw[GJ];simp only[A0]at r;by_cases s:BN z i=true;rw[ae s]at r ⊢;obtain⟨f,rfl⟩:=Rn.1 r;exact⟨eQ (.inl s) m.1 (v f (by simp)),m.2⟩;by_cases A:C5 z i=true;rw[ac s,ae A]at r ⊢;cases B:ps[(i-1).toNat]? with|none=>exact m|some p=>{simp only[B]at r;refine⟨by simpa using m.1,?_⟩;rw[CJ];intro q hq;have h:=CJ.1 m.2;rcases OR hq with hq|hq;exact h q hq;have l:=h p (AF B);simp only[CI,Am,al]at l;let⟨a,b⟩:=sD e p 0 v l.1.2;have u:AS (Oc p 0 e)=e:=by{rw[<- Nk _ a];have:=OB e p 0 (by omega);simpa[C4]using this};rw[hq];simp only[CI,Am,al,a,b,u,SS];exact⟨⟨l.1.1,ab⟩,C⟩};rw[ac s,ac A];exact m
def Ik (s:Sc):Prop:=∀p∈s,BV p.2=true
def vV {a b:L1 Z} {s:Sc} (h:∀f∈b,BV f=true) (e:Ik s):Ik ((a.zip b).reverse++s):=by intro p hp;rcases B2.1 hp with hp|hp;exact h _ (nJ (ZO.1 hp)).2;exact e p hp
def aI:∀(m i:Nat) (T:Tm) (h:L1 Z) (s:Sc) (e:L1 Sc),uS T->Ik s->(∀p∈e,Ik p)->h.length+J4 T m i<=700->uS (l1 m i T h s e).1/\∀p∈(l1 m i T h s e).2.2,Ik p
 |0,i,T,h,s,e,q,r,u,v=>⟨q,u⟩
 |m+1,i,T,h,s,e,q,r,u,v=>by simp only[J4]at v;let⟨z,y⟩:=R7 (A0 T i).length h (by omega);simp only[l1,kE];have A:=LG (t:=Fy T i 0 (FF (A0 T i).length h)) (u:=T) (λk=>by{have:=(N7 i (A0 T i) (0,T,h,s)).2 k;rw[Qr]at this;exact this}) m (i+1);refine aI m (i+1) _ _ s _ (zaj q (by rw[L8]) z λf l=>(y f l).1) r (λp hsc=>?_) (by rw[A,AZ,L8];omega);rcases B2.1 hsc with hsc|hsc;exact u p hsc;rw[AL.1 hsc];exact vV (λf l=>(y f l).1) r
def oD {s:Sc} {x y:Z} (h:Ik s) (e:DY s x=some y):BV y=true:=by induction s with|nil=>cases e|cons p r f=>{obtain⟨a,b⟩:=p;simp only[DY]at e;split at e;cases e;exact h _ (Ro ..);exact f (λq l=>h q (by simp[l])) e}
mutual
def Pg:∀(t:Tm) (s:Sc) (f:L1 Z),AV t=true->Ik s->f.length+Mp t<=700->AV (EQ t s f).1=true/\Hn (EQ t s f).1=Hn t/\qK (EQ t s f).1=qK t
 |.mk l n x ks ps,s,f,h,q,r=>by simp only[AV,Am]at h;by_cases e:l=4;simp only[EQ,ae e,AV,Am,Hn,qK];refine⟨⟨⟨?_,h.1.2⟩,h.2⟩,ab,ab⟩;cases u:DY s x with|none=>exact h.1.1|some y=>{exact eQ (i:=0) (.inr e) h.1.1 (oD q u)};simp only[Mp,ac e]at r;let⟨m,v⟩:=aI ks.length 0 (.mk l n x ks ps) f s [] ⟨h.1.1,h.1.2⟩ q (by simp) (by omega);let⟨K,z,p,A⟩:=Qb ks.length 0 (.mk l n x ks ps) f s [] l n x ks ps rfl;have B:=(aH ks.length 0 (.mk l n x ks ps) f s []).1;let⟨C,D,G,H⟩:=SX ks (l1 ks.length 0 (.mk l n x ks ps) f s []).2.2 (l1 ks.length 0 (.mk l n x ks ps) f s []).2.1 h.2 v (by omega);simp only[EQ,ac e];rw[p]at m ⊢;simp only[XG,AV,Am,Hn,qK,C,D,G,H];exact⟨⟨⟨m.1,m.2⟩,ab⟩,ab,ab⟩
def SX:∀(l:L1 Tm) (e:L1 Sc) (f:L1 Z),Br l=true->(∀s∈e,Ik s)->f.length+Je l<=700->Br (DK l e f).1=true/\Eu (DK l e f).1=Eu l/\(∀m,TE (DK l e f).1 m=TE l m)/\(DK l e f).1.length=l.length
 |[],e,f,_,_,_=>by simp[DK,Br]
 |k::r,e,f,h,v,y=>by simp only[Br,Am]at h;simp only[Je]at y;have z:Ik (e.headD []):=by{cases e with|nil=>intro p A;cases A|cons a q=>{exact v a (by simp)}};let⟨B,C,D⟩:=Pg k (e.headD []) f h.1 z (by omega);have R:=QB k (e.headD []) f;let⟨G,H,K,N⟩:=SX r e.tail (EQ k (e.headD []) f).2 h.2 (λs u=>v s (zes u)) (by omega);simp only[DK,Br,Am,Eu,TE,Co,B,C,D,G,H,N];exact⟨⟨ab,ab⟩,ab,λm=>K _,ab⟩
end
def zd0 (K:Nat):Tm->Prop
 |.mk e _ _ _ _=>∀i j:Nat,i<K->j<K->BN e i=true->BN e j=true->i=j
def zdz {K:Nat} {T:Tm} {i:Int} {j:Nat} {e:L1 Z} (h:zd0 K T):zd0 K (Fy T i j e):=by obtain⟨f,n,y,ks,ps⟩:=T;rw[GJ];split;exact h;split;split<;>exact h;exact h
def WL {K:Nat} {T:Tm} (h:zd0 K T) {i k:Nat} (m:i<K) (p:k<K) (f:i≠k) (l:L1 Z):A0 (Fy T (i:Int) 0 l) (k:Int)=A0 T (k:Int):=Zw T i k l (by omega) λs n y ks ps e q r=>by{subst e;exact f (h i k m p q r)}
def aG {K:Nat}:∀(m i:Nat) (T:Tm) (l:L1 Z) (s:Sc) (h:L1 Sc),i+m<=K->zd0 K T->(∀k,k<i->A0 (l1 m i T l s h).1 (k:Int)=A0 T (k:Int))/\(∀k,i<=k->k<i+m->(A0 (l1 m i T l s h).1 (k:Int)).length=(A0 T (k:Int)).length)/\(∃g,(l1 m i T l s h).2.1=l++g/\∀k,i<=k->k<i+m->∀f∈A0 (l1 m i T l s h).1 (k:Int),f∈g)/\(l.length+J4 T m i<=700->∀k,i<=k->k<i+m->∀f∈A0 (l1 m i T l s h).1 (k:Int),f∉l)/\(l1 m i T l s h).2.2=h++(List.range' i m).map λk:Nat=>((A0 T (k:Int)).zip (A0 (l1 m i T l s h).1 (k:Int))).reverse++s
 |0,i,T,l,s,h,_,_=>⟨λ_ _=>rfl,λk v y=>by omega,⟨[],by simp[l1],λk v y=>by omega⟩,λ_ k v y=>by omega,by simp[l1]⟩
 |m+1,i,T,l,s,h,n,q=>by have z:=L8 (A0 T (i:Int)).length l;have D:=R7 (A0 T (i:Int)).length l;simp only[l1,kE];generalize R:FF (A0 T (i:Int)).length l=p at *;have S:=Zx T i p z;have G:∀k:Nat,k<K->k≠i->A0 (Fy T (i:Int) 0 p) (k:Int)=A0 T (k:Int):=λk C H=>WL q (by omega) C (λe=>H e.symm) p;have V:=LG (t:=Fy T i 0 p) (u:=T) (λk=>by{have:=(N7 i (A0 T i) (0,T,l,s)).2 k;rw[Qr,R]at this;exact this}) m (i+1);let⟨N,W,⟨g,a,b⟩,c,d⟩:=aG (K:=K) m (i+1) (Fy T (i:Int) 0 p) (l++p) s (h++[((A0 T (i:Int)).zip p).reverse++s]) (by omega) (zdz q);have A:=N i (by omega);rw[S]at A;generalize l1 m (i+1) (Fy T (i:Int) 0 p) (l++p) s (h++[((A0 T (i:Int)).zip p).reverse++s])=r at *;refine⟨λk C=>?_,λk v y=>?_,⟨p++g,by rw[a,Cl],λk v y f u=>?_⟩,λB k v y f u=>?_,?_⟩;rw[N k (by omega),G k (by omega) (by omega)];by_cases e:k=i;subst e;rw[A,z];rw[W k (by omega) (by omega),G k (by omega) e];by_cases e:k=i;subst e;rw[A]at u;simp[u];simp[b k (by omega) (by omega) f u];simp only[J4]at B;by_cases e:k=i;subst e;rw[A]at u;exact(D (by omega)).2 f u |>.2;have:=c (by rw[AZ,V];omega) k (by omega) (by omega) f u;exact λj=>this (by simp[j]);rw[d,Ms,C0,A,Cl,Lv];congr 2;refine Kn λk C=>?_;have:=List.mem_range'.1 C;rw[G k (by omega) (by omega)]
def tK {op n:Int} {x:Z} {ks:L1 Tm} {ps:L1 Y} (h:Bl op n x ks.length ps.length=true):zd0 ks.length (.mk op n x ks ps):=λi j e f l m=>zi9 h e f l m
def QC:∀(l:L1 Tm) (e:L1 Sc) (f:L1 Z),(DK l e f).1.length=l.length
 |[],_,_=>rfl
 |k::r,e,f=>by simp[DK,QC r]
def gT (t:Tm) (y:Z):∀(ks:L1 Tm) (i:Nat),VF t i ks y↔∃k c,ks[k]?=some c/\tZ c y/\Bm (Cu t ((i+k:Nat):Int)) y=false
 |[],i=>by simp[VF]
 |a::r,i=>by simp only[VF];rw[gT t y r (i+1)];constructor;rintro (⟨e,f⟩|⟨k,c,e,f,h⟩);exact⟨0,a,rfl,e,f⟩;exact⟨k+1,c,e,f,by rw[show i+(k+1)=i+1+k from by omega];exact h⟩;rintro ⟨k,c,e,f,h⟩;cases k with|zero=>simp at e;subst e;exact .inl ⟨f,h⟩|succ k=>{exact .inr ⟨k,c,by simpa using e,f,by rw[show i+1+k=i+(k+1)from by omega];exact h⟩}
def Vw {a b:L1 Z} {s:Sc} {y:Z} (H:a.length=b.length):(y∈a->(DY ((a.zip b).reverse++s) y).getD y∈b)/\(y∉a->DY ((a.zip b).reverse++s) y=DY s y):=by have f:∀(l:L1 (Z×Z)),((∃p∈l,p.1=y)->∃p∈l,p.1=y/\DY (l++s) y=some p.2)/\((∀p∈l,p.1≠y)->DY (l++s) y=DY s y):=by{intro l;induction l with|nil=>simp|cons p r B=>{obtain⟨u,v⟩:=p;refine⟨λh=>?_,λh=>?_⟩;by_cases e:u=y;exact⟨(u,v),by simp,e,by simp[DY,e]⟩;obtain⟨q,hq,C⟩:=h;rcases Ck.1 hq with rfl|hq;exact absurd C e;let⟨p,m,D,z⟩:=B.1 ⟨q,hq,C⟩;refine⟨p,by simp[m],D,?_⟩;simp only[Dj,DY];rw[ac (by simpa using e),z];have e:u≠y:=h (u,v) (by simp);simp only[Dj,DY];rw[ac (by simpa using e)];exact B.2 λq hq=>h q (by simp[hq])}};refine⟨λh=>?_,λh=>?_⟩;let⟨i,G⟩:=HW h;have A:i<b.length:=by{rw[<- H];exact(A9.1 G).1};have K:(y,b[i])∈a.zip b:=by{refine DW.2 ⟨i,?_⟩;rw[List.getElem?_zip_eq_some];exact⟨G,by simp[A]⟩};obtain⟨p,m,D,z⟩:=(f (a.zip b).reverse).1 ⟨_,ZO.2 K,rfl⟩;rw[z];exact(nJ (ZO.1 m)).2;refine(f (a.zip b).reverse).2 λp N e=>h ?_;rw[<- e];exact(nJ (ZO.1 N)).1
def zni {op n:Int} {x:Z} {ks:L1 Tm} {ps:L1 Y} (h:Bl op n x ks.length ps.length=true) (e:L1 Z) (s:Sc):∃g,(l1 ks.length 0 (.mk op n x ks ps) e s []).2.1=e++g:=by let⟨_,_,⟨g,f,_⟩,_⟩:=aG (K:=ks.length) ks.length 0 (.mk op n x ks ps) e s [] (by omega) (tK h);exact⟨g,f⟩
mutual
def jS:∀(t:Tm) (s:Sc) (f:L1 Z),AV t=true->∃g,(EQ t s f).2=f++g
 |.mk l n x ks ps,s,f,h=>by simp only[AV,Am]at h;by_cases e:l=4;exact⟨[],by simp[EQ,e]⟩;let⟨g,m⟩:=zni h.1.1 f s;let⟨p,q⟩:=YU ks (l1 ks.length 0 (.mk l n x ks ps) f s []).2.2 (l1 ks.length 0 (.mk l n x ks ps) f s []).2.1 h.2;refine⟨g++p,?_⟩;simp only[EQ,ac e];rw[q,m,Cl]
def YU:∀(l:L1 Tm) (e:L1 Sc) (f:L1 Z),Br l=true->∃g,(DK l e f).2=f++g
 |[],e,f,_=>⟨[],by simp[DK]⟩
 |k::r,e,f,h=>by simp only[Br,Am]at h;let⟨g,m⟩:=jS k (e.headD []) f h.1;let⟨p,q⟩:=YU r e.tail (EQ k (e.headD []) f).2 h.2;exact⟨g++p,by simp only[DK];rw[q,m,Cl]⟩
end
def MU {op n:Int} {x:Z} {ks:L1 Tm} {ps:L1 Y} (h:ps.all CI=true) (i:Int):Cu (.mk op n x ks ps) i=A0 (.mk op n x ks ps) i:=by rw[Tb];intro p e;have:=CJ.1 h p e;simp only[CI,Am]at this;exact this.1.2
def pX {l:L1 Z} {y:Z}:Bm l y=false↔y∉l:=by rw[<- FR];simp
def UV (s:Sc) (y:Z):Z:=(DY s y).getD y
def QI (ps l:L1 Y) (v:ps.length<=1000000) (h:∀p∈ps,∀q,Tq3 160 [.agg (As p),.agg (As q)] (.bool (Iq p q))):Tq3 159 [.sl (A4 ps),.sl (A4 l),.fn (.func 160)] (.bool (EX ps l)):=by refine Ac Lf Tryz.func159 O [1,2,3]<|Ra O<|Aa O (λm=>?_) (λm=>?_);have m:ps.length≠l.length:=by{simp at m;omega};refine P3 O<|Ab O O (af _ ?_);rw[RC m];have m:ps.length=l.length:=by{simp at m;omega};refine P3 O<|Al (λi:Nat=>[(17,i7 i),(16,i7 ps.length),(15,.imm (.sl (A4 ps))),(1,.imm (.sl (A4 l))),(2,.imm (.fn (.func 160)))]) (λ_=>[]) [1,2,3] (λi=>ps.length-i) (λi=>i<=ps.length/\EX ps l=EX (ps.drop i) (l.drop i)) 0 ⟨AK _,rfl⟩ ⟨rfl,B8 (by simp),AC⟩ ab O λi z A=>?_;obtain⟨B,f⟩:=z;refine P3 O<|Aa O (λr=>?_) (λr=>?_);simp at r;let⟨p,s⟩:=At r;let⟨q,y⟩:=At (l:=l) (i:=i) (by omega);rw[Au s,Au y]at f;simp only[EX]at f;refine P3 O<|zi4 O (AQ s)<|Ra O<|zi4 O (AQ y)<|Ra O<|Ai O (λ_=>h p (AF s) q) (by simp)<|Ra O<|Aa O (λu=>?_) (λu=>?_);have e:Iq p q=false:=by{simpa using u};refine P3 O<|Ab O O (af _ ?_);rw[f,e];rfl;have e:Iq p q=true:=by{simpa using u};rw[e,Jj]at f;exact Gu<|P3 O<|Ad (A (i+1) (by omega) ⟨by omega,f⟩) ⟨Bf,B0⟩ ab O;simp at r;rw[Bu (by omega),Bu (by omega)]at f;refine Az O<|P3 O<|Ab O O (af _ ?_);rw[f];rfl
def U9:∀a b:Y,Pl a->Tq3 160 [.agg (As a),.agg (As b)] (.bool (Iq a b))
 |.mk s n x ps,.mk m r u h,v=>by obtain⟨e,f⟩:=v;refine Ac Lf Tryz.func160 O [1,2,3]<|Ra O<|Bt O (QI ps h e λp l q=>U9 p q (O3 f l))<|Ra O<|Ab O O (af _ ?_);simp only[Iq];cases s==m<;>cases n==r<;>cases x==u<;>cases EX ps h<;>rfl
termination_by a=>SizeOf.sizeOf a
decreasing_by all_goals(have:=Cr l;simp_wf;omega)
def Xo (ps l:L1 Tm) (v:ps.length<=1000000) (h:∀p∈ps,∀q,Tq3 107 [.agg (dTmc p),.agg (dTmc q)] (.bool (NV p q))):Tq3 161 [.sl (Cz ps),.sl (Cz l),.fn (.func 107)] (.bool (JS ps l)):=by refine Ac Lf Tryz.func161 O [1,2,3]<|Ra O<|Aa O (λm=>?_) (λm=>?_);have m:ps.length≠l.length:=by{simp at m;omega};refine P3 O<|Ab O O (af _ ?_);rw[zao m];have m:ps.length=l.length:=by{simp at m;omega};refine P3 O<|Al (λi:Nat=>[(17,i7 i),(16,i7 ps.length),(15,.imm (.sl (Cz ps))),(1,.imm (.sl (Cz l))),(2,.imm (.fn (.func 107)))]) (λ_=>[]) [1,2,3] (λi=>ps.length-i) (λi=>i<=ps.length/\JS ps l=JS (ps.drop i) (l.drop i)) 0 ⟨AK _,rfl⟩ ⟨rfl,B8 (by simp),AC⟩ ab O λi z A=>?_;obtain⟨B,f⟩:=z;refine P3 O<|Aa O (λr=>?_) (λr=>?_);simp at r;let⟨p,s⟩:=At r;let⟨q,y⟩:=At (l:=l) (i:=i) (by omega);rw[Au s,Au y]at f;simp only[JS]at f;refine P3 O<|zi4 O (Et s)<|Ra O<|zi4 O (Et y)<|Ra O<|Ai O (λ_=>h p (AF s) q) (by simp)<|Ra O<|Aa O (λu=>?_) (λu=>?_);have e:NV p q=false:=by{simpa using u};refine P3 O<|Ab O O (af _ ?_);rw[f,e];rfl;have e:NV p q=true:=by{simpa using u};rw[e,Jj]at f;exact Gu<|P3 O<|Ad (A (i+1) (by omega) ⟨by omega,f⟩) ⟨Bf,B0⟩ ab O;simp at r;rw[Bu (by omega),Bu (by omega)]at f;refine Az O<|P3 O<|Ab O O (af _ ?_);rw[f];rfl
def sG:∀a b:Tm,RN a->Tq3 107 [.agg (dTmc a),.agg (dTmc b)] (.bool (NV a b))
 |.mk s n x ks ps,.mk v y z r u,A=>by obtain⟨f,h,l,m⟩:=A;refine Ac Lf Tryz.func107 O [1,2,3]<|Ra O<|Bt O (QI ps u h λp e q=>U9 p q (l p e))<|Ra O<|Bt O (Xo ks r f λp e q=>sG p q (Lc m e))<|Ra O<|Ab O O (af _ ?_);simp only[NV];cases s==v<;>cases n==y<;>cases x==z<;>cases EX ps u<;>cases JS ks r<;>rfl
termination_by a=>SizeOf.sizeOf a
decreasing_by all_goals(have:=Cr e;simp_wf;omega)
end Go.Hk
namespace Go.Hk
def jA {P:Program} {f:FuncId} {α:Type} {das:L1 D} {A l:Asn} {B C:α->Asn} (val:α->L1 Value) {bl a8:St} {d:α->D} {d':D} (i j:Nat)
  (hA:∀vs I w a,A.P vs I w a->∃x,vs=val x/\(B x).P [] I w a)
  (hE:∀x,Ht P f (Tt i (val x) das) ((i,some (.hp (B x)))::bl) (.ret (d x) ((j,some (.hp (C x)))::a8)))
  (hZ:∀x us I w a,(C x).P us I w a->l.P (val x) I w a)
  (hn0:∀x,i∉FQ (Tt i (val x) das)) (hi0:i∉Dx bl) (hj1:j∉Dx a8) (hi1:i∉Dx a8) (hij:i≠j) (hj0:j∉CT bl)
  (hres:∀x J ν z v a,X J ν v (d x)->(∀k,k≠i->k≠j->z k=ν k)->z j=some (Tz (val x) a)->X J z v d') :
  Ht P f das ((i,some (.hp A))::bl) (.ret d' ((j,some (.hp l))::a8)):=by
 intro I μ w xs n hx;have hl:Aw ((i,some (.hp A))::bl) i (.hp A):=A1.2 (.inl ⟨rfl,rfl⟩);obtain⟨g,hg,vs,a,rfl,hP⟩:=n.blk i _ hl;obtain⟨x,rfl,hB⟩:=hA vs I w a hP;obtain⟨N,hμ⟩:∃N:Mu,N=λk=>if k=i then some (Tz [] a)else μ k:=⟨_,rfl⟩
 have o:N i=some (Tz [] a):=by rw[hμ];simp
 have K:∀k,k≠i->N k=μ k:=λk Q=>by rw[hμ];simp[Q]
 have H:∀{p:Asn} {k:Nat} {b:Blk} {k0:Nat} {s:St},Aw ((k0,some (.hp p))::s) k b->(k=k0/\b=.hp p)\/(k≠k0/\Aw s k b):=λh=>A1.1 h;have S:∀k b,Aw ((i,some (.hp (B x)))::bl) k b->∀G,N k=some G->∃t W,Aw ((i,some (.hp A))::bl) k t/\μ k=some W/\∀m,Ek G m↔Ek W m:=λk b h G y=>by
  rcases H h with⟨rfl,rfl⟩|⟨r,q⟩
  ·rw[o]at y;cases y;exact⟨_,_,hl,hg,λm=>by rw[BM,BM]⟩
  ·exact⟨b,G,A1.2 (.inr ⟨r,q⟩),by rw[<- K k r];exact y,λm=>cj⟩
 have hst':StRep I N ((i,some (.hp (B x)))::bl) [] w :=
  {imm:=n.imm
   blk:=λk b h=>by
    rcases H h with⟨rfl,rfl⟩|⟨r,q⟩
    ·exact⟨_,o,[],a,rfl,hB⟩
    ·let⟨G,q1,T⟩:=n.blk k b (A1.2 (.inr ⟨r,q⟩));refine⟨G,by rw[K k r];exact q1,T.sub λm hm gm hgm=>?_⟩;have:m≠i:=λe=>hi0 (e▸(D9 q).2 m hm);rw[K m this];exact hgm
   apart:=λk b G m h y hm=>by
    let⟨t,W,q1,T,q3⟩:=S k b h G y;exact n.apart k t W m q1 T ((q3 m).1 hm)
   inj:=λk1 k2 c1 c2 g1 g2 m r q hg1 hg2 hm1 hm2=>by
    let⟨p0,p1,p2,p3,p4⟩:=S k1 c1 r g1 hg1;let⟨r0,E,F,r3,r4⟩:=S k2 c2 q g2 hg2;exact n.inj k1 k2 p0 r0 p1 E m p2 F p3 r3 ((p4 m).1 hm1) ((r4 m).1 hm2)
   nodup:=.nil
   idsFree:=λ_ h=>by simp at h }
 have hx':RepL I N xs.toList (Tt i (val x) das):=by
  have hlen:(Tt i (val x) das).length=das.length:=by rw[I6];simp
  refine⟨hx.1.trans hlen.symm,λm v e r q=>?_⟩;have h2':=q;rw[I6,Ct]at q;obtain⟨e0,h3,rfl⟩:=EV.1 q;refine(X.opn hg (hx.2 m v e0 r h3)).sub λk Q G y=>?_;have:k≠i:=λe=>by rw[e]at Q;exact hn0 x (JH (AF h2') Q)
  rw[K k this];exact y
 refine(hE x I N w xs hst' hx').mono ?_ ?_
 ·rintro u w' ⟨J,ν,q1,T,q3,q4⟩;have hlj:Aw ((j,some (.hp (C x)))::a8) j (.hp (C x)):=A1.2 (.inl ⟨rfl,rfl⟩);obtain⟨gj,hgj,us,bj,rfl,hC⟩:=T.blk j _ hlj;obtain⟨z,hν⟩:∃z:Mu,z=λk=>if k=j then some (Tz (val x) bj)else if k=i then μ i else ν k:=⟨_,rfl⟩
  have L:z j=some (Tz (val x) bj):=by rw[hν];simp
  have hνi:z i=μ i:=by rw[hν];simp[hij]
  have R:∀k,k≠i->k≠j->z k=ν k:=λk r q=>by rw[hν];simp[r,q]
  have V:∀k b,Aw ((j,some (.hp l))::a8) k b->∀G,z k=some G->∃t W,Aw ((j,some (.hp (C x)))::a8) k t/\ν k=some W/\∀m,Ek G m↔Ek W m:=λk b h G y=>by
   rcases H h with⟨rfl,rfl⟩|⟨r,q⟩
   ·rw[L]at y;cases y;exact⟨_,_,hlj,hgj,λm=>by rw[BM,BM]⟩
   ·have:k≠i:=λe=>hi1 (e▸(D9 q).1);exact⟨b,G,A1.2 (.inr ⟨r,q⟩),by rw[<- R k this r];exact y,λm=>cj⟩
  have ow0:∀b,AX N ((i,some (.hp (B x)))::bl) b↔AX μ ((i,some (.hp A))::bl) b:=λb=>by
   constructor
   ·rintro ⟨k,c,G,r,q,h3⟩;let⟨t,W,E,F,r3⟩:=S k c r G q;exact⟨k,t,W,E,F,(r3 b).1 h3⟩
   ·rintro ⟨k,c,G,r,q,h3⟩;rcases H r with⟨rfl,rfl⟩|⟨h4,h5⟩
    ·rw[hg]at q;cases q;exact⟨k,_,_,A1.2 (.inl ⟨rfl,rfl⟩),o,by rw[BM]at h3 ⊢;exact h3⟩
    ·exact⟨k,c,G,A1.2 (.inr ⟨h4,h5⟩),by rw[K k h4];exact q,h3⟩
  refine⟨J,z,hres x J ν z u bj q1 R L,?_,?_,?_⟩
  ·exact
    {imm:=T.imm
     blk:=λk b h=>by
      rcases H h with⟨rfl,rfl⟩|⟨r,q⟩
      ·exact⟨_,L,val x,bj,rfl,hZ x us J w' bj hC⟩
      ·let⟨G,E,F⟩:=T.blk k b (A1.2 (.inr ⟨r,q⟩));have Q:k≠i:=λe=>hi1 (e▸(D9 q).1);refine⟨G,by rw[R k Q r];exact E,F.sub λm hm gm hgm=>?_⟩;have m1:m≠i:=λe=>hi1 (e▸(D9 q).2 m hm);have m2:m≠j:=λe=>hj1 (e▸(D9 q).2 m hm);rw[R m m1 m2];exact hgm
     apart:=λk b G m h y hm=>by
      let⟨t,W,E,F,r3⟩:=V k b h G y;exact T.apart k t W m E F ((r3 m).1 hm)
     inj:=λk1 k2 c1 c2 g1 g2 m r q hg1 hg2 hm1 hm2=>by
      let⟨p0,p1,p2,p3,p4⟩:=V k1 c1 r g1 hg1;let⟨r0,E,F,r3,r4⟩:=V k2 c2 q g2 hg2;exact T.inj k1 k2 p0 r0 p1 E m p2 F p3 r3 ((p4 m).1 hm1) ((r4 m).1 hm2)
     nodup:=.nil
     idsFree:=λ_ h=>by simp at h }
  ·intro k Q v hv;simp only[CT,C0,Ck]at Q;by_cases r:k=i
   ·rw[r]at hv ⊢;rw[hνi];exact hv
   ·have hk0:k∈CT bl:=Q.elim (λh=>absurd h r) id;have q:k≠j:=λe=>hj0 (e▸hk0);rw[R k r q];exact q3 k (by simp only[CT,C0,Ck];exact .inr hk0) v (by rw[K k r];exact hv)
  ·exact
    {imm:=q4.imm,os:=q4.os,tape:=q4.tape,output:=q4.output,size:=q4.size
     block:=λb hb ho=>q4.block b hb λh=>ho ((ow0 b).1 h)
     fresh:=λb hb ⟨k,c,G,r,q,h3⟩=>by
      let⟨t,W,E,F,r3⟩:=V k c r G q;exact(ow0 b).1 (q4.fresh b hb ⟨k,t,W,E,F,(r3 b).1 h3⟩)
     old:=λb hb ho=>q4.old b hb λh=>ho ((ow0 b).1 h) }
 ·intro chain w' h;exact h
end Go.Hk
namespace Go.Hk
open Go.Proofs
mutual
def fE:∀p:Y,BI p=true->3*(Ej p).length<=2*Bn p+1
 |.mk s n x ps,h=>by simp only[BI,Am]at h;have v:=Yf ps h.2;have f:=h.1;unfold Fc at f;simp only[Ej,Bn,AZ];by_cases e:s=2;have l:ps.length=0:=by{simp[e]at f;simp[f.1.1]};have:ps=[]:=Iu l;subst this;simp[e,CQ,A6];have l:ps.length<=3:=by{by_cases m:s=1\/s=5;rw[ae m]at f;simp at f;simp[f.1.1];rw[ac m,ac e]at f;by_cases q:s=3;rw[ae q]at f;simp at f;simp[f.1.1];rw[ac q]at f;by_cases r:s=4;rw[ae r]at f;simp at f;simp[f.1.1];rw[ac r]at f;by_cases u:s=6;rw[ae u]at f;simp at f;omega;rw[ac u]at f;cases f};simp only[e,aw,Cb];omega
def Yf:∀ps:L1 Y,BX ps=true->3*(CQ ps).length<=2*A6 ps+ps.length
 |[],_=>by simp[CQ,A6]
 |p::r,h=>by simp only[BX,Am]at h;have e:=fE p h.1;have f:=Yf r h.2;simp only[CQ,A6,AZ,Co];omega
end
def zne {p:Y} (h:CI p=true):(C4 p).length<=8:=by simp only[CI,Am,al]at h;have e:=fE p h.1.2;have f:=Ey p 12 h.1.1;simp only[C4,C6];omega
def zn8 {op n:Int} {x:Z} {ks:L1 Tm} {ps:L1 Y} (h:ps.all CI=true) (i:Int):(A0 (.mk op n x ks ps) i).length<=8:=by simp only[A0];split;simp;split;split;rename_i p e;exact zne (CJ.1 h p (AF e));simp;simp
def zmf {op n:Int} {x:Z} {ks:L1 Tm} {ps:L1 Y} (h:ps.all CI=true):∀m i,J4 (.mk op n x ks ps) m i<=8*m
 |0,_=>by simp[J4]
 |m+1,i=>by have:=zmf (op:=op) (n:=n) (x:=x) (ks:=ks) h m (i+1);have:=zn8 (op:=op) (n:=n) (x:=x) (ks:=ks) h (i:Int);simp only[J4];omega
mutual
def ZI:∀t:Tm,AV t=true->Mp t+8<=8*Hn t
 |.mk op n x ks ps,h=>by simp only[AV,Am]at h;have e:=eT ks h.2;have f:=zmf (op:=op) (n:=n) (x:=x) (ks:=ks) h.1.2 ks.length 0;simp only[Mp,Hn];split<;>omega
def eT:∀l:L1 Tm,Br l=true->Je l+8*l.length<=8*Eu l
 |[],_=>by simp[Je,Eu]
 |t::r,h=>by simp only[Br,Am]at h;have e:=ZI t h.1;have f:=eT r h.2;simp only[Je,Eu,Co];omega
end
def zi0 {t:Tm} (h:Cs t=true):(Gp t).length<=60:=by let⟨e,_,_,f⟩:=IK t h;have:=R8 t [] [];rw[<- iJ t e,zet];simp at this;omega
def SW {t:Tm} (h:Cs t=true):(Gp t).length+Mp t<=699:=by let⟨_,_,_,e⟩:=IK t h;have f:=zi0 h;simp only[Cs,Am]at h;have:=ZI t h.2;omega
def nA (t:Tm) (s:Sc) (r:L1 Z) (z:RN t) (A:Mk t) (K:r.length+Mp t<=699):Tq4 157 [.ref 7 0,.agg (TD 1 true (dTmc t)),.imm (Fz s)] [(1,some (.hp (Th true (dTmc t)))),(7,some (.cells 220 1 [.own 8 r.length])),(8,some (.row 9 1 (Cq r)))] (.ret (.agg (TD 5 true (dTmc (EQ t s r).1))) [(5,some (.hp (Th true (dTmc (EQ t s r).1)))),(7,some (.cells 220 1 [.own 13 (EQ t s r).2.length])),(13,some (.row 9 1 (Cq (EQ t s r).2)))]):=by obtain⟨l,n,x,ks,ps⟩:=t;let⟨g,N,R,H⟩:=Pf l n x ks ps s r;rw[H];refine jA (α:={ y:Value×L1 An×Value×L1 An // vA (.mk true l n x y.1 y.2.1 y.2.2.1 y.2.2.2)=dTmc (.mk l n x ks ps)/\Id (.mk true l n x y.1 y.2.1 y.2.2.1 y.2.2.2) }) (λy=>[y.1.1,y.1.2.2.1]) (B:=λy=>RK (er (.mk true l n x y.1.1 y.1.2.1 y.1.2.2.1 y.1.2.2.2)) (.mk l n x ks ps)) (C:=λy=>RK (er (.mk true l n x y.1.1 y.1.2.1 y.1.2.2.1 y.1.2.2.2)) (.mk l n g N R)) (d:=λy=>zc3 l n g y.1.1 y.1.2.2.1) 1 5 (λvs I w j h=>?_) (λy=>?_) (λy us I w j h=>?_) (λy=>by simp[Tt,eR,TD,dTmc,FQ,Hb,OM]) (by simp[Dx,LM,FQ,Hb]) (by simp[Dx,LM,FQ,Hb]) (by simp[Dx,LM,FQ,Hb]) (by decide) (by simp[CT]) (λy J ν F w j h L k=>?_);obtain⟨o',n',x',v,B,u,C,⟨D,G⟩,rfl,a,b,c⟩:=h;have e:=D;simp only[vA,dTmc,BP,V.int.injEq,V.str.injEq,ay]at e;obtain⟨rfl,rfl,rfl,_⟩:=e;exact⟨⟨(v,B,u,C),D,G⟩,rfl,_,rfl,D,a,b,c⟩;obtain⟨⟨v,B,u,C⟩,D,G⟩:=y;have:=fG (.mk l n x ks ps) s r (er (.mk true l n x v B u C)) l n x [] v u (Qu B) (Qu C) ks ps O O ((KP _).2 G) z A K;rw[H]at this;exact this;obtain⟨⟨v,B,u,C⟩,D,G⟩:=y;obtain⟨a,o,P,Q,T,e5⟩:=h;have hf:Id a:=(KP a).1 (by rw[o];exact(KP _).2 G);obtain⟨y',S,W,rfl,_,_⟩:=zgu o rfl;exact⟨l,n,y',v,S,u,W,⟨P,hf⟩,rfl,Q,T,e5⟩;obtain⟨⟨v,B,u,C⟩,D,G⟩:=y;obtain⟨E,rfl,m,p⟩:=h.aggDInv;refine .agg E _ (by simpa[TD,dTmc]using m.1) p λi c d hc q=>?_;have f:E.toList[i]?=some c:=by{simpa using hc};match i with|0=>simp[TD,dTmc]at q;subst q;exact .imm _ _ (m.2 0 c _ f O).immInv|1=>simp[TD,dTmc]at q;subst q;exact .imm _ _ (m.2 1 c _ f O).immInv|2=>simp[TD,dTmc]at q;subst q;exact .imm _ _ (m.2 2 c _ f O).immInv|3=>simp[TD,dTmc]at q;subst q;have:=(m.2 3 c _ f O).rawInv;subst this;exact .hv _ _ _ _ _ k O (p _ (AF f))|4=>simp[TD,dTmc]at q;subst q;have:=(m.2 4 c _ f O).rawInv;subst this;exact .hv _ _ _ _ _ k O (p _ (AF f))|i+5=>{simp[TD,dTmc]at q}
def Zq (t:Tm) (h:Cs t=true):Tq4 156 [.mapr 1] [(1,some (.map (E3 (Gd t [] []))))] (.ret (.own 2 (Gp t).length) [(1,some (.map (E3 (Gd t [] [])))),(2,some (.row 9 1 (Cq (Gp t))))]):=by
 let⟨f,m,p,q⟩:=IK t h;simp only[Cs,Am]at h;have:=lI (Gd t [] []) (λs l=>by
  rcases SL t [] [] h.2 s l with h|h
  ·cases h
  ·unfold maxLen;omega) (by have:=R8 t [] [];simp at this;omega)
 rw[Me,iJ t f]at this;have e:(Cq (Gp t)).length=(Gp t).length:=by simp[Cq]
 rw[e]at this;exact this
def GG (t:Tm):Tm:=(EQ t [] (Gp t)).1
def Wq (t:Tm) (h:Cs t=true):Tq3 106 [.agg (dTmc t)] (.agg (dTmc (GG t))):=by let⟨r,p,s,R⟩:=IK t h;obtain⟨e,n,x,ks,ps⟩:=t;refine Ac Dl Tryz.func106 O [1,2,3,4,5,6,7,8,9,10]<|GU O<|E5 O<|GU O<|Ao [] [(3,1)] [] O (uR (.mk e n x ks ps) [] [] p) A2 O O<|xg [] O (by simp<;>rfl)<|Ao [4] [(3,1)] [(2,4)] O (Zq (.mk e n x ks ps) h) A2 O O<|GU O<|Ao [6] [] [(1,6)] O (YP (.mk e n x ks ps) (O2 h)) ab O O<|GU O ?_;let⟨q,f,l,m⟩:=Pf e n x ks ps [] (Gp (.mk e n x ks ps));have z:=nA (.mk e n x ks ps) [] (Gp (.mk e n x ks ps)) (O2 h) p (SW h);rw[m]at z;refine Ao [7,8] [(6,1),(5,7),(4,8)] [(5,7),(13,8)] O z A5 O O<|xg [] O (by simp;rfl)<|Jo (ids':=[10]) 7 9 (λy:{ y:Value×L1 An×Value×L1 An // (It y.2.1=Cz f/\It y.2.2.2=A4 l)/\E0 y.2.1/\E0 y.2.2.2 }=>[y.1.1,y.1.2.2.1]) (λy=>TJ (.mk true e n q y.1.1 y.1.2.1 y.1.2.2.1 y.1.2.2.2)) O (λA I w B h=>zaz h) λy=>?_;obtain⟨⟨v,S,u,V⟩,⟨C,D⟩,G,H⟩:=y;refine Q3 9 2 (dTmc (.mk e n q f l)) O O (λA I J w B r p s K N=>zio C D r p s K N) O ?_;rw[show GG (.mk e n x ks ps)=.mk e n q f l from m];exact Ab O O O
end Go.Hk
namespace Go.Hk
structure PMr where
 id:Nat
 kv:List (V×V)
 b:Nat
 es:Array MapEntry
 clock:Nat
 id':Nat
 ids':List Nat
 dst:Option Nat
 todo:List DI
def sU (r:TT) (n:Nat) (env:Env) (st:St) (aa:L1 Nat) (todo:L1 DI):Option PMr :=
 match OK todo,aa with
 |some o,f::ids'=>match o.guard,o.op with
  |none,.range t x=>match lk r t,EM env x with
   |some { sh:=.map _ _,.. },some (.mapr i)=>match lk st i,Ce n o.dst,B1 todo ([i],[f])with
    |some (some (.mapx h b es e)),true,some (_,_,s)=>some ⟨i,h,b,es,e,f,ids',o.dst,s⟩
    |_,_,_=>none
   |_,_=>none
  |_,_=>none
 |_,_=>none
structure PMn where
 i:Nat
 kv:List (V×V)
 b:Nat
 b2:Nat
 es:Array MapEntry
 clock:Nat
 since:Nat
 seen:Array Nat
 c:Nat
 dst:Option Nat
 k:List DI
 all:List Oper
 rest:List Oper
def zdj (n:Nat) (env:Env) (st:St) (m:Nat) (todo:L1 DI):Option PMn :=
 match todo with
 |.ops all (o::rest)::k=>match o.guard,o.op with
  |none,.next x false=>match EM env x,Ce n o.dst,lk st m with
   |some (.iter i),true,some (some (.mapx h b es e))=>match lk st i with
    |some (some (.miter l f seen c))=>some ⟨i,h,b,l,es,e,f,seen,c,o.dst,k,all,rest⟩
    |_=>none
   |_,_,_=>none
  |_,_=>none
 |_=>none
structure PMe where
 i:Nat
 kv:List (V×V)
 b:Nat
 b2:Nat
 es:Array MapEntry
 clock:Nat
 seen:Array Nat
 c:Nat
 dst:Option Nat
 todo:List DI
def sV (n:Nat) (env:Env) (st:St) (m:Nat) (todo:L1 DI):Option PMe :=
 match OK todo with
 |some o=>match o.guard,o.op with
  |none,.entry x=>match EM env x,Ce n o.dst,lk st m with
   |some (.iter i),true,some (some (.mapx f b es e))=>match lk st i,B1 todo ([i,m],[])with
    |some (some (.miter h _ seen c)),some (_,_,s)=>some ⟨i,f,b,h,es,e,seen,c,o.dst,s⟩
    |_,_=>none
   |_,_,_=>none
  |_,_=>none
 |none=>none
section
variable {P:Program} {n:Nat} {F:L1 Nat} {Q:DQ} {r:TT} {env l:Env} {st au:St} {aa ids':L1 Nat} {k todo s:L1 DI} {I:U} {μ:Mu} {w:World} {a:Act} {Pn:V->Prop} {d:D} {z:Prop} {ob:L1 Prop}
def zkw {α:Type} {all rest:L1 Oper} {o:Oper} (d:α->D) (wr:α->St) (V:o.guard=none) (z:∀c,o.op≠.defer c) (m:Ce n o.dst=true) (p:∀I μ a w,StRep I μ st aa w->EN I μ env a o.op->valX P ((execOp a.eval o).run P w) (λv w'=>∃x,∃q f,StRep q f (wr x++st) aa w'/\X q f v (d x)/\μ.le f/\Ext I μ st w q f (wr x++st) w') (NS (NR Q) I μ st w)) (h:∀x,DGo P n F Q (.ops all rest::k) (Ca o.dst (d x) env) (wr x++st) aa):DGo P n F Q (.ops all (o::rest)::k) env st aa:=by have m:∀t,o.dst=some t->t<n:=λt W=>by{unfold Ce at m;rw[W]at m;simpa[JO]using m};intro b g I μ a w A i l;obtain⟨j,E,rfl,J,L⟩:=JX i;let⟨T,B⟩:=EW J;have C:LR (o.looksAt all.toArray) I μ env a:=λt _ d p=>l.env t d p;have r:(o::rest).length=rest.length+1:=rfl;rw[r,Ms];have hw:Region.wanted o (yielded all.toArray a.tmps)=true:=AJ V;refine Gq T hw z (valX.upon ((p I μ a w l.toStRep (Bx C)).mono ?_ ?_));rintro v G ⟨x,q,f,H,K,y,s⟩;let⟨p1,p2,R⟩:=HN (n:=n) (w:=G) (dst:=o.dst) (λt d p=>(l.env t d p).mono s.imm y) l.size m K;have:=h x b g q f (a.put o.dst v) G (.inRegion all.toArray (List.range' (j+1) rest.length)::E) ⟨⟨rfl,j+1,B,rfl⟩,L⟩ {H with size:=p2,env:=by cases u:o.dst<;>simpa[Ca,u]using p1,defers:=by rw[R];exact l.defers.ext s };rw[R]at this;exact this.mono λe a' w'' hp=>hp.back (.of_le y) s;rintro N G ⟨v,x,I2,H,K,s,y,S⟩;refine⟨.panic x,[],[],[],I2,μ,⟨v,H,s⟩,K,?_,.refl _ _,S,.refl _ _⟩;exact MS y l.size (l.defers.ext S)
def StRep.retellAt {a8:St} (e:StRep I μ st aa w) (h:∀i b,Aw a8 i b->∃f,Aw st i f/\∀g,μ i=some g->BlkRep I μ w g f->BlkRep I μ w g b):StRep I μ a8 aa w/\Ext I μ st w I μ a8 w:=by
 refine⟨{ imm:=e.imm,blk:=λi b r=>?_,apart:=λi b g k r p u=>?_,inj:=λi j s v y z k A B=>?_,nodup:=e.nodup,idsFree:=e.idsFree },?_⟩
 ·let⟨f,l,m⟩:=h i b r;let⟨g,p,C⟩:=e.blk i f l;exact⟨g,p,m g p C⟩
 ·let⟨f,l,_⟩:=h i b r;exact e.apart i f g k l p u
 ·let⟨f,l,_⟩:=h i s A;let⟨D,m,_⟩:=h j v B;exact e.inj i j f D y z k l m
 ·exact { imm:=U.le_refl I,os:=rfl,tape:=rfl,output:=rfl,size:=BO _,block:=λ_ _ _=>rfl,old:=λ_ _ _=>rfl
          fresh:=λb _ ⟨i,s,g,l,m⟩=>let⟨f,q,_⟩:=h i s l;⟨i,f,g,q,m⟩ }
def KS (id:Nat) {l:L2} (q:lk st id=some (some (.map l))) (h:∀b es e,es.size=l.length->MapKept.Stamped es e->DGo P n F Q todo env ((id,some (.mapx l b es e))::st) aa):DGo P n F Q todo env st aa:=by refine Es λI μ a w m=>?_;obtain⟨g,u,b,es,e,rfl,v,r,s,y⟩:=m.blk id _ q;let⟨z,A⟩:=m.toStRep.retellAt (a8:=(id,some (.mapx l b es e))::st) λi c p=>by{rcases A1.1 p with⟨rfl,rfl⟩|⟨_,h⟩;exact⟨_,q,λB f _=>by rw[u]at f;cases f;exact⟨rfl,v,r,s,y⟩⟩;exact⟨c,h,λ_ _ h=>h⟩};exact⟨I,μ,env,_,aa,z,m.env,A,.refl _ _,h b es e r s⟩
def Jp (id:Nat) {f:L2} {b e:Nat} {es:Array MapEntry} (p:lk st id=some (some (.mapx f b es e))) (h:DGo P n F Q todo env ((id,some (.map f))::st) aa):DGo P n F Q todo env st aa:=by refine Es λI μ a w m=>?_;let⟨q,r⟩:=m.toStRep.retellAt (a8:=(id,some (.map f))::st) λi c l=>by{rcases A1.1 l with⟨rfl,rfl⟩|⟨_,h⟩;exact⟨_,p,λB s ⟨u,v,y,z,A⟩=>⟨b,es,e,u,v,y,z,A⟩⟩;exact⟨c,h,λ_ _ h=>h⟩};exact⟨I,μ,env,_,aa,q,m.env,r,.refl _ _,h⟩
def zgb (C:TTok P r) {y:Nat} {S:L2} {b:Nat} {es:Array MapEntry} {e f:Nat} {m:L1 Nat} {d0:Option Nat} {l:L1 DI} (h:sU r n env st aa todo=some ⟨y,S,b,es,e,f,m,d0,l⟩) (T:G P n F Q l (Ca d0 (.iter f) env) ((f,some (.miter b e #[] e))::st) m):G P n F Q todo env st aa:=by unfold sU at h;split at h;rename_i o id' ids' ho;split at h;rename_i t x hg q;split at h;rename_i _ _ _ _ _ _ i ht hx;split at h;rename_i _ _ _ _ all W s hl hd d;cases h;have D:W=o:=Dp ho d;subst D;refine BQ (fr:=[f]) (wr:=[(f,some (.miter b e #[] e))]) (rd:=[y]) d ?_ hd (λc j=>by rw[q]at j;cases j) T;intro I μ a8 k a w H z K;refine⟨λ_=>?_,λE=>by rw[AJ hg]at E;cases E⟩;have p:=Bx K;rw[q]at p;have N:Aw a8 y (.mapx S b es e):=by{unfold Aw;rw[H y (by simp)];exact hl};obtain⟨g,R,rfl,u,_⟩:=z.blk y _ N;have J:=p x (by simp[Op.operands]) _ hx;have e1:a.eval x=.map (some b):=by{generalize a.eval x=v at J;cases J with|mapr _ b' L=>{rw[R]at L;cases L;rfl}};have hu:=C.sh ht;have A:(execOp a.eval W).run P w=.ok (.value (.pointer (some ⟨w.heap.size,0,none⟩))) (w.alloc (.mapIter (some b) e #[] e)):=by{simp only[execOp,q,e1];exact Fe (run_range_map w _ _ _ b es e hu u)};rw[A];let⟨B,q1,q2,q3,q4⟩:=z.allocO (.mapIter (some b) e #[] e) (.pointer (some ⟨w.heap.size,0,none⟩)) (λ_ h=>cw h) (.miter b e #[] e) (λB _=>⟨w.heap.size,rfl,Fi w _⟩);exact⟨I,B,q3,.iter _ _ q1,q2,q4⟩;cases h;cases h;cases h;cases h
def StRep.drew (e:StRep I μ st aa w):StRep I μ st aa w.drew:={imm:=e.imm,blk:=λi b h=>let⟨g,f,l⟩:=e.blk i b h;⟨g,f,l.world λ_ _=>rfl⟩,apart:=e.apart,inj:=e.inj,nodup:=e.nodup,idsFree:=e.idsFree }
def zhy (es:Array MapEntry) (seen:Array Nat):Option (Nat×MapEntry)->Prop
 |none=>(leftOf es seen).size=0
 |some (j,e)=>es[j]?=some e/\e∈(leftOf es seen).toList
def eZ (e:L1 (V×V)):Option (Nat×MapEntry)->D
 |none=>.imm (.tup [.bool false])
 |some (j,_)=>match e[j]? with
  |some p=>.imm (.tup [.bool true,p.1,p.2])
  |none=>.undef
def zl1 (i b f:Nat) (seen:Array Nat) (h:Nat):Option (Nat×MapEntry)->St
 |none=>[]
 |some (_,e)=>[(i,some (.miter b f (seen.push e.born) h))]
def zke (m:Nat) {i:Nat} {J:L2} {b:Nat} {es:Array MapEntry} {l f:Nat} {seen:Array Nat} {c:Nat} {d0:Option Nat} {k0:L1 DI} {all rest:L1 Oper} {D:Nat} (h:zdj n env st m todo=some ⟨i,J,b,D,es,l,f,seen,c,d0,k0,all,rest⟩) (hbb:D=b) (N:∀x∈es.toList,x.born<f) (hsc:f<=c) (hne:i≠m) (hk:∀x,zhy es seen x->DGo P n F Q (.ops all rest::k0) (Ca d0 (eZ J x) env) (zl1 i b f seen l x++st) aa):DGo P n F Q todo env st aa:=by unfold zdj at h;split at h;rename_i all' o rest' k';split at h;rename_i x hg G;split at h;rename_i i' kv' b1 es' L q hd hm;split at h;rename_i b2 T seen' u hi;cases h;subst hbb;refine zkw (α:={ x:Option (Nat×MapEntry) // zhy es seen x }) (λx=>eZ J x.1) (λx=>zl1 i D f seen l x.1) hg (λc s=>by rw[G]at s;cases s) hd (λI μ a w z B=>?_) λx=>hk x.1 x.2;rw[G]at B;obtain⟨gm,hgm,rfl,H,R,hst2,S⟩:=z.blk m _ hm;obtain⟨gi,W,r,rfl,y⟩:=z.blk i _ hi;obtain⟨r',_,d⟩:=(B x (by simp[Op.operands]) _ q).iterInv;rw[W]at d;have e1:a.eval x=.pointer (some ⟨r,0,none⟩):=(JM d).symm;have g:∀v w',(Instr.next (.pointer (some ⟨r,0,none⟩)) false o.type).run P w=.ok v w'->(execOp a.eval o).run P w=.ok (.value v) w':=λv w' t=>by{simp only[execOp,G,e1];exact Fe t};rcases run_next_at w o.type r D f c seen es l y H N hsc with⟨h0,t⟩|⟨e,he,w1,E,t⟩;rw[g _ _ t];refine⟨⟨none,h0⟩,I,μ,z,.imm _ _ (.tup _ _ O λi c x s q=>?_),Mu.le_refl μ,Ext.refl _ _ _ _⟩;match i,s,q with|0,s,q=>cases s;cases q;exact .bool _|i+1,s,q=>{simp at q};rw[g _ _ t];let⟨he1,_⟩:=mem_left he;let⟨j,hj⟩:=HW he1;have K:es[j]?=some e:=by{simpa using hj};obtain⟨p,hp⟩:∃p,J[j]?=some p:=⟨_,Bq (by rw[<- R];exact(GS.1 K).1)⟩;let⟨k1,k2⟩:=S j e p K hp;have C:StRep I μ st aa w1/\Ext I μ st w I μ st w1:=by{rcases E with rfl|rfl;exact⟨z,Ext.refl _ _ _ _⟩;exact⟨z.drew,Ext.drew I μ st w⟩};have A:w1.heap[r]?=some (.mapIter (some D) f seen c):=by{rcases E with rfl|rfl<;>exact y};have hbl:=Cx A;let⟨q1,q2⟩:=C.1.update (blk':=.miter D f (seen.push e.born) l) (w':=ChangeMaps.setBlock w1 r (.mapIter (some D) f (seen.push e.born) l)) hi W rfl (by simp[ChangeMaps.setBlock]) O O O (λk hk=>Hd (b7 hk)) ⟨r,rfl,by simp[ChangeMaps.setBlock,hbl]⟩;refine⟨⟨some (j,e),K,he⟩,I,μ,q1,?_,Mu.le_refl μ,C.2.trans q2⟩;simp only[eZ,hp];refine .imm _ _ (.tup _ _ O λi c x s q=>?_);match i,s,q with|0,s,q=>cases s;cases q;exact .bool _|1,s,q=>cases s;cases q;exact k1|2,s,q=>cases s;cases q;exact k2|i+3,s,q=>{simp at q};cases h;cases h;cases h;cases h
def zgc (m:Nat) {i:Nat} {k:L2} {es:Array MapEntry} {l:Array Nat} {d0:Option Nat} {q:L1 DI} {seen:Array Nat} {j:Nat} {e:MapEntry} {p:V×V} {b K v c:Nat} (h:sV n env st m todo=some ⟨i,k,b,K,es,v,l,c,d0,q⟩) (t:K=b) (E:c=v) (hs:l=seen.push e.born) (hj:es[j]?=some e) (hp:k[j]?=some p) (hk:G P n F Q q (Ca d0 (.imm (.tup [p.1,p.2])) env) st aa):G P n F Q todo env st aa:=by unfold sV at h;split at h;rename_i o ho;split at h;rename_i x hg C;split at h;rename_i i' kv' b1 es' g y hd hm;split at h;rename_i b2 f J u all o' s hi h1;cases h;subst t;subst E;subst hs;have L:o'=o:=Dp ho h1;subst L;refine BQ (fr:=[]) (wr:=[]) (rd:=[i,m]) h1 ?_ hd (λc z=>by rw[C]at z;cases z) hk;intro I μ a8 ids1 a w N D T;refine⟨λ_=>?_,λhw=>by rw[AJ hg]at hw;cases hw⟩;have B:=Bx T;rw[C]at B;have hm1:Aw a8 m (.mapx k K es c):=by{unfold Aw;rw[N m (by simp)];exact hm};have hi1:Aw a8 i (.miter K f (seen.push e.born) c):=by{unfold Aw;rw[N i (by simp)];exact hi};obtain⟨gm,hgm,rfl,H,hlen,R,S⟩:=D.blk m _ hm1;obtain⟨gi,hgi,r,rfl,A⟩:=D.blk i _ hi1;obtain⟨r',_,W⟩:=(B x (by simp[Op.operands]) _ y).iterInv;rw[hgi]at W;have e1:a.eval x=.pointer (some ⟨r,0,none⟩):=(JM W).symm;have he:e∈es.toList:=AF (by simpa using hj:es.toList[j]?=some e);have d:(execOp a.eval o').run P w=.ok (.value (.tuple #[e.key,e.val])) w:=by{simp only[execOp,C,e1];exact Fe (run_entry_at w r K f seen es c e A H he R.2.1)};rw[d];let⟨k1,k2⟩:=S j e p hj hp;refine⟨I,μ,D,.imm _ _ (.tup _ _ O λi c x z y=>?_),Mu.le_refl μ,Ext.refl _ _ _ _⟩;match i,z,y with|0,z,y=>cases z;cases y;exact k1|1,z,y=>cases z;cases y;exact k2|i+2,z,y=>{simp at y};cases h;cases h;cases h;cases h
end
end Go.Hk
namespace Go.Hk
open Go.Proofs
def Ta {T:Tm} (h:AV T=true) (i:Int):(A0 T i).Nodup:=by obtain⟨l,n,x,ks,ps⟩:=T;simp only[AV,Am]at h;simp only[A0];split;simp;split;cases f:ps[(i-1).toNat]? with|none=>simp|some p=>{have:=CJ.1 h.1.2 p (AF f);simp only[CI,Am]at this;have e:=this.2;rw[<- Nk _ this.1.2,SS]at e;exact e};simp
mutual
def erP:Y->Y
 |.mk f n x ps=>.mk f n (if f=2 then[]else x) (GE ps)
def GE:L1 Y->L1 Y
 |[]=>[]
 |t::r=>erP t::GE r
end
def VW:∀{l r:L1 Y},GE l=GE r->l.length=r.length
 |[],[],_=>rfl
 |[],_::_,h=>by simp[GE]at h
 |_::_,[],h=>by simp[GE]at h
 |_::l,_::r,h=>by simp only[GE,BP]at h;simp[VW h.2]
mutual
def uU:∀(t:Y) (j:Nat) (x:Z),erP (Eo t j x)=erP t
 |.mk s n y ps,j,x=>by by_cases h:s=2;cases j with|zero=>simp only[Eo,ae h,erP]|succ j=>{simp only[Eo,ae h,erP,VV ps j x]};simp only[Eo,ac h,erP,VV ps j x]
def VV:∀(l:L1 Y) (j:Nat) (x:Z),GE (EB l j x)=GE l
 |[],_,_=>rfl
 |t::r,j,x=>by simp only[EB];split;simp only[GE,uU t j x];simp only[GE,VV r _ x]
end
def iR:∀{l:L1 Y} {i:Nat} {p q:Y},l[i]?=some p->erP q=erP p->GE (l.set i q)=GE l
 |[],_,_,_,h,_=>by simp at h
 |t::r,0,p,q,h,e=>by simp at h;subst h;simp[GE,e]
 |t::r,i+1,p,q,h,e=>by simp only[ZT,GE];rw[iR (by simpa using h) e]
def zbb (op:Int):Prop:=op=5\/op=7\/op=27
def VJ:Tm->Tm->Prop
 |.mk h n x _ ps,.mk e l m _ f=>e=h/\l=n/\(¬zbb h->m=x)/\GE f=GE ps
def zU (T:Tm):VJ T T:=by obtain⟨e,n,x,ks,ps⟩:=T;exact⟨rfl,rfl,λ_=>rfl,rfl⟩
def zkb {T m:Tm} (h:VJ T m) (i:Int) (j:Nat) (f:Z):VJ T (Hv m i j f):=by obtain⟨A,n,x,ks,ps⟩:=T;obtain⟨e,B,C,v,q⟩:=m;obtain⟨rfl,rfl,r,l⟩:=h;simp only[Hv];by_cases s:BN e i=true;rw[ae s];refine⟨rfl,rfl,λy=>?_,l⟩;exfalso;simp only[BN,Fg,Am,ao]at s;simp only[zbb]at y;omega;rw[ac s];by_cases u:C5 e i=true;rw[ae u];cases z:q[(i-1).toNat]? with|none=>exact⟨rfl,rfl,r,l⟩|some p=>{exact⟨rfl,rfl,r,(iR z (uU p j f)).trans l⟩};rw[ac u];exact⟨rfl,rfl,r,l⟩
def Y6 {T:Tm} (i:Int):∀(l:L1 Z) (r:Nat×Tm×L1 Z×Sc),VJ T r.2.1->VJ T (l.foldl (GV i) r).2.1
 |[],_,h=>h
 |x::l,r,h=>Y6 i l _ (zkb h i _ _)
def uE {T:Tm}:∀(m i:Nat) (f:Tm) (l:L1 Z) (s:Sc) (e:L1 Sc),VJ T f->VJ T (l1 m i f l s e).1
 |0,_,_,_,_,_,h=>h
 |m+1,i,f,l,s,e,h=>uE m (i+1) _ _ s _ (Y6 i _ _ h)
mutual
def tB {m:Md}:∀(p z τ:Y) (Γ l:Ax),BI p=true->BI z=true->erP z=erP p->HJ m p τ Γ l->∃A:L1 Y,A.length=(AS p).length/\(AS z).length=(AS p).length/\l=Γ++(AS p).zip A/\∀e:Ax,HJ m z τ e (e++(AS z).zip A)
 |.mk f n x ps,.mk q D R B,τ,Γ,l,H,r,S,h=>by simp only[erP,Y.mk.injEq]at S;obtain⟨rfl,rfl,V,W⟩:=S;by_cases u:q=2;subst u;simp only[HJ,ar]at h ⊢;have C:∀(y:Z) (v:L1 Y),AS (.mk 2 D y v)=[y]:=λy v=>by{simp[AS]};rw[C,C];exact⟨[τ],rfl,rfl,by simpa using h,λe=>by simp⟩;{rw[ac u,ac u]at V;subst V;by_cases G:q=6;subst G;simp[HJ]at h ⊢;obtain⟨c,d,i,j,k,o⟩:=h;simp only[BI,Am]at H r;let⟨A,t,w,E,F⟩:=eL ps B c.args Γ l H.2 r.2 W o;have C:∀(y:Z) (v:L1 Y),AS (.mk 6 D y v)=AI v:=λy v=>by{simp[AS]};rw[C,C];exact⟨A,t,w,E,λe=>⟨c,d,i,j.trans (VW W).symm,k,F e⟩⟩;{rw[Yh H G u,Yh r G u];have K:∀N s:Ax,HJ m (.mk q D R ps) τ N s->s=N/\∀e:Ax,HJ m (.mk q D R B) τ e e:=λN s h=>by{simp only[HJ,ac u,ac G]at h ⊢;by_cases a:q=3;simp only[ae a]at h ⊢;exact⟨h.2,λ_=>⟨h.1,ab⟩⟩;simp only[ac a]at h ⊢;by_cases b:q=4;simp only[ae b]at h ⊢;exact⟨h.2,λ_=>⟨h.1,ab⟩⟩;simp only[ac b]at h ⊢;by_cases g:q=5;simp only[ae g]at h ⊢;exact⟨h.2,λ_=>⟨h.1,ab⟩⟩;simp only[ac g]at h ⊢;exact⟨h,λ_=>trivial⟩};let⟨I,J⟩:=K Γ l h;exact⟨[],rfl,rfl,by rw[I];simp,λe=>by simpa using J e⟩}}
def eL {m:Md}:∀(ps ps' s:L1 Y) (Γ e:Ax),BX ps=true->BX ps'=true->GE ps'=GE ps->O1 m ps s Γ e->∃u:L1 Y,u.length=(AI ps).length/\(AI ps').length=(AI ps).length/\e=Γ++(AI ps).zip u/\∀f:Ax,O1 m ps' s f (f++(AI ps').zip u)
 |[],[],[],Γ,e,_,_,_,h=>⟨[],rfl,rfl,by simpa[O1,AI]using h,λf=>by simp[O1,AI]⟩
 |p::ps,A::ps',t::s,Γ,e,v,l,q,⟨r,B,C⟩=>by simp only[BX,Am]at v l;simp only[GE,BP]at q;let⟨a,y,z,D,G⟩:=tB p A t Γ r v.1 l.1 q.1 B;let⟨b,H,K,N,R⟩:=eL ps ps' s r e v.2 l.2 q.2 C;simp only[AI];refine⟨a++b,by simp[y,H],by simp[z,K],?_,λf=>⟨_,G f,?_⟩⟩;rw[List.zip_append y.symm,N,D,Cl];rw[List.zip_append (z.trans y.symm),<- Cl];exact R _
 |[],[],_::_,_,_,_,_,_,h=>h.elim
 |_::_,_,[],_,_,_,_,_,h=>by cases h
 |[],_::_,_,_,_,_,_,q,_=>by simp[GE]at q
 |_::_,[],_,_,_,_,_,q,_=>by simp[GE]at q
end
def lX (Γ:Ax):L1 Y->L1 (L1 Y)->L1 Ax
 |p::ps,t::e=>(Γ++(AS p).zip t)::lX Γ ps e
 |_,_=>[]
def dP {m:Md} {τ:Y} {Γ:Ax}:∀(ps ps':L1 Y) (l:L1 Ax),(∀p∈ps,BI p=true)->(∀p∈ps',BI p=true)->GE ps'=GE ps->Kf m τ Γ ps l->∃s:L1 (L1 Y),s.length=ps.length/\(∀(i:Nat) p t,ps[i]?=some p->s[i]?=some t->t.length=(AS p).length)/\l=lX Γ ps s/\∀e:Ax,Kf m τ e ps' (lX e ps' s)
 |[],[],l,_,_,_,h=>by simp only[Kf]at h;exact⟨[],rfl,λi p t h=>by simp at h,by simp[h,lX],λ_=>by simp[Kf,lX]⟩
 |p::ps,z::ps',l,A,u,f,⟨v,l1,B,C,D⟩=>by simp only[GE,BP]at f;let⟨a,G,W,H,K⟩:=tB p z τ Γ v (A p (by simp)) (u z (by simp)) f.1 B;let⟨s,N,R,S,V⟩:=dP ps ps' l1 (λq r=>A q (by simp[r])) (λq r=>u q (by simp[r])) f.2 C;refine⟨a::s,by simp[N],λi q t r y=>?_,by rw[D,H,S];rfl,λe=>⟨_,_,K e,V e,rfl⟩⟩;rcases i with _|i;simp at r y;subst r;subst y;exact G;exact R i q t (by simpa using r) (by simpa using y)
 |[],_::_,_,_,_,f,_=>by simp[GE]at f
 |_::_,[],_,_,_,f,_=>by simp[GE]at f
def M7 (T:Tm) (Γ:Ax):Nat->L1 (L1 Y×Y)->L1 (Ax×Y)
 |_,[]=>[]
 |i,e::r=>(Γ++(Cu T (i:Int)).zip e.1,e.2)::M7 T Γ (i+1) r
def Rt {T:Tm} {Γ:Ax} (h:∀i:Int,Cu T i=[]):∀(e:L1 Y) (i:Nat),M7 T Γ i (e.map λu=>([],u))=e.map λu=>(Γ,u)
 |[],_=>rfl
 |u::r,i=>by simp only[C0,M7,h,List.zip_nil_left,JL,Rt h r (i+1)]
def Rs {n:Int} {x:Z} {ks:L1 Tm} {ps:L1 Y} {Γ:Ax} {τ:Y}:∀(l:L1 Y) (e:L1 (L1 Y)) (j:Nat),ps.drop j=l->e.length=l.length->M7 (.mk 15 n x ks ps) Γ (j+1) (e.map λt=>(t,τ))=(lX Γ l e).map λq=>(q,τ)
 |[],[],_,_,_=>rfl
 |[],_::_,_,_,h=>by simp at h
 |_::_,[],_,_,h=>by simp at h
 |p::l,t::e,j,m,r=>by have s:ps[j]?=some p:=by{rw[<- List.head?_drop,m];rfl};have f:ps.drop (j+1)=l:=by{rw[<- Ym,m];rfl};simp only[C0,M7,lX,YY,s];rw[Rs l e (j+1) f (by simpa using r)]
def ziy {m:Md} {Γ:Ax} {op:Int} {x:Z} {ps ps':L1 Y} {K:K2} {τ:Y} {S:L1 Y} (h:op≠15) (e:Bc m Γ op x ps K τ S):Bc m Γ op x ps' K τ S:=by unfold Bc at *;simp only[ac h]at *;exact e
def zcs {m:Md} {Γ:Ax} {op n n':Int} {x x':Z} {ks ks':L1 Tm} {ps ps':L1 Y} {K:K2} {τ:Y} {S:L1 Y} (c:op≠4) (d:¬zbb op->x'=x) (V:GE ps'=GE ps) (g:∀p∈ps,BI p=true) (B:∀p∈ps',BI p=true) (q:Bc m Γ op x ps K τ S):∃E:L1 (L1 Y×Y),K=M7 (.mk op n x ks ps) Γ 0 E/\(∀(i:Nat) e,E[i]?=some e->e.1.length=(Cu (.mk op n x ks ps) (i:Int)).length)/\∀f:Ax,Bc m f op x' ps' (M7 (.mk op n' x' ks' ps') f 0 E) τ S:=by by_cases C:op=5;subst C;rw[zlm]at q;obtain⟨a,b,r,s,D⟩:=q;refine⟨[([a],b)],by simp[r,M7,Cu,BN],λi e h=>?_,λf=>by rw[zlm];exact⟨a,b,by simp[M7,Cu,BN],s,D⟩⟩;rcases i with _|i<;>simp at h;simp[<- h,Cu,BN];by_cases G:op=7;subst G;rw[zll]at q;obtain⟨a,r,s⟩:=q;refine⟨[([],a),([a],τ)],by simp[r,M7,Cu,BN,C5],λi e h=>?_,λf=>by rw[zll];exact⟨a,by simp[M7,Cu,BN,C5],s⟩⟩;rcases i with _|_|i<;>simp at h;simp[<- h,Cu,BN,C5];simp[<- h,Cu,BN];by_cases y:op=27;subst y;rw[zct]at q;obtain⟨r,s⟩:=q;refine⟨[([Bz τ Bk],Bk)],by simp[r,M7,Cu,BN],λi e h=>?_,λf=>by rw[zct];exact⟨by simp[M7,Cu,BN],s⟩⟩;rcases i with _|i<;>simp at h;simp[<- h,Cu,BN];by_cases v:op=15;subst v;rw[zcu]at q;obtain⟨a,l,r,s,D⟩:=q;let⟨H,N,j,k,o⟩:=dP ps ps' l g B V r;have R:∀(n:Int) (x:Z) (ks:L1 Tm) (ps:L1 Y),Cu (.mk 15 n x ks ps) ((0:Nat):Int)=[]:=λn x ks ps=>by{simp[Cu,BN,C5]};refine⟨([],a)::H.map λt=>(t,τ),?_,λi e h=>?_,λf=>by rw[zcu];exact⟨a,_,o f,by rw[M7,R,Rs ps' H 0 O (by rw[N,VW V])];simp,D⟩⟩;rw[M7,R,Rs ps H 0 O N,s,k];simp;rcases i with _|i;simp at h;subst h;rw[R];rfl;simp at h;obtain⟨w,W,rfl⟩:=h;rw[YY];have A:i<ps.length:=by{rw[<- N];exact(A9.1 W).1};rw[Bq A];exact j i _ w (Bq A) W;have F:¬zbb op:=by{simp only[zbb];omega};obtain rfl:=d F;let⟨I,r,s⟩:=xE c C G v y q;have z:∀(n:Int) (ks:L1 Tm) (ps:L1 Y) (i:Int),Cu (.mk op n x' ks ps) i=[]:=λn ks ps i=>by{simp[Cu,BN,C5,C,G,y,v]};refine⟨I.map λu=>([],u),by rw[Rt (z n ks ps),r],λi e h=>?_,λf=>?_⟩;simp at h;obtain⟨u,_,rfl⟩:=h;rw[z];rfl;rw[Rt (z n' ks' ps')];exact ziy v (s m f O)
def gY {m:Md} {T s:Tm} {Γ p:Ax}:∀(l f:L1 Tm) (i:Nat) (E:L1 (L1 Y×Y)) (S:L1 Y),l.length=f.length->(∀(j:Nat) e,E[j]?=some e->e.1.length=(Cu T ((i+j:Nat):Int)).length)->(∀(j:Nat) k k',l[j]?=some k->f[j]?=some k'->∀(r:L1 Y) (τ:Y) (S:L1 Y),r.length=(Cu T ((i+j:Nat):Int)).length->Cv m k (Γ++(Cu T ((i+j:Nat):Int)).zip r) τ S->Cv m k' (p++(Cu s ((i+j:Nat):Int)).zip r) τ S)->DR m l (M7 T Γ i E) S->DR m f (M7 s p i E) S
 |[],[],_,[],_,_,_,_,h=>h
 |[],[],_,_::_,_,_,_,_,h=>h.elim
 |k::l,k'::f,i,[],_,_,_,_,h=>h.elim
 |k::l,k'::f,i,e::E,S,q,u,v,⟨S1,y,z,A,B⟩=> ⟨S1,y,v 0 k k' O O e.1 e.2 S1 (u 0 e O) z,gY l f (i+1) E y (by simpa using q) (λj C D=>by rw[show i+1+j=i+(j+1) by omega];exact u (j+1) C (by simpa using D)) (λj a b G H=>by rw[show i+1+j=i+(j+1) by omega];exact v (j+1) a b (by simpa using G) (by simpa using H)) A,B⟩
 |[],_::_,_,_,_,q,_,_,_=>by simp at q
 |_::_,[],_,_,_,q,_,_,_=>by simp at q
def gZ {m:Md} {Γ f:Ax} {op n n':Int} {x x':Z} {ks ks':L1 Tm} {ps ps':L1 Y} {τ:Y} {S:L1 Y} (r:op≠4) (s:¬zbb op->x'=x) (u:GE ps'=GE ps) (v:∀p∈ps,BI p=true) (l:∀p∈ps',BI p=true) (y:ks.length=ks'.length) (z:∀(j:Nat) k k',ks[j]?=some k->ks'[j]?=some k'->∀(q:L1 Y) (τ:Y) (S:L1 Y),q.length=(Cu (.mk op n x ks ps) (j:Int)).length->Cv m k (Γ++(Cu (.mk op n x ks ps) (j:Int)).zip q) τ S->Cv m k' (f++(Cu (.mk op n' x' ks' ps') (j:Int)).zip q) τ S) (h:Cv m (.mk op n x ks ps) Γ τ S):Cv m (.mk op n' x' ks' ps') f τ S:=by obtain⟨K,S1,A,B,C,D⟩:=h;obtain⟨E,rfl,G,H⟩:=zcs (n:=n) (n':=n') (ks:=ks) (ks':=ks') r s u v l B;exact⟨_,S1,A,H f,gY ks ks' 0 E S1 y (λj e N=>by rw[BS];exact G j e N) (λj k k' a b=>by rw[BS];exact z j k k' a b) C,D⟩
def mX {b:L1 Z} {e:L1 Y} (h:e.length=b.length):dmE (b.zip e)=b:=by simp only[dmE];exact List.map_fst_zip (by omega)
def oG:∀(b:L1 Z) (m:L1 Y),b.Nodup->m.length=b.length->∀(i:Nat) (y:Z),b[i]?=some y->JP (b.zip m) y=m[i]?
 |[],_,_,_,i,y,h=>by simp at h
 |a::r,[],_,p,_,_,_=>by simp at p
 |a::r,t::f,q,p,i,y,h=>by rw[Fr]at q;have l:f.length=r.length:=by{simpa using p};simp only[nK,JP];rcases i with _|i;simp at h;subst h;have:JP (r.zip f) a=none:=by{cases e:JP (r.zip f) a with|none=>rfl|some u=>{exact absurd ((mX l)▸(oH (r.zip f) a).1 (by rw[e];rfl)) q.1}};rw[this];simp;have s:r[i]?=some y:=by{simpa using h};have v:=(A9.1 s).1;rw[oG r f q.2 l i y s,Bq (by omega)];simp[Bq (show i<f.length by omega)]
def S8:∀(b c:L1 Z) (s:Sc),b.Nodup->c.length=b.length->∀(i:Nat) (y:Z),b[i]?=some y->DY ((b.zip c).reverse++s) y=c[i]?
 |[],_,_,_,_,i,y,h=>by simp at h
 |a::r,[],_,_,f,_,_,_=>by simp at f
 |a::r,d::c,s,l,f,i,y,h=>by rw[Fr]at l;have e:c.length=r.length:=by{simpa using f};simp only[nK,Vu,Cl,Lv];rcases i with _|i;simp at h;subst h;rw[(Vw (s:=(a,d)::s) e.symm).2 l.1];simp[DY];rw[S8 r c _ l.2 e i y (by simpa using h)];simp
def ze0 {m:Md} {b e:L1 Z} {f:L1 Y} {s:Sc} {Γ h:Ax} (z:b.Nodup) (r:e.Nodup) (l:e.length=b.length) (p:f.length=b.length) {y:Z} (B:y∉b->CG m h (UV s y)=CG m Γ y/\UV s y∉e):CG m (h++e.zip f) (UV ((b.zip e).reverse++s) y)=CG m (Γ++b.zip f) y:=by by_cases q:y∈b;let⟨i,u⟩:=DW.1 q;have C:=(A9.1 u).1;have A:e[i]?=some e[i]:=Bq (by omega);have v:UV ((b.zip e).reverse++s) y=e[i]:=by{rw[UV,S8 b e s z l i y u,A];rfl};rw[v];simp only[CG,aD];rw[oG b f z p i y u,oG e f r (p.trans l.symm) i e[i] A,Bq (by omega)];let⟨v,D⟩:=B q;rw[UV,(Vw (s:=s) (y:=y) l.symm).2 q];rw[fO (E:=e.zip f) (by rw[mX (p.trans l.symm)];exact D),fO (E:=b.zip f) (by rw[mX p];exact q)];exact v
mutual
def uG {m:Md}:∀(t:Tm) (s:Sc) (v:L1 Z),AV t=true->Ik s->v.length+Mp t<=700->(∀y,tZ t y->UV s y∈v)->∀(Γ B:Ax),(∀y,tZ t y->CG m B (UV s y)=CG m Γ y)->∀τ S,Cv m (EQ t s v).1 B τ S↔Cv m t Γ τ S
 |.mk f n x ks ps,s,v,h,hv,hb,w,Γ,B,E,τ,S=>by have h0:=h;simp only[AV,Am]at h;by_cases e:f=4;subst e;simp only[EQ,ar];have hx:CG m B ((DY s x).getD x)=CG m Γ x:=E x (by simp[tZ]);have hn:∀(Γ:Ax) (x:Z),Cv m (.mk 4 n x ks ps) Γ τ S↔∃S1,CG m Γ x=some τ/\DR m ks [] S1/\S=S1:=λΓ x=>by{constructor;rintro ⟨K,S1,S2,a,F,q3⟩;simp[Bc]at a;obtain⟨rfl,q4,rfl⟩:=a;exact⟨S1,q4,F,by simpa using q3⟩;rintro ⟨S1,a,F,rfl⟩;exact⟨[],S,[],by simp[Bc,a],F,by simp⟩};rw[hn,hn,hx];let⟨_,a2,⟨g,a3,a4⟩,a5,a6⟩:=aG (K:=ks.length) ks.length 0 (.mk f n x ks ps) v s [] (by omega) (tK h.1.1);simp only[Mp,ac e]at hb;have a5:=a5 (by omega);let⟨x',ps',hsh,hpl⟩:=Qb ks.length 0 (.mk f n x ks ps) v s [] f n x ks ps rfl;have b:=uE (T:=.mk f n x ks ps) ks.length 0 (.mk f n x ks ps) v s [] (zU _);have hln:=(aH ks.length 0 (.mk f n x ks ps) v s []).1;let⟨g1,g2⟩:=aI ks.length 0 (.mk f n x ks ps) v s [] ⟨h.1.1,h.1.2⟩ hv (by simp) (by omega);have e1:(EQ (.mk f n x ks ps) s v).1=XG (l1 ks.length 0 (.mk f n x ks ps) v s []).1 (DK ks (l1 ks.length 0 (.mk f n x ks ps) v s []).2.2 (l1 ks.length 0 (.mk f n x ks ps) v s []).2.1).1:=by{simp only[EQ,ac e]};rw[e1];have N:∀y,(∃(k:Nat) (c:Tm),ks[k]?=some c/\tZ c y/\y∉A0 (.mk f n x ks ps) (k:Int))->tZ (.mk f n x ks ps) y:=by{rintro y ⟨k,c,h1,h2,h3⟩;simp only[tZ,ac e,gT];refine⟨k,c,h1,h2,?_⟩;rw[MU h.1.2,BS,pX];exact h3};have d:=Y7 (m:=m) ks (l1 ks.length 0 (.mk f n x ks ps) v s []).2.2 (l1 ks.length 0 (.mk f n x ks ps) v s []).2.1 h.2 g2 (by omega);have q:=Pg (.mk f n x ks ps) s v h0 hv (by simp only[Mp,ac e];omega);rw[e1]at q;have R:=λi=>Ta q.1 i;have hnd:=λi=>Ta h0 i;generalize hr:l1 ks.length 0 (.mk f n x ks ps) v s []=r at *;obtain⟨T1,D,C⟩:=r;simp only at *;have I:∀k,k<ks.length->C[k]?=some (((A0 (.mk f n x ks ps) (k:Int)).zip (A0 T1 (k:Int))).reverse++s):=by{intro k J;rw[a6,HZ,Ct,List.getElem?_range' J];simp};have d:=d λk c o y hy=>by{have J:=(A9.1 o).1;rw[I k J,a3];let⟨z1,z2⟩:=Vw (s:=s) (y:=y) (a:=A0 (.mk f n x ks ps) (k:Int)) (b:=A0 T1 (k:Int)) (a2 k (by omega) (by omega)).symm;simp only[UV,KF];by_cases L:y∈A0 (.mk f n x ks ps) (k:Int);exact OU _ (a4 k (by omega) (by omega) _ (z1 L));rw[z2 L];exact Ko _ (w y (N y ⟨k,c,o,hy,L⟩))};subst hsh;simp only[XG]at q R ⊢;obtain⟨_,_,u3,u4⟩:=b;have G:=q.1;simp only[AV,Am]at G;have A:∀{l:L1 Y},l.all CI=true->∀p∈l,BI p=true:=λh p hp=>by{have:=CJ.1 h p hp;simp only[CI,Am]at this;exact this.1.2};have P:∀k:Nat,Cu (.mk f n x' (DK ks C D).1 ps') (k:Int)=A0 (.mk f n x' ks ps') (k:Int):=λk=>by{rw[MU G.1.2];rfl};have Q:∀k:Nat,Cu (.mk f n x ks ps) (k:Int)=A0 (.mk f n x ks ps) (k:Int):=λk=>MU h.1.2 _;have T:∀k:Nat,(A0 (.mk f n x' ks ps') (k:Int)).Nodup:=λk=>R k;have key:∀(k:Nat) (c u:Tm),ks[k]?=some c->(DK ks C D).1[k]?=some u->∀V:L1 Y,V.length=(A0 (.mk f n x ks ps) (k:Int)).length->∀τ S,Cv m u (B++(A0 (.mk f n x' ks ps') (k:Int)).zip V) τ S↔Cv m c (Γ++(A0 (.mk f n x ks ps) (k:Int)).zip V) τ S:=λk c u o hc' V z τ S=>by{have J:=(A9.1 o).1;let⟨c'',a,F⟩:=d k c o;rw[hc']at a;cases a;refine F _ _ (λy hy=>?_) τ S;rw[I k J,KF];refine ze0 (hnd k) (T k) (a2 k (by omega) (by omega)) z λL=>?_;have hy':=N y ⟨k,c,o,hy,L⟩;exact⟨E y hy',λhm'=>a5 k (by omega) (by omega) _ hm' (w y hy')⟩};have W:=QC ks C D;constructor;intro hh;refine gZ (n':=n) (x':=x) (ks':=ks) (ps':=ps) e (λhb=>(u3 hb).symm) u4.symm (A G.1.2) (A h.1.2) W (λj k k' hj H V τ S z hT=>?_) hh;rw[P]at z hT;rw[Q];exact(key j k' k H hj V (z.trans (a2 j (by omega) (by have:=(A9.1 H).1;omega))) τ S).1 hT;intro hh;refine gZ (n':=n) (x':=x') (ks':=(DK ks C D).1) (ps':=ps') e u3 u4 (A h.1.2) (A G.1.2) W.symm (λj k k' hj H V τ S z hT=>?_) hh;rw[Q]at z hT;rw[P];exact(key j k k' hj H V z τ S).2 hT
def Y7 {m:Md}:∀(l:L1 Tm) (e:L1 Sc) (s:L1 Z),Br l=true->(∀B∈e,Ik B)->s.length+Je l<=700->(∀(k:Nat) (c:Tm),l[k]?=some c->∀y,tZ c y->UV (e[k]?.getD []) y∈s)->∀(k:Nat) (c:Tm),l[k]?=some c->∃u,(DK l e s).1[k]?=some u/\∀(Γ f:Ax),(∀y,tZ c y->CG m f (UV (e[k]?.getD []) y)=CG m Γ y)->∀τ S,Cv m u f τ S↔Cv m c Γ τ S
 |[],e,s,_,_,_,_,k,c,z=>by simp at z
 |a::r,e,s,h,H,R,A,k,c,z=>by simp only[Br,Am]at h;simp only[Je]at R;have K:e.headD []=e[0]?.getD []:=by{cases e<;>rfl};have N:∀k:Nat,e.tail[k]?.getD []=e[k+1]?.getD []:=λk=>by{cases e<;>simp};have C:Ik (e.headD []):=by{cases e with|nil=>intro p V;cases V|cons b q=>{exact H b (by simp)}};have j:=QB a (e.headD []) s;let⟨g,W⟩:=jS a (e.headD []) s h.1;cases k with|zero=>simp at z;subst z;refine⟨_,rfl,λΓ f v τ S=>?_⟩;rw[<- K]at v;exact uG a (e.headD []) s h.1 C (by omega) (λy D=>by rw[K];exact A 0 a O y D) Γ f v τ S|succ k=>{obtain⟨u,d,i⟩:=Y7 r e.tail (EQ a (e.headD []) s).2 h.2 (λB G=>H B (zes G)) (by omega) (λk c z y D=>by rw[N,W];exact Ko _ (A (k+1) c (by simpa using z) y D)) k c (by simpa using z);exact⟨u,by simpa[DK]using d,λΓ f v=>i Γ f (by rw[N];exact v)⟩}
end
end Go.Hk
namespace Go.Hk
mutual
def Dy:Y->L1 Int->L1 Int
 |.mk f n _ ps,l=>if f=9 then(if n∈l then l else l++[n])else C2 ps l
def C2:L1 Y->L1 Int->L1 Int
 |[],l=>l
 |t::r,l=>C2 r (Dy t l)
end
mutual
def Np {m:Int}:∀(t:Y) (l:L1 Int),m∈Dy t l↔m∈l\/m∈Dc t
 |.mk f n x ps,l=>by by_cases e:f=9;{simp only[Dy,Dc,ae e];split<;>simp<;>grind};simp only[Dy,Dc,ac e];exact fJ ps l
def fJ {m:Int}:∀(ps:L1 Y) (l:L1 Int),m∈C2 ps l↔m∈l\/m∈Dq ps
 |[],l=>by simp[C2,Dq]
 |t::r,l=>by simp only[C2,Dq,B2,fJ r,Np t];grind
end
mutual
def uI {ρ:Int->Int} {η:Int->Y}:∀(t:Y) (l:L1 Int),(∀a b,(a∈l\/a∈Dc t)->(b∈l\/b∈Dc t)->ρ a=ρ b->a=b)->(∀h∈Dc t,η h=Ay (ρ h))->Dy (AH η t) (l.map ρ)=(Dy t l).map ρ
 |.mk f n x ps,l,p,m=>by by_cases e:f=9;simp only[Dc,ae e,AL]at p m;simp only[AH,Dy,ae e,m n O,Ay];simp only[ar];by_cases q:n∈l;rw[ae q,ae (Vs q)];rw[ac q,ac,Cy];rfl;intro s;let⟨a,r,u⟩:=C7.1 s;have:=p a n (.inl r) (.inr O) u;subst this;exact q r;simp only[Dc,ac e]at p m;simp only[AH,Dy,ac e];exact iE ps l p m
def iE {ρ:Int->Int} {η:Int->Y}:∀(ps:L1 Y) (l:L1 Int),(∀a b,(a∈l\/a∈Dq ps)->(b∈l\/b∈Dq ps)->ρ a=ρ b->a=b)->(∀h∈Dq ps,η h=Ay (ρ h))->C2 (Df η ps) (l.map ρ)=(C2 ps l).map ρ
 |[],l,_,_=>rfl
 |t::r,l,m,e=>by simp only[Df,C2];rw[uI t l (λa b p q=>m a b (by simp only[Dq,B2];grind) (by simp only[Dq,B2];grind)) λh f=>e h (by simp[Dq,f])];exact iE r (Dy t l) (λa b p q=>m a b (by simp only[Dq,B2,Np]at *;grind) (by simp only[Dq,B2,Np]at *;grind)) λh f=>e h (by simp[Dq,f])
end
def Jv (bk:L1 Int) (n:Nat):Nat:=((List.range n).filter λi:Nat=>decide ((i:Int)∉bk)).length
def NthF (bk:L1 Int) (k n:Nat):Prop:=(n:Int)∉bk/\Jv bk n=k
def eh:=@List.filter_append
def DT (bk:L1 Int) (n:Nat):Jv bk (n+1)=Jv bk n+if(n:Int)∈bk then 0 else 1:=by simp only[Jv,Vj,eh,AZ];by_cases h:(n:Int)∈bk<;>simp[h]
def NG {bk:L1 Int} {n m:Nat} (h:n<=m):Jv bk n<=Jv bk m:=by induction h with|refl=>exact BO _|step _ e=>{rw[Nat.succ_eq_add_one,DT];omega}
def NthF.unique {bk:L1 Int} {k n m:Nat} (h:NthF bk k n) (e:NthF bk k m):n=m:=by rcases OP n m with hl|hl|hl;have:=NG (bk:=bk) (show n+1<=m from hl);rw[DT,ac h.1,h.2,e.2]at this;omega;exact hl;have:=NG (bk:=bk) (show m+1<=n from hl);rw[DT,ac e.1,h.2,e.2]at this;omega
def zof (bk:L1 Int) (T:Y) (ν:Int->Int):Prop:=∀(i:Nat) (h:Int),(Dy T [])[i]?=some h->∃n:Nat,ν h=n/\NthF bk i n
def zV {η η':Int->Y} {T:Y} (p:∀n,CL (η n)=true):∀h∈Dc T,AH η' (AH η (Ay h))=Ay h->∃k,η h=Ay k/\η' k=Ay h:=λh _ e=>by{rw[De]at e;have m:CD (η h)=9:=by{generalize η h=u at e;obtain⟨f,n,x,ps⟩:=u;by_cases l:f=9;exact l;simp only[AH,ac l,Ay,Y.mk.injEq]at e;exact absurd e.1 l};refine⟨num (η h),Fa (p h) m,?_⟩;rw[Ih m]at e;exact e}
mutual
def zhm {η η':Int->Y}:∀(t:Y),AH η t=AH η' t->∀h∈Dc t,η h=η' h
 |.mk f n x ps,e,h,l=>by by_cases m:f=9;simp only[AH,Dc,ae m,AL]at e l;rw[l];exact e;simp only[AH,Dc,ac m,Y.mk.injEq,ay]at e l;exact vQ ps e h l
def vQ {η η':Int->Y}:∀(l:L1 Y),Df η l=Df η' l->∀h∈Dq l,η h=η' h
 |[],_,h,f=>by simp[Dq]at f
 |t::r,e,h,f=>by simp only[Df,BP]at e;simp only[Dq,B2]at f;exact f.elim (zhm t e.1 h) (vQ r e.2 h)
end
def yB {bk:L1 Int} {T q:Y} {η η':Int->Y} (B:CL T=true) (C:∀n,CL (η n)=true) (r:AH η T=q) (v:AH η' q=T) {ν m:Int->Int} (s:zof bk T ν) (p:zof bk q m):AH (λh=>Ay (ν h)) T=AH (λh=>Ay (m h)) q:=by have u:∀h∈Dc T,AH η' (η h)=Ay h:=by{rw[<- r,LH]at v;exact zhm (η':=Ay) T (v.trans (kI T B).symm)};have D:∀h,∃k,h∈Dc T->η h=Ay k/\η' k=Ay h:=λh=>by{by_cases l:h∈Dc T;let⟨k,G,H⟩:=zV (η:=η) (η':=η') (T:=T) C h l (by rw[De];exact u h l);exact⟨k,λ_=>⟨G,H⟩⟩;exact⟨0,λh=>absurd h l⟩};let⟨ρ,f⟩:=Classical.axiomOfChoice D;have y:=uI (ρ:=ρ) (η:=η) T [] (λa b K N e=>by{have z:=(f a (by simpa using K)).2;have R:=(f b (by simpa using N)).2;rw[e,R]at z;simpa[Ay]using z.symm}) λh l=>(f h l).1;rw[r]at y;rw[<- r,LH];refine FJ T λh l=>?_;rw[(f h l).1,De];let⟨i,A⟩:=DW.1 ((Np T []).2 (.inr l));let⟨n,S,V⟩:=s i h A;let⟨d,W,c⟩:=p i (ρ h) (by rw[show([]:L1 Int)=([]:L1 Int).map ρ from rfl,y,Ct,A];rfl);rw[S,W,V.unique c]
def DS (t:Y):Bool:=CD t==1||CD t==2||CD t==3
def Top.srt_eq {σ:Sb} {θ:Int->Y} (h:Sol σ θ) {t u:Y} (l:Top σ t u):CD (AH θ t)=CD u:=by rw[l.ap h.eq];by_cases e:CD u=9;rw[Ih e,h.free _ (l.end_ e),e];rfl;let⟨f,n,x,m,_,p⟩:=kH (θ:=θ) e;rw[p,m];rfl
def tN {bk:L1 Int}:∀k:Nat,∃n:Nat,NthF bk k n:=by have l:∀k:Nat,∃n:Nat,k<=Jv bk n:=by{intro k;induction k with|zero=>exact⟨0,AK _⟩|succ k f=>{obtain⟨n,e⟩:=f;have:∃m:Nat,n<=m/\(m:Int)∉bk:=by{obtain⟨b,p⟩:∃b:Int,∀x∈bk,x<=b:=by{clear e;induction bk with|nil=>exact⟨0,λx h=>nomatch h⟩|cons a r f=>{obtain⟨b,p⟩:=f;refine⟨max a b,λx hx=>?_⟩;rcases Ck.1 hx with rfl|hx;omega;have:=p x hx;omega}};refine⟨max n (b.toNat+1),by omega,λh=>?_⟩;have:=p _ h;omega};obtain⟨m,q,s⟩:=this;refine⟨m+1,?_⟩;rw[DT,ac s];have:=NG (bk:=bk) q;omega}};intro k;let⟨n,e⟩:=l (k+1);induction n with|zero=>simp[Jv]at e|succ n f=>{by_cases u:k+1<=Jv bk n;exact f u;rw[DT]at e;refine⟨n,?_,?_⟩;intro v;rw[ae v]at e;omega;split at e<;>omega}
noncomputable def F2 (bk:L1 Int) (k:Nat):Nat:=(tN (bk:=bk) k).choose
def Nn (bk:L1 Int) (k:Nat):NthF bk k (F2 bk k):=(tN (bk:=bk) k).choose_spec
def YQ (a:Int) (r:L1 Int):∀n:Nat,Jv r n<=Jv (a::r) n+if 0<=a/\a<n then 1 else 0
 |0=>by simp[Jv]
 |n+1=>by have f:=YQ a r n;rw[DT,DT];by_cases e:(n:Int)∈r;rw[ae e,ae (Gr _ e)];split at f<;>split<;>omega;rw[ac e];by_cases h:(n:Int)=a;subst h;rw[ae (Ro ..),ae ⟨by omega,by omega⟩];rw[ac (by omega)]at f;omega;rw[ac (by simp[e,h])];split at f<;>split<;>omega
def vK:∀(bk:L1 Int) (n:Nat),n<=Jv bk n+bk.length
 |[],n=>by have:Jv [] n=n:=by{induction n with|zero=>rfl|succ n e=>{rw[DT,e,ac (by simp)]}};omega
 |a::r,n=>by have h:=vK r n;have f:=YQ a r n;rw[Co];split at f<;>omega
def zjd (bk:L1 Int) (k:Nat):F2 bk k<=k+bk.length:=by have:=vK bk (F2 bk k);rw[(Nn bk k).2]at this;exact this
def Nd:Y:=.mk 0 0 [] []
def WM (L:L1 Y):Sb:=λn=>if 0<=n then(match L[n.toNat]? with
 |some t=>if CD t=0 then none else some t
 |none=>none)else none
def fk:=@Int.toNat_natCast
def zix {L:L1 Y} {i:Nat} {t:Y} (h:L[i]?=some t):WM L (i:Int)=if CD t=0 then none else some t:=by simp only[WM];rw[ae (by omega),fk,h]
def XH (L:L1 Y):WM (L++[Nd])=WM L:=by funext n;simp only[WM];split;rcases OP n.toNat L.length with h|h|h;rw[KD h];rw[h,Jf (BO _),Mx,Og (BO _)];simp[Nd,CD];rw[Og (by simp;omega),Og (by omega)];rfl
def dPr (p:Int×Y):V×V:=(.int .i64 p.1,.agg (As p.2))
def Cc:L1 (Int×Y)->Sb
 |[]=>λ_=>none
 |p::r=>λn=>if p.1=n then some p.2 else Cc r n
def U5:L1 (Int×Y)->Int->Y->L1 (Int×Y)
 |[],n,t=>[(n,t)]
 |p::r,n,t=>if p.1=n then(p.1,t)::r else p::U5 r n t
abbrev D0:=L1 (Int×Y)
def Lh (t:Y) (n:Int):∀f:D0,Cc (U5 f n t)=FL (Cc f) n t
 |[]=>by funext m;simp only[U5,Cc,FL];by_cases e:n=m<;>simp[e,fa]
 |p::r=>by funext m;simp only[U5];by_cases e:p.1=n;rw[ae e];simp only[Cc,FL];by_cases h:m=n;subst h;rw[ae e,ae O];rw[ac h,ac (by omega),ac (by omega)];rw[ac e];simp only[Cc,Lh t n r,FL];by_cases h:m=n;subst h;rw[ac e,ae O,ae O];rw[ac h,ac h]
def ND (n m:Int):eqK (.int .i64 n) (.int .i64 m)=decide (m=n):=by simp only[eqK];by_cases e:m=n;subst e;simp;rw[aq e];simp;exact λh=>e h.symm
def IQ (n:Int):∀f:D0,Ia (f.map dPr) (.int .i64 n)=(Cc f n).map λt=>.agg (As t)
 |[]=>rfl
 |p::r=>by have h:=IQ n r;simp only[C0,dPr,Ia,ND,Cc];by_cases e:p.1=n;rw[bf e,ae e];rfl;rw[aq e,ac e];exact h
def Mf (n:Int) (t:Y):∀f:D0,Gn (f.map dPr) (.int .i64 n) (.agg (As t))=(U5 f n t).map dPr
 |[]=>rfl
 |p::r=>by have h:=Mf n t r;simp only[C0,dPr,Gn,ND,U5];by_cases e:p.1=n;rw[bf e,ae e,C0,e];rfl;rw[aq e,ac e,C0,<- h];rfl
def iT {E:Sb->Y->Y->Option Sb->Prop} (h:∀σ a b r f,E σ a b r->E σ a b f->r=f):∀{xs ys:L1 Y} {σ:Sb} {r f:Option Sb},WD E σ xs ys r->WD E σ xs ys f->r=f
 |[],[],_,_,_,e,m=>Eq.trans e (cw m)
 |a::xs,b::ys,σ,r,f,e,m=>by rcases e with⟨p,rfl⟩|⟨s,p,f1⟩;rcases m with⟨_,rfl⟩|⟨q,l,_⟩;rfl;have:=h _ _ _ _ _ p l;cases this;rcases m with⟨l,_⟩|⟨q,l,f2⟩;have:=h _ _ _ _ _ p l;cases this;have:=h _ _ _ _ _ p l;cases this;exact iT h f1 f2
 |[],_::_,_,_,_,e,_=>e.elim
 |_::_,[],_,_,_,e,_=>e.elim
def zan {E:Sb->Y->Y->Option Sb->Prop} (h:∀σ a b r m,E σ a b r->E σ a b m->r=m) {σ:Sb} {u v:Y} {r m:Option Sb} (p:Ew E σ u v r) (q:Ew E σ u v m):r=m:=by by_cases l:CD u=9;by_cases f:CD v=9;by_cases e:num u=num v;have a:r=some σ:=by{simpa[Ew,l,f,e]using p};have b:m=some σ:=by{simpa[Ew,l,f,e]using q};rw[a,b];have a:r=some (FL σ (max (num u) (num v)) (Ay (min (num u) (num v)))):=by{simpa[Ew,l,f,e]using p};have b:m=some (FL σ (max (num u) (num v)) (Ay (min (num u) (num v)))):=by{simpa[Ew,l,f,e]using q};rw[a,b];by_cases o:Occ σ (num u) v;have a:r=none:=by{simpa[Ew,l,f,o]using p};have b:m=none:=by{simpa[Ew,l,f,o]using q};rw[a,b];have a:r=some (FL σ (num u) v):=by{simpa[Ew,l,f,o]using p};have b:m=some (FL σ (num u) v):=by{simpa[Ew,l,f,o]using q};rw[a,b];by_cases f:CD v=9;by_cases o:Occ σ (num v) u;have a:r=none:=by{simpa[Ew,l,f,o]using p};have b:m=none:=by{simpa[Ew,l,f,o]using q};rw[a,b];have a:r=some (FL σ (num v) u):=by{simpa[Ew,l,f,o]using p};have b:m=some (FL σ (num v) u):=by{simpa[Ew,l,f,o]using q};rw[a,b];by_cases o:Jb u v;have a:WD E σ (Hr u) (Hr v) r:=by{simpa[Ew,l,f,o]using p};have b:WD E σ (Hr u) (Hr v) m:=by{simpa[Ew,l,f,o]using q};exact iT h a b;have a:r=none:=by{simpa[Ew,l,f,o]using p};have b:m=none:=by{simpa[Ew,l,f,o]using q};rw[a,b]
def iW:∀(k:Nat) (σ:Sb) (a b:Y) (r e:Option Sb),Zc k σ a b r->Zc k σ a b e->r=e
 |0,_,_,_,_,_,h,_=>h.elim
 |k+1,σ,a,b,r,e,⟨u,v,f,l,m⟩,⟨y,z,p,q,s⟩=>by obtain rfl:=rU f p;obtain rfl:=rU l q;exact zan (iW k) m s
def zkp {k k':Nat} {σ:Sb} {a b:Y} {r e:Option Sb} (h:Zc k σ a b r) (f:Zc k' σ a b e):r=e:=iW (max k k') σ a b r e (Qv (Nat.le_max_left _ _) h) (Qv (Nat.le_max_right _ _) f)
def VX {H:Nat} {k:Nat} {σ:Sb} {θ:Int->Y} {a b:Y} {r:Option Sb} (h:Zc k σ a b r) (e:Sol σ θ) (f:Dom H σ) (l:CL a=true) (m:CL b=true) (p:inB H a) (q:inB H b):zk7 H σ a b r:=by let⟨v,y,s,u⟩:=uX H (Xz H σ) (Fw (AH θ a)) σ θ a b e f (BO _) (λ_=>BO _) l m p q;rw[zkp h s];exact u
def Wn {a:Int} {r:L1 Int} (h:a∉r):∀n:Nat,Jv (a::r) n+(if 0<=a/\a<n then 1 else 0)<=Jv r n
 |0=>by rw[ac (by omega)];simp[Jv]
 |n+1=>by have f:=Wn h n;rw[DT,DT];by_cases l:(n:Int)=a;subst l;rw[ae (Ro ..),ae ⟨by omega,by omega⟩,ac h];rw[ac (by omega)]at f;omega;by_cases e:(n:Int)∈r;rw[ae e,ae (Gr _ e)];split at f<;>split<;>omega;rw[ac e,ac (by simp[e,l])];split at f<;>split<;>omega
def RH:∀{l:L1 Int} {n:Nat},l.Nodup->(∀x∈l,0<=x/\x<n)->l.length+Jv l n<=n
 |[],n,_,_=>by have:∀n,Jv [] n=n:=λn=>by{induction n with|zero=>rfl|succ n h=>{rw[DT,h,ac (by simp)]}};simp[this]
 |a::r,n,e,f=>by rw[Fr]at e;have m:=Wn e.1 n;rw[ae (f a (by simp))]at m;have q:=RH e.2 λx p=>f x (by simp[p]);rw[Co];omega
mutual
def R2:∀(t:Y) (l:L1 Int),l.Nodup->(Dy t l).Nodup
 |.mk f n x ps,l,h=>by simp only[Dy];split;split;exact h;rename_i m;rw[CV];exact⟨h,by simp,λa p b q e=>by rw[AL.1 q]at e;exact m (e▸p)⟩;exact VN ps l h
def VN:∀(e:L1 Y) (l:L1 Int),l.Nodup->(C2 e l).Nodup
 |[],l,h=>h
 |t::r,l,h=>by simp only[C2];exact VN r _ (R2 t l h)
end
def F8:Ax->L1 Int->L1 Int
 |[],l=>l
 |p::r,l=>F8 r (Dy p.2 l)
def Ux:∀(Γ:Ax) (p:Z×Y) (l:L1 Int),F8 (Γ++[p]) l=Dy p.2 (F8 Γ l)
 |[],p,l=>rfl
 |q::r,p,l=>by simp only[Dj,F8,Ux r p]
def fH {m:Int}:∀(Γ:Ax) (l:L1 Int),m∈F8 Γ l↔m∈l\/∃p∈Γ,m∈Dc p.2
 |[],l=>by simp[F8]
 |p::r,l=>by simp only[F8,fH r,Np];grind
def Uw:∀(Γ:Ax) (l:L1 Int),l.Nodup->(F8 Γ l).Nodup
 |[],l,h=>h
 |p::r,l,h=>Uw r _ (R2 p.2 l h)
def lF {B:Nat} {Γ:Ax} (h:∀p∈Γ,inB B p.2):(F8 Γ []).length<=B:=by have:=RH (n:=B) (Uw Γ [] (by simp)) λx e=>by{rcases(fH Γ []).1 e with e|⟨p,f,e⟩;cases e;exact h p f x e};omega
mutual
def aY (op:Int) (s:Z):Tm->Bool
 |.mk o _ x ks _=>(o==op&&x==s)||iB op s ks
def iB (op:Int) (s:Z):L1 Tm->Bool
 |[]=>false
 |t::r=>aY op s t||iB op s r
end
mutual
def SR (op:Int):Tm->Bool
 |.mk o _ _ ks _=>o==op||Pa op ks
def Pa (op:Int):L1 Tm->Bool
 |[]=>false
 |t::r=>SR op t||Pa op r
end
inductive Rch (m:Md) (a:Nat):Nat->Prop
 |base:Rch m a a
 |step {j k:Nat} {f g:Fd}:Rch m a j->m.funs[j]?=some f->m.funs[k]?=some g->aY 4 g.name f.body=true->Rch m a k
noncomputable def zg1 (m:Md) (a:Nat) (op:Int):Bool:=open Classical in decide (∃j f,Rch m a j/\m.funs[j]?=some f/\SR op f.body=true)
noncomputable def zkt (m:Md) (a:Nat):L1 Int:=((List.range 13).map λi:Nat=>16+(i:Int)).filter (zg1 m a)
def BodS (m:Md) (f:Fd):Prop:=∃N,Cv m f.body [(f.param,f.from_)] f.to_ N/\(∀S,Cv m f.body [(f.param,f.from_)] f.to_ S->∃e,N.map (AH e)=S)/\N.all DS=true
noncomputable def NW (m:Md) (f:Fd):Bool:=open Classical in decide (BodS m f)
def Vd:Z:=[109,97,105,110]
def zeh (m:Md):Bool:=m.funs.any λf=>f.name==Vd&&CD f.from_==3
def L7 (p:Nat->Bool):Nat->Nat->Option Nat
 |_,0=>none
 |i,n+1=>if p i then some i else L7 p (i+1) n
def mL {η:Int->Y} {t:Y} (h:DS t=true):DS (AH η t)=true:=by have l:CD t≠9:=by{intro e;simp[DS,e]at h};let⟨f,n,x,m,_,p⟩:=kH (θ:=η) l;rw[p];rw[m]at h;exact h
open Classical in
theorem zhf {m:Md} {f:Fd} {N:L1 Y} (h:Cv m f.body [(f.param,f.from_)] f.to_ N) (q:∀S,Cv m f.body [(f.param,f.from_)] f.to_ S->∃η,N.map (AH η)=S):NW m f=N.all DS:=by unfold NW;cases l:N.all DS with|true=>exact bf ⟨N,h,q,l⟩|false=>{refine aq λ⟨u,v,r,p⟩=>?_;let⟨η,e⟩:=r N h;have:N.all DS=true:=by{rw[<- e,Rp];rw[CJ]at p ⊢;exact λt s=>mL (p t s)};rw[l]at this;cases this}
open Classical in
theorem zhg {m:Md} {f:Fd} (h:∀S,¬Cv m f.body [(f.param,f.from_)] f.to_ S):NW m f=false:=by unfold NW;exact aq λ⟨N,e,_⟩=>h N e
def sC {b:Bool} {s n:Int} {x:Z} {k:Nat} (h:Dg b s n x k=true):s≠0/\k<=3/\(s=9->b=true/\x=[]/\k=0/\0<=n/\n<=99)/\(s≠9->n=0):=by unfold Dg at h;by_cases l:s=1\/s=2\/s=3;rw[ae l]at h;simp only[Am,ao]at h;refine⟨by omega,by omega,λe=>by omega,λ_=>h.1.2⟩;rw[ac l]at h;by_cases m:s=4;rw[ae m]at h;simp only[Am,ao]at h;refine⟨by omega,by omega,λe=>by omega,λ_=>h.1.2⟩;rw[ac m]at h;by_cases p:s=5\/s=6\/s=7;rw[ae p]at h;simp only[Am,ao]at h;refine⟨by omega,by omega,λe=>by omega,λ_=>h.1.2⟩;rw[ac p]at h;by_cases q:s=8;rw[ae q]at h;simp only[Am,ao]at h;refine⟨by omega,by omega,λe=>by omega,λ_=>h.1.2⟩;rw[ac q]at h;by_cases f:s=9;rw[ae f]at h;simp only[Am,ao,DP,al]at h;refine⟨by omega,by omega,λ_=>⟨h.1.1.1,h.1.2,by omega,by omega,by omega⟩,λe=>absurd f e⟩;rw[ac f]at h;cases h
mutual
def Mc {b:Bool}:∀t:Y,Dv b t=true->CL t=true/\inB 100 t/\(b=false->Dc t=[])
 |.mk s n x ps,h=>by simp only[Dv,Am]at h;let⟨l,p,q,r⟩:=sC h.1;let⟨u,v,y⟩:=XA ps h.2;by_cases e:s=9;let⟨z,A,B,G,H⟩:=q e;have:ps=[]:=Mw.1 B;subst this;subst A;subst e;refine⟨by simp[CL,G8],λm f=>?_,λe=>by rw[z]at e;cases e⟩;simp[Dc]at f;omega;have C:=r e;subst C;refine⟨?_,λm f=>?_,λD=>?_⟩;simp[CL,e,l,p,u];simp only[Dc,ac e]at f;exact v m f;simp only[Dc,ac e];exact y D
def XA {b:Bool}:∀l:L1 Y,C8 b l=true->G8 l=true/\(∀m∈Dq l,0<=m/\m<100)/\(b=false->Dq l=[])
 |[],_=>by simp[G8,Dq]
 |t::r,h=>by simp only[C8,Am]at h;let⟨p,q,s⟩:=Mc t h.1;let⟨u,v,y⟩:=XA r h.2;refine⟨by simp[G8,p,u],λm e=>?_,λf=>by simp[Dq,s f,y f]⟩;simp only[Dq,B2]at e;exact e.elim (q m) (v m)
end
def kK (w:World):U:=λb=>w.heap[b]?
def PQ (k:D->Option V):L1 D->Option (L1 V)
 |[]=>some []
 |d::r=>match k d,PQ k r with
  |some x,some e=>some (x::e)
  |_,_=>none
def QA (k:D->L1 Nat):L1 D->L1 Nat
 |[]=>[]
 |d::r=>k d++QA k r
def Hu (st:St):Nat->D->Option V
 |0,_=>none
 |f+1,d=>match d with
  |.imm x=>some x
  |.nils=>some (.sl [])
  |.ip t m e=>some (.ip t m e)
  |.clip es=>some (.sl es)
  |.own id _=>match lk st id with
   |some (some (.row _ _ es))=>some (.sl es)
   |_=>none
  |.mapr id=>match lk st id with
   |some (some (.map p))=>some (.mapv p)
   |_=>none
  |.ref id e=>match lk st id with
   |some (some (.immb t _ h))=>some (.ip t h e)
   |some (some (.cells t _ l))=>match PQ (Hu st f) l with
    |some h=>some (.ip t h e)
    |none=>none
   |_=>none
  |.agg l=>match PQ (Hu st f) l with
   |some h=>some (.agg h)
   |none=>none
  |.fn g a b=>match PQ (Hu st f) a,PQ (Hu st f) b with
   |some h,some q=>some (.clo g h q)
   |_,_=>none
  |_=>none
def Hw (st:St):Nat->D->L1 Nat
 |0,_=>[]
 |f+1,d=>match d with
  |.own id _=>[id]
  |.mapr id=>[id]
  |.ref id _=>match lk st id with
   |some (some (.cells _ _ e))=>id::QA (Hw st f) e
   |_=>[id]
  |.agg e=>QA (Hw st f) e
  |.fn _ a b=>QA (Hw st f) a++QA (Hw st f) b
  |_=>[]
structure zhz where
 f:FuncId
 vs:List V
 rd:List Nat
 g:Option (Bool×Bool)
 ob:List Prop
 dst:Option Nat
 todo:List DI
def mM (n:Nat) (st:St) (all:L1 Oper) (o:Oper) (env:Env) (todo:L1 DI) (f:FuncId) (a b:L1 D) (args:L1 Operand):Option zhz :=
 match CF all env o with
 |some g=>match Kv (Ap g) env args with
  |some (e,ob)=>match PQ (Hu st 6) (a++e++b),Ce n o.dst with
   |some h,true=>match B1 todo (QA (Hw st 6) (a++e++b),[])with
    |some (_,_,s)=>match o.dst with
     |some t=>some ⟨f,h,QA (Hw st 6) (a++e++b),g,ob,some t,s⟩
     |none=>some ⟨f,h,QA (Hw st 6) (a++e++b),g,ob,none,s⟩
    |none=>none
   |_,_=>none
  |none=>none
 |none=>none
def zdl (n:Nat) (env:Env) (st:St) (todo:L1 DI):Option zhz :=
 match B1 todo ([],[])with
 |some (all,o,_)=>match o.op with
  |.call { callee:=.value (.func f),args:=⟨args⟩,.. }=>mM n st all o env todo f [] [] args
  |.call { callee:=.value (.tmp t),args:=⟨args⟩,.. }=>match lk env t with
   |some (.imm (.fn (.func f)))=>mM n st all o env todo f [] [] args
   |some (.imm (.clo (.func f) a b))=>mM n st all o env todo f (a.map .imm) (b.map .imm) args
   |some (.fn (.func f) a b)=>mM n st all o env todo f a b args
   |_=>none
  |_=>none
 |none=>none
def sE:V->Bool
 |.tup e=>GY e
 |x=>JC x
section
variable {P:Program} {n:Nat} {F:L1 Nat} {Q:DQ} {r:TT} {env l:Env} {st au:St} {aa ids':L1 Nat} {k todo s:L1 DI} {I J:U} {μ:Mu} {w:World} {a:Act} {Pn:V->Prop} {d:D} {z:Prop} {ob:L1 Prop}
def wZ {v:Value} {x:V} (h:sE x=true) (p:M J v x):M I v x:=by cases p with|tup q e u z=>refine .tup q e u λi c x A m=>?_;have B:∀{e:L1 V} {i:Nat} {x:V},GY e=true->e[i]?=some x->JC x=true:=by{intro e;induction e with|nil=>intro i x _ h;simp at h|cons y r C=>{intro i x f h;simp only[GY,Am]at f;cases i with|zero=>simp at h;subst h;exact f.1|succ i=>{exact C f.2 (by simpa using h)}}};exact H7 (B h m) (z i c x A m)|bool b=>exact .bool b|int k n=>exact .int k n|str s l f=>exact .str s l f|_=>{simp[sE,JC]at h}
def KC {q:D->Option V} {μ:Mu} (f:∀d x v,q d=some x->X I μ v d->M J v x):∀{vs:L1 Value} {ds:L1 D} {xs:L1 V},PQ q ds=some xs->RepL I μ vs ds->RepVL J vs xs
 |[],ds,xs,h,e=>by cases ds with|nil=>cases h;exact .nil|cons d ds=>{simp[RepL]at e}
 |v::vs,ds,xs,h,e=>by cases ds with|nil=>simp[RepL]at e|cons d ds=>{obtain⟨l,m⟩:=e.cons;simp only[PQ]at h;split at h;{cases h;exact .mk (f _ _ _ (by assumption) l) (KC f (by assumption) m)};cases h}
def Xw (s:StRep I μ st aa w):∀(f:Nat) (d:D) (x:V) (v:Value),Hu st f d=some x->X I μ v d->M (kK w) v x
 |0,_,_,_,h,_=>by simp[Hu]at h
 |f+1,d,x,v,h,B=>by have r:I.le (kK w):=λb o h=>s.imm b o h;have E:=Xw s f;simp only[Hu]at h;split at h;cases h;exact B.immInv.mono r;cases h;cases B;exact .slnil;cases h;exact B.ipV.mono r;cases h;cases B with|clip a J es h=>{exact h.mono r};split at h;rename_i G;cases h;cases B with|own id J a K N=>{let⟨g,z,hb⟩:=s.blk _ _ G;rw[N]at z;cases z;exact fV hb r λb _=>rfl};cases h;split at h;rename_i G;cases h;cases B with|mapr id b N=>{obtain⟨g,z,b',es,R,rfl,u,A,h3,Q⟩:=s.blk _ _ G;rw[N]at z;cases z;exact .mapv b es R _ u A h3 (λi e p W k=>(Q i e p W k).1.mono r) (λi e p W k=>(Q i e p W k).2.mono r)};cases h;have n:∀{t:TypeId} {y:Nat} {vs:Array Value} {H:L1 V} {S:Nat},v=.pointer (some ⟨S,y,none⟩)->w.heap[S]?=some (.cells vs t (0,0))->RepVL (kK w) vs.toList H->(∀v∈vs.toList,v.oneCell'=true)->M (kK w) v (.ip t H y):=by{intro t y vs H S hv l m q;subst hv;have:=M.ip (I:=kK w) S 0 t H y (λj=>(vs[j]?).getD undef) (λj x C=>?_) (λj x C=>?_);simpa using this;have F:j<vs.size:=by{have:=m.1;have:=(A9.1 C).1;simp at *;omega};have:kK w S=some (.cells vs t (0,0)):=l;simp only[U.cell,this,BS,PW F,KF,ay];exact q _ (by simp);have F:j<vs.size:=by{have:=m.1;have:=(A9.1 C).1;simp at *;omega};simp only[PW F,KF];exact m.2 j _ x (by simp[F]) C};split at h;rename_i G;cases h;cases B with|ref b id y N=>{obtain⟨g,z,hs,S,vs,rfl,l,m,q⟩:=s.blk _ _ G;rw[N]at z;cases z;exact n O l (m.mono r) q};rename_i G;split at h;rename_i H C;cases h;cases B with|ref b id y N=>{obtain⟨g,z,hs,S,vs,rfl,l,m,q⟩:=s.blk _ _ G;rw[N]at z;cases z;exact n O l (KC E C m) q};cases h;cases h;split at h;rename_i H C;cases h;cases B with|agg T ds G u hh=>{have:=KC (vs:=T.toList) E C ⟨by simpa using G,λi v d u A=>hh i v d (by simpa using u) A⟩;exact .agg T H (by simpa using this.1) u λi c x u A=>this.2 i c x (by simpa using u) A};cases h;{split at h;{rename_i H ys C hy;cases h;cases B with|fn _ first K df dc hf hc u A=>{have W:=KC (vs:=first.toList) E C ⟨by simpa using hf,λi v d L P=>u i v d (by simpa using L) P⟩;have k:=KC (vs:=K.toList) E hy ⟨by simpa using hc,λi v d L P=>A i v d (by simpa using L) P⟩;exact .clo _ first K H ys (by simpa using W.1) (by simpa using k.1) (λi c x u A=>W.2 i c x (by simpa using u) A) (λi c x u A=>k.2 i c x (by simpa using u) A)}};cases h};cases h
def Agree.sub {r s:L1 Nat} (h:Agree r st au) (e:∀i∈s,i∈r):Agree s st au:=λi f=>h i (e i f)
def HC {q f:D->Option V} {r:D->L1 Nat} (h:∀d,Agree (r d) st au->f d=q d):∀{ds:L1 D},Agree (QA r ds) st au->PQ f ds=PQ q ds
 |[],_=>rfl
 |d::l,m=>by simp only[PQ];rw[h d (m.sub λi e=>by simp[QA,e]),HC h (m.sub λi e=>by simp[QA,e])]
def RR {st au:St}:∀(f:Nat) (d:D),Agree (Hw st f d) st au->Hu au f d=Hu st f d
 |0,_,_=>rfl
 |f+1,d,h=>by have l:=RR (st:=st) (au:=au) f;cases d with|own id n=>simp only[Hu];rw[h id (by simp[Hw])]|mapr id=>simp only[Hu];rw[h id (by simp[Hw])]|ref id p=>have m:lk au id=lk st id:=h id (by simp only[Hw];split<;>simp);simp only[Hu];rw[m];split;rfl;rename_i q r;rw[HC l (h.sub λi e=>by simp only[Hw,r];simp[e])];rfl|agg q=>simp only[Hu];rw[HC l (h.sub λi e=>by simp only[Hw];exact e)]|fn g a b=>simp only[Hu];rw[HC l (h.sub λi e=>by simp only[Hw];simp[e]),HC l (h.sub λi e=>by simp only[Hw];simp[e])]|_=>{rfl}
abbrev S0:=Option (Bool×Bool)
def zjt {all:L1 Oper} {o:Oper} {f:FuncId} {das:L1 D} {vs:L1 V} {v:V} {m:Nat} {g:S0} (C:CF all env o=some g) (G:Ga P o env f das (Ap g)) (H:PQ (Hu st m) das=some vs) (K:sE v=true) (N:Ap g->Iz P f vs v):LD P Pn all o env st (QA (Hw st m) das) [] [] (gD g (.imm v)):=by refine Ea C λI μ a8 B a w y e q r=>?_;let⟨R,S,W⟩:=G I μ a w q r;rw[W];have z:PQ (Hu a8 m) das=some vs:=by{rw[HC (RR m) y,H]};have c:=KC (Xw e m) z S;have s:StRep (kK w) μ [] [] w:={ imm:=λb o h=>h,blk:=λi b h=>by simp[Aw,lk]at h,apart:=λi b g k h=>by simp[Aw,lk]at h,inj:=λi j d J L Q k h=>by simp[Aw,lk]at h,nodup:=.nil,idsFree:=λi h=>by cases h };have p:∀b,¬AX μ [] b:=λb ⟨i,d,g,h,_⟩=>by{simp[Aw,lk]at h};refine(N r (kK w) μ w R s c.imm).mono (λu w' n=>?_) (λ_ _ h=>h.elim);obtain⟨T,t,x,r2,r3,l⟩:=n;have A:∀b o,I b=some o->b<w.heap.size:=λb o h=>by{have:=e.imm b o h;exact(GS.1 this).1};refine⟨I,μ,e.other l.size (λb o h=>l.block b (A b o h) (p b)) (λb E=>l.block b (Fo e E) (p b)),?_,Mu.le_refl μ,{ imm:=U.le_refl I,os:=l.os,tape:=l.tape,output:=l.output,size:=l.size,block:=λb F _=>l.block b F (p b),fresh:=λ_ _ h=>h,old:=λ_ _ _=>rfl }⟩;exact .imm _ _ (wZ K x.immInv)
def SY {o:Oper} {t:Nat} {f:FuncId} {args:L1 Operand} {s:Array TypeId} {ds:L1 D} {df dc:L1 V} (q:o.op=.call { callee:=.value (.tmp t),args:=⟨args⟩,argTypes:=s }) (u:lk env t=some (.imm (.clo (.func f) df dc))) (y:Kv z env args=some (ds,ob)) (p:A8 ob):Ga P o env f (df.map .imm++ds++dc.map .imm) z:=by intro I μ a w e A;rw[q]at e;have h:=Ie (I:=I) (μ:=μ) (a:=a) A y p λx B=>e x (by simp[Op.operands,Call.operands,B]);have r:=(e (.tmp t) (by simp[Op.operands,Call.operands]) _ u).immInv;generalize l:a.eval (.tmp t)=v at r;cases r with|clo _ first m _ _ C G H K=>{refine⟨first++(args.map a.eval).toArray++m,?_,?_⟩;{simp only[M1];have N:RepVL I first.toList df:=⟨by simpa using C,λi v d l h=>H i v d (by simpa using l) h⟩;have R:RepVL I m.toList dc:=⟨by simpa using G,λi v d l h=>K i v d (by simpa using l) h⟩;exact RepL.append (RepL.append N.imm h) R.imm};simp only[execOp,q,resolve,l,Deferred.ofValue,aj,am,ah,invoke];congr 3;simp}
def zdm {all:L1 Oper} {o:Oper} {f:FuncId} {a b:L1 D} {args:L1 Operand} {c:zhz} (h:mM n st all o env todo f a b args=some c):∃g ds ob vs s,CF all env o=some g/\Kv (Ap g) env args=some (ds,ob)/\PQ (Hu st 6) (a++ds++b)=some vs/\Ce n o.dst=true/\(∃p q,B1 todo (QA (Hw st 6) (a++ds++b),[])=some (p,q,s))/\c=⟨f,vs,QA (Hw st 6) (a++ds++b),g,ob,o.dst,s⟩:=by unfold mM at h;split at h;rename_i g l;split at h;rename_i ds ob m;split at h;rename_i vs r u;split at h;rename_i p q s v;split at h;rename_i t e;cases h;exact⟨g,ds,ob,vs,s,l,m,r,u,⟨p,q,v⟩,by rw[e]⟩;rename_i e;cases h;exact⟨g,ds,ob,vs,s,l,m,r,u,⟨p,q,v⟩,by rw[e]⟩;cases h;cases h;cases h;cases h
def N0 {f:FuncId} {vs:L1 V} {rd:L1 Nat} {g:S0} {dst:Option Nat} {s:L1 DI} {v:V} (h:zdl n env st todo=some ⟨f,vs,rd,g,ob,dst,s⟩) (i:Ap g->Iz P f vs v) (j:sE v=true) (e:A8 ob) (k:G P n F Q s (Ca dst (gD g (.imm v)) env) st aa):G P n F Q todo env st aa:=by have u:∀{all:L1 Oper} {o:Oper} {C:FuncId} {a b:L1 D} {l:L1 Operand} {t:L1 DI},B1 todo ([],[])=some (all,o,t)->mM n st all o env todo C a b l=some ⟨f,vs,rd,g,ob,dst,s⟩->(∀c,o.op≠.defer c)->(∀{N:L1 D} {z:Prop} {ob:L1 Prop},Kv z env l=some (N,ob)->A8 ob->Ga P o env C (a++N++b) z)->G P n F Q todo env st aa:=by{intro all o C a b l t m w r A;let⟨g',N,y,x,R,E,I,J,L,⟨p,q,S⟩,T⟩:=zdm w;let⟨e1,e2⟩:=Lq m S;subst e1;subst e2;cases T;exact BQ (fr:=[]) (wr:=[]) S (zjt E (A I e) J j i) L r k};unfold zdl at h;split at h;rename_i all o t m;have r:∀W,o.op=.call W->∀c,o.op≠.defer c:=λW h c d=>by{rw[h]at d;cases d};split at h;rename_i C l ts B;exact u m h (r _ B) λH e=>by{simpa using Ho B H e};rename_i t' l ts B;split at h;rename_i C K;exact u m h (r _ B) λH e=>by{simpa using G5 B K H e};rename_i C a b K;exact u m h (r _ B) λH e=>SY B K H e;rename_i C a b K;exact u m h (r _ B) λH e=>Kw B K H e;cases h;cases h;cases h
end
end Go.Hk
namespace Go.Hk
mutual
def Vb (id:Nat) (es:L1 (V×V)):D->D
 |.mapr i=>bif Nat.beq i id then .imm (.mapv es)else .mapr i
 |.agg e=>JJ (WU id es e)
 |.tup e=>.tup (WU id es e)
 |.fn f a b=>.fn f (WU id es a) (WU id es b)
 |.iface t d=>match Vb id es d with
  |.imm x=>.imm (.iface t x)
  |d'=>.iface t d'
 |.guard c w d=>.guard c w (Vb id es d)
 |d=>d
def WU (id:Nat) (es:L1 (V×V)):L1 D->L1 D
 |[]=>[]
 |d::r=>Vb id es d::WU id es r
end
def yL (id:Nat) (es:L1 (V×V)):Env->Env
 |[]=>[]
 |(t,d)::r=>(t,Vb id es d)::yL id es r
def zjm (id:Nat) (es:L1 (V×V)):Blk->Blk
 |.cells t e f=>Sx t e (WU id es f)
 |b=>b
def WT (id:Nat) (es:L1 (V×V)):St->St
 |[]=>[]
 |(i,some b)::r=>(i,some (zjm id es b))::WT id es r
 |(i,none)::r=>(i,none)::WT id es r
def I7 (id:Nat) (es:L2):∀l:L1 D,WU id es l=l.map (Vb id es)
 |[]=>rfl
 |d::r=>by simp[WU,I7 id es r]
section
variable {P:Program} {n:Nat} {F:L1 Nat} {Q:DQ} {r:TT} {env:Env} {st:St} {aa:L1 Nat} {todo:L1 DI} {I J:U} {μ:Mu} {w:World} {id:Nat} {es:L2} {g:Value}
def X.mfr {v:Value} {d:D} (h:X I μ v d) (A:I.le J) (E:μ id=some g) (S:M J g (.mapv es)):X J μ v (Vb id es d):=by have s:∀{l:L1 D} {i:Nat} {x:D},(WU id es l)[i]?=some x->∃y,l[i]?=some y/\x=Vb id es y:=by{intro l i x m;rw[I7,Ct]at m;cases z:l[i]? with|none=>rw[z]at m;cases m|some y=>{rw[z]at m;cases m;exact⟨y,rfl,rfl⟩}};induction h with|undef v=>exact .undef v|imm v x m=>exact .imm v x (m.mono A)|nils=>exact .nils|ref b id r e=>exact .ref b id r e|ip b o t H r V B K=>exact(X.ip b o t H r V B K).mono A (Mu.le_refl μ)|agg H w z C _ u=>have:X J μ (.agg H.toList.toArray) (JJ (WU id es w)):=IP ⟨by rw[I7,C6,<- z];simp,λi c x N m=>by{obtain⟨y,G,rfl⟩:=s m;exact u i c y (by simpa using N) G}⟩ C;simpa[Vb]using this|tup H w z _ u=>refine .tup H _ (by rw[I7,C6,z]) λi c x N m=>?_;obtain⟨y,G,rfl⟩:=s m;exact u i c y N G|own i p a q e=>exact .own i p a q e|elp b id p q k F f e=>exact .elp b id p q k F f e|mapr i b e=>{simp only[Vb];cases L:Nat.beq i id with|false=>exact .mapr i b e|true=>{rw[CU L,E]at e;cases e;exact .imm _ _ S}}|iter id b e=>exact .iter id b e|fn f first q df dc P N _ _ W j=>refine .fn f first q _ _ (by rw[I7,C6,P]) (by rw[I7,C6,N]) (λi c x C n=>?_) (λi c x C n=>?_);obtain⟨y,G,rfl⟩:=s n;exact W i c y C G;obtain⟨y,G,rfl⟩:=s n;exact j i c y C G|iface t v d _ u=>simp only[Vb];split;rename_i x m;rw[m]at u;exact .imm _ _ (.iface t v x u.immInv);exact .iface t v _ u|guard c R v d _ Q u=>exact .guard c R v _ u Q|clip a p es S=>exact .clip a p es (S.mono A)|slc b id r p q e z m=>exact .slc b id r p q e z m|yld b id e=>exact .yld b id e|raw v h=>exact .raw v h|hv v id i V T e hi C=>{exact .hv v id i V T e hi C}
def BlkRep.mfr {m:Value} {blk:Blk} (h:BlkRep I μ w m blk) (e:I.le J) (q:μ id=some g) (r:M J g (.mapv es)):BlkRep J μ w m (zjm id es blk):=by cases blk with|cells t C s=>{obtain⟨u,b,D,rfl,z,p,A⟩:=h;refine IO z ⟨by rw[I7,C6,p.1],λi v x B f=>?_⟩ A (by rw[I7,C6,u]);rw[I7,Ct]at f;cases l:s[i]? with|none=>rw[l]at f;cases f|some y=>{rw[l]at f;cases f;exact(p.2 i v y B l).mfr e q r}}|_=>{exact h.mono e (Mu.le_refl μ)}
def Rl {i:Nat} {b:Blk}:∀{st:St},Aw (WT id es st) i b->∃e,Aw st i e/\b=zjm id es e
 |[],h=>by simp[WT,Aw,lk]at h
 |(k,some x)::r,h=>by simp only[WT]at h;rcases A1.1 h with⟨f,l⟩|⟨f,l⟩;exact⟨x,by unfold Aw;rw[f,A7],l⟩;let⟨e,m,p⟩:=Rl l;exact⟨e,A1.2 (.inr ⟨f,m⟩),p⟩
 |(k,none)::r,h=>by simp only[WT]at h;let⟨f,l⟩:=B3.1 h;let⟨e,m,p⟩:=Rl l;exact⟨e,B3.2 ⟨f,m⟩,p⟩
def jD (id:Nat) (hl:lk st id=some (some (.map es))) (h:DGo P n F Q todo (yL id es env) ((id,none)::WT id es st) aa):DGo P n F Q todo env st aa:=by
 intro b cs I μ a w K hd v;have f:Aw st id (.map es):=hl;obtain⟨g,W,N,ms,y,rfl,R,hsz,c,G⟩:=v.blk id _ f;have hno:=(v.apart id _ _ N f W O).1;obtain⟨J,T,E,S⟩:∃J:U,I.le J/\M J (.map (some N)) (.mapv es)/\(∀k o,J k=some o->(I k=some o\/(Ek (.map (some N)) k/\w.heap[k]?=some o))):=by
  have z:I.le (λk=>if k=N then some (.map ms y)else I k):=λk o h=>by
   have:k≠N:=λe=>by rw[e,hno]at h;cases h
   simp[this,h]
  refine⟨_,z,.mapv N ms y es (by simp) hsz c (λi e p m l=>(G i e p m l).1.mono z) (λi e p m l=>(G i e p m l).2.mono z),λk o h=>?_⟩;by_cases L:k=N
  ·subst L;simp at h;subst h;exact .inr ⟨rfl,R⟩
  ·simp[L]at h;exact .inl h
 have A:∀i B,Aw ((id,none)::WT id es st) i B->i≠id/\∃D,Aw st i D/\B=zjm id es D:=λi B h=>by
  let⟨m,l⟩:=B3.1 h;exact⟨m,Rl l⟩
 have hE:Ext I μ st w J μ ((id,none)::WT id es st) w :=
  {imm:=T,os:=rfl,tape:=rfl,output:=rfl,size:=BO _
   block:=λ_ _ _=>rfl
   fresh:=λk _ ⟨i,B,H,m,l,h3⟩=>let⟨_,D,q,_⟩:=A i B m;⟨i,D,H,q,l,h3⟩
   old:=λk _ ho=>by
      cases C:J k with
      |none=>
       cases hIk:I k with
       |none=>rfl
       |some o=>rw[T k o hIk]at C;cases C
      |some o=>
       rcases S k o C with h|⟨h,_⟩
       ·exact h.symm
       ·exact absurd ⟨id,_,_,f,W,h⟩ ho }
 have hc':Conc n J μ (yL id es env) ((id,none)::WT id es st) aa a w :=
  {imm:=λk o h=>(S k o h).elim (λh=>v.imm k o h) λh=>h.2
   blk:=λi B V=>by
    obtain⟨_,D,l,rfl⟩:=A i B V;let⟨H,u,hr⟩:=v.blk i D l;exact⟨H,u,hr.mfr T W E⟩
   apart:=λi B H k V u L=>by
    obtain⟨m,D,l,rfl⟩:=A i B V;let⟨q1,q2⟩:=v.apart i D H k l u L;refine⟨?_,q2⟩;cases C:J k with
    |none=>rfl
    |some o=>
     rcases S k o C with h|⟨h,_⟩
     ·rw[q1]at h;cases h
     ·exact absurd (v.inj i id D _ H _ k l f u W L h) m
   inj:=λi j B bj H gj k hi hj u hgj hki hkj=>by
    obtain⟨_,b1,m,rfl⟩:=A i B hi;obtain⟨_,b2,l,rfl⟩:=A j bj hj;exact v.inj i j b1 b2 H gj k m l u hgj hki hkj
   nodup:=v.nodup
   idsFree:=v.idsFree
   size:=v.size
   env:=λt d hlt=>by
    have:∀{env:Env},lk (yL id es env) t=some d->∃d0,lk env t=some d0/\d=Vb id es d0:=by
     intro env
     induction env with
     |nil=>intro h;simp[yL,lk]at h
     |cons p r ih=>
      obtain⟨s,x⟩:=p;intro h;simp only[yL]at h;by_cases hs:s=t
      ·subst hs;rw[A7]at h;cases h;exact⟨x,A7 _ _ _,rfl⟩
      ·rw[AB _ _ hs]at h;rw[AB _ _ hs];exact ih h
    obtain⟨d0,m,rfl⟩:=this hlt;exact(v.env t d0 m).mfr T W E
   defers:=v.defers.ext hE }
 exact(h b cs J μ a w K hd hc').mono λe' a' w' hp=>hp.back (.refl _ _)<|hE
def ipL:L1 V->L1 D
 |[]=>[]
 |.ip t f e::r=>.ip t f e::ipL r
 |x::r=>.imm x::ipL r
def tW:∀{xs:L1 Value} {vs:L1 V},RepL I μ xs (vs.map .imm)->RepL I μ xs (ipL vs)
 |[],[],h=>h
 |[],v::vs,h=>absurd h.1 (by simp)
 |x::xs,[],h=>absurd h.1 (by simp)
 |x::xs,v::vs,h=>by obtain⟨e,f⟩:=(show RepL I μ (x::xs) (.imm v::vs.map .imm)from h).cons;have:=tW f;cases v with|ip t m l=>exact .mk e.immInv.ipD this|_=>{exact .mk e this}
def P4 {f:FuncId} {vs:L1 V} {v:V} (h:Ht P f (ipL vs) [] (.ret (.imm v) [])):Iz P f vs v:=λI μ w l e m=>h I μ w l e (tW m)
def zdo (n:Nat) (env:Env) (todo:L1 DI):Option vS :=
 match B1 todo ([],[])with
 |some (all,o,s)=>match o.op,CF all env o with
  |.call { callee:=.value (.tmp t),args:=⟨args⟩,.. },some g=>match lk env t,Kv (Ap g) env args with
   |some (.imm (.clo (.func f) a b)),some (h,ob)=>match O8 h,Ce n o.dst with
    |some e,true=>match o.dst with
     |some t=>some ⟨f,a++e++b,g,ob,some t,s⟩
     |none=>some ⟨f,a++e++b,g,ob,none,s⟩
    |_,_=>none
   |_,_=>none
  |_,_=>none
 |none=>none
def Us:∀l:L1 V,O8 (l.map .imm)=some l
 |[]=>rfl
 |x::r=>by simp[O8,toV,Us r]
def LZ:∀{a b:L1 D} {xs ys:L1 V},O8 a=some xs->O8 b=some ys->O8 (a++b)=some (xs++ys)
 |[],b,xs,ys,e,f=>by cases e;exact f
 |d::r,b,xs,ys,e,f=>by simp only[O8]at e;split at e;rename_i x h l m;cases e;simp[O8,l,LZ m f];cases e
def TW {f:FuncId} {vs:L1 V} {g:S0} {ob:L1 Prop} {dst:Option Nat} {s:L1 DI} {v:V} (h:zdo n env todo=some ⟨f,vs,g,ob,dst,s⟩) (C:Ap g->Iz P f vs v) (m:A8 ob) (D:G P n F Q s (Ca dst (gD g (.imm v)) env) st aa):G P n F Q todo env st aa:=by unfold zdo at h;split at h;rename_i all o e H;have p:∀u,o.op=.call u->∀c,o.op≠.defer c:=λu h c z=>by{rw[h]at z;cases z};split at h;rename_i t A j K B N;split at h;rename_i R a b k y S W;split at h;rename_i q d i;have r:R=f/\a++q++b=vs/\K=g/\y=ob/\o.dst=dst/\e=s:=by{split at h<;>(rename_i l;cases h;exact⟨rfl,rfl,rfl,rfl,l,rfl⟩)};obtain⟨rfl,rfl,rfl,rfl,rfl,rfl⟩:=r;exact BQ (fr:=[]) (wr:=[]) H (TV N (SY B S W m) (LZ (LZ (Us a) d) (Us b)) C) i (p _ B) D;cases h;cases h;cases h;cases h
end
end Go.Hk
namespace Go.Hk
def WE (P:Program) (n:Nat) (c:Code) (env:Env) (st:St) (aa:L1 Nat) (l:Env) (au:St) (ids':L1 Nat):Prop :=
 ∀(b:Frame) (h:L1 Frame) (Q:Exit->Act->World->Prop) (I:U) (μ:Mu) (a:Act) (w:World) (e:L1 Item),Conc n I μ env st aa a w ->
  (∀m f p w',Conc n m f l au ids' p w'->μ.le f->Ext I μ st w m f au w'->Reach P b h Q e p w')->Reach P b h Q (.code c::e) a w
def RM (P:Program) (n:Nat) (all rest:L1 Oper) (env:Env) (st:St) (aa:L1 Nat) (l:Env) (au:St) (ids':L1 Nat):Prop :=
 ∀(b:Frame) (h:L1 Frame) (Q:Exit->Act->World->Prop) (I:U) (μ:Mu) (a:Act) (w:World) (e:L1 Item) (j:Nat),rest=all.drop j->Conc n I μ env st aa a w ->
  (∀m f p w',Conc n m f l au ids' p w'->μ.le f->Ext I μ st w m f au w'->Reach P b h Q e p w')->Reach P b h Q (.inRegion all.toArray (List.range' j rest.length)::e) a w
section
variable {P:Program} {n:Nat} {r:TT} {env l h E:Env} {st au q stx:St} {aa ids' p:L1 Nat} {c u:Code} {all rest:L1 Oper} {o:Oper} {ob:L1 Prop} {I:U} {μ:Mu} {w:World} {d:D}
def Mu.le_trans' {a b c:Mu} (h:a.le b) (k:b.le c):a.le c:=λi v e=>k i v (h i v e)
def rH {f:Nat} (h:RM P n all all env st aa l au ids'):WE P n (.region f ⟨all⟩ false) env st aa l au ids':=λb m Q I μ a w e p k=>by
 refine Ll ?_;have:=h b m Q I μ a w e 0 O p k;simpa[Yl]using this
def zja:RM P n all [] env st aa env st aa:=λb h Q I μ a w e j l f k=>Gz (k I μ a w f (Mu.le_refl μ) (Ext.refl _ _ _ _))
def zm9 {rd fr:L1 Nat} {wr:St} (e:LD P (λ_=>False) all o env st rd fr wr d) (g:o.guard=none) (u:∀c,o.op≠.defer c) (i:∀t,o.dst=some t->t<n) (h:RM P n all rest (Ca o.dst d env) (wr++st) ids' l au p):RM P n all (o::rest) env st (fr++ids') l au p:=by intro b E Q I μ a w f j F m k;let⟨J,y⟩:=EW F;have z:LR (o.looksAt all.toArray) I μ env a:=λt _ d e=>m.env t d e;have q:(o::rest).length=rest.length+1:=rfl;rw[q,Ms];have S:Region.wanted o (yielded all.toArray a.tmps)=true:=AJ g;let⟨L,_⟩:=e I μ st ids' a w (λ_ _=>rfl) m.toStRep z;refine Gq J S u (valX.upon ((L S).mono ?_ ?_));rintro v A ⟨T,B,V,C,D,s⟩;let⟨p1,p2,p3⟩:=HN (n:=n) (w:=A) (dst:=o.dst) (λt d e=>(m.env t d e).mono s.imm D) m.size i C;exact h b E Q T B (a.put o.dst v) A f (j+1) y {V with size:=p2,env:=by cases r:o.dst<;>simpa[Ca,r]using p1,defers:=by rw[p3];exact m.defers.ext s } λW G a2 w3 H K N=>k W G a2 w3 H (Mu.le_trans' D K) (s.trans N);rintro R A ⟨v,x,W,V,C,s,D,q5⟩;exact C.elim
def zl0 (m:TTok P r) {i:Nat} {x:Option Blk} {a8:St} {e:Env} {f:L1 Nat} (h:GW r n all o env st aa=.e e ((i,x)::a8) f ob) (q:A8 ob) (u:o.guard=none) (s:RM P n all rest e ((i,x)::st) f l au p):RM P n all (o::rest) env st aa l au p:=by let⟨d,fr,C,v,y,z,A,_,B⟩:=Yt (P:=P) (Pn:=λ_=>False) m h q;subst v;rw[y]at s;exact zm9 (wr:=[(i,x)]) B u A z s
def vP (l:TTok P r) {A:Nat} {m o2:Oper} {i:Nat} {x y:Option Blk} {a8 q:St} {e h:Env} {f p:L1 Nat} {s u:L1 Prop} (B:GW r n [m,o2] m env st aa=.e e ((i,x)::a8) f s) (C:m.guard=none) (D:GW r n [m,o2] o2 e ((i,x)::st) f=.e h ((i,y)::q) p u) (G:o2.guard=none) (v:A8 s) (z:A8 u):WE P n (.region A ⟨[m,o2]⟩ false) env st aa h ((i,y)::(i,x)::st) p:=rH (zl0 l B v C (zl0 l D z G zja))
end
end Go.Hk
namespace Go.Hk
def Qz (kp:L1 Nat):St->St
 |[]=>[]
 |(i,b)::r=>bif Gg kp i then Qz kp r else(i,b)::Qz kp r
def fR {kp:L1 Nat} {s:St} {i:Nat}:∀{W:St},lk (Qz kp W++s) i=if i∈kp then lk s i else lk (W++s) i
 |[]=>by simp[Qz]
 |(k,b)::r=>by have p:=fR (kp:=kp) (s:=s) (i:=i) (W:=r);simp only[Qz];cases l:Gg kp k with|true=>simp only[bg,Dj];rw[p];by_cases f:i∈kp;rw[ae f,ae f];rw[ac f,ac f,AB _ _ (λe:k=i=>f (by rw[<- e];exact Cp.1 l))]|false=>{simp only[bh,Dj];by_cases m:k=i;subst m;rw[A7,ac (λh=>by rw[Cp.2 h]at l;cases l),A7];rw[AB _ _ m,AB _ _ m,p]}
def aP (W st:St) (l:L1 Nat):L1 Nat->Prop
 |[]=>True
 |i::r=>(Gg l i=true/\lk W i=lk st i)/\aP W st l r
def SI {W st:St} {l:L1 Nat}:∀{kp:L1 Nat},aP W st l kp->∀i∈kp,i∈l/\lk W i=lk st i
 |[],_,i,h=>by cases h
 |k::r,h,i,hi=>by rcases Ck.1 hi with rfl|hi;exact⟨Cp.1 h.1.1,h.1.2⟩;exact SI h.2 i hi
structure zh3 where
 f:FuncId
 das:List D
 g:Option (Bool×Bool)
 ob:List Prop
 dst:Option Nat
 o:Oper
 all:List Oper
def zf7 (n:Nat) (env:Env) (todo:L1 DI):Option zh3 :=
 match B1 todo ([],[])with
 |some (all,o,_)=>match CF all env o,o.op with
  |some g,.call { callee:=.value (.func f),args:=⟨args⟩,.. }=>match Kv (Ap g) env args,Ce n o.dst with
   |some (e,ob),true=>some ⟨f,e,g,ob,o.dst,o,all⟩
   |_,_=>none
  |some g,.call { callee:=.value (.tmp t),args:=⟨args⟩,.. }=>match lk env t,Kv (Ap g) env args,Ce n o.dst with
   |some (.imm (.fn (.func f))),some (e,ob),true=>some ⟨f,e,g,ob,o.dst,o,all⟩
   |some (.fn (.func f) h l),some (e,ob),true=>some ⟨f,h++e++l,g,ob,o.dst,o,all⟩
   |_,_,_=>none
  |_,_=>none
 |none=>none
section
variable {P:Program} {n:Nat} {F:L1 Nat} {Q:DQ} {r:TT} {env l:Env} {st au bl a8:St} {aa ids' fr:L1 Nat} {k todo s:L1 DI} {I J:U} {μ:Mu} {w:World} {a:Act} {Pn:V->Prop} {d:D} {z:Prop} {ob:L1 Prop} {σ τ1:G2} {das:L1 D}
def zf6 {c:zh3} (h:zf7 n env todo=some c) (m:A8 c.ob):(∀f,∃s,B1 todo f=some (c.all,c.o,s))/\CF c.all env c.o=some c.g/\Ga P c.o env c.f c.das (Ap c.g)/\Ce n c.dst=true/\(∀x,c.o.op≠.defer x)/\c.dst=c.o.dst:=by unfold zf7 at h;have e:∀{all:L1 Oper} {o:Oper} {t:L1 DI},B1 todo ([],[])=some (all,o,t)->∀f,∃s,B1 todo f=some (all,o,s):=by{intro all o t h f;rcases KA h with⟨r,k,rfl,_⟩|⟨r,D,k,rfl,_⟩;exact⟨_,rfl⟩;exact⟨_,rfl⟩};split at h;rename_i all o t z;split at h;rename_i g f q C y p;split at h;rename_i B ob u v;cases h;exact⟨e z,y,Ho p u m,v,(λx l=>by rw[p]at l;cases l),rfl⟩;cases h;rename_i g G q C y p;split at h;rename_i f B ob A u v;cases h;exact⟨e z,y,G5 p A u m,v,(λx l=>by rw[p]at l;cases l),rfl⟩;rename_i f H K B ob A u v;cases h;exact⟨e z,y,Kw p A u m,v,(λx l=>by rw[p]at l;cases l),rfl⟩;cases h;cases h;cases h
def ze8 {all:L1 Oper} {o:Oper} {f:FuncId} {g:S0} (S:CF all env o=some g) (l:Ap g) (V:Ga P o env f das (Ap g)) (W:Ht P f (F1 (DZ σ) das) bl (.ret d a8)) (b:F3 σ st bl) (z:Lr σ τ1 das bl d a8 fr=true) (kp:L1 Nat) (A:aP (ET (Bg σ++τ1) a8++CC (FE σ)) st (FE σ) kp):LD P Pn all o env st (FE σ) fr (Qz kp (ET (Bg σ++τ1) a8++CC (FE σ))) (gD g (Lj (DZ (Bg σ++τ1)) d)):=by intro I μ q C a w r s v;have m:=Hi S v;refine⟨λ_=>?_,λD=>by rw[m.2 l]at D;cases D⟩;let⟨c,j,k⟩:=V I μ a w (Bx v) l;have y:=Hp r b;have G:=Rj z;let⟨n,t,x⟩:=HI s y G.args j;rw[k];refine(W I _ w c n t).mono (λu w' E=>?_) (λ_ _ h=>h.elim);obtain⟨F,J,L,Q,T,r4⟩:=E;let⟨ν,H,K,s3,N⟩:=NK s y G L Q T r4 x;rw[<- N6]at H N;have e:∀i,lk (ET (Bg σ++τ1) a8++CC (FE σ)++q) i=lk (Qz kp (ET (Bg σ++τ1) a8++CC (FE σ))++q) i:=λi=>by{rw[fR];by_cases B:i∈kp;rw[ae B];let⟨R,k2⟩:=SI A i B;have hm:i∈(ET (Bg σ++τ1) a8++CC (FE σ)).map (·.1):=by{rw[Cy,MO];exact B2.2 (.inr R)};rw[GC hm,k2,r i R];rw[ac B]};refine⟨F,ν,H.congr e,?_,s3,N.congr (λ_=>rfl) e⟩;cases g with|none=>exact K|some p=>{exact .guard _ _ _ _ (λ_=>K) (λz=>absurd l z)}
def AD {c:zh3} (σ τ1:G2) (kp:L1 Nat) {fr:L1 Nat} {nm:L1 Nat} (h:zf7 n env todo=some c) (f:Ap c.g) (l:A8 c.ob) (u:Ht P c.f (F1 (DZ σ) c.das) bl (.ret d a8)) (v:F3 σ st bl) (y:Lr σ τ1 c.das bl d a8 fr=true) (m:aP (ET (Bg σ++τ1) a8++CC (FE σ)) st (FE σ) kp) (p:(Qz kp (ET (Bg σ++τ1) a8++CC (FE σ))).map (·.1)=nm) (z:B1 todo (FE σ,nm)=some (c.all,c.o,s)) (e:aa=fr++ids') (q:G P n F Q s (Ca c.dst (gD c.g (Lj (DZ (Bg σ++τ1)) d)) env) (Qz kp (ET (Bg σ++τ1) a8++CC (FE σ))++st) ids'):G P n F Q todo env st aa:=by let⟨_,A,B,r,C,D⟩:=zf6 (P:=P) h l;subst e;rw[D]at r q;subst p;exact BQ z (ze8 A f B u v y kp m) r C q
end
end Go.Hk
namespace Go.Hk
structure PBo where
 e:TypeId
 es:List (List V)
 sz:Nat
 ob:List Prop
 dst:Option Nat
 todo:List DI
def zlx (r:TT) (n:Nat) (env:Env) (q:Nat) (todo:L1 DI):Option PBo :=
 match B1 todo ([],[q])with
 |some (_,o,s)=>match o.guard,o.op with
  |none,.buildSlice t m ⟨parts⟩=>match lk r t,Ce n o.dst with
   |some { sh:=.sl e,.. },true=>match lk r e with
    |some i=>match JT True env i.size 0 parts,Nat.beq m parts.length,Nat.ble (m*i.size) 16777216,Nat.blt 0 i.size,Nat.blt 0 m with
     |some (es,f),true,true,true,true=>some ⟨e,es,i.size,f,o.dst,s⟩
     |_,_,_,_,_=>none
    |none=>none
   |_,_=>none
  |_,_=>none
 |none=>none
section
variable {P:Program} {n:Nat} {F:L1 Nat} {Q:DQ} {r:TT} {env l:Env} {st au bl a8:St} {aa ids' fr:L1 Nat} {k todo s:L1 DI} {I J:U} {μ:Mu} {w:World} {a:Act} {Pn:V->Prop} {d:D} {z:Prop} {ob:L1 Prop}
def zn7 (g:TTok P r) {o:Oper} {t e:TypeId} {i:TyI} {m:Nat} {parts:R0} (ho:o.op=.buildSlice t m ⟨parts⟩) (j:P.underlying t=some (.slice e)) (hi:lk r e=some i) {es:G1} {n:L1 Prop} (E:JT True env i.size 0 parts=some (es,n)) (F:A8 n) (J:m=parts.length) (L:m*i.size<=16777216) (Q:0<i.size) (T:0<m) (H:EN I μ env a o.op):∃R:K1,(execOp a.eval o).run P w=.ok (.value (.slice (some ⟨w.heap.size,0,none⟩) m m)) (w.alloc (.cells R.flatten.toArray e))/\R.length=m/\es.length=m/\(∀c∈R,c.length=i.size)/\(∀c∈es,c.length=i.size)/\∀(k:Nat) (c:L1 Value) (x:L1 V),R[k]?=some c->es[k]?=some x->RepVL I c x/\∀u∈c,u.oneCell'=true:=by have K:=g e i hi;rw[ho]at H;obtain⟨inf,W,hi1,hi2,_,hi4,hi5,hi6⟩:=K.info;let⟨q1,q2,b⟩:=MK (a:=a) (I:=I) (μ:=μ) ab parts 0 es n E F (λp y=>H p.2 (by simp only[Op.operands];exact C7.2 ⟨p,y,rfl⟩));have hz0:m*i.size≠0:=by{have:=Nat.mul_pos T Q;omega};obtain⟨A,hA,hA1⟩:∃A:L1 Value,A.length=m*i.size/\(Array.range (m*i.size)).map (λk=>W.cells[k % W.cells.size]!)=A.toArray:=⟨((Array.range (m*i.size)).map (λk=>W.cells[k % W.cells.size]!)).toList,by simp,rfl⟩;let⟨c1,d,c3⟩:=Pe i.size m A hA;have hq:∀p∈(parts.map λ(p:Nat×Operand)=>(p.1,a.eval p.2)),∃h,(Ig i.size m A)[p.1]?=some h/\p.2.cells.size=h.length:=by{intro p y;obtain⟨q,hm,rfl⟩:=C7.1 y;let⟨k,v⟩:=HW hm;have h1:=q2 k q v;have z:k<parts.length:=(A9.1 v).1;have f:k<es.length:=by{rw[q1];exact z};let⟨_,r2,_,_⟩:=b k q es[k] v (Bq f);have G:q.1<(Ig i.size m A).length:=by{rw[d];omega};exact⟨_,Bq G,by rw[r2,c3 _ (KG G)]⟩};have D:∀k h,(Ig i.size m A)[k]?=some h->some (k*i.size,i.size)=some (((Ig i.size m A).take k).flatten.length,h.length):=by{intro k h hs;have z:k<m:=by{rw[<- d];exact(A9.1 hs).1};rw[BF (sz:=i.size) (λc B=>c3 c (PU B)),c3 h (AF hs)];rw[Gt,d,PR (by omega)]};have l:=N8 (λk=>some (k*i.size,i.size)) (parts.map λ(p:Nat×Operand)=>(p.1,a.eval p.2)) _ D hq;rw[c1]at l;obtain⟨R,hR⟩:∃R,(parts.map λ(p:Nat×Operand)=>(p.1,a.eval p.2)).foldl (λs p=>s.set p.1 p.2.cells.toList) (Ig i.size m A)=R:=⟨_,rfl⟩;rw[hR]at l;have N:R.length=m:=by{rw[<- hR,FS,d]};have S:∀(k:Nat) (c:L1 Value),R[k]?=some c->∃p,parts[k]?=some p/\c=(a.eval p.2).cells.toList:=by{intro k c v;have z:k<parts.length:=by{rw[<- J,<- N];exact(A9.1 v).1};have y:parts[k]?=some parts[k]:=Bq z;have h1:(parts[k]).1=k:=by{have:=q2 k _ y;omega};rw[<- hR]at v;let⟨r1,_⟩:=JR _ _ k c v;refine⟨_,y,r1 _ (C7.2 ⟨parts[k],KG z,by rw[h1]⟩) λu j=>?_⟩;let⟨q,hm,he⟩:=C7.1 j;simp only[AN]at he;let⟨k',C⟩:=HW hm;have:=q2 k' q C;have e:k'=k:=by{omega};subst e;rw[y]at C;have C:=JM C;rw[C,<- he.2]};refine⟨R,?_,N,by omega,λc B=>?_,λc B=>?_,λk c x v hx=>?_⟩;have hno:¬m*i.size > 2 ^ 24:=by{omega};simp only[execOp,ho,Instr.buildSlice,aj,ak j,K.sizeOf w,ah,hno,aw,am,ac hz0,zeroValue,typeInfo,cm,hi1,hi4];rw[hA1,PS,l];simp only[newRow,aj,dh,ah,am];rfl;let⟨k,v⟩:=HW B;obtain⟨p,y,rfl⟩:=S k c v;have f:k<es.length:=by{rw[q1];exact(A9.1 y).1};let⟨_,r2,_,_⟩:=b k p _ y (Bq f);simpa using r2;let⟨k,v⟩:=HW B;have f:k<parts.length:=by{rw[<- q1];exact(A9.1 v).1};exact(b k _ c (Bq f) v).2.2.1;obtain⟨p,y,rfl⟩:=S k c v;let⟨r1,_,_,r4⟩:=b k p x y hx;exact⟨r1,r4⟩
def zge (B:TTok P r) (q:Nat) {c:PBo} (h:zlx r n env q todo=some c) (C:A8 c.ob) (v:G P n F Q c.todo (Ca c.dst (.own q c.es.length) env) ((q,some (.row c.e c.sz c.es))::st) ids'):G P n F Q todo env st (q::ids'):=by unfold zlx at h;split at h;rename_i all o s h1;split at h;rename_i t m parts hgd D;split at h;rename_i e _ _ _ _ ht hd;split at h;rename_i i hi;split at h;rename_i es o' hel hm p f hm0;cases h;simp only at C v;have v:G P n F Q s (Ca o.dst (.own q es.length) env) ([(q,some (.row e i.size es))]++st) ids':=v;refine BQ (fr:=[q]) (wr:=[(q,some (.row e i.size es))]) (rd:=[]) h1 ?_ hd (λc d=>by rw[D]at d;cases d) v;intro I μ a8 H a w hag hst hon;refine⟨λ_=>?_,λhw=>by rw[AJ hgd]at hw;cases hw⟩;have f:=show 0<i.size by{simpa[JO]using f};let⟨R,r1,A,g,y,E,r6⟩:=zn7 (w:=w) B D (B.sh ht) hi hel C (CU hm) (zek p) f (by simpa[JO]using hm0) (Bx hon);rw[r1];have hfl:RepVL I R.flatten es.flatten:=by{refine⟨by rw[BF y,BF E,A,g],λj u x hu J=>?_⟩;have z:j<m*i.size:=by{rw[<- A,<- BF y];exact(A9.1 hu).1};have h1:j / i.size<m:=zey (by rw[Vt];exact z);have h2:j % i.size<i.size:=gc _ f;have e1:R[j / i.size]?=some R[j / i.size]:=Bq (by omega);have e2:es[j / i.size]?=some es[j / i.size]:=Bq (by omega);let⟨L,p2⟩:=r6 _ _ _ e1 e2;have l1:=y _ (AF e1);have l2:=E _ (AF e2);have f1:=CO y _ _ (j % i.size) _ e1 (Bq (by omega));have f2:=CO E _ _ (j % i.size) _ e2 (Bq (by omega));have ej:j / i.size*i.size+j % i.size=j:=by{rw[Vt,oC]};rw[ej]at f1 f2;rw[f1]at hu;rw[f2]at J;cases hu;cases J;exact L.2 _ _ _ (Bq (by omega)) (Bq (by omega))};have K:∀c∈es,∀x∈c,V.one x=true:=λc d x J=>by{let⟨k,v⟩:=HW d;let⟨l,hl⟩:=HW J;have z:k<R.length:=by{rw[A,<- g];exact(A9.1 v).1};let⟨L,p2⟩:=r6 k _ c (Bq z) v;have N:l<(R[k]).length:=by{rw[L.1];exact(A9.1 hl).1};exact(L.2 l _ x (Bq N) hl).oneV (p2 _ (KG N))};have hcm:m<=maxLen:=by{have T:=zek p;have:m*1<=m*i.size:=zl4 m f;unfold maxLen;omega};have S:(w.alloc (.cells R.flatten.toArray e)).ownsRow 0 e i.size (.slice (some ⟨w.heap.size,0,none⟩) m m) es.length R.flatten:=by{rw[g];refine⟨by rw[BF y,A],.inr ⟨w.heap.size,m,R.flatten.toArray,rfl,AK _,Fi w _,BO _,hcm,by simp[BF y,A],?_⟩⟩;have:R.flatten.toArray.toList=R.flatten:=rfl;rw[this,CA (by rw[BF y,A];exact BO _)]};let⟨W,q1,q2,q3,q4⟩:=StRep.renew (id':=q) (aa:=H) (rd:=[]) (v':=.slice (some ⟨w.heap.size,0,none⟩) m m) (blk':=.row e i.size es) hst (World.grownBy_alloc w _ none) (λb T=>by cases T) (λb T=>by{have:w.heap.size=b:=T;subst this;exact⟨by simp,.inl (BO _)⟩}) (λW=>⟨R.flatten,S,hfl,E,K,f⟩);refine⟨I,W,q3,?_,q2,q4⟩;rw[g];exact .own q m _ m q1;cases h;cases h;cases h;cases h;cases h
end
end Go.Hk
namespace Go.Hk
section
variable {P:Program} {n:Nat} {F:L1 Nat} {Q:DQ} {r:TT} {env l:Env} {st au bl a8:St} {aa ids' fr:L1 Nat} {k todo s:L1 DI} {I J:U} {μ:Mu} {w:World} {a:Act} {Pn:V->Prop} {d:D} {z:Prop} {ob:L1 Prop}
end
end Go.Hk
namespace Go.Hk
section
variable {P:Program} {n:Nat} {F:L1 Nat} {Q:DQ} {r:TT} {env l:Env} {st au bl a8:St} {aa ids' fr:L1 Nat} {k todo s:L1 DI} {I J:U} {μ:Mu} {w:World} {a:Act} {Pn:V->Prop} {d:D} {z:Prop} {ob:L1 Prop}
end
end Go.Hk
namespace Go.Hk
def nlL (j:Nat):L1 D->L1 D->Prop
 |[],[]=>True
 |d::r,e::f=>(d=e\/(d=.nils/\e=.own j 0))/\nlL j r f
 |_,_=>False
def eY {j:Nat}:∀{ds e:L1 D},nlL j ds e->ds.length=e.length/\∀(i:Nat) (f:D),e[i]?=some f->∃d,ds[i]?=some d/\(d=f\/(d=.nils/\f=.own j 0))
 |[],[],_=>⟨rfl,λi d h=>by simp at h⟩
 |d::r,f::q,h=>by let⟨m,p⟩:=eY h.2;refine⟨by simp[m],λi x l=>?_⟩;cases i with|zero=>simp at l;subst l;exact⟨d,rfl,h.1⟩|succ i=>{exact p i x (by simpa using l)}
 |[],_::_,h=>h.elim
 |_::_,[],h=>h.elim
section
variable {P:Program} {n:Nat} {F:L1 Nat} {Q:DQ} {r:TT} {env l:Env} {st au:St} {aa ids':L1 Nat} {todo:L1 DI}
def Fj (k j:Nat) {e t:TypeId} {sz f:Nat} {ds:L1 D} (l:L1 D) (z:0<sz) (K:lk st k=some (some (.cells t f ds))) (A:nlL j ds l)
  (h:DGo P n F Q todo env ((k,some (.cells t f l))::(j,some (.row e sz []))::st) ids'):DGo P n F Q todo env st (j::ids'):=by
 refine Es λI μ a w m=>?_;let⟨gk,r,_⟩:=m.blk k _ K;have B:j≠k:=λe=>by rw[<- e,m.idsFree j (by simp)]at r;cases r
 let⟨N,W,c⟩:=StRep.relay (R:=[]) (new:=[(j,.slice none 0 0,.row e sz [])]) (ids':=ids') m.toStRep
  (λp s b u=>by rw[AL.1 s]at u;exact u.elim)
  (λp s q g b _ _=>by rw[AL.1 s,AL.1 g]) (U.le_refl I) m.imm (λb o h=>.inl h)
  (λ_ p s=>by rw[AL.1 s];exact⟨[],b6 w 0 e sz,.nil,by simp,by simp,z⟩)
 have C:Fq [(j,Value.slice none 0 0,Blk.row e sz [])] μ j=some (.slice none 0 0):=by simp[Fq,lk]
 have G:Aw ((j,some (.row e sz []))::st) k (.cells t f ds):=A1.2 (.inr ⟨B.symm,K⟩);let⟨R,x⟩:=eY A;let⟨E,J⟩:=W.retell (a8:=(k,some (.cells t f l))::(j,some (.row e sz []))::st) (λi L H=>by
  rcases A1.1 H with⟨rfl,rfl⟩|⟨_,T⟩
  ·refine⟨_,G,λgb u=>?_⟩;obtain⟨hs,b,us,e1,e2,S,e4⟩:=u;refine⟨by rw[<- R,hs],b,us,e1,e2,⟨by rw[<- R,S.1],λi v y hv hy=>?_⟩,e4⟩;let⟨d,y1,y2⟩:=x i y hy;have V:=S.2 i v d hv y1;rcases y2 with rfl|⟨rfl,rfl⟩
   ·exact V
   ·cases V;exact .own j 0 none 0 C
  ·exact⟨L,T,λ_ h=>h⟩)
 exact⟨I,_,env,_,ids',E,λt d hd=>(m.env t d hd).mono (U.le_refl I) N,c.trans J,.of_le N,h⟩
end
end Go.Hk
namespace Go.Hk
section
variable {P:Program} {n:Nat} {F:L1 Nat} {Q:DQ} {r:TT} {env l:Env} {st au:St} {aa ids':L1 Nat} {todo:L1 DI} {d:D} {ob:L1 Prop}
end
end Go.Hk
namespace Go.Hk
section
variable {P:Program} {n:Nat} {F:L1 Nat} {Q:DQ} {r:TT} {env l:Env} {st au:St} {aa ids':L1 Nat} {todo:L1 DI}
end
end Go.Hk
namespace Go.Hk
section
variable {P:Program} {n:Nat} {F:L1 Nat} {Q:DQ} {r:TT} {env l:Env} {st au:St} {aa ids':L1 Nat} {todo s:L1 DI} {I:U} {μ:Mu}
end
end Go.Hk
namespace Go.Hk
section
variable {P:Program} {n:Nat} {F:L1 Nat} {Q:DQ} {r:TT} {env l:Env} {st au:St} {aa ids':L1 Nat} {k todo s:L1 DI} {I:U} {μ:Mu} {w:World} {a:Act} {Pn:V->Prop} {d:D} {z:Prop} {ob:L1 Prop}
end
end Go.Hk
namespace Go.Hk
structure zp2 where
 dx:D
 es:List (List V)
 es2:List (List V)
 sz:Nat
 bytes:Nat
 dst:Option Nat
 todo:List DI
def vN:D->Option (L1 (L1 V))
 |.nils=>some []
 |.clip es=>some es
 |_=>none
def zly (r:TT) (n:Nat) (env:Env) (todo:L1 DI):Option zp2 :=
 match B1 todo ([],[])with
 |some (_,o,s)=>match o.guard,o.op with
  |none,.call { callee:=.builtin .append,args:=⟨[x,y]⟩,argTypes:=⟨[t,l]⟩ }=>match Nat.beq t l,lk r t,EM env x,EM env y with
   |true,some { sh:=.sl e,.. },some h,some (.imm (.sl (m::f)))=>match lk r e,vN h with
    |some i,some es=>match Nat.beq i.zero.length i.size&&Nat.blt 0 i.size,Ce n o.dst with
     |true,true=>some ⟨h,es,m::f,i.size,i.bytes,o.dst,s⟩
     |_,_=>none
    |_,_=>none
   |_,_,_,_=>none
  |_,_=>none
 |none=>none
section
variable {P:Program} {n:Nat} {F:L1 Nat} {Q:DQ} {r:TT} {env l:Env} {st au:St} {aa ids':L1 Nat} {k todo s:L1 DI} {I:U} {μ:Mu} {w w':World} {a:Act} {Pn:V->Prop} {d:D} {z:Prop} {ob:L1 Prop}
def StRep.growI (f:StRep I μ st aa w) (q:w.grownBy w' none) {c:Nat} {o:Obj} (C:w.heap.size<=c) (B:w'.heap[c]?=some o):∃s,s c=some o/\I.le s/\StRep s μ st aa w'/\Ext I μ st w s μ st w':=by have r:I c=none:=by{cases h:I c with|none=>rfl|some A=>{have:=Cx (f.imm _ _ h);omega}};have l:∀b,b<w.heap.size->w'.heap[b]?=w.heap[b]?:=λb m=>q.block b m (by simp);have p:I.le (λb=>if b=c then some o else I b):=λb A h=>by{have:b≠c:=λe=>by{rw[e,r]at h;cases h};simp[this,h]};refine⟨λb=>if b=c then some o else I b,by simp,p,?_,?_⟩;refine { imm:=λb A h=>?_,blk:=λid blk u=>?_,apart:=λid blk g b u y m=>?_,inj:=f.inj,nodup:=f.nodup,idsFree:=f.idsFree };by_cases m:b=c;subst m;simp at h;subst h;exact B;simp[m]at h;have:=f.imm _ _ h;rw[l b (Cx this)];exact this;let⟨g,v,z⟩:=f.blk id blk u;exact⟨g,v,(z.mono p (Mu.le_refl μ)).world (λb m=>l b (f.apart id blk g b u v m).2)⟩;let⟨v,z⟩:=f.apart id blk g b u y m;have:b≠c:=by{omega};exact⟨by simp[this,v],ZM z q.size⟩;exact { imm:=p,os:=q.os,tape:=q.tape,output:=q.output,size:=q.size,block:=λb m _=>l b m,fresh:=λb _ h=>h,old:=λb m _=>ac (by omega) }
def zm3 {e:TypeId} {sz:Nat} {u:Value} {es:G1} {xs:L1 Value} (h:w.ownsRow 0 e sz u es.length xs) (B:RepVL I xs es.flatten) (m:∀c∈es,c.length=sz) (R:∀v∈xs,v.oneCell'=true) {b:Nat} {o:Obj} (y:u.ownBlock=some b) (N:w.heap[b]?=some o) (S:I b=some o):M I u (.sl es):=by rcases h.2 with⟨rfl,_⟩|⟨g,C,r,rfl,_,p,D,G,W,q⟩;cases y;have y:g=b:=by{simpa[Value.ownBlock]using y};subst y;rw[p]at N;cases N;have a:=h.1;refine .sl g 0 es.length C sz es (λi j=>(xs[i*sz+j]?).getD undef) O D G m ?_ ?_;intro i c j x H K;have z:=CO m i c j x H K;have l:i*sz+j<xs.length:=by{rw[B.1];exact(A9.1 z).1};have f:xs[i*sz+j]?=some xs[i*sz+j]:=Bq l;rw[f,KF];refine⟨?_,R _ (KG l)⟩;unfold U.cell;rw[S];have s:r[i*sz+j]?=some xs[i*sz+j]:=by{have d:(r.toList.take (es.length*sz))[i*sz+j]?=some xs[i*sz+j]:=by{rw[q];exact f};have A:=d;rw[DO]at A;split at A;simpa using A;cases A};simp only[BS,s];intro i c j x H K;have z:=CO m i c j x H K;have l:i*sz+j<xs.length:=by{rw[B.1];exact(A9.1 z).1};have f:xs[i*sz+j]?=some xs[i*sz+j]:=Bq l;rw[f,KF];exact B.2 _ _ x f z
def zZ (htt:TTok P r) {c:zp2} (h:zly r n env todo=some c) (hok:zhl c.sz c.bytes (.clip []) c.es c.es2) (W:∀x∈c.es,x.length=c.sz) (hk:G P n F Q c.todo (Ca c.dst (.imm (.sl (c.es++c.es2))) env) st aa):G P n F Q todo env st aa:=by unfold zly at h;split at h;rename_i all o s hn1;split at h;rename_i x y t t' hg d;split at h;rename_i e _ _ _ _ dx A l htt' ht hx hy;have:=CU htt';subst this;split at h;rename_i i es hi N;split at h;rename_i hz hd;cases h;simp only at hok W hk;refine BQ (fr:=[]) (wr:=[]) (rd:=[]) hn1 ?_ hd (λc hc=>by rw[d]at hc;cases hc) hk;intro I μ a8 C a w hag E hon;refine⟨λ_=>?_,λhw=>by rw[AJ hg]at hw;cases hw⟩;have D:=Bx hon;rw[d]at D;have rx:=D x (by simp[Op.operands,Call.operands]) _ hx;have ry:=(D y (by simp[Op.operands,Call.operands]) _ hy).immInv;obtain⟨inf,z,z1,z2,z3,z4,z5,z6⟩:=(htt e i hi).info;have hu:P.underlying t=some (.slice e):=htt.sh ht;simp only[Am,JO]at hz;have hzl:z.cells.size=i.size:=by{have:=(z5 I μ).1;rw[CU hz.1]at this;simpa using this};obtain⟨k1,k2,k3,_⟩:=hok;have hrun:∀{u w'},(Builtin.append_ #[t,t] o.type #[a.eval x,a.eval y]).run P w=.ok u w'->(execOp a.eval o).run P w=.ok (.value u) w':=by{intro u w' h;simp only[execOp,d,resolve,invoke,builtin,aj,am,ah,PS,C0,Jk,h]};rcases TO E.imm ry k1 hz.2 with⟨_,e0⟩|⟨yb,yo,yc,p,ey,_,_,n1,n2,n3,n4,n5⟩;cases e0;have fin:∀{u:Value} {w':World} {xs:L1 Value},(Builtin.append_ #[t,t] o.type #[a.eval x,a.eval y]).run P w=.ok u w'->w'.ownsRow 0 e i.size u (es.length+(A::l).length) (xs++p)->w.grownBy w' none->(∀b,u.ownBlock=some b->w.heap.size<=b)->RepVL I xs es.flatten->(∀v∈xs,v.oneCell'=true)->valX P ((execOp a.eval o).run P w) (λv w'=>∃B f,StRep B f ([]++a8) C w'/\X B f v (.imm (.sl (es++A::l)))/\μ.le f/\Ext I μ a8 w B f ([]++a8) w') (NS (NR Q) I μ a8 w):=by{intro u w' xs r1 r2 r3 r4 r5 r6;rw[hrun r1];obtain⟨b,N,R⟩:∃b,u.ownBlock=some b/\b<w'.heap.size:=by{rcases r2.2 with⟨_,hh⟩|⟨g,m,ca,rfl,_,J,_⟩;simp at hh;exact⟨g,rfl,Cx J⟩};have ho:w'.heap[b]?=some w'.heap[b]:=PW R;let⟨B,q1,q2,L,q4⟩:=E.growI r3 (r4 b N) ho;refine⟨B,μ,L,.imm _ _ (zm3 (es:=es++A::l) (by rw[AZ];exact r2) ?_ ?_ ?_ N ho q1),Mu.le_refl μ,q4⟩;rw[oB];exact(r5.append n4).mono q2;intro c hc;exact(B2.1 hc).elim (W c) (k1 c);intro v H;exact(B2.1 H).elim (r6 v) (n3 v)};have S:a.eval x=.slice none 0 0->es=[]->valX P ((execOp a.eval o).run P w) (λv w'=>∃B f,StRep B f ([]++a8) C w'/\X B f v (.imm (.sl (es++A::l)))/\μ.le f/\Ext I μ a8 w B f ([]++a8) w') (NS (NR Q) I μ a8 w):=λH he=>by{subst he;let⟨v',w',q1,q2,L,_⟩:=run_append_own (P:=P) w w.heap.size t o.type e inf z i.size i.bytes hu z1 z4 z2 z3 hzl hz.2 (.slice none 0 0) 0 [] (b6 w _ e i.size) ⟨yb,yo,none⟩ (A::l).length yc p n1 n2 n3 (by simpa using k2) (by simpa using k3) (BO _);have q2':w'.ownsRow 0 e i.size v' (0+(A::l).length) ([]++p):=⟨q2.1,q2.2.imp id λ⟨g,m,ca,a1,_,a2⟩=>⟨g,m,ca,a1,AK _,a2⟩⟩;exact fin (by rw[H,ey];exact q1) q2' ⟨L.os,L.tape,L.output,L.size,λb N _=>L.block b N (by simp[Value.ownBlock])⟩ (λb h=>(q2.lt b h).1) .nil (by simp)};have K:∀(ad:Addr) (m:Nat) (xs:L1 Value),a.eval x=.slice (some ad) es.length m->xs.length=es.length*i.size->(∀j u,xs[j]?=some u->w.cell? (ad.add j)=some u)->m<es.length+(A::l).length->RepVL I xs es.flatten->(∀v∈xs,v.oneCell'=true)->valX P ((execOp a.eval o).run P w) (λv w'=>∃B f,StRep B f ([]++a8) C w'/\X B f v (.imm (.sl (es++A::l)))/\μ.le f/\Ext I μ a8 w B f ([]++a8) w') (NS (NR Q) I μ a8 w):=λad m xs H hl T R hr h1=>by{have hsmall:es.length+(A::l).length<=9223372036854775807:=by{simp only[maxLen]at k2;omega};have hr':=run_append_grow (P:=P) w t o.type e inf z hu z1 z4 ad es.length m xs (by rw[z2];exact hl) T ⟨yb,yo,none⟩ (A::l).length yc p (by rw[z2];exact n1) n2 R (by omega) (by rw[z3];exact growslice_fits R k3);have hge:=grownCap_ge w (es.length+(A::l).length) m e;have hcm:grownCap w (es.length+(A::l).length) m e<=maxLen:=dz w _ m e k2;have V:(xs++p).length=(es.length+(A::l).length)*i.size:=by{rw[AZ,hl,n1,Vh]};refine fin (by rw[H,ey];exact hr') (xs:=xs) ⟨V,.inr ⟨w.heap.size,_,_,rfl,AK _,Fi w.drew _,hge,hcm,?_,?_⟩⟩ ⟨rfl,rfl,rfl,by simp,λk hk _=>DB w.drew _ hk⟩ (λb h=>by simp[Value.ownBlock]at h;omega) hr h1;simp only[fd,aB,size_zeroCells,hzl,hl,n1,<- Vh];congr 1;omega;simp only[M1,Cl];rw[<- Cl,<- V];exact oA};cases dx with|nils=>simp only[vN,Ci]at N;subst N;have H:a.eval x=.slice none 0 0:=by{generalize a.eval x=v at rx;cases rx;rfl};exact S H O|clip es'=>simp only[vN,Ci]at N;subst N;have rx':∃ad q,a.eval x=.slice ad q q/\M I (.slice ad q q) (.sl es'):=by{generalize a.eval x=v at rx;cases rx with|clip ad q _ h=>{exact⟨ad,q,rfl,h⟩}};obtain⟨ad,q,H,hr⟩:=rx';rcases TO E.imm hr W hz.2 with⟨⟨adx,ex⟩,e0⟩|⟨xb,xo,xc,xs,ex,_,_,p1,p2,p3,p4,p5⟩;cases adx with|none=>exact S (H.trans ex) e0|some adx=>{subst e0;exact K adx 0 [] (H.trans ex) (by simp) (λj u h=>by simp at h) (by simp) .nil (by simp)};cases ex;exact K ⟨xb,xo,none⟩ _ xs H p1 p2 (by simp) p4 p3|_=>{simp[vN]at N};cases h;cases h;cases h;cases h;cases h
end
end Go.Hk
namespace Go.Hk
structure PCl where
 es:List (List V)
 m:Int
 m2:Int
 dst:Option Nat
 todo:List DI
def zlw (r:TT) (n:Nat) (env:Env) (todo:L1 DI):Option PCl :=
 match B1 todo ([],[])with
 |some (_,o,s)=>match o.guard,o.op with
  |none,.slice t x none (some h) (some c)=>match lk r t,EM env x,EM env h,EM env c,Ce n o.dst with
   |some { sh:=.sl e,.. },some (.imm (.sl es)),some (.imm (.int _ m)),some (.imm (.int _ f)),true=>match lk r e with
    |some _=>some ⟨es,m,f,o.dst,s⟩
    |none=>none
   |_,_,_,_,_=>none
  |_,_=>none
 |none=>none
section
variable {P:Program} {n:Nat} {F:L1 Nat} {Q:DQ} {r:TT} {env l:Env} {st au:St} {aa ids':L1 Nat} {k todo s:L1 DI} {I:U} {μ:Mu} {w w':World} {a:Act}
def znu (l:TTok P r) {c:PCl} (h:zlw r n env todo=some c) (g:c.m=c.es.length) (i:c.m2=c.es.length) (j:G P n F Q c.todo (Ca c.dst (.clip c.es) env) st aa):G P n F Q todo env st aa:=by unfold zlw at h;split at h;rename_i all o s D;split at h;rename_i t x E J hg p;split at h;rename_i e _ _ _ _ es L m T m2 H hx K N hd;split at h;rename_i ti q;cases h;simp only at g i j;subst g;subst i;refine BQ (fr:=[]) (wr:=[]) (rd:=[]) D ?_ hd (λc C=>by rw[p]at C;cases C) j;intro I μ a8 ids1 a w hag R S;refine⟨λ_=>?_,λhw=>by rw[AJ hg]at hw;cases hw⟩;have f:=Bx S;rw[p]at f;have rx:=(f x (by simp[Op.operands]) _ hx).immInv;have e1:a.eval E=.int L es.length:=(f E (by simp[Op.operands]) _ K).immInv.intInv;have e2:a.eval J=.int T es.length:=(f J (by simp[Op.operands]) _ N).immInv.intInv;have hb:∀(k:IntKind) (x y:Nat) (c:BoundsCode),x<=y->(Instr.sliceBound (.int k x) y c).run P w=.ok x w:=by{intro k x y c V;simp[Instr.sliceBound,asIntOf,V]};have z:∀(k:IntKind) (c:BoundsCode),(Instr.sliceBound (.int k 0) 0 c).run P w=.ok 0 w:=by{intro k c;simp[Instr.sliceBound,asIntOf]};have W:∃ad,(Instr.sliceAt t (a.eval x) none (some (.int L es.length)) (some (.int T es.length))).run P w=.ok (.slice ad es.length es.length) w/\M I (.slice ad es.length es.length) (.sl es):=by{generalize a.eval x=v at rx;cases rx with|slnil=>exact⟨none,by simp[Instr.sliceAt,ak (l.sh H),Instr.slice,Instr.sliceBounds,z,(l e ti q).sizeOf w],.slnil⟩|sl0 ad=>exact⟨ad,by simp[Instr.sliceAt,ak (l.sh H),Instr.slice,Instr.sliceBounds,z,(l e ti q).sizeOf w],.sl0 ad⟩|sl b o len cap sz _ vs hl C hm d u A=>{subst hl;refine⟨some ⟨b,o,none⟩,?_,.sl b o _ _ sz es vs O (BO _) (by omega) d u A⟩;simp[Instr.sliceAt,ak (l.sh H),Instr.slice,Instr.sliceBounds,hb _ _ _ _ C,hb _ _ _ _ (BO es.length),(l e ti q).sizeOf w,Jx]}};obtain⟨ad,r1,r2⟩:=W;have B:(execOp a.eval o).run P w=.ok (.value (.slice ad es.length es.length)) w:=by{simp only[execOp,p,e1,e2,ZZ,HX,aj,r1,ah,am]};rw[B];exact⟨I,μ,R,.clip _ _ _ r2,Mu.le_refl μ,Ext.refl _ _ _ _⟩;cases h;cases h;cases h;cases h
end
end Go.Hk
namespace Go.Hk
section
variable {P:Program} {n:Nat} {F:L1 Nat} {Q:DQ} {r:TT} {env l:Env} {st au:St} {aa ids':L1 Nat} {k todo s:L1 DI} {I:U} {μ:Mu} {w w':World} {a:Act}
end
end Go.Hk
namespace Go.Hk
def uC (P:Program) (t:TypeId) (m:String) (f:FuncId):Bool:=match P.info? t with
 |some i=>match i.methods.find? (·.name==m)with
  |some r=>r.path.toList.isEmpty&&(match r.func with
   |some (e,h)=>Nat.beq e f&&!h
   |none=>false)&&(match P.underlying t with
   |some (.pointer _)=>false
   |some _=>true
   |none=>false)
  |none=>false
 |none=>false
def zfw {P:Program} {t:TypeId} {m:String} {f:FuncId} (h:uC P t m f=true) (n:Nat) (v:Value) (w:World):(method (n+1) t v m).run P w=.ok (f,v) w:=by unfold uC at h;split at h;{rename_i i A;split at h;{rename_i r B;simp only[Am]at h;obtain⟨⟨C,l⟩,p⟩:=h;split at l;{rename_i K N D;simp only[Am,Kq]at l;have q:=CU l.1;subst q;have s:=l.2;subst s;have G:r.path.toList=[]:=List.isEmpty_iff.1 C;split at p;cases p;{rename_i u y H;(have e:∀z,(receiverAt t (.val v) false z).run P w=.ok v w:=λz=>by{unfold receiverAt;rw[aj,ak H,ah];cases u<;>first|rfl|exact absurd rfl (y _)});simp only[method,typeInfo,aj,cm,ah,A,B,G,follow,am,D,e]};cases p};cases l};cases h};cases h
section
variable {P:Program} {n:Nat} {F:L1 Nat} {Q:DQ} {r:TT} {env l:Env} {st au:St} {aa ids':L1 Nat} {k todo s:L1 DI} {z:Prop} {d:D} {ob y:L1 Prop}
 {I:U} {μ:Mu} {w:World} {a:Act}
def Xl {o:Oper} {r:Operand} {m:String} {f:FuncId} {args:L1 Operand} {B:Array TypeId} {ds:L1 D} {T:TypeId} {x:V} (s:o.op=.call { callee:=.invoke r m,args:=⟨args⟩,argTypes:=B }) (C:EM env r=some (.imm (.iface T x))) (G:Kv z env args=some (ds,ob)) (l:A8 ob) (H:uC P T m f=true):Ga P o env f (.imm x::ds) z:=by intro I μ a w h K;rw[s]at h;have N:=Ie (I:=I) (μ:=μ) (a:=a) K G l λy R=>h y (by simp[Op.operands,Call.operands,R]);have A:=(h r (by simp[Op.operands,Call.operands]) _ C).immInv;generalize S:a.eval r=v at A;cases A with|iface _ u _ W=>{refine⟨#[u]++(args.map a.eval).toArray,?_,?_⟩;simp only[M1];exact .mk (.imm _ _ W) (by simpa using N);have p:∃n,P.types.size+Made.depth=n+1:=⟨P.types.size+(Made.depth-1),by unfold Made.depth;omega⟩;obtain⟨n,p⟩:=p;have q:=zfw H n u w;have b:((#[Value.iface T u]++(args.map a.eval).toArray).extract 1 (#[Value.iface T u]++(args.map a.eval).toArray).size)=(args.map a.eval).toArray:=by{apply fy;simp[zeq];exact CA (by simp)};have c:(#[Value.iface T u]++(args.map a.eval).toArray)[0]?=some (.iface T u):=by{simp};have e:(⟨args⟩:Array Operand).map a.eval=(args.map a.eval).toArray:=by{simp};simp only[execOp,s,resolve,S,e,aj,am,ah,invoke,c,callMethod,b,cm,p,q]}
structure zp4 where
 T:TypeId
 m:String
 vs:List V
 g:Option (Bool×Bool)
 ob:List Prop
 dst:Option Nat
 todo:List DI
def zdn (n:Nat) (env:Env) (todo:L1 DI):Option zp4 :=
 match B1 todo ([],[])with
 |some (all,o,s)=>match o.op,CF all env o with
  |.call { callee:=.invoke r m,args:=⟨args⟩,.. },some g=>match EM env r,Kv (Ap g) env args with
   |some (.imm (.iface T x)),some (f,ob)=>match O8 (.imm x::f),Ce n o.dst with
    |some e,true=>match o.dst with
     |some t=>some ⟨T,m,e,g,ob,some t,s⟩
     |none=>some ⟨T,m,e,g,ob,none,s⟩
    |_,_=>none
   |_,_=>none
  |_,_=>none
 |none=>none
def bA (f:FuncId) {T:TypeId} {m:String} {vs:L1 V} {g:S0} {ob:L1 Prop} {dst:Option Nat} {s:L1 DI} {v:V} (h:zdn n env todo=some ⟨T,m,vs,g,ob,dst,s⟩) (H:uC P T m f=true) (K:Ap g->Iz P f vs v) (p:A8 ob) (N:G P n F Q s (Ca dst (gD g (.imm v)) env) st aa):G P n F Q todo env st aa:=by unfold zdn at h;split at h;rename_i all o e R;have q:∀A,o.op=.call A->∀c,o.op≠.defer c:=λA h c B=>by{rw[h]at B;cases B};split at h;rename_i r S C t W D a;split at h;rename_i b x w y d i;split at h;rename_i u j k;have z:b=T/\S=m/\u=vs/\W=g/\y=ob/\o.dst=dst/\e=s:=by{split at h<;>(rename_i l;cases h;exact⟨rfl,rfl,rfl,rfl,rfl,l,rfl⟩)};obtain⟨rfl,rfl,rfl,rfl,rfl,rfl,rfl⟩:=z;exact BQ (fr:=[]) (wr:=[]) R (TV a (Xl D d i p H) j K) k (q _ D) N;cases h;cases h;cases h;cases h
end
end Go.Hk
namespace Go.Hk
section
variable {P:Program} {n:Nat} {F:L1 Nat} {Q:DQ} {r:TT} {env l:Env} {st au:St} {aa ids':L1 Nat} {k todo s:L1 DI} {I:U} {μ:Mu} {w w':World} {a:Act}
def Kh:∀{ds:L1 D} {xs:L1 V},H2 ds=some xs->ds.length=xs.length
 |[],xs,h=>by cases h;rfl
 |d::r,xs,h=>by unfold H2 at h;split at h;rename_i e;cases e;rename_i x l e;cases e;split at h;rename_i m f;cases h;simp[Kh f];cases h;rename_i l e;cases e;split at h;rename_i m f;cases h;simp[Kh f];cases h;cases h
def Wd (k:Nat) {t:TypeId} {sz:Nat} {ds:L1 D} (xs:L1 V) (m:lk st k=some (some (.cells t sz ds))) (e:H2 ds=some xs) (h:DGo P n F Q todo env ((k,some (.immb t sz xs))::st) aa):DGo P n F Q todo env st aa:=by
 refine Es λI μ a w l=>?_;let⟨p,q⟩:=l.toStRep.retell (a8:=(k,some (.immb t sz xs))::st) (λi r f=>by
  rcases A1.1 f with⟨rfl,rfl⟩|⟨_,s⟩
  ·refine⟨_,m,λG u=>?_⟩;obtain⟨v,b,y,z,A,B,C⟩:=u;exact⟨by rw[<- Kh e,v],b,y,z,A,H1 e B,C⟩
  ·exact⟨r,s,λ_ h=>h⟩)
 exact⟨I,μ,env,_,aa,p,l.env,q,.refl _ _,h⟩
end
end Go.Hk
namespace Go.Hk
section
variable {P:Program} {n:Nat} {F:L1 Nat} {Q:DQ} {r:TT} {env l:Env} {st au bl a8:St} {aa ids' fr:L1 Nat} {k todo s:L1 DI} {I J:U} {μ:Mu} {w:World} {a:Act} {Pn:V->Prop}
end
end Go.Hk
namespace Go.Hk
section
variable {P:Program} {n:Nat} {F:L1 Nat} {Q:DQ} {env:Env} {st:St} {aa:L1 Nat} {todo:L1 DI} {ob:L1 Prop}
end
end Go.Hk
namespace Go.Hk
section
variable {P:Program} {n:Nat} {F:L1 Nat} {Q:DQ} {r:TT} {env:Env} {st:St} {aa:L1 Nat} {todo:L1 DI}
end
end Go.Hk
namespace Go.Hk
section
variable {P:Program} {n:Nat} {F:L1 Nat} {Q:DQ} {r:TT} {env:Env} {st:St} {aa:L1 Nat} {todo:L1 DI}
end
end Go.Hk
namespace Go.Hk
section
variable {P:Program} {n:Nat} {F:L1 Nat} {Q:DQ} {r:TT} {env l:Env} {st au:St} {aa ids':L1 Nat} {k todo s:L1 DI} {I:U} {μ:Mu} {w w':World} {a:Act} {Pn:V->Prop} {d:D} {z:Prop} {ob:L1 Prop}
end
end Go.Hk
namespace Go.Hk
end Go.Hk
namespace Go.Hk
open Go.Proofs
def bZ:TT:=[
 (3,⟨.int .i64,false,1,8,[.imm (.int .i64 0)]⟩),
 (25,⟨.struct [(0,22),(1,3),(2,9),(3,23)],true,4,56,[.imm (.int .i64 0),.imm (.int .i64 0),.imm (.str []),.nils]⟩),
 (4,⟨.bool,false,1,1,[.imm (.bool false)]⟩),
 (23,⟨.sl 25,false,1,24,[.nils]⟩),
 (1,⟨.func,false,1,8,[.imm .nilfn]⟩),
 (9,⟨.str,false,1,16,[.imm (.str [])]⟩),
 (92,⟨.ptr 98,false,1,8,[.imm .nilp]⟩),
 (22,⟨.int .i64,false,1,8,[.imm (.int .i64 0)]⟩),
 (49,⟨.struct [(0,45),(1,3),(2,9),(3,46),(4,47)],true,5,80,[.imm (.int .i64 0),.imm (.int .i64 0),.imm (.str []),.nils,.nils]⟩),
 (118,⟨.sl 84,false,1,24,[.nils]⟩),
 (28,⟨.int .i64,false,1,8,[.imm (.int .i64 0)]⟩),
 (5,⟨.int .u8,false,1,1,[.imm (.int .u8 0)]⟩),
 (43,⟨.struct [(0,9),(1,40),(2,41)],true,3,64,[.imm (.str []),.nils,.nils]⟩),
 (120,⟨.map 3 4,false,1,8,[.imm .nilmap]⟩),
 (71,⟨.struct [(0,9),(1,9),(2,25),(6,25),(10,49)],true,15,224,[.imm (.str []),.imm (.str []),.imm (.int .i64 0),.imm (.int .i64 0),.imm (.str []),.nils,.imm (.int .i64 0),.imm (.int .i64 0),.imm (.str []),.nils,.imm (.int .i64 0),.imm (.int .i64 0),.imm (.str []),.nils,.nils]⟩),
 (145,⟨.iface,false,1,16,[.imm .niliface]⟩),
 (178,⟨.struct [(0,9),(1,23)],true,2,40,[.imm (.str []),.nils]⟩),
 (98,⟨.struct [(0,43),(3,96),(4,3),(5,23)],true,6,104,[.imm (.str []),.nils,.nils,.imm .nilmap,.imm (.int .i64 0),.nils]⟩),
 (41,⟨.sl 71,false,1,24,[.nils]⟩),
 (96,⟨.map 3 25,false,1,8,[.imm .nilmap]⟩),
 (20,⟨.iface,false,1,16,[.imm .niliface]⟩),
 (84,⟨.struct [(0,9),(1,25)],true,5,72,[.imm (.str []),.imm (.int .i64 0),.imm (.int .i64 0),.imm (.str []),.nils]⟩),
 (139,⟨.map 9 4,false,1,8,[.imm .nilmap]⟩),
 (45,⟨.int .i64,false,1,8,[.imm (.int .i64 0)]⟩),
 (182,⟨.struct [(0,180),(1,3),(2,9),(3,47)],true,4,56,[.imm (.int .i64 0),.imm (.int .i64 0),.imm (.str []),.nils]⟩),
 (26,⟨.func,false,1,8,[.imm .nilfn]⟩),
 (113,⟨.struct [(0,9),(1,111)],true,2,40,[.imm (.str []),.nils]⟩),
 (40,⟨.sl 113,false,1,24,[.nils]⟩),
 (119,⟨.ptr 123,false,1,8,[.imm .nilp]⟩),
 (64,⟨.int .i64,false,1,8,[.imm (.int .i64 0)]⟩),
 (167,⟨.struct [],true,0,0,[]⟩),
 (180,⟨.int .i64,false,1,8,[.imm (.int .i64 0)]⟩),
 (58,⟨.sl 45,false,1,24,[.nils]⟩),
 (138,⟨.map 45 4,false,1,8,[.imm .nilmap]⟩),
 (46,⟨.sl 49,false,1,24,[.nils]⟩),
 (121,⟨.map 3 3,false,1,8,[.imm .nilmap]⟩),
 (123,⟨.struct [(0,120),(1,121)],true,2,16,[.imm .nilmap,.imm .nilmap]⟩),
 (47,⟨.sl 182,false,1,24,[.nils]⟩),
 (148,⟨.struct [(0,3)],true,1,8,[.imm (.int .i64 0)]⟩),
 (149,⟨.struct [(0,3)],true,1,8,[.imm (.int .i64 0)]⟩),
 (171,⟨.struct [],true,0,0,[]⟩),
 (151,⟨.struct [],true,0,0,[]⟩),
 (202,⟨.arr 29 201,true,29,232,[.imm .nilfn,.imm .nilfn,.imm .nilfn,.imm .nilfn,.imm .nilfn,.imm .nilfn,.imm .nilfn,.imm .nilfn,.imm .nilfn,.imm .nilfn,.imm .nilfn,.imm .nilfn,.imm .nilfn,.imm .nilfn,.imm .nilfn,.imm .nilfn,.imm .nilfn,.imm .nilfn,.imm .nilfn,.imm .nilfn,.imm .nilfn,.imm .nilfn,.imm .nilfn,.imm .nilfn,.imm .nilfn,.imm .nilfn,.imm .nilfn,.imm .nilfn,.imm .nilfn]⟩),
 (111,⟨.sl 178,false,1,24,[.nils]⟩),
 (44,⟨.sl 84,false,1,24,[.nils]⟩),
 (126,⟨.func,false,1,8,[.imm .nilfn]⟩),
 (116,⟨.func,false,1,8,[.imm .nilfn]⟩),
 (174,⟨.ptr 3,false,1,8,[.imm .nilp]⟩),
 (110,⟨.func,false,1,8,[.imm .nilfn]⟩),
 (130,⟨.sl 3,false,1,24,[.nils]⟩),
 (125,⟨.func,false,1,8,[.imm .nilfn]⟩),
 (201,⟨.func,false,1,8,[.imm .nilfn]⟩),
 (258,⟨.func,false,1,8,[.imm .nilfn]⟩),
 (361,⟨.func,false,1,8,[.imm .nilfn]⟩),
 (362,⟨.ptr 5,false,1,8,[.imm .nilp]⟩)]
def Aj:TTok Tryz.prog bZ:=.of_eq (l:=[3,25,4,23,1,9,92,22,49,118,28,5,43,120,71,145,178,98,41,96,20,84,139,45,182,26,113,40,119,64,167,180,58,138,46,121,123,47,148,149,171,151,202,111,44,126,116,174,110,130,125,201,258,361,362]) (by kernel_rfl)
section
variable {n:Nat} {F:L1 Nat} {Q:DQ} {env l:Env} {st au:St} {aa ids':L1 Nat} {k todo:L1 DI} {ob:L1 Prop}
def yd (e:L1 Pt) (h:run bZ n 300 e todo env st aa []=.at k l au ids' ob) (f:A8 ob) (m:Tq1 n F Q k l au ids'):Tq2 n F Q todo env st aa:=JY Aj mixed 300 e h f m
def nQ (e:L1 Pt) (h:run bZ n 300 e todo env st aa []=.at k l au ids' ob) (m:Tq1 n F Q k l au ids') (f:A8 ob:=by simp):Tq2 n F Q todo env st aa:=yd e h f m
def A3 (h:run bZ n 300 [] todo env st aa []=.at k l au ids' ob) (f:Tq1 n F Q k l au ids') (e:A8 ob:=by simp):Tq2 n F Q todo env st aa:=yd [] h e f
def vE (e:L1 Pt) (h:run bZ n 300 e todo env st aa []=.at k l au ids' ob) (m:Tq1 n F Q k l au ids') (f:A8 ob:=by simp[Ap]):Tq2 n F Q todo env st aa:=yd e h f m
def WG (h:run bZ n 300 [] todo env st aa []=.at k l au ids' ob) (f:Tq1 n F Q k l au ids') (e:A8 ob:=by simp[Ap]):Tq2 n F Q todo env st aa:=yd [] h e f
def yg (e:L1 Pt) (h:run bZ n 300 e todo env st aa []=.at k l au ids' ob) (f:A8 ob) (m:Tq1 n F Q k l au ids'):Tq1 n F Q todo env st aa:=Iw Aj mixed 300 e h f m
def ZK (e:L1 Pt) (h:run bZ n 300 e todo env st aa []=.at k l au ids' ob) (m:Tq1 n F Q k l au ids') (f:A8 ob:=by simp):Tq1 n F Q todo env st aa:=yg e h f m
def Ak (h:run bZ n 300 [] todo env st aa []=.at k l au ids' ob) (f:Tq1 n F Q k l au ids') (e:A8 ob:=by simp):Tq1 n F Q todo env st aa:=yg [] h e f
def Cw (h:run bZ n 300 [] todo env st aa []=.at k l au ids' ob) (f:Tq1 n F Q k l au ids') (e:A8 ob:=by simp[Ap]):Tq1 n F Q todo env st aa:=yg [] h e f
def ydf (f:Nat) (h:run bZ n f [] todo env st aa []=.at k l au ids' ob) (e:A8 ob) (m:Tq1 n F Q k l au ids'):Tq2 n F Q todo env st aa:=JY Aj mixed f [] h e m
def QK (f:Nat) (h:run bZ n f [] todo env st aa []=.at k l au ids' ob) (e:A8 ob) (m:Tq1 n F Q k l au ids'):Tq1 n F Q todo env st aa:=Iw Aj mixed f [] h e m
def yi {es:G1} {m:Int} {sz:Nat} {e:TypeId} {g:S0} {ob:L1 Prop} {t:Nat} {s:L1 DI} {c:L1 V} (h:Fm bZ n env todo=some ⟨es,m,sz,e,g,ob,some t,s⟩) (l:Ap g->0<=m/\es[m.toNat]?=some c/\c.length=sz) (f:A8 ob) (p:Tq1 n F Q s ((t,gD g (.ip e c 0))::env) st aa):Tq1 n F Q todo env st aa:=G4 Aj h l f p
def WF {i:Nat} {es:G1} {sz:Nat} {e:TypeId} {g:S0} {ob:L1 Prop} {t:Nat} {s:L1 DI} {c:L1 V} (h:Fm bZ n env todo=some ⟨es,(i:Int),sz,e,g,ob,some t,s⟩) (l:es[i]?=some c) (m:Tq1 n F Q s ((t,gD g (.ip e c 0))::env) st aa) (p:c.length=sz:=by simp) (f:A8 ob:=by simp):Tq1 n F Q todo env st aa:=yi h (λ_=>⟨by omega,by simpa using l,p⟩) f m
def yizc {i:Nat} {es:G1} {sz:Nat} {e:TypeId} {g:S0} {ob:L1 Prop} {t:Nat} {s:L1 DI} {c:L1 V} (h:Fm bZ n env todo=some ⟨es,(i:Int),sz,e,g,ob,some t,s⟩) (l:es[i]?=some c) (m:Tq1 n F Q s ((t,gD g (.ip e c 0))::env) st aa) (p:c.length=sz:=by simp) (f:A8 ob:=by simp[Ap]):Tq1 n F Q todo env st aa:=yi h (λ_=>⟨by omega,by simpa using l,p⟩) f m
end
def HF:V:=.iface 167 (.agg [])
def GL:Tq3 117 [.bool true] (.tup []):=by exact Ac Aj Tryz.func117 O [1,2]<|ZK [.a] O<|Bw ⟨_,AP⟩
def zfb:Tq4 117 [.imm (.bool false)] [] (.pan HF):=by exact Ac Aj Tryz.func117 O [1,2]<|ZK [.a] O<|KR O O O O
def KI (b:Bool) (h:b=false):Tq4 117 [.imm (.bool b)] [] (.pan HF):=by subst h;exact zfb
def gE (n:Int):Tq3 59 [.int .i64 n] (.agg (As (Ay n))):=by exact Ac Aj Tryz.func59 O [1,2]<|Ak O<|Ab O O O
def BT (s:Int) (ps:L1 Y):Tq3 258 [.int .i64 s,.sl (A4 ps)] (.agg (As (.mk s 0 [] ps))):=by exact Ac Aj Tryz.func258 O [1,2]<|Ak O<|Ab O O O
def wS (m:Md) (k:Int) (e P len:Nat):Blk:=.cells 98 6 [.imm (.str m.name),.imm (.sl (m.datas.map D2)),.imm (.sl (m.funs.map DJ)),.mapr e,.imm (.int .i64 k),.own P len]
def dA (T:L1 (Int×Y)):Blk:=.map (T.map dPr)
def Dw (m:Md) (T:L1 (Int×Y)) (k:Int) (S:L1 Y):St:=[(1,some (wS m k 2 3 (A4 S).length)),(2,some (dA T)),(3,some (.row 25 4 (A4 S)))]
def Fu (T:D0):∀p∈T.map dPr,I9 (.int .i64) p.1=true:=λp e=>by
 obtain⟨q,_,rfl⟩:=C7.1 e;rfl
def J6 (I:U):M I (.agg #[.int .i64 0,.int .i64 0,.string ⟨#[]⟩,.slice none 0 0]) (.agg (As Nd)):=.agg _ _ O (by decide) (λi c x e f=>by
 match i,e,f with
 |0,e,f=>cases e;cases f;exact .int _ _
 |1,e,f=>cases e;cases f;exact .int _ _
 |2,e,f=>cases e;cases f;exact .str _ _ O
 |3,e,f=>cases e;cases f;exact .slnil
 |i+4,e,f=>simp at e)
def JQ (m:Md) (T:D0) (k:Int) (S:L1 Y) (h:0<=k/\k<=1000000):Tq4 259 [.ref 1 0] (Dw m T k S) (.ret (.imm (.agg (As (Ay k)))) (Dw m T (k+1) S)):=by have e:IntKind.i64.wrap (k+1)=k+1:=Gx (by omega) (by omega);have f:Tq3 59 [.int .i64 (IntKind.i64.wrap (IntKind.i64.wrap (k+1)-1))] (.agg (As (Ay k))):=by{rw[e,Gx (by omega) (by omega),show k+1-1=k by omega];exact gE k};refine Ac Aj Tryz.func259 O [4,5]<|Ak O<|Ah O f<|Ak O<|Af ⟨_,rfl,rfl,?_,AP⟩;show some (some (wS m (IntKind.i64.wrap (k+1)) 2 3 _))=_;rw[e]
def CE (m:Md) (T:D0) (k:Int) (S:L1 Y) {θ:Int->Y} (C:Sol (Cc T) θ) (t u:Y) (B:Top (Cc T) t u):Tq4 116 [.ref 1 0,.imm (.agg (As t))] (Dw m T k S) (.ret (.imm (.agg (As u))) (Dw m T k S)):=by
 obtain⟨D,G,H,K⟩:=t;refine Ac Aj Tryz.func116 O [4,5,6,7]<|Ak O<|Al (λx:Y=>[(0,.ref 1 0),(3,.ref 4 0),(4,.ref 5 0)]) (λx=>(4,some (.immb 25 4 (As x)))::(5,some (.cells 25 4 [i7 0,i7 0,.imm (.str []),.nils]))::Dw m T k S) [6,7] (λx=>if CD x=9/\Cc T (num x)≠none then(num x).toNat+1 else 0)
  (λx=>Top (Cc T) x u) (.mk D G H K) B AC BD O λx q N=>?_
 clear B;obtain⟨f,n,y,ps⟩:=x;refine A3 O ?_;by_cases r:f=9
 ·subst r;refine Aq O λh=>A3 O ?_;have l:=IQ n T;cases e:Cc T n with
  |none=>
   rw[e]at l;have s:Y.mk 9 n y ps=u:=by
    cases q with
    |stop _=>rfl
    |step _ p _=>rw[show num (Y.mk 9 n y ps)=n from rfl,e]at p;cases p
   subst s;exact Dd Aj 2 (zd:=.agg (As Nd)) (dr:=.imm (.tup [.agg (As Nd),.bool false])) O O O (Fu T) (by simp) O J6 (by simp only[He,l];rfl)<|yg [] O (by simp;rfl)<|Aq O λh=>A3 O<|Af ⟨_,BD⟩
  |some v=>
   rw[e]at l;have z:Top (Cc T) v u:=by
    cases q with
    |stop h=>have:=h O;rw[show num (Y.mk 9 n y ps)=n from rfl,e]at this;cases this
    |step _ p R=>rw[show num (Y.mk 9 n y ps)=n from rfl,e]at p;cases p;exact R
   have A:=N v (by
    rw[ae (show CD (Y.mk 9 n y ps)=9/\Cc T (num (Y.mk 9 n y ps))≠none from⟨rfl,by rw[show num (Y.mk 9 n y ps)=n from rfl,e];simp⟩)]
    split
    ·rename_i h;have:=C.down n v e h.1;simp only[num]at *;omega
    ·omega) z
   obtain⟨V,W,a,b⟩:=v;exact Dd Aj 2 (zd:=.agg (As Nd)) (dr:=.imm (.tup [.agg (As (.mk V W a b)),.bool true])) O O O (Fu T) (by simp) O J6 (by simp only[He,l];rfl)<|yg [] O (by simp;rfl)<|Ag O λh=>A3 O<|Ad A AC BD O
 ·refine Aa O (λh=>by exfalso;simp at h;exact r h) (λh=>?_);have s:Y.mk f n y ps=u:=by
   cases q with
   |stop _=>rfl
   |step c _ _=>exact absurd c r
  subst s;exact Az O<|A3 O<|Af ⟨_,BD⟩
end Go.Hk
namespace Go.Hk
mutual
def fL:Y->Y->Sb->Option Sb
 |.mk f n x ps,b,σ=>if f=9 then(match σ n with|none=>some (FL σ n b)|some v=>if Iq v b=true then some σ else none)
  else if f=CD b/\x=txt b/\ps.length=(Hr b).length then fK ps (Hr b) σ else none
def fK:L1 Y->L1 Y->Sb->Option Sb
 |p::ps,q::f,σ=>match fL p q σ with
  |some e=>fK ps f e
  |none=>none
 |_,_,σ=>some σ
end
end Go.Hk
namespace Go.Hk
open Go.Proofs
def zR (f:FuncId) (l m:L1 Y) (v:∀(i:Nat) a b,l[i]?=some a->m[i]?=some b->Tq3 f [.agg (As a),.agg (As b)] (.bool (Iq a b))):Tq3 178 [.sl (A4 l),.sl (A4 m),.fn (.func f)] (.bool (EX l m)):=by refine BH λy=>?_;simp[D8,Gy,maxLen]at y;refine Ac Aj Tryz.func178 O [1,2,3,4]<|Ak O ?_;by_cases z:l.length=m.length;refine Aa O (λh=>by exfalso;simp at h;omega) (λh=>?_);refine A3 O<|Al (λi:Nat=>[(17,i7 i),(16,i7 l.length),(15,.imm (.sl (A4 l))),(1,.imm (.sl (A4 m))),(2,.imm (.fn (.func f)))]) (λ_=>[]) [1,2,3,4] (λi=>l.length-i) (λi=>i<=l.length/\EX l m=EX (l.drop i) (m.drop i)) 0 ⟨AK _,rfl⟩ ⟨rfl,B8 (by simp),AC⟩ ab O λi A B=>?_;obtain⟨C,e⟩:=A;refine A3 O<|Aa O (λh=>?_) (λh=>?_);have p:i<l.length:=by{simp at h;omega};let⟨a,q⟩:=At p;let⟨b,r⟩:=At (l:=m) (i:=i) (by omega);have s:=AQ q;have u:=AQ r;have D:=v i a b q r;rw[Au q,Au r,EX]at e;generalize Iq a b=o at *;obtain⟨G,H,K,N⟩:=a;obtain⟨R,S,V,W⟩:=b;refine A3 O<|WF O s<|Ak O<|WF O u<|Ak O<|Ah O D<|Ak O ?_;cases o with|false=>{rw[nI]at e;exact Aq O λh=>A3 O<|Af ⟨_,rfl,tV (by rw[e]),ab⟩}|true=>{rw[Jj]at e;exact Ag O λh=>A3 O<|Ad (B (i+1) (by omega) ⟨by omega,e⟩) ⟨Bf,B0⟩ ab O};have p:¬i<l.length:=by{simp at h;omega};rw[Bu (by omega),Bu (by omega)]at e;exact Az O<|A3 O<|Af ⟨_,rfl,tV (by rw[e];rfl),ab⟩;refine Aa O (λh=>?_) (λh=>by exfalso;simp at h;omega);exact A3 O<|Af ⟨_,rfl,tV (by rw[RC z]),ab⟩
def fW:∀a b:Y,Tq3 121 [.agg (As a),.agg (As b)] (.bool (Iq a b))
 |.mk s n x ps,.mk f h l e=>by have m:=zR 121 ps e λi a b p q=>fW a b;simp only[Iq];generalize EX ps e=o at *;refine Ac Aj Tryz.func121 O [1,2,3,4]<|Cw O<|Bt O m<|Cw O<|Ab O O (af _ ?_);cases o<;>cases s==f<;>cases n==h<;>cases x==l<;>rfl
termination_by a=>SizeOf.sizeOf a
decreasing_by have:=Cr (AF p);simp_wf;omega
def zQ (l:L1 Y) (f:FuncId) (a b:L1 V) (q:Y->Bool) (N:∀t∈l,Tq3 f (a++[.agg (As t)]++b) (.bool (q t))):∃i:Int,(0<=i↔l.any q=true)/\Tq3 245 [.sl (A4 l),.clo (.func f) a b] (.int .i64 i):=by obtain⟨i,G,H⟩:∃i:Int,(0<=i↔l.any q=true)/\((i = -1/\l.any q=false)\/∃(k:Nat) (t:Y),i=k/\l[k]?=some t/\q t=true/\(l.take k).any q=false):=by{by_cases h:l.any q=true;have A:∀(n:Nat),(l.take n).any q=true->∃(k:Nat) (t:Y),l[k]?=some t/\q t=true/\(l.take k).any q=false:=λn=>by{induction n with|zero=>intro h;simp at h|succ n B=>{intro h;by_cases r:(l.take n).any q=true;exact B r;by_cases R:n<l.length;let⟨t,p⟩:=At R;rw[Ba p,Jh]at h;simp only[Vp]at r;rw[r,Vn]at h;exact⟨n,t,p,by simpa using h,r⟩;rw[CA (by omega)]at h r;exact absurd h r}};let⟨k,t,s,v,C⟩:=A l.length (by rw[Mv];exact h);exact⟨k,⟨λ_=>h,λ_=>by omega⟩,.inr ⟨k,t,rfl,s,v,C⟩⟩;exact⟨-1,⟨λK=>by omega,λK=>absurd K h⟩,.inl ⟨rfl,by simpa using h⟩⟩};refine⟨i,G,?_⟩;clear G;refine BH λS=>?_;simp[D8,Gy,maxLen]at S;refine Ac Aj Tryz.func245 O [1,2]<|Ak O<|Al (λj:Nat=>[(8,i7 j),(7,i7 l.length),(0,.imm (.sl (A4 l))),(1,.imm (.clo (.func f) a b))]) (λ_=>[]) [1,2] (λj=>l.length-j) (λj=>j<=l.length/\(l.take j).any q=false) 0 ⟨AK _,rfl⟩ ⟨rfl,B8 (by simp),AP⟩ ab O λj W B=>?_;obtain⟨c,e⟩:=W;refine A3 O<|Aa O (λh=>?_) (λh=>?_);have y:j<l.length:=by{simp at h;omega};let⟨t,p⟩:=At y;have d:=AQ p;have g:=N t (AF p);have D:(l.take (j+1)).any q=q t:=by{rw[Ba p,Jh,e];simp};have m:q t=true->i=j:=λz=>by{rcases H with⟨_,h⟩|⟨k,u,rfl,s,v,C⟩;have:l.any q=true:=EJ.2 ⟨t,AF p,z⟩;rw[this]at h;cases h;congr 1;rcases OP k j with hc|hc|hc;have:(l.take j).any q=true:=EJ.2 ⟨u,DW.2 ⟨k,by rw[DO,ae hc];exact s⟩,v⟩;rw[e]at this;cases this;exact hc;have:(l.take k).any q=true:=EJ.2 ⟨t,DW.2 ⟨j,by rw[DO,ae hc];exact p⟩,z⟩;rw[C]at this;cases this};generalize q t=o at *;obtain⟨t1,t2,t3,t4⟩:=t;refine A3 O<|WF O d<|Ak O<|TW O (λ_=>g) (by simp)<|Ak O ?_;cases o with|true=>{exact Aq O λh=>A3 O<|Af ⟨_,rfl,tV (by rw[m O]),ab⟩}|false=>{exact Ag O λh=>A3 O<|Ad (B (j+1) (by omega) ⟨by omega,D⟩) ⟨Bf,AC⟩ ab O};have y:¬j<l.length:=by{simp at h;omega};rw[CA (by omega)]at e;have w:i = -1:=by{rcases H with⟨h,_⟩|⟨k,u,_,s,v,_⟩;exact h;have:l.any q=true:=EJ.2 ⟨u,AF s,v⟩;rw[e]at this;cases this};exact Az O<|A3 O<|Af ⟨_,rfl,tV (by rw[w]),ab⟩
def aS (l:L1 Y) (f:FuncId) (a b:L1 V) (q:Y->Bool) (e:∀t∈l,Tq3 f (a++[.agg (As t)]++b) (.bool (q t))):Tq3 174 [.sl (A4 l),.clo (.func f) a b] (.bool (l.any q)):=by let⟨i,h,m⟩:=zQ l f a b q e;refine Ac Aj Tryz.func174 O [1,2]<|Ak O<|Ah O m<|Ak O<|Ab O O (af _ ?_);rw[FC,<- h];simp
def zfr (g:FuncId) (q:Y->Bool) (t:Y) (e:Tq3 g [.agg (As t)] (.bool (q t))):Tq3 175 [.agg (As t),.ip 26 [.fn (.func g)] 0] (.bool (!q t)):=by generalize q t=o at *;obtain⟨t1,t2,t3,t4⟩:=t;exact P4<|Ac Aj Tryz.func175 O [2,3,4,5]<|Ak O<|Ah O e<|Ak O<|Ab O O O
def zj5 (l:L1 Y) (g:FuncId) (q:Y->Bool) (e:∀t∈l,Tq3 g [.agg (As t)] (.bool (q t))):Tq3 112 [.sl (A4 l),.fn (.func g)] (.bool (l.all q)):=by have f:=aS l 175 [] [.ip 26 [.fn (.func g)] 0] (λt=>!q t) λt h=>zfr g q t (e t h);refine Ac Aj Tryz.func112 O [2,3,4,5]<|Ak O<|N0 O (λ_=>f) O (by simp)<|Ak O<|Ab O O (af _ ?_);rw[FC];simp
def aQ (t:Y):Tq3 113 [.agg (As t)] (.bool (AW true t)):=by have e:=bY t;unfold OY at e;generalize AW true t=o at *;obtain⟨t1,t2,t3,t4⟩:=t;refine Ac Aj Tryz.func113 O [2,3,4,5]<|Ak O<|Ah O e<|Ak O ?_;exact Af ⟨_,rfl,tV (by cases o<;>rfl),ab⟩
def GN (l:L1 Y):Tq3 53 [.sl (A4 l)] (.bool (l.all (AW true))):=by have e:=zj5 l 113 (AW true) λt _=>aQ t;exact Ac Aj Tryz.func53 O [2,3,4,5]<|Ak O<|Ah O e<|Ak O<|Ab O O O
mutual
def J2:Y->Y->L1 (Int×Y)->L1 (Int×Y)×Bool
 |.mk f n x ps,b,T=>if f=9 then(U5 T n b,match Cc T n with
   |none=>true
   |some v=>Iq v b)
  else if f=CD b/\x=txt b/\ps.length=(Hr b).length then LN ps (Hr b) T else(T,false)
def LN:L1 Y->L1 Y->L1 (Int×Y)->L1 (Int×Y)×Bool
 |p::ps,q::e,T=>if(J2 p q T).2=true then LN ps e (J2 p q T).1 else J2 p q T
 |_,_,T=>(T,true)
end
def wF {σ:Sb} {n:Int} {t:Y} (h:σ n=some t):FL σ n t=σ:=by funext m;unfold FL;split;rename_i e;rw[e,h];rfl
mutual
def Yi:∀(a b:Y) (T:D0),(J2 a b T).2=(fL a b (Cc T)).isSome/\∀e,fL a b (Cc T)=some e->Cc (J2 a b T).1=e
 |.mk f n x ps,b,T=>by by_cases l:f=9;rw[J2,fL,ae l,ae l];cases p:Cc T n with|none=>exact⟨rfl,λe h=>by cases h;exact Lh b n T⟩|some v=>{simp only;cases q:Iq v b with|false=>exact⟨rfl,λe h=>nomatch h⟩|true=>{refine⟨rfl,λe h=>?_⟩;cases h;rw[Lh];have:=(MJ v b).1 q;subst this;exact wF p}};rw[J2,fL,ac l,ac l];by_cases m:f=CD b/\x=txt b/\ps.length=(Hr b).length;rw[ae m,ae m];exact Vc ps (Hr b) T;rw[ac m,ac m];exact⟨rfl,λe h=>nomatch h⟩
def Vc:∀(f l:L1 Y) (T:D0),(LN f l T).2=(fK f l (Cc T)).isSome/\∀e,fK f l (Cc T)=some e->Cc (LN f l T).1=e
 |a::f,b::l,T=>by let⟨m,s⟩:=Yi a b T;rw[LN,fK];cases p:fL a b (Cc T)with|none=>rw[p]at m;rw[ac (by rw[m];simp)];exact⟨m,λe h=>nomatch h⟩|some q=>{rw[p]at m;rw[ae (by rw[m];rfl)];have r:=Vc f l (J2 a b T).1;rw[s q p]at r;exact r}
 |[],[],T=>⟨rfl,λe h=>by cases h;rfl⟩
 |[],_::_,T=>⟨rfl,λe h=>by cases h;rfl⟩
 |_::_,[],T=>⟨rfl,λe h=>by cases h;rfl⟩
end
def nE {ps e:L1 Y} {i:Nat} {p q:Y} (f:ps[i]?=some p) (h:e[i]?=some q) (T:D0):LN (ps.drop i) (e.drop i) T=if(J2 p q T).2=true then LN (ps.drop (i+1)) (e.drop (i+1)) (J2 p q T).1 else J2 p q T:=by rw[Au f,Au h,LN]
def SG:∀(a b:Y) (T:D0),CL b=true->Tq4 60 [.imm (.agg (As a)),.imm (.agg (As b)),.mapr 1] [(1,some (dA T))] (.ret (.imm (.bool (J2 a b T).2)) [(1,some (dA (J2 a b T).1))])
 |.mk f n x ps,.mk g m y l,T,k=>by
  have R:=LV k;have A:=G7 k;simp only[Hr]at R A;refine Ac Aj Tryz.func60 O [2,3,4,5]<|Ak O ?_;by_cases N:f=9
  ·subst N;have B:J2 (.mk 9 n x ps) (.mk g m y l) T=(U5 T n (.mk g m y l),match Cc T n with
    |none=>true
    |some v=>Iq v (.mk g m y l)):=by rw[J2,ae O]
   rw[B];have C:=Mf n (.mk g m y l) T;have s:=IQ n T;refine Aq O λh=>A3 O ?_;cases D:Cc T n with
   |none=>
    rw[D]at s;refine Dd Aj 1 (zd:=.agg (As Nd)) (dr:=.imm (.tup [.agg (As Nd),.bool false])) O O O (Fu T) (by simp) O J6 (by simp only[He,s];rfl)<|Ak O<|FD Aj O O O (Fu T)<|Cw O<|Ai (v:=.bool false) O (λS=>by simp[Ap]at S) (by simp[Ap])<|Cw O ?_;simp only[dA,<- C];exact Af ⟨_,AC⟩
   |some v=>
    rw[D]at s;have E:=fW v (.mk g m y l)
    dsimp only
    generalize Iq v (.mk g m y l)=o at *;obtain⟨F,I,J,L⟩:=v;refine Dd Aj 1 (zd:=.agg (As Nd)) (dr:=.imm (.tup [.agg (As (.mk F I J L)),.bool true])) O O O (Fu T) (by simp) O J6 (by simp only[He,s];rfl)<|Ak O<|FD Aj O O O (Fu T)<|Cw O<|Bt O E<|Cw O ?_;simp only[dA,<- C];exact Af ⟨_,AC⟩
  ·refine Aa O (λh=>by exfalso;simp at h;exact N h) (λh=>?_);refine WG O ?_;by_cases V:f=g/\x=y/\ps.length=l.length
   ·have B:J2 (.mk f n x ps) (.mk g m y l) T=LN ps l T:=by rw[J2,ac N];exact ae V
    rw[B];obtain⟨rfl,rfl,Q⟩:=V;refine Aa O (λh=>by exfalso;simp at h;omega) (λh=>?_);refine A3 O<|Al (λz:Nat×D0=>[(55,i7 z.1),(54,i7 ps.length),(3,.ref 2 0),(4,.ref 3 0),(2,.mapr 1)]) (λz=>[(1,some (dA z.2)),(2,some (.immb 25 4 (As (.mk f n x ps)))),(3,some (.immb 25 4 (As (.mk f m x l))))]) [4,5] (λz=>ps.length-z.1)
     (λz=>z.1<=ps.length/\LN ps l T=LN (ps.drop z.1) (l.drop z.1) z.2) (0,T)
     ⟨AK _,rfl⟩ ⟨rfl,B8 (by simp),AC⟩ AC O λz P t=>?_
    obtain⟨i,K⟩:=z;obtain⟨W,e⟩:=P;simp only at W e t;refine A3 O<|Aa O (λh=>?_) (λh=>?_)
    ·have G:i<ps.length:=by simp at h;omega
     let⟨p,c⟩:=At G;let⟨q,u⟩:=At (l:=l) (i:=i) (by omega);have d:=AQ c;have j:=AQ u;have w:=SG p q K (A q (AF u));rw[nE c u]at e;have H:=λS=>t (i+1,(J2 p q K).1) (by simp only;omega) ⟨by simp only;omega,S⟩;generalize(J2 p q K)=r at *;obtain⟨K',o⟩:=r;simp only at e w H;obtain⟨p1,p2,p3,p4⟩:=p;obtain⟨q1,q2,q3,q4⟩:=q;refine A3 O<|WF O d<|Ak O<|WF O j<|Ak O<|Ae O w A2 O<|yg [] O (by simp;rfl) ?_;cases o with
     |false=>
      rw[ac (by simp)]at e;rw[e];exact Aq O λh=>A3 O<|Af ⟨_,AC⟩
     |true=>
      rw[ae O]at e;exact Ag O λh=>A3 O<|Ad (H e) ⟨Bf,B0⟩ AC O
    ·have G:¬i<ps.length:=by simp at h;omega
     rw[Bu (by omega)]at e;simp only[LN]at e;rw[e];exact Az O<|A3 O<|Af ⟨_,AC⟩
   ·have B:J2 (.mk f n x ps) (.mk g m y l) T=(T,false):=by rw[J2,ac N];exact ac V
    rw[B];refine Aa O (λh=>?_) (λh=>by exfalso;simp at h;grind);exact A3 O<|Af ⟨_,AC⟩
termination_by a=>SizeOf.sizeOf a
decreasing_by
 have:=Cr (AF c);simp_wf;omega
def aR (a b:Y):Tq3 14 [.agg (As a),.agg (As b)] (.tup [.bool (AW true a&&AW true b&&(fL a b λ_=>none).isSome),OY (AW true a&&AW true b)]):=by have e:=GN [a,b];simp only[D4,Ls,In]at e;cases f:AW true a&&AW true b with|false=>{rw[f]at e;obtain⟨m,p,q,s⟩:=a;obtain⟨u,v,y,z⟩:=b;exact Ac Aj Tryz.func14 O [1,2,3,4,5]<|Ak O<|Ah O e<|Ak O<|Aq O λh=>A3 O<|Ab O O O}|true=>{rw[f]at e;have A:CL b=true:=by{simp only[Am,AW]at f;exact(Mc b f.2.2).1};have B:=SG a b [] A;let⟨l,_⟩:=Yi a b [];rw[show Cc []=λ_=>none from rfl]at l;rw[<- l];generalize J2 a b []=r at *;obtain⟨C,o⟩:=r;obtain⟨m,p,q,s⟩:=a;obtain⟨u,v,y,z⟩:=b;exact Ac Aj Tryz.func14 O [1,2,3,4,5]<|Ak O<|Ah O e<|Ak O<|Ag O λh=>A3 O<|E5 O<|Ak O<|Ao [] [(3,1)] [] O B A2 O O<|Ak O<|Ab O O O}
end Go.Hk
namespace Go.Hk
def lexT (θ:Int->Y) (x h:Int):Prop:=Fw (θ x)<Fw (θ h)\/(Fw (θ x)=Fw (θ h)/\x<h)
def lexT.trans {θ:Int->Y} {x y z:Int} (h:lexT θ x y) (e:lexT θ y z):lexT θ x z:=by unfold lexT at *;omega
def lexT.irrefl {θ:Int->Y} {x:Int}:¬lexT θ x x:=by unfold lexT;omega
def Sol.below {σ:Sb} {θ:Int->Y} (p:Sol σ θ) {h x:Int} {t:Y} (q:σ h=some t) (l:x∈Dc t):lexT θ x h:=by have f:θ h=AH θ t:=p.eq h t q;by_cases m:CD t=9;have e:=Fa (p.wf h t q) m;have r:=p.down h t q m;rw[e]at l;simp[Ay,Dc]at l;refine .inr ⟨?_,by omega⟩;rw[f,Ih m,l];exact .inl (by rw[f];exact sA m l)
def MetOk (θ:Int->Y) (n:Int) (t:Y) (e:L1 Int):Prop:=∀h∈e,n∉Dc (θ h)\/∀x∈Dc t,lexT θ x h
def MetNew (θ:Int->Y) (n:Int) (f e:L1 Int):Prop:=∀h∈e,h∈f\/n∉Dc (θ h)
def MetNew.refl {θ:Int->Y} {n:Int} (e:L1 Int):MetNew θ n e e:=λ_ h=>.inl h
def MetNew.trans {θ:Int->Y} {n:Int} {a b c:L1 Int} (h:MetNew θ n a b) (e:MetNew θ n b c):MetNew θ n a c:=λx hx=>by{rcases e x hx with hx|hx;exact h x hx;exact .inr hx}
def MetOk.part {θ:Int->Y} {n:Int} {t p:Y} {e:L1 Int} (h:MetOk θ n t e) (l:CD t≠9) (q:p∈Hr t):MetOk θ n p e:=λx r=>(h x r).imp id λs y u=>s y (by
 obtain⟨f,m,z,ps⟩:=t;simp only[CD]at l;simp only[Dc,ac l];exact PO.2 ⟨p,q,u⟩)
def MetOk.new {θ:Int->Y} {n:Int} {t:Y} {f e:L1 Int} (h:MetOk θ n t f) (l:MetNew θ n f e):MetOk θ n t e:=λx hx=>by{rcases l x hx with hx|hx;exact h x hx;exact .inl hx}
def MetOk.met {θ:Int->Y} {n h:Int} {e:L1 Int} (f:MetOk θ n (Ay h) e) (l:h∈e):n∉Dc (θ h):=by rcases f h l with h1|h1;exact h1;exact absurd (h1 h (by simp[Ay,Dc])) lexT.irrefl
def MetOk.next {σ:Sb} {θ:Int->Y} (l:Sol σ θ) {n h:Int} {t:Y} {e:L1 Int} (p:MetOk θ n (Ay h) e) (m:σ h=some t):MetOk θ n t (h::e):=λx hx=>by{rcases Ck.1 hx with rfl|hx;exact .inr λy f=>l.below m f;exact(p x hx).imp id λq y f=>(l.below m f).trans (q h (by simp[Ay,Dc]))}
end Go.Hk
