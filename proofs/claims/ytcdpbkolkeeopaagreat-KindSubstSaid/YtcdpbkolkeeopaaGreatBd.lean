/- The loop over the names that a term binds in a part, of a term that is owned by address (bound): what it asks, in one form for texts and patterns; scopes of names that became others. (And what it stands on.) -/
import Derived.Test.YtcdpbkolkeeopaaGreatBc
import Derived.Sort.Walk0
set_option linter.all false
set_option maxRecDepth 100000
set_option maxHeartbeats 4000000
namespace Go.Hk
open Go.Proofs.Tryz
open Go.Proofs
variable {w w':World} {I J:TA} {b n sz off i j H:Nat} {st au a7 bk:St} {F Kr aa:K1} {Q:DQ} {env q:Env} {todo k C:S6} {x:Z} {P:Program} {d:D} {v u c g:Value} {μ ν:Mu} {vs cs:R0} {a:Act} {r:TT} {s:Bool} {m z:Md} {ps S:E1} {ob:T0} {t:Tm} {o:Int} {Γ E:At} {A B:jz} {τ:Y} {e:TypeId} {K:T5} {α:Type} {es:L1 (G2)} {Pn:V->Prop} {h:Prop} {ds hU:R1} {l:E2} {ks:G1} {p:Bool×Nat} {xs:G2} {f:FuncId}
mutual
def Vj:∀(t:Y) (l:Int),(Bn t:Int)<=l->0<=Cv t l
 |.mk _ _ _ ps,l,h=>by simp only[Bn]at h;simp only[Cv];rw[ac<|by omega];exact SY ps (l-1) (by omega)
def SY:∀(ts:E1) (l:Int),(A5 ts:Int)<=l->0<=Cw ts l
 |[],l,h=>by simpa[Cw,A5]using h
 |t::r,l,h=>by simp only[A5]at h;simp only[Cw];rw[ae<|by omega];have q:=Vj t l (by omega);have y:=EF t l q;exact SY r _ (by omega)
end
def RB (t:Y) (l:Nat):decide (0<=Cv t l)=decide (Bn t<=l):=by by_cases h:Bn t<=l;rw[bg h,bg<|Vj t l<|by omega];rw[ap h];refine ap λq=>h ?_;have:=EF t l q;omega
def NC (t:Y):AW true t=KV t:=by simp only[AW,KV];rw[<- RB t 12];rfl
def Rc (t:Y):AW false t=FF t:=by simp only[AW,FF];rw[<- RB t 12];rfl
def zcp (t:Y):D6 t=CM t:=by simp only[D6,CM];rw[<- RB t 12,PE];rfl
def nQ (p:Nat) (h:p<=1000):IntKind.i64.wrap (1+(p:Int))=1+(p:Int):=Gi (by omega) (by omega)
theorem iU (op n:Int) (x:Z) (k:Nat) (ps:E1) (o:ps.length<=1000):D8 op n x k ps=(Bl op n x k ps.length&&ps.all CM):=by have p:D6=CM:=funext zcp;have s:=nQ ps.length o;by_cases c:op=1;{subst c;cases ps<;>simp[D8,DP,BI,Dg,Bl,AY,Bs,EK,Bf]<;>grind};by_cases d:op=2;{subst d;cases ps<;>simp[D8,DP,BI,Dg,Bl,AY,Bs,EK,Bf]<;>grind};by_cases e:op=3;{subst e;cases ps<;>simp[D8,DP,BI,Dg,Bl,AY,Bs,EK,Bf]<;>grind};by_cases f:op=4;{subst f;cases ps<;>simp[D8,DP,BI,Dg,Bl,AY,Bs,EK,Bf]<;>grind};by_cases g:op=5;{subst g;cases ps<;>simp[D8,DP,BI,Dg,Bl,AY,Bs,EK,Bf]<;>grind};by_cases i:op=6;{subst i;cases ps<;>simp[D8,DP,BI,Dg,Bl,AY,Bs,EK,Bf]<;>grind};by_cases j:op=7;{subst j;cases ps<;>simp[D8,DP,BI,Dg,Bl,AY,Bs,EK,Bf]<;>grind};by_cases l:op=8;{subst l;cases ps<;>simp[D8,DP,BI,Dg,Bl,AY,Bs,EK,Bf]<;>grind};by_cases m:op=9;{subst m;cases ps<;>simp[D8,DP,BI,Dg,Bl,AY,Bs,EK,Bf]<;>grind};by_cases h:op=10;{subst h;cases ps<;>simp[D8,DP,BI,Dg,Bl,AY,Bs,EK,Bf]<;>grind};by_cases q:op=11;{subst q;cases ps<;>simp[D8,DP,BI,Dg,Bl,AY,Bs,EK,Bf]<;>grind};by_cases r:op=12;{subst r;cases ps<;>simp[D8,DP,BI,Dg,Bl,AY,Bs,EK,Bf]<;>grind};by_cases y:op=13;{subst y;cases ps<;>simp[D8,DP,BI,Dg,Bl,AY,Bs,EK,Bf]<;>grind};by_cases z:op=14;{subst z;have t:(if(3:Int)<k then 3 else(k:Int))=k↔(k:Int)<=3:=by{split<;>omega};cases ps<;>simp[D8,DP,BI,Dg,Bl,AY,Bs]<;>grind};by_cases C:op=15;{subst C;simp only[D8,DP,BI,Dg,Bl,AY,Bs,EK,p];simp[s];grind};by_cases D:op=16;{subst D;cases ps<;>simp[D8,DP,BI,Dg,Bl,AY,Bs,EK,Bf]<;>grind};by_cases G:op=17;{subst G;cases ps<;>simp[D8,DP,BI,Dg,Bl,AY,Bs,EK,Bf]<;>grind};by_cases H:op=18;{subst H;cases ps<;>simp[D8,DP,BI,Dg,Bl,AY,Bs,EK,Bf]<;>grind};by_cases L:op=19;{subst L;cases ps<;>simp[D8,DP,BI,Dg,Bl,AY,Bs,EK,Bf]<;>grind};by_cases M:op=20;{subst M;cases ps<;>simp[D8,DP,BI,Dg,Bl,AY,Bs,EK,Bf]<;>grind};by_cases N:op=21;{subst N;cases ps<;>simp[D8,DP,BI,Dg,Bl,AY,Bs,EK,Bf]<;>grind};by_cases R:op=22;{subst R;cases ps<;>simp[D8,DP,BI,Dg,Bl,AY,Bs,EK,Bf]<;>grind};by_cases T:op=23;{subst T;cases ps<;>simp[D8,DP,BI,Dg,Bl,AY,Bs,EK,Bf]<;>grind};by_cases U:op=24;{subst U;cases ps<;>simp[D8,DP,BI,Dg,Bl,AY,Bs,EK,Bf]<;>grind};by_cases V:op=25;{subst V;cases ps<;>simp[D8,DP,BI,Dg,Bl,AY,Bs,EK,Bf]<;>grind};by_cases W:op=26;{subst W;cases ps<;>simp[D8,DP,BI,Dg,Bl,AY,Bs,EK,Bf]<;>grind};by_cases a:op=27;{subst a;cases ps<;>simp[D8,DP,BI,Dg,Bl,AY,Bs,EK,Bf]<;>grind};by_cases b:op=28;{subst b;cases ps<;>simp[D8,DP,BI,Dg,Bl,AY,Bs,EK,Bf]<;>grind};simp[D8,DP,Bl,AY,c,d,e,f,g,i,j,l,m,h,q,r,y,z,C,D,G,H,L,M,N,R,T,U,V,W,a,b]
mutual
def We:∀(t:Tm),Jn t=true->H1 t=Ax t
 |.mk q n x ks ps,h=>by simp only[Jn,Am,am]at h;simp only[H1,Ax];rw[iU q n x ks.length ps<|by omega,TD ks h.2]
def TD:∀(ts:G1),FW ts=true->FZ ts=Bb ts
 |[],_=>rfl
 |t::r,h=>by simp only[FW,Am]at h;simp only[FZ,Bb];rw[We t h.1,TD r h.2]
end
def tS (t:Tm) (h:Fq t=true):G7 t=Cy t:=by simp only[Fq,Am]at h;simp only[G7,Cy];rw[We t h.2]
def zl3 (c:Cd):Ug c=Rr c:=by simp only[Ug,Rr];rw[show AW false=FF from funext Rc]
def zh4 (d:Dt):JR d=KB d:=by simp only[JR,KB,EK];rw[show Ug=Rr from funext zl3];simp only[PE]
def xO (f:Fd) (h:Gm f=true):N8 f=S8 f:=by simp only[Gm,Am]at h;simp only[N8,S8,Rc,tS f.body h.2]
def zkm (m:Md) (h:Dk m=true):Li m=E7 m:=by simp only[Dk,Am]at h;have r:m.cc.all N8=m.cc.all S8:=by{rw[Ga];simp only[Du];exact⟨λq f r=>by rw[<- xO f (Du.1 h.2 f r)];exact q f r,λq f r=>by rw[xO f<|Du.1 h.2 f r];exact q f r⟩};simp only[Li,E7,EK];rw[show JR=KB from funext zh4,r];simp only[PE]
mutual
def Zj:∀t:Y,(DH t).length<=Bn t
 |.mk s n x ps=>by have:=VT ps;simp only[DH,Bn,Bo];split<;>simp<;>omega
def VT:∀ts:E1,(CJ ts).length<=A5 ts
 |[]=>by simp[CJ]
 |t::r=>by have h:=Zj t;have q:=VT r;simp only[CJ,A5,Bo];omega
end
mutual
def Ld:∀t:Y,BH t=true->(DH t).map Fk=AN t
 |.mk s n x ps,h=>by simp only[BH,Am]at h;have y:=VU ps h.2;simp only[DH,AN,CG,y];by_cases q:s=2;have r:=h.1;simp[F2,q]at r;have:ps=[]:=by{cases ps with|nil=>rfl|cons=>{simp at r}};subst this;simp[q,Fk,AH];simp[q]
def VU:∀ts:E1,BT ts=true->(CJ ts).map Fk=AH ts
 |[],_=>rfl
 |t::r,h=>by simp only[BT,Am]at h;simp only[CJ,AH,CG,Ld t h.1,VU r h.2]
end
def Um (op n:Int) (x:Z) (ks:G1) (ps:E1) (q:Int) (h:∀p∈ps,BH p=true):Ai (.mk op n x ks ps) q=AX (.mk op n x ks ps) q:=by show(if Bv op q then[x]else if Ca op q then(match ps[(q-1).toNat]? with|some p=>BM p|none=>[])else[])=(if Bv op q then[x]else if Ca op q then(match ps[(q-1).toNat]? with|some p=>AN p|none=>[])else[]);cases r:ps[(q-1).toNat]? with|none=>rfl|some p=>{simp only[BM,Ld p<|h p<|AE r]}
def zen (l:E2) (s x:Z):x∈OD l s↔x=s\/x∈l:=by induction l with|nil=>simp[OD]|cons y r q=>{simp only[OD];split;simp only[Cu,q];constructor;rintro (h|h|h);exact .inr<|.inl h;exact .inl h;exact .inr<|.inr h;rintro (h|h|h);exact .inr<|.inl h;exact .inl h;exact .inr<|.inr h;split;rename_i h;have e:y=s:=by{simpa using h};subst e;simp only[Cu];constructor;intro h;exact .inr h;rintro (h|h);exact .inl h;exact h;simp only[Cu]}
def XG (b:E2) (x:Z):∀(l q:E2),x∈It b l q↔x∈q\/(x∈l/\AR b x=false)
 |[],q=>by simp[It]
 |y::r,q=>by simp only[It];rw[XG b x r];cases h:AR b y with|true=>simp only[aw,Cu];constructor;rintro (h1|⟨h1,z⟩);exact .inl h1;exact .inr ⟨.inr h1,z⟩;rintro (h1|⟨h1|h1,z⟩);exact .inl h1;subst h1;rw[h]at z;cases z;exact .inr ⟨h1,z⟩|false=>{simp only[En,aq,zen,Cu];constructor;rintro ((h1|h1)|⟨h1,z⟩);subst h1;exact .inr ⟨.inl O,h⟩;exact .inl h1;exact .inr ⟨.inr h1,z⟩;rintro (h1|⟨h1|h1,z⟩);exact .inl<|.inr h1;exact .inl<|.inl h1;exact .inr ⟨h1,z⟩}
mutual
def JM:Tm->Z->Prop
 |.mk h n x ks ps,y=>if h=4 then y=x else OH (.mk h n x ks ps) 0 ks y
def OH (t:Tm):Nat->L1 Tm->Z->Prop
 |_,[],_=>False
 |i,k::r,y=>(JM k y/\AR (AX t i) y=false)\/OH t (i+1) r y
end
mutual
def hO:∀(t:Tm) (y:Z),y∈FX t↔JM t y
 |.mk h n x ks ps,y=>by simp only[FX,JM];split;simp;rw[VK (.mk h n x ks ps) 0 ks [] y];simp
def VK (t:Tm):∀(i:Nat) (ks:G1) (q:E2) (y:Z),y∈GM t i ks q↔y∈q\/OH t i ks y
 |_,[],q,y=>by simp[GM,OH]
 |i,k::r,q,y=>by simp only[GM,OH];rw[VK t (i+1) r _ y,XG,hO k y];constructor;rintro ((h|h)|h);exact .inl h;exact .inr<|.inl h;exact .inr<|.inr h;rintro (h|h|h);exact .inl<|.inl h;exact .inl<|.inr h;exact .inr h
end
def BN {s:Z}:AR l s=true↔s∈l:=by induction l with|nil=>simp[AR]|cons x r q=>{simp only[AR,EJ,an,Cu,q];constructor;rintro (h|h);exact .inl h.symm;exact .inr h;rintro (h|h);exact .inl h.symm;exact .inr h}
def ziw (m:E2) (x y:Z):y∈HM m x↔y∈m\/y=x:=by rw[<- BN,lA,BN];simp
def zg6 (a s:E2) (y:Z):AR (a.reverse++s) y=(AR a y||AR s y):=by rw[Ga,EJ,BN,BN,BN];simp
mutual
def LU:Tm->Prop
 |.mk _ _ _ ks ps=>(∀p∈ps,BH p=true)/\MX ks
def MX:L1 Tm->Prop
 |[]=>True
 |k::r=>LU k/\MX r
end
mutual
def lL:∀(t:Tm) (s m:E2) (y:Z),LU t->(y∈EA t s m↔y∈m\/(JM t y/\AR s y=false))
 |.mk z n x ks ps,s,m,y,h=>by simp only[EA,JM];split;cases q:AR s x with|true=>simp only[aw];constructor;exact .inl;rintro (h1|⟨h1,r⟩);exact h1;subst h1;rw[q]at r;cases r|false=>{simp only[En,aq,ziw];constructor;rintro (h1|h1);exact .inl h1;subst h1;exact .inr ⟨rfl,q⟩;rintro (h1|⟨h1,_⟩);exact .inl h1;exact .inr h1};exact ZX z n x ks ps h.1 0 ks s m y h.2
def di:=@or_assoc
def ZX (op n:Int) (x:Z) (q:G1) (ps:E1) (z:∀p∈ps,BH p=true):∀(i:Nat) (ks:G1) (s m:E2) (y:Z),MX ks->(y∈HC (.mk op n x q ps) i ks s m↔y∈m\/(OH (.mk op n x q ps) i ks y/\AR s y=false))
 |_,[],s,m,y,_=>by simp[HC,OH]
 |i,k::r,s,m,y,h=>by simp only[HC,OH];rw[ZX op n x q ps z (i+1) r s _ y h.2,lL k _ m y h.1,zg6,Um op n x q ps i z];cases C:AR (AX (.mk op n x q ps) i) y<;>cases D:AR s y<;>simp[C,D,di]
end
mutual
def Dh:∀t:Tm,Ax t=true->LU t
 |.mk z n x ks ps,h=>by
  simp only[Ax,Am]at h;simp only[LU];refine⟨λp r=>?_,Nd ks h.2⟩;have y:ps.all CM=true:=by
   first
    |exact h.1.2
    |exact h.1.1
  have q:=Du.1 y p r;simp only[CM,Am]at q;exact q.1.2
def Nd:∀ts:G1,Bb ts=true->MX ts
 |[],_=>trivial
 |t::r,h=>by simp only[Bb,Am]at h;exact⟨Dh t h.1,Nd r h.2⟩
end
def Rs (t:Tm):1<=DK t:=by obtain⟨_,_,_,_,_⟩:=t;simp[DK]
def dK:∀ks:G1,ks.length<=Ff ks
 |[]=>by simp[Ff]
 |k::r=>by have:=dK r;have:=Rs k;simp only[C1,Ff];omega
def Zo {p:Y} (h:CM p=true):Bn p<=12:=by simp only[CM,Am,am]at h;have:=EF p 12 h.1.1;omega
def P4 {op n:Int} {k p:Nat} (h:Bl op n x k p=true) (q:Ca op i=true) (r:i<k):((i:Int)-1).toNat<p:=by simp only[Ca,Am,an,am]at q;obtain⟨rfl,y⟩:=q;simp[Bl]at h;omega
mutual
def Kt:∀t:Tm,Ax t=true->DK t<=1000000->Qy t/\Ig t
 |.mk C n x ks ps,h,D=>by simp only[Ax,Am]at h;obtain⟨⟨G,H⟩,L⟩:=h;simp only[DK]at D;have T:=dK ks;let⟨M,N⟩:=Q8 ks L (by omega);have get:∀i:Nat,i<ks.length->Ca C i=true->∃p,ps[((i:Int)-1).toNat]?=some p/\Bn p<=12:=λi q r=>by{have y:=P4 G r q;exact⟨ps[((i:Int)-1).toNat],by simp[y],Zo<|Du.1 H _<|by simp⟩};refine⟨⟨by omega,λi q _ r=>?_,M⟩,⟨by omega,λi q _ r=>?_,N⟩⟩;let⟨p,z,R⟩:=get i q r;exact⟨p,z,by omega⟩;let⟨p,z,R⟩:=get i q r;have:=Zj p;exact⟨p,z,by simp only[BM,CD];omega⟩
def Q8:∀ts:G1,Bb ts=true->Ff ts<=1000000->Qx ts/\LT ts
 |[],_,_=>⟨ab,ab⟩
 |t::r,h,q=>by simp only[Bb,Am]at h;simp only[Ff]at q;let⟨y,z⟩:=Kt t h.1 (by omega);let⟨C,D⟩:=Q8 r h.2 (by omega);exact⟨⟨y,C⟩,⟨z,D⟩⟩
end
mutual
def Y7:∀(t:Tm) (l d:Int),0<=B0 t l d->B0 t l d+DK t<=l
 |.mk _ _ _ ks _,l,d,h=>by simp only[B0]at h ⊢;by_cases q:l<1\/d<1;rw[ae q]at h;omega;rw[ac q]at h ⊢;have:=Vi ks (l-1) (d-1) h;simp only[DK];omega
def Vi:∀(ts:G1) (l d:Int),0<=Cf ts l d->Cf ts l d+Ff ts<=l
 |[],l,_,h=>by simp[Cf,Ff]
 |t::r,l,d,h=>by simp only[Cf]at h ⊢;by_cases q:0<=l;rw[ae q]at h ⊢;have z:=Vi r (B0 t l d) d h;by_cases y:0<=B0 t l d;have:=Y7 t l d y;simp only[Ff];omega;have:=(Kf r (B0 t l d) d (HV t l d).1).2;omega;rw[ac q]at h;omega
end
def Hg (t:Tm) (h:Cy t=true):LU t/\Ig t/\Qy t/\DK t<=60:=by simp only[Cy,Am,am]at h;have r:=Y7 t 60 14 h.1;have q:DK t<=60:=by{omega};let⟨a,b⟩:=Kt t h.2 (by omega);exact⟨Dh t h.2,b,a,q⟩
def Oi:∀(Γ h:At) (x:Z),Iz (Γ++h) x=match Iz h x with|some t=>some t|none=>Iz Γ x
 |[],h,x=>by simp only[JJ,Iz];cases Iz h x<;>rfl
 |(y,t)::r,h,x=>by simp only[DV,Iz,Oi r h x];cases Iz h x<;>rfl
def Xp (Γ:At):L1 Z:=Γ.map (·.1)
def dJ:∀(Γ:At) (x:Z),(Iz Γ x).isSome=true↔x∈Xp Γ
 |[],x=>by simp[Iz,Xp]
 |(y,t)::r,x=>by have q:=dJ r x;simp only[Xp]at q;simp only[Iz,Xp,CK,Cu];cases h:Iz r x with|some u=>rw[h]at q;simp[<- q]|none=>{rw[h]at q;by_cases e:y=x;simp[e];have:¬x∈r.map (·.1):=λz=>by{simpa using q.2 z};rw[ac e];simp[this];exact λh=>e h.symm}
def Np {q:At} (h:x∉Xp E->B5 z q x=B5 m Γ x):B5 z (q++E) x=B5 m (Γ++E) x:=by simp only[B5,Oi]at h ⊢;cases e:Iz E x with|some t=>rfl|none=>{exact h λr=>by have:=(dJ E x).2 r;rw[e]at this;cases this}
def Nn (h:x∉Xp E):B5 m (Γ++E) x=B5 m Γ x:=by simp only[B5,Oi];cases e:Iz E x with|some t=>exact absurd ((dJ E x).1 (by rw[e];rfl)) h|none=>{rfl}
def dh:=@beq_eq_false_iff_ne
def RX {f n:Int} (h:BH (.mk f n x ps)=true) (z:f≠6) (y:f≠2):AN (.mk f n x ps)=[]:=by simp only[BH,Am]at h;have q:=h.1;unfold F2 at q;have:ps=[]:=by{cases ps with|nil=>rfl|cons a r=>{exfalso;have C:((((a::r).length:Nat):Int)==0)=false:=by{simp only[C1,dh,ne_eq];omega};rw[C]at q;simp[z,y]at q}};subst this;simp[AN,y,AH]
mutual
def vZ {m:Md}:∀(p τ:Y) (Γ q:At),BH p=true->Hv m p τ Γ q->∃E,q=Γ++E/\Xp E=AN p/\∀(z:Md) (r:At),z.SA=m.SA->Hv z p τ r (r++E)
 |.mk f n x ps,τ,Γ,q,H,h=>by simp only[Hv]at h ⊢;by_cases y:f=2;simp only[ae y]at h ⊢;exact⟨_,h,by simp[Xp,AN,y],λ_ _ _=>rfl⟩;by_cases L:f=6;have C:¬f=3:=by{omega};have D:¬f=4:=by{omega};have G:¬f=5:=by{omega};simp only[ac y,ac C,ac D,ac G,ae L]at h ⊢;obtain⟨c,d,N,R,T,U⟩:=h;simp only[BH,Am]at H;let⟨E,V,W,a⟩:=iL ps c.args Γ q H.2 U;exact⟨E,V,by rw[W];simp[AN,y],λz r M=>⟨c,d,by rw[M];exact N,R,T,a z r M⟩⟩;have b:=RX H L y;rw[b];by_cases C:f=3;simp only[ac y,ae C]at h ⊢;exact⟨[],by simp[h.2],rfl,λ_ _ _=>⟨h.1,by simp⟩⟩;by_cases D:f=4;simp only[ac y,ac C,ae D]at h ⊢;exact⟨[],by simp[h.2],rfl,λ_ _ _=>⟨h.1,by simp⟩⟩;by_cases G:f=5;simp only[ac y,ac C,ac D,ae G]at h ⊢;exact⟨[],by simp[h.2],rfl,λ_ _ _=>⟨h.1,by simp⟩⟩;simp only[ac y,ac C,ac D,ac G,ac L]at h ⊢;exact⟨[],by simp[h],rfl,λ_ _ _=>by simp⟩
def iL {m:Md}:∀(ps ts:E1) (Γ q:At),BT ps=true->KG m ps ts Γ q->∃E,q=Γ++E/\Xp E=AH ps/\∀(z:Md) (r:At),z.SA=m.SA->KG z ps ts r (r++E)
 |[],[],Γ,q,_,h=>by simp only[KG]at h;exact⟨[],by simp[h],rfl,λ_ _ _=>by simp[KG]⟩
 |p::ps,t::ts,Γ,q,C,⟨y,M,N⟩=>by simp only[BT,Am]at C;let⟨D,R,G,T⟩:=vZ p t Γ y C.1 M;let⟨U,V,H,W⟩:=iL ps ts y q C.2 N;refine⟨D++U,by rw[V,R,CV],?_,λz r L=>⟨r++D,T z r L,?_⟩⟩;simp only[Xp,CG,AH]at G H ⊢;rw[G,H];rw[<- CV];exact W z _ L
 |[],_::_,_,_,_,h=>h.elim
 |_::_,[],_,_,_,h=>h.elim
end
def gT {m:Md} {τ:Y} {Γ:At}:∀(ps:E1) (l:L1 At),(∀p∈ps,BH p=true)->HU m τ Γ ps l->∃E:L1 At,l=E.map (λe=>Γ++e)/\E.map Xp=ps.map AN/\∀(z:Md) (r:At),z.SA=m.SA->HU z τ r ps (E.map λe=>r++e)
 |[],l,_,h=>by simp only[HU]at h;exact⟨[],by simp[h],rfl,λ_ _ _=>by simp[HU]⟩
 |p::ps,l,C,⟨y,l1,G,H,M⟩=>by let⟨E,N,R,T⟩:=vZ p τ Γ y (C p<|by simp) G;let⟨L,U,V,W⟩:=gT ps l1 (λq a=>C q<|by simp[a]) H;exact⟨E::L,by rw[M,N,U];rfl,by simp[R,V],λz r D=>⟨_,_,T z r D,W z r D,rfl⟩⟩
def YZ {op:Int} (p:op≠4) (s:op≠5) (t:op≠7) (b:op≠15) (e:op≠27) (h:Bd m Γ op x ps K τ S):∃f:E1,K=f.map (λu=>(Γ,u))/\∀(z:Md) (y:At),z.SA=m.SA->Bd z y op x ps (f.map λu=>(y,u)) τ S:=by unfold Bd at h ⊢;simp only[ac p,ac s,ac t,ac b,ac e]at h ⊢;by_cases g:op=1\/op=25;simp only[ae g]at h ⊢;exact⟨[],h.1,λ_ _ _=>⟨rfl,h.2⟩⟩;simp only[ac g]at h ⊢;by_cases i:op=2;simp only[ae i]at h ⊢;exact⟨[],h.1,λ_ _ _=>⟨rfl,h.2⟩⟩;simp only[ac i]at h ⊢;by_cases j:op=3\/op=28;simp only[ae j]at h ⊢;exact⟨[],h.1,λ_ _ _=>⟨rfl,h.2⟩⟩;simp only[ac j]at h ⊢;by_cases k:op=6;simp only[ae k]at h ⊢;obtain⟨a,q,r⟩:=h;exact⟨[_,_],q,λ_ _ _=>⟨a,rfl,r⟩⟩;simp only[ac k]at h ⊢;by_cases l:op=8;simp only[ae l]at h ⊢;exact⟨[_,_,_],h.1,λ_ _ _=>⟨rfl,h.2⟩⟩;simp only[ac l]at h ⊢;by_cases n:op=9\/op=10\/op=11;simp only[ae n]at h ⊢;exact⟨[_,_],h.1,λ_ _ _=>⟨rfl,h.2⟩⟩;simp only[ac n]at h ⊢;by_cases o:op=12;simp only[ae o]at h ⊢;exact⟨[_,_],h.1,λ_ _ _=>⟨rfl,h.2⟩⟩;simp only[ac o]at h ⊢;by_cases C:op=13;simp only[ae C]at h ⊢;obtain⟨a,q,r⟩:=h;exact⟨[_,_],q,λ_ _ _=>⟨a,rfl,r⟩⟩;simp only[ac C]at h ⊢;by_cases D:op=14;simp only[ae D]at h ⊢;obtain⟨c,d,q,v,w⟩:=h;exact⟨c.args,v,λz _ A=>⟨c,d,by rw[A];exact q,rfl,w⟩⟩;simp only[ac D]at h ⊢;by_cases G:op=16;simp only[ae G]at h ⊢;obtain⟨a,q,r⟩:=h;exact⟨[_],q,λ_ _ _=>⟨a,rfl,r⟩⟩;simp only[ac G]at h ⊢;by_cases H:op=17;simp only[ae H]at h ⊢;exact⟨[_],h.1,λ_ _ _=>⟨rfl,h.2⟩⟩;simp only[ac H]at h ⊢;by_cases L:op=18;simp only[ae L]at h ⊢;obtain⟨a,q,r⟩:=h;exact⟨[_,_],q,λ_ _ _=>⟨a,rfl,r⟩⟩;simp only[ac L]at h ⊢;by_cases M:op=19;simp only[ae M]at h ⊢;obtain⟨a,q,r⟩:=h;exact⟨[_],q,λ_ _ _=>⟨a,rfl,r⟩⟩;simp only[ac M]at h ⊢;by_cases N:op=20;simp only[ae N]at h ⊢;exact⟨[_],h.1,λ_ _ _=>⟨rfl,h.2⟩⟩;simp only[ac N]at h ⊢;by_cases R:op=21;simp only[ae R]at h ⊢;obtain⟨a,q,r⟩:=h;exact⟨[],q,λ_ _ _=>⟨a,rfl,r⟩⟩;simp only[ac R]at h ⊢;by_cases T:op=22;simp only[ae T]at h ⊢;obtain⟨a,q,r⟩:=h;exact⟨[_,_],q,λ_ _ _=>⟨a,rfl,r⟩⟩;simp only[ac T]at h ⊢;by_cases U:op=23;simp only[ae U]at h ⊢;exact⟨[_],h.1,λ_ _ _=>⟨rfl,h.2⟩⟩;simp only[ac U]at h ⊢;by_cases V:op=24;simp only[ae V]at h ⊢;exact⟨[_],h.1,λ_ _ _=>⟨rfl,h.2⟩⟩;simp only[ac V]at h ⊢;by_cases W:op=26;simp only[ae W]at h ⊢;exact⟨[_],h.1,λ_ _ _=>⟨rfl,h.2⟩⟩;simp only[ac W]at h
def gO:Bd m Γ 4 x ps K τ S=(K=[]/\B5 m Γ x=some τ/\S=[]):=rfl
def vD:Bd m Γ 5 x ps K τ S=∃a b,K=[(Γ++[(x,a)],b)]/\τ=By a b/\S=[]:=rfl
def vC:Bd m Γ 7 x ps K τ S=∃a,K=[(Γ,a),(Γ++[(x,a)],τ)]/\S=[]:=rfl
def cE:Bd m Γ 15 x ps K τ S=∃a l,HU m a Γ ps l/\K=(Γ,a)::l.map (λh=>(h,τ))/\S=[]:=rfl
def cD:Bd m Γ 27 x ps K τ S=(K=[(Γ++[(x,By τ Be)],Be)]/\S=[]):=rfl
def SS (n:Int) (x:Z) (ks:G1) (ps:E1) (j:Nat):AX (.mk 15 n x ks ps) ((j+1:Nat):Int)=match ps[j]? with|some p=>AN p|none=>[]:=by have h:((((j+1:Nat):Int)-1).toNat)=j:=by{omega};have q:Ca 15 ((j+1:Nat):Int)=true:=by{simp only[Ca,beq_self_eq_true,Nk,am];omega};have r:Bv 15 ((j+1:Nat):Int)=false:=by{simp[Bv]};simp only[AX,h,q,r,En,aq,aw];cases ps[j]?<;>rfl
def zd9 {op:Int} (W:∀p∈ps,BH p=true) (y:Bd m Γ op x ps K τ S):∃E:T5,K=E.map (λp=>(Γ++p.1,p.2))/\(∀(i:Nat) e,E[i]?=some e->∀n ks,Xp e.1=AX (.mk op n x ks ps) i)/\(op=4->E=[]/\B5 m Γ x=some τ)/\∀(z:Md) (q:At),z.SA=m.SA->(op=4->B5 z q x=B5 m Γ x)->Bd z q op x ps (E.map λp=>(q++p.1,p.2)) τ S:=by by_cases G:op=4;subst G;rw[gO]at y;exact⟨[],y.1,λi e h=>by simp at h,λ_=>⟨rfl,y.2.1⟩,λz q _ c=>by rw[gO];exact⟨rfl,by rw[c O];exact y.2.1,y.2.2⟩⟩;by_cases R:op=5;subst R;rw[vD]at y;obtain⟨a,b,C,D,T⟩:=y;refine⟨[([(x,a)],b)],by simp[C],λi e r n ks=>?_,λh=>absurd h G,λz q _ _=>by rw[vD];exact⟨a,b,rfl,D,T⟩⟩;rcases i with _|i<;>simp at r;subst r;simp[Xp,AX,Bv];by_cases U:op=7;subst U;rw[vC]at y;obtain⟨a,C,D⟩:=y;refine⟨[([],a),([(x,a)],τ)],by simp[C],λi e r n ks=>?_,λh=>absurd h G,λz q _ _=>by rw[vC];exact⟨a,by simp,D⟩⟩;rcases i with _|_|i<;>simp at r;subst r;simp[Xp,AX,Bv,Ca];subst r;simp[Xp,AX,Bv];by_cases H:op=27;subst H;rw[cD]at y;obtain⟨C,D⟩:=y;refine⟨[([(x,By τ Be)],Be)],by simp[C],λi e r n ks=>?_,λh=>absurd h G,λz q _ _=>by rw[cD];exact⟨rfl,D⟩⟩;rcases i with _|i<;>simp at r;subst r;simp[Xp,AX,Bv];by_cases L:op=15;subst L;rw[cE]at y;obtain⟨a,l,C,D,T⟩:=y;let⟨E,d,f,g⟩:=gT ps l W C;refine⟨([],a)::E.map λe=>(e,τ),by simp[D,d,ci],λi e r n ks=>?_,λh=>absurd h G,λz q V _=>by rw[cE];exact⟨a,_,g z q V,by simp[ci],T⟩⟩;rcases i with _|i;simp at r;subst r;simp[Xp,AX,Bv,Ca];simp at r;obtain⟨o,j,rfl⟩:=r;have M:(E.map Xp)[i]?=(ps.map AN)[i]?:=by{rw[f]};simp only[Cx,j,FQ]at M;rw[SS];cases N:ps[i]? with|none=>rw[N]at M;cases M|some p=>{rw[N]at M;simpa using M};let⟨k,C,D⟩:=YZ G R U L H y;refine⟨k.map λu=>([],u),by simp[C],λi e r n ks=>?_,λh=>absurd h G,λz q V _=>?_⟩;simp at r;obtain⟨u,_,rfl⟩:=r;simp[Xp,AX,Bv,Ca,R,U,H,L];have:=D z q V;simpa[ci]using this
mutual
def xF {m z:Md} (D:z.SA=m.SA):∀(t:Tm) (Γ h:At) (τ:Y) (S:E1),LU t->(∀y,JM t y->B5 z h y=B5 m Γ y)->Do m t Γ τ S->Do z t h τ S
 |.mk G n x ks ps,Γ,h,τ,S,H,L,⟨K,S1,M,N,q,R⟩=>by obtain⟨E,rfl,T,U,V⟩:=zd9 H.1 N;refine⟨_,S1,M,V z h D λC=>L x<|by simp[JM,C],?_,R⟩;by_cases C:G=4;rw[(U C).1]at q ⊢;cases ks with|nil=>exact q|cons a r=>{exact q.elim};exact kZ D ks (.mk G n x ks ps) 0 E Γ h S1 H.2 (λj e W=>by rw[BU];exact T j e W n ks) (λy b=>L y (by simp[JM,C];exact b)) q
def kZ {m z:Md} (C:z.SA=m.SA):∀(ts:G1) (T:Tm) (i:Nat) (E:T5) (Γ q:At) (S:E1),MX ts->(∀(j:Nat) e,E[j]?=some e->Xp e.1=AX T (i+j:Nat))->(∀y,OH T i ts y->B5 z q y=B5 m Γ y)->Ee m ts (E.map λp=>(Γ++p.1,p.2)) S->Ee z ts (E.map λp=>(q++p.1,p.2)) S
 |[],_,_,[],_,_,_,_,_,_,h=>h
 |[],_,_,_::_,_,_,_,_,_,_,h=>h.elim
 |t::ts,T,i,[],Γ,q,S,_,_,_,h=>h.elim
 |t::ts,T,i,e::E,Γ,q,S,D,G,H,⟨S1,L,M,N,R⟩=>by refine⟨S1,L,xF C t _ _ _ _ D.1 (λy r=>Np λU=>H y ?_) M,kZ C ts T (i+1) E Γ q L D.2 (λj V W=>by rw[show i+1+j=i+(j+1) by omega];exact G (j+1) V<|by simpa using W) (λy r=>H y (by simp only[OH];exact .inr r)) N,R⟩;simp only[OH];refine .inl ⟨r,?_⟩;cases a:AR (AX T i) y with|false=>rfl|true=>{exact absurd (by rw[G 0 e O];exact BN.1 a) U}
end
def To {α:Type} {sz f:Nat} {ys:L1 α}:∀(es:L1<|L1 α) (k:Nat) (c:L1 α),(∀e∈es,e.length=sz)->es[k]?=some c->f+ys.length<=sz->(es.set k<|c.take f++ys++c.drop (f+ys.length)).flatten=es.flatten.take (k*sz+f)++ys++es.flatten.drop (k*sz+f+ys.length)
 |[],_,_,_,h,_=>by simp at h
 |e::r,0,c,q,h,y=>by simp at h;subst h;have z:=q e (by simp);simp only[Sf,QH,Nat.zero_mul,BU];rw[List.take_append_of_le_length<|by omega,List.drop_append_of_le_length<|by omega];simp
 |e::r,k+1,c,q,h,y=>by have z:=q e (by simp);have C:=To r k c (λe h=>q e<|by simp[h]) (by simpa using h) y;simp only[PC,QH,C];have D:(k+1)*sz+f=e.length+(k*sz+f):=by{rw[z,Kx];omega};rw[D,Z6 e.length,List.take_length_add_append,List.drop_length_add_append];simp
def Ts.iq {H:R0} {ys:G2} (h:Ts I vs xs) (k:Ts I H ys) (off:Nat):Ts I (vs.take off++H++vs.drop (off+H.length))<|xs.take off++ys++xs.drop (off+ys.length):=by
 have G:∀{a b:R0} {x y:G2},Ts I a x->Ts I b y->Ts I (a++b) (x++y):=λ{a b x y} p q=>
  ⟨by simp[p.1,q.1],λi v z r C=>by
   rw[PH]at r C;by_cases D:i<a.length
   ·rw[ae D]at r;rw[ae (by rw[<- p.1];exact D)]at C;exact p.2 i v z r C
   ·rw[ac D]at r;rw[ac (by rw[<- p.1];exact D),<- p.1]at C;exact q.2 _ v z r C⟩
 refine G (G ⟨by simp[h.1],λi v z r C=>?_⟩ k) ⟨by simp[h.1,k.1],λi v z r C=>?_⟩
 ·rw[Ea]at r C;by_cases D:i<off
  ·rw[ae D]at r C;exact h.2 i v z r C
  ·rw[ac D]at r;cases r
 ·rw[F7]at r C;rw[k.1]at r;exact h.2 _ v z r C
structure POi where
 id:Nat
 es:List (List V)
 m:Int
 sz:Nat
 g:Option (Bool×Bool)
 ob:List Prop
 t:Nat
 todo:List DI
def zmx (r:TT) (n:Nat) (env:Env) (st:St) (todo:L1 DI):Option POi :=
 match B4 todo ([],[])with
 |some (h,o,_)=>match o.op,CQ h env o with
  |.indexAddr t x i,some g=>match lk r t,Qb (A1 g) env x,Qb (A1 g) env i with
   |some { sh:=.sl e,.. },some (.own id _,q),some (.Kp (.int _ m),y)=>match lk r e,lk st id,o.dst,Cs n o.dst,B4 todo ([id],[])with
    |some ti,some (some (.row _ sz es)),some z,true,some (_,_,C)=>match Nat.beq sz ti.size with
     |true=>some ⟨id,es,m,sz,g,LC q y,z,C⟩
     |false=>none
    |_,_,_,_,_=>none
   |_,_,_=>none
  |_,_=>none
 |none=>none
structure POl where
 id:Nat
 es:List (List V)
 k:Nat
 f:Nat
 sz:Nat
 i:kh
 g:Option (Bool×Bool)
 ob:List Prop
 t:Nat
 todo:List DI
def zeq (r:TT) (n:Nat) (env:Env) (st:St) (todo:L1 DI):Option POl :=
 match B4 todo ([],[])with
 |some (h,o,_)=>match o.op,CQ h env o with
  |.load t x,some g=>match lk r t,Qb (A1 g) env x with
   |some i,some (.ky id k sz f,y)=>match lk st id,o.dst,Cs n o.dst,B4 todo ([id],[])with
    |some (some (.row _ q es)),some z,true,some (_,_,C)=>match Nat.beq sz q with
     |true=>some ⟨id,es,k,f,sz,i,g,y,z,C⟩
     |false=>none
    |_,_,_,_=>none
   |_,_=>none
  |_,_=>none
 |none=>none
structure POs where
 id:Nat
 e:TypeId
 es:List (List V)
 k:Nat
 f:Nat
 sz:Nat
 ys:List V
 n:Nat
 ob:List Prop
 todo:List DI
def vQ (r:TT) (env:Env) (st:St) (todo:L1 DI):Option POs :=
 match B4 todo ([],[])with
 |some (_,o,_)=>match o.guard,o.dst,o.op with
  |none,none,.store t p x=>match lk r t,Fi env p,Fi env x with
   |some i,some (.ky id k sz f),some q=>match lk st id,B4 todo ([id],[id]),elemOf i.size q with
    |some (some (.row e h es)),some (_,_,C),some (y,ob)=>match Nat.beq sz h with
     |true=>some ⟨id,e,es,k,f,sz,y,i.size,ob,C⟩
     |false=>none
    |_,_,_=>none
   |_,_,_=>none
  |_,_,_=>none
 |none=>none
def LY {f G:K1×K1} {all y:L1 Oper} {o D:Oper} (h:B4 todo f=some (all,o,k)) (z:B4 todo G=some (y,D,C)):y=all/\D=o:=by rcases Lh h with⟨r,q,rfl,_⟩|⟨r,H,q,rfl,_⟩;simp[B4]at z;exact⟨z.1.symm,z.2.1.symm⟩;simp[B4]at z;exact⟨z.1.symm,z.2.1.symm⟩
def oQ {id:Nat} (y:No I μ st aa w) (D:A2 st id<|.row e sz es) (z:es≠[]):∃b cap bl,μ id=some (.slice (some ⟨b,0,none⟩) es.length cap)/\w.heap[b]?=some (.cells bl e (0,0))/\es.length<=cap/\cap<=maxLen/\bl.size=cap*sz/\Ts I (bl.toList.take<|es.length*sz) es.flatten/\(∀c∈es,c.length=sz)/\(∀c∈es,∀x∈c,V.one x=true)/\0<sz:=by let⟨g,G,xs,⟨_,q⟩,h,C,r,H⟩:=y.SB id _ D;rcases q with⟨_,L⟩|⟨b,cap,bl,rfl,_,M,N,R,T,U⟩;exact absurd (Jb L) z;rw[<- U]at h;exact⟨b,cap,bl,G,M,N,R,T,h,C,r,H⟩
def GJ (H:dv P r) {c:POi} (h:zmx r n env st todo=some c) (R:A1 c.g->0<=c.m/\c.m<c.es.length) (T:A8 c.ob) (U:G P n F Q c.todo ((c.t,gD c.g<|.ky c.id c.m.toNat c.sz 0)::env) st aa):G P n F Q todo env st aa:=by unfold zmx at h;split at h;rename_i all o V h0;split at h;rename_i t x i g z hg;split at h;rename_i e _ _ _ _ id ln o1 kk m o2 ht hx hi;split at h;rename_i ti e' sz es t' s o' C W hl y u A;split at h;rename_i d;cases h;obtain⟨rfl,rfl⟩:=LY h0 A;have U:G P n F Q C (Cn o'.dst (gD g<|.ky id m.toNat sz 0) env) st aa:=by{rw[y];exact U};refine Cc (fr:=[]) (wr:=[]) (rd:=[id]) A (Eo hg λI μ a7 B a w f L q D=>?_) (by rw[y]at u ⊢;exact u) (λc R=>by rw[z]at R;cases R) U;rw[z]at q;let⟨j,k⟩:=BS T;have E:=ER hx j D<|q x (by simp[Op.operands]);have ri:=(ER hi k D<|q i<|by simp[Op.operands]).Ks.da;let⟨J,K⟩:=R D;simp only at J K;have l:A2 a7 id<|.row e' sz es:=by{unfold A2;rw[f id<|by simp];exact hl};let⟨b,cap,bl,M,p,S,na,ov,ta,hlen,u6,hp⟩:=oQ L l (by rintro rfl;simp at K;omega);have hs:=Dm d;subst hs;have hu:P.underlying t=some (.slice e):=H.sh ht;simp only[execOp,z,ri];generalize hv:a.eval x=v at E;cases E with|own _ _ ad cp hm=>{rw[hm]at M;cases M;have hr:=Sq (w:=w) hu (H e ti W) (b:=b) (off:=0) (len:=es.length) (cap:=cap) (kk:=kk) J (by omega);have N:(do pure (.value (<- Instr.indexAt t (.slice (some ⟨b,0,none⟩) es.length cap) (.int kk m))):Sem Next).run P w=.ok (.value<|.pointer<|some ⟨b,0+m.toNat*ti.size,none⟩) w:=AG hr;rw[N,BU];exact⟨I,μ,L,.ky b id _ cap m.toNat ti.size 0 hm,Mu.le_refl μ,fi.refl _ _ _ _⟩};cases h;cases h;cases h;cases h;cases h
def QZ (S:dv P r) {c:POl} {e:G2} (h:zeq r n env st todo=some c) (J:A1 c.g->c.es[c.k]?=some e) (hd:QL c.i (Nat.beq c.sz c.i.size) e c.f=some d) (kz:A8 c.ob) (hk:G P n F Q c.todo ((c.t,gD c.g d)::env) st aa):G P n F Q todo env st aa:=by unfold zeq at h;split at h;rename_i all o za h0;split at h;rename_i t x g M hg;split at h;rename_i i id N sz f o1 ht hx;split at h;rename_i e' sz' es t' zb o' C hl z W k;split at h;rename_i kq;cases h;obtain⟨rfl,rfl⟩:=LY h0 k;have hk:G P n F Q C (Cn o'.dst (gD g d) env) st aa:=by{rw[z];exact hk};refine Cc (fr:=[]) (wr:=[]) (rd:=[id]) k (Eo hg λI μ a7 k8 a w lr l D m=>?_) (by rw[z]at W ⊢;exact W) (λc J=>by rw[M]at J;cases J) hk;rw[M]at D;have rx:=ER hx kz m<|D x (by simp[Op.operands]);have p:=J m;simp only at p;have hs:=Dm kq;subst hs;have mf:A2 a7 id<|.row e' sz es:=by{unfold A2;rw[lr id<|by simp];exact hl};let⟨b,cap,R,s,T,hcap,na,ov,H,L,A,hp⟩:=oQ l mf (by rintro rfl;simp at p);have he:=L e<|AE p;simp only[execOp,M];generalize hv:a.eval x=v at rx;cases rx with|ky _ _ ln cp _ _ _ hm=>{rw[hm]at s;cases s;have q:∀j y,e[j]?=some y->∃u,R[N*sz+j]?=some u/\PB I u y/\u.oneCell'=true:=by{intro j y U;have k:=Dc L N e j y p U;have mc:N*sz+j<(R.toList.take<|es.length*sz).length:=by{rw[H.1];exact(A9.1 k).1};have K:=Bi mc;have h3:=H.2 _ _ _ K k;refine⟨_,?_,h3,h3.one<|A e (AE p) y<|AE U⟩;rw[Ea]at K;split at K;simp;cases K};let⟨u,q1,q2⟩:=QK (P:=P) (w:=w) (I:=I) (μ:=μ) (S t i ht) (b:=b) (o:=N*sz) (off:=f) (xs:=e) (vs:=λj=>(R[N*sz+j]?).getD undef) (same:=Nat.beq sz i.size) (λj y U=>by{let⟨u,B,k2,k3⟩:=q j y U;refine⟨?_,by simp[B,k3]⟩;rw[Gx T (N*sz+j) u<|by simpa using B];simp[B]}) (λj y U=>by{let⟨u,B,k2,k3⟩:=q j y U;simpa[B]using k2}) (λ_ hs _=>by rw[he];exact Dm hs) hd;have E:(do pure (.value (<- Instr.loadAt t (.pointer<|some ⟨b,N*sz+f,none⟩))):Sem Next).run P w=.ok (.value u) w:=AG q1;rw[E];exact⟨I,μ,l,q2,Mu.le_refl μ,fi.refl _ _ _ _⟩};cases h;cases h;cases h;cases h;cases h
def N7 (jw:dv P r) {c:POs} {e e':G2} (h:vQ r env st todo=some c) (R:c.es[c.k]?=some e) (hf:c.f+c.n<=c.sz) (u:e'=e.take c.f++c.ys++e.drop (c.f+c.n)) (A:A8 c.ob) (m:G P n F Q c.todo env ((c.id,some<|.row c.e c.sz<|c.es.set c.k e')::st) aa):G P n F Q todo env st aa:=by unfold vQ at h;split at h;rename_i all o za h0;split at h;rename_i t p x ns U g;split at h;rename_i i id z sz f dx ht hp hx;split at h;rename_i s sz' es zb o' C ys ob hl h1 to;split at h;rename_i kq;cases h;obtain⟨rfl,rfl⟩:=LY h0 h1;have hs:=Dm kq;subst hs;simp only at R hf u A m;have m:G P n F Q C (Cn o'.dst .undef env) ([(id,some<|.row s sz<|es.set z e')]++st) aa:=by{rw[U];exact m};refine Cc (fr:=[]) (wr:=[(id,some<|.row s sz<|es.set z e')]) (rd:=[id]) h1 ?_ (by simp[Cs,U]) (λc R=>by rw[g]at R;cases R) m;intro I μ a7 k8 a w lr B mv;refine⟨λ_=>?_,λhw=>by rw[AO ns]at hw;cases hw⟩;have H:=B3 mv;rw[g]at H;have rp:=H p (by simp[Op.operands]) _ hp;let⟨r1,r2,r3,r4⟩:=Xl to (H x (by simp[Op.operands]) _ hx) A;have E:A2 a7 id<|.row s sz es:=by{unfold A2;rw[lr id<|by simp];exact hl};let⟨b,L,q,J,M,W,na,ov,K,N,d,S⟩:=oQ B E (by rintro rfl;simp at R);have hkl:=(A9.1 R).1;have qa:z*sz+f+i.size<=es.length*sz:=by{have:(z+1)*sz<=es.length*sz:=IW _ hkl;rw[Kx]at this;omega};have hcapz:es.length*sz<=L*sz:=IW _ W;generalize hv:a.eval p=v at rp;cases rp with|ky _ _ ln cp _ _ _ hm=>{rw[hm]at J;cases J;have D:(a.eval x).cells.toList.length=i.size:=by{simpa using r2};have iu:(execOp a.eval o').run P w=.ok .skip (w.setRow b (q.toList.take (z*sz+f)++(a.eval x).cells.toList++q.toList.drop (z*sz+f+(a.eval x).cells.toList.length)).toArray):=by{simp only[execOp,g,hv,ak,LI (jw t i ht) M r2 r4 (show z*sz+f+(a.eval x).cells.toList.length<=q.size by rw[D];omega),ah,al]};rw[iu];have rT:q.toList.length=L*sz:=by{simpa using ov};have pj:eb I μ (w.setRow b (q.toList.take (z*sz+f)++(a.eval x).cells.toList++q.toList.drop (z*sz+f+(a.eval x).cells.toList.length)).toArray) (.slice (some ⟨b,0,none⟩) es.length L)<|.row s sz<|es.set z e':=by{subst u;have T:ys.length=i.size:=r3;have e1:=To (ys:=ys) es z e N R (by rw[T];exact hf);rw[T]at e1;have e2:(q.toList.take (z*sz+f)++(a.eval x).cells.toList++q.toList.drop (z*sz+f+(a.eval x).cells.toList.length)).take (es.length*sz)=(q.toList.take<|es.length*sz).take (z*sz+f)++(a.eval x).cells.toList++(q.toList.take<|es.length*sz).drop (z*sz+f+(a.eval x).cells.toList.length):=by{rw[D,CV,jJ,jJ,zfq,zfq,HR,D,CV];rw[jI (by omega:z*sz+f<=q.toList.length),Nat.min_eq_right (by omega:z*sz+f<=es.length*sz),jI (by omega:z*sz+f<=es.length*sz)];rw[Df (l:=(a.eval x).cells.toList)<|by omega,List.drop_take];congr 3;omega};have hR:=Ts.iq K r1<|z*sz+f;rw[D,T]at hR;rw[D]at e2;have Dv:(es.set z<|e.take f++ys++e.drop (f+i.size)).length=es.length:=by{simp};refine⟨_,⟨?_,.inr ⟨b,L,_,by rw[Dv],AK _,cv w b q _ s _ M,by rw[Dv];exact W,na,?_,rfl⟩⟩,?_,?_,?_,S⟩;simp;omega;simp;omega;rw[Dv,D,QG,e2];exact e1▸hR;intro c l;rcases Wu l with h|h;exact N c h;rw[h];have:=N e<|AE R;simp[T];omega;intro c l y hy;rcases Wu l with h|h;exact d c h y hy;rw[h]at hy;have h5:=d e<|AE R;rcases AT.1 hy with hy|hy;rcases AT.1 hy with hy|hy;exact h5 y<|OV hy;let⟨j,hj⟩:=EI.1 hy;have hjl:j<(a.eval x).cells.toList.length:=by{rw[r1.1];exact(A9.1 hj).1};exact(r1.2 j _ y (Bi hjl) hj).tw<|r4 _<|K0 _;exact h5 y<|TK hy};let⟨q1,q2⟩:=B.update (id:=id) (SB:=.row s sz es) (g:=.slice (some ⟨b,0,none⟩) es.length L) (b:=b) E hm rfl (w':=w.setRow b _) (cd w b _) rfl rfl rfl (λk m=>ay w b k _ m) pj;exact⟨I,μ,q1,.undef _,Mu.le_refl μ,q2⟩};cases h;cases h;cases h;cases h;cases h
def kc:Mu:=λ_=>none
def zki (μ:Mu):kc.le μ:=λ_ _ h=>by cases h
def DU (I:TA) (w:World) (b off:Nat) (ds:L1 D):Prop :=
 ∃vs t k,w.heap[b]?=some (.cells vs t k)/\∀j d,ds[j]?=some d->∃c,vs[off+j]?=some c/\c.oneCell'=true/\X I kc c d
structure PRi where
 a:Addr
 len:Nat
 m:Int
 sz:Nat
 g:Option (Bool×Bool)
 ob:List Prop
 t:Nat
 todo:List DI
def zmw (r:TT) (n:Nat) (env:Env) (todo:L1 DI):Option PRi :=
 match B4 todo ([],[])with
 |some (h,o,C)=>match o.op,CQ h env o with
  |.indexAddr t x i,some g=>match lk r t,Qb (A1 g) env x,Qb (A1 g) env i with
   |some { sh:=.sl e,.. },some (.eR (.slice (some a) q _),y),some (.Kp (.int _ m),z)=>match lk r e,o.dst,Cs n o.dst with
    |some ti,some D,true=>some ⟨a,q,m,ti.size,g,LC y z,D,C⟩
    |_,_,_=>none
   |_,_,_=>none
  |_,_=>none
 |none=>none
structure PRl where
 b:Nat
 off:Nat
 i:kh
 g:Option (Bool×Bool)
 ob:List Prop
 t:Nat
 todo:List DI
def cQ (r:TT) (n:Nat) (env:Env) (id:Nat) (todo:L1 DI):Option PRl :=
 match B4 todo ([id],[])with
 |some (h,o,C)=>match o.op,CQ h env o with
  |.load t x,some g=>match lk r t,Qb (A1 g) env x with
   |some i,some (.eR (.pointer (some ⟨b,off,none⟩)),q)=>match o.dst,Cs n o.dst with
    |some y,true=>some ⟨b,off,i,g,q,y,C⟩
    |_,_=>none
   |_,_=>none
  |_,_=>none
 |none=>none
structure PRs where
 b:Nat
 off:Nat
 ds:List D
 todo:List DI
def vP (r:TT) (env:Env) (id:Nat) (todo:L1 DI):Option PRs :=
 match B4 todo ([id],[id])with
 |some (_,o,C)=>match o.guard,o.dst,o.op with
  |none,none,.store t p x=>match lk r t,Fi env p,Fi env x with
   |some i,some (.eR (.pointer (some ⟨b,off,none⟩))),some h=>match NW h with
    |some ds=>match Nat.beq ds.length i.size,FO ds with
     |true,[]=>some ⟨b,off,ds,C⟩
     |_,_=>none
    |none=>none
   |_,_,_=>none
  |_,_,_=>none
 |none=>none
def X.hM (h:X I μ v<|.eR u):v=u:=by cases h;rfl
def Eb (H:dv P r) {c:PRi} (h:zmw r n env todo=some c) (d:c.a.spot=none) (M:A1 c.g->0<=c.m/\c.m<c.len) (N:A8 c.ob) (R:G P n F Q c.todo ((c.t,gD c.g<|.eR<|.pointer<|some ⟨c.a.block,c.a.off+c.m.toNat*c.sz,none⟩)::env) st aa):G P n F Q todo env st aa:=by unfold zmw at h;split at h;rename_i l o C p;split at h;rename_i t x i g z s;split at h;rename_i e _ _ _ _ ad len cap o1 kk m o2 u v A;split at h;rename_i ti t' T y f;cases h;obtain⟨b,off,j⟩:=ad;simp only at d;subst d;have R:G P n F Q C (Cn o.dst (gD g<|.eR<|.pointer<|some ⟨b,off+m.toNat*ti.size,none⟩) env) st aa:=by{rw[y];exact R};refine Cc (fr:=[]) (wr:=[]) (rd:=[]) p (Eo s λI μ a7 k a w _ U q D=>?_) (by rw[y]at f ⊢;exact f) (λc M=>by rw[z]at M;cases M) R;rw[z]at q;let⟨V,W⟩:=BS N;have B:=(ER v V D<|q x<|by simp[Op.operands]).hM;have ri:=(ER A W D<|q i<|by simp[Op.operands]).Ks.da;let⟨E,J⟩:=M D;have K:P.underlying t=some (.slice e):=H.sh u;simp only[execOp,z,ri,B];have S:=Sq (w:=w) K (H e ti T) (b:=b) (off:=off) (len:=len) (cap:=cap) (kk:=kk) E J;have L:(do pure (.value (<- Instr.indexAt t (.slice (some ⟨b,off,none⟩) len cap) (.int kk m))):Sem Next).run P w=.ok (.value<|.pointer<|some ⟨b,off+m.toNat*ti.size,none⟩) w:=AG S;rw[L];exact⟨I,μ,U,.eR _ O,Mu.le_refl μ,fi.refl _ _ _ _⟩;cases h;cases h;cases h;cases h
def wS {t:TypeId} {i:kh} (W:jp P t i) (h:DU I w b off ds) (a:ds.length=i.size) (C:Je i true ds 0=some d) (μ:Mu):∃v,(Instr.loadAt t<|.pointer<|some ⟨b,off,none⟩).run P w=.ok v w/\X I μ v d:=by obtain⟨vs,l,m,D,R⟩:=h;have r:∀(j:Nat),j<ds.length->∃c d,ds[j]?=some d/\vs[off+j]?=some c/\c.oneCell'=true/\X I μ c d:=λj y=>by{let⟨c,H,z,T⟩:=R j _<|Bi y;exact⟨c,_,Bi y,H,z,T.mono (TA.le_refl I)<|zki μ⟩};have U:∀j,j<ds.length->w.cell? ⟨b,off+j,none⟩=some ((vs[off+j]?).getD undef):=λj y=>by{let⟨c,d,_,z,_⟩:=r j y;rw[Gx D (off+j) c<|by simpa using z];simp[z]};cases L:i.agg with|true=>simp only[Je,L]at C;cases C;have G:=Oh W b off (λj=>(vs[off+j]?).getD undef) (w:=w) (λj y=>U j<|by omega) (λe=>by rw[L]at e;cases e);rw[L]at G;simp only[aw]at G;refine⟨_,G,?_⟩;have:=J2 (I:=I) (μ:=μ) (vs:=(List.range i.size).map λj=>(vs[off+j]?).getD undef) (ds:=ds) ⟨by simp[a],λj v d M C=>?_⟩ λc g=>?_;simpa using this;rw[Cx]at M;let⟨c,f,H,z,_,V⟩:=r j (A9.1 C).1;rw[H]at C;cases C;cases y:(List.range i.size)[j]? with|none=>rw[y]at M;cases M|some q=>{rw[y]at M;have:q=j:=by{let⟨n,k⟩:=A9.1 y;simpa using k.symm};subst this;cases M;simpa[z]using V};obtain⟨j,y,rfl⟩:=CC.1 g;let⟨c,f,_,z,T,_⟩:=r j (by rw[a];simpa using y);simpa[z]using T|false=>{simp only[Je,L]at C;have N:0<ds.length:=by{cases ds with|nil=>simp[PZ]at C|cons=>{simp}};have G:=Oh W b off (λj=>(vs[off+j]?).getD undef) (w:=w) (λj y=>U j<|by omega) λ_=>U 0 N;rw[L]at G;simp only[En,aq]at G;let⟨c,f,H,z,_,V⟩:=r 0 N;rw[Ih,H]at C;cases C;rw[Jd]at z;exact⟨_,G,by simpa[z]using V⟩}
def C6 (T:dv P r) (id:Nat) {c:PRl} (ds:R1) (h:cQ r n env id todo=some c) (l:lk st id=some (some<|.hp A)) (m:A1 c.g->∀vs I w U,A.P vs I w U->DU I w c.b c.off ds) (H:ds.length=c.i.size) (p:Je c.i true ds 0=some d) (V:A8 c.ob) (W:G P n F Q c.todo ((c.t,gD c.g d)::env) st aa):G P n F Q todo env st aa:=by unfold cQ at h;split at h;rename_i s o C u;split at h;rename_i t x g z B;split at h;rename_i i b off o1 E J;split at h;rename_i t' q L;cases h;have W:G P n F Q C (Cn o.dst (gD g d) env) st aa:=by{rw[q];exact W};refine Cc (fr:=[]) (wr:=[]) (rd:=[id]) u (Eo B λI μ a7 j a w e M y N=>?_) (by rw[q]at L ⊢;exact L) (λc k=>by rw[z]at k;cases k) W;rw[z]at y;have K:=(ER J V N<|y x<|by simp[Op.operands]).hM;have f:A2 a7 id<|.hp A:=by{unfold A2;rw[e id<|by simp];exact l};let⟨gg,S,us,U,e1,e2⟩:=M.SB id _ f;let⟨v,q1,q2⟩:=wS (P:=P) (T t i E) (m N us I w U e2) H p μ;simp only[execOp,z,K];have R:(do pure (.value (<- Instr.loadAt t (.pointer<|some ⟨b,off,none⟩))):Sem Next).run P w=.ok (.value v) w:=AG q1;rw[R];exact⟨I,μ,M,q2,Mu.le_refl μ,fi.refl _ _ _ _⟩;cases h;cases h;cases h;cases h
def eF (V:dv P r) (id:Nat) {y:Nat} {S:jo} {c:PRl} (ds:R1) (h:cQ r n env id todo=some c) (p:lk st id=some (some<|.hV y S)) (s:A1 c.g->∀I w b W,S.P I w b W->DU I w c.b c.off ds) (M:ds.length=c.i.size) (u:Je c.i true ds 0=some d) (e:A8 c.ob) (f:G P n F Q c.todo ((c.t,gD c.g d)::env) st aa):G P n F Q todo env st aa:=by unfold cQ at h;split at h;rename_i A o C B;split at h;rename_i t x g L E;split at h;rename_i i b off o1 J K;split at h;rename_i t' q N;cases h;have f:G P n F Q C (Cn o.dst (gD g d) env) st aa:=by{rw[q];exact f};refine Cc (fr:=[]) (wr:=[]) (rd:=[id]) B (Eo E λI μ a7 l a w j R z T=>?_) (by rw[q]at N ⊢;exact N) (λc m=>by rw[L]at m;cases m) f;rw[L]at z;have rx:=(ER K e T<|z x<|by simp[Op.operands]).hM;have k:A2 a7 id<|.hV y S:=by{unfold A2;rw[j id<|by simp];exact p};let⟨gg,hg',H,W,_,e1,e2⟩:=R.SB id _ k;let⟨v,q1,q2⟩:=wS (P:=P) (V t i J) (s T I w H W e2) M u μ;simp only[execOp,L,rx];have U:(do pure (.value (<- Instr.loadAt t (.pointer<|some ⟨b,off,none⟩))):Sem Next).run P w=.ok (.value v) w:=AG q1;rw[U];exact⟨I,μ,R,q2,Mu.le_refl μ,fi.refl _ _ _ _⟩;cases h;cases h;cases h;cases h
def R4 (A r:jz) (b off:Nat) (ds:L1 D):Prop:=∀q I w h,A.P q I w h->b∈h/\∃vs t,w.heap[b]?=some (.cells vs t (0,0))/\off+ds.length<=vs.size /\
 ∀cs,TB I kc cs ds->(∀c∈cs,c.oneCell'=true)->r.P q I (w.setRow b (vs.toList.take off++cs++vs.toList.drop (off+ds.length)).toArray) h
def WX (U:dv P r) (id:Nat) (L:jz) {c:PRs} (h:vP r env id todo=some c) (hl:lk st id=some (some<|.hp A)) (m:R4 A L c.b c.off c.ds) (H:G P n F Q c.todo env ((id,some<|.hp L)::st) aa):G P n F Q todo env st aa:=by unfold vP at h;split at h;rename_i all o C h1;split at h;rename_i t p x V y z;split at h;rename_i i b off dx ht hp hx;split at h;rename_i ds W;split at h;rename_i d e;cases h;simp only at m H;have H:G P n F Q C (Cn o.dst .undef env) ([(id,some<|.hp L)]++st) aa:=by{rw[y];exact H};refine Cc (fr:=[]) (wr:=[(id,some<|.hp L)]) (rd:=[id]) h1 ?_ (by simp[Cs,y]) (λc s=>by rw[z]at s;cases s) H;intro I μ a7 u a w f M g;refine⟨λ_=>?_,λv=>by rw[AO V]at v;cases v⟩;have q:=B3 g;rw[z]at q;have rp:=(q p (by simp[Op.operands]) _ hp).hM;let⟨B,E⟩:=Kh W<|q x (by simp[Op.operands]) _ hx;have N:A2 a7 id<|.hp A:=by{unfold A2;rw[f id<|by simp];exact hl};let⟨J,l,K,S,e1,e2⟩:=M.SB id _ N;let⟨k1,vs,bt,k2,k3,k4⟩:=m K I w S e2;have D:(a.eval x).cells.toList.length=ds.length:=B.1;have hs:=Dm d;have R:(execOp a.eval o).run P w=.ok .skip (w.setRow b (vs.toList.take off++(a.eval x).cells.toList++vs.toList.drop (off+(a.eval x).cells.toList.length)).toArray):=by{simp only[execOp,z,rp,ak,LI (U t i ht) k2 (by rw[<- hs,<- D];simp) E (show off+(a.eval x).cells.toList.length<=vs.size by rw[D];exact k3),ah,al]};rw[R,D];have hR:TB I kc (a.eval x).cells.toList ds:=B.sub λj hj=>by{rw[e]at hj;cases hj};have T:eb I μ (w.setRow b (vs.toList.take off++(a.eval x).cells.toList++vs.toList.drop (off+ds.length)).toArray) J<|.hp L:=⟨K,S,e1,k4 _ hR E⟩;let⟨q1,q2⟩:=M.update (id:=id) (SB:=.hp A) (g:=J) (b:=b) N l (by rw[e1];exact BB.2 k1) (w':=w.setRow b _) (cd w b _) O O O (λk H=>ay w b k _ H) T;exact⟨I,μ,q1,.undef _,Mu.le_refl μ,q2⟩;cases h;cases h;cases h;cases h;cases h
def TE:L1 (Nat×Value×fp)->St
 |[]=>[]
 |(i,_,b)::r=>(i,some b)::TE r
def TF:L1 (Nat×Value×fp)->L1 Nat
 |[]=>[]
 |(i,_,_)::r=>i::TF r
def F5 (new:L1<|Nat×Value×fp) (μ:Mu):Mu:=λi=>match lk new i with
 |some p=>some p.1
 |none=>μ i
def wH (R:L1 Nat) (μ:Mu) (st:St) (b:Nat):Prop:=∃r h g,r∈R/\A2 st r h/\μ r=some g/\EY g b
abbrev e8:=L1 (Nat×Value×fp)
def pZ {new:e8} {b:fp}:A2 (TE new++st) i b->(∃g,(i,g,b)∈new/\lk new i=some (g,b))\/(lk new i=none/\A2 st i b):=by induction new with|nil=>intro h;exact .inr ⟨rfl,h⟩|cons p r q=>{obtain⟨k,g,x⟩:=p;intro h;simp only[TE,DV]at h;rcases A7.1 h with⟨rfl,rfl⟩|⟨y,z⟩;exact .inl ⟨g,by simp,A6 _ _ _⟩;rw[AC _ _ λe=>y e.symm];rcases q z with⟨C,D,G⟩|h;exact .inl ⟨C,by simp[D],G⟩;exact .inr h}
def iZ {new:e8}:lk new i=none↔i∉TF new:=by induction new with|nil=>simp[lk,TF]|cons p r q=>{obtain⟨k,g,x⟩:=p;by_cases h:k=i;subst h;rw[A6];simp[TF];rw[AC _ _ h,q];simp[TF];exact λ_ e=>h e.symm}
def No.jq {R:K1} {new:e8} (C:No I μ st (TF new++Kr) w)
  (L:∀p∈new,∀b,EY p.2.1 b->wH R μ st b) (e:∀p∈new,∀q∈new,∀b,EY p.2.1 b->EY q.2.1 b->p.1=q.1)
  (P:I.le J) (hJ:J.ok w) (N:∀b o,J b=some o->I b=some o\/(wH R μ st b/\∀p∈new,¬EY p.2.1 b))
  (A:μ.le (F5 new μ)->∀p∈new,eb J (F5 new μ) w p.2.1 p.2.2) :
  μ.le (F5 new μ)/\No J (F5 new μ) (TE new++(CO R++st)) Kr w/\fi I μ st w J (F5 new μ) (TE new++(CO R++st)) w:=by
 have B:=D2.1 C.nodup;have f:μ.le<|F5 new μ:=λi v h=>by
  have:i∉TF new:=λu=>by rw[C.PA i<|by simp[u]]at h;cases h
  simp[F5,iZ.2 this,h]
 have z:∀{i b},A2 (TE new++(CO R++st)) i b->(∃g,(i,g,b)∈new/\F5 new μ i=some g)\/(i∉R/\A2 st i b/\F5 new μ i=μ i):=by
  intro i b h;rcases pZ h with⟨g,a,T⟩|⟨a,T⟩
  ·exact .inl ⟨g,a,by simp[F5,T]⟩
  ·let⟨Q,h4⟩:=PQ T;exact .inr ⟨Q,h4,by simp[F5,a]⟩
 have l:∀{b},Ba μ st b->(∀r∈R,∀SB g,A2 st r SB->μ r=some g->¬EY g b)->J b=none:=by
  intro b ⟨i,SB,g,a,T,F⟩ hR;have S:=(C.apart i SB g b a T F).1;cases H:J b with
  |none=>rfl
  |some o=>
   rcases N b o H with h|⟨⟨r,y,M,U,D,V,k4⟩,_⟩
   ·rw[S]at h;cases h
   ·exact absurd k4 (hR r U y M D V)
 have hE:fi I μ st w J (F5 new μ) (TE new++(CO R++st)) w :=
  {Kp:=P,os:=rfl,tape:=rfl,output:=rfl,size:=B6 _,block:=λ_ _ _=>rfl
   fresh:=λb _ ⟨i,SB,g,a,T,F⟩=>by
    rcases z a with⟨M,U,D⟩|⟨_,D,V⟩
    ·rw[D]at T;cases T;let⟨r,y,M,_,m,n,s⟩:=L _ U b F;exact⟨r,y,M,m,n,s⟩
    ·exact⟨i,SB,g,D,by rw[<- V];exact T,F⟩
   gz:=λb _ ho=>by
    cases H:J b with
    |none=>
     cases rv:I b with
     |none=>rfl
     |some o=>rw[P b o rv]at H;cases H
    |some o=>
     rcases N b o H with h|⟨⟨r,SB,g,_,D,V,k4⟩,_⟩
     ·exact h.symm
     ·exact absurd ⟨r,SB,g,D,V,k4⟩ ho }
 refine⟨f,{ Kp:=hJ,SB:=λi b hl=>?_,apart:=λi b g k hl x E=>?_,inj:=λi j bi bj gi gj k u hj W G c d=>?_,nodup:=B.2.1,PA:=λi u=>?_ },hE⟩
 ·rcases z hl with⟨g,U,D⟩|⟨_,D,V⟩
  ·exact⟨g,D,A f _ U⟩
  ·let⟨g,a,T⟩:=C.SB i b D;exact⟨g,by rw[V];exact a,T.mono P f⟩
 ·rcases z hl with⟨M,U,D⟩|⟨kR,D,V⟩
  ·rw[D]at x;cases x;let⟨r,y,M,K,m,n,s⟩:=L _ U k E;let⟨z1,z2⟩:=C.apart r y M k m n s;refine⟨?_,z2⟩;cases H:J k with
   |none=>rfl
   |some o=>
    rcases N k o H with h|⟨_,h⟩
    ·rw[z1]at h;cases h
    ·exact absurd E (h _ U)
  ·rw[V]at x;let⟨z1,z2⟩:=C.apart i b g k D x E;refine⟨l ⟨i,b,g,D,x,E⟩ λr hr y M h1 h2 Q=>?_,z2⟩;exact kR (by rw[C.inj i r b y g M k D h1 x h2 E Q];exact hr)
 ·rcases z u with⟨g1,U,D⟩|⟨kR,D,V⟩
  ·rw[D]at W;cases W;rcases z hj with⟨g2,l1,t⟩|⟨lR,t,l3⟩
   ·rw[t]at G;cases G;exact e _ U _ l1 k c d
   ·rw[l3]at G;let⟨r,y,M,K,m,n,s⟩:=L _ U k c;exact absurd (by rw[C.inj j r bj y gj M k t m G n d s];exact K) lR
  ·rw[V]at W;rcases z hj with⟨g2,l1,t⟩|⟨lR,t,l3⟩
   ·rw[t]at G;cases G;let⟨r,y,M,K,m,n,s⟩:=L _ l1 k d;exact absurd (by rw[C.inj i r bi y gi M k D m W n c s];exact K) kR
   ·rw[l3]at G;exact C.inj i j bi bj gi gj k D t W G c d
 ·have:i∉TF new:=λh=>B.2.2 i h i u O;simp only[F5,iZ.2 this];exact C.PA i (by simp[u])
def EQ (h:∀I μ a w,ij n I μ env st aa a w->∃J ν q au Kr,No J ν au Kr w/\(∀t d,lk q t=some d->X J ν (a.tmps.getD t undef) d)/\fi I μ st w J ν au w/\l4 F μ ν/\ek P n F Q todo q au Kr):ek P n F Q todo env st aa:=by intro b cs I μ a w r C y;let⟨J,ν,q,au,Kr,D,G,z,H,L⟩:=h I μ a w y;exact(L b cs J ν a w r C { D with size:=y.size,env:=G,defers:=y.defers.ext z }).mono λe N w' M=>M.back H z
def zlz (id i j:Nat) (B C:α->jz) (H:lk st id=some (some<|.hp A)) (W:∀vs I w D,A.P vs I w D->∃x y z,(∀b∈y,b∈D)/\(∀b∈z,b∈D)/\(∀b∈y,b∉z)/\(B x).P [] I w y/\(C x).P [] I w z) (h:∀x,ek P n F Q todo env ((i,some<|.hp<|B x)::(j,some<|.hp<|C x)::(id,none)::st) Kr):ek P n F Q todo env st<|i::j::Kr:=by
 refine EQ λI μ a w G=>?_;obtain⟨g,L,vs,D,rfl,c⟩:=G.SB id _ H;let⟨x,y,z,e,f,M,k,l⟩:=W vs I w D c;let⟨N,m,s⟩:=No.jq (R:=[id]) (new:=[(i,XT [] y,.hp<|B x),(j,XT [] z,.hp<|C x)]) (Kr:=Kr) G.toNo
  (λp r b R=>by
   simp only[Cu,JK,ch]at r;rcases r with rfl|rfl
   ·exact⟨id,_,_,by simp,H,L,BB.2<|e b<|BB.1 R⟩
   ·exact⟨id,_,_,by simp,H,L,BB.2<|f b<|BB.1 R⟩)
  (λp r q T b U V=>by
   simp only[Cu,JK,ch]at r T;rcases r with rfl|rfl<;>rcases T with rfl|rfl<;>first
    |rfl
    |exact absurd (BB.1 V) (M b<|BB.1 U)
    |exact absurd (BB.1 U) (M b<|BB.1 V)) (TA.le_refl I) G.Kp (λb o h=>.inl h)
  (λ_ p r=>by
   simp only[Cu,JK,ch]at r;rcases r with rfl|rfl
   ·exact⟨[],y,rfl,k⟩
   ·exact⟨[],z,rfl,l⟩)
 exact⟨I,_,env,_,Kr,m,λt d u=>(G.env t d u).mono (TA.le_refl I) N,s,.of_le N,h x⟩
def xW (i j id:Nat) (C:α->jz) (M:lk st i=some (some<|.hp A)) (N:lk st j=some (some<|.hp B)) (R:i≠j) (e:∀vs T I w y z,A.P vs I w y->B.P T I w z->(∀b∈y,b∉z)->∃x D,(∀b∈D,b∈y\/b∈z)/\(C x).P [] I w D) (h:∀x,ek P n F Q todo env ((id,some<|.hp<|C x)::(i,none)::(j,none)::st) Kr):ek P n F Q todo env st<|id::Kr:=by
 refine EQ λI μ a w r=>?_;obtain⟨E,G,vs,y,rfl,U⟩:=r.SB i _ M;obtain⟨J,H,T,z,rfl,V⟩:=r.SB j _ N;let⟨x,D,f,g⟩:=e vs T I w y z U V λb k l=>R<|r.inj i j _ _ _ _ b M N G H (BB.2 k)<|BB.2 l;let⟨W,m,s⟩:=No.jq (R:=[i,j]) (new:=[(id,XT [] D,.hp<|C x)]) (Kr:=Kr) r.toNo
  (λp L b c=>by
   rw[AJ.1 L]at c;rcases f b (BB.1 c)with h|h
   ·exact⟨i,_,_,by simp,M,G,BB.2 h⟩
   ·exact⟨j,_,_,by simp,N,H,BB.2 h⟩)
  (λp L q u b _ _=>by rw[AJ.1 L,AJ.1 u]) (TA.le_refl I) r.Kp (λb o h=>.inl h)
  (λ_ p L=>by rw[AJ.1 L];exact⟨[],D,rfl,g⟩)
 exact⟨I,_,env,_,Kr,m,λt d v=>(r.env t d v).mono (TA.le_refl I) W,s,.of_le W,h x⟩
mutual
def pU (id:Nat) (vs:L1 Value):D->D
 |.hv i k=>match Nat.beq i id,PZ vs k with
  |true,some v=>.eR v
  |_,_=>.hv i k
 |.agg cs=>.agg (pT id vs cs)
 |.cg cs=>.cg (pT id vs cs)
 |d=>d
def pT (id:Nat) (vs:L1 Value):L1 D->L1 D
 |[]=>[]
 |d::r=>pU id vs d::pT id vs r
end
def vu (id:Nat) (vs:L1 Value):Env->Env
 |[]=>[]
 |(t,d)::r=>(t,pU id vs d)::vu id vs r
def zqb (id:Nat) (vs:L1 Value):fp->fp
 |.cells t sz cs=>.cells t sz (pT id vs cs)
 |b=>b
def Ye (id:Nat) (vs:L1 Value):St->St
 |[]=>[]
 |(i,some b)::r=>(i,some<|zqb id vs b)::Ye id vs r
 |(i,none)::r=>(i,none)::Ye id vs r
def LV (id:Nat) (vs:R0):∀l:R1,pT id vs l=l.map (pU id vs)
 |[]=>rfl
 |d::r=>by simp[pT,LV id vs r]
def fx:=@Value.tuple.injEq
def X.opn {id:Nat} {m:K1} (q:μ id=some (XT vs m)) (h:X I μ v d):X I μ v<|pU id vs d:=by have M:∀{l:R1} {i:Nat} {x:D},(pT id vs l)[i]?=some x->∃y,l[i]?=some y/\x=pU id vs y:=by{intro l i x C;rw[LV,Cx]at C;cases G:l[i]? with|none=>rw[G]at C;cases C|some y=>{rw[G]at C;cases C;exact⟨y,rfl,rfl⟩}};induction h with|hv v i k n cs h p L=>simp only[pU];split;rename_i u s U;rw[Dm s,q]at h;have W:vs=n/\m=cs:=by{simp only[XT,Co,fx,Array.mk.injEq,Cr,Value.agg.injEq,be]at h;refine⟨by simpa using h.1,?_⟩;have V:=af Array.toList h.2;simp only[VQ]at V;exact(List.map_inj_right λx y e=>by simpa using e).1 V};rw[Ih,W.1,p]at U;cases U;exact .eR _ L;exact .hv v i k n cs h p L|agg cs ds G L _ g=>refine .agg cs _ (by rw[LV,CD,G]) L λi c x N C=>?_;obtain⟨y,j,rfl⟩:=M C;exact g i c y N j|cg cs ds G _ g=>refine .cg cs _ (by rw[LV,CD,G]) λi c x N C=>?_;obtain⟨y,j,rfl⟩:=M C;exact g i c y N j|undef v=>exact .undef v|Kp v x C=>exact .Kp v x C|NB=>exact .NB|ref b id off q=>exact .ref b id off q|ip b o t cs off vs H R=>exact .ip b o t cs off vs H R|own i r a z q=>exact .own i r a z q|ky b i r z k sz f q=>exact .ky b i r z k sz f q|cf i b q=>exact .cf i b q|iter i b q=>exact .iter i b q|fn f first z w A B N L V _ _=>{exact .fn f first z w A B N L V}|iface t v d h _=>exact .iface t v d h|guard c T v d h U _=>exact .guard c T v d h U|gt a r es E=>exact .gt a r es E|ml b i off r z q G C=>exact .ml b i off r z q G C|jv b i q=>exact .jv b i q|eR v h=>{exact .eR v h}
def wI {id:Nat} {vs:R0}:∀{env:Env} {t:Nat} {d:D},lk (vu id vs env) t=some d->∃d0,lk env t=some d0/\d=pU id vs d0
 |[],t,d,h=>by simp[vu,lk]at h
 |(s,x)::r,t,d,h=>by simp only[vu]at h;by_cases q:s=t;subst q;rw[A6]at h ⊢;cases h;exact⟨x,rfl,rfl⟩;rw[AC _ _ q]at h ⊢;exact wI h
def RU {id:Nat} {vs:R0} {i:Nat} {b:fp}:∀{st:St},A2 (Ye id vs st) i b->∃q,A2 st i q/\b=zqb id vs q
 |[],h=>by simp[Ye,A2,lk]at h
 |(k,some x)::r,h=>by simp only[Ye]at h;rcases A7.1 h with⟨y,z⟩|⟨y,z⟩;exact⟨x,by unfold A2;rw[y,A6],z⟩;let⟨q,C,D⟩:=RU z;exact⟨q,A7.2<|.inr ⟨y,C⟩,D⟩
 |(k,none)::r,h=>by simp only[Ye]at h;let⟨y,z⟩:=BX.1 h;let⟨q,C,D⟩:=RU z;exact⟨q,BX.2 ⟨y,C⟩,D⟩
def No.ke (r:No I μ st aa w) (h:∀i b,A2 a7 i b->∃y,A2 st i y/\∀g,eb I μ w g y->eb I μ w g b):No I μ a7 aa w/\fi I μ st w I μ a7 w:=by
 refine⟨{ Kp:=r.Kp,SB:=λi b D=>?_,apart:=λi b g k D G L=>?_,inj:=λi j H M N R k T U=>?_,nodup:=r.nodup,PA:=r.PA },?_⟩
 ·let⟨y,z,C⟩:=h i b D;let⟨g,G,V⟩:=r.SB i y z;exact⟨g,G,C g V⟩
 ·let⟨y,z,_⟩:=h i b D;exact r.apart i y g k z G L
 ·let⟨y,z,_⟩:=h i H T;let⟨W,C,_⟩:=h j M U;exact r.inj i j y W N R k z C
 ·exact { Kp:=TA.le_refl I,os:=rfl,tape:=rfl,output:=rfl,size:=B6 _,block:=λ_ _ _=>rfl,gz:=λ_ _ _=>rfl
          fresh:=λb _ ⟨i,H,g,z,C⟩=>let⟨y,q,_⟩:=h i H z;⟨i,y,g,q,C⟩ }
def HF (id j:Nat) (val:α->R0) (B:α->jz) (c:lk st id=some (some<|.hp A)) (m:∀vs I w G,A.P vs I w G->∃x,vs=val x/\(B x).P [] I w G) (h:∀x,ek P n F Q todo (vu id (val x) env) ((j,some<|.hp<|B x)::(id,none)::Ye id (val x) st) Kr):ek P n F Q todo env st<|j::Kr:=by
 refine EQ λI μ a w R=>?_;obtain⟨g,U,vs,G,rfl,s⟩:=R.SB id _ c;obtain⟨x,rfl,C⟩:=m vs I w G s;let⟨u,E⟩:=R.toNo.ke (a7:=Ye id (val x) st) (λi b V=>by
  obtain⟨e,T,rfl⟩:=RU V;refine⟨e,T,λgb H=>?_⟩;cases e with
  |cells t sz cs=>
   obtain⟨J,b,K,S,e2,f,e4⟩:=H;exact⟨by rw[LV,CD,J],b,K,S,e2,⟨by rw[LV,CD,f.1],λi v y hv L=>by
    rw[LV,Cx]at L;cases D:cs[i]? with
    |none=>rw[D]at L;cases L
    |some z=>rw[D]at L;cases L;exact(f.2 i v z hv D).opn U⟩,e4⟩
  |_=>exact H)
 have W:A2 (Ye id (val x) st) id<|.hp A:=by
  have:∀{st:St},A2 st id (.hp A)->A2 (Ye id (val x) st) id (.hp A):=by
   intro st
   induction st with
   |nil=>intro h;simp[A2,lk]at h
   |cons p r l=>
    obtain⟨k,y⟩:=p;intro h;cases y with
    |none=>let⟨M,C⟩:=BX.1 h;exact BX.2 ⟨M,l C⟩
    |some y=>
     rcases A7.1 h with⟨M,C⟩|⟨M,C⟩
     ·exact A7.2<|.inl ⟨M,by rw[<- C];rfl⟩
     ·exact A7.2<|.inr ⟨M,l C⟩
  exact this c
 let⟨T,q2,q3⟩:=No.jq (R:=[id]) (new:=[(j,XT [] G,.hp<|B x)]) (Kr:=Kr) u
  (λp N b H=>by
   rw[AJ.1 N]at H;exact⟨id,_,_,by simp,W,U,BB.2<|BB.1 H⟩)
  (λp N q hq b _ _=>by rw[AJ.1 N,AJ.1 hq]) (TA.le_refl I) R.Kp (λb o h=>.inl h)
  (λ_ p N=>by rw[AJ.1 N];exact⟨[],G,rfl,C⟩)
 refine⟨I,_,vu id (val x) env,_,Kr,q2,λt d hd=>?_,E.trans q3,.of_le T,h x⟩;obtain⟨d0,h0,rfl⟩:=wI hd;exact((R.env t d0 h0).opn U).mono (TA.le_refl I) T
def clD (j:Nat) (vs:L1 Value) (d h:D):Prop:=d=h\/∃k v,d=.eR v/\h=.hv j k/\vs[k]?=some v
def clL (j:Nat) (vs:L1 Value):L1 D->L1 D->Prop
 |[],[]=>True
 |d::r,h::q=>clD j vs d h/\clL j vs r q
 |_,_=>False
def mP {j:Nat} {vs:R0}:∀{ds q:R1},clL j vs ds q->ds.length=q.length/\∀(i:Nat) (y:D),q[i]?=some y->∃d,ds[i]?=some d/\clD j vs d y
 |[],[],_=>⟨rfl,λi d h=>by simp at h⟩
 |d::r,y::H,h=>by let⟨C,G⟩:=mP h.2;refine⟨by simp[C],λi x z=>?_⟩;cases i with|zero=>simp at z;subst z;exact⟨d,rfl,h.1⟩|succ i=>{exact G i x<|by simpa using z}
 |[],_::_,h=>h.elim
 |_::_,[],h=>h.elim
def L0 (id k j:Nat) (vs:R0) {t:TypeId} (z:R1) (R:lk st id=some (some<|.hp B)) (M:lk st k=some (some<|.cells t sz ds)) (hA:∀G I w r,B.P G I w r->A.P vs I w r) (T:clL j vs ds z) (h:ek P n F Q todo env ((k,some<|.cells t sz z)::(j,some<|.hp A)::(id,none)::st) Kr):ek P n F Q todo env st<|j::Kr:=by
 refine EQ λI μ a w C=>?_;obtain⟨g,hg,G,r,rfl,hP⟩:=C.SB id _ R;obtain⟨gk,H,m,b,xs,rfl,U,s,x⟩:=C.SB k _ M;have V:j≠k:=λe=>by rw[<- e,C.PA j<|by simp]at H;cases H
 have W:id≠k:=λe=>by subst e;rw[R]at M;cases M
 let⟨E,q2,q3⟩:=No.jq (R:=[id]) (new:=[(j,XT vs r,.hp A)]) (Kr:=Kr) C.toNo
  (λp L b N=>by
   rw[AJ.1 L]at N;exact⟨id,_,_,by simp,R,hg,BB.2<|BB.1 N⟩)
  (λp L q hq b _ _=>by rw[AJ.1 L,AJ.1 hq]) (TA.le_refl I) C.Kp (λb o h=>.inl h)
  (λ_ p L=>by rw[AJ.1 L];exact⟨vs,r,rfl,hA G I w r hP⟩)
 have c:A2 ((j,some<|.hp A)::(id,none)::st) k<|.cells t sz ds:=A7.2<|.inr ⟨V.symm,BX.2 ⟨W.symm,M⟩⟩;have f:F5 [(j,XT vs r,.hp A)] μ j=some (XT vs r):=by simp[F5,lk]
 let⟨J,c2⟩:=mP T;let⟨p1,p2⟩:=q2.ke (a7:=(k,some<|.cells t sz z)::(j,some<|.hp A)::(id,none)::st) (λi bb l=>by
  rcases A7.1 l with⟨rfl,rfl⟩|⟨_,h2⟩
  ·refine⟨_,c,λgb N=>?_⟩;obtain⟨m,b,G,e1,e2,K,S⟩:=N;refine⟨by rw[<- J,m],b,G,e1,e2,⟨by rw[<- J,K.1],λi v y hv hy=>?_⟩,S⟩;let⟨d,y1,y2⟩:=c2 i y hy;have hr:=K.2 i v d hv y1;rcases y2 with rfl|⟨kk,u,rfl,rfl,hu⟩
   ·exact hr
   ·have:=hr.hM;subst this;exact .hv _ j kk vs r f hu<|S _<|AE hv
  ·exact⟨_,h2,λ_ h=>h⟩)
 exact⟨I,_,env,_,Kr,p1,λt d hd=>(C.env t d hd).mono (TA.le_refl I) E,q3.trans p2,.of_le E,h⟩
def TA.plus (I:TA) (h:L1 Nat) (w:World):TA:=λb=>if F6 h b=true then w.heap[b]? else I b
def Js (id k:Nat) {t:TypeId} (xs:G2) (L:lk st id=some (some<|.hp A)) (M:lk st k=some (some<|.cells t sz ds)) (hA:∀vs I J w q,A.P vs I w q->I.le J->(∀b∈q,J b=w.heap[b]?)->∀(cs:R0),TB J kc cs ds->Ts J cs xs) (N:FO ds=[]) (h:ek P n F Q todo env ((k,some<|.NA t sz xs)::(id,none)::st) aa):ek P n F Q todo env st aa:=by
 refine EQ λI μ a w C=>?_;obtain⟨g,x,vs,q,rfl,hP⟩:=C.SB id _ L;obtain⟨gk,hgk,hs,b,us,rfl,R,B,E⟩:=C.SB k _ M;have T:id≠k:=λe=>by subst e;rw[L]at M;cases M
 have U:∀b∈q,I b=none/\b<w.heap.size:=λb D=>C.apart id _ _ b L x<|BB.2 D;have r:I.le<|I.plus q w:=λb o h=>by
  have:F6 q b=false:=by
   cases W:F6 q b with
   |false=>rfl
   |true=>rw[(U b<|BK.1 W).1]at h;cases h
  simp[TA.plus,this,h]
 have c:∀b∈q,I.plus q w b=w.heap[b]?:=λb D=>by simp[TA.plus,BK.2 D]
 let⟨K,q2,q3⟩:=No.jq (R:=[id]) (new:=[]) (Kr:=aa) (J:=I.plus q w) C.toNo (λp y=>by cases y) (λp y=>by cases y) r
  (λb o h=>by
   unfold TA.plus at h
   split at h
   ·exact h
   ·exact C.Kp b o h)
  (λb o h=>by
   unfold TA.plus at h
   split at h
   ·rename_i W;exact .inr ⟨⟨id,_,_,by simp,L,x,BB.2<|BK.1 W⟩,λp y=>by cases y⟩
   ·exact .inl h)
  (λ_ p y=>by cases y)
 have f:A2 ((id,none)::st) k<|.cells t sz ds:=BX.2 ⟨T.symm,M⟩;let⟨p1,p2⟩:=q2.ke (a7:=(k,some<|.NA t sz xs)::(id,none)::st) (λi bb l=>by
  rcases A7.1 l with⟨rfl,rfl⟩|⟨_,h2⟩
  ·refine⟨_,f,λgb D=>?_⟩;obtain⟨m,H,z,e1,e2,s,e4⟩:=D;have u:F5 ([]:e8) μ=μ:=by funext i;simp[F5,lk]
   rw[u]at s;have v:TB (I.plus q w) kc z.toList ds:=s.sub λj S=>by rw[N]at S;cases S
   have G:=hA vs I (I.plus q w) w q hP r c z.toList v;exact⟨by rw[<- G.1,s.1,m],H,z,e1,e2,G,e4⟩
  ·exact⟨_,h2,λ_ h=>h⟩)
 exact⟨_,_,env,_,aa,p1,λt d hd=>(C.env t d hd).mono r K,q3.trans p2,.of_le K,h⟩
def zmf (e:TypeId) (sz:Nat) (es:L1<|L1 V) (v:Value):jz where
 P:=λ_ I w bs=>(v=.slice none 0 0/\es=[]/\bs=[])\/∃b cap bl,v=.slice (some ⟨b,0,none⟩) es.length cap/\bs=[b]/\w.heap[b]?=some (.cells bl e (0,0))/\es.length<=cap/\cap<=maxLen /\
  bl.size=cap*sz/\Ts I (bl.toList.take<|es.length*sz) es.flatten/\(∀c∈es,c.length=sz)/\(∀c∈es,∀x∈c,V.one x=true)/\0<sz
 mono:=λh hp=>by
  rcases hp with hp|⟨b,cap,bl,h1,h2,h3,h4,h5,h6,h7,h8⟩
  ·exact .inl hp
  ·exact .inr ⟨b,cap,bl,h1,h2,h3,h4,h5,h6,h7.mono h,h8⟩
 loc:=λh hp=>by
  rcases hp with hp|⟨b,cap,bl,h1,h2,h3,h4⟩
  ·exact .inl hp
  ·exact .inr ⟨b,cap,bl,h1,h2,(h b<|by simp[h2]).trans h3,h4⟩
structure PA0 where
 dx:D
 dst:Option Nat
 todo:List DI
def zm4 (r:TT) (n:Nat) (env:Env) (todo:L1 DI):Option PA0 :=
 match B4 todo ([],[])with
 |some (_,o,C)=>match o.guard,o.op with
  |none,.call { callee:=.builtin .append,args:=⟨[x,y]⟩,argTypes:=⟨[t,h]⟩ }=>match Nat.beq t h,lk r t,Fi env x,Fi env y with
   |true,some { sh:=.sl e,.. },some (.gt es),some (.Kp (.sl []))=>match lk r e,Cs n o.dst with
    |some _,true=>some ⟨.gt es,o.dst,C⟩
    |_,_=>none
   |true,some { sh:=.sl e,.. },some (.Kp (.sl es)),some (.Kp (.sl []))=>match lk r e,Cs n o.dst with
    |some _,true=>some ⟨.Kp<|.sl es,o.dst,C⟩
    |_,_=>none
   |_,_,_,_=>none
  |_,_=>none
 |none=>none
structure PEn where
 es:List (List V)
 eq:Bool
 dst:Option Nat
 todo:List DI
def zp9 (r:TT) (n:Nat) (env:Env) (todo:L1 DI):Option PEn :=
 match B4 todo ([],[])with
 |some (_,o,C)=>match o.guard,o.op with
  |none,.binOp .eql t x y _=>match lk r t,Fi env x,Fi env y,Cs n o.dst with
   |some { sh:=.sl _,.. },some (.Kp (.sl es)),some .NB,true=>some ⟨es,true,o.dst,C⟩
   |_,_,_,_=>none
  |none,.binOp .neq t x y _=>match lk r t,Fi env x,Fi env y,Cs n o.dst with
   |some { sh:=.sl _,.. },some (.Kp (.sl es)),some .NB,true=>some ⟨es,false,o.dst,C⟩
   |_,_,_,_=>none
  |_,_=>none
 |none=>none
def zmk (x:V):jz where
 P:=λvs I _ bs=>bs=[]/\∃v,vs=[v]/\PB I v x/\v.oneCell'=true
 mono:=λh ⟨h1,v,h2,h3,h4⟩=>⟨h1,v,h2,h3.mono h,h4⟩
 loc:=λ_ h=>h
def zme (e:TypeId) (sz:Nat) (es:L1<|L1 V):jz where
 P:=λvs I w bs=>∃v,vs=[v]/\(zmf e sz es v).P [] I w bs
 mono:=λh ⟨v,h1,h2⟩=>⟨v,h1,(zmf e sz es v).mono h h2⟩
 loc:=λh ⟨v,h1,h2⟩=>⟨v,h1,(zmf e sz es v).loc h h2⟩
def vw (I:TA) (j:Nat) (vs:L1 Value) (c:Value) (d:D):Prop:=match d with
 |.hv i k=>i=j/\vs[k]?=some c
 |d=>X I kc c d
def IN (A B:jz) (z:jz) (j b off:Nat) (ds:L1 D):Prop:=∀C vs I w q r,A.P C I w q->B.P vs I w r->(∀b∈q,b∉r)->b∈q/\∃h t,w.heap[b]?=some (.cells h t (0,0))/\off+ds.length<=h.size /\
 ∀cs:L1 Value,cs.length=ds.length->(∀(i:Nat) (c:Value) (d:D),cs[i]?=some c->ds[i]?=some d->vw I j vs c d)->(∀c∈cs,c.oneCell'=true) ->
  ∃y,(∀b∈y,b∈q\/b∈r)/\z.P [] I (w.setRow b (h.toList.take off++cs++h.toList.drop (off+ds.length)).toArray) y
def Zw (j:Nat):L1 D->Bool
 |[]=>true
 |.hv i _::r=>Nat.beq i j&&Zw j r
 |d::r=>(match GH d with|[]=>true|_=>false)&&Zw j r
structure PRj where
 b:Nat
 off:Nat
 ds:List D
 todo:List DI
def iH (r:TT) (env:Env) (id j iz:Nat) (todo:L1 DI):Option PRj :=
 match B4 todo ([id,j],[iz,id,j])with
 |some (_,o,C)=>match o.guard,o.dst,o.op with
  |none,none,.store t p x=>match lk r t,Fi env p,Fi env x with
   |some i,some (.eR (.pointer (some ⟨b,off,none⟩))),some h=>match NW h with
    |some ds=>match Nat.beq ds.length i.size,Zw j ds with
     |true,true=>some ⟨b,off,ds,C⟩
     |_,_=>none
    |none=>none
   |_,_,_=>none
  |_,_,_=>none
 |none=>none
def MP (h:PB I v<|.sl es):∃ad len cap,v=.slice ad len cap/\len<=cap/\len=es.length:=by cases h with|slnil=>exact⟨_,_,_,rfl,B6 _,rfl⟩|mq ad=>exact⟨_,_,_,rfl,B6 _,rfl⟩|sl b o len cap sz _ vs q r=>{exact⟨_,_,_,rfl,r,q⟩}
def Lx (M:dv P r) {c:PA0} (h:zm4 r n env todo=some c) (g:G P n F Q c.todo (Cn c.dst c.dx env) st aa):G P n F Q todo env st aa:=by have R:∀{C:S6} {o:Oper} {N:L1 Oper} {x y:Operand} {t e:TypeId} {i:D} {es:L1<|G2} {ti:kh},B4 todo ([],[])=some (N,o,C)->o.guard=none->o.op=.call { callee:=.builtin .append,args:=⟨[x,y]⟩,argTypes:=⟨[t,t]⟩ }->P.underlying t=some (.slice e)->lk r e=some ti->Fi env x=some i->Fi env y=some (.Kp<|.sl [])->(∀I μ v,X I μ v i->PB I v (.sl es))->Cs n o.dst=true->G P n F Q C (Cn o.dst i env) st aa->G P n F Q todo env st aa:=by{intro C o N x y t e i es ti j k q S T U W b d g;refine Cc (fr:=[]) (wr:=[]) (rd:=[]) j ?_ d (λc u=>by rw[q]at u;cases u) g;intro I μ a7 A a w lr l m;refine⟨λ_=>?_,λB=>by rw[AO k]at B;cases B⟩;have H:=B3 m;rw[q]at H;have E:=H x (by simp[Op.operands,Call.operands]) _ U;have ry:=(H y (by simp[Op.operands,Call.operands]) _ W).Ks;let⟨ad,len,cap,e1,e2,_⟩:=MP<|b _ _ _ E;let⟨p,ly,J,e3,e4,K⟩:=MP ry;obtain⟨inf,z,z1,z2,z3,z4,z5,z6⟩:=(M e ti T).lw;simp only[Cj]at K;subst K;have hr:(Builtin.append_ #[t,t] o.type #[a.eval x,a.eval y]).run P w=.ok (a.eval x) w:=by{rw[e1,e3];cases ad<;>cases p<;>simp[Builtin.append_,aj S,sizeOf,typeInfo,z1,Builtin.lenOf,e2,Builtin.firstCells,loadCells,loadCellsFrom,storeCells]};have f:(execOp a.eval o).run P w=.ok (.value<|a.eval x) w:=by{simp only[execOp,q,resolve,invoke,builtin,ak,al,ah,OU,CK,KM,hr]};rw[f];exact⟨I,μ,l,E,Mu.le_refl μ,fi.refl _ _ _ _⟩};unfold zm4 at h;split at h;{rename_i N o C j;split at h;{rename_i x y t t' k q;split at h;{rename_i e _ _ _ _ es L s U W;have:=Dm L;subst this;split at h;{rename_i ti T b;cases h;exact R j k q (M.sh s) T U W (λI μ v h=>by cases h;assumption) b g};cases h};rename_i e _ _ _ _ es L s U W;have:=Dm L;subst this;split at h;rename_i ti T b;cases h;exact R j k q (M.sh s) T U W (λI μ v h=>h.Ks) b g;cases h;cases h};cases h};cases h
def zh1 {all rest:L1 Oper} {o:Oper} (f:α->D) (q:α->Prop) (G:∀c,o.op≠.defer c) (T:o.guard=none) (U:∀t,o.dst=some t->t<n) (V:∀I μ a w,No I μ st aa w->Fg I μ env a o.op->∃x v,q x/\(execOp a.eval o).run P w=.ok (.value v) w/\X I μ v (f x)) (h:∀x,q x->ek P n F Q (.ops all rest::k) (Cn o.dst (f x) env) st aa):ek P n F Q (.ops all (o::rest)::k) env st aa:=by intro b cs I μ a w H W r;obtain⟨j,e,rfl,g,i⟩:=KA W;let⟨l,L⟩:=Fm g;have M:M8 (o.looksAt all.toArray) I μ env a:=λt _ d N=>r.env t d N;let⟨x,v,m,y,p⟩:=V I μ a w r.toNo<|B3 M;let⟨s,u,R⟩:=Iw (n:=n) (w:=w) (dst:=o.dst) (λt d N=>r.env t d N) r.size U p;have:=h x m b cs I μ (a.put o.dst v) w (.inRegion all.toArray (List.range' (j+1) rest.length)::e) ⟨⟨rfl,j+1,L,rfl⟩,i⟩ {r.toNo with size:=u,env:=by cases z:o.dst<;>simpa[Cn,z]using s,defers:=by rw[R];exact r.defers };rw[R]at this;have C:(o::rest).length=rest.length+1:=rfl;rw[C,OT];refine GF l (AO T) G ?_;unfold Td;rw[y];exact this
def Yt (m:Nat) {t:TypeId} (h:P.underlying t=some (.slice e)) (ad:Option Addr) (len cap:Nat):(Op.equalIn (m+1) t (.slice ad len cap)<|.slice none 0 0).run P w=.ok ad.isNone w:=by cases ad<;>simp[Op.equalIn,aj h]
def Ub {t:TypeId} (h:P.underlying t=some (.slice e)) (ad:Option Addr) (len cap:Nat):(Op.equal t (.slice ad len cap)<|.slice none 0 0).run P w=.ok ad.isNone w:=Yt 9999 h ad len cap
def Pg {t:TypeId} (h:P.underlying t=some (.slice e)) (x y:Operand) (ad:Option Addr) (len cap:Nat):(do eqGuard .eql t x y (.slice ad len cap) (.slice none 0 0);binOp .eql t (.slice ad len cap) (.slice none 0 0):Sem Value).run P w=.ok (.bool ad.isNone) w/\(do eqGuard .neq t x y (.slice ad len cap) (.slice none 0 0);binOp .neq t (.slice ad len cap) (.slice none 0 0):Sem Value).run P w=.ok (.bool (!ad.isNone)) w:=by constructor;simp only[ak,EL .eql t x y (.slice ad len cap) (.slice none 0 0) (by simp)<|by simp,ah,binOp,Ub h,al];simp only[ak,EL .neq t x y (.slice ad len cap) (.slice none 0 0) (by simp)<|by simp,ah,binOp,Ub h,al]
def FE (N:dv P r) {all rest:L1 Oper} {o:Oper} {c:PEn} (h:zp9 r n env (.ops all (o::rest)::k)=some c) (l:∀b:Bool,(c.es≠[]->b = !c.eq)->ek P n F Q c.todo (Cn c.dst (.Kp<|.bool b) env) st aa):ek P n F Q (.ops all (o::rest)::k) env st aa:=by unfold zp9 at h;simp only[B4]at h;have G:∀{I:TA} {v:Value} {es:L1<|G2},PB I v (.sl es)->∃ad C D,v=.slice ad C D/\(es≠[]->ad.isNone=false):=by{intro I v es h;cases h with|slnil=>exact⟨_,_,_,rfl,λh=>absurd rfl h⟩|mq ad=>exact⟨_,_,_,rfl,λ_=>rfl⟩|sl b o C D sz _ vs p M=>{exact⟨_,_,_,rfl,λ_=>rfl⟩}};split at h;rename_i t x y m R z;split at h;rename_i e _ _ _ _ es H T U L;cases h;have W:∀t,o.dst=some t->t<n:=λt H=>by{unfold Cs at L;rw[H]at L;simpa[Kz]using L};refine zh1 (λb=>.Kp<|.bool b) (λb=>es≠[]->b=false) (λc M=>by rw[z]at M;cases M) R W (λI μ a w d q=>?_) λb f=>l b f;rw[z]at q;let⟨ad,C,D,g,i⟩:=G (q x (by simp[Op.operands]) _ T).Ks;have j:a.eval y=.slice none 0 0:=by{have:=q y (by simp[Op.operands]) _ U;generalize a.eval y=v at this;cases this;rfl};refine⟨ad.isNone,.bool ad.isNone,i,?_,.Kp _ _<|.bool _⟩;simp only[execOp,z,g,j];exact AG (Pg (N.sh H) x y ad C D).1;cases h;rename_i t x y m R z;split at h;rename_i e _ _ _ _ es H T U L;cases h;have W:∀t,o.dst=some t->t<n:=λt H=>by{unfold Cs at L;rw[H]at L;simpa[Kz]using L};refine zh1 (λb=>.Kp<|.bool b) (λb=>es≠[]->b=true) (λc M=>by rw[z]at M;cases M) R W (λI μ a w d q=>?_) λb f=>l b f;rw[z]at q;let⟨ad,C,D,g,i⟩:=G (q x (by simp[Op.operands]) _ T).Ks;have j:a.eval y=.slice none 0 0:=by{have:=q y (by simp[Op.operands]) _ U;generalize a.eval y=v at this;cases this;rfl};refine⟨!ad.isNone,.bool (!ad.isNone),λh=>by rw[i h];rfl,?_,.Kp _ _<|.bool _⟩;simp only[execOp,z,g,j];exact AG (Pg (N.sh H) x y ad C D).2;cases h;cases h
def Ho (t j:Nat) {d0:D} {x:V} (N:lk env t=some d0) (r:toV d0=some x) (R:V.one x=true) (h:ek P n F Q todo ((t,.hv j 0)::env) ((j,some<|.hp<|zmk x)::st) Kr):ek P n F Q todo env st<|j::Kr:=by refine EQ λI μ a w z=>?_;have C:PB I (a.tmps.getD t undef) x:=UI r<|z.env t _ N;have G:=C.one R;let⟨H,T,U⟩:=No.jq (R:=[]) (new:=[(j,XT [a.tmps.getD t undef] [],.hp<|zmk x)]) (Kr:=Kr) z.toNo (λp y b L=>by rw[AJ.1 y]at L;cases BB.1 L) (λp y q W b _ _=>by rw[AJ.1 y,AJ.1 W]) (TA.le_refl I) z.Kp (λb o h=>.inl h) (λ_ p y=>by rw[AJ.1 y];exact⟨_,[],rfl,rfl,_,rfl,C,G⟩);refine⟨I,_,_,_,Kr,T,λM d r=>?_,U,.of_le H,h⟩;by_cases e:t=M;subst e;rw[A6]at r;cases r;exact .hv _ j 0 [a.tmps.getD t undef] [] (by simp[F5,lk]) O G;rw[AC _ _ e]at r;exact(z.env M d r).mono (TA.le_refl I) H
def NI (t id j:Nat) {len:Nat} (i:lk env t=some (.own id len)) (W:lk st id=some (some<|.row e sz es)) (h:ek P n F Q todo ((t,.hv j 0)::env) ((j,some<|.hp<|zme e sz es)::(id,none)::st) Kr):ek P n F Q todo env st<|j::Kr:=by refine EQ λI μ a w H=>?_;let⟨g,R,xs,⟨_,r⟩,y,T,L,z⟩:=H.SB id _ W;have k:a.tmps.getD t undef=g:=by{have:=H.env t _ i;generalize a.tmps.getD t undef=v at this;cases this with|own _ _ ad C l=>{rw[l]at R;cases R;rfl}};have U:g.oneCell'=true:=by{rcases r with⟨rfl,_⟩|⟨b,C,M,rfl,_⟩<;>rfl};obtain⟨D,m,V⟩:∃D,(zmf e sz es g).P [] I w D/\∀b∈D,EY g b:=by{rcases r with⟨rfl,s⟩|⟨b,C,M,rfl,_,u,x,A,B,E⟩;exact⟨[],.inl ⟨rfl,Jb s,rfl⟩,λb G=>by cases G⟩;rw[<- E]at y;exact⟨[b],.inr ⟨b,C,M,rfl,rfl,u,x,A,B,y,T,L,z⟩,λb G=>by rw[AJ.1 G];rfl⟩};let⟨c,J,K⟩:=No.jq (R:=[id]) (new:=[(j,XT [g] D,.hp<|zme e sz es)]) (Kr:=Kr) H.toNo (λp z b G=>by{rw[AJ.1 z]at G;exact⟨id,_,_,by simp,W,R,V b<|BB.1 G⟩}) (λp z q S b _ _=>by rw[AJ.1 z,AJ.1 S]) (TA.le_refl I) H.Kp (λb o h=>.inl h) (λ_ p z=>by rw[AJ.1 z];exact⟨_,D,rfl,_,rfl,m⟩);refine⟨I,_,_,_,Kr,J,λf d N=>?_,K,.of_le c,h⟩;by_cases e:t=f;subst e;rw[A6]at N;cases N;rw[k];exact .hv _ j 0 [g] D (by simp[F5,lk]) O U;rw[AC _ _ e]at N;exact(H.env f d N).mono (TA.le_refl I) c
def iX {j:Nat}:∀{ds:R1} {i:Nat} {d:D},Zw j ds=true->ds[i]?=some d->(∃k,d=.hv j k)\/GH d=[]
 |[],i,d,_,h=>by simp at h
 |x::r,i,d,q,h=>by
  cases i with
  |zero=>
   simp at h;subst h;cases x<;>simp only[Zw,Am]at q<;>first
    |exact .inl ⟨_,by rw[Dm q.1]⟩
    |(right;revert q;split<;>simp_all)
  |succ i=>
   refine iX (ds:=r) (i:=i) ?_ (by simpa using h);cases x<;>simp only[Zw,Am]at q<;>exact q.2
def Lw (jw:dv P r) (id j iz:Nat) (M:jz) {c:PRj} (h:iH r env id j iz todo=some c) (hl:lk st id=some (some<|.hp A)) (hlj:lk st j=some (some<|.hp B)) (v:id≠j) (hA:IN A B M j c.b c.off c.ds) (s:G P n F Q c.todo env ((iz,some<|.hp M)::(id,none)::(j,none)::st) Kr):G P n F Q todo env st<|iz::Kr:=by
 unfold iH at h
 split at h
 ·rename_i all o C N
  split at h
  ·rename_i t p x ns R T
   split at h
   ·rename_i i b off dx ht U hx
    split at h
    ·rename_i ds hds
     split at h
     ·rename_i kq hnm;cases h;simp only at hA s;have s:G P n F Q C (Cn o.dst .undef env) ([(iz,some<|.hp M),(id,none),(j,none)]++st) Kr:=by rw[R];exact s
      refine Cc (fr:=[iz]) (wr:=[(iz,some<|.hp M),(id,none),(j,none)]) (rd:=[id,j]) N ?_ (by simp[Cs,R]) (λc hc=>by rw[T]at hc;cases hc) s;intro I μ a7 E a w J D mv;refine⟨λ_=>?_,λhw=>by rw[AO ns]at hw;cases hw⟩;have z:=B3 mv;rw[T]at z;have rp:=(z p (by simp[Op.operands]) _ U).hM;let⟨r1,r2⟩:=Kh hds<|z x (by simp[Op.operands]) _ hx;have V:A2 a7 id<|.hp A:=by unfold A2;rw[J id<|by simp];exact hl
      have W:A2 a7 j<|.hp B:=by unfold A2;rw[J j<|by simp];exact hlj
      obtain⟨g1,f,us,K,rfl,hP1⟩:=D.SB id _ V;obtain⟨g2,g,vs,b2,rfl,yv⟩:=D.SB j _ W;let⟨k1,y,bt,k2,k3,k4⟩:=hA us vs I w K b2 hP1 yv λb N S=>v<|D.inj id j _ _ _ _ b V W f g (BB.2 N)<|BB.2 S;have H:(a.eval x).cells.toList.length=ds.length:=r1.1;have hs:=Dm kq;have iu:(execOp a.eval o).run P w=.ok .skip (w.setRow b (y.toList.take off++(a.eval x).cells.toList++y.toList.drop (off+(a.eval x).cells.toList.length)).toArray):=by
       simp only[execOp,T,rp,ak,LI (jw t i ht) k2 (by rw[<- hs,<- H];simp) r2 (show off+(a.eval x).cells.toList.length<=y.size by rw[H];exact k3),ah,al]
      rw[iu,H];let⟨bs,z1,z2⟩:=k4 (a.eval x).cells.toList H (λq c d hc hd=>by
       have hr:=r1.2 q c d hc hd;rcases iX hnm hd with⟨kk,rfl⟩|l7
       ·cases hr with
        |hv _ _ _ us' L hm hi N=>
         rw[g]at hm;have:vs=us':=by
          simp only[XT,Co,fx,Array.mk.injEq,Cr,Value.agg.injEq,be]at hm;simpa using hm.1
         exact⟨rfl,by rw[this];exact hi⟩
       ·have:X I kc c d:=hr.sub λj hj=>by rw[l7]at hj;cases hj
        cases d<;>first|exact this|simp[GH]at l7) r2
      let⟨p1,p2⟩:=D.update (id:=id) (SB:=.hp A) (it:=.hp { P:=λ_ _ w' L=>w'=w.setRow b (y.toList.take off++(a.eval x).cells.toList++y.toList.drop (off+ds.length)).toArray/\L=K\/True,mono:=λ_ h=>h,loc:=λ_ _=>.inr ab }) (g:=XT us K) (b:=b) V f (BB.2 k1) (w':=w.setRow b (y.toList.take off++(a.eval x).cells.toList++y.toList.drop (off+ds.length)).toArray) (cd w b _) O O O (λk s=>ay w b k _ s) ⟨us,K,rfl,.inr ab⟩;let⟨q1,q2,q3⟩:=No.jq (R:=[id,j]) (new:=[(iz,XT [] bs,.hp M)]) (Kr:=E) p1
       (λp U b hb=>by
        rw[AJ.1 U]at hb;rcases z1 b (BB.1 hb)with h|h
        ·exact⟨id,_,_,by simp,A7.2<|.inl ⟨rfl,rfl⟩,f,BB.2 h⟩
        ·exact⟨j,_,_,by simp,A7.2<|.inr ⟨λe=>v e.symm,W⟩,g,BB.2 h⟩)
       (λp U q hq b _ _=>by rw[AJ.1 U,AJ.1 hq]) (TA.le_refl I) p1.Kp (λb o h=>.inl h)
       (λ_ p U=>by rw[AJ.1 U];exact⟨[],bs,rfl,z2⟩)
      have l:∀i u,A2 ([(iz,some<|.hp M),(id,none),(j,none)]++a7) i u->A2 (TE [(iz,XT [] bs,fp.hp M)]++(CO [id,j]++(id,some<|.hp { P:=λ_ _ w' L=>w'=w.setRow b (y.toList.take off++(a.eval x).cells.toList++y.toList.drop (off+ds.length)).toArray/\L=K\/True,mono:=λ_ h=>h,loc:=λ_ _=>.inr ab })::a7)) i u:=by
       intro i u m;rcases A7.1 m with⟨N,S⟩|⟨N,S⟩
       ·exact A7.2<|.inl ⟨N,S⟩
       ·let⟨h3,h4⟩:=BX.1 S;let⟨h5,h6⟩:=BX.1 h4;exact A7.2<|.inr ⟨N,BX.2 ⟨h3,BX.2 ⟨h5,A7.2<|.inr ⟨h3,h6⟩⟩⟩⟩
      let⟨y1,y2⟩:=q2.ke (a7:=[(iz,some<|.hp M),(id,none),(j,none)]++a7) λi u m=>⟨u,l i u m,λ_ h=>h⟩
      exact⟨I,_,y1,.undef _,q1,(p2.trans q3).trans y2⟩
     ·cases h
    ·cases h
   ·cases h
  ·cases h
 ·cases h
def OB (l:Z):Value:=.string ⟨l.toArray⟩
inductive An where
 |mk (s:Bool) (o n:Int) (x:Z) (v:Value) (ks:List An) (u:Value) (ps:List An)
 |im (s:Bool) (cs:List Value) (c:List V)
def vz:Bool->TypeId
 |true=>49
 |false=>182
def Gl:Bool->Nat
 |true=>5
 |false=>4
def CT:An->Bool
 |.mk s _ _ _ _ _ _ _=>s
 |.im s _ _=>s
def Zd:An->L1 Value
 |.mk s _ _ _ v _ u _=>match s with
  |true=>[v,u]
  |false=>[v]
 |.im _ _ _=>[]
def cA:An->L1 Value
 |.mk s o n x v _ u _=>match s with
  |true=>[.int .i64 o,.int .i64 n,OB x,v,u]
  |false=>[.int .i64 o,.int .i64 n,OB x,v]
 |.im _ cs _=>cs
mutual
def vA:An->L1 V
 |.mk s o n x _ ks _ ps=>match s with
  |true=>[.int .i64 o,.int .i64 n,.str x,.sl<|HK ks,.sl<|HK ps]
  |false=>[.int .i64 o,.int .i64 n,.str x,.sl<|HK ks]
 |.im _ _ c=>c
def HK:L1 An->L1 (L1 V)
 |[]=>[]
 |a::r=>vA a::HK r
end
abbrev N4:=L1 An
def IQ:∀l:N4,HK l=l.map vA
 |[]=>rfl
 |a::r=>by simp[HK,IQ r]
@[simp] theorem um (l:N4):(HK l).length=l.length:=by rw[IQ];simp
mutual
def M6:An->Prop
 |.mk _ _ _ _ _ ks _ ps=>DY ks/\DY ps
 |.im _ _ _=>False
def DY:L1 An->Prop
 |[]=>True
 |a::r=>M6 a/\DY r
end
def I1:∀{a b:N4},DY a->DY b->DY (a++b)
 |[],_,_,h=>h
 |x::r,b,h,k=>⟨h.1,I1 h.2 k⟩
def Xb:∀{l:N4} {i:Nat} {a:An},DY l->l[i]?=some a->M6 a
 |[],i,a,_,h=>by simp at h
 |x::r,0,a,q,h=>by simp at h;subst h;exact q.1
 |x::r,i+1,a,q,h=>Xb q.2 (by simpa using h)
def Po (a b:N4):HK (a++b)=HK a++HK b:=by simp[IQ]
def BG:Value->Nat
 |.slice (some a) _ _=>a.block
 |_=>0
def CI (v:Value):Nat->L1 Nat
 |0=>[]
 |_+1=>[BG v]
def U0 (w:World) (r:TypeId) (sz:Nat) (v:Value) (len:Nat):Prop :=
 (len=0/\(∃a c,v=.slice a 0 c)/\∀I,PB I v<|.sl []) \/
 (0<len/\∃b h q,v=.slice (some ⟨b,0,none⟩) len h/\w.heap[b]?=some (.cells q r (0,0))/\len<=h/\h<=maxLen/\q.size=h*sz)
def XA (w:World) (b off:Nat) (cs:L1 Value):Prop:=∃h q k,w.heap[b]?=some (.cells h q k)/\∀(j:Nat) (c:Value),cs[j]?=some c->h[off+j]?=some c
mutual
def KT (I:TA) (w:World):An->Prop
 |.mk s _ _ _ v ks u ps=>(U0 w (vz s) (Gl s) v ks.length/\Eh I w s (BG v) 0 ks)/\(s=true->U0 w (vz false) (Gl false) u ps.length/\Eh I w false (BG u) 0 ps)
 |.im s cs c=>Ts I cs c/\(∀y∈cs,y.oneCell'=true)/\c.length=Gl s
def Eh (I:TA) (w:World) (s:Bool) (b:Nat):Nat->L1 An->Prop
 |_,[]=>True
 |i,a::r=>(CT a=s/\XA w b (i*Gl s) (cA a)/\KT I w a)/\Eh I w s b (i+1) r
end
mutual
def Hu:An->L1 Nat
 |.mk s _ _ _ v ks u ps=>(CI v ks.length++CX ks)++match s with
  |true=>CI u ps.length++CX ps
  |false=>[]
 |.im _ _ _=>[]
def CX:L1 An->L1 Nat
 |[]=>[]
 |a::r=>Hu a++CX r
end
def Up (a b:N4):CX (a++b)=CX a++CX b:=by induction a with|nil=>rfl|cons x r h=>{simp[CX,h]}
def FA {I:TA} {w:World} {s:Bool} {b:Nat}:∀{gs:N4} {i j:Nat} {a:An},Eh I w s b i gs->gs[j]?=some a->CT a=s/\XA w b ((i+j)*Gl s) (cA a)/\KT I w a
 |[],i,j,a,_,h=>by simp at h
 |x::r,i,0,a,q,h=>by simp at h;subst h;simp only[Eh]at q;exact q.1
 |x::r,i,j+1,a,q,h=>by simp only[Eh]at q;have:=FA q.2 (j:=j) (by simpa using h);rwa [show i+1+j=i+(j+1) by omega]at this
def Uo {I:TA} {w:World} {s:Bool} {b:Nat}:∀{gs h:N4} {i:Nat},Eh I w s b i (gs++h)↔Eh I w s b i gs/\Eh I w s b (i+gs.length) h
 |[],h,i=>by simp[Eh]
 |x::r,h,i=>by simp only[DV,Eh,C1];rw[Uo,show i+1+r.length=i+(r.length+1) by omega,<- ep]
def MU {z:TypeId} {len:Nat} (h:∀k∈CI v len,w'.heap[k]?=w.heap[k]?) (q:U0 w z sz v len):U0 w' z sz v len:=by rcases q with q|⟨C,b,r,y,rfl,D,G⟩;exact .inl q;refine .inr ⟨C,b,r,y,rfl,(h b ?_).trans D,G⟩;cases len with|zero=>omega|succ n=>{simp[CI,BG]}
def UW (h:w'.heap[b]?=w.heap[b]?) (r:XA w b off cs):XA w' b off cs:=by obtain⟨q,y,k,z,C⟩:=r;exact⟨q,y,k,h.trans z,C⟩
mutual
def KF {I:TA} {w w':World}:∀{a:An},(∀k∈Hu a,w'.heap[k]?=w.heap[k]?)->KT I w a->KT I w' a
 |.im s cs c,_,y=>y
 |.mk s o n x v ks u ps,h,y=>by simp only[KT]at y ⊢;simp only[Hu,AT]at h;obtain⟨⟨z,C⟩,D⟩:=y;refine⟨⟨MU (λk q=>h k<|.inl<|.inl q) z,?_⟩,λG=>?_⟩;exact LA (λr=>h (BG v)<|.inl<|.inl<|by cases ks with|nil=>exact absurd rfl r|cons=>simp[CI]) (λk q=>h k<|.inl<|.inr q) C;subst G;let⟨H,L⟩:=D rfl;simp only[AT]at h;exact⟨MU (λk q=>h k<|.inr<|.inl q) H,LA (λr=>h (BG u)<|.inr<|.inl<|by cases ps with|nil=>exact absurd rfl r|cons=>simp[CI]) (λk q=>h k<|.inr<|.inr q) L⟩
def LA {I:TA} {w w':World} {s:Bool} {b:Nat}:∀{gs:N4} {i:Nat},(gs≠[]->w'.heap[b]?=w.heap[b]?)->(∀k∈CX gs,w'.heap[k]?=w.heap[k]?)->Eh I w s b i gs->Eh I w' s b i gs
 |[],_,_,_,_=>by simp[Eh]
 |a::r,i,z,h,q=>by simp only[Eh]at q ⊢;simp only[CX,AT]at h;exact⟨⟨q.1.1,UW (z<|by simp) q.1.2.1,KF (λk y=>h k<|.inl y) q.1.2.2⟩,LA (λ_=>z<|by simp) (λk y=>h k<|.inr y) q.2⟩
end
mutual
def XC {I J:TA} {w:World} (h:I.le J):∀{a:An},KT I w a->KT J w a
 |.mk s o n x v ks u ps,q=>by simp only[KT]at q ⊢;exact⟨⟨q.1.1,L9 h q.1.2⟩,λr=>⟨(q.2 r).1,L9 h (q.2 r).2⟩⟩
 |.im s cs c,q=>⟨q.1.mono h,q.2⟩
def L9 {I J:TA} {w:World} (h:I.le J) {s:Bool} {b:Nat}:∀{gs:N4} {i:Nat},Eh I w s b i gs->Eh J w s b i gs
 |[],_,_=>by simp[Eh]
 |a::r,i,q=>by simp only[Eh]at q ⊢;exact⟨⟨q.1.1,q.1.2.1,XC h q.1.2.2⟩,L9 h q.2⟩
end
def YC {a:An} (h:KT I w a):(vA a).length=Gl (CT a):=by cases a with|mk s o n x v ks u ps=>cases s<;>simp[vA,CT,Gl]|im s cs c=>{exact h.2.2}
def SO {a:An} (h:KT I w a):(cA a).length=Gl (CT a):=by cases a with|mk s o n x v ks u ps=>cases s<;>simp[cA,CT,Gl]|im s cs c=>{exact h.1.1.trans h.2.2}
def I7 {q:TypeId} {len:Nat} (h:U0 w q sz v len):v.oneCell'=true:=by rcases h with⟨_,⟨a,c,rfl⟩,_⟩|⟨_,b,r,y,rfl,_⟩<;>rfl
def eT {a:An} (h:KT I w a):∀c∈cA a,c.oneCell'=true:=by
 cases a with
 |im s cs c=>exact h.2.1
 |mk s o n x v ks u ps=>
 simp only[KT]at h;have r:=I7 h.1.1;intro c q;cases s with
 |true=>
  have y:=I7 (h.2 O).1;simp only[cA,Cu,JK,ch]at q;rcases q with rfl|rfl|rfl|rfl|rfl<;>first|rfl|assumption
 |false=>
  simp only[cA,Cu,JK,ch]at q;rcases q with rfl|rfl|rfl|rfl<;>first|rfl|assumption
def PB.encStr (I:TA) (l:L1 UInt8):PB I (OB l)<|.str l:=.str _ _ (by simp)
def vE {gs:N4} (l:U0 w (vz s) (Gl s) v gs.length) (G:Eh I w s (BG v) 0 gs) (m:∀k∈CI v gs.length,J k=w.heap[k]?) (n:∀a∈gs,Ts J (cA a)<|vA a):PB J v<|.sl<|HK gs:=by rcases l with⟨M,_,H⟩|⟨M,b,D,y,rfl,H,o,p,K⟩;have:gs=[]:=Jb M;subst this;exact H J;have N:J b=some (.cells y (vz s) (0,0)):=by{rw[m b<|by cases gs with|nil=>simp at M|cons=>simp[CI,BG],H]};have t:BG (.slice (some ⟨b,0,none⟩) gs.length D)=b:=rfl;rw[t]at G;have q:∀(i:Nat) (e:G2) (j:Nat) (x:V),(HK gs)[i]?=some e->e[j]?=some x->∃a c,gs[i]?=some a/\(cA a)[j]?=some c/\y[i*Gl s+j]?=some c/\c.oneCell'=true/\PB J c x:=by{intro i e j x h z;rw[IQ,Cx]at h;cases C:gs[i]? with|none=>rw[C]at h;cases h|some a=>{rw[C]at h;cases h;let⟨P,u,A⟩:=FA G C;have r:=n a<|AE C;have R:j<(cA a).length:=by{rw[r.1];exact(A9.1 z).1};have L:=Bi R;obtain⟨U,Q,k,W,B⟩:=u;rw[H]at W;cases W;refine⟨a,_,rfl,L,?_,eT A _<|AE L,r.2 j _ x L z⟩;have:=B j _ L;rwa [BU]at this}};refine .sl b 0 gs.length D (Gl s) (HK gs) (λi j=>(y[i*Gl s+j]?).getD undef) (by simp) o p (λe d=>?_) (λi e j x h z=>?_) λi e j x h z=>?_;rw[IQ]at d;obtain⟨a,C,rfl⟩:=CC.1 d;let⟨i,h⟩:=H3 C;rw[YC (FA G h).2.2,(FA G h).1];let⟨a,c,E,F,T,f,g⟩:=q i e j x h z;simp[TA.cell,N,T,f];let⟨a,c,E,F,T,f,g⟩:=q i e j x h z;simpa[T]using g
mutual
def ST {w:World} {I J:TA} (z:I.le J):∀{a:An},KT I w a->(∀k∈Hu a,J k=w.heap[k]?)->Ts J (cA a) (vA a)
 |.im s cs c,h,_=>h.1.mono z
 |.mk s o n x v ks u ps,h,D=>by simp only[KT]at h;simp only[Hu,AT]at D;have G:PB J v<|.sl<|HK ks:=vE h.1.1 h.1.2 (λk C=>D k<|.inl<|.inl C)<|eW z h.1.2 λk C=>D k<|.inl<|.inr C;cases s with|true=>{simp only[AT]at D;let⟨L,H⟩:=h.2 rfl;have M:PB J u<|.sl<|HK ps:=vE L H (λk C=>D k<|.inr<|.inl C)<|eW z H λk C=>D k<|.inr<|.inr C;refine⟨rfl,λi c y q r=>?_⟩;simp only[cA,vA]at q r;match i with|0=>cases q;cases r;exact .int _ _|1=>cases q;cases r;exact .int _ _|2=>cases q;cases r;exact .encStr _ _|3=>cases q;cases r;exact G|4=>cases q;cases r;exact M|i+5=>{simp at q}}|false=>{refine⟨rfl,λi c y q r=>?_⟩;simp only[cA,vA]at q r;match i with|0=>cases q;cases r;exact .int _ _|1=>cases q;cases r;exact .int _ _|2=>cases q;cases r;exact .encStr _ _|3=>cases q;cases r;exact G|i+4=>{simp at q}}
def eW {w:World} {I J:TA} (q:I.le J) {s:Bool} {b:Nat}:∀{gs:N4} {i:Nat},Eh I w s b i gs->(∀k∈CX gs,J k=w.heap[k]?)->∀a∈gs,Ts J (cA a) (vA a)
 |[],_,_,_=>λa h=>by cases h
 |x::r,i,y,z=>by simp only[Eh]at y;simp only[CX,AT]at z;have D:=ST q y.1.2.2 λk C=>z k<|.inl C;have G:=eW q y.2 λk C=>z k<|.inr C;intro a h;rcases Cu.1 h with rfl|h;exact D;exact G a h
end
def Jy {bl:Array Value} {q:TypeId} {k:Nat×Nat} (h:w.heap[b]?=some (.cells bl q k)):(w.setRow b (bl.toList.take off++cs++bl.toList.drop (off+cs.length)).toArray).heap[b]?=some (.cells (bl.toList.take off++cs++bl.toList.drop (off+cs.length)).toArray q k):=cv w b bl _ q k h
def LJ {bl:R0} (r:off+cs.length<=bl.length) (i:Nat):(bl.take off++cs++bl.drop (off+cs.length))[i]?=if i<off then bl[i]? else if i<off+cs.length then cs[i-off]? else bl[i]?:=by rw[CV,PH,HR,jI<|by omega];by_cases h:i<off;rw[ae h,ae h,Ea,ae h];rw[ac h,ac h,PH];by_cases q:i<off+cs.length;rw[ae q,ae<|by omega];rw[ac q,ac<|by omega,F7];congr 1;omega
def eV {bl:Array Value} {q:TypeId} {k:Nat×Nat} (h:w.heap[b]?=some (.cells bl q k)) (y:off+cs.length<=bl.size):XA (w.setRow b (bl.toList.take off++cs++bl.toList.drop (off+cs.length)).toArray) b off cs:=by refine⟨_,q,k,Jy h,λj c r=>?_⟩;have z:=(A9.1 r).1;have:=LJ (bl:=bl.toList) (off:=off) (cs:=cs) (by simpa using y)<|off+j;rw[ac<|by omega,ae<|by omega,zf0,r]at this;simpa using this
def X9 {q:Nat} {bl:Array Value} {y:TypeId} {k:Nat×Nat} {r:R0} (h:w.heap[b]?=some (.cells bl y k)) (H:off+cs.length<=bl.size) (L:XA w b q r) (hd:q+r.length<=off\/off+cs.length<=q):XA (w.setRow b (bl.toList.take off++cs++bl.toList.drop (off+cs.length)).toArray) b q r:=by obtain⟨z,M,T,C,N⟩:=L;rw[h]at C;cases C;refine⟨_,y,k,Jy h,λj c D=>?_⟩;have R:=(A9.1 D).1;have G:=N j c D;have:=LJ (bl:=bl.toList) (off:=off) (cs:=cs) (by simpa using H)<|q+j;rcases hd with hd|hd;rw[ae<|by omega]at this;simpa[G]using this;rw[ac<|by omega,ac<|by omega]at this;simpa[G]using this
def XJ (a:An):jz where
 P:=λ_ I w bs=>bs=Hu a/\bs.Nodup/\KT I w a
 mono:=λh ⟨h1,h2,h3⟩=>⟨h1,h2,XC h h3⟩
 loc:=λh ⟨h1,h2,h3⟩=>⟨h1,h2,KF (λk hk=>h k (by rw[h1];exact hk)) h3⟩
def XQ (s:Bool) (c:L1 V):jz where
 P:=λvs I w bs=>∃o n x v ks u ps,(vA (.mk s o n x v ks u ps)=c/\M6 (.mk s o n x v ks u ps))/\vs=Zd (.mk s o n x v ks u ps)/\(XJ<|.mk s o n x v ks u ps).P [] I w bs
 mono:=λh ⟨o,n,x,v,ks,u,ps,h2,h3,h4⟩=>⟨o,n,x,v,ks,u,ps,h2,h3,(XJ _).mono h h4⟩
 loc:=λh ⟨o,n,x,v,ks,u,ps,h2,h3,h4⟩=>⟨o,n,x,v,ks,u,ps,h2,h3,(XJ _).loc h h4⟩
def Iu (s:Bool) (v:Value) (gs:L1 An) (rest:L1<|L1 V):jz where
 P:=λ_ I w bs=>U0 w (vz s) (Gl s) v (gs.length+rest.length)/\Eh I w s (BG v) 0 gs /\
  (∀(j:Nat) (e:L1 V),rest[j]?=some e->∃cs:L1 Value,XA w (BG v) ((gs.length+j)*Gl s) cs/\Ts I cs e/\(∀c∈cs,c.oneCell'=true)/\e.length=Gl s) /\
  bs=CI v (gs.length+rest.length)++CX gs/\bs.Nodup
 mono:=λh ⟨h1,h2,h3,h4⟩=>⟨h1,L9 h h2,λj e hj=>let⟨cs,a,b,c⟩:=h3 j e hj;⟨cs,a,b.mono h,c⟩,h4⟩
 loc:=λ{vs I w w' bs} h ⟨h1,h2,h3,h4,h5⟩=>by
  have hb:gs.length+rest.length≠0->w'.heap[BG v]?=w.heap[BG v]?:=λod=>h _ (by
   rw[h4];cases hl:gs.length+rest.length with
   |zero=>exact absurd hl od
   |succ n=>simp[CI])
  refine⟨MU (λk hk=>h k (by rw[h4];simp[hk])) h1,LA (λod=>hb<|by cases gs with|nil=>exact absurd rfl od|cons=>simp) (λk hk=>h k (by rw[h4];simp[hk])) h2,λj e hj=>?_,h4,h5⟩;obtain⟨cs,a,b⟩:=h3 j e hj;exact⟨cs,UW (hb (by have:=(A9.1 hj).1;omega)) a,b⟩
def zmh (s:Bool) (v:Value) (gs:L1 An) (e:L1 V) (rest:L1<|L1 V):jz where
 P:=λ_ I w bs=>∃a,(vA a=e/\M6 a)/\(Iu s v (gs++[a]) rest).P [] I w bs
 mono:=λh ⟨a,h1,h2⟩=>⟨a,h1,(Iu s v (gs++[a]) rest).mono h h2⟩
 loc:=λh ⟨a,h1,h2⟩=>⟨a,h1,(Iu s v (gs++[a]) rest).loc h h2⟩
def JY (s:Bool) (es:L1<|L1 V):jz where
 P:=λvs I w bs=>∃v,vs=[v]/\(Iu s v [] es).P [] I w bs
 mono:=λh ⟨v,h1,h2⟩=>⟨v,h1,(Iu s v [] es).mono h h2⟩
 loc:=λh ⟨v,h1,h2⟩=>⟨v,h1,(Iu s v [] es).loc h h2⟩
def O4 {z:K1} (s:Bool) (h:(zmk<|.sl []).P vs I w z):(JY s []).P vs I w z:=by obtain⟨rfl,v,rfl,C,N⟩:=h;refine⟨v,rfl,.inl ⟨rfl,?_,?_⟩,by simp[Eh],λj e D=>by simp at D,by simp[CI,CX],.nil⟩;obtain⟨ad,q,r,rfl,_,rfl⟩:=MP C;exact⟨_,_,rfl⟩;intro J;cases C with|slnil=>exact .slnil|mq a=>exact .mq a|sl b o q r sz es vs G H L _ _ _=>{exact .sl b o q r sz [] vs G H L (λe M=>by cases M) (λi e j x y=>by simp at y) λi e j x y=>by simp at y}
def aS {U:K1} (C:es≠[]) (h:(zme (vz s) (Gl s) es).P vs I w U):(JY s es).P vs I w U:=by obtain⟨v,rfl,⟨_,g,_⟩|⟨b,G,r,rfl,rfl,V,W,k,l,m,a,n,F⟩⟩:=h;exact absurd g C;have H:0<es.length:=by{cases es with|nil=>exact absurd rfl C|cons=>simp};refine⟨_,rfl,.inr ⟨by simpa using H,b,G,r,by simp,V,by simpa using W,k,l⟩,by simp[Eh],λj e M=>?_,?_,by simp⟩;have d:=a e<|AE M;have N:=(A9.1 M).1;have L:(j+1)*Gl s<=es.length*Gl s:=IW _ N;rw[Kx]at L;have R:es.length*Gl s<=G*Gl s:=IW _ W;have z:∀i,i<Gl s->∃c x,r.toList[j*Gl s+i]?=some c/\e[i]?=some x/\PB I c x/\c.oneCell'=true:=by{intro i y;obtain⟨x,D⟩:∃x,e[i]?=some x:=⟨_,Bi<|by omega⟩;have o:=Dc a j e i x M D;obtain⟨c,q⟩:∃c,r.toList[j*Gl s+i]?=some c:=⟨_,Bi (by simp;omega)⟩;have f:=m.2 (j*Gl s+i) c x (by rw[Ea,ae<|by omega];exact q) o;exact⟨c,x,q,D,f,f.one<|n e (AE M) x<|AE D⟩};refine⟨(r.toList.drop<|j*Gl s).take<|Gl s,⟨r,_,_,V,λi c q=>?_⟩,⟨?_,λi c x q D=>?_⟩,λc q=>?_,d⟩;rw[Ea]at q;split at q;rw[F7]at q;simpa using q;cases q;rw[HR,JI,d];simp;omega;rw[Ea]at q;split at q;rename_i y;rw[F7]at q;let⟨p,t,T,u,A,_⟩:=z i y;rw[T]at q;cases q;rw[u]at D;cases D;exact A;cases q;let⟨i,y⟩:=H3 q;rw[Ea]at y;split at y;rename_i B;rw[F7]at y;let⟨p,t,T,_,_,E⟩:=z i B;rw[T]at y;cases y;exact E;cases y;cases es with|nil=>exact absurd rfl C|cons=>{simp[CI,BG,CX]}
def UN {r:K1} {gs:N4} {rest:L1<|G2} (h:(Iu s v gs rest).P vs I w r):∃a cap,v=.slice a (gs.length+rest.length) cap/\(0<gs.length+rest.length->∃b,a=some ⟨b,0,none⟩):=by rcases h.1 with⟨q,⟨a,c,rfl⟩,_⟩|⟨q,b,cap,y,rfl,_⟩;exact⟨a,c,by rw[q],λh=>by omega⟩;exact⟨_,cap,rfl,λ_=>⟨b,rfl⟩⟩
def Wi {H:K1} {gs:N4} {e:G2} {rest:L1<|G2} (h:(Iu s v gs<|e::rest).P vs I w H):DU I w (BG v) (gs.length*Gl s)<|e.map .Kp:=by let⟨cs,⟨y,L,k,M,D⟩,G,N,R⟩:=h.2.2.1 0 e rfl;rw[Jd]at D;refine⟨y,L,k,M,λj d q=>?_⟩;rw[Cx]at q;cases r:e[j]? with|none=>rw[r]at q;cases q|some x=>{rw[r]at q;cases q;have z:j<cs.length:=by{rw[G.1];exact(A9.1 r).1};have C:=Bi z;exact⟨_,D j _ C,N _<|AE C,.Kp _ _<|G.2 j _ x C r⟩}
def tH (j:Nat):Bool->L1 V->L1 D
 |true,[o,n,x,_,_]=>[.Kp o,.Kp n,.Kp x,.hv j 0,.hv j 1]
 |false,[o,n,x,_]=>[.Kp o,.Kp n,.Kp x,.hv j 0]
 |_,_=>[]
def PB.n0 {l:L1 UInt8} (h:PB I v<|.str l):v=OB l:=by cases h with|str s _ q=>{subst q;obtain⟨⟨l⟩⟩:=s;rfl}
def zia {n:Int} {ks:N4} {ps:N4} (z:cs.length=(tH j s<|vA<|.mk s o n x v ks u ps).length) (h:∀(i:Nat) (c:Value) (d:D),cs[i]?=some c->(tH j s<|vA<|.mk s o n x v ks u ps)[i]?=some d->vw I j (Zd<|.mk s o n x v ks u ps) c d):cs=cA (.mk s o n x v ks u ps):=by have q:∀{c:Value} {y:V},vw I j (Zd<|.mk s o n x v ks u ps) c (.Kp y)->PB I c y:=λh=>by{have h:X I kc _<|.Kp _:=h;exact h.Ks};cases s with|true=>{simp only[CT,vA,tH,C1,Cj]at z h;match cs,z with|[M,N,R,T,U],_=>{have C:=(q<|h 0 _ _ O O).da;have G:=(q<|h 1 _ _ O O).da;have H:=(q<|h 2 _ _ O O).n0;have r:=h 3 _ _ O O;have L:=h 4 _ _ O O;simp only[vw,Zd,ax]at r L;simp at r L;rw[C,G,H,<- r,<- L];rfl}}|false=>{simp only[CT,vA,tH,C1,Cj]at z h;match cs,z with|[M,N,R,T],_=>{have C:=(q<|h 0 _ _ O O).da;have G:=(q<|h 1 _ _ O O).da;have H:=(q<|h 2 _ _ O O).n0;have r:=h 3 _ _ O O;simp only[vw,Zd,ax]at r;simp at r;rw[C,G,H,<- r];rfl}}
def tG {n:Int} {ks:N4} {ps:N4}:(tH j s<|vA<|.mk s o n x v ks u ps).length=Gl s:=by cases s<;>simp[vA,tH,Gl]
def Sa {gs:N4} {e:G2} {rest:L1<|G2}:IN (Iu s v gs<|e::rest) (XQ s e) (zmh s v gs e rest) j (BG v) (gs.length*Gl s)<|tH j s e:=by intro us vs I w b1 b2 ⟨h1,h2,h3,A,E⟩ ⟨o,n,x,v',ks,u,ps,⟨k2,kf⟩,k3,U,k5,F⟩ H;obtain⟨a,W⟩:∃a,a=An.mk s o n x v' ks u ps:=⟨_,rfl⟩;have k1:CT a=s:=by{rw[W];rfl};have L:(tH j (CT a)<|vA a).length=Gl (CT a):=by{rw[W];exact tG};have J:∀{cs:R0},cs.length=(tH j (CT a)<|vA a).length->(∀(i:Nat) (c:Value) (d:D),cs[i]?=some c->(tH j (CT a)<|vA a)[i]?=some d->vw I j (Zd a) c d)->cs=cA a:=by{rw[W];exact zia};rw[<- W]at k2 k3 U F kf;clear W;subst k1;subst k2;subst k3;rcases h1 with⟨K,_⟩|⟨K,b,f,q,rfl,h,M,P,g⟩;simp at K;simp only[BG]at h2 h3 ⊢;have l:b∈b1:=by{rw[A];have:gs.length+(vA a::rest).length=(gs.length+rest.length)+1:=by{simp;omega};rw[this];simp[CI,BG]};have N:gs.length*Gl (CT a)+Gl (CT a)<=q.size:=by{rw[g,<- Kx];exact IW _ (by simp at M;omega)};refine⟨l,q,_,h,by rw[L];exact N,λcs hl m u6=>?_⟩;have p:=J hl m;have R:cs.length=Gl (CT a):=by{rw[p,SO F]};have Q:(tH j (CT a)<|vA a).length=cs.length:=by{rw[L,R]};rw[Q];have B:gs.length*Gl (CT a)+cs.length<=q.size:=by{rw[R];exact N};have C:(gs++[a]).length+rest.length=gs.length+(vA a::rest).length:=by{simp;omega};have S:∀k∈CX gs,k≠b:=λk hk e=>by{subst e;rw[A]at E;have hd:=(D2.1 E).2.2 k (by{have:gs.length+(vA a::rest).length=(gs.length+rest.length)+1:=by{simp;omega};rw[this];simp[CI,BG]}) k hk;exact hd O};have t:∀k∈Hu a,k≠b:=λk hk e=>by{subst e;exact H k l (by rw[U];exact hk)};refine⟨CI (.slice (some ⟨b,0,none⟩) (gs.length+(vA a::rest).length) f) ((gs++[a]).length+rest.length)++CX (gs++[a]),λk hk=>?_,a,⟨rfl,kf⟩,?_,?_,?_,rfl,?_⟩;rw[C,Up,<- CV,<- A,AT]at hk;rcases hk with hk|hk;exact .inl hk;right;rw[U];simpa[CX]using hk;rw[C];refine .inr ⟨K,b,f,_,rfl,Jy h,M,P,?_⟩;rw[<- g];have tu:q.toList.length=q.size:=QJ;generalize gs.length*Gl (CT a)=off at B;show(q.toList.take off++cs++q.toList.drop (off+cs.length)).length=q.size;rw[Bo,Bo,HR,JI];omega;rw[Uo];constructor;have:∀{z:N4} {i:Nat},(∀k∈CX z,k≠b)->i+z.length<=gs.length->Eh I w (CT a) b i z->Eh I (w.setRow b (q.toList.take (gs.length*Gl (CT a))++cs++q.toList.drop (gs.length*Gl (CT a)+cs.length)).toArray) (CT a) b i z:=by{intro z;induction z with|nil=>intro i _ _ _;simp[Eh]|cons y r ih=>{intro i hk hi T;simp only[Eh]at T ⊢;simp only[CX,AT]at hk;simp only[C1]at hi;refine⟨⟨T.1.1,X9 h B T.1.2.1<|.inl ?_,KF (λk G=>ay w b k _<|hk k<|.inl G) T.1.2.2⟩,ih (λk G=>hk k<|.inr G) (by omega) T.2⟩;rw[SO T.1.2.2,T.1.1,<- Kx];exact IW _<|by omega}};exact this S (by omega) h2;simp only[Eh,be,BU];refine⟨ab,?_,KF (λk hk=>ay w b k _<|t k hk) F⟩;rw[<- p];exact eV h B;intro i e' qk;let⟨cs',q1,q2,q3,q4⟩:=h3 (i+1) e' (by simpa using qk);refine⟨cs',?_,q2,q3,q4⟩;have e1:(gs++[a]).length+i=gs.length+(i+1):=by{simp;omega};rw[e1];refine X9 h B q1<|.inr ?_;rw[R,<- Kx];exact IW _ (by omega);rw[C,Up,<- CV,<- A];refine D2.2 ⟨E,by simpa[CX,<- U]using k5,λk hk k' G e=>?_⟩;subst e;exact H k hk (by rw[U];simpa[CX]using G)
def zkn {q:K1} {gs:N4} {n:Int} (h:(Iu false v gs []).P vs I w q):(XJ<|.mk false o n x v gs (.bool true) []).P [] I w q:=by obtain⟨r,y,_,z,C⟩:=h;exact⟨by rw[z];simp[Hu],C,⟨r,y⟩,λh=>by cases h⟩
def zfm {y:R0} {q r:K1} {ks ps:N4} {n:Int} (h:(Iu true v ks []).P vs I w q) (k:(Iu false u ps []).P y I w r) (z:∀b∈q,b∉r):(XJ<|.mk true o n x v ks u ps).P [] I w<|q++r:=by obtain⟨C,D,_,G,H⟩:=h;obtain⟨L,M,_,N,R⟩:=k;refine⟨by rw[G,N];simp[Hu],D2.2 ⟨H,R,λa T b U e=>z a T<|e▸U⟩,⟨C,D⟩,λ_=>⟨L,M⟩⟩
def DS (id:Nat) (B:α->jz) (G:lk st id=some (some<|.hp A)) (T:∀vs I w H,A.P vs I w H->∃x,(B x).P vs I w H) (h:∀x,ek P n F Q todo env ((id,some<|.hp<|B x)::st) aa):ek P n F Q todo env st aa:=by
 refine EQ λI μ a w z=>?_;obtain⟨g,U,vs,H,rfl,V⟩:=z.SB id _ G;let⟨x,W⟩:=T vs I w H V;have y:∀i b,A2 ((id,some<|.hp<|B x)::st) i b->(i=id/\b=.hp (B x))\/(i≠id/\A2 st i b):=λi b G=>by
  rcases A7.1 G with⟨rfl,rfl⟩|h
  ·exact .inl ⟨rfl,rfl⟩
  ·exact .inr h
 have r:∀i b,A2 ((id,some<|.hp<|B x)::st) i b->∃C,A2 st i C:=λi b G=>by
  rcases y i b G with⟨rfl,_⟩|⟨_,h⟩
  ·exact⟨_,‹lk st i=_›⟩
  ·exact⟨_,h⟩
 refine⟨I,μ,env,_,aa,{ Kp:=z.Kp,SB:=λi b D=>?_,apart:=λi b g k D L c=>?_,inj:=λi j M e f l k m o=>?_,nodup:=z.nodup,PA:=z.PA },λt d p=>z.env t d p,?_,l4.refl _ _,h x⟩
 ·rcases y i b D with⟨rfl,rfl⟩|⟨_,h⟩
  ·exact⟨_,U,vs,H,rfl,W⟩
  ·exact z.SB i b h
 ·let⟨C,N⟩:=r i b D;exact z.apart i C g k N L c
 ·let⟨C,N⟩:=r i M m;let⟨s,R⟩:=r j e o;exact z.inj i j C s f l k N R
 ·exact { Kp:=TA.le_refl I,os:=rfl,tape:=rfl,output:=rfl,size:=B6 _,block:=λ_ _ _=>rfl,gz:=λ_ _ _=>rfl
          fresh:=λb _ ⟨i,M,g,R,u⟩=>let⟨C,q⟩:=r i M R;⟨i,C,g,q,u⟩ }
def Uu (es:L1<|G2) (C:∀c∈es,c.length=4) (y:es.length<=1000000):ed 229 [.Kp<|.sl es] []<|.ret (.hv 1 0) [(1,some<|.hp<|JY false es)]:=by cases es with|nil=>{refine Ae BC func229 O [1]<|Cb O<|FE BC O λb q=>?_;cases b with|true=>{exact Mp [.a] O<|Ho (x:=.sl []) 2 1 O O O<|DS 1 (λ_:Unit=>JY false []) O (λvs I w z h=>⟨(),O4 false h⟩) λ_=>Ah ⟨_,AB⟩}|false=>{exact Mp [.a] O<|Lx BC O<|Cb O<|Ho (x:=.sl []) 2 1 O O O<|DS 1 (λ_:Unit=>JY false []) O (λvs I w z h=>⟨(),O4 false h⟩) λ_=>Ah ⟨_,AB⟩}}|cons e r=>{refine Ae BC func229 O [2,1]<|Cb O<|FE BC O λb q=>?_;have q:b=false:=q (by simp);subst q;exact Mp [.a] O<|B1 BC O ⟨C,by simp only[maxLen,Cj]at *;omega,by simp only[Cj]at *;omega,λc D=>by simp at D,by simp⟩<|Cb O<|NI 2 2 1 O O<|DS 1 (λ_:Unit=>JY false<|e::r) O (λvs I w z h=>⟨(),aS (s:=false) (by simp) h⟩) λ_=>Ah ⟨_,AB⟩}
def fE (es:L1<|G2) (C:∀c∈es,c.length=5) (y:es.length<=1000000):ed 228 [.Kp<|.sl es] []<|.ret (.hv 1 0) [(1,some<|.hp<|JY true es)]:=by cases es with|nil=>{refine Ae BC func228 O [1]<|Cb O<|FE BC O λb q=>?_;cases b with|true=>{exact Mp [.a] O<|Ho (x:=.sl []) 2 1 O O O<|DS 1 (λ_:Unit=>JY true []) O (λvs I w z h=>⟨(),O4 true h⟩) λ_=>Ah ⟨_,AB⟩}|false=>{exact Mp [.a] O<|Lx BC O<|Cb O<|Ho (x:=.sl []) 2 1 O O O<|DS 1 (λ_:Unit=>JY true []) O (λvs I w z h=>⟨(),O4 true h⟩) λ_=>Ah ⟨_,AB⟩}}|cons e r=>{refine Ae BC func228 O [2,1]<|Cb O<|FE BC O λb q=>?_;have q:b=false:=q (by simp);subst q;exact Mp [.a] O<|B1 BC O ⟨C,by simp only[maxLen,Cj]at *;omega,by simp only[Cj]at *;omega,λc D=>by simp at D,by simp⟩<|Cb O<|NI 2 2 1 O O<|DS 1 (λ_:Unit=>JY true<|e::r) O (λvs I w z h=>⟨(),aS (s:=true) (by simp) h⟩) λ_=>Ah ⟨_,AB⟩}
def PS {r:K1} (h:(JY s es).P vs I w r):∃x:Option Addr×Nat,vs=[.slice x.1 es.length x.2]/\(Iu s (.slice x.1 es.length x.2) [] es).P [] I w r:=by obtain⟨v,rfl,h⟩:=h;obtain⟨a,q,rfl,_⟩:=UN h;rw[Cj,BU]at h ⊢;exact⟨(a,q),rfl,h⟩
mutual
def SX:Y->Prop
 |.mk _ _ _ ps=>ps.length<=1000000/\RA ps
def RA:L1 Y->Prop
 |[]=>True
 |p::r=>SX p/\RA r
end
def Vd:∀{l:E1} {t:Y},RA l->t∈l->SX t
 |[],_,_,h=>by simp at h
 |p::r,t,h,hm=>by rcases Cu.1 hm with rfl|hm;exact h.1;exact Vd h.2 hm
def cj:=@Value.slice.injEq
def Xw:∀t:Y,SX t->ed 230 [.Kp<|.agg<|As t] [] (.ret (.agg<|tH 1 false<|As t) [(1,some<|.hp<|XQ false<|As t)])
 |.mk f n x ps,m=>by obtain⟨U,V⟩:=m;refine Ae BC func230 O [2,3,4,5,1,6,7]<|Cb O<|Ao [4] [] [(1,4)] O (Uu (A3 ps) (λc g=>by rw[DC]at g;obtain⟨p,_,rfl⟩:=CC.1 g;simp)<|by simpa using U) ab O O<|pk [] O (by simp<;>rfl)<|HF (Kr:=[1,6,7]) 4 5 (λx:Option Addr×Nat=>[.slice x.1 (A3 ps).length x.2]) (λx=>Iu false (.slice x.1 (A3 ps).length x.2) []<|A3 ps) O (λvs I w H h=>PS h) λy=>?_;obtain⟨ad,q⟩:=y;refine BD O<|Ak (λy:Nat×N4=>[(12,i7 y.1),(11,i7<|(A3 ps).length),(10,.eR<|.slice ad (A3 ps).length q),(1,.ref 2 0),(2,.ref 3 0)]) (λy=>[(2,some<|.cells 182 4 [i7 f,i7 n,.Kp<|.str x,.eR<|.slice ad (A3 ps).length q]),(3,some<|.cells 182 4 [i7 0,i7 0,.Kp<|.str [],.NB]),(5,some<|.hp<|Iu false (.slice ad (A3 ps).length q) y.2<|A3<|ps.drop y.1)]) [1,6,7] (λy=>ps.length-y.1) (λy=>y.1<=ps.length/\y.2.length=y.1/\HK y.2=A3 (ps.take y.1)/\DY y.2) (0,[]) ⟨AK _,AL⟩ BA AB O λy o s=>?_;obtain⟨i,r⟩:=y;obtain⟨W,G,C,D⟩:=o;simp only at W G C D;subst G;refine BD O<|Aa O (λh=>?_) λh=>?_;simp at h;let⟨k,L⟩:=Aq h;have u:r.length<(A3 ps).length:=by{simpa using h};rw[Av L];refine DS 5 (λ_:{ b:Nat // ad=some ⟨b,0,none⟩ }=>Iu false (.slice ad (A3 ps).length q) r<|A3<|k::ps.drop (r.length+1)) O (λvs I w H h=>?_) λz=>?_;let⟨a,j,l,v⟩:=UN h;simp only[cj]at l;let⟨b,A⟩:=v (by simp only[A3,C1];omega);exact⟨⟨b,by rw[l.1,A]⟩,h⟩;obtain⟨b,rfl⟩:=z;obtain⟨M,N,R,T⟩:=k;refine BD O<|Eb BC O O (λ_=>⟨by simp,by simpa using h⟩) (by simp)<|Cb O<|C6 BC 5 ((As<|.mk M N R T).map .Kp) O O (λ_ vs I w H h=>by have:=Wi h;simpa[Gl,BG]using this) O O (by simp)<|Cb O<|Ao [6] [] [(1,6)] O (Xw (.mk M N R T)<|Vd V<|AE L) ab O O<|Cb O<|Eb BC O O (λ_=>⟨by simp,by simpa using h⟩) (by simp)<|Cb O<|Lw BC 5 6 7 (zmh false (.slice (some ⟨b,0,none⟩) (A3 ps).length q) r (As<|.mk M N R T)<|A3<|ps.drop<|r.length+1) O O O (by decide) (by{have e:0+((r.length:Int)).toNat*4=r.length*Gl false:=by{simp[Gl]};show IN _ _ _ 6 b (0+((r.length:Int)).toNat*4) _;rw[e];exact Sa}) ?_;refine pk [] O (by simp<;>rfl)<|DS 7 (λa:{ a:An // vA a=As (.mk M N R T)/\M6 a }=>Iu false (.slice (some ⟨b,0,none⟩) (A3 ps).length q) (r++[a.1])<|A3<|ps.drop<|r.length+1) O (λvs I w H h=>?_) λz=>?_;obtain⟨a,B,E⟩:=h;exact⟨⟨a,B⟩,E⟩;obtain⟨a,F,d⟩:=z;refine AV 5 7 O<|Ad (s (r.length+1,r++[a]) (by simp only;omega) ⟨by simp only;omega,by simp,?_,I1 D ⟨d,ab⟩⟩) ⟨B2<|Gi (by simp only;omega) (by simp only;omega),B9⟩ AB O;simp only;rw[Bm L,Ge,Po,C];simp[HK,A3,F];simp at h;have J:r.length=ps.length:=by{omega};rw[Bt<|by omega];refine Aw O<|BD O<|L0 5 3 1 [.slice ad (A3 ps).length q] (A:=XQ false<|As<|.mk f n x ps) (tH 1 false<|As<|.mk f n x ps) O O (λK I w H h=>?_) ⟨.inl O,.inl O,.inl O,.inr ⟨0,_,rfl,rfl,rfl⟩,ab⟩ ?_;refine⟨f,n,x,.slice ad (A3 ps).length q,r,.bool true,[],⟨?_,D,ab⟩,rfl,?_⟩;rw[Df<|by omega]at C;simp[vA,As,C];exact zkn h;exact Ah ⟨_,AB⟩
termination_by t=>SizeOf.sizeOf t
decreasing_by all_goals(have:=C8<|AE L;simp_wf;simp at this;omega)
mutual
def OK:Tm->Prop
 |.mk _ _ _ ks ps=>ks.length<=1000000/\ps.length<=1000000/\(∀p∈ps,SX p)/\Pm ks
def Pm:L1 Tm->Prop
 |[]=>True
 |k::r=>OK k/\Pm r
end
def Vc:∀{l:G1} {t:Tm},Pm l->t∈l->OK t
 |[],_,_,h=>by simp at h
 |p::r,t,h,hm=>by rcases Cu.1 hm with rfl|hm;exact h.1;exact Vc h.2 hm
def O2:∀t:Tm,OK t->ed 158 [.Kp<|.agg<|dTmc t] [] (.ret (.agg<|tH 1 true<|dTmc t) [(1,some<|.hp<|XQ true<|dTmc t)])
 |.mk o n x ks ps,hw=>by obtain⟨J,K,P,Q⟩:=hw;refine Ae BC func158 O [2,3,4,5,6,7,1,8,9,10]<|Cb O<|Ao [4] [] [(1,4)] O (fE (Ci ks) (λc f=>by rw[GQ]at f;obtain⟨p,_,rfl⟩:=CC.1 f;simp)<|by simpa using J) ab O O<|Cb O<|Ao [5] [] [(1,5)] O (Uu (A3 ps) (λc f=>by rw[DC]at f;obtain⟨p,_,rfl⟩:=CC.1 f;simp)<|by simpa using K) ab O O<|pk [] O (by simp<;>rfl)<|HF (Kr:=[7,1,8,9,10]) 4 6 (λx:Option Addr×Nat=>[.slice x.1 (Ci ks).length x.2]) (λx=>Iu true (.slice x.1 (Ci ks).length x.2) []<|Ci ks) O (λvs I w T h=>PS h) λy=>?_;obtain⟨ad,r⟩:=y;refine HF (Kr:=[1,8,9,10]) 5 7 (λx:Option Addr×Nat=>[.slice x.1 (A3 ps).length x.2]) (λx=>Iu false (.slice x.1 (A3 ps).length x.2) []<|A3 ps) O (λvs I w T h=>PS h) λy=>?_;obtain⟨C,q⟩:=y;refine BD O<|Ak (λy:Nat×N4=>[(18,i7 y.1),(17,i7<|(Ci ks).length),(16,.eR<|.slice ad (Ci ks).length r),(1,.ref 2 0),(2,.ref 3 0)]) (λy=>[(2,some<|.cells 49 5 [i7 o,i7 n,.Kp<|.str x,.eR<|.slice ad (Ci ks).length r,.eR<|.slice C (A3 ps).length q]),(3,some<|.cells 49 5 [i7 0,i7 0,.Kp<|.str [],.NB,.NB]),(6,some<|.hp<|Iu true (.slice ad (Ci ks).length r) y.2<|Ci<|ks.drop y.1),(7,some<|.hp<|Iu false (.slice C (A3 ps).length q) []<|A3 ps)]) [1,8,9,10] (λy=>ks.length-y.1) (λy=>y.1<=ks.length/\y.2.length=y.1/\HK y.2=Ci (ks.take y.1)/\DY y.2) (0,[]) ⟨AK _,AL⟩ BA B9 O λy S A=>?_;obtain⟨i,D⟩:=y;obtain⟨nr,g,H,V⟩:=S;simp only at nr g H V;subst g;refine BD O<|Aa O (λh=>?_) λh=>?_;simp at h;let⟨k,U⟩:=Aq h;rw[Av U];refine DS 6 (λ_:{ b:Nat // ad=some ⟨b,0,none⟩ }=>Iu true (.slice ad (Ci ks).length r) D<|Ci<|k::ks.drop (D.length+1)) O (λvs I w T h=>?_) λz=>?_;let⟨a,j,l,e2⟩:=UN h;simp only[cj]at l;let⟨b,m⟩:=e2 (by simp only[Ci,C1];omega);exact⟨⟨b,by rw[l.1,m]⟩,h⟩;obtain⟨b,rfl⟩:=z;obtain⟨B,L,M,E,N⟩:=k;refine BD O<|Eb BC O O (λ_=>⟨by simp,by simpa using h⟩) (by simp)<|Cb O<|C6 BC 6 ((dTmc<|.mk B L M E N).map .Kp) O O (λ_ vs I w T h=>by have:=Wi h;simpa[Gl,BG]using this) O O (by simp)<|Cb O<|Ao [8] [] [(1,8)] O (O2 (.mk B L M E N)<|Vc Q<|AE U) ab O O<|Cb O<|Eb BC O O (λ_=>⟨by simp,by simpa using h⟩) (by simp)<|Cb O<|Lw BC 6 8 9 (zmh true (.slice (some ⟨b,0,none⟩) (Ci ks).length r) D (dTmc<|.mk B L M E N)<|Ci<|ks.drop<|D.length+1) O O O (by decide) (by{have e:0+((D.length:Int)).toNat*5=D.length*Gl true:=by{simp[Gl]};show IN _ _ _ 8 b (0+((D.length:Int)).toNat*5) _;rw[e];exact Sa}) ?_;refine pk [] O (by simp<;>rfl)<|DS 9 (λa:{ a:An // vA a=dTmc (.mk B L M E N)/\M6 a }=>Iu true (.slice (some ⟨b,0,none⟩) (Ci ks).length r) (D++[a.1])<|Ci<|ks.drop<|D.length+1) O (λvs I w T h=>?_) λz=>?_;obtain⟨a,s,u⟩:=h;exact⟨⟨a,s⟩,u⟩;obtain⟨a,ha,W⟩:=z;refine AV 6 9 O<|Ad (A (D.length+1,D++[a]) (by simp only;omega) ⟨by simp only;omega,by simp,?_,I1 V ⟨W,ab⟩⟩) ⟨B2<|Gi (by simp only;omega) (by simp only;omega),B9⟩ B9 O;simp only;rw[Bm U,KC,Po,H];simp[HK,Ci,ha];simp at h;have hl:D.length=ks.length:=by{omega};rw[Bt<|by omega];rw[Df<|by omega]at H;clear A;refine Aw O<|BD O<|Ak (λy:Nat×N4=>[(33,i7 y.1),(32,i7<|(A3 ps).length),(31,.eR<|.slice C (A3 ps).length q),(1,.ref 2 0),(2,.ref 3 0)]) (λy=>[(2,some<|.cells 49 5 [i7 o,i7 n,.Kp<|.str x,.eR<|.slice ad (Ci ks).length r,.eR<|.slice C (A3 ps).length q]),(3,some<|.cells 49 5 [i7 0,i7 0,.Kp<|.str [],.NB,.NB]),(6,some<|.hp<|Iu true (.slice ad (Ci ks).length r) D []),(7,some<|.hp<|Iu false (.slice C (A3 ps).length q) y.2<|A3<|ps.drop y.1)]) [8,1,9,10] (λy=>ps.length-y.1) (λy=>y.1<=ps.length/\y.2.length=y.1/\HK y.2=A3 (ps.take y.1)/\DY y.2) (0,[]) ⟨AK _,AL⟩ BA B9 O λy S A=>?_;obtain⟨i,G⟩:=y;obtain⟨yz,v,R,d⟩:=S;simp only at yz v R d;subst v;refine BD O<|Aa O (λh=>?_) λh=>?_;simp at h;let⟨k,U⟩:=Aq h;rw[Av U];refine DS 7 (λ_:{ b:Nat // C=some ⟨b,0,none⟩ }=>Iu false (.slice C (A3 ps).length q) G<|A3<|k::ps.drop (G.length+1)) O (λvs I w T h=>?_) λz=>?_;let⟨a,j,l,e2⟩:=UN h;simp only[cj]at l;let⟨b,m⟩:=e2 (by simp only[A3,C1];omega);exact⟨⟨b,by rw[l.1,m]⟩,h⟩;obtain⟨b,rfl⟩:=z;obtain⟨F,L,M,N⟩:=k;refine BD O<|Eb BC O O (λ_=>⟨by simp,by simpa using h⟩) (by simp)<|Cb O<|C6 BC 7 ((As<|.mk F L M N).map .Kp) O O (λ_ vs I w T h=>by have:=Wi h;simpa[Gl,BG]using this) O O (by simp)<|Cb O<|Ao [1] [] [(1,1)] O (Xw (.mk F L M N)<|P _<|AE U) ab O O<|Cb O<|Eb BC O O (λ_=>⟨by simp,by simpa using h⟩) (by simp)<|Cb O<|Lw BC 7 1 9 (zmh false (.slice (some ⟨b,0,none⟩) (A3 ps).length q) G (As<|.mk F L M N)<|A3<|ps.drop<|G.length+1) O O O (by decide) (by{have e:0+((G.length:Int)).toNat*4=G.length*Gl false:=by{simp[Gl]};show IN _ _ _ 1 b (0+((G.length:Int)).toNat*4) _;rw[e];exact Sa}) ?_;refine pk [] O (by simp<;>rfl)<|DS 9 (λa:{ a:An // vA a=As (.mk F L M N)/\M6 a }=>Iu false (.slice (some ⟨b,0,none⟩) (A3 ps).length q) (G++[a.1])<|A3<|ps.drop<|G.length+1) O (λvs I w T h=>?_) λz=>?_;obtain⟨a,s,u⟩:=h;exact⟨⟨a,s⟩,u⟩;obtain⟨a,ha,W⟩:=z;refine AV 7 9 O<|Ad (A (G.length+1,G++[a]) (by simp only;omega) ⟨by simp only;omega,by simp,?_,I1 d ⟨W,ab⟩⟩) ⟨B2<|Gi (by simp only;omega) (by simp only;omega),B9⟩ B9 O;simp only;rw[Bm U,Ge,Po,R];simp[HK,A3,ha];simp at h;rw[Bt<|by omega];rw[Df<|by omega]at R;refine Aw O<|BD O<|xW (Kr:=[1,9,10]) 6 7 8 (λ_:Unit=>XJ<|.mk true o n x (.slice ad (Ci ks).length r) D (.slice C (A3 ps).length q) G) O O (by decide) (λvs us I w b1 b2 s u hd=>⟨(),b1++b2,λb m=>AT.1 m,?_⟩) λ_=>?_;let⟨q1,q2,q3⟩:=zfm (o:=o) (n:=n) (x:=x) s u hd;exact⟨q1,q2,q3⟩;refine L0 (Kr:=[9,10]) 8 3 1 [.slice ad (Ci ks).length r,.slice C (A3 ps).length q] (A:=XQ true<|dTmc<|.mk o n x ks ps) (tH 1 true<|dTmc<|.mk o n x ks ps) O O (λus I w T h=>?_) ⟨.inl O,.inl O,.inl O,.inr ⟨0,_,rfl,rfl,rfl⟩,.inr ⟨1,_,rfl,rfl,rfl⟩,ab⟩ ?_;exact⟨o,n,x,.slice ad (Ci ks).length r,D,.slice C (A3 ps).length q,G,⟨by simp[vA,dTmc,H,R],V,d⟩,rfl,h⟩;exact Ah ⟨_,AB⟩
termination_by t=>SizeOf.sizeOf t
decreasing_by all_goals(have:=C8<|AE U;simp_wf;simp at this;omega)
def lN:∀(vs z y:R0),y.length=vs.length->(∀v∈vs,v.oneCell'=true)->Instr.fill (λi=>some (i*1,1)) (z++y).toArray (vs.zipIdx z.length |>.map λp=>(p.2,p.1))=some (z++vs).toArray
 |[],z,y,h,_=>by have:y=[]:=Jb h;subst this;rfl
 |v::r,z,y,h,C=>by cases y with|nil=>simp at h|cons p q=>{have G:=J8<|C v (by simp);simp only[zfr,CK,Instr.fill,G];rw[ac<|by simp];have D:=lN r (z++[v]) q (by simpa using h) λu H=>C u (by simp[H]);simp only[Bo,C1,Cj,CV,DV,JJ]at D;rw[<- D];congr 1;simp[Nat.mul_one]}
def MY (env:Env):Nat->L1 (Nat×Operand)->Option (L1 D)
 |_,[]=>some []
 |i,(j,x)::r=>match Nat.beq i j,Fi env x,MY env (i+1) r with
  |true,some d,some ds=>match d.one with
   |true=>some (d::ds)
   |false=>none
  |_,_,_=>none
structure PBa where
 ds:List D
 dst:Option Nat
 todo:List DI
def T8 {a:Act}:∀{ps:c9} {i:Nat} {ds:R1},MY env i ps=some ds->(∀x∈ps.map (·.2),∀d,Fi env x=some d->X I μ (a.eval x) d)->ps.map (λp=>(p.1,a.eval p.2))=((ps.map λp=>a.eval p.2).zipIdx i).map (λp=>(p.2,p.1))/\TB I μ (ps.map λp=>a.eval p.2) ds/\∀v∈ps.map λp=>a.eval p.2,v.oneCell'=true
 |[],i,ds,h,_=>by simp only[MY,Co]at h;subst h;exact⟨rfl,⟨rfl,λi v d h=>by simp at h⟩,λv h=>by simp at h⟩
 |(j,x)::r,i,ds,h,G=>by simp only[MY]at h;split at h;rename_i d N z R T;split at h;rename_i q;cases h;have z:=Dm z;subst z;have H:=G x (by simp) d R;let⟨U,L,V⟩:=T8 (a:=a) T λy M=>G y (by simp at M ⊢;exact .inr M);refine⟨by simp[U],⟨by simp[L.1],λk v W q C=>?_⟩,λv w6=>?_⟩;cases k with|zero=>simp at q C;rw[<- q,<- C];exact H|succ k=>{exact L.2 k v W (by simpa using q)<|by simpa using C};simp only[CK,Cu]at w6;rcases w6 with rfl|w6;exact H.one q;exact V v w6;cases h;cases h
def yU:TT:=nW++[
 (130,⟨.sl 3,false,1,24,[.NB]⟩),
 (358,⟨.func,false,1,8,[.Kp .dn]⟩)]
def Kg:dv prog yU:=.of_eq (l:=[4,3,9,49,25,182,45,47,5,23,22,73,46,180,71,43,178,40,41,113,111,28,293,195,1,139,296,190,183,185,187,26,246,191,270,235,233,232,268,312,230,225,262,264,130,358]) (by kernel_rfl)
def qd (r:S0) (h:run yU n 300 r todo env st aa []=.at k q au Kr ob) (y:A8 ob) (z:cx n F Q k q au Kr):ia n F Q todo env st aa:=JS Kg mixed 300 r h y z
def cM (h:run yU n 300 [] todo env st aa []=.at k q au Kr ob) (y:cx n F Q k q au Kr) (r:A8 ob:=by simp):ia n F Q todo env st aa:=qd [] h r y
def qg (r:S0) (h:run yU n 300 r todo env st aa []=.at k q au Kr ob) (y:A8 ob) (z:cx n F Q k q au Kr):cx n F Q todo env st aa:=Jf Kg mixed 300 r h y z
def cL (h:run yU n 300 [] todo env st aa []=.at k q au Kr ob) (y:cx n F Q k q au Kr) (r:A8 ob:=by simp):cx n F Q todo env st aa:=qg [] h r y
def zjd (b:Nat) (t:TypeId) (ds:L1 D):jz where
 P:=λ_ I w bs=>bs=[b]/\∃vs,w.heap[b]?=some (.cells vs t (0,0))/\TB I kc vs.toList ds/\∀v∈vs.toList,v.oneCell'=true
 mono:=λh ⟨h1,vs,h2,h3,h4⟩=>⟨h1,vs,h2,h3.mono h<|Mu.le_refl _,h4⟩
 loc:=λh ⟨h1,vs,h2,h3⟩=>⟨h1,vs,(h b<|by simp[h1]).trans h2,h3⟩
mutual
def pD (id b:Nat):D->D
 |.ref i off=>bif Nat.beq i id then .eR (.pointer<|some ⟨b,off,none⟩)else .ref i off
 |.agg cs=>.agg (pC id b cs)
 |.cg cs=>.cg (pC id b cs)
 |d=>d
def pC (id b:Nat):L1 D->L1 D
 |[]=>[]
 |d::r=>pD id b d::pC id b r
end
def zZ (id b:Nat):Env->Env
 |[]=>[]
 |(t,d)::r=>(t,pD id b d)::zZ id b r
def zn8 (id b:Nat):fp->fp
 |.cells t sz cs=>.cells t sz (pC id b cs)
 |x=>x
def VL (id b:Nat):St->St
 |[]=>[]
 |(i,some x)::r=>(i,some<|zn8 id b x)::VL id b r
 |(i,none)::r=>(i,none)::VL id b r
def LP (id b:Nat):∀l:R1,pC id b l=l.map (pD id b)
 |[]=>rfl
 |d::r=>by simp[pC,LP id b r]
def X.zc {id:Nat} (z:μ id=some (.pointer<|some ⟨b,0,none⟩)) (h:X I μ v d):X I μ v<|pD id b d:=by have M:∀{l:R1} {i:Nat} {x:D},(pC id b l)[i]?=some x->∃y,l[i]?=some y/\x=pD id b y:=by{intro l i x C;rw[LP,Cx]at C;cases G:l[i]? with|none=>rw[G]at C;cases C|some y=>{rw[G]at C;cases C;exact⟨y,rfl,rfl⟩}};induction h with|ref H i off h=>{simp only[pD];cases e:Nat.beq i id with|false=>exact .ref H i off h|true=>{rw[Dm e,z]at h;cases h;exact .eR _ O}}|agg cs ds G N _ V=>refine .agg cs _ (by rw[LP,CD,G]) N λi c x R C=>?_;obtain⟨y,W,rfl⟩:=M C;exact V i c y R W|cg cs ds G _ V=>refine .cg cs _ (by rw[LP,CD,G]) λi c x R C=>?_;obtain⟨y,W,rfl⟩:=M C;exact V i c y R W|undef v=>exact .undef v|Kp v x C=>exact .Kp v x C|NB=>exact .NB|own i q a r z=>exact .own i q a r z|ip b o t cs off vs L T=>exact .ip b o t cs off vs L T|ky b i q r k sz f z=>exact .ky b i q r k sz f z|cf i b z=>exact .cf i b z|iter i b z=>exact .iter i b z|fn f first r g j m R N n _ _=>{exact .fn f first r g j m R N n}|iface t v d h _=>exact .iface t v d h|guard c U v d h p _=>exact .guard c U v d h p|gt a q es s=>exact .gt a q es s|ml b i off q r z G C=>exact .ml b i off q r z G C|jv b i z=>exact .jv b i z|eR v h=>exact .eR v h|hv v i k u cs h w N=>{exact .hv v i k u cs h w N}
def vK {id b:Nat}:∀{env:Env} {t:Nat} {d:D},lk (zZ id b env) t=some d->∃d0,lk env t=some d0/\d=pD id b d0
 |[],t,d,h=>by simp[zZ,lk]at h
 |(s,x)::r,t,d,h=>by simp only[zZ]at h;by_cases q:s=t;subst q;rw[A6]at h ⊢;cases h;exact⟨x,rfl,rfl⟩;rw[AC _ _ q]at h ⊢;exact vK h
def RP {id b i:Nat} {x:fp}:∀{st:St},A2 (VL id b st) i x->∃q,A2 st i q/\x=zn8 id b q
 |[],h=>by simp[VL,A2,lk]at h
 |(k,some y)::r,h=>by simp only[VL]at h;rcases A7.1 h with⟨z,C⟩|⟨z,C⟩;exact⟨y,by unfold A2;rw[z,A6],C⟩;let⟨q,D,G⟩:=RP C;exact⟨q,A7.2<|.inr ⟨z,D⟩,G⟩
 |(k,none)::r,h=>by simp only[VL]at h;let⟨z,C⟩:=BX.1 h;let⟨q,D,G⟩:=RP C;exact⟨q,BX.2 ⟨z,D⟩,G⟩
def Sk {id b i:Nat} {x:fp}:∀{st:St},A2 st i x->A2 (VL id b st) i (zn8 id b x)
 |[],h=>by simp[A2,lk]at h
 |(k,some y)::r,h=>by simp only[VL];rcases A7.1 h with⟨q,z⟩|⟨q,z⟩;exact A7.2<|.inl ⟨q,by rw[z]⟩;exact A7.2 (.inr ⟨q,Sk z⟩)
 |(k,none)::r,h=>by simp only[VL];let⟨q,z⟩:=BX.1 h;exact BX.2 ⟨q,Sk z⟩
def eK (id j:Nat) {t:TypeId} (e:lk st id=some (some<|.cells t sz ds)) (U:FO ds=[]) (h:∀b,ek P n F Q todo (zZ id b env) ((j,some<|.hp<|zjd b t ds)::(id,none)::VL id b st) Kr):ek P n F Q todo env st<|j::Kr:=by
 refine EQ λI μ a w R=>?_;obtain⟨g,V,f,b,W,rfl,r,D,G⟩:=R.SB id _ e;let⟨s,u⟩:=R.toNo.ke (a7:=VL id b st) (λi x c=>by
  obtain⟨k,T,rfl⟩:=RP c;refine⟨k,T,λgb L=>?_⟩;cases k with
  |cells t sz cs=>
   obtain⟨f,H,W,A,B,l,E⟩:=L;exact⟨by rw[LP,CD,f],H,W,A,B,⟨by rw[LP,CD,l.1],λi v y J M=>by
    rw[LP,Cx]at M;cases C:cs[i]? with
    |none=>rw[C]at M;cases M
    |some z=>rw[C]at M;cases M;exact(l.2 i v z J C).zc V⟩,E⟩
  |_=>exact L)
 let⟨T,K,S⟩:=No.jq (R:=[id]) (new:=[(j,XT [] [b],.hp<|zjd b t ds)]) (Kr:=Kr) s
  (λp N H L=>by
   rw[AJ.1 N]at L;have:=BB.1 L;rw[AJ.1 this];exact⟨id,_,_,by simp,Sk e,V,rfl⟩)
  (λp N q hq b _ _=>by rw[AJ.1 N,AJ.1 hq]) (TA.le_refl I) R.Kp (λb o h=>.inl h)
  (λ_ p N=>by rw[AJ.1 N];exact⟨[],[b],rfl,rfl,W,r,D.sub (λj m=>by rw[U]at m;cases m),G⟩)
 refine⟨I,_,zZ id b env,_,Kr,K,λt d hd=>?_,u.trans S,.of_le T,h b⟩;obtain⟨d0,h0,rfl⟩:=vK hd;exact((R.env t d0 h0).zc V).mono (TA.le_refl I) T
abbrev HN:=L1 (Bool×Nat)
def Eg:An->Bool×Nat->Option (An×Nat×Nat)
 |.mk s _ _ _ v ks u ps,(r,k)=>match r with
  |false=>(ks[k]?).map λc=>(c,BG v,k*Gl s)
  |true=>match s with
   |true=>(ps[k]?).map λc=>(c,BG u,k*Gl false)
   |false=>none
 |.im _ _ _,_=>none
def D3 (a:An) (b off:Nat):HN->Option (An×Nat×Nat)
 |[]=>some (a,b,off)
 |p::r=>match Eg a p with
  |some (c,H,h)=>D3 c H h r
  |none=>none
def OA:An->Bool×Nat->An->An
 |.mk s o n x v ks u ps,(r,k),c=>match r with
  |false=>.mk s o n x v (ks.set k c) u ps
  |true=>.mk s o n x v ks u (ps.set k c)
 |.im s cs h,_,_=>.im s cs h
def I9 (a:An):HN->An->An
 |[],h=>h
 |p::r,h=>match Eg a p with
  |some (c,_,_)=>OA a p (I9 c r h)
  |none=>a
structure un (w w':World) (b off sz:Nat):Prop where
 other:∀k,k≠b->w'.heap[k]?=w.heap[k]?
 same:∀bl ty k,w.heap[b]?=some (.cells bl ty k)->∃uo,w'.heap[b]?=some (.cells uo ty k)/\uo.size=bl.size/\∀i,(i<off\/off+sz<=i)->uo[i]?=bl[i]?
def un.row (h:un w w' b off sz) {z:TypeId} {s:Nat} {len:Nat} (C:U0 w z s v len):U0 w' z s v len:=by rcases C with C|⟨D,H,q,r,rfl,G,L,M,N⟩;exact .inl C;by_cases e:H=b;subst e;let⟨y,R,T,_⟩:=h.same r z (0,0) G;exact .inr ⟨D,H,q,y,rfl,R,L,M,by rw[T,N]⟩;exact .inr ⟨D,H,q,r,rfl,(h.other H e).trans G,L,M,N⟩
def un.at (h:un w w' b off sz) {r q:Nat} (L:XA w r q cs) (M:r=b->q+cs.length<=off\/off+sz<=q):XA w' r q cs:=by obtain⟨y,C,k,D,G⟩:=L;by_cases e:r=b;subst e;let⟨z,N,U,R⟩:=h.same y C k D;refine⟨z,C,k,N,λj c H=>?_⟩;have T:=(A9.1 H).1;rw[R (q+j) (by rcases M rfl with h|h<;>omega)];exact G j c H;exact⟨y,C,k,(h.other r e).trans D,G⟩
def Vo {bl:Array Value} {y:TypeId} {k:Nat×Nat} {pl:Nat} (h:w.heap[b]?=some (.cells bl y k)) (z:off+cs.length<=bl.size) (H:pl<=off/\off+cs.length<=pl+sz):un w (w.setRow b (bl.toList.take off++cs++bl.toList.drop (off+cs.length)).toArray) b pl sz:=by refine⟨λk C=>ay w b k _ C,λq D L r=>?_⟩;rw[h]at r;cases r;refine⟨_,Jy h,?_,λi hi=>?_⟩;have G:bl.toList.length=bl.size:=QJ;show(bl.toList.take off++cs++bl.toList.drop (off+cs.length)).length=bl.size;rw[Bo,Bo,HR,JI];omega;have:=LJ (bl:=bl.toList) (off:=off) (cs:=cs) (by simpa using z) i;rcases hi with hi|hi;rw[ae<|by omega]at this;simpa using this;rw[ac<|by omega,ac<|by omega]at this;simpa using this
def WC {a c:An} (h:Eg a p=some (c,b,off)):b∈Hu a/\(∀k∈Hu c,k∈Hu a)/\((Hu a).Nodup->(Hu c).Nodup/\b∉Hu c):=by rcases a with⟨s,o,n,x,v,ks,u,ps⟩|⟨U,R,V⟩;(case im=>simp[Eg]at h);obtain⟨r,k⟩:=p;have q:∀{l:N4} {i:Nat} {c:An},l[i]?=some c->∀k∈Hu c,k∈CX l:=by{intro l;induction l with|nil=>intro i c h;simp at h|cons y r H=>{intro i c h k D;simp only[CX,AT];cases i with|zero=>simp at h;subst h;exact .inl D|succ i=>{exact .inr<|H (by simpa using h) k D}}};have nd:∀{l:N4} {i:Nat} {c:An},l[i]?=some c->(CX l).Nodup->(Hu c).Nodup:=by{intro l;induction l with|nil=>intro i c h;simp at h|cons y r H=>{intro i c h z;simp only[CX]at z;have z:=D2.1 z;cases i with|zero=>simp at h;subst h;exact z.1|succ i=>{exact H (by simpa using h) z.2.1}}};have N:∀{l:N4} {v:Value} {i:Nat} {c:An},l[i]?=some c->CI v l.length=[BG v]:=by{intro l v i c h;cases l with|nil=>simp at h|cons=>{rfl}};cases r with|false=>simp only[Eg,E9,AP]at h;obtain⟨T,C,rfl,rfl,rfl⟩:=h;simp only[Hu,N C];refine⟨by simp,λk D=>by simp[q C k D],λz=>?_⟩;have L:=(D2.1 z).1;have G:=D2.1 L;exact⟨nd C G.2.1,λM=>G.2.2 _ (by simp) _ (q C _ M) O⟩|true=>{cases s with|false=>simp[Eg]at h|true=>{simp only[Eg,E9,AP]at h;obtain⟨T,C,rfl,rfl,rfl⟩:=h;simp only[Hu,N C];refine⟨by simp,λk D=>by simp[q C k D],λz=>?_⟩;have L:=(D2.1 z).2.1;have G:=D2.1 L;exact⟨nd C G.2.1,λM=>G.2.2 _ (by simp) _ (q C _ M) O⟩}}
def dO {a c:An} (h:Eg a p=some (c,b,off)) (y:KT I w a):XA w b off (cA c)/\KT I w c:=by rcases a with⟨s,o,n,x,v,ks,u,ps⟩|⟨H,D,L⟩;(case im=>simp[Eg]at h);obtain⟨r,k⟩:=p;simp only[KT]at y;cases r with|false=>simp only[Eg,E9,AP]at h;obtain⟨G,z,rfl,rfl,rfl⟩:=h;let⟨_,q,C⟩:=FA y.1.2 z;rw[BU]at q;exact⟨q,C⟩|true=>{cases s with|false=>simp[Eg]at h|true=>{simp only[Eg,E9,AP]at h;obtain⟨G,z,rfl,rfl,rfl⟩:=h;let⟨_,q,C⟩:=FA (y.2 rfl).2 z;rw[BU]at q;exact⟨q,C⟩}}
def dH {I:TA} {w:World}:∀{p:HN} {a:An} {b off:Nat} {a':An} {H y:Nat},D3 a b off p=some (a',H,y)->XA w b off (cA a)->KT I w a->XA w H y (cA a')/\KT I w a'
 |[],a,b,off,a',H,y,h,C,z=>by simp only[D3,Co,AP]at h;obtain⟨rfl,rfl,rfl⟩:=h;exact⟨C,z⟩
 |q::r,a,b,off,a',H,y,h,C,z=>by simp only[D3]at h;split at h;rename_i c N D G;let⟨L,M⟩:=dO G z;exact dH h L M;cases h
def Nq:∀{p:HN} {a:An} {b off:Nat} {a':An} {H y:Nat},D3 a b off p=some (a',H,y)->(p=[]/\H=b/\y=off/\a'=a)\/(p≠[]/\H∈Hu a)
 |[],a,b,off,a',H,y,h=>by simp only[D3,Co,AP]at h;obtain⟨rfl,rfl,rfl⟩:=h;exact .inl ⟨rfl,rfl,rfl,rfl⟩
 |q::r,a,b,off,a',H,y,h=>by simp only[D3]at h;split at h;rename_i c L z C;let⟨D,G,_⟩:=WC C;refine .inr ⟨by simp,?_⟩;rcases Nq h with⟨_,rfl,_⟩|⟨_,h⟩;exact D;exact G _ h;cases h
def zl4 (a c:An) (p:Bool×Nat):cA (OA a p c)=cA a:=by rcases a with⟨s,o,n,x,v,ks,u,ps⟩|⟨q,h,y⟩;(case im=>rfl);obtain⟨r,k⟩:=p;cases r<;>cases s<;>rfl
def XB {I:TA} {w w':World} {s:Bool} {b H L sz:Nat} (N:un w w' H L sz) {c T:An}:∀{l:N4} {i k:Nat},Eh I w s b i l->l[k]?=some c->CT T=s->XA w' b ((i+k)*Gl s) (cA T)->KT I w' T->(∀x∈CX l,x=H->x∈Hu c)->(CX l).Nodup->(H=b->L=(i+k)*Gl s/\sz=Gl s)->Eh I w' s b i (l.set k T)
 |[],i,k,_,h,_,_,_,_,_,_=>by simp at h
 |y::r,i,0,C,h,W,o,a,M,R,U=>by simp at h;subst h;simp only[Eh]at C;simp only[Sf,Eh];simp only[CX]at M R;have D:=D2.1 R;refine⟨⟨W,o,a⟩,?_⟩;have d:∀x∈CX r,x≠H:=λx G e=>by{subst e;exact D.2.2 x (M x (Il _ G) O) x G O};have:∀{l:N4} {j:Nat},i+1<=j->(∀x∈CX l,x≠H)->Eh I w s b j l->Eh I w' s b j l:=by{intro l;induction l with|nil=>intro j _ _ _;simp[Eh]|cons z q f=>{intro j u g C;simp only[Eh]at C ⊢;simp only[CX,AT]at g;refine⟨⟨C.1.1,N.at C.1.2.1 λe=>?_,KF (λk V=>N.other k<|g k<|.inl V) C.1.2.2⟩,f (by omega) (λx G=>g x<|.inr G) C.2⟩;let⟨m,p⟩:=U e.symm;right;rw[m,p,Jd,<- Kx];exact IW _ u}};exact this (B6 _) d C.2
 |y::r,i,k+1,C,h,W,o,a,M,R,U=>by simp only[Eh]at C;simp only[PC,Eh];simp only[CX]at M R;have D:=D2.1 R;have t:r[k]?=some c:=by{simpa using h};have n:∀x∈Hu c,x∈CX r:=by{have:∀{l:N4} {i:Nat},l[i]?=some c->∀k∈Hu c,k∈CX l:=by{intro l;induction l with|nil=>intro i h;simp at h|cons y r f=>{intro i h k V;simp only[CX,AT];cases i with|zero=>simp at h;subst h;exact .inl V|succ i=>{exact .inr<|f (by simpa using h) k V}}};exact this t};refine⟨⟨C.1.1,N.at C.1.2.1 λe=>?_,KF (λx G=>N.other x λe=>?_) C.1.2.2⟩,XB N C.2 t W (by rwa [show i+1+k=i+(k+1) by omega]) a (λx G e=>M x (Il _ G) e) D.2.1 (λe=>by rw[show i+1+k=i+(k+1) by omega];exact U e)⟩;let⟨m,p⟩:=U e.symm;left;rw[m,SO C.1.2.2,C.1.1,<- Kx];exact IW _ (by omega);subst e;exact D.2.2 x G x (n x<|M x (Im _ G) O) O
def Vn {I:TA} {w w':World}:∀{p:HN} {a:An} {b off:Nat} {a':An} {H z:Nat} {a2:An},D3 a b off p=some (a',H,z)->un w w' H z (Gl<|CT a')->CT a2=CT a'->XA w' H z (cA a2)->KT I w' a2->XA w b off (cA a)->KT I w a->b∉Hu a->(Hu a).Nodup->XA w' b off (cA<|I9 a p a2)/\KT I w' (I9 a p a2)/\CT (I9 a p a2)=CT a
 |[],a,b,off,a',H,z,a2,h,L,B,P,Q,_,_,_,_=>by simp only[D3,Co,AP]at h;obtain⟨rfl,rfl,rfl⟩:=h;exact⟨P,Q,B⟩
 |q::r,a,b,off,a',H,z,a2,h,L,B,P,Q,h3,f,hb,g=>by have E:=Nq h;simp only[D3]at h;simp only[I9];split at h;{rename_i c b1 F G;let⟨k1,k2,k3⟩:=WC G;let⟨k4,k5⟩:=k3 g;let⟨k6,k7⟩:=dO G f;let⟨i1,i2,i3⟩:=Vn h L B P Q k6 k7 k5 k4;have S:H∈Hu a:=by{rcases E with⟨h,_⟩|⟨_,h⟩;cases h;exact h};have N:b≠H:=λe=>hb<|e▸S;rw[zl4];refine⟨L.at h3 λe=>absurd e N,?_,?_⟩;{rcases a with⟨s,o,n,x,v,ks,u,ps⟩|⟨s0,cs0,c0⟩;(case im=>simp[Eg]at G);obtain⟨rr,k⟩:=q;have j:H=b1\/H∈Hu c:=by{rcases Nq h with⟨_,e,_⟩|⟨_,h⟩;exact .inl e;exact .inr h};have A:H=b1->z=F/\a'=c:=λe=>by{rcases Nq h with⟨_,_,J,M⟩|⟨_,h⟩;exact⟨J,M⟩;exact absurd (e▸h) k5};simp only[KT]at f;simp only[Hu]at g;cases rr with|false=>{simp only[Eg,E9,AP]at G;obtain⟨m,t,rfl,rfl,rfl⟩:=G;simp only[OA,KT,IV];have R:=D2.1 g;have T:=D2.1 R.1;have U:CI v ks.length=[BG v]:=by{cases ks with|nil=>simp at t|cons=>rfl};have C:CT m=s:=(FA f.1.2 t).1;have V:∀x∈Hu m,x∈CX ks:=λx D=>by{have:∀{l:N4} {i:Nat},l[i]?=some m->∀k∈Hu m,k∈CX l:=by{intro l;induction l with|nil=>intro i h;simp at h|cons y r ih=>{intro i h k G;simp only[CX,AT];cases i with|zero=>simp at h;subst h;exact .inl G|succ i=>{exact .inr<|ih (by simpa using h) k G}}};exact this t x D};have W:BG v∉CX ks:=λh=>T.2.2 _ (by rw[U];simp) _ h O;refine⟨⟨L.row f.1.1,?_⟩,λB=>?_⟩;refine XB L f.1.2 t (i3.trans C) (by rw[BU];exact i1) i2 (λx D e=>?_) T.2.1 λe=>?_;rcases j with M|h;exact absurd (by rw[<- M,<- e];exact D) W;rw[e];exact h;rw[BU];let⟨J,M⟩:=A e;exact⟨J,by rw[M,C]⟩;subst B;let⟨m1,K⟩:=f.2 rfl;have d:∀x∈CI u ps.length++CX ps,x≠H:=λx D e=>by{subst e;refine R.2.2 x ?_ x D O;rcases j with M|h;rw[M,U];simp;simp[V _ h]};refine⟨L.row m1,LA (λN=>L.other _ λe=>?_) (λx D=>L.other x λe=>d x (by simp[D]) e) K⟩;exact d _ (by cases ps with|nil=>exact absurd rfl N|cons=>simp[CI]) e}|true=>{cases s with|false=>simp[Eg]at G|true=>{simp only[Eg,E9,AP]at G;obtain⟨m,t,rfl,rfl,rfl⟩:=G;simp only[OA,KT,IV];have R:=D2.1 g;have T:=D2.1 R.2.1;have U:CI u ps.length=[BG u]:=by{cases ps with|nil=>simp at t|cons=>rfl};let⟨m1,K⟩:=f.2 rfl;have C:CT m=false:=(FA K t).1;have V:∀x∈Hu m,x∈CX ps:=λx D=>by{have:∀{l:N4} {i:Nat},l[i]?=some m->∀k∈Hu m,k∈CX l:=by{intro l;induction l with|nil=>intro i h;simp at h|cons y r ih=>{intro i h k G;simp only[CX,AT];cases i with|zero=>simp at h;subst h;exact .inl G|succ i=>{exact .inr<|ih (by simpa using h) k G}}};exact this t x D};have W:BG u∉CX ps:=λh=>T.2.2 _ (by rw[U];simp) _ h O;have d:∀x∈CI v ks.length++CX ks,x≠H:=λx D e=>by{subst e;refine R.2.2 x D x ?_ O;rcases j with M|h;rw[M,U];simp;simp[V _ h]};refine⟨⟨L.row f.1.1,LA (λN=>L.other _ λe=>d _ (by cases ks with|nil=>exact absurd rfl N|cons=>simp[CI]) e) (λx D=>L.other x λe=>d x (by simp[D]) e) f.1.2⟩,λ_=>⟨L.row m1,?_⟩⟩;refine XB L K t (i3.trans C) (by rw[BU];exact i1) i2 (λx D e=>?_) T.2.1 λe=>?_;rcases j with M|h;exact absurd (by rw[<- M,<- e];exact D) W;rw[e];exact h;rw[BU];let⟨J,M⟩:=A e;exact⟨J,by rw[M,C]⟩}}};{rcases a with⟨s,o,n,x,v,ks,u,ps⟩|⟨s0,cs0,c0⟩;(case im=>rfl);obtain⟨rr,k⟩:=q;cases rr<;>rfl}};cases h
def znj (l:L1 Int):L1<|L1 V:=l.map λx=>[.int .i64 x]
@[simp] theorem qn (l:L1 Int):(znj l).length=l.length:=by simp[znj]
def Y1:Tm:=.mk 0 0 [] [] []
def kidT:Tm->Int->Option Tm
 |.mk _ _ _ ks _,k=>if 0<=k then ks[k.toNat]? else none
def zgb:Tm->L1 Int->Option Tm
 |t,[]=>some t
 |t,k::r=>match kidT t k with
  |some c=>zgb c r
  |none=>none
mutual
def fK:∀p:Y,Bn p<=1000000->SX p
 |.mk s n x ps,h=>by simp only[Bn]at h;have q:=Y3 ps (by omega);exact⟨by have:=q.1;omega,q.2⟩
def Y3:∀l:E1,A5 l<=1000000->l.length<=A5 l/\RA l
 |[],_=>⟨by simp[A5],ab⟩
 |p::r,h=>by simp only[A5]at h;have y:=fK p (by omega);have q:=Y3 r (by omega);have z:1<=Bn p:=by{obtain⟨_,_,_,_⟩:=p;simp only[Bn];omega};exact⟨by have:=q.1;simp only[C1,A5];omega,y,q.2⟩
end
def Zv {op n:Int} {k p:Nat} (h:Bl op n x k p=true):p<=5:=by have q:∀{n:Int} {x:Z} {p:Nat} {a b:Bool},Bs n x p a b false=true->p<=5:=by{intro n x p a b h;simp only[Bs,Wt,Am,an]at h;have:=h.2;omega};unfold Bl at h;by_cases r:op=15;subst r;simp[EK]at h;omega;{by_cases C:op=1;{rw[ae C]at h;simp only[Am]at h;first|exact q h.2|exact q h.1.2};rw[ac C]at h;by_cases D:op=2;{rw[ae D]at h;simp only[Am]at h;first|exact q h.2|exact q h.1.2};rw[ac D]at h;by_cases G:op=3\/op=21\/op=25\/op=28;{rw[ae G]at h;simp only[Am]at h;first|exact q h.2|exact q h.1.2};rw[ac G]at h;by_cases H:op=4;{rw[ae H]at h;simp only[Am]at h;first|exact q h.2|exact q h.1.2};rw[ac H]at h;by_cases L:op=5\/op=27;{rw[ae L]at h;simp only[Am]at h;first|exact q h.2|exact q h.1.2};rw[ac L]at h;by_cases M:op=7;{rw[ae M]at h;simp only[Am]at h;first|exact q h.2|exact q h.1.2};rw[ac M]at h;by_cases N:op=8;{rw[ae N]at h;simp only[Am]at h;first|exact q h.2|exact q h.1.2};rw[ac N]at h;by_cases R:op=14;{rw[ae R]at h;simp only[Am]at h;first|exact q h.2|exact q h.1.2};rw[ac R]at h;rw[ac r]at h;by_cases T:op=16\/op=17\/op=19\/op=20\/op=23\/op=26;{rw[ae T]at h;simp only[Am]at h;first|exact q h.2|exact q h.1.2};rw[ac T]at h;by_cases y:op=24;{rw[ae y]at h;simp only[Am]at h;first|exact q h.2|exact q h.1.2};rw[ac y]at h;by_cases z:op=6\/op=9\/op=10\/op=11\/op=12\/op=13\/op=18\/op=22;{rw[ae z]at h;simp only[Am]at h;first|exact q h.2|exact q h.1.2};rw[ac z]at h;cases h}
mutual
def bE:∀t:Tm,Ax t=true->DK t<=1000000->OK t
 |.mk D n x ks ps,h,r=>by simp only[Ax,Am]at h;obtain⟨⟨y,z⟩,C⟩:=h;simp only[DK]at r;have G:=dK ks;have q:=Zv y;refine⟨by omega,by omega,λp q=>?_,fJ ks C<|by omega⟩;have:=Zo<|Du.1 z p q;exact fK p (by omega)
def fJ:∀ts:G1,Bb ts=true->Ff ts<=1000000->Pm ts
 |[],_,_=>trivial
 |t::r,h,q=>by simp only[Bb,Am]at h;simp only[Ff]at q;exact⟨bE t h.1<|by omega,fJ r h.2<|by omega⟩
end
def nR (h:Cy t=true):OK t:=by let⟨_,_,_,q⟩:=Hg t h;simp only[Cy,Am]at h;exact bE t h.2 (by omega)
mutual
def MB:Y->Y->Bool
 |.mk s n x ps,.mk q r y h=>s==q&&n==r&&x==y&&HE ps h
def HE:L1 Y->L1 Y->Bool
 |[],[]=>true
 |a::r,b::q=>MB a b&&HE r q
 |_,_=>false
end
mutual
def Rg:∀a b:Y,MB a b=true↔a=b
 |.mk s n x ps,.mk q r y h=>by simp only[MB,Am,an,Y.mk.injEq,SI ps h,ep]
def SI:∀a b:E1,HE a b=true↔a=b
 |[],[]=>by simp[HE]
 |a::r,b::q=>by simp only[HE,Am,Rg a b,SI r q,Cr]
 |[],_::_=>by simp[HE]
 |_::_,[]=>by simp[HE]
end
def aH {a b:E1} (h:a.length≠b.length):HE a b=false:=by cases q:HE a b with|false=>rfl|true=>{exact absurd (af List.length<|(SI a b).1 q) h}
def SL {q:K1} {n:Int} (h:(XQ true<|dTmc<|.mk o n x ks ps).P vs I w q):∃y:{ y:Value×N4×Value×N4 // (HK y.2.1=Ci ks/\HK y.2.2.2=A3 ps)/\DY y.2.1/\DY y.2.2.2 },vs=[y.1.1,y.1.2.2.1]/\(XJ<|.mk true o n x y.1.1 y.1.2.1 y.1.2.2.1 y.1.2.2.2).P [] I w q:=by obtain⟨N,R,T,v,z,u,C,⟨r,D⟩,G,H⟩:=h;simp only[vA,dTmc,Cr,V.int.injEq,V.str.injEq,V.sl.injEq,ax,be]at r;obtain⟨rfl,rfl,rfl,L,M⟩:=r;exact⟨⟨(v,z,u,C),⟨L,M⟩,D⟩,G,H⟩
def uU {n:Int} {r y:N4} (D:HK r=Ci ks) (G:HK y=A3 ps) {C:K1} (h:(XJ<|.mk true o n x v r u y).P vs I w C) (z:I.le J) (H:∀b∈C,J b=w.heap[b]?) (cs:R0) (q:TB J kc cs [i7 o,i7 n,.Kp<|.str x,.eR v,.eR u]):Ts J cs<|dTmc<|.mk o n x ks ps:=by obtain⟨L,_,M⟩:=h;have N:=ST z M λk R=>H k (by rw[L];exact R);have e:cs=cA (.mk true o n x v r u y):=by{have T:=q.1;match cs,T with|[d,f,g,i,j],_=>{have U:=(q.2 0 _ _ O O).Ks.da;have V:=(q.2 1 _ _ O O).Ks.da;have W:=(q.2 2 _ _ O O).Ks.n0;have a:=(q.2 3 _ _ O O).hM;have c:=(q.2 4 _ _ O O).hM;rw[U,V,W,a,c];rfl}};rw[e];simpa[vA,dTmc,D,G]using N
def atR (t:Tm) (h:L1 Int):Tm×Int:=bif Cy t then(match zgb t h with|some r=>(r,0)|none=>(Y1,2))else(Y1,2)
def zh5 (l:G1) (i:Nat) (t:Tm):Ci (l.set i t)=(Ci l).set i (dTmc t):=by simp[GQ,IU]
def JW (b:Nat) (a:An):jz where
 P:=λ_ I w bs=>bs=b::Hu a/\bs.Nodup/\CT a=true/\(∃bl,w.heap[b]?=some (.cells bl 49 (0,0))/\bl.size=5)/\XA w b 0 (cA a)/\KT I w a
 mono:=λh ⟨h1,h2,h3,h4,h5,h6⟩=>⟨h1,h2,h3,h4,h5,XC h h6⟩
 loc:=λh ⟨h1,h2,h3,⟨bl,h4,h5⟩,h6,h7⟩=>⟨h1,h2,h3,⟨bl,(h b<|by simp[h1]).trans h4,h5⟩,UW (h b<|by simp[h1]) h6,KF (λk hk=>h k<|by simp[h1,hk]) h7⟩
def bH {l:N4} {a:An} (h:l[i]?=some a):(HK l)[i]?=some (vA a):=by simp[IQ,h]
def Q9:∀{l:G1} {i:Nat} {c:Tm},Bb l=true->Ax c=true->Bb (l.set i c)=true
 |[],i,c,h,_=>h
 |t::r,0,c,h,q=>by simp only[Bb,Am,Sf]at h ⊢;exact⟨q,h.2⟩
 |t::r,i+1,c,h,q=>by simp only[Bb,Am,PC]at h ⊢;exact⟨h.1,Q9 h.2 q⟩
mutual
def Wd:∀t:Tm,Ax t=true->H1 t=true
 |.mk q n x ks ps,h=>by simp only[Ax,Am]at h;have:=Zv h.1.1;simp only[H1,iU q n x ks.length ps<|by omega,Am];exact⟨h.1,TC ks h.2⟩
def TC:∀ts:G1,Bb ts=true->FZ ts=true
 |[],_=>rfl
 |t::r,h=>by simp only[Bb,Am]at h;simp only[FZ,Am];exact⟨Wd t h.1,TC r h.2⟩
end
def Ui (h:Ax t=true):G7 t=Cy t:=by simp only[G7,Cy,h,Wd t h]
def MK (h:Cy t=true):G7 t=Cy t:=Ui (by simp only[Cy,Am]at h;exact h.2)
def ptr (b off:Nat):Value:=.pointer<|some ⟨b,off,none⟩
mutual
def nO:An->Prop
 |.mk s _ _ _ v ks _ _=>s=false/\((ks=[]/\∃a c,v=.slice a 0 c)\/∃b c,v=.slice (some ⟨b,0,none⟩) ks.length c)/\ks.length<=1000000/\Q6 ks
 |.im _ _ _=>False
def Q6:L1 An->Prop
 |[]=>True
 |a::r=>nO a/\Q6 r
end
mutual
def pm (I:TA) (w:World):An->Nat->Nat->Prop
 |.mk _ o _ _ v ks _ _,b,off=>DU I w b (Ez off 0) [.Kp<|.int .i64 o]/\DU I w b (Ez off 3) [.eR v]/\oI I w (BG v) 0 ks
 |.im _ _ _,_,_=>False
def oI (I:TA) (w:World) (b:Nat):Nat->L1 An->Prop
 |_,[]=>True
 |i,a::r=>pm I w a b (i*4)/\oI I w b (i+1) r
end
mutual
def Le:An->Nat->Nat->L1 D
 |.mk _ o _ _ v ks _ _,b,off=>(if o=2 then[.eR<|ptr b<|Ez off 2]else[])++IB (BG v) 0 ks
 |.im _ _ _,_,_=>[]
def IB (b:Nat):Nat->L1 An->L1 D
 |_,[]=>[]
 |i,a::r=>Le a b (i*4)++IB b (i+1) r
end
def Nb:∀{l:N4} {i:Nat} {a:An},Q6 l->l[i]?=some a->nO a
 |[],i,a,_,h=>by simp at h
 |x::r,0,a,q,h=>by simp at h;subst h;exact q.1
 |x::r,i+1,a,q,h=>Nb q.2 (by simpa using h)
def gF {I:TA} {w:World} {b:Nat}:∀{l:N4} {i j:Nat} {a:An},oI I w b i l->l[j]?=some a->pm I w a b ((i+j)*4)
 |[],i,j,a,_,h=>by simp at h
 |x::r,i,0,a,q,h=>by simp at h;subst h;exact q.1
 |x::r,i,j+1,a,q,h=>by have:=gF q.2 (j:=j) (by simpa using h);rwa [show i+1+j=i+(j+1) by omega]at this
def ib (l:L1 D) (S:Nat->jo) (k:Nat):Prop:=∀j d,l[j]?=some d->LB prog [d] (S<|k+j) true (S<|k+j+1)
def ib.left {l m:R1} {S:Nat->jo} {k:Nat} (h:ib (l++m) S k):ib l S k:=λj d q=>h j d (by rw[M2 (A9.1 q).1];exact q)
def ib.right {l m:R1} {S:Nat->jo} {k:Nat} (h:ib (l++m) S k):ib m S<|k+l.length:=λj d q=>by{have:=h (l.length+j) d (by rw[Ky<|by omega];simpa using q);rwa [<- Z6]at this}
def zhh (b off:Nat) (S S':jo):Prop:=GL prog 274 [.eR<|.pointer<|some ⟨b,off,none⟩,.ref 1 0,.ref 2 0]
 (KO [(3,some .ig),(4,some<|.hV 3 S)]) (.ret (.Kp<|.bool true)<|KO [(3,some .ig),(5,some<|.hV 3 S')])
def Xe (s:Bool) (o n:Int) (x:Z) (v:Value) (ks:N4) (u:Value) (ps:N4) (b off:Nat) (S:Nat->jo) (k:Nat) (M:nO<|.mk s o n x v ks u ps) (G:∀j I w r C,(S j).P I w r C->pm I w (.mk s o n x v ks u ps) b off) (f:∀a∈ks,∀b off k,nO a->(∀j I w r C,(S j).P I w r C->pm I w a b off)->ib (Le a b off) S k->zhh b off (S k) (S<|k+(Le a b off).length)) (g:ib (IB (BG v) 0 ks) S k):ia Tryz.f274.ntmps [1,2,3,4] (IZ uK Tryz.f274.results.toList<|.ret (.Kp<|.bool true)<|KO [(3,some .ig),(5,some<|.hV 3<|S<|k+(IB (BG v) 0 ks).length)]) [.code<|Ek Tryz.f274 2] [(0,.eR<|.pointer<|some ⟨b,off,none⟩),(1,.ref 1 0),(2,.ref 2 0)] (KO [(3,some .ig),(6,some<|.hV 3<|S k)]) [7,8,5]:=by obtain⟨_,l,d,N⟩:=M;obtain⟨ad,c,rfl,R⟩:∃ad c,v=.slice ad ks.length c/\(ks≠[]->∃r,ad=some ⟨r,0,none⟩):=by{rcases l with⟨rfl,a,c,rfl⟩|⟨r,c,rfl⟩;exact⟨a,c,rfl,λh=>absurd rfl h⟩;exact⟨_,c,rfl,λ_=>⟨r,rfl⟩⟩};refine DM O<|eF Cp 6 [.eR<|.slice ad ks.length c] O O (λ_ I w r C h=>(G k I w r C h).2.1) O O (by simp)<|Fa O<|Ak (λy:Nat×Nat=>[(24,i7 y.1),(23,i7 ks.length),(0,.eR<|.pointer<|some ⟨b,off,none⟩),(1,.ref 1 0),(2,.ref 2 0)]) (λy=>KO [(3,some .ig),(6,some<|.hV 3<|S y.2)]) [7,8,5] (λy=>ks.length-y.1) (λy=>y.1<=ks.length/\ib (IB (BG<|.slice ad ks.length c) y.1<|ks.drop y.1) S y.2/\y.2+(IB (BG<|.slice ad ks.length c) y.1<|ks.drop y.1).length=k+(IB (BG<|.slice ad ks.length c) 0 ks).length) (0,k) ⟨AK _,g,rfl⟩ ⟨rfl,B2<|by simp,AB⟩ B9 O λy m p=>?_;obtain⟨i,T⟩:=y;obtain⟨U,z,q⟩:=m;simp only at U z q;refine DM O<|Aa O (λh=>?_) λh=>?_;simp at h;let⟨a,H⟩:=Aq h;have V:ks.drop i=a::ks.drop (i+1):=Av H;rw[V]at z q;simp only[IB]at z q;obtain⟨r,rfl⟩:=R (λe=>by rw[e]at H;simp at H);have D:0+(i:Int).toNat*4=i*4:=by{simp};have L:=f a (AE H) r (i*4) T (Nb N H) (λj I w W C h=>by{have:=gF (G j I w W C h).2.2 H;simpa[BG]using this}) z.left;rw[<- D]at L;refine DM O<|eF Cp 6 [.eR<|.slice (some ⟨r,0,none⟩) ks.length c] O O (λ_ I w W C h=>(G T I w W C h).2.1) O O (by simp)<|Fa O<|Eb Cp O O (λ_=>⟨by simp,by simp;omega⟩) (by simp)<|Fa O<|Ao [7] j4 [(5,7)] O L IR O O<|ng [] O (by simp[A1];rfl)<|Ag O λh=>vt O<|AV 6 7 O ?_;rw[D];exact Ad (p (i+1,T+(Le a r<|i*4).length) (by simp only;omega) ⟨by simp only;omega,z.right,by simp only[Bo]at q ⊢;simp only[BG]at q ⊢;omega⟩) ⟨B2<|Gi (by simp only;omega) (by simp only;omega),B9⟩ B9 O;simp at h;have V:ks.drop i=[]:=Bt (by omega);rw[V]at q;simp only[IB,Cj,Jd]at q;subst q;exact Aw O<|vt O<|Ce (Kr:=[]) 6 5 O O<|Ah ⟨_,rfl,tV O,B9⟩
def lK:∀(a:An) (b off:Nat) (S:Nat->jo) (k:Nat),nO a->(∀j I w z C,(S j).P I w z C->pm I w a b off)->ib (Le a b off) S k->zhh b off (S k) (S<|k+(Le a b off).length)
 |.im _ _ _,_,_,_,_,h,_,_=>h.elim
 |.mk s o n x v ks u ps,b,off,S,k,G,q,r=>by have H:∀a∈ks,∀b off k,nO a->(∀j I w z C,(S j).P I w z C->pm I w a b off)->ib (Le a b off) S k->zhh b off (S k) (S<|k+(Le a b off).length):=λa L b off k M N R=>lK a b off S k M N R;refine Ae Cp func274 O [6,7,8,5]<|Fa O<|eF Cp 4 [i7 o] O O (λ_ I w z C h=>(q k I w z C h).1) O O (by simp)<|Fa O ?_;simp only[Le]at r ⊢;by_cases y:o=2;rw[ae y]at r ⊢;have h:=r 0 _ O;refine I0 (j:=4) (j2:=6) O (by simp[A1]) (by simp[A1,y]) h O O O O O<|ng [] O (by simp[A1];rfl)<|Aa O (λh=>by simp[y]at h) λh=>?_;refine Fe ?_;have T:=Xe s o n x v ks u ps b off S (k+1) G q H<|r.right (l:=[_]);rw[show k+([D.eR<|ptr b<|Ez off 2]++IB (BG v) 0 ks).length=k+1+(IB (BG v) 0 ks).length by simp;omega];exact Ad T AB B9 O;rw[ac y]at r ⊢;refine Oo (.Kp<|.bool true) O (by simp[A1,y])<|ng [] O (by simp[A1];rfl)<|Aa O (λh=>by simp[y]at h) λh=>?_;exact Fe<|Ce (Kr:=[7,8,5]) 4 6 O O<|Ad (Xe s o n x v ks u ps b off S k G q H r) AB B9 O
termination_by a=>SizeOf.sizeOf a
decreasing_by all_goals(have:=C8 L;simp_wf;omega)
def yD (v:Value):St:=[(6,some<|.cells 270 1 [.eR v])]
def zie (v:Value):St:=[(6,some<|.cells 230 1 [.eR v])]
def qA (a:An) (b off:Nat) (S:Nat->jo) (k:Nat) (h:nO a) (q:∀j I w r y,(S j).P I w r y->pm I w a b off) (z:ib (Le a b off) S k):ed 273 [.jv 3,.ref 6 0] ((3,some .ig)::(4,some<|.hV 3<|S k)::yD (.pointer<|some ⟨b,off,none⟩))<|.ret (.cg [])<|(3,some .ig)::(5,some<|.hV 3<|S<|k+(Le a b off).length)::yD (.pointer<|some ⟨b,off,none⟩):=by exact Ae Cp func273 O [1,2,7,5]<|Fa O<|Ao [7] j6 [(5,7)] O (lK a b off S k h q z) IR O O<|Fa O<|Ce (Kr:=[]) 7 5 O O<|Bq ⟨[],BA⟩
def zap (b off:Nat):ed 232 [.eR<|.pointer<|some ⟨b,off,none⟩] []<|.ret (.fn (.func 273) [] [.ref 6 0])<|yD<|.pointer<|some ⟨b,off,none⟩:=by exact Ae Cp func232 O [6]<|Fa O<|Ah ⟨_,AB⟩
def uC (b off:Nat) (S:Nat->jo) (k:Nat) (h:ib [.eR<|ptr b<|Ez off 2] S k):ed 231 [.jv 3,.ref 6 0] ((3,some .ig)::(4,some<|.hV 3<|S k)::zie (.pointer<|some ⟨b,off,none⟩))<|.ret (.cg [])<|(3,some .ig)::(5,some<|.hV 3<|S<|k+1)::zie (.pointer<|some ⟨b,off,none⟩):=by refine Ae Cp func231 O [7,5]<|Fa O ?_;have h:=h 0 _ O;exact I0 (j:=4) (j2:=7) O (by simp[A1]) ab h O O O O O<|Fa O<|Ce (Kr:=[]) 7 5 O O<|Bq ⟨[],BA⟩
def bW (A:jz) (b:Nat) (op:Int):Prop:=∀vs I w h,A.P vs I w h->DU I w b 0 [.Kp<|.int .i64 op]
def zd1 (A:jz) (b:Nat) (u:Value):Prop:=∀vs I w h,A.P vs I w h->DU I w b 4 [.eR u]
def mZ (A:jz) (b:Nat) (op q:Int) (z:bW A b op) (h:Bv op q=true):ed 166 [.eR<|.pointer<|some ⟨b,0,none⟩,i7 q] [(1,some<|.hp A)]<|.ret (.fn (.func 231) [] [.ref 6 0])<|(1,some<|.hp A)::zie (.pointer<|some ⟨b,0,none⟩):=by refine Ae Cp func166 O [6]<|Fa O<|C6 Cp 1 [i7 op] O O (λ_=>z) O O (by simp)<|Fa O ?_;have D:(op==5||op==27||(op==7&&q==1))=true:=h;refine Aa rfl (λC=>?_) λC=>?_;refine DM O<|Aa O (λ_=>?_) (λr=>by rw[C]at r;cases r);exact DM O<|Ah ⟨_,B9⟩;refine DM O<|C6 Cp 1 [i7 op] O O (λ_=>z) O O (by simp)<|Fa O<|Aa O (λr=>?_) λr=>?_;refine DM O<|Aa O (λ_=>?_) (λy=>by rw[r]at y;cases y);exact DM O<|Ah ⟨_,B9⟩;refine DM O<|C6 Cp 1 [i7 op] O O (λ_=>z) O O (by simp)<|Fa O<|Aa O (λ_=>?_) λy=>?_;exact DM O<|Ah ⟨_,B9⟩;exfalso;rw[C,r]at D;cases G:(op==7)<;>cases H:(q==1)<;>simp[G,H]at D y
def tZ (A:jz) (b:Nat) (op q:Int) (C len c j:Nat) (D:bW A b op) (G:zd1 A b<|.slice (some ⟨C,0,none⟩) len c) (h:Bv op q=false) (R:Ca op q=true) (e:q=(j:Int)+1) (f:j<len) (g:q<=1000000):ed 166 [.eR<|.pointer<|some ⟨b,0,none⟩,i7 q] [(1,some<|.hp A)]<|.ret (.fn (.func 273) [] [.ref 6 0])<|(1,some<|.hp A)::yD (.pointer<|some ⟨C,j*4,none⟩):=by refine Ae Cp func166 O [7,6] ?_;have L:(op==5||op==27||(op==7&&q==1))=false:=h;have r:(op==15&&decide (0<q))=true:=R;simp only[Mb]at L;obtain⟨⟨T,U⟩,V⟩:=L;simp only[Am,am]at r;have H:IntKind.i64.wrap (q-1)=(j:Int):=by{rw[Gi (by omega)<|by omega];omega};have z:0+(IntKind.i64.wrap<|q-1).toNat*4=j*4:=by{rw[H];simp};refine Fa O<|C6 Cp 1 [i7 op] O O (λ_=>D) O O (by simp)<|Fa O<|Aa O (λy=>by rw[T]at y;cases y) λy=>?_;refine DM O<|C6 Cp 1 [i7 op] O O (λ_=>D) O O (by simp)<|Fa O<|Aa O (λy=>by rw[U]at y;cases y) λy=>?_;refine DM O<|C6 Cp 1 [i7 op] O O (λ_=>D) O O (by simp)<|Fa O<|Aa O (λM=>?_) λM=>?_;exfalso;cases W:(op==7)<;>cases a:(q==1)<;>simp[W,a]at V M;refine DM O<|C6 Cp 1 [i7 op] O O (λ_=>D) O O (by simp)<|Fa O<|Aa O (λN=>?_) (λN=>by simp[r.1,r.2]at N);refine DM O<|C6 Cp 1 [.eR<|.slice (some ⟨C,0,none⟩) len c] O O (λ_=>G) O O (by simp)<|Fa O<|Eb Cp O O (λ_=>⟨by simp[H],by simp[H];omega⟩) (by simp)<|Fa O ?_;have d:=zap C<|0+(IntKind.i64.wrap<|q-1).toNat*4;refine FJ (bk:=[]) (fr:=[6]) [] [(6,6)] O (by simp) d ab O O O O<|Fa O ?_;rw[<- z];exact Ah ⟨_,B9⟩
def nA (A:jz) (b:Nat) (op q:Int) (y:bW A b op) (h:Bv op q=false) (M:Ca op q=false):ed 166 [.eR<|.pointer<|some ⟨b,0,none⟩,i7 q] [(1,some<|.hp A)]<|.ret (.Kp<|.fn<|.func 233) [(1,some<|.hp A)]:=by refine Ae Cp func166 O [7,6] ?_;have G:(op==5||op==27||(op==7&&q==1))=false:=h;have z:(op==15&&decide (0<q))=false:=M;simp only[Mb]at G;obtain⟨⟨N,R⟩,T⟩:=G;refine Fa rfl<|C6 Cp 1 [i7 op] O O (λ_=>y) O O (by simp)<|Fa O<|Aa O (λr=>by rw[N]at r;cases r) λr=>?_;refine DM O<|C6 Cp 1 [i7 op] O O (λ_=>y) O O (by simp)<|Fa O<|Aa O (λr=>by rw[R]at r;cases r) λr=>?_;refine DM O<|C6 Cp 1 [i7 op] O O (λ_=>y) O O (by simp)<|Fa O<|Aa O (λH=>?_) λH=>?_;exfalso;cases C:(op==7)<;>cases D:(q==1)<;>simp[C,D]at T H;refine DM O<|C6 Cp 1 [i7 op] O O (λ_=>y) O O (by simp)<|Fa O<|Aa O (λL=>?_) λL=>?_;{exfalso;cases C:(op==15)<;>cases D:decide (0<q)<;>simp[C,D]at z L<;>simp_all};exact DM O<|Ah ⟨_,rfl,tV O,AD⟩
def Hq (h:XA w b off cs) (y:cs[i]?=some c) (z:c.oneCell'=true) (C:X I kc c d):DU I w b (Ez off i) [d]:=by obtain⟨q,D,k,G,H⟩:=h;refine⟨q,D,k,G,λj L r=>?_⟩;cases j with|zero=>simp at r;subst r;refine⟨c,?_,z,C⟩;rw[Hs];exact H i c y|succ j=>{simp at r}
mutual
def gE {I:TA} {w:World}:∀(a:An) (b off:Nat),M6 a->CT a=false->XA w b off (cA a)->KT I w a->pm I w a b off
 |.im _ _ _,_,_,h,_,_,_=>h.elim
 |.mk s o n x v ks u ps,b,off,z,r,y,q=>by have r:s=false:=r;subst r;simp only[KT]at q;refine⟨Hq y (i:=0) O O<|.Kp _ _<|.int _ _,Hq y (i:=3) O (I7 q.1.1)<|.eR _<|I7 q.1.1,?_⟩;exact V4 ks (BG v) 0 z.1 q.1.2
def V4 {I:TA} {w:World}:∀(l:N4) (b i:Nat),DY l->Eh I w false b i l->oI I w b i l
 |[],_,_,_,_=>trivial
 |a::r,b,i,q,h=>by simp only[Eh]at h;exact⟨gE a b (i*4) q.1 h.1.1 h.1.2.1 h.1.2.2,V4 r b (i+1) q.2 h.2⟩
end
mutual
def ze8 {I:TA} {w:World}:∀(a:An) (t:Y),M6 a->CT a=false->KT I w a->vA a=As t->SX t->nO a
 |.im _ _ _,_,h,_,_,_,_=>h.elim
 |.mk s o n x v ks u ps,.mk R T U q,H,r,y,C,D=>by have r:s=false:=r;subst r;simp only[KT]at y;have G:HK ks=A3 q:=by{simp only[vA,As,Cr,V.sl.injEq]at C;exact C.2.2.2.1};have L:ks.length=q.length:=by{have:=af List.length G;simpa using this};refine⟨rfl,?_,by rw[L];exact D.1,P3 ks q (BG v) 0 H.1 y.1.2 G D.2⟩;rcases y.1.1 with⟨M,⟨a,c,rfl⟩,_⟩|⟨_,b,z,N,rfl,_⟩;exact .inl ⟨Jb M,a,c,rfl⟩;exact .inr ⟨b,z,rfl⟩
def P3 {I:TA} {w:World}:∀(l:N4) (ts:E1) (b i:Nat),DY l->Eh I w false b i l->HK l=A3 ts->RA ts->Q6 l
 |[],_,_,_,_,_,_,_=>trivial
 |a::r,[],_,_,_,_,h,_=>by simp[HK,A3]at h
 |a::r,t::q,b,i,C,y,z,D=>by simp only[Eh]at y;simp only[HK,A3,Cr]at z;exact⟨ze8 a t C.1 y.1.1 y.1.2.2 z.1 D.1,P3 r q b (i+1) C.2 y.2 z.2 D.2⟩
end
mutual
def Pv:An->An
 |.mk s o n _ v ks u ps=>.mk s o n [] v (OL ks) u (OL ps)
 |.im s cs c=>.im s cs c
def OL:L1 An->L1 An
 |[]=>[]
 |a::r=>Pv a::OL r
end
def Qm:∀l:N4,OL l=l.map Pv
 |[]=>rfl
 |a::r=>by simp[OL,Qm r]
def ea:An->L1 HN
 |.mk _ o _ _ _ ks _ _=>(if o=2 then[[]]else[])++fg 0 ks
 |.im _ _ _=>[]
where fg:Nat->L1 An->L1 HN
 |_,[]=>[]
 |i,a::r=>(ea a).map ((false,i)::·)++fg (i+1) r
def gI:An->Z->An
 |.mk s o n _ v ks u ps,x=>.mk s o n x v ks u ps
 |a,_=>a
def zF (a c d:An) (p:Bool×Nat) (b off:Nat) (h:Eg a p=some (c,b,off)) (z:Pv d=Pv c):Pv (OA a p d)=Pv a:=by have st:∀{l:N4} {k:Nat},l[k]?=some c->OL (l.set k d)=OL l:=by{intro l k y;rw[Qm,Qm,IU,z];apply QI;intro i;rw[dA];split;rename_i e;subst e;rw[Cx,y];simp;exact(A9.1 y).1;rfl};rcases a with⟨s,o,n,x,v,ks,u,ps⟩|⟨G,C,H⟩;(case im=>simp[Eg]at h);obtain⟨r,k⟩:=p;cases r with|false=>simp only[Eg,E9,AP]at h;obtain⟨D,q,rfl,_,_⟩:=h;simp only[OA,Pv,st q]|true=>{cases s with|true=>simp only[Eg,E9,AP]at h;obtain⟨D,q,rfl,_,_⟩:=h;simp only[OA,Pv,st q]|false=>{simp[Eg]at h}}
def YQ:∀(p:HN) (a:An) (b off:Nat) (a':An) (H y:Nat) (a2:An),D3 a b off p=some (a',H,y)->Pv a2=Pv a'->Pv (I9 a p a2)=Pv a
 |[],a,b,off,a',H,y,a2,h,C=>by simp only[D3,Co,AP]at h;obtain⟨rfl,_,_⟩:=h;exact C
 |q::r,a,b,off,a',H,y,a2,h,C=>by simp only[D3]at h;simp only[I9];split at h;rename_i c D z G;exact zF a c _ q D z G<|YQ r c D z a' H y a2 h C;cases h
mutual
def vU:∀(a:An) (b off:Nat),nO a->∀(j:Nat) (d:D),(Le a b off)[j]?=some d->∃p a' H q,(ea a)[j]?=some p/\D3 a b off p=some (a',H,q)/\d=.eR (ptr H<|Ez q 2)/\∃n x v ks u ps,a'=.mk false 2 n x v ks u ps
 |.im _ _ _,_,_,h,_,_,_=>h.elim
 |.mk s o n x v ks u ps,b,off,C,j,d,h=>by obtain⟨L,_,_,G⟩:=C;subst L;simp only[Le]at h;have y:∀j,(IB (BG v) 0 ks)[j]?=some d->∃p a' H q,(ea.fg 0 ks)[j]?=some p/\D3 (.mk false o n x v ks u ps) b off p=some (a',H,q)/\d=.eR (ptr H<|Ez q 2)/\∃n x v ks u ps,a'=.mk false 2 n x v ks u ps:=λj M=>by{let⟨k,a,r,a',H,q,N,R,T,U,V⟩:=iI ks (BG v) 0 G j d M;refine⟨(false,0+k)::r,a',H,q,N,?_,U,V⟩;simp only[D3,Eg,BU,R,FQ];simpa[Gl]using T};by_cases z:o=2;rw[ae z]at h;simp only[ea];rw[ae z];cases j with|zero=>simp at h;subst h;subst z;exact⟨[],_,b,off,by simp,rfl,rfl,n,x,v,ks,u,ps,rfl⟩|succ j=>{simp only[PG,Nm]at h ⊢;exact y j h};rw[ac z]at h;simp only[ea];rw[ac z];exact y j h
def iI:∀(l:N4) (b i:Nat),Q6 l->∀(j:Nat) (d:D),(IB b i l)[j]?=some d->∃k a r a' H y,(ea.fg i l)[j]?=some ((false,i+k)::r)/\l[k]?=some a/\D3 a b ((i+k)*4) r=some (a',H,y)/\d=.eR (ptr H<|Ez y 2)/\∃n x v ks u ps,a'=.mk false 2 n x v ks u ps
 |[],_,_,_,_,_,h=>by simp[IB]at h
 |a::r,b,i,z,j,d,h=>by simp only[IB]at h;have C:=Qu a b<|i*4;by_cases R:j<(Le a b<|i*4).length;rw[M2 R]at h;let⟨p,a',H,y,G,L,N,M⟩:=vU a b (i*4) z.1 j d h;refine⟨0,a,p,a',H,y,?_,rfl,by simpa using L,N,M⟩;simp only[ea.fg];rw[M2 (by simp;omega),Cx,G];rfl;rw[Ky<|by omega]at h;let⟨k,c,q,a',H,y,G,L,N,M,T⟩:=iI r b (i+1) z.2 _ d h;refine⟨k+1,c,q,a',H,y,?_,by simpa using L,by rwa [show i+(k+1)=i+1+k by omega],M,T⟩;simp only[ea.fg];rw[Ky (by simp;omega)];simp only[CD,<- C];rw[G,show i+(k+1)=i+1+k by omega]
def Qu:∀(a:An) (b off:Nat),(Le a b off).length=(ea a).length
 |.im _ _ _,_,_=>rfl
 |.mk s o n x v ks u ps,b,off=>by simp only[Le,ea,Bo,Zk ks (BG v) 0];by_cases h:o=2<;>simp[h]
def Zk:∀(l:N4) (b i:Nat),(IB b i l).length=(ea.fg i l).length
 |[],_,_=>rfl
 |a::r,b,i=>by simp only[IB,ea.fg,Bo,CD,Qu a,Zk r b<|i+1]
end
def bV (l:N4):(OL l).length=l.length:=by rw[Qm];simp
mutual
def XD:∀a:An,Hu (Pv a)=Hu a
 |.im _ _ _=>rfl
 |.mk s o n x v ks u ps=>by have h:=PV ks;have q:=PV ps;cases s<;>simp[Pv,Hu,h,q,bV]
def PV:∀l:N4,CX (OL l)=CX l
 |[]=>rfl
 |a::r=>by simp only[OL,CX,XD a,PV r]
end
def Tt {W:K1} {a:An} {p:HN} {a':An} {y:Nat} (h:(JW b a).P vs I w W) (d:D3 a b 0 p=some (a',H,y)):H∈W/\∃bl M,w.heap[H]?=some (.cells bl M (0,0))/\y+Gl (CT a')<=bl.size:=by obtain⟨e,Q,j,⟨bl,k,l⟩,S,m⟩:=h;rcases Nq d with⟨_,rfl,rfl,rfl⟩|⟨N,t⟩;exact⟨by simp[e],bl,_,k,by rw[j];simp[Gl,l]⟩;{refine⟨by simp[e,t],?_⟩;have:∀{p:HN} {a:An} {b off:Nat},D3 a b off p=some (a',H,y)->p≠[]->KT I w a->∃bl M,w.heap[H]?=some (.cells bl M (0,0))/\y+Gl (CT a')<=bl.size:=by{intro p;induction p with|nil=>intro a b off _ h;exact absurd rfl h|cons q r A=>{intro a b off h _ G;simp only[D3]at h;split at h;{rename_i c b1 f C;by_cases g:r=[];{subst g;simp only[D3,Co,AP]at h;obtain⟨rfl,rfl,rfl⟩:=h;rcases a with⟨s,o,n,x,v,ks,u,ps⟩|⟨s0,B,c0⟩;(case im=>simp[Eg]at C);obtain⟨E,i⟩:=q;simp only[KT]at G;cases E with|false=>simp only[Eg,E9,AP]at C;obtain⟨R,L,rfl,rfl,rfl⟩:=C;have z:CT R=s:=(FA G.1.2 L).1;have T:=(A9.1 L).1;rcases G.1.1 with⟨F,_⟩|⟨_,J,D,bl,rfl,U,K,P,V⟩;omega;refine⟨bl,_,U,?_⟩;have:(i+1)*Gl s<=D*Gl s:=IW _ (by omega);rw[Kx,<- V]at this;rw[z];exact this|true=>{cases s with|false=>simp[Eg]at C|true=>{simp only[Eg,E9,AP]at C;obtain⟨R,L,rfl,rfl,rfl⟩:=C;have z:CT R=false:=(FA (G.2 O).2 L).1;have T:=(A9.1 L).1;rcases(G.2 rfl).1 with⟨F,_⟩|⟨_,J,D,bl,rfl,U,K,P,V⟩;omega;refine⟨bl,_,U,?_⟩;have:(i+1)*Gl false<=D*Gl false:=IW _ (by omega);rw[Kx,<- V]at this;rw[z];exact this}}};exact A h g (dO C G).2};cases h}};exact this d N m}
def W3:∀{p:HN} {a:An} {b off:Nat} {a':An} {H y:Nat},D3 a b off p=some (a',H,y)->b∉Hu a->(Hu a).Nodup->H∉Hu a'
 |[],a,b,off,a',H,y,h,G,_=>by simp only[D3,Co,AP]at h;obtain⟨rfl,rfl,rfl⟩:=h;exact G
 |q::r,a,b,off,a',H,y,h,_,z=>by simp only[D3]at h;split at h;rename_i c M C L;let⟨_,_,D⟩:=WC L;exact W3 h (D z).2 (D z).1;cases h
def bM (h:X I μ c<|.Kp<|.str x):c=OB x:=by cases h with|Kp _ _ h=>{cases h with|str s l h=>{show Value.string s=Value.string ⟨x.toArray⟩;rw[<- h]}}
def nX {a:An} {p:HN} {n:Int} {L:Z} {ks:N4} {ps:N4} {h:Nat} (x:Z) (z:D3 a b 0 p=some (.mk s o n L v ks u ps,H,h)):R4 (JW b a) (JW b<|I9 a p<|.mk s o n x v ks u ps) H (Ez h 2) [.Kp<|.str x]:=by intro us I w bs l;let⟨r1,bl,m,M,r3⟩:=Tt l z;obtain⟨t,T,h3,⟨r,A,B⟩,E,F⟩:=l;have J:4<=Gl (CT<|.mk s o n L v ks u ps):=by{cases s<;>simp[CT,Gl]};have q:b∉Hu a/\(Hu a).Nodup:=by{rw[t]at T;exact GI.1 T};rw[Hs];refine⟨r1,bl,m,M,by simp only[Ij];omega,λcs C K=>?_⟩;obtain⟨c,rfl⟩:∃c,cs=[c]:=cY.1 C.1;have hc:c=OB x:=bM<|C.2 0 c _ O O;subst hc;have P:h+2+[OB x].length<=bl.size:=by{simp only[Ij];omega};have N:=Vo (pl:=h) (sz:=Gl<|CT<|.mk s o n L v ks u ps) M P ⟨by omega,by simp only[Ij];omega⟩;let⟨⟨Q,ty2,k2,R,U⟩,q2⟩:=dH z E F;rw[M]at R;cases R;have V:=W3 z q.1 q.2;have W:XA (w.setRow H (bl.toList.take (h+2)++[OB x]++bl.toList.drop (h+2+[OB x].length)).toArray) H h<|cA<|.mk s o n x v ks u ps:=by{refine⟨_,m,(0,0),Jy M,λj d f=>?_⟩;have y:=LJ (bl:=bl.toList) (off:=h+2) (cs:=[OB x]) (by simpa using P)<|h+j;simp only[Ij]at y ⊢;have g:(bl.toList.take (h+2)++[OB x]++bl.toList.drop (h+2+1))[h+j]?=some d:=by{by_cases S:j=2;subst S;rw[y,ac<|by omega,ae<|by omega,Ma];cases s<;>(simp[cA]at f;subst f;rfl);have D:(cA<|.mk s o n L v ks u ps)[j]?=some d:=by{rw[<- f];match j with|0=>cases s<;>rfl|1=>cases s<;>rfl|2=>exact absurd rfl S|3=>cases s<;>rfl|4=>cases s<;>rfl|j+5=>{cases s<;>rfl}};have:=U j d D;rw[y];split;simpa using this;rw[ac<|by omega];simpa using this};simpa using g};have i:KT I (w.setRow H (bl.toList.take (h+2)++[OB x]++bl.toList.drop (h+2+[OB x].length)).toArray)<|.mk s o n x v ks u ps:=by{have:=KF (λk hk=>N.other k λe=>V<|e▸hk) q2;simpa only[KT]using this};let⟨q3,q4,q5⟩:=Vn (a2:=.mk s o n x v ks u ps) z N rfl W i E F q.1 q.2;have hB:Hu (I9 a p<|.mk s o n x v ks u ps)=Hu a:=by{rw[<- XD,YQ p a b 0 _ H h _ z<|by simp[Pv],XD]};refine⟨by rw[hB];exact t,T,by rw[q5];exact h3,?_,q3,q4⟩;by_cases e:b=H;subst e;let⟨G,R,U,_⟩:=N.same r _ _ A;exact⟨G,R,by rw[U,B]⟩;exact⟨r,(N.other b e).trans A,B⟩
def PutV (b:Nat) (a:An) (p:HN) (e:L1 V):jz where
 P:=λvs I w bs=>∃cs,(JW b<|I9 a p<|.im true cs e).P vs I w bs
 mono:=λh ⟨cs,h1⟩=>⟨cs,(JW b<|I9 a p<|.im true cs e).mono h h1⟩
 loc:=λh ⟨cs,h1⟩=>⟨cs,(JW b<|I9 a p<|.im true cs e).loc h h1⟩
def zis {a c d:An} (h:Eg a p=some (c,b,off)) (y:Hu d=Hu c):Hu (OA a p d)=Hu a:=by have st:∀{l:N4} {k:Nat},l[k]?=some c->CX (l.set k d)=CX l:=by{intro l;induction l with|nil=>intro k h;simp at h|cons x r z=>{intro k h;cases k with|zero=>simp at h;subst h;simp[CX,y]|succ k=>{simp[CX,z<|by simpa using h]}}};rcases a with⟨s,o,n,x,v,ks,u,ps⟩|⟨G,C,H⟩;(case im=>simp[Eg]at h);obtain⟨r,k⟩:=p;cases r with|false=>simp only[Eg,E9,AP]at h;obtain⟨D,q,rfl,_,_⟩:=h;simp only[OA,Hu,st q,IV]|true=>{cases s with|true=>simp only[Eg,E9,AP]at h;obtain⟨D,q,rfl,_,_⟩:=h;simp only[OA,Hu,st q,IV]|false=>{simp[Eg]at h}}
def nG:∀{p:HN} {a:An} {b off:Nat} {a':An} {H y:Nat} {a2:An},D3 a b off p=some (a',H,y)->Hu a2=Hu a'->Hu (I9 a p a2)=Hu a
 |[],a,b,off,a',H,y,a2,h,z=>by simp only[D3,Co,AP]at h;obtain⟨rfl,_,_⟩:=h;exact z
 |q::r,a,b,off,a',H,y,a2,h,z=>by simp only[D3]at h;simp only[I9];split at h;rename_i c G C D;exact zis D<|nG h z;cases h
def za7 {a:An} {p:HN} {C:R0} {j:G2} {h:Nat} (e:G2) (U:e.length=5) (W:D3 a b 0 p=some (.im true C j,H,h)):R4 (JW b a) (PutV b a p e) H h<|e.map .Kp:=by intro us I w bs k;let⟨s,q,t,c,T⟩:=Tt k W;obtain⟨l,d,u,⟨y,m,n⟩,A,B⟩:=k;have T:h+5<=q.size:=T;have G:b∉Hu a/\(Hu a).Nodup:=by{rw[l]at d;exact GI.1 d};have z:(e.map D.Kp).length=5:=by{simpa using U};refine⟨s,q,t,c,by rw[z];exact T,λcs L M=>?_⟩;have r:cs.length=5:=by{rw[L.1,z]};have o:h+cs.length<=q.size:=by{rw[r];exact T};rw[z,<- r];have f:=Vo (pl:=h) (sz:=Gl<|CT<|.im true C j) c o ⟨B6 _,by rw[r];exact B6 _⟩;have N:Ts I cs e:=⟨by rw[r,U],λi v x E F=>by{have:=L.2 i v (.Kp x) E (by rw[Cx,F];rfl);exact this.Ks}⟩;have g:KT I (w.setRow H (q.toList.take h++cs++q.toList.drop (h+cs.length)).toArray)<|.im true cs e:=⟨N,M,U⟩;let⟨J,K,P⟩:=Vn (a2:=.im true cs e) W f rfl (eV c o) g A B G.1 G.2;have Q:Hu (I9 a p<|.im true cs e)=Hu a:=nG W O;refine⟨cs,by rw[Q];exact l,d,by rw[P];exact u,?_,J,K⟩;by_cases e:b=H;subst e;let⟨R,S,z2,_⟩:=f.same y _ _ m;exact⟨R,S,by rw[z2,n]⟩;exact⟨y,(f.other b e).trans m,n⟩
def Kk:V->Bool
 |.bool _|.int ..|.str _=>true
 |_=>false
def H0:L1 V->Bool
 |[]=>true
 |x::r=>Kk x&&H0 r
def RL:L1 (L1 V)->Bool
 |[]=>true
 |e::r=>H0 e&&RL r
def VC:L1 (V×V)->Bool
 |[]=>true
 |(a,b)::r=>Kk a&&Kk b&&VC r
def uX:D->Bool
 |.Kp x=>Kk x
 |.cg []=>true
 |.own _ _=>true
 |.cg [.Kp a,.Kp b]=>Kk a&&Kk b
 |_=>false
def zd3:fp->Prop
 |.map h=>VC h=true
 |.row _ _ es=>RL es=true
 |.NA _ _ xs=>H0 xs=true
 |_=>False
def gN:St->Prop
 |[]=>True
 |(_,some b)::r=>zd3 b/\gN r
 |(_,none)::r=>gN r
def Ic {x:V} (h:Kk x=true) (q:PB J v x):PB I v x:=by cases q<;>first|(simp[Kk]at h;done)|constructor<;>assumption
def VB:∀{xs:G2} {vs:R0},H0 xs=true->Ts J vs xs->Ts I vs xs:=by intro xs vs h z;refine⟨z.1,λi v x D C=>?_⟩;have:∀{xs:G2} {i:Nat} {x:V},H0 xs=true->xs[i]?=some x->Kk x=true:=by{intro xs;induction xs with|nil=>intro i x _ h;simp at h|cons y r G=>{intro i x q h;simp only[H0,Am]at q;cases i with|zero=>simp at h;subst h;exact q.1|succ i=>{exact G q.2<|by simpa using h}}};exact Ic (this h C)<|z.2 i v x D C
def Tp:∀{es:L1<|G2},RL es=true->H0 es.flatten=true
 |[],_=>rfl
 |e::r,h=>by simp only[RL,Am]at h;have:∀{a b:G2},H0 a=true->H0 b=true->H0 (a++b)=true:=by{intro a;induction a with|nil=>intro b _ h;exact h|cons x r y=>{intro b q z;simp only[H0,Am,DV]at q ⊢;exact⟨q.1,y q.2 z⟩}};exact this h.1<|Tp h.2
def Pw:∀{y:c7} {i:Nat} {p:V×V},VC y=true->y[i]?=some p->Kk p.1=true/\Kk p.2=true
 |[],i,p,_,h=>by simp at h
 |(a,b)::r,i,p,q,h=>by simp only[VC,Am]at q;cases i with|zero=>simp at h;subst h;exact q.1|succ i=>{exact Pw q.2<|by simpa using h}
def YW {b:fp} (h:zd3 b) (C:eb J μ w g b):eb I ν w g b:=by cases b with|map L=>obtain⟨b,es,q,r,y,z,D,G⟩:=C;exact⟨b,es,q,r,y,z,D,λi e p a b=>⟨Ic (Pw h b).1 (G i e p a b).1,Ic (Pw h b).2 (G i e p a b).2⟩⟩|row t sz es=>obtain⟨xs,r,y,z⟩:=C;exact⟨xs,r,VB (Tp h) y,z⟩|NA t sz xs=>obtain⟨H,b,vs,r,y,z,D⟩:=C;exact⟨H,b,vs,r,y,VB h z,D⟩|_=>{exact h.elim}
def LK:∀{st:St} {i:Nat} {b:fp},gN st->A2 st i b->zd3 b
 |[],i,b,_,h=>by simp[A2,lk]at h
 |(k,some y)::r,i,b,q,h=>by rcases A7.1 h with⟨_,rfl⟩|⟨_,h⟩;exact q.1;exact LK q.2 h
 |(k,none)::r,i,b,q,h=>LK (st:=r) q (BX.1 h).2
def YV (h:uX d=true) (r:X J μ v d) (G:∀i∈GH d,∀g,μ i=some g->ν i=some g):X I ν v d:=by unfold uX at h;split at h;exact .Kp _ _<|Ic h r.Ks;cases r with|cg cs _ y _=>{exact .cg cs [] y λi c x _ q=>by simp at q};cases r with|own _ _ a z H=>{exact .own _ _ a z<|G _ (by simp[GH]) _ H};rename_i a b;rw[Am]at h;cases r with|cg cs _ y C=>{refine .cg cs _ y λi c x D q=>?_;match i with|0=>simp at q;subst q;exact .Kp _ _ (Ic h.1 (C 0 c _ D O).Ks)|1=>simp at q;subst q;exact .Kp _ _ (Ic h.2 (C 1 c _ D O).Ks)|i+2=>{simp at q}};cases h
def Uc {l:R1} (k:Nat) (A:jz) (hE:GL P f hU bk<|.ret d a7) (hd:uX d=true) (hs:gN a7) (ze:k∉CB bk) (hk1:k∉CB a7) (hkd:k∉GH d) (s:∀vs I J μ w G,A.P vs I w G->I.le J->(∀b∈G,J b=w.heap[b]?)->∀xs:R0,TB J μ xs l->TB J μ xs hU):GL P f l ((k,some<|.hp A)::bk)<|.ret d<|(k,some<|.hp A)::a7:=by
 intro I μ w xs L hx;obtain⟨g,hg,vs,G,rfl,hP⟩:=L.SB k _<|A7.2<|.inl ⟨rfl,rfl⟩;have t:A2 ((k,some<|.hp A)::bk) k<|.hp A:=A7.2<|.inl ⟨rfl,rfl⟩;have c:∀b∈G,I b=none/\b<w.heap.size:=λb y=>L.apart k _ _ b t hg<|BB.2 y;have U:I.le<|I.plus G w:=λb o h=>by
  have:F6 G b=false:=by
   cases hm:F6 G b with
   |false=>rfl
   |true=>rw[(c b<|BK.1 hm).1]at h;cases h
  simp[TA.plus,this,h]
 have hJb:∀b∈G,I.plus G w b=w.heap[b]?:=λb y=>by simp[TA.plus,BK.2 y]
 have x:∀{i b},A2 bk i b->A2 ((k,some<|.hp A)::bk) i b:=λ{i b} R=>A7.2<|.inr ⟨λe=>ze<|e▸C9 R,R⟩;have B:∀b∈G,¬Ba μ bk b:=λb y ⟨i,SB,g,M,H,m⟩=>ze (by
  have:=L.inj k i _ _ _ _ b t (x M) hg H (BB.2 y) m;rw[this];exact C9 M)
 have ne:No (I.plus G w) μ bk [] w :=
  {Kp:=λb o h=>by
    unfold TA.plus at h
    split at h
    ·exact h
    ·exact L.Kp b o h
   SB:=λi b R=>by
    let⟨g,M,H⟩:=L.SB i b<|x R;exact⟨g,M,H.mono U<|Mu.le_refl μ⟩
   apart:=λi b g n R C y=>by
    let⟨M,H⟩:=L.apart i b g n (x R) C y;refine⟨?_,H⟩;unfold TA.plus
    split
    ·rename_i hm;exact absurd ⟨i,b,g,R,C,y⟩ (B n<|BK.1 hm)
    ·exact M
   inj:=λi j bi bj gi gj b N hj=>L.inj i j bi bj gi gj b (x N) (x hj)
   nodup:=.nil
   PA:=λi N=>by cases N }
 refine(hE (I.plus G w) μ w xs ne<|s vs I _ μ w G hP U hJb _<|hx.mono U<|Mu.le_refl μ).mono (λu w' hu=>?_) λ_ _ h=>h;obtain⟨I',E,r1,r2,r3,V⟩:=hu;obtain⟨ν,hν⟩:∃ν:Mu,ν=λi=>if i=k then some (XT vs G)else E i:=⟨_,rfl⟩
 have z:ν k=some (XT vs G):=by rw[hν];simp
 have r:∀i,i≠k->ν i=E i:=λi N=>by rw[hν];simp[N]
 have q:∀{i b},A2 ((k,some<|.hp A)::a7) i b->(i=k/\b=.hp A)\/(i≠k/\A2 a7 i b):=λ{i b} R=>by
  rcases A7.1 R with⟨rfl,rfl⟩|h
  ·exact .inl ⟨rfl,rfl⟩
  ·exact .inr h
 have F:∀b∈G,w'.heap[b]?=w.heap[b]?:=λb y=>V.block b (c b y).2 (B b y);have p:∀b∈G,∀i SB g,A2 a7 i SB->E i=some g->¬EY g b:=λb y i SB g M H m=>B b y<|V.fresh b (c b y).2 ⟨i,SB,g,M,H,m⟩;refine⟨I,ν,YV hd r1 (λi N g C=>by rw[r i λe=>hkd<|e▸N];exact C),?_,?_,?_⟩
 ·refine { Kp:=λb o h=>r2.Kp b o<|V.Kp b o<|U b o h,SB:=λi b R=>?_,apart:=λi b g n R C y=>?_,inj:=λi j bi bj gi gj b N hj W T K Q=>?_,nodup:=.nil,PA:=λi N=>by cases N }
  ·rcases q R with⟨rfl,rfl⟩|⟨a,h⟩
   ·exact⟨_,z,vs,G,rfl,A.loc F hP⟩
   ·let⟨g,q1,q2⟩:=r2.SB i b h;exact⟨g,by rw[r i a];exact q1,YW (LK hs h) q2⟩
  ·rcases q R with⟨rfl,rfl⟩|⟨a,h⟩
   ·rw[z]at C;cases C;have:=c n<|BB.1 y;exact⟨this.1,Yj this.2 V.size⟩
   ·rw[r i a]at C;let⟨q1,q2⟩:=r2.apart i b g n h C y;refine⟨?_,q2⟩;cases hI:I n with
    |none=>rfl
    |some o=>rw[V.Kp n o<|U n o hI]at q1;cases q1
  ·rcases q N with⟨rfl,rfl⟩|⟨hni,M⟩
   ·rw[z]at W;cases W;rcases q hj with⟨rfl,rfl⟩|⟨S,H⟩
    ·rfl
    ·rw[r j S]at T;exact absurd Q (p b (BB.1 K) j bj gj H T)
   ·rw[r i hni]at W;rcases q hj with⟨rfl,rfl⟩|⟨S,H⟩
    ·rw[z]at T;cases T;exact absurd K (p b (BB.1 Q) i bi gi M W)
    ·rw[r j S]at T;exact r2.inj i j bi bj gi gj b M H W T K Q
 ·intro i N v hv;by_cases e:i=k
  ·subst e;rw[hg]at hv;cases hv;exact z
  ·rw[r i e];refine r3 i ?_ v hv;simp only[CB,CK,Cu]at N;exact N.resolve_left e
 ·refine { Kp:=TA.le_refl I,os:=V.os,tape:=V.tape,output:=V.output,size:=V.size,block:=λb y ho=>V.block b y λh=>ho ?_,fresh:=λb y ⟨i,SB,g,M,H,m⟩=>?_,gz:=λ_ _ _=>rfl }
  ·obtain⟨i,SB,g,M,H,m⟩:=h;exact⟨i,SB,g,x M,H,m⟩
  ·rcases q M with⟨rfl,rfl⟩|⟨a,h⟩
   ·rw[z]at H;cases H;exact⟨_,_,_,t,hg,m⟩
   ·rw[r i a]at H;let⟨j,bj,gj,q1,q2,q3⟩:=V.fresh b y ⟨i,SB,g,h,H,m⟩;exact⟨j,bj,gj,x q1,q2,q3⟩
def K9 (t j:Nat) (C:0<sz) (L:lk env t=some .NB) (h:ek P n F Q todo ((t,.own j 0)::env) ((j,some<|.row e sz [])::st) Kr):ek P n F Q todo env st<|j::Kr:=by refine EQ λI μ a w y=>?_;have M:a.tmps.getD t undef=.slice none 0 0:=by{have:=y.env t _ L;generalize a.tmps.getD t undef=v at this;cases this with|NB=>{rfl}};let⟨D,N,R⟩:=No.jq (R:=[]) (new:=[(j,.slice none 0 0,.row e sz [])]) (Kr:=Kr) y.toNo (λp r b G=>by rw[AJ.1 r]at G;exact G.elim) (λp r q T b _ _=>by rw[AJ.1 r,AJ.1 T]) (TA.le_refl I) y.Kp (λb o h=>.inl h) (λ_ p r=>by{rw[AJ.1 r];exact⟨[],cb w _ e sz,⟨rfl,λi v x h _=>by simp at h⟩,λ_ h=>by simp at h,λ_ h=>by simp at h,C⟩});refine⟨I,_,_,_,Kr,N,λH d z=>?_,R,.of_le D,h⟩;by_cases e:t=H;subst e;rw[A6]at z;cases z;rw[M];exact .own j 0 none 0 (by simp[F5,lk]);rw[AC _ _ e]at z;exact(y.env H d z).mono (TA.le_refl I) D
noncomputable def TQ (I:TA) (μ:Mu) (st:St) (w:World):TA:=λb=>open Classical in if Ba μ st b then w.heap[b]? else I b
def aJ {K:R1} {gh:St} (hE:GL P f hU bk<|.ret d a7) (hd:uX d=true) (hs:gN a7) (h0:∀i∈CB gh,i∉CB bk/\i∉CB a7/\i∉GH d) (rT:∀i b,A2 gh i b->∀j∈KU b,j∈CB gh) (zf:∀I J μ w,No I μ gh [] w->I.le J->(∀i SB g b,A2 gh i SB->μ i=some g->EY g b->J b=w.heap[b]?)->∀xs:R0,TB J μ xs K->TB J μ xs hU) :
  GL P f K (gh++bk) (.ret d<|gh++a7):=by
 intro I μ w xs H hx;have N:∀{i b},A2 gh i b->A2 (gh++bk) i b:=λh=>ZD h;have up:∀{i b},A2 bk i b->A2 (gh++bk) i b:=λ{i b} h=>ZC (λhm=>(h0 i hm).1 (C9 h)) h;have T:∀b,Ba μ gh b->I b=none/\b<w.heap.size:=λb ⟨i,SB,g,C,q,V⟩=>H.apart i SB g b (N C) q V;have l:I.le<|TQ I μ gh w:=λb o h=>by
  unfold TQ;by_cases m:Ba μ gh b
  ·rw[(T b m).1]at h;cases h
  ·simp[m,h]
 have hJb:∀b,Ba μ gh b->TQ I μ gh w b=w.heap[b]?:=λb m=>by simp[TQ,m]
 have l7:∀b,Ba μ gh b->¬Ba μ bk b:=λb ⟨i,t,x,W,A,q3⟩ ⟨j,a,c,C,q,V⟩=>by
  have:=H.inj i j t a x c b (N W) (up C) A q q3 V;subst this;exact(h0 i<|C9 W).1 (C9 C)
 have n:No I μ gh [] w :=
  {Kp:=H.Kp,SB:=λi b h=>H.SB i b<|N h,apart:=λi b g k h=>H.apart i b g k<|N h,inj:=λi j t a x c b L Q=>H.inj i j t a x c b (N L)<|N Q,nodup:=.nil,PA:=λi L=>by cases L }
 have ne:No (TQ I μ gh w) μ bk [] w :=
  {Kp:=λb o h=>by
    by_cases m:Ba μ gh b
    ·rw[hJb b m]at h;exact h
    ·simp[TQ,m]at h;exact H.Kp b o h
   SB:=λi b S=>by
    let⟨g,C,q⟩:=H.SB i b<|up S;exact⟨g,C,q.mono l<|Mu.le_refl μ⟩
   apart:=λi b g B S G R=>by
    let⟨C,q⟩:=H.apart i b g B (up S) G R;refine⟨?_,q⟩;have:¬Ba μ gh B:=λm=>l7 B m ⟨i,b,g,S,G,R⟩;simp[TQ,this,C]
   inj:=λi j t a x c b L Q=>H.inj i j t a x c b (up L) (up Q)
   nodup:=.nil
   PA:=λi L=>by cases L }
 refine(hE (TQ I μ gh w) μ w xs ne<|zf I _ μ w n l (λi SB g b C q V=>hJb b ⟨i,SB,g,C,q,V⟩) _<|hx.mono l<|Mu.le_refl μ).mono (λu w' hu=>?_) λ_ _ h=>h;obtain⟨I',μ',r1,r2,r3,p⟩:=hu;obtain⟨ν,hν⟩:∃ν:Mu,ν=λi=>if i∈CB gh then μ i else μ' i:=⟨_,rfl⟩
 have y:∀i,i∈CB gh->ν i=μ i:=λi L=>by rw[hν];simp[L]
 have z:∀i,i∉CB gh->ν i=μ' i:=λi L=>by rw[hν];simp[L]
 have r:∀{i b},A2 (gh++a7) i b->A2 gh i b\/(i∉CB gh/\A2 a7 i b):=λh=>zf8 h;have zg:∀b,Ba μ gh b->w'.heap[b]?=w.heap[b]?:=λb R=>p.block b (T b R).2 (l7 b R);have zh:∀b,Ba μ gh b->∀i SB g,A2 a7 i SB->μ' i=some g->¬EY g b:=λb R i SB g C q V=>l7 b R<|p.fresh b (T b R).2 ⟨i,SB,g,C,q,V⟩;refine⟨I,ν,YV hd r1 (λi L g G=>by rw[z i λe=>(h0 i e).2.2 L];exact G),?_,?_,?_⟩
 ·refine { Kp:=λb o h=>r2.Kp b o<|p.Kp b o<|l b o h,SB:=λi b S=>?_,apart:=λi b g B S G R=>?_,inj:=λi j t a x c b L Q U M E F=>?_,nodup:=.nil,PA:=λi L=>by cases L }
  ·rcases r S with h|⟨s,h⟩
   ·let⟨g,W,A⟩:=n.SB i b h;refine⟨g,by rw[y i<|C9 h];exact W,?_⟩;exact(A.world λk hk=>zg k ⟨i,b,g,h,W,hk⟩).sub λj Q g' G=>by rw[y j<|rT i b h j Q];exact G
   ·let⟨g,W,A⟩:=r2.SB i b h;exact⟨g,by rw[z i s];exact W,YW (LK hs h) A⟩
  ·rcases r S with h|⟨s,h⟩
   ·rw[y i<|C9 h]at G;have:=T B ⟨i,b,g,h,G,R⟩;exact⟨this.1,Yj this.2 p.size⟩
   ·rw[z i s]at G;let⟨W,A⟩:=r2.apart i b g B h G R;refine⟨?_,A⟩;cases hI:I B with
    |none=>rfl
    |some o=>rw[p.Kp B o<|l B o hI]at W;cases W
  ·rcases r L with C|⟨hni,C⟩
   ·rw[y i<|C9 C]at U;rcases r Q with q|⟨hnj,q⟩
    ·rw[y j<|C9 q]at M;exact n.inj i j t a x c b C q U M E F
    ·rw[z j hnj]at M;exact absurd F (zh b ⟨i,t,x,C,U,E⟩ j a c q M)
   ·rw[z i hni]at U;rcases r Q with q|⟨hnj,q⟩
    ·rw[y j<|C9 q]at M;exact absurd E (zh b ⟨j,a,c,q,M,F⟩ i t x C U)
    ·rw[z j hnj]at M;exact r2.inj i j t a x c b C q U M E F
 ·intro i L v hv;by_cases e:i∈CB gh
  ·rw[y i e];exact hv
  ·rw[z i e];refine r3 i ?_ v hv;simp only[CB,CG,AT]at L e ⊢;exact L.resolve_left e
 ·refine { Kp:=TA.le_refl I,os:=p.os,tape:=p.tape,output:=p.output,size:=p.size,block:=λb R m=>p.block b R λh=>m ?_,fresh:=λb R ⟨i,SB,g,C,q,V⟩=>?_,gz:=λ_ _ _=>rfl }
  ·obtain⟨i,SB,g,C,q,V⟩:=h;exact⟨i,SB,g,up C,q,V⟩
  ·rcases r C with h|⟨s,h⟩
   ·rw[y i<|C9 h]at q;exact⟨_,_,_,N h,q,V⟩
   ·rw[z i s]at q;let⟨j,a,c,W,A,q3⟩:=p.fresh b R ⟨i,SB,g,h,q,V⟩;exact⟨j,a,c,up W,A,q3⟩
def W6 (h:eb I μ w g<|.row e sz es) (T:I.le J) (n:∀b,EY g b->J b=w.heap[b]?):PB J g<|.sl es:=by obtain⟨xs,L,r,M,N,u⟩:=h;rcases L.2 with⟨rfl,o⟩|⟨U,W,y,rfl,_,z,R,a,p,C⟩;have:es=[]:=Jb o;subst this;exact .slnil;have d:J U=some (.cells y e (0,0)):=(n U O).trans z;have q:∀(i:Nat) (c:G2) (j:Nat) (x:V),es[i]?=some c->c[j]?=some x->∃v,xs[i*sz+j]?=some v/\y[i*sz+j]?=some v/\PB I v x/\v.oneCell'=true:=by{intro i c j x D G;have l:=Dc M i c j x D G;have f:i*sz+j<xs.length:=by{rw[r.1];exact(A9.1 l).1};obtain⟨v,H⟩:∃v,xs[i*sz+j]?=some v:=⟨_,Bi f⟩;have m:=r.2 _ _ _ H l;refine⟨v,H,?_,m,?_⟩;rw[<- C,Ea]at H;split at H;simpa using H;cases H;have:=N c (AE D) x<|AE G;exact m.one this};refine .sl U 0 _ W sz es (λi j=>(y[i*sz+j]?).getD undef) O R a M (λi c j x D G=>?_) λi c j x D G=>?_;let⟨v,_,k,_,s⟩:=q i c j x D G;simp[TA.cell,d,k,s];let⟨v,_,k,t,_⟩:=q i c j x D G;simp only[k,ID];exact t.mono T
def zga {k r:Nat} {t:TypeId} {sz2:Nat} (L:No I μ st [] w) (f:A2 st k<|.cells t sz ds) (l:A2 st r<|.row e sz2 es) (M:I.le J) (m:∀i SB g b,A2 st i SB->μ i=some g->EY g b->J b=w.heap[b]?) (U:O9 (UA r es ds)=some xs) (V:X J μ v<|.ref k off):X J μ v<|.ip t xs off:=by obtain⟨B,C,E,b,h,rfl,D,z,N⟩:=L.SB k _ f;let⟨n,R,T⟩:=L.SB r _ l;have p:PB J n<|.sl es:=W6 T M λb s=>m r _ n b l R s;have W:J b=some (.cells h t (0,0)):=(m k _ _ b f C O).trans D;have u:TB J μ h.toList<|UA r es ds:=by{refine⟨by rw[HA,CD,z.1],λi v x V q=>?_⟩;rw[HA,Cx]at q;cases a:ds[i]? with|none=>rw[a]at q;cases q|some y=>{rw[a]at q;cases q;exact(z.2 i v y V a).xv M R p}};have c:Ts J h.toList xs:=Vs U u;cases V with|ref H id o A=>{rw[A]at C;cases C;have:=X.ip (I:=J) (μ:=μ) b 0 t xs off (λj=>(h[j]?).getD undef) (λj x q=>?_) λj x q=>?_;simpa using this;have G:j<h.toList.length:=by{rw[c.1];exact(A9.1 q).1};have d:h[j]?=some h.toList[j]:=by{simp};simp only[TA.cell,W,BU,d,ID,ax];exact N _<|K0 G;have G:j<h.toList.length:=by{rw[c.1];exact(A9.1 q).1};have d:h[j]?=some h.toList[j]:=by{simp};simp only[d,ID];exact c.2 j _ x (Bi G) q}
def tK (id j:Nat) (B:α->jz) (T:lk st id=some (some<|.hp A)) (e:∀vs I w z,A.P vs I w z->∃x C,(∀b∈C,b∈z)/\∀J,I.le J->(∀b∈z,b∉C->J b=w.heap[b]?)->(B x).P [] J w C) (h:∀x,ek P n F Q todo env ((j,some<|.hp<|B x)::(id,none)::st) Kr):ek P n F Q todo env st<|j::Kr:=by
 refine EQ λI μ a w R=>?_;obtain⟨g,U,vs,z,rfl,f⟩:=R.SB id _ T;let⟨x,C,V,i⟩:=e vs I w z f;have W:∀b∈z,I b=none/\b<w.heap.size:=λb D=>R.apart id _ _ b T U<|BB.2 D;obtain⟨r,G⟩:∃r,r=z.filter λb=>!F6 C b:=⟨_,rfl⟩
 have y:∀b,b∈r↔b∈z/\b∉C:=λb=>by rw[G,qP];simp[<- BK]
 have L:I.le<|I.plus r w:=λb o h=>by
  have:F6 r b=false:=by
   cases N:F6 r b with
   |false=>rfl
   |true=>rw[(W b ((y b).1 (BK.1 N)).1).1]at h;cases h
  simp[TA.plus,this,h]
 have k:=i (I.plus r w) L λb l m=>by simp[TA.plus,BK.2<|(y b).2 ⟨l,m⟩]
 let⟨c,s,u⟩:=No.jq (R:=[id]) (new:=[(j,XT [] C,.hp<|B x)]) (Kr:=Kr) (J:=I.plus r w) R.toNo
  (λp M H D=>by
   rw[AJ.1 M]at D;exact⟨id,_,_,by simp,T,U,BB.2<|V H<|BB.1 D⟩)
  (λp M q v b _ _=>by rw[AJ.1 M,AJ.1 v]) L
  (λb o h=>by
   unfold TA.plus at h
   split at h
   ·exact h
   ·exact R.Kp b o h)
  (λH o h=>by
   unfold TA.plus at h
   split at h
   ·rename_i N;have N:=(y H).1 (BK.1 N);refine .inr ⟨⟨id,_,_,by simp,T,U,BB.2 N.1⟩,λp M D=>?_⟩;rw[AJ.1 M]at D;exact N.2<|BB.1 D
   ·exact .inl h)
  (λ_ p M=>by
   rw[AJ.1 M];exact⟨[],C,rfl,k⟩)
 exact⟨_,_,env,_,Kr,s,λt d E=>(R.env t d E).mono L c,u,.of_le c,h x⟩
def Ml (l:L1 An):L1 An:=l.map λa=>.im true (cA a)<|vA a
def TY (l:N4):(Ml l).length=l.length:=by simp[Ml]
def aY:∀l:N4,CX (Ml l)=[]
 |[]=>rfl
 |a::r=>by have:=aY r;simp only[Ml]at this;simp[Ml,CX,Hu,this]
def fN:∀l:N4,HK (Ml l)=HK l
 |[]=>rfl
 |a::r=>by have:=fN r;simp only[Ml]at this;simp[Ml,HK,vA,this]
def zir {I J:TA} {w:World} (q:I.le J) {b:Nat}:∀{l:N4} {i:Nat},Eh I w true b i l->(∀k∈CX l,J k=w.heap[k]?)->Eh J w true b i (Ml l)
 |[],_,_,_=>by simp[Ml,Eh]
 |a::r,i,h,y=>by simp only[Eh]at h;simp only[CX,AT]at y;have C:=zir q (l:=r) (i:=i+1) h.2 λk z=>y k<|.inr z;simp only[Ml,CK,Eh]at C ⊢;have D:(vA a).length=Gl true:=by{have:=YC h.1.2.2;rw[this,h.1.1]};exact⟨⟨rfl,h.1.2.1,ST q h.1.2.2 λk z=>y k<|.inl z,eT h.1.2.2,D⟩,C⟩
def zj4 {C:K1} {n:Int} {ks:N4} {ps:N4} (h:(JW b<|.mk true o n x v ks u ps).P vs I w C):∃D,(∀k∈D,k∈C)/\∀J,I.le J->(∀k∈C,k∉D->J k=w.heap[k]?)->(JW b<|.mk true o n x v (Ml ks) u ps).P [] J w D:=by obtain⟨z,G,a,R,T,r⟩:=h;have U:Hu (.mk true o n x v (Ml ks) u ps)=CI v ks.length++(CI u ps.length++CX ps):=by{simp[Hu,aY,TY]};have V:Hu (.mk true o n x v ks u ps)=(CI v ks.length++CX ks)++(CI u ps.length++CX ps):=rfl;rw[V]at z;rw[z]at G;refine⟨b::(CI v ks.length++(CI u ps.length++CX ps)),λk q=>?_,λJ L H=>?_⟩;rw[z];simp only[Cu,AT]at q ⊢;rcases q with h|h|h|h;exact .inl h;exact .inr<|.inl<|.inl h;exact .inr<|.inr<|.inl h;exact .inr<|.inr<|.inr h;have y:(b::(CI v ks.length++(CI u ps.length++CX ps))).Sublist<|b::((CI v ks.length++CX ks)++(CI u ps.length++CX ps)):=by{refine List.Sublist.cons_cons b<|List.Sublist.append (List.sublist_append_left _ _)<|List.Sublist.refl _};simp only[KT]at r;refine⟨by rw[U],G.sublist y,rfl,R,T,?_⟩;simp only[KT,TY];refine⟨⟨r.1.1,zir L r.1.2 λk q=>H k (by rw[z];simp[q]) λhk2=>?_⟩,λ_=>⟨(r.2 ab).1,L9 L (r.2 ab).2⟩⟩;have M:=GI.1 G;have N:=D2.1 M.2;have W:=D2.1 N.1;rcases Cu.1 hk2 with rfl|hk2;exact M.1 (by simp[q]);rcases AT.1 hk2 with h|h;exact W.2.2 k h k q O;exact N.2.2 k (by simp[q]) k h O
def PI (l:E2):ia Tryz.f164.ntmps [] (IZ uK Tryz.f164.results.toList<|.ret (.own 4 (BP l).length) [(4,some<|.row 9 1<|BP l)]) [.inBlock 0,.code<|Ek Tryz.f164 3] [(5,.ref 1 0)] (gh l l.length) [7,8,9]:=by cases l with|nil=>{exact DM O<|K9 (e:=9) (sz:=1) 4 7 (by decide) O<|AV 4 7 O<|Ah ⟨_,AB⟩}|cons x r=>{have e:BP ((x::r).take<|(x::r).length)=BP (x::r):=by{rw[Df<|B6 _]};have h:gh (x::r) (x::r).length=[(1,some<|.cells 73 1 [.own 4 (BP<|x::r).length]),(4,some<|.row 9 1<|BP<|x::r)]:=by{simp only[C1,gh]at e ⊢;rw[e]};rw[h];exact DM O<|Ah ⟨_,AB⟩}
def jQ (op n:Int) (x:Z) (ks:G1) (ps:E1) (q:Int) (V:q<=1000000) (W:Bv op q=false->Ca op q=true->∃p,ps[(q-1).toNat]?=some p/\(BM p).length<=1000000):ed 164 [.ip 49 (dTmc<|.mk op n x ks ps) 0,i7 q] []<|.ret (.own 4 (BP<|Ai (.mk op n x ks ps) q).length) [(4,some<|.row 9 1<|BP<|Ai (.mk op n x ks ps) q)]:=by refine Ae Cp func164 O [1,6,7,8,9]<|DM O ?_;cases h:Bv op q with|true=>have e:Ai (.mk op n x ks ps) q=[x]:=by{simp[Ai,h]};rw[e];refine FJ (bk:=[]) (fr:=[6]) [] [(6,6)] O (by simp) (X5 op n x ks ps q h) ab O O O O<|DM O<|E3 (y:=3) (j:=4) (j2:=5) (lp:=SQ<|.mk op n x ks ps) (l5:=SQ<|.mk op n x ks ps) (jm:=gh [x] 0) (io:=gh [x] 1) (b0:=none) (E:=[(5,.ref 1 0)]) (Kr:=[7,8,9]) (d:=.cg []) O func231 (by decide +kernel) O (by decide) AD (Cz AL) (λL C y G H M N R=>aW (r:=true) (.mk op n x ks ps)<|.cons (TN [x] (by simp) 0 (.mk op n x ks ps) O C y G H M N R)<|.nil _) ?_ ?_ ?_ ?_ (PI [x]);simp[SQ,gh,CB];simp[SQ,CB];intro i r;have e:FO (EX (DW<|AZ []++[(6,6)]) []++EX (DW<|AZ []++[(6,6)]) [.ref 6 0])=[6]:=rfl;rw[e]at r;simpa[SQ,CB,DB,KU,FO,GH]using r;refine⟨by decide,?_⟩;simp[gh,OS,GH,DB,KU,FO,CB]|false=>{cases y:Ca op q with|true=>let⟨p,z,T⟩:=W h y;have e:Ai (.mk op n x ks ps) q=BM p:=by{show(if Bv op q then[x]else if Ca op q then(match ps[(q-1).toNat]? with|some p=>BM p|none=>[])else[])=BM p;rw[h,y,z];rfl};rw[e];refine FJ (bk:=[]) (fr:=[6]) [] [(6,6)] O (by simp) (aV op n x ks ps q h y p z V) ab O O O O<|DM O<|E3 (y:=3) (j:=4) (j2:=5) (lp:=Rz p) (l5:=Rz p) (jm:=gh (BM p) 0) (io:=gh (BM p) (BM p).length) (b0:=none) (E:=[(5,.ref 1 0)]) (Kr:=[7,8,9]) (d:=.cg []) O func273 (by decide +kernel) O (by decide) AD (Cz AL) (λL C y G H M N R=>Z0 (b:=true) p ?_) ?_ ?_ ?_ ?_ (PI<|BM p);have:=Yields.all (P:=prog) (l:=IT p) (λi=>Cl L (gh (BM p) i) none) λi d r=>by{rw[Lf,Cx]at r;cases U:(DH p)[i]? with|none=>rw[U]at r;cases r|some u=>{rw[U]at r;cases r;exact TO (BM p) T i u (by simp[BM,U]) C y G H M N R}};have a:(IT p).length=(BM p).length:=by{simp[Lf,BM]};rw[a]at this;exact this;cases(BM p).length<;>simp[Rz,gh,CB];simp[Rz,CB];intro i r;have e:FO (EX (DW<|AZ []++[(6,6)]) []++EX (DW<|AZ []++[(6,6)]) [.ref 6 0])=[6]:=rfl;rw[e]at r;simpa[Rz,CB,DB,KU,FO,GH]using r;refine⟨by decide,?_⟩;cases(BM p).length<;>simp[gh,OS,GH,DB,KU,FO,CB]|false=>{have e:Ai (.mk op n x ks ps) q=[]:=by{simp[Ai,h,y]};rw[e];refine FJ (bk:=[]) (fr:=[]) [] [] O (by simp) (X6 op n x ks ps q h y) ab O O O O<|DM O<|UT 9 O<|E3 (y:=3) (j:=4) (j2:=5) (lp:=[]) (l5:=[]) (jm:=gh [] 0) (io:=gh [] 0) (b0:=none) (E:=[(5,.ref 1 0)]) (Kr:=[7,8,9]) (d:=.cg []) O func233 (by decide +kernel) O (by decide) AD (Cz AD) (λL C y G H M N R=>SR) ?_ ?_ ?_ ?_ (PI []);simp[CB];simp[CB];intro i r;have e:FO (([]:R1)++[])=[]:=rfl;rw[e]at r;simp[DB]at r;refine⟨by decide,?_⟩;simp[gh,OS,GH,DB,KU,FO,CB]}}
def zQ {H:K1} {a:An} (h:(JW b a).P vs I w H) (C:I.le J) (L:∀k∈H,J k=w.heap[k]?) (T:X J μ v<|.eR<|.pointer<|some ⟨b,0,none⟩):X J μ v<|.ip 49 (vA a) 0:=by obtain⟨M,i,l,m,⟨r,U,k,W,d⟩,N⟩:=h;have R:Ts J (cA a)<|vA a:=ST C N λk f=>L k (by rw[M];simp[f]);have g:J b=some (.cells r U k):=(L b (by rw[M];simp)).trans W;have e:=T.hM;subst e;have q:∀(j:Nat) (x:V),(vA a)[j]?=some x->∃c,(cA a)[j]?=some c/\r[j]?=some c:=λj x y=>by{have z:j<(cA a).length:=by{rw[R.1];exact(A9.1 y).1};refine⟨_,Bi z,?_⟩;have:=d j _<|Bi z;simpa using this};have:=X.ip (I:=J) (μ:=μ) b 0 49 (vA a) 0 (λj=>(r[j]?).getD undef) (λj x y=>?_) λj x y=>?_;simpa using this;let⟨c,D,G⟩:=q j x y;simp only[TA.cell,g,BU,G,ID,ax];exact eT N c<|AE D;let⟨c,D,G⟩:=q j x y;simp only[G,ID];exact R.2 j c x D y
mutual
def Ef:Tm->L1 Z->L1 Z
 |.mk h n x ks ps,m=>FV (.mk h n x ks ps) 0 ks (if h=4 then HM m x else m)
def FV (t:Tm):Nat->L1 Tm->L1 Z->L1 Z
 |_,[],m=>m
 |i,k::r,m=>FV t (i+1) r<|Ef k<|(Ai t i).foldl HM m
end
def uA {op n:Int} {h:Int} (q:Bv op h=false->Ca op h=true->∃p,ps[(h-1).toNat]?=some p/\(BM p).length<=1000000):(Ai (.mk op n x ks ps) h).length<=1000000:=by simp only[Ai];split;simp;rename_i r;split;rename_i y;let⟨p,z,C⟩:=q (by simpa using r) y;rw[z];exact C;simp
def zju (t:Tm) (m:L1 Z):Prop:=ed 165 [.Kp<|.agg<|dTmc t,.cf 1] [(1,some<|.map<|Dp m)]<|.ret (.cg []) [(1,some<|.map<|Dp<|Ef t m)]
def V0:∀(t:Tm) (m:E2),Ig t->zju t m
 |.mk q n x ks ps,m,R=>by unfold zju;obtain⟨d,G,T⟩:=R;refine Ae BC func165 O [2,3,4,5,6] ?_;have D:∀L,Ef (.mk q n x ks ps) m=FV (.mk q n x ks ps) 0 ks L->ia Tryz.f165.ntmps (CB [(1,some<|.map<|Dp m)]) (IZ nW Tryz.f165.results.toList<|.ret (.cg []) [(1,some<|.map<|Dp<|Ef (.mk q n x ks ps) m)]) [.code<|Ek Tryz.f165 2] [(2,.ref 2 0),(1,.cf 1)] [(2,some<|.NA 49 5<|dTmc<|.mk q n x ks ps),(1,some<|.map<|Dp L)] [3,4,5,6]:=λL U=>by{refine BD O<|IK 2 O O<|Ak (λy:Nat×E2=>[(17,i7 y.1),(16,i7 ks.length),(15,.Kp<|.sl<|Ci ks),(1,.cf 1),(2,.ip 49 (dTmc<|.mk q n x ks ps) 0)]) (λy=>[(1,some<|.map<|Dp y.2)]) [3,4,5,6] (λy=>ks.length-y.1) (λy=>y.1<=ks.length/\Ef (.mk q n x ks ps) m=FV (.mk q n x ks ps) y.1 (ks.drop y.1) y.2) (0,L) ⟨AK _,U⟩ ⟨rfl,B2<|by simp,AB⟩ AD O λy f g=>?_;obtain⟨i,V⟩:=y;obtain⟨W,C⟩:=f;simp only at W C;refine BD O<|Aa O (λh=>?_) λh=>?_;simp at h;let⟨k,M⟩:=Aq h;rw[Av M]at C;have l:(Ai (.mk q n x ks ps) i).length<=1000000:=uA<|G i h;refine BD O<|zqk O (Ec M)<|Cb O<|Ac O (wT q n x ks ps i (by omega)<|G i h)<|Cb O<|Ak (λz:Nat×E2=>[(25,i7 z.1),(24,i7<|(Ai (.mk q n x ks ps) i).length),(23,.Kp<|.sl<|BP<|Ai (.mk q n x ks ps) i),(5,.ref 3 0),(17,i7 i),(16,i7 ks.length),(15,.Kp<|.sl<|Ci ks),(1,.cf 1),(2,.ip 49 (dTmc<|.mk q n x ks ps) 0)]) (λz=>[(3,some<|.NA 49 5<|dTmc k),(1,some<|.map<|Dp z.2)]) [4,5,6] (λz=>(Ai (.mk q n x ks ps) i).length-z.1) (λz=>z.1<=(Ai (.mk q n x ks ps) i).length/\(Ai (.mk q n x ks ps) i).foldl HM V=((Ai (.mk q n x ks ps) i).drop z.1).foldl HM z.2) (0,V) ⟨AK _,rfl⟩ ⟨rfl,B2<|by simp,MT⟩ AL O λz o a=>?_;obtain⟨j,H⟩:=z;obtain⟨b,r⟩:=o;simp only at b r;refine BD O<|Aa O (λN=>?_) λN=>?_;simp at N;let⟨s,c⟩:=Aq N;rw[Av c]at r;refine BD O<|o0 O (c:=[.str s]) (λ_=>⟨by simp,by simpa using Gf c,rfl⟩) (by simp)<|Cb O<|Ey BC O O O (Da H)<|Cb O ?_;rw[MR];exact Ad (a (j+1,HM H s) (by simp only;omega) ⟨by simp only;omega,r⟩) ⟨B2<|Gi (by simp only;omega) (by simp only;omega),JG⟩ AL O;simp at N;rw[Bt<|by omega]at r;have r:(Ai (.mk q n x ks ps) i).foldl HM V=H:=r;exact Aw O<|BD O<|Af O (V0 k H<|Kn T<|AE M) Az O<|Cb O<|Ad (g (i+1,Ef k H) (by simp only;omega) ⟨by simp only;omega,by simp only;rw[C];simp only[FV];rw[r]⟩) ⟨Bc,B9⟩ AD O;simp at h;rw[Bt<|by omega]at C;refine Aw O<|BD O ?_;rw[C];exact Bq ⟨[],AB⟩};refine Cb O<|Aa O (λh=>?_) λh=>?_;have e:q=4:=by{simpa using h};refine BD O<|Ey BC O O O (Da m) ?_;rw[MR];exact PP<|Ad (D (HM m x)<|by simp[Ef,e]) AL AL O;have e:¬q=4:=by{simpa using h};exact Fe<|Ad (D m<|by simp[Ef,e]) AL AL O
termination_by t=>SizeOf.sizeOf t
decreasing_by all_goals(have:=C8<|AE M;simp_wf;omega)
def zms (o n:Int) (x:Z) (v u:Value):D:=.agg [.Kp<|.int .i64 o,.Kp<|.int .i64 n,.Kp<|.str x,.eR v,.eR u]
def oW {G:K1} {n:Int} {ks:N4} {ps:N4} {y:Value} (h:(JW b<|.mk true o n x v ks u ps).P vs I w G) (D:I.le J) (L:∀k∈G,J k=w.heap[k]?) (M:X J μ y<|zms o n x v u):X J μ y<|.Kp<|.agg<|vA<|.mk true o n x v ks u ps:=by obtain⟨N,t,A,B,E,R⟩:=h;have H:Ts J (cA<|.mk true o n x v ks u ps)<|vA<|.mk true o n x v ks u ps:=ST D R λk T=>L k (by rw[N];simp[T]);cases M with|agg cs ds U r q=>{have C:cs.toList=cA (.mk true o n x v ks u ps):=by{obtain⟨cs⟩:=cs;match cs,U with|[V,W,a,d,e],_=>{have f:=(q 0 V _ O O).Ks.da;have g:=(q 1 W _ O O).Ks.da;have j:=bM<|q 2 a _ O O;have l:=(q 3 d _ O O).hM;have m:=(q 4 e _ O O).hM;rw[f,g,j,l,m];rfl}};refine .Kp _ _<|.agg cs _ (by rw[<- H.1,<- C];simp) r λi c z p s=>H.2 i c z ?_ s;rw[<- C];simpa using p}
mutual
def EM:Y->Nat->Z->Y
 |.mk s n y ps,j,x=>if s=2 then(match j with|0=>.mk s n x ps|j+1=>.mk s n y<|EV ps j x)else .mk s n y<|EV ps j x
def EV:L1 Y->Nat->Z->L1 Y
 |[],_,_=>[]
 |t::r,j,x=>if j<(DH t).length then EM t j x::r else t::EV r (j-(DH t).length) x
end
mutual
def LS:∀(a:An) (t:Y),nO a->vA a=As t->(ea a).length=(DH t).length
 |.im _ _ _,_,h,_=>h.elim
 |.mk s o n x v ks u ps,.mk D G H z,q,y=>by obtain⟨rfl,_,_,r⟩:=q;simp only[vA,As,Cr,V.sl.injEq,V.int.injEq,ax]at y;obtain⟨rfl,_,_,C,_⟩:=y;have:=Tx ks z 0 r C;simp only[ea,DH,Bo,this];by_cases h:o=2<;>simp[h]
def Tx:∀(l:N4) (ts:E1) (i:Nat),Q6 l->HK l=A3 ts->(ea.fg i l).length=(CJ ts).length
 |[],[],_,_,_=>rfl
 |[],_::_,_,_,h=>by simp[HK,A3]at h
 |_::_,[],_,_,h=>by simp[HK,A3]at h
 |a::r,t::q,i,y,h=>by simp only[HK,A3,Cr]at h;simp only[ea.fg,CJ,Bo,CD,LS a t y.1 h.1,Tx r q (i+1) y.2 h.2]
end
mutual
def zem:∀(a:An) (t:Y),nO a->vA a=As t->∀(j:Nat) (p:HN) (x:Z),(ea a)[j]?=some p->∀(b off:Nat) (a':An) (H q:Nat),D3 a b off p=some (a',H,q)->vA (I9 a p<|gI a' x)=As (EM t j x)
 |.im _ _ _,_,h,_,_,_,_,_,_,_,_,_,_,_=>h.elim
 |.mk s o n y v ks u ps,.mk f g i T,M,N,j,p,x,z,b,off,a',H,q,L=>by obtain⟨rfl,_,_,R⟩:=M;have d:=N;simp only[vA,As,Cr,V.sl.injEq,V.int.injEq,V.str.injEq,ax]at N;obtain⟨rfl,rfl,rfl,U,_⟩:=N;have C:∀j,(ea.fg 0 ks)[j]?=some p->vA (I9 (.mk false o n y v ks u ps) p<|gI a' x)=As (.mk o n y<|EV T j x):=λj e=>by{obtain⟨k,c,r,rfl,W,D⟩:=vM ks T 0 R U j p x e;simp only[D3,Eg,BU,W,FQ]at L;have:=D _ _ _ _ _ L;simp only[I9,Eg,BU,W,FQ,OA,vA,As,this]};simp only[ea]at z;by_cases G:o=2;rw[ae G]at z;cases j with|zero=>simp at z;subst z;simp only[D3,Co,AP]at L;obtain⟨rfl,_,_⟩:=L;simp[EM,G,I9,gI,vA,As,U]|succ j=>{simp only[PG,Nm]at z;rw[C j z];simp[EM,G]};rw[ac G]at z;rw[C j z];simp[EM,G]
def vM:∀(l:N4) (ts:E1) (i:Nat),Q6 l->HK l=A3 ts->∀(j:Nat) (p:HN) (x:Z),(ea.fg i l)[j]?=some p->∃k c r,p=(false,i+k)::r/\l[k]?=some c/\∀(b off:Nat) (D:An) (H y:Nat),D3 c b off r=some (D,H,y)->HK (l.set k<|I9 c r<|gI D x)=A3 (EV ts j x)
 |[],_,_,_,_,_,_,_,h=>by simp[ea.fg]at h
 |_::_,[],_,_,h,_,_,_,_=>by simp[HK,A3]at h
 |a::r,t::q,i,C,h,j,p,x,G=>by simp only[HK,A3,Cr]at h;have z:=LS a t C.1 h.1;simp only[ea.fg]at G;by_cases M:j<(ea a).length;rw[M2<|by simpa using M,Cx]at G;obtain⟨T,N,rfl⟩:=E9.1 G;refine⟨0,a,T,rfl,rfl,λb off D H y R=>?_⟩;have:=zem a t C.1 h.1 j T x N b off D H y R;simp only[Sf,HK,EV,ae<|z▸M,A3,this,h.2];rw[Ky (by simp;omega)]at G;simp only[CD]at G;obtain⟨k,c,U,rfl,V,L⟩:=vM r q (i+1) C.2 h.2 _ p x G;refine⟨k+1,c,U,by rw[show i+(k+1)=i+1+k by omega],by simpa using V,λb off D H y R=>?_⟩;have:=L b off D H y R;simp only[PC,HK,EV,h.1,<- z,this,ac M,A3]
end
mutual
def er:An->An
 |.mk s o n _ v ks u ps=>.mk s o n [] v (Re ks) u (Re ps)
 |.im s _ _=>.im s [] []
def Re:L1 An->L1 An
 |[]=>[]
 |a::r=>er a::Re r
end
def IX:∀l:N4,Re l=l.map er
 |[]=>rfl
 |a::r=>by simp[Re,IX r]
def JO (l:N4):(Re l).length=l.length:=by rw[IX];simp
def eJ {l:N4} {a:An} (h:l[i]?=some a):(Re l)[i]?=some (er a):=by rw[IX,Cx,h];rfl
def zlp {l:N4} {c:An} (h:(Re l)[i]?=some c):∃a,l[i]?=some a/\er a=c:=by rw[IX,Cx]at h;exact E9.1 h
mutual
def cm:=@Iff.rfl
def zoc:∀a:An,nO (er a)↔nO a
 |.im _ _ _=>cm
 |.mk s o n x v ks u ps=>by have h:Re ks=[]↔ks=[]:=by{cases ks<;>simp[Re]};simp only[er,nO,Nc ks,JO,h]
def Nc:∀l:N4,Q6 (Re l)↔Q6 l
 |[]=>cm
 |a::r=>by simp only[Re,Q6,zoc a,Nc r]
end
mutual
def Xc:∀a:An,M6 (er a)↔M6 a
 |.im _ _ _=>cm
 |.mk s o n x v ks u ps=>by simp only[er,M6,Hb ks,Hb ps]
def Hb:∀l:N4,DY (Re l)↔DY l
 |[]=>cm
 |a::r=>by simp only[Re,DY,Xc a,Hb r]
end
mutual
def Zi:∀a:An,ea (er a)=ea a
 |.im _ _ _=>rfl
 |.mk s o n x v ks u ps=>by simp only[er,ea,Tz ks 0]
def Tz:∀(l:N4) (i:Nat),ea.fg i (Re l)=ea.fg i l
 |[],_=>rfl
 |a::r,i=>by simp only[Re,ea.fg,Zi a,Tz r<|i+1]
end
mutual
def oJ {I:TA} {w:World}:∀(a:An) (b off:Nat),pm I w (er a) b off↔pm I w a b off
 |.im _ _ _,_,_=>cm
 |.mk s o n x v ks u ps,b,off=>by simp only[er,pm,gG ks]
def gG {I:TA} {w:World}:∀(l:N4) (b i:Nat),oI I w b i (Re l)↔oI I w b i l
 |[],_,_=>cm
 |a::r,b,i=>by simp only[Re,oI,oJ a,gG r]
end
def zk3 (a:An) (p:Bool×Nat):Eg (er a) p=(Eg a p).map λr=>(er r.1,r.2.1,r.2.2):=by rcases a with⟨s,o,n,x,v,ks,u,ps⟩|⟨q,h,y⟩;(case im=>rfl);obtain⟨r,k⟩:=p;cases r with|false=>simp only[er,Eg,IX,Cx];cases ks[k]?<;>rfl|true=>{cases s with|false=>rfl|true=>{simp only[er,Eg,IX,Cx];cases ps[k]?<;>rfl}}
def Og:∀(p:HN) (a:An) (b off:Nat),D3 (er a) b off p=(D3 a b off p).map λr=>(er r.1,r.2.1,r.2.2)
 |[],a,b,off=>rfl
 |q::r,a,b,off=>by simp only[D3,zk3];cases Eg a q with|none=>rfl|some y=>{exact Og r y.1 y.2.1 y.2.2}
def zlq (a c d:An) (p:Bool×Nat) (b off:Nat) (h:Eg a p=some (c,b,off)) (z:er d=er c):er (OA a p d)=er a:=by have st:∀{l:N4} {k:Nat},l[k]?=some c->Re (l.set k d)=Re l:=by{intro l k y;rw[IX,IX,IU,z];apply QI;intro i;rw[dA];split;rename_i e;subst e;rw[Cx,y];simp;exact(A9.1 y).1;rfl};rcases a with⟨s,o,n,x,v,ks,u,ps⟩|⟨G,C,H⟩;(case im=>simp[Eg]at h);obtain⟨r,k⟩:=p;cases r with|false=>simp only[Eg,E9,AP]at h;obtain⟨D,q,rfl,_,_⟩:=h;simp only[OA,er,st q]|true=>{cases s with|true=>simp only[Eg,E9,AP]at h;obtain⟨D,q,rfl,_,_⟩:=h;simp only[OA,er,st q]|false=>{simp[Eg]at h}}
def UR:∀(p:HN) (a:An) (b off:Nat) (a':An) (H y:Nat) (a2:An),D3 a b off p=some (a',H,y)->er a2=er a'->er (I9 a p a2)=er a
 |[],a,b,off,a',H,y,a2,h,C=>by simp only[D3,Co,AP]at h;obtain⟨rfl,_,_⟩:=h;exact C
 |q::r,a,b,off,a',H,y,a2,h,C=>by simp only[D3]at h;simp only[I9];split at h;rename_i c D z G;exact zlq a c _ q D z G<|UR r c D z a' H y a2 h C;cases h
mutual
def zg9:∀(a:An) (t:Y),nO a->vA a=As t->∀(j:Nat) (p:HN),(ea a)[j]?=some p->∀(b off:Nat) (a':An) (H q:Nat),D3 a b off p=some (a',H,q)->∃s o n x v ks u ps,a'=.mk s o n x v ks u ps/\(BM t)[j]?=some x
 |.im _ _ _,_,h,_,_,_,_,_,_,_,_,_,_=>h.elim
 |.mk s o n y v ks u ps,.mk e f g R,M,T,j,p,z,b,off,a',H,q,L=>by obtain⟨rfl,_,_,N⟩:=M;simp only[vA,As,Cr,V.sl.injEq,V.int.injEq,V.str.injEq,ax]at T;obtain⟨rfl,rfl,rfl,U,_⟩:=T;have C:∀j,(ea.fg 0 ks)[j]?=some p->∃s o n x v ks u ps,a'=.mk s o n x v ks u ps/\((CJ R).map Fk)[j]?=some x:=λj W=>by{obtain⟨k,c,r,rfl,d,D⟩:=xJ ks R 0 N U j p W;simp only[D3,Eg,BU,d,FQ]at L;exact D _ _ _ _ _ L};simp only[ea]at z;simp only[BM,DH];by_cases G:o=2;rw[ae G]at z;have i:(o==2)=true:=by{simp[G]};simp only[G,aw,PG,CK];cases j with|zero=>simp at z;subst z;simp only[D3,Co,AP]at L;obtain⟨rfl,_,_⟩:=L;exact⟨_,_,_,_,_,_,_,_,rfl,by simp[Fk]⟩|succ j=>{simp only[PG,Nm]at z ⊢;exact C j z};rw[ac G]at z;simp only[G,aq,JJ];exact C j z
def xJ:∀(l:N4) (ts:E1) (i:Nat),Q6 l->HK l=A3 ts->∀(j:Nat) (p:HN),(ea.fg i l)[j]?=some p->∃k c r,p=(false,i+k)::r/\l[k]?=some c/\∀(b off:Nat) (a':An) (H y:Nat),D3 c b off r=some (a',H,y)->∃s o n x v ks u ps,a'=.mk s o n x v ks u ps/\((CJ ts).map Fk)[j]?=some x
 |[],_,_,_,_,_,_,h=>by simp[ea.fg]at h
 |_::_,[],_,_,h,_,_,_=>by simp[HK,A3]at h
 |a::r,t::q,i,z,h,j,p,C=>by simp only[HK,A3,Cr]at h;have D:=LS a t z.1 h.1;simp only[ea.fg]at C;by_cases U:j<(ea a).length;rw[M2<|by simpa using U,Cx]at C;obtain⟨T,L,rfl⟩:=E9.1 C;refine⟨0,a,T,rfl,rfl,λb off a' H y M=>?_⟩;let⟨s,o,n,x,v,ks,u,ps,N,R⟩:=zg9 a t z.1 h.1 j T L b off a' H y M;refine⟨s,o,n,x,v,ks,u,ps,N,?_⟩;simp only[CJ,CG];rw[M2 (by simp;omega)];exact R;rw[Ky (by simp;omega)]at C;simp only[CD]at C;obtain⟨k,c,V,rfl,W,G⟩:=xJ r q (i+1) z.2 h.2 _ p C;refine⟨k+1,c,V,by rw[show i+(k+1)=i+1+k by omega],by simpa using W,λb off a' H y M=>?_⟩;let⟨s,o,n,x,v,ks,u,ps,N,R⟩:=G b off a' H y M;refine⟨s,o,n,x,v,ks,u,ps,N,?_⟩;simp only[CJ,CG];rw[Ky (by simp;omega)];simpa[<- D]using R
end
def bp:An->Int->L1 HN
 |.mk _ o _ _ _ _ _ h,i=>bif Bv o i then[[]]else bif Ca o i then(match h[(i-1).toNat]? with
  |some q=>(ea q).map ((true,(i-1).toNat)::·)
  |none=>[])else[]
 |.im _ _ _,_=>[]
def X4 (a:An) (i:Int):bp (er a) i=bp a i:=by rcases a with⟨s,o,n,x,v,ks,u,ps⟩|⟨r,h,y⟩;simp only[er,bp,IX,Cx];cases ps[(i-1).toNat]? with|none=>rfl|some q=>{simp[Zi]};rfl
def w7 (b:Nat) (a:An) (p:HN):D:=match D3 a b 0 p with
 |some (_,H,h)=>.eR (ptr H<|Ez h 2)
 |none=>.undef
def E5:Tm->Int->Nat->Z->Tm
 |.mk h n y ks ps,i,j,x=>if Bv h i then .mk h n x ks ps else if Ca h i then(match ps[(i-1).toNat]? with
  |some p=>.mk h n y ks (ps.set (i-1).toNat<|EM p j x)
  |none=>.mk h n y ks ps)else .mk h n y ks ps
def pn:An->Prop
 |.mk s _ _ _ _ _ _ h=>s=true/\Q6 h
 |.im _ _ _=>False
def Na (a:An):pn (er a)↔pn a:=by cases a with|mk s o n x v ks u ps=>simp only[er,pn,Nc]|im=>{exact cm}
def zcj {l:E1} {c:Y}:A3 (l.set i c)=(A3 l).set i (As c):=by simp[DC,IU]
def aM {l:E1} {c:Y} (h:l[i]?=some c):(A3 l)[i]?=some (As c):=by simp[DC,h]
def VS {a:An} (y:nO a) (b off:Nat) {p:HN} (h:(ea a)[j]?=some p):∃a' H q,D3 a b off p=some (a',H,q)/\(Le a b off)[j]?=some (.eR<|ptr H<|Ez q 2):=by have r:j<(Le a b off).length:=by{rw[Qu];exact(A9.1 h).1};let⟨G,a',H,q,z,C,D,_⟩:=vU a b off y j _<|Bi r;rw[h]at z;cases z;exact⟨a',H,q,C,by rw[Bi r,D]⟩
def UV {a:An} (M:pn a) (d:vA a=dTmc t) {i:Int} {p:HN} (h:(bp a i)[j]?=some p) (b:Nat):∃s o n x v ks u ps H r,D3 a b 0 p=some (.mk s o n x v ks u ps,H,r)/\(Ai t i)[j]?=some x/\∀y,vA (I9 a p<|.mk s o n y v ks u ps)=dTmc (E5 t i j y):=by rcases a with⟨s,o,n,x,v,ks,u,g⟩|⟨S,w,c0⟩;(case im=>exact M.elim);obtain⟨op,tn,tx,A,N⟩:=t;obtain⟨rfl,B⟩:=M;have E:=d;simp only[vA,dTmc,Cr,V.int.injEq,V.str.injEq,V.sl.injEq,ax,be]at d;obtain⟨rfl,rfl,rfl,k,W⟩:=d;simp only[bp]at h;cases C:Bv o i with|true=>{simp only[C,az]at h;cases j with|succ j=>simp at h|zero=>{simp at h;subst h;exact⟨_,_,_,_,_,_,_,_,b,0,rfl,by simp[Ai,C],λy=>by simp[I9,vA,E5,C,dTmc,k,W]⟩}}|false=>{cases c:Ca o i with|false=>simp[C,c]at h|true=>{simp only[C,c,az,bf]at h;cases D:g[(i-1).toNat]? with|none=>simp only[D]at h;simp at h|some q=>{simp only[D,Cx]at h;obtain⟨m,G,rfl⟩:=E9.1 h;have z:=Nb B D;obtain⟨R,L⟩:∃R,N[(i-1).toNat]?=some R:=by{have T:g.length=N.length:=by{have:=af List.length W;simpa using this};exact Aq (by rw[<- T];exact(A9.1 D).1)};have U:vA q=As R:=by{have:=af (λl=>l[(i-1).toNat]?) W;simp only[bH D,aM L]at this;exact Lk this};let⟨a',H,r,T,_⟩:=VS z (BG u) ((i-1).toNat*4) G;obtain⟨s,F,I,J,K,e,P,f,rfl,Q⟩:=zg9 q R z U j m G _ _ _ _ _ T;refine⟨s,F,I,J,K,e,P,f,H,r,?_,?_,λy=>?_⟩;simp only[D3,Eg,D,FQ];exact T;simp only[Ai,C,c,L,aw,En,aq];exact Q;have:=zem q R z U j m y G _ _ _ _ _ T;simp only[gI]at this;simp only[I9,Eg,D,FQ,OA,vA,E5,C,c,L,aw,En,aq,dTmc,k];congr 5;rw[IQ,IU,<- IQ,this,W,zcj]}}}
def DT (b:Nat) (sk:An) (t:Tm):jz where
 P:=λvs I w bs=>∃a,er a=sk/\vA a=dTmc t/\(JW b a).P vs I w bs
 mono:=λh ⟨a,h1,h2,h3⟩=>⟨a,h1,h2,(JW b a).mono h h3⟩
 loc:=λh ⟨a,h1,h2,h3⟩=>⟨a,h1,h2,(JW b a).loc h h3⟩
def oX {q:An} (r:pn q) {i:Int} {p:HN} (C:(bp q i)[j]?=some p) {a0:An} {h:Nat} (y:D3 q b 0 p=some (a0,H,h)) (R:(Ai t i)[j]?=some x):∀vs I w D,(DT b q t).P vs I w D->DU I w H (Ez h 2) [.Kp<|.str x]:=by rintro vs I w D ⟨a,rfl,T,G⟩;rw[X4]at C;let⟨s,o,n,U,v,ks,u,ps,V,L,M,N,_⟩:=UV ((Na a).1 r) T C b;rw[R]at N;cases N;rw[Og,M]at y;simp only[FQ,Co,AP]at y;obtain⟨_,rfl,rfl⟩:=y;have z:=(dH M G.2.2.2.2.1 G.2.2.2.2.2).1;exact Hq z (i:=2) (c:=OB x) (by cases s<;>rfl) O<|.Kp _ _<|.encStr _ _
def gW {q:An} (r:pn q) {i:Int} {p:HN} (D:(bp q i)[j]?=some p) {a0:An} {h:Nat} (y:D3 q b 0 p=some (a0,H,h)) (x:Z):R4 (DT b q t) (DT b q<|E5 t i j x) H (Ez h 2) [.Kp<|.str x]:=by rintro vs I w L ⟨a,rfl,M,N⟩;rw[X4]at D;let⟨s,o,n,f,v,ks,u,ps,g,G,z,_,R⟩:=UV ((Na a).1 r) M D b;rw[Og,z]at y;simp only[FQ,Co,AP]at y;obtain⟨_,rfl,rfl⟩:=y;let⟨T,C,U,V,W,c⟩:=nX x z vs I w L N;exact⟨T,C,U,V,W,λcs d e=>⟨_,UR p a b 0 _ _ _ _ z<|by simp[er],R x,c cs d e⟩⟩
def VH {q:An} {op n:Int} (h:pn q):bW (DT b q<|.mk op n x ks ps) b op:=by rintro vs I w C ⟨a,rfl,r,y⟩;have h:=(Na a).1 h;rcases a with⟨s,o,n,x,v,ks,u,D⟩|⟨G,z,H⟩;(case im=>exact h.elim);obtain⟨rfl,_⟩:=h;simp only[vA,dTmc,Cr,V.int.injEq,ax]at r;obtain⟨rfl,_⟩:=r;have:=Hq (I:=I) y.2.2.2.2.1 (i:=0) (c:=.int .i64 o) O O<|.Kp _ _<|.int _ _;simpa[Hs]using this
def LM {n:Int} {ks:N4} {H:N4} {L:K1} (h:(DT b (.mk true o n x v ks u H) t).P vs I w L):DU I w b 3 [.eR v]/\DU I w b 4 [.eR u]:=by obtain⟨a,q,V,r⟩:=h;rcases a with⟨s,W,c,d,M,N,R,T⟩|⟨e,U,f⟩;(case im=>simp[er]at q);simp only[er,An.mk.injEq]at q;obtain⟨rfl,rfl,rfl,_,rfl,_,rfl,_⟩:=q;have y:=r.2.2.2.2.2;simp only[KT]at y;have z:=I7 y.1.1;have C:=I7 (y.2 ab).1;have D:=Hq (I:=I) r.2.2.2.2.1 (i:=3) (c:=M) O z<|.eR _ z;have G:=Hq (I:=I) r.2.2.2.2.1 (i:=4) (c:=R) O C<|.eR _ C;simp only[Hs,BU]at D G;exact⟨D,G⟩
def Ha (n:Nat):Z:=if n<26 then[UInt8.ofNat<|97+n]else[UInt8.ofNat<|97+(n / 26-1),UInt8.ofNat<|97+n % 26]
def zbs:H6 1 []++H6 2 []=(List.range 702).map Ha:=by decide +kernel
def l6:L1 Nat:=(List.range 702).filter λn=>BW<|Ha n
def zf9 {a:Nat} (D:a<702) (G:b<702) (h:Ha a=Ha b):a=b:=by have u:∀x y:Nat,x<256->y<256->UInt8.ofNat x=UInt8.ofNat y->x=y:=λx y q r e=>by{have:=af UInt8.toNat e;simpa[Nat.mod_eq_of_lt q,Nat.mod_eq_of_lt r]using this};unfold Ha at h;by_cases z:a<26<;>by_cases C:b<26<;>simp only[z,C,aw,aq,Cr,be,reduceCtorEq,and_false]at h;have:=u _ _ (by omega) (by omega) h;omega;have H:=u _ _ (by omega) (by omega) h.1;have L:=u _ _ (by omega) (by omega) h.2;omega
def Lv {s:Z}:AR l s=true↔s∈l:=by induction l with|nil=>simp[AR]|cons x r q=>{simp only[AR,EJ,an,Cu,q];constructor;rintro (h|h);exact .inl h.symm;exact .inr h;rintro (h|h);exact .inl h.symm;exact .inr h}
def OX:∀(a:K1) (l:E2),a.Nodup->(∀n∈a,n<702)->(∀n∈a,Ha n∈l)->a.length<=l.length
 |[],_,_,_,_=>by simp
 |n::r,l,G,y,C=>by let⟨H,L⟩:=GI.1 G;have h:=C n (by simp);have:=OX r (l.erase<|Ha n) L (λx q=>y x<|by simp[q]) λx q=>by{have z:Ha x≠Ha n:=λe=>H<|zf9 (y x<|by simp[q]) (y n<|by simp) e▸q;exact(List.mem_erase_of_ne z).2 (C x<|by simp[q])};rw[List.length_erase_of_mem h]at this;have D:0<l.length:=List.length_pos_of_mem h;simp only[C1];omega
def zao:decide (700<=l6.length)=true:=by decide +kernel
def du:=@Classical.byContradiction
def zb4 (l:E2) (N:l.length<=699):∃k,k<702/\(∀j<k,Ep l (Ha j)=false)/\Ep l (Ha k)=true:=by have r:∃k,k<702/\Ep l (Ha k)=true:=by{apply du;intro y;have h:∀n∈l6,Ha n∈l:=λn q=>by{simp only[l6,qP,OW]at q;apply du;intro H;refine y ⟨n,q.1,?_⟩;have:AR l (Ha n)=false:=by{cases L:AR l (Ha n)with|false=>rfl|true=>{exact absurd (Lv.1 L) H}};simp[Ep,q.2,this]};have:=OX l6 l (List.Pairwise.filter _ List.nodup_range) (λn q=>by simp only[l6,qP,OW]at q;exact q.1) h;have R:=ao zao;omega};obtain⟨k,z,C⟩:=r;induction k using Nat.strongRecOn with|_ k M=>{by_cases h:∀j<k,Ep l (Ha j)=false;exact⟨k,z,h,C⟩;simp only[Classical.not_forall,Bool.not_eq_false]at h;obtain⟨j,D,G⟩:=h;exact M j D (by omega) G}
def C4 (l:L1 Z):Z:=Ha<|((List.range 702).find? λk=>Ep l<|Ha k).getD 0
def zb5 {k:Nat} (D:k<702) (h:∀j<k,Ep l (Ha j)=false) (r:Ep l (Ha k)=true):C4 l=Ha k:=by have y:(List.range 702).find? (λk=>Ep l<|Ha k)=some k:=by{have e:List.range 702=List.range k++k::List.range' (k+1) (701-k):=by{rw[Z5,Z5,<- OT];have q:=zfz (s:=0) (m:=k) (n:=701-k+1);rw[BU]at q;rw[q];congr 1;omega};rw[e,List.find?_append];have z:(List.range k).find? (λk=>Ep l<|Ha k)=none:=by{rw[List.find?_eq_none];intro j C;simp[h j<|OW.1 C]};rw[z];simp[r]};rw[C4,y];rfl
def TZ (l:E2) (y:l.length<=699):∃k,k<702/\(∀j<k,Ep l (Ha j)=false)/\Ep l (Ha k)=true/\C4 l=Ha k:=by let⟨k,h,q,r⟩:=zb4 l y;exact⟨k,h,q,r,zb5 h q r⟩
def HB (l:E2) (q:l.length<=699):BW (C4 l)=true/\C4 l∉l:=by let⟨k,_,_,h,r⟩:=TZ l q;rw[<- r]at h;simp only[Ep,Am,KN]at h;refine⟨h.1,λy=>?_⟩;have:=Lv.2 y;rw[h.2]at this;cases this
def Ra {m:E2} (h:∀s,s∈l↔s∈m):C4 l=C4 m:=by have e:∀s,AR l s=AR m s:=λs=>by{cases q:AR l s with|true=>exact(Lv.2<|(h s).1 (Lv.1 q)).symm|false=>{cases r:AR m s with|false=>rfl|true=>{rw[Lv.2<|(h s).2 (Lv.1 r)]at q;cases q}}};have y:(λk=>Ep l<|Ha k)=λk=>Ep m<|Ha k:=by{funext k;simp[Ep,e]};simp only[C4,y]
def nZ (l:E2) (r:l.length<=699):ca 167 [.sl<|BP l]<|.str<|C4 l:=by let⟨k,D,h,y,e⟩:=TZ l r;rw[e];refine zjb l (Ha k) ((List.range k).map Ha) ((List.range' (k+1)<|701-k).map Ha) (by omega) ?_ (λx z=>?_) y;rw[zbs];have:List.range 702=List.range k++k::List.range' (k+1) (701-k):=by{rw[Z5,Z5,<- OT];have q:=zfz (s:=0) (m:=k) (n:=701-k+1);rw[BU]at q;rw[q];congr 1;omega};rw[this];simp;obtain⟨j,C,rfl⟩:=CC.1 z;exact h j<|OW.1 C
def uq:TT:=nW++[
 (260,⟨.sl 225,false,1,24,[.NB]⟩),
 (217,⟨.ptr 220,false,1,8,[.Kp .jc]⟩),
 (220,⟨.struct [(0,73)],true,1,24,[.NB]⟩),
 (160,⟨.struct [(0,9),(1,49),(6,139)],true,7,104,[.Kp<|.str [],.Kp<|.int .i64 0,.Kp<|.int .i64 0,.Kp<|.str [],.NB,.NB,.Kp .gu]⟩)]
def Dr:dv prog uq:=.of_eq (l:=[4,3,9,49,25,182,45,47,5,23,22,73,46,180,71,43,178,40,41,113,111,28,293,195,1,139,296,190,183,185,187,26,246,191,270,235,233,232,268,312,230,225,262,264,260,217,220,160]) (by kernel_rfl)
def xd (r:S0) (h:run uq n 300 r todo env st aa []=.at k q au Kr ob) (y:A8 ob) (z:cx n F Q k q au Kr):ia n F Q todo env st aa:=JS Dr mixed 300 r h y z
def LE (h:run uq n 300 [] todo env st aa []=.at k q au Kr ob) (y:cx n F Q k q au Kr) (r:A8 ob:=by simp):ia n F Q todo env st aa:=xd [] h r y
def zpw (h:run uq n 300 [] todo env st aa []=.at k q au Kr ob) (y:cx n F Q k q au Kr) (r:A8 ob:=by simp[A1]):ia n F Q todo env st aa:=xd [] h r y
def xg (r:S0) (h:run uq n 300 r todo env st aa []=.at k q au Kr ob) (y:A8 ob) (z:cx n F Q k q au Kr):cx n F Q todo env st aa:=Jf Dr mixed 300 r h y z
def Hy (h:run uq n 300 [] todo env st aa []=.at k q au Kr ob) (y:cx n F Q k q au Kr) (r:A8 ob:=by simp):cx n F Q todo env st aa:=xg [] h r y
def Pl (h:run uq n 300 [] todo env st aa []=.at k q au Kr ob) (y:cx n F Q k q au Kr) (r:A8 ob:=by simp[A1]):cx n F Q todo env st aa:=xg [] h r y
def K5 (q:An) (t:Tm):Prop:=∃(a:An) (o n:Int) (x:Z) (ad:Option Addr) (c:Nat) (ks:L1 An) (u:Value) (h:L1 An),
 er a=q/\vA a=dTmc t/\a=.mk true o n x (.slice ad ks.length c) ks u h/\Q6 h/\DY h/\(0<ks.length->∃b,ad=some ⟨b,0,none⟩)/\(0<h.length->∃r y,u=.slice (some ⟨r,0,none⟩) h.length y)
def lJ:An->Prop
 |.mk _ _ _ _ _ _ _ h=>DY h
 |.im _ _ _=>False
def zhf (a:An):lJ (er a)↔lJ a:=by cases a with|mk s o n x v ks u ps=>simp only[er,lJ,Hb]|im=>{exact cm}
def zlk {N:An} (C:lJ N) (d:∀p∈(match t with|.mk _ _ _ _ ps=>ps),SX p) {f:K1} (h:(DT b N t).P vs I w f):K5 N t:=by obtain⟨a,rfl,L,W⟩:=h;have C:=(zhf a).1 C;rcases a with⟨s,o,n,x,v,ks,u,D⟩|⟨F,g,J⟩;(case im=>exact C.elim);have i:s=true:=W.2.2.1;subst i;obtain⟨K,P,Q,j,z⟩:=t;have y:=W.2.2.2.2.2;simp only[KT]at y;have k:HK D=A3 z:=by{simp only[vA,dTmc,Cr,V.sl.injEq]at L;exact L.2.2.2.2.1};have G:Q6 D:=P3 D z (BG u) 0 C (y.2 ab).2 k (by{have:∀l:E1,(∀p∈l,SX p)->RA l:=λl=>by{induction l with|nil=>exact λ_=>trivial|cons p r m=>{exact λh=>⟨h p<|by simp,m λq R=>h q<|by simp[R]⟩}};exact this z d});rcases y.1.1 with⟨M,⟨A,c,rfl⟩,_⟩|⟨M,B,c,E,rfl,_⟩;refine⟨_,o,n,x,A,c,ks,u,D,rfl,L,by rw[M],G,C,λh=>by omega,λR=>?_⟩;rcases(y.2 ab).1 with⟨M,_⟩|⟨_,T,U,H,e,_⟩;omega;exact⟨T,U,e⟩;refine⟨_,o,n,x,some ⟨B,0,none⟩,c,ks,u,D,rfl,L,rfl,G,C,λh=>⟨_,rfl⟩,λR=>?_⟩;rcases(y.2 ab).1 with⟨M,_⟩|⟨_,T,U,H,e,_⟩;omega;exact⟨T,U,e⟩
def Ov {q:An} (h:K5 q t):pn q:=by obtain⟨a,o,n,x,ad,c,ks,u,y,rfl,_,rfl,r,_⟩:=h;exact(Na _).2 ⟨rfl,r⟩
def Qv {a:An} {n:Int} {ks:N4} {r:N4} (e:a=.mk true o n x v ks u r) (y:vA a=dTmc t):∃h q,t=.mk o n x h q/\ks.length=h.length/\r.length=q.length/\HK ks=Ci h/\HK r=A3 q:=by subst e;obtain⟨D,G,H,h,q⟩:=t;simp only[vA,dTmc,Cr,V.sl.injEq,V.int.injEq,V.str.injEq,ax,be]at y;obtain⟨rfl,rfl,rfl,z,C⟩:=y;exact⟨h,q,rfl,by have:=af List.length z;simpa using this,by have:=af List.length C;simpa using this,z,C⟩
def tY {G:An} (h:K5 G t) (i:Int):(bp G i).length=(Ai t i).length:=by obtain⟨a,o,n,x,ad,c,ks,u,L,rfl,M,H,N,_⟩:=h;obtain⟨R,r,rfl,_,T,_,U⟩:=Qv H M;subst H;rw[X4];simp only[bp,Ai];cases Bv o i with|true=>rfl|false=>{cases Ca o i with|false=>rfl|true=>{simp only[bf,az,En,aq,aw];cases z:L[(i-1).toNat]? with|none=>have:r[(i-1).toNat]?=none:=by{rw[Ni]at z ⊢;omega};rw[this];rfl|some q=>{obtain⟨C,y⟩:∃C,r[(i-1).toNat]?=some C:=Aq (by rw[<- T];exact(A9.1 z).1);have D:vA q=As C:=by{have:=af (λl=>l[(i-1).toNat]?) U;simp only[bH z,aM y]at this;exact Lk this};rw[y];simp only[CD,BM];exact LS q C (Nb N z) D}}}
def mW (h:TypeId) (v:Value):St:=[(6,some<|.cells h 1 [.eR v])]
def zl9 {C:An} (r:K5 C t) {op L:Int} {M:Z} {E:G1} {R:E1} (ht:t=.mk op L M E R) (hi:i<=1000000) (h:Bv op i=true\/(Bv op i=false/\Ca op i=true/\i-1<R.length)) :
  ∃ (F:Nat) (J:TypeId) (K:Value) (fc:Func) (c:Code), prog.funcs[F]? = some fc∧(fc.name=="runtime.NumGoroutine")=false∧fc.body=some c ∧
   ed 166 [.eR (.pointer (some ⟨b,0,none⟩)),i7 i] [(1,some (.hp (DT b C t)))] (.ret (.fn (.func F) [] [.ref 6 0]) ((1,some (.hp (DT b C t)))::mW J K)) /\
   ∀S:Nat->jo,(∀j,∃T,∀I w y v,(S j).P I w y v->∃vs U,(DT b C T).P vs I w U)->ib ((bp C i).map (w7 b C)) S 0 ->
    ed F [.jv 3,.ref 6 0] ((3,some .ig)::(4,some (.hV 3 (S 0)))::mW J K) (.ret (.cg []) ((3,some .ig)::(5,some (.hV 3 (S (0+(bp C i).length))))::mW J K)):=by
 have D:=Ov r;subst ht;rcases h with h|⟨h,P,h3⟩
 ·refine⟨231,230,.pointer (some ⟨b,0,none⟩),_,_,func231,by decide +kernel,rfl,?_,λS hS V=>?_⟩
  ·exact mZ (DT b C _) b op i (VH D) h
  ·have Q:bp C i=[[]]:=by
    obtain⟨a,o,n,x,ad,c,ks,u,z,rfl,hv,W,h1,_⟩:=r;let⟨d,f,e,_⟩:=Qv W hv;cases e;subst W;rw[X4];simp[bp,h]
   rw[Q]at V ⊢;exact uC b 0 S 0 V
 ·obtain⟨a,o,n,x,ad,c,ks,u,z,rfl,hv,W,h1,G,_,h4⟩:=r;let⟨d,f,e,_,hl,_,_⟩:=Qv W hv;cases e;subst W;have nr:0<i:=by simp[Ca]at P;omega
  obtain⟨q,g⟩:∃q,z[i-1]?=some q:=Aq (by omega);obtain⟨y,N,rfl⟩:=h4 (by omega);have k:=Nb h1 g;have hqf:=Xb G g;have ei:((i:Int)-1).toNat=i-1:=by omega
  refine⟨273,270,.pointer (some ⟨y,(i-1)*4,none⟩),_,_,func273,by decide +kernel,rfl,?_,λS hS V=>?_⟩
  ·refine tZ (DT b _ _) b op i y z.length N (i-1) (VH D) (λvs I w v hP=>(LM (by simpa only[er]using hP)).2) h P (by omega) (by omega) (by omega)
  ·have Q:bp (er (.mk true op L M (.slice ad ks.length c) ks (.slice (some ⟨y,0,none⟩) z.length N) z)) i=(ea q).map ((true,i-1)::·):=by
    rw[X4];simp only[bp,h,P,ei,g,bf,az]
   have l:(bp (er (.mk true op L M (.slice ad ks.length c) ks (.slice (some ⟨y,0,none⟩) z.length N) z)) i).map (w7 b (er (.mk true op L M (.slice ad ks.length c) ks (.slice (some ⟨y,0,none⟩) z.length N) z)))=Le q y ((i-1)*4):=by
    rw[Q,Wy];apply QI;intro j;rw[Cx];cases hj:(ea q)[j]? with
    |none=>
     rw[Ni]at hj;rw[Ni.2 (by rw[Qu];exact hj)];rfl
    |some p=>
     let⟨a',H,m,k1,A⟩:=VS k y ((i-1)*4) hj;rw[A];have e1:D3 (er (.mk true op L M (.slice ad ks.length c) ks (.slice (some ⟨y,0,none⟩) z.length N) z)) b 0 ((true,i-1)::p)=some (er a',H,m):=by
      rw[Og];simp only[D3,Eg,g,FQ];show(D3 q y ((i-1)*4) p).map _=_;rw[k1];rfl
     simp only[FQ,Function.comp,w7,e1]
   rw[l]at V;have s:(bp (er (.mk true op L M (.slice ad ks.length c) ks (.slice (some ⟨y,0,none⟩) z.length N) z)) i).length=(Le q y ((i-1)*4)).length:=by rw[<- l,CD]
   rw[s];refine qA q y ((i-1)*4) S 0 k (λj I w b1 v hP=>?_) V;let⟨T,hT⟩:=hS j;let⟨vs,U,a2,e2,hv2,yv⟩:=hT I w b1 v hP;rcases a2 with⟨s',o',n',x',v',mu,u',qs'⟩|⟨s0,cs0,c0⟩
   case im=>simp[er]at e2
   simp only[er,An.mk.injEq]at e2;obtain⟨rfl,rfl,rfl,_,rfl,_,rfl,e3⟩:=e2;have hq':(Re qs')[i-1]?=some (er q):=by rw[e3];exact eJ g
   let⟨q',k1,A⟩:=zlp hq';have hw:=yv.2.2.2.2.2;simp only[KT]at hw;have B:=FA (hw.2 ab).2 k1;rw[BU]at B;have:=gE q' y ((i-1)*4) ((Xc q').1 (by rw[A];exact(Xc q).2 hqf)) B.1 B.2.1 B.2.2;rw[<- oJ,<- A,oJ];exact this
end Go.Hk
