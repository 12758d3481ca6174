/- Contracts of hearthref02: atoms. -/
import Derived.Test.YtcdpbkolkeeopaaGreatBf
set_option linter.all false
set_option maxRecDepth 100000
set_option maxHeartbeats 4000000
namespace Go.Hk
open Go.Proofs.Tryz
open Go.Proofs
open Go.MapKept
variable {I J:TA} {w w':World} {m:Md} {a i n b j sz:Nat} {v u:Value} {P:Program} {x s:Z} {st au:St} {aa F Kr:K1} {μ ν:Mu} {t:Tm} {vs:R0} {env y E:Env} {ob:T0} {k f h:Int} {Q:DQ} {todo q:S6} {T:L2} {S ps:E1} {Γ:At} {A:TT} {L l:K2} {es:L1 (G2)} {d:D} {θ η:Int->Y} {c:G2} {α:Type} {τ:Y} {g:j3} {e:MapEntry} {Pn:V->Prop} {K:Prop} {p:V×V} {z:Code} {o:Oper} {r:j0}
inductive Tr where
 |nd (f n:Int) (x:Z) (v:Value) (ks:List Tr)
 |im (cs:List Value) (c:List V)
 |gp (f n:Int) (x:Z) (v:Value)
def cT:Tr->L1 Value
 |.nd f n x v _=>[.int .i64 f,.int .i64 n,OB x,v]
 |.im q _=>q
 |.gp f n x v=>[.int .i64 f,.int .i64 n,OB x,v]
mutual
def fG (I:TA) (w:World):Tr->Prop
 |.nd _ _ _ v q=>U0 w 25 4 v q.length/\LH I w (BG v) 0 q
 |.im z c=>Ts I z c/\(∀y∈z,y.oneCell'=true)/\c.length=4
 |.gp _ _ _ v=>v.oneCell'=true
def LH (I:TA) (w:World) (b:Nat):Nat->L1 Tr->Prop
 |_,[]=>True
 |i,a::r=>(XA w b (i*4) (cT a)/\fG I w a)/\LH I w b (i+1) r
end
mutual
def nN:Tr->L1 Nat
 |.nd _ _ _ v q=>CI v q.length++Jk q
 |.im _ _=>[]
 |.gp _ _ _ _=>[]
def Jk:L1 Tr->L1 Nat
 |[]=>[]
 |a::r=>nN a++Jk r
end
mutual
def kJ:Tr->Y->Prop
 |.nd f n x _ q,.mk y z A ps=>f=y/\n=z/\x=A/\Lq q ps
 |_,_=>False
def Lq:L1 Tr->L1 Y->Prop
 |[],[]=>True
 |a::r,t::q=>kJ a t/\Lq r q
 |_,_=>False
end
abbrev T1:=L1 Tr
def QT:∀{l:T1} {q:E1},Lq l q->l.length=q.length
 |[],[],_=>rfl
 |_::_,_::_,h=>by simp only[Lq]at h;simp[QT h.2]
 |[],_::_,h=>by simp[Lq]at h
 |_::_,[],h=>by simp[Lq]at h
def Lp:∀{l:T1} {q:E1},Lq l q↔l.length=q.length/\∀(i:Nat) a t,l[i]?=some a->q[i]?=some t->kJ a t
 |[],[]=>by simp[Lq]
 |a::r,t::q=>by simp only[Lq,Lp (l:=r) (q:=q),C1,Nat.add_right_cancel_iff];constructor;rintro ⟨G,B,A⟩;refine⟨B,λi C D y z=>?_⟩;match i,y,z with|0,y,z=>simp at y z;rw[<- y,<- z];exact G|i+1,y,z=>{exact A i C D (by simpa using y)<|by simpa using z};rintro ⟨B,A⟩;exact⟨A 0 a t O O,B,λi C D y z=>A (i+1) C D (by simpa using y)<|by simpa using z⟩
 |[],_::_=>by simp[Lq]
 |_::_,[]=>by simp[Lq]
def GB {I:TA} {w:World} {b:Nat}:∀{gs:T1} {i:Nat},LH I w b i gs↔∀(j:Nat) a,gs[j]?=some a->XA w b ((i+j)*4) (cT a)/\fG I w a
 |[],i=>by simp[LH]
 |x::r,i=>by simp only[LH,GB (gs:=r) (i:=i+1)];constructor;rintro ⟨y,z⟩ j a q;match j,q with|0,q=>simp at q;rw[<- q];exact y|j+1,q=>{rw[show i+(j+1)=i+1+j by omega];exact z j a<|by simpa using q};intro h;exact⟨h 0 x O,λj a q=>by rw[show i+1+j=i+(j+1) by omega];exact h (j+1) a<|by simpa using q⟩
def QB {k:Nat}:∀{gs:T1},k∈Jk gs↔∃a∈gs,k∈nN a
 |[]=>by simp[Jk]
 |x::r=>by simp[Jk,QB (gs:=r)]
mutual
def bJ {I:TA} {w w':World}:∀{a:Tr},(∀k∈nN a,w'.heap[k]?=w.heap[k]?)->fG I w a->fG I w' a
 |.im _ _,_,h=>h
 |.gp _ _ _ _,_,h=>h
 |.nd f n x v A,h,q=>by simp only[fG]at q ⊢;simp only[nN,AT]at h;exact⟨MU (λk y=>h k<|.inl y) q.1,Vp (λz=>h (BG v)<|.inl<|by cases A with|nil=>exact absurd rfl z|cons=>simp[CI]) (λk y=>h k<|.inr y) q.2⟩
def Vp {I:TA} {w w':World} {b:Nat}:∀{gs:T1} {i:Nat},(gs≠[]->w'.heap[b]?=w.heap[b]?)->(∀k∈Jk gs,w'.heap[k]?=w.heap[k]?)->LH I w b i gs->LH I w' b i gs
 |[],_,_,_,_=>by simp[LH]
 |a::r,i,z,h,q=>by simp only[LH]at q ⊢;simp only[Jk,AT]at h;exact⟨⟨UW (z<|by simp) q.1.1,bJ (λk y=>h k<|.inl y) q.1.2⟩,Vp (λ_=>z<|by simp) (λk y=>h k<|.inr y) q.2⟩
end
mutual
def zdk {I J:TA} {w:World} (h:I.le J):∀{a:Tr},fG I w a->fG J w a
 |.nd f n x v y,q=>by simp only[fG]at q ⊢;exact⟨q.1,RD h q.2⟩
 |.im z c,q=>⟨q.1.mono h,q.2⟩
 |.gp _ _ _ _,q=>q
def RD {I J:TA} {w:World} (h:I.le J) {b:Nat}:∀{gs:T1} {i:Nat},LH I w b i gs->LH J w b i gs
 |[],_,_=>by simp[LH]
 |a::r,i,q=>by simp only[LH]at q ⊢;exact⟨⟨q.1.1,zdk h q.1.2⟩,RD h q.2⟩
end
def zib {a:Tr} (h:fG I w a):(cT a).length=4:=by cases a with|nd f n x v q=>rfl|im y c=>simp only[fG]at h;exact h.1.1.trans h.2.2|gp f n x v=>{rfl}
def zo7 {a:Tr} (h:fG I w a):∀c∈cT a,c.oneCell'=true:=by cases a with|im z c=>simp only[fG]at h;exact h.2.1|nd f n x v A=>{simp only[fG]at h;have y:=I7 h.1;intro c q;simp only[cT,Cu,JK,ch]at q;rcases q with rfl|rfl|rfl|rfl<;>first|rfl|exact y}|gp f n x v=>{intro c q;simp only[cT,Cu,JK,ch]at q;rcases q with rfl|rfl|rfl|rfl<;>first|rfl|exact h}
def Hf (v:Value) (gs:L1 Tr):jz where
 P:=λ_ I w bs=>U0 w 25 4 v gs.length/\LH I w (BG v) 0 gs/\bs=CI v gs.length++Jk gs/\bs.Nodup
 mono:=λh ⟨h1,h2,h3⟩=>⟨h1,RD h h2,h3⟩
 loc:=λ{vs I w w' bs} h ⟨h1,h2,h3,h4⟩=>⟨MU (λk hk=>h k (by rw[h3];simp[hk])) h1,Vp (λod=>h _ (by rw[h3];cases gs with|nil=>exact absurd rfl od|cons=>simp[CI])) (λk hk=>h k (by rw[h3];simp[hk])) h2,h3,h4⟩
def M9 (ps:L1 Y):jz where
 P:=λvs I w bs=>∃v ks,Lq ks ps/\vs=[v]/\(Hf v ks).P [] I w bs
 mono:=λh ⟨v,ks,h1,h2,h3⟩=>⟨v,ks,h1,h2,(Hf v ks).mono h h3⟩
 loc:=λh ⟨v,ks,h1,h2,h3⟩=>⟨v,ks,h1,h2,(Hf v ks).loc h h3⟩
def WO:L1 (L1 Value)->L1 (L1 V)->L1 Tr
 |cs::r,c::q=>.im cs c::WO r q
 |_,_=>[]
def PX (es:L1<|L1 V):jz where
 P:=λvs I w bs=>∃v mj,mj.length=es.length/\vs=[v]/\(Hf v<|WO mj es).P [] I w bs
 mono:=λh hx=>by
  obtain⟨v,mj,h1,h2,h3⟩:=hx;exact⟨v,mj,h1,h2,(Hf v<|WO mj es).mono h h3⟩
 loc:=λh hx=>by
  obtain⟨v,mj,h1,h2,h3⟩:=hx;exact⟨v,mj,h1,h2,(Hf v<|WO mj es).loc h h3⟩
def xB:∀{mj:L1<|R0} {es:L1<|G2} {i:Nat},mj.length=es.length->(WO mj es)[i]?=match mj[i]?,es[i]? with|some cs,some c=>some (.im cs c)|_,_=>none
 |[],[],i,_=>by simp[WO]
 |cs::r,c::q,0,_=>rfl
 |cs::r,c::q,i+1,h=>by simpa[WO]using xB (mj:=r) (es:=q) (i:=i) (by simpa using h)
 |[],_::_,_,h=>by cases h
 |_::_,[],_,h=>by cases h
def Mk:∀{mj:L1<|R0} {es:L1<|G2},mj.length=es.length->(WO mj es).length=es.length
 |[],[],_=>rfl
 |cs::r,c::q,h=>by simp[WO,Mk (mj:=r) (es:=q)<|by simpa using h]
 |[],_::_,h=>by cases h
 |_::_,[],h=>by cases h
def znf:∀{mj:L1<|R0} {es:L1<|G2},Jk (WO mj es)=[]
 |[],_=>by simp[WO,Jk]
 |_::_,[]=>by simp[WO,Jk]
 |cs::r,c::q=>by simp[WO,Jk,nN,znf (mj:=r) (es:=q)]
def aT {C:K1} (N:es=[]->∃v,vs=[v]/\C=[]/\(∃a c,v=.slice a 0 c)/\∀I,PB I v<|.sl []) (h:es≠[]->∃b cap bl,vs=[.slice (some ⟨b,0,none⟩) es.length cap]/\C=[b]/\w.heap[b]?=some (.cells bl 25 (0,0))/\es.length<=cap/\cap<=maxLen/\bl.size=cap*4/\∀(j:Nat) (e:G2),es[j]?=some e->∃cs:R0,(∀(i:Nat) (c:Value),cs[i]?=some c->bl[j*4+i]?=some c)/\Ts I cs e/\(∀c∈cs,c.oneCell'=true)/\e.length=4):(PX es).P vs I w C:=by by_cases y:es=[];obtain⟨v,rfl,rfl,B,D⟩:=N y;subst y;exact⟨v,[],rfl,rfl,.inl ⟨rfl,B,D⟩,by simp[WO,LH],by simp[WO,CI,Jk],.nil⟩;obtain⟨b,cap,bl,rfl,rfl,B,D,R,U,W⟩:=h y;have G:∀(l:L1<|G2) (o:Nat),(∀(j:Nat) (e:G2),l[j]?=some e->∃cs:R0,(∀(i:Nat) (c:Value),cs[i]?=some c->bl[(o+j)*4+i]?=some c)/\Ts I cs e/\(∀c∈cs,c.oneCell'=true)/\e.length=4)->∃q:L1<|R0,q.length=l.length/\LH I w b o (WO q l):=by{intro l;induction l with|nil=>exact λo _=>⟨[],rfl,by simp[WO,LH]⟩|cons e r d=>{intro o H;let⟨cs,f,g,k,m⟩:=H 0 e rfl;let⟨q,z,K⟩:=d (o+1) λj p M=>by{have:=H (j+1) p (by simpa using M);rwa [show o+(j+1)=o+1+j by omega]at this};refine⟨cs::q,by simp[z],?_⟩;simp only[WO,LH];exact⟨⟨⟨bl,_,_,B,λi c s=>by simpa using f i c s⟩,g,k,m⟩,K⟩}};let⟨q,z,K⟩:=G es 0 λj e t=>by{rw[BU];exact W j e t};have A:0<es.length:=by{cases es with|nil=>exact absurd rfl y|cons=>simp};refine⟨_,q,z,rfl,.inr ⟨by rw[Mk z];exact A,b,cap,bl,by rw[Mk z],B,by rw[Mk z];exact D,R,U⟩,K,?_,by simp⟩;rw[Mk z,znf];cases H:es.length with|zero=>omega|succ n=>{simp[CI,BG]}
def vF {z:K1} {gs:T1} (h:(Hf v gs).P vs I w z) {a:Tr} (A:gs[i]?=some a):∃bl q k,w.heap[BG v]?=some (.cells bl q k)/\(∀(j:Nat) (c:Value),(cT a)[j]?=some c->bl[i*4+j]?=some c)/\fG I w a:=by let⟨B,C⟩:=GB.1 h.2.1 i a A;obtain⟨bl,q,k,D,y⟩:=B;rw[BU]at y;exact⟨bl,q,k,D,y,C⟩
def oT {D:K1} {gs:T1} (h:(Hf v gs).P vs I w D) {cs:R0} (G:gs[i]?=some (.im cs c)):DU I w (BG v) (i*4)<|c.map .Kp:=by let⟨z,H,k,K,M,C,N,R⟩:=vF h G;refine⟨z,H,k,K,λj d q=>?_⟩;rw[Cx]at q;cases y:c[j]? with|none=>rw[y]at q;cases q|some x=>{rw[y]at q;cases q;have A:j<cs.length:=by{rw[C.1];exact(A9.1 y).1};have B:=Bi A;exact⟨_,M j _ B,N _<|AE B,.Kp _ _<|C.2 j _ x B y⟩}
def oU {B:K1} {gs:T1} (h:(Hf v gs).P vs I w B) {n:Int} (C:gs[i]?=some (.gp f n x u)):DU I w (BG v) (i*4) [i7 f,i7 n,.Kp<|.str x,.eR u]:=by let⟨z,D,k,G,y,A⟩:=vF h C;refine⟨z,D,k,G,λj d q=>?_⟩;match j,q with|0,q=>cases q;exact⟨_,y 0 _ O,rfl,.Kp _ _<|.int _ _⟩|1,q=>cases q;exact⟨_,y 1 _ O,rfl,.Kp _ _<|.int _ _⟩|2,q=>cases q;exact⟨_,y 2 _ O,rfl,.Kp _ _<|.encStr _ _⟩|3,q=>cases q;exact⟨_,y 3 _ O,A,.eR _ A⟩|j+4,q=>{simp at q}
def Qp {y:K1} {gs:T1} (h:(Hf v gs).P vs I w y):∃a cap,v=.slice a gs.length cap/\(0<gs.length->∃b,a=some ⟨b,0,none⟩):=by rcases h.1 with⟨q,⟨a,c,rfl⟩,_⟩|⟨q,b,cap,z,rfl,_⟩;exact⟨a,c,by rw[q],λh=>by omega⟩;exact⟨_,cap,rfl,λ_=>⟨b,rfl⟩⟩
def Vq {a:Tr}:∀{gs:T1} {i:Nat} {g:Tr},gs[i]?=some g->nN g=[]->∃l r,Jk gs=l++r/\Jk (gs.set i a)=l++(nN a++r)
 |x::q,0,g,h,y=>by simp at h;subst h;exact⟨[],Jk q,by simp[Jk,y],by simp[Jk]⟩
 |x::q,i+1,g,h,y=>by let⟨l,r,z,A⟩:=Vq (a:=a) (gs:=q) (i:=i) (by simpa using h) y;exact⟨nN x++l,r,by simp[Jk,z],by simp[Jk,A]⟩
theorem oR {H c:K1} {gs:T1} (h:(Hf v gs).P vs I w H) {g a:Tr} (t:gs[i]?=some g) (S:nN g=[]) (u:fG I w a) (d:c=nN a) (m:c.Nodup) (A:∀b∈H,b∉c):BG v∈H/\∃bl,w.heap[BG v]?=some (.cells bl 25 (0,0))/\i*4+4<=bl.size/\∃x,(∀b∈x,b∈H\/b∈c)/\(Hf v<|gs.set i a).P [] I (w.setRow (BG v) (bl.toList.take (i*4)++cT a++bl.toList.drop (i*4+4)).toArray) x:=by obtain⟨T,E,G,f⟩:=h;have mc:i<gs.length:=(A9.1 t).1;rcases T with⟨F,_⟩|⟨F,b,C,bl,rfl,q,K,o,M⟩;omega;have N:BG (.slice (some ⟨b,0,none⟩) gs.length C)=b:=rfl;rw[N]at E ⊢;have R:CI (.slice (some ⟨b,0,none⟩) gs.length C) gs.length=[b]:=by{cases hl:gs.length with|zero=>omega|succ n=>{simp[CI,BG]}};rw[R]at G;have U:b∈H:=by{rw[G];simp};have B:i*4+4<=bl.size:=by{rw[M];omega};refine⟨U,bl,q,B,?_⟩;have D:=zib u;have J:i*4+(cT a).length<=bl.size:=by{rw[D];exact B};have p:b∉Jk gs:=by{rw[G]at f;intro z;exact(D2.1 f).2.2 b (by simp) b z O};have V:b∉nN a:=λz=>A b U (by rw[d];exact z);let⟨l,r,s,L⟩:=Vq (a:=a) t S;refine⟨[b]++Jk (gs.set i a),λk z=>?_,?_,?_,?_,?_⟩;{rw[L]at z;rw[G,s,d];simp only[AT]at z ⊢;grind};rw[IV];refine .inr ⟨F,b,C,(bl.toList.take (i*4)++cT a++bl.toList.drop (i*4+4)).toArray,rfl,?_,K,o,?_⟩;have:=Jy (off:=i*4) (cs:=cT a) q;rwa [D]at this;rw[<- M];have tu:bl.toList.length=bl.size:=QJ;show(bl.toList.take (i*4)++cT a++bl.toList.drop (i*4+4)).length=bl.size;rw[Bo,Bo,HR,JI];omega;have e4:i*4+4=i*4+(cT a).length:=by{rw[D]};rw[e4,N,GB];intro j y W;rw[BU];by_cases e:i=j;subst e;rw[Jc<|by omega]at W;cases W;exact⟨eV q J,bJ (λk z=>ay w b k _ λe=>V<|e▸z) u⟩;rw[HQ e]at W;let⟨P,Q⟩:=GB.1 E j y W;rw[BU]at P;refine⟨X9 q J P ?_,bJ (λk z=>ay w b k _ λe=>p<|e▸QB.2 ⟨y,AE W,z⟩) Q⟩;have:=zib Q;rcases Nat.lt_or_gt_of_ne e with hc|hc;right;omega;left;omega;rw[IV,R];{rw[L];rw[G,s]at f;have hd:∀k∈[b]++(l++r),k∉nN a:=λk z=>by{rw[<- d];exact A k (by rw[G,s];exact z)};rw[d]at m;simp only[DV,JJ,GI,AT,D2,ge]at f hd ⊢;grind}
theorem oS {H:K1} {gs:T1} (h:(Hf v gs).P vs I w H) {n:Int} {ks:T1} (K:gs[i]?=some (.nd f n x u ks)):∃M N,(∀b∈M,b∈H)/\(∀b∈N,b∈H)/\(∀b∈M,b∉N)/\(Hf v<|gs.set i<|.gp f n x u).P [] I w M/\(Hf u ks).P [] I w N:=by obtain⟨a,W,R,B⟩:=h;have q:i<gs.length:=(A9.1 K).1;have z:(gs.set i<|.gp f n x u).set i (.nd f n x u ks)=gs:=by{rw[List.set_set];apply QI;intro j;by_cases e:i=j;subst e;rw[Jc q,K];rw[HQ e]};let⟨l,r,c,C⟩:=Vq (a:=.nd f n x u ks) (gs:=gs.set i<|.gp f n x u) (i:=i) (Jc q) rfl;rw[z]at C;let⟨d,D⟩:=GB.1 W i _ K;simp only[fG]at D;have U:nN (.nd f n x u ks)=CI u ks.length++Jk ks:=rfl;rw[R,C,U]at B;refine⟨CI v gs.length++(l++r),CI u ks.length++Jk ks,λb A=>?_,λb A=>?_,λb A V=>?_,⟨by rw[IV];exact a,?_,by rw[IV,c],?_⟩,D.1,D.2,rfl,?_⟩;{rw[R,C,U];simp only[AT]at A ⊢;grind};{rw[R,C,U];simp only[AT]at A ⊢;grind};{simp only[D2,AT]at B A V;grind};rw[GB];intro j y G;by_cases e:i=j;subst e;rw[Jc q]at G;cases G;exact⟨d,I7 D.1⟩;rw[HQ e]at G;exact GB.1 W j y G;{simp only[D2,AT]at B ⊢;grind};{simp only[D2,AT]at B ⊢;grind}
def gU {gs:T1} (n:U0 w 25 4 v gs.length) (U:LH I w (BG v) 0 gs) (o:∀k∈CI v gs.length,J k=w.heap[k]?) (p:Lq gs ps) (r:∀(i:Nat) a t,gs[i]?=some a->ps[i]?=some t->Ts J (cT a) (As t)):PB J v<|.sl<|A3 ps:=by have y:=QT p;rcases n with⟨W,_,G⟩|⟨W,b,D,B,rfl,G,s,u,Q⟩;have:ps=[]:=Jb (by omega);subst this;exact G J;have K:J b=some (.cells B 25 (0,0)):=by{rw[o b<|by cases gs with|nil=>simp at W|cons=>simp[CI,BG],G]};have E:BG (.slice (some ⟨b,0,none⟩) gs.length D)=b:=rfl;rw[E]at U;have z:∀(i:Nat) (e:G2) (j:Nat) (x:V),(A3 ps)[i]?=some e->e[j]?=some x->∃c,B[i*4+j]?=some c/\c.oneCell'=true/\PB J c x:=by{intro i e j x q C;rw[DC,Cx]at q;cases H:ps[i]? with|none=>rw[H]at q;cases q|some t=>{rw[H]at q;cases q;let⟨a,d⟩:=Aq (l:=gs) (i:=i) (by rw[y];exact(A9.1 H).1);let⟨F,L⟩:=GB.1 U i a d;have A:=r i a t d H;have M:j<(cT a).length:=by{rw[A.1];exact(A9.1 C).1};have N:=Bi M;obtain⟨f,S,k,g,P⟩:=F;rw[G]at g;cases g;refine⟨_,?_,zo7 L _<|AE N,A.2 j _ x N C⟩;have:=P j _ N;rwa [BU]at this}};refine .sl b 0 gs.length D 4 (A3 ps) (λi j=>(B[i*4+j]?).getD undef) (by simpa using y) s u (λe h=>?_) (λi e j x q C=>?_) λi e j x q C=>?_;rw[DC]at h;obtain⟨t,_,rfl⟩:=CC.1 h;simp;let⟨c,R,l,m⟩:=z i e j x q C;simp[TA.cell,K,R,l];let⟨c,R,l,m⟩:=z i e j x q C;simpa[R]using m
def wU {w:World} {I J:TA}:∀{t:Y} {a:Tr},kJ a t->fG I w a->(∀k∈nN a,J k=w.heap[k]?)->Ts J (cT a) (As t)
 |.mk f n x ps,.nd K M N v R,h,z,B=>by simp only[kJ]at h;obtain⟨rfl,rfl,rfl,h⟩:=h;simp only[fG]at z;simp only[nN,AT]at B;have H:PB J v<|.sl<|A3 ps:=gU z.1 z.2 (λk C=>B k<|.inl C) h λi a t D G=> wU ((Lp.1 h).2 i a t D G) (GB.1 z.2 i a D).2 λk C=>B k<|.inr<|QB.2 ⟨a,AE D,C⟩;refine⟨rfl,λi c y q A=>?_⟩;simp only[cT]at q;match i with|0=>cases q;cases A;exact .int _ _|1=>cases q;cases A;exact .int _ _|2=>cases q;cases A;exact .encStr _ _|3=>cases q;cases A;exact H|i+4=>{simp at q}
 |.mk _ _ _ _,.im _ _,h,_,_=>by simp[kJ]at h
 |.mk _ _ _ _,.gp _ _ _ _,h,_,_=>by simp[kJ]at h
termination_by t=>SizeOf.sizeOf t
decreasing_by have:=C8<|AE G;simp_wf;omega
def X0 {A:K1} (h:(zmk<|.sl []).P vs I w A):(PX []).P vs I w A:=by obtain⟨rfl,v,rfl,B,K⟩:=h;refine aT (λ_=>⟨v,rfl,rfl,?_,?_⟩) λh=>absurd rfl h;obtain⟨ad,q,y,rfl,_,rfl⟩:=MP B;exact⟨_,_,rfl⟩;intro J;cases B with|slnil=>exact .slnil|mq a=>exact .mq a|sl b o q y sz es vs C D G _ _ _=>{exact .sl b o q y sz [] vs C D G (λe H=>by cases H) (λi e j x z=>by simp at z) λi e j x z=>by simp at z}
def tR {M:K1} (D:es≠[]) (h:(zme 25 4 es).P vs I w M):(PX es).P vs I w M:=by obtain⟨v,rfl,⟨_,V,_⟩|⟨b,H,y,rfl,rfl,W,a,d,f,g,N,k,t⟩⟩:=h;exact absurd V D;refine aT (λh=>absurd h D) λ_=>⟨b,H,y,rfl,rfl,W,a,d,f,λj e G=>?_⟩;have R:=N e<|AE G;have l:=(A9.1 G).1;have B:∀i,i<4->∃c x,y.toList[j*4+i]?=some c/\e[i]?=some x/\PB I c x/\c.oneCell'=true:=by{intro i A;obtain⟨x,C⟩:∃x,e[i]?=some x:=⟨_,Bi<|by omega⟩;have m:=Dc N j e i x G C;obtain⟨c,q⟩:∃c,y.toList[j*4+i]?=some c:=⟨_,Bi (by simp;omega)⟩;have U:=g.2 (j*4+i) c x (by rw[Ea,ae<|by omega];exact q) m;exact⟨c,x,q,C,U,U.one<|k e (AE G) x<|AE C⟩};refine⟨(y.toList.drop<|j*4).take 4,λi c q=>?_,⟨?_,λi c x q C=>?_⟩,λc q=>?_,R⟩;rw[Ea]at q;split at q;rw[F7]at q;simpa using q;cases q;rw[HR,JI,R];simp;omega;rw[Ea]at q;split at q;rename_i A;rw[F7]at q;let⟨z,n,K,o,p,_⟩:=B i A;rw[K]at q;cases q;rw[o]at C;cases C;exact p;cases q;let⟨i,A⟩:=H3 q;rw[Ea]at A;split at A;rename_i r;rw[F7]at A;let⟨z,n,K,_,_,s⟩:=B i r;rw[K]at A;cases A;exact s;cases A
def sP (es:L1<|G2) (A:∀c∈es,c.length=4) (y:es.length<=1000000):ed 138 [.Kp<|.sl es] []<|.ret (.hv 1 0) [(1,some<|.hp<|PX es)]:=by cases es with|nil=>{refine Ae ttY_ok func138 O [1]<|Aj O<|FE ttY_ok O λb q=>?_;cases b with|true=>{exact SW [.a] O<|Ho (x:=.sl []) 2 1 O O O<|DS 1 (λ_:Unit=>PX []) O (λvs I w z h=>⟨(),X0 h⟩) λ_=>Ah ⟨_,AB⟩}|false=>{exact SW [.a] O<|Lx ttY_ok O<|Aj O<|Ho (x:=.sl []) 2 1 O O O<|DS 1 (λ_:Unit=>PX []) O (λvs I w z h=>⟨(),X0 h⟩) λ_=>Ah ⟨_,AB⟩}}|cons e r=>{refine Ae ttY_ok func138 O [2,1]<|Aj O<|FE ttY_ok O λb q=>?_;have q:b=false:=q (by simp);subst q;exact SW [.a] O<|B1 ttY_ok O ⟨A,by simp only[maxLen,Cj]at *;omega,by simp only[Cj]at *;omega,λc B=>by simp at B,by simp⟩<|Aj O<|NI 2 2 1 O O<|DS 1 (λ_:Unit=>PX<|e::r) O (λvs I w z h=>⟨(),tR (by simp) h⟩) λ_=>Ah ⟨_,AB⟩}
def zpd (v:Value) (gs:L1 Tr) (i:Nat) (f n:Int) (x:Z) (ps:L1 Y):jz where
 P:=λ_ I w bs=>∃u ks,Lq ks ps/\(Hf v<|gs.set i<|.nd f n x u ks).P [] I w bs
 mono:=λh ⟨u,ks,h1,h3⟩=>⟨u,ks,h1,(Hf v<|gs.set i<|.nd f n x u ks).mono h h3⟩
 loc:=λh ⟨u,ks,h1,h3⟩=>⟨u,ks,h1,(Hf v<|gs.set i<|.nd f n x u ks).loc h h3⟩
def VN {gs:T1} {g:Tr} {n:Int} (H:gs[i]?=some g) (K:nN g=[]):IN (Hf v gs) (M9 ps) (zpd v gs i f n x ps) j (BG v) (i*4) [i7 f,i7 n,.Kp<|.str x,.hv j 0]:=by intro o vs I w p r M ⟨u,B,N,R,z⟩ y;subst R;let⟨U,C,V,W,a,b,c⟩:=oR (a:=.nd f n x u B) M H K ⟨z.1,z.2.1⟩ z.2.2.1 z.2.2.2 y;refine⟨U,C,_,V,W,λD d q G=>?_⟩;have e:D=cT (.nd f n x u B):=by{match D,d with|[s,t,E,h],_=>{have k:=(show X I kc _ (.Kp _)from q 0 _ _ O O).Ks.da;have l:=(show X I kc _ (.Kp _)from q 1 _ _ O O).Ks.da;have m:=(show X I kc _ (.Kp _)from q 2 _ _ O O).Ks.n0;have A:j=j/\[u][0]?=some h:=q 3 _ _ O O;have A:=A.2;simp at A;rw[k,l,m,A];rfl}};rw[e];exact⟨a,b,u,B,N,c⟩
def WE:∀t:Y,CY t=true->ed 82 [.Kp<|.agg<|As t] [] (.ret (.agg [i7<|CS t,i7<|num t,.Kp<|.str<|Fk t,.hv 1 0]) [(1,some<|.hp<|M9<|HJ t)])
 |.mk f n x ps,hw=>by have F:=MD hw;simp only[HJ]at F;have IH:∀t∈ps,ed 82 [.Kp<|.agg<|As t] []<|.ret (.agg [i7<|CS t,i7<|num t,.Kp<|.str<|Fk t,.hv 1 0]) [(1,some<|.hp<|M9<|HJ t)]:=λt ht=>WE t<|GS hw t (by simpa[HJ]using ht);refine Ae ttY_ok func82 O [2,3,4,5,1,6,7,8]<|Aj O<|Ao [4] [] [(1,4)] O (sP (A3 ps) (λc g=>by rw[DC]at g;obtain⟨p,_,rfl⟩:=CC.1 g;simp) (by simp;omega)) ab O O<|yg [] O (by simp<;>rfl)<|HF (Kr:=[1,6,7,8]) 4 5 (λx:(Option Addr×Nat)×{ q:L1 (R0) // q.length=(A3 ps).length }=>[.slice x.1.1 ps.length x.1.2]) (λx=>Hf (.slice x.1.1 ps.length x.1.2)<|WO x.2.1<|A3 ps) O (λvs I w l h=>?_) λy=>?_;obtain⟨v,q,m,J,h3⟩:=h;have V:(WO q<|A3 ps).length=ps.length:=by{rw[Mk m];simp};let⟨a,A,W,_⟩:=Qp h3;rw[V]at W;subst W;exact⟨((a,A),⟨q,m⟩),J,h3⟩;obtain⟨⟨ad,A⟩,⟨q,C⟩⟩:=y;have D:(WO q<|A3 ps).length=ps.length:=by{rw[Mk C];simp};have K:∀(j:Nat) (p:Y),ps[j]?=some p->∃o,(WO q<|A3 ps)[j]?=some (.im o<|As p):=λj p B=>by{have L:=(A9.1 B).1;have g:=Bi (l:=q) (i:=j) (by rw[C];simpa using L);exact⟨_,by rw[xB C,g,AS B]⟩};refine A0 O<|Ak (λy:Nat×T1=>[(12,i7 y.1),(11,i7 ps.length),(10,.eR<|.slice ad ps.length A),(1,.ref 2 0),(2,.ref 3 0)]) (λy=>[(2,some<|.cells 25 4 [i7 f,i7 n,.Kp<|.str x,.eR<|.slice ad ps.length A]),(3,some<|.cells 25 4 [i7 0,i7 0,.Kp<|.str [],.NB]),(5,some<|.hp<|Hf (.slice ad ps.length A) y.2)]) [1,6,7,8] (λy=>ps.length-y.1) (λy=>y.1<=ps.length/\y.2.length=ps.length/\(∀(j:Nat) a p,j<y.1->y.2[j]?=some a->ps[j]?=some p->kJ a p)/\(∀(j:Nat) p,y.1<=j->ps[j]?=some p->∃o,y.2[j]?=some (.im o<|As p))) (0,WO q<|A3 ps) ⟨AK _,D,λj a p h=>by omega,λj p _ B=>K j p B⟩ BA AB O λy hi ih=>?_;clear D K;obtain⟨i,R⟩:=y;obtain⟨P,H,M,N⟩:=hi;simp only at P H M N;refine A0 O<|Aa O (λh=>?_) λh=>?_;{simp at h;let⟨k,Q⟩:=Aq h;let⟨o,d⟩:=N i k (B6 _) Q;refine DS 5 (λ_:{ b:Nat // ad=some ⟨b,0,none⟩ }=>Hf (.slice ad ps.length A) R) O (λvs I w l U=>?_) λz=>?_;let⟨a,cap',W,e2⟩:=Qp U;simp only[cj]at W;let⟨b,hb⟩:=e2 (by rw[H];omega);exact⟨⟨b,by rw[W.1,hb]⟩,U⟩;obtain⟨b,rfl⟩:=z;have hC:=IH k<|AE Q;obtain⟨r,s,E,S⟩:=k;refine A0 O<|Eb ttY_ok O O (λ_=>⟨by simp,by simp;omega⟩) (by simp)<|Aj O<|C6 ttY_ok 5 ((As<|.mk r s E S).map .Kp) O O (λ_ vs I w l U=>by have:=oT U d;simpa[BG]using this) O O (by simp)<|Aj O<|AF (fr:=[6]) [] [(1,6)] [] (nm:=[6]) O trivial (by simp) hC ab O trivial rfl O O<|Aj O<|Eb ttY_ok O O (λ_=>⟨by simp,by simp;omega⟩) (by simp)<|Aj O<|Lw ttY_ok 5 6 7 (zpd (.slice (some ⟨b,0,none⟩) ps.length A) R i r s E S) O O O (by decide) (by{have e:0+((i:Int)).toNat*4=i*4:=by{simp};show IN _ _ _ 6 b (0+((i:Int)).toNat*4) _;rw[e];exact VN d O}) ?_;refine yg [] O (by simp<;>rfl)<|DS 7 (λa:{ a:Tr // kJ a (.mk r s E S) }=>Hf (.slice (some ⟨b,0,none⟩) ps.length A)<|R.set i a.1) O (λvs I w l U=>?_) λz=>?_;obtain⟨u,ks,m,J⟩:=U;exact⟨⟨.nd r s E u ks,by simpa[kJ]using m⟩,J⟩;obtain⟨a,T⟩:=z;refine AV 5 7 O<|Ad (ih (i+1,R.set i a) (by simp only;omega) ⟨by simp only;omega,by simpa using H,λj a' p hj G B=>?_,λj p hj B=>?_⟩) ⟨B2<|Gi (by simp only;omega) (by simp only;omega),B9⟩ AB O;simp only at hj G;by_cases e:i=j;subst e;rw[Jc<|by omega]at G;cases G;rw[Q]at B;cases B;exact T;rw[HQ e]at G;exact M j a' p (by omega) G B;simp only at hj ⊢;rw[HQ<|by omega];exact N j p (by omega) B};simp at h;have hl:i=ps.length:=by{omega};have his:Lq R ps:=Lp.2 ⟨H,λj a p T B=>M j a p (by have:=(A9.1 B).1;omega) T B⟩;exact Aw O<|A0 O<|L0 5 3 1 [.slice ad ps.length A] (A:=M9 ps) [i7 f,i7 n,.Kp<|.str x,.hv 1 0] O O (λus I w l h=>⟨_,R,his,rfl,h⟩) ⟨.inl O,.inl O,.inl O,.inr ⟨0,_,rfl,rfl,rfl⟩,ab⟩<|Ah ⟨_,AB⟩
termination_by t=>SizeOf.sizeOf t
decreasing_by all_goals(have:=C8 ht;simp_wf;omega)
structure PMt where
 id:Nat
 kv:List (V×V)
 b:Nat
 es:Array MapEntry
 clock:Nat
 kind:IntKind
 key:Int
 et:TypeId
 dst:Option Nat
 todo:List DI
def vT (A:TT) (n:Nat) (env:Env) (st:St) (todo:L1 DI):Option PMt :=
 match U3 todo with
 |some o=>match o.guard,o.op with
  |none,.mapEntry t m k=>match lk A t,Fi env m,Fi env k with
   |some { sh:=.map C D,.. },some (.cf id),some (.Kp (.int B i))=>match lk A C,lk st id,B4 todo ([id],[id]),Cs n o.dst with
    |some { sh:=.int z,.. },some (some (.gw G b es y)),some (_,_,q),true=>bif decide (z=B)then some ⟨id,G,b,es,y,B,i,D,o.dst,q⟩else none
    |_,_,_,_=>none
   |_,_,_=>none
  |_,_=>none
 |none=>none
structure PMu where
 id:Nat
 kv:List (V×V)
 b:Nat
 es:Array MapEntry
 clock:Nat
 stamp:Int
 x:V
 todo:List DI
def zmz (env:Env) (st:St) (todo:L1 DI):Option PMu :=
 match U3 todo with
 |some o=>match o.guard,o.op,o.dst with
  |none,.entryStore _ m s x,none=>match Fi env m,Fi env s,Fi env x with
   |some (.cf id),some (.Kp (.int _ i)),some (.Kp z)=>match lk st id,B4 todo ([id],[id])with
    |some (some (.gw A b es y)),some (_,_,q)=>some ⟨id,A,b,es,y,i,z,q⟩
    |_,_=>none
   |_,_,_=>none
  |_,_,_=>none
 |none=>none
def Tb:V->Value
 |.int k i=>.int k i
 |.bool b=>.bool b
 |_=>undef
def zn4:V->Bool
 |.int _ _=>true
 |.bool _=>true
 |_=>false
def yP {x:V} (h:zn4 x=true):PB I (Tb x) x:=by cases x<;>first|exact .int _ _|exact .bool _|cases h
def zdb {x:V} (h:zn4 x=true) (q:PB I v x):v=Tb x:=by cases x<;>first|(cases h;done)|(cases q;rfl)
section
variable {k:S6} {a:Act}
def fj:=@List.findIdx?_cons
def zb7 {l:L1 MapEntry} (y:(l.map (·.born)).Nodup) {q:MapEntry} (h:l[j]?=some q):l.findIdx? (λe=>((e.born:Nat):Int)==((q.born:Nat):Int))=some j:=by induction l generalizing j with|nil=>simp at h|cons a r A=>{simp only[CK,GI]at y;cases j with|zero=>simp only[zna,Co]at h;subst h;simp[fj]|succ j=>{simp only[Nm]at h;have z:a.born≠q.born:=λB=>y.1<|CC.2 ⟨q,AE h,B.symm⟩;have C:(((a.born:Nat):Int)==((q.born:Nat):Int))=false:=by{simp only[dh,ne_eq,Int.natCast_inj];exact z};rw[fj,C];simp[A y.2 h]}}
def zhl (xs:Array MapEntry) (p:MapEntry->Bool):xs.findIdx? p=xs.toList.findIdx? p:=by cases xs;simp
def zbw {h:Array Obj} {o:Obj} (y:h[b]?=some o):h.setIfInBounds b o=h:=by apply qR;intro i;by_cases e:b=i;subst e;have q:=(Ht.1 y).1;rw[zfv q,y];rw[H2 e]
def xM (E:dv P A) (j:Nat) {c:PMt} (h:vT A n env st todo=some c) (J:∀p∈c.kv,Jr (.int c.kind) p.1=true) (d:c.es[j]?=some e) (hp:c.kv[j]?=some p) (f:p.1=.int c.kind c.key) (hg:G P n F Q c.todo (Cn c.dst (.Kp<|.cg [p.2,.int .i64 e.born]) env) ((c.id,some<|.gw c.kv c.b c.es c.clock)::st) aa):G P n F Q todo env st aa:=by unfold vT at h;split at h;rename_i o ho;split at h;rename_i t m x ns l;split at h;rename_i kt et _ _ _ _ id ik i ht hm N;split at h;rename_i C _ _ _ _ kv b es B all o' q hi hl h1 y7;cases D:decide (C=ik)with|false=>rw[D]at h;cases h|true=>{rw[D]at h;simp only[az,Co]at h;have D:=ao D;subst D;subst h;simp only at J d hp f hg;have tk:o'=o:=E0 ho h1;subst tk;refine Cc (fr:=[]) (wr:=[(id,some<|.gw kv b es B)]) (rd:=[id]) h1 ?_ y7 (λc R=>by rw[l]at R;cases R) hg;intro I μ a7 k8 a w lr L mv;refine⟨λ_=>?_,λhw=>by rw[AO ns]at hw;cases hw⟩;have H:=B3 mv;rw[l]at H;have S:A2 a7 id<|.gw kv b es B:=by{unfold A2;rw[lr id<|by simp];exact hl};obtain⟨g,r,rfl,y,U,V,z⟩:=L.SB id _ S;have e1:a.eval m=.map (some b):=by{have:=H m (by simp[Op.operands]) _ hm;generalize a.eval m=v at this;cases this with|cf _ b' hmm=>{rw[hmm]at r;exact Lk r}};have rx:=(H x (by simp[Op.operands]) _ N).Ks;have ex:=rx.da;have hu:P.underlying t=some (.map kt et):=E.sh ht;have hd:Ms (.int C)=some (.int C):=rfl;have T:P.underlying kt=some (.int C):=O1 hd<|E.sh hi;have hkx:Jr (.int C) (.int C i)=true:=by{simp[Jr]};have W:=J5 hd hkx rx;rcases NE (I:=I) hd hkx rx es.toList kv 0 (by simpa using U) (λj e p h1 h2=>z j e p (by simpa using h1) h2) J with⟨q1,_,q3,q4⟩|⟨u,e',y',q1,q2,q3,_,q5,q6⟩;exfalso;have K:=(z j e p d hp).1;rw[f]at K;exact q4 e (by simpa using AE (by simpa using d:es.toList[j]?=some e)) (by rw[K.da,ex]);have M:es[u]?=some e':=by{simpa using q2};have ejj:u=j:=by{have K:=(z j e p d hp).1;rw[f]at K;have hkk:e.key=e'.key:=by{rw[K.da,q3,ex]};have xe:=V.2.2;have nw:(es.toList.map (·.key))[j]?=some e.key:=by{rw[Cx];simp[d]};have h2':(es.toList.map (·.key))[u]?=some e'.key:=by{rw[Cx];simp[M]};have l1:=(A9.1 nw);have l2:=(A9.1 h2');obtain⟨l1,g1⟩:=l1;obtain⟨l2,g2⟩:=l2;exact(qL l2 xe).1 (by rw[nw,h2',hkk])};subst ejj;rw[M]at d;cases d;have s:es.modify u (λe=>{ e with key:=a.eval x })=es:=by{apply qR;intro i';rw[dE];by_cases e2:u=i';subst e2;rw[ae O,M];simp[<- q3];rw[ac e2]};have iu:(execOp a.eval o').run P w=.ok (.value<|.tuple #[e.val,goInt e.born]) w:=by{simp only[execOp,l,e1];refine Ft ?_;simp[Instr.mapEntry,aj hu,bd y,bq T W,br T q1,M,q3,ec W,bz _ y,Result.andThen,s,zbw y]};rw[iu];let⟨r1,r2⟩:=L.update (it:=.gw kv b es B) (w':=w) S r rfl (by simp) O O O (λk hk=>rfl) ⟨rfl,y,U,V,z⟩;have hv:=(z u e p M hp).2;refine⟨I,μ,r1,.Kp _ _<|.cg _ _ O λi c x R N=>?_,Mu.le_refl μ,r2⟩;match i,R,N with|0,R,N=>cases R;cases N;exact hv|1,R,N=>cases R;cases N;exact .int _ _|i+2,R,N=>{simp at N}};cases h;cases h;cases h;cases h
def xN (s:dv P A) {c:PMt} {z:Value} {zd:V} (h:vT A n env st todo=some c) (u:∀p∈c.kv,Jr (.int c.kind) p.1=true) (f:IE c.kv (.int c.kind c.key)=none) (hz:(P.info? c.et).bind (·.zero)=some z) (E:∀I,PB I z zd)
  (hg:G P n F Q c.todo (Cn c.dst (.Kp<|.cg [zd,.int .i64 c.clock]) env) ((c.id,some<|.gw (c.kv++[(.int c.kind c.key,zd)]) c.b (c.es.push ⟨.int c.kind c.key,z,c.clock⟩)<|c.clock+1)::st) aa):G P n F Q todo env st aa:=by
 unfold vT at h
 split at h
 ·rename_i o ho
  split at h
  ·rename_i t m x ns l
   split at h
   ·rename_i kt et _ _ _ _ id ik i ht hm M
    split at h
    ·rename_i B _ _ _ _ J b es y all o' q hi hl D y7;cases H:decide (B=ik)with
     |false=>rw[H]at h;cases h
     |true=>
     rw[H]at h;simp only[az,Co]at h;have H:=ao H;subst H;subst h;simp only at u f hz hg;have tk:o'=o:=E0 ho D;subst tk;refine Cc (fr:=[]) (wr:=[(id,some<|.gw (J++[(.int B i,zd)]) b (es.push ⟨.int B i,z,y⟩)<|y+1)]) (rd:=[id]) D ?_ y7 (λc N=>by rw[l]at N;cases N) hg;intro I μ a7 k8 a w lr L mv;refine⟨λ_=>?_,λhw=>by rw[AO ns]at hw;cases hw⟩;have K:=B3 mv;rw[l]at K;have S:A2 a7 id<|.gw J b es y:=by unfold A2;rw[lr id<|by simp];exact hl
     obtain⟨g,r,rfl,C,R,T,U⟩:=L.SB id _ S;have e1:a.eval m=.map (some b):=by
      have:=K m (by simp[Op.operands]) _ hm;generalize a.eval m=v at this;cases this with
      |cf _ b' hmm=>rw[hmm]at r;exact Lk r
     have rx:=(K x (by simp[Op.operands]) _ M).Ks;have ex:=rx.da;have hu:P.underlying t=some (.map kt et):=s.sh ht;have hd:Ms (.int B)=some (.int B):=rfl;have hkd:P.underlying kt=some (.int B):=O1 hd<|s.sh hi;have hkx:Jr (.int B) (.int B i)=true:=by simp[Jr]
     have W:=J5 hd hkx rx;rcases NE (I:=I) hd hkx rx es.toList J 0 (by simpa using R) (λj e p D d=>U j e p (by simpa using D) d) u with⟨q1,_,q3,q4⟩|⟨j',e',y',q1,q2,q3,q5,_,q6⟩
     ·rw[ex]at q1 q4 W;have iu:(execOp a.eval o').run P w=.ok (.value<|.tuple #[z,goInt y]) { w with heap:=w.heap.setIfInBounds b (.map (es.push ⟨.int B i,z,y⟩)<|y+1) }:=by
       simp only[execOp,l,e1,ex];refine Ft ?_;simp[Instr.mapEntry,aj hu,bd C,bq hkd W,br hkd q1,Id hz,bz _ C,Result.andThen]
      rw[iu];have nc:=C7 C;let⟨r1,r2⟩:=L.update (it:=.gw (J++[(.int B i,zd)]) b (es.push ⟨.int B i,z,y⟩)<|y+1) (w':={ w with heap:=w.heap.setIfInBounds b (.map (es.push ⟨.int B i,z,y⟩)<|y+1) }) S r O (by simp) O O O (λk hk=>H2<|b9 hk)
       ⟨rfl,by simp[nc],by simp[R],stamped_push T (key:=.int B i) (val:=z) q4,λi' e p D d=>by
        rw[Wx]at D;rw[PH]at d;by_cases hi:i'=es.size
        ·rw[ae hi]at D;cases D;rw[ac<|by omega]at d;rw[show i'-J.length=0 by omega]at d;cases d;exact⟨.int _ _,E I⟩
        ·rw[ac hi]at D;have:=(Ht.1 D).1;rw[ae<|by omega]at d;exact U i' e p D d⟩
      refine⟨I,μ,r1,.Kp _ _<|.cg _ _ O λi c x N M=>?_,Mu.le_refl μ,r2⟩
      match i,N,M with
      |0,N,M=>cases N;cases M;exact E I
      |1,N,M=>cases N;cases M;exact .int _ _
      |i+2,N,M=>simp at M
     ·rw[q5]at f;cases f
    ·cases h
   ·cases h
  ·cases h
 ·cases h
def eD (j:Nat) {c:PMu} (h:zmz env st todo=some c) (E:zn4 c.x=true) (l:c.es[j]?=some e) (hb:(e.born:Int)=c.stamp) (hp:c.kv[j]?=some p) (r:G P n F Q c.todo env ((c.id,some<|.gw (c.kv.set j (p.1,c.x)) c.b (c.es.modify j λe=>{ e with val:=Tb c.x }) c.clock)::st) aa):G P n F Q todo env st aa:=by
 unfold zmz at h
 split at h
 ·rename_i o ho
  split at h
  ·rename_i t m s x J M B
   split at h
   ·rename_i id ik i C hm L hx
    split at h
    ·rename_i u b es y all S q hl D;cases h;simp only at E l hb hp r;have T:S=o:=E0 ho D;subst T;have r:G P n F Q q (Cn S.dst .undef env) ((id,some<|.gw (u.set j (p.1,C)) b (es.modify j λe=>{ e with val:=Tb C }) y)::st) aa:=by rw[B];exact r
     refine Cc (fr:=[]) (wr:=[(id,some<|.gw (u.set j (p.1,C)) b (es.modify j λe=>{ e with val:=Tb C }) y)]) (rd:=[id]) D ?_ (by simp[Cs,B]) (λc hc=>by rw[M]at hc;cases hc) r;intro I μ a7 k8 a w lr U mv;refine⟨λ_=>?_,λhw=>by rw[AO J]at hw;cases hw⟩;have A:=B3 mv;rw[M]at A;have V:A2 a7 id<|.gw u b es y:=by unfold A2;rw[lr id<|by simp];exact hl
     obtain⟨g,N,rfl,z,W,H,K⟩:=U.SB id _ V;have e1:a.eval m=.map (some b):=by
      have:=A m (by simp[Op.operands]) _ hm;generalize a.eval m=v at this;cases this with
      |cf _ b' hmm=>rw[hmm]at N;exact Lk N
     have r9:=(A s (by simp[Op.operands]) _ L).Ks.da;have ex:=zdb E (A x (by simp[Op.operands]) _ hx).Ks;have d:es.findIdx? (λe=>((e.born:Nat):Int)==i)=some j:=by
      rw[zhl,<- hb];exact zb7 H.2.1 (by simpa using l)
     have nc:=C7 z;have f:(execOp a.eval S).run P w=.ok .skip { w with heap:=w.heap.setIfInBounds b (.map (es.modify j λe=>{ e with val:=Tb C }) y) }:=by
      simp only[execOp,M,e1,ex,r9];simp[Instr.entryStore,bd z,asInt,asIntOf,d,bz _ z,Result.andThen]
     rw[f];let⟨r1,r2⟩:=U.update (it:=.gw (u.set j (p.1,C)) b (es.modify j λe=>{ e with val:=Tb C }) y) (w':={ w with heap:=w.heap.setIfInBounds b (.map (es.modify j λe=>{ e with val:=Tb C }) y) }) V N O (by simp) O O O (λk hk=>H2<|b9 hk)
      ⟨rfl,by simp[nc],by simp[W],stamped_modify H _ _ (λ_ _=>rfl) λe' _ qk=>rfl,λi' e' p' D R=>by
       rw[dE]at D;rw[dA]at R;by_cases hi:j=i'
       ·subst hi;rw[ae O,l]at D;cases D;rw[ae O]at R
        split at R
        ·cases R;exact⟨(K j e p l hp).1,yP E⟩
        ·cases R
       ·rw[ac hi]at D R;exact K i' e' p' D R⟩
     exact⟨I,μ,r1,.undef _,Mu.le_refl μ,r2⟩
    ·cases h
   ·cases h
  ·cases h
 ·cases h
end
noncomputable def lv (a8 l:L1 Int):L1 Int:=a8++(List.range l.length).map λk=>(FI a8 k:Int)
noncomputable def nk (a8 l:L1 Int):L1<|V×V:=l.zipIdx.map λp=>(.int .i64 p.1,.int .i64<|FI a8 p.2)
def mU (a8 l:K2):∀p∈nk a8 l,Jr (.int .i64) p.1=true:=λp y=>by
 obtain⟨q,_,rfl⟩:=CC.1 y;rfl
def zl5 (a8 l:K2):(nk a8 l).length=l.length:=by simp[nk]
def zid (a8 l:K2) (h:Int):nk a8 (l++[h])=nk a8 l++[(.int .i64 h,.int .i64<|FI a8 l.length)]:=by simp[nk,List.zipIdx_append]
def zdo (a8 l:K2) (h:Int):lv a8 (l++[h])=lv a8 l++[(FI a8 l.length:Int)]:=by simp[lv,cX]
def mV {a8:K2} (h:Int):∀(l:K2) (k:Nat),IE ((l.zipIdx k).map λp=>((.int .i64 p.1,.int .i64<|FI a8 p.2):V×V)) (.int .i64 h)=if h∈l then some (.int .i64<|FI a8<|k+l.idxOf h)else none
 |[],_=>rfl
 |x::r,k=>by have y:=mV (a8:=a8) h r<|k+1;simp only[zfr,CK,IE,Oy];by_cases e:x=h;subst e;simp;have z:¬h=x:=λh=>e h.symm;have A:decide (x=h)=false:=ap e;rw[A];simp only[En,aq,y,Cu,z,gc];by_cases q:h∈r;rw[ae q,ae q,show(x::r).idxOf h=r.idxOf h+1 by rw[List.idxOf_cons,show(x==h)=false by simpa using e];rfl,show k+1+r.idxOf h=k+(r.idxOf h+1) by omega];rw[ac q,ac q]
def mT {a8:K2}:IE (nk a8 l) (.int .i64 h)=if h∈l then some (.int .i64<|FI a8<|l.idxOf h)else none:=by rw[nk,mV h l 0,BU]
def fk:=@List.getElem_idxOf
def zl6 {a8:K2} (y:h∈l):(nk a8 l)[l.idxOf h]?=some (.int .i64 h,.int .i64<|FI a8<|l.idxOf h):=by have q:=qH.2 y;have z:l[l.idxOf h]?=some h:=by{rw[Bi q,fk]};simp[nk,Cx,List.getElem?_zipIdx,z]
def zd0 (y:h∈l):(Fh l)[l.idxOf h]?=some (.int .i64 h,.bool true):=by have q:=qH.2 y;have z:l[l.idxOf h]?=some h:=by{rw[Bi q,fk]};simp[Fh,z]
def V6 {α:Type}:∀{l:L1 α} {j:Nat} {a:α},l[j]?=some a->l.set j a=l
 |[],_,_,h=>by simp at h
 |b::r,0,a,h=>by simp at h;subst h;rfl
 |b::r,j+1,a,h=>by simp at h;simp[V6 h]
def znu {a8:K2} (D:j<=FI a8 l.length):(j:Int)∈lv a8 l↔j<FI a8 l.length:=by let⟨B,y⟩:=Oc a8 l.length;constructor;intro h;rcases Nat.lt_or_ge j (FI a8 l.length)with hl|hl;exact hl;exfalso;have e:j=FI a8 l.length:=by{omega};rw[lv,AT]at h;rcases h with h|h;rw[e]at h;exact B h;let⟨i,z,A⟩:=CC.1 h;have z:=OW.1 z;have A:FI a8 i=FI a8 l.length:=by{omega};have:=(Oc a8 i).2;rw[A,y]at this;omega;intro hl;rw[lv,AT];by_cases q:(j:Int)∈a8;exact .inl q;right;have C:=O3 (a8:=a8) (show j+1<=FI a8 l.length from hl);rw[Ei,ac q,y]at C;refine CC.2 ⟨JU a8 j,OW.2<|by omega,?_⟩;have:nh a8 (JU a8 j) j:=⟨q,rfl⟩;have:=this.unique<|Oc a8<|JU a8 j;omega
def zke {a8:K2} {k:Nat} (h:k<l.length):(FI a8 k:Int)∈lv a8 l:=by rw[lv,AT];exact .inr<|CC.2 ⟨k,OW.2 h,rfl⟩
mutual
noncomputable def Fv (a8 L:L1 Int):Y->Y
 |.mk f n x ps=>.mk (if f=10 then 9 else f) (if f=9 then FI a8 (L.idxOf n)else n) x<|FP a8 L ps
noncomputable def FP (a8 L:L1 Int):L1 Y->L1 Y
 |[]=>[]
 |t::r=>Fv a8 L t::FP a8 L r
end
def Wp (a8 L:K2):∀l:E1,FP a8 L l=l.map (Fv a8 L)
 |[]=>rfl
 |t::r=>by simp[FP,Wp a8 L r]
mutual
def zg8:∀(t:Y) (l:K2),∃r,D5 t l=l++r
 |.mk f n x ps,l=>by simp only[D5];split;split;exact⟨[],by simp⟩;exact⟨[n],rfl⟩;exact Sy ps l
def Sy:∀(ts:E1) (l:K2),∃r,CF ts l=l++r
 |[],l=>⟨[],by simp[CF]⟩
 |t::r,l=>by let⟨a,q⟩:=zg8 t l;let⟨b,y⟩:=Sy r<|D5 t l;exact⟨a++b,by rw[CF,y,q,CV]⟩
end
def Mn:∀(a b:E1) (l:K2),CF (a++b) l=CF b (CF a l)
 |[],_,_=>rfl
 |t::r,b,l=>by simp only[DV,CF];exact Mn r b _
mutual
def ga:=@List.idxOf_append
def Z4 {a8:K2}:∀(t:Y) {L r:K2},(∀h∈Dv t,h∈L)->CY t=true->Fv a8 (L++r) t=Fv a8 L t
 |.mk f n x ps,L,r,h,A=>by have q:∀p∈ps,CY p=true:=λp y=>GS A p (by simpa[HJ]using y);by_cases z:f=9;subst z;have B:n∈L:=h n (by simp[Dv]);have e:=Fp A O;simp only[Ay,num,Y.mk.injEq]at e;obtain⟨_,_,rfl,rfl⟩:=e;simp only[Fv,FP,aw];rw[ga,ae B];simp only[Fv,ac z];congr 1;exact Wo ps (λp y m C=>h m (by simp only[Dv,ac z];exact QD.2 ⟨p,y,C⟩)) q
def Wo {a8:K2}:∀(ts:E1) {L r:K2},(∀t∈ts,∀h∈Dv t,h∈L)->(∀t∈ts,CY t=true)->FP a8 (L++r) ts=FP a8 L ts
 |[],_,_,_,_=>rfl
 |t::q,L,r,h,z=>by simp only[FP];rw[Z4 t (h t<|by simp)<|z t<|by simp,Wo q (λp y=>h p<|by simp[y]) λp y=>z p<|by simp[y]]
end
noncomputable def ol (a8 l:L1 Int):St:=[(1,some<|.cells 123 2 [.cf 2,.cf 3]),(2,some<|.map<|Fh<|lv a8 l),(3,some<|.map<|nk a8 l)]
def ndD (f n:Int) (x:Z) (a:Nat):D:=.agg [.Kp<|.int .i64 f,.Kp<|.int .i64 n,.Kp<|.str x,.hv a 0]
def wm (a8 l:L1 Int) (t:Y):Prop :=
 ed 81 [.ref 1 0,ndD (CS t) (num t) (Fk t) 4] (ol a8 l++[(4,some<|.hp<|M9<|HJ t)])
  (.ret (ndD (CS<|Fv a8 (D5 t l) t) (num<|Fv a8 (D5 t l) t) (Fk<|Fv a8 (D5 t l) t) 5)<|ol a8 (D5 t l)++[(5,some<|.hp<|M9<|HJ<|Fv a8 (D5 t l) t)])
def V7 {α:Type} (a b:α):∀l:L1 α,(l++[a]).set l.length b=l++[b]
 |[]=>rfl
 |x::r=>by simp[V7 a b r]
def zor {a:Tr} {n:Int} (h:kJ a<|.mk f n x ps):∃v ks,a=.nd f n x v ks/\Lq ks ps:=by cases a with|nd q y z v ks=>simp only[kJ]at h;obtain⟨rfl,rfl,rfl,h⟩:=h;exact⟨v,ks,rfl,h⟩|im _ _=>simp[kJ]at h|gp _ _ _ _=>{simp[kJ]at h}
def Q7 (a8:K2) (f n:Int) (x:Z) (ps:E1) (l:K2) (hl3:ps.length<=3) (hw:∀p∈ps,CY p=true) (IH:∀p∈ps,∀l:K2,(D5 p l).length<=1000000->wm a8 l p) (J:(CF ps l).length<=1000000) :
  ia Tryz.f81.ntmps [1,2,3,4] (IZ XV Tryz.f81.results.toList<|.ret (ndD f n x 5)<|ol a8 (CF ps l)++[(5,some<|.hp<|M9<|FP a8 (CF ps l) ps)])
   [.code<|Ek Tryz.f81 2] [(0,.ref 1 0),(3,.ref 6 0),(4,.ref 7 0)]
   ((6,some<|.cells 25 4 [i7 f,i7 n,.Kp<|.str x,.hv 4 0])::(7,some<|.cells 25 4 [i7 0,i7 0,.Kp<|.str [],.NB])::ol a8 l++[(4,some<|.hp<|M9 ps)]) [8,5,9,10,11,12,13]:=by
 refine HF (Kr:=[5,9,10,11,12,13]) 4 8 (λx:(Option Addr×Nat)×{ D:T1 // Lq D ps }=>[.slice x.1.1 ps.length x.1.2]) (λx=>Hf (.slice x.1.1 ps.length x.1.2) x.2.1) O (λvs I w g h=>?_) λy=>?_
 ·obtain⟨v,D,L,P,h3⟩:=h;let⟨a,A,m,_⟩:=Qp h3;rw[QT L]at m;subst m;exact⟨((a,A),⟨D,L⟩),P,h3⟩
 obtain⟨⟨ad,A⟩,⟨gs0,G⟩⟩:=y;refine A0 O<|Ak (λy:Nat×T1=>[(60,i7 y.1),(59,i7 ps.length),(58,.eR<|.slice ad ps.length A),(0,.ref 1 0),(3,.ref 6 0),(4,.ref 7 0)])
  (λy=>(6,some<|.cells 25 4 [i7 f,i7 n,.Kp<|.str x,.eR<|.slice ad ps.length A])::(7,some<|.cells 25 4 [i7 0,i7 0,.Kp<|.str [],.NB]) ::
   (8,some<|.hp<|Hf (.slice ad ps.length A) y.2)::ol a8 (CF (ps.take y.1) l)) [5,9,10,11,12,13] (λy=>ps.length-y.1) (λy=>y.1<=ps.length/\y.2.length=ps.length/\(∀(j:Nat) a p,j<y.1->y.2[j]?=some a->ps[j]?=some p->kJ a (Fv a8 (CF ps l) p))/\(∀(j:Nat) a p,y.1<=j->y.2[j]?=some a->ps[j]?=some p->kJ a p)) (0,gs0)
  ⟨AK _,QT G,λj a p h=>by omega,λj a p _ o C=>(Lp.1 G).2 j a p o C⟩ GW GW O λy hi ih=>?_
 clear G;obtain⟨i,D⟩:=y;obtain⟨nr,H,N,R⟩:=hi;simp only at nr H N R;refine A0 O<|Aa O (λh=>?_) λh=>?_
 ·simp at h;let⟨k,Q⟩:=Aq h;have s:=AE Q;obtain⟨a,t⟩:∃a,D[i]?=some a:=⟨_,Bi<|by omega⟩
  have hak:=R i a k (B6 _) t Q;have U:CF (ps.take<|i+1) l=D5 k (CF (ps.take i) l):=by rw[Bm Q,Mn];rfl
  obtain⟨r,S⟩:∃r,CF ps l=CF (ps.take (i+1)) l++r:=by
   let⟨r,S⟩:=Sy (ps.drop<|i+1)<|CF (ps.take<|i+1) l;exact⟨r,by rw[<- S,<- Mn,wQ]⟩
  have V:Fv a8 (CF ps l) k=Fv a8 (D5 k<|CF (ps.take i) l) k:=by
   rw[S,U];exact Z4 k (λh hh=>(Od k _).2 (.inr hh))<|hw k s
  have nc:(D5 k<|CF (ps.take i) l).length<=1000000:=by
   rw[S,U]at J;simp only[Bo]at J;omega
  have T:=IH k s (CF (ps.take i) l) nc;unfold wm at T;rw[<- V,<- U]at T;generalize CF (ps.take i) l=l0 at *;obtain⟨W,c,d,kp⟩:=k;obtain⟨v,ks,rfl,wd⟩:=zor hak;obtain⟨K,E⟩:∃K,Fv a8 (CF ps l) (.mk W c d kp)=K:=⟨_,rfl⟩
  rw[E]at T;refine DS 8 (λ_:{ b:Nat // ad=some ⟨b,0,none⟩ }=>Hf (.slice ad ps.length A) D) O (λvs I w g M=>?_) λz=>?_
  ·let⟨a,cap',m,e2⟩:=Qp M;simp only[cj]at m;let⟨b,J⟩:=e2 (by rw[H];omega);exact⟨⟨b,by rw[m.1,J]⟩,M⟩
  obtain⟨b,rfl⟩:=z;refine zlz (Kr:=[10,11,12,13]) 8 5 9 (λ_:Unit=>Hf (.slice (some ⟨b,0,none⟩) ps.length A)<|D.set i<|.gp W c d v) (λ_=>Hf v ks) O (λvs I w g M=>?_) λ_=>?_
  ·let⟨b1,b2,q1,q2,q3,q4,q5⟩:=oS M t;exact⟨(),b1,b2,q1,q2,q3,q4,q5⟩
  have F:(D.set i<|.gp W c d v)[i]?=some (.gp W c d v):=Jc (by omega)
  refine A0 O<|Eb ttY_ok O O (λ_=>⟨by simp,by simp;omega⟩) (by simp)<|Aj O<|C6 ttY_ok 5 [i7 W,i7 c,.Kp<|.str d,.eR v] O O (λ_ vs I w g M=>by have:=oU M F;simpa[BG]using this) O O (by simp)<|Qa 4 O (by simp)<|L0 (Kr:=[12,13]) 9 10 11 [v] (A:=M9 kp) [i7 W,i7 c,.Kp<|.str d,.hv 11 0] O O (λus I w g h=>⟨_,ks,wd,rfl,h⟩) ⟨.inl O,.inl O,.inl O,.inr ⟨0,_,rfl,rfl,rfl⟩,ab⟩<|A0 O<|AF (fr:=[12]) [(1,1),(2,2),(3,3),(11,4)] [(5,12)] [] (nm:=[1,2,3,12,1,2,3,11]) O trivial (by simp) T IR O trivial rfl O O<|Aj O<|Eb ttY_ok O O (λ_=>⟨by simp,by simp;omega⟩) (by simp)<|Aj O<|Lw ttY_ok 5 12 13 (zpd (.slice (some ⟨b,0,none⟩) ps.length A) (D.set i<|.gp W c d v) i (CS K) (num K) (Fk K)<|HJ K) O O O (by decide) (by
   have e:0+((i:Int)).toNat*4=i*4:=by simp
   show IN _ _ _ 12 b (0+((i:Int)).toNat*4) _;rw[e];exact VN F O) ?_
  refine yg [] O (by simp;rfl)<|DS 13 (λa:{ a:Tr // kJ a K }=>Hf (.slice (some ⟨b,0,none⟩) ps.length A)<|D.set i a.1) O (λvs I w g M=>?_) λz=>?_
  ·obtain⟨u,ks,L,P⟩:=M;rw[List.set_set]at P;obtain⟨t1,t2,t3,t4⟩:=K;exact⟨⟨.nd t1 t2 t3 u ks,by simpa[kJ,HJ]using L⟩,P⟩
  obtain⟨a,o⟩:=z;refine AV 8 13 O<|Ad (ih (i+1,D.set i a) (by simp only;omega) ⟨by simp only;omega,by simpa using H,λj a' p hj B C=>?_,λj a' p hj B C=>?_⟩) ⟨B2<|Gi (by simp only;omega) (by simp only;omega),BA⟩ GW O
  ·simp only at hj B;by_cases e:i=j
   ·subst e;rw[Jc<|by omega]at B;cases B;rw[Q]at C;cases C;rw[E];exact o
   ·rw[HQ e]at B;exact N j a' p (by omega) B C
  ·simp only at hj B;rw[HQ<|by omega]at B;exact R j a' p (by omega) B C
 ·simp at h;have hl:i=ps.length:=by omega
  subst hl;rw[P8];have his:Lq D<|FP a8 (CF ps l) ps:=Lp.2 ⟨by rw[Wp,CD];exact H,λj a p o C=>by
   rw[Wp,Cx]at C;cases hq:ps[j]? with
   |none=>rw[hq]at C;cases C
   |some q=>
    rw[hq]at C;simp only[FQ,Co]at C;rw[<- C];exact N j a q (A9.1 hq).1 o hq⟩
  exact Aw O<|A0 O<|L0 (Kr:=[9,10,11,12,13]) 8 7 5 [.slice ad ps.length A] (A:=M9<|FP a8 (CF ps l) ps) [i7 f,i7 n,.Kp<|.str x,.hv 5 0] O O (λus I w g h=>⟨_,D,his,rfl,h⟩) ⟨.inl O,.inl O,.inl O,.inr ⟨0,_,rfl,rfl,rfl⟩,ab⟩<|Ah ⟨_,GW⟩
def zfb (a8:K2) (T:a8.length<=1000000):∀(t:Y) (l:K2),CY t=true->(D5 t l).length<=1000000->wm a8 l t
 |.mk f n x ps,l,hw,a=>by have b:=MD hw;have c:∀p∈ps,CY p=true:=λp C=>GS hw p (by simpa[HJ]using C);have IH:∀p∈ps,∀l:K2,(D5 p l).length<=1000000->wm a8 l p:=λp C l h=>zfb a8 T p l (c p C) h;simp only[HJ]at b;unfold wm;by_cases S:f=9;subst S;have e:=Fp hw O;simp only[Ay,num,Y.mk.injEq]at e;obtain⟨_,_,rfl,rfl⟩:=e;have i:∀L,Fv a8 L (.mk 9 n [] [])=.mk 9 (FI a8<|L.idxOf n) [] []:=λL=>by{simp[Fv,FP]};rw[i];refine Ae ttY_ok func81 O [6,7,8,5,9,10,11,12,13]<|Aj O<|Aa O (λh=>by simp[CS]at h) λh=>?_;refine A0 O<|Aa O (λh=>?_) (λh=>by simp[CS]at h);refine A0 O ?_;by_cases d:n∈l;have eg:D5 (.mk 9 n [] []) l=l:=by{simp[D5,d]};rw[eg]at a ⊢;have R:=Q7 a8 9 (FI a8<|l.idxOf n) [] [] l (by simp) (λp C=>by simp at C) (λp C=>by simp at C) (by simpa[CF]using a);have A:=mT (a8:=a8) (l:=l) (h:=n);rw[ae d]at A;have U:=zl6 (a8:=a8) d;have D:=zke (a8:=a8)<|qH.2 d;have V:=zd0 D;have G:=mU a8 l;have H:=Dz<|lv a8 l;have hlb:=zl5 a8 l;have hjt:=(A9.1 V).1;have hjb:=(A9.1 U).1;simp only[ol,CF]at R;simp only[ol];generalize nk a8 l=B at *;generalize(lv a8 l).idxOf ↑(FI a8<|l.idxOf n)=jt at *;generalize Fh (lv a8 l)=K at *;generalize FI a8 (l.idxOf n)=N at *;generalize l.idxOf n=jb at *;refine CR ttY_ok 3 (z:=.int .i64 0) (zd:=.int .i64 0) (dr:=.Kp<|.cg [.int .i64 N,.bool true]) O O O G (by simp) O (λ_=>.int _ _) (by simp only[H5];rw[show num (Y.mk 9 n [] [])=n from rfl,A];rfl)<|yg [] O (by simp;rfl)<|Ak (λ_:Unit=>[(5,i7 N),(6,.Kp<|.bool true),(0,.ref 1 0),(3,.ref 6 0),(4,.ref 7 0)]) (λ_=>(6,some<|.cells 25 4 [i7 9,i7 n,.Kp<|.str [],.hv 4 0])::(7,some<|.cells 25 4 [i7 0,i7 0,.Kp<|.str [],.NB])::(1,some<|.cells 123 2 [.cf 2,.cf 3])::(2,some<|.map K)::(3,some<|.map B)::[(4,some<|.hp<|M9 [])]) [8,5,9,10,11,12,13] (λ_=>0) (λ_=>True) () ab BA GW O λ_ _ k=>?_;clear k;refine A0 O<|Ag O λh=>Aw O<|J6 3 O λb1 m q o r=>J6 2 O λb2 s y u v=>?_;obtain⟨x1,w⟩:∃e,m[jb]?=some e:=⟨_,Si<|by omega⟩;obtain⟨x2,E⟩:∃e,s[jt]?=some e:=⟨_,Si<|by omega⟩;exact A0 O<|xM ttY_ok jb (e:=x1) O G w U O<|Aj O<|eD jb (e:=x1) O O w O U<|Aj O<|xM ttY_ok jt (e:=x2) O H E V O<|Aj O<|eD jt (e:=x2) O O E O V<|Qa 2 O (by simp;rfl)<|Ip 2 O<|Ip 3 O<|ydf 5 O (by simp)<|Ad R AB ⟨rfl,rfl,rfl,af fp.map<|V6 V,af fp.map<|V6 U,AD⟩ O;have eg:D5 (.mk 9 n [] []) l=l++[n]:=by{simp[D5,d]};have ei:(l++[n]).idxOf n=l.length:=by{rw[ga,ac d];simp};rw[eg]at a ⊢;rw[ei];have R:=Q7 a8 9 (FI a8 l.length) [] [] (l++[n]) (by simp) (λp C=>by simp at C) (λp C=>by simp at C) (by simpa[CF]using a);have A:=mT (a8:=a8) (l:=l) (h:=n);rw[ac d]at A;have D:=λ(j:Nat) (hj:j<=FI a8 l.length)=>znu (a8:=a8) (l:=l) hj;have G:=mU a8 l;have H:=Dz<|lv a8 l;have hNb:FI a8 l.length<=2000000:=by{have:=zkf a8 l.length;simp at a;omega};have F:=RK (FI a8 l.length:Int)<|lv a8 l;rw[ac (λh=>by have:=(D _<|B6 _).1 h;omega)]at F;have I:=V7 (.int .i64 n,.int .i64 0) (.int .i64 n,.int .i64 (FI a8 l.length:Int))<|nk a8 l;rw[<- zid]at I;have J:=V7 (.int .i64 (FI a8 l.length:Int),.bool false) (.int .i64 (FI a8 l.length:Int),.bool true)<|Fh<|lv a8 l;have i:Fh (lv a8 l)++[(.int .i64 (FI a8 l.length:Int),.bool true)]=Fh (lv a8<|l++[n]):=by{rw[zdo];simp[Fh]};rw[i]at J;have M:=λ(j:Nat)=>Ib (j:Int)<|lv a8 l;clear i;simp only[ol,CF]at R;simp only[ol];generalize nk a8 (l++[n])=B' at *;generalize nk a8 l=B at *;generalize Fh (lv a8<|l++[n])=K' at *;generalize hK:Fh (lv a8 l)=K at *;generalize FI a8 l.length=N at *;refine CR ttY_ok 3 (z:=.int .i64 0) (zd:=.int .i64 0) (dr:=.Kp<|.cg [.int .i64 0,.bool false]) O O O G (by simp) O (λ_=>.int _ _) (by simp only[H5];rw[show num (Y.mk 9 n [] [])=n from rfl,A];rfl)<|yg [] O (by simp;rfl)<|Ak (λz:Nat×Bool=>[(5,i7 z.1),(6,.Kp<|.bool z.2),(0,.ref 1 0),(3,.ref 6 0),(4,.ref 7 0)]) (λ_=>(6,some<|.cells 25 4 [i7 9,i7 n,.Kp<|.str [],.hv 4 0])::(7,some<|.cells 25 4 [i7 0,i7 0,.Kp<|.str [],.NB])::(1,some<|.cells 123 2 [.cf 2,.cf 3])::(2,some<|.map K)::(3,some<|.map B)::[(4,some<|.hp<|M9 [])]) [8,5,9,10,11,12,13] (λz=>if z.2=true then 0 else N-z.1+1) (λz=>z.1<=N/\(z.2=true->z.1=N)) (0,false) ⟨AK _,λh=>nomatch h⟩ BA GW O λz hz k=>?_;obtain⟨j,is⟩:=z;obtain⟨W,P⟩:=hz;simp only at W P;cases is with|false=>{refine A0 O<|Ap O λh=>A0 O ?_;by_cases Q:j<N;have hd:decide ((j:Int)∈lv a8 l)=true:=bg<|(D j W).2 Q;exact CR ttY_ok 2 (z:=.bool false) (zd:=.bool false) (dr:=.Kp<|.bool true) O O O H (by simp) O (λ_=>.bool _) (by rw[M,hd])<|Aj O<|Ap O λh=>A0 O<|Ad (k (j+1,false) (by simp;omega) ⟨by simp only;omega,λh=>nomatch h⟩) ⟨B2<|Gi (by simp only;omega) (by simp only;omega),B9⟩ GW O;have hd:decide ((j:Int)∈lv a8 l)=false:=ap λh=>Q<|(D j W).1 h;exact CR ttY_ok 2 (z:=.bool false) (zd:=.bool false) (dr:=.Kp<|.bool false) O O O H (by simp) O (λ_=>.bool _) (by rw[M,hd])<|Aj O<|Ag O λh=>A0 O<|Ad (k (j,true) (by simp) ⟨W,λ_=>by omega⟩) BA GW O}|true=>{have ej:=P O;subst ej;clear k;exact A0 O<|Ag O λh=>Aw O<|J6 3 O λb1 m q o r=>J6 2 O λb2 s y u v=>A0 O<|xN ttY_ok (z:=.int .i64 0) (zd:=.int .i64 0) O G A O (λ_=>.int _ _)<|Aj O<|eD B.length (e:=⟨.int .i64 n,.int .i64 0,q⟩) (p:=(.int .i64 n,.int .i64 0)) O O (by simp[<- o]) O (by simp)<|Aj O<|xN ttY_ok (z:=.bool false) (zd:=.bool false) O H F O (λ_=>.bool _)<|Aj O<|eD K.length (e:=⟨.int .i64 j,.bool false,y⟩) (p:=(.int .i64 j,.bool false)) O O (by simp[<- u]) O (by simp)<|Qa 2 O (by simp;rfl)<|Ip 2 O<|Ip 3 O<|ydf 5 O (by simp)<|Ad R AB ⟨rfl,rfl,rfl,af fp.map J,af fp.map I,AD⟩ O};have e1:D5 (.mk f n x ps) l=CF ps l:=by{simp only[D5,ac S]};have i:∀L,Fv a8 L (.mk f n x ps)=.mk (if f=10 then 9 else f) n x (FP a8 L ps):=λL=>by{simp only[Fv,ac S]};rw[e1]at a ⊢;rw[i];refine Ae ttY_ok func81 O [6,7,8,5,9,10,11,12,13]<|Aj O ?_;by_cases g:f=10;subst g;have R:=Q7 a8 9 n x ps l b c IH a;refine Aa O (λh=>?_) (λh=>by simp[CS]at h);exact ydf 5 O (by simp)<|Ad R AB GW O;have R:=Q7 a8 f n x ps l b c IH a;rw[ac g];refine Aa O (λh=>by exfalso;simp[CS]at h;exact g h) λh=>?_;refine A0 O<|Aa O (λh=>by exfalso;simp[CS]at h;exact S h) λh=>?_;exact ydf 2 O (by simp)<|Ad R AB GW O
termination_by t=>SizeOf.sizeOf t
decreasing_by have:=C8 C;simp_wf;omega
def sM (l:At) (f:FuncId) (a b:G2) (q:Z×Y->Bool) (e:∀t∈l,ca f (a++[.agg<|eO t]++b)<|.bool<|q t):∃i:Int,(0<=i↔l.any q=true)/\ca 188 [.sl<|dKns l,.lj (.func f) a b] (.int .i64 i):=by obtain⟨i,W,c⟩:∃i:Int,(0<=i↔l.any q=true)/\((i = -1/\l.any q=false)\/∃(k:Nat) (t:Z×Y),i=k/\l[k]?=some t/\q t=true/\(l.take k).any q=false):=by{by_cases h:l.any q=true;have M:∀(n:Nat),(l.take n).any q=true->∃(k:Nat) (t:Z×Y),l[k]?=some t/\q t=true/\(l.take k).any q=false:=λn=>by{induction n with|zero=>intro h;simp at h|succ n N=>{intro h;by_cases C:(l.take n).any q=true;exact N C;by_cases g:n<l.length;let⟨t,B⟩:=Aq g;rw[Bm B,KL]at h;simp only[Ww]at C;rw[C,Wt]at h;exact⟨n,t,B,by simpa using h,C⟩;rw[Df<|by omega]at h C;exact absurd h C}};let⟨k,t,D,G,R⟩:=M l.length (by rw[P8];exact h);exact⟨k,⟨λ_=>h,λ_=>by omega⟩,.inr ⟨k,t,rfl,D,G,R⟩⟩;exact⟨-1,⟨λd=>by omega,λd=>absurd d h⟩,.inl ⟨rfl,by simpa using h⟩⟩};refine⟨i,W,?_⟩;clear W;refine BJ λm=>?_;simp[DF,GA,maxLen]at m;refine Ae ttY_ok func188 O [1,2]<|Aj O<|Ak (λj:Nat=>[(8,i7 j),(7,i7 l.length),(0,.Kp<|.sl<|dKns l),(1,.Kp<|.lj (.func f) a b)]) (λ_=>[]) [1,2] (λj=>l.length-j) (λj=>j<=l.length/\(l.take j).any q=false) 0 ⟨AK _,rfl⟩ ⟨rfl,B2<|by simp,AL⟩ ab O λj p N=>?_;obtain⟨r,z⟩:=p;refine A0 O<|Aa O (λh=>?_) λh=>?_;have H:j<l.length:=by{simp at h;omega};let⟨t,B⟩:=Aq H;have s:=NM B;have v:=e t<|AE B;have U:(l.take<|j+1).any q=q t:=by{rw[Bm B,KL,z];simp};have A:q t=true->i=j:=λK=>by{rcases c with⟨_,h⟩|⟨k,u,rfl,D,G,R⟩;have:l.any q=true:=Fb.2 ⟨t,AE B,K⟩;rw[this]at h;cases h;congr 1;rcases P9 k j with hc|hc|hc;have:(l.take j).any q=true:=Fb.2 ⟨u,EI.2 ⟨k,by rw[Ea,ae hc];exact D⟩,G⟩;rw[z]at this;cases this;exact hc;have:(l.take k).any q=true:=Fb.2 ⟨t,EI.2 ⟨j,by rw[Ea,ae hc];exact B⟩,K⟩;rw[R]at this;cases this};generalize q t=o at *;obtain⟨y,⟨t1,t2,t3,t4⟩⟩:=t;refine A0 O<|XU O s<|Aj O<|UQ O (λ_=>v) (by simp)<|Aj O ?_;cases o with|true=>{exact Ap O λh=>A0 O<|Ah ⟨_,rfl,tV<|by rw[A O],ab⟩}|false=>{exact Ag O λh=>A0 O<|Ad (N (j+1) (by omega) ⟨by omega,U⟩) ⟨Bc,AB⟩ ab O};have H:¬j<l.length:=by{simp at h;omega};rw[Df<|by omega]at z;have w:i = -1:=by{rcases c with⟨h,_⟩|⟨k,u,_,D,G,_⟩;exact h;have:l.any q=true:=Fb.2 ⟨u,AE D,G⟩;rw[z]at this;cases this};exact Aw O<|A0 O<|Ah ⟨_,rfl,tV<|by rw[w],ab⟩
def Yp (l:At) (f:FuncId) (a b:G2) (q:Z×Y->Bool) (y:∀t∈l,ca f (a++[.agg<|eO t]++b)<|.bool<|q t):ca 129 [.sl<|dKns l,.lj (.func f) a b]<|.bool<|l.any q:=by let⟨i,z,A⟩:=sM l f a b q y;refine Ae ttY_ok func129 O [1,2]<|Aj O<|Ac O A<|Aj O<|Ab O O (af _ ?_);rw[Ga,<- z];simp
def zbm (g:FuncId) (q:Z×Y->Bool) (t:Z×Y) (z:ca g [.agg<|eO t]<|.bool<|q t):ca 130 [.agg<|eO t,.ip 116 [.fn<|.func g] 0]<|.bool (!q t):=by generalize q t=o at *;obtain⟨y,⟨t1,t2,t3,t4⟩⟩:=t;exact Qs<|Ae ttY_ok func130 O [2,3,4,5]<|Aj O<|Ac O z<|Aj O<|Ab O O O
def zgw (l:At) (g:FuncId) (q:Z×Y->Bool) (y:∀t∈l,ca g [.agg<|eO t]<|.bool<|q t):ca 71 [.sl<|dKns l,.fn<|.func g]<|.bool<|l.all q:=by have z:=Yp l 130 [] [.ip 116 [.fn<|.func g] 0] (λt=>!q t) λt A=>zbm g q t<|y t A;refine Ae ttY_ok func71 O [2,3,4,5]<|Aj O<|Oq O (λ_=>z) O (by simp)<|Aj O<|Ab O O (af _ ?_);rw[Ga];simp
def Sw (p:Z×Y):Bool:=BW p.1&&AW true p.2
def sJ (p:Z×Y):ca 72 [.agg<|eO p]<|.bool<|Sw p:=by have z:=FU p.1;have q:=Hn [p.2];simp only[Em,Ng,P7]at q;unfold Sw;generalize AW true p.2=A at *;generalize BW p.1=B at *;obtain⟨y,⟨t1,t2,t3,t4⟩⟩:=p;refine Ae ttY_ok func72 O [2,3,4,5]<|Aj O<|Ac O z<|C3 O<|Al O q<|C3 O ?_;exact Ah ⟨_,rfl,tV (by cases B<;>cases A<;>rfl),ab⟩
def kP (m:Md) (Γ:At) (t:Tm) (T:L1<|Int×Y) (k:Int) (S:L1 Y) (u:L1 V):St :=
 D9 m T k S++[(5,some<|.cells 92 1 [.ref 1 0]),(6,some<|.NA 49 5<|dTmc t),(7,some<|.NA 118 1 [.sl<|dKns Γ]),(8,some<|.NA 25 4 u)]
def zne (m:Md) (Γ:At) (t:Tm) (T:L1<|Int×Y) (k:Int) (S:L1 Y) (u:L1 V):St :=
 bU m T k S++[(5,some<|.cells 92 1 [.ref 1 0]),(6,some<|.NA 49 5<|dTmc t),(7,some<|.NA 118 1 [.sl<|dKns Γ]),(8,some<|.NA 25 4 u)]
def kF (q:FT m Γ t [] 0 []<|some (τ,T,k,S)) (y:fv (Ck T) θ) (z:S.length<=1000000) (A:(S.map<|AI θ).all DA=true):ed 78 [.ref 5 0,.ref 6 0,.ref 7 0,.ref 8 0] (kP m Γ t [] 0 []<|As MC)<|.ret (.Kp<|.cg [])<|zne m Γ t T k S<|As τ:=by have B:=QP m T k S y z A;unfold FT De Et at q;obtain⟨t1,t2,t3,t4,t5⟩:=t;obtain⟨C,D,G,H⟩:=τ;exact Ae ttY_ok func78 O [4,9,10]<|Aj O<|Ao [4] S5 [(4,4)] O q A4 O O<|Aj O<|Ao [] T6 [] O B A4 O O<|Aj O<|Bq ⟨[],VF⟩
def kG (q:FT m Γ t [] 0 []<|some (τ,T,k,S)) (y:fv (Ck T) θ) (z:S.length<=1000000) (A:(S.map<|AI θ).all DA=false):ed 78 [.ref 5 0,.ref 6 0,.ref 7 0,.ref 8 0] (kP m Γ t [] 0 []<|As MC)<|.ix Io:=by have B:=TS m T k S y z A;unfold FT De Et at q;obtain⟨t1,t2,t3,t4,t5⟩:=t;obtain⟨C,D,G,H⟩:=τ;exact Ae ttY_ok func78 O [4,9,10]<|Aj O<|Ao [4] S5 [(4,4)] O q A4 O O<|Aj O<|Bp T6 O (by simp) B A4 O O O<|Aj O<|BE 9 O
def sI (q:FT m Γ t [] 0 [] none):ed 78 [.ref 5 0,.ref 6 0,.ref 7 0,.ref 8 0] (kP m Γ t [] 0 []<|As MC)<|.ix Io:=by unfold FT De Et at q;obtain⟨t1,t2,t3,t4,t5⟩:=t;exact Ae ttY_ok func78 O [4,9,10]<|Aj O<|Bu 3 S5 O (by simp) q A4 O O O<|B7 7 3 O
section
variable {C:Env} {H jm:St} {B:K1} {c:Code} {all rest:L1 Oper}
def Xm {L:Jj} {p:Nat} {fc:Func} {io:St} {b0:g8} (hf:P.funcs[L.fn]?=some fc) (y9:L.ps = #[p]) (kq:L.tmps.size=n) (hd:GH d=[]) (hp:p<n) (m8:SD aa L.E jm L.F) (u9:XS P n L.m7 ((p,d)::L.E) jm aa env st Kr) (h:ek P n (Ze::(L.F++OS L.E)) (znm b0 io) [.code L.body] env st Kr):LB P [d] (Cl L jm none) b0.isNone<|Cl L io b0:=by
 intro I μ w b xs hμ lz hx;have p8:A2 (R8 1<|Cl L jm none) 0 .ig:=A7.2<|.inl ⟨rfl,rfl⟩;have mf:A2 (R8 1<|Cl L jm none) 1<|.hV 0<|Cl L jm none:=A7.2<|.inr ⟨by simp,A7.2<|.inl ⟨rfl,rfl⟩⟩;obtain⟨g1,ua,b',bs,ux,rfl,hP⟩:=lz.SB 1 _ mf;rw[hμ]at ux;cases ux;have ya:∀k∈bs,I k=none/\k<w.heap.size:=λk hk=>lz.apart 1 _ _ k mf ua<|D1.2 hk;have hP0:=hP;let⟨r,ν,mr,e1,ub,⟨ye,hr3⟩,⟨vl,ru,vm,vn,vo⟩,yf,hS,U,hnb,hF⟩:=X2 hP m8 lz.Kp ya;subst e1;obtain⟨x,rfl⟩:∃x,xs = #[x]:=by
  obtain⟨l⟩:=xs;have:=hx.1
  match l,this with
  |[x],_=>exact⟨x,rfl⟩
 have ql:X I ν x d:=(hx.2 0 x d O O).sub λj hj=>by rw[hd]at hj;cases hj
 have hszp:(#[x]:Array Value).size=r.params.size:=by rw[ru,y9];rfl
 unfold zpo;rw[run_yield ub hszp];refine Lb (fc:=fc) (by rw[vl];exact hf) λfb cs hbf xm=>?_;rw[ru,y9,vm,vn,vo];have p9:((#[p]:Array Nat).zip #[x]).foldl (λtmps (t,a)=>tmps.setIfInBounds t a) L.tmps=L.tmps.setIfInBounds p x:=by simp
 rw[p9];let⟨rv,s⟩:=ya b (by simp);have K:¬Ba ν jm b:=λh=>hnb<|(U b).2 h;have C:∀(w:World) (o:Obj),(w.putObj b o).heap=w.heap.setIfInBounds b o:=λw o=>by
  unfold World.putObj;by_cases hi:b<w.heap.size<;>simp[hi]
 have H:∀(w:World) (o:Obj) k,k≠b->(w.putObj b o).heap[k]?=w.heap[k]?:=λw o k hk=>by rw[C,H2<|b9 hk]
 let⟨c1,c2,c3⟩:=Iw (n:=n) (w:=w) (a:={ tmps:=L.tmps,defers:=[] }) (dst:=some p) yf kq (λt ht=>by cases ht;exact hp) ql;have hc0:ij n I ν ((p,d)::L.E) jm aa (Act.put { tmps:=L.tmps,defers:=[] } (some p) x) w:={ hS with size:=c2,env:=c1,defers:=by rw[c3];exact fz.nil _ _ _ _ }
 refine u9 fb cs _ I ν _ w _ hc0 λIA u aA wA hcA hmA q=>?_;have V:¬Ba u st b:=λh=>K<|q.fresh b s h;have E:wA.heap[b]?=some (.loop r):=by rw[q.block b s K];exact ub
 have hIbA:IA b=none:=by rw[q.gz b s K];exact rv
 have hbltA:b<wA.heap.size:=(Ht.1 E).1;obtain⟨w1,z⟩:∃w1:World,w1=wA.putObj b (.loop { r with state:=.busy }):=⟨_,rfl⟩
 have ud:=run_beginRound (P:=P) E ye;refine Reach.step (stepR_beginRound xm ud) ?_;rw[<- z];have v7:fz IA u st w1 aA.defers:=by
  obtain⟨rs,m1,m2,m3⟩:=hcA.defers;refine⟨rs,m1,m2,λk hk=>⟨?_,(m3 k hk).2⟩⟩;have h0:=(m3 k hk).1;rw[z,H _ _ k (λe=>by rw[e,E]at h0;cases h0)];exact h0
 have hc:ij n IA u env st Kr aA w1 :=
  {hcA.toNo.other (by rw[z,C];simp) (λk o hk=>by rw[z];exact H _ _ k (λe=>by rw[e,hIbA]at hk;cases hk)) (λk hk=>by rw[z];exact H _ _ k λe=>V<|e▸hk)with
   size:=hcA.size
   env:=hcA.env
   defers:=v7 }
 have hgo:=h ⟨fb,.inl<|by simp⟩ cs IA u _ w1 [.code L.body] AD hc;refine Reach.mono (λe a' w' pb=>?_) hgo;obtain⟨x',y,au,B,I',D,p1,p2,p3,p4,F,p6⟩:=pb;have ux:w1.heap[b]?=some (.loop { r with state:=.busy }):=by rw[z,C];simp[hbltA]
 have uc:w1.heap.size=wA.heap.size:=by rw[z,C];simp
 have hszA:w.heap.size<=wA.heap.size:=q.size;have hno2:∀k,k<w.heap.size->¬Ba ν jm k->¬Ba u st k:=λk hk ho hq=>ho<|q.fresh k hk hq;have hfr2:∀k,k<w.heap.size->Ba D au k->Ba ν jm k:=λk hk ho=>q.fresh k hk<|F.fresh k (by omega) ho;have hold2:∀k,k<w.heap.size->¬Ba ν jm k->I' k=I k:=λk hk ho=>(F.gz k (by omega)<|hno2 k hk ho).trans<|q.gz k hk ho;have J:I.le I':=TA.le_trans q.Kp F.Kp;have r8:w'.heap[b]?=some (.loop { r with state:=.busy }):=by rw[F.block b (by omega) V];exact ux
 have ue:¬Ba D au b:=λho=>V<|F.fresh b (by omega) ho;have yj:I' b=none:=by rw[F.gz b (by omega) V];exact hIbA
 have pc:b<w'.heap.size:=(Ht.1 r8).1;have fin:Hh au io->∃v qe,(Instr.endRound b b0).run P w'=.ok v qe/\(∃I2 A,X I2 A v (.Kp<|.bool b0.isNone)/\No I2 A (R8 2<|Cl L io b0) [] qe /\
   l4 (CB<|R8 1<|Cl L jm none) μ A/\fi I μ (R8 1<|Cl L jm none) w I2 A (R8 2<|Cl L io b0) qe):=by
  intro pe;have hSB:No I' D io [] w':=p3.toNo.less (Cz pe) .nil (λ_ h=>by simp at h);have W:∀k,Ba D io k->Ba D au k:=λk ⟨i,bi,g,q1,M⟩=>⟨i,bi,g,Cz pe i bi q1,M⟩
  have pf:¬Ba D io b:=λh=>ue<|W b h;obtain⟨w2,N⟩:∃w2:World,w2=w'.putObj b (.loop { r with state:=if b0.isNone then .ready else .done,pending:=b0 }):=⟨_,rfl⟩
  have ph:(Instr.endRound b b0).run P w'=.ok (.bool b0.isNone) w2:=by
   have:=run_endRound (P:=P) b0 r8;rw[N];exact this
  have hw2s:w2.heap.size=w'.heap.size:=by rw[N,C];simp
  have Q:∀k,k≠b->w2.heap[k]?=w'.heap[k]?:=λk hk=>by rw[N];exact H _ _ k hk
  have f:No I' D io [] w2:=hSB.other (by omega) (λk o hk=>Q k (λe=>by rw[e,yj]at hk;cases hk)) λk hk=>Q k λe=>pf<|e▸hk;let⟨R,m⟩:=P2 D io;have hPN:(Cl L io b0).P I' w2 b<|b::R:=by
   refine⟨{ r with state:=if b0.isNone then .ready else .done,pending:=b0 },D,R,rfl,by rw[N,C];simp[pc],⟨by cases b0<;>rfl,rfl⟩,⟨vl,ru,vm,vn,vo⟩,λt d hl=>?_,f.SB,f.inj,m,λhm=>pf<|(m b).1 hm,λi hi=>?_⟩
   ·exact((yf t d hl).mono J<|Mu.le_refl ν).sub λj hj g hg=>p4 j (by simp[cV hl j hj]) g<|hmA j g hg
   ·exact λg yk=>p4 i (by simp[hi]) g<|hmA i g<|hF i hi g yk
  obtain⟨A,S⟩:∃A:Mu,A=λi=>if i=2 then some (.agg<|VQ<|b::R)else μ i:=⟨_,rfl⟩
  have T:A 0=some (.func (.yield b) #[] #[]):=by rw[S];simpa using hμ
  have hm2:A 2=some (.agg<|VQ<|b::R):=by rw[S];simp
  have hold:∀k,k∈b::R->k<w.heap.size->k∈b::mr:=λk hk mc=>by
   rcases Cu.1 hk with rfl|hk
   ·simp
   ·exact H4 _<|(U k).2 (hfr2 k mc<|W k<|(m k).1 hk)
  have pj:∀k∈b::R,I' k=none/\k<w2.heap.size:=λk hk=>by
   rcases Cu.1 hk with rfl|hk
   ·exact⟨yj,by omega⟩
   ·obtain⟨i,bi,g,q1,M,q3⟩:=(m k).1 hk;exact f.apart i bi g k q1 M q3
  have G:∀k,Ba μ (R8 1<|Cl L jm none) k↔k∈b::mr:=λk=>by
   constructor
   ·rintro ⟨i,bi,g,q1,M,q3⟩;rcases G9 (by simp) q1 with⟨rfl,rfl⟩|⟨rfl,rfl⟩
    ·rw[hμ]at M;cases M;exact q3.elim
    ·rw[ua]at M;cases M;exact D1.1 q3
   ·intro hk;exact⟨1,_,_,mf,ua,D1.2 hk⟩
  have mz:∀k,Ba A (R8 2<|Cl L io b0) k->k∈b::R:=λk=>by
   rintro ⟨i,bi,g,q1,M,q3⟩;rcases G9 (by simp) q1 with⟨rfl,rfl⟩|⟨rfl,rfl⟩
   ·rw[T]at M;cases M;exact q3.elim
   ·rw[hm2]at M;cases M;exact D1.1 q3
  refine⟨_,w2,ph,I',A,.Kp _ _<|.bool _,?_,?_,?_⟩
  ·refine { Kp:=f.Kp,SB:=λi bi hl=>?_,apart:=λi bi g k hl py hk=>pj k<|mz k ⟨i,bi,g,hl,py,hk⟩,inj:=λi j bi bj gi gj k hi hj py ls qf mw=>?_,nodup:=.nil,PA:=λ_ h=>by simp at h }
   ·rcases G9 (by simp) hl with⟨rfl,rfl⟩|⟨rfl,rfl⟩
    ·exact⟨_,T,b,rfl⟩
    ·exact⟨_,hm2,b,_,T,rfl,hPN⟩
   ·rcases G9 (by simp) hi with⟨rfl,rfl⟩|⟨rfl,rfl⟩<;>rcases G9 (by simp) hj with⟨rfl,rfl⟩|⟨rfl,rfl⟩
    ·rfl
    ·rw[T]at py;cases py;exact qf.elim
    ·rw[T]at ls;cases ls;exact mw.elim
    ·rfl
  ·intro i hi g hg;simp only[R8,CB,CK,KM,Cu,JK,ch]at hi;have:i≠2:=by omega
   rw[S];simp only[ac this];exact hg
  ·refine { Kp:=J,os:=?_,tape:=?_,output:=?_,size:=?_,block:=λk hk l7=>?_,fresh:=λk hk ho=>(G k).2 (hold k (mz k ho) hk),gz:=λk hk l7=>hold2 k hk (λh=>l7<|(G k).2 (H4 _<|(U k).2 h)) }
   ·have:=F.os;rw[z]at this;rw[N,<- q.os];unfold World.putObj at this ⊢;exact this
   ·have:=F.tape;rw[z]at this;rw[N,<- q.tape];unfold World.putObj at this ⊢;exact this
   ·have:=F.output;rw[z]at this;rw[N,<- q.output];unfold World.putObj at this ⊢;exact this
   ·have:=F.size;omega
   ·have yl:k≠b:=λe=>l7<|(G k).2 (by simp[e]);have hno3:¬Ba ν jm k:=λh=>l7<|(G k).2 (H4 _<|(U k).2 h);rw[Q k yl,F.block k (by omega)<|hno2 k hk hno3,z,H _ _ k yl,q.block k hk hno3]
 cases e with
 |normal=>
  cases x'<;>simp only[Mw]at p1;cases b0 with
  |none=>exact fin p2
  |some c=>exact p2.elim
 |ret=>
  cases x'<;>simp only[Mw]at p1;cases b0 with
  |none=>exact p2.elim
  |some c=>cases c<;>first|exact p2.elim|exact fin p2
 |exit j=>
  cases x'<;>simp only[Mw]at p1;cases b0 with
  |none=>exact p2.elim
  |some c=>
   cases c<;>first|exact p2.elim|skip
   obtain⟨q1,M⟩:=p2;subst q1;subst p1;exact fin M
 |goto l=>
  cases x'<;>simp only[Mw]at p1;cases b0<;>exact p2.elim
 |panic chain=>
  cases x'<;>simp only[Mw]at p1;cases b0<;>exact p2.elim
 |outgrown=>cases x'<;>simp only[Mw]at p1
end
def Kb (Γ:At):At:=Γ.map λp=>(p.1,G6 p.2)
def SC (Γ:At) (p:Z×Y):Kb (Γ++[p])=Kb Γ++[(p.1,G6 p.2)]:=by simp[Kb]
def qv (l:L1 Int) (u:Y):L1 Int:=if CS u=9 then(if num u∈l then l else l++[num u])else l
def zfg (l:K2) (f n:Int) (x:Z) (ps:E1):qv l (.mk f n x ps)=if f=9 then(if n∈l then l else l++[n])else l:=rfl
mutual
def fR:∀(t:Y) (l:K2),CY t=true->(JC t).foldl qv l=D5 t l
 |.mk f n x ps,l,y=>by simp only[JC,M3,zfg,D5];by_cases q:f=9;subst q;have e:=Fp y O;simp only[Ay,num,Y.mk.injEq]at e;obtain⟨_,_,rfl,rfl⟩:=e;simp only[Ej,qM,aw];rw[ac q,ac q];exact YK ps l λp z=>GS y p (by simpa[HJ]using z)
def YK:∀(ts:E1) (l:K2),(∀t∈ts,CY t=true)->(Ej ts).foldl qv l=CF ts l
 |[],_,_=>rfl
 |t::r,l,q=>by simp only[Ej,qN,CF];rw[fR t l<|q t<|by simp,YK r _ λp y=>q p<|by simp[y]]
end
def V9 {h:Int}:∀{l:K2},h∈l->GE (Fh l) (.int .i64 h) (.bool true)=Fh l
 |x::r,y=>by simp only[Fh,CK,GE,Oy];by_cases e:x=h;subst e;simp;have z:¬h=x:=λh=>e h.symm;have q:=V9 (l:=r) (by simpa[z]using y);simp only[Fh]at q;rw[show decide (x=h)=false from ap e];simp only[En,aq,q]
def gZ:Code->Option (Code×Code)
 |.rangeFunc _ _ a b=>some (a,b)
 |.seq x y=>match gZ x with
  |some r=>some r
  |none=>gZ y
 |.block _ c=>gZ c
 |.loop c=>gZ c
 |.cond _ x y=>match gZ x with
  |some r=>some r
  |none=>gZ y
 |_=>none
def zec (f:Func):Code:=match gZ (Ek f 0)with
 |some (a,_)=>a
 |none=>.skip
def oZ (f:Func):Code:=match gZ (Ek f 0)with
 |some (_,b)=>b
 |none=>.skip
def wY (m:Md) (t:Tm) (Γ:At) (l:L1 Int):St :=
 [(11,some<|.NA 43 3<|dMdc m),(12,some<|.NA 49 5<|dTmc t),(13,some<|.cells 25 4 [.Kp<|.int .i64 0,.Kp<|.int .i64 0,.Kp<|.str [],.NB]),
 (14,some<|.NA 118 1 [.sl<|dKns Γ]),(15,some<|.map<|Fh l),(16,some<|.map []),(17,some<|.cells 123 2 [.cf 15,.cf 16]),(18,some<|.cells 119 1 [.ref 17 0])]
def inE (Γ:At) (i:Nat):Env:=[(42,.Kp<|.int .i64 i),(41,.Kp<|.int .i64 Γ.length),(40,.Kp<|.sl<|dKns Γ),(3,.ref 11 0),(5,.ref 12 0),(6,.ref 13 0),(8,.ref 14 0),(9,.ref 18 0)]
def lG (m:Md) (t:Tm) (C Γ:At) (i:Nat) (l:K2) (u:Y) {L:Jj} (M:prog.funcs[L.fn]?.isSome) (N:L.tmps.size=Tryz.f26.ntmps) (R:L.ps = #[56]) (U:L.m7=zec Tryz.f26) (V:L.body=oZ Tryz.f26) (H:L.E=inE C i) (K:L.F=[]):LB prog [.Kp<|.agg<|As u] (Cl L (wY m t Γ l) none) true<|Cl L (wY m t Γ<|qv l u) none:=by let⟨a,W⟩:=Nj.1 M;obtain⟨f,n,x,ps⟩:=u;have q:SD [21,22,23] L.E (wY m t Γ l) L.F:=by{rw[H,K];refine⟨by decide,?_⟩;simp[wY,inE,OS,GH,DB,KU,FO,CB]};have D:=Dz l;have y:n∉l->GE (Fh l) (.int .i64 n) (.bool true)=Fh (l++[n]):=λh=>KZ h;have z:n∈l->GE (Fh l) (.int .i64 n) (.bool true)=Fh l:=λh=>V9 h;have A:∀jm,XS prog Tryz.f26.ntmps L.m7 ((56,.Kp<|.agg<|As<|.mk f n x ps)::L.E) jm [21,22,23] _ _ _:=λjm=>by{rw[U];exact yF ttY_ok O O O O (by simp)<|by simp};refine Xm (b0:=none) W R N O (by decide) q (A _) ?_;rw[V,H,K];rw[zfg];refine A0 O ?_;by_cases G:f=9;subst G;rw[ae O];refine Ap O λh=>A0 O<|Ey ttY_ok O O O D ?_;by_cases B:n∈l;rw[z B,ae B];exact yg [] O (by simp;rfl)<|Bq (⟨rfl,rfl,rfl,rfl,rfl,rfl,rfl,rfl,ab⟩:Hh _<|wY m t Γ l);rw[y B,ac B];exact yg [] O (by simp;rfl)<|Bq (⟨rfl,rfl,rfl,rfl,rfl,rfl,rfl,rfl,ab⟩:Hh _<|wY m t Γ<|l++[n]);rw[ac G];refine Aa O (λh=>by exfalso;simp at h;exact G h) λh=>?_;exact A0 O<|Bq (⟨rfl,rfl,rfl,rfl,rfl,rfl,rfl,rfl,ab⟩:Hh _<|wY m t Γ l)
def fM (p q:Addr) (w:World):CallsD prog 119 #[.pointer<|some p,.pointer<|some q] .returning w λe z w'=>e=.returned (.tuple #[])/\z=.returning/\w'=w:=by refine cq func119 O λy B A=>?_;apply cl;apply bh;simp[wpOpsS,go_sem,recoverD,A,Tryz.ntmps119,Exit.thenS];apply cl;apply bh;simp[wpOpsS,go_sem,Exit.thenS];refine dz (t:=false) (by simp[Act.eval,Array.replicate]) ?_;simp only[aq,En];refine dk<|wp_skip ?_;cases y;simp_all [bodyPostS,results,Tryz.results119]
def Hx:Array Value:=#[.int .i64 0,.int .i64 0,.string ⟨#[]⟩,.slice none 0 0]
def zmg (n:Nat) (w w':World):Prop:=w'.os=w.os/\w'.tape=w.tape/\w'.output=w.output/\w.heap.size<=w'.heap.size/\∀b,b<w.heap.size->b≠n+1->b≠n+2->w'.heap[b]?=w.heap[b]?
def bG (q:Nat) (w:World) (K:w.heap[q+1]?=some (.cells Hx 25 (0,0))) (M:w.heap[q+2]?=some (.cells #[.bool false] 4 (0,0))):CallsD prog 119 #[.pointer<|some ⟨q+1,0,none⟩,.pointer<|some ⟨q+2,0,none⟩] (.panicking [{ v:=.iface 171<|.agg #[],recovered:=false }]) w λe a w'=>e=.returned (.tuple #[])/\a=.panicking [{ v:=.iface 171<|.agg #[],recovered:=true }]/\zmg q w w'/\w'.heap[q+1]?=some (.cells Hx 25 (0,0))/\w'.heap[q+2]?=some (.cells #[.bool false] 4 (0,0)):=by refine cq func119 O λN s R=>?_;change Code.wpS _ _ _ { tmps:=#[.pointer<|some ⟨q+1,0,none⟩,.pointer<|some ⟨q+2,0,none⟩,undef,undef,undef,undef,undef,undef,undef,undef,undef,undef,undef,undef,undef,undef,undef],defers:=[] } _ _;apply cl;apply bh;simp[wpOpsS,go_sem,recoverD,R,Tryz.ntmps119,Exit.thenS];apply cl;apply bh;simp[wpOpsS,go_sem,Exit.thenS];refine dz (t:=true) (by simp[Act.eval,Array.replicate]) ?_;simp only[aw];refine dk ?_;clear R;have c:∀w:World,(Instr.typeAssert (.iface 171<|.agg #[]) 20 171 true).run prog w=.ok (.tuple #[.agg #[],.bool true]) w:=λ_=>by{kernel_rfl};have C:q+1<w.heap.size:=(Ht.1 K).1;have D:q+2<w.heap.size:=(Ht.1 M).1;have y:(w.alloc<|.cells #[] 171).heap[q+1]?=some (.cells Hx 25 (0,0)):=(DO w _ C).trans K;have B:(w.alloc<|.cells #[] 171).heap[q+2]?=some (.cells #[.bool false] 4 (0,0)):=(DO w _ D).trans M;have d:(w.alloc<|.cells #[] 171).cell? ⟨q+1,0,none⟩=some (.int .i64 0):=by{unfold World.cell?;simp[y,Hx]};have f:(w.alloc<|.cells #[] 171).frozen? ⟨q+1,0,none⟩=false:=by{unfold World.frozen?;simp[y]};have g:(w.alloc<|.cells #[] 171).cell? ⟨q+1,1,none⟩=some (.int .i64 0):=by{unfold World.cell?;simp[y,Hx]};have h:(w.alloc<|.cells #[] 171).frozen? ⟨q+1,1,none⟩=false:=by{unfold World.frozen?;simp[y]};have i:(w.alloc<|.cells #[] 171).cell? ⟨q+1,2,none⟩=some (.string ⟨#[]⟩):=by{unfold World.cell?;simp[y,Hx]};have j:(w.alloc<|.cells #[] 171).frozen? ⟨q+1,2,none⟩=false:=by{unfold World.frozen?;simp[y]};have k:(w.alloc<|.cells #[] 171).cell? ⟨q+1,3,none⟩=some (.slice none 0 0):=by{unfold World.cell?;simp[y,Hx]};have l:(w.alloc<|.cells #[] 171).frozen? ⟨q+1,3,none⟩=false:=by{unfold World.frozen?;simp[y]};have m:(w.alloc<|.cells #[] 171).cell? ⟨q+2,0,none⟩=some (.bool false):=by{unfold World.cell?;simp[B]};have n:(w.alloc<|.cells #[] 171).frozen? ⟨q+2,0,none⟩=false:=by{unfold World.frozen?;simp[B]};have z:((w.alloc<|.cells #[] 171).setRow (q+1) Hx).heap[q+2]?=some (.cells #[.bool false] 4 (0,0)):=(ay _ _ _ _<|by omega).trans B;have U:((w.alloc<|.cells #[] 171).setRow (q+1) Hx).cell? ⟨q+2,0,none⟩=some (.bool false):=by{unfold World.cell?;simp[z]};have V:((w.alloc<|.cells #[] 171).setRow (q+1) Hx).frozen? ⟨q+2,0,none⟩=false:=by{unfold World.frozen?;simp[z]};refine wp_seq<|wp_mono (Q:=λe W w'=>e=.normal/\w'=(w.alloc<|.cells #[] 171)/\∃t2 t3 t4 t5 t6 t7 t8 t9 t10 t11 t12 t13 t14 t15 t16,W={ tmps:=#[.pointer<|some ⟨q+1,0,none⟩,.pointer<|some ⟨q+2,0,none⟩,t2,t3,t4,t5,t6,t7,t8,t9,t10,t11,t12,t13,t14,t15,t16],defers:=[] }) ?_ ?_;go_wp2;rintro e W w' ⟨rfl,rfl,t2,t3,t4,t5,t6,t7,t8,t9,t10,t11,t12,t13,t14,t15,t16,rfl⟩;have A:(prog.built 25 []).getD #[]=Hx:=by{kernel_rfl};simp only[Exit.then];refine wp_region_lit<|wpList_build O 25 #[] O (by kernel_rfl)<|wpList_store_row O 25 (.tmp 0) (.tmp 16) O (q+1) Hx O (by simp[Act.put,Act.eval,A]) 25 Hx y (by kernel_rfl) O (by simp[Hx];decide) ?_;go_wp2;have G:=FD (v:=.bool false) z;have o:((w.alloc<|.cells #[] 171).setRow (q+1) Hx).heap.size=w.heap.size+1:=by{rw[cd];simp};rw[G];refine⟨rfl,_,rfl,.tuple #[],by simp[results,Tryz.results119],rfl,rfl,⟨rfl,rfl,rfl,?_,λb p H r=>?_⟩,?_,?_⟩;simp[cd];show(Array.setIfInBounds _ (q+2) _)[b]?=_;rw[H2<|by omega,ay _ _ _ _ H,DO w _ p];show(Array.setIfInBounds _ (q+2) _)[q+1]?=_;rw[H2<|by omega];have:=cv (w.alloc<|.cells #[] 171) (q+1) Hx Hx _ _ y;exact this;show(Array.setIfInBounds _ (q+2) _)[q+2]?=_;rw[zfv<|by omega]
def HW (w:World) (a b c d:Value):World:=(((w.alloc<|.cells #[a,b,c,d] 25).alloc<|.cells Hx 25).alloc<|.cells #[.bool false] 4).alloc<|.cells #[.int .i64 12] 3
def QO (l a b c d:Value) (F:a.oneCell'=true/\b.oneCell'=true/\c.oneCell'=true/\d.oneCell'=true) (w:World) (K:Value->World->Prop) (g:World->Prop)
  (C:qj 120 #[l,.agg #[a,b,c,d],.pointer<|some ⟨w.heap.size+3,0,none⟩] (HW w a b c d) λe w'=>match e with
   |.returned u=>K u w'
   |.panicked z=>z=[{ v:=.iface 171<|.agg #[],recovered:=false }]/\g w'
   |.outgrown=>False)
  (m:∀u w',K u w'->(∃q:Array Value,u=.agg q/\q.size=4/\q.all (·.oneCell')=true)/\w'.heap[w.heap.size+1]?=some (.cells Hx 25 (0,0))/\w'.heap[w.heap.size+2]?=some (.cells #[.bool false] 4 (0,0)))
  (h:∀w',g w'->w'.heap[w.heap.size+1]?=some (.cells Hx 25 (0,0))/\w'.heap[w.heap.size+2]?=some (.cells #[.bool false] 4 (0,0))) :
  qj 58 #[l,.agg #[a,b,c,d]] w λe w'=>(∃u U,K u U/\e=.returned (.tuple #[u,.bool true])/\zmg w.heap.size U w')\/(∃U,g U/\e=.returned (.tuple #[.agg Hx,.bool false])/\zmg w.heap.size U w'):=by
 go_enter_defers func58,Tryz.ntmps58
 have hmf:=zqe
 go_wp2_with fail
 refine bc C ?_;intro e w' D;cases e with
 |outgrown=>exact D.elim
 |returned u=>
  obtain⟨⟨q,rfl,G,V⟩,W,f⟩:=m u w' D;have H:(w'.setRow (w.heap.size+1) q).heap[w.heap.size+2]?=some (.cells #[.bool false] 4 (0,0)):=(ay _ _ _ _<|by omega).trans f;have n:(w'.setRow (w.heap.size+1) q).cell? ⟨w.heap.size+1+1,0,none⟩=some (.bool false):=by unfold World.cell?;simp[H]
  have o:(w'.setRow (w.heap.size+1) q).frozen? ⟨w.heap.size+1+1,0,none⟩=false:=by unfold World.frozen?;simp[H]
  simp only;rename_i I p J i;apply i;refine wpList_store_row O 25 (.tmp 4) (.tmp 10) O (w.heap.size+1) q O O 25 Hx W ?_ (by rw[G];rfl) V ?_
  ·rw[G];kernel_rfl
  go_wp2
  have A:=FD (v:=.bool true) H;have j:w.heap.size+2<w'.heap.size:=(Ht.1 f).1;have M:(loadVar 25 ⟨w.heap.size+1,0,none⟩).run prog ((w'.setRow (w.heap.size+1) q).setCell ⟨w.heap.size+1+1,0,none⟩<|.bool true)=.ok (.agg q) ((w'.setRow (w.heap.size+1) q).setCell ⟨w.heap.size+1+1,0,none⟩<|.bool true):=by
   obtain⟨r,N,_⟩:=(ttY_ok 25 _ rfl).sh;refine run_loadVar_row _ _ 25 _ q (0,0) _ ?_ N O (by rw[G];kernel_rfl);show((w'.setRow (w.heap.size+1) q).setCell ⟨w.heap.size+2,0,none⟩<|.bool true).heap[w.heap.size+1]?=_;rw[A];show(Array.setIfInBounds _ (w.heap.size+2) _)[w.heap.size+1]?=_;rw[H2<|by omega];exact cv w' (w.heap.size+1) Hx q _ _ W
  have R:((w'.setRow (w.heap.size+1) q).setCell ⟨w.heap.size+1+1,0,none⟩<|.bool true).cell? ⟨w.heap.size+1+1,0,none⟩=some (.bool true):=by
   show((w'.setRow (w.heap.size+1) q).setCell ⟨w.heap.size+2,0,none⟩<|.bool true).cell? ⟨w.heap.size+2,0,none⟩=_;rw[A];unfold World.cell?;simp[cd,j]
  have B:(loadVar 4 ⟨w.heap.size+1+1,0,none⟩).run prog ((w'.setRow (w.heap.size+1) q).setCell ⟨w.heap.size+1+1,0,none⟩<|.bool true)=.ok (.bool true) ((w'.setRow (w.heap.size+1) q).setCell ⟨w.heap.size+1+1,0,none⟩<|.bool true):=by simp[go_sem,R]
  refine cw (f:=119) (args:=#[.pointer<|some ⟨w.heap.size+1,0,none⟩,.pointer<|some ⟨w.heap.size+1+1,0,none⟩]) (by simp) (by simp[go_sem])<|(fM _ _ _).mono ?_;rintro e s y ⟨rfl,rfl,rfl⟩;simp[Leaves,settle,results,Tryz.results58,asAddr,M,B];refine⟨_,w',D,rfl,?_⟩;show zmg _ w'<|(w'.setRow (w.heap.size+1) q).setCell ⟨w.heap.size+2,0,none⟩<|.bool true;rw[A];refine⟨rfl,rfl,rfl,by simp[cd],λb L k t=>?_⟩;show(Array.setIfInBounds _ (w.heap.size+2) _)[b]?=_;rw[H2<|by omega,ay _ _ _ _ k]
 |panicked z=>
  obtain⟨rfl,D⟩:=D;let⟨W,f⟩:=h w' D;simp only;refine cw (f:=119) (args:=#[.pointer<|some ⟨w.heap.size+1,0,none⟩,.pointer<|some ⟨w.heap.size+1+1,0,none⟩]) (by simp) (by simp[go_sem])<|(bG w.heap.size _ W f).mono ?_;rintro e s y ⟨rfl,rfl,v,x,E⟩;have M:(loadVar 25 ⟨w.heap.size+1,0,none⟩).run prog y=.ok (.agg Hx) y:=by
   obtain⟨r,N,_⟩:=(ttY_ok 25 _ rfl).sh;exact run_loadVar_row _ _ 25 _ Hx (0,0) _ x N O (by kernel_rfl)
  have R:y.cell? ⟨w.heap.size+1+1,0,none⟩=some (.bool false):=by unfold World.cell?;simp[E]
  have B:(loadVar 4 ⟨w.heap.size+1+1,0,none⟩).run prog y=.ok (.bool false) y:=by simp[go_sem,R]
  simp[Leaves,settle,results,Tryz.results58,asAddr,M,B];exact⟨w',D,v⟩
def Jq:∀{st:St} {i:Nat} {b:fp},A2 st i b->i∈CB st
 |[],i,b,h=>by simp[A2,lk]at h
 |(k,y)::r,i,b,h=>by by_cases q:k=i;subst q;simp[CB];have:A2 r i b:=by{unfold A2 at h ⊢;rwa [AC _ _ q]at h};simp only[CB,CK,Cu];exact .inr<|Jq this
def No.restr (y:No I μ st aa w) (U:∀i∈DB st,i∈CB st) {l:K1} (z:l.Nodup) (V:∀i∈l,i∉CB st):∃ν:Mu,(∀i∈CB st,ν i=μ i)/\No I ν st l w/\∀b,Ba ν st b↔Ba μ st b:=by obtain⟨ν,C⟩:∃ν:Mu,ν=λi=>if F6 (CB st) i=true then μ i else none:=⟨_,rfl⟩;have q:∀i∈CB st,ν i=μ i:=λi B=>by{rw[C];simp[BK.2 B]};refine⟨ν,q,?_,λb=>?_⟩;refine { Kp:=y.Kp,SB:=λi b z=>?_,apart:=λi W g k z K a=>y.apart i W g k z (by rw[<- q i (Jq z)];exact K) a,inj:=λi j D c d e k B G M A=>y.inj i j D c d e k B G (by rw[<- q i (Jq B)];exact M) (by rw[<- q j (Jq G)];exact A),nodup:=z,PA:=λi B=>?_ };let⟨g,K,f⟩:=y.SB i b z;refine⟨g,by rw[q i<|Jq z];exact K,f.sub λj G g A=>?_⟩;rw[q j<|U j<|(Gr z).2 j G];exact A;rw[C];have:=V i B;have m:F6 (CB st) i=false:=by{cases h:F6 (CB st) i with|false=>rfl|true=>{exact absurd (BK.1 h) this}};simp[m];constructor<;>rintro ⟨i,D,g,H,N,R⟩;exact⟨i,D,g,H,by rw[<- q i (Jq H)];exact N,R⟩;exact⟨i,D,g,H,by rw[q i<|Jq H];exact N,R⟩
def SZ (w:World) (a b c d:Value):(HW w a b c d).heap.size=w.heap.size+4:=by simp[HW]
def Vl (w:World) (a b c d:Value) (h:i<w.heap.size):(HW w a b c d).heap[i]?=w.heap[i]?:=by unfold HW;rw[DO _ _ (by simp;omega),DO _ _ (by simp;omega),DO _ _ (by simp;omega),DO _ _ h]
def Vk (w:World) (a b c d:Value):(HW w a b c d).heap[w.heap.size+1]?=some (.cells Hx 25 (0,0)):=by unfold HW;rw[DO _ _<|by simp,DO _ _<|by simp];have:=FR (w.alloc<|.cells #[a,b,c,d] 25)<|.cells Hx 25;simpa using this
def Y8 (w:World) (a b c d:Value):(HW w a b c d).heap[w.heap.size+2]?=some (.cells #[.bool false] 4 (0,0)):=by unfold HW;rw[DO _ _<|by simp];have:=FR ((w.alloc<|.cells #[a,b,c,d] 25).alloc<|.cells Hx 25)<|.cells #[.bool false] 4;simpa using this
def oF (m:Md) (T:L2) (k:Int) (S:E1):(∀i∈DB (D9 m T k S),i∈CB (D9 m T k S))/\CB (D9 m T k S)=[1,2,3]:=⟨He (a:=DB<|D9 m T k S) (b:=CB<|D9 m T k S) O,rfl⟩
def Y4 {u a b c d:Value} {t:Y} (H:No I μ (D9 m T k S) [] w) (P:X I μ u<|.ref 1 0) (Q:PB I (.agg #[a,b,c,d])<|.agg<|As t) :
  ∃y:Mu,No I y (Kc m T k S 12) [] (HW w a b c d)/\TB I y #[u,.agg #[a,b,c,d],.pointer<|some ⟨w.heap.size+3,0,none⟩].toList [.ref 1 0,.Kp<|.agg<|As t,.ref 4 0]/\l4 [1,2,3] μ y /\
   (∀i,Ba y (Kc m T k S 12) i->i=w.heap.size+3\/Ba μ (D9 m T k S) i)/\(∀i,Ba μ (D9 m T k S) i->i<w.heap.size)/\∀i,w.heap.size<=i->I i=none:=by
 let⟨n1,E⟩:=oF m T k S;let⟨ν,n,M,A⟩:=H.restr (l:=[4]) n1 (by simp) (λi B=>by rw[E,AJ.1 B];decide);have N:∀i o,I i=some o->i<w.heap.size:=λi o h=>(Ht.1<|H.Kp i o h).1;have R:∀i,Ba μ (D9 m T k S) i->i<w.heap.size:=λi h=>F3 H h;obtain⟨z,K⟩:∃z,z=((w.alloc (.cells #[a,b,c,d] 25)).alloc (.cells Hx 25)).alloc (.cells #[.bool false] 4):=⟨_,rfl⟩
 have U:z.heap.size=w.heap.size+3:=by rw[K];simp
 have C:∀i,i<w.heap.size->z.heap[i]?=w.heap[i]?:=λi B=>by
  rw[K,DO _ _ (by simp;omega),DO _ _ (by simp;omega),DO _ _ B]
 have D:No I ν (D9 m T k S) [4] z:=M.other (by omega) (λi o h=>C i<|N i o h) λi h=>C i<|R i<|(A i).1 h;have r:HW w a b c d=z.alloc (.cells #[.int .i64 12] 3):=by rw[K];rfl
 let⟨y,F,V,W,_⟩:=D.m0 (.cells #[.int .i64 12] 3) (.pointer<|some ⟨z.heap.size,0,none⟩) (λi B=>B.symm) (.NA 3 1 [.int .i64 12]) (λμ' _=>⟨rfl,z.heap.size,#[.int .i64 12],rfl,FR _ _,⟨rfl,λi v x p q=>by
   match i,p,q with
   |0,p,q=>cases p;cases q;exact .int _ _
   |i+1,p,q=>simp at p⟩,λv l=>by simp at l;rw[l];rfl⟩)
 have G:∀i∈[1,2,3],∀v,μ i=some v->y i=some v:=λi B v l=>V i v (by rw[n i (by rw[E];exact B)];exact l);refine⟨y,by rw[r];exact W,⟨rfl,λi v dd p q=>?_⟩,G,λi ⟨j,J,g,e,s,L⟩=>?_,R,λi B=>?_⟩
 ·match i,p,q with
  |0,p,q=>
   cases p;cases q;cases P with
   |ref b id off hm=>exact .ref b 1 0 (G 1 (by decide) _ hm)
  |1,p,q=>cases p;cases q;exact .Kp _ _ Q
  |2,p,q=>cases p;cases q;exact .ref _ 4 0 (by rw[<- U];exact F)
  |i+3,p,q=>simp at p
 ·rcases A7.1 e with⟨rfl,rfl⟩|⟨od,e⟩
  ·rw[F]at s;cases s;left;have:z.heap.size=i:=L;omega
  ·right;have hj:=Jq e;let⟨g0,f,_⟩:=D.SB j J e;have:=V j g0 f;rw[s]at this;cases this;exact(A i).1 ⟨j,J,g,e,f,L⟩
 ·cases h:I i with
  |none=>rfl
  |some o=>have:=N i o h;omega
def Vg {xs:Array Value} {t:Y} (y:TB I μ xs.toList [.ref 1 0,.Kp<|.agg<|As t]):∃D a b c d,xs = #[D,.agg #[a,b,c,d]]/\X I μ D (.ref 1 0)/\PB I (.agg #[a,b,c,d]) (.agg<|As t)/\a.oneCell'=true/\b.oneCell'=true/\c.oneCell'=true/\d.oneCell'=true:=by obtain⟨l,rfl⟩:∃l:R0,xs=l.toArray:=⟨xs.toList,by simp⟩;rw[QG]at y;match l,y with|[v,u],y=>have z:=y.2 0 v _ O O;have G:=(y.2 1 u _ O O).Ks;have B:∀u,PB I u (.agg<|As t)->∃a b c d,u=.agg #[a,b,c,d]/\a.oneCell'=true/\b.oneCell'=true/\c.oneCell'=true/\d.oneCell'=true:=λu H=>by{cases H with|agg C _ K z _=>{have A:C.toList.length=4:=by{rw[QJ,K];obtain⟨t1,t2,t3,t4⟩:=t;rfl};obtain⟨l,rfl⟩:∃l:R0,C=l.toArray:=⟨C.toList,by simp⟩;rw[QG]at A z;match l,A,z with|[a,b,c,d],_,z=>{exact⟨a,b,c,d,rfl,z a<|by simp,z b<|by simp,z c<|by simp,z d<|by simp⟩}}};obtain⟨a,b,c,d,rfl,q⟩:=B u G;exact⟨v,a,b,c,d,rfl,z,G,q⟩|[],y=>exact absurd y.1 (by simp)|[_],y=>exact absurd y.1 (by simp)|_::_::_::_,y=>{exact absurd y.1 (by simp)}
def yO {t u:Y} {z:Int} (hF:XO m T k S t 12 u z) :
  ed 58 [.ref 1 0,.Kp<|.agg<|As t] (D9 m T k S) (.ret (.Kp<|.cg [.agg<|As u,.bool true])<|D9 m T k S):=by
 intro I μ w xs L P;obtain⟨sp,a,b,c,d,rfl,Q,h2,f⟩:=Vg P;let⟨H,l,xn,n,G,r,s⟩:=Y4 L Q h2;rw[cn func58 (by decide +kernel) O];unfold XO at hF;have K:=hF I H _ _ l xn;rw[cn func120 (by decide +kernel) O]at K;show qj _ _ w _;have M:¬Ba H (Kc m T k S 12) (w.heap.size+1):=λh=>by
  rcases G _ h with h|h
  ·omega
  ·have:=r _ h;omega
 have N:¬Ba H (Kc m T k S 12) (w.heap.size+2):=λh=>by
  rcases G _ h with h|h
  ·omega
  ·have:=r _ h;omega
 have hws:=SZ w a b c d;refine bc (QO sp a b c d f w (λv w'=>∃R A,X R A v (.Kp<|.agg<|As u)/\No R A (Kc m T k S z) [] w'/\l4 (CB<|Kc m T k S 12) H A/\fi I H (Kc m T k S 12) (HW w a b c d) R A (Kc m T k S z) w') (λ_=>False) (bc K λe w' he=>?_) (λv w' ⟨R,A,q1,F,q3,B⟩=>⟨?_,?_,?_⟩) λ_ h=>h.elim) ?_
 ·cases e with
  |returned v=>exact he
  |panicked=>exact he.elim
  |outgrown=>exact he.elim
 ·have key:∀v,PB R v (.agg<|As u)->∃us:Array Value,v=.agg us/\us.size=4/\us.all (·.oneCell')=true:=λv hv=>by
   cases hv with
   |agg cs _ J Q _=>exact⟨cs,rfl,by rw[J];obtain⟨u1,u2,u3,u4⟩:=u;rfl,by rw[Array.all_eq_true_iff_forall_mem];exact λx E=>Q x<|by simpa using E⟩
  exact key v q1.Ks
 ·exact(B.block _ (by omega) M).trans<|Vk w a b c d
 ·exact(B.block _ (by omega) N).trans<|Y8 w a b c d
 ·rintro e w2 (⟨v,w1,⟨R,A,q1,F,q3,B⟩,rfl,n1,n2,n3,n4,n5⟩|⟨_,E,_⟩)
  ·have hI1:R (w.heap.size+1)=none:=(B.gz _ (by omega) M).trans<|s _ (by omega);have hI2:R (w.heap.size+2)=none:=(B.gz _ (by omega) N).trans<|s _ (by omega);have U:∀i bi,A2 (D9 m T k S) i bi->A2 (Kc m T k S z) i bi:=λi bi J=>A7.2 (.inr ⟨λe=>by
    have:=Jq J;rw[(oF m T k S).2]at this;simp only[Cu,JK,ch]at this;omega,J⟩)
   have C:∀i,Ba A (D9 m T k S) i->Ba A (Kc m T k S z) i:=λi ⟨j,bj,g,p1,p2,p3⟩=>⟨j,bj,g,U j bj p1,p2,p3⟩
   have sb:∀i,Ba A (Kc m T k S z) i->i≠w.heap.size+1/\i≠w.heap.size+2:=λi D=>⟨λe=>M<|e▸B.fresh i (by omega) D,λe=>N<|e▸B.fresh i (by omega) D⟩
   refine⟨R,A,?_,?_,?_,?_⟩
   ·refine .Kp _ _ (.cg _ _ O λi y x p q=>?_)
    match i,p,q with
    |0,p,q=>cases p;cases q;exact q1.Ks
    |1,p,q=>cases p;cases q;exact .bool true
    |i+2,p,q=>simp at p
   ·refine(F.less U .nil λi D=>by cases D).other n4 (λi o h=>?_) (λi h=>?_)
    ·exact n5 i (Ht.1<|F.Kp i o h).1 (λe=>by rw[e,hI1]at h;cases h) (λe=>by rw[e,hI2]at h;cases h)
    ·have:=sb i<|C i h;exact n5 i (F3 F<|C i h) this.1 this.2
   ·intro i D x E;rw[(oF m T k S).2]at D;exact q3 i (H4 _ D) x<|n i D x E
   ·have V:∀i,i<w.heap.size->¬Ba μ (D9 m T k S) i->¬Ba H (Kc m T k S 12) i:=λi D W h=>by
     rcases G i h with h|h
     ·omega
     ·exact W h
    exact { Kp:=B.Kp,os:=n1.trans B.os,tape:=n2.trans B.tape,output:=n3.trans B.output,size:=by have:=B.size;omega,
            block:=λi D W=>(n5 i (by have:=B.size;omega) (by omega)<|by omega).trans<|(B.block i (by omega)<|V i D W).trans<|Vl w a b c d D,
            fresh:=λi D W=>(G i<|B.fresh i (by omega)<|C i W).elim (λe=>by omega) id,
            gz:=λi D W=>B.gz i (by omega) (V i D W) }
  ·exact E.elim
def zc6 {t:Y} (Q:fC m T k S t 12) :
  ed 58 [.ref 1 0,.Kp<|.agg<|As t] (D9 m T k S) (.ret (.Kp<|.cg [.agg<|As MC,.bool false]) []):=by
 intro I μ w xs l n;obtain⟨sp,a,b,c,d,rfl,h1,h2,R⟩:=Vg n;let⟨z,U,r,yy,B,V,W⟩:=Y4 l h1 h2;rw[cn func58 (by decide +kernel) O];unfold fC at Q;have C:=Q I z _ _ U r;rw[cn func120 (by decide +kernel) O]at C;show qj _ _ w _;have H:¬Ba z (Kc m T k S 12) (w.heap.size+1):=λh=>by
  rcases B _ h with h|h
  ·omega
  ·have:=V _ h;omega
 have K:¬Ba z (Kc m T k S 12) (w.heap.size+2):=λh=>by
  rcases B _ h with h|h
  ·omega
  ·have:=V _ h;omega
 have hws:=SZ w a b c d;refine bc (QO sp a b c d R w (λ_ _=>False) (λw'=>∃D,D.ok w'/\fi I z (Kc m T k S 12) (HW w a b c d) D z [] w') (bc C λe w' s=>?_) (λ_ _ h=>h.elim) λw' ⟨D,u,A⟩=>⟨?_,?_⟩) ?_
 ·cases e with
  |returned v=>exact s.elim
  |panicked E=>
   obtain⟨v,x,D,e1,e2,e3,e4,e5⟩:=s;subst e2;have F:∀v,PB D v zge->v=.iface 171 (.agg #[]):=λv J=>by
    cases J with
    |iface _ v' _ J=>
     cases J with
     |agg cs _ G _ _=>
      have:cs = #[]:=dC (by simpa using G);subst this;rfl
   rw[F v e3]at e1;exact⟨e1,D,e4,e5⟩
  |outgrown=>exact s.elim
 ·exact(A.block _ (by omega) H).trans<|Vk w a b c d
 ·exact(A.block _ (by omega) K).trans<|Y8 w a b c d
 ·rintro e w2 (⟨_,_,hx,_⟩|⟨w1,⟨D,u,A⟩,rfl,n1,n2,n3,n4,n5⟩)
  ·exact hx.elim
  ·have L:D (w.heap.size+1)=none:=(A.gz _ (by omega) H).trans<|W _ (by omega);have P:D (w.heap.size+2)=none:=(A.gz _ (by omega) K).trans<|W _ (by omega);have M:∀i,i<w.heap.size->¬Ba μ (D9 m T k S) i->¬Ba z (Kc m T k S 12) i:=λi N f h=>by
    rcases B i h with h|h
    ·omega
    ·exact f h
   refine⟨D,μ,?_,?_,l4.refl _ _,?_⟩
   ·refine .Kp _ _ (.cg _ _ O λi y x p q=>?_)
    match i,p,q with
    |0,p,q=>
     cases p;cases q;exact Ke D
    |1,p,q=>cases p;cases q;exact .bool false
    |i+2,p,q=>simp at p
   ·exact { Kp:=λi o h=>(n5 i (Ht.1<|u i o h).1 (λe=>by rw[e,L]at h;cases h) (λe=>by rw[e,P]at h;cases h)).trans<|u i o h,SB:=λid SB G=>(by cases G),apart:=λid SB g b G=>(by cases G),inj:=λi j bi bj gi gj b G=>(by cases G),nodup:=.nil,PA:=λid N=>(by cases N) }
   ·exact { Kp:=A.Kp,os:=n1.trans A.os,tape:=n2.trans A.tape,output:=n3.trans A.output,size:=by have:=A.size;omega,
            block:=λi N f=>(n5 i (by have:=A.size;omega) (by omega)<|by omega).trans<|(A.block i (by omega)<|M i N f).trans<|Vl w a b c d N,
            fresh:=λi N ⟨j,bj,g,G,_⟩=>(by cases G),
            gz:=λi N f=>A.gz i (by omega) (M i N f) }
def IF (m:Md) (k:Int):ed 54 [.Kp<|.agg<|dMdc m,i7 k] []<|.ret (.ref 1 0)<|D9 m [] k []:=by obtain⟨q,y,z⟩:=m;exact Ae ttY_ok func54 O [4,2,1,3,5,6]<|Aj O<|Es O<|Qa 4 O (by simp)<|Fx 1 3 (e:=25) (sz:=4) [.Kp<|.str q,.Kp<|.sl<|y.map DE,.Kp<|.sl<|z.map Ed,.cf 2,i7 k,.own 3 0] (by decide) O ⟨.inl O,.inl O,.inl O,.inl O,.inl O,.inr ⟨rfl,rfl⟩,ab⟩<|A0 O<|Ah ⟨_,BA⟩
mutual
def Wb:∀t:Y,Bn t=Fz t
 |.mk _ _ _ ps=>by simp only[Bn,Fz,Zu ps]
def Zu:∀ps:E1,A5 ps=Ex ps
 |[]=>rfl
 |t::r=>by simp only[A5,Ex,Wb t,Zu r]
end
def zb6 {t:Y} (h:AW true t=true):Fz t<=12:=by simp only[AW,Am,am]at h;rw[<- Wb];exact h.1
def Y5 (q:fv (Ck T) θ) {t:Y} (y:CY t=true):(Fz (AI θ t)<=12->ed 58 [.ref 1 0,.Kp<|.agg<|As t] (D9 m T k S) (.ret (.Kp<|.cg [.agg<|As<|AI θ t,.bool true])<|D9 m T k S))/\(12<Fz (AI θ t)->ed 58 [.ref 1 0,.Kp<|.agg<|As t] (D9 m T k S) (.ret (.Kp<|.cg [.agg<|As MC,.bool false]) [])):=by let⟨z,A⟩:=zhe m T k S q _ t (B6 _) y 12 (by omega) (by omega);exact⟨λh=>yO<|z<|by omega,λh=>zc6<|A<|by omega⟩
def oc:L1 (Int×Y)->Int
 |[]=>-1
 |p::r=>max p.1 (oc r)
def zfk {x:Int}:∀{T:L2},(∀p∈T,p.1<=x)->(x = -1\/∃p∈T,p.1=x)->(∀p∈T,0<=p.1)->-1<=x->oc T=x:=by have z:∀{T:L2},-1<=x->(∀p∈T,p.1<=x)->oc T<=x:=λ{T} C h=>by{induction T with|nil=>simpa[oc]using C|cons p r y=>{simp only[oc];have:=h p (by simp);have:=y λq hq=>h q (by simp[hq]);omega}};have A:∀{T:L2},(∃p∈T,p.1=x)->x<=oc T:=λ{T} h=>by{induction T with|nil=>obtain⟨p,D,_⟩:=h;cases D|cons p r y=>{obtain⟨q,hq,e⟩:=h;simp only[oc];rcases Cu.1 hq with rfl|hq;omega;have:=y ⟨q,hq,e⟩;omega}};have B:∀{T:L2},-1<=oc T:=λ{T}=>by{induction T with|nil=>simp[oc]|cons p r y=>{simp only[oc];omega}};intro T G h2 K H;have:=z H G;rcases h2 with rfl|h2;have:=@B T;omega;have:=A h2;omega
noncomputable def zde (T:L1<|Int×Y) (θ:Int->Y):L1 Y:=(List.range (oc T+1).toNat).map λi:Nat=>θ i
def Gb (n:Int):V:=.int .i64 n
def qw:Md:=⟨[],[],[]⟩
def wM (h:X I μ v .NB):PB I v<|.sl []:=by cases h;exact .slnil
def zkp (h:X I μ v<|.agg [.Kp<|.str [],.NB,.NB]):X I μ v<|.Kp<|.agg<|dMdc qw:=by cases h with|agg z _ A B h=>{refine .Kp _ _<|.agg z _ A B λi c x y q=>?_;match i,q with|0,q=>cases q;exact(h 0 c _ y O).Ks|1,q=>cases q;exact wM (h 1 c _ y O)|2,q=>cases q;exact wM (h 2 c _ y O)|i+3,q=>{simp[dMdc]at q}}
def OY:ed 54 [.agg [.Kp<|.str [],.NB,.NB],i7 0] []<|.ret (.ref 1 0)<|D9 qw [] 0 []:=λI μ w A y z=>IF qw 0 I μ w A y ⟨z.1,λi v d p q=>by
 match i,q with
 |0,q=>cases q;exact zkp (z.2 0 v _ p O)
 |1,q=>cases q;exact z.2 1 v _ p O
 |i+2,q=>simp at q⟩
def zbo (a b:Y) (h:(AW true a&&AW true b)=true) (y:Fj qw [] 0 [] a b):ca 13 [.agg<|As a,.agg<|As b]<|.cg [.sl [],Gb 7]:=by have q:=Hn [a,b];simp only[Em,Ng,P7]at q;rw[h]at q;have z:=OY;have A:=N6 func55 (by decide +kernel) O Hm func56 (by decide +kernel) O (df:=[]) (dc:=[.ref 4 0,.ref 5 0,.ref 6 0])<|yS y;obtain⟨B,C,D,G⟩:=a;obtain⟨H,K,M,N⟩:=b;exact Ae ttY_ok func13 O [5,6,1,2,3,4,7]<|Aj O<|Ac O q<|Aj O<|Ag O λh=>A0 O<|Ao [1,2,3] [] S5 O z ab O O<|Aj O<|Ao [] [(1,1),(2,2),(3,3),(4,4),(5,5),(6,6)] [] O A ⟨⟨rfl,rfl,rfl⟩,⟨rfl,rfl,rfl⟩,⟨rfl,rfl,rfl⟩,⟨rfl,rfl,rfl⟩,⟨rfl,rfl,rfl⟩,⟨rfl,rfl,rfl⟩,ab⟩ O O<|Aj O<|Ap O λh=>A0 O<|Ab O O O
def oP {G:K1} {ks:T1} {n:Int} (z:Lq ks ps) (h:(Hf v ks).P vs I w G) (N:I.le J) (H:∀b∈G,J b=w.heap[b]?) (cs:R0) (R:TB J kc cs [i7 f,i7 n,.Kp<|.str x,.eR v]):Ts J cs<|As<|.mk f n x ps:=by obtain⟨U,K,M,d⟩:=h;have V:PB J v<|.sl<|A3 ps:=gU U K (λk C=>H k (by rw[M];simp[C])) z λi a t D W=> wU ((Lp.1 z).2 i a t D W) (GB.1 K i a D).2 λk C=>H k (by rw[M];simp only[AT];exact .inr<|QB.2 ⟨a,AE D,C⟩);obtain⟨l1,A⟩:=R;refine⟨l1,λi c y B q=>?_⟩;match i,q with|0,q=>cases q;exact(A 0 c _ B O).Ks|1,q=>cases q;exact(A 1 c _ B O).Ks|2,q=>cases q;exact(A 2 c _ B O).Ks|3,q=>{cases q;have:=A 3 c _ B O;cases this with|eR _ _=>{exact V}}|i+4,q=>{simp at q}
def infE:Env:=[(3,.ref 11 0),(5,.ref 12 0),(6,.ref 13 0),(8,.ref 14 0),(9,.ref 18 0)]
def R7 (m:Md) (t:Tm) (Γ:At) (a8:L1 Int) (q:V):Prop :=
 ia Tryz.f26.ntmps (CB []) (IZ XV Tryz.f26.results.toList<|.ret (.Kp q) []) [.code<|Ek Tryz.f26 5] infE (wY m t Γ a8) [1,2,3,21,22,4,23,24,25,26,27]
def ZP (m:Md) (t:Tm) (Γ:At) (a8:K2) (q:ed 78 [.ref 5 0,.ref 6 0,.ref 7 0,.ref 8 0] (kP m Γ t [] 0 []<|As MC)<|.ix Io):R7 m t Γ a8<|.cg [.agg<|As MC,Gb 7]:=by have y:=IF m 0;have z:=N6 func55 (by decide +kernel) O Hm func78 (by decide +kernel) O (df:=[]) (dc:=[.ref 5 0,.ref 6 0,.ref 7 0,.ref 8 0]) q;clear q;obtain⟨A,B,C⟩:=m;obtain⟨t1,t2,t3,t4,t5⟩:=t;unfold R7;exact A0 O<|Ao [1,2,3] [] S5 O y ab O O<|Qa 6 O (by simp)<|Xq 22 (t:=25) (sz:=4) (ds:=[i7 0,i7 0,.Kp<|.str [],.NB]) (As MC) O O<|A0 O<|Ao [] [(1,1),(2,2),(3,3),(21,5),(12,6),(14,7),(22,8)] [] O z gQ O O<|Aj O<|Ap O λh=>A0 O<|Ab O O O
mutual
def xI:∀(t:Y) (l:K2),(D5 t l).length<=l.length+Fz t
 |.mk f n x ps,l=>by simp only[D5,Fz];split;split;omega;simp only[Bo,C1,Cj];omega;have:=lF ps l;omega
def lF:∀(ts:E1) (l:K2),(CF ts l).length<=l.length+Ex ts
 |[],l=>by simp[CF]
 |t::r,l=>by simp only[CF,Ex];have q:=xI t l;have y:=lF r<|D5 t l;omega
end
noncomputable def Nx (a8:L1 Int) (u:Y):V :=
 if Fz u<=12 then(if AW true (Fv a8 (D5 u []) u)=true then .cg [.agg<|As<|Fv a8 (D5 u []) u,Gb 0]else .cg [.agg<|As MC,Gb 3])else .cg [.agg<|As MC,Gb 3]
def kN (m:Md) (t:Tm) (Γ:At) (a8:K2) (W:ed 78 [.ref 5 0,.ref 6 0,.ref 7 0,.ref 8 0] (kP m Γ t [] 0 []<|As MC)<|.ret (.Kp<|.cg [])<|zne m Γ t T k S<|As τ) (G:fv (Ck T) θ) (H:CY τ=true) (K:a8.length<=1000000):R7 m t Γ a8<|Nx a8<|AI θ τ:=by have i:=IF m 0;have a:=Lu func55 (by decide +kernel) O Hm func78 (by decide +kernel) O (df:=[]) (dc:=[.ref 5 0,.ref 6 0,.ref 7 0,.ref 8 0]) W;clear W;let⟨b,c⟩:=Y5 (m:=m) (k:=k) (S:=S) G H;have q:CY (AI θ τ)=true:=Vh (λn=>G.ny n) _ H;clear G H;generalize AI θ τ=u at *;unfold Nx;obtain⟨P,Q,m3⟩:=m;obtain⟨t1,t2,t3,t4,t5⟩:=t;obtain⟨a1,a2,a3,a4⟩:=τ;unfold R7;refine A0 O<|Ao [1,2,3] [] S5 O i ab O O<|Qa 6 O (by simp)<|Xq 22 (t:=25) (sz:=4) (ds:=[i7 0,i7 0,.Kp<|.str [],.NB]) (As MC) O O<|A0 O<|Ao [4] [(1,1),(2,2),(3,3),(21,5),(12,6),(14,7),(22,8)] [(4,4)] O a gQ O O<|Aj O<|Ag O λh=>A0 O ?_;by_cases z:Fz u<=12;{have M:=b z;have j:=WE u q;have A:(D5 u []).length<=1000000:=by{have:=xI u [];simp at this;omega};have C:=zfb a8 K u [] q A;have d:=Hn [Fv a8 (D5 u []) u];simp only[Em,Ng,P7]at d;rw[ae z];unfold wm at C;have e:lv a8 []=a8:=by{simp[lv]};have f:ol a8 []=[(1,some<|.cells 123 2 [.cf 2,.cf 3]),(2,some<|.map<|Fh a8),(3,some<|.map [])]:=by{rw[ol,e];rfl};rw[f]at C;obtain⟨nb,B⟩:∃x,ol a8 (D5 u [])=[(1,some (.cells 123 2 [.cf 2,.cf 3])),(2,some (.map x.1)),(3,some (.map x.2))]:=⟨(_,_),rfl⟩;rw[B]at C;generalize Fv a8 (D5 u []) u=v at *;generalize l:AW true v=o at *;clear b c e f A q B a;obtain⟨u1,u2,u3,u4⟩:=u;obtain⟨p,r,s,g⟩:=v;refine Ao [] T6 [] O M A4 O O<|Aj O<|Ag O λh=>A0 O<|AF (fr:=[24]) [] [(1,24)] [] (nm:=[24]) O trivial (by simp) j ab O trivial rfl O O<|Aj O<|AF (fr:=[25]) [(17,1),(15,2),(16,3),(24,4)] [(5,25)] [] (nm:=[17,15,16,25,17,15,16,24]) O trivial (by simp) C IR O trivial rfl O O<|Qa 3 O (by simp;rfl)<|HF (Kr:=[27]) 25 26 (λx:Value×{ D:T1 // Lq D g }=>[x.1]) (λx=>Hf x.1 x.2.1) O (λvs I w E h=>by obtain⟨v,D,N,R,U⟩:=h;exact⟨(v,⟨D,N⟩),R,U⟩) λy=>?_;obtain⟨vv,⟨D,V⟩⟩:=y;refine Js 26 23 (As<|.mk p r s g) O O (λvs I J w E N R U F L=>oP V N R U F L) O<|A0 O<|Ac O d<|Aj O ?_;cases o with|false=>{exact Ap O λh=>A0 O<|Ab O O O}|true=>{exact Ag O λh=>A0 O<|Ab O O O}};have M:=c (by omega);rw[ac z];exact Ao [] T6 [] O M A4 O O<|Aj O<|Ap O λh=>A0 O<|Ab O O O
def Mh (m:Md) (Γ:At) (t:Tm):Bool:=Li m&&decide (Γ.length<=20)&&Γ.all Sw&&G7 t
def So (m:Md) (Γ:At) (t:Tm) (h:Mh m Γ t=true) (J:∀p∈Γ,CY p.2=true) {G:V} (hT:R7 m t (Kb Γ) (G0 Γ []) G):ca 26 [.agg<|dMdc m,.sl<|dKns Γ,.agg<|dTmc t] G:=by have a:=JZ m;have n:=zgw Γ 72 Sw λp _=>sJ p;have b:=NV t;unfold Mh at h;simp only[Am,am]at h;obtain⟨⟨⟨P,q2⟩,Q⟩,S⟩:=h;unfold UB at a b;rw[P]at a;rw[Q]at n;rw[S]at b;clear P Q S;have H:(dKns Γ).length=Γ.length:=lm Γ;obtain⟨c,f,g⟩:=m;obtain⟨t1,t2,t3,t4,t5⟩:=t;refine Ae ttY_ok func26 O [11,12,13,14,15,16,17,18,19,6,1,2,3,4,21,22,23,24,25,26,27]<|Aj O<|Ac O a<|C3 O<|Al O n<|C3 O<|Al O b<|C3 O<|Aa O (λo=>?_) λo=>?_;exfalso;rw[H]at o;have:decide ((20:Int)<Γ.length)=false:=ap (by omega);simp[this]at o;refine A0 O<|Es O<|Aj O<|Es O<|Qa 6 O (by simp)<|Xq 14 (t:=118) (sz:=1) (ds:=[.NB]) [.sl []] O O<|A0 O<|Ak (λi:Nat=>inE Γ i) (λi=>wY ⟨c,f,g⟩ (.mk t1 t2 t3 t4 t5) (Kb<|Γ.take i)<|G0 (Γ.take i) []) [19,6,1,2,3,21,22,4,23,24,25,26,27] (λi=>Γ.length-i) (λi=>i<=Γ.length) 0 (AK _) ⟨rfl,B2<|by simp,GW⟩ JG O λi r T=>?_;refine A0 O<|Aa O (λh=>?_) λh=>?_;have K:i<Γ.length:=by{simp at h;omega};let⟨p,k⟩:=Aq K;have hg:=NM k;have M:=AE k;have s:=kC p.2<|J p M;have v:=Nt (Kb<|Γ.take i) p.1 (G6 p.2) (by simp[Kb];omega);have hN:=ZI p.2;have D:=T (i+1) (by omega) (by omega);have N:=fR p.2 (G0 (Γ.take i) [])<|J p M;have R:G0 (Γ.take<|i+1) []=D5 p.2 (G0 (Γ.take i) []):=by{rw[Bm k,Vy]};have U:Kb (Γ.take<|i+1)=Kb (Γ.take i)++[(p.1,G6 p.2)]:=by{rw[Bm k,SC]};rw[R,U]at D;clear T R U a n b;generalize G0 (Γ.take i) []=l at *;generalize Kb (Γ.take i)=w at *;obtain⟨y,E⟩:=p;simp only at s v hN D N;generalize w++[(y,G6 E)]=C at *;obtain⟨tf,F⟩:∃x,G6 E=x:=⟨_,rfl⟩;rw[F]at s v;obtain⟨f1,f2,f3,f4⟩:=tf;obtain⟨q,z,A,B⟩:=E;refine A0 O<|XU O hg<|Aj O<|Ac O s<|Aj O<|Ac O v<|yg [] O (by simp;rfl)<|FJ (bk:=[]) (fr:=[6]) [] [(6,6)] O (by simp) hN ab O O O O<|Aj O<|E3 (y:=3) (j:=4) (j2:=5) (lp:=HT<|.mk q z A B) (l5:=HT<|.mk q z A B) (jm:=wY ⟨c,f,g⟩ (.mk t1 t2 t3 t4 t5) C l) (io:=wY ⟨c,f,g⟩ (.mk t1 t2 t3 t4 t5) C<|(JC<|.mk q z A B).foldl qv l) (b0:=none) (E:=inE Γ i) (Kr:=[19,6,1,2,3,21,22,4,23,24,25,26,27]) (d:=.cg []) O func139 (by decide +kernel) O (by decide) JG (Cz VF) (λL h1 h2 h3 h4 h5 h6 h7=>RW (b:=true) (.mk q z A B) ?_) ?_ ?_ ?_ ?_ ?_;have:=Yields.all (P:=prog) (l:=ET<|JC<|.mk q z A B) (λj=>Cl L (wY ⟨c,f,g⟩ (.mk t1 t2 t3 t4 t5) C<|((JC<|.mk q z A B).take j).foldl qv l) none) λj d W=>by{rw[ET,Cx]at W;cases I:(JC<|.mk q z A B)[j]? with|none=>rw[I]at W;cases W|some u=>{rw[I]at W;cases W;have e:((JC<|.mk q z A B).take<|j+1).foldl qv l=qv (((JC<|.mk q z A B).take j).foldl qv l) u:=by{rw[Bm I,qN];rfl};rw[e];exact lG _ _ Γ C i _ u h1 h2 h3 h4 h5 h6 h7}};have hl:(ET<|JC<|.mk q z A B).length=(JC<|.mk q z A B).length:=by{simp[ET]};rw[hl]at this;simpa using this;simp[HT,wY,CB];simp[HT,CB];intro i r;have e:FO (EX (DW<|AZ []++[(6,6)]) []++EX (DW<|AZ []++[(6,6)]) [.ref 6 0])=[6]:=rfl;rw[e]at r;simpa[HT,CB,DB,KU,FO,GH]using r;refine⟨by decide,?_⟩;simp[wY,inE,OS,GH,DB,KU,FO,CB];rw[N];exact A0 O<|Ad D ⟨Bc,MT⟩ JG O;have K:¬i<Γ.length:=by{simp at h;omega};refine Aw O ?_;have e1:Γ.take i=Γ:=Df (by omega);rw[e1];exact Ad hT BA JG O
mutual
def zhj:∀t:Y,CY t=true->gr 1000 t->CY (G6 t)=true/\Dv (G6 t)=[]
 |.mk f n x ps,q,A=>by by_cases y:f=9;subst y;have B:=A.num O;simp only[num]at B;have e:=Fp q O;simp only[Ay,num,Y.mk.injEq]at e;obtain⟨_,_,rfl,rfl⟩:=e;have C:n<=1000000:=by{omega};have D:0<=n:=by{omega};rw[G6,ae O];refine⟨?_,by simp[Dv,D4,M7]⟩;simp[CY,GT,D,C,M7];have z:=xQ ps (GS q) λp z=>A.part y z;rw[G6,ac y];simp only[CY,Am]at q ⊢;refine⟨⟨⟨⟨by simp[y],q.1.1.2⟩,q.1.2.1,by rw[Xf,CD];exact q.1.2.2⟩,z.1⟩,by rw[Dv,ac y];exact z.2⟩
def xQ:∀l:E1,(∀t∈l,CY t=true)->(∀t∈l,gr 1000 t)->GT (M7 l)=true/\D4 (M7 l)=[]
 |[],_,_=>by simp[M7,GT,D4]
 |t::r,y,z=>by have A:=zhj t (y t<|by simp)<|z t (by simp);have B:=xQ r (λp q=>y p<|by simp[q]) λp q=>z p (by simp[q]);simp[M7,GT,D4,A.1,A.2,B.1,B.2]
end
def N9 (h:∀p∈Γ,CY p.2=true/\gr 1000 p.2):kb<|Kb Γ:=λp z=>by
 obtain⟨q,y,rfl⟩:=CC.1 z;have:=zhj q.2 (h q y).1 (h q y).2;exact⟨this.2,this.1⟩
noncomputable def JL (a8:L1 Int):Option (Y×Int×Sb×L1 Y)->V
 |none=>.cg [.agg<|As MC,Gb 7]
 |some (τ,_,q,N)=>if(N.map<|AI<|wk q).all DA=true then Nx a8 (AI (wk q) τ)else .cg [.agg<|As MC,Gb 7]
def fZ:hQ 0<|Ck []:=⟨PF _,λn t h=>(nomatch h),Ay,fv.mk (λn t h=>nomatch h) (λn h=>rfl) (λn t h=>nomatch h) λn t h=>nomatch h⟩
def ZM (M:Gh m) (Γ:At) (t:Tm) (h:Mh m Γ t=true) (A:∀p∈Γ,CY p.2=true/\gr 1000 p.2) (R:Ax t=true) (V:NY t<=100000):∃r,Ct m (Kb Γ) t 0 (λ_=>none) r/\ca 26 [.agg<|dMdc m,.sl<|dKns Γ,.agg<|dTmc t] (JL (G0 Γ []) r):=by have B:=N9 A;have W:Γ.length<=20:=by{simp only[Mh,Am,am]at h;exact h.1.1.2};have C:(G0 Γ []).length<=1000000:=by{have:=oC (B:=1000) λp q=>(A p q).2;omega};have D:∀p∈Γ,CY p.2=true:=λp q=>(A p q).1;have U:zmn (Kb Γ) [] 0 []<|NY t:=⟨fZ,λp q=>⟨(B p q).2,CW (B p q).1 _⟩,by omega,by simp;omega,by simp[Kb];omega⟩;let⟨r,c,g⟩:=kO M (NY t) t (Kb Γ) [] 0 [] (B6 _) R U;cases r with|none=>exact⟨none,g,So m Γ t h D<|ZP m t _ _<|sI c⟩|some z=>{obtain⟨τ,T,k,S⟩:=z;obtain⟨N,G,K,a,b⟩:=g;simp only[JJ]at K;subst K;refine⟨_,G,?_⟩;obtain⟨θ,y⟩:=G.1.2.1.2.2;have H:wk (Ck T)=θ:=Ps y;simp only[JL,H];cases q:(S.map<|AI θ).all DA with|true=>rw[ae O];exact So m Γ t h D (kN m t _ _ (kF c y (by omega) q) y G.2.1 C)|false=>{rw[ac<|by simp];exact So m Γ t h D<|ZP m t _ _<|kG c y (by omega) q}}
def eN (a b:K2):L5 (a++b)=L5 a++L5 b:=by simp[L5]
mutual
def zc8 {η:Int->Y}:∀t:Y,CY (AI η t)=true->∀h∈Dv t,CY (η h)=true
 |.mk f n x ps,q,h,y=>by by_cases z:f=9;simp only[Dv,ae z,AJ]at y;rw[AI,ae z]at q;rw[y];exact q;simp only[Dv,ac z]at y;rw[AI,ac z]at q;simp only[CY,Am]at q;exact uH ps q.2 h y
def uH {η:Int->Y}:∀l:E1,GT (Dq η l)=true->∀h∈D4 l,CY (η h)=true
 |[],_,h,q=>by simp[D4]at q
 |t::r,y,h,q=>by simp only[Dq,GT,Am]at y;simp only[D4,AT]at q;exact q.elim (zc8 t y.1 h)<|uH r y.2 h
end
noncomputable def zod (a8:L1 Int) (T:Y) (h:Int):Int:=(FI a8 ((D5 T []).idxOf h):Nat)
def wK (a8:K2) (T:Y):zpg a8 T<|zod a8 T:=λi h q=>by{have y:=Sx T [] (by simp);have e:(D5 T []).idxOf h=i:=by{let⟨z,A⟩:=A9.1 q;rw[<- A];exact y.idxOf_getElem i z};exact⟨_,by rw[zod,e],Oc a8 i⟩}
mutual
def qG {a8 L:K2}:∀t:Y,Fz (Fv a8 L t)=Fz t
 |.mk f n x ps=>by rw[Fv,Fz,Fz,wP ps]
def wP {a8 L:K2}:∀l:E1,Ex (FP a8 L l)=Ex l
 |[]=>rfl
 |t::r=>by rw[FP,Ex,Ex,qG t,wP r]
end
def sO (l:L1 Dt) (f:FuncId) (a b:G2) (q:Dt->Bool) (d:∀t∈l,ca f (a++[.agg<|DE t]++b)<|.bool<|q t):∃i:Int,(0<=i↔l.any q=true)/\ca 286 [.sl<|(l.map DE),.lj (.func f) a b] (.int .i64 i):=by obtain⟨i,U,W⟩:∃i:Int,(0<=i↔l.any q=true)/\((i = -1/\l.any q=false)\/∃(k:Nat) (t:Dt),i=k/\l[k]?=some t/\q t=true/\(l.take k).any q=false):=by{by_cases h:l.any q=true;have K:∀(n:Nat),(l.take n).any q=true->∃(k:Nat) (t:Dt),l[k]?=some t/\q t=true/\(l.take k).any q=false:=λn=>by{induction n with|zero=>intro h;simp at h|succ n M=>{intro h;by_cases B:(l.take n).any q=true;exact M B;by_cases e:n<l.length;let⟨t,A⟩:=Aq e;rw[Bm A,KL]at h;simp only[Ww]at B;rw[B,Wt]at h;exact⟨n,t,A,by simpa using h,B⟩;rw[Df<|by omega]at h B;exact absurd h B}};let⟨k,t,C,D,N⟩:=K l.length (by rw[P8];exact h);exact⟨k,⟨λ_=>h,λ_=>by omega⟩,.inr ⟨k,t,rfl,C,D,N⟩⟩;exact⟨-1,⟨λc=>by omega,λc=>absurd c h⟩,.inl ⟨rfl,by simpa using h⟩⟩};refine⟨i,U,?_⟩;clear U;refine BJ λg=>?_;simp[DF,GA,maxLen]at g;refine Ae ttY_ok func286 O [1,2]<|Aj O<|Ak (λj:Nat=>[(8,i7 j),(7,i7 l.length),(0,.Kp<|.sl<|(l.map DE)),(1,.Kp<|.lj (.func f) a b)]) (λ_=>[]) [1,2] (λj=>l.length-j) (λj=>j<=l.length/\(l.take j).any q=false) 0 ⟨AK _,rfl⟩ ⟨rfl,B2<|by simp,AL⟩ ab O λj m M=>?_;obtain⟨p,y⟩:=m;refine A0 O<|Aa O (λh=>?_) λh=>?_;have G:j<l.length:=by{simp at h;omega};let⟨t,A⟩:=Aq G;have r:=eP A;have s:=d t<|AE A;have R:(l.take<|j+1).any q=q t:=by{rw[Bm A,KL,y];simp};have z:q t=true->i=j:=λH=>by{rcases W with⟨_,h⟩|⟨k,u,rfl,C,D,N⟩;have:l.any q=true:=Fb.2 ⟨t,AE A,H⟩;rw[this]at h;cases h;congr 1;rcases P9 k j with hc|hc|hc;have:(l.take j).any q=true:=Fb.2 ⟨u,EI.2 ⟨k,by rw[Ea,ae hc];exact C⟩,D⟩;rw[y]at this;cases this;exact hc;have:(l.take k).any q=true:=Fb.2 ⟨t,EI.2 ⟨j,by rw[Ea,ae hc];exact A⟩,H⟩;rw[N]at this;cases this};generalize q t=o at *;obtain⟨t1,t2⟩:=t;refine A0 O<|yi O (c:=DE ⟨t1,t2⟩) (λ_=>⟨by simp,by simpa using r,by simp[DE]⟩) (by simp)<|Aj O<|UQ O (λ_=>s) (by simp)<|Aj O ?_;cases o with|true=>{exact Ap O λh=>A0 O<|Ah ⟨_,rfl,tV<|by rw[z O],ab⟩}|false=>{exact Ag O λh=>A0 O<|Ad (M (j+1) (by omega) ⟨by omega,R⟩) ⟨Bc,AB⟩ ab O};have G:¬j<l.length:=by{simp at h;omega};rw[Df<|by omega]at y;have v:i = -1:=by{rcases W with⟨h,_⟩|⟨k,u,_,C,D,_⟩;exact h;have:l.any q=true:=Fb.2 ⟨u,AE C,D⟩;rw[y]at this;cases this};exact Aw O<|A0 O<|Ah ⟨_,rfl,tV<|by rw[v],ab⟩
def Pb (l:L1 Dt) (f:FuncId) (a b:G2) (q:Dt->Bool) (y:∀t∈l,ca f (a++[.agg<|DE t]++b)<|.bool<|q t):ca 265 [.sl<|(l.map DE),.lj (.func f) a b]<|.bool<|l.any q:=by let⟨i,z,A⟩:=sO l f a b q y;refine Ae ttY_ok func265 O [1,2]<|Aj O<|Ac O A<|Aj O<|Ab O O (af _ ?_);rw[Ga,<- z];simp
def sN (l:L1 Fd) (f:FuncId) (a b:G2) (q:Fd->Bool) (d:∀t∈l,ca f (a++[.agg<|Ed t]++b)<|.bool<|q t):∃i:Int,(0<=i↔l.any q=true)/\ca 270 [.sl<|(l.map Ed),.lj (.func f) a b] (.int .i64 i):=by obtain⟨i,U,W⟩:∃i:Int,(0<=i↔l.any q=true)/\((i = -1/\l.any q=false)\/∃(k:Nat) (t:Fd),i=k/\l[k]?=some t/\q t=true/\(l.take k).any q=false):=by{by_cases h:l.any q=true;have K:∀(n:Nat),(l.take n).any q=true->∃(k:Nat) (t:Fd),l[k]?=some t/\q t=true/\(l.take k).any q=false:=λn=>by{induction n with|zero=>intro h;simp at h|succ n M=>{intro h;by_cases B:(l.take n).any q=true;exact M B;by_cases e:n<l.length;let⟨t,A⟩:=Aq e;rw[Bm A,KL]at h;simp only[Ww]at B;rw[B,Wt]at h;exact⟨n,t,A,by simpa using h,B⟩;rw[Df<|by omega]at h B;exact absurd h B}};let⟨k,t,C,D,N⟩:=K l.length (by rw[P8];exact h);exact⟨k,⟨λ_=>h,λ_=>by omega⟩,.inr ⟨k,t,rfl,C,D,N⟩⟩;exact⟨-1,⟨λc=>by omega,λc=>absurd c h⟩,.inl ⟨rfl,by simpa using h⟩⟩};refine⟨i,U,?_⟩;clear U;refine BJ λg=>?_;simp[DF,GA,maxLen]at g;refine Ae ttY_ok func270 O [1,2]<|Aj O<|Ak (λj:Nat=>[(8,i7 j),(7,i7 l.length),(0,.Kp<|.sl<|(l.map Ed)),(1,.Kp<|.lj (.func f) a b)]) (λ_=>[]) [1,2] (λj=>l.length-j) (λj=>j<=l.length/\(l.take j).any q=false) 0 ⟨AK _,rfl⟩ ⟨rfl,B2<|by simp,AL⟩ ab O λj m M=>?_;obtain⟨p,y⟩:=m;refine A0 O<|Aa O (λh=>?_) λh=>?_;have G:j<l.length:=by{simp at h;omega};let⟨t,A⟩:=Aq G;have r:=Rq A;have s:=d t<|AE A;have R:(l.take<|j+1).any q=q t:=by{rw[Bm A,KL,y];simp};have z:q t=true->i=j:=λH=>by{rcases W with⟨_,h⟩|⟨k,u,rfl,C,D,N⟩;have:l.any q=true:=Fb.2 ⟨t,AE A,H⟩;rw[this]at h;cases h;congr 1;rcases P9 k j with hc|hc|hc;have:(l.take j).any q=true:=Fb.2 ⟨u,EI.2 ⟨k,by rw[Ea,ae hc];exact C⟩,D⟩;rw[y]at this;cases this;exact hc;have:(l.take k).any q=true:=Fb.2 ⟨t,EI.2 ⟨j,by rw[Ea,ae hc];exact A⟩,H⟩;rw[N]at this;cases this};generalize q t=o at *;obtain⟨t1,t2,⟨v,w,x,E⟩,⟨F,I,J,L⟩,⟨P,Q,S,T,c5⟩⟩:=t;refine A0 O<|yi O (c:=Ed ⟨t1,t2,.mk v w x E,.mk F I J L,.mk P Q S T c5⟩) (λ_=>⟨by simp,by simpa using r,by simp[Ed]⟩) (by simp)<|Aj O<|UQ O (λ_=>s) (by simp)<|Aj O ?_;cases o with|true=>{exact Ap O λh=>A0 O<|Ah ⟨_,rfl,tV<|by rw[z O],ab⟩}|false=>{exact Ag O λh=>A0 O<|Ad (M (j+1) (by omega) ⟨by omega,R⟩) ⟨Bc,AB⟩ ab O};have G:¬j<l.length:=by{simp at h;omega};rw[Df<|by omega]at y;have hi:i = -1:=by{rcases W with⟨h,_⟩|⟨k,u,_,C,D,_⟩;exact h;have:l.any q=true:=Fb.2 ⟨u,AE C,D⟩;rw[y]at this;cases this};exact Aw O<|A0 O<|Ah ⟨_,rfl,tV<|by rw[hi],ab⟩
def Pa (l:L1 Fd) (f:FuncId) (a b:G2) (q:Fd->Bool) (y:∀t∈l,ca f (a++[.agg<|Ed t]++b)<|.bool<|q t):ca 225 [.sl<|(l.map Ed),.lj (.func f) a b]<|.bool<|l.any q:=by let⟨i,z,A⟩:=sN l f a b q y;refine Ae ttY_ok func225 O [1,2]<|Aj O<|Ac O A<|Aj O<|Ab O O (af _ ?_);rw[Ga,<- z];simp
def zbk (d e:Dt):ca 266 [.agg<|DE e,.ip 113 (DE d) 0]<|.bool<|e.name==d.name:=by obtain⟨d1,d2⟩:=d;obtain⟨q,y⟩:=e;exact Qs<|Ae ttY_ok func266 O [2,3,4,5]<|Aj O<|Ab O O O
def zgs (d e:Fd):ca 268 [.agg<|Ed e,.ip 71 (Ed d) 0]<|.bool<|e.name==d.name:=by obtain⟨d1,d2,⟨q,y,z,A⟩,⟨B,C,D,G⟩,⟨H,K,M,N,R⟩⟩:=d;obtain⟨U,V,⟨f1,f2,f3,f4⟩,⟨W,a,b,c⟩,⟨f,g,h,i,j⟩⟩:=e;exact Qs<|Ae ttY_ok func268 O [2,3,4,5]<|Aj O<|Ab O O O
def za4 (e:Fd):ca 226 [.agg<|Ed e]<|.bool<|e.name==Wm&&CS e.from_==3:=by obtain⟨q,y,⟨f1,f2,f3,f4⟩,⟨z,A,B,C⟩,⟨D,G,H,K,M⟩⟩:=e;refine Ae ttY_ok func226 O [2,3,4,5]<|Aj O<|Ab O O ?_;show V.bool (bif q==Wm then f1==3 else false)=V.bool (q==Wm&&f1==3);cases(q==Wm)<;>rfl
def rK (t:Y) (e:Dt):ca 287 [.agg<|DE e,.ip 25 (As t) 0]<|.bool<|e.name==Fk t:=by obtain⟨t1,t2,t3,t4⟩:=t;obtain⟨q,y⟩:=e;exact Qs<|Ae ttY_ok func287 O [2,3,4,5]<|Aj O<|Ab O O O
def Ux (m:Md):L1 V:=dMdc m++[.l8 [],.int .i64 0,.sl []]
def Yf (m:Md) (u:Y):Bool:=!(CS u==8&&!m.SA.any λd=>d.name==Fk u)
def Yl (m:Md) (b:Bool):St:=[(11,some<|.NA 92 1 [.ip 98 (Ux m) 0]),(12,some<|.NA 4 1 [.bool b])]
def su (l:L1 Y) (i:Nat):Env:=[(10,.Kp<|.int .i64 i),(9,.Kp<|.int .i64 l.length),(8,.Kp<|.sl<|A3 l),(2,.ref 11 0),(4,.ref 12 0)]
def TU (m:Md) (l:E1) (i:Nat) (u:Y) {L:Jj} (W:prog.funcs[L.fn]?.isSome) (G:L.tmps.size=Tryz.f267.ntmps) (H:L.ps = #[16]) (a:L.m7=zec Tryz.f267) (K:L.body=oZ Tryz.f267) (B:L.E=su l i) (C:L.F=[]):(Yf m u=true->LB prog [.Kp<|.agg<|As u] (Cl L (Yl m false) none) true (Cl L (Yl m false) none))/\(Yf m u=false->LB prog [.Kp<|.agg<|As u] (Cl L (Yl m false) none) false (Cl L (Yl m false)<|some .ret)):=by let⟨b,M⟩:=Nj.1 W;have N:=Pb m.SA 287 [] [.ip 25 (As u) 0] (λd=>d.name==Fk u) λd _=>rK u d;have q:SD [21,22,23] L.E (Yl m false) L.F:=by{rw[B,C];refine⟨by decide,?_⟩;simp[Yl,su,OS,GH,DB,KU,FO,CB]};unfold Yf;generalize(m.SA.any λd=>d.name==Fk u)=o at *;obtain⟨R,U,V⟩:=m;obtain⟨f,n,x,ps⟩:=u;simp only[CS];have y:∀jm,XS prog Tryz.f267.ntmps L.m7 ((16,.Kp<|.agg<|As<|.mk f n x ps)::L.E) jm [21,22,23] _ _ _:=λjm=>by{rw[a];exact yF ttY_ok O O O O (by simp)<|by simp};refine⟨λA=>?_,λA=>?_⟩;refine Xm (b0:=none) M H G O (by decide) q (y _) ?_;rw[K,B,C];refine Uw O<|Oq O (λ_=>N) O (by simp[A1])<|C3 O<|Aa O (λh=>?_) λh=>?_;exfalso;by_cases z:f=8;subst z;cases o<;>simp at h A;simp[z]at h;exact A0 O<|Bq (⟨rfl,rfl,ab⟩:Hh _<|Yl ⟨R,U,V⟩ false);refine Xm (b0:=some .ret) M H G O (by decide) q (y _) ?_;rw[K,B,C];refine Uw O<|Oq O (λ_=>N) O (by simp[A1])<|C3 O ?_;have D:f=8/\o=false:=by{by_cases z:f=8;subst z;cases o<;>simp at A ⊢;simp[z]at A};obtain⟨rfl,rfl⟩:=D;exact Ap O λh=>A0 O<|Ah (⟨rfl,rfl,ab⟩:Hh _<|Yl ⟨R,U,V⟩ false)
def Va {P:Program} {S S':jo} {q:Y->Bool}:∀(l:E1),(∀u∈l,q u=true->LB P [.Kp<|.agg<|As u] S true S)->(∀u∈l,q u=false->LB P [.Kp<|.agg<|As u] S false S')->(l.all q=true->Yields P (ET l) S true S)/\(l.all q=false->Yields P (ET l) S false S')
 |[],_,_=>⟨λ_=>Yields.nil S,λh=>by simp at h⟩
 |u::r,y,B=>by have C:=Va r (λv z=>y v<|by simp[z]) λv z=>B v (by simp[z]);refine⟨λh=>?_,λh=>?_⟩;simp only[Em,Am]at h;exact .cons (y u (by simp) h.1)<|C.1 h.2;simp only[Em,PD]at h;cases A:q u with|false=>exact .stop (B u (by simp) A)|true=>{rcases h with h|h;rw[A]at h;cases h;exact .cons (y u (by simp) A)<|C.2 h}
def ZJ (m:Md) (l:E1) (s:l.length<=1000000):ca 267 [.ip 98 (Ux m) 0,.sl<|A3 l]<|.bool<|(Ej l).all<|Yf m:=by refine Ae ttY_ok func267 O [11,12,13,6,1,2,3]<|Aj O<|Ak (λi:Nat=>su l i) (λ_=>Yl m false) [13,6,1,2,3] (λi=>l.length-i) (λi=>i<=l.length/\(Ej<|l.take i).all (Yf m)=true) 0 ⟨AK _,rfl⟩ ⟨rfl,B2<|by simp,AB⟩ AL O λi q f=>?_;obtain⟨k,y⟩:=q;refine A0 O<|Aa O (λh=>?_) λh=>?_;have V:i<l.length:=by{simp at h;omega};let⟨p,g⟩:=Aq V;have n:=AS g;have o:=ZI p;have W:∀(a b:E1),Ej (a++b)=Ej a++Ej b:=λa b=>by{induction a with|nil=>rfl|cons t r f=>{simp[Ej,f]}};have c:(Ej<|l.take<|i+1).all (Yf m)=(JC p).all (Yf m):=by{rw[Bm g,W,Ik,y];simp[Ej]};have z:(JC p).all (Yf m)=false->(Ej l).all (Yf m)=false:=λh=>by{have e:l=l.take i++p::l.drop (i+1):=by{rw[<- Av g,wQ]};rw[e,W,Ik,Ej,Ik,h];simp};have j:∀{L:Jj},prog.funcs[L.fn]?.isSome->L.tmps.size=Tryz.f267.ntmps->L.ps = #[16]->L.m7=zec Tryz.f267->L.body=oZ Tryz.f267->L.E=su l i->L.F=[]->((JC p).all (Yf m)=true->Yields prog (ET<|JC p) (Cl L (Yl m false) none) true (Cl L (Yl m false) none))/\((JC p).all (Yf m)=false->Yields prog (ET<|JC p) (Cl L (Yl m false) none) false (Cl L (Yl m false)<|some .ret)):=λG H K M N R U=>Va _ (λu _=>(TU m l i u G H K M N R U).1) λu _=>(TU m l i u G H K M N R U).2;obtain⟨A,B,C,D⟩:=p;refine A0 O<|XU O n<|Aj O<|FJ (bk:=[]) (fr:=[6]) [] [(6,6)] O (by simp) o ab O O O O<|Aj O ?_;cases d:(JC<|.mk A B C D).all (Yf m)with|true=>{rw[d]at c;refine E3 (y:=3) (j:=4) (j2:=5) (lp:=HT<|.mk A B C D) (l5:=HT<|.mk A B C D) (jm:=Yl m false) (io:=Yl m false) (b0:=none) (E:=su l i) (Kr:=[13,6,1,2,3]) (d:=.cg []) O func139 (by decide +kernel) O (by decide) BA (Cz AB) (λL G H K M N R U=>RW (.mk A B C D)<|(j G H K M N R U).1 d) ?_ ?_ ?_ ?_ ?_;simp[HT,Yl,CB];simp[HT,CB];intro i q;have e:FO (EX (DW<|AZ []++[(6,6)]) []++EX (DW<|AZ []++[(6,6)]) [.ref 6 0])=[6]:=rfl;rw[e]at q;simpa[HT,CB,DB,KU,FO,GH]using q;refine⟨by decide,?_⟩;simp[Yl,su,OS,GH,DB,KU,FO,CB];exact A0 O<|Ad (f (i+1) (by omega) ⟨by omega,c⟩) ⟨Bc,B9⟩ AL O}|false=>{have z:=z d;refine E3 (y:=3) (j:=4) (j2:=5) (lp:=HT<|.mk A B C D) (l5:=HT<|.mk A B C D) (jm:=Yl m false) (io:=Yl m false) (b0:=some .ret) (E:=su l i) (Kr:=[13,6,1,2,3]) (d:=.cg []) O func139 (by decide +kernel) O (by decide) BA (Cz AB) (λL G H K M N R U=>RW (.mk A B C D)<|(j G H K M N R U).2 d) ?_ ?_ ?_ ?_ ?_;simp[HT,Yl,CB];simp[HT,CB];intro i q;have e:FO (EX (DW<|AZ []++[(6,6)]) []++EX (DW<|AZ []++[(6,6)]) [.ref 6 0])=[6]:=rfl;rw[e]at q;simpa[HT,CB,DB,KU,FO,GH]using q;refine⟨by decide,?_⟩;simp[Yl,su,OS,GH,DB,KU,FO,CB];exact Ah ⟨_,rfl,tV<|by rw[z],ab⟩};have V:¬i<l.length:=by{simp at h;omega};rw[Df<|by omega]at y;exact Aw O<|A0 O<|Ah ⟨_,rfl,tV<|by rw[y],ab⟩
def PK (l:L1 Z) (x:Z):L1 Z:=if AR l x=true then l else l++[x]
def gK {x:Z}:∀{l:E2},AR l x=true->GE (Dp l) (.str x) (.bool true)=Dp l
 |[],h=>by simp[AR]at h
 |y::r,h=>by simp only[AR,EJ,an]at h;simp only[Dp,CK,GE,nz];by_cases e:x=y;subst e;simp;have q:=gK (l:=r)<|h.resolve_left λh=>e h.symm;simp only[Dp]at q;simp[e,q]
def gL (l:E2) (x:Z):GE (Dp l) (.str x) (.bool true)=Dp (PK l x):=by unfold PK;cases h:AR l x with|true=>rw[ae O];exact gK h|false=>{rw[ac<|by simp];exact Qn l x h}
def zo4 (m:Md) (z:Bool×L1 Z) (c:Cd):Bool×L1 Z:=(z.1&&!AR z.2 c.name&&(Ej c.args).all (Yf m),PK z.2 c.name)
def wn (m:Md) (i:Nat) (d:Dt) (q:L1 Z):Bool×L1 Z:=d.cons.foldl (zo4 m) (!((m.SA.take i).any λe=>e.name==d.name),q)
def zgu (m:Md) (i:Nat) (d:Dt) (A:E2) (a:m.SA[i]?=some d) (K:∀c∈d.cons,c.args.length<=1000000):ed 223 [.Kp<|.ip 98 (Ux m) 0,i7 i,.cf 1] [(1,some<|.map<|Dp A)]<|.ret (.Kp<|.bool (wn m i d A).1) [(1,some<|.map<|Dp (wn m i d A).2)]:=by have t:=eP a;have M:=Pb (m.SA.take i) 266 [] [.ip 113 (DE d) 0] (λe=>e.name==d.name) λe _=>zbk d e;have u:=λl K=>ZJ m l K;unfold wn;generalize((m.SA.take i).any λe=>e.name==d.name)=o at *;generalize f:Yf m=q at *;have D:zo4 m=λz c=>(z.1&&!AR z.2 c.name&&(Ej c.args).all q,PK z.2 c.name):=by{funext z c;rw[zo4,f]};rw[D];clear D f;obtain⟨v,g,w⟩:=m;obtain⟨d1,C⟩:=d;simp only at K;have J:i<g.length:=(A9.1 a).1;refine Ae ttY_ok func223 O [2,3,4,5,6]<|Aj O<|yi O (c:=DE ⟨d1,C⟩) (λ_=>⟨by simp,by simpa using t,by simp[DE]⟩) (by simp)<|yg [] O (by simp;omega) ?_;simp only[qS]at M;refine Oq O (λ_=>M) O (by simp)<|Aj O ?_;clear M;refine GK (t:=30) O λx=>?_;simp[GA,maxLen]at x;generalize k:(λ(z:Bool×E2) (c:Cd)=>(z.1&&!AR z.2 c.name&&(Ej c.args).all q,PK z.2 c.name))=F at *;have N:∀(o:Bool) (B:E2) (c:Cd),F (o,B) c=(o&&!AR B c.name&&(Ej c.args).all q,PK B c.name):=λo B c=>by{rw[<- k]};clear k;refine Ak (λz:Nat×Bool×E2=>[(32,i7 z.1),(31,i7 C.length),(30,.Kp<|.sl<|C.map Gv),(8,.Kp<|.bool z.2.1),(2,.cf 1),(0,.Kp<|.ip 98 (Ux ⟨v,g,w⟩) 0)]) (λz=>[(1,some<|.map<|Dp z.2.2)]) [4,5,6] (λz=>C.length-z.1) (λz=>z.1<=C.length/\(C.drop z.1).foldl F z.2=C.foldl F (!o,A)) (0,!o,A) ⟨AK _,rfl⟩ ⟨rfl,B2<|by simp,B9⟩ AD O λz E n=>?_;obtain⟨j,b,B⟩:=z;obtain⟨U,y⟩:=E;simp only at U y n;generalize I:C.foldl F (!o,A)=R at *;clear I;refine A0 O<|Aa O (λh=>?_) λh=>?_;have G:j<C.length:=by{simp at h;omega};let⟨c,V⟩:=Aq G;have W:=xY V;have p:=u c.args<|K c<|AE V;have r:=gL B c.name;rw[Av V,M3,N]at y;obtain⟨H,ag⟩:=c;simp only at p y r;generalize(Ej ag).all q=s at *;refine A0 O<|yi O (c:=Gv ⟨H,ag⟩) (λ_=>⟨by simp,by simpa using W,by simp[Gv]⟩) (by simp)<|C3 O<|CR ttY_ok 1 O O O (Da B) (by simp[A1]) (z:=.bool false) O (λ_=>.bool _) (Hi B H)<|C3 O<|Al O p<|C3 O<|Ey ttY_ok O O O (Da B) ?_;rw[r];refine Aj O ?_;exact Ad (n (j+1,b&&!AR B H&&s,PK B H) (by simp only;omega) ⟨by simp only;omega,y⟩) ⟨Bc,rfl,rfl,by cases b<;>cases AR B H<;>cases s<;>rfl,AL⟩ AD O;have G:¬j<C.length:=by{simp at h;omega};rw[Bt<|by omega]at y;simp only[qM]at y;refine Aw O<|A0 O ?_;subst y;exact Ah ⟨_,AB⟩
structure zq5 (m:Md):Prop where
 SA:m.SA.length<=1000
 cc:m.cc.length<=1000
 cons:∀d∈m.SA,d.cons.length<=1000
structure v8 (m:Md):Prop where
 few:zq5 m
 closed:Gh m
 body:∀f∈m.cc,Ax f.body=true/\NY f.body<=100000
def eB:Ee m [t] [(Γ,τ)] S↔Do m t Γ τ S:=by simp only[Ee];constructor;rintro ⟨S1,y,q,rfl,rfl⟩;rw[M1];exact q;intro h;exact⟨S,[],h,rfl,by simp⟩
def tQ (z:Gh m) {f:Fd} (A:f∈m.cc):(Dv f.from_=[]/\CY f.from_=true)/\Dv f.kj=[]/\CY f.kj=true:=by let⟨q,y⟩:=z.1 f A;simp only[By,Dv,D4]at q;simp only[By,CY,GT,Am]at y;simp at q;exact⟨⟨q.1,y.2.1⟩,q.2,y.2.2.1⟩
def zng (m:Md) (f:Fd) (T:L1<|Int×Y) (k:Int) (S:L1 Y):St:=D9 m T k S++[(5,some<|.cells 92 1 [.ref 1 0]),(6,some<|.NA 71 15<|Ed f)]
def zqg (m:Md) (f:Fd) (T:L1<|Int×Y) (k:Int) (S:L1 Y):St:=bU m T k S++[(5,some<|.cells 92 1 [.ref 1 0]),(6,some<|.NA 71 15<|Ed f)]
def zgr {f:Fd} {r:Kd} (h:BO m [(f.il,f.from_)] [f.body] [f.kj] [] 0 [] r) {b:Bool} (U:∀T k S,r=some (T,k,S)->S.length<=1000000/\∃θ,fv (Ck T) θ/\(S.map<|AI θ).all DA=b) (M:r=none->b=false):(b=true->∃T k S,ed 269 [.ref 5 0,.ref 6 0] (zng m f [] 0 [])<|.ret (.Kp<|.cg [])<|zqg m f T k S)/\(b=false->ed 269 [.ref 5 0,.ref 6 0] (zng m f [] 0 []) (.ix Io)):=by obtain⟨f1,f2,⟨d,e,g,i⟩,⟨j,l,n,o⟩,⟨t1,t2,t3,t4,t5⟩⟩:=f;rw[BO]at h;rcases h with⟨q,rfl⟩|⟨⟨V,W,a,c⟩,p,C,D,q,h⟩;have y:=M O;refine⟨λh=>(by rw[y]at h;cases h),λ_=>?_⟩;unfold FT De Et at q;exact Ae ttY_ok func269 O [4,9,10]<|Aj O<|Bu 3 S5 O (by simp) q A4 O O O<|Aj O<|F8 12 (.Kp<|.cg []) O EZ (λx h=>by cases h)<|yg [] rfl (by simp;rfl)<|B7 12 3 O;{rcases h with⟨z,rfl⟩|⟨G,z,h⟩;{have y:=M O;refine⟨λh=>(by rw[y]at h;cases h),λ_=>?_⟩;unfold FT De Et at q;unfold Fj at z;exact Ae ttY_ok func269 O [4,9,10]<|Aj O<|AF (fr:=[4]) S5 [(4,4)] [] (nm:=[1,2,4,1,2,3]) O trivial (by simp) q A4 O trivial rfl O O<|Aj O<|Bp T6 O (by simp) z A4 O O O<|Qa 1 O (by simp;rfl)<|BE 15 O};{simp only[BO]at h;let⟨N,θ,A,H⟩:=U _ _ _ h;unfold FT De Et at q;unfold Eu at z;have R:=QP m G C D A N;have B:=TS m G C D A N;rw[H]at R B;refine⟨λy=>⟨G,C,D,?_⟩,λy=>?_⟩;{have K:=R y;exact Ae ttY_ok func269 O [4,9,10]<|Aj O<|AF (fr:=[4]) S5 [(4,4)] [] (nm:=[1,2,4,1,2,3]) O trivial (by simp) q A4 O trivial rfl O O<|Aj O<|AF (fr:=[]) T6 [] [] (nm:=[1,2,4,1,2,4]) O trivial (by simp) z A4 O trivial rfl O O<|yg [] O (by simp;rfl)<|Ao [] T6 [] O K A4 O O<|Aj O<|Bq ⟨[],MT⟩};{have K:=B y;exact Ae ttY_ok func269 O [4,9,10]<|Aj O<|AF (fr:=[4]) S5 [(4,4)] [] (nm:=[1,2,4,1,2,3]) O trivial (by simp) q A4 O trivial rfl O O<|Aj O<|AF (fr:=[]) T6 [] [] (nm:=[1,2,4,1,2,4]) O trivial (by simp) z A4 O trivial rfl O O<|yg [] O (by simp;rfl)<|Bp T6 O (by simp) K A4 O O O<|Aj O<|BE 17 O}}}
def zgv (A:v8 m) {f:Fd} (H:f∈m.cc):∃r,BO m [(f.il,f.from_)] [f.body] [f.kj] [] 0 [] r/\(∀T k S,r=some (T,k,S)->S.length<=1000000/\∃θ,fv (Ck T) θ/\(S.map<|AI θ).all DA=PU m f)/\(r=none->PU m f=false):=by let⟨⟨K,M⟩,R,U⟩:=tQ A.closed H;let⟨c,o⟩:=A.body f H;have B:kb [(f.il,f.from_)]:=λp C=>by{rw[AJ.1 C];exact⟨K,M⟩};have d:E4 [f.body]=NY f.body:=by{simp[E4]};let⟨r,V,z⟩:=J4 (kO A.closed<|NY f.body) [f.body] [f.kj] [(f.il,f.from_)] [] 0 [] rfl (by omega) (λt g=>by rw[AJ.1 g];exact c) (λu i=>by rw[AJ.1 i];exact⟨U,CW R _⟩) ⟨fZ,λp C=>by rw[AJ.1 C];exact⟨M,CW K _⟩,by simp;omega,by simp;omega,by simp;omega⟩;refine⟨r,V,?_⟩;clear V;have q:∀η,Jh η ([f.kj].map λu=>([(f.il,f.from_)],u))=[([(f.il,f.from_)],f.kj)]:=λη=>by{simp only[Jh,CK,KM];rw[B.ap,Is R U]};refine⟨λT k S e=>?_,λe=>?_⟩;subst e;obtain⟨N,z,W,s,v⟩:=z;simp only[JJ]at W;subst W;obtain⟨θ,y⟩:=z.1.2.1.2.2;refine⟨by omega,θ,y,(zif ?_ λa D=>?_).symm⟩;have:Ee m [f.body] (Jh θ _)<|S.map<|AI θ:=(z.1.2.2.1 θ y.eq).2;rw[q]at this;exact eB.1 this;let⟨G,_,j,b⟩:=z.1.2.2.2 Ay a (λn t h=>nomatch h) (by show Ee m [f.body] (Jh Ay _) a;rw[q];exact eB.2 D);refine⟨G,?_⟩;simp only at b;rw[<- b,Wy];exact Mc λu _=>y.qh j u;subst e;refine zig λS l=>z Ay S (λn t h=>nomatch h) ?_;show Ee m [f.body] (Jh Ay _) S;rw[q];exact eB.2 l
def zk4 (C:v8 m) (i:Nat) (f:Fd) (y:m.cc[i]?=some f):ca 224 [.ip 98 (Ux m) 0,.int .i64 i]<|.bool (!((m.cc.take i).any λe=>e.name==f.name)&&((Ej [f.from_,f.kj]).all (Yf m)&&PU m f)):=by have D:=Rq y;have N:i<m.cc.length:=(A9.1 y).1;have z:=Pa (m.cc.take i) 268 [] [.ip 71 (Ed f) 0] (λe=>e.name==f.name) λe _=>zgs f e;have G:=ZJ m [f.from_,f.kj] (by simp);have R:=IF m 0;let⟨r,H,K,M⟩:=zgv C<|AE y;let⟨U,V⟩:=zgr H K M;clear H K M C;generalize PU m f=B at *;generalize((m.cc.take i).any λe=>e.name==f.name)=o at *;generalize(Ej [f.from_,f.kj]).all (Yf m)=q at *;simp only[qS]at z;obtain⟨p,s,t⟩:=m;obtain⟨f1,f2,⟨W,a,b,c⟩,⟨d,g,j,l⟩,⟨t1,t2,t3,t4,t5⟩⟩:=f;simp only at N;refine Ae ttY_ok func224 O [6,1,2,3,5,4,7,8]<|Aj O<|yi O (c:=Ed ⟨f1,f2,.mk W a b c,.mk d g j l,.mk t1 t2 t3 t4 t5⟩) (λ_=>⟨by simp,by simpa using D,by simp[Ed]⟩) (by simp)<|yg [] O (by simp;omega)<|Oq O (λ_=>z) O (by simp)<|C3 O<|Al O G<|C3 O ?_;clear z G D;refine Aa O (λh=>?_) λh=>?_;refine A0 O ?_;exact Ah ⟨_,rfl,tV (by cases o<;>cases q<;>simp at h ⊢),ab⟩;have e:(!o&&(q&&B))=B:=by{cases o<;>cases q<;>simp at h ⊢};rw[e];clear e h;refine A0 O<|Ao [1,2,3] [] S5 O R ab O O<|Aj O ?_;cases B with|true=>{let⟨T,k,S,n⟩:=U rfl;have A:=Lu func55 (by decide +kernel) O Hm func269 (by decide +kernel) O (df:=[]) (dc:=[.ref 5 0,.ref 6 0]) n;exact Ao [4] j8 [(4,4)] O A gP O O<|Aj O<|Ab O O O}|false=>{have A:=N6 func55 (by decide +kernel) O Hm func269 (by decide +kernel) O (df:=[]) (dc:=[.ref 5 0,.ref 6 0])<|V O;exact Ao [] j8 [] O A gP O O<|Aj O<|Ab O O O}
def zb3 (p:Nat->Bool) (h:i<n):Yr p i (n-i)=if p i then some i else Yr p (i+1)<|n-(i+1):=by rw[show n-i=(n-(i+1))+1 by omega];rfl
def zhg (p:Nat->Bool) (h:n<=i):Yr p i (n-i)=none:=by rw[show n-i=0 by omega];rfl
def zj7 {f:FuncId} {g:Fn} {a v:V} (h:Ji P f [a,.lj g [] []] v):Ji P f [a,.fn g] v:=λI μ w A y z=>h I μ w A y ⟨z.1,λi v d p q=>by
 match i,q with
 |0,q=>cases q;exact z.2 0 v _ p O
 |1,q=>
  cases q;have:=(z.2 1 v _ p O).Ks;cases this;exact .Kp _ _ (.lj _ _ _ _ _ O O (λi c x h=>by simp at h) λi c x h=>by simp at h)
 |i+2,q=>simp at q⟩
def va:Int×Int->V
 |(1,i)=>.iface 148 (.agg [.int .i64 i])
 |(2,i)=>.iface 149 (.agg [.int .i64 i])
 |(3,_)=>.iface 151 (.agg [])
 |_=>.ft
def eM (m:Md):Nat->Nat->L1 Z->Option Nat
 |_,0,_=>none
 |i,n+1,q=>match m.SA[i]? with
  |some d=>if(wn m i d q).1=true then eM m (i+1) n (wn m i d q).2 else some i
  |none=>none
noncomputable def WZ (m:Md) (i:Nat):Bool:=match m.cc[i]? with
 |some f=>!(!((m.cc.take i).any λe=>e.name==f.name)&&((Ej [f.from_,f.kj]).all (Yf m)&&PU m f))
 |none=>false
noncomputable def HL (m:Md) (q:Int):Int×Int :=
 if q=0 then(match eM m 0 m.SA.length []with|some i=>(1,(i:Int))|none=>(0,0))
 else if q=1 then(match Yr (WZ m) 0 m.cc.length with|some i=>(2,(i:Int))|none=>(0,0))
 else if zog m=true then(0,0)else(3,0)
def zjc (m:Md):Prop:=∀d∈m.SA,∀c∈d.cons,c.args.length<=1000000
def za5 (M:zq5 m) (D:zjc m):ca 152 [.ip 98 (Ux m) 0,.int .i64 0]<|va<|HL m 0:=by have b:=M.SA;have N:=λi d B y=>zgu m i d B y λc U=>D d (AE y) c U;have e:HL m 0=(match eM m 0 m.SA.length []with|some i=>(1,(i:Int))|none=>(0,0)):=rfl;rw[e];clear e D;refine Ae ttY_ok func152 O [1,2,3,4]<|Aj O<|Ap O λh=>A0 O<|Es O<|Aj O<|Ak (λz:Nat×E2=>[(18,i7 z.1),(17,i7 m.SA.length),(5,.cf 1),(0,.Kp<|.ip 98 (Ux m) 0)]) (λz=>[(1,some<|.map<|Dp z.2)]) [2,3,4] (λz=>m.SA.length-z.1) (λz=>z.1<=m.SA.length/\eM m z.1 (m.SA.length-z.1) z.2=eM m 0 m.SA.length []) (0,[]) ⟨AK _,rfl⟩ ⟨rfl,B2<|by simp,AL⟩ AD O λz V G=>?_;obtain⟨i,H⟩:=z;obtain⟨C,q⟩:=V;simp only at C q G;generalize eM m 0 m.SA.length []=R at *;refine A0 O<|Aa O (λh=>?_) λh=>?_;have A:i<m.SA.length:=by{simp at h;omega};let⟨d,y⟩:=Aq A;have K:=N i d H y;rw[show m.SA.length-i=(m.SA.length-(i+1))+1 by omega,eM,y]at q;simp only at q;generalize wn m i d H=w at *;obtain⟨W,a⟩:=w;simp only at K q;refine A0 O<|Af O K Az O<|Aj O ?_;cases W with|false=>{refine Ap O λh=>?_;rw[ac<|by simp]at q;rw[<- q];exact A0 O<|Ab O O O}|true=>{refine Ag O λh=>?_;rw[ae O]at q;exact A0 O<|Ad (G (i+1,a) (by simp only;omega) ⟨by simp only;omega,q⟩) ⟨Bc,AB⟩ AD O};have A:¬i<m.SA.length:=by{simp at h;omega};rw[show m.SA.length-i=0 by omega,eM]at q;rw[<- q];exact Aw O<|A0 O<|Ab O O O
def rI (A:v8 m):ca 152 [.ip 98 (Ux m) 0,.int .i64 1]<|va<|HL m 1:=by have C:=λi f z=>zk4 A i f z;have M:=A.few.cc;have e:HL m 1=(match Yr (WZ m) 0 m.cc.length with|some i=>(2,(i:Int))|none=>(0,0)):=rfl;rw[e];clear e A;refine Ae ttY_ok func152 O [1,2,3,4]<|Aj O<|Ag O λh=>A0 O<|Ap O λh=>A0 O<|Ak (λi:Nat=>[(38,i7 i),(37,i7 m.cc.length),(0,.Kp<|.ip 98 (Ux m) 0)]) (λ_=>[]) [1,2,3,4] (λi=>m.cc.length-i) (λi=>i<=m.cc.length/\Yr (WZ m) i (m.cc.length-i)=Yr (WZ m) 0 m.cc.length) 0 ⟨AK _,rfl⟩ ⟨rfl,B2<|by simp,AD⟩ ab O λi D G=>?_;obtain⟨H,q⟩:=D;generalize Yr (WZ m) 0 m.cc.length=R at *;refine A0 O<|Aa O (λh=>?_) λh=>?_;have y:i<m.cc.length:=by{simp at h;omega};let⟨f,z⟩:=Aq y;have K:=C i f z;have B:WZ m i = !(!((m.cc.take i).any λe=>e.name==f.name)&&((Ej [f.from_,f.kj]).all (Yf m)&&PU m f)):=by{rw[WZ,z]};rw[zb3 _ y,B]at q;clear B;generalize(!((m.cc.take i).any λe=>e.name==f.name)&&((Ej [f.from_,f.kj]).all (Yf m)&&PU m f))=o at *;refine A0 O<|Ac O K<|Aj O ?_;cases o with|false=>{refine Ap O λh=>?_;simp only[Bool.not_false,aw]at q;rw[<- q];exact A0 O<|Ab O O O}|true=>{refine Ag O λh=>?_;simp only[Bool.not_true,En,aq]at q;exact A0 O<|Ad (G (i+1) (by omega) ⟨by omega,q⟩) ⟨Bc,AL⟩ ab O};have y:¬i<m.cc.length:=by{simp at h;omega};rw[zhg _<|by omega]at q;rw[<- q];exact Aw O<|A0 O<|Ab O O O
def za3 (m:Md):ca 152 [.ip 98 (Ux m) 0,.int .i64 2]<|va<|HL m 2:=by have q:=zj7<|Pa m.cc 226 [] [] (λe=>e.name==Wm&&CS e.from_==3) λe _=>za4 e;have e:HL m 2=(if zog m=true then(0,0)else(3,0)):=rfl;rw[e];unfold zog;generalize(m.cc.any λe=>e.name==Wm&&CS e.from_==3)=o at *;clear e;refine Ae ttY_ok func152 O [1,2,3,4]<|Aj O<|Ag O λh=>A0 O<|Ag O λh=>A0 O<|Ap O λh=>A0 O<|Ac O q<|Aj O ?_;cases o with|false=>{exact Ap O λh=>A0 O<|Ab O O O}|true=>{exact Ag O λh=>A0 O<|Ab O O O}
structure PSeq where
 t:TypeId
 b:Bool
 g:Option (Bool×Bool)
 ob:List Prop
 dst:Option Nat
 todo:List DI
def zg0:D->Option Bool
 |.Kp .ft=>some true
 |.Kp (.iface _ _)=>some false
 |_=>none
def zm0 (n:Nat) (env:Env) (todo:L1 DI):Option PSeq :=
 match B4 todo ([],[])with
 |some (all,o,q)=>match o.op,CQ all env o with
  |.binOp y t x (.const .nilIface) _,some g=>match Fi env x,Cs n o.dst with
   |some z,true=>match zg0 z,y with
    |some b,.eql=>some ⟨t,b,g,[],o.dst,q⟩
    |some b,.neq=>some ⟨t,!b,g,[],o.dst,q⟩
    |_,_=>none
   |_,_=>none
  |_,_=>none
 |none=>none
def fl:=@eqGuard_nil_constR
def kL {t:TypeId} {x:Operand} {z:Bool} {A:D} (y:P.underlying t=some (.interface<|P.methodsAt t)) (q:zg0 A=some z) (h:X I μ v A):((do eqGuard .eql t x (.const .nilIface) v .nilIface;binOp .eql t v .nilIface:Sem Value).run P w=.ok (.bool z) w)/\((do eqGuard .neq t x (.const .nilIface) v .nilIface;binOp .neq t v .nilIface:Sem Value).run P w=.ok (.bool (!z)) w):=by unfold zg0 at q;split at q;cases q;have:=h.Ks;cases this;rw[fl,fl];exact⟨run_eql_nil_nil w t y,run_neq_nil_nil w t y⟩;cases q;have:=h.Ks;cases this with|iface u v x B=>{exact⟨run_eql_held_nil w t _ _ y,run_neq_held_nil w t _ _ y⟩};cases q
def S7 {t:TypeId} {b:Bool} {dst:g6} {A:S6} (h:zm0 n env todo=some ⟨t,b,g,ob,dst,A⟩) (d:P.underlying t=some (.interface<|P.methodsAt t)) (e:G P n F Q A (Cn dst (gD g<|.Kp<|.bool b) env) st aa):G P n F Q todo env st aa:=by unfold zm0 at h;split at h;rename_i all o q f;split at h;rename_i k l x t2 m z D;split at h;rename_i p i H;split at h;rename_i j N;cases h;refine Cc (fr:=[]) (wr:=[]) (rd:=[]) f (Eo D λI μ R K a w U C y V=>?_) H (λc M=>by rw[z]at M;cases M) e;rw[z]at y;have W:=y x (by simp[Op.operands]) _ i;have B:(execOp a.eval o).run P w=.ok (.value<|.bool b) w:=by{simp only[execOp,z];exact AG (kL d N W).1};rw[B];exact⟨I,μ,C,.Kp _ _<|.bool _,Mu.le_refl μ,fi.refl _ _ _ _⟩;rename_i j N;cases h;refine Cc (fr:=[]) (wr:=[]) (rd:=[]) f (Eo D λI μ R K a w U C y V=>?_) H (λc M=>by rw[z]at M;cases M) e;rw[z]at y;have W:=y x (by simp[Op.operands]) _ i;have B:(execOp a.eval o).run P w=.ok (.value<|.bool (!j)) w:=by{simp only[execOp,z];exact AG (kL d N W).2};rw[B];exact⟨I,μ,C,.Kp _ _<|.bool _,Mu.le_refl μ,fi.refl _ _ _ _⟩;cases h;cases h;cases h;cases h
noncomputable def MA (m:Md):Int×Int:=if(HL m 0).1≠0 then HL m 0 else if(HL m 1).1≠0 then HL m 1 else HL m 2
def bD {p:Int×Int} (h:p.1=0):va p=.ft:=by obtain⟨a,b⟩:=p;simp only at h;subst h;rfl
def Of (m:Md) (j:Nat):(HL m j).1=0\/(∃i,HL m j=(1,i))\/(∃i,HL m j=(2,i))\/HL m j=(3,0):=by unfold HL;split;split;exact .inr<|.inl ⟨_,rfl⟩;exact .inl O;split;split;exact .inr<|.inr<|.inl ⟨_,rfl⟩;exact .inl O;split;exact .inl O;exact .inr<|.inr<|.inr O
def za9 (C:v8 m) (H:zjc m):ca 97 [.agg<|dMdc m]<|va<|MA m:=by have K:=IF m 0;have M:∀j:Nat,j<3->ca 152 [.ip 98 (Ux m) 0,.int .i64 j] (va<|HL m j):=λj A=>by{match j,A with|0,_=>exact za5 C.few H|1,_=>exact rI C|2,_=>{exact za3 m}};have N:=Of m;have U:∀j:Nat,j<3->(∀i:Nat,i<j->(HL m i).1=0)->(HL m j).1≠0->MA m=HL m j:=λj A D z=>by{unfold MA;match j,A with|0,_=>have z:(HL m 0).1≠0:=z;rw[ae z];rfl|1,_=>have z:(HL m 1).1≠0:=z;rw[ac λh=>h<|D 0<|by omega,ae z];rfl|2,_=>{rw[ac λh=>h<|D 0<|by omega,ac λh=>h<|D 1<|by omega];rfl}};have V:(∀i:Nat,i<3->(HL m i).1=0)->va (MA m)=.ft:=λh=>by{unfold MA;rw[ac λG=>G<|h 0<|by omega,ac λG=>G<|h 1<|by omega];exact bD<|h 2<|by omega};clear C H;generalize MA m=R at *;have a:Ux m=dMdc m++[.l8 [],.int .i64 0,.sl []]:=rfl;generalize HL m=lk at *;obtain⟨b,c,d⟩:=m;refine Ae ttY_ok func97 O [4,1,2,3,5]<|Aj O<|Ak (λj:Nat=>[(5,i7 j),(1,.ref 4 0)]) (λ_=>[(4,some<|.NA 43 3<|dMdc ⟨b,c,d⟩)]) [1,2,3,5] (λj=>3-j) (λj=>j<=3/\∀i:Nat,i<j->(lk i).1=0) 0 ⟨by omega,λi h=>by omega⟩ AL AD O λj A f=>?_;obtain⟨g,q⟩:=A;refine A0 O<|Aa O (λh=>?_) λh=>?_;{have y:j<3:=by{simp at h;omega};have W:=M j y;refine A0 O<|Ao [1,2,3] [] S5 O K ab O O<|Aj O<|mE 2 O<|BR 3 O<|IK 9 O O<|A0 O<|Ac O W ?_;have wo:=N j;have B:=U j y q;clear W K M N U V;rcases wo with wo|wo;rw[bD wo];refine Aj O<|S7 O (by kernel_rfl)<|Aj O<|Aa O (λh=>by cases h) λh=>?_;exact A0 O<|Ad (f (j+1) (by omega) ⟨by omega,λi hi=>if e:i=j then(e▸wo)else q i<|by omega⟩) ⟨Bc,AD⟩ AD O;{rcases wo with⟨i,hi⟩|⟨i,hi⟩|hi;all_goals(rw[hi]at B ⊢;rw[B<|by simp];refine Aj O<|S7 O (by kernel_rfl)<|Aj O<|Aa O (λh=>?_) (λh=>by cases h);exact A0 O<|Ab O O O)}};have y:¬j<3:=by{simp at h;omega};obtain rfl:j=3:=by{omega};exact Aw O<|A0 O<|Ah ⟨_,rfl,tV (V q).symm,ab⟩
def zjp (i:Int):ca 341 [.agg [.int .i64 i]] (.cg [.int .i64 1,.int .i64 i])/\ca 342 [.agg [.int .i64 i]] (.cg [.int .i64 2,.int .i64 i])/\ca 343 [.agg []] (.cg [.int .i64 3,.int .i64 0]):=by refine⟨?_,?_,?_⟩;exact Ae ttY_ok func341 O [1,2]<|yg [] O (by simp;rfl)<|Ab O O O;exact Ae ttY_ok func342 O [1,2]<|yg [] O (by simp;rfl)<|Ab O O O;exact Ae ttY_ok func343 O [1,2]<|Aj O<|Ab O O O
def nP (m:Md):(MA m).1=0\/(∃i,MA m=(1,i))\/(∃i,MA m=(2,i))\/MA m=(3,0):=by unfold MA;split;exact Of m 0;split;exact Of m 1;exact Of m 2
def zbn (y:Li m=true->v8 m/\zjc m):ca 35 [.agg<|dMdc m] (if Li m=true then(if(MA m).1=0 then .cg [.int .i64 0,.int .i64 0,Gb 5]else .cg [.int .i64 (MA m).1,.int .i64 (MA m).2,Gb 0])else .cg [.int .i64 0,.int .i64 0,Gb 2]):=by have q:=JZ m;let⟨t1,t2,t3⟩:=zjp (MA m).2;have hc:=nP m;cases z:Li m with|false=>{rw[ac<|by simp];rw[z]at q;clear t1 t2 t3 hc y;obtain⟨C,D,G⟩:=m;exact Ae ttY_ok func35 O [1,2]<|Aj O<|Ac O q<|Aj O<|Ap O λh=>A0 O<|Ab O O O}|true=>{rw[ae O];rw[z]at q;let⟨A,B⟩:=y z;have H:=za9 A B;clear A B y;generalize MA m=R at *;obtain⟨C,D,G⟩:=m;refine Ae ttY_ok func35 O [1,2]<|Aj O<|Ac O q<|Aj O<|Ag O λh=>A0 O<|Ac O H ?_;rcases hc with hc|hc;rw[bD hc,ae hc];refine Aj O<|S7 O (by kernel_rfl)<|Aj O<|Aa O (λh=>?_) (λh=>by cases h);exact A0 O<|Ab O O O;rcases hc with⟨i,rfl⟩|⟨i,rfl⟩|rfl;rw[ac<|by simp];refine Aj O<|S7 O (by kernel_rfl)<|Aj O<|Aa O (λh=>by cases h) λh=>?_;exact A0 O<|eE 341 O (by kernel_rfl) (λ_=>t1) (by simp)<|Aj O<|Ab O O O;rw[ac<|by simp];refine Aj O<|S7 O (by kernel_rfl)<|Aj O<|Aa O (λh=>by cases h) λh=>?_;exact A0 O<|eE 342 O (by kernel_rfl) (λ_=>t2) (by simp)<|Aj O<|Ab O O O;rw[ac<|by simp];refine Aj O<|S7 O (by kernel_rfl)<|Aj O<|Aa O (λh=>by cases h) λh=>?_;exact A0 O<|eE 343 O (by kernel_rfl) (λ_=>t3) (by simp)<|Aj O<|Ab O O O}
def rJ {es:Array MapEntry} {seen:Array Nat} (h:(leftOf es seen).size=0) (y:es[j]?=some e):seen.contains e.born=true:=by have q:leftOf es seen = #[]:=dC h;unfold leftOf at q;rw[zfx]at q;have:=q e<|zfw y;simpa using this
noncomputable def ZH (L:L1 Y):V:=if L.all (AW true)=true then .cg [.sl<|A3 L,Gb 0]else .cg [.sl [],Gb 3]
def sH (a b:Y) (h:(AW true a&&AW true b)=true) (hE:Eu qw [] 0 [] a b T) (hs:fv (Ck T) θ) (hk:∀p∈T,0<=p.1/\p.1<100):ca 13 [.agg<|As a,.agg<|As b]<|ZH<|zde T θ:=by have s:=Hn [a,b];simp only[Em,Ng,P7]at s;rw[h]at s;have hS:=OY;have m:=Lu func55 (by decide +kernel) O Hm func56 (by decide +kernel) O (df:=[]) (dc:=[.ref 4 0,.ref 5 0,.ref 6 0])<|nS hE;obtain⟨a1,a2,a3,a4⟩:=a;obtain⟨b1,b2,b3,b4⟩:=b;refine Ae ttY_ok func13 O [5,6,1,2,3,4,7,8,9,10,11]<|Aj O<|Ac O s<|Aj O<|Ag O λh=>A0 O<|Ao [1,2,3] [] S5 O hS ab O O<|Aj O<|Ao [] [(1,1),(2,2),(3,3),(4,4),(5,5),(6,6)] [] O m ⟨⟨rfl,rfl,rfl⟩,⟨rfl,rfl,rfl⟩,⟨rfl,rfl,rfl⟩,⟨rfl,rfl,rfl⟩,⟨rfl,rfl,rfl⟩,⟨rfl,rfl,rfl⟩,ab⟩ O O ?_;clear m;refine Aj O<|Ag O λh=>J6 2 O λbm es q t U=>A0 O<|lH ttY_ok O<|Aj O ?_;have D:es.size=T.length:=by{simpa using t};refine Ak (λz:Array Nat×Int=>[(27,.iter 7),(8,i7 z.2),(6,.ref 4 0),(7,.NB)]) (λz=>[(4,some<|.cells 92 1 [.ref 1 0]),(1,some<|zD qw 0 2 3 0),(2,some<|.gw (T.map oj) bm es q),(3,some<|.row 25 4 []),(7,some<|.ii bm q z.1 q)]) [8,9,10,11] (λz=>(leftOf es z.1).size) (λz=>((z.2 = -1\/∃p∈T,p.1=z.2)/\-1<=z.2/\z.2<100)/\∀(j:Nat) (e:MapEntry) (p:Int×Y),es[j]?=some e->z.1.contains e.born=true->T[j]?=some p->p.1<=z.2) (#[],-1) ⟨⟨.inl O,by simp,by simp⟩,λj e p _ h=>by simp at h⟩ B9 BA O λz R n=>?_;obtain⟨seen,x⟩:=z;obtain⟨⟨B,V,v⟩,C⟩:=R;simp only at B V v C;refine A0 O<|xL 2 O O (λx hx=>U.1 x hx) (B6 _) (by decide) λz R=>?_;rcases z with _|⟨j,W⟩;rotate_left;obtain⟨H,w⟩:=R;obtain⟨p,G⟩:∃p,T[j]?=some p:=Aq (by rw[<- D];exact(Ht.1 H).1);have c:(T.map oj)[j]?=some (oj p):=by{simp[G]};have hD:Wh (T.map oj) (some (j,W))=.Kp (.cg [.bool true,.int .i64 p.1,.agg<|As p.2]):=by{simp only[Wh,c,oj]};rw[hD];refine A0 O<|Ap O λh=>A0 O<|lI 2 O O O O H c<|Aj O ?_;have E:=left_shrinks es seen W w;have d:=AE G;let⟨k1,k2⟩:=hk p d;refine Ad (n (seen.push W.born,if p.1 > x then p.1 else x) E ⟨⟨?_,?_,?_⟩,λF I p' q1 q2 q3=>?_⟩) B9 BA O;simp only;split;exact .inr ⟨p,d,rfl⟩;exact B;simp only;split<;>omega;simp only;split<;>omega;simp only at q2 ⊢;rw[dq,EJ]at q2;rcases q2 with q2|q2;have:=C F I p' q1 q2 q3;split<;>omega;have hb:I.born=W.born:=by{simpa using q2};have J:F=j:=by{have L:=U.2.1;have P:(es.toList.map (·.born))[F]?=some I.born:=by{simp[q1]};have g2:(es.toList.map (·.born))[j]?=some W.born:=by{simp[H]};rw[hb]at P;exact(qL (A9.1 P).1 L).1 (P.trans g2.symm)};subst J;rw[q3]at G;cases G;split<;>omega;have R:(leftOf es seen).size=0:=R;have Q:oc T=x:=zfk (λp G=>by{let⟨j,o⟩:=H3 G;obtain⟨e,he⟩:∃e,es[j]?=some e:=⟨_,Si (by rw[D];exact(A9.1 o).1)⟩;exact C j e p he (rJ R he) o}) B (λp G=>(hk p G).1) V;clear n C B;obtain⟨N,hN⟩:∃N:Nat,x+1=N:=⟨(x+1).toNat,by omega⟩;have hL:zde T θ=(List.range N).map λi:Nat=>θ i:=by{rw[zde,Q,hN,fy]};rw[hL];have hN1:N<=100:=by{omega};refine A0 O<|Ag O λh=>Aw O<|Ip 2 O<|A0 O<|K9 (e:=25) (sz:=4) 7 8 (by decide) O<|Ak (λj:Nat=>[(37,i7 j),(36,i7 N),(6,.ref 4 0),(7,.own 8 (A3 ((List.range j).map λi:Nat=>θ i)).length)]) (λj=>[(4,some<|.cells 92 1 [.ref 1 0]),(1,some<|zD qw 0 2 3 0),(2,some<|gB T),(3,some<|.row 25 4 []),(8,some<|.row 25 4<|A3 ((List.range j).map λi:Nat=>θ i))]) [9,10,11] (λj=>N-j) (λj=>j<=N/\((List.range j).map λi:Nat=>θ i).all (AW true)=true) 0 ⟨AK _,rfl⟩ ⟨rfl,B2 (by rw[Gi (by omega)<|by omega];exact hN),AL⟩ BA O λj o n=>?_;obtain⟨yz,g⟩:=o;refine A0 O<|Aa O (λh=>?_) λh=>?_;{have K:j<N:=by{simp at h;omega};have m:=jZ j;let⟨S,w2⟩:=Y5 (m:=qw) (k:=0) (S:=[]) hs (t:=Ay j) rfl;rw[Dn]at S w2;have r:=Hn [θ j];simp only[Em,Ng,P7]at r;have y:∀f,AW true (θ j)=f->((List.range N).map λi:Nat=>θ i).all (AW true)=true->f=true:=λf hf h=>by{rw[<- hf];exact Du.1 h _<|CC.2 ⟨j,OW.2 K,rfl⟩};have M:(List.range<|j+1).map (λi:Nat=>θ i)=((List.range j).map λi:Nat=>θ i)++[θ j]:=by{rw[cX,CG];rfl};refine A0 O<|Ac O m<|Aj O ?_;generalize hu:θ (j:Int)=u at S w2 r y M;by_cases k:Fz u<=12;{have hW:=S k;generalize l:AW true u=fo at r;have A:=y fo l;obtain⟨t1,t2,t3,t4⟩:=u;refine AF S5 [] [1,2,3] (fr:=[]) (nm:=[]) O trivial (by simp) hW A4 O F1 O O O<|yg [] O (by simp;rfl)<|Al O r<|C3 O ?_;cases fo with|false=>refine Ap O λh=>A0 O<|Ab O O ?_;rw[ZH,ac λh=>by cases A h];rfl|true=>{refine Ag O λh=>A0 O<|B1 ttY_ok O ⟨by simp,by simp[maxLen];omega,by simp;omega,ab⟩<|Aj O<|AV 8 10 O ?_;have et:A3 ((List.range<|j+1).map λi:Nat=>θ i)=A3 ((List.range j).map λi:Nat=>θ i)++[As<|.mk t1 t2 t3 t4]:=by{rw[M,Ge];rfl};refine Ad (n (j+1) (by omega) ⟨by omega,?_⟩) ⟨Bc,rfl,rfl,by rw[et];rfl,ab⟩ ⟨rfl,rfl,rfl,rfl,by rw[et];rfl,ab⟩ O;rw[M,Ik,g];simpa using l}};{have hW:=w2 (by omega);have l7:AW true u=false:=by{cases hf:AW true u with|false=>rfl|true=>{exact absurd (zb6 hf) k}};have A:=y false l7;refine AF S5 [] [] (fr:=[]) (nm:=[1,2,3]) O trivial (by simp) hW A4 O trivial rfl O O<|yg [] O (by simp[A1];rfl)<|CL (v:=.bool false) O (λhc=>by simp[A1]at hc) (by simp[A1])<|C3 O<|Ap O λh=>A0 O<|Ab O O ?_;rw[ZH,ac λh=>by cases A h];rfl}};have K:j=N:=by{simp at h;omega};subst K;refine Aw O<|BR 8 O<|A0 O<|Ab O O ?_;rw[ZH,ae g];rfl
def pX {op n:Int} {k p:Nat} (h:Bl op n x k p=true):p<=5:=by unfold Bl at h;by_cases z:op=1;rw[ae z]at h;simp[Bs,EK]at h;omega;rw[ac z]at h;by_cases A:op=2;rw[ae A]at h;simp[Bs,EK]at h;omega;rw[ac A]at h;by_cases B:op=3\/op=21\/op=25\/op=28;rw[ae B]at h;simp[Bs,EK]at h;omega;rw[ac B]at h;by_cases C:op=4;rw[ae C]at h;simp[Bs,EK]at h;omega;rw[ac C]at h;by_cases D:op=5\/op=27;rw[ae D]at h;simp[Bs,EK]at h;omega;rw[ac D]at h;by_cases G:op=7;rw[ae G]at h;simp[Bs,EK]at h;omega;rw[ac G]at h;by_cases H:op=8;rw[ae H]at h;simp[Bs,EK]at h;omega;rw[ac H]at h;by_cases K:op=14;rw[ae K]at h;simp[Bs,EK]at h;omega;rw[ac K]at h;by_cases M:op=15;rw[ae M]at h;simp[Bs,EK]at h;omega;rw[ac M]at h;by_cases N:op=16\/op=17\/op=19\/op=20\/op=23\/op=26;rw[ae N]at h;simp[Bs,EK]at h;omega;rw[ac N]at h;by_cases q:op=24;rw[ae q]at h;simp[Bs,EK]at h;omega;rw[ac q]at h;by_cases y:op=6\/op=9\/op=10\/op=11\/op=12\/op=13\/op=18\/op=22;rw[ae y]at h;simp[Bs,EK]at h;omega;rw[ac y]at h;cases h
def Zl:∀{l:E1},l.all CM=true->Ex l<=12*l.length
 |[],_=>by simp[Ex]
 |t::r,h=>by simp only[Em,Am]at h;have q:=h.1;simp only[CM,Am,am]at q;have y:=EF t 12 q.1.1;rw[Wb]at y;have z:=Zl h.2;simp only[Ex,C1];omega
mutual
def uP:∀(t:Tm) (l d:Int),0<=B0 t l d->Ax t=true->(NY t:Int)<=61*(l-B0 t l d)
 |.mk z n x y ps,l,d,h,q=>by simp only[B0]at h ⊢;by_cases e:l<1\/d<1;rw[ae e]at h;omega;rw[ac e]at h ⊢;simp only[Ax,Am]at q;have A:=fS y (l-1) (d-1) h q.2;have B:=pX q.1.1;have C:=Zl q.1.2;simp only[NY];omega
def fS:∀(ts:G1) (l d:Int),0<=Cf ts l d->Bb ts=true->(E4 ts:Int)<=61*(l-Cf ts l d)
 |[],l,d,h,_=>by simp[E4,Cf]
 |t::r,l,d,h,q=>by simp only[Cf]at h ⊢;by_cases e:0<=l;rw[ae e]at h ⊢;simp only[Bb,Am]at q;have y:0<=B0 t l d:=by{by_cases z:0<=B0 t l d;exact z;have:=(Kf r (B0 t l d) d (HV t l d).1).2;omega};have A:=uP t l d y q.1;have B:=fS r (B0 t l d) d h q.2;simp only[E4];omega;rw[ac e]at h;omega
end
def YM (h:Cy t=true):Ax t=true/\NY t<=100000:=by simp only[Cy,Am,am]at h;have q:=uP t 60 14 h.1 h.2;exact⟨h.2,by omega⟩
def Ve {t:Y} (h:FF t=true):Dv t=[]/\CY t=true:=by simp only[FF,Am]at h;have:=I6 t h.2;exact⟨this.2.2 O,this.1⟩
def zfl (h:E7 m=true):v8 m/\zjc m:=by simp only[E7,Am,am,EK]at h;obtain⟨⟨⟨⟨V,W⟩,a⟩,D⟩,G⟩:=h;have A:∀f∈m.cc,S8 f=true:=Du.1 G;have H:∀d∈m.SA,KB d=true:=Du.1 D;have B:∀d∈m.SA,d.cons.length<=5/\∀c∈d.cons,Rr c=true:=λd q=>by{have:=H d q;simp only[KB,Am,am,EK]at this;exact⟨by omega,Du.1 this.2⟩};have C:∀d∈m.SA,∀c∈d.cons,c.args.length<=3/\∀t∈c.args,FF t=true:=λd q c y=>by{have:=(B d q).2 c y;simp only[Rr,Am,am]at this;exact⟨by omega,Du.1 this.2⟩};refine⟨⟨⟨by omega,by omega,λd q=>by have:=(B d q).1;omega⟩,⟨λf z=>?_,λd q c y t K=>Ve<|(C d q c y).2 t K⟩,λf z=>?_⟩,λd q c y=>by have:=(C d q c y).1;omega⟩;have:=A f z;simp only[S8,Am]at this;let⟨M,N⟩:=Ve this.1.1.2;let⟨R,U⟩:=Ve this.1.2;exact⟨by simp[By,Dv,D4,M,R],by simp[By,CY,GT,N,U]⟩;have:=A f z;simp only[S8,Am]at this;exact YM this.2
mutual
def unF:Y->Y
 |.mk f n x ps=>.mk (if f=10 then 9 else f) n x<|zjl ps
def zjl:L1 Y->L1 Y
 |[]=>[]
 |t::r=>unF t::zjl r
end
mutual
def qF {a8 L:K2}:∀t:Y,CY t=true->Fv a8 L t=unF (AI (λh=>Ay (FI a8 (L.idxOf h):Nat)) t)
 |.mk f n x ps,y=>by by_cases q:f=9;have z:=Fp y (by simp[CS,q]);simp only[Ay,num,Y.mk.injEq]at z;rw[z.2.2.1,z.2.2.2,Fv,AI,ae q,ae q,q];rfl;simp only[CY,Am]at y;rw[Fv,AI,ac q,ac q,unF,wO ps y.2]
def wO {a8 L:K2}:∀l:E1,GT l=true->FP a8 L l=zjl (Dq (λh=>Ay (FI a8 (L.idxOf h):Nat)) l)
 |[],_=>rfl
 |t::r,q=>by simp only[GT,Am]at q;rw[FP,Dq,zjl,qF t q.1,wO r q.2]
end
def zkr {a8:K2} {T q:Y} {η':Int->Y} (B:CY T=true) (z:CY q=true) (C:AI η T=q) (D:AI η' q=T):Fv a8 (D5 T []) T=Fv a8 (D5 q []) q:=by
 have G:AI (λn=>if n∈Dv T then η n else Ay n) T=q:=by
  rw[<- C];exact Gg T λn A=>ae A
 have y:=zaj B (λn=>by
  by_cases A:n∈Dv T
  ·rw[ae A];exact zc8 T (by rw[C];exact z) n A
  ·rw[ac A];simp[Ay,CY,GT]) G D (wK a8 T)<|wK a8 q
 simp only[zod]at y;rw[qF T B,qF q z,y]
def zgo {D:At} (M:kb Γ) (q:kb D) (a8:K2) {j:Tm} {V:j0} (h:Ct m Γ t 0 (λ_=>none) r) (K:Ct m D j 0 (λ_=>none) V) (W:∀(τ:Y) (b:Bool),Hw b m t Γ τ↔Hw b m j D τ):JL a8 r=JL a8 V:=by cases r with|none=>{cases V with|none=>rfl|some z=>{obtain⟨τ,k,σ,N⟩:=z;obtain⟨θ,a⟩:=K.1.2.1.2.2;obtain⟨S,c,_⟩:=(W _ _).2 ⟨_,(Lr q K a).1,rfl⟩;exact absurd c (sR M h _ _)}}|some w=>{obtain⟨R,kA,u,v⟩:=w;obtain⟨G,A⟩:=h.1.2.1.2.2;have d:=Lr M h A;cases V with|none=>obtain⟨S,c,_⟩:=(W _ _).1 ⟨_,d.1,rfl⟩;exact absurd c (sR q K _ _)|some z=>{obtain⟨U,kB,E,F⟩:=z;obtain⟨H,B⟩:=K.1.2.1.2.2;have l:=Lr q K B;have I:CY (AI G R)=true:=Vh (λn=>A.ny n) _ h.2.1;have J:CY (AI H U)=true:=Vh (λn=>B.ny n) _ K.2.1;simp only[JL,Ps A,Ps B];generalize AI G R=e at *;generalize AI H U=L at *;generalize v.map (AI G)=o at *;generalize F.map (AI H)=p at *;obtain⟨S1,P,Q⟩:=(W _ _).2 ⟨_,l.1,rfl⟩;obtain⟨S2,T,p4⟩:=(W _ _).1 ⟨_,d.1,rfl⟩;let⟨η,i1,i2⟩:=d.2 _ _ P;let⟨f,j1,j2⟩:=l.2 _ _ T;have C:∀(η:Int->Y) (S:E1),S.all DA=true->(S.map<|AI η).all DA=true:=λη S h=>by{simp only[Du]at h ⊢;intro x hx;obtain⟨y,hy,rfl⟩:=CC.1 hx;exact pK<|h y hy};have g:o.all DA=p.all DA:=by{rw[Ga];constructor;intro h;rw[<- Q,<- i2];exact C η o h;intro h;rw[<- p4,<- j2];exact C f p h};have s:=zkr (a8:=a8) I J i1 j1;have i:Fz e=Fz L:=by{rw[<- qG (a8:=a8) (L:=D5 e []) e,s,qG]};rw[g];simp only[Nx,s,i]}}
mutual
def Z3 {a8 L:K2}:∀t:Y,DN false (Fv a8 L t)=true->Fv a8 L t=t/\G6 t=t
 |.mk f n x ps,h=>by have q:f≠9/\f≠10:=by{have y:=(I6 _ h).2.2 O;constructor;intro e;simp[Fv,e,Dv]at y;intro e;simp[Fv,e,Dv]at y};rw[Fv,ac q.1,ac q.2]at h ⊢;have z:DG false (FP a8 L ps)=true:=by{simp only[DN,Am]at h;first|exact h.2|exact h.1.2|exact h.1};let⟨A,B⟩:=Wn ps z;rw[G6,ac q.1,A,B];exact⟨rfl,rfl⟩
def Wn {a8 L:K2}:∀l:E1,DG false (FP a8 L l)=true->FP a8 L l=l/\M7 l=l
 |[],_=>⟨rfl,rfl⟩
 |t::r,h=>by simp only[FP,DG,Am]at h;let⟨q,y⟩:=Z3 t h.1;let⟨z,A⟩:=Wn r h.2;rw[FP,M7,q,y,z,A];exact⟨rfl,rfl⟩
end
def zic (G:kb Γ) {a8:K2} (h:Ct m Γ t 0 (λ_=>none) r) {k:Y} (q:JL a8 r=.cg [.agg<|As k,Gb 0]) (D:FF k=true):∀(τ:Y) (b:Bool),Hw b m t Γ τ↔some (G6 k)=some τ/\b=true:=by cases r with|none=>simp[JL,Gb]at q|some z=>{obtain⟨τ,i,j,N⟩:=z;obtain⟨θ,A⟩:=h.1.2.1.2.2;have K:=Lr G h A;simp only[JL,Ps A]at q;generalize AI θ τ=T at *;generalize N.map (AI θ)=S at *;by_cases B:S.all DA=true;(case neg=>rw[ac B]at q;simp[Gb]at q);rw[ae B,Nx]at q;by_cases C:Fz T<=12;(case neg=>rw[ac C]at q;simp[Gb]at q);rw[ae C]at q;by_cases M:AW true (Fv a8 (D5 T []) T)=true;(case neg=>rw[ac M]at q;simp[Gb]at q);rw[ae M]at q;simp only[V.cg.injEq,Cr,V.agg.injEq,be]at q;have q:=Ro q;subst q;simp only[FF,Am]at D;let⟨H,R⟩:=Z3 T D.2;have U:Dv T=[]:=by{rw[<- H];exact(I6 _ D.2).2.2 O};rw[H,R];intro W b;constructor;rintro ⟨l,a,rfl⟩;let⟨η,c,d⟩:=K.2 _ _ a;have:AI η T=T:=Is U (by rw[<- H];exact(I6 _ D.2).1) η;refine⟨by rw[<- c,this],?_⟩;rw[<- d];simp only[Du]at B ⊢;intro x e;obtain⟨y,f,rfl⟩:=CC.1 e;exact pK<|B y f;rintro ⟨g,rfl⟩;cases g;exact⟨S,K.1,B⟩}
def Yk (c:UInt8):Bool:=97<=c&&c<=122
def zg7 (c:UInt8):Bool:=65<=c&&c<=90
def Rm (c:UInt8):Bool:=48<=c&&c<=57
def Ya (p:UInt8->Bool):Z->Nat
 |[]=>0
 |c::r=>if p c=true then Ya p r+1 else 0
def Jo (s:Z) (q:Nat) (d:Bool):Nat:=Ya (if d=true then Rm else Yk)<|s.drop q
def lh:L1 Z:=[[61,62],[61,61],[45,62],[61],[60],[43],[45],[42],[40],[41],[123],[125],[124],[44],[59],[58],[95],[63]]
def OM (t:Z):L1 Z->Z
 |[]=>[]
 |x::r=>if x.length<=t.length/\t.take x.length=x then x else OM t r
def YS (s:Z) (q:Nat):Z:=OM (s.drop q) lh
structure iw where
 kind:Int
 text:Z
 n:Int
 at_:Int
def NL (t:iw):L1 V:=[.int .i64 t.kind,.str t.text,.int .i64 t.n,.int .i64 t.at_]
def aP (s:Z) (a n:Nat):Z:=(s.drop a).take n
def Zx (s:Z) (q:Nat):Option iw :=
 if Yk (s.getD q 0)=true then
  some ⟨if WD (aP s q<|Jo s q false)=true then 3 else if(aP s q<|Jo s q false).length<=8 then 1 else 0,aP s q<|Jo s q false,0,q⟩
 else if zg7 (s.getD q 0)=true then
  some ⟨if(aP s q<|1+Jo s (q+1) false).length<=8 then 2 else 0,aP s q<|1+Jo s (q+1) false,0,q⟩
 else if Rm (s.getD q 0)=true then(if Jo s q true=1 then some ⟨4,aP s q 1,((s.getD q 0).toNat:Int)-48,q⟩else none)
 else if s.getD q 0=126 then none
 else some ⟨if YS s q=[]then 0 else 5,YS s q,0,q⟩
def X7 (c:UInt8):Bool:=c=32||c=9||c=10
def G3 (s:Z) (q:Nat):Nat:=q+Ya X7 (s.drop q)
def KW:Nat->Z->Nat->Option (L1 iw)
 |0,_,_=>none
 |f+1,s,a=>if s.length<=a then some []else if s.getD a 0=47 then none else match Zx s a with
  |some t=>if t.kind=0 then none else match KW f s (G3 s<|a+t.text.length)with
   |some l=>some (t::l)
   |none=>none
  |none=>none
def Bh (l:L1 iw) (a:Nat) (s:Z):Bool:=match l[a]? with
 |some t=>(t.kind==5||t.kind==3)&&t.text==s
 |none=>false
def PJ (l:L1 iw) (a:Nat) (k:Int):Bool:=match l[a]? with
 |some t=>t.kind==k
 |none=>false
def Dy (l:L1 iw) (a:Nat):Z:=match l[a]? with
 |some t=>t.text
 |none=>[]
def nAt (l:L1 iw) (a:Nat):Int:=match l[a]? with
 |some t=>t.n
 |none=>0
def Gy (s:Z):Int×Int :=
 if s=[99,101,108,108]then(16,1)else if s=[103,101,116]then(17,1)else if s=[112,117,116]then(18,2)
 else if s=[115,112,97,119,110]then(19,1)else if s=[106,111,105,110]then(20,1)else if s=[99,104,97,110]then(21,0)
 else if s=[115,101,110,100]then(22,2)else if s=[116,97,107,101]then(23,1)else if s=[111,117,116]then(24,-1)
 else if s=[105,110,112,117,116]then(25,0)else if s=[114,101,115,101,116]then(26,1)else if s=[112,97,117,115,101]then(28,0)else(0,0)
def sv:Z:=[116,114,117,101]
def lP:Z:=[102,97,108,115,101]
def wp:Z:=[109,97,116,99,104]
def R2 (l:L1 iw) (a:Nat):Bool:=match l[a]? with
 |some t=>if t.kind=3 then(decide ((Gy t.text).1≠0)||t.text==sv||t.text==lP||t.text==wp)else(decide (t.kind≠5)||t.text==[40])
 |none=>false
def zjn (op:Int) (a b:Tm):Tm:=.mk op 0 [] [a,b] []
def after (l:L1 iw) (a:Nat) (s:Z) {α:Type} (r:Option α):Option α:=if Bh l a s=true then r else none
def U6 (l:L1 iw) (a:Nat) (s:L1 Z) {α:Type} (r:Option α):Option α:=if s.any (Bh l a)=true then none else r
mutual
def El (l:L1 iw):Nat->Nat->Option (Tm×Nat)
 |0,_=>none
 |f+1,a=>
  if Bh l a [102,117,110]=true then
   (if PJ l (a+1) 1=true then after l (a+2) [61,62] ((El l f<|a+3).map λr=>(.mk 5 0 (Dy l<|a+1) [r.1] [],r.2))else none)
  else U6 l a [[115,104,105,102,116]] (if Bh l a [108,101,116]=true then
   (if PJ l (a+1) 1=true then after l (a+2) [61] ((El l f<|a+3).bind λr=>after l r.2 [105,110]<|(El l f<|r.2+1).map λu=>(.mk 7 0 (Dy l<|a+1) [r.1,u.1] [],u.2))else none)
  else if Bh l a [105,102]=true then
   (El l f<|a+1).bind λr=>after l r.2 [116,104,101,110]<|(El l f<|r.2+1).bind λu=>after l u.2 [101,108,115,101]<|(El l f<|u.2+1).map λv=>(.mk 8 0 [] [r.1,u.1,v.1] [],v.2)
  else(pP l f a).bind λr=>if Bh l r.2 [60]=true then(pP l f<|r.2+1).map (λu=>(zjn 12 r.1 u.1,u.2))else U6 l r.2 [[61,61]]<|some r)
def pP (l:L1 iw):Nat->Nat->Option (Tm×Nat)
 |0,_=>none
 |f+1,a=>(pR l f a).bind λr=>T9 l f r.1 r.2
def T9 (l:L1 iw):Nat->Tm->Nat->Option (Tm×Nat)
 |0,_,_=>none
 |f+1,t,a=>U6 l a [[42]] (if Bh l a [43]=true then(pR l f<|a+1).bind λr=>T9 l f (zjn 9 t r.1) r.2 else U6 l a [[45]]<|some (t,a))
def pR (l:L1 iw):Nat->Nat->Option (Tm×Nat)
 |0,_=>none
 |f+1,a=>(VX l f a).bind λr=>iN l f r.1 r.2
def iN (l:L1 iw):Nat->Tm->Nat->Option (Tm×Nat)
 |0,_,_=>none
 |f+1,t,a=>if R2 l a=true then(VX l f a).bind λr=>iN l f (zjn 6 t r.1) r.2 else some (t,a)
def VX (l:L1 iw):Nat->Nat->Option (Tm×Nat)
 |0,_=>none
 |f+1,a=>
  if PJ l a 4=true then some (.mk 1 (nAt l a) [] [] [],a+1)
  else if PJ l a 1=true then some (.mk 4 0 (Dy l a) [] [],a+1)
  else if PJ l a 2=true then
   if Bh l (a+1) [40]=true then(P1 l f (-1)<|a+1).map λr=>(.mk 14 0 (Dy l a) r.1 [],r.2)
   else some (.mk 14 0 (Dy l a) [] [],a+1)
  else U6 l a [sv,lP] (if Bh l a wp=true then cS l f<|a+1
  else if Bh l a [40]=true then
   U6 l (a+1) [[41]] ((El l f<|a+1).bind λr=>after l r.2 [41]<|some (r.1,r.2+1))
  else if PJ l a 3=true then wG l f a
  else none)
def wG (l:L1 iw):Nat->Nat->Option (Tm×Nat)
 |0,_=>none
 |f+1,a=>
  if(Gy<|Dy l a).1=0 then none
  else if 0<(Gy<|Dy l a).2 then(P1 l f (Gy<|Dy l a).2 (a+1)).map λr=>(.mk (Gy<|Dy l a).1 0 [] r.1 [],r.2)
  else if(Gy<|Dy l a).2<0 then
   after l (a+1) [40] (if PJ l (a+2) 4=true then after l (a+3) [44] ((El l f<|a+4).bind λr=>after l r.2 [41]<|some (.mk (Gy<|Dy l a).1 (nAt l<|a+2) [] [r.1] [],r.2+1))else none)
  else some (.mk (Gy<|Dy l a).1 0 [] [] [],a+1)
def P1 (l:L1 iw):Nat->Int->Nat->Option (L1 Tm×Nat)
 |0,_,_=>none
 |f+1,n,a=>after l a [40]<|(El l f<|a+1).bind λr=>Q3 l f n [r.1] r.2
def Q3 (l:L1 iw):Nat->Int->L1 Tm->Nat->Option (L1 Tm×Nat)
 |0,_,_,_=>none
 |f+1,n,q,a=>
  if(n<0/\Bh l a [44]=true)\/(q.length:Int)<n then after l a [44]<|(El l f<|a+1).bind λr=>Q3 l f n (q++[r.1]) r.2
  else after l a [41]<|some (q,a+1)
def cS (l:L1 iw):Nat->Nat->Option (Tm×Nat)
 |0,_=>none
 |f+1,a=>(El l f a).bind λr=>after l r.2 [123]<|Q5 l f [] [r.1]<|r.2+1
def Q5 (l:L1 iw):Nat->L1 Y->L1 Tm->Nat->Option (Tm×Nat)
 |0,_,_,_=>none
 |f+1,ps,q,a=>(pQ l f a).bind λr=>after l r.2 [45,62] ((El l f<|r.2+1).bind λu=>
   if Bh l u.2 [124]=true then Q5 l f (ps++[r.1]) (q++[u.1]) (u.2+1)else after l u.2 [125]<|some (.mk 15 0 [] (q++[u.1])<|ps++[r.1],u.2+1))
def pQ (l:L1 iw):Nat->Nat->Option (Y×Nat)
 |0,_=>none
 |f+1,a=>U6 l a [[95]] (
  if PJ l a 1=true then some (.mk 2 0 (Dy l a) [],a+1)
  else if PJ l a 4=true then none else U6 l a [sv,lP,[40]] (if PJ l a 2=true then
   if Bh l (a+1) [40]=true then(RS l f []<|a+2).map λr=>(.mk 6 0 (Dy l a) r.1,r.2)
   else some (.mk 6 0 (Dy l a) [],a+1)
  else none))
def RS (l:L1 iw):Nat->L1 Y->Nat->Option (L1 Y×Nat)
 |0,_,_=>none
 |f+1,ps,a=>(pQ l f a).bind λr=>if Bh l r.2 [44]=true then RS l f (ps++[r.1]) (r.2+1)else after l r.2 [41]<|some (ps++[r.1],r.2+1)
end
def Q4 (l:L1 iw) (a:Nat):Option<|Y×Nat:=U6 l (a+1) [[45,62]] (
 if Bh l a [105,110,116]=true then some (.mk 1 0 [] [],a+1)
 else if Bh l a [98,111,111,108]=true then some (.mk 2 0 [] [],a+1)
 else if Bh l a [117,110,105,116]=true then some (.mk 3 0 [] [],a+1)
 else U6 l a [[99,101,108,108],[99,104,97,110],[116,97,115,107],[63],[40]] (if PJ l a 2=true then some (.mk 8 0 (Dy l a) [],a+1)else none))
def Zr (l:L1 iw):Nat->L1 Y->Nat->Option (L1 Y×Nat)
 |0,_,_=>none
 |f+1,q,a=>(Q4 l a).bind λr=>if Bh l r.2 [44]=true then Zr l f (q++[r.1]) (r.2+1)else after l r.2 [41]<|some (q++[r.1],r.2+1)
def Zq (l:L1 iw):Nat->L1 Cd->Nat->Option (L1 Cd×Nat)
 |0,_,_=>none
 |f+1,q,a=>if PJ l a 2=true then
   ((if Bh l (a+1) [40]=true then Zr l f [] (a+2)else some ([],a+1))).bind λr=>
    if Bh l r.2 [124]=true then Zq l f (q++[⟨Dy l a,r.1⟩]) (r.2+1)else after l r.2 [59]<|some (q++[⟨Dy l a,r.1⟩],r.2+1)
  else none
def wF (l:L1 iw) (f:Nat) (a:Nat):Option<|Dt×Nat:=if PJ l a 2=true then after l (a+1) [61] ((Zq l f []<|a+2).map λr=>(⟨Dy l a,r.1⟩,r.2))else none
def zka (l:L1 iw) (f:Nat) (a:Nat):Option (Fd×Nat) :=
 if PJ l a 1=true then after l (a+1) [40] (if PJ l (a+2) 1=true then after l (a+3) [58] ((Q4 l<|a+4).bind λr=>after l r.2 [41] (after l (r.2+1) [58] ((Q4 l<|r.2+2).bind λu=>
  after l u.2 [61] ((El l f<|u.2+1).bind λv=>after l v.2 [59]<|some (⟨Dy l a,Dy l<|a+2,r.1,u.1,v.1⟩,v.2+1)))))else none)else none
def RT (l:L1 iw):Nat->L1 Dt->Nat->Option (L1 Dt×Nat)
 |0,_,_=>none
 |f+1,q,a=>if Bh l a [116,121,112,101]=true then(wF l f<|a+1).bind λr=>RT l f (q++[r.1]) r.2 else some (q,a)
def Zp (l:L1 iw):Nat->L1 Fd->Nat->Option (L1 Fd×Nat)
 |0,_,_=>none
 |f+1,q,a=>if Bh l a [102,117,110]=true then(zka l f<|a+1).bind λr=>Zp l f (q++[r.1]) r.2 else some (q,a)
def cR (l:L1 iw) (f:Nat):Option<|Md×Nat:=after l 0 [109,111,100,117,108,101] (if PJ l 1 1=true then after l 2 [123] ((RT l f [] 3).bind λr=>(Zp l f [] r.2).bind λu=>after l u.2 [125]<|some (⟨Dy l 1,r.1,u.1⟩,u.2+1))else none)
def zoi {β:Type} (a b:L1<|Nat×β) (t:Nat):lk (a++b) t=(match lk a t with|some x=>some x|none=>lk b t):=by induction a with|nil=>rfl|cons p r q=>{simp only[DV,lk];split<;>simp_all}
def dv.me {a b:TT} (q:dv P a) (y:dv P b):dv P<|a++b:=λt ti h=>by{rw[zoi]at h;cases e:lk a t with|some x=>rw[e]at h;cases h;exact q t _ e|none=>{rw[e]at h;exact y t _ h}}
def pu:TT:=XV++[
 (238,⟨.ptr 279,false,1,8,[.Kp .jc]⟩),
 (283,⟨.struct [(0,281),(1,9),(2,3),(3,3)],true,4,40,[.Kp<|.int .i64 0,.Kp<|.str [],.Kp<|.int .i64 0,.Kp<|.int .i64 0]⟩),
 (275,⟨.sl 283,false,1,24,[.NB]⟩),
 (279,⟨.struct [(0,275),(1,3),(2,4)],true,3,40,[.NB,.Kp<|.int .i64 0,.Kp<|.bool false]⟩),
 (281,⟨.int .i64,false,1,8,[.Kp<|.int .i64 0]⟩),
 (73,⟨.sl 9,false,1,24,[.NB]⟩)]
def AQ:dv prog pu:=dv.me ttY_ok<|.of_eq (l:=[238,283,275,279,281,73]) (by kernel_rfl)
section
variable {k:S6}
def jd (q:S0) (h:run pu n 300 q todo env st aa []=.at k y au Kr ob) (z:A8 ob) (A:cx n F Q k y au Kr):ia n F Q todo env st aa:=JS AQ mixed 300 q h z A
def AA (h:run pu n 300 [] todo env st aa []=.at k y au Kr ob) (z:cx n F Q k y au Kr) (q:A8 ob:=by simp):ia n F Q todo env st aa:=jd [] h q z
def kI (h:run pu n 300 [] todo env st aa []=.at k y au Kr ob) (z:cx n F Q k y au Kr) (q:A8 ob:=by simp[A1]):ia n F Q todo env st aa:=jd [] h q z
def jg (q:S0) (h:run pu n 300 q todo env st aa []=.at k y au Kr ob) (z:A8 ob) (A:cx n F Q k y au Kr):cx n F Q todo env st aa:=Jf AQ mixed 300 q h z A
def Au (h:run pu n 300 [] todo env st aa []=.at k y au Kr ob) (z:cx n F Q k y au Kr) (q:A8 ob:=by simp):cx n F Q todo env st aa:=jg [] h q z
def OG (h:run pu n 300 [] todo env st aa []=.at k y au Kr ob) (z:cx n F Q k y au Kr) (q:A8 ob:=by simp[A1]):cx n F Q todo env st aa:=jg [] h q z
def jgf (f:Nat) (h:run pu n f [] todo env st aa []=.at k y au Kr ob) (q:A8 ob) (z:cx n F Q k y au Kr):cx n F Q todo env st aa:=Jf AQ mixed f [] h q z
def ji {m:Int} {e:TypeId} {t:Nat} (h:FY pu n env todo=some ⟨es,m,sz,e,g,ob,some t,q⟩) (z:A1 g->0<=m/\es[m.toNat]?=some c/\c.length=sz) (y:A8 ob) (A:cx n F Q q ((t,gD g<|.ip e c 0)::env) st aa):cx n F Q todo env st aa:=H9 AQ h z y A
def sw {e:TypeId} {t:Nat} (h:FY pu n env todo=some ⟨es,(i:Int),sz,e,g,ob,some t,q⟩) (z:es[i]?=some c) (A:cx n F Q q ((t,gD g<|.ip e c 0)::env) st aa) (B:c.length=sz:=by simp) (y:A8 ob:=by simp):cx n F Q todo env st aa:=ji h (λ_=>⟨by omega,by simpa using z,B⟩) y A
def zoq {e:TypeId} {t:Nat} (h:FY pu n env todo=some ⟨es,(i:Int),sz,e,g,ob,some t,q⟩) (z:es[i]?=some c) (A:cx n F Q q ((t,gD g<|.ip e c 0)::env) st aa) (B:c.length=sz:=by simp) (y:A8 ob:=by simp[A1]):cx n F Q todo env st aa:=ji h (λ_=>⟨by omega,by simpa using z,B⟩) y A
end
def ZE (c:UInt8):ca 309 [.int .u8 c.toNat]<|.bool<|Yk c:=by refine Ae AQ func309 O [1,2]<|OG O<|Ab O O (af _ ?_);simp[Yk,ar];norm_cast
def zbx (c:UInt8):ca 311 [.int .u8 c.toNat]<|.bool<|zg7 c:=by refine Ae AQ func311 O [1,2]<|OG O<|Ab O O (af _ ?_);simp[zg7,ar];norm_cast
def mC (c:UInt8):ca 312 [.int .u8 c.toNat]<|.bool<|Rm c:=by refine Ae AQ func312 O [1,2]<|OG O<|Ab O O (af _ ?_);simp[Rm,ar];norm_cast
def zM {d:Bool} {c:UInt8} (h:s[a]?=some c):Jo s a d=if(if d=true then Rm c else Yk c)=true then Jo s (a+1) d+1 else 0:=by unfold Jo;rw[Av h,Ya];cases d<;>rfl
def zd5 {d:Bool} (h:s.length<=a):Jo s a d=0:=by unfold Jo;rw[Bt h];rfl
def uY (s:Z) (a:Nat) (d:Bool):Jo s a d<=s.length-a:=by have h:∀(p:UInt8->Bool) (l:Z),Ya p l<=l.length:=λp l=>by{induction l with|nil=>simp[Ya]|cons c r q=>{simp only[Ya];split<;>simp<;>omega}};have:=h (if d=true then Rm else Yk)<|s.drop a;rw[JI]at this;exact this
theorem bZ (s:Z) (a:Nat) (d:Bool) (D:a<=s.length) (R:s.length<=1000000):ca 310 [.str s,.int .i64 a,.bool d]<|.int .i64<|Jo s a d:=by refine Ae AQ func310 O [1,2]<|Au O<|Ak (λn:Nat=>[(7,i7 n),(0,.Kp<|.str s),(1,i7 a),(2,.Kp<|.bool d)]) (λ_=>[]) [1,2] (λn=>s.length-n) (λn=>a<=n/\n<=s.length/\Jo s a d=n-a+Jo s n d) a ⟨B6 _,D,by omega⟩ B9 ab O λn G C=>?_;obtain⟨H,K,y⟩:=G;have M:=mC<|s[n]?.getD 0;have N:=ZE<|s[n]?.getD 0;by_cases z:n<s.length;{let⟨c,q⟩:=Aq z;have B:s[n]?.getD 0=c:=by{rw[q];rfl};have A:∀o,(if d=true then Rm c else Yk c)=o->Jo s a d=if o=true then(n+1-a)+Jo s (n+1) d else n-a:=λo h=>by{rw[y,zM q,h];split<;>omega};rw[<- B]at A;refine jd [] O (by simp[A1];omega) ?_;cases d with|true=>{refine Al O M<|OG O<|CL (v:=.bool false) O (λq=>by simp[A1]at q) (by simp[A1])<|jg [] O (by simp[A1];grind) ?_;have:=A _ O;simp only[aw]at this;generalize Rm (s[n]?.getD 0)=o at *;cases o with|true=>{refine Aa O (λh=>?_) (λh=>by simp[z]at h);exact AA O<|Ad (C (n+1) (by omega) ⟨by omega,by omega,by simpa using this⟩) ⟨Bc,AB⟩ ab O}|false=>{exact Ag O λh=>Aw O<|AA O<|Ah ⟨_,rfl,tV<|af _ (by rw[this];simp;rw[Gi (by omega)<|by omega];omega),ab⟩}}|false=>{refine CL (v:=.bool false) O (λq=>by simp[A1]at q) (by simp[A1])<|OG O<|Al O N<|OG O ?_;have:=A _ O;simp only[En,aq]at this;generalize Yk (s[n]?.getD 0)=o at *;cases o with|true=>{refine Aa O (λh=>?_) (λh=>by simp[z]at h);exact AA O<|Ad (C (n+1) (by omega) ⟨by omega,by omega,by simpa using this⟩) ⟨Bc,AB⟩ ab O}|false=>{exact Ag O λh=>Aw O<|AA O<|Ah ⟨_,rfl,tV<|af _ (by rw[this];simp;rw[Gi (by omega)<|by omega];omega),ab⟩}}};rw[zd5 (a:=n)<|by omega]at y;exact jd [] O (by simp[A1];omega)<|CL (v:=.bool false) O (λq=>by simp[A1]at q;omega) (by simp[A1])<|jg [] O (by simp[A1];omega)<|CL (v:=.bool false) O (λq=>by simp[A1]at q;omega) (by simp[A1])<|jg [] O (by simp[A1];omega)<|Ag O λh=>Aw O<|AA O<|Ah ⟨_,rfl,tV<|af _ (by rw[y,Gi (by omega)<|by omega];omega),ab⟩
def zdy:ca 320 []<|.sl<|BP lh:=by exact Ae AQ func320 O [1]<|Au O<|Ab O O O
def oK {t:Z} {l:E2} (h:l[i]?=some x):OM t (l.drop i)=if x.length<=t.length/\t.take x.length=x then x else OM t<|l.drop<|i+1:=by rw[Av h,OM]
def zjx (s:Z) (a:Nat) (b:a<=s.length) (c:s.length<=1000000):ca 315 [.str s,.int .i64 a]<|.str<|YS s a:=by have M:=zdy;have z:∀x∈lh,x.length<=2:=by{decide};have N:lh.length<=18:=by{decide};unfold YS;generalize lh=l at *;refine Ae AQ func315 O [1]<|Au O<|Ac O M<|Au O<|Ak (λi:Nat=>[(6,i7 i),(5,.Kp<|.sl<|BP l),(0,.Kp<|.str s),(1,i7 a)]) (λ_=>[]) [1] (λi=>l.length-i) (λi=>i<=l.length/\OM (s.drop a) l=OM (s.drop a) (l.drop i)) 0 ⟨AK _,rfl⟩ B9 ab O λi R U=>?_;obtain⟨V,q⟩:=R;refine AA O<|Aa O (λh=>?_) λh=>?_;have y:i<l.length:=by{simp at h;omega};let⟨x,C⟩:=Aq y;have B:=Gf C;have W:=z x<|AE C;rw[oK C]at q;refine AA O<|sw O B<|OG O<|zoq O B ?_;have D:IntKind.i64.wrap ((s.length:Int)-a)=s.length-a:=Gi (by omega) (by omega);have G:IntKind.i64.wrap ((a:Int)+x.length)=a+x.length:=Gi (by omega) (by omega);refine jg [] O (by simp[A1,D,G];omega)<|zoq O B<|jg [] O (by simp[A1];kernel_rfl) ?_;have H:(x.length<=(s.drop a).length/\(s.drop a).take x.length=x)↔((x.length:Int)<=s.length-a/\(s.drop a).take (a+x.length-a)=x):=by{rw[JI,zf0];refine and_congr ?_ cm;omega};have A:((a:Int)+(x.length:Int)).toNat=a+x.length:=by{omega};refine Aa O (λh=>?_) λh=>?_;rw[D,G,A]at h;rw[ae<|H.2<|by simpa[and_comm]using h]at q;exact AA O<|sw O B<|Au O<|Ah ⟨_,rfl,tV<|af _ q.symm,ab⟩;rw[D,G,A]at h;rw[ac (λK=>by have:=H.1 K;simp[this]at h;exact h K.2)]at q;exact AA O<|Ad (U (i+1) (by omega) ⟨by omega,q⟩) ⟨Bc,AB⟩ ab O;have y:l.length<=i:=by{simp at h;omega};rw[Bt y]at q;exact Aw O<|AA O<|Ah ⟨_,rfl,tV<|af _ q.symm,ab⟩
def mD {c:UInt8} (h:Rm c=true):48<=c.toNat/\c.toNat<=57:=by simp only[Rm,Am,am,ar]at h;exact h
def kK (s:Z) (a:Nat) (G:a<s.length) (y:s.length<=1000000) (z:Rm (s.getD a 0)=true) (A:Jo s a true=1):ca 313 [.str s,.int .i64 a]<|.int .i64 1:=by have q:=bZ s a true (by omega) y;let⟨B,C⟩:=mD z;have D:s[a]?.getD 0=s.getD a 0:=by{simp};rw[<- D]at B C;rw[A]at q;refine Ae AQ func313 O [1]<|jg [] O (by simp;omega)<|Aa O (λh=>by simp at h;omega) λh=>?_;exact AA O<|Ac O q<|jg [] O (by simp[A1];omega)<|Ag O λh=>AA O<|Ah ⟨_,rfl,tV (by simp;rfl),ab⟩
def pW (c:UInt8) (q:Rm c=true):ca 314 [.str [c]]<|.int .i64<|(c.toNat:Int)-48:=by let⟨y,z⟩:=mD q;have A:IntKind.i64.wrap (IntKind.i64.wrap 0+IntKind.i64.wrap (IntKind.u8.wrap<|(c.toNat:Int)-48))=(c.toNat:Int)-48:=by{obtain⟨k,D,e⟩:∃k:Nat,k<10/\c.toNat=48+k:=⟨c.toNat-48,by omega,by omega⟩;rw[e];clear e y z q;revert k;decide};refine Ae AQ func314 O [1]<|Au O<|Aa O (λh=>by simp at h;omega) λh=>?_;refine AA O<|Ak (λi:Nat=>[(4,i7 i),(3,i7<|(if i=0 then 0 else(c.toNat:Int)-48)),(0,.Kp<|.str [c])]) (λ_=>[]) [1] (λi=>1-i) (λi=>i<=1) 0 (AK _) AB ab O λi G B=>?_;rcases Nat.lt_or_ge i 1 with C|hge;obtain rfl:i=0:=by{omega};exact AA O<|Ap O λh=>AA O<|Ad (B 1 (by omega)<|B6 _) ⟨B2 O,B2 (by simp;exact A),AD⟩ ab O;obtain rfl:i=1:=by{omega};exact AA O<|Ag O λh=>Aw O<|AA O<|Ah ⟨_,rfl,tV<|by simp,ab⟩
def oG {c:UInt8} (h:s[a]?=some c):G3 s a=if X7 c=true then G3 s (a+1)else a:=by unfold G3;rw[Av h,Ya];split<;>omega
def zE (h:s.length<=a):G3 s a=a:=by unfold G3;rw[Bt h];rfl
def uZ (p:UInt8->Bool):∀l:Z,Ya p l<=l.length
 |[]=>B6 _
 |c::r=>by have:=uZ p r;simp only[Ya];split<;>simp<;>omega
def gC (s:Z) (a:Nat) (h:a<=s.length):a<=G3 s a/\G3 s a<=s.length:=by unfold G3;have:=uZ X7<|s.drop a;rw[JI]at this;omega
def nB (c:UInt8):(bif (bif (c.toNat:Int)==32 then true else(c.toNat:Int)==9)then true else(c.toNat:Int)==10)=X7 c:=by have e:∀k:UInt8,(decide (c=k))=((c.toNat:Int)==(k.toNat:Int)):=λk=>by{rw[Ga,dl,an,cW,UInt8.toNat_inj]};unfold X7;rw[e 32,e 9,e 10];show _=((c.toNat:Int)==32||(c.toNat:Int)==9||(c.toNat:Int)==10);cases((c.toNat:Int)==32)<;>cases((c.toNat:Int)==9)<;>rfl
def V5 (s:Z) (a:Nat) (M:a<=s.length) (V:s.length<=1000000) (D:s.getD (G3 s a) 0≠47):ca 299 [.str s,.int .i64 a]<|.int .i64<|G3 s a:=by refine Ae AQ func299 O [1]<|Au O<|Ak (λn:Nat=>[(1,i7 n),(0,.Kp<|.str s)]) (λ_=>[]) [1] (λn=>s.length-n) (λn=>n<=s.length/\G3 s a=G3 s n) a ⟨M,rfl⟩ AL ab O λn N R=>?_;obtain⟨U,q⟩:=N;refine AA O<|Aa O (λh=>?_) λh=>?_;have B:n<s.length:=by{simp at h;omega};let⟨c,z⟩:=Aq B;have A:s.getD n 0=c:=by{simp[z]};have y:=oG z;refine jd [] O (by simp[A1];omega)<|Aa O (λh=>?_) λh=>?_;have h:(bif (bif ((s.getD n 0).toNat:Int)==32 then true else((s.getD n 0).toNat:Int)==9)then true else((s.getD n 0).toNat:Int)==10)=true:=h;rw[nB,A]at h;rw[ae h]at y;exact AA O<|Ad (R (n+1) (by omega) ⟨by omega,by rw[q,y]⟩) ⟨Bc,AD⟩ ab O;have h:(bif (bif ((s.getD n 0).toNat:Int)==32 then true else((s.getD n 0).toNat:Int)==9)then true else((s.getD n 0).toNat:Int)==10)=false:=h;rw[nB,A]at h;rw[ac (by rw[h];simp)]at y;rw[q,y,A]at D;have G:IntKind.i64.wrap ((s.length:Int)-n)=s.length-n:=Gi (by omega) (by omega);have H:IntKind.i64.wrap ((n:Int)+2)=n+2:=Gi (by omega) (by omega);refine jd [] O (by simp[A1,G,H];omega)<|Aa O (λh=>?_) λh=>?_;exfalso;rw[G,H,show((n:Int)+2).toNat-(n:Int).toNat=2 by omega,show(n:Int).toNat=n from rfl,Av z]at h;have K:((c::s.drop (n+1)).take 2==[47,47])=true:=by{cases e:(decide ((s.length:Int)-n>=2))with|false=>rw[e]at h;cases h|true=>{rw[e]at h;exact h}};simp at K;exact D K.1;exact AA O<|Ah ⟨_,rfl,tV<|by rw[q,y],ab⟩;have C:s.length<=n:=by{simp at h;omega};rw[zE C]at q;exact Aw O<|AA O<|Ah ⟨_,rfl,tV<|by rw[q],ab⟩
def zkk (s:Z) (a:Nat) (t:iw) (d:a<s.length) (G:s.length<=1000000) (h:Zx s a=some t):ca 300 [.str s,.int .i64 a]<|.agg<|NL t:=by{have z:=ZE<|s.getD a 0;have C:=zbx<|s.getD a 0;have H:=mC<|s.getD a 0;unfold Zx at h;by_cases A:Yk (s.getD a 0)=true;rw[ae A]at h;rw[A]at z;have K:=bZ s a false (by omega) G;have M:=uY s a false;have g:=zi8<|aP s a<|Jo s a false;generalize Jo s a false=r at *;have q:IntKind.i64.wrap ((a:Int)+r)=a+r:=Gi (by omega) (by omega);have D:(s.drop (a:Int).toNat).take ((IntKind.i64.wrap<|(a:Int)+r).toNat-(a:Int).toNat)=aP s a r:=by{rw[q,show((a:Int)+r).toNat-(a:Int).toNat=r by omega];rfl};have N:(aP s a r).length=r:=by{rw[aP,HR,JI];omega};refine Ae AQ func300 O [1,2,3]<|jg [] O (by simp;omega)<|Ac O z<|Au O<|Ap O λh=>AA O<|Ac O K<|jg [] O (by simp[q];omega) ?_;rw[D];generalize aP s a r=x at *;refine Ac O g<|Au O ?_;generalize WD x=o at *;cases o with|true=>{rw[ae O]at h;cases h;exact Ap O λh=>AA O<|Ab O O O}|false=>{rw[ac<|by simp]at h;cases h;refine Ag O λh=>AA O<|Aa O (λh=>?_) λh=>?_;rw[ae (by simp at h;omega)];exact AA O<|Ab O O O;rw[ac (by simp at h;omega)];exact AA O<|Ab O O O};have A:Yk (s.getD a 0)=false:=by{simpa using A};rw[ac (by rw[A];simp)]at h;rw[A]at z;by_cases B:zg7 (s.getD a 0)=true;rw[ae B]at h;rw[B]at C;have K:=bZ s (a+1) false (by omega) G;have M:=uY s (a+1) false;have R:IntKind.i64.wrap ((a:Int)+1)=((a+1:Nat):Int):=by{rw[Gi (by omega)<|by omega];omega};generalize Jo s (a+1) false=r at *;have q:IntKind.i64.wrap (((a+1:Nat):Int)+r)=a+(1+r):=by{rw[Gi (by omega)<|by omega];omega};have D:(s.drop (a:Int).toNat).take ((IntKind.i64.wrap<|((a+1:Nat):Int)+r).toNat-(a:Int).toNat)=aP s a (1+r):=by{rw[q,show((a:Int)+(1+r)).toNat-(a:Int).toNat=1+r by omega];rfl};have N:(aP s a<|1+r).length=1+r:=by{rw[aP,HR,JI];omega};cases h;refine Ae AQ func300 O [1,2,3]<|jg [] O (by simp;omega)<|Ac O z<|Au O<|Ag O λh=>jd [] O (by simp;omega)<|Ac O C<|Au O<|Ap O λh=>AA O ?_;rw[R];refine Ac O K<|jg [] O (by rw[q];simp;omega) ?_;rw[D];generalize aP s a (1+r)=x at *;refine Aa O (λh=>?_) λh=>?_;rw[ae (by simp at h;omega)];exact AA O<|Ab O O O;rw[ac (by simp at h;omega)];exact AA O<|Ab O O O;have B:zg7 (s.getD a 0)=false:=by{simpa using B};rw[ac (by rw[B];simp)]at h;rw[B]at C;by_cases y:Rm (s.getD a 0)=true;rw[ae y]at h;rw[y]at H;by_cases U:Jo s a true=1;rw[ae U]at h;cases h;have i:=kK s a d G y U;have j:=pW (s.getD a 0) y;have q:IntKind.i64.wrap ((a:Int)+1)=a+1:=Gi (by omega) (by omega);have D:(s.drop (a:Int).toNat).take ((IntKind.i64.wrap<|(a:Int)+1).toNat-(a:Int).toNat)=aP s a 1:=by{rw[q,show((a:Int)+1).toNat-(a:Int).toNat=1 by omega];rfl};have V:aP s a 1=[s.getD a 0]:=by{let⟨c,f⟩:=Aq d;rw[aP,Av f];simp[f]};refine Ae AQ func300 O [1,2,3]<|jg [] O (by simp;omega)<|Ac O z<|Au O<|Ag O λh=>jd [] O (by simp;omega)<|Ac O C<|Au O<|Ag O λh=>jd [] O (by simp;omega)<|Ac O H<|OG O<|Ap O λh=>AA O<|Ac O i<|Au O<|Ap O λh=>jd [] O (by simp[q];omega) ?_;rw[D,V];exact Ac O j<|jg [] O (by simp;kernel_rfl)<|Ab O O O;rw[ac U]at h;cases h;have y:Rm (s.getD a 0)=false:=by{simpa using y};rw[ac (by rw[y];simp)]at h;rw[y]at H;by_cases W:s.getD a 0=126;rw[ae W]at h;cases h;rw[ac W]at h;cases h;have k:=zjx s a (by omega) G;have b:((s.getD a 0).toNat:Int)≠126:=λe=>W<|UInt8.toNat_inj.1<|cW.1 (e:_=((126:UInt8).toNat:Int));generalize YS s a=x at *;refine Ae AQ func300 O [1,2,3]<|jg [] O (by simp;omega)<|Ac O z<|Au O<|Ag O λh=>jd [] O (by simp;omega)<|Ac O C<|Au O<|Ag O λh=>jd [] O (by simp;omega)<|Ac O H<|jg [] O (by simp[A1];omega)<|Aa O (λh=>by exfalso;simp at h b;omega) λh=>?_;refine AA O<|Ac O k<|Au O<|Aa O (λh=>?_) λh=>?_;rw[ac<|by simpa using h];exact AA O<|Ab O O O;rw[ae<|by simpa using h];exact AA O<|Ab O O O} @[simp] theorem sx (t:iw):(NL t).length=4:=rfl
abbrev S4:=L1 iw
def zo5 (l:S4):∀c∈l.map NL,c.length=4:=λc q=>by obtain⟨x,_,rfl⟩:=CC.1 q;rfl
def zam {t:iw} (A:a<s.length) (h:Zx s a=some t) (B:t.kind≠0):a+t.text.length<=s.length:=by have q:∀n,(aP s a n).length<=s.length-a:=λn=>by{rw[aP,HR,JI];omega};have z:∀(u:Z) (l:E2),(OM u l).length<=u.length:=λu l=>by{induction l with|nil=>simp[OM]|cons x r C=>{rw[OM];split<;>omega}};have y:=z (s.drop a) lh;rw[JI]at y;have y:(YS s a).length<=s.length-a:=y;unfold Zx at h;split at h;cases h;have:=q<|Jo s a false;simp only;omega;split at h;cases h;have:=q<|1+Jo s (a+1) false;simp only;omega;split at h;split at h;cases h;have:=q 1;simp only;omega;cases h;split at h;cases h;cases h;simp only;omega
def zmi (s:Z) (l:S4) (N:s.length<=1000000) (f:Nat) (u:f<=1000000) (h:KW f s (G3 s 0)=some l):ca 277 [.str s]<|.cg [.sl<|l.map NL,.int .i64 s.length]:=by have B:∀f a l,KW f s a=some l->s.getD a 0≠47:=λf a l h=>by{cases f with|zero=>cases h|succ f=>{rw[KW]at h;by_cases e:s.length<=a;simp[M4 e];rw[ac e]at h;intro y;rw[ae y]at h;cases h}};have C:=V5 s 0 (AK _) N<|B _ _ _ h;have R:=gC s 0<|AK _;refine Ae AQ func277 O [1,2,3,4]<|Au O<|Ac O C<|Au O<|K9 (e:=283) (sz:=4) 4 1 (by decide) O ?_;generalize G3 s 0=g at *;clear C;refine Ak (λz:Nat×Nat×S4=>[(5,i7 z.2.1),(4,.own 1 (z.2.2.map NL).length),(0,.Kp<|.str s)]) (λz=>[(1,some<|.row 283 4<|z.2.2.map NL)]) [2,3,4] (λz=>z.1) (λz=>z.2.1<=s.length/\z.2.2.length+z.1=f/\∃r,KW z.1 s z.2.1=some r/\z.2.2++r=l) (f,g,[]) ⟨R.2,by simp,l,h,rfl⟩ AB AD O λz i W=>?_;obtain⟨f,a,A⟩:=z;obtain⟨j,k,r,q,K⟩:=i;simp only at j k q K W;refine AA O<|Aa O (λh=>?_) λh=>?_;have D:a<s.length:=by{simp at h;omega};cases f with|zero=>cases q|succ f=>{rw[KW,ac<|by omega]at q;by_cases b:s.getD a 0=47;rw[ae b]at q;cases q;rw[ac b]at q;cases M:Zx s a with|none=>rw[M]at q;cases q|some t=>{rw[M]at q;simp only at q;by_cases y:t.kind=0;rw[ae y]at q;cases q;rw[ac y]at q;cases G:KW f s (G3 s<|a+t.text.length)with|none=>rw[G]at q;cases q|some m=>{rw[G]at q;cases q;have n:=zkk s a t D N M;have U:=zam D M y;have c:=V5 s (a+t.text.length) U N<|B _ _ _ G;have H:=gC s (a+t.text.length) U;obtain⟨t1,t2,t3,t4⟩:=t;simp only at y U c H G;generalize G3 s (a+t2.length)=o at *;refine AA O<|Ac O n<|Au O<|Aa O (λh=>by exfalso;simp at h;exact y h) λh=>?_;refine AA O<|B1 AQ O ⟨by simp,by simp[maxLen];omega,by simp;omega,ab⟩ ?_;have w:IntKind.i64.wrap ((a:Int)+t2.length)=((a+t2.length:Nat):Int):=by{rw[Gi (by omega)<|by omega];omega};refine Au O ?_;rw[w];refine Ac O c<|Au O<|AV 1 3 O ?_;have d:(A++[(⟨t1,t2,t3,t4⟩:iw)]).map NL=A.map NL++[NL ⟨t1,t2,t3,t4⟩]:=by{simp};exact Ad (W (f,o,A++[⟨t1,t2,t3,t4⟩]) (CN _) ⟨H.2,by simp only[Bo,C1,Cj];omega,m,G,by rw[CV];exact K⟩) ⟨rfl,by rw[d];rfl,AD⟩ ⟨by rw[d];rfl,ab⟩ O}}};have V:s.length<=a:=by{simp at h;omega};have p:r=[]:=by{cases f with|zero=>cases q|succ f=>{rw[KW,ae V]at q;cases q;rfl}};subst p;rw[M1]at K;subst K;exact Aw O<|BR 1 O<|AA O<|Ab O O O
def zcw (s:Z) (l:S4) (z:s.length<=8000) (f:Nat) (q:f<=1000000) (h:KW f s (G3 s 0)=some l):ca 236 [.str s]<|.cg [.sl<|l.map NL,.int .i64 0]:=by have y:=zmi s l (by omega) f q h;refine Ae AQ func236 O [1,2]<|Au O<|Aa O (λh=>by simp at h;omega) λh=>?_;exact AA O<|Ac O y<|Au O<|Ag O λh=>AA O<|Ab O O O
def pw (l:L1 iw) (a:Nat):fp:=.NA 279 3 [.sl<|l.map NL,.int .i64 a,.bool false]
def IS (l:L1 iw) (a:Nat):St:=[(1,some<|pw l a)]
def vL (s:Z) (l:S4) (q:s.length<=8000) (f:Nat) (y:f<=1000000) (h:KW f s (G3 s 0)=some l):ed 170 [.Kp<|.str s] []<|.ret (.cg [.ref 1 0,i7 0])<|IS l 0:=by have z:=zcw s l q f y h;exact Ae AQ func170 O [1,2]<|Au O<|Ac O z<|Au O<|Ah ⟨_,AB⟩
def L4 {l:S4} {t:iw} (h:l[i]?=some t):(l.map NL)[i]?=some (NL t):=by simp[h]
def Qo (l:S4) (a:Nat) (x:Z):ed 279 [.ref 1 0,.Kp<|.str x] (IS l a)<|.ret (.Kp<|.bool<|Bh l a x)<|IS l a:=by refine Ae AQ func279 O [2,3]<|jg [] O (by simp[A1];kernel_rfl) ?_;unfold Bh;cases h:l[a]? with|none=>{have q:l.length<=a:=Ni.1 h;refine Aa O (λh=>?_) (λh=>by simp at h;omega);exact AA O<|Ah ⟨_,AB⟩}|some t=>{have y:=(A9.1 h).1;have z:=L4 h;refine Aa O (λh=>by simp at h;omega) λh=>?_;obtain⟨t1,t2,t3,t4⟩:=t;refine AA O<|sw O z<|jg [] O (by simp;kernel_rfl)<|Ah ⟨_,rfl,?_,AD⟩;show Qe (Kl [D.Kp<|V.bool<|bif (bif t1==5 then true else t1==3)then t2==x else false])<|D.Kp<|V.bool<|(t1==5||t1==3)&&t2==x;cases(t1==5)<;>cases(t1==3)<;>rfl}
def DR {l:S4} (z:l.length<=10000) (h:Bh l a x=true):ed 239 [.ref 1 0,.Kp<|.str x] (IS l a)<|.ret (.Kp<|.bool true)<|IS l<|a+1:=by have q:=Qo l a x;rw[h]at q;have y:a<l.length:=by{cases e:l[a]? with|none=>rw[Bh,e]at h;cases h|some t=>{exact(A9.1 e).1}};have w:IntKind.i64.wrap ((a:Int)+1)=((a+1:Nat):Int):=by{rw[Gi (by omega)<|by omega];omega};refine Ae AQ func239 O [2,3]<|Au O<|Af O q Az O<|Au O<|Ap O λh=>AA O ?_;rw[w];exact Ah ⟨_,AB⟩
def Bz {l:S4} (h:Bh l a x=false):ed 239 [.ref 1 0,.Kp<|.str x] (IS l a)<|.ret (.Kp<|.bool false)<|IS l a:=by have q:=Qo l a x;rw[h]at q;exact Ae AQ func239 O [2,3]<|Au O<|Af O q Az O<|Au O<|Ag O λh=>AA O<|Ah ⟨_,AB⟩
def BV {l:S4} (q:l.length<=10000) (h:Bh l a x=true):ed 237 [.ref 1 0,.Kp<|.str x] (IS l a)<|.ret (.Kp<|.cg [])<|IS l<|a+1:=by have y:=DR q h;exact Ae AQ func237 O [2,3]<|Au O<|Af O y Az O<|Au O<|Ag O λh=>AA O<|Bq ⟨[],AB⟩
def Nz (l:S4) (a:Nat) (k:Int):ed 278 [.ref 1 0,i7 k] (IS l a)<|.ret (.Kp<|.bool<|PJ l a k)<|IS l a:=by refine Ae AQ func278 O [2,3]<|OG O ?_;unfold PJ;cases h:l[a]? with|none=>have q:l.length<=a:=Ni.1 h;refine ji O (c:=[.int .i64 0,.str [],.int .i64 0,.int .i64 0]) (λy=>by simp[A1]at y;omega) (by simp[A1])<|jg [] O (by simp[A1];kernel_rfl)<|Ah ⟨_,rfl,?_,AD⟩;rw[show decide ((a:Int)<((l.map NL).length:Int))=false from ap (by simp;omega)];rfl|some t=>{have z:=(A9.1 h).1;have A:=L4 h;obtain⟨t1,t2,t3,t4⟩:=t;refine zoq O A<|jg [] O (by simp[A1];kernel_rfl)<|Ah ⟨_,rfl,?_,AD⟩;rw[show decide ((a:Int)<((l.map NL).length:Int))=true from bg (by simp;omega)];rfl}
def EO {l:S4} (C:l.length<=10000) {t:iw} (q:l[a]?=some t) (z:t.kind=k):ed 238 [.ref 1 0,i7 k] (IS l a)<|.ret (.Kp<|.agg<|NL t)<|IS l<|a+1:=by have y:=Nz l a k;rw[PJ,q]at y;simp only[z,beq_self_eq_true]at y;have A:=(A9.1 q).1;have B:=L4 q;have w:IntKind.i64.wrap ((a:Int)+1)=((a+1:Nat):Int):=by{rw[Gi (by omega)<|by omega];omega};obtain⟨t1,t2,t3,t4⟩:=t;refine Ae AQ func238 O [2,3,4]<|Au O<|Af O y Az O<|Au O<|Ag O λh=>AA O<|sw O B<|jg [] O (by simp;kernel_rfl) ?_;rw[w];exact Ah ⟨_,AB⟩
def Y6 (l:S4):ed 172 [.ref 1 0] (IS l l.length)<|.ret (.Kp<|.bool true)<|IS l l.length:=by refine Ae AQ func172 O [2,3]<|jg [] O (by simp[A1];kernel_rfl)<|Ah ⟨_,rfl,?_,AD⟩;rw[show((l.length:Int)==((l.map NL).length:Int))=true by simp];rfl
def Fw {l:S4} (h:PJ l a k=true):∃t,l[a]?=some t/\t.kind=k/\Dy l a=t.text/\nAt l a=t.n:=by unfold PJ at h;unfold Dy nAt;cases e:l[a]? with|none=>rw[e]at h;cases h|some t=>{rw[e]at h;exact⟨t,rfl,by simpa using h,rfl,rfl⟩}
def Bg {l:S4} {r:Option α} {v:α} (h:after l a s r=some v):Bh l a s=true/\r=some v:=by unfold after at h;split at h;{exact⟨by assumption,h⟩};cases h
def Fc {l:S4} {s:E2} {r:Option α} {v:α} (h:U6 l a s r=some v):(∀x∈s,Bh l a x=false)/\r=some v:=by unfold U6 at h;split at h;cases h;rename_i q;refine⟨λx y=>?_,h⟩;cases e:Bh l a x with|false=>rfl|true=>{exact absurd (Fb.2 ⟨x,y,e⟩) q}
def aU (s:Z):ca 324 [.str s]<|.cg [.int .i64 (Gy s).1,.int .i64 (Gy s).2]:=by unfold Gy;refine Ae AQ func324 O [1]<|Au O ?_;by_cases q:s=[99,101,108,108];rw[ae q];subst q;exact Ap O λh=>AA O<|Ab O O O;rw[ac q];refine Aa O (λh=>by exfalso;simp at h;exact q h) λh=>?_;refine AA O ?_;by_cases y:s=[103,101,116];rw[ae y];subst y;exact Ap O λh=>AA O<|Ab O O O;rw[ac y];refine Aa O (λh=>by exfalso;simp at h;exact y h) λh=>?_;refine AA O ?_;by_cases z:s=[112,117,116];rw[ae z];subst z;exact Ap O λh=>AA O<|Ab O O O;rw[ac z];refine Aa O (λh=>by exfalso;simp at h;exact z h) λh=>?_;refine AA O ?_;by_cases A:s=[115,112,97,119,110];rw[ae A];subst A;exact Ap O λh=>AA O<|Ab O O O;rw[ac A];refine Aa O (λh=>by exfalso;simp at h;exact A h) λh=>?_;refine AA O ?_;by_cases B:s=[106,111,105,110];rw[ae B];subst B;exact Ap O λh=>AA O<|Ab O O O;rw[ac B];refine Aa O (λh=>by exfalso;simp at h;exact B h) λh=>?_;refine AA O ?_;by_cases C:s=[99,104,97,110];rw[ae C];subst C;exact Ap O λh=>AA O<|Ab O O O;rw[ac C];refine Aa O (λh=>by exfalso;simp at h;exact C h) λh=>?_;refine AA O ?_;by_cases D:s=[115,101,110,100];rw[ae D];subst D;exact Ap O λh=>AA O<|Ab O O O;rw[ac D];refine Aa O (λh=>by exfalso;simp at h;exact D h) λh=>?_;refine AA O ?_;by_cases G:s=[116,97,107,101];rw[ae G];subst G;exact Ap O λh=>AA O<|Ab O O O;rw[ac G];refine Aa O (λh=>by exfalso;simp at h;exact G h) λh=>?_;refine AA O ?_;by_cases H:s=[111,117,116];rw[ae H];subst H;exact Ap O λh=>AA O<|Ab O O O;rw[ac H];refine Aa O (λh=>by exfalso;simp at h;exact H h) λh=>?_;refine AA O ?_;by_cases K:s=[105,110,112,117,116];rw[ae K];subst K;exact Ap O λh=>AA O<|Ab O O O;rw[ac K];refine Aa O (λh=>by exfalso;simp at h;exact K h) λh=>?_;refine AA O ?_;by_cases M:s=[114,101,115,101,116];rw[ae M];subst M;exact Ap O λh=>AA O<|Ab O O O;rw[ac M];refine Aa O (λh=>by exfalso;simp at h;exact M h) λh=>?_;refine AA O ?_;by_cases N:s=[112,97,117,115,101];rw[ae N];subst N;exact Ap O λh=>AA O<|Ab O O O;rw[ac N];refine Aa O (λh=>by exfalso;simp at h;exact N h) λh=>?_;exact AA O<|Ab O O O
def zcu (l:S4) (a:Nat):ed 318 [.ref 1 0] (IS l a)<|.ret (.Kp<|.bool<|R2 l a)<|IS l a:=by refine Ae AQ func318 O [2,3]<|jg [] O (by simp[A1];kernel_rfl) ?_;unfold R2;cases h:l[a]? with|none=>{have z:l.length<=a:=Ni.1 h;refine Aa O (λh=>?_) (λh=>by simp at h;omega);exact AA O<|Ah ⟨_,AB⟩}|some t=>{have A:=(A9.1 h).1;have B:=L4 h;obtain⟨t1,t2,t3,t4⟩:=t;have C:=aU t2;simp only;generalize Gy t2=c at *;obtain⟨q,G⟩:=c;refine Aa O (λh=>by simp at h;omega) λh=>?_;refine AA O<|sw O B<|jg [] O (by simp;kernel_rfl) ?_;by_cases y:t1=3;subst y;rw[ae O];refine Ap O λh=>AA O<|Ac O C<|OG O<|Ah ⟨_,rfl,?_,AD⟩;show Qe (Kl [D.Kp<|V.bool<|bif (bif (bif !(q==0)then true else t2==sv)then true else t2==lP)then true else t2==wp]) _;rw[show decide (q≠0) = !(q==0) by by_cases e:q=0<;>simp[e]];cases(q==0)<;>cases(t2==sv)<;>cases(t2==lP)<;>cases(t2==wp)<;>rfl;rw[ac y];refine Aa O (λh=>by exfalso;simp at h;exact y h) λh=>?_;refine kI O<|Ah ⟨_,rfl,?_,AD⟩;show Qe (Kl [D.Kp<|V.bool<|bif !(t1==5)then true else t2==[40]]) _;rw[show decide (t1≠5) = !(t1==5) by by_cases e:t1=5<;>simp[e]];cases(t1==5)<;>cases(t2==[40])<;>rfl}
def nT (op:Int) (a b:Tm):ca 244 [.int .i64 op,.agg<|dTmc a,.agg<|dTmc b]<|.agg<|dTmc<|zjn op a b:=by obtain⟨q,y,z,A,B⟩:=a;obtain⟨C,D,G,H,K⟩:=b;exact Ae AQ func244 O [1,2,3]<|Au O<|Ab O O O
def zG {l:S4} {t:Y} (C:l.length<=10000) (h:Q4 l a=some (t,b)):ed 301 [.ref 1 0] (IS l a) (.ret (.Kp<|.agg<|As t)<|IS l b)/\Bh l b [45,62]=false:=by unfold Q4 at h;let⟨z,h⟩:=Fc h;have z:=z _<|AJ.2 O;by_cases q:Bh l a [105,110,116]=true;rw[ae q]at h;cases h;refine⟨?_,z⟩;exact Ae AQ func301 O [2,3]<|Au O<|Af O (DR C q) Az O<|Au O<|Ap O λh=>AA O<|Ah ⟨_,AB⟩;rw[ac q]at h;have q:Bh l a [105,110,116]=false:=by{simpa using q};by_cases y:Bh l a [98,111,111,108]=true;rw[ae y]at h;cases h;refine⟨?_,z⟩;exact Ae AQ func301 O [2,3]<|Au O<|Af O (Bz q) Az O<|Au O<|Ag O λh=>AA O<|Af O (DR C y) Az O<|Au O<|Ap O λh=>AA O<|Ah ⟨_,AB⟩;rw[ac y]at h;have y:Bh l a [98,111,111,108]=false:=by{simpa using y};by_cases A:Bh l a [117,110,105,116]=true;rw[ae A]at h;cases h;refine⟨?_,z⟩;exact Ae AQ func301 O [2,3]<|Au O<|Af O (Bz q) Az O<|Au O<|Ag O λh=>AA O<|Af O (Bz y) Az O<|Au O<|Ag O λh=>AA O<|Af O (DR C A) Az O<|Au O<|Ap O λh=>AA O<|Ah ⟨_,AB⟩;rw[ac A]at h;have A:Bh l a [117,110,105,116]=false:=by{simpa using A};let⟨B,h⟩:=Fc h;split at h;(case isFalse=>cases h);rename_i D;let⟨u,G,D,H,_⟩:=Fw D;rw[H]at h;cases h;refine⟨?_,z⟩;obtain⟨K,M,N,R⟩:=u;exact Ae AQ func301 O [2,3]<|Au O<|Af O (Bz q) Az O<|Au O<|Ag O λh=>AA O<|Af O (Bz y) Az O<|Au O<|Ag O λh=>AA O<|Af O (Bz A) Az O<|Au O<|Ag O λh=>AA O<|Af O (Bz<|B [99,101,108,108]<|by simp) Az O<|Au O<|Ag O λh=>AA O<|Af O (Bz<|B [99,104,97,110]<|by simp) Az O<|Au O<|Ag O λh=>AA O<|Af O (Bz<|B [116,97,115,107]<|by simp) Az O<|Au O<|Ag O λh=>AA O<|Af O (Bz<|B [63]<|by simp) Az O<|Au O<|Ag O λh=>AA O<|Af O (Bz<|B [40]<|by simp) Az O<|Au O<|Ag O λh=>AA O<|Af O (EO C G D) Az O<|Au O<|Ah ⟨_,AB⟩
def WB {l:S4} {t:Y} (q:l.length<=10000) (h:Q4 l a=some (t,b)):ed 280 [.ref 1 0] (IS l a)<|.ret (.Kp<|.agg<|As t)<|IS l b:=by let⟨y,z⟩:=zG q h;obtain⟨t1,t2,t3,t4⟩:=t;exact Ae AQ func280 O [2,3]<|Au O<|Af O (y) Az O<|Au O<|Af O (Bz z) Az O<|Au O<|Ag O λh=>AA O<|Ah ⟨_,AB⟩
def zpf (l:L1 iw) (f:Nat):Prop:=∀(a:Nat) (t:Y) (b:Nat),pQ l f a=some (t,b)->ed 325 [.ref 1 0] (IS l a) (.ret (.Kp<|.agg<|As t)<|IS l b)
def ptB (x:Z) (n:Nat):fp:=.cells 182 4 [.Kp<|.int .i64 6,.Kp<|.int .i64 0,.Kp<|.str x,.own 4 n]
def zag {l:S4} (D:l.length<=10000) (n:Nat) (T:n<=1000000) (F:∀f,f<n->zpf l f):zpf l n:=by
 intro a t b h;cases n with
 |zero=>simp[pQ]at h
 |succ f=>
 rw[pQ]at h;let⟨N,h⟩:=Fc h;have N:=N _<|AJ.2 O;by_cases R:PJ l a 1=true
 ·rw[ae R]at h;let⟨u,W,G,d,_⟩:=Fw R;have j:=Nz l a 1;rw[R]at j;rw[d]at h;cases h;obtain⟨k,c,m,o⟩:=u;exact Ae AQ func325 O [2,3]<|Au O<|Af O (Bz N) Az O<|Au O<|Ag O λh=>AA O<|Af O (j) Az O<|Au O<|Ap O λh=>AA O<|Af O (EO D W G) Az O<|Au O<|Ah ⟨_,AB⟩
 rw[ac R]at h;have B:=Nz l a 1;rw[show PJ l a 1=false by simpa using R]at B
 split at h
 case isTrue=>cases h
 rename_i I;have C:=Nz l a 4;rw[show PJ l a 4=false by simpa using I]at C;let⟨H,h⟩:=Fc h
 split at h
 case isFalse=>cases h
 rename_i G;let⟨u,W,G,d,_⟩:=Fw G;rw[d]at h;by_cases K:Bh l (a+1) [40]=true
 case neg=>
  rw[ac K]at h;have K:Bh l (a+1) [40]=false:=by simpa using K
  cases h;obtain⟨k,c,m,o⟩:=u;exact Ae AQ func325 O [2,3]<|Au O<|Af O (Bz N) Az O<|Au O<|Ag O λh=>AA O<|Af O (B) Az O<|Au O<|Ag O λh=>AA O<|Af O (C) Az O<|Au O<|Ag O λh=>AA O<|Af O (Bz<|H sv<|by simp) Az O<|Au O<|Ag O λh=>AA O<|Af O (Bz<|H lP<|by simp) Az O<|Au O<|Ag O λh=>AA O<|Af O (Bz<|H [40]<|by simp) Az O<|Au O<|Ag O λh=>AA O<|Af O (EO D W G) Az O<|Au O<|Af O (Bz K) Az O<|Au O<|Ag O λh=>AA O<|Ah ⟨_,AB⟩
 rw[ae K]at h;cases e:RS l f [] (a+2)with
 |none=>rw[e]at h;cases h
 |some r=>
 rw[e]at h;cases h;obtain⟨p,b⟩:=r;obtain⟨k,c,m,o⟩:=u;simp only
 refine Ae AQ func325 O [2,3,4,5,6,7]<|Au O<|Af O (Bz N) Az O<|Au O<|Ag O λh=>AA O<|Af O (B) Az O<|Au O<|Ag O λh=>AA O<|Af O (C) Az O<|Au O<|Ag O λh=>AA O<|Af O (Bz<|H sv<|by simp) Az O<|Au O<|Ag O λh=>AA O<|Af O (Bz<|H lP<|by simp) Az O<|Au O<|Ag O λh=>AA O<|Af O (Bz<|H [40]<|by simp) Az O<|Au O<|Ag O λh=>AA O<|Af O (EO D W G) Az O<|Au O<|Af O (DR D K) Az O<|Au O<|Ap O λh=>AA O<|Fx 3 4 (e:=182) (sz:=4) [i7 6,i7 0,.Kp<|.str c,.own 4 0] (by decide) O ⟨.inl O,.inl O,.inl O,.inr ⟨rfl,rfl⟩,ab⟩<|Ak (λz:Bool×Nat×E1×Nat=>[(4,.Kp<|.bool z.1),(0,.ref 1 0),(3,.ref 3 0),(2,.ref 2 0)]) (λz=>[(1,some<|pw l z.2.2.2),(2,some<|.cells 182 4 [i7 0,i7 0,.Kp<|.str [],.NB]),(3,some<|ptB c (A3 z.2.2.1).length),(4,some<|.row 182 4<|A3 z.2.2.1)]) [5,6,7] (λz=>z.2.1)
  (λz=>z.2.1<=f/\z.2.2.1.length+z.2.1<=f/\if z.1=true then RS l z.2.1 z.2.2.1 z.2.2.2=some (p,b)else p=z.2.2.1/\Bh l z.2.2.2 [41]=true/\b=z.2.2.2+1) (true,f,[],a+2)
  ⟨B6 _,by simp,by rw[ae O];exact e⟩ B9 B9 O λz J g=>?_
 obtain⟨U,f1,ps,s⟩:=z;obtain⟨L,P,y⟩:=J;simp only at L y P g;refine kI O ?_;cases U with
 |false=>
  simp only[En,aq]at y;obtain⟨rfl,y,rfl⟩:=y;exact Ag O λh=>Aw O<|BR 4 O<|AA O<|Af O (BV D y) Az O<|Au O<|Ah ⟨_,AB⟩
 |true=>
  simp only[aw]at y;cases f1 with
  |zero=>simp[RS]at y
  |succ f1=>
  rw[RS]at y;cases i:pQ l f1 s with
  |none=>rw[i]at y;cases y
  |some r=>
  rw[i]at y;obtain⟨q,V⟩:=r;simp only[E8]at y;have Q:=F f1 (by omega) s q V i;have A:A3 (ps++[q])=A3 ps++[As q]:=by rw[Ge];rfl
  obtain⟨v,w,x,E⟩:=q;refine Ap O λh=>AA O<|Af O (Q) Az O<|Au O<|B1 AQ O ⟨by simp,by simp[maxLen];omega,by simp;omega,ab⟩<|Au O ?_;by_cases M:Bh l V [44]=true
  ·rw[ae M]at y;exact Af O (DR D M) Az O<|Au O<|AV 4 6 O<|Ad (g (true,f1,ps++[.mk v w x E],V+1) (CN _) ⟨by simp only;omega,by simp only[Bo,C1,Cj];omega,by rw[ae O];exact y⟩) B9 ⟨rfl,rfl,by rw[A];rfl,by rw[A];rfl,ab⟩ O
  ·rw[ac M]at y;have M:Bh l V [44]=false:=by simpa using M
   let⟨S,y⟩:=Bg y;cases y;exact Af O (Bz M) Az O<|Au O<|AV 4 6 O<|Ad (g (false,f1,ps++[.mk v w x E],V) (CN _) ⟨by simp only;omega,by simp only[Bo,C1,Cj];omega,by rw[ac<|by simp];exact⟨rfl,S,rfl⟩⟩) B9 ⟨rfl,rfl,by rw[A];rfl,by rw[A];rfl,ab⟩ O
def ze1 {l:S4} (q:l.length<=10000):∀n,n<=1000000->zpf l n:=λn=>by{induction n using Nat.strongRecOn with|ind n y=>{exact λz=>zag q n z λf A=>y f A<|by omega}}
def znk (l:L1 iw) (f:Nat):Prop:=∀(a:Nat) (t:Tm) (b:Nat),El l f a=some (t,b)->ed 173 [.ref 1 0] (IS l a) (.ret (.Kp<|.agg<|dTmc t)<|IS l b)
def zq0 (l:L1 iw) (f:Nat):Prop:=∀(a:Nat) (t:Tm) (b:Nat),pP l f a=some (t,b)->ed 243 [.ref 1 0] (IS l a) (.ret (.Kp<|.agg<|dTmc t)<|IS l b)
def zq7 (l:L1 iw) (f:Nat):Prop:=∀(a:Nat) (t:Tm) (b:Nat),pR l f a=some (t,b)->ed 302 [.ref 1 0] (IS l a) (.ret (.Kp<|.agg<|dTmc t)<|IS l b)
def znn (l:L1 iw) (f:Nat):Prop:=∀(a:Nat) (t:Tm) (b:Nat),VX l f a=some (t,b)->ed 317 [.ref 1 0] (IS l a) (.ret (.Kp<|.agg<|dTmc t)<|IS l b)
def zje (l:L1 iw) (f:Nat):Prop:=∀(a:Nat) (t:Tm) (b:Nat),cS l f a=some (t,b)->ed 322 [.ref 1 0] (IS l a) (.ret (.Kp<|.agg<|dTmc t)<|IS l b)
def ziy (l:L1 iw) (f:Nat):Prop:=∀(n:Int) (a:Nat) (q:L1 Tm) (b:Nat),P1 l f n a=some (q,b)->ed 321 [.ref 1 0,.Kp<|.int .i64 n] (IS l a) (.ret (.Kp<|.sl<|Ci q)<|IS l b)
structure nM (l:List iw) (f:Nat):Prop where
 mo:znk l f
 sum:zq0 l f
 me:zq7 l f
 atom:znn l f
 vb:zje l f
 sy:ziy l f
def zdg {l:S4} (y:l.length<=10000) {op:Int} (q:PJ l a 1=true) (z:Bh l (a+1) [61,62]=true) (A:ed 173 [.ref 1 0] (IS l<|a+2)<|.ret (.Kp<|.agg<|dTmc t)<|IS l b):ed 242 [.ref 1 0,i7 op] (IS l a)<|.ret (.Kp<|.agg<|dTmc<|.mk op 0 (Dy l a) [t] [])<|IS l b:=by let⟨u,B,q,C,_⟩:=Fw q;rw[C];obtain⟨D,G,H,K⟩:=u;obtain⟨t1,t2,t3,t4,t5⟩:=t;exact Ae AQ func242 O [2,3,4]<|Au O<|Af O (EO y B q) Az O<|Au O<|Af O (BV y z) Az O<|Au O<|Af O (A) Az O<|Au O<|Ah ⟨_,AB⟩
def yZ {l:S4} (C:l.length<=10000) (n:Nat) (V:∀f,f<n->nM l f):znk l n:=by
 intro a t b h;cases n with
 |zero=>simp[El]at h
 |succ f=>
 have A:=(V f<|CN f).mo;have N:=(V f<|CN f).sum;clear V;rw[El]at h;by_cases D:Bh l a [102,117,110]=true
 ·rw[ae D]at h
  split at h
  case isFalse=>cases h
  rename_i W;let⟨c,h⟩:=Bg h;cases z:El l f (a+3)with
  |none=>rw[z]at h;cases h
  |some r=>
  rw[z]at h;cases h;have P:=zdg C (op:=5) W c<|A _ r.1 r.2 z;obtain⟨⟨d,e,g,i,j⟩,k⟩:=r;exact Ae AQ func173 O [2,3]<|Au O<|Af O (DR C D) Az O<|Au O<|Ap O λh=>AA O<|Af O (P) Az O<|Au O<|Ah ⟨_,AB⟩
 rw[ac D]at h;have D:Bh l a [102,117,110]=false:=by simpa using D
 let⟨M,h⟩:=Fc h;have M:=M _<|AJ.2 O;by_cases G:Bh l a [108,101,116]=true
 ·rw[ae G]at h
  split at h
  case isFalse=>cases h
  rename_i W;let⟨c,h⟩:=Bg h;let⟨w,Q,S,T,_⟩:=Fw W;rw[T]at h;cases z:El l f (a+3)with
  |none=>rw[z]at h;cases h
  |some r=>
  rw[z]at h;simp only[E8]at h;let⟨R,h⟩:=Bg h;cases B:El l f (r.2+1)with
  |none=>rw[B]at h;cases h
  |some u=>
  rw[B]at h;cases h;have q:=A _ r.1 r.2 z;have y:=A _ u.1 u.2 B;obtain⟨w1,w2,w3,w4⟩:=w;obtain⟨⟨d,e,g,i,j⟩,k⟩:=r;obtain⟨⟨p,s,x,E,F⟩,I⟩:=u;simp only at R q y ⊢;exact Ae AQ func173 O [2,3,4,5]<|Au O<|Af O (Bz D) Az O<|Au O<|Ag O λh=>AA O<|Af O (Bz M) Az O<|Au O<|Ag O λh=>AA O<|Af O (DR C G) Az O<|Au O<|Ap O λh=>AA O<|Af O (EO C Q S) Az O<|Au O<|Af O (BV C c) Az O<|Au O<|Af O (q) Az O<|Au O<|Af O (BV C R) Az O<|Au O<|Af O (y) Az O<|Au O<|Ah ⟨_,AB⟩
 rw[ac G]at h;have G:Bh l a [108,101,116]=false:=by simpa using G
 by_cases H:Bh l a [105,102]=true
 ·rw[ae H]at h;cases z:El l f (a+1)with
  |none=>rw[z]at h;cases h
  |some r=>
  rw[z]at h;simp only[E8]at h;let⟨R,h⟩:=Bg h;cases B:El l f (r.2+1)with
  |none=>rw[B]at h;cases h
  |some u=>
  rw[B]at h;simp only[E8]at h;let⟨J,h⟩:=Bg h;cases m:El l f (u.2+1)with
  |none=>rw[m]at h;cases h
  |some v=>
  rw[m]at h;cases h;have q:=A _ r.1 r.2 z;have y:=A _ u.1 u.2 B;have U:=A _ v.1 v.2 m;obtain⟨⟨d,e,g,i,j⟩,k⟩:=r;obtain⟨⟨p,s,x,E,F⟩,I⟩:=u;obtain⟨⟨v1,v2,v3,v4,v5⟩,vp⟩:=v;simp only at R J q y U ⊢;exact Ae AQ func173 O [2,3,4,5]<|Au O<|Af O (Bz D) Az O<|Au O<|Ag O λh=>AA O<|Af O (Bz M) Az O<|Au O<|Ag O λh=>AA O<|Af O (Bz G) Az O<|Au O<|Ag O λh=>AA O<|Af O (DR C H) Az O<|Au O<|Ap O λh=>AA O<|Af O (q) Az O<|Au O<|Af O (BV C R) Az O<|Au O<|Af O (y) Az O<|Au O<|Af O (BV C J) Az O<|Au O<|Af O (U) Az O<|Au O<|Ah ⟨_,AB⟩
 rw[ac H]at h;have H:Bh l a [105,102]=false:=by simpa using H
 cases z:pP l f a with
 |none=>rw[z]at h;cases h
 |some r=>
 rw[z]at h;simp only[E8]at h;have q:=N _ r.1 r.2 z;by_cases K:Bh l r.2 [60]=true
 ·rw[ae K]at h;cases B:pP l f (r.2+1)with
  |none=>rw[B]at h;cases h
  |some u=>
  rw[B]at h;cases h;have y:=N _ u.1 u.2 B;have L:=nT 12 r.1 u.1;obtain⟨⟨d,e,g,i,j⟩,k⟩:=r;obtain⟨⟨p,s,x,E,F⟩,I⟩:=u;simp only at K q y L ⊢;exact Ae AQ func173 O [2,3,4,5]<|Au O<|Af O (Bz D) Az O<|Au O<|Ag O λh=>AA O<|Af O (Bz M) Az O<|Au O<|Ag O λh=>AA O<|Af O (Bz G) Az O<|Au O<|Ag O λh=>AA O<|Af O (Bz H) Az O<|Au O<|Ag O λh=>AA O<|Af O (q) Az O<|Au O<|Af O (DR C K) Az O<|Au O<|Ap O λh=>AA O<|Af O (y) Az O<|Au O<|Ac O L<|Au O<|Ah ⟨_,AB⟩
 ·rw[ac K]at h;have K:Bh l r.2 [60]=false:=by simpa using K
  let⟨o,h⟩:=Fc h;have o:=o _<|AJ.2 O;cases h;obtain⟨t1,t2,t3,t4,t5⟩:=t;exact Ae AQ func173 O [2,3,4,5]<|Au O<|Af O (Bz D) Az O<|Au O<|Ag O λh=>AA O<|Af O (Bz M) Az O<|Au O<|Ag O λh=>AA O<|Af O (Bz G) Az O<|Au O<|Ag O λh=>AA O<|Af O (Bz H) Az O<|Au O<|Ag O λh=>AA O<|Af O (q) Az O<|Au O<|Af O (Bz K) Az O<|Au O<|Ag O λh=>AA O<|Af O (Bz o) Az O<|Au O<|Ag O λh=>AA O<|Ah ⟨_,AB⟩
def VR {l:S4} (y:ed 302 [.ref 1 0] (IS l a)<|.ret (.Kp<|.agg<|dTmc t)<|IS l b) (q:Bh l b [42]=false):ed 281 [.ref 1 0] (IS l a)<|.ret (.Kp<|.agg<|dTmc t)<|IS l b:=by obtain⟨t1,t2,t3,t4,t5⟩:=t;exact Ae AQ func281 O [2,3,4]<|Au O<|Af O (y) Az O<|Au O<|Ak (λ_:Nat=>[(0,.ref 1 0),(3,.ref 3 0),(2,.ref 2 0)]) (λ_=>[(1,some<|pw l b),(2,some<|.cells 49 5 [i7 0,i7 0,.Kp<|.str [],.NB,.NB]),(3,some<|.NA 49 5<|dTmc<|.mk t1 t2 t3 t4 t5)]) [4] (λ_=>0) (λ_=>True) 0 trivial AB AB O λ_ _ _=>AA O<|Af O (Bz q) Az O<|Au O<|Ag O λh=>Aw O<|AA O<|Ah ⟨_,AB⟩
def YO {l:S4} {f:Nat} {r:Tm×Nat} (h:T9 l f t a=some r):Bh l a [42]=false:=by cases f with|zero=>simp[T9]at h|succ f=>{rw[T9]at h;exact(Fc h).1 _<|AJ.2 O}
def zjz {l:S4} (h:Bh l a x=true):a<l.length:=by cases e:l[a]? with|none=>rw[Bh,e]at h;cases h|some t=>{exact(A9.1 e).1}
def zdp {l:S4} (p:l.length<=10000) (n:Nat) (D:∀f,f<n->nM l f):zq0 l n:=by
 intro a t b h;cases n with
 |zero=>simp[pP]at h
 |succ f=>
 rw[pP]at h;cases G:pR l f a with
 |none=>rw[G]at h;cases h
 |some r=>
 rw[G]at h;simp only[E8]at h;have H:=VR ((D f<|CN f).me _ r.1 r.2 G)<|YO h;have D:=λg (s:g<=f)=>(D g<|by omega).me;clear G;obtain⟨⟨U,V,W,c,d⟩,e⟩:=r;simp only at h H;refine Ae AQ func243 O [2,3,4,5]<|Au O<|Af O (H) Az O<|Au O ?_;clear H;refine Ak (λ_:Nat×Tm×Nat=>[(0,.ref 1 0),(3,.ref 3 0),(2,.ref 2 0)]) (λz=>[(1,some<|pw l z.2.2),(2,some<|.cells 49 5 [i7 0,i7 0,.Kp<|.str [],.NB,.NB]),(3,some<|.NA 49 5<|dTmc z.2.1)]) [4,5] (λz=>z.1)
  (λz=>z.1<=f/\T9 l z.1 z.2.1 z.2.2=some (t,b)) (f,.mk U V W c d,e) ⟨B6 _,h⟩ AB AB O λz i M=>?_
 clear h;obtain⟨f1,⟨t1,t2,t3,t4,t5⟩,y⟩:=z;obtain⟨j,q⟩:=i;simp only at j q M;cases f1 with
 |zero=>simp[T9]at q
 |succ f1=>
 rw[T9]at q;let⟨_,q⟩:=Fc q;have A:=Qo l y [43];by_cases B:Bh l y [43]=true
 ·rw[ae B]at q;rw[B]at A;cases K:pR l f1 (y+1)with
  |none=>rw[K]at q;cases q
  |some u=>
  rw[K]at q;simp only[E8]at q;have N:=VR (D f1 (by omega) _ u.1 u.2 K)<|YO q;have R:=nT 9 (.mk t1 t2 t3 t4 t5) u.1;have k:=zjz B;have w:IntKind.i64.wrap ((y:Int)+1)=((y+1:Nat):Int):=by rw[Gi (by omega)<|by omega];omega
  obtain⟨⟨v,x,E,F,I⟩,m⟩:=u;simp only at q N R;refine kI O<|AF [(1,1)] [] [1] (fr:=[]) (nm:=[]) O (by simp[A1]) (by simp) (A) Az O ⟨⟨rfl,rfl⟩,ab⟩ O O O<|OG O<|Oo (.Kp<|.bool false) O (by simp[A1])<|OG O<|Ap O λh=>AA O<|Af O (A) Az O<|Au O<|Ap O λh=>AA O ?_;rw[w];exact Af O (N) Az O<|Au O<|Ac O R<|Au O<|Ad (M (f1,_,m) (CN _) ⟨by simp only;omega,q⟩) AB AB O
 ·rw[ac B]at q;let⟨o,q⟩:=Fc q;have C:=Qo l y [45];rw[o _<|AJ.2 O]at C;rw[show Bh l y [43]=false by simpa using B]at A;cases q;exact kI O<|AF [(1,1)] [] [1] (fr:=[]) (nm:=[]) O (by simp[A1]) (by simp) (A) Az O ⟨⟨rfl,rfl⟩,ab⟩ O O O<|OG O<|AF [(1,1)] [] [1] (fr:=[]) (nm:=[]) O (by simp[A1]) (by simp) (C) Az O ⟨⟨rfl,rfl⟩,ab⟩ O O O<|OG O<|Ag O λh=>Aw O<|AA O<|Ah ⟨_,AB⟩
def zin {l:S4} (k:l.length<=10000) (n:Nat) (y:∀f,f<n->nM l f):zq7 l n:=by
 intro a t b h;cases n with
 |zero=>simp[pR]at h
 |succ f=>
 rw[pR]at h;cases A:VX l f a with
 |none=>rw[A]at h;cases h
 |some r=>
 rw[A]at h;simp only[E8]at h;have G:=(y f<|CN f).atom _ r.1 r.2 A;have y:=λg (m:g<=f)=>(y g<|by omega).atom;clear A;obtain⟨⟨R,U,V,W,c⟩,d⟩:=r;simp only at h G;refine Ae AQ func302 O [2,3,4,5]<|Au O<|Af O (G) Az O<|Au O ?_;clear G;refine Ak (λ_:Nat×Tm×Nat=>[(0,.ref 1 0),(3,.ref 3 0),(2,.ref 2 0)]) (λz=>[(1,some<|pw l z.2.2),(2,some<|.cells 49 5 [i7 0,i7 0,.Kp<|.str [],.NB,.NB]),(3,some<|.NA 49 5<|dTmc z.2.1)]) [4,5] (λz=>z.1)
  (λz=>z.1<=f/\iN l z.1 z.2.1 z.2.2=some (t,b)) (f,.mk R U V W c,d) ⟨B6 _,h⟩ AB AB O λz e K=>?_
 clear h;obtain⟨f1,⟨t1,t2,t3,t4,t5⟩,B⟩:=z;obtain⟨i,q⟩:=e;simp only at i q K;cases f1 with
 |zero=>simp[iN]at q
 |succ f1=>
 rw[iN]at q;have C:=zcu l B;by_cases D:R2 l B=true
 ·rw[ae D]at q;rw[D]at C;cases H:VX l f1 B with
  |none=>rw[H]at q;cases q
  |some u=>
  rw[H]at q;simp only[E8]at q;have M:=y f1 (by omega) _ u.1 u.2 H;have N:=nT 6 (.mk t1 t2 t3 t4 t5) u.1;obtain⟨⟨o,p,s,v,w⟩,j⟩:=u;simp only at q M N;exact AA O<|Af O (C) Az O<|Au O<|Ap O λh=>AA O<|Af O (M) Az O<|Au O<|Ac O N<|Au O<|Ad (K (f1,_,j) (CN _) ⟨by simp only;omega,q⟩) AB AB O
 ·rw[ac D]at q;rw[show R2 l B=false by simpa using D]at C;cases q;exact AA O<|Af O (C) Az O<|Au O<|Ag O λh=>Aw O<|AA O<|Ah ⟨_,AB⟩
def zcr {l:S4} (z:l.length<=10000) (n:Nat) (A:∀f,f<n->nM l f) {u:iw} (B:l[a]?=some u) (h:wG l n a=some (t,b)):ed 323 [.ref 1 0] (IS l a)<|.ret (.Kp<|.agg<|dTmc t)<|IS l b:=by cases n with|zero=>simp[wG]at h|succ f=>{have C:=(A f<|CN f).mo;have D:=(A f<|CN f).sy;clear A;have V:Dy l a=u.text:=by{rw[Dy,B]};have W:=(A9.1 B).1;have G:=L4 B;have w:IntKind.i64.wrap ((a:Int)+1)=((a+1:Nat):Int):=by{rw[Gi (by omega)<|by omega];omega};have y:=aU u.text;rw[wG,V]at h;obtain⟨p,d,s,x⟩:=u;simp only at y h;generalize Gy d=c at *;obtain⟨E,H⟩:=c;simp only at y h;split at h;(case isTrue=>cases h);rename_i K;by_cases M:0<H;rw[ae M]at h;cases q:P1 l f H (a+1)with|none=>rw[q]at h;cases h|some r=>{rw[q]at h;cases h;have e:=D _ _ r.1 r.2 q;refine Ae AQ func323 O [2,3,4,5]<|Au O<|sw O G<|Au O<|Ac O y<|jg [] O (by simp;kernel_rfl)<|Aa O (λh=>by exfalso;simp at h;exact K h) λh=>?_;refine AA O ?_;rw[w];refine Aa O (λh=>?_) (λh=>by simp at h;omega);exact AA O<|Af O (e) Az O<|Au O<|Ah ⟨_,AB⟩};rw[ac M]at h;by_cases N:H<0;{rw[ae N]at h;let⟨g,h⟩:=Bg h;split at h;(case isFalse=>cases h);rename_i i;let⟨j,h⟩:=Bg h;let⟨v,k,m,_,o⟩:=Fw i;rw[o]at h;cases q:El l f (a+4)with|none=>rw[q]at h;cases h|some r=>{rw[q]at h;simp only[E8]at h;let⟨R,h⟩:=Bg h;cases h;have U:=C _ r.1 r.2 q;obtain⟨F,I,J,L⟩:=v;obtain⟨⟨P,Q,S,T,r5⟩,rp⟩:=r;simp only at R U ⊢;refine Ae AQ func323 O [2,3,4,5]<|Au O<|sw O G<|Au O<|Ac O y<|jg [] O (by simp;kernel_rfl)<|Aa O (λh=>by exfalso;simp at h;exact K h) λh=>?_;refine AA O ?_;rw[w];refine Aa O (λh=>by simp at h;omega) λh=>?_;refine AA O<|Aa O (λh=>?_) (λh=>by simp at h;omega);exact AA O<|Af O (BV z g) Az O<|Au O<|Af O (EO z k m) Az O<|Au O<|Af O (BV z j) Az O<|Au O<|Af O (U) Az O<|Au O<|Af O (BV z R) Az O<|Au O<|Ah ⟨_,AB⟩}};rw[ac N]at h;cases h;refine Ae AQ func323 O [2,3,4,5]<|Au O<|sw O G<|Au O<|Ac O y<|jg [] O (by simp;kernel_rfl)<|Aa O (λh=>by exfalso;simp at h;exact K h) λh=>?_;refine AA O ?_;rw[w];refine Aa O (λh=>by simp at h;omega) λh=>?_;refine AA O<|Aa O (λh=>by simp at h;omega) λh=>?_;exact AA O<|Ah ⟨_,AB⟩}
end Go.Hk
