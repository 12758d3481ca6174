/- hearthlaw03.KindSubst returns true for all its arguments, and changes nothing: a term with another one in place of a name, which has the name's type, without holes, as its most general one, has the same type, or none, if the term had none. No condition. -/
import Derived.Test.YtcdpbkolkeeopaaGreatBg
import Derived.OpenShut
import Derived.ProofKit
import Derived.Test.YtcdpbkolkeeopaaGreatRows
set_option linter.all false
set_option maxRecDepth 100000
set_option maxHeartbeats 4000000
namespace Go.Hk
open Go.Proofs.Tryz
open Go.Proofs
open Go.RowKit Go.WideShapes Go.ChangeShapes
open Go.RowKit Go.WideShapes Go.ChangeShapes Go.ChangeAt
variable {m:Md} {W o:World} {a i f n sz b g:Nat} {l:K1} {P:Program} {t:Tm} {H α:Type} {Γ:At} {v:Value} {s x:Z} {τ:Y} {S:E1} {z:R1} {y:Int} {r:j0} {cs vs:R0} {ps:L1 MemPlace} {T:L2} {xs:G2} {c:TT}
def zcv {l:S4} (o:l.length<=10000) (n:Nat) (A:∀f,f<n->nM l f):znn l n:=by intro a t b h;cases n with|zero=>simp[VX]at h|succ f=>{have G:=(A f<|CN f).mo;have I:=(A f<|CN f).sy;have J:=(A f<|CN f).vb;have K:=λu k t b h=>zcr o f (λg S=>A g<|by omega) (u:=u) (a:=a) k (t:=t) (b:=b) h;clear A;rw[VX]at h;have c:=Nz l a 4;by_cases B:PJ l a 4=true;rw[ae B]at h;rw[B]at c;let⟨u,k,q,_,y⟩:=Fw B;rw[y]at h;cases h;obtain⟨L,M,N,Q⟩:=u;exact Ae AQ func317 O [2,3,4]<|Au O<|Af O (c) Az O<|Au O<|Ap O λh=>AA O<|Af O (EO o k q) Az O<|Au O<|Ah ⟨_,AB⟩;rw[ac B]at h;rw[show PJ l a 4=false by simpa using B]at c;have d:=Nz l a 1;by_cases C:PJ l a 1=true;rw[ae C]at h;rw[C]at d;let⟨u,k,q,R,_⟩:=Fw C;rw[R]at h;cases h;obtain⟨L,M,N,Q⟩:=u;exact Ae AQ func317 O [2,3,4]<|Au O<|Af O (c) Az O<|Au O<|Ag O λh=>AA O<|Af O (d) Az O<|Au O<|Ap O λh=>AA O<|Af O (EO o k q) Az O<|Au O<|Ah ⟨_,AB⟩;rw[ac C]at h;rw[show PJ l a 1=false by simpa using C]at d;have e:=Nz l a 2;by_cases D:PJ l a 2=true;rw[ae D]at h;rw[D]at e;let⟨u,k,q,R,_⟩:=Fw D;rw[R]at h;have F:=Qo l (a+1) [40];by_cases j:Bh l (a+1) [40]=true;rw[ae j]at h;rw[j]at F;cases p:P1 l f (-1) (a+1)with|none=>rw[p]at h;cases h|some r=>{rw[p]at h;cases h;have z:=I _ _ r.1 r.2 p;obtain⟨L,M,N,Q⟩:=u;exact Ae AQ func317 O [2,3,4]<|Au O<|Af O (c) Az O<|Au O<|Ag O λh=>AA O<|Af O (d) Az O<|Au O<|Ag O λh=>AA O<|Af O (e) Az O<|Au O<|Ap O λh=>AA O<|Af O (EO o k q) Az O<|Au O<|Af O (F) Az O<|Au O<|Ap O λh=>AA O<|Af O (z) Az O<|Au O<|Ah ⟨_,AB⟩};rw[ac j]at h;rw[show Bh l (a+1) [40]=false by simpa using j]at F;cases h;obtain⟨L,M,N,Q⟩:=u;exact Ae AQ func317 O [2,3,4]<|Au O<|Af O (c) Az O<|Au O<|Ag O λh=>AA O<|Af O (d) Az O<|Au O<|Ag O λh=>AA O<|Af O (e) Az O<|Au O<|Ap O λh=>AA O<|Af O (EO o k q) Az O<|Au O<|Af O (F) Az O<|Au O<|Ag O λh=>AA O<|Ah ⟨_,AB⟩;rw[ac D]at h;rw[show PJ l a 2=false by simpa using D]at e;let⟨m,h⟩:=Fc h;have U:=m sv (by simp);have V:=m lP (by simp);by_cases j:Bh l a wp=true;rw[ae j]at h;have H:=J _ t b h;obtain⟨t1,t2,t3,t4,t5⟩:=t;exact Ae AQ func317 O [2,3,4]<|Au O<|Af O (c) Az O<|Au O<|Ag O λh=>AA O<|Af O (d) Az O<|Au O<|Ag O λh=>AA O<|Af O (e) Az O<|Au O<|Ag O λh=>AA O<|Af O (Bz U) Az O<|Au O<|Ag O λh=>AA O<|Af O (Bz V) Az O<|Au O<|Ag O λh=>AA O<|Af O (DR o j) Az O<|Au O<|Ap O λh=>AA O<|Af O (H) Az O<|Au O<|Ah ⟨_,AB⟩;rw[ac j]at h;have j:Bh l a wp=false:=by{simpa using j};by_cases w:Bh l a [40]=true;rw[ae w]at h;let⟨i,h⟩:=Fc h;have i:=i _<|AJ.2 O;cases p:El l f (a+1)with|none=>rw[p]at h;cases h|some r=>{rw[p]at h;simp only[E8]at h;let⟨s,h⟩:=Bg h;cases h;have v:=G _ r.1 r.2 p;obtain⟨⟨T,W,r3,r4,r5⟩,rp⟩:=r;simp only at s v ⊢;exact Ae AQ func317 O [2,3,4]<|Au O<|Af O (c) Az O<|Au O<|Ag O λh=>AA O<|Af O (d) Az O<|Au O<|Ag O λh=>AA O<|Af O (e) Az O<|Au O<|Ag O λh=>AA O<|Af O (Bz U) Az O<|Au O<|Ag O λh=>AA O<|Af O (Bz V) Az O<|Au O<|Ag O λh=>AA O<|Af O (Bz j) Az O<|Au O<|Ag O λh=>AA O<|Af O (DR o w) Az O<|Au O<|Ap O λh=>AA O<|Af O (Bz i) Az O<|Au O<|Ag O λh=>AA O<|Af O (v) Az O<|Au O<|Af O (BV o s) Az O<|Au O<|Ah ⟨_,AB⟩};rw[ac w]at h;have w:Bh l a [40]=false:=by{simpa using w};have E:=Nz l a 3;split at h;(case isFalse=>cases h);rename_i x;rw[x]at E;let⟨u,k,_⟩:=Fw x;have P:=K u k t b h;obtain⟨t1,t2,t3,t4,t5⟩:=t;exact Ae AQ func317 O [2,3,4]<|Au O<|Af O (c) Az O<|Au O<|Ag O λh=>AA O<|Af O (d) Az O<|Au O<|Ag O λh=>AA O<|Af O (e) Az O<|Au O<|Ag O λh=>AA O<|Af O (Bz U) Az O<|Au O<|Ag O λh=>AA O<|Af O (Bz V) Az O<|Au O<|Ag O λh=>AA O<|Af O (Bz j) Az O<|Au O<|Ag O λh=>AA O<|Af O (Bz w) Az O<|Au O<|Ag O λh=>AA O<|Af O (E) Az O<|Au O<|Ap O λh=>AA O<|Af O (P) Az O<|Au O<|Ah ⟨_,AB⟩}
def nY {l:S4} (q:l.length<=10000) (n:Nat) (R:n<=1000000) (w:∀f,f<n->nM l f):ziy l n:=by
 intro k a U b h;cases n with
 |zero=>simp[P1]at h
 |succ f=>
 rw[P1]at h;let⟨V,h⟩:=Bg h;cases E:El l f (a+1)with
 |none=>rw[E]at h;cases h
 |some r=>
 rw[E]at h;simp only[E8]at h;have F:=(w f<|CN f).mo _ r.1 r.2 E;have w:=λg (P:g<=f)=>(w g<|by omega).mo;clear E;obtain⟨⟨i,m,s,t,v⟩,x⟩:=r;simp only at h F;refine Ae AQ func321 O [2,3,4,5,6]<|Au O<|Af O (BV q V) Az O<|Au O<|Af O (F) Az O<|jgf 6 O (by simp)<|zhd AQ 3 O (by simp)<|Au O ?_;clear F;refine Ak (λz:Nat×G1×Nat=>[(0,.ref 1 0),(1,i7 k),(6,.own 3 (Ci z.2.1).length)]) (λz=>[(1,some<|pw l z.2.2),(3,some<|.row 49 5<|Ci z.2.1)]) [4,5,6] (λz=>z.1)
  (λz=>z.1+z.2.1.length<=f+1/\Q3 l z.1 k z.2.1 z.2.2=some (U,b)) (f,[.mk i m s t v],x) ⟨by simp,h⟩ AB AL O λz y G=>?_
 clear h;obtain⟨f1,d,A⟩:=z;obtain⟨H,c⟩:=y;simp only at H c G;cases f1 with
 |zero=>simp[Q3]at c
 |succ f1=>
 rw[Q3]at c;refine kI O ?_;by_cases B:k<0
 ·by_cases p:Bh l A [44]=true
  ·rw[ae<|.inl ⟨B,p⟩]at c;let⟨_,c⟩:=Bg c;cases o:El l f1 (A+1)with
   |none=>rw[o]at c;cases c
   |some u=>
   rw[o]at c;simp only[E8]at c;have C:=w f1 (by omega) _ u.1 u.2 o;have j:Ci (d++[u.1])=Ci d++[dTmc u.1]:=by rw[KC];rfl
   obtain⟨⟨I,J,K,L,M⟩,N⟩:=u;simp only at c C j;refine AF [(1,1)] [] [] (fr:=[]) (nm:=[1,1]) O (by simp[A1,B]) (by simp[A1]) (DR q p) Az O trivial rfl O O<|jg [] O (by simp[A1];omega)<|Aa O (λh=>?_) (λh=>by simp[B]at h);refine AA O<|Aa O (λh=>by simp at h;omega) λh=>?_;exact AA O<|Af O (C) Az O<|Au O<|B1 AQ O ⟨by simp,by simp[maxLen];omega,by simp;omega,ab⟩<|Au O<|AV 3 5 O<|Ad (G (f1,d++[.mk I J K L M],N) (CN _) ⟨by simp only[Bo,C1,Cj];omega,c⟩) ⟨rfl,rfl,by rw[j];rfl,ab⟩ ⟨rfl,by rw[j];rfl,ab⟩ O
  ·have e:¬((k<0/\Bh l A [44]=true)\/(d.length:Int)<k):=λh=>h.elim (λh=>p h.2) (λh=>by omega);rw[ac e]at c;have p:Bh l A [44]=false:=by simpa using p
   let⟨D,c⟩:=Bg c;cases c;refine AF [(1,1)] [] [1] (fr:=[]) (nm:=[]) O (by simp[A1,B]) (by simp[A1]) (Bz p) Az O ⟨⟨rfl,rfl⟩,ab⟩ O O O<|OG O<|Aa O (λh=>by simp at h;omega) λh=>?_;exact Aw O<|BR 3 O<|AA O<|Af O (BV q D) Az O<|Au O<|Ah ⟨_,AB⟩
 ·refine Oo (.Kp<|.bool false) O (by simp[A1];omega)<|OG O ?_;by_cases Q:(d.length:Int)<k
  ·rw[ae<|.inr Q]at c;let⟨D,c⟩:=Bg c;cases o:El l f1 (A+1)with
   |none=>rw[o]at c;cases c
   |some u=>
   rw[o]at c;simp only[E8]at c;have C:=w f1 (by omega) _ u.1 u.2 o;have j:Ci (d++[u.1])=Ci d++[dTmc u.1]:=by rw[KC];rfl
   obtain⟨⟨I,J,K,L,M⟩,N⟩:=u;simp only at c C j;refine Aa O (λh=>?_) (λh=>by simp at h;omega);refine AA O<|Aa O (λh=>?_) (λh=>by simp at h;omega);exact AA O<|Af O (BV q D) Az O<|Au O<|Af O (C) Az O<|Au O<|B1 AQ O ⟨by simp,by simp[maxLen];omega,by simp;omega,ab⟩<|Au O<|AV 3 5 O<|Ad (G (f1,d++[.mk I J K L M],N) (CN _) ⟨by simp only[Bo,C1,Cj];omega,c⟩) ⟨rfl,rfl,by rw[j];rfl,ab⟩ ⟨rfl,by rw[j];rfl,ab⟩ O
  ·rw[ac λh=>h.elim (λh=>B h.1) Q]at c;let⟨D,c⟩:=Bg c;cases c;refine Aa O (λh=>by simp at h;omega) λh=>?_;exact Aw O<|BR 3 O<|AA O<|Af O (BV q D) Az O<|Au O<|Ah ⟨_,AB⟩
def mtB (n k:Nat):fp:=.cells 49 5 [.Kp<|.int .i64 15,.Kp<|.int .i64 0,.Kp<|.str [],.own 5 n,.own 6 k]
def tX {l:S4} (k:l.length<=10000) (n:Nat) (v:n<=1000000) (p:∀f,f<n->nM l f):zje l n:=by
 intro a t b h;cases n with
 |zero=>simp[cS]at h
 |succ f=>
 rw[cS]at h;cases w:El l f a with
 |none=>rw[w]at h;cases h
 |some r=>
 rw[w]at h;simp only[E8]at h;let⟨G,h⟩:=Bg h;have C:=(p f<|CN f).mo _ r.1 r.2 w;have p:=λg (hg:g<=f)=>(p g<|by omega).mo;clear w;obtain⟨⟨x,y,H,P,S⟩,T⟩:=r;simp only at h C G;refine Ae AQ func322 O [2,3,5,4,6,7,8,9,10]<|Au O<|Af O (C) Az O<|jgf 6 O (by simp)<|zhd AQ 5 O (by simp)<|Au O<|Af O (BV k G) Az O<|Au O ?_;clear C
 refine Fx 4 6 (e:=182) (sz:=4) [i7 15,i7 0,.Kp<|.str [],.own 5 1,.own 6 0] (by decide) O ⟨.inl O,.inl O,.inl O,.inl O,.inr ⟨rfl,rfl⟩,ab⟩<|Ak (λz:Bool×Nat×E1×G1×Nat=>[(5,.Kp<|.bool z.1),(0,.ref 1 0),(4,.ref 4 0),(2,.ref 2 0)]) (λz=>[(1,some<|pw l z.2.2.2.2),(2,some<|.cells 49 5 [i7 0,i7 0,.Kp<|.str [],.NB,.NB]),(4,some<|mtB (Ci z.2.2.2.1).length (A3 z.2.2.1).length),(5,some<|.row 49 5<|Ci z.2.2.2.1),(6,some<|.row 182 4<|A3 z.2.2.1)]) [7,8,9,10] (λz=>z.2.1)
  (λz=>z.2.1+z.2.2.1.length<=f/\z.2.1+z.2.2.2.1.length<=f+1/\if z.1=true then Q5 l z.2.1 z.2.2.1 z.2.2.2.1 z.2.2.2.2=some (t,b)else t=.mk 15 0 [] z.2.2.2.1 z.2.2.1/\Bh l z.2.2.2.2 [125]=true/\b=z.2.2.2.2+1) (true,f,[],[.mk x y H P S],T+1)
  ⟨by simp,by simp,by rw[ae O];exact h⟩ B9 BA O λz W D=>?_
 clear h;obtain⟨o,f1,ps,A,I⟩:=z;obtain⟨z1,z3,c⟩:=W;simp only at z1 c z3 D;refine kI O ?_;cases o with
 |false=>
  simp only[En,aq]at c;obtain⟨rfl,c,rfl⟩:=c;exact Ag O λh=>Aw O<|BR 5 O<|BR 6 O<|AA O<|Af O (BV k c) Az O<|Au O<|Ah ⟨_,AB⟩
 |true=>
  simp only[aw]at c;cases f1 with
  |zero=>simp[Q5]at c
  |succ f1=>
  rw[Q5]at c;cases E:pQ l f1 I with
  |none=>rw[E]at c;cases c
  |some q=>
  rw[E]at c;simp only[E8]at c;let⟨J,c⟩:=Bg c;cases F:El l f1 (q.2+1)with
  |none=>rw[F]at c;cases c
  |some u=>
  rw[F]at c;simp only[E8]at c;have K:=ze1 k f1 (by omega) I q.1 q.2 E;have L:=p f1 (by omega) _ u.1 u.2 F;have d:A3 (ps++[q.1])=A3 ps++[As q.1]:=by rw[Ge];rfl
  have e:Ci (A++[u.1])=Ci A++[dTmc u.1]:=by rw[KC];rfl
  obtain⟨⟨M,N,Q,R⟩,qp⟩:=q;obtain⟨⟨U,V,i,m,s⟩,B⟩:=u;simp only at c J K L d e;refine Ap O λh=>AA O<|Af O (K) Az O<|Au O<|Af O (BV k J) Az O<|Au O<|Af O (L) Az O<|Au O<|B1 AQ O ⟨by simp,by simp[maxLen];omega,by simp;omega,ab⟩<|Au O<|B1 AQ O ⟨by simp,by simp[maxLen];omega,by simp;omega,ab⟩<|Au O ?_;by_cases j:Bh l B [124]=true
  ·rw[ae j]at c;exact Af O (DR k j) Az O<|Au O<|AV 6 9 O<|AV 5 10 O<|Ad (D (true,f1,ps++[.mk M N Q R],A++[.mk U V i m s],B+1) (CN _) ⟨by simp only[Bo,C1,Cj];omega,by simp only[Bo,C1,Cj];omega,by rw[ae O];exact c⟩) B9 ⟨rfl,rfl,by rw[d,e];rfl,by rw[e];rfl,by rw[d];rfl,ab⟩ O
  ·rw[ac j]at c;have j:Bh l B [124]=false:=by simpa using j
   let⟨z4,c⟩:=Bg c;cases c;exact Af O (Bz j) Az O<|Au O<|AV 6 9 O<|AV 5 10 O<|Ad (D (false,f1,ps++[.mk M N Q R],A++[.mk U V i m s],B) (CN _) ⟨by simp only[Bo,C1,Cj];omega,by simp only[Bo,C1,Cj];omega,by rw[ac<|by simp];exact⟨rfl,z4,rfl⟩⟩) B9 ⟨rfl,rfl,by rw[d,e];rfl,by rw[e];rfl,by rw[d];rfl,ab⟩ O
def wE {l:S4} (d:l.length<=10000):∀n,n<=1000000->nM l n:=λn=>by{induction n using Nat.strongRecOn with|ind n j=>{exact λe=>have c:=λf h=>j f h (zks (Nat.le_of_lt h) e);⟨yZ d n c,zdp d n c,zin d n c,zcv d n c,tX d n e c,nY d n e c⟩}}
def zqn (x:Z) (n:Nat):fp:=.cells 113 2 [.Kp<|.str x,.own 4 n]
def cnB (x:Z) (n:Nat):fp:=.cells 178 2 [.Kp<|.str x,.own 6 n]
def zh3 {l:S4} (B:l.length<=10000) (hf:f<=100000) {d:Dt} (h:wF l f a=some (d,b)):ed 240 [.ref 1 0] (IS l a)<|.ret (.Kp<|.agg<|DE d)<|IS l b:=by
 unfold wF at h
 split at h
 case isFalse=>cases h
 rename_i n;let⟨s,h⟩:=Bg h;let⟨u,t,M,N,_⟩:=Fw n;rw[N]at h;cases Q:Zq l f [] (a+2)with
 |none=>rw[Q]at h;cases h
 |some r=>
 rw[Q]at h;cases h;obtain⟨I,b⟩:=r;obtain⟨u1,g,u3,u4⟩:=u;simp only;refine Ae AQ func240 O [2,3,4,5,6,7,8,9]<|Au O<|Af O (EO B t M) Az O<|Au O<|Af O (BV B s) Az O<|Au O<|Fx 3 4 (e:=178) (sz:=2) [.Kp<|.str g,.own 4 0] (by decide) O ⟨.inl O,.inr ⟨rfl,rfl⟩,ab⟩<|Ak (λz:Bool×Nat×L1 Cd×Nat=>[(4,.Kp<|.bool z.1),(0,.ref 1 0),(3,.ref 3 0),(2,.ref 2 0)]) (λz=>[(1,some<|pw l z.2.2.2),(2,some<|.cells 113 2 [.Kp<|.str [],.NB]),(3,some<|zqn g (z.2.2.1.map Gv).length),(4,some<|.row 178 2<|z.2.2.1.map Gv)]) [5,6,7,8,9] (λz=>z.2.1)
  (λz=>z.2.1+z.2.2.1.length<=f/\if z.1=true then Zq l z.2.1 z.2.2.1 z.2.2.2=some (I,b)else I=z.2.2.1/\Bh l z.2.2.2 [59]=true/\b=z.2.2.2+1) (true,f,[],a+2)
  ⟨by simp,by rw[ae O];exact Q⟩ B9 B9 O λz W J=>?_
 clear Q t n N M s;obtain⟨p,f1,cs,D⟩:=z;obtain⟨z1,e⟩:=W;simp only at z1 e J;refine kI O ?_;cases p with
 |false=>
  simp only[En,aq]at e;obtain⟨rfl,e,rfl⟩:=e;exact Ag O λh=>Aw O<|BR 4 O<|AA O<|Af O (BV B e) Az O<|Au O<|Ah ⟨_,AB⟩
 |true=>
  simp only[aw]at e;cases f1 with
  |zero=>simp[Zq]at e
  |succ f1=>
  rw[Zq]at e
  split at e
  case isFalse=>cases e
  rename_i k2;let⟨v,hv,M,N,_⟩:=Fw k2;rw[N]at e;obtain⟨v1,E,v3,v4⟩:=v;have o:∀F,(cs++[(⟨E,F⟩:Cd)]).map Gv=cs.map Gv++[Gv ⟨E,F⟩]:=λF=>by simp
  simp only at e;refine Ap O λh=>AA O<|Af O (EO B hv M) Az O<|Au O ?_;by_cases G:Bh l (D+1) [40]=true
  ·rw[ae G]at e;cases R:Zr l f1 [] (D+2)with
   |none=>rw[R]at e;cases e
   |some w=>
   rw[R]at e;obtain⟨C,c⟩:=w;simp only[E8]at e;refine Af O (DR B G) Az O<|Au O<|Ap O λh=>AA O<|Fx 5 6 (e:=25) (sz:=4) [.Kp<|.str E,.own 6 0] (by decide) O ⟨.inl O,.inr ⟨rfl,rfl⟩,ab⟩<|Ak (λz:Bool×Nat×E1×Nat=>[(6,.Kp<|.bool z.1),(0,.ref 1 0),(3,.ref 3 0),(2,.ref 2 0),(5,.ref 5 0)]) (λz=>[(1,some<|pw l z.2.2.2),(2,some<|.cells 113 2 [.Kp<|.str [],.NB]),(3,some<|zqn g (cs.map Gv).length),(4,some<|.row 178 2<|cs.map Gv),(5,some<|cnB E (A3 z.2.2.1).length),(6,some<|.row 25 4<|A3 z.2.2.1)]) [7,8,9] (λz=>z.2.1)
    (λz=>z.2.1+z.2.2.1.length<=f1/\if z.1=true then Zr l z.2.1 z.2.2.1 z.2.2.2=some (C,c)else C=z.2.2.1/\Bh l z.2.2.2 [41]=true/\c=z.2.2.2+1) (true,f1,[],D+2)
    ⟨by simp,by rw[ae O];exact R⟩ BA GW O λy hy i=>?_
   clear R;obtain⟨p,U,F,K⟩:=y;obtain⟨y1,k⟩:=hy;simp only at y1 k i;refine kI O ?_;cases p with
   |false=>
    simp only[En,aq]at k;obtain⟨rfl,k,rfl⟩:=k;refine Ag O λh=>Aw O<|BR 6 O<|AA O<|Af O (BV B k) Az O<|Au O<|B1 AQ O ⟨by simp,by simp[maxLen];omega,by simp;omega,ab⟩<|Au O ?_;by_cases j:Bh l (K+1) [124]=true
    ·rw[ae j]at e;exact Af O (DR B j) Az O<|Au O<|AV 4 7 O<|Ad (J (true,f1,cs++[⟨E,C⟩],K+1+1) (CN _) ⟨by simp only[Bo,C1,Cj];omega,by rw[ae O];exact e⟩) B9 ⟨rfl,rfl,by rw[o];rfl,by rw[o];rfl,ab⟩ O
    ·rw[ac j]at e;have j:Bh l (K+1) [124]=false:=by simpa using j
     let⟨L,e⟩:=Bg e;cases e;exact Af O (Bz j) Az O<|Au O<|AV 4 7 O<|Ad (J (false,f1,cs++[⟨E,C⟩],K+1) (CN _) ⟨by simp only[Bo,C1,Cj];omega,by rw[ac<|by simp];exact⟨rfl,L,rfl⟩⟩) B9 ⟨rfl,rfl,by rw[o];rfl,by rw[o];rfl,ab⟩ O
   |true=>
    simp only[aw]at k;cases U with
    |zero=>simp[Zr]at k
    |succ U=>
    rw[Zr]at k;cases m:Q4 l K with
    |none=>rw[m]at k;cases k
    |some q=>
    rw[m]at k;simp only[E8]at k;have x:=WB B (t:=q.1) (b:=q.2) m;have A:A3 (F++[q.1])=A3 F++[As q.1]:=by rw[Ge];rfl
    obtain⟨⟨H,P,S,T⟩,V⟩:=q;simp only at k x A
    refine Ap O λh=>AA O<|Af O (x) Az O<|Au O<|B1 AQ O ⟨by simp,by simp[maxLen];omega,by simp;omega,ab⟩<|Au O ?_;by_cases j:Bh l V [44]=true
    ·rw[ae j]at k;exact Af O (DR B j) Az O<|Au O<|AV 6 8 O<|Ad (i (true,U,F++[.mk H P S T],V+1) (CN _) ⟨by simp only[Bo,C1,Cj];omega,by rw[ae O];exact k⟩) BA ⟨rfl,rfl,rfl,rfl,by rw[A];rfl,by rw[A];rfl,ab⟩ O
    ·rw[ac j]at k;have j:Bh l V [44]=false:=by simpa using j
     let⟨L,k⟩:=Bg k;cases k;exact Af O (Bz j) Az O<|Au O<|AV 6 8 O<|Ad (i (false,U,F++[.mk H P S T],V) (CN _) ⟨by simp only[Bo,C1,Cj];omega,by rw[ac<|by simp];exact⟨rfl,L,rfl⟩⟩) BA ⟨rfl,rfl,rfl,rfl,by rw[A];rfl,by rw[A];rfl,ab⟩ O
  ·rw[ac G]at e;have G:Bh l (D+1) [40]=false:=by simpa using G
   simp only[E8]at e;refine Af O (Bz G) Az O<|Au O<|Ag O λh=>AA O<|B1 AQ O ⟨by simp,by simp[maxLen];omega,by simp;omega,ab⟩<|Au O ?_;by_cases j:Bh l (D+1) [124]=true
   ·rw[ae j]at e;exact Af O (DR B j) Az O<|Au O<|AV 4 6 O<|Ad (J (true,f1,cs++[⟨E,[]⟩],D+1+1) (CN _) ⟨by simp only[Bo,C1,Cj];omega,by rw[ae O];exact e⟩) B9 ⟨rfl,rfl,by rw[o];rfl,by rw[o];rfl,ab⟩ O
   ·rw[ac j]at e;have j:Bh l (D+1) [124]=false:=by simpa using j
    let⟨L,e⟩:=Bg e;cases e;exact Af O (Bz j) Az O<|Au O<|AV 4 6 O<|Ad (J (false,f1,cs++[⟨E,[]⟩],D+1) (CN _) ⟨by simp only[Bo,C1,Cj];omega,by rw[ac<|by simp];exact⟨rfl,L,rfl⟩⟩) B9 ⟨rfl,rfl,by rw[o];rfl,by rw[o];rfl,ab⟩ O
def zli {l:S4} (c:l.length<=10000) (Q:f<=100000) {d:Fd} (h:zka l f a=some (d,b)):ed 241 [.ref 1 0] (IS l a)<|.ret (.Kp<|.agg<|Ed d)<|IS l b:=by
 unfold zka at h
 split at h
 case isFalse=>cases h
 rename_i F;let⟨G,h⟩:=Bg h
 split at h
 case isFalse=>cases h
 rename_i I;let⟨J,h⟩:=Bg h;let⟨x,K,L,M,_⟩:=Fw F;let⟨y,N,o,p,_⟩:=Fw I;rw[M,p]at h;cases e:Q4 l (a+4)with
 |none=>rw[e]at h;cases h
 |some r=>
 rw[e]at h;simp only[E8]at h;let⟨q,h⟩:=Bg h;let⟨w,h⟩:=Bg h;cases j:Q4 l (r.2+2)with
 |none=>rw[j]at h;cases h
 |some u=>
 rw[j]at h;simp only[E8]at h;let⟨A,h⟩:=Bg h;cases k:El l f (u.2+1)with
 |none=>rw[k]at h;cases h
 |some v=>
 rw[k]at h;simp only[E8]at h;let⟨B,h⟩:=Bg h;cases h;have C:=WB c (t:=r.1) (b:=r.2) e;have D:=WB c (t:=u.1) (b:=u.2) j;have E:=(wE c f<|by omega).mo _ v.1 v.2 k;clear e j k;obtain⟨⟨R,U,V,g⟩,i⟩:=r;obtain⟨⟨m,n,s,t⟩,z⟩:=u;obtain⟨⟨H,P,S,T,W⟩,vp⟩:=v;obtain⟨x1,x2,x3,x4⟩:=x;obtain⟨y1,y2,y3,y4⟩:=y;simp only at q w A B C D E ⊢
 exact Ae AQ func241 O [2,3]<|Au O<|Af O (EO c K L) Az O<|Au O<|Af O (BV c G) Az O<|Au O<|Af O (EO c N o) Az O<|Au O<|Af O (BV c J) Az O<|Au O<|Af O (C) Az O<|Au O<|Af O (BV c q) Az O<|Au O<|Af O (BV c w) Az O<|Au O<|Af O (D) Az O<|Au O<|Af O (BV c A) Az O<|Au O<|Af O (E) Az O<|Au O<|Af O (BV c B) Az O<|Au O<|Ah ⟨_,AB⟩
def mdB (x:Z) (n:Nat):fp:=.cells 43 3 [.Kp<|.str x,.own 4 n,.NB]
def mdB2 (x:Z) (n k:Nat):fp:=.cells 43 3 [.Kp<|.str x,.own 4 n,.own 5 k]
def qB {l:S4} (k:l.length<=10000) (s:f<=100000) (h:cR l f=some (m,b)):ed 171 [.ref 1 0] (IS l 0)<|.ret (.Kp<|.agg<|dMdc m)<|IS l b:=by
 unfold cR at h;let⟨U,h⟩:=Bg h
 split at h
 case isFalse=>cases h
 rename_i M;let⟨V,h⟩:=Bg h;let⟨x,a,g,i,_⟩:=Fw M;rw[i]at h;cases G:RT l f [] 3 with
 |none=>rw[G]at h;cases h
 |some r=>
 rw[G]at h;simp only[E8]at h;cases C:Zp l f [] r.2 with
 |none=>rw[C]at h;cases h
 |some u=>
 rw[C]at h;simp only[E8]at h;let⟨N,h⟩:=Bg h;cases h;obtain⟨D,c⟩:=r;obtain⟨n,e⟩:=u;obtain⟨t,E,v,y⟩:=x;simp only at C N ⊢;refine Ae AQ func171 O [2,3,4,5,6,7,8]<|Au O<|Af O (BV k U) Az O<|Au O<|Af O (EO k a g) Az O<|Au O<|Af O (BV k V) Az O<|Au O<|Fx 3 4 (e:=113) (sz:=2) [.Kp<|.str E,.own 4 0,.NB] (by decide) O ⟨.inl O,.inr ⟨rfl,rfl⟩,.inl O,ab⟩<|Ak (λ_:Nat×L1 Dt×Nat=>[(0,.ref 1 0),(3,.ref 3 0),(2,.ref 2 0)]) (λz=>[(1,some<|pw l z.2.2),(2,some<|.cells 43 3 [.Kp<|.str [],.NB,.NB]),(3,some<|mdB E (z.2.1.map DE).length),(4,some<|.row 113 2<|z.2.1.map DE)]) [5,6,7,8] (λz=>z.1)
  (λz=>z.1+z.2.1.length<=f/\RT l z.1 z.2.1 z.2.2=some (D,c)) (f,[],3) ⟨by simp,G⟩ AB B9 O λz I o=>?_
 obtain⟨f1,d1,J⟩:=z;obtain⟨F,d⟩:=I;simp only at F d o;cases f1 with
 |zero=>simp[RT]at d
 |succ f1=>
 rw[RT]at d;refine AA O ?_;by_cases w:Bh l J [116,121,112,101]=true
 ·rw[ae w]at d;cases p:wF l f1 (J+1)with
  |none=>rw[p]at d;cases d
  |some q=>
  rw[p]at d;simp only[E8]at d;have B:=zh3 k (f:=f1) (by omega) (d:=q.1) (b:=q.2) p;have j:(d1++[q.1]).map DE=d1.map DE++[DE q.1]:=by simp
  obtain⟨⟨Q,R⟩,K⟩:=q;simp only at d B j;exact Af O (DR k w) Az O<|Au O<|Ap O λh=>AA O<|Af O (B) Az O<|Au O<|B1 AQ O ⟨by simp,by simp[maxLen];omega,by simp;omega,ab⟩<|Au O<|AV 4 6 O<|Ad (o (f1,d1++[⟨Q,R⟩],K) (CN _) ⟨by simp only[Bo,C1,Cj];omega,d⟩) AB ⟨rfl,rfl,by rw[j];rfl,by rw[j];rfl,ab⟩ O
 rw[ac w]at d;have w:Bh l J [116,121,112,101]=false:=by simpa using w
 cases d;clear o;refine Af O (Bz w) Az O<|Au O<|Ag O λh=>Aw O<|AA O<|Fx 3 5 (e:=71) (sz:=15) [.Kp<|.str E,.own 4 (D.map DE).length,.own 5 0] (by decide) O ⟨.inl O,.inl O,.inr ⟨rfl,rfl⟩,ab⟩<|Ak (λ_:Nat×L1 Fd×Nat=>[(0,.ref 1 0),(3,.ref 3 0),(2,.ref 2 0)]) (λz=>[(1,some<|pw l z.2.2),(2,some<|.cells 43 3 [.Kp<|.str [],.NB,.NB]),(3,some<|mdB2 E (D.map DE).length (z.2.1.map Ed).length),(4,some<|.row 113 2<|D.map DE),(5,some<|.row 71 15<|z.2.1.map Ed)]) [6,7,8] (λz=>z.1)
  (λz=>z.1+z.2.1.length<=f/\Zp l z.1 z.2.1 z.2.2=some (n,e)) (f,[],c) ⟨by simp,C⟩ AB BA O λz I o=>?_
 clear F;obtain⟨f2,d1,L⟩:=z;obtain⟨F,d⟩:=I;simp only at F d o;cases f2 with
 |zero=>simp[Zp]at d
 |succ f2=>
 rw[Zp]at d;refine AA O ?_;by_cases A:Bh l L [102,117,110]=true
 ·rw[ae A]at d;cases p:zka l f2 (L+1)with
  |none=>rw[p]at d;cases d
  |some q=>
  rw[p]at d;simp only[E8]at d;have B:=zli k (f:=f2) (by omega) (d:=q.1) (b:=q.2) p;have j:(d1++[q.1]).map Ed=d1.map Ed++[Ed q.1]:=by simp
  obtain⟨⟨Q,R,⟨H,P,S,T⟩,⟨M,W,k3,k4⟩,⟨t1,t2,t3,t4,t5⟩⟩,K⟩:=q;simp only at d B j;exact Af O (DR k A) Az O<|Au O<|Ap O λh=>AA O<|Af O (B) Az O<|Au O<|B1 AQ O ⟨by simp,by simp[maxLen];omega,by simp;omega,ab⟩<|Au O<|AV 5 7 O<|Ad (o (f2,d1++[_],K) (CN _) ⟨by simp only[Bo,C1,Cj];omega,d⟩) AB ⟨rfl,rfl,by rw[j];rfl,rfl,by rw[j];rfl,ab⟩ O
 rw[ac A]at d;have A:Bh l L [102,117,110]=false:=by simpa using A
 cases d;clear o;exact Af O (Bz A) Az O<|Au O<|Ag O λh=>Aw O<|BR 4 O<|BR 5 O<|AA O<|Af O (BV k N) Az O<|Au O<|Ah ⟨_,AB⟩
def My {l:S4} (d:s.length<=8000) (e:g<=1000000) (j:KW g s (G3 s 0)=some l) (k:l.length<=10000) (A:f<=100000) (o:El l f 0=some (t,l.length)) (p:Cy t=true):ca 111 [.str s]<|.cg [.agg<|dTmc t,.int .i64 0]:=by have q:=vL s l d g e j;have u:=(wE k f<|by omega).mo _ _ _ o;have w:=Y6 l;have c:=UX t;rw[p]at c;obtain⟨t1,t2,t3,t4,t5⟩:=t;exact Ae AQ func111 O [2,1,3]<|Au O<|Ao [1] [] [(1,1)] O q ab O O<|Au O<|Ag O λh=>AA O<|Af O (u) Az O<|Au O<|Af O (w) Az O<|Au O<|Ag O λh=>AA O<|Ac O c<|Au O<|Ag O λh=>AA O<|Ab O O O
def XN {l:S4} {t:Md} (d:s.length<=8000) (e:g<=1000000) (j:KW g s (G3 s 0)=some l) (k:l.length<=10000) (o:f<=100000) (p:cR l f=some (t,l.length)) (q:E7 t=true):ca 110 [.str s]<|.cg [.agg<|dMdc t,.int .i64 0]:=by have u:=vL s l d g e j;have w:=qB k o p;have A:=Y6 l;have c:=aZ t;rw[q]at c;obtain⟨t1,t2,t3⟩:=t;exact Ae AQ func110 O [2,1,3]<|Au O<|Ao [1] [] [(1,1)] O u ab O O<|Au O<|Ag O λh=>AA O<|Af O (w) Az O<|Au O<|Af O (A) Az O<|Au O<|Ag O λh=>AA O<|Ac O c<|Au O<|Ag O λh=>AA O<|Ab O O O
def W8 (σ:Sb):∀H,(∀i:Nat,i<H->(σ (i:Int)).isSome=true->i+1<=QN σ H)/\(QN σ H=0\/∃i:Nat,i<H/\QN σ H=i+1/\(σ (i:Int)).isSome=true)
 |0=>⟨λi h=>by omega,.inl O⟩
 |H+1=>by let⟨k,o⟩:=W8 σ H;simp only[QN];split;rename_i j;exact⟨λi p _=>by omega,.inr ⟨H,by omega,rfl,j⟩⟩;rename_i j;refine⟨λi p d=>?_,o.imp id λ⟨i,a,b,c⟩=>⟨i,by omega,b,c⟩⟩;by_cases e:i=H;subst e;exact absurd d j;exact k i (by omega) d
def bX {n:Int}:(Ck T n).isSome=true↔∃p∈T,p.1=n:=by induction T with|nil=>simp[Ck]|cons p r c=>{simp only[Ck];split;rename_i h;simp[h];rename_i h;simp[h,c]}
def zfj {H:Nat} (h:∀p∈T,0<=p.1/\p.1<H):oc T=(QN (Ck T) H:Int)-1:=by let⟨k,j⟩:=W8 (Ck T) H;refine zfk (λp d=>?_) ?_ (λp d=>(h p d).1) (by omega);let⟨a,b⟩:=h p d;have:=k p.1.toNat (by omega)<|bX.2 ⟨p,d,by omega⟩;omega;rcases j with j|⟨i,a,b,c⟩;left;omega;right;let⟨p,d,e⟩:=bX.1 c;exact⟨p,d,by omega⟩
noncomputable def zgg (H:Nat):Option Sb->V
 |some c=>ZH (zdf c H)
 |none=>.cg [.sl [],Gb 7]
mutual
def Tk {b:Bool}:∀t:Y,DN b t=true->bS t=true
 |.mk s n x ps,h=>by simp only[DN,Am]at h;let⟨d,j,c,k⟩:=uV h.1;simp only[bS,Qj ps h.2,P7,EJ,Am,am,bne_iff_ne];by_cases e:s=9;right;have:=c e;omega;exact .inl e
def Qj {b:Bool}:∀l:E1,DG b l=true->UK l=true
 |[],_=>rfl
 |t::r,h=>by simp only[DG,Am]at h;simp only[UK,Tk t h.1,Qj r h.2,Ws]
end
def Rd {t:Y} (h:AW true t=true):CY t=true/\gr 100 t/\bS t=true:=by simp only[AW,Am]at h;have:=I6 t h.2;exact⟨this.1,this.2.1,Tk t h.2⟩
def zbp {a b:Y} (h:(AW true a&&AW true b)=true) {r:g5} (q:bB n (λ_=>none) a b r) {H:Nat} (N:H<=100) (u:gr H a) (w:gr H b):ca 13 [.agg<|As a,.agg<|As b]<|zgg H r:=by have j:=h;simp only[Am]at j;let⟨A,_,_⟩:=Rd j.1;let⟨B,_,_⟩:=Rd j.2;have C:mb (H:Int)<|Ck []:=λn t h=>(nomatch h);have c:fv (Ck []) Ay:=fv.mk (λn t h=>nomatch h) (λn h=>rfl) (λn t h=>nomatch h) λn t h=>nomatch h;have D:=xT qw 0 [] (H:=H) n [] a b r q ⟨Ay,c⟩ C A B u w;have G:=Xk (H:=H) q c C A B u w;cases r with|none=>exact zbo a b h D|some I=>{obtain⟨k,J,rfl⟩:=D;obtain⟨⟨K,d⟩,L,_⟩:=G;have E:∀p∈k,0<=p.1/\p.1<(H:Int):=λp o=>by{let⟨t,M⟩:=Nj.1<|bX.2 ⟨p,o,rfl⟩;exact(L _ _ M).1};have F:=sH a b h J d λp o=>by{have:=E p o;omega};have e:zde k K=zdf (Ck k) H:=by{rw[zde,zdf,zfj E,Ps d];congr 2;omega};rw[e]at F;exact F}
def zpy:Z:=[109,111,100,117,108,101,32,109,32,123,32,116,121,112,101,32,76,105,115,116,32,61,32,78,105,108,32,124,32,67,111,110,115,40,105,110,116,44,32,76,105,115,116,41,59,32,102,117,110,32,115,117,109,40,108,32,58,32,76,105,115,116,41,32,58,32,105,110,116,32,61,32,109,97,116,99,104,32,108,32,123,32,78,105,108,32,45,62,32,48,32,124,32,67,111,110,115,40,120,44,32,114,41,32,45,62,32,120,32,43,32,115,117,109,32,114,32,125,59,32,102,117,110,32,109,97,105,110,40,117,32,58,32,117,110,105,116,41,32,58,32,105,110,116,32,61,32,108,101,116,32,99,32,61,32,99,101,108,108,40,78,105,108,41,32,105,110,32,108,101,116,32,120,32,61,32,112,117,116,40,99,44,32,67,111,110,115,40,105,110,112,117,116,44,32,103,101,116,40,99,41,41,41,32,105,110,32,111,117,116,40,49,44,32,115,117,109,32,40,103,101,116,40,99,41,41,41,59,32,125]
def zp1:Z:=[102,117,110,32,102,32,61,62,32,102,32,49]
def zp0:Z:=[102,117,110,32,120,32,61,62,32,120,32,120]
def zpz:Z:=[115,117,109]
def Db:Z:=[76,105,115,116]
def uO (s:Z):L1 iw:=(KW 200 s<|G3 s 0).getD []
def kn:Fd:=⟨[115,117,109],[108],BQ Db,Be,(.mk 15 0 [] [(.mk 4 0 [108] [] []),(.mk 1 0 [] [] []),(.mk 9 0 [] [(.mk 4 0 [120] [] []),(.mk 6 0 [] [(.mk 4 0 [115,117,109] [] []),(.mk 4 0 [114] [] [])] [])] [])] [.mk 6 0 [78,105,108] [],.mk 6 0 [67,111,110,115] [.mk 2 0 [120] [],.mk 2 0 [114] []]])⟩
def jy:Fd:=⟨[109,97,105,110],[117],EN,Be,(.mk 7 0 [99] [(.mk 16 0 [] [(.mk 14 0 [78,105,108] [] [])] []),(.mk 7 0 [120] [(.mk 18 0 [] [(.mk 4 0 [99] [] []),(.mk 14 0 [67,111,110,115] [(.mk 25 0 [] [] []),(.mk 17 0 [] [(.mk 4 0 [99] [] [])] [])] [])] []),(.mk 24 1 [] [(.mk 6 0 [] [(.mk 4 0 [115,117,109] [] []),(.mk 17 0 [] [(.mk 4 0 [99] [] [])] [])] [])] [])] [])] [])⟩
def mK:Md:=⟨[109],[⟨Db,[⟨[78,105,108],[]⟩,⟨[67,111,110,115],[Be,BQ Db]⟩]⟩],[kn,jy]⟩
def wq:Tm:=(.mk 5 0 [102] [(.mk 6 0 [] [(.mk 4 0 [102] [] []),(.mk 1 1 [] [] [])] [])] [])
def t2K:Tm:=(.mk 5 0 [120] [(.mk 6 0 [] [(.mk 4 0 [120] [] []),(.mk 4 0 [120] [] [])] [])] [])
def ws:Tm:=(.mk 4 0 [115,117,109] [] [])
def qC:ca 51 []<|.agg<|dMdc mK:=by have c:=XN (s:=zpy) (l:=uO zpy) (g:=200) (f:=60) (t:=mK) (ao<|by kernel_rfl) (by decide) (by kernel_rfl) (ao<|by kernel_rfl) (by decide) (by kernel_rfl) (by kernel_rfl);exact Ae AQ func51 O [1,2]<|Au O<|Ac O c<|Au O<|Ab O O O
def Vu (h:ca 111 [.str s]<|.cg [.agg<|dTmc t,.int .i64 0]):ca 52 [.str s]<|.agg<|dTmc t:=by obtain⟨t1,t2,t3,t4,t5⟩:=t;exact Ae AQ func52 O [1,2]<|Au O<|Ac O h<|Au O<|Ab O O O
def zny:ca 52 [.str zp1]<|.agg<|dTmc wq:=Vu<|My (l:=uO zp1) (g:=200) (f:=60) (ao<|by kernel_rfl) (by decide) (by kernel_rfl) (ao<|by kernel_rfl) (by decide) (by kernel_rfl) (by kernel_rfl)
def znx:ca 52 [.str zp0]<|.agg<|dTmc t2K:=Vu<|My (l:=uO zp0) (g:=200) (f:=60) (ao<|by kernel_rfl) (by decide) (by kernel_rfl) (ao<|by kernel_rfl) (by decide) (by kernel_rfl) (by kernel_rfl)
def znv:ca 52 [.str zpz]<|.agg<|dTmc ws:=Vu<|My (l:=uO zpz) (g:=200) (f:=60) (ao<|by kernel_rfl) (by decide) (by kernel_rfl) (ao<|by kernel_rfl) (by decide) (by kernel_rfl) (by kernel_rfl)
def oM {op:Int} {ps:E1} {K:T5} (h:Bd m Γ op x ps K τ S) (E:op≠13):S=[]:=by unfold Bd at h;by_cases F:op=1\/op=25;rw[ae F]at h;exact h.2.2;rw[ac F]at h;by_cases G:op=2;rw[ae G]at h;exact h.2.2;rw[ac G]at h;by_cases I:op=3\/op=28;rw[ae I]at h;exact h.2.2;rw[ac I]at h;by_cases J:op=4;rw[ae J]at h;exact h.2.2;rw[ac J]at h;by_cases L:op=5;rw[ae L]at h;obtain⟨_,_,h⟩:=h;exact h.2.2;rw[ac L]at h;by_cases M:op=6;rw[ae M]at h;obtain⟨_,h⟩:=h;exact h.2;rw[ac M]at h;by_cases N:op=7;rw[ae N]at h;obtain⟨_,h⟩:=h;exact h.2;rw[ac N]at h;by_cases Q:op=8;rw[ae Q]at h;exact h.2;rw[ac Q]at h;by_cases R:op=9\/op=10\/op=11;rw[ae R]at h;exact h.2.2;rw[ac R]at h;by_cases U:op=12;rw[ae U]at h;exact h.2.2;rw[ac U]at h;by_cases c:op=13;rw[ae c]at h;exact absurd c E;rw[ac c]at h;by_cases d:op=14;rw[ae d]at h;obtain⟨_,_,h⟩:=h;exact h.2.2.2;rw[ac d]at h;by_cases e:op=15;rw[ae e]at h;obtain⟨_,_,h⟩:=h;exact h.2.2;rw[ac e]at h;by_cases j:op=16;rw[ae j]at h;obtain⟨_,h⟩:=h;exact h.2.2;rw[ac j]at h;by_cases k:op=17;rw[ae k]at h;exact h.2;rw[ac k]at h;by_cases o:op=18;rw[ae o]at h;obtain⟨_,h⟩:=h;exact h.2.2;rw[ac o]at h;by_cases p:op=19;rw[ae p]at h;obtain⟨_,h⟩:=h;exact h.2.2;rw[ac p]at h;by_cases q:op=20;rw[ae q]at h;exact h.2;rw[ac q]at h;by_cases u:op=21;rw[ae u]at h;obtain⟨_,h⟩:=h;exact h.2.2;rw[ac u]at h;by_cases w:op=22;rw[ae w]at h;obtain⟨_,h⟩:=h;exact h.2.2;rw[ac w]at h;by_cases A:op=23;rw[ae A]at h;exact h.2;rw[ac A]at h;by_cases B:op=24;rw[ae B]at h;exact h.2.2;rw[ac B]at h;by_cases C:op=26;rw[ae C]at h;exact h.2.2;rw[ac C]at h;by_cases D:op=27;rw[ae D]at h;exact h.2;rw[ac D]at h;exact h.elim
mutual
def Ok {m:Md}:∀(t:Tm) (Γ:At) (τ:Y) (S:E1),Ue 13 t=false->Do m t Γ τ S->S=[]
 |.mk j n x c ps,Γ,τ,S,w,⟨K,S1,k,d,e,h⟩=>by simp only[Ue,Mb,dh]at w;rw[h,WT c K S1 w.2 e,oM d w.1];rfl
def WT {m:Md}:∀(ts:G1) (K:T5) (S:E1),PO 13 ts=false->Ee m ts K S->S=[]
 |[],[],S,_,c=>c
 |t::ts,k::d,S,w,⟨S1,e,h,j,o⟩=>by simp only[PO,Mb]at w;rw[o,Ok t k.1 k.2 S1 w.1 h,WT ts d e w.2 j];rfl
 |[],_::_,_,_,c=>c.elim
 |_::_,[],_,_,c=>c.elim
end
def znz (h:Do mK wq [] τ S):∃b,τ=By (By Be b) b/\S=[]:=by have o:=Ok wq [] τ S (by decide) h;obtain⟨K,S1,p,j,q,_⟩:=h;have j:∃a b,K=[([]++[([102],a)],b)]/\τ=By a b/\p=[]:=by{simpa[Bd]using j};obtain⟨a,b,rfl,rfl,_⟩:=j;obtain⟨A,_,⟨K,B,u,k,w,_⟩,_,_⟩:=q;have k:∃c,K=[([]++[([102],a)],By c b),([]++[([102],a)],c)]/\u=[]:=by{simpa[Bd]using k};obtain⟨c,rfl,_⟩:=k;obtain⟨_,_,⟨_,_,_,d,_,_⟩,⟨_,_,⟨_,_,_,e,_,_⟩,_,_⟩,_⟩:=w;have d:a=By c b:=by{simp[Bd,B5,Iz]at d;exact d.2.1};have e:c=Be:=by{simp[Bd]at e;exact e.2.1};subst e;subst d;exact⟨b,rfl,o⟩
def uQ (b:Y):Do mK wq [] (By (By Be b) b) []:=⟨[([]++[([102],By Be b)],b)],[],[],(by simp[Bd];exact⟨_,_,⟨rfl,rfl⟩,rfl⟩),⟨[],[],⟨[([]++[([102],By Be b)],By Be b),([]++[([102],By Be b)],Be)],[],[],by simp[Bd],⟨[],[],⟨[],[],[],by simp[Bd,B5,Iz],rfl,rfl⟩,⟨[],[],⟨[],[],[],by simp[Bd],rfl,rfl⟩,rfl,rfl⟩,rfl⟩,rfl⟩,rfl,rfl⟩,rfl⟩
def zjs:¬Do mK t2K [] τ S:=by rintro ⟨K,S1,k,h,o,_⟩;have h:∃a b,K=[([]++[([120],a)],b)]/\τ=By a b/\k=[]:=by{simpa[Bd]using h};obtain⟨a,b,rfl,rfl,_⟩:=h;obtain⟨u,_,⟨K,w,p,j,q,_⟩,_,_⟩:=o;have j:∃c,K=[([]++[([120],a)],By c b),([]++[([120],a)],c)]/\p=[]:=by{simpa[Bd]using j};obtain⟨c,rfl,_⟩:=j;obtain⟨_,_,⟨_,_,_,d,_,_⟩,⟨_,_,⟨_,_,_,e,_,_⟩,_,_⟩,_⟩:=q;have d:a=By c b:=by{simp[Bd,B5,Iz]at d;exact d.2.1};have e:a=c:=by{simp[Bd,B5,Iz]at e;exact e.2.1};have:=af Fz<|e.symm.trans d;simp only[By,Fz,Ex]at this;omega
def znw (h:Do mK ws [] τ S):τ=By (BQ Db) Be/\S=[]:=by have d:=Ok ws [] τ S (by decide) h;obtain⟨K,S1,e,c,j,_⟩:=h;have c:K=[]/\By (BQ Db) Be=τ/\e=[]:=by{simpa[Bd,B5,Iz,mK,U9,kn]using c};exact⟨c.2.1.symm,d⟩
def zjr:Do mK ws [] (By (BQ Db) Be) []:=⟨[],[],[],by simp[Bd,B5,Iz,mK,U9,kn],rfl,rfl⟩
def zdq:Do mK kn.body [(kn.il,kn.from_)] kn.kj []:=by have d:Hv mK (.mk 6 0 [78,105,108] []) (BQ Db) [([108],BQ Db)] [([108],BQ Db)]:=by{simp[Hv,HG,SM,mK];exact⟨_,_,⟨rfl,rfl⟩,rfl,rfl,rfl⟩};have e:Hv mK (.mk 6 0 [67,111,110,115] [.mk 2 0 [120] [],.mk 2 0 [114] []]) (BQ Db) [([108],BQ Db)] [([108],BQ Db),([120],Be),([114],BQ Db)]:=by{simp[Hv,HG,SM,mK];exact⟨_,_,⟨rfl,rfl⟩,rfl,rfl,⟨_,rfl,⟨_,rfl,rfl⟩⟩⟩};have rw:HU mK (BQ Db) [([108],BQ Db)] [.mk 6 0 [78,105,108] [],.mk 6 0 [67,111,110,115] [.mk 2 0 [120] [],.mk 2 0 [114] []]] [[([108],BQ Db)],[([108],BQ Db),([120],Be),([114],BQ Db)]]:=⟨_,_,d,⟨_,_,e,rfl,rfl⟩,rfl⟩;have c:∀(Γ:At) (x:Z) (τ:Y),B5 mK Γ x=some τ->Do mK (.mk 4 0 x [] []) Γ τ []:=λΓ x τ h=>⟨[],[],[],by simp[Bd,h],rfl,rfl⟩;refine⟨[([([108],BQ Db)],BQ Db),([([108],BQ Db)],Be),([([108],BQ Db),([120],Be),([114],BQ Db)],Be)],[],[],?_,?_,rfl⟩;show Bd mK _ 15 _ _ _ _ _;unfold Bd;exact⟨_,_,rw,rfl,rfl⟩;refine⟨[],[],c _ _ _<|by simp[B5,Iz],⟨[],[],⟨[],[],[],by simp[Bd,kn],rfl,rfl⟩,⟨[],[],⟨[([([108],BQ Db),([120],Be),([114],BQ Db)],Be),([([108],BQ Db),([120],Be),([114],BQ Db)],Be)],[],[],by simp[Bd],?_,rfl⟩,rfl,rfl⟩,rfl⟩,rfl⟩;refine⟨[],[],c _ _ _<|by simp[B5,Iz],⟨[],[],⟨[([([108],BQ Db),([120],Be),([114],BQ Db)],By (BQ Db) Be),([([108],BQ Db),([120],Be),([114],BQ Db)],BQ Db)],[],[],by simp[Bd],⟨[],[],c _ _ _<|by simp[B5,Iz,U9,mK,kn],⟨[],[],c _ _ _<|by simp[B5,Iz],rfl,rfl⟩,rfl⟩,rfl⟩,rfl,rfl⟩,rfl⟩
def zat (S:E1):¬Do mK jy.body [(jy.il,jy.from_)] jy.kj S:=by rintro ⟨K,S1,e,c,h,_⟩;have c:∃a,K=[([([117],EN)],a),([([117],EN)]++[([99],a)],Be)]/\e=[]:=by{simpa[Bd,jy]using c};obtain⟨a,rfl,_⟩:=c;obtain⟨_,_,_,⟨_,_,⟨K,p,j,d,k,_⟩,_,_⟩,_⟩:=h;have d:∃b,K=[([([117],EN)]++[([99],a)],b),([([117],EN)]++[([99],a)]++[([120],b)],Be)]/\j=[]:=by{simpa[Bd,jy]using d};obtain⟨b,rfl,_⟩:=d;obtain⟨_,_,_,⟨_,_,⟨K,q,u,o,w,_⟩,_,_⟩,_⟩:=k;simp[Bd,Be,EN]at o
structure q7 (m:Md) (a i:Nat) (l:List Nat):Prop where
 nd:l.Nodup
 lt:∀j∈l,j<m.cc.length
 has:a∈l
 vc:∀j∈l,qr m a j
 done:∀p j f k g,p<i->l[p]?=some j->m.cc[j]?=some f->m.cc[k]?=some g->eC 4 g.name f.body=true->k∈l
def Zt (h:l.Nodup) (c:∀x∈l,x<n):l.length<=n:=by have:=SN (l:=l.map λi:Nat=>(i:Int)) (n:=n) (fw _ (λa b h e=>h<|cW.1 e) h) λx d=>by{obtain⟨y,j,rfl⟩:=CC.1 d;have:=c y j;omega};rw[CD]at this;omega
def q7.len (h:q7 m a i l):l.length<=m.cc.length:=Zt h.nd h.lt
def q7.init (h:a<m.cc.length):q7 m a 0 [a]:=⟨by simp,λj c=>by rw[AJ.1 c];exact h,by simp,λj c=>by rw[AJ.1 c];exact .base,λp j f k g d=>by omega⟩
def q7.all (h:q7 m a i l) (u:l.length<=i):∀j,qr m a j->j∈l:=by intro j d;induction d with|base=>exact h.has|step _ e k o q=>{let⟨p,c⟩:=EI.1 q;exact h.done p _ _ _ _ (by have:=(A9.1 c).1;omega) c e k o}
structure mp (m:Md) (a i k:Nat) (l:List Nat):Prop where
 b:q7 m a i l
 now:∀j f k' g,l[i]?=some j->m.cc[j]?=some f->k'<k->m.cc[k']?=some g->eC 4 g.name f.body=true->k'∈l
def q7.k (h:q7 m a i l):mp m a i 0 l:=⟨h,λj f c g _ _ d=>by omega⟩
def mp.next {k:Nat} (h:mp m a i k l) (w:m.cc.length<=k):q7 m a (i+1) l:=by refine⟨h.b.nd,h.b.lt,h.b.has,h.b.vc,λp j f d g A o q c u=>?_⟩;by_cases e:p=i;subst e;exact h.now j f d g o q (by have:=(A9.1 c).1;omega) c u;exact h.b.done p j f d g (by omega) o q c u
def mp.skip {k:Nat} (h:mp m a i k l) (hn:k∈l\/∀j f g,l[i]?=some j->m.cc[j]?=some f->m.cc[k]?=some g->eC 4 g.name f.body=false):mp m a i (k+1) l:=by refine⟨h.b,λj f c g d o u p q=>?_⟩;by_cases e:c=k;subst e;rcases hn with hn|hn;exact hn;have:=hn j f g d o p;rw[q]at this;cases this;exact h.now j f c g d o (by omega) p q
def mp.add {k:Nat} {j:Nat} {f g:Fd} (h:mp m a i k l) (G:k∉l) (D:l[i]?=some j) (I:m.cc[j]?=some f) (E:m.cc[k]?=some g) (J:eC 4 g.name f.body=true):mp m a i (k+1)<|l++[k]:=by have K:i<l.length:=(A9.1 D).1;have c:∀p,p<=i->(l++[k])[p]?=l[p]?:=λp F=>M2 (by omega);refine⟨⟨?_,?_,?_,?_,?_⟩,?_⟩;rw[D2];exact⟨h.b.nd,by simp,λx hx y L e=>by rw[AJ.1 L]at e;exact G<|e▸hx⟩;intro x hx;rcases AT.1 hx with hx|hx;exact h.b.lt x hx;rw[AJ.1 hx];exact(A9.1 E).1;exact Im _ h.b.has;intro x hx;rcases AT.1 hx with hx|hx;exact h.b.vc x hx;rw[AJ.1 hx];exact .step (h.b.vc j<|AE D) I E J;intro p A B w C F d o q u;rw[c p<|by omega]at d;exact Im _<|h.b.done p A B w C F d o q u;intro A B w C d o M q u;rw[c i<|B6 _]at d;by_cases e:w=k;subst e;simp;exact Im _<|h.now A B w C d o (by omega) q u
def zma (m:Md) (op:Int) (l:L1 Nat):Bool:=l.any λj=>match m.cc[j]? with
 |some f=>Ue op f.body
 |none=>false
def WH (l:L1 Int) (x:Int):L1 Int:=if x∈l then l else l++[x]
def gM (l:K2) (x:Int):GE (Fh l) (.int .i64 x) (.bool true)=Fh (WH l x):=by unfold WH;by_cases h:x∈l;rw[ae h];exact V9 h;rw[ac h];exact KZ h
def zfn {l:K2} {x:Int}:y∈WH l x↔y∈l\/x=y:=by unfold WH;split;rename_i h;exact⟨.inl,λc=>c.elim id λe=>e▸h⟩;simp[fq]
def zg5 {l:E2} {y:Z}:AR (PK l x) y=(AR l y||x==y):=by have c:∀a b:E2,AR (a++b) y=(AR a y||AR b y):=λa b=>by{induction a with|nil=>rfl|cons z r d=>{simp only[DV,AR,d,cZ]}};unfold PK;split;rename_i h;by_cases e:x=y;subst e;simp[h];simp[e];rw[c];simp[AR]
mutual
def UE:Tm->L1 Int×L1 Z->L1 Int×L1 Z
 |.mk c _ x d _,z=>K7 d (WH z.1 c,if c=4 then PK z.2 x else z.2)
def K7:L1 Tm->L1 Int×L1 Z->L1 Int×L1 Z
 |[],z=>z
 |t::r,z=>K7 r<|UE t z
end
mutual
def SJ {y:Int}:∀(t:Tm) (z:K2×E2),y∈(UE t z).1↔y∈z.1\/Ue y t=true
 |.mk d n x c ps,z=>by simp only[UE,Ue,Xn c,zfn,EJ,an,di]
def Xn {y:Int}:∀(ts:G1) (z:K2×E2),y∈(K7 ts z).1↔y∈z.1\/PO y ts=true
 |[],z=>by simp[K7,PO]
 |t::r,z=>by simp only[K7,PO,Xn r,SJ t,EJ,di]
end
mutual
def Xo {y:Z}:∀(t:Tm) (z:K2×E2),AR (UE t z).2 y=(AR z.2 y||eC 4 y t)
 |.mk c n x d ps,z=>by simp only[UE,eC,aK d];by_cases e:c=4;subst e;simp[zg5,cZ];simp[e,show(c==4)=false by simpa using e]
def aK {y:Z}:∀(ts:G1) (z:K2×E2),AR (K7 ts z).2 y=(AR z.2 y||lB 4 y ts)
 |[],z=>by simp[K7,lB]
 |t::r,z=>by simp only[K7,lB,aK r,Xo t,cZ]
end
def YN {t:Tm}:∀{l:G1},t∈l->NY t<=E4 l
 |x::r,h=>by simp only[E4];rcases Cu.1 h with rfl|h;omega;have:=YN h;omega
def ww (z:L1 Int×L1 Z):St:=[(1,some<|.map<|Fh z.1),(2,some<|.map<|Dp z.2)]
def TW:∀(b:Nat) (t:Tm) (z:K2×E2),NY t<=b->ed 93 [.Kp<|.agg<|dTmc t,.cf 1,.cf 2] (ww z) (.ret (.Kp<|.cg [])<|ww<|UE t z)
 |0,t,z,L=>by have:=uT t;omega
 |b+1,.mk o n x q ps,z,L=>by have U:=gM z.1 o;have V:=gL z.2 x;have M:=λ(u:Tm) (A:u∈q) (z:K2×E2)=>TW b u z (by have:=YN A;simp only[NY]at L;omega);obtain⟨d,k⟩:=z;simp only[UE];refine Gt 0 O λD=>?_;simp[GA,DF,maxLen,dTmc]at D;refine Ae ttY_ok func93 O [3,4,5]<|Aj O<|Ey ttY_ok O O O (Dz d) ?_;rw[U];refine Aj O ?_;have F:4=o->GE (Dp k) (.str x) (.bool true)=Dp (if o=4 then PK k x else k):=λe=>by{rw[V,ae e.symm]};have G:o≠4->k=if o=4 then PK k x else k:=λe=>by{rw[ac e]};have N:∀c,c=(if o=4 then PK k x else k)->ia Tryz.f93.ntmps (CB<|ww (d,k)) (IZ XV Tryz.f93.results.toList<|.ret (.Kp<|.cg [])<|ww<|K7 q (WH d o,if o=4 then PK k x else k)) [.code<|Ek Tryz.f93 3] [(3,.ref 3 0),(1,.cf 1),(2,.cf 2)] ((3,some<|.NA 49 5<|dTmc<|.mk o n x q ps)::ww (WH d o,c)) [4,5]:=by{intro c e;subst e;generalize(if o=4 then PK k x else k)=c at *;generalize WH d o=I at *;refine A0 O<|Ak (λz:Nat×K2×E2=>[(20,i7 z.1),(19,i7 q.length),(18,.Kp<|.sl<|Ci q),(1,.cf 1),(2,.cf 2)]) (λz=>ww z.2) [4,5] (λz=>q.length-z.1) (λz=>z.1<=q.length/\K7 (q.drop z.1) z.2=K7 q (I,c)) (0,I,c) ⟨AK _,rfl⟩ ⟨rfl,B2<|by simp,AB⟩ AL O λz a Q=>?_;obtain⟨j,d1,R⟩:=z;obtain⟨J,p⟩:=a;simp only at J p Q;generalize K7 q (I,c)=E at *;refine A0 O<|Aa O (λh=>?_) λh=>?_;have B:j<q.length:=by{simp at h;omega};let⟨u,A⟩:=Aq B;have f:=Ec A;have g:=M u (AE A) (d1,R);rw[Av A,K7]at p;generalize UE u (d1,R)=w at *;obtain⟨i,l,m,r,s⟩:=u;exact A0 O<|XU O f<|Aj O<|Ao [] j7 [] O g oO O O<|Aj O<|Ad (Q (j+1,w) (by simp only;omega) ⟨by simp only;omega,p⟩) ⟨Bc,B9⟩ AL O;have B:¬j<q.length:=by{simp at h;omega};rw[Bt<|by omega]at p;simp only[K7]at p;subst p;exact Aw O<|A0 O<|Bq ⟨[],B9⟩};clear M;by_cases C:o=4;have K:=F C.symm;refine Aa O (λh=>?_) (λh=>by exfalso;simp at h;exact h C);refine A0 O<|Ey ttY_ok O O O (Da k) ?_;rw[K];refine PP<|Mr ?_ ?_ ?_ (N _ O);exact AB;exact AB;rfl;have K:=G C;refine Aa O (λh=>by exfalso;simp at h;exact C h) λh=>?_;refine Fe<|Mr ?_ ?_ ?_ (N _ K);exact AB;exact AB;rfl
def aO (l:L1 Nat):L1<|L1 V:=L5 (l.map λi:Nat=>(i:Int))
@[simp] theorem qx (l:L1 Nat):(aO l).length=l.length:=by simp[aO]
def zl2 (a b:K1):aO (a++b)=aO a++aO b:=by simp[aO,L5]
def zfi (m:Md) (s:Z) (l:L1 Nat):Bool:=l.any λj=>match m.cc[j]? with
 |some f=>eC 4 s f.body
 |none=>false
structure px (m:Md) (a:Nat) (l:List Nat) (z:List Int×List Z):Prop where
 nd:l.Nodup
 lt:∀j∈l,j<m.cc.length
 has:a∈l
 vc:∀j∈l,qr m a j
 dos:∀y,y∈z.1↔zma m y l=true
 nam:∀s,AR z.2 s=zfi m s l
def px.init {f:Fd} (h:m.cc[a]?=some f):px m a [a]<|UE f.body ([],[]):=by have c:=(A9.1 h).1;refine⟨by simp,λj d=>by rw[AJ.1 d];exact c,by simp,λj d=>by rw[AJ.1 d];exact .base,λy=>?_,λs=>?_⟩;rw[SJ];simp[zma,h];rw[Xo];simp[zfi,h,AR]
def px.add {k:Nat} {z:K2×E2} {g:Fd} (h:px m a l z) (c:m.cc[k]?=some g) (u:k∉l) (q:AR z.2 g.name=true):px m a (l++[k])<|UE g.body z:=by have o:=(A9.1 c).1;refine⟨?_,λj hj=>?_,Im _ h.has,λj hj=>?_,λy=>?_,λs=>?_⟩;rw[D2];exact⟨h.nd,by simp,λx w y A e=>by rw[AJ.1 A]at e;exact u<|e▸w⟩;rcases AT.1 hj with hj|hj;exact h.lt j hj;rw[AJ.1 hj];exact o;rcases AT.1 hj with hj|hj;exact h.vc j hj;rw[AJ.1 hj];rw[h.nam,zfi,Fb]at q;obtain⟨i,B,d⟩:=q;cases p:m.cc[i]? with|none=>rw[p]at d;cases d|some f=>{rw[p]at d;exact .step (h.vc i B) p c d};rw[SJ,h.dos];simp[zma,KL,c];rw[Xo,h.nam];simp[zfi,KL,c]
open Classical in
theorem px.fin {z:K2×E2} (h:px m a l z) (p:∀(k:Nat) (g:Fd),m.cc[k]?=some g->AR z.2 g.name=true->k∈l) (op:Int):decide (op∈z.1)=zh0 m a op:=by have d:∀j,qr m a j->j∈l:=λj q=>by{induction q with|base=>exact h.has|step _ e u w A=>{refine p _ _ u ?_;rw[h.nam,zfi,Fb];exact⟨_,A,by rw[e];exact w⟩}};unfold zh0;rw[ee,h.dos,zma,Fb];constructor;rintro ⟨j,o,c⟩;cases e:m.cc[j]? with|none=>rw[e]at c;cases c|some f=>{rw[e]at c;exact⟨j,f,h.vc j o,e,c⟩};rintro ⟨j,f,o,c,B⟩;exact⟨j,d j o,by rw[c];exact B⟩
def px.len {z:K2×E2} (h:px m a l z):l.length<=m.cc.length:=Zt h.nd h.lt
def U4 (l:L1 Nat):L1 Int:=l.map λi:Nat=>(i:Int)
def jE {k:Nat}:(k:Int)∈U4 l↔k∈l:=by simp only[U4,CC,cW,exists_eq_right]
def kH (m:Md) (a:Nat) (hm:Li m=true) (ha:a<m.cc.length) (hl:m.cc.length<=1000000):ca 32 [.agg<|dMdc m,.int .i64 a]<|.cg [.sl<|L5<|zlw m a,Gb 0]:=by have n:=JZ m;rw[hm]at n;let⟨f,r⟩:=Aq ha;have o:=Rq r;have s:=λt z=>TW (NY t) t z<|B6 _;have B:=s f.body ([],[]);have hI:=px.init r;generalize UE f.body ([],[])=z0 at *;obtain⟨R,U,c⟩:=m;obtain⟨f1,f2,⟨a1,a2,a3,a4⟩,⟨F,b2,b3,b4⟩,⟨t1,t2,t3,t4,t5⟩⟩:=f;simp only at B ha hl;refine Ae ttY_ok func32 O [6,1,2,3,7,8,9,10]<|Aj O<|Ac O n<|C3 O<|Aa O (λv=>?_) λv=>?_;exfalso;simp at v;omega;refine A0 O<|Es O<|Aj O<|Es O<|Aj O<|Es O<|Aj O<|Ey ttY_ok O O O (Dz [])<|Aj O<|yi O (c:=Ed ⟨f1,f2,.mk a1 a2 a3 a4,.mk F b2 b3 b4,.mk t1 t2 t3 t4 t5⟩) (λ_=>⟨by simp,by simpa using o,by simp[Ed]⟩) (by simp)<|Aj O<|Ao [] j7 [] O B oO O O<|Aj O ?_;clear B n v o;refine Ak (λz:K1×K2×E2=>[(6,.cf 1),(7,.cf 2),(8,.cf 3),(2,.ref 6 0)]) (λz=>[(1,some<|.map<|Fh z.2.1),(2,some<|.map<|Dp z.2.2),(3,some<|.map<|Fh<|U4 z.1),(6,some<|.NA 43 3<|dMdc ⟨R,U,c⟩)]) [7,8,9,10] (λz=>c.length-z.1.length) (λz=>px ⟨R,U,c⟩ a z.1 z.2) ([a],z0) hI B9 B9 O λz x E=>?_;clear hI;obtain⟨l,d,p⟩:=z;simp only at x E;refine A0 O<|Ak (λi:Nat=>[(44,i7 i),(43,i7 c.length),(42,.Kp<|.sl<|c.map Ed),(6,.cf 1),(7,.cf 2),(8,.cf 3),(2,.ref 6 0)]) (λ_=>[(1,some<|.map<|Fh d),(2,some<|.map<|Dp p),(3,some<|.map<|Fh<|U4 l),(6,some<|.NA 43 3<|dMdc ⟨R,U,c⟩)]) [7,8,9,10] (λi=>c.length-i) (λi=>i<=c.length/\∀(k:Nat) (g:Fd),k<i->c[k]?=some g->AR p g.name=true->k∈l) 0 ⟨AK _,λk g h=>by omega⟩ ⟨rfl,B2<|by simp,BA⟩ B9 O λi hi jh=>?_;obtain⟨nr,G⟩:=hi;refine A0 O<|Aa O (λh=>?_) λh=>?_;have j:i<c.length:=by{simp at h;omega};let⟨g,o⟩:=Aq j;have y:=Rq o;have hC:=s g.body (d,p);have u:=λh1 h2=>x.add (k:=i) (g:=g) o h1 h2;have I:GE (Fh<|U4 l) (.int .i64 i) (.bool true)=Fh (WH (U4 l) i):=gM _ _;have C:decide ((i:Int)∈U4 l)=decide (i∈l):=by{rw[ee];exact jE};obtain⟨H,g2,⟨c1,c2,c3,c4⟩,⟨d1,d2,d3,d4⟩,⟨u1,u2,u3,u4,u5⟩⟩:=g;simp only at hC u;generalize UE (.mk u1 u2 u3 u4 u5) (d,p)=z1 at *;refine A0 O<|yi O (c:=Ed ⟨H,g2,.mk c1 c2 c3 c4,.mk d1 d2 d3 d4,.mk u1 u2 u3 u4 u5⟩) (λ_=>⟨by simp,by simpa using y,by simp[Ed]⟩) (by simp)<|Aj O<|CR ttY_ok 2 O O O (Da p) (by simp[A1]) (z:=.bool false) O (λ_=>.bool _) (Hi p H)<|C3 O<|CR ttY_ok 3 O O O (Dz<|U4 l) (by simp[A1]) (z:=.bool false) O (λ_=>.bool _) (by rw[Ib,C])<|C3 O ?_;generalize P:AR p H=F at *;refine Aa O (λh=>?_) λh=>?_;have S:F=true/\i∉l:=by{by_cases e:i∈l;cases F<;>simp[e]at h;cases F<;>simp[e]at h ⊢};obtain⟨rfl,J⟩:=S;have K:=u J O;have T:WH (U4 l) i=U4 (l++[i]):=by{unfold WH;rw[ac λh=>J<|jE.1 h];simp[U4]};rw[T]at I;have W:=K.len;simp only[Bo,C1,Cj]at W;refine A0 O<|Ey ttY_ok O O O (Dz<|U4 l) ?_;rw[I];exact Aj O<|Ao [] j7 [] O hC oO O O<|Aj O<|Ad (E (l++[i],z1) (by simp only[Bo,C1,Cj];omega) K) B9 B9 O;have hkk:∀(k:Nat) (g:Fd),k<i+1->c[k]?=some g->AR p g.name=true->k∈l:=λk g hk D hn=>by{by_cases e:k=i;subst e;rw[o]at D;cases D;rw[P]at hn;subst hn;simpa using h;exact G k g (by omega) D hn};exact A0 O<|Ad (jh (i+1) (by omega) ⟨by omega,hkk⟩) ⟨Bc,GW⟩ B9 O;have j:¬i<c.length:=by{simp at h;omega};have w:=x.fin λk g o=>G k g (by have:=(A9.1 o).1;simp only at this;omega) o;clear E jh s r;unfold zlw;simp only at w;generalize zh0 ⟨R,U,c⟩ a=V at *;refine Aw O<|Aw O<|A0 O<|K9 (e:=45) (sz:=1) 11 7 (by decide) O ?_;generalize M:(λq:Nat=>((List.range q).map λi:Nat=>16+(i:Int)).filter V)=L at *;have A:(((List.range 13).map λi:Nat=>16+(i:Int)).filter V)=L 13:=by{rw[<- M]};have N:L 0=[]:=by{rw[<- M];rfl};have hLs:∀q,L (q+1)=L q++if V (16+(q:Int))=true then[16+(q:Int)]else[]:=λq=>by{rw[<- M];simp only[cX,CG,fh,CK,KM,qY,List.filter_nil]};have hLl:∀q,(L q).length<=q:=λq=>by{rw[<- M];exact zks (List.length_filter_le _ _)<|by simp};rw[A];clear M A;refine Ak (λq:Nat=>[(12,i7<|(16+(q:Int))),(11,.own 7 (L5<|L q).length),(6,.cf 1)]) (λq=>[(1,some<|.map<|Fh d),(7,some<|.row 45 1<|L5<|L q)]) [8,9,10] (λq=>13-q) (λq=>q<=13) 0 (AK _) ⟨rfl,by rw[N];rfl,AD⟩ ⟨rfl,by rw[N];rfl,ab⟩ O λq hq E=>?_;refine A0 O<|Aa O (λh=>?_) λh=>?_;have j:q<13:=by{simp at h;omega};have Q:=hLs q;have hll:=hLl q;have C:=w<|16+(q:Int);refine A0 O<|CR ttY_ok 1 O O O (Dz d) (by simp[A1]) (z:=.bool false) O (λ_=>.bool _) (by rw[Ib,C]) ?_;generalize V (16+(q:Int))=b at *;refine Aj O ?_;cases b with|false=>refine Ag O λh=>A0 O ?_;rw[ac<|by simp,M1]at Q;exact Ad (E (q+1) (by omega)<|by omega) ⟨B2 (by rw[Gi (by omega)<|by omega];omega),by rw[Q];rfl,AD⟩ ⟨rfl,by rw[Q];rfl,ab⟩ O|true=>{refine Ap O λh=>A0 O<|B1 ttY_ok O ⟨by simp,by simp[maxLen];omega,by simp;omega,ab⟩<|Aj O ?_;rw[ae O]at Q;have et:L5 (L<|q+1)=L5 (L q)++[[.int .i64<|16+(q:Int)]]:=by{rw[Q,eN];rfl};exact AV 7 8 O<|Ad (E (q+1) (by omega)<|by omega) ⟨B2 (by rw[Gi (by omega)<|by omega];omega),by rw[et];rfl,AD⟩ ⟨rfl,by rw[et];rfl,ab⟩ O};have j:q=13:=by{simp at h;omega};subst j;exact Aw O<|BR 7 O<|A0 O<|Ab O O O
def zoh:E7 mK=true:=by kernel_rfl
def zm8:v8 mK/\zjc mK:=zfl zoh
def zjh:MA mK=(2,1):=by have c:PU mK jy=false:=zig zat;have d:PU mK kn=true:=by{rw[zif (N:=[]) zdq λS h=>⟨Ay,(Ok kn.body _ _ S (by decide) h).symm⟩];rfl};have d0:eM mK 0 mK.SA.length []=none:=by{kernel_rfl};have f0:WZ mK 0=false:=by{have e:WZ mK 0 = !(!((mK.cc.take 0).any λe=>e.name==kn.name)&&((Ej [kn.from_,kn.kj]).all (Yf mK)&&PU mK kn)):=rfl;rw[e,d];decide};have f1:WZ mK 1=true:=by{have e:WZ mK 1 = !(!((mK.cc.take 1).any λe=>e.name==jy.name)&&((Ej [jy.from_,jy.kj]).all (Yf mK)&&PU mK jy)):=rfl;rw[e,c];simp};have j:HL mK 0=(0,0):=by{unfold HL;rw[ae O,d0]};have l1:HL mK 1=(2,1):=by{unfold HL;rw[ac<|by decide,ae O,show mK.cc.length=2 from rfl];simp[Yr,f0,f1]};unfold MA;rw[j,l1];rfl
def zlv:zlw mK 0=[]:=by have o:∀j,qr mK 0 j->j=0:=λj h=>by{induction h with|base=>rfl|@step j k f g _ p d q u=>{subst u;cases p;have w:k<2:=(A9.1 d).1;match k,w,d with|0,_,_=>rfl|1,_,d=>{cases d;exact absurd q (by decide)}}};unfold zlw;rw[List.filter_eq_nil_iff];intro D c h;simp only[zh0,am]at h;obtain⟨j,f,A,B,e⟩:=h;obtain rfl:=o j A;cases B;simp only[CC,OW]at c;obtain⟨i,C,rfl⟩:=c;have:∀i:Nat,i<13->Ue (16+(i:Int)) kn.body=false:=by{decide};rw[this i C]at e;cases e
def mO:∀n,JU [] n=n
 |0=>rfl
 |n+1=>by rw[Ei,mO n];simp
def zfc (k:Nat):FI [] k=k:=by have:=(Oc [] k).2;rwa [mO]at this
def yR:ca 13 [.agg<|As<|By (Ay 0) Be,.agg<|As<|By CE<|Ay 1]<|.cg [.sl<|A3 [CE,Be],Gb 0]:=by have q:gr (2:Nat)<|By (Ay 0) Be:=by{intro m j;simp[By,Be,Ay,Dv,D4]at j;omega};have u:gr (2:Nat)<|By CE<|Ay 1:=by{intro m j;simp[By,CE,Ay,Dv,D4]at j;omega};have C:hQ (2:Nat) λ_=>none:=zB (by omega);let⟨n,r,D,w⟩:=zeg C (a:=By (Ay 0) Be) (b:=By CE<|Ay 1) (by decide) (by decide) q u;have A:=zbp (H:=2) (a:=By (Ay 0) Be) (b:=By CE<|Ay 1) (by decide) D (by omega) q u;cases r with|none=>exact absurd rfl (w (λn=>if n=0 then CE else Be) () λn t h=>nomatch h)|some c=>{obtain⟨_,⟨_,K,k,d⟩,E,_⟩:=w;have o:=(E k d.eq).2;simp only[By,Be,CE,Ay,AI,Dq,Y.mk.injEq,Cr]at o;simp at o;obtain⟨F,B⟩:=o;have p:(c 1).isSome=true:=by{cases e:c 1 with|some t=>rfl|none=>{have:=d.free 1 e;rw[<- B]at this;cases this}};have G:QN c 2=2:=by{show(if(c ((1:Nat):Int)).isSome then 1+1 else QN c 1)=2;exact ae p};have I:zdf c 2=[CE,Be]:=by{rw[zdf,G,Ps d];show[k 0,k 1]=[CE,Be];rw[F,<- B];rfl};have J:zgg 2 (some c)=.cg [.sl<|A3 [CE,Be],Gb 0]:=by{rw[zgg,I,ZH,ae<|by decide]};rw[J]at A;exact A}
def zgz:ca 14 [.agg<|As<|By (Ay 0)<|Ay 0,.agg<|As<|By Be CE]<|.cg [.bool false,.int .i64 0]:=by have h:=dV (By (Ay 0)<|Ay 0)<|By Be CE;rw[show(AW true (By (Ay 0)<|Ay 0)&&AW true (By Be CE)&&(jH (By (Ay 0)<|Ay 0) (By Be CE) λ_=>none).isSome)=false by kernel_rfl]at h;exact h
def eA (h:Mh mK [] t=true) (c:Ax t=true) (d:NY t<=100000):∃r,Ct mK [] t 0 (λ_=>none) r/\ca 26 [.agg<|dMdc mK,.sl [],.agg<|dTmc t] (JL [] r):=ZM zm8.1.closed [] t h (λp e=>by cases e) c d
def ZQ (e:Ct mK [] t 0 (λ_=>none) r) {j:Y} {o:E1} (q:Do mK t [] j o):∃T N,zq1 mK [] t T N/\CY T=true/\JL [] r=if N.all DA=true then Nx [] T else .cg [.agg<|As MC,Gb 7]:=by have d:kb []:=λp u=>by{cases u};cases r with|none=>exact absurd q (sR d e _ _)|some z=>{obtain⟨τ,k,w,N⟩:=z;obtain⟨h,c⟩:=e.1.2.1.2.2;refine⟨AI h τ,N.map<|AI h,Lr d e c,Vh (λn=>c.ny n) _ e.2.1,?_⟩;simp only[JL,Ps c]}
def zlb:ca 26 [.agg<|dMdc mK,.sl [],.agg<|dTmc wq]<|.cg [.agg<|As<|By (By Be<|Ay 0)<|Ay 0,Gb 0]:=by let⟨r,k,d⟩:=eA (t:=wq) (by kernel_rfl) (by kernel_rfl) (by decide);let⟨T,N,j,o,p⟩:=ZQ k<|uQ<|Ay 0;obtain⟨b,rfl,q⟩:=znz j.1;subst q;let⟨u,c,_⟩:=j.2 _ _<|uQ<|Ay 0;have w:∃n,b=Ay n:=by{have h:CY b=true:=GS o b (by simp[By,HJ]);simp only[By,Be,Ay,AI,Dq,Y.mk.injEq,Cr]at c;simp at c;by_cases e:CS b=9;exact⟨num b,Fp h e⟩;let⟨f,n,x,F,A,B⟩:=nE (θ:=u) e;rw[B]at c;simp at c;exact absurd c.1 A};obtain⟨n,rfl⟩:=w;rw[p]at d;have C:(if([]:E1).all DA=true then Nx [] (By (By Be<|Ay n)<|Ay n)else .cg [.agg<|As MC,Gb 7])=.cg [.agg<|As<|By (By Be<|Ay 0)<|Ay 0,Gb 0]:=by{have D:D5 (By (By Be<|Ay n)<|Ay n) []=[n]:=by{simp[D5,CF,By,Be,Ay]};have E:Fv [] [n] (By (By Be<|Ay n)<|Ay n)=By (By Be<|Ay 0) (Ay 0):=by{simp[Fv,FP,By,Be,Ay,zfc]};simp only[Ng,aw];rw[Nx,D,E,ae<|by simp[By,Be,Ay,Fz,Ex],ae<|by kernel_rfl]};rw[C]at d;exact d
def zla:ca 26 [.agg<|dMdc mK,.sl [],.agg<|dTmc t2K]<|.cg [.agg<|As MC,Gb 7]:=by let⟨r,e,h⟩:=eA (t:=t2K) (by kernel_rfl) (by kernel_rfl) (by decide);have c:kb []:=λp j=>by{cases j};cases r with|none=>exact h|some z=>{obtain⟨τ,k,o,N⟩:=z;obtain⟨q,d⟩:=e.1.2.1.2.2;exact absurd (Lr c e d).1 zjs}
def zk9:ca 26 [.agg<|dMdc mK,.sl [],.agg<|dTmc ws]<|.cg [.agg<|As<|By (BQ Db) Be,Gb 0]:=by let⟨r,d,c⟩:=eA (t:=ws) (by kernel_rfl) (by kernel_rfl) (by decide);let⟨T,N,e,o,h⟩:=ZQ d zjr;obtain⟨rfl,rfl⟩:=znw e.1;rw[h]at c;have j:Fv [] (D5 (By (BQ Db) Be) []) (By (BQ Db) Be)=By (BQ Db) Be:=by{simp[Fv,FP,By,Be,BQ]};have k:(if([]:E1).all DA=true then Nx [] (By (BQ Db) Be)else .cg [.agg<|As MC,Gb 7])=.cg [.agg<|As<|By (BQ Db) Be,Gb 0]:=by{simp only[Ng,aw];rw[Nx,j,ae<|by simp[By,Be,BQ,Fz,Ex],ae<|by kernel_rfl]};rw[k]at c;exact c
def yN:ca 35 [.agg<|dMdc mK]<|.cg [.int .i64 2,.int .i64 1,Gb 0]:=by have h:=zbn (m:=mK) λ_=>zm8;rw[zjh,ae<|by kernel_rfl,ac<|by decide]at h;exact h
def zlx:ca 32 [.agg<|dMdc mK,.int .i64 0]<|.cg [.sl [],Gb 0]:=by have h:=kH mK 0 (by kernel_rfl) (by decide) (by decide);rw[zlv]at h;exact h
def jU:ca 12 []<|.bool true:=by have k:=yK 0;have o:=yK 1;have d:=zpi;have p:=zmm;have c:=zpk;have e:=qC;have j:∀a:Y,ca 21 [.agg<|As a,.agg<|As a]<|.bool true:=λa=>by{have:=NS a a;rwa [(Rg a a).2 O]at this};refine Ae ttY_ok func12 O [1,2,3,4,5,6,7]<|Aj O<|Ac O k<|Aj O<|Ac O o<|Aj O<|Ac O d<|Aj O<|Ac O (c (Ay 0) Be)<|Aj O<|Ac O p<|Aj O<|Ac O (c CE<|Ay 1)<|Aj O<|Ac O yR<|yg [] O (by simp;kernel_rfl)<|Ac O (c (Ay 0)<|Ay 0)<|Aj O<|Ac O d<|Aj O<|Ac O p<|Aj O<|Ac O (c Be CE)<|Aj O<|Ac O zgz<|Aj O<|Ac O e<|Aj O<|Ac O zny<|Aj O<|Ac O zlb<|Aj O<|Ac O e<|Aj O<|Ac O znx<|Aj O<|Ac O zla<|Aj O<|Ac O e<|Aj O<|Ac O znv<|Aj O<|Ac O zk9<|Aj O<|Ac O e<|Aj O<|Ac O yN<|Aj O<|Ac O e<|Aj O<|Ac O zlx<|C3 O<|Aa O (λh=>by cases h) λh=>?_;exact A0 O<|yi O (c:=As CE) (λ_=>⟨by simp,rfl,rfl⟩) (by simp)<|Aj O<|Ac O p<|Aj O<|Al O (j CE)<|C3 O<|yi O (c:=As Be) (λ_=>⟨by simp,rfl,rfl⟩) (by simp[A1])<|C3 O<|Al O d<|C3 O<|Al O (j Be)<|C3 O<|Al O d<|C3 O<|Al O (c Be<|Ay 0)<|C3 O<|Al O (c (By Be<|Ay 0)<|Ay 0)<|C3 O<|Al O (j<|By (By Be<|Ay 0)<|Ay 0)<|C3 O<|Al O d<|C3 O<|Al O (c (BQ Db) Be)<|C3 O<|Al O (j<|By (BQ Db) Be)<|yg [] O (by simp[A1];kernel_rfl)<|Ab O O O
def PM (Γ:At):Bool:=decide (Γ.length<=20)&&Γ.all λp=>BW p.1&&KV p.2
def zcy (Γ:At):ca 28 [.sl<|dKns Γ]<|.bool<|PM Γ:=by refine Ae HZ func28 O [1,2]<|LN O ?_;by_cases q:Γ.length<=20;have j:PM Γ=Γ.all λp=>BW p.1&&KV p.2:=by{simp[PM,q]};rw[j];refine Aa O (λh=>by simp at h;omega) λh=>?_;refine GY O<|Ak (λi:Nat=>[(3,i7 i),(0,.Kp<|.sl<|dKns Γ)]) (λ_=>[]) [1,2] (λi=>Γ.length-i) (λi=>i<=Γ.length/\(Γ.all λp=>BW p.1&&KV p.2)=((Γ.drop i).all λp=>BW p.1&&KV p.2)) 0 ⟨AK _,rfl⟩ AL ab O λi C D=>?_;obtain⟨E,c⟩:=C;refine GY O<|Aa O (λh=>?_) λh=>?_;have e:i<Γ.length:=by{simp at h;omega};let⟨p,u⟩:=Aq e;have w:=NM u;rw[Av u,Em]at c;have A:=I4 p.1;have B:=zmd p.2;obtain⟨y,⟨F,G,I,J⟩⟩:=p;simp only at c A B;generalize BW y=k at *;generalize KV (.mk F G I J)=o at *;refine GY O<|wj O w<|LN O<|Ac O A<|zU O<|rizc O w<|zU O<|Al O B<|zU O ?_;cases d:k&&o with|true=>{rw[d,Nk]at c;refine Aa O (λh=>by exfalso;revert h d;cases k<;>cases o<;>simp) λh=>?_;exact GY O<|Ad (D (i+1) (by omega) ⟨by omega,c⟩) ⟨Bc,AD⟩ ab O}|false=>{rw[d,qJ]at c;refine Aa O (λh=>?_) (λh=>by exfalso;revert h d;cases k<;>cases o<;>simp);exact GY O<|Ah ⟨_,rfl,tV<|by rw[c],ab⟩};have e:¬i<Γ.length:=by{simp at h;omega};rw[Bt<|by omega]at c;exact Aw O<|GY O<|Ah ⟨_,rfl,tV (by rw[c];rfl),ab⟩;have j:PM Γ=false:=by{simp[PM,q]};rw[j];refine Aa O (λh=>?_) (λh=>by simp at h;omega);exact GY O<|Ab O O O
def zhn (l:At):Bool:=decide (l.length<=24)&&l.all λp=>decide (p.1.length<=30)&&C0 p.2
def zll (l:At):ca 24 [.sl<|dKns l]<|.bool<|zhn l:=by refine Ae ttY_ok func24 O [1,2]<|Aj O<|Ak (λi:Nat=>[(3,i7 i),(0,.Kp<|.sl<|dKns l)]) (λ_=>[]) [1,2] (λi=>l.length-i) (λi=>i<=l.length/\i<=30/\l.all (λp=>decide (p.1.length<=30)&&C0 p.2)=(l.drop i).all λp=>decide (p.1.length<=30)&&C0 p.2) 0 ⟨AK _,by simp,rfl⟩ AL ab O λi w A=>?_;obtain⟨B,C,c⟩:=w;refine Uw O ?_;by_cases e:i<l.length/\i<30;(case neg=>(refine Aa O (λh=>by simp at h;omega) λh=>?_;refine Aw O<|A0 O<|Ab O O (af _ ?_);simp only[zhn,lm];by_cases j:l.length<=24;rw[c,Bt<|by omega];simp[j];omega;simp[j];omega));refine Aa O (λh=>?_) (λh=>by simp at h;omega);let⟨p,k⟩:=Aq e.1;have q:=NM k;rw[Av k,Em]at c;have u:=Jv p.2;obtain⟨y,⟨D,E,F,G⟩⟩:=p;simp only at c u;generalize C0 (.mk D E F G)=o at *;refine A0 O<|XU O q<|C3 O<|yizc O q<|C3 O<|Al O u<|C3 O ?_;by_cases d:y.length<=30/\o=true;obtain⟨d,rfl⟩:=d;refine Aa O (λh=>by simp at h;omega) λh=>?_;exact A0 O<|Ad (A (i+1) (by omega) ⟨by omega,by omega,by rw[c];simp[d]⟩) ⟨Bc,AD⟩ ab O;refine Aa O (λh=>?_) (λh=>by exfalso;apply d;cases o<;>simp at h ⊢;omega);refine A0 O<|Ab O O (af _ ?_);rw[zhn,c];cases o with|false=>simp|true=>{simp at d;simp;omega}
def zpb (c:Li m=E7 m) (d:G7 t=Cy t):Mh m Γ t=(E7 m&&PM Γ&&Cy t):=by have:Γ.all Sw=Γ.all λp=>BW p.1&&KV p.2:=by{congr 1;funext p;simp only[Sw,NC]};rw[Mh,PM,c,d,this];simp only[PE]
def jW {a8:K2}:∃(k:Y) (e:Int),JL a8 r=.cg [.agg<|As k,Gb e]/\((e=0/\KV k=true)\/((e=3\/e=7)/\k=MC)):=by cases r with|none=>exact⟨_,_,rfl,.inr ⟨.inr O,rfl⟩⟩|some z=>{obtain⟨τ,k,c,N⟩:=z;simp only[JL,Nx];split;split;split;rename_i h;exact⟨_,_,rfl,.inl ⟨rfl,by rw[<- NC];exact h⟩⟩;exact⟨_,_,rfl,.inr ⟨.inl O,rfl⟩⟩;exact⟨_,_,rfl,.inr ⟨.inl O,rfl⟩⟩;exact⟨_,_,rfl,.inr ⟨.inr O,rfl⟩⟩}
def tE (c:PM Γ=true):∀e∈Γ,CY e.2=true/\gr 1000 e.2:=λe d=>by
 simp only[PM,Am]at c;have:=Du.1 c.2 e d;simp only[Am]at this;rw[<- NC]at this;simp only[AW,Am]at this;have:=I6 e.2 this.2.2;exact⟨this.1,this.2.1.mono<|by omega⟩
def WJ (h:Dk m=true) (d:E7 m=true) (e:PM Γ=true) (c:Cy t=true):∃r,Ct m (Kb Γ) t 0 (λ_=>none) r/\ca 26 [.agg<|dMdc m,.sl<|dKns Γ,.agg<|dTmc t] (JL (G0 Γ []) r):=by let⟨j,k⟩:=YM c;exact ZM (zfl d).1.closed Γ t (by rw[zpb (zkm m h)<|MK c,d,e,c];rfl) (tE e) j k
def oA {c:Tm} (K:Dk m=true) (L:E7 m=true) (C:PM Γ=true) (P:Γ.length<=18) (A:Cy t=true) (B:Cy c=true) (N:BW s=true) (Q:Cy (GU t s c)=true) {k:Y} (R:Ct m (Kb Γ) c 0 (λ_=>none) r) (U:JL (G0 Γ []) r=.cg [.agg<|As k,Gb 0]) (V:KV k=true) (f:FF k=true) (g:AR (FX c) s=false):∃(a:Y) (e:Int),ca 26 [.agg<|dMdc m,.sl<|dKns<|Γ++[(s,k)],.agg<|dTmc t] (.cg [.agg<|As a,Gb e])/\ca 26 [.agg<|dMdc m,.sl<|dKns<|Γ++[(s,k)],.agg<|dTmc<|GU t s c] (.cg [.agg<|As a,Gb e]):=by have j:PM (Γ++[(s,k)])=true:=by{simp only[PM,Am,Ik,Bo,Ij,am]at C ⊢;refine⟨by omega,C.2,?_⟩;simp[N,V]};let⟨i,l,p⟩:=WJ K L j A;let⟨S,n,o⟩:=WJ K L j Q;have D:=N9<|tE C;have d:=N9<|tE j;let⟨T,_,W,M⟩:=Hg t A;let⟨b1,_,b3,b4⟩:=Hg c B;have v:Ax t=true:=by{simp only[Cy,Am]at A;exact A.2};have q:Ax c=true:=by{simp only[Cy,Am]at B;exact B.2};have u:∀y,y∈EA c [] []↔JM c y:=λy=>Ou q y;have E:¬JM c s:=λh=>by{have:=BN.2<|(hO c s).2 h;rw[g]at this;cases this};have F:=zic D R U f;have G:B5 m (Kb<|Γ++[(s,k)]) s=some (G6 k):=by{rw[SC];simp[B5,Oi,Iz]};have w:∀y,y≠s->B5 m (Kb<|Γ++[(s,k)]) y=B5 m (Kb Γ) y:=λy I=>by{rw[SC];exact Nn<|by simpa[Xp]using I};have J:(EA c [] []).length<=60:=(PL B).1;have x:∀(τ:Y) (b:Bool),Hw b m (GU t s c) (Kb<|Γ++[(s,k)]) τ↔Hw b m t (Kb<|Γ++[(s,k)]) τ:=λτ b=> xD q u J F 60 t M v M _ _ G (λy I=>w y λe=>E<|e▸(u y).1 I) (λ_ _ _=>rfl) τ b;have z:=zgo d d (G0 (Γ++[(s,k)]) []) n l x;let⟨a,e,H,_⟩:=jW (a8:=G0 (Γ++[(s,k)]) []) (r:=i);rw[z]at o;rw[H]at p o;exact⟨a,e,p,o⟩
def KindSubst_pure (m:Md) (Γ:At) (t:Tm) (s:Z) (d:Tm):ca 10 [.agg<|dMdc m,.sl<|dKns Γ,.agg<|dTmc t,.str s,.agg<|dTmc d]<|.bool true:=by have K:=jU;have A:=XK m;have B:=zll Γ;have C:=Mx t;have D:=Mx d;have E:=aZ m;have F:=zcy Γ;have G:=UX t;have I:=UX d;have J:=I4 s;by_cases z:Dk m=true/\zhn Γ=true/\Γ.length<=18/\Fq t=true/\Fq d=true/\s.length<=30/\E7 m=true/\PM Γ=true/\Cy t=true/\Cy d=true/\BW s=true;(case neg=>(have L:(dKns Γ).length=Γ.length:=by{simp};generalize Dk m=o1 at *;generalize zhn Γ=o2 at *;generalize Fq t=o3 at *;generalize Fq d=o4 at *;generalize E7 m=o5 at *;generalize PM Γ=o6 at *;generalize Cy t=o7 at *;generalize Cy d=o8 at *;generalize BW s=o9 at *;obtain⟨m1,m2,m3⟩:=m;obtain⟨b,f,g,i,a5⟩:=t;obtain⟨b1,b2,b3,b4,b5⟩:=d;refine Ae ttY_ok func10 O [1,2,3,4,5,6,7,8,9,10]<|Aj O<|Ac O A<|C3 O<|Al O B<|C3 O<|Al O C<|C3 O<|Al O D<|C3 O<|Al O E<|C3 O<|Al O F<|C3 O<|Al O G<|C3 O<|Al O I<|C3 O<|Al O J<|C3 O<|Aa O (λh=>?_) (λh=>by{exfalso;apply z;clear z;cases o1<;>cases o2<;>cases o3<;>cases o4<;>simp at h ⊢;cases o5<;>cases o6<;>cases o7<;>cases o8<;>cases o9<;>simp at h ⊢<;>omega});exact A0 O<|Ac O K<|Aj O<|Ab O O O));case pos=>(obtain⟨l,s2,s3,s4,s5,s6,n,v,M,o,q⟩:=z;let⟨r,ir,N⟩:=WJ l n v o;let⟨k,e,H,P⟩:=jW (a8:=G0 Γ []) (r:=r);rw[H]at N;have hW:=R3 k;have Q:=ziz t s d (MK M)<|MK o;have R:bL t s d=bif Cy (GU t s d)then(GU t s d,0)else(Y1,3):=by{simp only[bL,M,o,q,Ws,az]};let⟨p1,_,p3,p4⟩:=Hg d o;have U:=iE d p3 (by omega);have u:=fA (FX d) s;have j:=λ(h0:e=0) (S:KV k=true) (y:FF k=true) (V:Cy (GU t s d)=true) (hf:AR (FX d) s=false)=>oA l n v s3 M o q V ir (by rw[H,h0]) S y hf;have L:(dKns Γ).length=Γ.length:=by{simp};rw[l]at A;rw[s2]at B;rw[s4]at C;rw[s5]at D;rw[n]at E;rw[v]at F;rw[M]at G;rw[o]at I;rw[q]at J;clear l s2 s4 s5 n v M o q ir H p1 p3 p4;generalize GU t s d=x at *;generalize FX d=fr at *;generalize bL t s d=w at *;obtain⟨m1,m2,m3⟩:=m;obtain⟨b,f,g,i,a5⟩:=t;obtain⟨b1,b2,b3,b4,b5⟩:=d;obtain⟨x1,x2,x3,x4,x5⟩:=x;obtain⟨T,W,k3,k4⟩:=k;refine Ae ttY_ok func10 O [1,2,3,4,5,6,7,8,9,10]<|Aj O<|Ac O A<|C3 O<|Al O B<|C3 O<|Al O C<|C3 O<|Al O D<|C3 O<|Al O E<|C3 O<|Al O F<|C3 O<|Al O G<|C3 O<|Al O I<|C3 O<|Al O J<|C3 O<|Aa O (λh=>by simp at h;omega) λh=>?_;clear h;refine A0 O<|Ac O N<|Aj O ?_;rcases P with⟨rfl,S⟩|⟨he,hz⟩;{refine Ag O λh=>?_;clear h;refine A0 O<|Ac O hW<|Aj O ?_;cases y:FF (.mk T W k3 k4)with|false=>{rw[y]at *;exact Ap O λh=>A0 O<|Ac O K<|Aj O<|Ab O O O}|true=>{refine Ag O λh=>?_;clear h;refine A0 O ?_;cases V:Cy (.mk x1 x2 x3 x4 x5)with|false=>{rw[V,bf]at R;rw[R]at Q;exact Ac O Q<|Aj O<|Ap O λh=>Uw O<|Al O K<|C3 O<|Ab O O O}|true=>{rw[V,az]at R;rw[R]at Q;have j:=j O S y V;refine Ac O Q<|Aj O<|Ag O λh=>?_;clear h;refine A0 O ?_;have hap:dKns (Γ++[(s,.mk T W k3 k4)])=dKns Γ++[eO (s,.mk T W k3 k4)]:=by{simp[dKns]};rw[hap]at j;rcases Γ with _|⟨p,Γ⟩;rotate_left;have hq:Γ.length<=17:=by{simpa using s3};have L:(dKns<|p::Γ).length=Γ.length+1:=by{simp};refine B1 ttY_ok O ⟨λc hc=>by obtain⟨x,_,rfl⟩:=CC.1 hc;simp,by simp[maxLen];omega,by simp;omega,ab⟩<|Aj O<|B1 ttY_ok O ⟨by simp[eO],by simp[maxLen];omega,by simp;omega,ab⟩<|Qa 3 O (by simp;kernel_rfl)<|BR 7 O ?_;rotate_left;have e0:dKns []=[]:=rfl;simp only[e0,JJ]at j ⊢;refine sT ttY_ok O<|Aj O<|B1 ttY_ok O ⟨by simp[eO],by simp[maxLen],by simp,ab⟩<|Qa 3 O (by simp;kernel_rfl)<|BR 6 O ?_;all_goals(refine A0 O<|Ac O U<|Aj O<|Ac O u<|Aj O ?_;generalize AR fr s=oH at *;cases oH with|true=>{exact Ap O λh=>A0 O<|Ac O K<|Aj O<|Ab O O O}|false=>{let⟨⟨b,f,g,i⟩,e,hIa,hIx⟩:=j rfl;have a:=NS (.mk b f g i)<|.mk b f g i;rw[(Rg _ _).2 O]at a;refine Ag O λh=>?_;clear h;refine A0 O<|Ac O hIa<|Aj O<|Ac O hIx<|Aj O<|Al O a<|C3 O<|Al O K<|C3 O<|Ab O O (af _ ?_);simp})}}};clear j Q R hW U u;have he0:e≠0:=by{omega};refine Aa O (λh=>?_) (λh=>by exfalso;simp at h;exact he0 h);refine Uw O<|Al O K<|C3 O<|Ab O O (af _ ?_);rcases he with rfl|rfl<;>rfl)
def fi.below {I d:TA} {μ c:Mu} {w w':World} {au:St} (h:fi I μ [] w d c au w'):Below w.heap.size w w':=⟨h.os,h.tape,h.output,h.size,λk e=>h.block k e (by rintro ⟨id,j,g,o,_⟩;cases o)⟩
def zgd {enc:TypeId×Value->H} {f:Func} {s:ChangeSpec} {apart fresh d B:Bool} {args:Array Value} {ds gs:L1<|DataW H} {c pa pv:L1 MemPlace} (E:DataW.Whole enc P f.params.toList s.vars apart W args.toList ds gs c) (I:Below W.heap.size W o) (k:c=pa++pv) (A:∀(b:Nat) (u:Nat->Bool) (w:Bool),DataW.TrodAll enc P o b u w f.resultTypes.toList (v.resultList f.resultTypes.size) (s.fn H<|ds++gs).results []) (e:∀u:Nat->Bool,(∀p∈c,u p.block=true)->DataW.TrodAll enc P o 0 u true f.params.toList args.toList (s.fn H<|ds++gs).args pa) (h:∀u:Nat->Bool,(∀p∈c,u p.block=true)->DataW.TrodVars enc P o u s.vars (s.fn H<|ds++gs).vars pv) (F:∀(j:Nat) (t:TypeId) (r:Value),f.resultTypes[j]?=some t->(v.resultList f.resultTypes.size)[j]?=some r->Value.okWide P o .any 0 t r):s.post enc P f apart fresh d B W args v o:=by have J:∀p∈c,decide (p.block<W.heap.size)=true:=λp q=>by{simpa using E.lt p q};refine⟨ds,gs,c,[],pa,pv,E,A _ _ _,e (λb=>decide (b<W.heap.size)) J,h (λb=>decide (b<W.heap.size)) J,World.keptBut_mono (λp q=>⟨q,.inr ?_⟩) (I.frame (·∈c)),λ_=>⟨F,?_⟩⟩;rw[k]at q;exact AT.1 q;have G:=E.lt;obtain⟨_,_,_,_,_,K,L⟩:=E;refine⟨(s.fn H<|ds++gs).results++(s.fn H<|ds++gs).args,(s.fn H<|ds++gs).vars,pa++pv,⟨pa,pv,?_,h _ λ_ _=>rfl,rfl,λb C q=>?_,λM=>?_⟩,λp q _=>by rw[k];exact q⟩;have:=trodAll_append (e (λ_=>true) λ_ _=>rfl)<|A 0 (λ_=>true) true;simpa using this;have D:MemPlace.cell b C∈c:=by{rw[k];exact q};rw[I.frozen<|G _ D];exact K b C D;rw[<- k];exact L M
def Ss (W:World):TA:=λb=>W.heap[b]?
def zlc (W:World):(Ss W).ok W:=λ_ _ h=>h
def Rds (P:Program) (W:World) (n:Nat) (t:TypeId) (cs:L1 Value):Prop :=
 ∃(H:Type) (enc:TypeId×Value->H) (x:DataW H×L1 MemPlace),DataW.trod enc P W 0 (λ_=>true) true n t cs=some x
def RV (W:World) (cs:L1 Value) (xs:L1 V):Prop:=Ts (Ss W) cs xs/\∀c∈cs,c.oneCell'=true
def RV.me {a b:R0} {x y:G2} (h:RV W a x) (k:RV W b y):RV W (a++b)<|x++y:=⟨h.1.append k.1,λc d=>(AT.1 d).elim (h.2 c)<|k.2 c⟩
def RV.one {x:V} (h:PB (Ss W) v x) (e:v.oneCell'=true):RV W [v] [x]:=⟨.mk h .nil,λc d=>by simp at d;rw[d];exact e⟩
def RV.agg {cs:Array Value} (h:RV W cs.toList xs):PB (Ss W) (.agg cs)<|.agg xs:=.agg _ _ (by simpa using h.1.1) h.2 λi c x a b=>h.1.2 i c x (by simpa using a) b
def RV.len (h:RV W cs xs):cs.length=xs.length:=h.1.1
section
variable {t:TypeId}
def UM {k:IntKind} {a:Bool} {d:Nat} (e:dv P c) (j:lk c t=some ⟨.int k,a,sz,d,z⟩) (h:Rds P W n t cs):∃m,RV W cs [.int k m]/\(Lit.int k m).wf=true:=by obtain⟨H,enc,x,h⟩:=h;have o:P.underlying t=some (.int k):=e.sh j;cases n with|zero=>simp[DataW.trod]at h|succ n=>{unfold DataW.trod at h;rw[o]at h;split at h<;>simp_all;rename_i q m p;exact⟨m,.one (.int _ _) O,h.1.2⟩}
def rds_str {a:Bool} {d:Nat} (e:dv P c) (j:lk c t=some ⟨.str,a,sz,d,z⟩) (h:Rds P W n t cs):∃s,RV W cs [.str s]/\s.length<=maxLen:=by obtain⟨H,enc,x,h⟩:=h;have k:P.underlying t=some .string:=e.sh j;cases n with|zero=>simp[DataW.trod]at h|succ n=>{unfold DataW.trod at h;rw[k]at h;split at h<;>simp_all;rename_i s;exact⟨s.data.toList,.one (.str _ _ O) O,by have:=h.1;simpa using this⟩}
def X1 {a:Addr} {k:Nat} {e:R0} (h:W.cells? 0 a k=some e) (B:0<k):a.spot=none/\∀(j:Nat) (v:Value),e[j]?=some v->(Ss W).cell a.block (a.off+j)=some v:=by obtain⟨_,D,u⟩:=World.cells?_some h;have d:∀(b:Addr) (v:Value),W.cell? b=some v->b.spot=none/\(Ss W).cell b.block b.off=some v:=by{intro b v o;unfold World.cell? at o;split at o;rename_i c t0 E C;split at o;cases o;rename_i p;refine⟨by cases h:b.spot with|none=>rfl|some _=>rw[h]at p;exact absurd rfl p,?_⟩;unfold TA.cell Ss;rw[C];exact o;cases o};have p:a.spot=none:=by{have q:0<e.length:=by{omega};have:=u 0 B;rw[Bi q]at this;exact(d (a.add 0) _ this).1};refine⟨p,λj v w=>?_⟩;have F:=(A9.1 w).1;have:=(d (a.add j) v (by rw[u j<|by omega];exact w)).2;unfold Addr.add at this;by_cases A:j=0;subst A;simpa using this;rw[ac A]at this;exact this
def Hj {e:TypeId} {a:Bool} {by_:Nat} {i:kh} {d:α->G2} (Q:dv P c) (hl:lk c t=some ⟨.sl e,a,sz,by_,z⟩) (hi:lk c e=some i) (E:0<i.size) (w:∀x,(d x).length=i.size) (to:∀m,m<n->∀B,Rds P W m e B->∃x,RV W B<|d x) (h:Rds P W n t cs):∃xs:L1 α,RV W cs [.sl<|xs.map d]:=by obtain⟨H,enc,x,h⟩:=h;have hu:P.underlying t=some (.slice e):=Q.sh hl;have hce:P.cellsOf e=i.size:=(Q e i hi).cellsOf;rcases DataW.trod_slice hu h with⟨rfl,_⟩|⟨ad,A,R,elems,rest,m,rfl,rfl,_,_,h1,h2,h3,h4,h5,_⟩;exact⟨[],.one .slnil O⟩;rw[hce]at h4 h5;have U:∀k,k<A->∃(B:R0) (x:α),W.cells? 0 (ad.add<|k*i.size) i.size=some B/\RV W B (d x):=by{intro k D;have:=h4 k D;rw[Bi<|by omega]at this;let⟨B,G,M⟩:=zfu.1 this;let⟨x,hx⟩:=to m (by omega) B ⟨H,enc,_,M⟩;exact⟨B,x,G,hx⟩};have vd:∃(C:Nat->R0) (p:Nat->Option α),∀k,k<A->∃x,p k=some x/\W.cells? 0 (ad.add<|k*i.size) i.size=some (C k)/\RV W (C k) (d x):=by{classical refine⟨λk=>if D:k<A then(U k D).choose else[],λk=>if D:k<A then some ((U k D).choose_spec.choose)else none,λk D=>?_⟩;simp only[D,dif_pos];exact⟨_,rfl,(U k D).choose_spec.choose_spec⟩};obtain⟨C,p,K⟩:=vd;have L:∀l,l<=A->∃xs:L1 α,xs.length=l/\∀k x,xs[k]?=some x->p k=some x:=by{intro l;induction l with|zero=>exact λ_=>⟨[],rfl,λk x h=>by simp at h⟩|succ l ih=>{intro hl';let⟨xs,G,M⟩:=ih (by omega);let⟨x,hx,_⟩:=K l (by omega);refine⟨xs++[x],by simp[G],λk y N=>?_⟩;by_cases D:k<xs.length;rw[M2 D]at N;exact M k y N;rw[Ky<|by omega]at N;have:k-xs.length=0:=by{have:=(A9.1 N).1;simp at this;omega};rw[this]at N;cases N;have:k=l:=by{omega};rw[this];exact hx}};let⟨xs,f,g⟩:=L A<|B6 _;refine⟨xs,.one ?_ O⟩;by_cases r:R=0;have:A=0:=by{omega};subst this;subst r;have:xs=[]:=Jb f;subst this;exact .mq ad;have F:ad.spot=none:=by{by_cases s:0<A;let⟨x,_,q,_⟩:=K 0 s;have:=(X1 q E).1;simpa[Addr.add]using this;have h6:=h5 O;have h7:=h6.2 0 (by omega);rw[Bi<|by omega]at h7;let⟨B,G,M⟩:=zfu.1 h7;have:=(X1 G E).1;have p8:A=0:=by{omega};subst p8;simpa[Addr.add]using this};obtain⟨b,o,u⟩:=ad;simp only at F;subst F;have J:∀(k:Nat) (e:G2),(xs.map d)[k]?=some e->k<A/\∃x,p k=some x/\e=d x/\W.cells? 0 ⟨b,o+k*i.size,none⟩ i.size=some (C k)/\RV W (C k) (d x):=by{intro k e D;rw[Cx,E9]at D;obtain⟨x,G,M⟩:=D;have I:=(A9.1 G).1;let⟨y,r1,r2,r3⟩:=K k (by omega);rw[g k x G]at r1;cases r1;refine⟨by omega,x,g k x G,M.symm,?_,r3⟩;rw[<- r2];congr 1;unfold Addr.add;by_cases h0:k*i.size=0;simp[h0];simp[h0]};refine .sl b o A R i.size _ (λk j=>(C k).getD j undef) (by simp[f]) h1 h2 (λe U=>?_) (λk e j x D T=>?_) λk e j x D T=>?_;obtain⟨x,_,rfl⟩:=CC.1 U;exact w x;obtain⟨_,y,_,rfl,q3,v⟩:=J k e D;have I:j<(C k).length:=by{rw[v.len];exact(A9.1 T).1};have S:(C k)[j]?=some ((C k)[j]):=Bi I;have hD:(C k).getD j undef=(C k)[j]:=by{simp[List.getD,S]};show(Ss W).cell b (o+k*i.size+j)=some ((C k).getD j undef)/\((C k).getD j undef).oneCell'=true;rw[hD];exact⟨(X1 q3 E).2 j _ S,v.2 _<|K0 _⟩;obtain⟨_,y,_,rfl,q3,v⟩:=J k e D;have I:j<(C k).length:=by{rw[v.len];exact(A9.1 T).1};have S:(C k)[j]?=some ((C k)[j]):=Bi I;have hD:(C k).getD j undef=(C k)[j]:=by{simp[List.getD,S]};show PB (Ss W) ((C k).getD j undef) x;rw[hD];exact v.1.2 j _ x S T
def GX {fs:L1<|Nat×TypeId} {a:Bool} {p:Nat} (e:dv P c) (q:lk c t=some ⟨.struct fs,a,sz,p,z⟩) (h:Rds P W n t cs):cs.length=sz/\∃m,n=m+1/\∀(j off:Nat) (o:TypeId) (i:kh),fs[j]?=some (off,o)->lk c o=some i->Rds P W m o ((cs.drop off).take i.size):=by obtain⟨H,enc,x,h⟩:=h;obtain⟨d,A,k,_⟩:∃d,P.underlying t=some (.struct d)/\d.toList.map (λf=>(f.offset,f.type))=fs/\∀f∈d.toList,0<P.cellsOf f.type:=e.sh q;obtain⟨xs,m,rfl,_,B,I,C⟩:=DataW.trod_struct A h;refine⟨by rw[B];exact(e t _ q).cellsOf,m,rfl,λj off o i u D=>?_⟩;rw[<- k,Cx,E9]at u;obtain⟨f,E,F⟩:=u;cases F;have w:d[j]?=some f:=by{rw[<- Wr];exact E};have G:=(Ht.1 w).1;have:=C j f w;rw[Bi<|by omega,(e _ i D).cellsOf]at this;exact⟨H,enc,_,this⟩
end
def four {l:L1 α} (h:l.length=4):∃a b c d,l=[a,b,c,d]:=by match l,h with|[a,b,c,d],_=>{exact⟨a,b,c,d,rfl⟩}
def zqi {l:L1 α} (h:l.length=5):∃a b c d e,l=[a,b,c,d,e]:=by match l,h with|[a,b,c,d,e],_=>{exact⟨a,b,c,d,e,rfl⟩}
def Xs (l:E1):l.map As=A3 l:=(DC l).symm
def zh6 (l:G1):l.map dTmc=Ci l:=(GQ l).symm
def Zh (e ts o:TypeId) (q:lk nV e=some ⟨.struct [(0,ts),(1,3),(2,9),(3,o)],true,4,56,[i7 0,i7 0,.Kp<|.str [],.NB]⟩) (u:lk nV ts=some ⟨.int .i64,false,1,8,[i7 0]⟩) (w:lk nV o=some ⟨.sl e,false,1,24,[.NB]⟩):∀(n:Nat) (cs:R0),Rds prog W n e cs->∃t:Y,RV W cs<|As t:=by intro n;induction n using Nat.strongRecOn with|ind n A=>{intro cs h;obtain⟨B,m,rfl,j⟩:=GX Br q h;obtain⟨a,b,c,d,rfl⟩:=four B;let⟨s,C,_⟩:=UM Br u<|j 0 0 ts _ rfl u;let⟨k,D,_⟩:=UM Br rfl<|j 1 1 3 _ rfl rfl;let⟨x,E,_⟩:=rds_str Br rfl<|j 2 2 9 _ rfl rfl;let⟨ps,F⟩:=Hj (d:=As) Br w q (show 0<4 by decide) k9 (λG I p=>A G (by omega) p)<|j 3 3 o _ O w;exact⟨.mk s k x ps,by rw[As,<- Xs];exact((C.me D).me E).me F⟩}
def Oa (n:Nat) (cs:R0) (h:Rds prog W n 25 cs):∃t:Y,RV W cs<|As t:=Zh 25 22 23 O O O n cs h
def zeh (n:Nat) (cs:R0) (h:Rds prog W n 182 cs):∃t:Y,RV W cs<|As t:=Zh 182 180 47 O O O n cs h
def read_term:∀(n:Nat) (cs:R0),Rds prog W n 49 cs->∃t:Tm,RV W cs<|dTmc t:=by intro n;induction n using Nat.strongRecOn with|ind n q=>{intro cs h;obtain⟨u,m,rfl,o⟩:=GX Br rfl h;obtain⟨a,b,c,d,e,rfl⟩:=zqi u;let⟨s,w,_⟩:=UM Br rfl<|o 0 0 45 _ rfl rfl;let⟨k,A,_⟩:=UM Br rfl<|o 1 1 3 _ rfl rfl;let⟨x,B,_⟩:=rds_str Br rfl<|o 2 2 9 _ rfl rfl;let⟨C,D⟩:=Hj (d:=dTmc) Br rfl (e:=49) rfl (by decide) my (λp E j=>q p (by omega) j)<|o 3 3 46 _ O O;let⟨ps,F⟩:=Hj (d:=As) Br rfl (e:=182) rfl (by decide) k9 (λp E j=>zeh p j)<|o 4 4 47 _ O O;exact⟨.mk s k x C ps,by rw[dTmc,<- Xs,<- zh6];exact(((w.me A).me B).me D).me F⟩}
def zej (n:Nat) (cs:R0) (h:Rds prog W n 178 cs):∃c:Cd,RV W cs<|Gv c:=by obtain⟨j,m,rfl,e⟩:=GX Br rfl h;match cs,j with|[a,b],_=>{let⟨x,k,_⟩:=rds_str Br rfl<|e 0 0 9 _ rfl rfl;let⟨o,p⟩:=Hj (d:=As) Br rfl (e:=25) rfl (by decide) k9 (λq u d=>Oa q d)<|e 1 1 23 _ O O;exact⟨⟨x,o⟩,by rw[Gv,<- Xs];exact k.me p⟩}
def zab (n:Nat) (cs:R0) (h:Rds prog W n 113 cs):∃c:Dt,RV W cs<|DE c:=by obtain⟨j,m,rfl,e⟩:=GX Br rfl h;match cs,j with|[a,b],_=>{let⟨x,k,_⟩:=rds_str Br rfl<|e 0 0 9 _ rfl rfl;let⟨o,p⟩:=Hj (d:=Gv) Br rfl (e:=178) rfl (by decide) (λ_=>rfl) (λq u d=>zej q d)<|e 1 1 111 _ O O;exact⟨⟨x,o⟩,k.me p⟩}
def zei (n:Nat) (cs:R0) (h:Rds prog W n 71 cs):∃c:Fd,RV W cs<|Ed c:=by obtain⟨e,m,rfl,d⟩:=GX Br rfl h;match cs,e with|[D,E,F,G,I,J,K,L,M,N,j,k,o,p,q],_=>{let⟨x,u,_⟩:=rds_str Br rfl<|d 0 0 9 _ rfl rfl;let⟨y,w,_⟩:=rds_str Br rfl<|d 1 1 9 _ rfl rfl;let⟨t1,A⟩:=Oa _ _<|d 2 2 25 _ rfl rfl;let⟨t2,B⟩:=Oa _ _<|d 3 6 25 _ rfl rfl;let⟨b,C⟩:=read_term _ _<|d 4 10 49 _ rfl rfl;exact⟨⟨x,y,t1,t2,b⟩,(((u.me w).me A).me B).me C⟩}
def read_module (n:Nat) (cs:R0) (h:Rds prog W n 43 cs):∃c:Md,RV W cs<|dMdc c:=by obtain⟨k,m,rfl,e⟩:=GX Br rfl h;match cs,k with|[a,b,c],_=>{let⟨x,o,_⟩:=rds_str Br rfl<|e 0 0 9 _ rfl rfl;let⟨p,q⟩:=Hj (d:=DE) Br rfl (e:=113) rfl (by decide) (λ_=>rfl) (λj u d=>zab j d)<|e 1 1 40 _ O O;let⟨w,A⟩:=Hj (d:=Ed) Br rfl (e:=71) rfl (by decide) (λc=>by simp[Ed]) (λj u d=>zei j d)<|e 2 2 41 _ O O;exact⟨⟨x,p,w⟩,(o.me q).me A⟩}
def zaa (n:Nat) (cs:R0) (h:Rds prog W n 84 cs):∃p:Z×Y,RV W cs<|eO p:=by obtain⟨k,m,rfl,j⟩:=GX ttY_ok rfl h;obtain⟨a,b,c,d,e,rfl⟩:=zqi k;let⟨x,o,_⟩:=rds_str ttY_ok rfl<|j 0 0 9 _ rfl rfl;let⟨t,q⟩:=Oa _ _<|j 1 1 25 _ rfl rfl;exact⟨(x,t),o.me q⟩
def read_names (n:Nat) (cs:R0) (h:Rds prog W n 44 cs):∃l:L1<|Z×Y,RV W cs [.sl<|dKns l]:=by let⟨l,r⟩:=Hj (d:=eO) ttY_ok rfl (e:=84) rfl (by decide) nj (λd e c=>zaa d c) h;exact⟨l,r⟩
def Qd {H:Type} {enc:TypeId×Value->H} {P:Program} (k:laidOutB P=true) {W o:World} (w:Below W.heap.size W o) {u:Nat->Bool}:∀{ts:L1 TypeId} {vs:R0} {ds:L1<|DataW H} {ps:L1 MemPlace},ts.all (λt=>P.readableRec t&&decide (t<P.types.size))=true->DataW.TrodAll enc P W 0 (λ_=>true) true ts vs ds ps->(∀p∈ps,p.block<W.heap.size)->(∀p∈ps,u p.block=true)->DataW.TrodAll enc P o 0 u true ts vs ds ps
 |[],[],[],_,_,h,_,_=>h
 |[],[],_::_,_,_,h,_,_=>h.elim
 |[],_::_,_,_,_,h,_,_=>h.elim
 |_::_,[],_,_,_,h,_,_=>h.elim
 |_::_,_::_,[],_,_,h,_,_=>h.elim
 |t::ts,v::vs,d::ds,ps,j,h,e,A=>by obtain⟨p,q,B,C,rfl⟩:=h;rw[Em,Am,Am,am]at j;refine⟨p,q,WideElems.Trod_stays k j.1.1 j.1.2 B (λx c=>w.same<|e x<|Im _ c) λx c=>A x<|Im _ c,?_,rfl⟩;exact Qd k w j.2 C (λx c=>e x<|Il _ c) λx c=>A x<|Il _ c
def Rds.of {enc:TypeId×Value->H} {t:TypeId} {d:DataW H} (h:DataW.Trod enc P W 0 (λ_=>true) true t v d ps):∃n,Rds P W n t v.cells.toList:=by obtain⟨n,c⟩:=h;exact⟨n,H,enc,_,c⟩
section
variable {enc:TypeId×Value->H} {u:Nat->Bool} {w:Bool}
def trodAll0 {ds:L1<|DataW H} (h:DataW.TrodAll enc P W 0 u w [] vs ds ps):vs=[]/\ds=[]:=by cases vs with|nil=>{cases ds with|nil=>exact⟨rfl,rfl⟩|cons=>{exact h.elim}}|cons=>{cases ds<;>exact h.elim}
def trodAllS {t:TypeId} {ts:L1 TypeId} {ds:L1<|DataW H} (h:DataW.TrodAll enc P W 0 u w (t::ts) vs ds ps):∃v c d e p q,vs=v::c/\ds=d::e/\DataW.Trod enc P W 0 u w t v d p/\DataW.TrodAll enc P W 0 u w ts c e q:=by cases vs with|nil=>cases ds<;>exact h.elim|cons v vs=>{cases ds with|nil=>exact h.elim|cons d ds=>{obtain⟨p,q,j,k,_⟩:=h;exact⟨v,vs,d,ds,p,q,rfl,rfl,j,k⟩}}
end
def agg_of {c:Nat} {t:TypeId} {fs:Array Field} (d:P.underlying t=some (.struct fs)) (h:Value.okWide P W .any c t v):∃cs,v=.agg cs:=by unfold Value.okWide at h;rw[d]at h;obtain⟨cs,e,_⟩:=h;exact⟨cs,e⟩
def one_of {c:Nat} {t:TypeId} {x:V} (h:Value.okWide P W .any c t v) (d:P.underlying t=some .string\/∃e,P.underlying t=some (.slice e)) (j:RV W v.cells.toList [x]):PB (Ss W) v x:=by
 have k:v.cells = #[v]:=by
  cases v<;>first
   |rfl
   | (exfalso
      unfold Value.okWide at h;rcases d with d|⟨e,d⟩<;>(rw[d]at h;unfold Cell.okWide Cell.ok at h;rw[d]at h;exact h))
 rw[k]at j;exact j.1.2 0 v x O O
def Yw {P: Program} {f: FuncId} {fn: Func} {c: Code} (B:P.funcs[f]? = some fn) (k:(fn.name=="runtime.NumGoroutine")=false) (C:fn.body=some c) {W: World} {args: Array Value} {vs: G2} {b: Bool} (w:Ts (Ss W) args.toList vs) (D:Ji P f vs (.bool b)) :
  Calls P f args W λe o=>e=.returned (.bool b)/\Below W.heap.size W o:=by
 have h:=D (Ss W) (λ_=>none) W args { Kp:=zlc W,SB:=λid SB p=>(by cases p),apart:=λid SB g b p=>(by cases p),inj:=λi j K L M N b p=>(by cases p),nodup:=.nil,PA:=λid E=>(by cases E) }
  ⟨by simpa using w.1,λi v d q A=>by
   rw[Cx,E9]at A;obtain⟨x,F,rfl⟩:=A;exact .Kp _ _ (w.2 i v x q F)⟩
 rw[cn B k C]at h;refine bc h λe Q u=>?_;cases e with
 |returned v=>
  obtain⟨R,G,q,_,_,I⟩:=u;cases q with
  |Kp v x J=>
   cases J;exact⟨rfl,I.below⟩
 |panicked=>exact u.elim
 |outgrown=>exact u.elim
def law_done {enc:TypeId×Value->H} {f:FuncId} {fn:Func} {c:Code} {s:ChangeSpec} {apart fresh h k:Bool} {args:Array Value} {ds gs:L1 (DataW H)} {d:L1 MemPlace} {K:TypeId} {vs:G2} (L:DataW.Whole enc P fn.params.toList s.vars apart W args.toList ds gs d) (M:s.vars=[]) (R:P.funcs[f]? = some fn) (A:(fn.name=="runtime.NumGoroutine")=false) (U:fn.body=some c) (B:fn.resultTypes = #[K]) (j:P.underlying K=some .bool) (a:laidOutB P=true) (C:fn.params.toList.all (λt=>P.readableRec t&&decide (t<P.types.size))=true) (F:s.fn H ds={ results:=[.lit (.bool true)],args:=ds }) (g:Ts (Ss W) args.toList vs) (i:Ji P f vs (.bool true)) :
  Calls P f args W λe o=>∃v,e=.returned v/\s.post enc P fn apart fresh h k W args v o:=by
 refine(Yw R A U g i).mono λe o ⟨l,N⟩=>?_;subst l;have D:=L;obtain⟨p,q,m,G,Q,n,r⟩:=L;rw[M]at G;have I:gs=[]/\q=[]:=by
  cases gs with
  |nil=>exact⟨rfl,G⟩
  |cons=>exact G.elim
 obtain⟨rfl,rfl⟩:=I;rw[M1]at Q;subst Q;have J:=D.lt;refine⟨_,rfl,zgd (pa:=d) (pv:=[]) D N (by simp) (λb u w=>?_) (λu E=>?_) (λu E=>?_) ?_⟩
 ·rw[M1,F,B];exact trodAll_cons_mk (shut_bool j _) trodAll_mk0
 ·rw[M1,F];exact Qd a N C m J E
 ·rw[M1,F,M];rfl
 ·exact ok_one B O (okWide_bool_mk j _)
end Go.Hk
namespace Go.Proofs.YtcdpbkolkeeopaaGreat.kindSubst
open Go.ChangeShapes Go.WideShapes Go.RowKit
set_option linter.unusedVariables false
theorem own:ownKnob Tryz.prog.godebug=none:=by kernel_rfl
def dj:=@Hk.trodAllS
def ef:=@Hk.Rds.of
theorem zoj (os:Os) (started:os.Started) (H:Type) (enc:TypeId×Value->H):ReturnsInHanded {} Tryz.checked os 10 .any (Rows.kindSubstSpec.pre6 enc Tryz.prog Tryz.f10 Rows.kindSubstRow.domain false) (Rows.kindSubstSpec.post enc Tryz.prog Tryz.f10 false true false false):=by refine returnsInHanded_of_change (C:=Tryz.checked) own started (by kernel_rfl) Tryz.func10 (ChangeSpec.witness6 (enc:=enc) (C:=Tryz.checked) false ⟨#[],#[.agg #[.string ⟨#[]⟩,.slice none 0 0,.slice none 0 0],.slice none 0 0,.agg #[.int .i64 0,.int .i64 0,.string ⟨#[]⟩,.slice none 0 0,.slice none 0 0],.string ⟨#[]⟩,.agg #[.int .i64 0,.int .i64 0,.string ⟨#[]⟩,.slice none 0 0,.slice none 0 0]],[]⟩ 8 (by kernel_rfl) (by kernel_rfl) (by kernel_rfl) (by kernel_rfl)) ?_;intro W base args ds gs before hval hW hcnd _;let⟨p,q,hA,_⟩:=id hW;obtain⟨v1,w1,d1,x1,p1,q1,e1,rfl,hd1,hA⟩:=dj (t:=43) hA;obtain⟨v2,w2,d2,x2,p2,q2,e2,rfl,hd2,hA⟩:=dj (t:=44) hA;obtain⟨v3,w3,d3,x3,p3,q3,e3,rfl,hd3,hA⟩:=dj (t:=49) hA;obtain⟨v4,w4,d4,x4,p4,q4,e4,rfl,hd4,hA⟩:=dj (t:=9) hA;obtain⟨v5,w5,d5,x5,p5,q5,e5,rfl,hd5,hA⟩:=dj (t:=49) hA;obtain⟨rfl,rfl⟩:=Hk.trodAll0 hA;obtain⟨args⟩:=args;simp only at e1;subst e5;subst e4;subst e3;subst e2;subst e1;let⟨n1,hn1⟩:=ef hd1;let⟨m1,hm1⟩:=Hk.read_module n1 _ hn1;obtain⟨c1,rfl⟩:=Hk.agg_of Tryz.underlying43 (hval 0 43 v1 rfl rfl);let⟨n2,hn2⟩:=ef hd2;let⟨m2,hm2⟩:=Hk.read_names n2 _ hn2;have r2:=Hk.one_of (hval 1 44 v2 rfl rfl) (.inr ⟨_,Tryz.underlying44⟩) hm2;let⟨n3,hn3⟩:=ef hd3;let⟨m3,hm3⟩:=Hk.read_term n3 _ hn3;obtain⟨c3,rfl⟩:=Hk.agg_of Tryz.underlying49 (hval 2 49 v3 rfl rfl);let⟨n4,hn4⟩:=ef hd4;let⟨m4,hm4,_⟩:=Hk.rds_str Hk.ttY_ok (t:=9) rfl hn4;have r4:=Hk.one_of (hval 3 9 v4 rfl rfl) (.inl Tryz.underlying9) hm4;let⟨n5,hn5⟩:=ef hd5;let⟨m5,hm5⟩:=Hk.read_term n5 _ hn5;obtain⟨c5,rfl⟩:=Hk.agg_of Tryz.underlying49 (hval 4 49 v5 rfl rfl);exact Hk.law_done hW rfl Tryz.func10 (by decide +kernel) rfl rfl Tryz.underlying4 (by kernel_rfl) (by kernel_rfl) rfl (vs:=[.agg (Hk.dMdc m1),.sl (Hk.dKns m2),.agg (Hk.dTmc m3),.str m4,.agg (Hk.dTmc m5)]) (.mk (Hk.RV.agg hm1) (.mk r2 (.mk (Hk.RV.agg hm3) (.mk r4 (.mk (Hk.RV.agg hm5) .nil))))) (Hk.KindSubst_pure m1 m2 m3 m4 m5)
theorem zqm:laidOutB Tryz.pinned.checked.prog=true:=by kernel_rfl
theorem zql:mapsRowed Tryz.pinned.checked.prog=true:=by kernel_rfl
theorem zo1:(Rows.kindSubstRow.inPlace==Tryz.pinned.checked.prog.inPlace 10)=true:=by kernel_rfl
theorem zo0:(Rows.kindSubstRow.unfollowed==Tryz.pinned.checked.prog.unfollowed 10)=true:=by kernel_rfl
theorem zoz:(Rows.kindSubstRow.recurses==Tryz.pinned.checked.prog.recurses 10)=true:=by kernel_rfl
theorem zoy:(Rows.kindSubstRow.named==Tryz.pinned.checked.prog.varsNamed 10)=true:=by kernel_rfl
theorem closed:joinedFacts Tryz.pinned.checked.prog 10 Tryz.f10 Rows.kindSubstSpec Rows.kindSubstRow=true:=by unfold joinedFacts;simp only[Bool.and_eq_true];exact⟨⟨⟨⟨⟨⟨⟨⟨⟨⟨⟨⟨⟨⟨⟨⟨⟨⟨⟨⟨⟨⟨⟨⟨⟨⟨⟨⟨⟨⟨⟨by kernel_rfl,zqm⟩,zql⟩,by kernel_rfl⟩,by kernel_rfl⟩,by kernel_rfl⟩,by kernel_rfl⟩,by kernel_rfl⟩,by kernel_rfl⟩,zo1⟩,zo0⟩,zoz⟩,zoy⟩,by kernel_rfl⟩,by kernel_rfl⟩,by kernel_rfl⟩,by kernel_rfl⟩,by kernel_rfl⟩,by kernel_rfl⟩,by kernel_rfl⟩,by kernel_rfl⟩,by kernel_rfl⟩,by kernel_rfl⟩,by kernel_rfl⟩,by kernel_rfl⟩,by kernel_rfl⟩,by kernel_rfl⟩,by kernel_rfl⟩,by kernel_rfl⟩,by kernel_rfl⟩,by kernel_rfl⟩,by kernel_rfl⟩
theorem over:Rows.kindSubstRow.holds Tryz.pinned (OpenSpec.ofChange Rows.kindSubstSpec):=OpenClaim.holds_of_wide 10 Tryz.f10 rfl rfl rfl rfl rfl rfl rfl ⟨rfl,rfl,rfl,rfl,rfl⟩ rfl rfl rfl rfl rfl (by kernel_rfl) Tryz.func10 closed (of_decide_eq_true (by kernel_rfl)) (by unfold Func.isWrapper;first|(rw[if_pos (by decide +kernel)];kernel_rfl)|(rw[if_neg (by decide +kernel)];exact⟨rfl,rfl⟩)) (λos started H enc _=>zoj os started H enc)
theorem proved:Rows.KindSubstSaid:=over
end Go.Proofs.YtcdpbkolkeeopaaGreat.kindSubst
