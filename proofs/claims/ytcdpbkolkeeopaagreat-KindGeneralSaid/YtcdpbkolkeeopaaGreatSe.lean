/- Package kind: the last numbers of holes (what the maps hold). -/
import Derived.Test.YtcdpbkolkeeopaaGreatSd
import Derived.Test.YtcdpbkolkeeopaaGreatSc
import Derived.Test.YtcdpbkolkeeopaaGreatSb
import Derived.Test.YtcdpbkolkeeopaaGreatProg
import Derived.WalkKit
import Derived.RowKit3
import Derived.Laws.NewBlocks
import Derived.Defers
import Derived.Recover
import Derived.Maps.RangeRun
set_option linter.all false
set_option maxRecDepth 100000
set_option maxHeartbeats 4000000
namespace Go.Hk
open Go.Proofs.Tryz
open Go.Proofs
open Go.MapKept
variable {I J:Imm} {θ:Int->Ty} {w w':World} {k k':Int} {m:Md} {n j sz H b0:Nat} {S L ps L' L1 L2 S' ts:List Ty} {F ids ids':List Nat} {Q:DQ} {env env':Env} {st st' st0:St} {todo todo':List DI} {P:Program} {Γ Γ1:Au} {ob:List Prop} {x:Str} {vs:List Value} {v:Value} {a t p τ:Ty} {tt:TT} {μ:Mu} {d:D} {T:List (Int×Ty)} {es:List (List V)} {Pn:V->Prop} {cx:Prop} {α:Type} {ks:List Tm} {l:List Int} {e:TypeId} {c:List V} {σ:Sb} {g:Option (Bool×Bool)} {d0:Option Nat} {t0 t1:Tm}
def Dk (m:Md) (T:List (Int×Ty)) (k:Int) (S:List Ty) (a b:Ty) (T':List (Int×Ty)):Prop :=
 Tq4 57 [.ref 1 0,.imm (.agg (dTyc a)),.imm (.agg (dTyc b))] (CI m T k S) (.ret (.imm (.tup [])) (CI m T' k S))
def DL (m:Md) (T:List (Int×Ty)) (k:Int) (S:List Ty) (a b:Ty):Prop :=
 Tq4 57 [.ref 1 0,.imm (.agg (dTyc a)),.imm (.agg (dTyc b))] (CI m T k S) (.pan Gn)
theorem pH (m:Md) (T:List (Int×Ty)) (k:Int) (S:List Ty) (hs:Sol (BH T) θ) (a b:Ty) (h:Int) (ha:Top (BH T) a (Ao h)) (hb:Top (BH T) b (Ao h)):Dk m T k S a b T:=by
 unfold Dk;have hA:=Cn m T k S hs a _ ha;have hB:=Cn m T k S hs b _ hb;obtain ⟨a1,a2,a3,a4⟩:=a;obtain ⟨b1,b2,b3,b4⟩:=b;exact AQ Ah func57 rfl [4,5,6,7]<|Ai rfl<|A4 [(1,1),(2,2),(3,3)] [] [1,2,3] (fr:=[]) (nm:=[]) rfl trivial (by simp) hA Ax rfl Ec rfl rfl rfl<|Ai rfl<|A4 [(1,1),(2,2),(3,3)] [] [1,2,3] (fr:=[]) (nm:=[]) rfl trivial (by simp) hB Ax rfl Ec rfl rfl rfl<|yg [] rfl (by simp [Ap];rfl)<|R7 rfl λh=>yd [.a] rfl (by simp [Ap])<|R6 rfl λh=>Av rfl<|Ag ⟨_,BA⟩
theorem X3 (m:Md) (T:List (Int×Ty)) (k:Int) (S:List Ty) (hs:Sol (BH T) θ) (a b u:Ty) (h:Int) (ha:Top (BH T) a (Ao h)) (hb:Top (BH T) b u) (hu:BQ u≠9) (hwu:C9 u=true) (ho:h∉CO (A9 θ u)):Dk m T k S a b (Qt T h u):=by
 unfold Dk;have hA:=Cn m T k S hs a _ ha;have hB:=Cn m T k S hs b _ hb;have hfree:BH T h=none:=ha.end_ rfl;obtain ⟨o,met',hC,e,_⟩:=Qn m T k S hs hfree _ u [] (BL _) hwu (λx hx=>nomatch hx);rw [decide_eq_false ho] at e;subst e;unfold DO at hC;have hst:=JJ h u T;obtain ⟨a1,a2,a3,a4⟩:=a;obtain ⟨b1,b2,b3,b4⟩:=b;obtain ⟨u1,u2,u3,u4⟩:=u;simp only [BQ] at hu;have hub:(u1 == 9)=false:=by simpa using hu
 refine AQ Ah func57 rfl [4,5,6,7]<|Ai rfl<|A4 [(1,1),(2,2),(3,3)] [] [1,2,3] (fr:=[]) (nm:=[]) rfl trivial (by simp) hA Ax rfl Ec rfl rfl rfl<|Ai rfl<|A4 [(1,1),(2,2),(3,3)] [] [1,2,3] (fr:=[]) (nm:=[]) rfl trivial (by simp) hB Ax rfl Ec rfl rfl rfl<|yg [] rfl (by simp [Ap];rfl)<|Aa rfl (λh=>by exfalso;simp [hub] at h) (λh=>?_);refine yd [.a] rfl (by simp [Ap])<|Aa rfl (λh=>by exfalso;simp [hub] at h) (λh=>?_)
 exact Av rfl<|Ev rfl<|Ai rfl<|A4 [(1,1),(2,2),(3,3),(6,4)] [] [1,2,3] (fr:=[]) (nm:=[6,6]) rfl trivial (by simp) hC JK rfl Ec rfl rfl rfl<|Ai rfl<|Ad rfl Fx<|Ai rfl<|Fs Ah rfl rfl rfl (Ei T)<|yg [] rfl (by simp;rfl)<|BP ⟨_,rfl,rfl,rfl,congrArg (λx=>some (some (Blk.map x))) hst,AC⟩
theorem dI (m:Md) (T:List (Int×Ty)) (k:Int) (S:List Ty) (hs:Sol (BH T) θ) (a b u:Ty) (h:Int) (ha:Top (BH T) a (Ao h)) (hb:Top (BH T) b u) (hu:BQ u≠9) (hwu:C9 u=true) (ho:h∈CO (A9 θ u)):DL m T k S a b:=by
 unfold DL;have hA:=Cn m T k S hs a _ ha;have hB:=Cn m T k S hs b _ hb;have hfree:BH T h=none:=ha.end_ rfl;obtain ⟨o,met',hC,e,_⟩:=Qn m T k S hs hfree _ u [] (BL _) hwu (λx hx=>nomatch hx);rw [decide_eq_true ho] at e;subst e;unfold DO at hC;obtain ⟨a1,a2,a3,a4⟩:=a;obtain ⟨b1,b2,b3,b4⟩:=b;obtain ⟨u1,u2,u3,u4⟩:=u;simp only [BQ] at hu;have hub:(u1 == 9)=false:=by simpa using hu
 refine AQ Ah func57 rfl [4,5,6,7]<|Ai rfl<|A4 [(1,1),(2,2),(3,3)] [] [1,2,3] (fr:=[]) (nm:=[]) rfl trivial (by simp) hA Ax rfl Ec rfl rfl rfl<|Ai rfl<|A4 [(1,1),(2,2),(3,3)] [] [1,2,3] (fr:=[]) (nm:=[]) rfl trivial (by simp) hB Ax rfl Ec rfl rfl rfl<|yg [] rfl (by simp [Ap];rfl)<|Aa rfl (λh=>by exfalso;simp [hub] at h) (λh=>?_);refine yd [.a] rfl (by simp [Ap])<|Aa rfl (λh=>by exfalso;simp [hub] at h) (λh=>?_);exact Av rfl<|Ev rfl<|Ai rfl<|A4 [(1,1),(2,2),(3,3),(6,4)] [] [1,2,3] (fr:=[]) (nm:=[6,6]) rfl trivial (by simp) hC JK rfl Ec rfl rfl rfl<|Ai rfl<|Bd [] rfl (by simp) (I7 _ rfl) trivial rfl rfl rfl<|By 99 rfl
theorem tZ (m:Md) (T:List (Int×Ty)) (k:Int) (S:List Ty) (hs:Sol (BH T) θ) (a b:Ty) (h g:Int) (ha:Top (BH T) a (Ao h)) (hb:Top (BH T) b (Ao g)) (hg:g<h):Dk m T k S a b (Qt T h (Ao g)):=by
 unfold Dk;have hA:=Cn m T k S hs a _ ha;have hB:=Cn m T k S hs b _ hb;have hC:=JI m T k S h g [] (by simp) (by omega) (hb.end_ rfl);unfold DO at hC;have hst:=JJ h (Ao g) T;obtain ⟨a1,a2,a3,a4⟩:=a;obtain ⟨b1,b2,b3,b4⟩:=b;refine AQ Ah func57 rfl [4,5,6,7]<|Ai rfl<|A4 [(1,1),(2,2),(3,3)] [] [1,2,3] (fr:=[]) (nm:=[]) rfl trivial (by simp) hA Ax rfl Ec rfl rfl rfl<|Ai rfl<|A4 [(1,1),(2,2),(3,3)] [] [1,2,3] (fr:=[]) (nm:=[]) rfl trivial (by simp) hB Ax rfl Ec rfl rfl rfl<|yg [] rfl (by simp [Ap];rfl)<|Aa rfl (λh'=>by exfalso;simp at h';omega) (λh'=>?_);refine yd [.a] rfl (by simp [Ap])<|Aa rfl (λh'=>by exfalso;simp at h';omega) (λh'=>?_)
 exact Av rfl<|Ev rfl<|Ai rfl<|A4 [(1,1),(2,2),(3,3),(6,4)] [] [1,2,3] (fr:=[]) (nm:=[6,6]) rfl trivial (by simp) hC JK rfl Ec rfl rfl rfl<|Ai rfl<|Ad rfl Fx<|Ai rfl<|Fs Ah rfl rfl rfl (Ei T)<|yg [] rfl (by simp;rfl)<|BP ⟨_,rfl,rfl,rfl,congrArg (λx=>some (some (Blk.map x))) hst,AC⟩
theorem pF (m:Md) (T:List (Int×Ty)) (k:Int) (S:List Ty) (hs:Sol (BH T) θ) (a b:Ty) (h g:Int) (ha:Top (BH T) a (Ao h)) (hb:Top (BH T) b (Ao g)) (hg:h<g):Dk m T k S a b (Qt T g (Ao h)):=by
 unfold Dk;have hA:=Cn m T k S hs a _ ha;have hB:=Cn m T k S hs b _ hb;have hC:=JI m T k S g h [] (by simp) (by omega) (ha.end_ rfl);unfold DO at hC;have hst:=JJ g (Ao h) T;obtain ⟨a1,a2,a3,a4⟩:=a;obtain ⟨b1,b2,b3,b4⟩:=b;refine AQ Ah func57 rfl [4,5,6,7]<|Ai rfl<|A4 [(1,1),(2,2),(3,3)] [] [1,2,3] (fr:=[]) (nm:=[]) rfl trivial (by simp) hA Ax rfl Ec rfl rfl rfl<|Ai rfl<|A4 [(1,1),(2,2),(3,3)] [] [1,2,3] (fr:=[]) (nm:=[]) rfl trivial (by simp) hB Ax rfl Ec rfl rfl rfl<|yg [] rfl (by simp [Ap];rfl)<|Aa rfl (λh'=>?_) (λh'=>by exfalso;simp at h';omega);refine yd [.a] rfl (by simp [Ap])<|Aa rfl (λh'=>by exfalso;simp at h';omega) (λh'=>?_)
 exact Av rfl<|Ev rfl<|Ai rfl<|A4 [(1,1),(2,2),(3,3),(6,4)] [] [1,2,3] (fr:=[]) (nm:=[6,6]) rfl trivial (by simp) hC JK rfl Ec rfl rfl rfl<|Ai rfl<|Ad rfl Fx<|Ai rfl<|Fs Ah rfl rfl rfl (Ei T)<|yg [] rfl (by simp;rfl)<|BP ⟨_,rfl,rfl,rfl,congrArg (λx=>some (some (Blk.map x))) hst,AC⟩
theorem pG (m:Md) (T T':List (Int×Ty)) (k:Int) (S:List Ty) (hs:Sol (BH T) θ) (a b u:Ty) (h:Int) (ha:Top (BH T) a u) (hb:Top (BH T) b (Ao h)) (hu:BQ u≠9) (hE:Dk m T k S (Ao h) u T'):Dk m T k S a b T':=by
 unfold Dk at hE ⊢;have hA:=Cn m T k S hs a _ ha;have hB:=Cn m T k S hs b _ hb;obtain ⟨a1,a2,a3,a4⟩:=a;obtain ⟨b1,b2,b3,b4⟩:=b;obtain ⟨u1,u2,u3,u4⟩:=u;simp only [BQ] at hu;have hub:(u1 == 9)=false:=by simpa using hu
 refine AQ Ah func57 rfl [4,5,6,7]<|Ai rfl<|A4 [(1,1),(2,2),(3,3)] [] [1,2,3] (fr:=[]) (nm:=[]) rfl trivial (by simp) hA Ax rfl Ec rfl rfl rfl<|Ai rfl<|A4 [(1,1),(2,2),(3,3)] [] [1,2,3] (fr:=[]) (nm:=[]) rfl trivial (by simp) hB Ax rfl Ec rfl rfl rfl<|yg [] rfl (by simp [Ap];rfl)<|Aa rfl (λh'=>by exfalso;simp [hub] at h') (λh'=>?_);refine Av rfl<|Aa rfl (λh'=>by exfalso;simp [hub] at h') (λh'=>?_);exact yd [.a] rfl (by simp)<|Jf [] [(1,1),(2,2),(3,3)] [] rfl hE Ax rfl rfl<|Ai rfl<|BP ⟨_,BA⟩
theorem iK (m:Md) (T:List (Int×Ty)) (k:Int) (S:List Ty) (hs:Sol (BH T) θ) (a b u:Ty) (h:Int) (ha:Top (BH T) a u) (hb:Top (BH T) b (Ao h)) (hu:BQ u≠9) (hE:DL m T k S (Ao h) u):DL m T k S a b:=by
 unfold DL at hE ⊢;have hA:=Cn m T k S hs a _ ha;have hB:=Cn m T k S hs b _ hb;obtain ⟨a1,a2,a3,a4⟩:=a;obtain ⟨b1,b2,b3,b4⟩:=b;obtain ⟨u1,u2,u3,u4⟩:=u;simp only [BQ] at hu;have hub:(u1 == 9)=false:=by simpa using hu
 refine AQ Ah func57 rfl [4,5,6,7]<|Ai rfl<|A4 [(1,1),(2,2),(3,3)] [] [1,2,3] (fr:=[]) (nm:=[]) rfl trivial (by simp) hA Ax rfl Ec rfl rfl rfl<|Ai rfl<|A4 [(1,1),(2,2),(3,3)] [] [1,2,3] (fr:=[]) (nm:=[]) rfl trivial (by simp) hB Ax rfl Ec rfl rfl rfl<|yg [] rfl (by simp [Ap];rfl)<|Aa rfl (λh'=>by exfalso;simp [hub] at h') (λh'=>?_);refine Av rfl<|Aa rfl (λh'=>by exfalso;simp [hub] at h') (λh'=>?_);exact yd [.a] rfl (by simp)<|Bd [(1,1),(2,2),(3,3)] rfl (by simp) hE Ax rfl rfl rfl<|By 114 rfl
theorem aJ (m:Md) (T:List (Int×Ty)) (k:Int) (S:List Ty) (hs:Sol (BH T) θ) (a b u v:Ty) (ha:Top (BH T) a u) (hb:Top (BH T) b v) (hu:BQ u≠9) (hv:BQ v≠9) (hd:¬EW u v):DL m T k S a b:=by
 unfold DL;have hA:=Cn m T k S hs a _ ha;have hB:=Cn m T k S hs b _ hb;obtain ⟨a1,a2,a3,a4⟩:=a;obtain ⟨b1,b2,b3,b4⟩:=b;obtain ⟨u1,u2,u3,u4⟩:=u;obtain ⟨v1,v2,v3,v4⟩:=v;simp only [BQ] at hu hv;simp only [EW,BQ,num,jM,Ff] at hd;have hub:(u1 == 9)=false:=by simpa using hu
 have hvb:(v1 == 9)=false:=by simpa using hv
 refine AQ Ah func57 rfl [4,5,6,7]<|Ai rfl<|A4 [(1,1),(2,2),(3,3)] [] [1,2,3] (fr:=[]) (nm:=[]) rfl trivial (by simp) hA Ax rfl Ec rfl rfl rfl<|Ai rfl<|A4 [(1,1),(2,2),(3,3)] [] [1,2,3] (fr:=[]) (nm:=[]) rfl trivial (by simp) hB Ax rfl Ec rfl rfl rfl<|yg [] rfl (by simp [Ap];rfl)<|Aa rfl (λh'=>by exfalso;simp [hub] at h') (λh'=>?_);refine Av rfl<|Aa rfl (λh'=>by exfalso;simp [hub] at h') (λh'=>?_);refine Av rfl<|Aa rfl (λh'=>by exfalso;simp [hvb] at h') (λh'=>?_);refine Pu rfl<|Bd [] rfl (by simp) (I7 _ (by
  show (bif bif bif u1 == v1 then u2 == v2 else false then u3 == v3 else false then ((dTys u4).length:Int) == (dTys v4).length else false)=false;rw [Bool.eq_false_iff];intro hc;apply hd;simp at hc;obtain ⟨⟨⟨c1,c2⟩,c3⟩,c4⟩:=hc;exact ⟨c1,c2,c3,by omega⟩)) trivial rfl rfl rfl ?_
 exact By 58 rfl
def jK (m:Md) (k:Int) (S:List Ty):List Ty->List Ty->List (Int×Ty)->List (Int×Ty)->Prop
 | a::r,b::q,T,T'=>∃T1,Dk m T k S a b T1/\jK m k S r q T1 T'
 | _,_,T,T'=>T'=T
theorem iL (m:Md) (T T':List (Int×Ty)) (k:Int) (S:List Ty) (hs:Sol (BH T) θ) (a b u v:Ty) (ha:Top (BH T) a u) (hb:Top (BH T) b v) (hu:BQ u≠9) (hv:BQ v≠9) (hd:EW u v) (hw:C9 u=true) (hC:jK m k S (Ff u) (Ff v) T T'):Dk m T k S a b T':=by
 unfold Dk;have hA:=Cn m T k S hs a _ ha;have hB:=Cn m T k S hs b _ hb;have hul:=Ie hw;obtain ⟨a1,a2,a3,a4⟩:=a;obtain ⟨b1,b2,b3,b4⟩:=b;obtain ⟨u1,u2,u3,ps⟩:=u;obtain ⟨v1,v2,v3,qs⟩:=v;simp only [BQ] at hu hv;simp only [EW,BQ,num,jM,Ff] at hd hul hC;obtain ⟨rfl,rfl,rfl,hl⟩:=hd;have hub:(u1 == 9)=false:=by simpa using hu
 refine AQ Ah func57 rfl [4,5,6,7]<|Ai rfl<|A4 [(1,1),(2,2),(3,3)] [] [1,2,3] (fr:=[]) (nm:=[]) rfl trivial (by simp) hA Ax rfl Ec rfl rfl rfl<|Ai rfl<|A4 [(1,1),(2,2),(3,3)] [] [1,2,3] (fr:=[]) (nm:=[]) rfl trivial (by simp) hB Ax rfl Ec rfl rfl rfl<|yg [] rfl (by simp [Ap];rfl)<|Aa rfl (λh'=>by exfalso;simp [hub] at h') (λh'=>?_);refine Av rfl<|Aa rfl (λh'=>by exfalso;simp [hub] at h') (λh'=>?_);refine Av rfl<|Aa rfl (λh'=>by exfalso;simp [hub] at h') (λh'=>?_);refine Pu rfl ?_;have hwt:Tq3 117 [.bool (bif bif bif u1 == u1 then u2 == u2 else false then u3 == u3 else false then ((dTys ps).length:Int) == (dTys qs).length else false)] (.tup []):=by
  rw [show (bif bif bif u1 == u1 then u2 == u2 else false then u3 == u3 else false then ((dTys ps).length:Int) == (dTys qs).length else false)=true by simp;omega];exact Fx
 refine Ad rfl hwt<|Ai rfl<|Ak (λz:Nat×List (Int×Ty)=>[(62,.imm (.int .i64 z.1)),(61,.imm (.int .i64 ps.length)),(0,.ref 1 0),(4,.ref 4 0),(5,.ref 5 0)]) (λz=>(4,some (.immb 25 4 (dTyc (.mk u1 u2 u3 ps))))::(5,some (.immb 25 4 (dTyc (.mk u1 u2 u3 qs))))::CI m z.2 k S) [6,7] (λz=>ps.length-z.1)
  (λz=>z.1<=ps.length/\jK m k S (ps.drop z.1) (qs.drop z.1) z.2 T') (0,T)
  ⟨AF _,hC⟩ ⟨rfl,A8 (by simp),AH⟩ BA rfl λz hz ih=>?_
 clear hC;obtain ⟨j,K⟩:=z;obtain ⟨hj1,hj2⟩:=hz;simp only at hj1 hj2 ih;refine Av rfl<|Aa rfl (λh'=>?_) (λh'=>?_)
 ·have hlt:j<ps.length:=by simp at h';omega
  obtain ⟨p,hp⟩:=Am hlt;obtain ⟨q,hq⟩:=Am (l:=qs) (i:=j) (by omega);have hgp:=AA hp;have hgq:=AA hq;rw [As hp,As hq,jK] at hj2;obtain ⟨K1,hE,hj2⟩:=hj2;unfold Dk at hE;obtain ⟨p1,p2,p3,p4⟩:=p;obtain ⟨q1,q2,q3,q4⟩:=q;exact Av rfl<|HA rfl hgp<|Ai rfl<|HA rfl hgq<|Ai rfl<|Jf [] [(1,1),(2,2),(3,3)] [] rfl hE Ax rfl rfl<|yg [] rfl (by simp;rfl)<|Ae (ih (j+1,K1) (by simp only;omega) ⟨by simp only;omega,hj2⟩) ⟨M6,BJ⟩ BA rfl
 ·have hlt:¬j<ps.length:=by simp at h';omega
  rw [Bh (by omega)] at hj2;simp only [jK] at hj2;subst hj2;exact At rfl<|Av rfl<|BP ⟨_,BA⟩
def jJ (m:Md) (k:Int) (S:List Ty):List Ty->List Ty->List (Int×Ty)->Prop
 | a::r,b::q,T=>DL m T k S a b\/∃T1,Dk m T k S a b T1/\jJ m k S r q T1
 | _,_,_=>False
theorem aI (m:Md) (T:List (Int×Ty)) (k:Int) (S:List Ty) (hs:Sol (BH T) θ) (a b u v:Ty) (ha:Top (BH T) a u) (hb:Top (BH T) b v) (hu:BQ u≠9) (hv:BQ v≠9) (hd:EW u v) (hw:C9 u=true) (hC:jJ m k S (Ff u) (Ff v) T):DL m T k S a b:=by
 unfold DL;have hA:=Cn m T k S hs a _ ha;have hB:=Cn m T k S hs b _ hb;have hul:=Ie hw;obtain ⟨a1,a2,a3,a4⟩:=a;obtain ⟨b1,b2,b3,b4⟩:=b;obtain ⟨u1,u2,u3,ps⟩:=u;obtain ⟨v1,v2,v3,qs⟩:=v;simp only [BQ] at hu hv;simp only [EW,BQ,num,jM,Ff] at hd hul hC;obtain ⟨rfl,rfl,rfl,hl⟩:=hd;have hub:(u1 == 9)=false:=by simpa using hu
 refine AQ Ah func57 rfl [4,5,6,7]<|Ai rfl<|A4 [(1,1),(2,2),(3,3)] [] [1,2,3] (fr:=[]) (nm:=[]) rfl trivial (by simp) hA Ax rfl Ec rfl rfl rfl<|Ai rfl<|A4 [(1,1),(2,2),(3,3)] [] [1,2,3] (fr:=[]) (nm:=[]) rfl trivial (by simp) hB Ax rfl Ec rfl rfl rfl<|yg [] rfl (by simp [Ap];rfl)<|Aa rfl (λh'=>by exfalso;simp [hub] at h') (λh'=>?_);refine Av rfl<|Aa rfl (λh'=>by exfalso;simp [hub] at h') (λh'=>?_);refine Av rfl<|Aa rfl (λh'=>by exfalso;simp [hub] at h') (λh'=>?_);refine Pu rfl ?_;have hwt:Tq3 117 [.bool (bif bif bif u1 == u1 then u2 == u2 else false then u3 == u3 else false then ((dTys ps).length:Int) == (dTys qs).length else false)] (.tup []):=by
  rw [show (bif bif bif u1 == u1 then u2 == u2 else false then u3 == u3 else false then ((dTys ps).length:Int) == (dTys qs).length else false)=true by simp;omega];exact Fx
 refine Ad rfl hwt<|Ai rfl<|Ak (λz:Nat×List (Int×Ty)=>[(62,.imm (.int .i64 z.1)),(61,.imm (.int .i64 ps.length)),(0,.ref 1 0),(4,.ref 4 0),(5,.ref 5 0)]) (λz=>(4,some (.immb 25 4 (dTyc (.mk u1 u2 u3 ps))))::(5,some (.immb 25 4 (dTyc (.mk u1 u2 u3 qs))))::CI m z.2 k S) [6,7] (λz=>ps.length-z.1)
  (λz=>z.1<=ps.length/\jJ m k S (ps.drop z.1) (qs.drop z.1) z.2) (0,T)
  ⟨AF _,hC⟩ ⟨rfl,A8 (by simp),AH⟩ BA rfl λz hz ih=>?_
 clear hC;obtain ⟨j,K⟩:=z;obtain ⟨hj1,hj2⟩:=hz;simp only at hj1 hj2 ih;refine Av rfl<|Aa rfl (λh'=>?_) (λh'=>?_)
 ·have hlt:j<ps.length:=by simp at h';omega
  obtain ⟨p,hp⟩:=Am hlt;obtain ⟨q,hq⟩:=Am (l:=qs) (i:=j) (by omega);have hgp:=AA hp;have hgq:=AA hq;rw [As hp,As hq,jJ] at hj2;obtain ⟨p1,p2,p3,p4⟩:=p;obtain ⟨q1,q2,q3,q4⟩:=q;refine Av rfl<|HA rfl hgp<|Ai rfl<|HA rfl hgq<|Ai rfl ?_;rcases hj2 with hE | ⟨K1,hE,hj2⟩
  ·unfold DL at hE;exact Bd [(1,1),(2,2),(3,3)] rfl (by simp) hE Ax rfl rfl rfl<|N0 1 rfl (by simp;rfl)<|By 76 rfl
  ·unfold Dk at hE;exact Jf [] [(1,1),(2,2),(3,3)] [] rfl hE Ax rfl rfl<|yg [] rfl (by simp;rfl)<|Ae (ih (j+1,K1) (by simp only;omega) ⟨by simp only;omega,hj2⟩) ⟨M6,BJ⟩ BA rfl
 ·have hlt:¬j<ps.length:=by simp at h';omega
  rw [Bh (by omega)] at hj2;simp only [jJ] at hj2
def zao (m:Md) (T:List (Int×Ty)) (k:Int) (S:List Ty) (a b:Ty):Option Sb->Prop
 | some σ'=>∃T',Dk m T k S a b T'/\BH T'=σ'
 | none=>DL m T k S a b
def EqsR (m:Md) (T:List (Int×Ty)) (k:Int) (S:List Ty) (xs ys:List Ty):Option Sb->Prop
 | some σ'=>∃T',jK m k S xs ys T T'/\BH T'=σ'
 | none=>jJ m k S xs ys T
theorem TS {m:Md} {k:Int} {S:List Ty} {H n:Nat} (hE:∀(T:List (Int×Ty)) (a b:Ty) (r:Option Sb),Ox n (BH T) a b r->(∃θ,Sol (BH T) θ)->Dom H (BH T)->C9 a=true->C9 b=true->inB H a->inB H b->zao m T k S a b r) :
  ∀(xs ys:List Ty) (T:List (Int×Ty)) (r:Option Sb),Le (Ox n) (BH T) xs ys r->(∃θ,Sol (BH T) θ)->Dom H (BH T)->(∀x∈xs,C9 x=true/\inB H x)->(∀y∈ys,C9 y=true/\inB H y)->EqsR m T k S xs ys r
 | [],[],T,r,h,_,_,_,_=>by
  have e:r=some (BH T):=h;subst e;exact ⟨T,rfl,rfl⟩
 | [],_::_,_,_,h,_,_,_,_=>h.elim
 | _::_,[],_,_,h,_,_,_,_=>h.elim
 | x::xs,y::ys,T,r,h,hs,hd,hx,hy=>by
  rcases h with ⟨h1,rfl⟩ | ⟨σ1,h1,h2⟩
  ·exact .inl (hE T x y none h1 hs hd (hx x (by simp)).1 (hy y (by simp)).1 (hx x (by simp)).2 (hy y (by simp)).2)
  ·obtain ⟨T1,c1,e1⟩:=hE T x y (some σ1) h1 hs hd (hx x (by simp)).1 (hy y (by simp)).1 (hx x (by simp)).2 (hy y (by simp)).2;obtain ⟨θ,hθ⟩:=hs;obtain ⟨g1,g2,_,_⟩:=Ru h1 hθ hd (hx x (by simp)).1 (hy y (by simp)).1 (hx x (by simp)).2 (hy y (by simp)).2;subst e1;have ih:=TS hE xs ys T1 r h2 g1 g2 (λz hz=>hx z (by simp [hz])) (λz hz=>hy z (by simp [hz]));cases r with
   | none=>exact .inr ⟨T1,c1,ih⟩
   | some σ' =>
    obtain ⟨T',c2,e2⟩:=ih;exact ⟨T',⟨T1,c1,c2⟩,e2⟩
theorem dJ (m:Md) (k:Int) (S:List Ty):∀(n:Nat) (T:List (Int×Ty)) (a b:Ty) (r:Option Sb),Ox n (BH T) a b r->(∃θ,Sol (BH T) θ)->Dom H (BH T)->C9 a=true->C9 b=true->inB H a->inB H b->zao m T k S a b r:=by
 intro n
 induction n with
 | zero=>intro T a b r h;exact h.elim
 | succ n IH =>
 intro T a b r hE hs hd wa wb ia ib;obtain ⟨u,v,hu,hv,hT⟩:=hE;obtain ⟨θ,hθ⟩:=hs;have wu:=hu.wf hθ wa;have wv:=hv.wf hθ wb;have iu:=hu.inB hd ia;have iv:=hv.inB hd ib;by_cases u9:BQ u=9
 ·have eu:=E7 wu u9;by_cases v9:BQ v=9
  ·have ev:=E7 wv v9;rw [eu] at hu;rw [ev] at hv;by_cases e:num u=num v
   ·have hr:r=some (BH T):=by simpa [Dp,u9,v9,e] using hT
    subst hr;rw [e] at hu;exact ⟨T,pH m T k S hθ a b (num v) hu hv,rfl⟩
   ·have hr:r=some (Ew (BH T) (max (num u) (num v)) (Ao (min (num u) (num v)))):=by simpa [Dp,u9,v9,e] using hT
    subst hr;rcases Int.lt_or_gt_of_ne e with hl | hl
    ·rw [Zo (by omega),Zm (by omega)];exact ⟨_,pF m T k S hθ a b (num u) (num v) hu hv hl,IW _ _ _⟩
    ·rw [Zn (by omega),Zl (by omega)];exact ⟨_,tZ m T k S hθ a b (num u) (num v) hu hv hl,IW _ _ _⟩
  ·rw [eu] at hu;by_cases o:jG (BH T) (num u) v
   ·have hr:r=none:=by simpa [Dp,u9,v9,o] using hT
    subst hr;exact dI m T k S hθ a b v (num u) hu hv v9 wv (hθ.occ.1 o)
   ·have hr:r=some (Ew (BH T) (num u) v):=by simpa [Dp,u9,v9,o] using hT
    subst hr;exact ⟨_,X3 m T k S hθ a b v (num u) hu hv v9 wv (λh=>o (hθ.occ.2 h)),IW _ _ _⟩
 ·by_cases v9:BQ v=9
  ·have ev:=E7 wv v9;rw [ev] at hv;have hvv:Top (BH T) (Ao (num v)) (Ao (num v)):=VG hv;have huu:=VG hu;by_cases o:jG (BH T) (num v) u
   ·have hr:r=none:=by simpa [Dp,u9,v9,o] using hT
    subst hr;exact iK m T k S hθ a b u (num v) hu hv u9 (dI m T k S hθ _ _ u (num v) hvv huu u9 wu (hθ.occ.1 o))
   ·have hr:r=some (Ew (BH T) (num v) u):=by simpa [Dp,u9,v9,o] using hT
    subst hr;exact ⟨_,pG m T _ k S hθ a b u (num v) hu hv u9 (X3 m T k S hθ _ _ u (num v) hvv huu u9 wu (λh=>o (hθ.occ.2 h))),IW _ _ _⟩
  ·by_cases sh:EW u v
   ·have hr:Le (Ox n) (BH T) (Ff u) (Ff v) r:=by simpa [Dp,u9,v9,sh] using hT
    have hc:=TS IH (Ff u) (Ff v) T r hr ⟨θ,hθ⟩ hd (λp hp=>⟨EU wu p hp,iu.part u9 hp⟩) (λp hp=>⟨EU wv p hp,iv.part v9 hp⟩);cases r with
    | none=>exact aI m T k S hθ a b u v hu hv u9 v9 sh wu hc
    | some σ' =>
     obtain ⟨T',c,e⟩:=hc;exact ⟨T',iL m T T' k S hθ a b u v hu hv u9 v9 sh wu c,e⟩
   ·have hr:r=none:=by simpa [Dp,u9,v9,sh] using hT
    subst hr;exact aJ m T k S hθ a b u v hu hv u9 v9 sh
def SA:TT:=[
 (3,⟨.int .i64,false,1,8,[.imm (.int .i64 0)]⟩),
 (4,⟨.bool,false,1,1,[.imm (.bool false)]⟩),
 (25,⟨.struct [(0,22),(1,3),(2,9),(3,23)],true,4,56,[.imm (.int .i64 0),.imm (.int .i64 0),.imm (.str []),.nils]⟩),
 (23,⟨.sl 25,false,1,24,[.nils]⟩),
 (105,⟨.struct [(0,23),(1,23)],true,2,48,[.nils,.nils]⟩),
 (9,⟨.str,false,1,16,[.imm (.str [])]⟩),
 (45,⟨.int .i64,false,1,8,[.imm (.int .i64 0)]⟩),
 (22,⟨.int .i64,false,1,8,[.imm (.int .i64 0)]⟩),
 (43,⟨.struct [(0,9),(1,40),(2,41)],true,3,64,[.imm (.str []),.nils,.nils]⟩),
 (44,⟨.sl 84,false,1,24,[.nils]⟩),
 (130,⟨.sl 3,false,1,24,[.nils]⟩),
 (49,⟨.struct [(0,45),(1,3),(2,9),(3,46),(4,47)],true,5,80,[.imm (.int .i64 0),.imm (.int .i64 0),.imm (.str []),.nils,.nils]⟩),
 (46,⟨.sl 49,false,1,24,[.nils]⟩),
 (40,⟨.sl 113,false,1,24,[.nils]⟩),
 (41,⟨.sl 71,false,1,24,[.nils]⟩),
 (111,⟨.sl 178,false,1,24,[.nils]⟩),
 (71,⟨.struct [(0,9),(1,9),(2,25),(6,25),(10,49)],true,15,224,[.imm (.str []),.imm (.str []),.imm (.int .i64 0),.imm (.int .i64 0),.imm (.str []),.nils,.imm (.int .i64 0),.imm (.int .i64 0),.imm (.str []),.nils,.imm (.int .i64 0),.imm (.int .i64 0),.imm (.str []),.nils,.nils]⟩),
 (178,⟨.struct [(0,9),(1,23)],true,2,40,[.imm (.str []),.nils]⟩),
 (113,⟨.struct [(0,9),(1,111)],true,2,40,[.imm (.str []),.nils]⟩),
 (84,⟨.struct [(0,9),(1,25)],true,5,72,[.imm (.str []),.imm (.int .i64 0),.imm (.int .i64 0),.imm (.str []),.nils]⟩),
 (47,⟨.sl 182,false,1,24,[.nils]⟩),
 (180,⟨.int .i64,false,1,8,[.imm (.int .i64 0)]⟩),
 (182,⟨.struct [(0,180),(1,3),(2,9),(3,47)],true,4,56,[.imm (.int .i64 0),.imm (.int .i64 0),.imm (.str []),.nils]⟩),
 (58,⟨.sl 45,false,1,24,[.nils]⟩),
 (73,⟨.sl 9,false,1,24,[.nils]⟩),
 (64,⟨.int .i64,false,1,8,[.imm (.int .i64 0)]⟩)]
theorem AE:TTok prog SA:=.of_eq (l:=[3,4,25,23,105,9,45,22,43,44,130,49,46,40,41,111,71,178,113,84,47,180,182,58,73,64]) (by kernel_rfl)
section
variable {k:List DI}
theorem rd (path:List Pt) (h:run SA n 300 path todo env st ids [] = .at k env' st' ids' ob) (hob:AG ob) (hd:Tq1 n F Q k env' st' ids'):Tq2 n F Q todo env st ids:=L4 AE Fh 300 path h hob hd
theorem AM (h:run SA n 300 [] todo env st ids [] = .at k env' st' ids' ob) (hd:Tq1 n F Q k env' st' ids') (hob:AG ob:=by simp):Tq2 n F Q todo env st ids:=rd [] h hob hd
theorem zH (h:run SA n 300 [] todo env st ids [] = .at k env' st' ids' ob) (hd:Tq1 n F Q k env' st' ids') (hob:AG ob:=by simp [Ap]):Tq2 n F Q todo env st ids:=rd [] h hob hd
theorem rg (path:List Pt) (h:run SA n 300 path todo env st ids [] = .at k env' st' ids' ob) (hob:AG ob) (hd:Tq1 n F Q k env' st' ids'):Tq1 n F Q todo env st ids:=J4 AE Fh 300 path h hob hd
theorem AP (h:run SA n 300 [] todo env st ids [] = .at k env' st' ids' ob) (hd:Tq1 n F Q k env' st' ids') (hob:AG ob:=by simp):Tq1 n F Q todo env st ids:=rg [] h hob hd
theorem IX (h:run SA n 300 [] todo env st ids [] = .at k env' st' ids' ob) (hd:Tq1 n F Q k env' st' ids') (hob:AG ob:=by simp [Ap]):Tq1 n F Q todo env st ids:=rg [] h hob hd
theorem ri {m:Int} {t:Nat} (h:Se SA n env todo=some ⟨es,m,sz,e,g,ob,some t,todo'⟩) (hc:Ap g->0<=m/\es[m.toNat]?=some c/\c.length=sz) (hob:AG ob) (hk:Tq1 n F Q todo' ((t,gD g (.ip e c 0))::env) st ids):Tq1 n F Q todo env st ids:=HT AE h hc hob hk
theorem Td {i:Nat} {t:Nat} (h:Se SA n env todo=some ⟨es,(i:Int),sz,e,g,ob,some t,todo'⟩) (hg:es[i]?=some c) (hk:Tq1 n F Q todo' ((t,gD g (.ip e c 0))::env) st ids) (hl:c.length=sz:=by simp) (hob:AG ob:=by simp):Tq1 n F Q todo env st ids:=ri h (λ_=>⟨by omega,by simpa using hg,hl⟩) hob hk
theorem rizc {i:Nat} {t:Nat} (h:Se SA n env todo=some ⟨es,(i:Int),sz,e,g,ob,some t,todo'⟩) (hg:es[i]?=some c) (hk:Tq1 n F Q todo' ((t,gD g (.ip e c 0))::env) st ids) (hl:c.length=sz:=by simp) (hob:AG ob:=by simp [Ap]):Tq1 n F Q todo env st ids:=ri h (λ_=>⟨by omega,by simpa using hg,hl⟩) hob hk
end
def Il (L S:List Ty):List V:=[.sl (dTys L),.sl (dTys S)]
@[simp] theorem dSt_length (L S:List Ty):(Il L S).length=2:=rfl
theorem pP (L:List Ty) (i:Nat) (t:Ty):dTys (L.set i t)=(dTys L).set i (dTyc t):=by simp [CU,List.map_set]
theorem PM (L S:List Ty) (hs:Sol (Fk L) θ) (hd:Dom L.length (Fk L)) (t u:Ty) (ht:Top (Fk L) t u) (hi:inB L.length t):Tq3 123 [.agg (Il L S),.agg (dTyc t)] (.agg (dTyc u)):=by
 obtain ⟨a1,a2,a3,a4⟩:=t;refine AQ AE func123 rfl [1,2,3,4]<|AP rfl<|Ak (λx:Ty=>[(2,.ref 1 0),(3,.ref 2 0),(4,.ref 3 0)]) (λx=>[(1,some (.immb 105 2 (Il L S))),(2,some (.immb 25 4 (dTyc x))),(3,some (.cells 25 4 [.imm (.int .i64 0),.imm (.int .i64 0),.imm (.str []),.nils]))]) [4] (λx=>if BQ x=9/\Fk L (num x)≠none then (num x).toNat+1 else 0)
  (λx=>Top (Fk L) x u/\inB L.length x) (.mk a1 a2 a3 a4) ⟨ht,hi⟩ AH AH rfl λx hx ih=>?_
 obtain ⟨hx1,hx2⟩:=hx;clear ht hi;obtain ⟨f,m,y,ps⟩:=x;by_cases e9:f=9
 ·subst e9;have hm:=hx2.num rfl;simp only [num] at hm;obtain ⟨v,hv⟩:=Am (l:=L) (i:=m.toNat) (by omega);have hg:=AA hv;have hsb:=rN hv;rw [show ((m.toNat:Nat):Int)=m by omega] at hsb;obtain ⟨v1,v2,v3,v4⟩:=v;refine AM rfl<|ri rfl (c:=dTyc (.mk v1 v2 v3 v4)) (λ_=>⟨hm.1,by simpa using hg,by simp⟩) (by simp [Ap])<|IX rfl ?_;by_cases ev:v1=0
  ·subst ev;have hsb:Fk L m=none:=hsb.trans (if_pos rfl);refine R7 rfl λh=>At rfl ?_;have hu:Ty.mk 9 m y ps=u:=by
    cases hx1 with
    | stop _=>rfl
    | step _ h2 _=>rw [show num (Ty.mk 9 m y ps)=m from rfl,hsb] at h2;cases h2
   subst hu;exact AM rfl<|Ab rfl rfl rfl
  ·have hsb:Fk L m=some (.mk v1 v2 v3 v4):=hsb.trans (if_neg ev);refine Aa rfl (λh=>?_) (λh=>by exfalso;simp at h;exact ev h);clear h;refine AM rfl<|ri rfl (c:=dTyc (.mk v1 v2 v3 v4)) (λ_=>⟨hm.1,by simpa using hg,by simp⟩) (by simp)<|AP rfl ?_;have hx3:Top (Fk L) (.mk v1 v2 v3 v4) u:=by
    cases hx1 with
    | stop h=>have:=h rfl;rw [show num (Ty.mk 9 m y ps)=m from rfl,hsb] at this;cases this
    | step _ h2 h3=>rw [show num (Ty.mk 9 m y ps)=m from rfl,hsb] at h2;cases h2;exact h3
   refine Ae (ih (.mk v1 v2 v3 v4) ?_ ⟨hx3,(hd m _ hsb).2⟩) AH AH rfl;rw [if_pos (show BQ (Ty.mk 9 m y ps)=9/\Fk L (num (Ty.mk 9 m y ps))≠none from ⟨rfl,by rw [show num (Ty.mk 9 m y ps)=m from rfl,hsb];simp⟩)]
   split
   ·rename_i h;have:=hs.down m _ hsb h.1;simp only [num] at *;omega
   ·omega
 ·refine AM rfl<|ri rfl (c:=dTyc Dr) (λh=>absurd (of_decide_eq_true (show decide (f=9)=true from h)) e9) (by simp [Ap])<|IX rfl<|Aa rfl (λh=>by exfalso;simp [e9] at h) (λh=>?_);refine At rfl ?_;have hu:Ty.mk f m y ps=u:=by
   cases hx1 with
   | stop _=>rfl
   | step h1 _ _=>exact absurd h1 e9
  subst hu;exact AM rfl<|Ab rfl rfl rfl
theorem PT (n:Int):Tq3 48 [.int .i64 n] (.agg (dTyc (Ao n))):=by
 exact AQ AE func48 rfl [1,2]<|AP rfl<|Ab rfl rfl rfl
structure StL (L:List Ty):Prop where
 sol:∃θ,Sol (Fk L) θ
 dom:Dom L.length (Fk L)
 len:L.length<=1000000
structure TypL (L:List Ty) (t:Ty):Prop where
 wf:C9 t=true
 inb:inB L.length t
theorem TypL.part (h:TypL L t) (h9:BQ t≠9) (hp:p∈Ff t):TypL L p:=⟨EU h.wf p hp,h.inb.part h9 hp⟩
theorem StL.of {k:Nat} {b:Ty} {σ':Sb} (hL:StL L) (ha:TypL L a) (hb:TypL L b) (h:Ox k (Fk L) a b (some σ')) (hl:L'.length=L.length) (he:Fk L'=σ'):StL L':=by
 obtain ⟨θ,hs⟩:=hL.sol;obtain ⟨g1,g2,_,_⟩:=Ru h hs hL.dom ha.wf hb.wf ha.inb hb.inb;subst he;exact ⟨g1,by rw [hl];exact g2,by rw [hl];exact hL.len⟩
theorem TypL.len (h:L'.length=L.length) (ht:TypL L t):TypL L' t:=⟨ht.wf,by rw [h];exact ht.inb⟩
theorem Po:∀a b:Ty,Tq3 21 [.agg (dTyc a),.agg (dTyc b)] (.bool (J8 a b))
 | .mk s n x ps,.mk s' n' x' qs=>by
  refine Bl λhv=>?_;simp [Cx,Ez,dTyc,maxLen] at hv;have hw1:=hv.1;refine AQ AE func21 rfl [1,2,3]<|IX rfl<|Aa rfl (λh=>?_) (λh=>?_)
  ·refine AM rfl<|Ab rfl rfl (congrArg _ ?_)
   symm
   simp only [J8];by_cases hl:ps.length=qs.length
   ·simp [hl] at h;cases he:FL ps qs <;> grind
   ·rw [TU hl,Bool.and_false]
  have hl:s=s'/\n=n'/\x=x'/\ps.length=qs.length:=by
   simp at h;grind
  obtain ⟨rfl,rfl,rfl,hl⟩:=hl;refine AM rfl<|Ak (λi:Nat=>[(5,.imm (.int .i64 i)),(2,.ref 1 0),(3,.ref 2 0)]) (λ_=>[(1,some (.immb 25 4 (dTyc (.mk s n x ps)))),(2,some (.immb 25 4 (dTyc (.mk s n x qs))))]) [3] (λi=>ps.length-i) (λi=>i<=ps.length/\FL ps qs=FL (ps.drop i) (qs.drop i)) 0
   ⟨AF _,rfl⟩ AH AD rfl λi hi ih=>?_
  obtain ⟨hi1,hi2⟩:=hi;refine AM rfl<|Aa rfl (λh1=>?_) (λh1=>?_)
  ·simp at h1;obtain ⟨p,hp⟩:=Am h1;obtain ⟨q,hq⟩:=Am (l:=qs) (i:=i) (by omega);rw [As hp,As hq] at hi2;simp only [FL] at hi2;refine AM rfl<|Td rfl (AA hp)<|AP rfl<|Td rfl (AA hq)<|AP rfl<|Aj rfl (λ_=>Po p q) (by simp)<|rg [] rfl (by simp;rfl)<|Aa rfl (λh2=>?_) (λh2=>?_)
   ·refine AM rfl<|Ab rfl rfl (congrArg _ ?_);have:J8 p q=false:=by simpa using h2
    simp [J8,hi2,this]
   ·refine AM rfl ?_;have:J8 p q=true:=by simpa using h2
    rw [this,JU] at hi2;exact Ae (ih (i+1) (by omega) ⟨by omega,hi2⟩) ⟨M6,AD⟩ AD rfl
  ·simp at h1;rw [Bh (by omega),Bh (by omega)] at hi2;refine At rfl<|AM rfl<|Ab rfl rfl (congrArg _ ?_);simp [J8,hi2,FL]
termination_by a=>SizeOf.sizeOf a
decreasing_by
 all_goals
  have:=Ct (AK hp);simp_wf;omega
theorem Ny (s:Int) (ps:List Ty):Tq3 105 [.int .i64 s,.sl (dTys ps)] (.agg (dTyc (.mk s 0 [] ps))):=by
 exact AQ AE func105 rfl [1,2]<|AP rfl<|Ab rfl rfl rfl
theorem DW:Tq3 49 [] (.agg (dTyc AU)):=by
 exact AQ AE func49 rfl [1,2]<|AP rfl<|Aj rfl (λ_=>Ny 1 []) (by simp)<|AP rfl<|Ab rfl rfl rfl
theorem KW:Tq3 50 [] (.agg (dTyc Ca)):=by
 exact AQ AE func50 rfl [1,2]<|AP rfl<|Aj rfl (λ_=>Ny 2 []) (by simp)<|AP rfl<|Ab rfl rfl rfl
theorem Ow (a b:Ty):Tq3 41 [.agg (dTyc a),.agg (dTyc b)] (.agg (dTyc (Be a b))):=by
 have h:=Ny 4 [a,b];obtain ⟨a1,a2,a3,a4⟩:=a;obtain ⟨b1,b2,b3,b4⟩:=b;exact AQ AE func41 rfl [1,2,3,4]<|AP rfl<|Ad rfl h<|AP rfl<|Ab rfl rfl rfl
theorem S8 (n:Nat) (t:Ty):dTys (List.replicate n t)=List.replicate n (dTyc t):=by simp [CU]
mutual
def E9:Ty->Int
 | .mk f n _ ps=>if f=9 then n+1 else DP ps
def DP:List Ty->Int
 | []=>0
 | t::r=>max (E9 t) (DP r)
end
mutual
def Uy:Ty->Bool
 | .mk f n _ ps=>(f != 9||(decide (0<=n)&&decide (n<=99)))&&PH ps
def PH:List Ty->Bool
 | []=>true
 | t::r=>Uy t&&PH r
end
theorem GP:∀{l:List Ty},PH l=true↔∀t∈l,Uy t=true
 | []=>by simp [PH]
 | t::r=>by simp [PH,GP (l:=r)]
mutual
theorem Nb:∀t:Ty,Uy t=true->0<=E9 t/\E9 t<=100/\inB (E9 t) t
 | .mk f n x ps,h=>by
  simp only [Uy,A2] at h;by_cases e:f=9
  ·subst e;simp at h;simp only [E9,if_true];exact ⟨by omega,by omega,λm hm=>by simp [CO] at hm;rw [hm];omega⟩
  ·obtain ⟨h1,h2,h3⟩:=PB ps h.2;simp only [E9,if_neg e];exact ⟨h1,h2,λm hm=>by simp only [CO,if_neg e] at hm;exact h3 m hm⟩
theorem PB:∀l:List Ty,PH l=true->0<=DP l/\DP l<=100/\∀m∈DK l,0<=m/\m<DP l
 | [],_=>by simp [DP,DK]
 | t::r,h=>by
  simp only [PH,A2] at h;obtain ⟨a1,a2,a3⟩:=Nb t h.1;obtain ⟨b1,b2,b3⟩:=PB r h.2;simp only [DP,DK,BU];refine ⟨by omega,by omega,λm hm=>?_⟩;rcases hm with hm | hm
  ·have:=a3 m hm;omega
  ·have:=b3 m hm;omega
end
theorem Hq:∀(l:List Ty) (t:Ty),DP (l++[t])=max (DP l) (E9 t)
 | [],t=>by simp only [G5,DP];omega
 | a::r,t=>by simp only [D0,DP,Hq r t];omega
theorem PE:∀t:Ty,Uy t=true->Tq3 63 [.agg (dTyc t)] (.int .i64 (E9 t))
 | .mk f n x ps,h=>by
  refine Bl λhv=>?_;simp [Cx,Ez,dTyc,maxLen] at hv;have hb:=Nb _ h;simp only [Uy,A2] at h;refine AQ AE func63 rfl [1,2]<|AP rfl ?_;by_cases e:f=9
  ·subst e;simp at h;refine R6 rfl λh=>AM rfl<|Ab rfl rfl (congrArg _ ?_);simp only [E9,if_true];exact BW (by omega) (by omega)
  ·refine Aa rfl (λh=>by exfalso;simp [e] at h) (λh=>?_);simp only [E9,if_neg e] at hb ⊢;refine AM rfl<|Ak (λi:Nat=>[(4,.imm (.int .i64 i)),(3,.imm (.int .i64 (DP (ps.take i)))),(1,.ref 1 0)]) (λ_=>[(1,some (.immb 25 4 (dTyc (.mk f n x ps))))]) [2] (λi=>ps.length-i) (λi=>i<=ps.length) 0 (AF _)
    AH AC rfl λi hi ih=>?_
   refine AM rfl<|Aa rfl (λh=>?_) (λh=>?_)
   ·have hlt:i<ps.length:=by simp at h;omega
    obtain ⟨p,hp⟩:=Am hlt;have hg:=AA hp;have hs:=GP.1 ‹_/\PH ps=true›.2 p (AK hp);have hI:=PE p hs;have hih:=ih (i+1) (by omega) (by omega);rw [Bk hp,Hq] at hih;obtain ⟨p1,p2,p3,p4⟩:=p;refine AM rfl<|Td rfl hg<|AP rfl<|Ad rfl hI<|AP rfl ?_;exact Ae hih ⟨M6,A8 (by split <;> omega),AC⟩ AC rfl
   ·have hlt:¬i<ps.length:=by simp at h;omega
    refine At rfl ?_;rw [CQ (by omega)];exact AM rfl<|Ab rfl rfl rfl
termination_by t=>SizeOf.sizeOf t
decreasing_by
 have:=Ct (AK hp);simp_wf;omega
def Vw (p:Str×Ty):List V:=.str p.1::dTyc p.2
def A0 (Γ:Au):List (List V):=Γ.map Vw
@[simp] theorem dKn_length (p:Str×Ty):(Vw p).length=5:=by simp [Vw]
@[simp] theorem dKns_length (Γ:Au):(A0 Γ).length=Γ.length:=by simp [A0]
theorem Ni {i:Nat} {p:Str×Ty} (h:Γ[i]?=some p):(A0 Γ)[i]?=some (Vw p):=by simp [A0,h]
theorem GZ {l:List Dt} {i:Nat} {d:Dt} (h:l[i]?=some d):(l.map BE)[i]?=some (BE d):=by simp [h]
theorem Nj {l:List Cd} {i:Nat} {d:Cd} (h:l[i]?=some d):(l.map CK)[i]?=some (CK d):=by simp [h]
theorem HZ {l:List Fd} {i:Nat} {d:Fd} (h:l[i]?=some d):(l.map Cg)[i]?=some (Cg d):=by simp [h]
theorem QU:∀(Γ:Au) (p:Str×Ty) (x:Str),LP (Γ++[p]) x=if p.1=x then some p.2 else LP Γ x
 | [],(y,t),x=>by simp [LP]
 | (z,u)::r,p,x=>by
  simp only [D0,LP,QU r p x];by_cases h:p.1=x
  ·simp [h]
  ·simp [h]
theorem Ub {l:List Cd} {i:Nat} {c:Cd} (h:l[i]?=some c) (x:Str):Ju (l.drop i) x=if c.name=x then some c else Ju (l.drop (i+1)) x:=by rw [As h];rfl
theorem TK {l:List Fd} {i:Nat} {f:Fd} (h:l[i]?=some f) (x:Str):MV (l.drop i) x=if f.name=x then some (Be f.from_ f.to_) else MV (l.drop (i+1)) x:=by rw [As h];rfl
noncomputable def thS (σ:Sb):Int->Ty:=open Classical in if h:∃θ,Sol σ θ then h.choose else Ao
theorem Us (h:Sol σ θ):thS σ=θ:=by
 have h':∃θ,Sol σ θ:=⟨θ,h⟩
 rw [thS,dif_pos h'];exact h'.choose_spec.unique h
def MF (σ:Sb):Nat->Nat
 | 0=>0
 | i+1=>if (σ (i:Int)).isSome then i+1 else MF σ i
theorem Na (σ:Sb):∀n,MF σ n<=n
 | 0=>BL _
 | n+1=>by
  have:=Na σ n;simp only [MF];split <;> omega
noncomputable def zdn (σ:Sb) (H:Nat):List Ty:=(List.range (MF σ H)).map λi:Nat=>thS σ i
theorem Ns {qs:List Ty} {i:Nat} {q:Ty} (hp:ps[i]?=some p) (hq:qs[i]?=some q) (l:List Ty):EA (ps.drop i) (qs.drop i) l=if (Dz p q l).2=true then EA (ps.drop (i+1)) (qs.drop (i+1)) (Dz p q l).1 else Dz p q l:=by
 rw [As hp,As hq,EA]
theorem Id:∀(a b:Ty) (l:List Ty),C9 b=true->inB l.length a->l.length<=100->Tq3 62 [.agg (dTyc a),.agg (dTyc b),.sl (dTys l)] (.tup [.sl (dTys (Dz a b l).1),.bool (Dz a b l).2])
 | .mk f n x ps,.mk g m y qs,l,hb,ha,hl=>by
  by_cases e9:f=9
  ·subst e9;have hn:=ha.num rfl;simp only [num] at hn;obtain ⟨v,hv⟩:=Am (l:=l) (i:=n.toNat) (by omega);have hg:=AA hv;have hd:l.getD n.toNat Dr=v:=by rw [I8,hv];rfl
   have hS:=Po v (.mk g m y qs);by_cases h0:BQ v=0
   ·have hr:Dz (.mk 9 n x ps) (.mk g m y qs) l=(l.set n.toNat (.mk g m y qs),true):=by rw [Dz,if_pos rfl,hd,if_pos h0]
    ·rw [hr];have h4:∀c∈dTys l,c.length=4:=λc hc=>by rw [CU] at hc;obtain ⟨x,_,rfl⟩:=Cc.1 hc;simp
     have hset:=pP l n.toNat (.mk g m y qs)
     have hlen:(dTys l).length=l.length:=dTys_length l;have hne:dTys l≠[]:=λe=>by rw [e] at hg;simp at hg
     obtain ⟨v1,v2,v3,v4⟩:=v;simp only [BQ] at h0;subst h0;refine AQ AE func62 rfl [1,2,3,4,5,6]<|AP rfl<|R6 rfl λh=>AM rfl<|ri rfl (c:=dTyc (.mk 0 v2 v3 v4)) (λ_=>⟨hn.1,by simpa using hg,by simp⟩) (by simp)<|AP rfl<|R6 rfl λh=>AM rfl<|Bn AE rfl ⟨h4,by simp only [maxLen,B5] at *;omega,by simp only [B5] at *;omega,trivial⟩<|AP rfl<|FG AE rfl (λ_=>⟨hn.1,by simp;omega⟩) (by simp)<|AP rfl<|Kj AE (e:=dTyc (.mk 0 v2 v3 v4)) (e':=dTyc (.mk g m y qs)) rfl (by simpa using hg) (by show 0+4<=4;decide) (by simp) (by simp)<|AP rfl<|Bv 3 rfl<|Ab rfl rfl ?_;simp only [hset];rfl
   ·have hr:Dz (.mk 9 n x ps) (.mk g m y qs) l=(l,J8 v (.mk g m y qs)):=by rw [Dz,if_pos rfl,hd,if_neg h0]
    ·rw [hr];obtain ⟨v1,v2,v3,v4⟩:=v;simp only [BQ] at h0;refine AQ AE func62 rfl [1,2,3,4,5,6]<|AP rfl<|R6 rfl λh=>AM rfl<|ri rfl (c:=dTyc (.mk v1 v2 v3 v4)) (λ_=>⟨hn.1,by simpa using hg,by simp⟩) (by simp)<|AP rfl<|Aa rfl (λh=>by exfalso;simp at h;exact h0 h) (λh=>?_);exact AM rfl<|ri rfl (c:=dTyc (.mk v1 v2 v3 v4)) (λ_=>⟨hn.1,by simpa using hg,by simp⟩) (by simp)<|AP rfl<|Ad rfl hS<|rg [] rfl (by simp;rfl)<|Ab rfl rfl rfl
  ·by_cases hh:f=g/\x=y/\ps.length=qs.length
   ·have hr:Dz (.mk f n x ps) (.mk g m y qs) l=EA ps qs l:=by rw [Dz,if_neg e9];exact if_pos hh
    obtain ⟨rfl,rfl,hq⟩:=hh;have hbl:=Ie hb;simp only [Ff] at hbl;rw [hr];have hpi:∀p∈ps,inB l.length p:=λp hp=>ha.part e9 hp;have hqw:∀q∈qs,C9 q=true:=EU hb;refine AQ AE func62 rfl [1,2,3,4,5,6]<|AP rfl<|Aa rfl (λh=>by exfalso;simp at h;exact e9 h) (λh=>?_);refine zH rfl<|Aa rfl (λh=>by exfalso;simp at h;exact h (by omega)) (λh=>?_);refine AM rfl<|Ak (λz:Nat×List Ty×Bool=>[(9,.imm (.int .i64 z.1)),(2,.imm (.sl (dTys z.2.1))),(8,.imm (.bool z.2.2)),(3,.ref 1 0),(4,.ref 2 0)]) (λ_=>[(1,some (.immb 25 4 (dTyc (.mk f n x ps)))),(2,some (.immb 25 4 (dTyc (.mk f m x qs))))]) [3,4,5,6] (λz=>ps.length-z.1)
     (λz=>z.1<=ps.length/\z.2.1.length=l.length/\EA ps qs l=if z.2.2=true then EA (ps.drop z.1) (qs.drop z.1) z.2.1 else (z.2.1,false)) (0,l,true)
     ⟨AF _,rfl,rfl⟩ BA AD rfl λz hz ih=>?_
    obtain ⟨i,k,o⟩:=z;obtain ⟨hz1,hz2,hz3⟩:=hz;simp only at hz1 hz2 hz3 ih;refine zH rfl<|Aa rfl (λh=>?_) (λh=>?_)
    ·have hlt:i<ps.length/\o=true:=by simp at h;exact ⟨by omega,by grind⟩
     obtain ⟨hlt,rfl⟩:=hlt;obtain ⟨p,hp⟩:=Am hlt;obtain ⟨q,hq'⟩:=Am (l:=qs) (i:=i) (by omega);have hgp:=AA hp;have hgq:=AA hq';have hI:=Id p q k (hqw q (AK hq')) (by rw [hz2];exact hpi p (AK hp)) (by omega);have hlen:=QK p q k (hqw q (AK hq')) (by rw [hz2];exact hpi p (AK hp));rw [if_pos rfl,Ns hp hq'] at hz3;have hih:=ih (i+1,(Dz p q k).1,(Dz p q k).2) (by simp only;omega) ⟨by simp only;omega,by simp only;omega,by
      rw [hz3];cases hc:(Dz p q k).2 with
      | true=>rfl
      | false=>simp only [E1,if_false];rw [<- hc]⟩
     generalize (Dz p q k).1=k' at *;generalize (Dz p q k).2=o' at *;obtain ⟨p1,p2,p3,p4⟩:=p;obtain ⟨q1,q2,q3,q4⟩:=q;exact AM rfl<|Td rfl hgp<|AP rfl<|Td rfl hgq<|AP rfl<|Ad rfl hI<|rg [] rfl (by simp;rfl)<|Ae hih ⟨M6,BJ⟩ AD rfl
    ·have hlt:i=ps.length\/o=false:=by simp at h;grind
     refine At rfl<|AM rfl<|Ab rfl rfl ?_;rw [hz3];cases o with
     | false=>rfl
     | true =>
      rcases hlt with rfl | h
      ·rw [if_pos rfl,Bh (BL _)];simp only [EA]
      ·cases h
   ·have hr:Dz (.mk f n x ps) (.mk g m y qs) l=(l,false):=by rw [Dz,if_neg e9];exact if_neg hh
    rw [hr];refine AQ AE func62 rfl [1,2,3,4,5,6]<|AP rfl<|Aa rfl (λh=>by exfalso;simp at h;exact e9 h) (λh=>?_);refine zH rfl<|Aa rfl (λh=>?_) (λh=>by exfalso;simp at h;grind);exact AM rfl<|Ab rfl rfl rfl
termination_by a=>SizeOf.sizeOf a
decreasing_by
 have:=Ct (AK hp);simp_wf;omega
theorem Me (a b:Ty) (hb:C9 b=true) (sa:Uy a=true):Tq3 16 [.agg (dTyc a),.agg (dTyc b)] (.bool (WB a b λ_=>none).isSome):=by
 obtain ⟨u0,u1,u2⟩:=Nb a sa;have hM:=PE a sa;obtain ⟨H,hH⟩:∃H:Nat,E9 a=H:=⟨(E9 a).toNat,by omega⟩
 have hI:inB (List.replicate H Dr).length a:=by rw [Ih,<- hH];exact u2
 have hC:=Id a b (List.replicate H Dr) hb hI (by simp;omega);obtain ⟨_,h2,_⟩:=FM a b (List.replicate H Dr) hb hI;rw [VZ] at h2;rw [<- h2];rw [hH] at hM;generalize (Dz a b (List.replicate H Dr)).1=l' at *;generalize (Dz a b (List.replicate H Dr)).2=o at *;rw [S8] at hC;obtain ⟨a1,a2,a3,a4⟩:=a;obtain ⟨b1,b2,b3,b4⟩:=b;exact AQ AE func16 rfl [1,2,3,4]<|AP rfl<|Ad rfl hM<|AP rfl<|OG AE rfl rfl (by simp) (by simp;omega) (by simp [maxLen];omega)<|AP rfl<|Ad rfl hC<|rg [] rfl (by simp;rfl)<|Ab rfl rfl rfl
def Px {α:Type} (o:Bool) (x:α):Option α:=if o=true then some x else none
@[simp] theorem resO_true (x:α):Px true x=some x:=rfl
@[simp] theorem resO_false (x:α):Px false x=none:=rfl
theorem Fe {β:Type} (f:α->β) (o:Bool) (x:α):(Px o x).map f=Px o (f x):=by cases o <;> rfl
theorem StL.ok (h:StL L):StOk L.length (Fk L):=⟨by omega,h.dom,h.sol⟩
def Iq (m:Md) (S:List Ty) (p t:Ty) (Γ:Au) (L:List Ty) (Γ':Au) (L':List Ty) (o:Bool):Prop :=
 Tq3 220 [.agg (Du m),.sl (A0 Γ),.agg (dTyc p),.agg (dTyc t),.agg (Il L S)] (.tup [.sl (A0 Γ'),.agg (Il L' S),.bool o])
def PatsC (m:Md) (S:List Ty):List Ty->List Ty->Au->List Ty->Au->List Ty->Bool->Prop
 | p::ps,t::ts,Γ,L,Γ',L',o=>∃Γ1 L1 o1,Iq m S p t Γ L Γ1 L1 o1/\if o1=true then PatsC m S ps ts Γ1 L1 Γ' L' o else (Γ'=Γ1/\L'=L1/\o=false)
 | _,_,Γ,L,Γ',L',o=>Γ'=Γ/\L'=L/\o=true
theorem PatsC.stop (h:Iq m S p t Γ L Γ1 L1 false):PatsC m S (p::ps) (t::ts) Γ L Γ1 L1 false:=by
 rw [PatsC];exact ⟨Γ1,L1,false,h,by rw [if_neg (by simp)];exact ⟨rfl,rfl,rfl⟩⟩
theorem PatsC.step {Γ2:Au} {o:Bool} (h:Iq m S p t Γ L Γ1 L1 true) (h2:PatsC m S ps ts Γ1 L1 Γ2 L2 o):PatsC m S (p::ps) (t::ts) Γ L Γ2 L2 o:=by
 rw [PatsC];exact ⟨Γ1,L1,true,h,by rw [if_pos rfl];exact h2⟩
theorem TypL.lit (f:Int):TypL L (NW f):=by
 refine ⟨?_,?_⟩
 ·unfold NW;split
  ·rfl
  ·split <;> rfl
 ·refine BD ?_ _;unfold NW;split
  ·rfl
  ·split <;> rfl
theorem TypL.data (x:Str):TypL L (Bx x):=⟨by simp [Bx,C9,Gw],BD (by simp [Bx,CO,DK]) _⟩
mutual
def H8:Tm->Nat
 | .mk _ _ _ ks ps=>1+BY ks+CX ps
def BY:List Tm->Nat
 | []=>0
 | t::r=>H8 t+BY r
end
theorem Uv (t:Tm):1<=H8 t:=by cases t;simp [H8];omega
theorem M5:∀{l:List Tm},CY l=true↔∀t∈l,Cb t=true
 | []=>by simp [CY]
 | t::r=>by simp [CY,M5 (l:=r)]
def Ar (op:Int) (k p:Nat):Prop:=(op=4/\k=0)\/(op=5/\k=1)\/(op=27/\k=1)\/(op=6/\k=2)\/(op=7/\k=2)\/op=14\/(op=15/\k=1+p)\/(BX op/\k=(A5 op (Ao 0)).1.length)
theorem Ar.rule {op:Int} {k p:Nat} (h:BX op) (hk:k=(A5 op (Ao 0)).1.length):Ar op k p:=.inr (.inr (.inr (.inr (.inr (.inr (.inr ⟨h,hk⟩))))))
theorem mH {op n:Int} {k p:Nat} (h:B0 op n x k p=true):Ar op k p:=by
 unfold B0 at h;by_cases e0:op=1
 ·rw [if_pos e0] at h;have hk:k=0:=by simp only [A2,beq_iff_eq] at h;omega
  subst e0;exact Ar.rule (by unfold BX;decide) (by rw [hk];rfl)
 rw [if_neg e0] at h;by_cases e1:op=2
 ·rw [if_pos e1] at h;have hk:k=0:=by simp only [A2,beq_iff_eq] at h;omega
  subst e1;exact Ar.rule (by unfold BX;decide) (by rw [hk];rfl)
 rw [if_neg e1] at h;by_cases e2:op=3\/op=21\/op=25\/op=28
 ·rw [if_pos e2] at h;have hk:k=0:=by simp only [A2,beq_iff_eq] at h;omega
  rcases e2 with rfl | rfl | rfl | rfl
  ·exact Ar.rule (by unfold BX;decide) (by rw [hk];rfl)
  ·exact Ar.rule (by unfold BX;decide) (by rw [hk];rfl)
  ·exact Ar.rule (by unfold BX;decide) (by rw [hk];rfl)
  ·exact Ar.rule (by unfold BX;decide) (by rw [hk];rfl)
 rw [if_neg e2] at h;by_cases e3:op=4
 ·rw [if_pos e3] at h;have hk:k=0:=by simp only [A2,beq_iff_eq] at h;omega
  subst e3;exact .inl ⟨rfl,hk⟩
 rw [if_neg e3] at h;by_cases e4:op=5\/op=27
 ·rw [if_pos e4] at h;have hk:k=1:=by simp only [A2,beq_iff_eq] at h;omega
  rcases e4 with rfl | rfl
  ·exact .inr (.inl ⟨rfl,hk⟩)
  ·exact .inr (.inr (.inl ⟨rfl,hk⟩))
 rw [if_neg e4] at h;by_cases e5:op=7
 ·rw [if_pos e5] at h;have hk:k=2:=by simp only [A2,beq_iff_eq] at h;omega
  subst e5;exact .inr (.inr (.inr (.inr (.inl ⟨rfl,hk⟩))))
 rw [if_neg e5] at h;by_cases e6:op=8
 ·rw [if_pos e6] at h;have hk:k=3:=by simp only [A2,beq_iff_eq] at h;omega
  subst e6;exact Ar.rule (by unfold BX;decide) (by rw [hk];rfl)
 rw [if_neg e6] at h;by_cases e7:op=14
 ·rw [if_pos e7] at h;subst e7;exact .inr (.inr (.inr (.inr (.inr (.inl rfl)))))
 rw [if_neg e7] at h;by_cases e8:op=15
 ·rw [if_pos e8] at h;have hk:k=1+p:=by simp only [A2,beq_iff_eq] at h;omega
  subst e8;exact .inr (.inr (.inr (.inr (.inr (.inr (.inl ⟨rfl,hk⟩))))))
 rw [if_neg e8] at h;by_cases e9:op=16\/op=17\/op=19\/op=20\/op=23\/op=26
 ·rw [if_pos e9] at h;have hk:k=1:=by simp only [A2,beq_iff_eq] at h;omega
  rcases e9 with rfl | rfl | rfl | rfl | rfl | rfl
  ·exact Ar.rule (by unfold BX;decide) (by rw [hk];rfl)
  ·exact Ar.rule (by unfold BX;decide) (by rw [hk];rfl)
  ·exact Ar.rule (by unfold BX;decide) (by rw [hk];rfl)
  ·exact Ar.rule (by unfold BX;decide) (by rw [hk];rfl)
  ·exact Ar.rule (by unfold BX;decide) (by rw [hk];rfl)
  ·exact Ar.rule (by unfold BX;decide) (by rw [hk];rfl)
 rw [if_neg e9] at h;by_cases e10:op=24
 ·rw [if_pos e10] at h;have hk:k=1:=by simp only [A2,beq_iff_eq] at h;omega
  subst e10;exact Ar.rule (by unfold BX;decide) (by rw [hk];rfl)
 rw [if_neg e10] at h;by_cases e11:op=6\/op=9\/op=10\/op=11\/op=12\/op=13\/op=18\/op=22
 ·rw [if_pos e11] at h;have hk:k=2:=by simp only [A2,beq_iff_eq] at h;omega
  rcases e11 with rfl | rfl | rfl | rfl | rfl | rfl | rfl | rfl
  ·exact .inr (.inr (.inr (.inl ⟨rfl,hk⟩)))
  ·exact Ar.rule (by unfold BX;decide) (by rw [hk];rfl)
  ·exact Ar.rule (by unfold BX;decide) (by rw [hk];rfl)
  ·exact Ar.rule (by unfold BX;decide) (by rw [hk];rfl)
  ·exact Ar.rule (by unfold BX;decide) (by rw [hk];rfl)
  ·exact Ar.rule (by unfold BX;decide) (by rw [hk];rfl)
  ·exact Ar.rule (by unfold BX;decide) (by rw [hk];rfl)
  ·exact Ar.rule (by unfold BX;decide) (by rw [hk];rfl)
 rw [if_neg e11] at h;cases h
theorem cM {op n:Int} (h:Cb (.mk op n x ks ps)=true):Ar op ks.length ps.length:=by
 simp only [Cb,A2] at h;exact mH h.1.1
theorem Tk {op n:Int} (h:Cb (.mk op n x ks ps)=true):∀t∈ks,Cb t=true:=by
 simp only [Cb,A2] at h;exact M5.1 h.2
def Gr (m:Md) (Γ:Au) (t:Tm) (L S:List Ty) (τ:Ty) (L' S':List Ty) (o:Bool):Prop :=
 Tq3 88 [.agg (Du m),.sl (A0 Γ),.agg (Al t),.agg (Il L S)] (.tup [.agg (dTyc τ),.agg (Il L' S'),.bool o])
def vF (L S:List Ty) (a b:Ty) (L':List Ty) (o:Bool):Prop :=
 Tq3 65 [.agg (Il L S),.agg (dTyc a),.agg (dTyc b)] (.tup [.agg (Il L' S),.bool o])
def AllK (m:Md) (Γ:Au):List Tm->List Ty->List Ty->List Ty->List Ty->List Ty->Bool->Prop
 | t::ts,u::us,L,S,L',S',o=>∃τ L1 S1 o1,Gr m Γ t L S τ L1 S1 o1/\if o1=true then (∃L2 o2,vF L1 S1 τ u L2 o2/\if o2=true then AllK m Γ ts us L2 S1 L' S' o else (L'=L2/\S'=S1/\o=false)) else (L'=L/\S'=S/\o=false)
 | _,_,L,S,L',S',o=>L'=L/\S'=S/\o=true
def AllC (m:Md) (Γ:Au) (ts:List Tm) (us:List Ty) (L S L' S':List Ty) (o:Bool):Prop :=
 Tq3 147 [.agg (Du m),.sl (A0 Γ),.sl (Dq ts),.sl (dTys us),.agg (Il L S)] (.tup [.agg (Il L' S'),.bool o])
theorem Yb (m:Md) (Γ:Au) (ts:List Tm) (us:List Ty) (L S L' S':List Ty) (o:Bool) (hl:ts.length<=us.length) (h:AllK m Γ ts us L S L' S' o):AllC m Γ ts us L S L' S' o:=by
 unfold AllC;refine Bl λhv=>?_;simp [Cx,Ez,maxLen] at hv;obtain ⟨m1,m2,m3⟩:=m;refine AQ AE func147 rfl [1,2,3,4,5,6,7,8]<|AP rfl<|Ak (λz:Nat×List Ty×List Ty=>[(12,.imm (.int .i64 z.1)),(1,.imm (.sl (A0 Γ))),(2,.imm (.sl (Dq ts))),(3,.imm (.sl (dTys us))),(5,.ref 1 0),(9,.ref 2 0),(10,.ref 3 0)])
  (λz=>[(1,some (.immb 43 3 (Du ⟨m1,m2,m3⟩))),(2,some (.immb 105 2 (Il z.2.1 z.2.2))),(3,some (.cells 105 2 [.nils,.nils]))]) [4,5,6,7,8] (λz=>ts.length-z.1)
  (λz=>z.1<=ts.length/\AllK ⟨m1,m2,m3⟩ Γ (ts.drop z.1) (us.drop z.1) z.2.1 z.2.2 L' S' o) (0,L,S)
  ⟨AF _,h⟩ F6 AH rfl λz hz ih=>?_
 clear h;obtain ⟨j,K,R⟩:=z;obtain ⟨hz1,hz2⟩:=hz;simp only at hz1 hz2 ih;refine AM rfl<|Aa rfl (λh=>?_) (λh=>?_)
 ·have hlt:j<ts.length:=by simp at h;omega
  obtain ⟨t,ht⟩:=Am hlt;obtain ⟨u,hu⟩:=Am (l:=us) (i:=j) (by omega);have hgt:=E5 ht;have hgu:=AA hu;rw [As ht,As hu,AllK] at hz2;obtain ⟨τ,K1,R1,o1,hI,hz2⟩:=hz2;unfold Gr at hI;obtain ⟨t1,t2,t3,t4,t5⟩:=t;obtain ⟨u1,u2,u3,u4⟩:=u;obtain ⟨a1,a2,a3,a4⟩:=τ;refine AM rfl<|Td rfl hgt<|AP rfl<|Ad rfl hI ?_;cases o1 with
  | false =>
   refine rg [] rfl (by simp;rfl)<|R6 rfl λh=>AM rfl<|Ab rfl rfl ?_;obtain ⟨h1,h2,h3⟩:=hz2;rw [h1,h2,h3]
  | true =>
   obtain ⟨K2,o2,hE,hz2⟩:=hz2;unfold vF at hE;refine rg [] rfl (by simp;rfl)<|R7 rfl λh=>AM rfl<|Td rfl hgu<|AP rfl<|Ad rfl hE ?_;cases o2 with
   | false =>
    refine rg [] rfl (by simp;rfl)<|R6 rfl λh=>AM rfl<|Ab rfl rfl ?_;obtain ⟨h1,h2,h3⟩:=hz2;rw [h1,h2,h3]
   | true =>
    refine rg [] rfl (by simp;rfl)<|R7 rfl λh=>AM rfl ?_;have hih:=ih (j+1,K2,R1) (by simp only;omega) ⟨by simp only;omega,hz2⟩;exact Ae hih ⟨M6,GE⟩ AH rfl
 ·have hlt:j=ts.length:=by simp at h;omega
  subst hlt;refine At rfl<|AM rfl ?_;rw [Bh (BL _)] at hz2;simp only [AllK] at hz2;obtain ⟨h1,h2,h3⟩:=hz2;refine Ab rfl rfl ?_;rw [h1,h2,h3]
theorem AllK.step {t:Tm} {ts:List Tm} {u:Ty} {us:List Ty} {S1:List Ty} {o:Bool} (h:Gr m Γ t L S τ L1 S1 true) (h2:vF L1 S1 τ u L2 true) (h3:AllK m Γ ts us L2 S1 L' S' o):AllK m Γ (t::ts) (u::us) L S L' S' o:=by
 rw [AllK];refine ⟨τ,L1,S1,true,h,?_⟩;rw [if_pos rfl];refine ⟨L2,true,h2,?_⟩;rw [if_pos rfl];exact h3
def RowsC (m:Md) (Γ:Au) (b a:Ty):List Ty->List Tm->List Ty->List Ty->List Ty->List Ty->Bool->Prop
 | p::ps,t::ts,L,S,L',S',o=>∃Γ1 L1 o1,Iq m S p b Γ L Γ1 L1 o1/\if o1=true then (∃L2 S2 o2,AllC m Γ1 [t] [a] L1 S L2 S2 o2/\if o2=true then RowsC m Γ b a ps ts L2 S2 L' S' o else (L'=L2/\S'=S2/\o=false)) else (L'=L/\S'=S/\o=false)
 | _,_,L,S,L',S',o=>L'=L/\S'=S/\o=true
theorem AllC.one {t:Tm} {u:Ty} {o:Bool} (h:AllK m Γ [t] [u] L S L' S' o):AllC m Γ [t] [u] L S L' S' o:=Yb m Γ [t] [u] L S L' S' o (by simp) h
theorem RowsC.step {b:Ty} {t:Tm} {ts:List Tm} {S2:List Ty} {o:Bool} (h:Iq m S p b Γ L Γ1 L1 true) (h2:AllC m Γ1 [t] [a] L1 S L2 S2 true) (h3:RowsC m Γ b a ps ts L2 S2 L' S' o):RowsC m Γ b a (p::ps) (t::ts) L S L' S' o:=by
 rw [RowsC];refine ⟨Γ1,L1,true,h,?_⟩;rw [if_pos rfl];refine ⟨L2,S2,true,h2,?_⟩;rw [if_pos rfl];exact h3
theorem AllK.end_:AllK m Γ [] [] L S L S true:=by
 rw [AllK]
 ·exact ⟨rfl,rfl,rfl⟩
 ·intro _ _ _ _ h;cases h
theorem StL.fresh (h:StL L) (hl:L.length<1000000):StL (L++[Dr]):=by
 refine ⟨by rw [K4];exact h.sol,?_,by simp;omega⟩;rw [K4];exact h.dom.mono (by simp;omega)
theorem SX {op:Int} (h:BX op) (a b:Ty):(A5 op a).1.length=(A5 op b).1.length:=by
 rcases h with rfl | rfl | rfl | rfl | rfl | rfl | rfl | rfl | rfl | rfl | rfl | rfl | rfl | rfl | rfl | rfl | rfl | rfl | rfl | rfl | rfl <;> rfl
def TyK (k:Int) (t:Ty):Prop:=C9 t=true/\inB k t
theorem TyK.i:TyK k AU:=⟨rfl,BD rfl _⟩
theorem TyK.b:TyK k Ca:=⟨rfl,BD rfl _⟩
theorem TyK.u:TyK k Dm:=⟨rfl,BD rfl _⟩
theorem TyK.f {b:Ty} (h:TyK k a) (h':TyK k b):TyK k (Be a b):=⟨bG h.1 h'.1,Xm h.2 h'.2⟩
theorem TyK.o {s:Int} (hs:s≠9) (h0:s≠0) (h:TyK k a):TyK k (Ir s a):=⟨jU hs h0 h.1,cV hs h.2⟩
theorem Mq {op:Int} (h:BX op) (ha:TyK k a):(∀u∈(A5 op a).1,TyK k u)/\TyK k (A5 op a).2.1/\∀u∈(A5 op a).2.2,TyK k u:=by
 have h5:=TyK.o (s:=5) (by decide) (by decide) ha;have h6:=TyK.o (s:=6) (by decide) (by decide) ha;have h7:=TyK.o (s:=7) (by decide) (by decide) ha;have hf:=TyK.f (TyK.u (k:=k)) ha;have hi:=TyK.i (k:=k);have hb:=TyK.b (k:=k);have hu:=TyK.u (k:=k);have n0:∀u∈([]:List Ty),TyK k u:=λu h=>nomatch h;have n1:∀{x:Ty},TyK k x->∀u∈[x],TyK k u:=λhx u h=>by rw [AN.1 h];exact hx
 have n2:∀{x y:Ty},TyK k x->TyK k y->∀u∈[x,y],TyK k u:=λhx hy u h=>by
  rcases CA.1 h with rfl | h
  ·exact hx
  ·exact n1 hy u h
 have n3:∀{x y z:Ty},TyK k x->TyK k y->TyK k z->∀u∈[x,y,z],TyK k u:=λhx hy hz u h=>by
  rcases CA.1 h with rfl | h
  ·exact hx
  ·exact n2 hy hz u h
 rcases h with rfl | rfl | rfl | rfl | rfl | rfl | rfl | rfl | rfl | rfl | rfl | rfl | rfl | rfl | rfl | rfl | rfl | rfl | rfl | rfl | rfl
 ·exact ⟨n0,hi,n0⟩
 ·exact ⟨n0,hi,n0⟩
 ·exact ⟨n0,hb,n0⟩
 ·exact ⟨n0,hu,n0⟩
 ·exact ⟨n0,hu,n0⟩
 ·exact ⟨n3 hb ha ha,ha,n0⟩
 ·exact ⟨n2 hi hi,hi,n0⟩
 ·exact ⟨n2 hi hi,hi,n0⟩
 ·exact ⟨n2 hi hi,hi,n0⟩
 ·exact ⟨n2 hi hi,hb,n0⟩
 ·exact ⟨n2 ha ha,hb,n1 ha⟩
 ·exact ⟨n1 ha,h5,n0⟩
 ·exact ⟨n1 h5,ha,n0⟩
 ·exact ⟨n2 h5 ha,hu,n0⟩
 ·exact ⟨n1 hf,h7,n0⟩
 ·exact ⟨n1 h7,ha,n0⟩
 ·exact ⟨n0,h6,n0⟩
 ·exact ⟨n2 h6 ha,hu,n0⟩
 ·exact ⟨n1 h6,ha,n0⟩
 ·exact ⟨n1 hi,hu,n0⟩
 ·exact ⟨n1 hi,hi,n0⟩
theorem TyK.h {n:Int} (h:0<=n/\n<k):TyK k (Ao n):=⟨by simp [Ao,C9,Gw],IF h⟩
abbrev Lc:=Option (Ty×List (Int×Ty)×Int×List Ty)
def U0 (m:Md) (T:List (Int×Ty)) (k:Int) (S:List Ty):St:=[(1,some (eQ m k 2 4 (dTys S).length)),(2,some (VR T)),(4,some (.row 25 4 (dTys S)))]
def Dj (m:Md):Lc->Out
 | some (τ,T',k',S')=>.ret (.imm (.agg (dTyc τ))) (U0 m T' k' S')
 | none=>.pan Gn
def Cu (f:FuncId) (m:Md) (Γ:Au) (t:Tm) (T:List (Int×Ty)) (k:Int) (S:List Ty) (r:Lc):Prop :=
 Tq4 f [.ref 1 0,.imm (.agg (Al t)),.imm (.sl (A0 Γ))] (CI m T k S) (Dj m r)
def Ey (m:Md) (Γ:Au) (t:Tm) (T:List (Int×Ty)) (k:Int) (S:List Ty) (r:Lc):Prop:=Cu 79 m Γ t T k S r
def vE (m:Md) (T:List (Int×Ty)) (k:Int) (S:List Ty) (a b:Ty):Option (List (Int×Ty))->Prop
 | some T'=>Dk m T k S a b T'
 | none=>DL m T k S a b
abbrev HC:=Option (List (Int×Ty)×Int×List Ty)
def B7 (m:Md) (Γ:Au):List Tm->List Ty->List (Int×Ty)->Int->List Ty->HC->Prop
 | t::ts,u::us,T,k,S,r=>(Ey m Γ t T k S none/\r=none)\/∃τ T1 k1 S1,Ey m Γ t T k S (some (τ,T1,k1,S1))/\((DL m T1 k1 S1 τ u/\r=none)\/∃T2,Dk m T1 k1 S1 τ u T2/\B7 m Γ ts us T2 k1 S1 r)
 | _,_,T,k,S,r=>r=some (T,k,S)
def zds (m:Md) (k:Int) (S:List Ty):Option (Au×List (Int×Ty))->Out
 | some (Γ',T')=>.ret (.imm (.sl (A0 Γ'))) (CI m T' k S)
 | none=>.pan Gn
def GB (m:Md) (Γ:Au) (p τ:Ty) (T:List (Int×Ty)) (k:Int) (S:List Ty) (r:Option (Au×List (Int×Ty))):Prop :=
 Tq4 263 [.ref 1 0,.imm (.agg (dTyc p)),.imm (.agg (dTyc τ)),.imm (.sl (A0 Γ))] (CI m T k S) (zds m k S r)
def Nw (m:Md) (k:Int) (S:List Ty):List Ty->List Ty->Au->List (Int×Ty)->Option (Au×List (Int×Ty))->Prop
 | p::ps,t::ts,Γ,T,r=>(GB m Γ p t T k S none/\r=none)\/∃Γ1 T1,GB m Γ p t T k S (some (Γ1,T1))/\Nw m k S ps ts Γ1 T1 r
 | _,_,Γ,T,r=>r=some (Γ,T)
def Ky (m:Md) (Γ:Au) (b a:Ty):List Ty->List Tm->List (Int×Ty)->Int->List Ty->HC->Prop
 | p::ps,t::ts,T,k,S,r=>(GB m Γ p b T k S none/\r=none)\/∃Γ1 T1,GB m Γ p b T k S (some (Γ1,T1))/\((Ey m Γ1 t T1 k S none/\r=none)\/∃τ T2 k2 S2,Ey m Γ1 t T1 k S (some (τ,T2,k2,S2)) /\
   ((DL m T2 k2 S2 τ a/\r=none)\/∃T3,Dk m T2 k2 S2 τ a T3/\Ky m Γ b a ps ts T3 k2 S2 r))
 | _,_,T,k,S,r=>r=some (T,k,S)
theorem StOk.mono (h:StOk k σ) (hk:k<=k'):StOk k' σ:=⟨by have:=h.1;omega,h.2.1.mono hk,h.2.2⟩
def yW (T:List (Int×Ty)) (k:Int) (a b:Ty):Option (List (Int×Ty))->Prop
 | some T'=>StpR k (BH T) k (BH T') (λ_=>()) (λη _=>A9 η a=A9 η b)
 | none=>StpN (BH T) (β:=Unit) (λη _=>A9 η a=A9 η b)
theorem IJ (m:Md) (T:List (Int×Ty)) (k:Int) (S:List Ty) {b:Ty} (h:StOk k (BH T)) (ha:TyK k a) (hb:TyK k b):∃r,vE m T k S a b r/\yW T k a b r:=by
 obtain ⟨n,r,h1,h2⟩:=YA h ha.1 hb.1 ha.2 hb.2;obtain ⟨h0,hd,hs⟩:=h;have ek:((k.toNat:Nat):Int)=k:=by omega
 obtain ⟨a1,a2⟩:=ha;obtain ⟨b1,b2⟩:=hb;rw [<- ek] at hd a2 b2;have h3:=dJ m k S n T a b r h1 hs hd a1 b1 a2 b2;cases r with
 | none=>exact ⟨none,h3,h2⟩
 | some σ' =>
  obtain ⟨T',c,e⟩:=h3;exact ⟨some T',c,by subst e;exact h2⟩
structure vH (Γ:Au) (T:List (Int×Ty)) (k:Int) (S:List Ty) (n:Nat):Prop where
 st:StOk k (BH T)
 env:EnvOk k Γ
 l:k+n<=1000000
 s:S.length+n<=1000000
 g:Γ.length+n<=1000000
def vC (m:Md) (t:Tm) (Γ:Au) (T:List (Int×Ty)) (k:Int) (S:List Ty):Lc->Prop
 | some (τ,T',k',S')=>∃N,BM m Γ t k (BH T) (some (τ,k',BH T',N))/\S'=S++N/\N.length<=H8 t/\k'<=k+H8 t
 | none=>BM m Γ t k (BH T) none
def qO (m:Md) (ts:List Tm) (us:List Ty) (Γ:Au) (T:List (Int×Ty)) (k:Int) (S:List Ty):HC->Prop
 | some (T',k',S')=>∃N,H6 m ts (us.map λu=>(Γ,u)) k (BH T) (some (k',BH T',N))/\S'=S++N/\N.length<=BY ts/\k'<=k+BY ts
 | none=>H6 m ts (us.map λu=>(Γ,u)) k (BH T) none
def V5 (m:Md) (n:Nat):Prop:=∀(t:Tm) (Γ:Au) (T:List (Int×Ty)) (k:Int) (S:List Ty),H8 t<=n->Cb t=true->vH Γ T k S (H8 t)->∃r,Ey m Γ t T k S r/\vC m t Γ T k S r
theorem TyK.mono (h:TyK k t) (hk:k<=k'):TyK k' t:=⟨h.1,h.2.mono hk⟩
theorem Hg {m:Md} {n:Nat} (hI:V5 m n):∀(ts:List Tm) (us:List Ty) (Γ:Au) (T:List (Int×Ty)) (k:Int) (S:List Ty),ts.length=us.length->BY ts<=n->(∀t∈ts,Cb t=true)->(∀u∈us,TyK k u)->vH Γ T k S (BY ts) ->
  ∃r,B7 m Γ ts us T k S r/\qO m ts us Γ T k S r
 | [],[],Γ,T,k,S,_,_,_,_,hB=>by
  refine ⟨some (T,k,S),?_,[],WT hB.st,by simp,by simp [BY],by simp [BY]⟩;simp only [B7]
 | [],_::_,_,_,_,_,h,_,_,_,_=>by cases h
 | _::_,[],_,_,_,_,h,_,_,_,_=>by cases h
 | t::ts,u::us,Γ,T,k,S,h,hn,hf,hu,⟨b1,b2,b3,b4,b5⟩=>by
  simp only [BY] at hn b3 b4 b5;obtain ⟨r1,c1,g1⟩:=hI t Γ T k S (by omega) (hf t (by simp)) ⟨b1,b2,by omega,by omega,by omega⟩;cases r1 with
  | none =>
   refine ⟨none,?_,J3 (k:=k) (σ:=BH T) g1⟩;rw [B7];exact .inl ⟨c1,rfl⟩
  | some z =>
   obtain ⟨τ,T1,k1,S1⟩:=z;obtain ⟨N1,r1,s1,s2,s3⟩:=g1;have hle:k<=k1:=r1.1.1;have hu0:=hu u (by simp);obtain ⟨r2,c2,g2⟩:=IJ m T1 k1 S1 r1.1.2.1 ⟨r1.2.1,r1.2.2.1⟩ (hu0.mono hle);cases r2 with
   | none =>
    refine ⟨none,?_,MJ r1 hu0.2 g2⟩;rw [B7];exact .inr ⟨τ,T1,k1,S1,c1,.inl ⟨c2,rfl⟩⟩
   | some T2 =>
    obtain ⟨r,c3,g3⟩:=Hg hI ts us Γ T2 k1 S1 (by simpa using h) (by omega) (λt ht=>hf t (by simp [ht])) (λv hv=>(hu v (by simp [hv])).mono hle)
     ⟨g2.2.1,b2.mono hle,by omega,by rw [s1,AZ];omega,by omega⟩
    have hko:KidsOk k ((Γ,u)::us.map λu=>(Γ,u)):=by
     intro p hp;rcases CA.1 hp with rfl | hp
     ·exact ⟨b2,hu0⟩
     ·obtain ⟨v,hv,rfl⟩:=Cc.1 hp;exact ⟨b2,hu v (by simp [hv])⟩
    refine ⟨r,?_,?_⟩
    ·rw [B7];exact .inr ⟨τ,T1,k1,S1,c1,.inr ⟨T2,c2,c3⟩⟩
    ·cases r with
     | none =>
      exact NX (r:=none) hko r1 g2 g3
     | some y =>
      obtain ⟨T',k',S'⟩:=y;obtain ⟨N,r3,t1,t2,t3⟩:=g3;refine ⟨N1++N,NX (r:=some (k',BH T',N)) hko r1 g2 r3,by rw [t1,s1,Cl],by rw [AZ];simp only [BY];omega,by simp only [BY];omega⟩
def V4 (m:Md) (p τ:Ty) (Γ:Au) (T:List (Int×Ty)) (k:Int):Option (Au×List (Int×Ty))->Prop
 | some (Γ',T')=>Ld m p τ Γ k (BH T) (some (Γ',BH T'))/\Γ'.length<=Γ.length+DH p
 | none=>Ld m p τ Γ k (BH T) none
def qK (m:Md) (ps ts:List Ty) (Γ:Au) (T:List (Int×Ty)) (k:Int):Option (Au×List (Int×Ty))->Prop
 | some (Γ',T')=>Pp m ps ts Γ k (BH T) (some (Γ',BH T'))/\Γ'.length<=Γ.length+CX ps
 | none=>Pp m ps ts Γ k (BH T) none
theorem Tc {m:Md} {S:List Ty} {k:Int} {n:Nat} (hP:∀(p τ:Ty) (Γ:Au) (T:List (Int×Ty)),DH p<=n->StOk k (BH T)->TyK k τ->EnvOk k Γ->Γ.length+DH p<=1000000->∃r,GB m Γ p τ T k S r/\V4 m p τ Γ T k r) :
  ∀(ps ts:List Ty) (Γ:Au) (T:List (Int×Ty)),ps.length=ts.length->CX ps<=n->StOk k (BH T)->(∀t∈ts,TyK k t)->EnvOk k Γ->Γ.length+CX ps<=1000000->∃r,Nw m k S ps ts Γ T r/\qK m ps ts Γ T k r
 | [],[],Γ,T,_,_,hs,_,hΓ,_=>by
  refine ⟨some (Γ,T),by simp only [Nw],Wr hs hΓ,by simp [CX]⟩
 | [],_::_,_,_,h,_,_,_,_,_=>by cases h
 | _::_,[],_,_,h,_,_,_,_,_=>by cases h
 | p::ps,t::ts,Γ,T,h,hn,hs,ht,hΓ,hg=>by
  simp only [CX] at hn hg;obtain ⟨r1,c1,g1⟩:=hP p t Γ T (by omega) hs (ht t (by simp)) hΓ (by omega);cases r1 with
  | none =>
   refine ⟨none,?_,Tb (k:=k) (σ:=BH T) g1⟩;rw [Nw];exact .inl ⟨c1,rfl⟩
  | some z =>
   obtain ⟨Γ1,T1⟩:=z;obtain ⟨g1,l1⟩:=g1;obtain ⟨r,c2,g2⟩:=Tc hP ps ts Γ1 T1 (by simpa using h) (by omega) g1.1.2.1 (λu hu=>ht u (by simp [hu])) g1.2 (by omega);refine ⟨r,?_,?_⟩
   ·rw [Nw];exact .inr ⟨Γ1,T1,c1,c2⟩
   ·have hto:TysOk k ts:=λu hu=>ht u (by simp [hu]);cases r with
    | none=>exact NJ (r:=none) hto g1 g2
    | some y =>
     obtain ⟨Γ',T'⟩:=y;exact ⟨NJ (r:=some (Γ',BH T')) hto g1 g2.1,by have:=g2.2;simp only [CX];omega⟩
def qI (m:Md) (b a:Ty) (ps:List Ty) (ts:List Tm) (Γ:Au) (T:List (Int×Ty)) (k:Int) (S:List Ty):HC->Prop
 | some (T',k',S')=>∃N,J5 m b a Γ ps ts k (BH T) (some (k',BH T',N))/\S'=S++N/\N.length<=BY ts/\k'<=k+BY ts
 | none=>J5 m b a Γ ps ts k (BH T) none
def dW (m:Md):Prop:=∀(S:List Ty) (k:Int) (p τ:Ty) (Γ:Au) (T:List (Int×Ty)),StOk k (BH T)->TyK k τ->EnvOk k Γ->Γ.length+DH p<=1000000->∃r,GB m Γ p τ T k S r/\V4 m p τ Γ T k r
theorem SY {m:Md} (hP:dW m) {n:Nat} (hI:V5 m n):∀(ps:List Ty) (ts:List Tm) (Γ:Au) (b a:Ty) (T:List (Int×Ty)) (k:Int) (S:List Ty),ps.length=ts.length->BY ts<=n->(∀t∈ts,Cb t=true)->TyK k b->TyK k a->vH Γ T k S (BY ts+CX ps) ->
  ∃r,Ky m Γ b a ps ts T k S r/\qI m b a ps ts Γ T k S r
 | [],[],Γ,b,a,T,k,S,_,_,_,_,_,hB=>by
  refine ⟨some (T,k,S),by simp only [Ky],[],Wc hB.st,by simp,by simp [BY],by simp [BY]⟩
 | [],_::_,_,_,_,_,_,_,h,_,_,_,_,_=>by cases h
 | _::_,[],_,_,_,_,_,_,h,_,_,_,_,_=>by cases h
 | p::ps,t::ts,Γ,b,a,T,k,S,h,hn,hf,hb,ha,⟨b1,b2,b3,b4,b5⟩=>by
  simp only [BY,CX] at hn b3 b4 b5;obtain ⟨r1,c1,g1⟩:=hP S k p b Γ T b1 hb b2 (by omega);cases r1 with
  | none =>
   refine ⟨none,?_,Li (k:=k) (σ:=BH T) g1⟩;rw [Ky];exact .inl ⟨c1,rfl⟩
  | some z =>
   obtain ⟨Γ1,T1⟩:=z;obtain ⟨r1,l1⟩:=g1;obtain ⟨r2,c2,g2⟩:=hI t Γ1 T1 k S (by omega) (hf t (by simp)) ⟨r1.1.2.1,r1.2,by omega,by omega,by omega⟩;cases r2 with
   | none =>
    refine ⟨none,?_,J0 r1 g2⟩;rw [Ky];exact .inr ⟨Γ1,T1,c1,.inl ⟨c2,rfl⟩⟩
   | some z =>
    obtain ⟨τ,T2,k2,S2⟩:=z;obtain ⟨N1,r2,d1,d2,d3⟩:=g2;have hle:k<=k2:=r2.1.1;obtain ⟨r3,c3,g3⟩:=IJ m T2 k2 S2 r2.1.2.1 ⟨r2.2.1,r2.2.2.1⟩ (ha.mono hle);cases r3 with
    | none =>
     refine ⟨none,?_,Ms ha.2 r1 r2 g3⟩;rw [Ky];exact .inr ⟨Γ1,T1,c1,.inr ⟨τ,T2,k2,S2,c2,.inl ⟨c3,rfl⟩⟩⟩
    | some T3 =>
     obtain ⟨r,c4,g4⟩:=SY hP hI ps ts Γ b a T3 k2 S2 (by simpa using h) (by omega) (λt ht=>hf t (by simp [ht])) (hb.mono hle) (ha.mono hle)
      ⟨g3.2.1,b2.mono hle,by omega,by rw [d1,AZ];omega,by omega⟩
     refine ⟨r,?_,?_⟩
     ·rw [Ky];exact .inr ⟨Γ1,T1,c1,.inr ⟨τ,T2,k2,S2,c2,.inr ⟨T3,c3,c4⟩⟩⟩
     ·cases r with
      | none=>exact NF (r:=none) ha.2 hb.2 b2 r1 r2 g3 g4
      | some y =>
       obtain ⟨T',k',S'⟩:=y;obtain ⟨N,r4,t1,t2,t3⟩:=g4;exact ⟨N1++N,NF (r:=some (k',BH T',N)) ha.2 hb.2 b2 r1 r2 g3 r4,by rw [t1,d1,Cl],by rw [AZ];simp only [BY];omega,by simp only [BY];omega⟩
def lT (tt:TT) (n:Nat) (env:Env) (todo:List DI):Option PBa :=
 match Bt todo ([],[]) with
 | some (_,o,todo')=>match o.guard,o.op with
  | none,.build t ⟨parts⟩=>match lk tt t with
   | some { sh:=.arr m e,zero:=z0::z,.. }=>match lk tt e,JN env 1 parts,BK n o.dst with
    | some ti,some ds,true=>match Nat.beq ti.size 1,Nat.beq (ds.length+1) m,Nat.beq (z.length+1) m,z0.one with
     | true,true,true,true=>some ⟨z0::ds,o.dst,todo'⟩
     | _,_,_,_=>none
    | _,_,_=>none
   | _=>none
  | _,_=>none
 | none=>none
structure PVx where
 xs:List V
 len:Nat
 m:Int
 g:Option (Bool×Bool)
 ob:List Prop
 t:Nat
 todo:List DI
def vL (tt:TT) (n:Nat) (env:Env) (todo:List DI):Option PVx :=
 match Bt todo ([],[]) with
 | some (all,o,todo')=>match o.op,Co all env o with
  | .index t x i,some g=>match lk tt t,Mf (Ap g) env x,Mf (Ap g) env i with
   | some { sh:=.arr len e,.. },some (.imm (.agg xs),o1),some (.imm (.int _ m),o2)=>match lk tt e,o.dst,BK n o.dst with
    | some ti,some t',true=>match Nat.beq ti.size 1,ti.agg with
     | true,false=>some ⟨xs,len,m,g,IS o1 o2,t',todo'⟩
     | _,_=>none
    | _,_,_=>none
   | _,_,_=>none
  | _,_=>none
 | none=>none
section
variable {k:List DI} {a:Act}
theorem tS (htt:TTok P tt) {c:PBa} (h:lT tt n env todo=some c) (hk:G P n F Q c.todo (BN c.dst (HM c.ds) env) st ids):G P n F Q todo env st ids:=by
 unfold lT at h
 split at h
 ·rename_i all o todo' h1
  split at h
  ·rename_i t parts hg hop
   split at h
   ·rename_i m e _ _ _ z0 z ht
    split at h
    ·rename_i ti ds hti hps hd
     split at h
     ·rename_i hsz hlen hzlen hone;cases h;refine BG (fr:=[]) (wr:=[]) (rd:=[]) h1 ?_ hd (λc hc=>by rw [hop] at hc;cases hc) hk;intro I μ st1 ids1 a w hag hst hon;refine ⟨λ_=>?_,λhw=>by rw [AL hg] at hw;cases hw⟩;have hops:=Bm hon;rw [hop] at hops;obtain ⟨q1,q2,q3⟩:=OE (a:=a) (I:=I) (μ:=μ) hps (λx hx=>hops x (by simp only [Op.operands];simpa using hx));have hty:=htt t _ ht;obtain ⟨inf,zv,hi1,_,_,hi4,hi5,hi6⟩:=hty.info;have hu:P.underlying t=some (.array m e):=htt.sh ht;have hs1:ti.size=1:=C7 hsz;obtain ⟨hz1,hz2⟩:=hi5 I μ;have hzl:zv.cells.toList.length=m:=by
       rw [hz1];exact C7 hzlen
      have hpl:(parts.map λp=>a.eval p.2).length+1=m:=by rw [q2.1];exact C7 hlen
      obtain ⟨v0,vr,hvz⟩:∃v0 vr,zv.cells.toList=v0::vr:=by
       cases hc:zv.cells.toList with
       | nil=>rw [hc] at hzl;simp at hzl;omega
       | cons a b=>exact ⟨a,b,rfl⟩
      rw [hvz] at hzl hz2;have hv0:RepD I μ v0 z0:=hz2 0 v0 z0 rfl rfl;have hfill:=Xy (parts.map λp=>a.eval p.2) [v0] vr (by simp at hzl;simp at hpl;simp;omega) q3;simp only [Cq,B5,D0,G5,Dw] at hfill;have hrun:(execOp a.eval o).run P w = .ok (.value (.agg (v0::parts.map λp=>a.eval p.2).toArray)) w:=by
       simp only [execOp,hop,Instr.build,Sem.run_bind,zeroValue,typeInfo,run_program,Result.andThen_ok,hi1,hi4,Sem.run_pure,run_underlying hu,(htt e ti hti).sizeOf w,hs1,Lk,q1];rw [show zv.cells=zv.cells.toList.toArray from rfl,hvz,hfill];rfl
      rw [hrun];refine ⟨I,μ,hst,He ⟨by simp [q2.1],λi v d p q=>?_⟩ (λv hv=>?_),Mu.le_refl μ,Ext.refl _ _ _ _⟩
      ·match i,p,q with
       | 0,p,q=>cases p;cases q;exact hv0
       | i+1,p,q=>exact q2.2 i v d (by simpa using p) (by simpa using q)
      ·rcases CA.1 hv with rfl | hv
       ·exact hv0.one hone
       ·exact q3 v hv
     ·cases h
    ·cases h
   ·cases h
  ·cases h
 ·cases h
theorem yC (htt:TTok P tt) {c:PVx} {x:V} (h:vL tt n env todo=some c) (hc:Ap c.g->0<=c.m/\c.m<c.len/\c.xs[c.m.toNat]?=some x) (hob:AG c.ob)
  (hk:G P n F Q c.todo ((c.t,gD c.g (.imm x))::env) st ids):G P n F Q todo env st ids:=by
 unfold vL at h
 split at h
 ·rename_i all o todo' h1
  split at h
  ·rename_i t y i g hop hg
   split at h
   ·rename_i len e _ _ _ _ xs o1 kk m o2 ht hx hi
    split at h
    ·rename_i ti t' hti hdst hd
     split at h
     ·rename_i hsz hagg;cases h;have hk:G P n F Q todo' (BN o.dst (gD g (.imm x)) env) st ids:=by rw [hdst];exact hk
      refine BG (fr:=[]) (wr:=[]) (rd:=[]) h1 (D1 hg λI μ st1 ids1 a w _ hst hops hcx=>?_) (by rw [hdst] at hd ⊢;exact hd) (λc hc=>by rw [hop] at hc;cases hc) hk;rw [hop] at hops;obtain ⟨ho1,ho2⟩:=B8 hob;have rx:=(DZ hx ho1 hcx (hops y (by simp [Op.operands]))).immInv;have ri:=(DZ hi ho2 hcx (hops i (by simp [Op.operands]))).immInv.intInv;obtain ⟨c0,c1,c2⟩:=hc hcx;simp only at c0 c1 c2;have hu:P.underlying t=some (.array len e):=htt.sh ht;have hs1:ti.size=1:=C7 hsz;obtain ⟨cs,hcs,hl,hrep⟩:∃cs:Array Value,a.eval y = .agg cs/\cs.size=xs.length/\∀(i:Nat) (c:Value) (x:V),cs[i]?=some c->xs[i]?=some x->RepV I c x:=by
       have:∀v,RepV I v (.agg xs)->∃cs:Array Value,v = .agg cs/\cs.size=xs.length/\∀(i:Nat) (c:Value) (x:V),cs[i]?=some c->xs[i]?=some x->RepV I c x:=λv hv=>by
        cases hv with
        | agg cs _ hl _ h=>exact ⟨cs,rfl,hl,h⟩
       exact this _ rx
      have hlt:m.toNat<cs.size:=by rw [hl];exact (AO.1 c2).1
      have hget:cs[m.toNat]?=some cs[m.toNat]:=P2 hlt;have hr:=hrep m.toNat _ x hget c2;have hna:=(htt e ti hti).isAgg w;rw [hagg] at hna;simp only [execOp,hop,ri,hcs];have hrun:(do pure (.value (<- Instr.index t (.agg cs) (.int kk m))):Sem Next).run P w = .ok (.value cs[m.toNat]) w:=by
       apply A7;simp only [Instr.index,Sem.run_bind,asIntOf,Sem.run_pure,Result.andThen_ok,run_underlying hu];simp [c0,c1,(htt e ti hti).sizeOf w,hs1,part,hna,hget]
      rw [hrun];exact ⟨I,μ,hst,.imm _ _ hr,Mu.le_refl μ,Ext.refl _ _ _ _⟩
     ·cases h
    ·cases h
   ·cases h
  ·cases h
 ·cases h
end
def bH (m:Nat):D:=.agg (List.replicate (m+1) SF)
theorem Bs (t m:Nat) (h:lk env t=some (bH m)):DGo P n F Q todo env st ids:=by
 intro b cs I μ a w items hd hc;have hv:=hc.env t _ h;generalize a.tmps.getD t undef=v at hv;cases hv with
 | agg cs ds hl _ hr =>
  have h0:0<cs.size:=by rw [hl];simp
  have:=hr 0 cs[0] SF (P2 h0) rfl;generalize cs[0]=u at this;cases this;omega
theorem Bg {c:Uj} {x:V} (m:Nat) (σ:List (Nat×Nat)) (h:TY n env todo=some c) (hob:AG c.ob) (hE:IR P c.f (F7 (Ep σ) c.das) st0 (.pan x)) (hb:EZ σ st st0) (hn:Di σ (Br σ) (I0 c.das)=true) (hq:KY Q x)
  (h1:Bt todo (FH σ,[])=some (c.all,c.o,todo')) (hk:G P n F Q todo' (BN c.dst (bH m) env) st ids):G P n F Q todo env st ids:=by
 obtain ⟨_,q2,q3,q4,q5,q6⟩:=Nd (P:=P) h hob;rw [q6] at q4 hk;exact BG (fr:=[]) (wr:=[]) h1 (QV q2 q3 hE hb hn hq) q4 q5 hk
theorem DC {m:Nat} (I:Imm) (μ:Mu) (v:Value):¬RepD I μ v (bH m):=λh=>by
 cases h with
 | agg cs ds hl _ hr =>
  have h0:0<cs.size:=by rw [hl];simp
  have:=hr 0 cs[0] SF (P2 h0) rfl;generalize cs[0]=u at this;cases this;omega
theorem fO (I:Imm) (μ:Mu) (v:Value):¬RepD I μ v SF:=λh=>by
 cases h;omega
structure PVo where
 d:D
 all:List Oper
 o:Oper
 todo:List DI
def vK (n:Nat) (env:Env) (t:Nat) (todo:List DI):Option PVo :=
 match Bt todo ([],[]) with
 | some (all,o,todo')=>match o.guard,EX (o.op.operands.toList.filterMap λx=>match x with | .tmp i=>some i | _=>none) t,lk env t,BK n o.dst with
  | none,true,some d,true=>some ⟨d,all,o,todo'⟩
  | _,_,_,_=>none
 | none=>none
theorem Eh (t:Nat) (d':D) {c:PVo} (h:vK n env t todo=some c) (hv:∀I μ v,¬RepD I μ v c.d) (hnd:∀x,c.o.op ≠ .defer x) (hk:G P n F Q c.todo (BN c.o.dst d' env) st ids):G P n F Q todo env st ids:=by
 unfold vK at h
 split at h
 ·rename_i all o todo' h1
  split at h
  ·rename_i d hg hm hl hd;cases h;refine BG (fr:=[]) (wr:=[]) (rd:=[]) h1 (λI μ st2 ids1 a w hag hst hon=>⟨λ_=>?_,λhw=>by rw [AL hg] at hw;cases hw⟩) hd hnd hk;exfalso;have hm:=BR.1 hm;obtain ⟨x,hx,e⟩:=List.mem_filterMap.1 hm;cases x with
   | tmp i =>
    cases e;exact hv I μ _ ((Bm hon) (.tmp t) (by simpa using hx) d hl)
   | _=>cases e
  ·cases h
 ·cases h
theorem aP (Γ:Au):∀c∈A0 Γ,c.length=5:=λc hc=>by obtain ⟨x,_,rfl⟩:=Cc.1 hc;simp [Vw]
theorem oG (es:List (List V)):Tq4 137 [.imm (.sl es)] [] (.ret (.clip es) []):=by
 exact AQ Ah func137 rfl [1,2]<|Ai rfl<|yD Ah rfl rfl rfl<|Ai rfl<|Ag ⟨_,AD⟩
theorem JZ (Γ:Au) (x:Str) (t:Ty) (hΓ:Γ.length<=1000000):Tq3 75 [.sl (A0 Γ),.str x,.agg (dTyc t)] (.sl (A0 (Γ++[(x,t)]))):=by
 have hC:=oG (A0 Γ);have h5:=aP Γ;have hl:(A0 Γ).length<=1000000:=by simpa [A0] using hΓ
 have he:A0 (Γ++[(x,t)])=A0 Γ++[.str x::dTyc t]:=by simp [A0,Vw]
 rw [he];generalize A0 Γ=es at *;obtain ⟨t1,t2,t3,t4⟩:=t;exact AQ Ah func75 rfl [1,2,3]<|Ai rfl<|Jf [] [] [] rfl hC trivial rfl rfl<|Ai rfl<|iD Ah rfl ⟨by simp,by simp [maxLen];omega,by simp;omega,λc hc=>h5 c hc,by simp⟩ (λc hc=>h5 c hc)<|yg [] rfl (by simp;rfl)<|Ab rfl rfl rfl
def kY:List V:=[.nilfn,.fn (.func 192),.fn (.func 193),.fn (.func 194),.fn (.func 195),.fn (.func 196),.fn (.func 197),.fn (.func 198),.fn (.func 199),.fn (.func 200),.fn (.func 200),.fn (.func 200),.fn (.func 201),.fn (.func 202),.fn (.func 203),.fn (.func 204),.fn (.func 205),.fn (.func 206),.fn (.func 207),.fn (.func 208),.fn (.func 209),.fn (.func 210),.fn (.func 211),.fn (.func 212),.fn (.func 213),.fn (.func 192),.fn (.func 214),.fn (.func 215),.fn (.func 194)]
theorem fY:Tq3 141 [] (.agg kY):=by
 exact AQ Ah func141 rfl [1]<|Ai rfl<|tS Ah rfl<|Ai rfl<|Ab rfl rfl rfl
theorem DS (op:Nat) {f:FuncId} (hop:kY[op]?=some (.fn (.func f))) {n:Int} {r:Lc} (h:Cu f m Γ (.mk op n x ks ps) T k S r):Ey m Γ (.mk op n x ks ps) T k S r:=by
 have hlt:op<29:=(AO.1 hop).1;have hR:=fY;unfold Ey Cu;unfold Cu at h;refine AQ Ah func79 rfl [5,6,4,7]<|Ai rfl<|Ad rfl hR<|Ai rfl<|yC Ah rfl (λ_=>⟨by simp,by simp;omega,by simpa using hop⟩) (by simp)<|Ai rfl ?_;cases r with
 | some z =>
  obtain ⟨⟨τ1,τ2,τ3,τ4⟩,T',k',S'⟩:=z;exact A4 [(1,1),(2,2),(3,3)] [(4,4)] [] (fr:=[4]) (nm:=[1,2,4,1,2,3]) rfl trivial (by simp) h Ax rfl trivial rfl rfl rfl<|yg [] rfl (by simp;rfl)<|Ag ⟨_,BA⟩
 | none =>
  exact Bg 3 [(1,1),(2,2),(3,3)] rfl (by simp) h Ax rfl rfl rfl<|yg [] rfl (by simp;rfl)<|Bs 14 3 rfl
theorem CB {i:Nat} {u:Tm} {op n:Int} (hu:ks[i]?=some u) {r:Lc} (h:Ey m Γ u T k S r) :
  Tq4 260 [.ref 1 0,.imm (.agg (Al (.mk op n x ks ps))),.imm (.int .i64 i),.imm (.sl (A0 Γ))] (CI m T k S) (Dj m r):=by
 unfold Ey Cu at h;have hg:=E5 hu;have hlt:=(AO.1 hu).1;obtain ⟨u1,u2,u3,u4,u5⟩:=u;refine AQ Ah func260 rfl [5,6,4,7]<|Ai rfl<|HA rfl hg<|Ai rfl ?_;cases r with
 | some z =>
  obtain ⟨⟨τ1,τ2,τ3,τ4⟩,T',k',S'⟩:=z;exact Jf [4] [(1,1),(2,2),(3,3)] [(4,4)] rfl h Ax rfl rfl<|Ai rfl<|Ag ⟨_,BA⟩
 | none =>
  exact Bg 3 [(1,1),(2,2),(3,3)] rfl (by simp) h Ax rfl rfl rfl<|Bs 16 3 rfl
def rnL (i j:Nat):List D->List D->Prop
 | [],[]=>True
 | d::r,d'::r'=>(d=d'\/∃l,d = .own i l/\d' = .own j l)/\rnL i j r r'
 | _,_=>False
theorem Wi {i j:Nat}:∀{ds ds':List D},rnL i j ds ds'->ds.length=ds'.length/\∀(q:Nat) (d':D),ds'[q]?=some d'->∃d,ds[q]?=some d/\(d=d'\/∃l,d = .own i l/\d' = .own j l)
 | [],[],_=>⟨rfl,λi d h=>by simp at h⟩
 | d::r,d'::r',h=>by
  obtain ⟨h1,h2⟩:=Wi h.2;refine ⟨by simp [h1],λq x hx=>?_⟩
  match q,hx with
  | 0,hx=>simp at hx;subst hx;exact ⟨d,rfl,h.1⟩
  | q+1,hx=>exact h2 q x (by simpa using hx)
 | [],_::_,h=>h.elim
 | _::_,[],h=>h.elim
theorem Ft (i j k:Nat) {t:TypeId} {sz':Nat} {ds:List D} (ds':List D) (hl:lk st i=some (some (.row e sz es))) (hk:lk st k=some (some (.cells t sz' ds))) (hik:i≠k) (hcl:rnL i j ds ds') (h:DGo P n F Q todo env ((k,some (.cells t sz' ds'))::(j,some (.row e sz es))::(i,none)::st) ids'):DGo P n F Q todo env st (j::ids'):=by
 refine EJ λI μ a w hc=>?_;obtain ⟨g,hg,hr⟩:=hc.blk i _ hl;obtain ⟨gk,hgk,_⟩:=hc.blk k _ hk;have hjk:j≠k:=λe=>by rw [<- e,hc.idsFree j (by simp)] at hgk;cases hgk
 obtain ⟨q1,q2,q3⟩:=StRep.relay (R:=[i]) (new:=[(j,g,.row e sz es)]) (ids':=ids') hc.toStRep
  (λp hp b hb=>by rw [AN.1 hp] at hb;exact ⟨i,_,g,by simp,hl,hg,hb⟩)
  (λp hp q hq b _ _=>by rw [AN.1 hp,AN.1 hq]) (Imm.le_refl I) hc.imm (λb o h=>.inl h)
  (λhle p hp=>by rw [AN.1 hp];exact hr.mono (Imm.le_refl I) hle)
 have hmj:Ef [(j,g,Blk.row e sz es)] μ j=some g:=by simp [Ef,lk]
 have hmi:∀x v,μ x=some v->Ef [(j,g,Blk.row e sz es)] μ x=some v:=q1;have hk2:Az ((j,some (.row e sz es))::(i,none)::st) k (.cells t sz' ds):=by
  refine AB.2 (.inr ⟨hjk.symm,?_⟩);show lk ((i,none)::st) k=_;rw [A6 _ _ hik];exact hk
 obtain ⟨c1,c2⟩:=Wi hcl;obtain ⟨p1,p2⟩:=q2.retell (st1:=(k,some (.cells t sz' ds'))::(j,some (.row e sz es))::(i,none)::st) (λx bb hlb=>by
  rcases AB.1 hlb with ⟨rfl,rfl⟩ | ⟨_,h2⟩
  ·refine ⟨_,hk2,λgb hb=>?_⟩;obtain ⟨hs,b,us,e1,e2,e3,e4⟩:=hb;refine ⟨by rw [<- c1,hs],b,us,e1,e2,⟨by rw [<- c1,e3.1],λq v y hv hy=>?_⟩,e4⟩;obtain ⟨d,y1,y2⟩:=c2 q y hy;have hr:=e3.2 q v d hv y1;rcases y2 with rfl | ⟨l,rfl,rfl⟩
   ·exact hr
   ·cases hr with
    | own _ _ ad cap hm =>
     rw [hmi i g hg] at hm;cases hm;exact .own j l ad cap hmj
  ·exact ⟨bb,h2,λ_ h=>h⟩)
 exact ⟨I,_,env,_,ids',p1,λt d hd=>(hc.env t d hd).mono (Imm.le_refl I) q1,q3.trans p2,.of_le q1,h⟩
def outK (m:Md):HC->Out
 | some (T',k',S')=>.ret (.imm (.tup [])) (U0 m T' k' S')
 | none=>.pan Gn
theorem Kb (m:Md) (Γ:Au) (op n:Int) (x:Str) (ks:List Tm) (ps:List Ty) (u:Ty) (T:List (Int×Ty)) (k:Int) (S:List Ty) (r:HC) (hl:ks.length<=1000000) (h:B7 m Γ ks (ks.map λ_=>u) T k S r) :
  Tq4 261 [.ref 1 0,.imm (.agg (Al (.mk op n x ks ps))),.imm (.sl (A0 Γ)),.imm (.agg (dTyc u))] (CI m T k S) (outK m r):=by
 obtain ⟨u1,u2,u3,u4⟩:=u;refine AQ Ah func261 rfl [5,6,4,7,8,9]<|Ai rfl<|Ft 3 4 1 [.imm (.str m.name),.imm (.sl (m.datas.map BE)),.imm (.sl (m.funs.map Cg)),.mapr 2,.imm (.int .i64 (k)),.own 4 (dTys S).length] rfl rfl (by decide) ⟨.inl rfl,.inl rfl,.inl rfl,.inl rfl,.inl rfl,.inr ⟨_,rfl,rfl⟩,trivial⟩<|Ak (λz:Nat×List (Int×Ty)×Int×List Ty=>[(12,.imm (.int .i64 z.1)),(11,.imm (.int .i64 ks.length)),(0,.ref 1 0),(2,.imm (.sl (A0 Γ))),(5,.ref 5 0),(7,.ref 6 0)]) (λz=>(5,some (.immb 49 5 (Al (.mk op n x ks ps))))::(6,some (.immb 25 4 (dTyc (.mk u1 u2 u3 u4))))::U0 m z.2.1 z.2.2.1 z.2.2.2) [7,8,9] (λz=>ks.length-z.1)
  (λz=>z.1<=ks.length/\B7 m Γ (ks.drop z.1) ((ks.drop z.1).map λ_=>.mk u1 u2 u3 u4) z.2.1 z.2.2.1 z.2.2.2 r) (0,T,k,S)
  ⟨AF _,h⟩ ⟨rfl,A8 (by simp),BJ⟩ BA rfl λz hz ih=>?_
 clear h;obtain ⟨j,T1,k1,S1⟩:=z;obtain ⟨hj1,hj2⟩:=hz;simp only at hj1 hj2 ih;refine Av rfl<|Aa rfl (λh'=>?_) (λh'=>?_)
 ·have hlt:j<ks.length:=by simp at h';omega
  obtain ⟨t,ht⟩:=Am hlt;rw [As ht,Cv,B7] at hj2;refine Av rfl ?_;rcases hj2 with ⟨hI,rfl⟩ | ⟨⟨τ1,τ2,τ3,τ4⟩,T2,k2,S2,hI,hj2⟩
  ·have hK:=CB (op:=op) (n:=n) (x:=x) (ps:=ps) ht hI;simp only [Dj] at hK;exact Bg 3 [(1,1),(2,2),(4,3)] rfl (by simp) hK Ax rfl rfl rfl<|Ai rfl<|Eh 20 (.imm (.tup [])) rfl DC (λx h=>by cases h)<|yg [] rfl (by simp;rfl)<|Bs 20 3 rfl
  ·have hK:=CB (op:=op) (n:=n) (x:=x) (ps:=ps) ht hI;simp only [Dj] at hK;refine A4 [(1,1),(2,2),(4,3)] [(4,7)] [] (fr:=[7]) (nm:=[1,2,7,1,2,4]) rfl trivial (by simp) hK Ax rfl trivial rfl rfl rfl<|Ai rfl ?_;rcases hj2 with ⟨hE,rfl⟩ | ⟨T3,hE,hj2⟩
   ·unfold DL at hE;exact Bd [(1,1),(2,2),(7,3)] rfl (by simp) hE Ax rfl rfl rfl<|N0 1 rfl (by simp;rfl)<|By 22 rfl
   ·unfold Dk at hE;exact A4 [(1,1),(2,2),(7,3)] [] [] (fr:=[]) (nm:=[1,2,7,1,2,7]) rfl trivial (by simp) hE Ax rfl trivial rfl rfl rfl<|yg [] rfl (by simp;rfl)<|Bo 7 4 rfl<|Ae (ih (j+1,T3,k2,S2) (by simp only;omega) ⟨by simp only;omega,hj2⟩) ⟨M6,BA⟩ BA rfl
 ·have hlt:¬j<ks.length:=by simp at h';omega
  rw [Bh (by omega)] at hj2;simp only [FB,B7] at hj2;subst hj2;exact At rfl<|Av rfl<|BP ⟨_,BA⟩
theorem Ka (m:Md) (Γ:Au) (op n:Int) (x:Str) (t0:Tm) (ks:List Tm) (ps:List Ty) (s:Int) (T:List (Int×Ty)) (k:Int) (S:List Ty) (r:HC) (hk:0<=k/\k<=1000000) (h:B7 m Γ [t0] [Ir s (Ao k)] T (k+1) S r) :
  Tq4 264 [.ref 1 0,.imm (.agg (Al (.mk op n x (t0::ks) ps))),.imm (.int .i64 s),.imm (.sl (A0 Γ))] (CI m T k S) (Dj m (r.map λz=>(Ao k,z))):=by
 have hA:=HS m T k S hk;have hKd:=BC s [Ao k];have ht:(t0::ks)[0]?=some t0:=rfl;rw [B7] at h;refine AQ Ah func264 rfl [5,6,7,4,8]<|Ai rfl<|Jf [] [(1,1),(2,2),(3,3)] [] rfl hA Ax rfl rfl<|Ai rfl ?_;rcases h with ⟨hI,rfl⟩ | ⟨⟨τ1,τ2,τ3,τ4⟩,T2,k2,S2,hI,h⟩
 ·have hK:=CB (op:=op) (n:=n) (x:=x) (ps:=ps) ht hI;simp only [Dj] at hK;exact Bg 3 [(1,1),(2,2),(3,3)] rfl (by simp) hK Ax rfl rfl rfl<|Ai rfl<|Ad rfl hKd<|Ai rfl<|Eh 16 (.imm (.tup [])) rfl DC (λx h=>by cases h)<|yg [] rfl (by simp;rfl)<|Bs 16 3 rfl
 ·have hK:=CB (op:=op) (n:=n) (x:=x) (ps:=ps) ht hI;simp only [Dj] at hK;refine A4 [(1,1),(2,2),(3,3)] [(4,4)] [] (fr:=[4]) (nm:=[1,2,4,1,2,3]) rfl trivial (by simp) hK Ax rfl trivial rfl rfl rfl<|Ai rfl<|Ad rfl hKd<|Ai rfl ?_;rcases h with ⟨hE,rfl⟩ | ⟨T3,hE,h⟩
  ·unfold DL at hE;exact Bd [(1,1),(2,2),(4,3)] rfl (by simp) hE Ax rfl rfl rfl<|N0 1 rfl (by simp;rfl)<|By 21 rfl
  ·unfold Dk at hE;simp only [B7] at h;subst h;exact A4 [(1,1),(2,2),(4,3)] [] [] (fr:=[]) (nm:=[1,2,4,1,2,4]) rfl trivial (by simp) hE Ax rfl trivial rfl rfl rfl<|yg [] rfl (by simp;rfl)<|Ag ⟨_,BA⟩
theorem QY (m:Md) (Γ:Au) (op n:Int) (x:Str) (ks:List Tm) (ps:List Ty) (T:List (Int×Ty)) (k:Int) (S:List Ty):Cu 192 m Γ (.mk op n x ks ps) T k S (some (AU,T,k,S)):=by
 have hKd:=BC 1 [];unfold Cu;exact AQ Ah func192 rfl [4,5,6,7]<|Ft 3 4 1 [.imm (.str m.name),.imm (.sl (m.datas.map BE)),.imm (.sl (m.funs.map Cg)),.mapr 2,.imm (.int .i64 (k)),.own 4 (dTys S).length] rfl rfl (by decide) ⟨.inl rfl,.inl rfl,.inl rfl,.inl rfl,.inl rfl,.inr ⟨_,rfl,rfl⟩,trivial⟩<|Av rfl<|Ad rfl hKd<|Ai rfl<|Ag ⟨_,BA⟩
theorem nS (m:Md) (Γ:Au) (op n:Int) (x:Str) (ks:List Tm) (ps:List Ty) (T:List (Int×Ty)) (k:Int) (S:List Ty):Cu 193 m Γ (.mk op n x ks ps) T k S (some (Ca,T,k,S)):=by
 have hKd:=BC 2 [];unfold Cu;exact AQ Ah func193 rfl [4,5,6,7]<|Ft 3 4 1 [.imm (.str m.name),.imm (.sl (m.datas.map BE)),.imm (.sl (m.funs.map Cg)),.mapr 2,.imm (.int .i64 (k)),.own 4 (dTys S).length] rfl rfl (by decide) ⟨.inl rfl,.inl rfl,.inl rfl,.inl rfl,.inl rfl,.inr ⟨_,rfl,rfl⟩,trivial⟩<|Av rfl<|Ad rfl hKd<|Ai rfl<|Ag ⟨_,BA⟩
theorem QX (m:Md) (Γ:Au) (op n:Int) (x:Str) (ks:List Tm) (ps:List Ty) (T:List (Int×Ty)) (k:Int) (S:List Ty):Cu 194 m Γ (.mk op n x ks ps) T k S (some (Dm,T,k,S)):=by
 have hKd:=BC 3 [];unfold Cu;exact AQ Ah func194 rfl [4,5,6,7]<|Ft 3 4 1 [.imm (.str m.name),.imm (.sl (m.datas.map BE)),.imm (.sl (m.funs.map Cg)),.mapr 2,.imm (.int .i64 (k)),.own 4 (dTys S).length] rfl rfl (by decide) ⟨.inl rfl,.inl rfl,.inl rfl,.inl rfl,.inl rfl,.inr ⟨_,rfl,rfl⟩,trivial⟩<|Av rfl<|Ad rfl hKd<|Ai rfl<|Ag ⟨_,BA⟩
theorem Zz (m:Md) (Γ:Au) (op n:Int) (x:Str) (ks:List Tm) (ps:List Ty) (T:List (Int×Ty)) (k:Int) (S:List Ty) (r:HC) (hl:ks.length<=1000000) (h:B7 m Γ ks (ks.map λ_=>AU) T k S r):Cu 200 m Γ (.mk op n x ks ps) T k S (r.map λz=>(AU,z)):=by
 have hKd:=BC 1 [];have hKi:=BC 1 [];have hH:=Kb m Γ op n x ks ps AU T k S r hl h;unfold Cu;refine AQ Ah func200 rfl [5,6,4,7]<|Ai rfl<|Ad rfl hKi<|Ai rfl ?_;cases r with
 | none =>
  exact Bd [(1,1),(2,2),(3,3)] rfl (by simp) hH Ax rfl rfl rfl<|N0 1 rfl (by simp;rfl)<|By 11 rfl
 | some z =>
  obtain ⟨T',k',S'⟩:=z;exact A4 [(1,1),(2,2),(3,3)] [(4,4)] [] (fr:=[4]) (nm:=[1,2,4,1,2,3]) rfl trivial (by simp) hH Ax rfl trivial rfl rfl rfl<|yg [] rfl (by simp;rfl)<|Ad rfl hKd<|Ai rfl<|Ag ⟨_,BA⟩
theorem tG (m:Md) (Γ:Au) (op n:Int) (x:Str) (ks:List Tm) (ps:List Ty) (T:List (Int×Ty)) (k:Int) (S:List Ty) (r:HC) (hl:ks.length<=1000000) (h:B7 m Γ ks (ks.map λ_=>AU) T k S r):Cu 201 m Γ (.mk op n x ks ps) T k S (r.map λz=>(Ca,z)):=by
 have hKd:=BC 2 [];have hKi:=BC 1 [];have hH:=Kb m Γ op n x ks ps AU T k S r hl h;unfold Cu;refine AQ Ah func201 rfl [5,6,4,7]<|Ai rfl<|Ad rfl hKi<|Ai rfl ?_;cases r with
 | none =>
  exact Bd [(1,1),(2,2),(3,3)] rfl (by simp) hH Ax rfl rfl rfl<|N0 1 rfl (by simp;rfl)<|By 11 rfl
 | some z =>
  obtain ⟨T',k',S'⟩:=z;exact A4 [(1,1),(2,2),(3,3)] [(4,4)] [] (fr:=[4]) (nm:=[1,2,4,1,2,3]) rfl trivial (by simp) hH Ax rfl trivial rfl rfl rfl<|yg [] rfl (by simp;rfl)<|Ad rfl hKd<|Ai rfl<|Ag ⟨_,BA⟩
theorem xT (m:Md) (Γ:Au) (op n:Int) (x:Str) (ks:List Tm) (ps:List Ty) (T:List (Int×Ty)) (k:Int) (S:List Ty) (r:HC) (hl:ks.length<=1000000) (h:B7 m Γ ks (ks.map λ_=>AU) T k S r):Cu 213 m Γ (.mk op n x ks ps) T k S (r.map λz=>(Dm,z)):=by
 have hKd:=BC 3 [];have hKi:=BC 1 [];have hH:=Kb m Γ op n x ks ps AU T k S r hl h;unfold Cu;refine AQ Ah func213 rfl [5,6,4,7]<|Ai rfl<|Ad rfl hKi<|Ai rfl ?_;cases r with
 | none =>
  exact Bd [(1,1),(2,2),(3,3)] rfl (by simp) hH Ax rfl rfl rfl<|N0 1 rfl (by simp;rfl)<|By 11 rfl
 | some z =>
  obtain ⟨T',k',S'⟩:=z;exact A4 [(1,1),(2,2),(3,3)] [(4,4)] [] (fr:=[4]) (nm:=[1,2,4,1,2,3]) rfl trivial (by simp) hH Ax rfl trivial rfl rfl rfl<|yg [] rfl (by simp;rfl)<|Ad rfl hKd<|Ai rfl<|Ag ⟨_,BA⟩
theorem nV (m:Md) (Γ:Au) (op n:Int) (x:Str) (ks:List Tm) (ps:List Ty) (T:List (Int×Ty)) (k:Int) (S:List Ty) (r:HC) (hl:ks.length<=1000000) (h:B7 m Γ ks (ks.map λ_=>AU) T k S r):Cu 214 m Γ (.mk op n x ks ps) T k S (r.map λz=>(AU,z)):=by
 have hKd:=BC 1 [];have hKi:=BC 1 [];have hH:=Kb m Γ op n x ks ps AU T k S r hl h;unfold Cu;refine AQ Ah func214 rfl [5,6,4,7]<|Ai rfl<|Ad rfl hKi<|Ai rfl ?_;cases r with
 | none =>
  exact Bd [(1,1),(2,2),(3,3)] rfl (by simp) hH Ax rfl rfl rfl<|N0 1 rfl (by simp;rfl)<|By 11 rfl
 | some z =>
  obtain ⟨T',k',S'⟩:=z;exact A4 [(1,1),(2,2),(3,3)] [(4,4)] [] (fr:=[4]) (nm:=[1,2,4,1,2,3]) rfl trivial (by simp) hH Ax rfl trivial rfl rfl rfl<|yg [] rfl (by simp;rfl)<|Ad rfl hKd<|Ai rfl<|Ag ⟨_,BA⟩
theorem oB (m:Md) (Γ:Au) (op n:Int) (x:Str) (ks:List Tm) (ps:List Ty) (T:List (Int×Ty)) (k:Int) (S:List Ty) (r:HC) (hk:0<=k/\k<=1000000) (hl:ks.length<=1000000) (hS:∀z,r=some z->z.2.2.length<=1000000) (h:B7 m Γ ks (ks.map λ_=>Ao k) T (k+1) S r):Cu 202 m Γ (.mk op n x ks ps) T k S (r.map λz=>(Ca,z.1,z.2.1,z.2.2++[Ao k])):=by
 have hA:=HS m T k S hk;have hKd:=BC 2 [];have hH:=Kb m Γ op n x ks ps (Ao k) T (k+1) S r hl h;unfold Cu;refine AQ Ah func202 rfl [5,6,7,8,4,9,10]<|Ai rfl<|Jf [] [(1,1),(2,2),(3,3)] [] rfl hA Ax rfl rfl<|Ai rfl ?_;cases r with
 | none =>
  exact Bd [(1,1),(2,2),(3,3)] rfl (by simp) hH Ax rfl rfl rfl<|By 14 rfl
 | some z =>
  obtain ⟨T',k',S'⟩:=z;have hSl:=hS _ rfl;simp only at hSl;have hap:dTys (S'++[Ao k])=dTys S'++[dTyc (Ao k)]:=by rw [E4];rfl
  have hln:(dTys S').length=S'.length:=dTys_length S';have hst:(dTys S'++[[V.int .i64 0,V.int .i64 0,V.str [],V.sl []]]).set (dTys S').length (dTyc (Ao k))=dTys (S'++[Ao k]):=by
   rw [hap,OB _ _ (BL _),LL];rfl
  have hgt:(dTys S'++[[V.int .i64 0,V.int .i64 0,V.str [],V.sl []]])[(dTys S').length]?=some [V.int .i64 0,V.int .i64 0,V.str [],V.sl []]:=by
   rw [QG (BL _),LL];rfl
  exact Jf [8] [(1,1),(2,2),(3,3)] [(4,8)] rfl hH Ax rfl rfl<|Ai rfl<|Bn Ah rfl ⟨by simp,by simp [maxLen];omega,by simp;omega,trivial⟩<|Ai rfl<|FG Ah rfl (λ_=>⟨by show (0:Int)<=((dTys S').length:Int);omega,by show ((dTys S').length:Int)<((dTys S'++[[V.int .i64 0,V.int .i64 0,V.str [],V.sl []]]).length:Int);simp;omega⟩) (by simp [Ap])<|Ai rfl<|Kj Ah (e:=[V.int .i64 0,V.int .i64 0,V.str [],V.sl []]) (e':=dTyc (Ao k)) rfl (by simpa using hgt) (by show 0+4<=4;decide) (by simp [Ao,dTyc]) (by simp)<|yg [] rfl (by simp;rfl)<|Ad rfl hKd<|Ai rfl<|Ag ⟨_,rfl,rfl,congrArg (λq=>some (some (eQ m k' 2 4 q))) (by simp:(dTys S'++[[V.int .i64 0,V.int .i64 0,V.str [],V.sl []]]).length=(dTys (S'++[Ao k])).length),rfl,congrArg (λq=>some (some (Blk.row 25 4 q))) hst,trivial⟩
theorem WS {u0 u1:Ty} {r:HC} (h:B7 m Γ [t0,t1] [u0,u1] T k S r) :
  ∃r1,B7 m Γ [t0] [u0] T k S r1/\((r1=none/\r=none)\/∃T1 k1 S1,r1=some (T1,k1,S1)/\B7 m Γ [t1] [u1] T1 k1 S1 r):=by
 rw [B7] at h;rcases h with ⟨hI,rfl⟩ | ⟨τ,T2,k2,S2,hI,h⟩
 ·refine ⟨none,?_,.inl ⟨rfl,rfl⟩⟩;rw [B7];exact .inl ⟨hI,rfl⟩
 ·rcases h with ⟨hE,rfl⟩ | ⟨T3,hE,h⟩
  ·refine ⟨none,?_,.inl ⟨rfl,rfl⟩⟩;rw [B7];exact .inr ⟨τ,T2,k2,S2,hI,.inl ⟨hE,rfl⟩⟩
  ·refine ⟨some (T3,k2,S2),?_,.inr ⟨T3,k2,S2,rfl,h⟩⟩;rw [B7];exact .inr ⟨τ,T2,k2,S2,hI,.inr ⟨T3,hE,by simp only [B7]⟩⟩
theorem xU (m:Md) (Γ:Au) (n:Int) (x:Str) (t0:Tm) (ks:List Tm) (ps:List Ty) (T:List (Int×Ty)) (k:Int) (S:List Ty) (r:HC) (hk:0<=k/\k<=1000000) (h:B7 m Γ [t0] [Ir 5 (Ao k)] T (k+1) S r):Cu 206 m Γ (.mk 17 n x (t0::ks) ps) T k S (r.map λz=>(Ao k,z)):=by
 have hP:=Ka m Γ 17 n x t0 ks ps 5 T k S r hk h;unfold Cu;refine AQ Ah func206 rfl [5,6,4,7]<|Ai rfl ?_;cases r with
 | none =>
  exact Bg 3 [(1,1),(2,2),(3,3)] rfl (by simp) hP Ax rfl rfl rfl<|Bs 10 3 rfl
 | some z =>
  obtain ⟨T',k',S'⟩:=z;exact Jf [4] [(1,1),(2,2),(3,3)] [(4,4)] rfl hP Ax rfl rfl<|Ai rfl<|Ag ⟨_,BA⟩
theorem tH (m:Md) (Γ:Au) (n:Int) (x:Str) (t0:Tm) (ks:List Tm) (ps:List Ty) (T:List (Int×Ty)) (k:Int) (S:List Ty) (r:HC) (hk:0<=k/\k<=1000000) (h:B7 m Γ [t0] [Ir 7 (Ao k)] T (k+1) S r):Cu 209 m Γ (.mk 20 n x (t0::ks) ps) T k S (r.map λz=>(Ao k,z)):=by
 have hP:=Ka m Γ 20 n x t0 ks ps 7 T k S r hk h;unfold Cu;refine AQ Ah func209 rfl [5,6,4,7]<|Ai rfl ?_;cases r with
 | none =>
  exact Bg 3 [(1,1),(2,2),(3,3)] rfl (by simp) hP Ax rfl rfl rfl<|Bs 10 3 rfl
 | some z =>
  obtain ⟨T',k',S'⟩:=z;exact Jf [4] [(1,1),(2,2),(3,3)] [(4,4)] rfl hP Ax rfl rfl<|Ai rfl<|Ag ⟨_,BA⟩
theorem tC (m:Md) (Γ:Au) (n:Int) (x:Str) (t0:Tm) (ks:List Tm) (ps:List Ty) (T:List (Int×Ty)) (k:Int) (S:List Ty) (r:HC) (hk:0<=k/\k<=1000000) (h:B7 m Γ [t0] [Ir 6 (Ao k)] T (k+1) S r):Cu 212 m Γ (.mk 23 n x (t0::ks) ps) T k S (r.map λz=>(Ao k,z)):=by
 have hP:=Ka m Γ 23 n x t0 ks ps 6 T k S r hk h;unfold Cu;refine AQ Ah func212 rfl [5,6,4,7]<|Ai rfl ?_;cases r with
 | none =>
  exact Bg 3 [(1,1),(2,2),(3,3)] rfl (by simp) hP Ax rfl rfl rfl<|Bs 10 3 rfl
 | some z =>
  obtain ⟨T',k',S'⟩:=z;exact Jf [4] [(1,1),(2,2),(3,3)] [(4,4)] rfl hP Ax rfl rfl<|Ai rfl<|Ag ⟨_,BA⟩
theorem xS (m:Md) (Γ:Au) (n:Int) (x:Str) (t0 t1:Tm) (ks:List Tm) (ps:List Ty) (T:List (Int×Ty)) (k:Int) (S:List Ty) (r:HC) (hk:0<=k/\k<=1000000) (h:B7 m Γ [t0,t1] [Ir 5 (Ao k),Ao k] T (k+1) S r):Cu 207 m Γ (.mk 18 n x (t0::t1::ks) ps) T k S (r.map λz=>(Dm,z)):=by
 have hKd:=BC 3 [];have ht:(t0::t1::ks)[1]?=some t1:=rfl;obtain ⟨r1,hP,h⟩:=WS h;have hP:=Ka m Γ 18 n x t0 (t1::ks) ps 5 T k S r1 hk hP;unfold Cu;refine AQ Ah func207 rfl [5,6,8,7,4,9]<|Ai rfl ?_;rcases h with ⟨rfl,rfl⟩ | ⟨T1,k1,S1,rfl,h⟩
 ·exact Bg 3 [(1,1),(2,2),(3,3)] rfl (by simp) hP Ax rfl rfl rfl<|Bs 11 3 rfl
 ·rw [B7] at h;refine Jf [8] [(1,1),(2,2),(3,3)] [(4,8)] rfl hP Ax rfl rfl<|Ai rfl ?_;rcases h with ⟨hI,rfl⟩ | ⟨⟨τ1,τ2,τ3,τ4⟩,T2,k2,S2,hI,h⟩
  ·have hK:=CB (op:=18) (n:=n) (x:=x) (ps:=ps) ht hI;simp only [Dj] at hK;exact Bg 3 [(1,1),(2,2),(8,3)] rfl (by simp) hK Ax rfl rfl rfl<|Ai rfl<|Eh 16 (.imm (.tup [])) rfl DC (λx h=>by cases h)<|yg [] rfl (by simp;rfl)<|Bs 16 3 rfl
  ·have hK:=CB (op:=18) (n:=n) (x:=x) (ps:=ps) ht hI;simp only [Dj] at hK;refine A4 [(1,1),(2,2),(8,3)] [(4,4)] [] (fr:=[4]) (nm:=[1,2,4,1,2,8]) rfl trivial (by simp) hK Ax rfl trivial rfl rfl rfl<|Ai rfl ?_;rcases h with ⟨hE,rfl⟩ | ⟨T3,hE,h⟩
   ·unfold DL at hE;exact Bd [(1,1),(2,2),(4,3)] rfl (by simp) hE Ax rfl rfl rfl<|N0 1 rfl (by simp;rfl)<|By 18 rfl
   ·unfold Dk at hE;simp only [B7] at h;subst h;exact A4 [(1,1),(2,2),(4,3)] [] [] (fr:=[]) (nm:=[1,2,4,1,2,4]) rfl trivial (by simp) hE Ax rfl trivial rfl rfl rfl<|yg [] rfl (by simp;rfl)<|Ad rfl hKd<|Ai rfl<|Ag ⟨_,BA⟩
theorem tD (m:Md) (Γ:Au) (n:Int) (x:Str) (t0 t1:Tm) (ks:List Tm) (ps:List Ty) (T:List (Int×Ty)) (k:Int) (S:List Ty) (r:HC) (hk:0<=k/\k<=1000000) (h:B7 m Γ [t0,t1] [Ir 6 (Ao k),Ao k] T (k+1) S r):Cu 211 m Γ (.mk 22 n x (t0::t1::ks) ps) T k S (r.map λz=>(Dm,z)):=by
 have hKd:=BC 3 [];have ht:(t0::t1::ks)[1]?=some t1:=rfl;obtain ⟨r1,hP,h⟩:=WS h;have hP:=Ka m Γ 22 n x t0 (t1::ks) ps 6 T k S r1 hk hP;unfold Cu;refine AQ Ah func211 rfl [5,6,8,7,4,9]<|Ai rfl ?_;rcases h with ⟨rfl,rfl⟩ | ⟨T1,k1,S1,rfl,h⟩
 ·exact Bg 3 [(1,1),(2,2),(3,3)] rfl (by simp) hP Ax rfl rfl rfl<|Bs 11 3 rfl
 ·rw [B7] at h;refine Jf [8] [(1,1),(2,2),(3,3)] [(4,8)] rfl hP Ax rfl rfl<|Ai rfl ?_;rcases h with ⟨hI,rfl⟩ | ⟨⟨τ1,τ2,τ3,τ4⟩,T2,k2,S2,hI,h⟩
  ·have hK:=CB (op:=22) (n:=n) (x:=x) (ps:=ps) ht hI;simp only [Dj] at hK;exact Bg 3 [(1,1),(2,2),(8,3)] rfl (by simp) hK Ax rfl rfl rfl<|Ai rfl<|Eh 16 (.imm (.tup [])) rfl DC (λx h=>by cases h)<|yg [] rfl (by simp;rfl)<|Bs 16 3 rfl
  ·have hK:=CB (op:=22) (n:=n) (x:=x) (ps:=ps) ht hI;simp only [Dj] at hK;refine A4 [(1,1),(2,2),(8,3)] [(4,4)] [] (fr:=[4]) (nm:=[1,2,4,1,2,8]) rfl trivial (by simp) hK Ax rfl trivial rfl rfl rfl<|Ai rfl ?_;rcases h with ⟨hE,rfl⟩ | ⟨T3,hE,h⟩
   ·unfold DL at hE;exact Bd [(1,1),(2,2),(4,3)] rfl (by simp) hE Ax rfl rfl rfl<|N0 1 rfl (by simp;rfl)<|By 18 rfl
   ·unfold Dk at hE;simp only [B7] at h;subst h;exact A4 [(1,1),(2,2),(4,3)] [] [] (fr:=[]) (nm:=[1,2,4,1,2,4]) rfl trivial (by simp) hE Ax rfl trivial rfl rfl rfl<|yg [] rfl (by simp;rfl)<|Ad rfl hKd<|Ai rfl<|Ag ⟨_,BA⟩
theorem nT (m:Md) (Γ:Au) (n:Int) (x:Str) (t0:Tm) (ks:List Tm) (ps:List Ty) (T:List (Int×Ty)) (k:Int) (S:List Ty) (r:HC) (hk:0<=k/\k<=1000000) (h:B7 m Γ [t0] [Be Dm (Ao k)] T (k+1) S r):Cu 208 m Γ (.mk 19 n x (t0::ks) ps) T k S (r.map λz=>(Ir 7 (Ao k),z)):=by
 have hA:=HS m T k S hk;have hK3:=BC 3 [];have hK4:=BC 4 [Dm,Ao k];have hK7:=BC 7 [Ao k];have ht:(t0::ks)[0]?=some t0:=rfl;rw [B7] at h;unfold Cu;refine AQ Ah func208 rfl [5,6,8,4,7]<|Ai rfl<|Jf [] [(1,1),(2,2),(3,3)] [] rfl hA Ax rfl rfl<|Ai rfl ?_;rcases h with ⟨hI,rfl⟩ | ⟨⟨τ1,τ2,τ3,τ4⟩,T2,k2,S2,hI,h⟩
 ·have hK:=CB (op:=19) (n:=n) (x:=x) (ps:=ps) ht hI;simp only [Dj] at hK;exact Bg 3 [(1,1),(2,2),(3,3)] rfl (by simp) hK Ax rfl rfl rfl<|Ai rfl<|Ad rfl hK3<|Ai rfl<|Ad rfl hK4<|Ai rfl<|Eh 14 (.imm (.tup [])) rfl DC (λx h=>by cases h)<|yg [] rfl (by simp;rfl)<|Bs 14 3 rfl
 ·have hK:=CB (op:=19) (n:=n) (x:=x) (ps:=ps) ht hI;simp only [Dj] at hK;refine A4 [(1,1),(2,2),(3,3)] [(4,4)] [] (fr:=[4]) (nm:=[1,2,4,1,2,3]) rfl trivial (by simp) hK Ax rfl trivial rfl rfl rfl<|Ai rfl<|Ad rfl hK3<|Ai rfl<|Ad rfl hK4<|Ai rfl ?_;rcases h with ⟨hE,rfl⟩ | ⟨T3,hE,h⟩
  ·unfold DL at hE;exact Bd [(1,1),(2,2),(4,3)] rfl (by simp) hE Ax rfl rfl rfl<|N0 1 rfl (by simp;rfl)<|By 19 rfl
  ·unfold Dk at hE;simp only [B7] at h;subst h;exact A4 [(1,1),(2,2),(4,3)] [] [] (fr:=[]) (nm:=[1,2,4,1,2,4]) rfl trivial (by simp) hE Ax rfl trivial rfl rfl rfl<|yg [] rfl (by simp;rfl)<|Ad rfl hK7<|Ai rfl<|Ag ⟨_,BA⟩
theorem ZN (m:Md) (Γ:Au) (op n:Int) (x:Str) (ks:List Tm) (ps:List Ty) (T:List (Int×Ty)) (k:Int) (S:List Ty) (hk:0<=k/\k<=1000000):Cu 210 m Γ (.mk op n x ks ps) T k S (some (Ir 6 (Ao k),T,k+1,S)):=by
 have hA:=HS m T k S hk;have hKd:=BC 6 [Ao k];unfold Cu;exact AQ Ah func210 rfl [4,5,6,7]<|Ft 3 4 1 [.imm (.str m.name),.imm (.sl (m.datas.map BE)),.imm (.sl (m.funs.map Cg)),.mapr 2,.imm (.int .i64 (k)),.own 4 (dTys S).length] rfl rfl (by decide) ⟨.inl rfl,.inl rfl,.inl rfl,.inl rfl,.inl rfl,.inr ⟨_,rfl,rfl⟩,trivial⟩<|Av rfl<|Jf [] [(1,1),(2,2),(4,3)] [] rfl hA Ax rfl rfl<|Ai rfl<|Ad rfl hKd<|Ai rfl<|Ag ⟨_,BA⟩
theorem tJ (m:Md) (Γ:Au) (n:Int) (x:Str) (t0:Tm) (ks:List Tm) (ps:List Ty) (T:List (Int×Ty)) (k:Int) (S:List Ty) {r:Lc} (h:Ey m Γ t0 T k S r):Cu 205 m Γ (.mk 16 n x (t0::ks) ps) T k S (r.map λz=>(Ir 5 z.1,z.2)):=by
 have ht:(t0::ks)[0]?=some t0:=rfl;unfold Cu;refine AQ Ah func205 rfl [5,6,4,7]<|Ai rfl ?_;cases r with
 | none =>
  have hK:=CB (op:=16) (n:=n) (x:=x) (ps:=ps) ht h;simp only [Dj] at hK;exact Bg 3 [(1,1),(2,2),(3,3)] rfl (by simp) hK Ax rfl rfl rfl<|Bs 10 3 rfl
 | some z =>
  obtain ⟨⟨τ1,τ2,τ3,τ4⟩,T',k',S'⟩:=z;have hKd:=BC 5 [.mk τ1 τ2 τ3 τ4];have hK:=CB (op:=16) (n:=n) (x:=x) (ps:=ps) ht h;simp only [Dj] at hK;exact Jf [4] [(1,1),(2,2),(3,3)] [(4,4)] rfl hK Ax rfl rfl<|Ai rfl<|Ad rfl hKd<|Ai rfl<|Ag ⟨_,BA⟩
def ApO (m:Md) (Γ:Au) (t0 t1:Tm) (T:List (Int×Ty)) (k:Int) (S:List Ty) (r:Lc):Prop :=
 (Ey m Γ t0 T k S none/\r=none)\/∃τ T1 k1 S1,Ey m Γ t0 T k S (some (τ,T1,k1,S1))/\((Ey m Γ t1 T1 k1 S1 none/\r=none)\/∃a T2 k2 S2,Ey m Γ t1 T1 k1 S1 (some (a,T2,k2,S2))/\(0<=k2/\k2<=1000000) /\
  ((DL m T2 (k2+1) S2 τ (Be a (Ao k2))/\r=none)\/∃T3,Dk m T2 (k2+1) S2 τ (Be a (Ao k2)) T3/\r=some (Ao k2,T3,k2+1,S2)))
def LetO (m:Md) (Γ:Au) (x:Str) (t0 t1:Tm) (T:List (Int×Ty)) (k:Int) (S:List Ty) (r:Lc):Prop :=
 (Ey m Γ t0 T k S none/\r=none)\/∃τ T1 k1 S1,Ey m Γ t0 T k S (some (τ,T1,k1,S1))/\Ey m (Γ++[(x,τ)]) t1 T1 k1 S1 r
def IfO (m:Md) (Γ:Au) (t0 t1 t2:Tm) (T:List (Int×Ty)) (k:Int) (S:List Ty) (r:Lc):Prop :=
 (B7 m Γ [t0] [Ca] T k S none/\r=none)\/∃T1 k1 S1,B7 m Γ [t0] [Ca] T k S (some (T1,k1,S1))/\((Ey m Γ t1 T1 k1 S1 none/\r=none)\/∃τ T2 k2 S2,Ey m Γ t1 T1 k1 S1 (some (τ,T2,k2,S2)) /\
  ((Ey m Γ t2 T2 k2 S2 none/\r=none)\/∃a T3 k3 S3,Ey m Γ t2 T2 k2 S2 (some (a,T3,k3,S3))/\((DL m T3 k3 S3 τ a/\r=none)\/∃T4,Dk m T3 k3 S3 τ a T4/\r=some (τ,T4,k3,S3))))
theorem xV (m:Md) (Γ:Au) (n:Int) (x:Str) (t0:Tm) (ks:List Tm) (ps:List Ty) (T:List (Int×Ty)) (k:Int) (S:List Ty) (hk:0<=k/\k<=1000000) (hΓ:Γ.length<=1000000) {r:Lc} (h:Ey m (Γ++[(x,Ao k)]) t0 T (k+1) S r):Cu 196 m Γ (.mk 5 n x (t0::ks) ps) T k S (r.map λz=>(Be (Ao k) z.1,z.2)):=by
 have hA:=HS m T k S hk;have hW:=JZ Γ x (Ao k) hΓ;have ht:(t0::ks)[0]?=some t0:=rfl;unfold Cu;refine AQ Ah func196 rfl [5,6,7,4,8,9]<|Ai rfl<|Jf [] [(1,1),(2,2),(3,3)] [] rfl hA Ax rfl rfl<|Ai rfl<|Ad rfl hW<|Ai rfl ?_;cases r with
 | none =>
  have hK:=CB (op:=5) (n:=n) (x:=x) (ps:=ps) ht h;simp only [Dj] at hK;exact Bg 3 [(1,1),(2,2),(3,3)] rfl (by simp) hK Ax rfl rfl rfl<|yg [] rfl (by simp;rfl)<|Bs 18 3 rfl
 | some z =>
  obtain ⟨⟨τ1,τ2,τ3,τ4⟩,T',k',S'⟩:=z;have hKd:=BC 4 [Ao k,.mk τ1 τ2 τ3 τ4];have hK:=CB (op:=5) (n:=n) (x:=x) (ps:=ps) ht h;simp only [Dj] at hK;exact A4 [(1,1),(2,2),(3,3)] [(4,4)] [] (fr:=[4]) (nm:=[1,2,4,1,2,3]) rfl trivial (by simp) hK Ax rfl trivial rfl rfl rfl<|yg [] rfl (by simp;rfl)<|Ad rfl hKd<|Ai rfl<|Ag ⟨_,BA⟩
theorem nU (m:Md) (Γ:Au) (n:Int) (x:Str) (t0:Tm) (ks:List Tm) (ps:List Ty) (T:List (Int×Ty)) (k:Int) (S:List Ty) (hk:0<=k/\k<=1000000) (hΓ:Γ.length<=1000000) {r:HC} (h:B7 m (Γ++[(x,Be (Ao k) AU)]) [t0] [AU] T (k+1) S r):Cu 215 m Γ (.mk 27 n x (t0::ks) ps) T k S (r.map λz=>(Ao k,z)):=by
 have hA:=HS m T k S hk;have hK1:=BC 1 [];have hK4:=BC 4 [Ao k,AU];have hW:=JZ Γ x (Be (Ao k) AU) hΓ;have ht:(t0::ks)[0]?=some t0:=rfl;rw [B7] at h;unfold Cu;refine AQ Ah func215 rfl [5,6,7,4,8,9]<|Ai rfl<|Jf [] [(1,1),(2,2),(3,3)] [] rfl hA Ax rfl rfl<|Ai rfl<|Ad rfl hK1<|Ai rfl<|Ad rfl hK4<|Ai rfl<|Ad rfl hW<|Ai rfl ?_;rcases h with ⟨hI,rfl⟩ | ⟨⟨τ1,τ2,τ3,τ4⟩,T2,k2,S2,hI,h⟩
 ·have hK:=CB (op:=27) (n:=n) (x:=x) (ps:=ps) ht hI;simp only [Dj] at hK;exact Bg 3 [(1,1),(2,2),(3,3)] rfl (by simp) hK Ax rfl rfl rfl<|Ai rfl<|Ad rfl hK1<|Ai rfl<|Eh 21 (.imm (.tup [])) rfl DC (λx h=>by cases h)<|yg [] rfl (by simp;rfl)<|Bs 21 3 rfl
 ·have hK:=CB (op:=27) (n:=n) (x:=x) (ps:=ps) ht hI;simp only [Dj] at hK;refine A4 [(1,1),(2,2),(3,3)] [(4,4)] [] (fr:=[4]) (nm:=[1,2,4,1,2,3]) rfl trivial (by simp) hK Ax rfl trivial rfl rfl rfl<|Ai rfl<|Ad rfl hK1<|Ai rfl ?_;rcases h with ⟨hE,rfl⟩ | ⟨T3,hE,h⟩
  ·unfold DL at hE;exact Bd [(1,1),(2,2),(4,3)] rfl (by simp) hE Ax rfl rfl rfl<|N0 1 rfl (by simp;rfl)<|By 23 rfl
  ·unfold Dk at hE;simp only [B7] at h;subst h;exact A4 [(1,1),(2,2),(4,3)] [] [] (fr:=[]) (nm:=[1,2,4,1,2,4]) rfl trivial (by simp) hE Ax rfl trivial rfl rfl rfl<|yg [] rfl (by simp;rfl)<|Ag ⟨_,BA⟩
theorem MK (m:Md) (Γ:Au) (n:Int) (x:Str) (t0 t1:Tm) (ks:List Tm) (ps:List Ty) (T:List (Int×Ty)) (k:Int) (S:List Ty) (r:Lc) (h:ApO m Γ t0 t1 T k S r):Cu 197 m Γ (.mk 6 n x (t0::t1::ks) ps) T k S (r):=by
 have ht:(t0::t1::ks)[0]?=some t0:=rfl;have ht1:(t0::t1::ks)[1]?=some t1:=rfl;unfold Cu;refine AQ Ah func197 rfl [5,6,8,7,4,9,10]<|Ai rfl ?_;rcases h with ⟨hI,rfl⟩ | ⟨⟨τ1,τ2,τ3,τ4⟩,T1,k1,S1,hI,h⟩
 ·have hK:=CB (op:=6) (n:=n) (x:=x) (ps:=ps) ht hI;simp only [Dj] at hK;exact Bg 3 [(1,1),(2,2),(3,3)] rfl (by simp) hK Ax rfl rfl rfl<|Bs 13 3 rfl
 ·have hK:=CB (op:=6) (n:=n) (x:=x) (ps:=ps) ht hI;simp only [Dj] at hK;refine Jf [8] [(1,1),(2,2),(3,3)] [(4,8)] rfl hK Ax rfl rfl<|Ai rfl ?_;rcases h with ⟨hI2,rfl⟩ | ⟨⟨a1,a2,a3,a4⟩,T2,k2,S2,hI2,hk2,h⟩
  ·have hK2:=CB (op:=6) (n:=n) (x:=x) (ps:=ps) ht1 hI2;simp only [Dj] at hK2;exact Bg 3 [(1,1),(2,2),(8,3)] rfl (by simp) hK2 Ax rfl rfl rfl<|Bs 17 3 rfl
  ·have hA:=HS m T2 k2 S2 hk2;have hK4:=BC 4 [.mk a1 a2 a3 a4,Ao k2];have hK2:=CB (op:=6) (n:=n) (x:=x) (ps:=ps) ht1 hI2;simp only [Dj] at hK2;refine Jf [4] [(1,1),(2,2),(8,3)] [(4,4)] rfl hK2 Ax rfl rfl<|Ai rfl<|Jf [] [(1,1),(2,2),(4,3)] [] rfl hA Ax rfl rfl<|Ai rfl<|Ad rfl hK4<|Ai rfl ?_;rcases h with ⟨hE,rfl⟩ | ⟨T3,hE,rfl⟩
   ·unfold DL at hE;exact Bd [(1,1),(2,2),(4,3)] rfl (by simp) hE Ax rfl rfl rfl<|N0 1 rfl (by simp;rfl)<|By 26 rfl
   ·unfold Dk at hE;exact A4 [(1,1),(2,2),(4,3)] [] [] (fr:=[]) (nm:=[1,2,4,1,2,4]) rfl trivial (by simp) hE Ax rfl trivial rfl rfl rfl<|yg [] rfl (by simp;rfl)<|Ag ⟨_,BA⟩
theorem nX (m:Md) (Γ:Au) (n:Int) (x:Str) (t0 t1:Tm) (ks:List Tm) (ps:List Ty) (T:List (Int×Ty)) (k:Int) (S:List Ty) (r:Lc) (hΓ:Γ.length<=1000000) (h:LetO m Γ x t0 t1 T k S r):Cu 198 m Γ (.mk 7 n x (t0::t1::ks) ps) T k S (r):=by
 have ht:(t0::t1::ks)[0]?=some t0:=rfl;have ht1:(t0::t1::ks)[1]?=some t1:=rfl;unfold Cu;refine AQ Ah func198 rfl [5,6,8,7,4,9,10]<|Ai rfl ?_;rcases h with ⟨hI,rfl⟩ | ⟨⟨τ1,τ2,τ3,τ4⟩,T1,k1,S1,hI,h⟩
 ·have hK:=CB (op:=7) (n:=n) (x:=x) (ps:=ps) ht hI;simp only [Dj] at hK;exact Bg 3 [(1,1),(2,2),(3,3)] rfl (by simp) hK Ax rfl rfl rfl<|Bs 11 3 rfl
 ·have hW:=JZ Γ x (.mk τ1 τ2 τ3 τ4) hΓ;have hK:=CB (op:=7) (n:=n) (x:=x) (ps:=ps) ht hI;simp only [Dj] at hK;refine Jf [8] [(1,1),(2,2),(3,3)] [(4,8)] rfl hK Ax rfl rfl<|Ai rfl<|Ad rfl hW<|Ai rfl ?_;cases r with
  | none =>
   have hK2:=CB (op:=7) (n:=n) (x:=x) (ps:=ps) ht1 h;simp only [Dj] at hK2;exact Bg 3 [(1,1),(2,2),(8,3)] rfl (by simp) hK2 Ax rfl rfl rfl<|yg [] rfl (by simp;rfl)<|Bs 19 3 rfl
  | some z =>
   obtain ⟨⟨a1,a2,a3,a4⟩,T',k',S'⟩:=z;have hK2:=CB (op:=7) (n:=n) (x:=x) (ps:=ps) ht1 h;simp only [Dj] at hK2;exact A4 [(1,1),(2,2),(8,3)] [(4,4)] [] (fr:=[4]) (nm:=[1,2,4,1,2,8]) rfl trivial (by simp) hK2 Ax rfl trivial rfl rfl rfl<|yg [] rfl (by simp;rfl)<|Ag ⟨_,BA⟩
theorem WR (m:Md) (Γ:Au) (n:Int) (x:Str) (t0 t1 t2:Tm) (ks:List Tm) (ps:List Ty) (T:List (Int×Ty)) (k:Int) (S:List Ty) (r:Lc) (h:IfO m Γ t0 t1 t2 T k S r):Cu 199 m Γ (.mk 8 n x (t0::t1::t2::ks) ps) T k S (r):=by
 have ht:(t0::t1::t2::ks)[0]?=some t0:=rfl;have ht1:(t0::t1::t2::ks)[1]?=some t1:=rfl;have ht2:(t0::t1::t2::ks)[2]?=some t2:=rfl;have hKb:=BC 2 [];unfold Cu;refine AQ Ah func199 rfl [5,6,8,9,7,4,10]<|Ai rfl ?_;rcases h with ⟨h,rfl⟩ | ⟨T1,k1,S1,h,h'⟩
 ·rw [B7] at h;rcases h with ⟨hI,_⟩ | ⟨⟨τ1,τ2,τ3,τ4⟩,T2,k2,S2,hI,h⟩
  ·have hK:=CB (op:=8) (n:=n) (x:=x) (ps:=ps) ht hI;simp only [Dj] at hK;exact Bg 3 [(1,1),(2,2),(3,3)] rfl (by simp) hK Ax rfl rfl rfl<|Bs 12 3 rfl
  ·have hK:=CB (op:=8) (n:=n) (x:=x) (ps:=ps) ht hI;simp only [Dj] at hK;refine Jf [8] [(1,1),(2,2),(3,3)] [(4,8)] rfl hK Ax rfl rfl<|Ai rfl<|Ad rfl hKb<|Ai rfl ?_;rcases h with ⟨hE,_⟩ | ⟨T3,hE,h⟩
   ·unfold DL at hE;exact Bd [(1,1),(2,2),(8,3)] rfl (by simp) hE Ax rfl rfl rfl<|By 14 rfl
   ·simp only [B7] at h;cases h
 ·rw [B7] at h;rcases h with ⟨_,h⟩ | ⟨⟨τ1,τ2,τ3,τ4⟩,T2,k2,S2,hI,h⟩
  ·cases h
  rcases h with ⟨_,h⟩ | ⟨T3,hE,h⟩
  ·cases h
  simp only [B7] at h;cases h;unfold Dk at hE;have hK:=CB (op:=8) (n:=n) (x:=x) (ps:=ps) ht hI;simp only [Dj] at hK;refine Jf [8] [(1,1),(2,2),(3,3)] [(4,8)] rfl hK Ax rfl rfl<|Ai rfl<|Ad rfl hKb<|Ai rfl<|Jf [] [(1,1),(2,2),(8,3)] [] rfl hE Ax rfl rfl<|Ai rfl ?_;rcases h' with ⟨hI2,rfl⟩ | ⟨⟨a1,a2,a3,a4⟩,T4,k4,S4,hI2,h⟩
  ·have hK2:=CB (op:=8) (n:=n) (x:=x) (ps:=ps) ht1 hI2;simp only [Dj] at hK2;exact Bg 3 [(1,1),(2,2),(8,3)] rfl (by simp) hK2 Ax rfl rfl rfl<|Bs 18 3 rfl
  ·have hK2:=CB (op:=8) (n:=n) (x:=x) (ps:=ps) ht1 hI2;simp only [Dj] at hK2;refine Jf [9] [(1,1),(2,2),(8,3)] [(4,9)] rfl hK2 Ax rfl rfl<|Ai rfl ?_;rcases h with ⟨hI3,rfl⟩ | ⟨⟨c1,c2,c3,c4⟩,T5,k5,S5,hI3,h⟩
   ·have hK3:=CB (op:=8) (n:=n) (x:=x) (ps:=ps) ht2 hI3;simp only [Dj] at hK3;exact Bg 3 [(1,1),(2,2),(9,3)] rfl (by simp) hK3 Ax rfl rfl rfl<|Ai rfl<|Eh 24 (.imm (.tup [])) rfl DC (λx h=>by cases h)<|yg [] rfl (by simp;rfl)<|Bs 24 3 rfl
   ·have hK3:=CB (op:=8) (n:=n) (x:=x) (ps:=ps) ht2 hI3;simp only [Dj] at hK3;refine A4 [(1,1),(2,2),(9,3)] [(4,4)] [] (fr:=[4]) (nm:=[1,2,4,1,2,9]) rfl trivial (by simp) hK3 Ax rfl trivial rfl rfl rfl<|Ai rfl ?_;rcases h with ⟨hE2,rfl⟩ | ⟨T6,hE2,rfl⟩
    ·unfold DL at hE2;exact Bd [(1,1),(2,2),(4,3)] rfl (by simp) hE2 Ax rfl rfl rfl<|N0 1 rfl (by simp;rfl)<|By 25 rfl
    ·unfold Dk at hE2;exact A4 [(1,1),(2,2),(4,3)] [] [] (fr:=[]) (nm:=[1,2,4,1,2,4]) rfl trivial (by simp) hE2 Ax rfl trivial rfl rfl rfl<|yg [] rfl (by simp;rfl)<|Ag ⟨_,BA⟩
theorem tF (m:Md) (Γ:Au) (n:Int) (x:Str) (ks:List Tm) (ps:List Ty) (T:List (Int×Ty)) (k:Int) (S:List Ty):Cu 195 m Γ (.mk 4 n x ks ps) T k S ((CM m Γ x).map λτ=>(τ,T,k,S)):=by
 obtain ⟨m1,ds,fs⟩:=m;unfold Cu;refine AQ Ah func195 rfl [4,5,6,7,8]<|Ft 3 4 1 [.imm (.str m1),.imm (.sl (ds.map BE)),.imm (.sl (fs.map Cg)),.mapr 2,.imm (.int .i64 k),.own 4 (dTys S).length] rfl rfl (by decide) ⟨.inl rfl,.inl rfl,.inl rfl,.inl rfl,.inl rfl,.inr ⟨_,rfl,rfl⟩,trivial⟩<|FN (t:=2) rfl λhv=>?_;simp [Ez,maxLen,A0] at hv;refine Av rfl<|Ak (λj:Nat=>[(7,.imm (.int .i64 ((j:Int)-1))),(0,.ref 1 0),(2,.imm (.sl (A0 Γ))),(4,.ref 5 0),(6,.ref 6 0)]) (λ_=>(5,some (.immb 49 5 (Al (.mk 4 n x ks ps))))::(6,some (.cells 25 4 [.imm (.int .i64 0),.imm (.int .i64 0),.imm (.str []),.nils]))::U0 ⟨m1,ds,fs⟩ T k S) [7,8] (λj=>j)
  (λj=>j<=Γ.length/\LP Γ x=LP (Γ.take j) x) Γ.length
  ⟨BL _,by rw [E0]⟩ ⟨A8 (by simp [A0];exact BW (by omega) (by omega)),BJ⟩ BA rfl λj hj jh=>?_
 refine Av rfl<|Aa rfl (λh=>?_) (λh=>?_)
 ·have h1:1<=j:=by simp at h;omega
  obtain ⟨i,rfl⟩:∃i,j=i+1:=⟨j-1,by omega⟩
  obtain ⟨p,hp⟩:=Am (l:=Γ) (i:=i) (by omega);have hg:=Ni hp;have hlk:=hj.2;rw [Bk hp,QU] at hlk;obtain ⟨y,u1,u2,u3,u4⟩:=p;refine Av rfl<|yi rfl (c:=Vw (y,.mk u1 u2 u3 u4)) (λ_=>⟨by simp,by simpa using hg,by simp⟩) (by simp)<|yg [] rfl (by simp;rfl)<|Aa rfl (λh2=>?_) (λh2=>?_)
  ·have hx:y=x:=by simpa using h2
   rw [if_pos hx] at hlk;have hr:CM ⟨m1,ds,fs⟩ Γ x=some (.mk u1 u2 u3 u4):=by simp only [CM,hlk]
   rw [hr];exact Av rfl<|yi rfl (c:=Vw (y,.mk u1 u2 u3 u4)) (λ_=>⟨by simp,by simpa using hg,by simp⟩) (by simp)<|Ai rfl<|Ag ⟨_,BA⟩
  ·have hx:y≠x:=by simpa using h2
   rw [if_neg hx] at hlk;exact Av rfl<|Ae (jh i (by omega) ⟨by omega,hlk⟩) ⟨A8 (by rw [BW (by omega) (by omega)];omega),BJ⟩ BA rfl
 ·have h1:j=0:=by simp at h;omega
  subst h1;have hlk:LP Γ x=none:=hj.2;clear hj jh;refine At rfl<|Av rfl<|FN (t:=34) rfl λhv2=>?_;simp [Ez,maxLen] at hv2;refine Ak (λi:Nat=>[(36,.imm (.int .i64 i)),(35,.imm (.int .i64 fs.length)),(34,.imm (.sl (fs.map Cg))),(4,.ref 5 0),(6,.ref 6 0)]) (λ_=>(5,some (.immb 49 5 (Al (.mk 4 n x ks ps))))::(6,some (.cells 25 4 [.imm (.int .i64 0),.imm (.int .i64 0),.imm (.str []),.nils]))::U0 ⟨m1,ds,fs⟩ T k S) [7,8] (λi=>fs.length-i)
   (λi=>i<=fs.length/\MV fs x=MV (fs.drop i) x) 0
   ⟨AF _,rfl⟩ ⟨rfl,A8 (by simp),AH⟩ BA rfl λi hi ih=>?_
  refine Av rfl<|Aa rfl (λh=>?_) (λh=>?_)
  ·have hlt:i<fs.length:=by simp at h;omega
   obtain ⟨f,hf⟩:=Am hlt;have hg:=HZ hf;have hft:=hi.2;rw [TK hf] at hft;have hF:=BC 4 [f.from_,f.to_];obtain ⟨f1,f2,⟨a1,a2,a3,a4⟩,⟨b1,b2,b3,b4⟩,⟨c1,c2,c3,c4,c5⟩⟩:=f;simp only at hft hF;refine Av rfl<|yi rfl (c:=Cg ⟨f1,f2,⟨a1,a2,a3,a4⟩,⟨b1,b2,b3,b4⟩,⟨c1,c2,c3,c4,c5⟩⟩) (λ_=>⟨by simp,by simpa using hg,by simp [Cg]⟩) (by simp)<|Ai rfl<|Aa rfl (λh2=>?_) (λh2=>?_)
   ·have hx:f1=x:=by simpa using h2
    rw [if_pos hx] at hft;have hr:CM ⟨m1,ds,fs⟩ Γ x=some (Be (.mk a1 a2 a3 a4) (.mk b1 b2 b3 b4)):=by simp only [CM,hlk,hft]
    rw [hr];exact Av rfl<|Ad rfl hF<|Ai rfl<|Ag ⟨_,BA⟩
   ·have hx:f1≠x:=by simpa using h2
    rw [if_neg hx] at hft;exact Av rfl<|Ae (ih (i+1) (by omega) ⟨by omega,hft⟩) ⟨M6,BJ⟩ BA rfl
  ·have hlt:¬i<fs.length:=by simp at h;omega
   have hft:=hi.2;rw [Bh (by omega)] at hft;have hr:CM ⟨m1,ds,fs⟩ Γ x=none:=by simp only [CM,hlk,hft];rfl
   rw [hr];exact At rfl<|Av rfl<|IK rfl rfl rfl rfl
def YO (m:Md) (T:List (Int×Ty)) (k:Int) (S:List Ty):Option (Cd×Str)->Out
 | some (c,y)=>.ret (.imm (.tup [.agg (CK c),.agg (dTyc (Bx y))])) (CI m T k S)
 | none=>.pan Gn
theorem iX {l:List Dt} {i:Nat} {d:Dt} (h:l[i]?=some d) (x:Str):Fj (l.drop i) x=match Ju d.cons x with
 | some c=>some (c,d.name)
 | none=>Fj (l.drop (i+1)) x:=by rw [As h];rfl
theorem KB (m:Md) (x:Str) (T:List (Int×Ty)) (k:Int) (S:List Ty):Tq4 262 [.ref 1 0,.imm (.str x)] (CI m T k S) (YO m T k S (Fj m.datas x)):=by
 obtain ⟨m1,ds,fs⟩:=m;refine AQ Ah func262 rfl [5,6,7,8,9]<|Ai rfl<|FN (t:=14) rfl λhv=>?_;simp [Ez,maxLen] at hv;refine Ak (λi:Nat=>[(16,.imm (.int .i64 i)),(15,.imm (.int .i64 ds.length)),(14,.imm (.sl (ds.map BE))),(1,.imm (.str x)),(4,.ref 5 0),(5,.ref 6 0)]) (λ_=>(5,some (.cells 178 2 [.imm (.str []),.nils]))::(6,some (.cells 25 4 [.imm (.int .i64 0),.imm (.int .i64 0),.imm (.str []),.nils]))::CI ⟨m1,ds,fs⟩ T k S) [7,8,9] (λi=>ds.length-i)
  (λi=>i<=ds.length/\Fj ds x=Fj (ds.drop i) x) 0
  ⟨AF _,rfl⟩ ⟨rfl,A8 (by simp),BJ⟩ BA rfl λi hi ih=>?_
 refine Av rfl<|Aa rfl (λh=>?_) (λh=>?_)
 ·have hlt:i<ds.length:=by simp at h;omega
  obtain ⟨d,hd⟩:=Am hlt;have hg:=GZ hd;have hcd:=hi.2;rw [iX hd] at hcd;obtain ⟨d1,cs⟩:=d;simp only at hcd;refine Av rfl<|yi rfl (c:=BE ⟨d1,cs⟩) (λ_=>⟨by simp,by simpa using hg,by simp [BE]⟩) (by simp)<|Ai rfl<|FN (t:=21) rfl λhv2=>?_;simp [Ez,maxLen] at hv2
  refine Ak (λj:Nat=>[(23,.imm (.int .i64 j)),(22,.imm (.int .i64 cs.length)),(21,.imm (.sl (cs.map CK))),(7,.ref 7 0),(16,.imm (.int .i64 i)),(15,.imm (.int .i64 ds.length)),(14,.imm (.sl (ds.map BE))),(1,.imm (.str x)),(4,.ref 5 0),(5,.ref 6 0)]) (λ_=>(7,some (.immb 113 2 (BE ⟨d1,cs⟩)))::(5,some (.cells 178 2 [.imm (.str []),.nils]))::(6,some (.cells 25 4 [.imm (.int .i64 0),.imm (.int .i64 0),.imm (.str []),.nils]))::CI ⟨m1,ds,fs⟩ T k S) [8,9] (λj=>cs.length-j)
   (λj=>j<=cs.length/\Ju cs x=Ju (cs.drop j) x) 0
   ⟨AF _,rfl⟩ ⟨rfl,A8 (by simp),Mr⟩ GE rfl λj hj jh=>?_
  refine Av rfl<|Aa rfl (λh=>?_) (λh=>?_)
  ·have hlt2:j<cs.length:=by simp at h;omega
   obtain ⟨c,hc⟩:=Am hlt2;have hgc:=Nj hc;have hcl:=hj.2;rw [Ub hc] at hcl;obtain ⟨c1,ag⟩:=c;simp only at hcl;refine Av rfl<|yi rfl (c:=CK ⟨c1,ag⟩) (λ_=>⟨by simp,by simpa using hgc,by simp [CK]⟩) (by simp)<|Ai rfl<|Aa rfl (λh2=>?_) (λh2=>?_)
   ·have hx:c1=x:=by simpa using h2
    rw [if_pos hx] at hcl;have hr:Fj ds x=some (⟨c1,ag⟩,d1):=by rw [hcd,hcl]
    simp only [hr];exact yd [] rfl (by simp;rfl)<|Ag ⟨_,BA⟩
   ·have hx:c1≠x:=by simpa using h2
    rw [if_neg hx] at hcl;exact Av rfl<|Ae (jh (j+1) (by omega) ⟨by omega,hcl⟩) ⟨M6,Y0⟩ GE rfl
  ·have hlt2:¬j<cs.length:=by simp at h;omega
   have hcl:=hj.2;rw [Bh (by omega)] at hcl;have hcl:Ju cs x=none:=hcl;rw [hcl] at hcd;simp only at hcd;exact At rfl<|Av rfl<|Ae (ih (i+1) (by omega) ⟨by omega,hcd⟩) ⟨M6,BA⟩ BA rfl
 ·have hlt:¬i<ds.length:=by simp at h;omega
  have hcd:=hi.2;rw [Bh (by omega)] at hcd;have hr:Fj ds x=none:=hcd;simp only [hr];exact At rfl<|Av rfl<|IK rfl rfl rfl rfl
theorem zbk (m:Md) (Γ:Au) (n:Int) (x:Str) (ks:List Tm) (ps:List Ty) (T:List (Int×Ty)) (k:Int) (S:List Ty) (h:Fj m.datas x=none\/∃c y,Fj m.datas x=some (c,y)/\c.args.length≠ks.length):Cu 203 m Γ (.mk 14 n x ks ps) T k S none:=by
 have hF:=KB m x T k S;unfold Cu;refine AQ Ah func203 rfl [5,6,7,8,4,9]<|Ai rfl ?_;rcases h with h | ⟨c,y,h,hl⟩
 ·rw [h] at hF;simp only [YO] at hF;exact Bg 1 [(1,1),(2,2),(3,3)] rfl (by simp) hF Ax rfl rfl rfl<|Bs 15 1 rfl
 ·rw [h] at hF;obtain ⟨c1,ag⟩:=c;simp only [YO] at hF;exact Jf [] [(1,1),(2,2),(3,3)] [] rfl hF Ax rfl rfl<|Ai rfl<|Bd [] rfl (by simp) (I7 _ (by simp at hl ⊢;omega)) trivial rfl rfl rfl<|By 25 rfl
theorem xW (m:Md) (Γ:Au) (n:Int) (x:Str) (ks:List Tm) (ps:List Ty) (T:List (Int×Ty)) (k:Int) (S:List Ty) (r:HC) (c:Cd) (y:Str) (hC:Fj m.datas x=some (c,y)) (hl:c.args.length=ks.length) (h:B7 m Γ ks c.args T k S r):Cu 203 m Γ (.mk 14 n x ks ps) T k S (r.map λz=>(Bx y,z)):=by
 have hF:=KB m x T k S;rw [hC] at hF;obtain ⟨c1,ag⟩:=c;simp only [YO] at hF;simp only at hl h;have hwt:Tq3 117 [.bool (((dTys ag).length:Int) == (Dq ks).length)] (.tup []):=by
  rw [show (((dTys ag).length:Int) == (Dq ks).length)=true by simp;omega];exact Fx
 unfold Cu;refine AQ Ah func203 rfl [5,6,7,8,4,9,10,11]<|Ai rfl<|Jf [] [(1,1),(2,2),(3,3)] [] rfl hF Ax rfl rfl<|Ai rfl<|Ad rfl hwt<|Ai rfl<|Ft 3 4 1 [.imm (.str m.name),.imm (.sl (m.datas.map BE)),.imm (.sl (m.funs.map Cg)),.mapr 2,.imm (.int .i64 (k)),.own 4 (dTys S).length] rfl rfl (by decide) ⟨.inl rfl,.inl rfl,.inl rfl,.inl rfl,.inl rfl,.inr ⟨_,rfl,rfl⟩,trivial⟩<|FN (t:=27) rfl λhv=>?_;simp [Ez,maxLen] at hv
 refine Ak (λz:Nat×List (Int×Ty)×Int×List Ty=>[(29,.imm (.int .i64 z.1)),(28,.imm (.int .i64 ag.length)),(27,.imm (.sl (dTys ag))),(0,.ref 1 0),(2,.imm (.sl (A0 Γ))),(4,.ref 5 0),(6,.ref 6 0),(8,.ref 8 0)]) (λz=>(5,some (.immb 49 5 (Al (.mk 14 n x ks ps))))::(6,some (.cells 25 4 [.imm (.int .i64 0),.imm (.int .i64 0),.imm (.str []),.nils]))::(8,some (.immb 25 4 (dTyc (Bx y))))::U0 m z.2.1 z.2.2.1 z.2.2.2) [9,10,11] (λz=>ag.length-z.1)
  (λz=>z.1<=ag.length/\B7 m Γ (ks.drop z.1) (ag.drop z.1) z.2.1 z.2.2.1 z.2.2.2 r) (0,T,k,S)
  ⟨AF _,h⟩ ⟨rfl,A8 (by simp),GE⟩ GE rfl λz hz ih=>?_
 clear h;obtain ⟨j,T1,k1,S1⟩:=z;obtain ⟨hj1,hj2⟩:=hz;simp only at hj1 hj2 ih;refine Av rfl<|Aa rfl (λh'=>?_) (λh'=>?_)
 ·have hlt:j<ag.length:=by simp at h';omega
  obtain ⟨u,hu⟩:=Am hlt;obtain ⟨t,ht⟩:=Am (l:=ks) (i:=j) (by omega);have hgu:=AA hu;rw [As ht,As hu,B7] at hj2;obtain ⟨u1,u2,u3,u4⟩:=u;refine Av rfl<|HA rfl hgu<|Ai rfl ?_;rcases hj2 with ⟨hI,rfl⟩ | ⟨⟨τ1,τ2,τ3,τ4⟩,T2,k2,S2,hI,hj2⟩
  ·have hK:=CB (op:=14) (n:=n) (x:=x) (ps:=ps) ht hI;simp only [Dj] at hK;exact Bg 3 [(1,1),(2,2),(4,3)] rfl (by simp) hK Ax rfl rfl rfl<|Ai rfl<|Eh 39 (.imm (.tup [])) rfl DC (λx h=>by cases h)<|yg [] rfl (by simp;rfl)<|Bs 39 3 rfl
  ·have hK:=CB (op:=14) (n:=n) (x:=x) (ps:=ps) ht hI;simp only [Dj] at hK;refine A4 [(1,1),(2,2),(4,3)] [(4,10)] [] (fr:=[10]) (nm:=[1,2,10,1,2,4]) rfl trivial (by simp) hK Ax rfl trivial rfl rfl rfl<|Ai rfl ?_;rcases hj2 with ⟨hE,rfl⟩ | ⟨T3,hE,hj2⟩
   ·unfold DL at hE;exact Bd [(1,1),(2,2),(10,3)] rfl (by simp) hE Ax rfl rfl rfl<|N0 1 rfl (by simp;rfl)<|By 41 rfl
   ·unfold Dk at hE;exact A4 [(1,1),(2,2),(10,3)] [] [] (fr:=[]) (nm:=[1,2,10,1,2,10]) rfl trivial (by simp) hE Ax rfl trivial rfl rfl rfl<|yg [] rfl (by simp;rfl)<|Bo 10 4 rfl<|Ae (ih (j+1,T3,k2,S2) (by simp only;omega) ⟨by simp only;omega,hj2⟩) ⟨M6,F6⟩ GE rfl
 ·have hlt:¬j<ag.length:=by simp at h';omega
  rw [Bh (by omega:ks.length<=j)] at hj2;simp only [B7] at hj2;subst hj2;exact At rfl<|Av rfl<|Ag ⟨_,BA⟩
theorem fZ (m:Md) (Γ:Au) (n:Int) (x:Str) (ps:List Ty) (τ:Ty) (T:List (Int×Ty)) (k:Int) (S:List Ty) (hΓ:Γ.length<=1000000):GB m Γ (.mk 2 n x ps) τ T k S (some (Γ++[(x,τ)],T)):=by
 have hW:=JZ Γ x τ hΓ;obtain ⟨τ1,τ2,τ3,τ4⟩:=τ;unfold GB;exact AQ Ah func263 rfl [5,6,7,8]<|yg [.a] rfl (by simp)<|Ad rfl hW<|Ai rfl<|Ag ⟨_,BA⟩
theorem nW (m:Md) (Γ:Au) (f n:Int) (x:Str) (ps:List Ty) (τ:Ty) (T:List (Int×Ty)) (k:Int) (S:List Ty) (hf:f≠2/\f≠3/\f≠4/\f≠5/\f≠6):GB m Γ (.mk f n x ps) τ T k S (some (Γ,T)):=by
 obtain ⟨τ1,τ2,τ3,τ4⟩:=τ;unfold GB;refine AQ Ah func263 rfl [5,6,7,8]<|Ai rfl<|Aa rfl (λh=>by exfalso;simp at h;omega) (λh=>?_);refine Av rfl<|Aa rfl (λh=>by exfalso;simp at h;omega) (λh=>?_);refine Av rfl<|Aa rfl (λh=>by exfalso;simp at h;omega) (λh=>?_);refine Av rfl<|Aa rfl (λh=>by exfalso;simp at h;omega) (λh=>?_);refine Av rfl<|Aa rfl (λh=>by exfalso;simp at h;omega) (λh=>?_);exact Av rfl<|Ag ⟨_,BA⟩
theorem gC (m:Md) (Γ:Au) (n:Int) (x:Str) (ps:List Ty) (τ:Ty) (T:List (Int×Ty)) (k:Int) (S:List Ty) (r:Option (List (Int×Ty))) (h:vE m T k S τ (NW 3) r):GB m Γ (.mk 3 n x ps) τ T k S (r.map λT'=>(Γ,T')):=by
 have hKd:=BC 1 [];obtain ⟨τ1,τ2,τ3,τ4⟩:=τ;unfold GB;refine AQ Ah func263 rfl [5,6,7,8]<|yg [.a,.a] rfl (by simp)<|Ad rfl hKd<|Ai rfl ?_;cases r with
 | none =>
  have h:DL m T k S _ (.mk 1 0 [] []):=h;unfold DL at h;exact Bd [(1,1),(2,2),(3,3)] rfl (by simp) h Ax rfl rfl rfl<|N0 1 rfl (by simp;rfl)<|By 27 rfl
 | some T' =>
  have h:Dk m T k S _ (.mk 1 0 [] []) T':=h;unfold Dk at h;exact A4 [(1,1),(2,2),(3,3)] [] [] (fr:=[]) (nm:=[1,2,3,1,2,3]) rfl trivial (by simp) h Ax rfl trivial rfl rfl rfl<|yg [] rfl (by simp;rfl)<|Ag ⟨_,BA⟩
theorem gB (m:Md) (Γ:Au) (n:Int) (x:Str) (ps:List Ty) (τ:Ty) (T:List (Int×Ty)) (k:Int) (S:List Ty) (r:Option (List (Int×Ty))) (h:vE m T k S τ (NW 4) r):GB m Γ (.mk 4 n x ps) τ T k S (r.map λT'=>(Γ,T')):=by
 have hKd:=BC 2 [];obtain ⟨τ1,τ2,τ3,τ4⟩:=τ;unfold GB;refine AQ Ah func263 rfl [5,6,7,8]<|yg [.a,.a,.a] rfl (by simp)<|Ad rfl hKd<|Ai rfl ?_;cases r with
 | none =>
  have h:DL m T k S _ (.mk 2 0 [] []):=h;unfold DL at h;exact Bd [(1,1),(2,2),(3,3)] rfl (by simp) h Ax rfl rfl rfl<|N0 1 rfl (by simp;rfl)<|By 33 rfl
 | some T' =>
  have h:Dk m T k S _ (.mk 2 0 [] []) T':=h;unfold Dk at h;exact A4 [(1,1),(2,2),(3,3)] [] [] (fr:=[]) (nm:=[1,2,3,1,2,3]) rfl trivial (by simp) h Ax rfl trivial rfl rfl rfl<|yg [] rfl (by simp;rfl)<|Ag ⟨_,BA⟩
theorem gA (m:Md) (Γ:Au) (n:Int) (x:Str) (ps:List Ty) (τ:Ty) (T:List (Int×Ty)) (k:Int) (S:List Ty) (r:Option (List (Int×Ty))) (h:vE m T k S τ (NW 5) r):GB m Γ (.mk 5 n x ps) τ T k S (r.map λT'=>(Γ,T')):=by
 have hKd:=BC 3 [];obtain ⟨τ1,τ2,τ3,τ4⟩:=τ;unfold GB;refine AQ Ah func263 rfl [5,6,7,8]<|yg [.a,.a,.a,.a] rfl (by simp)<|Ad rfl hKd<|Ai rfl ?_;cases r with
 | none =>
  have h:DL m T k S _ (.mk 3 0 [] []):=h;unfold DL at h;exact Bd [(1,1),(2,2),(3,3)] rfl (by simp) h Ax rfl rfl rfl<|N0 1 rfl (by simp;rfl)<|By 39 rfl
 | some T' =>
  have h:Dk m T k S _ (.mk 3 0 [] []) T':=h;unfold Dk at h;exact A4 [(1,1),(2,2),(3,3)] [] [] (fr:=[]) (nm:=[1,2,3,1,2,3]) rfl trivial (by simp) h Ax rfl trivial rfl rfl rfl<|yg [] rfl (by simp;rfl)<|Ag ⟨_,BA⟩
theorem Lr (m:Md) (Γ:Au) (n:Int) (x:Str) (ps:List Ty) (τ:Ty) (T:List (Int×Ty)) (k:Int) (S:List Ty) (h:Fj m.datas x=none\/∃c y,Fj m.datas x=some (c,y)/\c.args.length≠ps.length):GB m Γ (.mk 6 n x ps) τ T k S none:=by
 have hF:=KB m x T k S;obtain ⟨τ1,τ2,τ3,τ4⟩:=τ;unfold GB;refine AQ Ah func263 rfl [5,6,7,8,9]<|yg (Qy 4 [.a]) rfl (by simp) ?_;rcases h with h | ⟨c,y,h,hl⟩
 ·rw [h] at hF;simp only [YO] at hF;exact Bg 1 [(1,1),(2,2),(3,3)] rfl (by simp) hF Ax rfl rfl rfl<|Bs 46 1 rfl
 ·rw [h] at hF;obtain ⟨c1,ag⟩:=c;simp only [YO] at hF;exact Jf [] [(1,1),(2,2),(3,3)] [] rfl hF Ax rfl rfl<|Ai rfl<|Bd [] rfl (by simp) (I7 _ (by simp at hl ⊢;omega)) trivial rfl rfl rfl<|By 56 rfl
theorem WN (m:Md) (Γ:Au) (n:Int) (x:Str) (ps:List Ty) (τ:Ty) (T:List (Int×Ty)) (k:Int) (S:List Ty) (r:Option (Au×List (Int×Ty))) (c:Cd) (y:Str) (hC:Fj m.datas x=some (c,y)) (hl:c.args.length=ps.length)
  (h:(DL m T k S τ (Bx y)/\r=none)\/∃T1,Dk m T k S τ (Bx y) T1/\Nw m k S ps c.args Γ T1 r):GB m Γ (.mk 6 n x ps) τ T k S r:=by
 have hF:=KB m x T k S;rw [hC] at hF;obtain ⟨c1,ag⟩:=c;simp only [YO] at hF;simp only at hl h;have hwt:Tq3 117 [.bool (((dTys ag).length:Int) == (dTys ps).length)] (.tup []):=by
  rw [show (((dTys ag).length:Int) == (dTys ps).length)=true by simp;omega];exact Fx
 obtain ⟨τ1,τ2,τ3,τ4⟩:=τ;unfold GB;refine AQ Ah func263 rfl [5,6,7,8,9,10]<|yg (Qy 4 [.a]) rfl (by simp)<|Jf [] [(1,1),(2,2),(3,3)] [] rfl hF Ax rfl rfl<|Ai rfl<|Ad rfl hwt<|Ai rfl ?_;rcases h with ⟨hE,rfl⟩ | ⟨T1,hE,h⟩
 ·unfold DL at hE;exact Bd [(1,1),(2,2),(3,3)] rfl (by simp) hE Ax rfl rfl rfl<|By 60 rfl
 unfold Dk at hE;refine Jf [] [(1,1),(2,2),(3,3)] [] rfl hE Ax rfl rfl<|Ai rfl<|FN (t:=62) rfl λhv=>?_;simp [Ez,maxLen] at hv;refine Ak (λz:Nat×Au×List (Int×Ty)=>[(64,.imm (.int .i64 z.1)),(63,.imm (.int .i64 ps.length)),(62,.imm (.sl (dTys ps))),(0,.ref 1 0),(3,.imm (.sl (A0 z.2.1))),(9,.ref 7 0)]) (λz=>(7,some (.immb 178 2 (CK ⟨c1,ag⟩)))::CI m z.2.2 k S) [9,10] (λz=>ps.length-z.1)
  (λz=>z.1<=ps.length/\Nw m k S (ps.drop z.1) (ag.drop z.1) z.2.1 z.2.2 r) (0,Γ,T1)
  ⟨AF _,h⟩ ⟨rfl,A8 (by simp),BJ⟩ BJ rfl λz hz ih=>?_
 clear h;obtain ⟨j,Γ1,T2⟩:=z;obtain ⟨hj1,hj2⟩:=hz;simp only at hj1 hj2 ih;refine Av rfl<|Aa rfl (λh'=>?_) (λh'=>?_)
 ·have hlt:j<ps.length:=by simp at h';omega
  obtain ⟨p,hp⟩:=Am hlt;obtain ⟨u,hu⟩:=Am (l:=ag) (i:=j) (by omega);have hgp:=AA hp;have hgu:=AA hu;rw [As hp,As hu,Nw] at hj2;obtain ⟨u1,u2,u3,u4⟩:=u;obtain ⟨p1,p2,p3,p4⟩:=p;refine Av rfl<|HA rfl hgp<|Ai rfl<|HA rfl hgu<|Ai rfl ?_;rcases hj2 with ⟨hP,rfl⟩ | ⟨Γ2,T3,hP,hj2⟩
  ·unfold GB at hP;simp only [zds] at hP;exact Bd [(1,1),(2,2),(3,3)] rfl (by simp) hP Ax rfl rfl rfl<|yg [] rfl (by simp;rfl)<|By 77 rfl
  ·unfold GB at hP;simp only [zds] at hP;exact A4 [(1,1),(2,2),(3,3)] [] [] (fr:=[]) (nm:=[1,2,3,1,2,3]) rfl trivial (by simp) hP Ax rfl trivial rfl rfl rfl<|yg [] rfl (by simp;rfl)<|Ae (ih (j+1,Γ2,T3) (by simp only;omega) ⟨by simp only;omega,hj2⟩) ⟨M6,BA⟩ BJ rfl
 ·have hlt:¬j<ps.length:=by simp at h';omega
  rw [Bh (by omega:ps.length<=j)] at hj2;simp only [Nw] at hj2;subst hj2;exact At rfl<|Av rfl<|Ag ⟨_,BA⟩
theorem lU (hm:Dx m):dW m:=by
 intro S k;have key:∀(N:Nat) (p τ:Ty) (Γ:Au) (T:List (Int×Ty)),DH p<=N->StOk k (BH T)->TyK k τ->EnvOk k Γ->Γ.length+DH p<=1000000->∃r,GB m Γ p τ T k S r/\V4 m p τ Γ T k r:=by
  intro N
  induction N with
  | zero=>intro p t Γ L h;have:=HE p;omega
  | succ N ih =>
  intro p t Γ T hN hs ht hΓ hB;obtain ⟨f,n,x,ps⟩:=p;have hB':=hB;simp only [DH] at hN hB';by_cases e2:f=2
  ·subst e2;refine ⟨some (Γ++[(x,t)],T),fZ m Γ n x ps t T k S (by omega),Wt hs hΓ ht.1 ht.2,?_⟩;simp only [DH,AZ,Cq,B5];omega
  by_cases e345:f=3\/f=4\/f=5
  ·have hlit:TyK k (NW f):=by
    unfold NW;split
    ·exact TyK.i
    ·split
     ·exact TyK.b
     ·exact TyK.u
   obtain ⟨r,hE,hR⟩:=IJ m T k S hs ht hlit;have hP:GB m Γ (.mk f n x ps) t T k S (r.map λT'=>(Γ,T')):=by
    rcases e345 with rfl | rfl | rfl
    ·exact gC m Γ n x ps t T k S r hE
    ·exact gB m Γ n x ps t T k S r hE
    ·exact gA m Γ n x ps t T k S r hE
   refine ⟨_,hP,?_⟩;cases r with
   | none=>exact UE (m:=m) (n:=n) (x:=x) (ps:=ps) (τ:=t) (r:=none) hΓ e345 hR
   | some T'=>exact ⟨UE (m:=m) (n:=n) (x:=x) (ps:=ps) (τ:=t) (r:=some (BH T')) hΓ e345 hR,by omega⟩
  by_cases e6:f=6
  ·subst e6;cases hC:Fj m.datas x with
   | none=>exact ⟨none,Lr m Γ n x ps t T k S (.inl hC),GR (k:=k) (σ:=BH T) (.inl hC)⟩
   | some cy =>
    obtain ⟨c,y⟩:=cy;by_cases hl:c.args.length=ps.length
    ·obtain ⟨r,hE,hR⟩:=IJ m T k S hs ht (b:=Bx y) ⟨by simp [Bx,C9,Gw],BD (by simp [Bx,CO,DK]) _⟩;cases r with
     | none=>exact ⟨none,WN m Γ n x ps t T k S none c y hC hl (.inl ⟨hE,rfl⟩),Q3 (k:=k) (σ:=BH T) hC hR⟩
     | some T1 =>
      have hT:∀u∈c.args,TyK k u:=λu hu=>⟨(Fi hm hC u hu).2,BD (Fi hm hC u hu).1 _⟩
      obtain ⟨r,c1,g1⟩:=Tc ih ps c.args Γ T1 hl.symm (by omega) hR.2.1 hT hΓ (by omega);refine ⟨r,WN m Γ n x ps t T k S r c y hC hl (.inr ⟨T1,hE,c1⟩),?_⟩;cases r with
      | none=>exact UF hm (r:=none) hC hl hΓ hR g1
      | some z =>
       obtain ⟨Γ',T'⟩:=z;exact ⟨UF hm (r:=some (Γ',BH T')) hC hl hΓ hR g1.1,by have:=g1.2;simp only [DH];omega⟩
    ·exact ⟨none,Lr m Γ n x ps t T k S (.inr ⟨c,y,hC,hl⟩),GR (k:=k) (σ:=BH T) (.inr ⟨c,y,hC,hl⟩)⟩
  ·have hf:f≠2/\f≠3/\f≠4/\f≠5/\f≠6:=⟨e2,λh=>e345 (.inl h),λh=>e345 (.inr (.inl h)),λh=>e345 (.inr (.inr h)),e6⟩
   exact ⟨some (Γ,T),nW m Γ f n x ps t T k S hf,cD hs hΓ hf,by omega⟩
 exact λp τ Γ T=>key (DH p) p τ Γ T (BL _)
def yT (m:Md) (Γ:Au) (t0:Tm) (ks:List Tm) (ps:List Ty) (T:List (Int×Ty)) (k:Int) (S:List Ty) (r:Lc):Prop :=
 (Ey m Γ t0 T k S none/\r=none)\/∃b T1 k1 S1,Ey m Γ t0 T k S (some (b,T1,k1,S1))/\(0<=k1/\k1<=1000000)/\∃r',Ky m Γ b (Ao k1) ps ks T1 (k1+1) S1 r'/\r=r'.map λz=>(Ao k1,z)
theorem WP (m:Md) (Γ:Au) (n:Int) (x:Str) (t0:Tm) (ks:List Tm) (ps:List Ty) (T:List (Int×Ty)) (k:Int) (S:List Ty) (r:Lc) (hl:ks.length=ps.length) (h:yT m Γ t0 ks ps T k S r):Cu 204 m Γ (.mk 15 n x (t0::ks) ps) T k S r:=by
 have ht:(t0::ks)[0]?=some t0:=rfl;unfold Cu;refine AQ Ah func204 rfl [5,6,8,7,9,10,11,12]<|Ai rfl ?_;rcases h with ⟨hI,rfl⟩ | ⟨⟨b1,b2,b3,b4⟩,T1,k1,S1,hI,hk1,r',h,rfl⟩
 ·have hK:=CB (op:=15) (n:=n) (x:=x) (ps:=ps) ht hI;simp only [Dj] at hK;exact Bg 3 [(1,1),(2,2),(3,3)] rfl (by simp) hK Ax rfl rfl rfl<|Bs 14 3 rfl
 have hA:=HS m T1 k1 S1 hk1;have hK:=CB (op:=15) (n:=n) (x:=x) (ps:=ps) ht hI;simp only [Dj] at hK;refine Jf [8] [(1,1),(2,2),(3,3)] [(4,8)] rfl hK Ax rfl rfl<|Ai rfl<|Jf [] [(1,1),(2,2),(8,3)] [] rfl hA Ax rfl rfl<|Ai rfl<|Bo 8 4 rfl<|FN (t:=18) rfl λhv=>?_;simp [Ez,maxLen] at hv
 refine Ak (λz:Nat×List (Int×Ty)×Int×List Ty=>[(20,.imm (.int .i64 z.1)),(19,.imm (.int .i64 ps.length)),(18,.imm (.sl (dTys ps))),(0,.ref 1 0),(2,.imm (.sl (A0 Γ))),(4,.ref 5 0),(6,.ref 6 0),(7,.ref 7 0),(8,.ref 9 0)]) (λz=>(5,some (.immb 49 5 (Al (.mk 15 n x (t0::ks) ps))))::(6,some (.cells 25 4 [.imm (.int .i64 0),.imm (.int .i64 0),.imm (.str []),.nils]))::(7,some (.immb 25 4 (dTyc (.mk b1 b2 b3 b4))))::(9,some (.immb 25 4 (dTyc (Ao k1))))::U0 m z.2.1 z.2.2.1 z.2.2.2) [10,11,12] (λz=>ps.length-z.1)
  (λz=>z.1<=ps.length/\Ky m Γ (.mk b1 b2 b3 b4) (Ao k1) (ps.drop z.1) (ks.drop z.1) z.2.1 z.2.2.1 z.2.2.2 r') (0,T1,k1+1,S1)
  ⟨AF _,h⟩ ⟨rfl,A8 (by simp),F6⟩ F6 rfl λz hz ih=>?_
 clear h hK hA hI;obtain ⟨j,T2,k2,S2⟩:=z;obtain ⟨hj1,hj2⟩:=hz;simp only at hj1 hj2 ih;refine Av rfl<|Aa rfl (λh'=>?_) (λh'=>?_)
 ·have hlt:j<ps.length:=by simp at h';omega
  obtain ⟨p,hp⟩:=Am hlt;obtain ⟨t,ht1⟩:=Am (l:=ks) (i:=j) (by omega);have ht2:(t0::ks)[j+1]?=some t:=by simpa using ht1
  have hw:IntKind.i64.wrap ((j:Int)+1)=((j+1:Nat):Int):=by rw [BW (by omega) (by omega)];omega
  have hgp:=AA hp;rw [As hp,As ht1,Ky] at hj2;obtain ⟨p1,p2,p3,p4⟩:=p;refine Av rfl<|HA rfl hgp<|Ai rfl ?_;rcases hj2 with ⟨hP,rfl⟩ | ⟨Γ1,T3,hP,hj2⟩
  ·unfold GB at hP;simp only [zds] at hP;exact Bd [(1,1),(2,2),(4,3)] rfl (by simp) hP Ax rfl rfl rfl<|Eh 34 (bH 3) rfl fO (λx h=>by cases h)<|Ai rfl<|Eh 35 (.imm (.tup [])) rfl DC (λx h=>by cases h)<|yg [] rfl (by simp;rfl)<|Bs 35 3 rfl
  ·unfold GB at hP;simp only [zds] at hP;refine A4 [(1,1),(2,2),(4,3)] [] [] (fr:=[]) (nm:=[1,2,4,1,2,4]) rfl trivial (by simp) hP Ax rfl trivial rfl rfl rfl<|Ai rfl ?_;rcases hj2 with ⟨hI,rfl⟩ | ⟨⟨τ1,τ2,τ3,τ4⟩,T4,k4,S4,hI,hj2⟩
   ·have hK:=CB (op:=15) (n:=n) (x:=x) (ps:=ps) ht2 hI;simp only [Dj] at hK;rw [<- hw] at hK;exact Bg 3 [(1,1),(2,2),(4,3)] rfl (by simp) hK Ax rfl rfl rfl<|Ai rfl<|Eh 35 (.imm (.tup [])) rfl DC (λx h=>by cases h)<|yg [] rfl (by simp;rfl)<|Bs 35 3 rfl
   ·have hK:=CB (op:=15) (n:=n) (x:=x) (ps:=ps) ht2 hI;simp only [Dj] at hK;rw [<- hw] at hK;refine A4 [(1,1),(2,2),(4,3)] [(4,11)] [] (fr:=[11]) (nm:=[1,2,11,1,2,4]) rfl trivial (by simp) hK Ax rfl trivial rfl rfl rfl<|Ai rfl ?_;rcases hj2 with ⟨hE,rfl⟩ | ⟨T5,hE,hj2⟩
    ·unfold DL at hE;exact Bd [(1,1),(2,2),(11,3)] rfl (by simp) hE Ax rfl rfl rfl<|N0 1 rfl (by simp;rfl)<|By 37 rfl
    ·unfold Dk at hE;exact A4 [(1,1),(2,2),(11,3)] [] [] (fr:=[]) (nm:=[1,2,11,1,2,11]) rfl trivial (by simp) hE Ax rfl trivial rfl rfl rfl<|yg [] rfl (by simp;rfl)<|Bo 11 4 rfl<|Ae (ih (j+1,T5,k4,S4) (by simp only;omega) ⟨by simp only;omega,hj2⟩) ⟨M6,Mr⟩ F6 rfl
 ·have hlt:¬j<ps.length:=by simp at h';omega
  rw [Bh (by omega:ps.length<=j)] at hj2;simp only [Ky] at hj2;subst hj2;exact At rfl<|Av rfl<|Ag ⟨_,BA⟩
theorem oK {n:Int} {t2:Tm} {k1 k2:Int} {σ1 σ2:Sb} {N1 N2:List Ty} (hΓ:EnvOk k Γ) (r1:H6 m [t0] [(Γ,Ca)] k σ (some (k1,σ1,N1))) (r2:BM m Γ t1 k1 σ1 (some (τ,k2,σ2,N2))) (r3:BM m Γ t2 k2 σ2 none):BM m Γ (.mk 8 n x [t0,t1,t2] ps) k σ none:=by
 obtain ⟨a1,a2⟩:=r1;obtain ⟨c1,c2,c3,c4⟩:=r2;have hB:StpR k σ k2 σ2 (λη=>(N1.map (A9 η),A9 η τ,N2.map (A9 η))) (λη (w:List Ty×Ty×List Ty)=>Dc m [t0] [(F1 η Γ,Ca)] w.1/\CC m t1 (F1 η Γ) w.2.1 w.2.2) :=
  a1.bind c1 (λη g1 g2=>⟨by simpa [FS] using g1,g2⟩) λη w hG=>⟨w.1,by simpa [FS] using hG.1,λη1 ha hv=>⟨(w.2.1,w.2.2),by rw [ha.env hΓ];exact hG.2,λη2 hb _ hv2=>by
   obtain ⟨w1,w2,w3⟩:=w;simp only [Bc] at hv2 ⊢;exact ⟨by rw [hb.tys a2,hv],hv2.1,hv2.2⟩⟩⟩
 refine StpN.second hB r3 λη w hw=>?_;obtain ⟨S1,S2,S3,q1,q2,q3,_⟩:=Ob.1 hw;exact ⟨(S1,w.1,S2),⟨q1,q2⟩,λη1 ha _=>⟨(w.1,S3),by rw [ha.env hΓ];exact q3⟩⟩
def Vr (op:Int) (j:Nat):Prop:=j<=1/\(C1 op->op≠8->op≠16->j=1)
theorem Yz {op:Int} (h:BX op) (a:Ty):(A5 op a).2.2.length<=1:=by
 rcases h with rfl | rfl | rfl | rfl | rfl | rfl | rfl | rfl | rfl | rfl | rfl | rfl | rfl | rfl | rfl | rfl | rfl | rfl | rfl | rfl | rfl <;> simp [A5]
theorem U5 {op:Int} (h:BX op) (h8:op≠8) (h16:op≠16) (ho:¬C1 op) (a b:Ty):A5 op a=A5 op b:=by
 rcases h with rfl | rfl | rfl | rfl | rfl | rfl | rfl | rfl | rfl | rfl | rfl | rfl | rfl | rfl | rfl | rfl | rfl | rfl | rfl | rfl | rfl <;> first | rfl | (exfalso;simp [C1] at ho)
theorem eY {op:Int} (h:BX op) (h8:op≠8) (h16:op≠16) (hj:Vr op j) (hk:0<=k):(∀u∈(A5 op (Ao k)).1,TyK (k+j) u)/\TyK (k+j) (A5 op (Ao k)).2.1/\∀u∈(A5 op (Ao k)).2.2,TyK (k+j) u:=by
 by_cases ho:C1 op
 ·have:=hj.2 ho h8 h16;subst this;exact Mq h (TyK.h ⟨hk,by omega⟩)
 ·rw [U5 h h8 h16 ho (Ao k) AU];exact Mq h TyK.i
theorem El {t:Tm} {us:List Ty} (hk:k'=k+j) (h:∀r,B7 m Γ ks us T k' S r->Ey m Γ t T k S (r.map λz=>(τ,z))) :
  ∀r,B7 m Γ ks us T (k+j) S r->Ey m Γ t T k S (r.map λz=>(τ,z.1,z.2.1,z.2.2++[])):=λr hr=>by
 subst hk;have:=h r hr;cases r with
 | none=>exact this
 | some z=>simpa using this
theorem tE (m:Md) (Γ:Au) (op n:Int) (x:Str) (ks:List Tm) (ps:List Ty) (T:List (Int×Ty)) (k:Int) (S:List Ty) (hr:BX op) (h8:op≠8) (h16:op≠16) (hk:0<=k/\k<=1000000) (hl:ks.length=(A5 op (Ao k)).1.length) :
  ∃j:Nat,Vr op j/\∀r,B7 m Γ ks (A5 op (Ao k)).1 T (k+j) S r->(∀z,r=some z->z.2.2.length<=1000000)->Ey m Γ (.mk op n x ks ps) T k S (r.map λz=>((A5 op (Ao k)).2.1,z.1,z.2.1,z.2.2++(A5 op (Ao k)).2.2)):=by
 have c0:Vr op 0\/C1 op:=by
  by_cases h:C1 op
  ·exact .inr h
  ·exact .inl ⟨by omega,λh'=>absurd h' h⟩
 have c1:Vr op 1:=⟨by omega,λ_ _ _=>rfl⟩
 have k0:k=k+(0:Nat):=by simp
 rcases hr with rfl | rfl | rfl | rfl | rfl | rfl | rfl | rfl | rfl | rfl | rfl | rfl | rfl | rfl | rfl | rfl | rfl | rfl | rfl | rfl | rfl
 ·obtain rfl:ks=[]:=FJ.1 hl;exact ⟨0,c0.resolve_right (by simp [C1]),λr hr _=>El k0 (λr h=>by simp only [A5,B7] at h;subst h;exact DS 1 rfl (QY m Γ 1 n x [] ps T k S)) r hr⟩
 ·obtain rfl:ks=[]:=FJ.1 hl;exact ⟨0,c0.resolve_right (by simp [C1]),λr hr _=>El k0 (λr h=>by simp only [A5,B7] at h;subst h;exact DS 25 rfl (QY m Γ 25 n x [] ps T k S)) r hr⟩
 ·obtain rfl:ks=[]:=FJ.1 hl;exact ⟨0,c0.resolve_right (by simp [C1]),λr hr _=>El k0 (λr h=>by simp only [A5,B7] at h;subst h;exact DS 2 rfl (nS m Γ 2 n x [] ps T k S)) r hr⟩
 ·obtain rfl:ks=[]:=FJ.1 hl;exact ⟨0,c0.resolve_right (by simp [C1]),λr hr _=>El k0 (λr h=>by simp only [A5,B7] at h;subst h;exact DS 3 rfl (QX m Γ 3 n x [] ps T k S)) r hr⟩
 ·obtain rfl:ks=[]:=FJ.1 hl;exact ⟨0,c0.resolve_right (by simp [C1]),λr hr _=>El k0 (λr h=>by simp only [A5,B7] at h;subst h;exact DS 28 rfl (QX m Γ 28 n x [] ps T k S)) r hr⟩
 ·exact absurd rfl h8
 ·obtain ⟨a,b,rfl⟩:∃a b,ks=[a,b]:=by
   match ks,hl with
   | [a,b],_=>exact ⟨a,b,rfl⟩
  exact ⟨0,c0.resolve_right (by simp [C1]),λr hr _=>El k0 (λr h=>DS 9 rfl (Zz m Γ 9 n x [a,b] ps T k S r (by simp) h)) r hr⟩
 ·obtain ⟨a,b,rfl⟩:∃a b,ks=[a,b]:=by
   match ks,hl with
   | [a,b],_=>exact ⟨a,b,rfl⟩
  exact ⟨0,c0.resolve_right (by simp [C1]),λr hr _=>El k0 (λr h=>DS 10 rfl (Zz m Γ 10 n x [a,b] ps T k S r (by simp) h)) r hr⟩
 ·obtain ⟨a,b,rfl⟩:∃a b,ks=[a,b]:=by
   match ks,hl with
   | [a,b],_=>exact ⟨a,b,rfl⟩
  exact ⟨0,c0.resolve_right (by simp [C1]),λr hr _=>El k0 (λr h=>DS 11 rfl (Zz m Γ 11 n x [a,b] ps T k S r (by simp) h)) r hr⟩
 ·obtain ⟨a,b,rfl⟩:∃a b,ks=[a,b]:=by
   match ks,hl with
   | [a,b],_=>exact ⟨a,b,rfl⟩
  exact ⟨0,c0.resolve_right (by simp [C1]),λr hr _=>El k0 (λr h=>DS 12 rfl (tG m Γ 12 n x [a,b] ps T k S r (by simp) h)) r hr⟩
 ·obtain ⟨a,b,rfl⟩:∃a b,ks=[a,b]:=by
   match ks,hl with
   | [a,b],_=>exact ⟨a,b,rfl⟩
  exact ⟨1,c1,λr hr hb=>DS 13 rfl (oB m Γ 13 n x [a,b] ps T k S r hk (by simp) hb hr)⟩
 ·exact absurd rfl h16
 ·obtain ⟨a,rfl⟩:∃a,ks=[a]:=by
   match ks,hl with
   | [a],_=>exact ⟨a,rfl⟩
  exact ⟨1,c1,λr hr _=>El (by simp) (λr h=>DS 17 rfl (xU m Γ n x a [] ps T k S r hk h)) r hr⟩
 ·obtain ⟨a,b,rfl⟩:∃a b,ks=[a,b]:=by
   match ks,hl with
   | [a,b],_=>exact ⟨a,b,rfl⟩
  exact ⟨1,c1,λr hr _=>El (by simp) (λr h=>DS 18 rfl (xS m Γ n x a b [] ps T k S r hk h)) r hr⟩
 ·obtain ⟨a,rfl⟩:∃a,ks=[a]:=by
   match ks,hl with
   | [a],_=>exact ⟨a,rfl⟩
  exact ⟨1,c1,λr hr _=>El (by simp) (λr h=>DS 19 rfl (nT m Γ n x a [] ps T k S r hk h)) r hr⟩
 ·obtain ⟨a,rfl⟩:∃a,ks=[a]:=by
   match ks,hl with
   | [a],_=>exact ⟨a,rfl⟩
  exact ⟨1,c1,λr hr _=>El (by simp) (λr h=>DS 20 rfl (tH m Γ n x a [] ps T k S r hk h)) r hr⟩
 ·obtain rfl:ks=[]:=FJ.1 hl;exact ⟨1,c1,λr hr _=>El (k':=k+1) (by simp) (λr h=>by simp only [A5,B7] at h;subst h;exact DS 21 rfl (ZN m Γ 21 n x [] ps T k S hk)) r hr⟩
 ·obtain ⟨a,b,rfl⟩:∃a b,ks=[a,b]:=by
   match ks,hl with
   | [a,b],_=>exact ⟨a,b,rfl⟩
  exact ⟨1,c1,λr hr _=>El (by simp) (λr h=>DS 22 rfl (tD m Γ n x a b [] ps T k S r hk h)) r hr⟩
 ·obtain ⟨a,rfl⟩:∃a,ks=[a]:=by
   match ks,hl with
   | [a],_=>exact ⟨a,rfl⟩
  exact ⟨1,c1,λr hr _=>El (by simp) (λr h=>DS 23 rfl (tC m Γ n x a [] ps T k S r hk h)) r hr⟩
 ·obtain ⟨a,rfl⟩:∃a,ks=[a]:=by
   match ks,hl with
   | [a],_=>exact ⟨a,rfl⟩
  exact ⟨0,c0.resolve_right (by simp [C1]),λr hr _=>El k0 (λr h=>DS 24 rfl (xT m Γ 24 n x [a] ps T k S r (by simp) h)) r hr⟩
 ·obtain ⟨a,rfl⟩:∃a,ks=[a]:=by
   match ks,hl with
   | [a],_=>exact ⟨a,rfl⟩
  exact ⟨0,c0.resolve_right (by simp [C1]),λr hr _=>El k0 (λr h=>DS 26 rfl (nV m Γ 26 n x [a] ps T k S r (by simp) h)) r hr⟩
theorem StOk.fresh (h:StOk k σ):StOk (k+1) σ:=h.mono (by omega)
theorem Xk (hm:Dx m):∀n,V5 m n:=by
 intro n
 induction n with
 | zero=>intro t Γ T k S h;have:=Uv t;omega
 | succ n IH =>
 intro t Γ T k S hn hf hB;obtain ⟨op,nn,x,ks,ps⟩:=t;have hk:=Tk hf;have har:=cM hf;obtain ⟨b1,b2,b3,b4,b5⟩:=hB;have hsz:H8 (.mk op nn x ks ps)=1+BY ks+CX ps:=rfl;rw [hsz] at hn b3 b4 b5;have hk0:0<=k:=b1.1;have hΓ':EnvOk (k+1) Γ:=b2.mono (by omega);have hh:TyK (k+1) (Ao k):=TyK.h ⟨hk0,by omega⟩;rcases har with ⟨rfl,h0⟩ | ⟨rfl,h0⟩ | ⟨rfl,h0⟩ | ⟨rfl,h0⟩ | ⟨rfl,h0⟩ | rfl | ⟨rfl,h0⟩ | ⟨hr,h0⟩
 ·-- a name
  obtain rfl:ks=[]:=FJ.1 h0;refine ⟨_,DS 4 rfl (tF m Γ nn x [] ps T k S),?_⟩;have:=Xj hm (n:=nn) (x:=x) (ps:=ps) b1 b2;cases hl:CM m Γ x with
  | none=>rw [hl] at this;exact this
  | some τ=>rw [hl] at this;exact ⟨[],this,by simp,by simp,by omega⟩
 ·-- a function
  obtain ⟨t0,rfl⟩:=On.1 h0;have hs0:BY [t0]=H8 t0:=by simp [BY]
  rw [hs0] at hn b3 b4 b5 hsz;obtain ⟨r,c1,g1⟩:=IH t0 (Γ++[(x,Ao k)]) T (k+1) S (by omega) (hk t0 (by simp)) ⟨b1.fresh,hΓ'.add hh.1 hh.2,by omega,by omega,by rw [AZ,NH];omega⟩;refine ⟨_,DS 5 rfl (xV m Γ nn x t0 [] ps T k S (by omega) (by omega) c1),?_⟩;cases r with
  | none=>exact Vi (n:=nn) (ps:=ps) (r:=none) b1 b2 g1
  | some z =>
   obtain ⟨τ,T1,k1,S1⟩:=z;obtain ⟨N,r1,s1,s2,s3⟩:=g1;exact ⟨N,Vi (n:=nn) (ps:=ps) (r:=some (τ,k1,BH T1,N)) b1 b2 r1,s1,by rw [hsz];omega,by rw [hsz];omega⟩
 ·-- a continuation
  obtain ⟨t0,rfl⟩:=On.1 h0;have hs0:BY [t0]=H8 t0:=by simp [BY]
  have hkf:TyK (k+1) (Be (Ao k) AU):=TyK.f hh TyK.i;have hE:EnvOk (k+1) (Γ++[(x,Be (Ao k) AU)]):=hΓ'.add hkf.1 hkf.2;obtain ⟨r,c1,g1⟩:=Hg IH [t0] [AU] (Γ++[(x,Be (Ao k) AU)]) T (k+1) S rfl (by omega) hk (λu hu=>by rw [AN.1 hu];exact TyK.i) ⟨b1.fresh,hE,by omega,by omega,by rw [AZ,NH];omega⟩;refine ⟨_,DS 27 rfl (nU m Γ nn x t0 [] ps T k S (by omega) (by omega) c1),?_⟩;have hN:∀{r},H6 m [t0] [(Γ++[(x,Be (Ao k) AU)],AU)] (k+1) (BH T) r->BM m Γ (.mk 27 nn x [t0] ps) k (BH T) (r.map λy=>(Ao k,y.1,y.2.1,y.2.2++[])):=λhr =>
   IE (op:=27) (n:=nn) (x:=x) (ps:=ps) (j:=1) b1 (SV (by omega) b2) (λp hp=>by rw [AN.1 hp];exact ⟨hE,rfl,BD rfl _⟩) hh.1 hh.2 (λt h=>nomatch h) hr
  cases r with
  | none=>exact hN (r:=none) g1
  | some z =>
   obtain ⟨T1,k1,S1⟩:=z;obtain ⟨N,r1,s1,s2,s3⟩:=g1;exact ⟨N,by simpa using hN (r:=some (k1,BH T1,N)) r1,s1,by rw [hsz];omega,by rw [hsz];omega⟩
 ·-- an application
  obtain ⟨t0,u0,rfl⟩:∃t0 u0,ks=[t0,u0]:=by
   match ks,h0 with
   | [a,b],_=>exact ⟨a,b,rfl⟩
  have hs0:BY [t0,u0]=H8 t0+H8 u0:=by simp [BY]
  rw [hs0] at hn b3 b4 b5 hsz;obtain ⟨r1,c1,g1⟩:=IH t0 Γ T k S (by omega) (hk t0 (by simp)) ⟨b1,b2,by omega,by omega,by omega⟩;cases r1 with
  | none=>exact ⟨none,DS 6 rfl (MK m Γ nn x t0 u0 [] ps T k S none (.inl ⟨c1,rfl⟩)),nY (k:=k) (k0:=k) (σ:=BH T) g1 λη w hw=>by
    obtain ⟨a0,S1,S2,q1,q2,_⟩:=IP.1 hw;exact ⟨_,_,q1⟩⟩
  | some z =>
   obtain ⟨f,T1,k1,S1⟩:=z;obtain ⟨N1,r1,s1,s2,s3⟩:=g1;have hle:k<=k1:=r1.1.1;obtain ⟨r2,c2,g2⟩:=IH u0 Γ T1 k1 S1 (by omega) (hk u0 (by simp)) ⟨r1.1.2.1,b2.mono hle,by omega,by rw [s1,AZ];omega,by omega⟩;cases r2 with
   | none=>exact ⟨none,DS 6 rfl (MK m Γ nn x t0 u0 [] ps T k S none (.inr ⟨f,T1,k1,S1,c1,.inl ⟨c2,rfl⟩⟩)),gH b2 r1 g2 λη w hw=>by
     obtain ⟨a0,S1,S2,q1,q2,_⟩:=IP.1 hw;exact ⟨⟨_,_,q1⟩,_,_,q2⟩⟩
   | some z =>
    obtain ⟨a,T2,k2,S2⟩:=z;obtain ⟨N2,r2,u1,u2,u3⟩:=g2;have hle2:k1<=k2:=r2.1.1;have hh2:TyK (k2+1) (Ao k2):=TyK.h ⟨by omega,by omega⟩;have ha2:TyK k2 a:=⟨r2.2.1,r2.2.2.1⟩
    obtain ⟨r3,c3,g3⟩:=IJ m T2 (k2+1) S2 r2.1.2.1.fresh (a:=f) (b:=Be a (Ao k2)) (TyK.mono ⟨r1.2.1,r1.2.2.1⟩ (by omega)) (TyK.f (ha2.mono (by omega)) hh2);cases r3 with
    | none=>exact ⟨none,DS 6 rfl (MK m Γ nn x t0 u0 [] ps T k S none (.inr ⟨f,T1,k1,S1,c1,.inr ⟨a,T2,k2,S2,c2,by omega,.inl ⟨c3,rfl⟩⟩⟩)),Lv (r:=none) b2 r1 r2 g3⟩
    | some T3=>exact ⟨some (Ao k2,T3,k2+1,S2),DS 6 rfl (MK m Γ nn x t0 u0 [] ps T k S _ (.inr ⟨f,T1,k1,S1,c1,.inr ⟨a,T2,k2,S2,c2,by omega,.inr ⟨T3,c3,rfl⟩⟩⟩)),N1++N2,Lv (r:=some (BH T3)) b2 r1 r2 g3,by rw [u1,s1,Cl],by rw [hsz,AZ];omega,by rw [hsz];omega⟩
 ·-- let
  obtain ⟨t0,u0,rfl⟩:∃t0 u0,ks=[t0,u0]:=by
   match ks,h0 with
   | [a,b],_=>exact ⟨a,b,rfl⟩
  have hs0:BY [t0,u0]=H8 t0+H8 u0:=by simp [BY]
  rw [hs0] at hn b3 b4 b5 hsz;obtain ⟨r1,c1,g1⟩:=IH t0 Γ T k S (by omega) (hk t0 (by simp)) ⟨b1,b2,by omega,by omega,by omega⟩;cases r1 with
  | none=>exact ⟨none,DS 7 rfl (nX m Γ nn x t0 u0 [] ps T k S none (by omega) (.inl ⟨c1,rfl⟩)),MM (k:=k) (k0:=k) (σ:=BH T) g1⟩
  | some z =>
   obtain ⟨τ,T1,k1,S1⟩:=z;obtain ⟨N1,r1,s1,s2,s3⟩:=g1;have hle:k<=k1:=r1.1.1;obtain ⟨r2,c2,g2⟩:=IH u0 (Γ++[(x,τ)]) T1 k1 S1 (by omega) (hk u0 (by simp)) ⟨r1.1.2.1,(b2.mono hle).add r1.2.1 r1.2.2.1,by omega,by rw [s1,AZ];omega,by rw [AZ,NH];omega⟩;refine ⟨r2,DS 7 rfl (nX m Γ nn x t0 u0 [] ps T k S r2 (by omega) (.inr ⟨τ,T1,k1,S1,c1,c2⟩)),?_⟩;cases r2 with
   | none=>exact Vh (n:=nn) (ps:=ps) (r:=none) (JV _) b2 r1 g2
   | some z =>
    obtain ⟨τ',T2,k2,S2⟩:=z;obtain ⟨N2,r2,u1,u2,u3⟩:=g2;exact ⟨N1++N2,Vh (n:=nn) (ps:=ps) (r:=some (τ',k2,BH T2,N2)) (JV _) b2 r1 r2,by rw [u1,s1,Cl],by rw [hsz,AZ];omega,by rw [hsz];omega⟩
 ·-- a constructor
  cases hC:Fj m.datas x with
  | none=>exact ⟨none,DS 14 rfl (zbk m Γ nn x ks ps T k S (.inl hC)),MN (k:=k) (σ:=BH T) hC⟩
  | some cy =>
   obtain ⟨c,y⟩:=cy;by_cases hl:c.args.length=ks.length
   ·obtain ⟨r,c1,g1⟩:=Hg IH ks c.args Γ T k S hl.symm (by omega) hk (λu hu=>⟨(Fi hm hC u hu).2,BD (Fi hm hC u hu).1 _⟩) ⟨b1,b2,by omega,by omega,by omega⟩;refine ⟨_,DS 14 rfl (xW m Γ nn x ks ps T k S r c y hC hl c1),?_⟩;cases r with
    | none=>exact MO hm (n:=nn) (ps:=ps) (r:=none) b1 b2 hC g1
    | some z =>
     obtain ⟨T1,k1,S1⟩:=z;obtain ⟨N,r1,s1,s2,s3⟩:=g1;exact ⟨N,MO hm (n:=nn) (ps:=ps) (r:=some (k1,BH T1,N)) b1 b2 hC r1,s1,by rw [hsz];omega,by rw [hsz];omega⟩
   ·exact ⟨none,DS 14 rfl (zbk m Γ nn x ks ps T k S (.inr ⟨c,y,hC,hl⟩)),MO hm (n:=nn) (ps:=ps) (r:=none) b1 b2 hC (T8 (by simpa using λh=>hl h.symm))⟩
 ·-- a match
  obtain ⟨t0,ks,rfl⟩:∃t0 l,ks=t0::l:=by
   cases ks with
   | nil=>simp at h0;omega
   | cons a l=>exact ⟨a,l,rfl⟩
  have hs0:BY (t0::ks)=H8 t0+BY ks:=rfl;rw [hs0] at hn b3 b4 b5 hsz;obtain ⟨r1,c1,g1⟩:=IH t0 Γ T k S (by omega) (hk t0 (by simp)) ⟨b1,b2,by omega,by omega,by omega⟩;cases r1 with
  | none=>exact ⟨none,DS 15 rfl (WP m Γ nn x t0 ks ps T k S none (by simp at h0;omega) (.inl ⟨c1,rfl⟩)),Kf (k:=k) (k0:=k) (σ:=BH T) g1⟩
  | some z =>
   obtain ⟨b,T1,k1,S1⟩:=z;obtain ⟨N1,r1,s1,s2,s3⟩:=g1;have hle:k<=k1:=r1.1.1;have hh2:TyK (k1+1) (Ao k1):=TyK.h ⟨by omega,by omega⟩;obtain ⟨r2,c2,g2⟩:=SY (lU hm) IH ps ks Γ b (Ao k1) T1 (k1+1) S1 (by simp at h0;omega) (by omega) (λt ht=>hk t (by simp [ht])) (TyK.mono ⟨r1.2.1,r1.2.2.1⟩ (by omega)) hh2 ⟨r1.1.2.1.fresh,b2.mono (by omega),by omega,by rw [s1,AZ];omega,by omega⟩;refine ⟨_,DS 15 rfl (WP m Γ nn x t0 ks ps T k S (r2.map λz=>(Ao k1,z)) (by simp at h0;omega) (.inr ⟨b,T1,k1,S1,c1,by omega,r2,c2,rfl⟩)),?_⟩;cases r2 with
   | none=>exact Lu (n:=nn) (x:=x) (r:=none) b2 r1 g2
   | some z =>
    obtain ⟨T2,k2,S2⟩:=z;obtain ⟨N2,r2,u1,u2,u3⟩:=g2;exact ⟨N1++N2,Lu (n:=nn) (x:=x) (r:=some (k2,BH T2,N2)) b2 r1 r2,by rw [u1,s1,Cl],by rw [hsz,AZ];omega,by rw [hsz];omega⟩
 ·-- the others
  by_cases h16:op=16
  ·subst h16;obtain ⟨t0,rfl⟩:∃t0,ks=[t0]:=On.1 (by rw [h0];rfl);have hs0:BY [t0]=H8 t0:=by simp [BY]
   rw [hs0] at hn b3 b4 b5 hsz;obtain ⟨r,c1,g1⟩:=IH t0 Γ T k S (by omega) (hk t0 (by simp)) ⟨b1,b2,by omega,by omega,by omega⟩;refine ⟨_,DS 16 rfl (tJ m Γ nn x t0 [] ps T k S c1),?_⟩;cases r with
   | none=>exact MP (k:=k) (σ:=BH T) (n:=nn) (x:=x) (ps:=ps) (r:=none) g1
   | some z =>
    obtain ⟨τ,T1,k1,S1⟩:=z;obtain ⟨N,r1,s1,s2,s3⟩:=g1;exact ⟨N,MP (n:=nn) (x:=x) (ps:=ps) (r:=some (τ,k1,BH T1,N)) r1,s1,by rw [hsz];omega,by rw [hsz];omega⟩
  by_cases h8:op=8
  ·subst h8;obtain ⟨t0,t1,t2,rfl⟩:∃t0 t1 t2,ks=[t0,t1,t2]:=by
    match ks,h0 with
    | [a,b,c],_=>exact ⟨a,b,c,rfl⟩
   have hs0:BY [t0,t1,t2]=H8 t0+H8 t1+H8 t2:=by simp [BY];omega
   rw [hs0] at hn b3 b4 b5 hsz;have hs1:BY [t0]=H8 t0:=by simp [BY]
   obtain ⟨r1,c1,g1⟩:=Hg IH [t0] [Ca] Γ T k S rfl (by omega) (λt ht=>hk t (by rw [AN.1 ht];simp)) (λu hu=>by rw [AN.1 hu];exact TyK.b) ⟨b1,b2,by omega,by omega,by omega⟩;cases r1 with
   | none=>exact ⟨none,DS 8 rfl (WR m Γ nn x t0 t1 t2 [] ps T k S none (.inl ⟨c1,rfl⟩)),StpN.first g1 λη w hw=>by
     obtain ⟨S1,S2,S3,q1,_⟩:=Ob.1 hw;exact ⟨S1,by simpa [FS] using q1⟩⟩
   | some z =>
    obtain ⟨T1,k1,S1⟩:=z;obtain ⟨N1,r1,s1,s2,s3⟩:=g1;have hle:k<=k1:=r1.1.1;obtain ⟨r2,c2,g2⟩:=IH t1 Γ T1 k1 S1 (by omega) (hk t1 (by simp)) ⟨r1.1.2.1,b2.mono hle,by omega,by rw [s1,AZ];omega,by omega⟩;cases r2 with
    | none=>exact ⟨none,DS 8 rfl (WR m Γ nn x t0 t1 t2 [] ps T k S none (.inr ⟨T1,k1,S1,c1,.inl ⟨c2,rfl⟩⟩)),StpN.second r1.1 g2 λη w hw=>by
      obtain ⟨S1,S2,S3,q1,q2,q3,_⟩:=Ob.1 hw;exact ⟨S1,by simpa [FS] using q1,λη1 ha _=>⟨(_,S2),by rw [ha.env b2];exact q2⟩⟩⟩
    | some z =>
     obtain ⟨τ,T2,k2,S2⟩:=z;obtain ⟨N2,r2,u1,u2,u3⟩:=g2;have hle2:k1<=k2:=r2.1.1;obtain ⟨r3,c3,g3⟩:=IH t2 Γ T2 k2 S2 (by omega) (hk t2 (by simp)) ⟨r2.1.2.1,b2.mono (by omega),by omega,by rw [u1,s1,AZ,AZ];omega,by omega⟩;cases r3 with
     | none =>
      refine ⟨none,DS 8 rfl (WR m Γ nn x t0 t1 t2 [] ps T k S none (.inr ⟨T1,k1,S1,c1,.inr ⟨τ,T2,k2,S2,c2,.inl ⟨c3,rfl⟩⟩⟩)),?_⟩;exact oK b2 r1 r2 g3
     | some z =>
      obtain ⟨a,T3,k3,S3⟩:=z;obtain ⟨N3,r3,v1,v2,v3⟩:=g3;have hle3:k2<=k3:=r3.1.1;obtain ⟨r4,c4,g4⟩:=IJ m T3 k3 S3 r3.1.2.1 (a:=τ) (b:=a) (TyK.mono ⟨r2.2.1,r2.2.2.1⟩ hle3) ⟨r3.2.1,r3.2.2.1⟩;cases r4 with
      | none=>exact ⟨none,DS 8 rfl (WR m Γ nn x t0 t1 t2 [] ps T k S none (.inr ⟨T1,k1,S1,c1,.inr ⟨τ,T2,k2,S2,c2,.inr ⟨a,T3,k3,S3,c3,.inl ⟨c4,rfl⟩⟩⟩⟩)),Rg (r:=none) b2 r1 r2 r3 g4⟩
      | some T4=>exact ⟨some (τ,T4,k3,S3),DS 8 rfl (WR m Γ nn x t0 t1 t2 [] ps T k S _ (.inr ⟨T1,k1,S1,c1,.inr ⟨τ,T2,k2,S2,c2,.inr ⟨a,T3,k3,S3,c3,.inr ⟨T4,c4,rfl⟩⟩⟩⟩)),N1++(N2++N3),Rg (r:=some (BH T4)) b2 r1 r2 r3 g4,by rw [v1,u1,s1];simp,by rw [hsz,AZ,AZ];omega,by rw [hsz];omega⟩
  obtain ⟨k1,k2,k3⟩:=Mq hr hh;have hlen:ks.length=(A5 op (Ao k)).1.length:=h0.trans (SX hr _ _);obtain ⟨j,hj,hw⟩:=tE m Γ op nn x ks ps T k S hr h8 h16 (by omega) hlen;obtain ⟨n1,n2,n3⟩:=eY hr h8 h16 (j:=j) hj hk0;have hj1:j<=1:=hj.1;obtain ⟨r,c1,g1⟩:=Hg IH ks (A5 op (Ao k)).1 Γ T (k+j) S hlen (by omega) hk n1 ⟨b1.mono (by omega),b2.mono (by omega),by omega,by omega,by omega⟩;have hI:∀{r},H6 m ks ((A5 op (Ao k)).1.map λu=>(Γ,u)) (k+j) (BH T) r->BM m Γ (.mk op nn x ks ps) k (BH T) (r.map λy=>((A5 op (Ao k)).2.1,y.1,y.2.1,y.2.2++(A5 op (Ao k)).2.2)):=λhr' =>
   IE (op:=op) (n:=nn) (x:=x) (ps:=ps) (j:=j) b1 (VY hr (λho=>by have:=hj.2 ho h8 h16;omega) b2) (λp hp=>by
    obtain ⟨u,hu,rfl⟩:=Cc.1 hp;exact ⟨b2.mono (by omega),n1 u hu⟩) n2.1 n2.2 n3 hr'
  refine ⟨_,hw r c1 (λz hz=>by
   subst hz;obtain ⟨T1,k1',S1⟩:=z;obtain ⟨N,_,s1,s2,_⟩:=g1;simp only [s1,AZ];omega),?_⟩
  cases r with
  | none=>exact hI (r:=none) g1
  | some z =>
   obtain ⟨T1,k1',S1⟩:=z;obtain ⟨N,r1,s1,s2,s3⟩:=g1;have hSl:(A5 op (Ao k)).2.2.length<=1:=Yz hr _;exact ⟨N++(A5 op (Ao k)).2.2,hI (r:=some (k1',BH T1,N)) r1,by rw [s1,Cl],by rw [hsz,AZ];omega,by show k1'<=_;rw [hsz];omega⟩
def IO (l:List Int):List (List V):=l.map λx=>[.int .i64 x]
@[simp] theorem dNums_length (l:List Int):(IO l).length=l.length:=by simp [IO]
theorem lP (L S:List Ty) (hs:Sol (Fk L) θ) (hd:Dom L.length (Fk L)) (hS:∀t∈S,inB L.length t):Tq3 89 [.agg (Il L S)] (.bool ((S.map (A9 θ)).all Df)):=by
 refine Bl λhv=>?_;simp [Cx,Ez,Il,maxLen] at hv;refine AQ AE func89 rfl [1,2,3]<|AP rfl<|Ak (λi:Nat=>[(3,.imm (.int .i64 i)),(1,.ref 1 0)]) (λ_=>[(1,some (.immb 105 2 (Il L S)))]) [2,3] (λi=>S.length-i) (λi=>i<=S.length/\(S.map (A9 θ)).all Df=((S.drop i).map (A9 θ)).all Df) 0
  ⟨AF _,rfl⟩ AD AC rfl λi hi ih=>?_
 obtain ⟨hi1,hi2⟩:=hi;refine AM rfl<|Aa rfl (λh=>?_) (λh=>?_)
 ·have hlt:i<S.length:=by simp at h;omega
  obtain ⟨p,hp⟩:=Am hlt;have hg:=AA hp;obtain ⟨u,hu⟩:=L8 hs p;have hH:=PM L S hs hd p u hu (hS p (AK hp));have hu1:=hu.srt_eq hs;rw [As hp,Cv,Zi] at hi2;have hpl:Df (A9 θ p)=(BQ u == 1||BQ u == 2||BQ u == 3):=by rw [Df,hu1]
  rw [hpl] at hi2;clear hu hu1 hpl;obtain ⟨p1,p2,p3,p4⟩:=p;obtain ⟨f,u2,u3,u4⟩:=u;simp only [BQ] at hi2;refine AM rfl<|Td rfl hg<|AP rfl<|Ad rfl hH<|rg [] rfl (by simp [Ap];rfl) ?_;by_cases hf:f=1\/f=2\/f=3
  ·have hb:(f == 1||f == 2||f == 3)=true:=by simpa [or_assoc] using hf
   rw [hb,JU] at hi2;refine Aa rfl (λh=>by exfalso;simp at h;grind) (λh=>?_);exact AM rfl<|Ae (ih (i+1) (by omega) ⟨by omega,hi2⟩) ⟨M6,AC⟩ AC rfl
  ·have hb:(f == 1||f == 2||f == 3)=false:=by simp only [not_or] at hf;simp [hf.1,hf.2.1,hf.2.2]
   rw [hb,Bool.false_and] at hi2;refine Aa rfl (λh=>?_) (λh=>by exfalso;simp at h;grind);exact AM rfl<|Ag ⟨_,rfl,tV (by rw [hi2]),trivial⟩
 ·have hlt:¬i<S.length:=by simp at h;omega
  refine At rfl<|AM rfl ?_;rw [Bh (by omega)] at hi2;exact Ag ⟨_,rfl,tV (by rw [hi2];rfl),trivial⟩
def zK (m:Md) (T:List (Int×Ty)) (k:Int) (S:List Ty):St:=CI m T k S++[(5,some (.cells 92 1 [.ref 1 0]))]
def YI (m:Md) (T:List (Int×Ty)) (k:Int) (S:List Ty):St:=zK m T k S++[(6,some (.cells 26 1 [.fn (.func 142) [] [.ref 5 0]]))]
theorem UW (m:Md) (T:List (Int×Ty)) (k:Int) (S:List Ty) (hs:Sol (BH T) θ) (t:Ty) :
  Tq4 142 [.imm (.agg (dTyc t)),.ref 5 0] (zK m T k S) (.ret (.imm (.bool (Df (A9 θ t)))) (zK m T k S)):=by
 obtain ⟨u,hu⟩:=L8 hs t;have hH:=Cn m T k S hs t u hu;have hu1:=hu.srt_eq hs;have hpl:Df (A9 θ t)=(BQ u == 1||BQ u == 2||BQ u == 3):=by rw [Df,hu1]
 rw [hpl];clear hu hu1 hpl;obtain ⟨t1,t2,t3,t4⟩:=t;obtain ⟨f,u2,u3,u4⟩:=u;refine AQ Ah func142 rfl [7,8,9]<|Ai rfl<|A4 [(1,1),(2,2),(3,3)] [] [] (fr:=[]) (nm:=[1,2,3,1,2,3]) rfl trivial (by simp) hH Ax rfl trivial rfl rfl rfl<|Ai rfl<|Ag ⟨_,rfl,tV (congrArg _ ?_),BJ⟩;simp only [BQ];by_cases h1:f=1
 ·subst h1;rfl
 by_cases h2:f=2
 ·subst h2;rfl
 by_cases h3:f=3
 ·subst h3;rfl
 ·simp [h1,h2,h3]
theorem gU (m:Md) (T:List (Int×Ty)) (k:Int) (S:List Ty) (hs:Sol (BH T) θ) (t:Ty) :
  Tq4 175 [.imm (.agg (dTyc t)),.ref 6 0] (YI m T k S) (.ret (.imm (.bool (!Df (A9 θ t)))) (YI m T k S)):=by
 have hH:=UW m T k S hs t;generalize Df (A9 θ t)=o at *;obtain ⟨t1,t2,t3,t4⟩:=t;exact AQ Ah func175 rfl [7,8,9]<|Ai rfl<|A4 [(1,1),(2,2),(3,3),(5,5)] [] [] (fr:=[]) (nm:=[1,2,3,5,1,2,3,5]) rfl trivial (by simp) hH JK rfl trivial rfl rfl rfl<|Ai rfl<|Ag ⟨_,rfl,tV rfl,BA⟩
theorem ZT (m:Md) (T:List (Int×Ty)) (k:Int) (S:List Ty) (hs:Sol (BH T) θ) (hl:S.length<=1000000) :
  ∃i:Int,(0<=i↔(S.map (A9 θ)).all Df=false)/\Tq4 245 [.own 3 (dTys S).length,.fn (.func 175) [] [.ref 6 0]] (YI m T k S) (.ret (.imm (.int .i64 i)) (YI m T k S)):=by
 have hfi:∃i:Int,(0<=i↔(S.map (A9 θ)).all Df=false)/\((i = -1/\(S.map (A9 θ)).all Df=true)\/∃(j:Nat) (t:Ty),i=j/\S[j]?=some t/\Df (A9 θ t)=false/\((S.take j).map (A9 θ)).all Df=true):=by
  cases h:(S.map (A9 θ)).all Df with
  | true=>exact ⟨-1,⟨λh=>by omega,λh=>nomatch h⟩,.inl ⟨rfl,rfl⟩⟩
  | false =>
   have key:∀(n:Nat),((S.take n).map (A9 θ)).all Df=false->∃(j:Nat) (t:Ty),S[j]?=some t/\Df (A9 θ t)=false/\((S.take j).map (A9 θ)).all Df=true:=λn=>by
    induction n with
    | zero=>intro h;simp at h
    | succ n ih =>
     intro h;cases hn:((S.take n).map (A9 θ)).all Df with
     | false=>exact ih hn
     | true =>
      by_cases hl:n<S.length
      ·obtain ⟨t,ht⟩:=Am hl;rw [Bk ht,CL,Ii,hn,JU] at h;exact ⟨n,t,ht,by simpa using h,hn⟩
      ·rw [CQ (by omega)] at h hn;rw [hn] at h;cases h
   obtain ⟨j,t,k1,k2,k3⟩:=key S.length (by rw [E0];exact h);exact ⟨j,⟨λ_=>rfl,λ_=>by omega⟩,.inr ⟨j,t,rfl,k1,k2,k3⟩⟩
 obtain ⟨i,h1,h2⟩:=hfi;refine ⟨i,h1,?_⟩;clear h1;refine AQ Ah func245 rfl [7,8,9]<|Ai rfl<|Ak (λj:Nat=>[(8,.imm (.int .i64 j)),(7,.imm (.int .i64 S.length)),(0,.own 3 (dTys S).length),(1,.fn (.func 175) [] [.ref 6 0])]) (λ_=>YI m T k S) [7,8,9] (λj=>S.length-j) (λj=>j<=S.length/\((S.take j).map (A9 θ)).all Df=true) 0
  ⟨AF _,rfl⟩ ⟨rfl,A8 (by simp),AD⟩ BA rfl λj hj ih=>?_
 obtain ⟨hj1,hj2⟩:=hj;refine Av rfl<|Aa rfl (λh=>?_) (λh=>?_)
 ·have hlt:j<S.length:=by simp at h;omega
  obtain ⟨t,ht⟩:=Am hlt;have hg:=AA ht;have hQ:=gU m T k S hs t;have htk:((S.take (j+1)).map (A9 θ)).all Df=Df (A9 θ t):=by rw [Bk ht,CL,Ii,hj2];simp
  have hfound:Df (A9 θ t)=false->i=j:=λhqt=>by
   rcases h2 with ⟨_,h⟩ | ⟨k',u,rfl,k1,k2,k3⟩
   ·rw [Eo.1 h _ (Cc.2 ⟨t,AK ht,rfl⟩)] at hqt;cases hqt
   ·congr 1;rcases LM k' j with hc | hc | hc
    ·rw [Eo.1 hj2 _ (Cc.2 ⟨u,DE.2 ⟨k',by rw [Dl,if_pos hc];exact k1⟩,rfl⟩)] at k2;cases k2
    ·exact hc
    ·rw [Eo.1 k3 _ (Cc.2 ⟨t,DE.2 ⟨j,by rw [Dl,if_pos hc];exact ht⟩,rfl⟩)] at hqt;cases hqt
  generalize Df (A9 θ t)=o at *;obtain ⟨t1,t2,t3,t4⟩:=t;refine Av rfl<|FG Ah rfl (λ_=>⟨by simp,by simpa using hlt⟩) (by simp)<|Ai rfl<|PN Ah (e:=dTyc (.mk t1 t2 t3 t4)) rfl (λ_=>by simpa using hg) rfl (by simp)<|Ai rfl<|Jf [] [(1,1),(2,2),(3,3),(5,5),(6,6)] [] rfl hQ Wa rfl rfl<|Ai rfl ?_;cases o with
  | false =>
   exact R6 rfl λh=>Av rfl<|Ag ⟨_,rfl,tV (by rw [hfound rfl]),BA⟩
  | true =>
   exact R7 rfl λh=>Av rfl<|Ae (ih (j+1) (by omega) ⟨by omega,htk⟩) ⟨M6,AH⟩ BA rfl
 ·have hlt:¬j<S.length:=by simp at h;omega
  rw [CQ (by omega)] at hj2;have hi:i = -1:=by
   rcases h2 with ⟨h,_⟩ | ⟨k',u,_,k1,k2,_⟩
   ·exact h
   ·rw [Eo.1 hj2 _ (Cc.2 ⟨u,AK k1,rfl⟩)] at k2;cases k2
  exact At rfl<|Av rfl<|Ag ⟨_,rfl,tV (by rw [hi]),BA⟩
theorem Sm (m:Md) (T:List (Int×Ty)) (k:Int) (S:List Ty) (hs:Sol (BH T) θ) (hl:S.length<=1000000) :
  Tq4 174 [.own 3 (dTys S).length,.fn (.func 175) [] [.ref 6 0]] (YI m T k S) (.ret (.imm (.bool (!((S.map (A9 θ)).all Df)))) (YI m T k S)):=by
 obtain ⟨i,h1,hI⟩:=ZT m T k S hs hl;have hb:decide (0<=i) = !((S.map (A9 θ)).all Df):=by rw [EY,decide_eq_true_iff,h1];simp
 refine AQ Ah func174 rfl [7,8,9]<|Ai rfl<|Jf [] [(1,1),(2,2),(3,3),(5,5),(6,6)] [] rfl hI Wa rfl rfl<|Ai rfl<|Ag ⟨_,rfl,tV ?_,BA⟩;rw [<- hb]
theorem WX (m:Md) (T:List (Int×Ty)) (k:Int) (S:List Ty) (hs:Sol (BH T) θ) (hl:S.length<=1000000) :
  Tq4 112 [.own 3 (dTys S).length,.fn (.func 142) [] [.ref 5 0]] (zK m T k S) (.ret (.imm (.bool ((S.map (A9 θ)).all Df))) (zK m T k S)):=by
 have hC:=Sm m T k S hs hl;refine AQ Ah func112 rfl [6,7,8,9]<|Ai rfl<|Jf [] [(1,1),(2,2),(3,3),(5,5),(6,6)] [] rfl hC Wa rfl rfl<|Ai rfl<|Ag ⟨_,rfl,tV (congrArg _ ?_),BJ⟩;rw [EY];simp
theorem MI (m:Md) (T:List (Int×Ty)) (k:Int) (S:List Ty) (hs:Sol (BH T) θ) (hl:S.length<=1000000) (hp:(S.map (A9 θ)).all Df=true) :
  Tq4 80 [.ref 1 0] (CI m T k S) (.ret (.imm (.tup [])) (CI m T k S)):=by
 have hC:=WX m T k S hs hl;rw [hp] at hC;exact AQ Ah func80 rfl [5,6,7,8,9]<|Ai rfl<|Jf [] [(1,1),(2,2),(3,3),(5,5)] [] rfl hC JK rfl rfl<|Ai rfl<|Ad rfl Fx<|Ai rfl<|BP ⟨_,BA⟩
theorem OS (m:Md) (T:List (Int×Ty)) (k:Int) (S:List Ty) (hs:Sol (BH T) θ) (hl:S.length<=1000000) (hp:(S.map (A9 θ)).all Df=false) :
  Tq4 80 [.ref 1 0] (CI m T k S) (.pan Gn):=by
 have hC:=WX m T k S hs hl;rw [hp] at hC;exact AQ Ah func80 rfl [5,6,7,8,9]<|Ai rfl<|Jf [] [(1,1),(2,2),(3,3),(5,5)] [] rfl hC JK rfl rfl<|Ai rfl<|Bd [] rfl (by simp) (I7 _ rfl) trivial rfl rfl rfl<|Ai rfl<|By 8 rfl
theorem zQ:∀(fn:Fn) (first cap:Array Value) (w:World),(Instr.makeFunc fn first cap).run prog w = .ok (.func fn first cap) w:=λ_ _ _ _=>rfl
theorem UY (p:Addr) (w:World) :
  CallsD prog 115 #[.pointer (some p)] .returning w λe u' w'=>e = .returned (.tuple #[])/\u' = .returning/\w'=w:=by
 refine callsD_of_wpS func115 rfl λc₀ cs hu=>?_;apply wpS_seq;apply wpS_region;simp [wpOpsS,go_sem,recoverD,hu,Tryz.ntmps115,Exit.thenS];apply wpS_seq;apply wpS_region;simp [wpOpsS,go_sem,Exit.thenS];refine wpS_cond (t:=false) (by simp [Act.eval,Array.replicate]) ?_;simp only [if_false,E1];refine wpS_of_wp (wp_skip ?_);cases c₀;simp_all [bodyPostS,results,Tryz.results115]
theorem UZ (pb:Nat) (x:Value) (w:World) (hpb:pb<w.heap.size) (hx:w.cell? ⟨pb,0,none⟩=some x) (hz:w.frozen? ⟨pb,0,none⟩=false) :
  CallsD prog 115 #[.pointer (some ⟨pb,0,none⟩)] (.panicking [{ v:=.iface 167 (.agg #[]),recovered:=false }]) w λe u' w'=>e = .returned (.tuple #[]) /\
   u' = .panicking [{ v:=.iface 167 (.agg #[]),recovered:=true }]/\w'=(w.setCell ⟨pb,0,none⟩ (.bool false)).alloc (.cells #[] 167):=by
 refine callsD_of_wpS func115 rfl λc₀ cs hu=>?_;change Code.wpS _ _ _ { tmps:=#[.pointer (some ⟨pb,0,none⟩),undef,undef,undef,undef,undef,undef,undef,undef,undef,undef,undef,undef,undef,undef],defers:=[] } _ _;apply wpS_seq;apply wpS_region;simp [wpOpsS,go_sem,recoverD,hu,Tryz.ntmps115,Exit.thenS];apply wpS_seq;apply wpS_region;simp [wpOpsS,go_sem,Exit.thenS];refine wpS_cond (t:=true) (by simp [Act.eval,Array.replicate]) ?_;simp only [if_true];refine wpS_of_wp ?_;clear hu;have hta:∀w:World,(Instr.typeAssert (.iface 167 (.agg #[])) 20 167 true).run prog w = .ok (.tuple #[.agg #[],.bool true]) w:=λ_=>by kernel_rfl
 have hx':(w.alloc (.cells #[] 167)).cell? ⟨pb,0,none⟩=some x:=by rw [World.cell?_alloc_past _ _ _ hpb];exact hx
 have hz':(w.alloc (.cells #[] 167)).frozen? ⟨pb,0,none⟩=false:=by rw [RowKit.frozen?_alloc_cells];exact hz
 go_wp2
 simp [bodyPostS,results,Tryz.results115]
theorem UX (g:FuncId) (fi ca:Array Value) (w:World) (K:World->Prop) (Kp:World->Prop)
  (hen:(callFunc g (fi++ca)).run prog (w.alloc (.cells #[.bool false] 4)) = .ok (.enter g (fi++ca)) (w.alloc (.cells #[.bool false] 4)))
  (hcall:Tq6 g (fi++ca) (w.alloc (.cells #[.bool false] 4)) λe w'=>match e with
   | .returned _=>K w'
   | .panicked chain=>chain=[{ v:=.iface 167 (.agg #[]),recovered:=false }]/\Kp w'
   | .outgrown=>False)
  (hK:∀w',K w'->w'.heap[w.heap.size]?=some (.cells #[.bool false] 4 (0,0))) (hKp:∀w',Kp w'->w'.heap[w.heap.size]?=some (.cells #[.bool false] 4 (0,0))) :
  Tq6 55 #[.func (.func g) fi ca] w λe w'=>(e = .returned (.bool true)/\∃w1,K w1/\w'=w1.setCell ⟨w.heap.size,0,none⟩ (.bool true)) \/
   (e = .returned (.bool false)/\∃w1,Kp w1/\w'=(w1.setCell ⟨w.heap.size,0,none⟩ (.bool false)).alloc (.cells #[] 167)):=by
 go_enter_defers func55,Tryz.ntmps55
 have zS:=zQ
 go_wp2_with fail
 clear hen;refine hcall.mono ?_;intro e w' he;cases e with
 | outgrown=>exact he.elim
 | returned v =>
  have hc:w'.cell? ⟨w.heap.size,0,none⟩=some (.bool false):=by unfold World.cell?;simp [hK w' he]
  have hz:w'.frozen? ⟨w.heap.size,0,none⟩=false:=by unfold World.frozen?;simp [hK w' he]
  simp only
  go_wp2
  refine leaves_cons (f:=115) (args:=#[.pointer (some ⟨w.heap.size,0,none⟩)]) (by simp) (by simp [go_sem])<|(UY ⟨w.heap.size,0,none⟩ _).mono ?_;rintro e u' w'' ⟨rfl,rfl,rfl⟩;simp [Leaves,settle,results,Tryz.results55,go_sem,hc];exact ⟨w',he,rfl⟩
 | panicked chain =>
  obtain ⟨rfl,he⟩:=he;have hc:w'.cell? ⟨w.heap.size,0,none⟩=some (.bool false):=by unfold World.cell?;simp [hKp w' he]
  have hz:w'.frozen? ⟨w.heap.size,0,none⟩=false:=by unfold World.frozen?;simp [hKp w' he]
  have hlt:w.heap.size<w'.heap.size:=(GH.1 (hKp w' he)).1;refine leaves_cons (f:=115) (args:=#[.pointer (some ⟨w.heap.size,0,none⟩)]) (by simp) (by simp [go_sem])<|(UZ w.heap.size _ _ hlt hc hz).mono ?_;rintro e u' w'' ⟨rfl,rfl,rfl⟩;have hc2:((w'.setCell ⟨w.heap.size,0,none⟩ (.bool false)).alloc (.cells #[] 167)).cell? ⟨w.heap.size,0,none⟩=some (.bool false):=by
   rw [Ek (hKp w' he),World.cell?_alloc_past _ _ _ (by simpa using hlt)];unfold World.cell?;simp [hlt]
  simp [Leaves,settle,results,Tryz.results55,go_sem,hc2];exact ⟨w',he,rfl⟩
theorem Fy:KV prog 55 167 4:=λg fi ca w K Kp h1 h2 h3 h4=>UX g fi ca w K Kp h1 h2 h3 h4
def wQ (m:Md) (T:List (Int×Ty)) (k:Int) (S:List Ty) (a b:Ty):St:=(4,some (.cells 92 1 [.ref 1 0]))::(5,some (.immb 25 4 (dTyc a)))::(6,some (.immb 25 4 (dTyc b)))::CI m T k S
theorem Yn {T':List (Int×Ty)} {b:Ty} (hE:Dk m T k S a b T'):Tq4 56 [.ref 4 0,.ref 5 0,.ref 6 0] (wQ m T k S a b) (.ret (.imm (.tup [])) (wQ m T' k S a b)):=by
 unfold Dk at hE;obtain ⟨a1,a2,a3,a4⟩:=a;obtain ⟨b1,b2,b3,b4⟩:=b;exact AQ Ah func56 rfl [7,8]<|Ai rfl<|Jf [] [(1,1),(2,2),(3,3)] [] rfl hE Ax rfl rfl<|Ai rfl<|BP ⟨_,Mr⟩
theorem eH {b:Ty} (hE:DL m T k S a b):Tq4 56 [.ref 4 0,.ref 5 0,.ref 6 0] (wQ m T k S a b) (.pan Gn):=by
 unfold DL at hE;obtain ⟨a1,a2,a3,a4⟩:=a;obtain ⟨b1,b2,b3,b4⟩:=b;exact AQ Ah func56 rfl [7,8]<|Ai rfl<|Bd [(1,1),(2,2),(3,3)] rfl (by simp) hE Ax rfl rfl rfl<|By 6 rfl
theorem Rc:Tq3 138 [.sl []] (.sl []):=by
 refine AQ Ah func138 rfl [1]<|Ai rfl<|KM Ah rfl λb hb=>?_;cases b with
 | true =>
  exact yd [.a] rfl (by simp)<|Ab rfl rfl rfl
 | false =>
  exact yd [.a] rfl (by simp)<|TJ Ah rfl<|Ai rfl<|Ab rfl rfl rfl
theorem Kc (es:List (List V)) (hne:es≠[]) (hs:∀c∈es,c.length=4) (hlen:es.length<=1000000):Tq4 138 [.imm (.sl es)] [] (.ret (.own 1 es.length) [(1,some (.row 25 4 es))]):=by
 cases es with
 | nil=>exact absurd rfl hne
 | cons e r =>
  refine AQ Ah func138 rfl [1,2]<|Ai rfl<|KM Ah rfl λb hb=>?_;have hb:b=false:=hb (by simp);subst hb;exact yd [.a] rfl (by simp)<|Bn Ah rfl ⟨hs,by simp only [maxLen,B5] at *;omega,by simp only [B5] at *;omega,λc hc=>by simp at hc,by simp⟩<|Ai rfl<|Ag ⟨_,AH⟩
def nP:V:=.iface 171 (.agg [])
def HB (m:Md) (T:List (Int×Ty)) (k:Int) (S:List Ty) (c:Int):St:=(4,some (.immb 3 1 [.int .i64 c]))::CI m T k S
def RT (m:Md) (T:List (Int×Ty)) (k:Int) (S:List Ty) (t:Ty) (c:Int) (u:Ty) (c':Int):Prop :=
 Tq4 120 [.ref 1 0,.imm (.agg (dTyc t)),.ref 4 0] (HB m T k S c) (.ret (.imm (.agg (dTyc u))) (HB m T k S c'))
def V6 (m:Md) (T:List (Int×Ty)) (k:Int) (S:List Ty) (t:Ty) (c:Int):Prop :=
 Tq4 120 [.ref 1 0,.imm (.agg (dTyc t)),.ref 4 0] (HB m T k S c) (.pan nP)
theorem iE (m:Md) (T:List (Int×Ty)) (k:Int) (S:List Ty) (hs:Sol (BH T) θ) (t:Ty):V6 m T k S t 0:=by
 unfold V6;obtain ⟨u,hu⟩:=L8 hs t;have hA:=Cn m T k S hs t u hu;obtain ⟨t1,t2,t3,t4⟩:=t;obtain ⟨u1,u2,u3,u4⟩:=u;refine AQ Ah func120 rfl [5,6,7,8]<|Ai rfl<|Jf [] [(1,1),(2,2),(3,3)] [] rfl hA Ax rfl rfl<|Ai rfl<|Aa rfl (λh'=>?_) (λh'=>by exfalso;simp at h';revert h';decide);exact Av rfl<|IK rfl rfl rfl rfl
theorem TL (m:Md) (T:List (Int×Ty)) (k:Int) (S:List Ty) (hs:Sol (BH T) θ) (t:Ty) (f n:Int) (x:Str) (hu:Top (BH T) t (.mk f n x [])) (c:Int) (hc:1<=c/\c<=1000000):RT m T k S t c (.mk f n x []) (c-1):=by
 unfold RT;have hA:=Cn m T k S hs t _ hu;have e1:IntKind.i64.wrap (c-1)=c-1:=BW (by omega) (by omega);obtain ⟨t1,t2,t3,t4⟩:=t;refine AQ Ah func120 rfl [5,6,7,8]<|Ai rfl<|Jf [] [(1,1),(2,2),(3,3)] [] rfl hA Ax rfl rfl<|Ai rfl<|Aa rfl (λh'=>by exfalso;simp [e1] at h';omega) (λh'=>?_);refine Av rfl<|Ad rfl Rc<|Ai rfl<|Ak (λ_:Unit=>[(29,.imm (.int .i64 0)),(28,.imm (.int .i64 0)),(7,.imm (.sl [])),(4,.ref 5 0),(6,.ref 6 0)]) (λ_=>(5,some (.immb 25 4 (dTyc (.mk f n x []))))::(6,some (.cells 25 4 [.imm (.int .i64 0),.imm (.int .i64 0),.imm (.str []),.nils]))::HB m T k S (IntKind.i64.wrap (c-1))) [7,8] (λ_=>0) (λ_=>True) ()
  trivial BA GE rfl λ_ _ ih=>?_
 refine Av rfl<|Aa rfl (λh'=>by exfalso;simp at h') (λh'=>?_);exact At rfl<|Av rfl<|Ag ⟨_,rfl,tV rfl,congrArg (λz=>some (some (Blk.immb 3 1 [V.int .i64 z]))) e1,AH⟩
theorem R8 (L:List Ty) (i:Nat) (t:Ty):dTys (L.set i t)=(dTys L).set i (dTyc t):=by simp [CU,List.map_set]
def Pr (m:Md) (T:List (Int×Ty)) (k:Int) (S:List Ty):List Ty->Int->List Ty->Int->Prop
 | [],c,us,c'=>us=[]/\c'=c
 | p::r,c,us,c'=>∃v c1 vs,RT m T k S p c v c1/\us=v::vs/\Pr m T k S r c1 vs c'
theorem iF (m:Md) (T:List (Int×Ty)) (k:Int) (S:List Ty) (hs:Sol (BH T) θ) (t:Ty) (f n:Int) (x:Str) (ps us:List Ty) (hne:ps≠[]) (hl:ps.length<=3) (hu:Top (BH T) t (.mk f n x ps)) (c c':Int) (hc:1<=c/\c<=1000000) (hlu:us.length=ps.length) (hC:Pr m T k S ps (c-1) us c'):RT m T k S t c (.mk f n x us) c':=by
 unfold RT;have hA:=Cn m T k S hs t _ hu;have e1:IntKind.i64.wrap (c-1)=c-1:=BW (by omega) (by omega);have hpe:dTys ps≠[]:=λe=>hne (by have:=congrArg List.length e;simpa using this);have h4:∀c∈dTys ps,c.length=4:=λc hc=>by rw [CU] at hc;obtain ⟨x,_,rfl⟩:=Cc.1 hc;simp
 have hK:=Kc (dTys ps) hpe h4 (by simp;omega);obtain ⟨t1,t2,t3,t4⟩:=t;rw [<- e1] at hC;refine AQ Ah func120 rfl [5,6,7,8,9]<|Ai rfl<|Jf [] [(1,1),(2,2),(3,3)] [] rfl hA Ax rfl rfl<|Ai rfl<|Aa rfl (λh'=>by exfalso;simp [e1] at h';omega) (λh'=>?_);refine Av rfl<|Jf [7] [] [(1,7)] rfl hK trivial rfl rfl<|Ai rfl<|Ak (λz:Nat×Int=>[(29,.imm (.int .i64 z.1)),(28,.imm (.int .i64 ps.length)),(27,.own 7 (dTys ps).length),(7,.own 7 (dTys ps).length),(0,.ref 1 0),(2,.ref 4 0),(4,.ref 5 0),(6,.ref 6 0)])
  (λz=>(5,some (.immb 25 4 (dTyc (.mk f n x ps))))::(6,some (.cells 25 4 [.imm (.int .i64 0),.imm (.int .i64 0),.imm (.str []),.nils]))::(7,some (.row 25 4 (dTys (us.take z.1++ps.drop z.1))))::HB m T k S z.2) [8,9] (λz=>ps.length-z.1)
  (λz=>z.1<=ps.length/\Pr m T k S (ps.drop z.1) z.2 (us.drop z.1) c') (0,IntKind.i64.wrap (c-1))
  ⟨AF _,hC⟩ ⟨rfl,A8 (by simp),GE⟩ F6 rfl λz hz ih=>?_
 clear hC;obtain ⟨j,e⟩:=z;obtain ⟨hj1,hj2⟩:=hz;simp only at hj1 hj2 ih;refine Av rfl<|Aa rfl (λh'=>?_) (λh'=>?_)
 ·have hlt:j<ps.length:=by simp at h';omega
  obtain ⟨p,hp⟩:=Am hlt;rw [As hp,Pr] at hj2;obtain ⟨v,e2,vs,hF,hus,hj2⟩:=hj2;have hv:us[j]?=some v:=by
   have:=congrArg (·[0]?) hus;simpa using this
  have hvs:us.drop (j+1)=vs:=by
   rw [As hv] at hus;exact (List.cons.inj hus).2
  have hlen:(us.take j).length=j:=by rw [FA];omega
  have hg:(dTys (us.take j++ps.drop j))[j]?=some (dTyc p):=AA (by rw [QG (by omega),hlen,LL,ES];simpa using hp);have hset:(dTys (us.take j++ps.drop j)).set j (dTyc v)=dTys (us.take (j+1)++ps.drop (j+1)):=by
   rw [<- R8,OB _ _ (by omega),hlen,LL,As hp,Bk hv];simp
  have hrl:(dTys (us.take j++ps.drop j)).length=(dTys ps).length:=by simp;omega
  have hpl:(dTys ps).length=ps.length:=dTys_length ps;have hih:=ih (j+1,e2) (by simp only;omega) ⟨by simp only;omega,by rw [hvs];exact hj2⟩;unfold RT at hF;simp only [<- hset] at hih;generalize dTys (us.take j++ps.drop j)=R at *;obtain ⟨p1,p2,p3,p4⟩:=p;obtain ⟨v1,v2,v3,v4⟩:=v
  exact Av rfl<|FG Ah rfl (λ_=>⟨by simp,by simp;omega⟩) (by simp [Ap])<|CW rfl<|PN Ah (e:=dTyc (.mk p1 p2 p3 p4)) rfl (λ_=>by simpa using hg) rfl (by simp [Ap])<|Ai rfl<|Jf [] [(1,1),(2,2),(3,3),(4,4)] [] rfl hF JK rfl rfl<|Ai rfl<|FG Ah rfl (λ_=>⟨by simp,by simp;omega⟩) (by simp [Ap])<|CW rfl<|Kj Ah (e:=dTyc (.mk p1 p2 p3 p4)) (e':=dTyc (.mk v1 v2 v3 v4)) rfl (by simpa using hg) (by show 0+4<=4;decide) (by simp) (by simp)<|Ai rfl<|Ae hih ⟨M6,F6⟩ F6 rfl
 ·have hlt:j=ps.length:=by simp at h';omega
  subst hlt;rw [Bh (BL _),Pr] at hj2;obtain ⟨_,e2⟩:=hj2;subst e2;have hrow:us.take ps.length++ps.drop ps.length=us:=by rw [Bh (BL _),HP,CQ (by omega)]
  simp only [hrow];clear ih hrow;exact At rfl<|Bv 7 rfl<|Av rfl<|Ag ⟨_,rfl,tV rfl,BJ⟩
def Pq (m:Md) (T:List (Int×Ty)) (k:Int) (S:List Ty):List Ty->Int->Prop
 | [],_=>False
 | p::r,c=>V6 m T k S p c\/∃v c1,RT m T k S p c v c1/\Pq m T k S r c1
theorem ZZ (m:Md) (T:List (Int×Ty)) (k:Int) (S:List Ty) (hs:Sol (BH T) θ) (t:Ty) (f n:Int) (x:Str) (ps:List Ty) (hne:ps≠[]) (hl:ps.length<=3) (hu:Top (BH T) t (.mk f n x ps)) (c:Int) (hc:1<=c/\c<=1000000) (hC:Pq m T k S ps (c-1)):V6 m T k S t c:=by
 unfold V6;have hA:=Cn m T k S hs t _ hu;have e1:IntKind.i64.wrap (c-1)=c-1:=BW (by omega) (by omega);have hpe:dTys ps≠[]:=λe=>hne (by have:=congrArg List.length e;simpa using this);have h4:∀c∈dTys ps,c.length=4:=λc hc=>by rw [CU] at hc;obtain ⟨x,_,rfl⟩:=Cc.1 hc;simp
 have hK:=Kc (dTys ps) hpe h4 (by simp;omega);obtain ⟨t1,t2,t3,t4⟩:=t;rw [<- e1] at hC;refine AQ Ah func120 rfl [5,6,7,8,9]<|Ai rfl<|Jf [] [(1,1),(2,2),(3,3)] [] rfl hA Ax rfl rfl<|Ai rfl<|Aa rfl (λh'=>by exfalso;simp [e1] at h';omega) (λh'=>?_);refine Av rfl<|Jf [7] [] [(1,7)] rfl hK trivial rfl rfl<|Ai rfl<|Ak (λz:Nat×Int×List Ty=>[(29,.imm (.int .i64 z.1)),(28,.imm (.int .i64 ps.length)),(27,.own 7 (dTys ps).length),(7,.own 7 (dTys ps).length),(0,.ref 1 0),(2,.ref 4 0),(4,.ref 5 0),(6,.ref 6 0)])
  (λz=>(5,some (.immb 25 4 (dTyc (.mk f n x ps))))::(6,some (.cells 25 4 [.imm (.int .i64 0),.imm (.int .i64 0),.imm (.str []),.nils]))::(7,some (.row 25 4 (dTys z.2.2)))::HB m T k S z.2.1) [8,9] (λz=>ps.length-z.1)
  (λz=>z.1<=ps.length/\z.2.2.length=ps.length/\z.2.2.drop z.1=ps.drop z.1/\Pq m T k S (ps.drop z.1) z.2.1) (0,IntKind.i64.wrap (c-1),ps)
  ⟨AF _,rfl,rfl,hC⟩ ⟨rfl,A8 (by simp),GE⟩ F6 rfl λz hz ih=>?_
 clear hC;obtain ⟨j,e,R0⟩:=z;obtain ⟨hj1,hjl,hjd,hj2⟩:=hz;simp only at hj1 hjl hjd hj2 ih;refine Av rfl<|Aa rfl (λh'=>?_) (λh'=>?_)
 ·have hlt:j<ps.length:=by simp at h';omega
  obtain ⟨p,hp⟩:=Am hlt;rw [As hp,Pq] at hj2;have hR:R0[j]?=some p:=by
   have:=congrArg (·[0]?) hjd;simp only [ES,I5] at this;rw [this,hp]
  have hg:(dTys R0)[j]?=some (dTyc p):=AA hR;have hrl:(dTys R0).length=(dTys ps).length:=by simp;omega
  have hpl:(dTys ps).length=ps.length:=dTys_length ps;have hih:=λ(v:Ty) (e2:Int) (h2:Pq m T k S (ps.drop (j+1)) e2)=>ih (j+1,e2,R0.set j v) (by simp only;omega) ⟨by simp only;omega,by simpa using hjl,by
   show (R0.set j v).drop (j+1)=ps.drop (j+1);rw [List.drop_set,if_pos (by omega)];have:=congrArg (·.drop 1) hjd;simpa [mT,Nat.add_comm] using this,h2⟩
  simp only [R8] at hih;generalize dTys R0=R at *;clear hR hjd;obtain ⟨p1,p2,p3,p4⟩:=p;refine Av rfl<|FG Ah rfl (λ_=>⟨by simp,by simp;omega⟩) (by simp [Ap])<|CW rfl<|PN Ah (e:=dTyc (.mk p1 p2 p3 p4)) rfl (λ_=>by simpa using hg) rfl (by simp [Ap])<|Ai rfl ?_;rcases hj2 with hF | ⟨v,e2,hF,hj2⟩
  ·unfold V6 at hF;exact Bd [(1,1),(2,2),(3,3),(4,4)] rfl (by simp) hF JK rfl rfl rfl<|By 39 rfl
  ·unfold RT at hF;have hihv:=hih v e2 hj2;obtain ⟨v1,v2,v3,v4⟩:=v;exact Jf [] [(1,1),(2,2),(3,3),(4,4)] [] rfl hF JK rfl rfl<|Ai rfl<|FG Ah rfl (λ_=>⟨by simp,by simp;omega⟩) (by simp [Ap])<|CW rfl<|Kj Ah (e:=dTyc (.mk p1 p2 p3 p4)) (e':=dTyc (.mk v1 v2 v3 v4)) rfl (by simpa using hg) (by show 0+4<=4;decide) (by simp) (by simp)<|Ai rfl<|Ae hihv ⟨M6,F6⟩ F6 rfl
 ·have hlt:j=ps.length:=by simp at h';omega
  subst hlt;rw [Bh (BL _),Pq] at hj2;exact hj2.elim
def yV (m:Md) (T:List (Int×Ty)) (k:Int) (S:List Ty) (θ:Int->Ty) (t:Ty) (c:Int):Prop :=
 ((DH (A9 θ t):Int)<=c->RT m T k S t c (A9 θ t) (c-DH (A9 θ t)))/\(c<(DH (A9 θ t):Int)->V6 m T k S t c)
theorem Ro {m:Md} {T:List (Int×Ty)} {k:Int} {S:List Ty} {θ:Int->Ty}:∀(ps:List Ty) (c:Int),0<=c->(∀p∈ps,∀c,0<=c->c<=1000000->yV m T k S θ p c)->c<=1000000 ->
  ((CX (Db θ ps):Int)<=c->Pr m T k S ps c (Db θ ps) (c-CX (Db θ ps)))/\(c<(CX (Db θ ps):Int)->Pq m T k S ps c)
 | [],c,h0,_,_=>by
  refine ⟨λ_=>?_,λh=>?_⟩
  ·rw [Pr];exact ⟨rfl,by simp [Db,CX]⟩
  ·simp [Db,CX] at h;omega
 | p::r,c,h0,hp,hc=>by
  have h1:=hp p (by simp) c h0 hc;have hpos:0<=(DH (A9 θ p):Int):=by omega
  refine ⟨λh=>?_,λh=>?_⟩
  ·simp only [Db,CX] at h ⊢;have h2:=(Ro (m:=m) (T:=T) (k:=k) (S:=S) (θ:=θ) r (c-DH (A9 θ p)) (by omega) (λq hq=>hp q (by simp [hq])) (by omega)).1 (by omega);rw [Pr];refine ⟨_,_,_,h1.1 (by omega),rfl,?_⟩;rw [show c-((DH (A9 θ p)+CX (Db θ r):Nat):Int)=c-DH (A9 θ p)-CX (Db θ r) by omega];exact h2
  ·simp only [Db,CX] at h;rw [Pq];by_cases hb:c<(DH (A9 θ p):Int)
   ·exact .inl (h1.2 hb)
   ·have h2:=(Ro (m:=m) (T:=T) (k:=k) (S:=S) (θ:=θ) r (c-DH (A9 θ p)) (by omega) (λq hq=>hp q (by simp [hq])) (by omega)).2 (by omega);exact .inr ⟨_,_,h1.1 (by omega),h2⟩
theorem oW (m:Md) (T:List (Int×Ty)) (k:Int) (S:List Ty) (hs:Sol (BH T) θ):∀(s:Nat) (t:Ty),DH (A9 θ t)<=s->C9 t=true->∀c,0<=c->c<=1000000->yV m T k S θ t c:=by
 intro s
 induction s with
 | zero=>intro t h;have:=HE (A9 θ t);omega
 | succ s IH =>
 intro t ht hw c h0 hc;have hpos:=HE (A9 θ t);by_cases hz:c=0
 ·subst hz;exact ⟨λh=>by omega,λ_=>iE m T k S hs t⟩
 obtain ⟨u,hu⟩:=L8 hs t;have he:A9 θ t=A9 θ u:=hu.ap hs.eq;have hwu:=hu.wf hs hw;rw [he] at ht hpos;unfold yV;rw [he];by_cases h9:BQ u=9
 ·have eu:=E7 hwu h9;have hfree:=hu.end_ h9;have ea:A9 θ u=u:=by rw [GK h9,hs.free _ hfree];exact eu.symm
  rw [ea];rw [eu] at hu ⊢;refine ⟨λ_=>?_,λh=>?_⟩
  ·have:=TL m T k S hs t 9 (num u) [] hu c ⟨by omega,hc⟩;simpa [Ao,DH,CX] using this
  ·simp [Ao,DH,CX] at h;omega
 ·obtain ⟨f,n,x,ps⟩:=u;simp only [BQ] at h9;have hlen:=Ie hwu;have hpw:=EU hwu;simp only [Ff] at hlen hpw;have ea:A9 θ (.mk f n x ps) = .mk f n x (Db θ ps):=by simp only [A9,if_neg h9]
  rw [ea] at ht ⊢;simp only [DH] at ht ⊢;by_cases hne:ps=[]
  ·subst hne;refine ⟨λ_=>?_,λh=>?_⟩
   ·have:=TL m T k S hs t f n x hu c ⟨by omega,hc⟩;simpa [Db,CX] using this
   ·simp [Db,CX] at h;omega
  ·have hF:=Ro (m:=m) (T:=T) (k:=k) (S:=S) (θ:=θ) ps (c-1) (by omega) (λp hp c h0 hc=>IH p (by
    have:=Qk (UU (f:=A9 θ) hp);rw [<- Ib] at this;omega) (hpw p hp) c h0 hc) (by omega)
   refine ⟨λh=>?_,λh=>?_⟩
   ·have hk:=hF.1 (by omega);have:=iF m T k S hs t f n x ps (Db θ ps) hne hlen hu c _ ⟨by omega,hc⟩ (by rw [Ib,Dh]) hk;rw [show c-((1+CX (Db θ ps):Nat):Int)=c-1-CX (Db θ ps) by omega];exact this
   ·exact ZZ m T k S hs t f n x ps hne hlen hu c ⟨by omega,hc⟩ (hF.2 (by omega))
mutual
def GD:Ty->List Ty
 | .mk f n x ps=>.mk f n x ps::CG ps
def CG:List Ty->List Ty
 | []=>[]
 | t::r=>GD t++CG r
end
def D8 (l:List Ty):List D:=l.map λu=>.imm (.agg (dTyc u))
theorem RX (a b:List Ty):D8 (a++b)=D8 a++D8 b:=by simp [D8]
def Wz (r:St):St:=(1,some (.cells 26 1 [.yld 3]))::(2,some (.cells 26 1 [.fn (.func 140) [] [.ref 1 0,.ref 2 0]]))::r
def xN (t:Ty) (b:Bool) (S S':Bun):Prop:=IR prog 140 [.imm (.agg (dTyc t)),.ref 1 0,.ref 2 0]
 (Wz [(3,some .pin),(4,some (.bun 3 S))]) (.ret (.imm (.bool b)) (Wz [(3,some .pin),(5,some (.bun 3 S'))]))
theorem mI (s n:Int) (x:Str) (ps:List Ty) (IH:∀t∈ps,∀{b:Bool} {S S':Bun},Yields prog (D8 (GD t)) S b S'->xN t b S S') {b:Bool} {S S':Bun} (hY:Yields prog (D8 (CG ps)) S b S') :
  Tq2 Tryz.f140.ntmps [1,2,3,4] (Lb Yj Tryz.f140.results.toList (.ret (.imm (.bool b)) (Wz [(3,some .pin),(5,some (.bun 3 S'))])))
   [.code (Gx Tryz.f140 2)] [(3,.ref 8 0),(1,.ref 1 0),(2,.ref 2 0)] ((8,some (.immb 25 4 (dTyc (.mk s n x ps))))::Wz [(3,some .pin),(6,some (.bun 3 S))]) [7,9,10,11,5]:=by
 refine Pu rfl<|FN (t:=12) rfl λhv=>?_;have hlen:ps.length<=9223372036854775807:=by simp [Ez,maxLen] at hv;omega
 refine Ak (λy:Nat×Bun=>[(14,.imm (.int .i64 y.1)),(13,.imm (.int .i64 ps.length)),(12,.imm (.sl (dTys ps))),(1,.ref 1 0),(2,.ref 2 0)])
  (λy=>Wz [(3,some .pin),(6,some (.bun 3 y.2))]) [7,9,10,11,5] (λy=>ps.length-y.1)
  (λy=>y.1<=ps.length/\Yields prog (D8 (CG (ps.drop y.1))) y.2 b S') (0,S) ⟨AF _,hY⟩ ⟨rfl,A8 (by simp),AH⟩ BJ rfl λy hi ih=>?_
 obtain ⟨i,S0⟩:=y;obtain ⟨hi1,hi2⟩:=hi;simp only at hi1 hi2;refine Pu rfl<|Aa rfl (λh=>?_) (λh=>?_)
 ·simp at h;obtain ⟨t,ht⟩:=Am h;have hd:ps.drop i=t::ps.drop (i+1):=As ht;rw [hd,CG,RX] at hi2;obtain ⟨t1,t2,t3,t4⟩:=t;refine Pu rfl<|HA rfl (AA ht)<|CW rfl ?_;rcases Yields.split hi2 with ⟨S1,q1,q2⟩ | ⟨q1,q2⟩
  ·exact Jf [9] [(1,1),(2,2),(3,3),(6,4)] [(5,9)] rfl (IH _ (AK ht) q1) JK rfl rfl<|Ai rfl<|R7 rfl λh=>Av rfl<|Bo 6 9 rfl<|Ae (ih (i+1,S1) (by simp only;omega) ⟨by simp only;omega,q2⟩) ⟨A8 (BW (by simp only;omega) (by simp only;omega)),BJ⟩ BJ rfl
  ·subst q1;exact Jf [9] [(1,1),(2,2),(3,3),(6,4)] [(5,9)] rfl (IH _ (AK ht) q2) JK rfl rfl<|Ai rfl<|R6 rfl λh=>Av rfl<|KN (ids':=[]) 9 5 rfl rfl<|Ag ⟨_,rfl,tV rfl,BJ⟩
 ·simp at h;have hd:ps.drop i=[]:=Bh (by omega);rw [hd] at hi2;obtain ⟨rfl,rfl⟩:=Yields.nilInv hi2;exact At rfl<|Av rfl<|KN (ids':=[]) 6 5 rfl rfl<|Ag ⟨_,rfl,tV rfl,BJ⟩
theorem mJ:∀(t:Ty) {b:Bool} {S S':Bun},Yields prog (D8 (GD t)) S b S'->xN t b S S'
 | .mk s n x ps,b,S,S',hY=>by
  have IH:∀t∈ps,∀{b:Bool} {S S':Bun},Yields prog (D8 (GD t)) S b S'->xN t b S S':=λt ht {b S S'} h=>mJ t h;refine Ac Ah func140 (by decide +kernel) rfl [8,6,7,9,10,11,5] rfl rfl ?_;refine CW rfl ?_;have e:D8 (GD (.mk s n x ps)) = .imm (.agg (dTyc (.mk s n x ps)))::D8 (CG ps):=rfl;rw [e] at hY;cases hY with
  | cons h h1 =>
   refine dB (j:=4) (j2:=6) rfl (by simp [Ap]) (by simp [Ap]) h rfl rfl rfl rfl rfl ?_;refine Ai rfl ?_;refine R7 rfl λh=>?_;refine Nh ?_;exact Ae (mI s n x ps IH h1) ⟨rfl,rfl,rfl,trivial⟩ ⟨rfl,rfl,rfl,rfl,rfl,trivial⟩ rfl
  | stop h =>
   refine dB (j:=4) (j2:=6) rfl (by simp [Ap]) (by simp [Ap]) h rfl rfl rfl rfl rfl ?_;refine Ai rfl ?_;refine R6 rfl λh=>?_;refine Av rfl ?_;refine KN (ids':=[]) 6 5 rfl rfl ?_;exact Ag ⟨_,rfl,tV rfl,rfl,rfl,rfl,rfl,trivial⟩
termination_by t=>SizeOf.sizeOf t
decreasing_by
 all_goals
  have:=List.sizeOf_lt_of_mem ht;simp_wf;omega
def FX (t:Ty):St:=[(6,some (.immb 25 4 (dTyc t)))]
theorem NO (t:Ty) {b:Bool} {S S':Bun} (hY:Yields prog (D8 (GD t)) S b S') :
  Tq4 139 [.yld 3,.ref 6 0] ((3,some .pin)::(4,some (.bun 3 S))::FX t) (.ret (.tup []) ((3,some .pin)::(5,some (.bun 3 S'))::FX t)):=by
 have hC:=mJ t hY;obtain ⟨t1,t2,t3,t4⟩:=t;exact AQ Ah func139 rfl [1,2,7,5]<|CW rfl<|Jf [7] [(1,1),(2,2),(3,3),(4,4)] [(5,7)] rfl hC JK rfl rfl<|CW rfl<|KN (ids':=[]) 7 5 rfl rfl<|BP ⟨[],BA⟩
theorem Tz (t:Ty):Tq4 77 [.imm (.agg (dTyc t))] [] (.ret (.fn (.func 139) [] [.ref 6 0]) (FX t)):=by
 obtain ⟨t1,t2,t3,t4⟩:=t;exact AQ Ah func77 rfl [6]<|CW rfl<|Ag ⟨_,AH⟩
mutual
def FI:Ty->Ty
 | .mk f n x ps=>.mk (if f=9 then 10 else f) n x (Lw ps)
def Lw:List Ty->List Ty
 | []=>[]
 | t::r=>FI t::Lw r
end
theorem Rr:∀l:List Ty,Lw l=l.map FI
 | []=>rfl
 | t::r=>by simp [Lw,Rr r]
theorem WV:∀t:Ty,C9 t=true->Tq3 76 [.agg (dTyc t)] (.agg (dTyc (FI t)))
 | .mk f n x ps,hw=>by
  have hl:=Ie hw;simp only [Ff] at hl;have IH:∀t∈ps,Tq3 76 [.agg (dTyc t)] (.agg (dTyc (FI t))):=λt ht=>WV t (EU hw t (by simpa [Ff] using ht));clear hw;have node:∀g:Int,(if f=9 then 10 else f)=g ->
   Tq2 Tryz.f76.ntmps (DY []) (Lb Yj Tryz.f76.results.toList (.ret (.imm (.agg (dTyc (FI (.mk f n x ps))))) []))
    [.code (Gx Tryz.f76 2)] [(1,.ref 1 0),(2,.ref 2 0)] [(1,some (.immb 25 4 (dTyc (.mk g n x ps)))),(2,some (.cells 25 4 [.imm (.int .i64 0),.imm (.int .i64 0),.imm (.str []),.nils]))] [7,8,9,10]:=λg hg=>by
   rw [FI,hg,Rr];clear hg;refine Av rfl ?_;cases ps with
   | nil =>
    refine Ad rfl Rc<|Ai rfl<|Ak (λ_:Unit=>[(15,.imm (.int .i64 0)),(14,.imm (.int .i64 0)),(3,.imm (.sl [])),(1,.ref 1 0),(2,.ref 2 0)]) (λ_=>[(1,some (.immb 25 4 (dTyc (.mk g n x [])))),(2,some (.cells 25 4 [.imm (.int .i64 0),.imm (.int .i64 0),.imm (.str []),.nils]))]) [7,8,9,10] (λ_=>0) (λ_=>True) ()
     trivial BA AD rfl λ_ _ ih=>?_
    refine Av rfl<|Aa rfl (λh'=>by exfalso;simp at h') (λh'=>?_);exact At rfl<|Av rfl<|Ab rfl rfl rfl
   | cons p0 r0 =>
    generalize hps:p0::r0=ps at *;have hne:ps≠[]:=by rw [<- hps];simp
    clear hps;have hpe:dTys ps≠[]:=λe=>hne (by have:=congrArg List.length e;simpa using this);have h4:∀c∈dTys ps,c.length=4:=λc hc=>by rw [CU] at hc;obtain ⟨x,_,rfl⟩:=Cc.1 hc;simp
    have hK:=Kc (dTys ps) hpe h4 (by simp;omega);refine Jf [7] [] [(1,7)] rfl hK trivial rfl rfl<|Ai rfl<|Ak (λz:Nat=>[(15,.imm (.int .i64 z)),(14,.imm (.int .i64 ps.length)),(13,.own 7 (dTys ps).length),(3,.own 7 (dTys ps).length),(1,.ref 1 0),(2,.ref 2 0)])
     (λz=>[(1,some (.immb 25 4 (dTyc (.mk g n x ps)))),(2,some (.cells 25 4 [.imm (.int .i64 0),.imm (.int .i64 0),.imm (.str []),.nils])),(7,some (.row 25 4 (dTys ((ps.map FI).take z++ps.drop z))))]) [8,9,10] (λz=>ps.length-z)
     (λz=>z<=ps.length) 0
     (AF _) ⟨rfl,A8 (by simp),BJ⟩ AH rfl λj hj1 ih=>?_
    refine Av rfl<|Aa rfl (λh'=>?_) (λh'=>?_)
    ·have hlt:j<ps.length:=by simp at h';omega
     obtain ⟨p,hp⟩:=Am hlt;have hv:(ps.map FI)[j]?=some (FI p):=by simp [hp]
     have hlen:((ps.map FI).take j).length=j:=by rw [FA,Dh];omega
     have hg:(dTys ((ps.map FI).take j++ps.drop j))[j]?=some (dTyc p):=AA (by rw [QG (by omega),hlen,LL,ES];simpa using hp);have hset:(dTys ((ps.map FI).take j++ps.drop j)).set j (dTyc (FI p))=dTys ((ps.map FI).take (j+1)++ps.drop (j+1)):=by
      rw [<- R8,OB _ _ (by omega),hlen,LL,As hp,Bk hv];simp
     have hrl:(dTys ((ps.map FI).take j++ps.drop j)).length=(dTys ps).length:=by simp;omega
     have hpl:(dTys ps).length=ps.length:=dTys_length ps;have hih:=ih (j+1) (by omega) (by omega);have hF:=IH p (AK hp);simp only [<- hset] at hih;generalize dTys ((ps.map FI).take j++ps.drop j)=R at *;generalize FI p=v at *;obtain ⟨p1,p2,p3,p4⟩:=p;obtain ⟨v1,v2,v3,v4⟩:=v;exact Av rfl<|FG Ah rfl (λ_=>⟨by simp,by simp;omega⟩) (by simp [Ap])<|CW rfl<|PN Ah (e:=dTyc (.mk p1 p2 p3 p4)) rfl (λ_=>by simpa using hg) rfl (by simp [Ap])<|Ai rfl<|Ad rfl hF<|Ai rfl<|FG Ah rfl (λ_=>⟨by simp,by simp;omega⟩) (by simp [Ap])<|CW rfl<|Kj Ah (e:=dTyc (.mk p1 p2 p3 p4)) (e':=dTyc (.mk v1 v2 v3 v4)) rfl (by simpa using hg) (by show 0+4<=4;decide) (by simp) (by simp)<|Ai rfl<|Ae hih ⟨M6,BA⟩ AH rfl
    ·have hlt:j=ps.length:=by simp at h';omega
     subst hlt;have hrow:(ps.map FI).take ps.length++ps.drop ps.length=ps.map FI:=by rw [Bh (BL _),HP,CQ (by simp)]
     simp only [hrow];clear ih hrow;exact At rfl<|Bv 7 rfl<|Av rfl<|Ab rfl rfl rfl
  refine AQ Ah func76 rfl [1,2,7,8,9,10]<|Ai rfl ?_;by_cases h9:f=9
  ·subst h9;exact R6 rfl λh=>yZ 4 rfl (by simp)<|Ae (node 10 rfl) AD AD rfl
  ·refine Aa rfl (λh=>by exfalso;simp at h;exact h9 h) (λh=>?_);exact Nh<|Ae (node f (if_neg h9)) AD AD rfl
termination_by t=>SizeOf.sizeOf t
decreasing_by
 have:=Ct ht;simp_wf;omega
inductive Tr where
 | nd (f n:Int) (x:Str) (v:Value) (ks:List Tr)
 | im (cs:List Value) (c:List V)
 | gp (f n:Int) (x:Str) (v:Value)
def cT:Tr->List Value
 | .nd f n x v _=>[.int .i64 f,.int .i64 n,rO x,v]
 | .im cs _=>cs
 | .gp f n x v=>[.int .i64 f,.int .i64 n,rO x,v]
mutual
def VA (I:Imm) (w:World):Tr->Prop
 | .nd _ _ _ v ks=>Wg w 25 4 v ks.length/\IV I w (F0 v) 0 ks
 | .im cs c=>RepVL I cs c/\(∀y∈cs,y.oneCell'=true)/\c.length=4
 | .gp _ _ _ v=>v.oneCell'=true
def IV (I:Imm) (w:World) (b:Nat):Nat->List Tr->Prop
 | _,[]=>True
 | i,a::r=>(uQ w b (i*4) (cT a)/\VA I w a)/\IV I w b (i+1) r
end
mutual
def Yk:Tr->List Nat
 | .nd _ _ _ v ks=>Hs v ks.length++GM ks
 | .im _ _=>[]
 | .gp _ _ _ _=>[]
def GM:List Tr->List Nat
 | []=>[]
 | a::r=>Yk a++GM r
end
mutual
def Xc:Tr->Ty->Prop
 | .nd f n x _ ks,.mk f' n' x' ps=>f=f'/\n=n'/\x=x'/\IC ks ps
 | _,_=>False
def IC:List Tr->List Ty->Prop
 | [],[]=>True
 | a::r,t::q=>Xc a t/\IC r q
 | _,_=>False
end
theorem ML:∀{l:List Tr} {q:List Ty},IC l q->l.length=q.length
 | [],[],_=>rfl
 | _::_,_::_,h=>by simp only [IC] at h;simp [ML h.2]
 | [],_::_,h=>by simp [IC] at h
 | _::_,[],h=>by simp [IC] at h
theorem IB:∀{l:List Tr} {q:List Ty},IC l q↔l.length=q.length/\∀(i:Nat) a t,l[i]?=some a->q[i]?=some t->Xc a t
 | [],[]=>by simp [IC]
 | a::r,t::q=>by
  simp only [IC,IB (l:=r) (q:=q),Cq,Nat.add_right_cancel_iff];constructor
  ·rintro ⟨h1,h2,h3⟩;refine ⟨h2,λi a' t' ha ht=>?_⟩
   match i,ha,ht with
   | 0,ha,ht=>simp at ha ht;rw [<- ha,<- ht];exact h1
   | i+1,ha,ht=>exact h3 i a' t' (by simpa using ha) (by simpa using ht)
  ·rintro ⟨h2,h3⟩;exact ⟨h3 0 a t rfl rfl,h2,λi a' t' ha ht=>h3 (i+1) a' t' (by simpa using ha) (by simpa using ht)⟩
 | [],_::_=>by simp [IC]
 | _::_,[]=>by simp [IC]
theorem Fb {I:Imm} {w:World} {b:Nat}:∀{gs:List Tr} {i:Nat},IV I w b i gs↔∀(j:Nat) a,gs[j]?=some a->uQ w b ((i+j)*4) (cT a)/\VA I w a
 | [],i=>by simp [IV]
 | x::r,i=>by
  simp only [IV,Fb (gs:=r) (i:=i+1)];constructor
  ·rintro ⟨h1,h2⟩ j a ha
   match j,ha with
   | 0,ha=>simp at ha;rw [<- ha];exact h1
   | j+1,ha=>rw [show i+(j+1)=i+1+j by omega];exact h2 j a (by simpa using ha)
  ·intro h;exact ⟨h 0 x rfl,λj a ha=>by rw [show i+1+j=i+(j+1) by omega];exact h (j+1) a (by simpa using ha)⟩
theorem M7 {k:Nat}:∀{gs:List Tr},k∈GM gs↔∃a∈gs,k∈Yk a
 | []=>by simp [GM]
 | x::r=>by simp [GM,M7 (gs:=r)]
mutual
theorem Uq {I:Imm} {w w':World}:∀{a:Tr},(∀k∈Yk a,w'.heap[k]?=w.heap[k]?)->VA I w a->VA I w' a
 | .im _ _,_,h=>h
 | .gp _ _ _ _,_,h=>h
 | .nd f n x v ks,h,ha=>by
  simp only [VA] at ha ⊢;simp only [Yk,BU] at h;exact ⟨Wf (λk hk=>h k (.inl hk)) ha.1,Qf (λhne=>h (F0 v) (.inl (by cases ks with | nil=>exact absurd rfl hne | cons=>simp [Hs]))) (λk hk=>h k (.inr hk)) ha.2⟩
theorem Qf {I:Imm} {w w':World} {b:Nat}:∀{gs:List Tr} {i:Nat},(gs≠[]->w'.heap[b]?=w.heap[b]?)->(∀k∈GM gs,w'.heap[k]?=w.heap[k]?)->IV I w b i gs->IV I w' b i gs
 | [],_,_,_,_=>by simp [IV]
 | a::r,i,hb,h,ha=>by
  simp only [IV] at ha ⊢;simp only [GM,BU] at h;exact ⟨⟨uO (hb (by simp)) ha.1.1,Uq (λk hk=>h k (.inl hk)) ha.1.2⟩,Qf (λ_=>hb (by simp)) (λk hk=>h k (.inr hk)) ha.2⟩
end
mutual
theorem kI {I J:Imm} {w:World} (h:I.le J):∀{a:Tr},VA I w a->VA J w a
 | .nd f n x v ks,ha=>by
  simp only [VA] at ha ⊢;exact ⟨ha.1,N8 h ha.2⟩
 | .im cs c,ha=>⟨ha.1.mono h,ha.2⟩
 | .gp _ _ _ _,ha=>ha
theorem N8 {I J:Imm} {w:World} (h:I.le J) {b:Nat}:∀{gs:List Tr} {i:Nat},IV I w b i gs->IV J w b i gs
 | [],_,_=>by simp [IV]
 | a::r,i,ha=>by
  simp only [IV] at ha ⊢;exact ⟨⟨ha.1.1,kI h ha.1.2⟩,N8 h ha.2⟩
end
theorem pW {a:Tr} (h:VA I w a):(cT a).length=4:=by
 cases a with
 | nd f n x v ks=>rfl
 | im cs c=>simp only [VA] at h;exact h.1.1.trans h.2.2
 | gp f n x v=>rfl
theorem yM {a:Tr} (h:VA I w a):∀c∈cT a,c.oneCell'=true:=by
 cases a with
 | im cs c=>simp only [VA] at h;exact h.2.1
 | nd f n x v ks =>
  simp only [VA] at h;have h1:=We h.1;intro c hc;simp only [cT,CA,LJ,or_false] at hc;rcases hc with rfl | rfl | rfl | rfl <;> first | rfl | exact h1
 | gp f n x v =>
  intro c hc;simp only [cT,CA,LJ,or_false] at hc;rcases hc with rfl | rfl | rfl | rfl <;> first | rfl | exact h
def Fv (v:Value) (gs:List Tr):Asn where
 P:=λ_ I w bs=>Wg w 25 4 v gs.length/\IV I w (F0 v) 0 gs/\bs=Hs v gs.length++GM gs/\bs.Nodup
 mono:=λh ⟨h1,h2,h3⟩=>⟨h1,N8 h h2,h3⟩
 loc:=λ{vs I w w' bs} h ⟨h1,h2,h3,h4⟩=>⟨Wf (λk hk=>h k (by rw [h3];simp [hk])) h1,Qf (λhne=>h _ (by rw [h3];cases gs with | nil=>exact absurd rfl hne | cons=>simp [Hs])) (λk hk=>h k (by rw [h3];simp [hk])) h2,h3,h4⟩
def J7 (ps:List Ty):Asn where
 P:=λvs I w bs=>∃v ks,IC ks ps/\vs=[v]/\(Fv v ks).P [] I w bs
 mono:=λh ⟨v,ks,h1,h2,h3⟩=>⟨v,ks,h1,h2,(Fv v ks).mono h h3⟩
 loc:=λh ⟨v,ks,h1,h2,h3⟩=>⟨v,ks,h1,h2,(Fv v ks).loc h h3⟩
def Rh:List (List Value)->List (List V)->List Tr
 | cs::r,c::q=>.im cs c::Rh r q
 | _,_=>[]
def LZ (es:List (List V)):Asn where
 P:=λvs I w bs=>∃v css,css.length=es.length/\vs=[v]/\(Fv v (Rh css es)).P [] I w bs
 mono:=λh hx=>by
  obtain ⟨v,css,h1,h2,h3⟩:=hx;exact ⟨v,css,h1,h2,(Fv v (Rh css es)).mono h h3⟩
 loc:=λh hx=>by
  obtain ⟨v,css,h1,h2,h3⟩:=hx;exact ⟨v,css,h1,h2,(Fv v (Rh css es)).loc h h3⟩
theorem cX:∀{css:List (List Value)} {es:List (List V)} {i:Nat},css.length=es.length->(Rh css es)[i]?=match css[i]?,es[i]? with | some cs,some c=>some (.im cs c) | _,_=>none
 | [],[],i,_=>by simp [Rh]
 | cs::r,c::q,0,_=>rfl
 | cs::r,c::q,i+1,h=>by simpa [Rh] using cX (css:=r) (es:=q) (i:=i) (by simpa using h)
 | [],_::_,_,h=>by cases h
 | _::_,[],_,h=>by cases h
theorem Jl:∀{css:List (List Value)} {es:List (List V)},css.length=es.length->(Rh css es).length=es.length
 | [],[],_=>rfl
 | cs::r,c::q,h=>by simp [Rh,Jl (css:=r) (es:=q) (by simpa using h)]
 | [],_::_,h=>by cases h
 | _::_,[],h=>by cases h
theorem wH:∀{css:List (List Value)} {es:List (List V)},GM (Rh css es)=[]
 | [],_=>by simp [Rh,GM]
 | _::_,[]=>by simp [Rh,GM]
 | cs::r,c::q=>by simp [Rh,GM,Yk,wH (css:=r) (es:=q)]
theorem Ud {bs:List Nat} (h0:es=[]->∃v,vs=[v]/\bs=[]/\(∃a c,v = .slice a 0 c)/\∀I,RepV I v (.sl [])) (h:es≠[]->∃b cap cur,vs=[.slice (some ⟨b,0,none⟩) es.length cap]/\bs=[b]/\w.heap[b]?=some (.cells cur 25 (0,0))/\es.length<=cap/\cap<=maxLen/\cur.size=cap*4 /\
   ∀(j:Nat) (e:List V),es[j]?=some e->∃cs:List Value,(∀(i:Nat) (c:Value),cs[i]?=some c->cur[j*4+i]?=some c)/\RepVL I cs e/\(∀c∈cs,c.oneCell'=true)/\e.length=4):(LZ es).P vs I w bs:=by
 by_cases hne:es=[]
 ·obtain ⟨v,rfl,rfl,h1,h2⟩:=h0 hne;subst hne;exact ⟨v,[],rfl,rfl,.inl ⟨rfl,h1,h2⟩,by simp [Rh,IV],by simp [Rh,Hs,GM],.nil⟩
 ·obtain ⟨b,cap,cur,rfl,rfl,h1,h2,h3,h4,h5⟩:=h hne;have key:∀(l:List (List V)) (o:Nat),(∀(j:Nat) (e:List V),l[j]?=some e->∃cs:List Value,(∀(i:Nat) (c:Value),cs[i]?=some c->cur[(o+j)*4+i]?=some c)/\RepVL I cs e/\(∀c∈cs,c.oneCell'=true)/\e.length=4) ->
    ∃css:List (List Value),css.length=l.length/\IV I w b o (Rh css l):=by
   intro l
   induction l with
   | nil=>exact λo _=>⟨[],rfl,by simp [Rh,IV]⟩
   | cons e r ih =>
    intro o hl;obtain ⟨cs,q1,q2,q3,q4⟩:=hl 0 e rfl;obtain ⟨css,e1,e2⟩:=ih (o+1) λj e' he'=>by
     have:=hl (j+1) e' (by simpa using he')
     rwa [show o+(j+1)=o+1+j by omega] at this
    refine ⟨cs::css,by simp [e1],?_⟩;simp only [Rh,IV];exact ⟨⟨⟨cur,_,_,h1,λi c hc=>by simpa using q1 i c hc⟩,q2,q3,q4⟩,e2⟩
  obtain ⟨css,e1,e2⟩:=key es 0 λj e he=>by rw [Dw];exact h5 j e he
  have hpos:0<es.length:=by cases es with | nil=>exact absurd rfl hne | cons=>simp
  refine ⟨_,css,e1,rfl,.inr ⟨by rw [Jl e1];exact hpos,b,cap,cur,by rw [Jl e1],h1,by rw [Jl e1];exact h2,h3,h4⟩,e2,?_,by simp⟩;rw [Jl e1,wH];cases hl:es.length with
  | zero=>omega
  | succ n=>simp [Hs,F0]
theorem bU {bs:List Nat} {gs:List Tr} (h:(Fv v gs).P vs I w bs) {i:Nat} {a:Tr} (ha:gs[i]?=some a):∃cur ty k,w.heap[F0 v]?=some (.cells cur ty k)/\(∀(j:Nat) (c:Value),(cT a)[j]?=some c->cur[i*4+j]?=some c)/\VA I w a:=by
 obtain ⟨h1,h2⟩:=Fb.1 h.2.1 i a ha;obtain ⟨cur,ty,k,q1,q2⟩:=h1;rw [Dw] at q2;exact ⟨cur,ty,k,q1,q2,h2⟩
theorem Y5 {bs:List Nat} {gs:List Tr} (h:(Fv v gs).P vs I w bs) {i:Nat} {cs:List Value} (ha:gs[i]?=some (.im cs c)):PV I w (F0 v) (i*4) (c.map .imm):=by
 obtain ⟨cur,ty,k,q1,q2,h3,h4,h5⟩:=bU h ha;refine ⟨cur,ty,k,q1,λj d hd=>?_⟩;rw [Et] at hd;cases hx:c[j]? with
 | none=>rw [hx] at hd;cases hd
 | some x =>
  rw [hx] at hd;cases hd;have hlt:j<cs.length:=by rw [h3.1];exact (AO.1 hx).1
  have hc:=Bw hlt;exact ⟨_,q2 j _ hc,h4 _ (AK hc),.imm _ _ (h3.2 j _ x hc hx)⟩
theorem Y6 {bs:List Nat} {gs:List Tr} (h:(Fv v gs).P vs I w bs) {i:Nat} {f n:Int} {u:Value} (ha:gs[i]?=some (.gp f n x u)):PV I w (F0 v) (i*4) [.imm (.int .i64 f),.imm (.int .i64 n),.imm (.str x),.raw u]:=by
 obtain ⟨cur,ty,k,q1,q2,h3⟩:=bU h ha;refine ⟨cur,ty,k,q1,λj d hd=>?_⟩
 match j,hd with
 | 0,hd=>cases hd;exact ⟨_,q2 0 _ rfl,rfl,.imm _ _ (.int _ _)⟩
 | 1,hd=>cases hd;exact ⟨_,q2 1 _ rfl,rfl,.imm _ _ (.int _ _)⟩
 | 2,hd=>cases hd;exact ⟨_,q2 2 _ rfl,rfl,.imm _ _ (.encStr _ _)⟩
 | 3,hd=>cases hd;exact ⟨_,q2 3 _ rfl,h3,.raw _ h3⟩
 | j+4,hd=>simp at hd
theorem Mt {bs:List Nat} {gs:List Tr} (h:(Fv v gs).P vs I w bs):∃a cap,v = .slice a gs.length cap/\(0<gs.length->∃b,a=some ⟨b,0,none⟩):=by
 rcases h.1 with ⟨h0,⟨a,c,rfl⟩,_⟩ | ⟨h0,b,cap,cur,rfl,_⟩
 ·exact ⟨a,c,by rw [h0],λh=>by omega⟩
 ·exact ⟨_,cap,rfl,λ_=>⟨b,rfl⟩⟩
theorem Qg {a:Tr}:∀{gs:List Tr} {i:Nat} {g:Tr},gs[i]?=some g->Yk g=[]->∃l r,GM gs=l++r/\GM (gs.set i a)=l++(Yk a++r)
 | x::q,0,g,h,h0=>by
  simp at h;subst h;exact ⟨[],GM q,by simp [GM,h0],by simp [GM]⟩
 | x::q,i+1,g,h,h0=>by
  obtain ⟨l,r,e1,e2⟩:=Qg (a:=a) (gs:=q) (i:=i) (by simpa using h) h0;exact ⟨Yk x++l,r,by simp [GM,e1],by simp [GM,e2]⟩
theorem Y3 {b1 b2:List Nat} {gs:List Tr} (h:(Fv v gs).P vs I w b1) {i:Nat} {g a:Tr} (hg:gs[i]?=some g) (h0:Yk g=[]) (ha:VA I w a) (hb:b2=Yk a) (hd2:b2.Nodup) (hdis:∀b∈b1,b∉b2) :
  F0 v∈b1/\∃cur,w.heap[F0 v]?=some (.cells cur 25 (0,0))/\i*4+4<=cur.size /\
   ∃bs,(∀b∈bs,b∈b1\/b∈b2)/\(Fv v (gs.set i a)).P [] I (w.setRow (F0 v) (cur.toList.take (i*4)++cT a++cur.toList.drop (i*4+4)).toArray) bs:=by
 obtain ⟨h1,h2,h3,h4⟩:=h;have hlt:i<gs.length:=(AO.1 hg).1;rcases h1 with ⟨q0,_⟩ | ⟨q0,b,cap,cur,rfl,hheap,hcap,hcm,hcs⟩
 ·omega
 have hbl:F0 (.slice (some ⟨b,0,none⟩) gs.length cap)=b:=rfl;rw [hbl] at h2 ⊢;have hrb:Hs (.slice (some ⟨b,0,none⟩) gs.length cap) gs.length=[b]:=by
  cases hl:gs.length with
  | zero=>omega
  | succ n=>simp [Hs,F0]
 rw [hrb] at h3;have hbs:b∈b1:=by rw [h3];simp
 have hfit:i*4+4<=cur.size:=by rw [hcs];omega
 refine ⟨hbs,cur,hheap,hfit,?_⟩;have hcl:=pW ha;have hf:i*4+(cT a).length<=cur.size:=by rw [hcl];exact hfit
 have hnb:b∉GM gs:=by
  rw [h3] at h4;intro hk;exact (Hu.1 h4).2.2 b (by simp) b hk rfl
 have hnb2:b∉Yk a:=λhk=>hdis b hbs (by rw [hb];exact hk);obtain ⟨l,r,e1,e2⟩:=Qg (a:=a) hg h0;refine ⟨[b]++GM (gs.set i a),λk hk=>?_,?_,?_,?_,?_⟩
 ·rw [e2] at hk;rw [h3,e1,hb];simp only [BU] at hk ⊢;grind
 ·rw [JM];refine .inr ⟨q0,b,cap,(cur.toList.take (i*4)++cT a++cur.toList.drop (i*4+4)).toArray,rfl,?_,hcap,hcm,?_⟩
  ·have:=ND (off:=i*4) (cs:=cT a) hheap
   rwa [hcl] at this
  ·rw [<- hcs];have hl2:cur.toList.length=cur.size:=WI;show (cur.toList.take (i*4)++cT a++cur.toList.drop (i*4+4)).length=cur.size;rw [AZ,AZ,FA,J2];omega
 ·have e4:i*4+4=i*4+(cT a).length:=by rw [hcl]
  rw [e4,hbl,Fb];intro j y hy;rw [Dw];by_cases e:i=j
  ·subst e;rw [Ln (by omega)] at hy;cases hy;exact ⟨uP hheap hf,Uq (λk hk=>setRow_other w b k _ (λe=>hnb2 (e ▸ hk))) ha⟩
  ·rw [Lm e] at hy;obtain ⟨p1,p2⟩:=Fb.1 h2 j y hy;rw [Dw] at p1;refine ⟨qA hheap hf p1 ?_,Uq (λk hk=>setRow_other w b k _ (λe=>hnb (e ▸ M7.2 ⟨y,AK hy,hk⟩))) p2⟩;have:=pW p2;rcases Nat.lt_or_gt_of_ne e with hc | hc
   ·right;omega
   ·left;omega
 ·rw [JM,hrb]
 ·rw [e2];rw [h3,e1] at h4;have hd:∀k∈[b]++(l++r),k∉Yk a:=λk hk=>by rw [<- hb];exact hdis k (by rw [h3,e1];exact hk)
  rw [hb] at hd2;simp only [D0,G5,Lj,BU,Hu,not_or] at h4 hd ⊢;grind
theorem Y4 {bs:List Nat} {gs:List Tr} (h:(Fv v gs).P vs I w bs) {i:Nat} {f n:Int} {u:Value} {ks:List Tr} (hg:gs[i]?=some (.nd f n x u ks)) :
  ∃b1 b2,(∀b∈b1,b∈bs)/\(∀b∈b2,b∈bs)/\(∀b∈b1,b∉b2)/\(Fv v (gs.set i (.gp f n x u))).P [] I w b1/\(Fv u ks).P [] I w b2:=by
 obtain ⟨h1,h2,h3,h4⟩:=h;have hlt:i<gs.length:=(AO.1 hg).1;have hset:(gs.set i (.gp f n x u)).set i (.nd f n x u ks)=gs:=by
  rw [List.set_set];apply mZ;intro j;by_cases e:i=j
  ·subst e;rw [Ln hlt,hg]
  ·rw [Lm e]
 obtain ⟨l,r,e1,e2⟩:=Qg (a:=.nd f n x u ks) (gs:=gs.set i (.gp f n x u)) (i:=i) (Ln hlt) rfl;rw [hset] at e2;obtain ⟨p1,p2⟩:=Fb.1 h2 i _ hg;simp only [VA] at p2;have hB:Yk (.nd f n x u ks)=Hs u ks.length++GM ks:=rfl;rw [h3,e2,hB] at h4;refine ⟨Hs v gs.length++(l++r),Hs u ks.length++GM ks,λb hb=>?_,λb hb=>?_,λb hb hb2=>?_,⟨by rw [JM];exact h1,?_,by rw [JM,e1],?_⟩,p2.1,p2.2,rfl,?_⟩
 ·rw [h3,e2,hB];simp only [BU] at hb ⊢;grind
 ·rw [h3,e2,hB];simp only [BU] at hb ⊢;grind
 ·simp only [Hu,BU] at h4 hb hb2;grind
 ·rw [Fb];intro j y hy;by_cases e:i=j
  ·subst e;rw [Ln hlt] at hy;cases hy;exact ⟨p1,We p2.1⟩
  ·rw [Lm e] at hy;exact Fb.1 h2 j y hy
 ·simp only [Hu,BU] at h4 ⊢;grind
 ·simp only [Hu,BU] at h4 ⊢;grind
theorem Wh {gs:List Tr} (hr:Wg w 25 4 v gs.length) (hw:IV I w (F0 v) 0 gs) (hJ:∀k∈Hs v gs.length,J k=w.heap[k]?) (hp:IC gs ps) (ih:∀(i:Nat) a t,gs[i]?=some a->ps[i]?=some t->RepVL J (cT a) (dTyc t)):RepV J v (.sl (dTys ps)):=by
 have hlen:=ML hp;rcases hr with ⟨h0,_,h1⟩ | ⟨h0,b,cap,cur,rfl,h1,h2,h3,h4⟩
 ·have:ps=[]:=Ll (by omega);subst this;exact h1 J
 ·have hJb:J b=some (.cells cur 25 (0,0)):=by
   rw [hJ b (by cases gs with | nil=>simp at h0 | cons=>simp [Hs,F0]),h1]
  have hb:F0 (.slice (some ⟨b,0,none⟩) gs.length cap)=b:=rfl;rw [hb] at hw;have hget:∀(i:Nat) (e:List V) (j:Nat) (x:V),(dTys ps)[i]?=some e->e[j]?=some x->∃c,cur[i*4+j]?=some c/\c.oneCell'=true/\RepV J c x:=by
   intro i e j x hi hj;rw [CU,Et] at hi;cases ht:ps[i]? with
   | none=>rw [ht] at hi;cases hi
   | some t =>
    rw [ht] at hi;cases hi;obtain ⟨a,ha⟩:=Am (l:=gs) (i:=i) (by rw [hlen];exact (AO.1 ht).1);obtain ⟨g2,g3⟩:=Fb.1 hw i a ha;have hrep:=ih i a t ha ht;have hlt:j<(cT a).length:=by rw [hrep.1];exact (AO.1 hj).1
    have hc:=Bw hlt;obtain ⟨cur',ty,k,q1,q2⟩:=g2;rw [h1] at q1;cases q1;refine ⟨_,?_,yM g3 _ (AK hc),hrep.2 j _ x hc hj⟩;have:=q2 j _ hc
    rwa [Dw] at this
  refine .sl b 0 gs.length cap 4 (dTys ps) (λi j=>(cur[i*4+j]?).getD undef) (by simpa using hlen) h2 h3 (λe he=>?_) (λi e j x hi hj=>?_) (λi e j x hi hj=>?_)
  ·rw [CU] at he;obtain ⟨t,_,rfl⟩:=Cc.1 he;simp
  ·obtain ⟨c,k3,k4,k5⟩:=hget i e j x hi hj;simp [Imm.cell,hJb,k3,k4]
  ·obtain ⟨c,k3,k4,k5⟩:=hget i e j x hi hj;simpa [k3] using k5
theorem cR {w:World} {I J:Imm}:∀{t:Ty} {a:Tr},Xc a t->VA I w a->(∀k∈Yk a,J k=w.heap[k]?)->RepVL J (cT a) (dTyc t)
 | .mk f n x ps,.nd f' n' x' v ks,h,hw,hJ=>by
  simp only [Xc] at h;obtain ⟨rfl,rfl,rfl,h⟩:=h;simp only [VA] at hw;simp only [Yk,BU] at hJ;have hv:RepV J v (.sl (dTys ps)):=Wh hw.1 hw.2 (λk hk=>hJ k (.inl hk)) h λi a t ha ht =>
   cR ((IB.1 h).2 i a t ha ht) (Fb.1 hw.2 i a ha).2 λk hk=>hJ k (.inr (M7.2 ⟨a,AK ha,hk⟩))
  refine ⟨rfl,λi c y h1 h2=>?_⟩;simp only [cT] at h1
  match i with
  | 0=>cases h1;cases h2;exact .int _ _
  | 1=>cases h1;cases h2;exact .int _ _
  | 2=>cases h1;cases h2;exact .encStr _ _
  | 3=>cases h1;cases h2;exact hv
  | i+4=>simp at h1
 | .mk _ _ _ _,.im _ _,h,_,_=>by simp [Xc] at h
 | .mk _ _ _ _,.gp _ _ _ _,h,_,_=>by simp [Xc] at h
termination_by t=>SizeOf.sizeOf t
decreasing_by
 have:=Ct (AK ht);simp_wf;omega
theorem RJ {bs:List Nat} (h:(yU (.sl [])).P vs I w bs):(LZ []).P vs I w bs:=by
 obtain ⟨rfl,v,rfl,h1,h2⟩:=h;refine Ud (λ_=>⟨v,rfl,rfl,?_,?_⟩) (λh=>absurd rfl h)
 ·obtain ⟨ad,len,cap,rfl,_,rfl⟩:=Mo h1;exact ⟨_,_,rfl⟩
 ·intro J;cases h1 with
  | slnil=>exact .slnil
  | sl0 a=>exact .sl0 a
  | sl b o len cap sz es vs hl hc hm _ _ _=>exact .sl b o len cap sz [] vs hl hc hm (λe he=>by cases he) (λi e j x hi=>by simp at hi) (λi e j x hi=>by simp at hi)
theorem aQ {bs:List Nat} (hne:es≠[]) (h:(yP 25 4 es).P vs I w bs):(LZ es).P vs I w bs:=by
 obtain ⟨v,rfl,⟨_,h0,_⟩ | ⟨b,cap,cur,rfl,rfl,h1,h2,h3,h4,h5,h6,h7,h8⟩⟩:=h
 ·exact absurd h0 hne
 refine Ud (λh=>absurd h hne) (λ_=>⟨b,cap,cur,rfl,rfl,h1,h2,h3,h4,λj e hj=>?_⟩);have he:=h6 e (AK hj);have hlt:=(AO.1 hj).1;have hget:∀i,i<4->∃c x,cur.toList[j*4+i]?=some c/\e[i]?=some x/\RepV I c x/\c.oneCell'=true:=by
  intro i hi;obtain ⟨x,hx⟩:∃x,e[i]?=some x:=⟨_,Bw (by omega)⟩
  have hf:=C4 h6 j e i x hj hx;obtain ⟨c,hc⟩:∃c,cur.toList[j*4+i]?=some c:=⟨_,Bw (by simp;omega)⟩
  have hr:=h5.2 (j*4+i) c x (by rw [Dl,if_pos (by omega)];exact hc) hf;exact ⟨c,x,hc,hx,hr,hr.one (h7 e (AK hj) x (AK hx))⟩
 refine ⟨(cur.toList.drop (j*4)).take 4,λi c hc=>?_,⟨?_,λi c x hc hx=>?_⟩,λc hc=>?_,he⟩
 ·rw [Dl] at hc
  split at hc
  ·rw [ES] at hc;simpa using hc
  ·cases hc
 ·rw [FA,J2,he];simp;omega
 ·rw [Dl] at hc
  split at hc
  ·rename_i hi;rw [ES] at hc;obtain ⟨c',x',k1,k2,k3,_⟩:=hget i hi;rw [k1] at hc;cases hc;rw [k2] at hx;cases hx;exact k3
  ·cases hc
 ·obtain ⟨i,hi⟩:=I4 hc;rw [Dl] at hi
  split at hi
  ·rename_i hl;rw [ES] at hi;obtain ⟨c',x',k1,_,_,k4⟩:=hget i hl;rw [k1] at hi;cases hi;exact k4
  ·cases hi
theorem ZX (es:List (List V)) (hs:∀c∈es,c.length=4) (hlen:es.length<=1000000) :
  Tq4 138 [.imm (.sl es)] [] (.ret (.hv 1 0) [(1,some (.hp (LZ es)))]):=by
 cases es with
 | nil =>
  refine AQ Ah func138 rfl [1]<|Ai rfl<|KM Ah rfl λb hb=>?_;cases b with
  | true =>
   exact yd [.a] rfl (by simp)<|Pc (x:=.sl []) 2 1 rfl rfl rfl<|Js 1 (λ_:Unit=>LZ []) rfl (λvs I w bs h=>⟨(),RJ h⟩) λ_=>Ag ⟨_,AH⟩
  | false =>
   exact yd [.a] rfl (by simp)<|TJ Ah rfl<|Ai rfl<|Pc (x:=.sl []) 2 1 rfl rfl rfl<|Js 1 (λ_:Unit=>LZ []) rfl (λvs I w bs h=>⟨(),RJ h⟩) λ_=>Ag ⟨_,AH⟩
 | cons e r =>
  refine AQ Ah func138 rfl [2,1]<|Ai rfl<|KM Ah rfl λb hb=>?_;have hb:b=false:=hb (by simp);subst hb;exact yd [.a] rfl (by simp)<|Bn Ah rfl ⟨hs,by simp only [maxLen,B5] at *;omega,by simp only [B5] at *;omega,λc hc=>by simp at hc,by simp⟩<|Ai rfl<|XF 2 2 1 rfl rfl<|Js 1 (λ_:Unit=>LZ (e::r)) rfl (λvs I w bs h=>⟨(),aQ (by simp) h⟩) λ_=>Ag ⟨_,AH⟩
def yQ (v:Value) (gs:List Tr) (i:Nat) (f n:Int) (x:Str) (ps:List Ty):Asn where
 P:=λ_ I w bs=>∃u ks,IC ks ps/\(Fv v (gs.set i (.nd f n x u ks))).P [] I w bs
 mono:=λh ⟨u,ks,h1,h3⟩=>⟨u,ks,h1,(Fv v (gs.set i (.nd f n x u ks))).mono h h3⟩
 loc:=λh ⟨u,ks,h1,h3⟩=>⟨u,ks,h1,(Fv v (gs.set i (.nd f n x u ks))).loc h h3⟩
theorem Q0 {gs:List Tr} {i:Nat} {g:Tr} {f n:Int} (hg:gs[i]?=some g) (h0:Yk g=[]):Nt (Fv v gs) (J7 ps) (yQ v gs i f n x ps) j (F0 v) (i*4) [.imm (.int .i64 f),.imm (.int .i64 n),.imm (.str x),.hv j 0]:=by
 intro us vs I w b1 b2 h1 ⟨u,ks,k1,k2,k3⟩ hdis;subst k2;obtain ⟨q1,cur,q2,q3,bs,q4,q5⟩:=Y3 (a:=.nd f n x u ks) h1 hg h0 ⟨k3.1,k3.2.1⟩ k3.2.2.1 k3.2.2.2 hdis;refine ⟨q1,cur,_,q2,q3,λcs hl hcs hone=>?_⟩;have e:cs=cT (.nd f n x u ks):=by
  match cs,hl with
  | [c0,c1,c2,c3],_ =>
   have e0:=(show RepD I noMu _ (.imm _) from hcs 0 _ _ rfl rfl).immInv.intInv;have e1:=(show RepD I noMu _ (.imm _) from hcs 1 _ _ rfl rfl).immInv.intInv;have e2:=(show RepD I noMu _ (.imm _) from hcs 2 _ _ rfl rfl).immInv.strEq;have e3:j=j/\[u][0]?=some c3:=hcs 3 _ _ rfl rfl;have e3:=e3.2;simp at e3;rw [e0,e1,e2,e3];rfl
 rw [e];exact ⟨bs,q4,u,ks,k1,q5⟩
theorem Rb:∀t:Ty,C9 t=true->Tq4 82 [.imm (.agg (dTyc t))] [] (.ret (.agg [.imm (.int .i64 (BQ t)),.imm (.int .i64 (num t)),.imm (.str (Lf t)),.hv 1 0]) [(1,some (.hp (J7 (Ff t))))])
 | .mk f n x ps,hw=>by
  have hl3:=Ie hw;simp only [Ff] at hl3;have IH:∀t∈ps,Tq4 82 [.imm (.agg (dTyc t))] [] (.ret (.agg [.imm (.int .i64 (BQ t)),.imm (.int .i64 (num t)),.imm (.str (Lf t)),.hv 1 0]) [(1,some (.hp (J7 (Ff t))))]):=λt ht=>Rb t (EU hw t (by simpa [Ff] using ht));refine AQ Ah func82 rfl [2,3,4,5,1,6,7,8]<|Ai rfl<|Jf [4] [] [(1,4)] rfl (ZX (dTys ps) (λc hc=>by rw [CU] at hc;obtain ⟨p,_,rfl⟩:=Cc.1 hc;simp) (by simp;omega)) trivial rfl rfl<|yg [] rfl (by simp <;> rfl)<|R4 (ids':=[1,6,7,8]) 4 5 (λx:(Option Addr×Nat)×{ css:List (List Value) // css.length=(dTys ps).length }=>[.slice x.1.1 ps.length x.1.2]) (λx=>Fv (.slice x.1.1 ps.length x.1.2) (Rh x.2.1 (dTys ps))) rfl (λvs I w bs h=>?_) λy=>?_
  ·obtain ⟨v,css,h1,h2,h3⟩:=h;have hlen:(Rh css (dTys ps)).length=ps.length:=by rw [Jl h1];simp
   obtain ⟨a,cap,e1,_⟩:=Mt h3;rw [hlen] at e1;subst e1;exact ⟨((a,cap),⟨css,h1⟩),h2,h3⟩
  obtain ⟨⟨ad,cap⟩,⟨css,hcss⟩⟩:=y;have hlen0:(Rh css (dTys ps)).length=ps.length:=by rw [Jl hcss];simp
  have him0:∀(j:Nat) (p:Ty),ps[j]?=some p->∃cs,(Rh css (dTys ps))[j]?=some (.im cs (dTyc p)):=λj p hp=>by
   have hlt:=(AO.1 hp).1;have hc:=Bw (l:=css) (i:=j) (by rw [hcss];simpa using hlt);exact ⟨_,by rw [cX hcss,hc,AA hp]⟩
  refine Av rfl<|Ak (λy:Nat×List Tr=>[(12,.imm (.int .i64 y.1)),(11,.imm (.int .i64 ps.length)),(10,.raw (.slice ad ps.length cap)),(1,.ref 2 0),(2,.ref 3 0)])
   (λy=>[(2,some (.cells 25 4 [.imm (.int .i64 f),.imm (.int .i64 n),.imm (.str x),.raw (.slice ad ps.length cap)])),(3,some (.cells 25 4 [.imm (.int .i64 0),.imm (.int .i64 0),.imm (.str []),.nils])),
    (5,some (.hp (Fv (.slice ad ps.length cap) y.2)))]) [1,6,7,8] (λy=>ps.length-y.1) (λy=>y.1<=ps.length/\y.2.length=ps.length/\(∀(j:Nat) a p,j<y.1->y.2[j]?=some a->ps[j]?=some p->Xc a p)/\(∀(j:Nat) p,y.1<=j->ps[j]?=some p->∃cs,y.2[j]?=some (.im cs (dTyc p)))) (0,Rh css (dTys ps))
   ⟨AF _,hlen0,λj a p h=>by omega,λj p _ hp=>him0 j p hp⟩ BA AH rfl λy hi ih=>?_
  clear hlen0 him0;obtain ⟨i,gs⟩:=y;obtain ⟨hi1,hi2,hi3,hi4⟩:=hi;simp only at hi1 hi2 hi3 hi4;refine Av rfl<|Aa rfl (λh=>?_) (λh=>?_)
  ·simp at h;obtain ⟨k,hk⟩:=Am h;obtain ⟨cs,hgi⟩:=hi4 i k (BL _) hk;refine Js 5 (λ_:{ b:Nat // ad=some ⟨b,0,none⟩ }=>Fv (.slice ad ps.length cap) gs) rfl (λvs I w bs h'=>?_) λz=>?_
   ·obtain ⟨a,cap',e1,e2⟩:=Mt h';simp only [Value.slice.injEq] at e1;obtain ⟨b,hb⟩:=e2 (by rw [hi2];omega);exact ⟨⟨b,by rw [e1.1,hb]⟩,h'⟩
   obtain ⟨b,rfl⟩:=z;have hC:=IH k (AK hk);obtain ⟨kf,kn,kx,kp⟩:=k;refine Av rfl<|MU Ah rfl rfl (λ_=>⟨by simp,by simp;omega⟩) (by simp)<|Ai rfl<|dD Ah 5 ((dTyc (.mk kf kn kx kp)).map .imm) rfl rfl (λ_ vs I w bs h'=>by have:=Y5 h' hgi;simpa [F0] using this) rfl rfl (by simp)<|Ai rfl<|A4 (fr:=[6]) [] [(1,6)] [] (nm:=[6]) rfl trivial (by simp) hC trivial rfl trivial rfl rfl rfl<|Ai rfl<|MU Ah rfl rfl (λ_=>⟨by simp,by simp;omega⟩) (by simp)<|Ai rfl<|TI Ah 5 6 7 (yQ (.slice (some ⟨b,0,none⟩) ps.length cap) gs i kf kn kx kp) rfl rfl rfl (by decide) (by
    have e:0+((i:Int)).toNat*4=i*4:=by simp
    show Nt _ _ _ 6 b (0+((i:Int)).toNat*4) _;rw [e];exact Q0 hgi rfl) ?_
   refine yg [] rfl (by simp <;> rfl)<|Js 7 (λa:{ a:Tr // Xc a (.mk kf kn kx kp) }=>Fv (.slice (some ⟨b,0,none⟩) ps.length cap) (gs.set i a.1)) rfl (λvs I w bs h'=>?_) λz=>?_
   ·obtain ⟨u,ks,h1,h2⟩:=h';exact ⟨⟨.nd kf kn kx u ks,by simpa [Xc] using h1⟩,h2⟩
   obtain ⟨a,ha⟩:=z;refine Bo 5 7 rfl<|Ae (ih (i+1,gs.set i a) (by simp only;omega) ⟨by simp only;omega,by simpa using hi2,λj a' p hj ha' hp=>?_,λj p hj hp=>?_⟩) ⟨A8 (BW (by simp only;omega) (by simp only;omega)),BJ⟩ AH rfl
   ·simp only at hj ha';by_cases e:i=j
    ·subst e;rw [Ln (by omega)] at ha';cases ha';rw [hk] at hp;cases hp;exact ha
    ·rw [Lm e] at ha';exact hi3 j a' p (by omega) ha' hp
   ·simp only at hj ⊢;rw [Lm (by omega)];exact hi4 j p (by omega) hp
  ·simp at h;have hl:i=ps.length:=by omega
   have his:IC gs ps:=IB.2 ⟨hi2,λj a p ha hp=>hi3 j a p (by have:=(AO.1 hp).1;omega) ha hp⟩;exact At rfl<|Av rfl<|Om 5 3 1 [.slice ad ps.length cap] (A:=J7 ps) [.imm (.int .i64 f),.imm (.int .i64 n),.imm (.str x),.hv 1 0] rfl rfl (λus I w bs h=>⟨_,gs,his,rfl,h⟩) ⟨.inl rfl,.inl rfl,.inl rfl,.inr ⟨0,_,rfl,rfl,rfl⟩,trivial⟩<|Ag ⟨_,AH⟩
termination_by t=>SizeOf.sizeOf t
decreasing_by
 all_goals
  have:=Ct ht;simp_wf;omega
section
variable {k:List DI} {a:Act}
end
structure PMr where
 id:Nat
 kv:List (V×V)
 b:Nat
 es:Array MapEntry
 clock:Nat
 id':Nat
 ids':List Nat
 dst:Option Nat
 todo:List DI
def bY (tt:TT) (n:Nat) (env:Env) (st:St) (ids:List Nat) (todo:List DI):Option PMr :=
 match NN todo,ids with
 | some o,id'::ids'=>match o.guard,o.op with
  | none,.range t x=>match lk tt t,DN env x with
   | some { sh:=.map _ _,.. },some (.mapr i)=>match lk st i,BK n o.dst,Bt todo ([i],[id']) with
    | some (some (.mapx kv b es clock)),true,some (_,_,todo')=>some ⟨i,kv,b,es,clock,id',ids',o.dst,todo'⟩
    | _,_,_=>none
   | _,_=>none
  | _,_=>none
 | _,_=>none
structure PMn where
 i:Nat
 kv:List (V×V)
 b:Nat
 b2:Nat
 es:Array MapEntry
 clock:Nat
 since:Nat
 seen:Array Nat
 c:Nat
 dst:Option Nat
 k:List DI
 all:List Oper
 rest:List Oper
def lL (n:Nat) (env:Env) (st:St) (m:Nat) (todo:List DI):Option PMn :=
 match todo with
 | .ops all (o::rest)::k=>match o.guard,o.op with
  | none,.next x false=>match DN env x,BK n o.dst,lk st m with
   | some (.iter i),true,some (some (.mapx kv b es clock))=>match lk st i with
    | some (some (.miter b' since seen c))=>some ⟨i,kv,b,b',es,clock,since,seen,c,o.dst,k,all,rest⟩
    | _=>none
   | _,_,_=>none
  | _,_=>none
 | _=>none
structure PMe where
 i:Nat
 kv:List (V×V)
 b:Nat
 b2:Nat
 es:Array MapEntry
 clock:Nat
 seen:Array Nat
 c:Nat
 dst:Option Nat
 todo:List DI
def bZ (n:Nat) (env:Env) (st:St) (m:Nat) (todo:List DI):Option PMe :=
 match NN todo with
 | some o=>match o.guard,o.op with
  | none,.entry x=>match DN env x,BK n o.dst,lk st m with
   | some (.iter i),true,some (some (.mapx kv b es clock))=>match lk st i,Bt todo ([i,m],[]) with
    | some (some (.miter b' _ seen c)),some (_,_,todo')=>some ⟨i,kv,b,b',es,clock,seen,c,o.dst,todo'⟩
    | _,_=>none
   | _,_,_=>none
  | _,_=>none
 | none=>none
section
variable {k:List DI} {a:Act}
theorem uH {all rest:List Oper} {o:Oper} (d:α->D) (wr:α->St) (hg:o.guard=none) (hnd:∀c,o.op ≠ .defer c) (hn:BK n o.dst=true) (hl:∀I μ a w,StRep I μ st ids w->DG I μ env a o.op->valX P ((execOp a.eval o).run P w) (λv w'=>∃x,∃I' μ',StRep I' μ' (wr x++st) ids w'/\RepD I' μ' v (d x)/\μ.le μ'/\Ext I μ st w I' μ' (wr x++st) w') (KZ (KY Q) I μ st w)) (h:∀x,DGo P n F Q (.ops all rest::k) (BN o.dst (d x) env) (wr x++st) ids):DGo P n F Q (.ops all (o::rest)::k) env st ids:=by
 have hn:∀t,o.dst=some t->t<n:=λt ht=>by
  unfold BK at hn;rw [ht] at hn;simpa [HQ] using hn
 intro b cs I μ a w items hd hc;obtain ⟨j,is,rfl,hr,hk⟩:=HY hd;obtain ⟨hj,hr'⟩:=DM hr;have hon:J6 (o.looksAt all.toArray) I μ env a:=λt _ d hl=>hc.env t d hl;have hlen:(o::rest).length=rest.length+1:=rfl;rw [hlen,OM];have hw:Region.wanted o (yielded all.toArray a.tmps)=true:=AL hg;refine F8 hj hw hnd (valX.upon ((hl I μ a w hc.toStRep (Bm hon)).mono ?_ ?_))
 ·rintro v w2 ⟨x,I',μ',q1,q2,q4,q3⟩;obtain ⟨p1,p2,p3⟩:=HI (n:=n) (w:=w2) (dst:=o.dst) (λt d hl=>(hc.env t d hl).mono q3.imm q4) hc.size hn q2;have:=h x b cs I' μ' (a.put o.dst v) w2 (.inRegion all.toArray (List.range' (j+1) rest.length)::is) ⟨⟨rfl,j+1,hr',rfl⟩,hk⟩
   {q1 with size:=p2,env:=by cases hdst:o.dst <;> simpa [BN,hdst] using p1,defers:=by rw [p3];exact hc.defers.ext q3 }
  rw [p3] at this;exact this.mono λe a' w'' hp=>hp.back (.of_le q4) q3
 ·rintro chain w2 ⟨v,x,I2,q1,q2,q3,q4,q5⟩;refine ⟨.panic x,[],[],[],I2,μ,⟨v,q1,q3⟩,q2,?_,.refl _ _,q5,.refl _ _⟩;exact Ku q4 hc.size (hc.defers.ext q5)
theorem StRep.retellAt {st1:St} (hst:StRep I μ st ids w) (h:∀i b,Az st1 i b->∃b0,Az st i b0/\∀g,μ i=some g->BlkRep I μ w g b0->BlkRep I μ w g b):StRep I μ st1 ids w/\Ext I μ st w I μ st1 w:=by
 refine ⟨{ imm:=hst.imm,blk:=λi b hl=>?_,apart:=λi b g k hl hg hk=>?_,inj:=λi j bi bj gi gj k hi hj=>?_,nodup:=hst.nodup,idsFree:=hst.idsFree },?_⟩
 ·obtain ⟨b0,h1,h2⟩:=h i b hl;obtain ⟨g,hg,hr⟩:=hst.blk i b0 h1;exact ⟨g,hg,h2 g hg hr⟩
 ·obtain ⟨b0,h1,_⟩:=h i b hl;exact hst.apart i b0 g k h1 hg hk
 ·obtain ⟨b0,h1,_⟩:=h i bi hi;obtain ⟨b1,h2,_⟩:=h j bj hj;exact hst.inj i j b0 b1 gi gj k h1 h2
 ·exact { imm:=Imm.le_refl I,os:=rfl,tape:=rfl,output:=rfl,size:=BL _,block:=λ_ _ _=>rfl,old:=λ_ _ _=>rfl
          fresh:=λb _ ⟨i,bi,g,h1,h2⟩=>let ⟨b0,q,_⟩:=h i bi h1;⟨i,b0,g,q,h2⟩ }
theorem IL (id:Nat) {kv:List (V×V)} (hl:lk st id=some (some (.map kv)))
  (h:∀b es clock,es.size=kv.length->MapKept.Stamped es clock->DGo P n F Q todo env ((id,some (.mapx kv b es clock))::st) ids):DGo P n F Q todo env st ids:=by
 refine EJ λI μ a w hc=>?_;obtain ⟨g,hg,b,es,clock,rfl,h2,h3,h4,h5⟩:=hc.blk id _ hl;obtain ⟨q1,q2⟩:=hc.toStRep.retellAt (st1:=(id,some (.mapx kv b es clock))::st) λi c hlc=>by
  rcases AB.1 hlc with ⟨rfl,rfl⟩ | ⟨_,h⟩
  ·exact ⟨_,hl,λg' hg' _=>by rw [hg] at hg';cases hg';exact ⟨rfl,h2,h3,h4,h5⟩⟩
  ·exact ⟨c,h,λ_ _ h=>h⟩
 exact ⟨I,μ,env,_,ids,q1,hc.env,q2,.refl _ _,h b es clock h3 h4⟩
theorem Hy (id:Nat) {kv:List (V×V)} {b clock:Nat} {es:Array MapEntry} (hl:lk st id=some (some (.mapx kv b es clock)))
  (h:DGo P n F Q todo env ((id,some (.map kv))::st) ids):DGo P n F Q todo env st ids:=by
 refine EJ λI μ a w hc=>?_;obtain ⟨q1,q2⟩:=hc.toStRep.retellAt (st1:=(id,some (.map kv))::st) λi c hlc=>by
  rcases AB.1 hlc with ⟨rfl,rfl⟩ | ⟨_,h⟩
  ·exact ⟨_,hl,λg' hg' ⟨h1,h2,h3,h4,h5⟩=>⟨b,es,clock,h1,h2,h3,h4,h5⟩⟩
  ·exact ⟨c,h,λ_ _ h=>h⟩
 exact ⟨I,μ,env,_,ids,q1,hc.env,q2,.refl _ _,h⟩
theorem oT (htt:TTok P tt) {i0:Nat} {kv:List (V×V)} {b:Nat} {es:Array MapEntry} {clock id0:Nat} {ids0:List Nat} {todo0:List DI} (h:bY tt n env st ids todo=some ⟨i0,kv,b,es,clock,id0,ids0,d0,todo0⟩) (hk:G P n F Q todo0 (BN d0 (.iter id0) env) ((id0,some (.miter b clock #[] clock))::st) ids0):G P n F Q todo env st ids:=by
 unfold bY at h
 split at h
 ·rename_i o id' ids' ho
  split at h
  ·rename_i t x hg hop
   split at h
   ·rename_i _ _ _ _ _ _ i ht hx
    split at h
    ·rename_i _ _ _ _ all o' todo' hl hd h1;cases h;have ho':o'=o:=Dd ho h1;subst ho';refine BG (fr:=[id0]) (wr:=[(id0,some (.miter b clock #[] clock))]) (rd:=[i0]) h1 ?_ hd (λc hc=>by rw [hop] at hc;cases hc) hk;intro I μ st1 ids1 a w hag hst hon;refine ⟨λ_=>?_,λhw=>by rw [AL hg] at hw;cases hw⟩;have hops:=Bm hon;rw [hop] at hops;have hl1:Az st1 i0 (.mapx kv b es clock):=by unfold Az;rw [hag i0 (by simp)];exact hl
     obtain ⟨g,hgm,rfl,hheap,_⟩:=hst.blk i0 _ hl1;have hv:=hops x (by simp [Op.operands]) _ hx;have e1:a.eval x = .map (some b):=by
      generalize a.eval x=v at hv;cases hv with
      | mapr _ b' hm=>rw [hgm] at hm;cases hm;rfl
     have hu:=htt.sh ht;have hrun:(execOp a.eval o').run P w = .ok (.value (.pointer (some ⟨w.heap.size,0,none⟩))) (w.alloc (.mapIter (some b) clock #[] clock)):=by
      simp only [execOp,hop,e1];exact DR (run_range_map w _ _ _ b es clock hu hheap)
     rw [hrun];obtain ⟨μ',q1,q2,q3,q4⟩:=hst.allocO (.mapIter (some b) clock #[] clock) (.pointer (some ⟨w.heap.size,0,none⟩)) (λ_ h=>Eq.symm h) (.miter b clock #[] clock) (λμ' _=>⟨w.heap.size,rfl,Eu w _⟩);exact ⟨I,μ',q3,.iter _ _ q1,q2,q4⟩
    ·cases h
   ·cases h
  ·cases h
 ·cases h
theorem StRep.drew (hst:StRep I μ st ids w):StRep I μ st ids w.drew :=
 {imm:=hst.imm,blk:=λi b h=>let ⟨g,h1,h2⟩:=hst.blk i b h;⟨g,h1,h2.world λ_ _=>rfl⟩,apart:=hst.apart,inj:=hst.inj,nodup:=hst.nodup,idsFree:=hst.idsFree }
def qM (es:Array MapEntry) (seen:Array Nat):Option (Nat×MapEntry)->Prop
 | none=>(leftOf es seen).size=0
 | some (j,e)=>es[j]?=some e/\e∈(leftOf es seen).toList
def W3 (kv:List (V×V)):Option (Nat×MapEntry)->D
 | none=>.imm (.tup [.bool false])
 | some (j,_)=>match kv[j]? with
  | some p=>.imm (.tup [.bool true,p.1,p.2])
  | none=>.undef
def vW (i b since:Nat) (seen:Array Nat) (clock:Nat):Option (Nat×MapEntry)->St
 | none=>[]
 | some (_,e)=>[(i,some (.miter b since (seen.push e.born) clock))]
theorem tR (m:Nat) {i:Nat} {kv:List (V×V)} {b:Nat} {es:Array MapEntry} {clock since:Nat} {seen:Array Nat} {c:Nat} {k0:List DI} {all rest:List Oper} (h:lL n env st m todo=some ⟨i,kv,b,b0,es,clock,since,seen,c,d0,k0,all,rest⟩) (hbb:b0=b) (hold:∀x∈es.toList,x.born<since) (hsc:since<=c) (hne:i≠m) (hk:∀x,qM es seen x->DGo P n F Q (.ops all rest::k0) (BN d0 (W3 kv x) env) (vW i b since seen clock x++st) ids):DGo P n F Q todo env st ids:=by
 unfold lL at h
 split at h
 ·rename_i all' o rest' k'
  split at h
  ·rename_i x hg hop
   split at h
   ·rename_i i' kv' b1 es' clock' hx hd hm
    split at h
    ·rename_i b2 since' seen' c' hi
     ·cases h;subst hbb;refine uH (α:={ x:Option (Nat×MapEntry) // qM es seen x }) (λx=>W3 kv x.1) (λx=>vW i b0 since seen clock x.1) hg (λc hc=>by rw [hop] at hc;cases hc) hd (λI μ a w hst hops=>?_) λx=>hk x.1 x.2;rw [hop] at hops;obtain ⟨gm,hgm,rfl,hheap,hlen,hst2,hent⟩:=hst.blk m _ hm;obtain ⟨gi,hgi,r,rfl,hheapi⟩:=hst.blk i _ hi;obtain ⟨r',_,hmi⟩:=(hops x (by simp [Op.operands]) _ hx).iterInv;rw [hgi] at hmi;have e1:a.eval x = .pointer (some ⟨r,0,none⟩):=(QF hmi).symm;have hex:∀v w',(Instr.next (.pointer (some ⟨r,0,none⟩)) false o.type).run P w = .ok v w'->(execOp a.eval o).run P w = .ok (.value v) w':=λv w' hr=>by
       simp only [execOp,hop,e1];exact DR hr
      rcases run_next_at w o.type r b0 since c seen es clock hheapi hheap hold hsc with ⟨h0,hr⟩ | ⟨e,he,w1,hw1,hr⟩
      ·rw [hex _ _ hr];refine ⟨⟨none,h0⟩,I,μ,hst,.imm _ _ (.tup _ _ rfl λi c x hc hx=>?_),Mu.le_refl μ,Ext.refl _ _ _ _⟩
       match i,hc,hx with
       | 0,hc,hx=>cases hc;cases hx;exact .bool _
       | i+1,hc,hx=>simp at hx
      ·rw [hex _ _ hr];obtain ⟨he1,_⟩:=mem_left he;obtain ⟨j,hj⟩:=I4 he1;have hj':es[j]?=some e:=by simpa using hj
       obtain ⟨p,hp⟩:∃p,kv[j]?=some p:=⟨_,Bw (by rw [<- hlen];exact (GH.1 hj').1)⟩
       obtain ⟨k1,k2⟩:=hent j e p hj' hp;have hst1:StRep I μ st ids w1/\Ext I μ st w I μ st w1:=by
        rcases hw1 with rfl | rfl
        ·exact ⟨hst,Ext.refl _ _ _ _⟩
        ·exact ⟨hst.drew,Ext.drew I μ st w⟩
       have hheap1:w1.heap[r]?=some (.mapIter (some b0) since seen c):=by rcases hw1 with rfl | rfl <;> exact hheapi
       have hbl:=BZ hheap1;obtain ⟨q1,q2⟩:=hst1.1.update (blk':=.miter b0 since (seen.push e.born) clock) (w':=ChangeMaps.setBlock w1 r (.mapIter (some b0) since (seen.push e.born) clock)) hi hgi rfl (by simp [ChangeMaps.setBlock]) rfl rfl rfl
        (λk hk=>FV (Ne.symm hk)) ⟨r,rfl,by simp [ChangeMaps.setBlock,hbl]⟩
       refine ⟨⟨some (j,e),hj',he⟩,I,μ,q1,?_,Mu.le_refl μ,hst1.2.trans q2⟩;simp only [W3,hp];refine .imm _ _ (.tup _ _ rfl λi c x hc hx=>?_)
       match i,hc,hx with
       | 0,hc,hx=>cases hc;cases hx;exact .bool _
       | 1,hc,hx=>cases hc;cases hx;exact k1
       | 2,hc,hx=>cases hc;cases hx;exact k2
       | i+3,hc,hx=>simp at hx
    ·cases h
   ·cases h
  ·cases h
 ·cases h
theorem oU (m:Nat) {i:Nat} {kv:List (V×V)} {es:Array MapEntry} {seen0:Array Nat} {todo0:List DI} {seen:Array Nat} {e:MapEntry} {p:V×V} {b clock c:Nat} (h:bZ n env st m todo=some ⟨i,kv,b,b0,es,clock,seen0,c,d0,todo0⟩) (hbb:b0=b) (hcc:c=clock) (hs:seen0=seen.push e.born) (hj:es[j]?=some e) (hp:kv[j]?=some p) (hk:G P n F Q todo0 (BN d0 (.imm (.tup [p.1,p.2])) env) st ids):G P n F Q todo env st ids:=by
 unfold bZ at h
 split at h
 ·rename_i o ho
  split at h
  ·rename_i x hg hop
   split at h
   ·rename_i i' kv' b1 es' clock' hx hd hm
    split at h
    ·rename_i b2 since' seen' c' all o' todo' hi h1
     ·cases h;subst hbb;subst hcc;subst hs;have ho':o'=o:=Dd ho h1;subst ho';refine BG (fr:=[]) (wr:=[]) (rd:=[i,m]) h1 ?_ hd (λc hc=>by rw [hop] at hc;cases hc) hk;intro I μ st1 ids1 a w hag hst hon;refine ⟨λ_=>?_,λhw=>by rw [AL hg] at hw;cases hw⟩;have hops:=Bm hon;rw [hop] at hops;have hm1:Az st1 m (.mapx kv b0 es c):=by unfold Az;rw [hag m (by simp)];exact hm
      have hi1:Az st1 i (.miter b0 since' (seen.push e.born) c):=by unfold Az;rw [hag i (by simp)];exact hi
      obtain ⟨gm,hgm,rfl,hheap,hlen,hst2,hent⟩:=hst.blk m _ hm1;obtain ⟨gi,hgi,r,rfl,hheapi⟩:=hst.blk i _ hi1;obtain ⟨r',_,hmi⟩:=(hops x (by simp [Op.operands]) _ hx).iterInv;rw [hgi] at hmi;have e1:a.eval x = .pointer (some ⟨r,0,none⟩):=(QF hmi).symm;have he:e∈es.toList:=AK (by simpa using hj:es.toList[j]?=some e);have hrun:(execOp a.eval o').run P w = .ok (.value (.tuple #[e.key,e.val])) w:=by
       simp only [execOp,hop,e1];exact DR (run_entry_at w r b0 since' seen es c e hheapi hheap he hst2.2.1)
      rw [hrun];obtain ⟨k1,k2⟩:=hent j e p hj hp;refine ⟨I,μ,hst,.imm _ _ (.tup _ _ rfl λi c x hc hx=>?_),Mu.le_refl μ,Ext.refl _ _ _ _⟩
      match i,hc,hx with
      | 0,hc,hx=>cases hc;cases hx;exact k1
      | 1,hc,hx=>cases hc;cases hx;exact k2
      | i+2,hc,hx=>simp at hx
    ·cases h
   ·cases h
  ·cases h
 ·cases h
end
structure PMt where
 id:Nat
 kv:List (V×V)
 b:Nat
 es:Array MapEntry
 clock:Nat
 kind:IntKind
 key:Int
 et:TypeId
 dst:Option Nat
 todo:List DI
def cA (tt:TT) (n:Nat) (env:Env) (st:St) (todo:List DI):Option PMt :=
 match NN todo with
 | some o=>match o.guard,o.op with
  | none,.mapEntry t m k=>match lk tt t,DN env m,DN env k with
   | some { sh:=.map kt et,.. },some (.mapr id),some (.imm (.int ik i))=>match lk tt kt,lk st id,Bt todo ([id],[id]),BK n o.dst with
    | some { sh:=.int ik',.. },some (some (.mapx kv b es clock)),some (_,_,todo'),true=>bif decide (ik'=ik) then some ⟨id,kv,b,es,clock,ik,i,et,o.dst,todo'⟩ else none
    | _,_,_,_=>none
   | _,_,_=>none
  | _,_=>none
 | none=>none
structure PMu where
 id:Nat
 kv:List (V×V)
 b:Nat
 es:Array MapEntry
 clock:Nat
 stamp:Int
 x:V
 todo:List DI
def vP (env:Env) (st:St) (todo:List DI):Option PMu :=
 match NN todo with
 | some o=>match o.guard,o.op,o.dst with
  | none,.entryStore _ m s x,none=>match DN env m,DN env s,DN env x with
   | some (.mapr id),some (.imm (.int _ i)),some (.imm vx)=>match lk st id,Bt todo ([id],[id]) with
    | some (some (.mapx kv b es clock)),some (_,_,todo')=>some ⟨id,kv,b,es,clock,i,vx,todo'⟩
    | _,_=>none
   | _,_,_=>none
  | _,_,_=>none
 | none=>none
def O2:V->Value
 | .int k i=>.int k i
 | .bool b=>.bool b
 | _=>undef
def xD:V->Bool
 | .int _ _=>true
 | .bool _=>true
 | _=>false
theorem eE {x:V} (h:xD x=true):RepV I (O2 x) x:=by
 cases x <;> first | exact .int _ _ | exact .bool _ | cases h
theorem jW {x:V} (h:xD x=true) (hv:RepV I v x):v=O2 x:=by
 cases x <;> first | (cases h;done) | (cases hv;rfl)
section
variable {k:List DI} {a:Act}
theorem iJ {l:List MapEntry} (hn:(l.map (·.born)).Nodup) {e0:MapEntry} (h:l[j]?=some e0):l.findIdx? (λe=>((e.born:Nat):Int) == ((e0.born:Nat):Int))=some j:=by
 induction l generalizing j with
 | nil=>simp at h
 | cons a r ih =>
  simp only [Cv,Lj] at hn;cases j with
  | zero =>
   simp only [wC,Cf] at h;subst h;simp [List.findIdx?_cons]
  | succ j =>
   simp only [nH] at h;have hne:a.born≠e0.born:=λe1=>hn.1 (Cc.2 ⟨e0,AK h,e1.symm⟩);have hb:(((a.born:Nat):Int) == ((e0.born:Nat):Int))=false:=by
    simp only [beq_eq_false_iff_ne,ne_eq,Int.natCast_inj];exact hne
   rw [List.findIdx?_cons,hb];simp [ih hn.2 h]
theorem oY (xs:Array MapEntry) (p:MapEntry->Bool):xs.findIdx? p=xs.toList.findIdx? p:=by
 cases xs;simp
theorem zdc {h:Array Obj} {b:Nat} {o:Obj} (hb:h[b]?=some o):h.setIfInBounds b o=h:=by
 apply Zk;intro i;by_cases e:b=i
 ·subst e;have hlt:=(GH.1 hb).1;rw [zb6 hlt,hb]
 ·rw [FV e]
theorem dE (htt:TTok P tt) (j:Nat) {c:PMt} {e:MapEntry} {p:V×V} (h:cA tt n env st todo=some c) (hkv:∀p∈c.kv,GV (.int c.kind) p.1=true) (hj:c.es[j]?=some e) (hp:c.kv[j]?=some p) (hpk:p.1 = .int c.kind c.key)
  (hg:G P n F Q c.todo (BN c.dst (.imm (.tup [p.2,.int .i64 e.born])) env) ((c.id,some (.mapx c.kv c.b c.es c.clock))::st) ids):G P n F Q todo env st ids:=by
 unfold cA at h
 split at h
 ·rename_i o ho
  split at h
  ·rename_i t m x hgd hop
   split at h
   ·rename_i kt et _ _ _ _ id ik i ht hm hx
    split at h
    ·rename_i ik' _ _ _ _ kv b es clock all o' todo' hi hl h1 hdo;cases hik:decide (ik'=ik) with
     | false=>rw [hik] at h;cases h
     | true =>
     rw [hik] at h;simp only [cond_true,Cf] at h;have hik:=of_decide_eq_true hik;subst hik;subst h;simp only at hkv hj hp hpk hg;have ho':o'=o:=Dd ho h1;subst ho';refine BG (fr:=[]) (wr:=[(id,some (.mapx kv b es clock))]) (rd:=[id]) h1 ?_ hdo (λc hc=>by rw [hop] at hc;cases hc) hg;intro I μ st1 ids1 a w hag hst hon;refine ⟨λ_=>?_,λhw=>by rw [AL hgd] at hw;cases hw⟩;have hops:=Bm hon;rw [hop] at hops;have hl1:Az st1 id (.mapx kv b es clock):=by unfold Az;rw [hag id (by simp)];exact hl
     obtain ⟨g,hmu,rfl,hheap,hlen,hst2,hent⟩:=hst.blk id _ hl1;have e1:a.eval m = .map (some b):=by
      have:=hops m (by simp [Op.operands]) _ hm;generalize a.eval m=v at this;cases this with
      | mapr _ b' hmm=>rw [hmm] at hmu;exact QF hmu
     have rx:=(hops x (by simp [Op.operands]) _ hx).immInv;have ex:=rx.intInv;have hu:P.underlying t=some (.map kt et):=htt.sh ht;have hd:Jt (.int ik')=some (.int ik'):=rfl;have hkd:P.underlying kt=some (.int ik'):=KO hd (htt.sh hi);have hkx:GV (.int ik') (.int ik' i)=true:=by simp [GV]
     have hiky:=Hh hd hkx rx;rcases Kl (I:=I) hd hkx rx es.toList kv 0 (by simpa using hlen) (λj e p h1 h2=>hent j e p (by simpa using h1) h2) hkv with ⟨q1,_,q3,q4⟩ | ⟨j',e',y',q1,q2,q3,_,q5,q6⟩
     ·exfalso;have hk1:=(hent j e p hj hp).1;rw [hpk] at hk1;exact q4 e (by simpa using AK (by simpa using hj:es.toList[j]?=some e)) (by rw [hk1.intInv,ex])
     ·have hj':es[j']?=some e':=by simpa using q2
      have ejj:j'=j:=by
       have hk1:=(hent j e p hj hp).1;rw [hpk] at hk1;have hkk:e.key=e'.key:=by rw [hk1.intInv,q3,ex]
       have hnd:=hst2.2.2;have h1':(es.toList.map (·.key))[j]?=some e.key:=by rw [Et];simp [hj]
       have h2':(es.toList.map (·.key))[j']?=some e'.key:=by rw [Et];simp [hj']
       have l1:=(AO.1 h1')
       have l2:=(AO.1 h2')
       obtain ⟨l1,g1⟩:=l1;obtain ⟨l2,g2⟩:=l2;exact (List.getElem?_inj l2 hnd).1 (by rw [h1',h2',hkk])
      subst ejj;rw [hj'] at hj;cases hj;have hsame:es.modify j' (λe=>{ e with key:=a.eval x })=es:=by
       apply Zk;intro i';rw [UR];by_cases e2:j'=i'
       ·subst e2;rw [if_pos rfl,hj'];simp [<- q3]
       ·rw [if_neg e2]
      have hrun:(execOp a.eval o').run P w = .ok (.value (.tuple #[e.val,goInt e.born])) w:=by
       simp only [execOp,hop,e1];refine DR ?_;simp [Instr.mapEntry,run_underlying hu,MapKept.run_getObj_map hheap,MapKept.run_checkKey hkd hiky,MapKept.run_findKey hkd q1,hj',q3,MapKept.run_keyThatStays hiky,MapKept.run_setObj_map _ hheap,Result.andThen,hsame,zdc hheap]
      rw [hrun];obtain ⟨r1,r2⟩:=hst.update (blk':=.mapx kv b es clock) (w':=w) hl1 hmu rfl (by simp) rfl rfl rfl (λk hk=>rfl) ⟨rfl,hheap,hlen,hst2,hent⟩;have hv:=(hent j' e p hj' hp).2;refine ⟨I,μ,r1,.imm _ _ (.tup _ _ rfl λi c x hc hx=>?_),Mu.le_refl μ,r2⟩
      match i,hc,hx with
      | 0,hc,hx=>cases hc;cases hx;exact hv
      | 1,hc,hx=>cases hc;cases hx;exact .int _ _
      | i+2,hc,hx=>simp at hx
    ·cases h
   ·cases h
  ·cases h
 ·cases h
theorem dF (htt:TTok P tt) {c:PMt} {z:Value} {zd:V} (h:cA tt n env st todo=some c) (hkv:∀p∈c.kv,GV (.int c.kind) p.1=true) (hno:G6 c.kv (.int c.kind c.key)=none) (hz:(P.info? c.et).bind (·.zero)=some z) (hzr:∀I,RepV I z zd)
  (hg:G P n F Q c.todo (BN c.dst (.imm (.tup [zd,.int .i64 c.clock])) env) ((c.id,some (.mapx (c.kv++[(.int c.kind c.key,zd)]) c.b (c.es.push ⟨.int c.kind c.key,z,c.clock⟩) (c.clock+1)))::st) ids):G P n F Q todo env st ids:=by
 unfold cA at h
 split at h
 ·rename_i o ho
  split at h
  ·rename_i t m x hgd hop
   split at h
   ·rename_i kt et _ _ _ _ id ik i ht hm hx
    split at h
    ·rename_i ik' _ _ _ _ kv b es clock all o' todo' hi hl h1 hdo;cases hik:decide (ik'=ik) with
     | false=>rw [hik] at h;cases h
     | true =>
     rw [hik] at h;simp only [cond_true,Cf] at h;have hik:=of_decide_eq_true hik;subst hik;subst h;simp only at hkv hno hz hg;have ho':o'=o:=Dd ho h1;subst ho';refine BG (fr:=[]) (wr:=[(id,some (.mapx (kv++[(.int ik' i,zd)]) b (es.push ⟨.int ik' i,z,clock⟩) (clock+1)))]) (rd:=[id]) h1 ?_ hdo (λc hc=>by rw [hop] at hc;cases hc) hg;intro I μ st1 ids1 a w hag hst hon;refine ⟨λ_=>?_,λhw=>by rw [AL hgd] at hw;cases hw⟩;have hops:=Bm hon;rw [hop] at hops;have hl1:Az st1 id (.mapx kv b es clock):=by unfold Az;rw [hag id (by simp)];exact hl
     obtain ⟨g,hmu,rfl,hheap,hlen,hst2,hent⟩:=hst.blk id _ hl1;have e1:a.eval m = .map (some b):=by
      have:=hops m (by simp [Op.operands]) _ hm;generalize a.eval m=v at this;cases this with
      | mapr _ b' hmm=>rw [hmm] at hmu;exact QF hmu
     have rx:=(hops x (by simp [Op.operands]) _ hx).immInv;have ex:=rx.intInv;have hu:P.underlying t=some (.map kt et):=htt.sh ht;have hd:Jt (.int ik')=some (.int ik'):=rfl;have hkd:P.underlying kt=some (.int ik'):=KO hd (htt.sh hi);have hkx:GV (.int ik') (.int ik' i)=true:=by simp [GV]
     have hiky:=Hh hd hkx rx;rcases Kl (I:=I) hd hkx rx es.toList kv 0 (by simpa using hlen) (λj e p h1 h2=>hent j e p (by simpa using h1) h2) hkv with ⟨q1,_,q3,q4⟩ | ⟨j',e',y',q1,q2,q3,q5,_,q6⟩
     ·rw [ex] at q1 q4 hiky;have hrun:(execOp a.eval o').run P w = .ok (.value (.tuple #[z,goInt clock])) { w with heap:=w.heap.setIfInBounds b (.map (es.push ⟨.int ik' i,z,clock⟩) (clock+1)) }:=by
       simp only [execOp,hop,e1,ex];refine DR ?_;simp [Instr.mapEntry,run_underlying hu,MapKept.run_getObj_map hheap,MapKept.run_checkKey hkd hiky,MapKept.run_findKey hkd q1,EB hz,MapKept.run_setObj_map _ hheap,Result.andThen]
      rw [hrun];have hbl:=BZ hheap;obtain ⟨r1,r2⟩:=hst.update (blk':=.mapx (kv++[(.int ik' i,zd)]) b (es.push ⟨.int ik' i,z,clock⟩) (clock+1)) (w':={ w with heap:=w.heap.setIfInBounds b (.map (es.push ⟨.int ik' i,z,clock⟩) (clock+1)) }) hl1 hmu rfl (by simp) rfl rfl rfl (λk hk=>FV (Ne.symm hk))
       ⟨rfl,by simp [hbl],by simp [hlen],stamped_push hst2 (key:=.int ik' i) (val:=z) q4,λi' e p h1 h2=>by
        rw [QO] at h1;rw [LO] at h2;by_cases hi:i'=es.size
        ·rw [if_pos hi] at h1;cases h1;rw [if_neg (by omega)] at h2;rw [show i'-kv.length=0 by omega] at h2;cases h2;exact ⟨.int _ _,hzr I⟩
        ·rw [if_neg hi] at h1;have:=(GH.1 h1).1;rw [if_pos (by omega)] at h2;exact hent i' e p h1 h2⟩
      refine ⟨I,μ,r1,.imm _ _ (.tup _ _ rfl λi c x hc hx=>?_),Mu.le_refl μ,r2⟩
      match i,hc,hx with
      | 0,hc,hx=>cases hc;cases hx;exact hzr I
      | 1,hc,hx=>cases hc;cases hx;exact .int _ _
      | i+2,hc,hx=>simp at hx
     ·rw [q5] at hno;cases hno
    ·cases h
   ·cases h
  ·cases h
 ·cases h
theorem Vn (j:Nat) {c:PMu} {e:MapEntry} {p:V×V} (h:vP env st todo=some c) (hs:xD c.x=true) (hj:c.es[j]?=some e) (hb:(e.born:Int)=c.stamp) (hp:c.kv[j]?=some p)
  (hg:G P n F Q c.todo env ((c.id,some (.mapx (c.kv.set j (p.1,c.x)) c.b (c.es.modify j λe=>{ e with val:=O2 c.x }) c.clock))::st) ids):G P n F Q todo env st ids:=by
 unfold vP at h
 split at h
 ·rename_i o ho
  split at h
  ·rename_i t m s x hgd hop hdst
   split at h
   ·rename_i id ik i vx hm hsm hx
    split at h
    ·rename_i kv b es clock all o' todo' hl h1;cases h;simp only at hs hj hb hp hg;have ho':o'=o:=Dd ho h1;subst ho';have hg:G P n F Q todo' (BN o'.dst .undef env) ((id,some (.mapx (kv.set j (p.1,vx)) b (es.modify j λe=>{ e with val:=O2 vx }) clock))::st) ids:=by rw [hdst];exact hg
     refine BG (fr:=[]) (wr:=[(id,some (.mapx (kv.set j (p.1,vx)) b (es.modify j λe=>{ e with val:=O2 vx }) clock))]) (rd:=[id]) h1 ?_ (by simp [BK,hdst]) (λc hc=>by rw [hop] at hc;cases hc) hg;intro I μ st1 ids1 a w hag hst hon;refine ⟨λ_=>?_,λhw=>by rw [AL hgd] at hw;cases hw⟩;have hops:=Bm hon;rw [hop] at hops;have hl1:Az st1 id (.mapx kv b es clock):=by unfold Az;rw [hag id (by simp)];exact hl
     obtain ⟨g,hmu,rfl,hheap,hlen,hst2,hent⟩:=hst.blk id _ hl1;have e1:a.eval m = .map (some b):=by
      have:=hops m (by simp [Op.operands]) _ hm;generalize a.eval m=v at this;cases this with
      | mapr _ b' hmm=>rw [hmm] at hmu;exact QF hmu
     have es':=(hops s (by simp [Op.operands]) _ hsm).immInv.intInv;have ex:=jW hs (hops x (by simp [Op.operands]) _ hx).immInv;have hidx:es.findIdx? (λe=>((e.born:Nat):Int) == i)=some j:=by
      rw [oY,<- hb];exact iJ hst2.2.1 (by simpa using hj)
     have hbl:=BZ hheap;have hrun:(execOp a.eval o').run P w = .ok .skip { w with heap:=w.heap.setIfInBounds b (.map (es.modify j λe=>{ e with val:=O2 vx }) clock) }:=by
      simp only [execOp,hop,e1,ex,es'];simp [Instr.entryStore,MapKept.run_getObj_map hheap,asInt,asIntOf,hidx,MapKept.run_setObj_map _ hheap,Result.andThen]
     rw [hrun];obtain ⟨r1,r2⟩:=hst.update (blk':=.mapx (kv.set j (p.1,vx)) b (es.modify j λe=>{ e with val:=O2 vx }) clock) (w':={ w with heap:=w.heap.setIfInBounds b (.map (es.modify j λe=>{ e with val:=O2 vx }) clock) }) hl1 hmu rfl (by simp) rfl rfl rfl (λk hk=>FV (Ne.symm hk))
      ⟨rfl,by simp [hbl],by simp [hlen],stamped_modify hst2 _ _ (λ_ _=>rfl) (λe' _ he'=>rfl),λi' e' p' h1 h2=>by
       rw [UR] at h1;rw [UP] at h2;by_cases hi:j=i'
       ·subst hi;rw [if_pos rfl,hj] at h1;cases h1;rw [if_pos rfl] at h2
        split at h2
        ·cases h2;exact ⟨(hent j e p hj hp).1,eE hs⟩
        ·cases h2
       ·rw [if_neg hi] at h1 h2;exact hent i' e' p' h1 h2⟩
     exact ⟨I,μ,r1,.undef _,Mu.le_refl μ,r2⟩
    ·cases h
   ·cases h
  ·cases h
 ·cases h
end
noncomputable def tkL (stay l:List Int):List Int:=stay++(List.range l.length).map λk=>(EC stay k:Int)
noncomputable def byM (stay l:List Int):List (V×V):=l.zipIdx.map λp=>(.int .i64 p.1,.int .i64 (EC stay p.2))
theorem XU (stay l:List Int):∀p∈byM stay l,GV (.int .i64) p.1=true:=λp hp=>by
 obtain ⟨q,_,rfl⟩:=Cc.1 hp;rfl
theorem uM (stay l:List Int):(byM stay l).length=l.length:=by simp [byM]
theorem pX (stay l:List Int) (h:Int):byM stay (l++[h])=byM stay l++[(.int .i64 h,.int .i64 (EC stay l.length))]:=by
 simp [byM,List.zipIdx_append]
theorem kM (stay l:List Int) (h:Int):tkL stay (l++[h])=tkL stay l++[(EC stay l.length:Int)]:=by
 simp [tkL,NU]
theorem XV {stay:List Int} (h:Int):∀(l:List Int) (k:Nat),G6 ((l.zipIdx k).map λp=>((.int .i64 p.1,.int .i64 (EC stay p.2)):V×V)) (.int .i64 h)=if h∈l then some (.int .i64 (EC stay (k+l.idxOf h))) else none
 | [],_=>rfl
 | x::r,k=>by
  have ih:=XV (stay:=stay) h r (k+1);simp only [mV,Cv,G6,KJ];by_cases e:x=h
  ·subst e;simp
  ·have e':¬h=x:=λh=>e h.symm;have ed:decide (x=h)=false:=decide_eq_false e;rw [ed];simp only [E1,if_false,ih,CA,e',false_or];by_cases hm:h∈r
   ·rw [if_pos hm,if_pos hm,show (x::r).idxOf h=r.idxOf h+1 by rw [List.idxOf_cons,show (x == h)=false by simpa using e];rfl,show k+1+r.idxOf h=k+(r.idxOf h+1) by omega]
   ·rw [if_neg hm,if_neg hm]
theorem XT {stay:List Int} {h:Int}:G6 (byM stay l) (.int .i64 h)=if h∈l then some (.int .i64 (EC stay (l.idxOf h))) else none:=by
 rw [byM,XV h l 0,Dw]
theorem uN {stay:List Int} {h:Int} (hm:h∈l):(byM stay l)[l.idxOf h]?=some (.int .i64 h,.int .i64 (EC stay (l.idxOf h))):=by
 have hlt:=Za.2 hm;have hg:l[l.idxOf h]?=some h:=by rw [Bw hlt,List.getElem_idxOf]
 simp [byM,Et,List.getElem?_zipIdx,hg]
theorem kV {h:Int} (hm:h∈l):(DJ l)[l.idxOf h]?=some (.int .i64 h,.bool true):=by
 have hlt:=Za.2 hm;have hg:l[l.idxOf h]?=some h:=by rw [Bw hlt,List.getElem_idxOf]
 simp [DJ,hg]
theorem Qr {α:Type}:∀{l:List α} {j:Nat} {a:α},l[j]?=some a->l.set j a=l
 | [],_,_,h=>by simp at h
 | b::r,0,a,h=>by simp at h;subst h;rfl
 | b::r,j+1,a,h=>by simp at h;simp [Qr h]
theorem wU {stay:List Int} (hj:j<=EC stay l.length):(j:Int)∈tkL stay l↔j<EC stay l.length:=by
 obtain ⟨h1,h2⟩:=M4 stay l.length;constructor
 ·intro h;rcases Nat.lt_or_ge j (EC stay l.length) with hl | hl
  ·exact hl
  ·exfalso;have e:j=EC stay l.length:=by omega
   rw [tkL,BU] at h;rcases h with h | h
   ·rw [e] at h;exact h1 h
   ·obtain ⟨i,hi,he⟩:=Cc.1 h;have hi:=QL.1 hi;have he:EC stay i=EC stay l.length:=by omega
    have:=(M4 stay i).2;rw [he,h2] at this;omega
 ·intro hl;rw [tkL,BU];by_cases hs:(j:Int)∈stay
  ·exact .inl hs
  ·right;have hc:=KQ (stay:=stay) (show j+1<=EC stay l.length from hl);rw [De,if_neg hs,h2] at hc;refine Cc.2 ⟨H4 stay j,QL.2 (by omega),?_⟩;have:NthF stay (H4 stay j) j:=⟨hs,rfl⟩
   have:=this.unique (M4 stay (H4 stay j));omega
theorem sN {stay:List Int} {k:Nat} (h:k<l.length):(EC stay k:Int)∈tkL stay l:=by
 rw [tkL,BU];exact .inr (Cc.2 ⟨k,QL.2 h,rfl⟩)
mutual
noncomputable def G4 (stay L:List Int):Ty->Ty
 | .mk f n x ps=>.mk (if f=10 then 9 else f) (if f=9 then EC stay (L.idxOf n) else n) x (Ht stay L ps)
noncomputable def Ht (stay L:List Int):List Ty->List Ty
 | []=>[]
 | t::r=>G4 stay L t::Ht stay L r
end
theorem QE (stay L:List Int):∀l:List Ty,Ht stay L l=l.map (G4 stay L)
 | []=>rfl
 | t::r=>by simp [Ht,QE stay L r]
mutual
theorem oP:∀(t:Ty) (l:List Int),∃r,D2 t l=l++r
 | .mk f n x ps,l=>by
  simp only [D2]
  split
  ·split
   ·exact ⟨[],by simp⟩
   ·exact ⟨[n],rfl⟩
  ·exact Oc ps l
theorem Oc:∀(ts:List Ty) (l:List Int),∃r,Cm ts l=l++r
 | [],l=>⟨[],by simp [Cm]⟩
 | t::r,l=>by
  obtain ⟨a,e1⟩:=oP t l;obtain ⟨b,e2⟩:=Oc r (D2 t l);exact ⟨a++b,by rw [Cm,e2,e1,Cl]⟩
end
theorem Jn:∀(a b:List Ty) (l:List Int),Cm (a++b) l=Cm b (Cm a l)
 | [],_,_=>rfl
 | t::r,b,l=>by simp only [D0,Cm];exact Jn r b _
mutual
theorem Tq {stay:List Int}:∀(t:Ty) {L r:List Int},(∀h∈CO t,h∈L)->C9 t=true->G4 stay (L++r) t=G4 stay L t
 | .mk f n x ps,L,r,h,hw=>by
  have hwp:∀p∈ps,C9 p=true:=λp hp=>EU hw p (by simpa [Ff] using hp);by_cases h9:f=9
  ·subst h9;have hn:n∈L:=h n (by simp [CO]);have e:=E7 hw rfl;simp only [Ao,num,Ty.mk.injEq] at e;obtain ⟨_,_,rfl,rfl⟩:=e;simp only [G4,Ht,if_true];rw [List.idxOf_append,if_pos hn]
  ·simp only [G4,if_neg h9];congr 1;exact QD ps (λp hp m hm=>h m (by simp only [CO,if_neg h9];exact JS.2 ⟨p,hp,hm⟩)) hwp
theorem QD {stay:List Int}:∀(ts:List Ty) {L r:List Int},(∀t∈ts,∀h∈CO t,h∈L)->(∀t∈ts,C9 t=true)->Ht stay (L++r) ts=Ht stay L ts
 | [],_,_,_,_=>rfl
 | t::q,L,r,h,hw=>by
  simp only [Ht];rw [Tq t (h t (by simp)) (hw t (by simp)),QD q (λp hp=>h p (by simp [hp])) (λp hp=>hw p (by simp [hp]))]
end
end Go.Hk
