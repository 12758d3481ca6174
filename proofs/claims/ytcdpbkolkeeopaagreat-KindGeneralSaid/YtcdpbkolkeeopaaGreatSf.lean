/- hearthlaw03.KindGeneral returns true for all its arguments, and changes nothing: the solution of two types is the most general one. No condition. -/
import Derived.Test.YtcdpbkolkeeopaaGreatSe
import Derived.Test.YtcdpbkolkeeopaaGreatSd
import Derived.Test.YtcdpbkolkeeopaaGreatSb
import Derived.Test.YtcdpbkolkeeopaaGreatSc
import Derived.Laws.StructEq
import Derived.WideLaws
import Derived.Laws.Entries
import Derived.Below
import Derived.ChangeSame
import Derived.ChangeOld
import Derived.Carry
import Derived.ChangeArms
import Derived.DataReads
import Derived.WideKeyArgs
import Derived.OpenShut
import Derived.RowKit
import Derived.ProofKit
import Derived.Test.YtcdpbkolkeeopaaGreatRows
import Derived.WalkKit
set_option linter.all false
set_option maxRecDepth 100000
set_option maxHeartbeats 4000000
namespace Go.Hk
open Go.Proofs.Tryz
open Go.Proofs
open Go.RowKit Go.WideShapes Go.ChangeShapes
open Go.RowKit Go.WideShapes Go.ChangeShapes Go.ChangeAt
variable {m:Md} {P:Program} {W w w' W':World} {I J:Imm} {S ps:List Ty} {n i a sz p j:Nat} {l ids F ids':List Nat} {T:List (Int×Ty)} {μ ν:Mu} {t:Tm} {v:Value} {τ:Ty} {st st':St} {x y:Str} {θ η:Int->Ty} {b:Bool} {Γ:Au} {tt:TT} {env env' E:Env} {f g:Fd} {H α:Type} {Q:DQ} {todo:List DI} {z:List D} {c c':Code} {ob:List Prop} {d:D} {L:Nx} {vs cs:List Value} {o:Oper} {σ:Sb} {s:ChangeSpec} {xs:List V}
noncomputable def nbS (stay l:List Int):St:=[(1,some (.cells 123 2 [.mapr 2,.mapr 3])),(2,some (.map (DJ (tkL stay l)))),(3,some (.map (byM stay l)))]
def ndD (f n:Int) (x:Str) (a:Nat):D:=.agg [.imm (.int .i64 f),.imm (.int .i64 n),.imm (.str x),.hv a 0]
def jH (stay l:List Int) (t:Ty):Prop :=
 Tq4 81 [.ref 1 0,ndD (BQ t) (num t) (Lf t) 4] (nbS stay l++[(4,some (.hp (J7 (Ff t))))])
  (.ret (ndD (BQ (G4 stay (D2 t l) t)) (num (G4 stay (D2 t l) t)) (Lf (G4 stay (D2 t l) t)) 5) (nbS stay (D2 t l)++[(5,some (.hp (J7 (Ff (G4 stay (D2 t l) t)))))]))
theorem Qs {α:Type} (a b:α):∀l:List α,(l++[a]).set l.length b=l++[b]
 | []=>rfl
 | x::r=>by simp [Qs a b r]
theorem xX {a:Tr} {f n:Int} (h:Xc a (.mk f n x ps)):∃v ks,a = .nd f n x v ks/\IC ks ps:=by
 cases a with
 | nd f' n' x' v ks=>simp only [Xc] at h;obtain ⟨rfl,rfl,rfl,h⟩:=h;exact ⟨v,ks,rfl,h⟩
 | im _ _=>simp [Xc] at h
 | gp _ _ _ _=>simp [Xc] at h
theorem M3 (stay:List Int) (f n:Int) (x:Str) (ps:List Ty) (l:List Int) (hl3:ps.length<=3) (hw:∀p∈ps,C9 p=true) (IH:∀p∈ps,∀l:List Int,(D2 p l).length<=1000000->jH stay l p) (hb:(Cm ps l).length<=1000000) :
  Tq2 Tryz.f81.ntmps [1,2,3,4] (Lb Yj Tryz.f81.results.toList (.ret (ndD f n x 5) (nbS stay (Cm ps l)++[(5,some (.hp (J7 (Ht stay (Cm ps l) ps))))])))
   [.code (Gx Tryz.f81 2)] [(0,.ref 1 0),(3,.ref 6 0),(4,.ref 7 0)]
   ((6,some (.cells 25 4 [.imm (.int .i64 f),.imm (.int .i64 n),.imm (.str x),.hv 4 0]))::(7,some (.cells 25 4 [.imm (.int .i64 0),.imm (.int .i64 0),.imm (.str []),.nils]))::nbS stay l++[(4,some (.hp (J7 ps)))]) [8,5,9,10,11,12,13]:=by
 refine R4 (ids':=[5,9,10,11,12,13]) 4 8 (λx:(Option Addr×Nat)×{ gs:List Tr // IC gs ps }=>[.slice x.1.1 ps.length x.1.2]) (λx=>Fv (.slice x.1.1 ps.length x.1.2) x.2.1) rfl (λvs I w bs h=>?_) λy=>?_
 ·obtain ⟨v,gs,h1,h2,h3⟩:=h;obtain ⟨a,cap,e1,_⟩:=Mt h3;rw [ML h1] at e1;subst e1;exact ⟨((a,cap),⟨gs,h1⟩),h2,h3⟩
 obtain ⟨⟨ad,cap⟩,⟨gs0,hgs0⟩⟩:=y;refine Av rfl<|Ak (λy:Nat×List Tr=>[(60,.imm (.int .i64 y.1)),(59,.imm (.int .i64 ps.length)),(58,.raw (.slice ad ps.length cap)),(0,.ref 1 0),(3,.ref 6 0),(4,.ref 7 0)])
  (λy=>(6,some (.cells 25 4 [.imm (.int .i64 f),.imm (.int .i64 n),.imm (.str x),.raw (.slice ad ps.length cap)]))::(7,some (.cells 25 4 [.imm (.int .i64 0),.imm (.int .i64 0),.imm (.str []),.nils])) ::
   (8,some (.hp (Fv (.slice ad ps.length cap) y.2)))::nbS stay (Cm (ps.take y.1) l)) [5,9,10,11,12,13] (λy=>ps.length-y.1) (λy=>y.1<=ps.length/\y.2.length=ps.length/\(∀(j:Nat) a p,j<y.1->y.2[j]?=some a->ps[j]?=some p->Xc a (G4 stay (Cm ps l) p))/\(∀(j:Nat) a p,y.1<=j->y.2[j]?=some a->ps[j]?=some p->Xc a p)) (0,gs0)
  ⟨AF _,ML hgs0,λj a p h=>by omega,λj a p _ ha hp=>(IB.1 hgs0).2 j a p ha hp⟩ GE GE rfl λy hi ih=>?_
 clear hgs0;obtain ⟨i,gs⟩:=y;obtain ⟨hi1,hi2,hi3,hi4⟩:=hi;simp only at hi1 hi2 hi3 hi4;refine Av rfl<|Aa rfl (λh=>?_) (λh=>?_)
 ·simp at h;obtain ⟨k,hk⟩:=Am h;have hkm:=AK hk;obtain ⟨a,hga⟩:∃a,gs[i]?=some a:=⟨_,Bw (by omega)⟩
  have hak:=hi4 i a k (BL _) hga hk;have htk:Cm (ps.take (i+1)) l=D2 k (Cm (ps.take i) l):=by rw [Bk hk,Jn];rfl
  obtain ⟨r,hr⟩:∃r,Cm ps l=Cm (ps.take (i+1)) l++r:=by
   obtain ⟨r,hr⟩:=Oc (ps.drop (i+1)) (Cm (ps.take (i+1)) l);exact ⟨r,by rw [<- hr,<- Jn,cQ]⟩
  have hmore:G4 stay (Cm ps l) k=G4 stay (D2 k (Cm (ps.take i) l)) k:=by
   rw [hr,htk];exact Tq k (λh hh=>(UJ k _).2 (.inr hh)) (hw k hkm)
  have hbl:(D2 k (Cm (ps.take i) l)).length<=1000000:=by
   rw [hr,htk] at hb;simp only [AZ] at hb;omega
  have hC:=IH k hkm (Cm (ps.take i) l) hbl;unfold jH at hC;rw [<- hmore,<- htk] at hC;generalize Cm (ps.take i) l=l0 at *;obtain ⟨kf,kn,kx,kp⟩:=k;obtain ⟨v,ks,rfl,hks⟩:=xX hak;obtain ⟨t',ht'⟩:∃t',G4 stay (Cm ps l) (.mk kf kn kx kp)=t':=⟨_,rfl⟩
  rw [ht'] at hC;refine Js 8 (λ_:{ b:Nat // ad=some ⟨b,0,none⟩ }=>Fv (.slice ad ps.length cap) gs) rfl (λvs I w bs h'=>?_) λz=>?_
  ·obtain ⟨a,cap',e1,e2⟩:=Mt h';simp only [Value.slice.injEq] at e1;obtain ⟨b,hb⟩:=e2 (by rw [hi2];omega);exact ⟨⟨b,by rw [e1.1,hb]⟩,h'⟩
  obtain ⟨b,rfl⟩:=z;refine uG (ids':=[10,11,12,13]) 8 5 9 (λ_:Unit=>Fv (.slice (some ⟨b,0,none⟩) ps.length cap) (gs.set i (.gp kf kn kx v))) (λ_=>Fv v ks) rfl (λvs I w bs h'=>?_) λ_=>?_
  ·obtain ⟨b1,b2,q1,q2,q3,q4,q5⟩:=Y4 h' hga;exact ⟨(),b1,b2,q1,q2,q3,q4,q5⟩
  have hgi:(gs.set i (.gp kf kn kx v))[i]?=some (.gp kf kn kx v):=Ln (by omega)
  refine Av rfl<|MU Ah rfl rfl (λ_=>⟨by simp,by simp;omega⟩) (by simp)<|Ai rfl<|dD Ah 5 [.imm (.int .i64 kf),.imm (.int .i64 kn),.imm (.str kx),.raw v] rfl rfl (λ_ vs I w bs h'=>by have:=Y6 h' hgi;simpa [F0] using this) rfl rfl (by simp)<|N0 4 rfl (by simp)<|Om (ids':=[12,13]) 9 10 11 [v] (A:=J7 kp) [.imm (.int .i64 kf),.imm (.int .i64 kn),.imm (.str kx),.hv 11 0] rfl rfl (λus I w bs h=>⟨_,ks,hks,rfl,h⟩) ⟨.inl rfl,.inl rfl,.inl rfl,.inr ⟨0,_,rfl,rfl,rfl⟩,trivial⟩<|Av rfl<|A4 (fr:=[12]) [(1,1),(2,2),(3,3),(11,4)] [(5,12)] [] (nm:=[1,2,3,12,1,2,3,11]) rfl trivial (by simp) hC JK rfl trivial rfl rfl rfl<|Ai rfl<|MU Ah rfl rfl (λ_=>⟨by simp,by simp;omega⟩) (by simp)<|Ai rfl<|TI Ah 5 12 13 (yQ (.slice (some ⟨b,0,none⟩) ps.length cap) (gs.set i (.gp kf kn kx v)) i (BQ t') (num t') (Lf t') (Ff t')) rfl rfl rfl (by decide) (by
   have e:0+((i:Int)).toNat*4=i*4:=by simp
   show Nt _ _ _ 12 b (0+((i:Int)).toNat*4) _;rw [e];exact Q0 hgi rfl) ?_
  refine yg [] rfl (by simp;rfl)<|Js 13 (λa:{ a:Tr // Xc a t' }=>Fv (.slice (some ⟨b,0,none⟩) ps.length cap) (gs.set i a.1)) rfl (λvs I w bs h'=>?_) λz=>?_
  ·obtain ⟨u,ks,h1,h2⟩:=h';rw [List.set_set] at h2;obtain ⟨t1,t2,t3,t4⟩:=t';exact ⟨⟨.nd t1 t2 t3 u ks,by simpa [Xc,Ff] using h1⟩,h2⟩
  obtain ⟨a,ha⟩:=z;refine Bo 8 13 rfl<|Ae (ih (i+1,gs.set i a) (by simp only;omega) ⟨by simp only;omega,by simpa using hi2,λj a' p hj ha' hp=>?_,λj a' p hj ha' hp=>?_⟩) ⟨A8 (BW (by simp only;omega) (by simp only;omega)),BA⟩ GE rfl
  ·simp only at hj ha';by_cases e:i=j
   ·subst e;rw [Ln (by omega)] at ha';cases ha';rw [hk] at hp;cases hp;rw [ht'];exact ha
   ·rw [Lm e] at ha';exact hi3 j a' p (by omega) ha' hp
  ·simp only at hj ha';rw [Lm (by omega)] at ha';exact hi4 j a' p (by omega) ha' hp
 ·simp at h;have hl:i=ps.length:=by omega
  subst hl;rw [E0];have his:IC gs (Ht stay (Cm ps l) ps):=IB.2 ⟨by rw [QE,Dh];exact hi2,λj a p ha hp=>by
   rw [QE,Et] at hp;cases hq:ps[j]? with
   | none=>rw [hq] at hp;cases hp
   | some q =>
    rw [hq] at hp;simp only [cP,Cf] at hp;rw [<- hp];exact hi3 j a q (AO.1 hq).1 ha hq⟩
  exact At rfl<|Av rfl<|Om (ids':=[9,10,11,12,13]) 8 7 5 [.slice ad ps.length cap] (A:=J7 (Ht stay (Cm ps l) ps)) [.imm (.int .i64 f),.imm (.int .i64 n),.imm (.str x),.hv 5 0] rfl rfl (λus I w bs h=>⟨_,gs,his,rfl,h⟩) ⟨.inl rfl,.inl rfl,.inl rfl,.inr ⟨0,_,rfl,rfl,rfl⟩,trivial⟩<|Ag ⟨_,GE⟩
theorem mD (stay:List Int) (hst:stay.length<=1000000):∀(t:Ty) (l:List Int),C9 t=true->(D2 t l).length<=1000000->jH stay l t
 | .mk f n x ps,l,hw,hb=>by
  have hl3:=Ie hw;have hwp:∀p∈ps,C9 p=true:=λp hp=>EU hw p (by simpa [Ff] using hp);have IH:∀p∈ps,∀l:List Int,(D2 p l).length<=1000000->jH stay l p:=λp hp l h=>mD stay hst p l (hwp p hp) h;simp only [Ff] at hl3;unfold jH;by_cases h9:f=9
  ·subst h9;have e:=E7 hw rfl;simp only [Ao,num,Ty.mk.injEq] at e;obtain ⟨_,_,rfl,rfl⟩:=e;have e2:∀L,G4 stay L (.mk 9 n [] []) = .mk 9 (EC stay (L.idxOf n)) [] []:=λL=>by simp [G4,Ht]
   rw [e2];refine AQ Ah func81 rfl [6,7,8,5,9,10,11,12,13]<|Ai rfl<|Aa rfl (λh=>by exfalso;simp [BQ] at h) (λh=>?_);refine Av rfl<|Aa rfl (λh=>?_) (λh=>by exfalso;simp [BQ] at h);refine Av rfl ?_;by_cases hm:n∈l
   ·have eg:D2 (.mk 9 n [] []) l=l:=by simp [D2,hm]
    rw [eg] at hb ⊢;have hT:=M3 stay 9 (EC stay (l.idxOf n)) [] [] l (by simp) (λp hp=>by simp at hp) (λp hp=>by simp at hp) (by simpa [Cm] using hb);have hlk:=XT (stay:=stay) (l:=l) (h:=n);rw [if_pos hm] at hlk;have hgb:=uN (stay:=stay) hm;have htk:=sN (stay:=stay) (Za.2 hm);have hgt:=kV htk;have hkb:=XU stay l;have hkt:=CE (tkL stay l);have hlb:=uM stay l;have hjt:=(AO.1 hgt).1;have hjb:=(AO.1 hgb).1;simp only [nbS,Cm] at hT;simp only [nbS];generalize byM stay l=B at *;generalize (tkL stay l).idxOf ↑(EC stay (l.idxOf n))=jt at *;generalize DJ (tkL stay l)=K at *;generalize EC stay (l.idxOf n)=N at *;generalize l.idxOf n=jb at *
    refine CJ Ah 3 (z:=.int .i64 0) (zd:=.int .i64 0) (dr:=.imm (.tup [.int .i64 N,.bool true])) rfl rfl rfl hkb (by simp) rfl (λ_=>.int _ _) (by simp only [FC];rw [show num (Ty.mk 9 n [] [])=n from rfl,hlk];rfl)<|yg [] rfl (by simp;rfl)<|Ak (λ_:Unit=>[(5,.imm (.int .i64 N)),(6,.imm (.bool true)),(0,.ref 1 0),(3,.ref 6 0),(4,.ref 7 0)])
     (λ_=>(6,some (.cells 25 4 [.imm (.int .i64 9),.imm (.int .i64 n),.imm (.str []),.hv 4 0]))::(7,some (.cells 25 4 [.imm (.int .i64 0),.imm (.int .i64 0),.imm (.str []),.nils]))::(1,some (.cells 123 2 [.mapr 2,.mapr 3]))::(2,some (.map K))::(3,some (.map B))::[(4,some (.hp (J7 [])))])
     [8,5,9,10,11,12,13] (λ_=>0) (λ_=>True) () trivial BA GE rfl λ_ _ ih=>?_
    clear ih;refine Av rfl<|R7 rfl λh=>At rfl<|IL 3 rfl λb1 es1 clock1 hs1 hst1=>IL 2 rfl λb2 es2 clock2 hs2 hst2=>?_;obtain ⟨x1,hx1⟩:∃e,es1[jb]?=some e:=⟨_,P2 (by omega)⟩
    obtain ⟨x2,hx2⟩:∃e,es2[jt]?=some e:=⟨_,P2 (by omega)⟩
    exact Av rfl<|dE Ah jb (e:=x1) rfl hkb hx1 hgb rfl<|Ai rfl<|Vn jb (e:=x1) rfl rfl hx1 rfl hgb<|Ai rfl<|dE Ah jt (e:=x2) rfl hkt hx2 hgt rfl<|Ai rfl<|Vn jt (e:=x2) rfl rfl hx2 rfl hgt<|N0 2 rfl (by simp;rfl)<|Hy 2 rfl<|Hy 3 rfl<|yZ 5 rfl (by simp)<|Ae hT AH ⟨rfl,rfl,rfl,congrArg Blk.map (Qr hgt),congrArg Blk.map (Qr hgb),AC⟩ rfl
   ·have eg:D2 (.mk 9 n [] []) l=l++[n]:=by simp [D2,hm]
    have ei:(l++[n]).idxOf n=l.length:=by rw [List.idxOf_append,if_neg hm];simp
    rw [eg] at hb ⊢;rw [ei];have hT:=M3 stay 9 (EC stay l.length) [] [] (l++[n]) (by simp) (λp hp=>by simp at hp) (λp hp=>by simp at hp) (by simpa [Cm] using hb);have hlk:=XT (stay:=stay) (l:=l) (h:=n);rw [if_neg hm] at hlk;have htk:=λ(j:Nat) (hj:j<=EC stay l.length)=>wU (stay:=stay) (l:=l) hj;have hkb:=XU stay l;have hkt:=CE (tkL stay l);have hNb:EC stay l.length<=2000000:=by have:=sO stay l.length;simp at hb;omega
    have hlt:=NE (EC stay l.length:Int) (tkL stay l);rw [if_neg (λh=>by have:=(htk _ (BL _)).1 h;omega)] at hlt;have hq3:=Qs (.int .i64 n,.int .i64 0) (.int .i64 n,.int .i64 (EC stay l.length:Int)) (byM stay l);rw [<- pX] at hq3;have hq2:=Qs (.int .i64 (EC stay l.length:Int),.bool false) (.int .i64 (EC stay l.length:Int),.bool true) (DJ (tkL stay l));have e2:DJ (tkL stay l)++[(.int .i64 (EC stay l.length:Int),.bool true)]=DJ (tkL stay (l++[n])):=by rw [kM];simp [DJ]
    rw [e2] at hq2;have hlook:=λ(j:Nat)=>Gc (j:Int) (tkL stay l);clear e2;simp only [nbS,Cm] at hT;simp only [nbS];generalize byM stay (l++[n])=B' at *;generalize byM stay l=B at *;generalize DJ (tkL stay (l++[n]))=K' at *;generalize hK:DJ (tkL stay l)=K at *;generalize EC stay l.length=N at *;refine CJ Ah 3 (z:=.int .i64 0) (zd:=.int .i64 0) (dr:=.imm (.tup [.int .i64 0,.bool false])) rfl rfl rfl hkb (by simp) rfl (λ_=>.int _ _) (by simp only [FC];rw [show num (Ty.mk 9 n [] [])=n from rfl,hlk];rfl)<|yg [] rfl (by simp;rfl)<|Ak (λz:Nat×Bool=>[(5,.imm (.int .i64 z.1)),(6,.imm (.bool z.2)),(0,.ref 1 0),(3,.ref 6 0),(4,.ref 7 0)])
     (λ_=>(6,some (.cells 25 4 [.imm (.int .i64 9),.imm (.int .i64 n),.imm (.str []),.hv 4 0]))::(7,some (.cells 25 4 [.imm (.int .i64 0),.imm (.int .i64 0),.imm (.str []),.nils]))::(1,some (.cells 123 2 [.mapr 2,.mapr 3]))::(2,some (.map K))::(3,some (.map B))::[(4,some (.hp (J7 [])))])
     [8,5,9,10,11,12,13] (λz=>if z.2=true then 0 else N-z.1+1) (λz=>z.1<=N/\(z.2=true->z.1=N)) (0,false) ⟨AF _,λh=>nomatch h⟩ BA GE rfl λz hz ih=>?_
    obtain ⟨j,is⟩:=z;obtain ⟨hz1,hz2⟩:=hz;simp only at hz1 hz2;cases is with
    | false =>
     refine Av rfl<|R6 rfl λh=>Av rfl ?_;by_cases hjN:j<N
     ·have hd:decide ((j:Int)∈tkL stay l)=true:=decide_eq_true ((htk j hz1).2 hjN);exact CJ Ah 2 (z:=.bool false) (zd:=.bool false) (dr:=.imm (.bool true)) rfl rfl rfl hkt (by simp) rfl (λ_=>.bool _) (by rw [hlook,hd])<|Ai rfl<|R6 rfl λh=>Av rfl<|Ae (ih (j+1,false) (by simp;omega) ⟨by simp only;omega,λh=>nomatch h⟩) ⟨A8 (BW (by simp only;omega) (by simp only;omega)),BJ⟩ GE rfl
     ·have hd:decide ((j:Int)∈tkL stay l)=false:=decide_eq_false (λh=>hjN ((htk j hz1).1 h));exact CJ Ah 2 (z:=.bool false) (zd:=.bool false) (dr:=.imm (.bool false)) rfl rfl rfl hkt (by simp) rfl (λ_=>.bool _) (by rw [hlook,hd])<|Ai rfl<|R7 rfl λh=>Av rfl<|Ae (ih (j,true) (by simp) ⟨hz1,λ_=>by omega⟩) BA GE rfl
    | true =>
     have ej:=hz2 rfl;subst ej;clear ih;exact Av rfl<|R7 rfl λh=>At rfl<|IL 3 rfl λb1 es1 clock1 hs1 hst1=>IL 2 rfl λb2 es2 clock2 hs2 hst2=>Av rfl<|dF Ah (z:=.int .i64 0) (zd:=.int .i64 0) rfl hkb hlk rfl (λ_=>.int _ _)<|Ai rfl<|Vn B.length (e:=⟨.int .i64 n,.int .i64 0,clock1⟩) (p:=(.int .i64 n,.int .i64 0)) rfl rfl (by simp [<- hs1]) rfl (by simp)<|Ai rfl<|dF Ah (z:=.bool false) (zd:=.bool false) rfl hkt hlt rfl (λ_=>.bool _)<|Ai rfl<|Vn K.length (e:=⟨.int .i64 j,.bool false,clock2⟩) (p:=(.int .i64 j,.bool false)) rfl rfl (by simp [<- hs2]) rfl (by simp)<|N0 2 rfl (by simp;rfl)<|Hy 2 rfl<|Hy 3 rfl<|yZ 5 rfl (by simp)<|Ae hT AH ⟨rfl,rfl,rfl,congrArg Blk.map hq2,congrArg Blk.map hq3,AC⟩ rfl
  ·have e1:D2 (.mk f n x ps) l=Cm ps l:=by simp only [D2,if_neg h9]
   have e2:∀L,G4 stay L (.mk f n x ps) = .mk (if f=10 then 9 else f) n x (Ht stay L ps):=λL=>by simp only [G4,if_neg h9]
   rw [e1] at hb ⊢;rw [e2];refine AQ Ah func81 rfl [6,7,8,5,9,10,11,12,13]<|Ai rfl ?_;by_cases h10:f=10
   ·subst h10;have hT:=M3 stay 9 n x ps l hl3 hwp IH hb;refine Aa rfl (λh=>?_) (λh=>by exfalso;simp [BQ] at h);exact yZ 5 rfl (by simp)<|Ae hT AH GE rfl
   ·have hT:=M3 stay f n x ps l hl3 hwp IH hb;rw [if_neg h10];refine Aa rfl (λh=>by exfalso;simp [BQ] at h;exact h10 h) (λh=>?_);refine Av rfl<|Aa rfl (λh=>by exfalso;simp [BQ] at h;exact h9 h) (λh=>?_);exact yZ 2 rfl (by simp)<|Ae hT AH GE rfl
termination_by t=>SizeOf.sizeOf t
decreasing_by
 have:=Ct hp;simp_wf;omega
theorem ZU (l:Au) (f:FuncId) (a b:List V) (q:Str×Ty->Bool) (hq:∀t∈l,Tq3 f (a++[.agg (Vw t)]++b) (.bool (q t))) :
  ∃i:Int,(0<=i↔l.any q=true)/\Tq3 188 [.sl (A0 l),.clo (.func f) a b] (.int .i64 i):=by
 obtain ⟨i,h1,h2⟩:∃i:Int,(0<=i↔l.any q=true)/\((i = -1/\l.any q=false)\/∃(k:Nat) (t:Str×Ty),i=k/\l[k]?=some t/\q t=true/\(l.take k).any q=false):=by
  by_cases h:l.any q=true
  ·have key:∀(n:Nat),(l.take n).any q=true->∃(k:Nat) (t:Str×Ty),l[k]?=some t/\q t=true/\(l.take k).any q=false:=λn=>by
    induction n with
    | zero=>intro h;simp at h
    | succ n ih =>
     intro h;by_cases hn:(l.take n).any q=true
     ·exact ih hn
     ·by_cases hl:n<l.length
      ·obtain ⟨t,ht⟩:=Am hl;rw [Bk ht,DU] at h;simp only [QN] at hn;rw [hn,JP] at h;exact ⟨n,t,ht,by simpa using h,hn⟩
      ·rw [CQ (by omega)] at h hn;exact absurd h hn
   obtain ⟨k,t,k1,k2,k3⟩:=key l.length (by rw [E0];exact h);exact ⟨k,⟨λ_=>h,λ_=>by omega⟩,.inr ⟨k,t,rfl,k1,k2,k3⟩⟩
  ·exact ⟨-1,⟨λh'=>by omega,λh'=>absurd h' h⟩,.inl ⟨rfl,by simpa using h⟩⟩
 refine ⟨i,h1,?_⟩;clear h1;refine Bl λhv=>?_;simp [Cx,Ez,maxLen] at hv;refine AQ Ah func188 rfl [1,2]<|Ai rfl<|Ak (λj:Nat=>[(8,.imm (.int .i64 j)),(7,.imm (.int .i64 l.length)),(0,.imm (.sl (A0 l))),(1,.imm (.clo (.func f) a b))]) (λ_=>[]) [1,2] (λj=>l.length-j) (λj=>j<=l.length/\(l.take j).any q=false) 0
  ⟨AF _,rfl⟩ ⟨rfl,A8 (by simp),AD⟩ trivial rfl λj hj ih=>?_
 obtain ⟨hj1,hj2⟩:=hj;refine Av rfl<|Aa rfl (λh=>?_) (λh=>?_)
 ·have hlt:j<l.length:=by simp at h;omega
  obtain ⟨t,ht⟩:=Am hlt;have hg:=Ni ht;have hQ:=hq t (AK ht);have htk:(l.take (j+1)).any q=q t:=by rw [Bk ht,DU,hj2];simp
  have hfound:q t=true->i=j:=λhqt=>by
   rcases h2 with ⟨_,h⟩ | ⟨k,u,rfl,k1,k2,k3⟩
   ·have:l.any q=true:=Ze.2 ⟨t,AK ht,hqt⟩;rw [this] at h;cases h
   ·congr 1;rcases LM k j with hc | hc | hc
    ·have:(l.take j).any q=true:=Ze.2 ⟨u,DE.2 ⟨k,by rw [Dl,if_pos hc];exact k1⟩,k2⟩;rw [hj2] at this;cases this
    ·exact hc
    ·have:(l.take k).any q=true:=Ze.2 ⟨t,DE.2 ⟨j,by rw [Dl,if_pos hc];exact ht⟩,hqt⟩;rw [k3] at this;cases this
  generalize q t=o at *;obtain ⟨y,⟨t1,t2,t3,t4⟩⟩:=t;refine Av rfl<|HA rfl hg<|Ai rfl<|PP rfl (λ_=>hQ) (by simp)<|Ai rfl ?_;cases o with
  | true =>
   exact R6 rfl λh=>Av rfl<|Ag ⟨_,rfl,tV (by rw [hfound rfl]),trivial⟩
  | false =>
   exact R7 rfl λh=>Av rfl<|Ae (ih (j+1) (by omega) ⟨by omega,htk⟩) ⟨M6,AH⟩ trivial rfl
 ·have hlt:¬j<l.length:=by simp at h;omega
  rw [CQ (by omega)] at hj2;have hi:i = -1:=by
   rcases h2 with ⟨h,_⟩ | ⟨k,u,_,k1,k2,_⟩
   ·exact h
   ·have:l.any q=true:=Ze.2 ⟨u,AK k1,k2⟩;rw [hj2] at this;cases this
  exact At rfl<|Av rfl<|Ag ⟨_,rfl,tV (by rw [hi]),trivial⟩
theorem Sn (l:Au) (f:FuncId) (a b:List V) (q:Str×Ty->Bool) (hq:∀t∈l,Tq3 f (a++[.agg (Vw t)]++b) (.bool (q t))) :
  Tq3 129 [.sl (A0 l),.clo (.func f) a b] (.bool (l.any q)):=by
 obtain ⟨i,h1,h2⟩:=ZU l f a b q hq;refine AQ Ah func129 rfl [1,2]<|Ai rfl<|Ad rfl h2<|Ai rfl<|Ab rfl rfl (congrArg _ ?_);rw [EY,<- h1];simp
theorem gV (g:FuncId) (q:Str×Ty->Bool) (t:Str×Ty) (hq:Tq3 g [.agg (Vw t)] (.bool (q t))):Tq3 130 [.agg (Vw t),.ip 116 [.fn (.func g)] 0] (.bool (!q t)):=by
 generalize q t=o at *;obtain ⟨y,⟨t1,t2,t3,t4⟩⟩:=t;exact Mw<|AQ Ah func130 rfl [2,3,4,5]<|Ai rfl<|Ad rfl hq<|Ai rfl<|Ab rfl rfl rfl
theorem oE (l:Au) (g:FuncId) (q:Str×Ty->Bool) (hq:∀t∈l,Tq3 g [.agg (Vw t)] (.bool (q t))):Tq3 71 [.sl (A0 l),.fn (.func g)] (.bool (l.all q)):=by
 have hC:=Sn l 130 [] [.ip 116 [.fn (.func g)] 0] (λt=>!q t) λt ht=>gV g q t (hq t ht);refine AQ Ah func71 rfl [2,3,4,5]<|Ai rfl<|Jo rfl (λ_=>hC) rfl (by simp)<|Ai rfl<|Ab rfl rfl (congrArg _ ?_);rw [EY];simp
def Vl (p:Str×Ty):Bool:=ER p.1&&AV true p.2
theorem ZR (p:Str×Ty):Tq3 72 [.agg (Vw p)] (.bool (Vl p)):=by
 have hN:=Gy p.1;have hC:=Fz [p.2];simp only [Zi,LI,uL] at hC;unfold Vl;generalize AV true p.2=o2 at *;generalize ER p.1=o1 at *;obtain ⟨y,⟨t1,t2,t3,t4⟩⟩:=p;refine AQ Ah func72 rfl [2,3,4,5]<|Ai rfl<|Ad rfl hN<|CW rfl<|Ce rfl hC<|CW rfl ?_;exact Ag ⟨_,rfl,tV (by cases o1 <;> cases o2 <;> rfl),trivial⟩
def Xl (m:Md) (Γ:Au) (t:Tm) (T:List (Int×Ty)) (k:Int) (S:List Ty) (u:List V):St :=
 CI m T k S++[(5,some (.cells 92 1 [.ref 1 0])),(6,some (.immb 49 5 (Al t))),(7,some (.immb 118 1 [.sl (A0 Γ)])),(8,some (.immb 25 4 u))]
def wG (m:Md) (Γ:Au) (t:Tm) (T:List (Int×Ty)) (k:Int) (S:List Ty) (u:List V):St :=
 U0 m T k S++[(5,some (.cells 92 1 [.ref 1 0])),(6,some (.immb 49 5 (Al t))),(7,some (.immb 118 1 [.sl (A0 Γ)])),(8,some (.immb 25 4 u))]
theorem WY {k:Int} (hI:Ey m Γ t [] 0 [] (some (τ,T,k,S))) (hs:Sol (BH T) θ) (hl:S.length<=1000000) (hp:(S.map (A9 θ)).all Df=true) :
  Tq4 78 [.ref 5 0,.ref 6 0,.ref 7 0,.ref 8 0] (Xl m Γ t [] 0 [] (dTyc Dr)) (.ret (.imm (.tup [])) (wG m Γ t T k S (dTyc τ))):=by
 have hS:=MI m T k S hs hl hp;unfold Ey Cu Dj at hI;obtain ⟨t1,t2,t3,t4,t5⟩:=t;obtain ⟨u1,u2,u3,u4⟩:=τ;exact AQ Ah func78 rfl [4,9,10]<|Ai rfl<|Jf [4] [(1,1),(2,2),(3,3)] [(4,4)] rfl hI Ax rfl rfl<|Ai rfl<|Jf [] [(1,1),(2,2),(4,3)] [] rfl hS Ax rfl rfl<|Ai rfl<|BP ⟨[],Y0⟩
theorem WZ {k:Int} (hI:Ey m Γ t [] 0 [] (some (τ,T,k,S))) (hs:Sol (BH T) θ) (hl:S.length<=1000000) (hp:(S.map (A9 θ)).all Df=false) :
  Tq4 78 [.ref 5 0,.ref 6 0,.ref 7 0,.ref 8 0] (Xl m Γ t [] 0 [] (dTyc Dr)) (.pan Gn):=by
 have hS:=OS m T k S hs hl hp;unfold Ey Cu Dj at hI;obtain ⟨t1,t2,t3,t4,t5⟩:=t;obtain ⟨u1,u2,u3,u4⟩:=τ;exact AQ Ah func78 rfl [4,9,10]<|Ai rfl<|Jf [4] [(1,1),(2,2),(3,3)] [(4,4)] rfl hI Ax rfl rfl<|Ai rfl<|Bd [(1,1),(2,2),(4,3)] rfl (by simp) hS Ax rfl rfl rfl<|Ai rfl<|By 9 rfl
theorem ZQ (hI:Ey m Γ t [] 0 [] none) :
  Tq4 78 [.ref 5 0,.ref 6 0,.ref 7 0,.ref 8 0] (Xl m Γ t [] 0 [] (dTyc Dr)) (.pan Gn):=by
 unfold Ey Cu Dj at hI;obtain ⟨t1,t2,t3,t4,t5⟩:=t;exact AQ Ah func78 rfl [4,9,10]<|Ai rfl<|Bg 3 [(1,1),(2,2),(3,3)] rfl (by simp) hI Ax rfl rfl rfl<|Bs 7 3 rfl
section
variable {env2:Env} {st2 stx:St} {ids2:List Nat} {all rest:List Oper}
theorem Rx {fc:Func} {stB:St} {pend:Option Code} (hf:P.funcs[L.fn]?=some fc) (hps:L.ps = #[p]) (hsz:L.tmps.size=n) (hd:J9 d=[]) (hp:p<n) (hfree:Rs ids L.E stx L.F) (hasg:RU P n L.asg ((p,d)::L.E) stx ids env st ids') (h:DGo P n (lA::(L.F++W1 L.E)) (zar pend stB) [.code L.body] env st ids'):Oy P [d] (Do L stx none) pend.isNone (Do L stB pend):=by
 intro I μ w b xs hμ hst hx;have hl0:Az (V9 1 (Do L stx none)) 0 .pin:=AB.2 (.inl ⟨rfl,rfl⟩);have hl1:Az (V9 1 (Do L stx none)) 1 (.bun 0 (Do L stx none)):=AB.2 (.inr ⟨by simp,AB.2 (.inl ⟨rfl,rfl⟩)⟩);obtain ⟨g1,hg1,b',bs,hb1,rfl,hP⟩:=hst.blk 1 _ hl1;rw [hμ] at hb1;cases hb1;have hbs:∀k∈bs,I k=none/\k<w.heap.size:=λk hk=>hst.apart 1 _ _ k hl1 hg1 (DB.2 hk);have hP0:=hP;obtain ⟨r,ν,bs0,e1,hr1,⟨hr2,hr3⟩,⟨hr4,hr5,hr6,hr7,hr8⟩,hE1,hS,hown,hnb,hF⟩:=XW hP hfree hst.imm hbs;subst e1;obtain ⟨x,rfl⟩:∃x,xs = #[x]:=by
  obtain ⟨l⟩:=xs;have:=hx.1
  match l,this with
  | [x],_=>exact ⟨x,rfl⟩
 have hxd1:RepD I ν x d:=(hx.2 0 x d rfl rfl).sub λj hj=>by rw [hd] at hj;cases hj
 have hszp:(#[x]:Array Value).size=r.params.size:=by rw [hr5,hps];rfl
 unfold zaq;rw [run_yield hr1 hszp];refine NG (fc:=fc) (by rw [hr4];exact hf) λfb cs hbf hbr=>?_;rw [hr5,hps,hr6,hr7,hr8];have hfold:((#[p]:Array Nat).zip #[x]).foldl (λtmps (t,a)=>tmps.setIfInBounds t a) L.tmps=L.tmps.setIfInBounds p x:=by simp
 rw [hfold];obtain ⟨hIb,hblt⟩:=hbs b (by simp);have hnob0:¬Bu ν stx b:=λh=>hnb ((hown b).2 h);have hput:∀(w:World) (o:Obj),(w.putObj b o).heap=w.heap.setIfInBounds b o:=λw o=>by
  unfold World.putObj;by_cases hi:b<w.heap.size <;> simp [hi]
 have hoth:∀(w:World) (o:Obj) k,k≠b->(w.putObj b o).heap[k]?=w.heap[k]?:=λw o k hk=>by rw [hput,FV (Ne.symm hk)]
 obtain ⟨c1,c2,c3⟩:=HI (n:=n) (w:=w) (a:={ tmps:=L.tmps,defers:=[] }) (dst:=some p) hE1 hsz (λt ht=>by cases ht;exact hp) hxd1;have hc0:Conc n I ν ((p,d)::L.E) stx ids (Act.put { tmps:=L.tmps,defers:=[] } (some p) x) w:={ hS with size:=c2,env:=c1,defers:=by rw [c3];exact MarksOk.nil _ _ _ _ }
 refine hasg fb cs _ I ν _ w _ hc0 λIA νA aA wA hcA hmA heA=>?_;have hnob:¬Bu νA st b:=λh=>hnob0 (heA.fresh b hblt h);have hrA1:wA.heap[b]?=some (.loop r):=by rw [heA.block b hblt hnob0];exact hr1
 have hIbA:IA b=none:=by rw [heA.old b hblt hnob0];exact hIb
 have hbltA:b<wA.heap.size:=(GH.1 hrA1).1;obtain ⟨w1,hw1⟩:∃w1:World,w1=wA.putObj b (.loop { r with state:=.busy }):=⟨_,rfl⟩
 have hbeg:=run_beginRound (P:=P) hrA1 hr2;refine Reach.step (stepR_beginRound hbr hbeg) ?_;rw [<- hw1];have hmarks:MarksOk IA νA st w1 aA.defers:=by
  obtain ⟨rs,m1,m2,m3⟩:=hcA.defers;refine ⟨rs,m1,m2,λk hk=>⟨?_,(m3 k hk).2⟩⟩;have h0:=(m3 k hk).1;rw [hw1,hoth _ _ k (λe=>by rw [e,hrA1] at h0;cases h0)];exact h0
 have hc:Conc n IA νA env st ids' aA w1 :=
  {hcA.toStRep.other (by rw [hw1,hput];simp) (λk o hk=>by rw [hw1];exact hoth _ _ k (λe=>by rw [e,hIbA] at hk;cases hk)) (λk hk=>by rw [hw1];exact hoth _ _ k (λe=>hnob (e ▸ hk))) with
   size:=hcA.size
   env:=hcA.env
   defers:=hmarks }
 have hgo:=h ⟨fb,.inl (by simp)⟩ cs IA νA _ w1 [.code L.body] AC hc;refine Reach.mono (λe a' w' hpost=>?_) hgo;obtain ⟨x',env',st',ids2,I',μ',p1,p2,p3,p4,p5,p6⟩:=hpost;have hb1:w1.heap[b]?=some (.loop { r with state:=.busy }):=by rw [hw1,hput];simp [hbltA]
 have hsz1:w1.heap.size=wA.heap.size:=by rw [hw1,hput];simp
 have hszA:w.heap.size<=wA.heap.size:=heA.size;have hno2:∀k,k<w.heap.size->¬Bu ν stx k->¬Bu νA st k:=λk hk ho hq=>ho (heA.fresh k hk hq);have hfr2:∀k,k<w.heap.size->Bu μ' st' k->Bu ν stx k:=λk hk ho=>heA.fresh k hk (p5.fresh k (by omega) ho);have hold2:∀k,k<w.heap.size->¬Bu ν stx k->I' k=I k:=λk hk ho=>(p5.old k (by omega) (hno2 k hk ho)).trans (heA.old k hk ho);have himm2:I.le I':=Imm.le_trans heA.imm p5.imm;have hb':w'.heap[b]?=some (.loop { r with state:=.busy }):=by rw [p5.block b (by omega) hnob];exact hb1
 have hno':¬Bu μ' st' b:=λho=>hnob (p5.fresh b (by omega) ho);have hI':I' b=none:=by rw [p5.old b (by omega) hnob];exact hIbA
 have hblt':b<w'.heap.size:=(GH.1 hb').1;have fin:Iw st' stB->∃v w'',(Instr.endRound b pend).run P w' = .ok v w''/\(∃I2 μ2,RepD I2 μ2 v (.imm (.bool pend.isNone))/\StRep I2 μ2 (V9 2 (Do L stB pend)) [] w'' /\
   Pin (DY (V9 1 (Do L stx none))) μ μ2/\Ext I μ (V9 1 (Do L stx none)) w I2 μ2 (V9 2 (Do L stB pend)) w''):=by
  intro hsub;have hSB:StRep I' μ' stB [] w':=p3.toStRep.less (Fq hsub) .nil (λ_ h=>by simp at h);have hownB':∀k,Bu μ' stB k->Bu μ' st' k:=λk ⟨i,bi,g,q1,q2⟩=>⟨i,bi,g,Fq hsub i bi q1,q2⟩
  have hnoB:¬Bu μ' stB b:=λh=>hno' (hownB' b h);obtain ⟨w2,hw2⟩:∃w2:World,w2=w'.putObj b (.loop { r with state:=if pend.isNone then .ready else .done,pending:=pend }):=⟨_,rfl⟩
  have hend:(Instr.endRound b pend).run P w' = .ok (.bool pend.isNone) w2:=by
   have:=run_endRound (P:=P) pend hb';rw [hw2];exact this
  have hw2s:w2.heap.size=w'.heap.size:=by rw [hw2,hput];simp
  have hw2o:∀k,k≠b->w2.heap[k]?=w'.heap[k]?:=λk hk=>by rw [hw2];exact hoth _ _ k hk
  have hSB2:StRep I' μ' stB [] w2:=hSB.other (by omega) (λk o hk=>hw2o k (λe=>by rw [e,hI'] at hk;cases hk)) (λk hk=>hw2o k (λe=>hnoB (e ▸ hk)));obtain ⟨bsN,hbsN⟩:=Q5 μ' stB;have hPN:(Do L stB pend).P I' w2 b (b::bsN):=by
   refine ⟨{ r with state:=if pend.isNone then .ready else .done,pending:=pend },μ',bsN,rfl,by rw [hw2,hput];simp [hblt'],⟨by cases pend <;> rfl,rfl⟩,⟨hr4,hr5,hr6,hr7,hr8⟩,λt d hl=>?_,hSB2.blk,hSB2.inj,hbsN,λhm=>hnoB ((hbsN b).1 hm),λi hi=>?_⟩
   ·exact ((hE1 t d hl).mono himm2 (Mu.le_refl ν)).sub λj hj g hg=>p4 j (by simp [YT hl j hj]) g (hmA j g hg)
   ·exact λg hg0=>p4 i (by simp [hi]) g (hmA i g (hF i hi g hg0))
  obtain ⟨μ2,hμ2⟩:∃μ2:Mu,μ2=λi=>if i=2 then some (.agg (UD (b::bsN))) else μ i:=⟨_,rfl⟩
  have hm0:μ2 0=some (.func (.yield b) #[] #[]):=by rw [hμ2];simpa using hμ
  have hm2:μ2 2=some (.agg (UD (b::bsN))):=by rw [hμ2];simp
  have hold:∀k,k∈b::bsN->k<w.heap.size->k∈b::bs0:=λk hk hlt=>by
   rcases CA.1 hk with rfl | hk
   ·simp
   ·exact HR _ ((hown k).2 (hfr2 k hlt (hownB' k ((hbsN k).1 hk))))
  have hnew:∀k∈b::bsN,I' k=none/\k<w2.heap.size:=λk hk=>by
   rcases CA.1 hk with rfl | hk
   ·exact ⟨hI',by omega⟩
   ·obtain ⟨i,bi,g,q1,q2,q3⟩:=(hbsN k).1 hk;exact hSB2.apart i bi g k q1 q2 q3
  have hownO:∀k,Bu μ (V9 1 (Do L stx none)) k↔k∈b::bs0:=λk=>by
   constructor
   ·rintro ⟨i,bi,g,q1,q2,q3⟩;rcases JA (by simp) q1 with ⟨rfl,rfl⟩ | ⟨rfl,rfl⟩
    ·rw [hμ] at q2;cases q2;exact q3.elim
    ·rw [hg1] at q2;cases q2;exact DB.1 q3
   ·intro hk;exact ⟨1,_,_,hl1,hg1,DB.2 hk⟩
  have hownN:∀k,Bu μ2 (V9 2 (Do L stB pend)) k->k∈b::bsN:=λk=>by
   rintro ⟨i,bi,g,q1,q2,q3⟩;rcases JA (by simp) q1 with ⟨rfl,rfl⟩ | ⟨rfl,rfl⟩
   ·rw [hm0] at q2;cases q2;exact q3.elim
   ·rw [hm2] at q2;cases q2;exact DB.1 q3
  refine ⟨_,w2,hend,I',μ2,.imm _ _ (.bool _),?_,?_,?_⟩
  ·refine { imm:=hSB2.imm,blk:=λi bi hl=>?_,apart:=λi bi g k hl hgi hk=>hnew k (hownN k ⟨i,bi,g,hl,hgi,hk⟩),inj:=λi j bi bj gi gj k hi hj hgi hgj hki hkj=>?_,nodup:=.nil,idsFree:=λ_ h=>by simp at h }
   ·rcases JA (by simp) hl with ⟨rfl,rfl⟩ | ⟨rfl,rfl⟩
    ·exact ⟨_,hm0,b,rfl⟩
    ·exact ⟨_,hm2,b,_,hm0,rfl,hPN⟩
   ·rcases JA (by simp) hi with ⟨rfl,rfl⟩ | ⟨rfl,rfl⟩ <;> rcases JA (by simp) hj with ⟨rfl,rfl⟩ | ⟨rfl,rfl⟩
    ·rfl
    ·rw [hm0] at hgi;cases hgi;exact hki.elim
    ·rw [hm0] at hgj;cases hgj;exact hkj.elim
    ·rfl
  ·intro i hi g hg;simp only [V9,DY,Cv,FB,CA,LJ,or_false] at hi;have:i≠2:=by omega
   rw [hμ2];simp only [if_neg this];exact hg
  ·refine { imm:=himm2,os:=?_,tape:=?_,output:=?_,size:=?_,block:=λk hk hno=>?_,fresh:=λk hk ho=>(hownO k).2 (hold k (hownN k ho) hk),old:=λk hk hno=>hold2 k hk (λh=>hno ((hownO k).2 (HR _ ((hown k).2 h)))) }
   ·have:=p5.os;rw [hw1] at this;rw [hw2,<- heA.os];unfold World.putObj at this ⊢;exact this
   ·have:=p5.tape;rw [hw1] at this;rw [hw2,<- heA.tape];unfold World.putObj at this ⊢;exact this
   ·have:=p5.output;rw [hw1] at this;rw [hw2,<- heA.output];unfold World.putObj at this ⊢;exact this
   ·have:=p5.size;omega
   ·have hkb:k≠b:=λe=>hno ((hownO k).2 (by simp [e]));have hno3:¬Bu ν stx k:=λh=>hno ((hownO k).2 (HR _ ((hown k).2 h)));rw [hw2o k hkb,p5.block k (by omega) (hno2 k hk hno3),hw1,hoth _ _ k hkb,heA.block k hk hno3]
 cases e with
 | normal =>
  cases x' <;> simp only [Ot] at p1;cases pend with
  | none=>exact fin p2
  | some c=>exact p2.elim
 | ret =>
  cases x' <;> simp only [Ot] at p1;cases pend with
  | none=>exact p2.elim
  | some c=>cases c <;> first | exact p2.elim | exact fin p2
 | exit j =>
  cases x' <;> simp only [Ot] at p1;cases pend with
  | none=>exact p2.elim
  | some c =>
   cases c <;> first | exact p2.elim | skip
   obtain ⟨q1,q2⟩:=p2;subst q1;subst p1;exact fin q2
 | goto l =>
  cases x' <;> simp only [Ot] at p1;cases pend <;> exact p2.elim
 | panic chain =>
  cases x' <;> simp only [Ot] at p1;cases pend <;> exact p2.elim
 | outgrown=>cases x' <;> simp only [Ot] at p1
end
def LS (Γ:Au):Au:=Γ.map λp=>(p.1,FI p.2)
theorem iH (Γ:Au) (p:Str×Ty):LS (Γ++[p])=LS Γ++[(p.1,FI p.2)]:=by simp [LS]
def sT (l:List Int) (u:Ty):List Int:=if BQ u=9 then (if num u∈l then l else l++[num u]) else l
theorem mL (l:List Int) (f n:Int) (x:Str) (ps:List Ty):sT l (.mk f n x ps)=if f=9 then (if n∈l then l else l++[n]) else l:=rfl
mutual
theorem VI:∀(t:Ty) (l:List Int),C9 t=true->(GD t).foldl sT l=D2 t l
 | .mk f n x ps,l,hw=>by
  simp only [GD,OO,mL,D2];by_cases h9:f=9
  ·subst h9;have e:=E7 hw rfl;simp only [Ao,num,Ty.mk.injEq] at e;obtain ⟨_,_,rfl,rfl⟩:=e;simp only [CG,zb4,if_true]
  ·rw [if_neg h9,if_neg h9];exact SN ps l λp hp=>EU hw p (by simpa [Ff] using hp)
theorem SN:∀(ts:List Ty) (l:List Int),(∀t∈ts,C9 t=true)->(CG ts).foldl sT l=Cm ts l
 | [],_,_=>rfl
 | t::r,l,hw=>by
  simp only [CG,NB,Cm];rw [VI t l (hw t (by simp)),SN r _ λp hp=>hw p (by simp [hp])]
end
theorem Qu {h:Int}:∀{l:List Int},h∈l->F2 (DJ l) (.int .i64 h) (.bool true)=DJ l
 | x::r,hm=>by
  simp only [DJ,Cv,F2,KJ];by_cases e:x=h
  ·subst e;simp
  ·have e':¬h=x:=λh=>e h.symm;have ih:=Qu (l:=r) (by simpa [e'] using hm);simp only [DJ] at ih;rw [show decide (x=h)=false from decide_eq_false e];simp only [E1,if_false,ih]
def Wj:Code->Option (Code×Code)
 | .rangeFunc _ _ a b=>some (a,b)
 | .seq x y=>match Wj x with
  | some r=>some r
  | none=>Wj y
 | .block _ c=>Wj c
 | .loop c=>Wj c
 | .cond _ x y=>match Wj x with
  | some r=>some r
  | none=>Wj y
 | _=>none
def lC (f:Func):Code:=match Wj (Gx f 0) with
 | some (a,_)=>a
 | none=>.skip
def Y8 (f:Func):Code:=match Wj (Gx f 0) with
 | some (_,b)=>b
 | none=>.skip
def cU (m:Md) (t:Tm) (Γ:Au) (l:List Int):St :=
 [(11,some (.immb 43 3 (Du m))),(12,some (.immb 49 5 (Al t))),(13,some (.cells 25 4 [.imm (.int .i64 0),.imm (.int .i64 0),.imm (.str []),.nils])),
 (14,some (.immb 118 1 [.sl (A0 Γ)])),(15,some (.map (DJ l))),(16,some (.map [])),(17,some (.cells 123 2 [.mapr 15,.mapr 16])),(18,some (.cells 119 1 [.ref 17 0]))]
def zR (Γ:Au) (i:Nat):Env:=[(42,.imm (.int .i64 i)),(41,.imm (.int .i64 Γ.length)),(40,.imm (.sl (A0 Γ))),(3,.ref 11 0),(5,.ref 12 0),(6,.ref 13 0),(8,.ref 14 0),(9,.ref 18 0)]
theorem Xv (m:Md) (t:Tm) (Γ0 Γ:Au) (i:Nat) (l:List Int) (u:Ty) (h1:prog.funcs[L.fn]?.isSome) (h2:L.tmps.size=Tryz.f26.ntmps) (h3:L.ps = #[56]) (h4:L.asg=lC Tryz.f26) (h5:L.body=Y8 Tryz.f26) (h6:L.E=zR Γ0 i) (h7:L.F=[]):Oy prog [.imm (.agg (dTyc u))] (Do L (cU m t Γ l) none) true (Do L (cU m t Γ (sT l u)) none):=by
 obtain ⟨fc,hf⟩:=NA.1 h1;obtain ⟨f,n,x,ps⟩:=u;have hfree:Rs [21,22,23] L.E (cU m t Γ l) L.F:=by
  rw [h6,h7];refine ⟨by decide,?_⟩;simp [cU,zR,W1,J9,F3,UI,I0,DY]
 have hkt:=CE l;have hnew:n∉l->F2 (DJ l) (.int .i64 n) (.bool true)=DJ (l++[n]):=λh=>Iy h;have hold:n∈l->F2 (DJ l) (.int .i64 n) (.bool true)=DJ l:=λh=>Qu h;have hasg:∀stx,RU prog Tryz.f26.ntmps L.asg ((56,.imm (.agg (dTyc (.mk f n x ps))))::L.E) stx [21,22,23] _ _ _:=λstx=>by
  rw [h4];exact dT Ah rfl rfl rfl rfl (by simp) (by simp)
 refine Rx (pend:=none) hf h3 h2 rfl (by decide) hfree (hasg _) ?_;rw [h5,h6,h7];rw [mL];refine Av rfl ?_;by_cases h9:f=9
 ·subst h9;rw [if_pos rfl];refine R6 rfl λh=>Av rfl<|Fs Ah rfl rfl rfl hkt ?_;by_cases hn:n∈l
  ·rw [hold hn,if_pos hn];exact yg [] rfl (by simp;rfl)<|BP (⟨rfl,rfl,rfl,rfl,rfl,rfl,rfl,rfl,trivial⟩:Iw _ (cU m t Γ l))
  ·rw [hnew hn,if_neg hn];exact yg [] rfl (by simp;rfl)<|BP (⟨rfl,rfl,rfl,rfl,rfl,rfl,rfl,rfl,trivial⟩:Iw _ (cU m t Γ (l++[n])))
 ·rw [if_neg h9];refine Aa rfl (λh=>by exfalso;simp at h;exact h9 h) (λh=>?_);exact Av rfl<|BP (⟨rfl,rfl,rfl,rfl,rfl,rfl,rfl,rfl,trivial⟩:Iw _ (cU m t Γ l))
theorem VD (p q:Addr) (w:World) :
  CallsD prog 119 #[.pointer (some p),.pointer (some q)] .returning w λe u' w'=>e = .returned (.tuple #[])/\u' = .returning/\w'=w:=by
 refine callsD_of_wpS func119 rfl λc₀ cs hu=>?_;apply wpS_seq;apply wpS_region;simp [wpOpsS,go_sem,recoverD,hu,Tryz.ntmps119,Exit.thenS];apply wpS_seq;apply wpS_region;simp [wpOpsS,go_sem,Exit.thenS];refine wpS_cond (t:=false) (by simp [Act.eval,Array.replicate]) ?_;simp only [if_false,E1];refine wpS_of_wp (wp_skip ?_);cases c₀;simp_all [bodyPostS,results,Tryz.results119]
def F4:Array Value:=#[.int .i64 0,.int .i64 0,.string ⟨#[]⟩,.slice none 0 0]
def uY (n:Nat) (w w':World):Prop:=w'.os=w.os/\w'.tape=w.tape/\w'.output=w.output/\w.heap.size<=w'.heap.size/\∀b,b<w.heap.size->b≠n+1->b≠n+2->w'.heap[b]?=w.heap[b]?
theorem Uo (pb:Nat) (w:World) (h1:w.heap[pb+1]?=some (.cells F4 25 (0,0))) (h2:w.heap[pb+2]?=some (.cells #[.bool false] 4 (0,0))) :
  CallsD prog 119 #[.pointer (some ⟨pb+1,0,none⟩),.pointer (some ⟨pb+2,0,none⟩)] (.panicking [{ v:=.iface 171 (.agg #[]),recovered:=false }]) w λe u' w'=>e = .returned (.tuple #[]) /\
   u' = .panicking [{ v:=.iface 171 (.agg #[]),recovered:=true }]/\uY pb w w'/\w'.heap[pb+1]?=some (.cells F4 25 (0,0))/\w'.heap[pb+2]?=some (.cells #[.bool false] 4 (0,0)):=by
 refine callsD_of_wpS func119 rfl λc₀ cs hu=>?_;change Code.wpS _ _ _ { tmps:=#[.pointer (some ⟨pb+1,0,none⟩),.pointer (some ⟨pb+2,0,none⟩),undef,undef,undef,undef,undef,undef,undef,undef,undef,undef,undef,undef,undef,undef,undef],defers:=[] } _ _;apply wpS_seq;apply wpS_region;simp [wpOpsS,go_sem,recoverD,hu,Tryz.ntmps119,Exit.thenS];apply wpS_seq;apply wpS_region;simp [wpOpsS,go_sem,Exit.thenS];refine wpS_cond (t:=true) (by simp [Act.eval,Array.replicate]) ?_;simp only [if_true];refine wpS_of_wp ?_;clear hu;have hta:∀w:World,(Instr.typeAssert (.iface 171 (.agg #[])) 20 171 true).run prog w = .ok (.tuple #[.agg #[],.bool true]) w:=λ_=>by kernel_rfl
 have hsz1:pb+1<w.heap.size:=(GH.1 h1).1;have hsz2:pb+2<w.heap.size:=(GH.1 h2).1;have h1':(w.alloc (.cells #[] 171)).heap[pb+1]?=some (.cells F4 25 (0,0)):=(CR w _ hsz1).trans h1;have h2':(w.alloc (.cells #[] 171)).heap[pb+2]?=some (.cells #[.bool false] 4 (0,0)):=(CR w _ hsz2).trans h2;have hc0:(w.alloc (.cells #[] 171)).cell? ⟨pb+1,0,none⟩=some (.int .i64 0):=by unfold World.cell?;simp [h1',F4]
 have hz0:(w.alloc (.cells #[] 171)).frozen? ⟨pb+1,0,none⟩=false:=by unfold World.frozen?;simp [h1']
 have hc1:(w.alloc (.cells #[] 171)).cell? ⟨pb+1,1,none⟩=some (.int .i64 0):=by unfold World.cell?;simp [h1',F4]
 have hz1:(w.alloc (.cells #[] 171)).frozen? ⟨pb+1,1,none⟩=false:=by unfold World.frozen?;simp [h1']
 have hc2:(w.alloc (.cells #[] 171)).cell? ⟨pb+1,2,none⟩=some (.string ⟨#[]⟩):=by unfold World.cell?;simp [h1',F4]
 have hz2:(w.alloc (.cells #[] 171)).frozen? ⟨pb+1,2,none⟩=false:=by unfold World.frozen?;simp [h1']
 have hc3:(w.alloc (.cells #[] 171)).cell? ⟨pb+1,3,none⟩=some (.slice none 0 0):=by unfold World.cell?;simp [h1',F4]
 have hz3:(w.alloc (.cells #[] 171)).frozen? ⟨pb+1,3,none⟩=false:=by unfold World.frozen?;simp [h1']
 have hcb:(w.alloc (.cells #[] 171)).cell? ⟨pb+2,0,none⟩=some (.bool false):=by unfold World.cell?;simp [h2']
 have hzb:(w.alloc (.cells #[] 171)).frozen? ⟨pb+2,0,none⟩=false:=by unfold World.frozen?;simp [h2']
 have h2'':((w.alloc (.cells #[] 171)).setRow (pb+1) F4).heap[pb+2]?=some (.cells #[.bool false] 4 (0,0)):=(setRow_other _ _ _ _ (by omega)).trans h2';have hcb':((w.alloc (.cells #[] 171)).setRow (pb+1) F4).cell? ⟨pb+2,0,none⟩=some (.bool false):=by unfold World.cell?;simp [h2'']
 have hzb':((w.alloc (.cells #[] 171)).setRow (pb+1) F4).frozen? ⟨pb+2,0,none⟩=false:=by unfold World.frozen?;simp [h2'']
 refine wp_seq (wp_mono (Q:=λe a' w'=>e = .normal/\w'=(w.alloc (.cells #[] 171))/\∃t2 t3 t4 t5 t6 t7 t8 t9 t10 t11 t12 t13 t14 t15 t16,a'={ tmps:=#[.pointer (some ⟨pb+1,0,none⟩),.pointer (some ⟨pb+2,0,none⟩),t2,t3,t4,t5,t6,t7,t8,t9,t10,t11,t12,t13,t14,t15,t16],defers:=[] }) ?_ ?_)
 ·go_wp2
 ·rintro e a' w' ⟨rfl,rfl,t2,t3,t4,t5,t6,t7,t8,t9,t10,t11,t12,t13,t14,t15,t16,rfl⟩;have hbuilt:(prog.built 25 []).getD #[]=F4:=by kernel_rfl
  simp only [Exit.then];refine wp_region_lit<|wpList_build rfl 25 #[] rfl (by kernel_rfl)<|wpList_store_row rfl 25 (.tmp 0) (.tmp 16) rfl (pb+1) F4 rfl (by simp [Act.put,Act.eval,hbuilt]) 25 F4 h1' (by kernel_rfl) rfl (by simp [F4];decide) ?_
  go_wp2
  have hset:=Ek (v:=.bool false) h2'';have hsz:((w.alloc (.cells #[] 171)).setRow (pb+1) F4).heap.size=w.heap.size+1:=by rw [setRow_size];simp
  rw [hset];refine ⟨rfl,_,rfl,.tuple #[],by simp [results,Tryz.results119],rfl,rfl,⟨rfl,rfl,rfl,?_,λb hb hb1 hb2=>?_⟩,?_,?_⟩
  ·simp [setRow_size]
  ·show (Array.setIfInBounds _ (pb+2) _)[b]?=_;rw [FV (by omega),setRow_other _ _ _ _ hb1,CR w _ hb]
  ·show (Array.setIfInBounds _ (pb+2) _)[pb+1]?=_;rw [FV (by omega)];have:=setRow_heap (w.alloc (.cells #[] 171)) (pb+1) F4 F4 _ _ h1';exact this
  ·show (Array.setIfInBounds _ (pb+2) _)[pb+2]?=_;rw [zb6 (by omega)]
def FY (w:World) (a b c d:Value):World:=(((w.alloc (.cells #[a,b,c,d] 25)).alloc (.cells F4 25)).alloc (.cells #[.bool false] 4)).alloc (.cells #[.int .i64 12] 3)
theorem MH (sp a b c d:Value) (h1:a.oneCell'=true/\b.oneCell'=true/\c.oneCell'=true/\d.oneCell'=true) (w:World) (K:Value->World->Prop) (Kp:World->Prop)
  (hcall:Tq6 120 #[sp,.agg #[a,b,c,d],.pointer (some ⟨w.heap.size+3,0,none⟩)] (FY w a b c d) λe w'=>match e with
   | .returned u=>K u w'
   | .panicked chain=>chain=[{ v:=.iface 171 (.agg #[]),recovered:=false }]/\Kp w'
   | .outgrown=>False)
  (hK:∀u w',K u w'->(∃us:Array Value,u = .agg us/\us.size=4/\us.all (·.oneCell')=true)/\w'.heap[w.heap.size+1]?=some (.cells F4 25 (0,0))/\w'.heap[w.heap.size+2]?=some (.cells #[.bool false] 4 (0,0)))
  (hKp:∀w',Kp w'->w'.heap[w.heap.size+1]?=some (.cells F4 25 (0,0))/\w'.heap[w.heap.size+2]?=some (.cells #[.bool false] 4 (0,0))) :
  Tq6 58 #[sp,.agg #[a,b,c,d]] w λe w'=>(∃u w1,K u w1/\e = .returned (.tuple #[u,.bool true])/\uY w.heap.size w1 w')\/(∃w1,Kp w1/\e = .returned (.tuple #[.agg F4,.bool false])/\uY w.heap.size w1 w'):=by
 go_enter_defers func58,Tryz.ntmps58
 have zS:=zQ
 go_wp2_with fail
 refine Calls.mono hcall ?_;intro e w' he;cases e with
 | outgrown=>exact he.elim
 | returned u =>
  obtain ⟨⟨us,rfl,hus,hone⟩,q1,q2⟩:=hK u w' he;have q2':(w'.setRow (w.heap.size+1) us).heap[w.heap.size+2]?=some (.cells #[.bool false] 4 (0,0)):=(setRow_other _ _ _ _ (by omega)).trans q2;have hcb:(w'.setRow (w.heap.size+1) us).cell? ⟨w.heap.size+1+1,0,none⟩=some (.bool false):=by unfold World.cell?;simp [q2']
  have hzb:(w'.setRow (w.heap.size+1) us).frozen? ⟨w.heap.size+1+1,0,none⟩=false:=by unfold World.frozen?;simp [q2']
  simp only;rename_i Kr hKr Ks hKs;apply hKs;refine wpList_store_row rfl 25 (.tmp 4) (.tmp 10) rfl (w.heap.size+1) us rfl rfl 25 F4 q1 ?_ (by rw [hus];rfl) hone ?_
  ·rw [hus];kernel_rfl
  go_wp2
  have hset:=Ek (v:=.bool true) q2';have hsz:w.heap.size+2<w'.heap.size:=(GH.1 q2).1;have hlo:(loadVar 25 ⟨w.heap.size+1,0,none⟩).run prog ((w'.setRow (w.heap.size+1) us).setCell ⟨w.heap.size+1+1,0,none⟩ (.bool true)) = .ok (.agg us) ((w'.setRow (w.heap.size+1) us).setCell ⟨w.heap.size+1+1,0,none⟩ (.bool true)):=by
   obtain ⟨fs,hfs,_⟩:=(Ah 25 _ rfl).sh;refine run_loadVar_row _ _ 25 _ us (0,0) _ ?_ hfs rfl (by rw [hus];kernel_rfl);show ((w'.setRow (w.heap.size+1) us).setCell ⟨w.heap.size+2,0,none⟩ (.bool true)).heap[w.heap.size+1]?=_;rw [hset];show (Array.setIfInBounds _ (w.heap.size+2) _)[w.heap.size+1]?=_;rw [FV (by omega)];exact setRow_heap w' (w.heap.size+1) F4 us _ _ q1
  have hlb:((w'.setRow (w.heap.size+1) us).setCell ⟨w.heap.size+1+1,0,none⟩ (.bool true)).cell? ⟨w.heap.size+1+1,0,none⟩=some (.bool true):=by
   show ((w'.setRow (w.heap.size+1) us).setCell ⟨w.heap.size+2,0,none⟩ (.bool true)).cell? ⟨w.heap.size+2,0,none⟩=_;rw [hset];unfold World.cell?;simp [setRow_size,hsz]
  have hlb2:(loadVar 4 ⟨w.heap.size+1+1,0,none⟩).run prog ((w'.setRow (w.heap.size+1) us).setCell ⟨w.heap.size+1+1,0,none⟩ (.bool true)) = .ok (.bool true) ((w'.setRow (w.heap.size+1) us).setCell ⟨w.heap.size+1+1,0,none⟩ (.bool true)):=by simp [go_sem,hlb]
  refine leaves_cons (f:=119) (args:=#[.pointer (some ⟨w.heap.size+1,0,none⟩),.pointer (some ⟨w.heap.size+1+1,0,none⟩)]) (by simp) (by simp [go_sem])<|(VD _ _ _).mono ?_;rintro e u' w'' ⟨rfl,rfl,rfl⟩;simp [Leaves,settle,results,Tryz.results58,asAddr,hlo,hlb2];refine ⟨_,w',he,rfl,?_⟩;show uY _ w' ((w'.setRow (w.heap.size+1) us).setCell ⟨w.heap.size+2,0,none⟩ (.bool true));rw [hset];refine ⟨rfl,rfl,rfl,by simp [setRow_size],λb hb hb1 hb2=>?_⟩;show (Array.setIfInBounds _ (w.heap.size+2) _)[b]?=_;rw [FV (by omega),setRow_other _ _ _ _ hb1]
 | panicked chain =>
  obtain ⟨rfl,he⟩:=he;obtain ⟨q1,q2⟩:=hKp w' he;simp only;refine leaves_cons (f:=119) (args:=#[.pointer (some ⟨w.heap.size+1,0,none⟩),.pointer (some ⟨w.heap.size+1+1,0,none⟩)]) (by simp) (by simp [go_sem])<|(Uo w.heap.size _ q1 q2).mono ?_;rintro e u' w'' ⟨rfl,rfl,hn,p1,p2⟩;have hlo:(loadVar 25 ⟨w.heap.size+1,0,none⟩).run prog w'' = .ok (.agg F4) w'':=by
   obtain ⟨fs,hfs,_⟩:=(Ah 25 _ rfl).sh;exact run_loadVar_row _ _ 25 _ F4 (0,0) _ p1 hfs rfl (by kernel_rfl)
  have hlb:w''.cell? ⟨w.heap.size+1+1,0,none⟩=some (.bool false):=by unfold World.cell?;simp [p2]
  have hlb2:(loadVar 4 ⟨w.heap.size+1+1,0,none⟩).run prog w'' = .ok (.bool false) w'':=by simp [go_sem,hlb]
  simp [Leaves,settle,results,Tryz.results58,asAddr,hlo,hlb2];exact ⟨w',he,hn⟩
theorem GU:∀{st:St} {i:Nat} {b:Blk},Az st i b->i∈DY st
 | [],i,b,h=>by simp [Az,lk] at h
 | (k,y)::r,i,b,h=>by
  by_cases hk:k=i
  ·subst hk;simp [DY]
  ·have:Az r i b:=by unfold Az at h ⊢;rwa [A6 _ _ hk] at h
   simp only [DY,Cv,CA];exact .inr (GU this)
theorem StRep.restr (hst:StRep I μ st ids w) (hn:∀i∈F3 st,i∈DY st) (hl:l.Nodup) (hf:∀i∈l,i∉DY st) :
  ∃ν:Mu,(∀i∈DY st,ν i=μ i)/\StRep I ν st l w/\∀b,Bu ν st b↔Bu μ st b:=by
 obtain ⟨ν,hν⟩:∃ν:Mu,ν=λi=>if EX (DY st) i=true then μ i else none:=⟨_,rfl⟩
 have hν1:∀i∈DY st,ν i=μ i:=λi hi=>by rw [hν];simp [BR.2 hi]
 refine ⟨ν,hν1,?_,λb=>?_⟩
 ·refine { imm:=hst.imm,blk:=λi b hl=>?_,apart:=λi bb g k hl hg hk=>hst.apart i bb g k hl (by rw [<- hν1 i (GU hl)];exact hg) hk,inj:=λi j bi bj gi gj k hi hj hgi hgj=>hst.inj i j bi bj gi gj k hi hj (by rw [<- hν1 i (GU hi)];exact hgi) (by rw [<- hν1 j (GU hj)];exact hgj),nodup:=hl,idsFree:=λi hi=>?_ }
  ·obtain ⟨g,hg,hr⟩:=hst.blk i b hl;refine ⟨g,by rw [hν1 i (GU hl)];exact hg,hr.sub λj hj g hgj=>?_⟩;rw [hν1 j (hn j ((EG hl).2 j hj))];exact hgj
  ·rw [hν];have:=hf i hi;have hm:EX (DY st) i=false:=by
    cases h:EX (DY st) i with
    | false=>rfl
    | true=>exact absurd (BR.1 h) this
   simp [hm]
 ·constructor <;> rintro ⟨i,bi,g,h1,h2,h3⟩
  ·exact ⟨i,bi,g,h1,by rw [<- hν1 i (GU h1)];exact h2,h3⟩
  ·exact ⟨i,bi,g,h1,by rw [hν1 i (GU h1)];exact h2,h3⟩
theorem O0 (w:World) (a b c d:Value):(FY w a b c d).heap.size=w.heap.size+4:=by simp [FY]
theorem Qd (w:World) (a b c d:Value) (h:i<w.heap.size):(FY w a b c d).heap[i]?=w.heap[i]?:=by
 unfold FY;rw [CR _ _ (by simp;omega),CR _ _ (by simp;omega),CR _ _ (by simp;omega),CR _ _ h]
theorem Qc (w:World) (a b c d:Value):(FY w a b c d).heap[w.heap.size+1]?=some (.cells F4 25 (0,0)):=by
 unfold FY;rw [CR _ _ (by simp),CR _ _ (by simp)];have:=Eu (w.alloc (.cells #[a,b,c,d] 25)) (.cells F4 25);simpa using this
theorem SE (w:World) (a b c d:Value):(FY w a b c d).heap[w.heap.size+2]?=some (.cells #[.bool false] 4 (0,0)):=by
 unfold FY;rw [CR _ _ (by simp)];have:=Eu ((w.alloc (.cells #[a,b,c,d] 25)).alloc (.cells F4 25)) (.cells #[.bool false] 4);simpa using this
theorem Yu (m:Md) (T:List (Int×Ty)) (k:Int) (S:List Ty):(∀i∈F3 (CI m T k S),i∈DY (CI m T k S))/\DY (CI m T k S)=[1,2,3]:=⟨Fu (a:=F3 (CI m T k S)) (b:=DY (CI m T k S)) rfl,rfl⟩
theorem zbg {k:Int} {sp a b c d:Value} {t:Ty} (hst:StRep I μ (CI m T k S) [] w) (h1:RepD I μ sp (.ref 1 0)) (h2:RepV I (.agg #[a,b,c,d]) (.agg (dTyc t))) :
  ∃μ1:Mu,StRep I μ1 (HB m T k S 12) [] (FY w a b c d)/\RepL I μ1 #[sp,.agg #[a,b,c,d],.pointer (some ⟨w.heap.size+3,0,none⟩)].toList [.ref 1 0,.imm (.agg (dTyc t)),.ref 4 0]/\Pin [1,2,3] μ μ1 /\
   (∀i,Bu μ1 (HB m T k S 12) i->i=w.heap.size+3\/Bu μ (CI m T k S) i)/\(∀i,Bu μ (CI m T k S) i->i<w.heap.size)/\∀i,w.heap.size<=i->I i=none:=by
 obtain ⟨n1,n2⟩:=Yu m T k S;obtain ⟨ν,hν,hst1,hown⟩:=hst.restr (l:=[4]) n1 (by simp) (λi hi=>by rw [n2,AN.1 hi];decide);have hlt:∀i o,I i=some o->i<w.heap.size:=λi o h=>(GH.1 (hst.imm i o h)).1;have hol:∀i,Bu μ (CI m T k S) i->i<w.heap.size:=λi h=>Ed hst h;obtain ⟨w3,hw3⟩:∃w3,w3=((w.alloc (.cells #[a,b,c,d] 25)).alloc (.cells F4 25)).alloc (.cells #[.bool false] 4):=⟨_,rfl⟩
 have hsz3:w3.heap.size=w.heap.size+3:=by rw [hw3];simp
 have hold:∀i,i<w.heap.size->w3.heap[i]?=w.heap[i]?:=λi hi=>by
  rw [hw3,CR _ _ (by simp;omega),CR _ _ (by simp;omega),CR _ _ hi]
 have hst3:StRep I ν (CI m T k S) [4] w3:=hst1.other (by omega) (λi o h=>hold i (hlt i o h)) (λi h=>hold i (hol i ((hown i).1 h)));have hws:FY w a b c d=w3.alloc (.cells #[.int .i64 12] 3):=by rw [hw3];rfl
 obtain ⟨μ1,g1,hle,hst4,_⟩:=hst3.allocO (.cells #[.int .i64 12] 3) (.pointer (some ⟨w3.heap.size,0,none⟩)) (λi hi=>hi.symm) (.immb 3 1 [.int .i64 12]) (λμ' _=>⟨rfl,w3.heap.size,#[.int .i64 12],rfl,Eu _ _,⟨rfl,λi v x p q=>by
   match i,p,q with
   | 0,p,q=>cases p;cases q;exact .int _ _
   | i+1,p,q=>simp at p⟩,λv hv=>by simp at hv;rw [hv];rfl⟩)
 have hpin:∀i∈[1,2,3],∀v,μ i=some v->μ1 i=some v:=λi hi v hv=>hle i v (by rw [hν i (by rw [n2];exact hi)];exact hv);refine ⟨μ1,by rw [hws];exact hst4,⟨rfl,λi v dd p q=>?_⟩,hpin,λi ⟨j,bj,g,q1,q2,q3⟩=>?_,hol,λi hi=>?_⟩
 ·match i,p,q with
  | 0,p,q =>
   cases p;cases q;cases h1 with
   | ref b id off hm=>exact .ref b 1 0 (hpin 1 (by decide) _ hm)
  | 1,p,q=>cases p;cases q;exact .imm _ _ h2
  | 2,p,q=>cases p;cases q;exact .ref _ 4 0 (by rw [<- hsz3];exact g1)
  | i+3,p,q=>simp at p
 ·rcases AB.1 q1 with ⟨rfl,rfl⟩ | ⟨hne,q1⟩
  ·rw [g1] at q2;cases q2;left;have:w3.heap.size=i:=q3;omega
  ·right;have hj:=GU q1;obtain ⟨g0,hg0,_⟩:=hst3.blk j bj q1;have:=hle j g0 hg0;rw [q2] at this;cases this;exact (hown i).1 ⟨j,bj,g,q1,hg0,q3⟩
 ·cases h:I i with
  | none=>rfl
  | some o=>have:=hlt i o h;omega
theorem Qa {xs:Array Value} {t:Ty} (hxs:RepL I μ xs.toList [.ref 1 0,.imm (.agg (dTyc t))]) :
  ∃sp a b c d,xs = #[sp,.agg #[a,b,c,d]]/\RepD I μ sp (.ref 1 0)/\RepV I (.agg #[a,b,c,d]) (.agg (dTyc t))/\a.oneCell'=true/\b.oneCell'=true/\c.oneCell'=true/\d.oneCell'=true:=by
 obtain ⟨l,rfl⟩:∃l:List Value,xs=l.toArray:=⟨xs.toList,by simp⟩
 rw [MA] at hxs
 match l,hxs with
 | [v,u],hxs =>
  have h1:=hxs.2 0 v _ rfl rfl;have h2:=(hxs.2 1 u _ rfl rfl).immInv;have key:∀u,RepV I u (.agg (dTyc t))->∃a b c d,u = .agg #[a,b,c,d]/\a.oneCell'=true/\b.oneCell'=true/\c.oneCell'=true/\d.oneCell'=true:=λu hu=>by
   cases hu with
   | agg cs _ hl h1 _ =>
    have hl4:cs.toList.length=4:=by rw [WI,hl];obtain ⟨t1,t2,t3,t4⟩:=t;rfl
    obtain ⟨l,rfl⟩:∃l:List Value,cs=l.toArray:=⟨cs.toList,by simp⟩
    rw [MA] at hl4 h1
    match l,hl4,h1 with
    | [a,b,c,d],_,h1=>exact ⟨a,b,c,d,rfl,h1 a (by simp),h1 b (by simp),h1 c (by simp),h1 d (by simp)⟩
  obtain ⟨a,b,c,d,rfl,q⟩:=key u h2;exact ⟨v,a,b,c,d,rfl,h1,h2,q⟩
 | [],hxs=>exact absurd hxs.1 (by simp)
 | [_],hxs=>exact absurd hxs.1 (by simp)
 | _::_::_::_,hxs=>exact absurd hxs.1 (by simp)
theorem eD {k:Int} {t u:Ty} {c':Int} (hF:RT m T k S t 12 u c') :
  Tq4 58 [.ref 1 0,.imm (.agg (dTyc t))] (CI m T k S) (.ret (.imm (.tup [.agg (dTyc u),.bool true])) (CI m T k S)):=by
 intro I μ w xs hst hxs;obtain ⟨sp,a,b,c,d,rfl,h1,h2,hone⟩:=Qa hxs;obtain ⟨μ1,hst1,hx1,hpin,hown,hol,hIn⟩:=zbg hst h1 h2;rw [B6 func58 (by decide +kernel) rfl];unfold RT at hF;have hcall:=hF I μ1 _ _ hst1 hx1;rw [B6 func120 (by decide +kernel) rfl] at hcall;show Tq6 _ _ w _;have hno1:¬Bu μ1 (HB m T k S 12) (w.heap.size+1):=λh=>by
  rcases hown _ h with h | h
  ·omega
  ·have:=hol _ h;omega
 have hno2:¬Bu μ1 (HB m T k S 12) (w.heap.size+2):=λh=>by
  rcases hown _ h with h | h
  ·omega
  ·have:=hol _ h;omega
 have hws:=O0 w a b c d;refine Calls.mono (MH sp a b c d hone w (λv w'=>∃I' μ',RepD I' μ' v (.imm (.agg (dTyc u)))/\StRep I' μ' (HB m T k S c') [] w'/\Pin (DY (HB m T k S 12)) μ1 μ'/\Ext I μ1 (HB m T k S 12) (FY w a b c d) I' μ' (HB m T k S c') w') (λ_=>False) (Calls.mono hcall λe w' he=>?_) (λv w' ⟨I',μ',q1,q2,q3,q4⟩=>⟨?_,?_,?_⟩) (λ_ h=>h.elim)) ?_
 ·cases e with
  | returned v=>exact he
  | panicked=>exact he.elim
  | outgrown=>exact he.elim
 ·have key:∀v,RepV I' v (.agg (dTyc u))->∃us:Array Value,v = .agg us/\us.size=4/\us.all (·.oneCell')=true:=λv hv=>by
   cases hv with
   | agg cs _ hl h1 _=>exact ⟨cs,rfl,by rw [hl];obtain ⟨u1,u2,u3,u4⟩:=u;rfl,by rw [Array.all_eq_true_iff_forall_mem];exact λx hx=>h1 x (by simpa using hx)⟩
  exact key v q1.immInv
 ·exact (q4.block _ (by omega) hno1).trans (Qc w a b c d)
 ·exact (q4.block _ (by omega) hno2).trans (SE w a b c d)
 ·rintro e w2 (⟨v,w1,⟨I',μ',q1,q2,q3,q4⟩,rfl,n1,n2,n3,n4,n5⟩ | ⟨_,hx,_⟩)
  ·have hI1:I' (w.heap.size+1)=none:=(q4.old _ (by omega) hno1).trans (hIn _ (by omega));have hI2:I' (w.heap.size+2)=none:=(q4.old _ (by omega) hno2).trans (hIn _ (by omega));have hsub:∀i bi,Az (CI m T k S) i bi->Az (HB m T k S c') i bi:=λi bi hl=>AB.2 (.inr ⟨λe=>by
    have:=GU hl;rw [(Yu m T k S).2] at this;simp only [CA,LJ,or_false] at this;omega,hl⟩)
   have hosub:∀i,Bu μ' (CI m T k S) i->Bu μ' (HB m T k S c') i:=λi ⟨j,bj,g,p1,p2,p3⟩=>⟨j,bj,g,hsub j bj p1,p2,p3⟩
   have hfr:∀i,Bu μ' (HB m T k S c') i->i≠w.heap.size+1/\i≠w.heap.size+2:=λi hi=>⟨λe=>hno1 (e ▸ q4.fresh i (by omega) hi),λe=>hno2 (e ▸ q4.fresh i (by omega) hi)⟩
   refine ⟨I',μ',?_,?_,?_,?_⟩
   ·refine .imm _ _ (.tup _ _ rfl λi y x p q=>?_)
    match i,p,q with
    | 0,p,q=>cases p;cases q;exact q1.immInv
    | 1,p,q=>cases p;cases q;exact .bool true
    | i+2,p,q=>simp at p
   ·refine (q2.less hsub .nil (λi hi=>by cases hi)).other n4 (λi o h=>?_) (λi h=>?_)
    ·exact n5 i (GH.1 (q2.imm i o h)).1 (λe=>by rw [e,hI1] at h;cases h) (λe=>by rw [e,hI2] at h;cases h)
    ·have:=hfr i (hosub i h);exact n5 i (Ed q2 (hosub i h)) this.1 this.2
   ·intro i hi x hx;rw [(Yu m T k S).2] at hi;exact q3 i (HR _ hi) x (hpin i hi x hx)
   ·have hnot:∀i,i<w.heap.size->¬Bu μ (CI m T k S) i->¬Bu μ1 (HB m T k S 12) i:=λi hi ho h=>by
     rcases hown i h with h | h
     ·omega
     ·exact ho h
    exact { imm:=q4.imm,os:=n1.trans q4.os,tape:=n2.trans q4.tape,output:=n3.trans q4.output,size:=by have:=q4.size;omega,
            block:=λi hi ho=>(n5 i (by have:=q4.size;omega) (by omega) (by omega)).trans ((q4.block i (by omega) (hnot i hi ho)).trans (Qd w a b c d hi)),
            fresh:=λi hi ho=>(hown i (q4.fresh i (by omega) (hosub i ho))).elim (λe=>by omega) id,
            old:=λi hi ho=>q4.old i (by omega) (hnot i hi ho) }
  ·exact hx.elim
theorem jR {k:Int} {t:Ty} (hF:V6 m T k S t 12) :
  Tq4 58 [.ref 1 0,.imm (.agg (dTyc t))] (CI m T k S) (.ret (.imm (.tup [.agg (dTyc Dr),.bool false])) []):=by
 intro I μ w xs hst hxs;obtain ⟨sp,a,b,c,d,rfl,h1,h2,hone⟩:=Qa hxs;obtain ⟨μ1,hst1,hx1,hpin,hown,hol,hIn⟩:=zbg hst h1 h2;rw [B6 func58 (by decide +kernel) rfl];unfold V6 at hF;have hcall:=hF I μ1 _ _ hst1 hx1;rw [B6 func120 (by decide +kernel) rfl] at hcall;show Tq6 _ _ w _;have hno1:¬Bu μ1 (HB m T k S 12) (w.heap.size+1):=λh=>by
  rcases hown _ h with h | h
  ·omega
  ·have:=hol _ h;omega
 have hno2:¬Bu μ1 (HB m T k S 12) (w.heap.size+2):=λh=>by
  rcases hown _ h with h | h
  ·omega
  ·have:=hol _ h;omega
 have hws:=O0 w a b c d;refine Calls.mono (MH sp a b c d hone w (λ_ _=>False) (λw'=>∃I',I'.ok w'/\Ext I μ1 (HB m T k S 12) (FY w a b c d) I' μ1 [] w') (Calls.mono hcall λe w' he=>?_) (λ_ _ h=>h.elim) (λw' ⟨I',q2,q4⟩=>⟨?_,?_⟩)) ?_
 ·cases e with
  | returned v=>exact he.elim
  | panicked chain =>
   obtain ⟨v,x,I',e1,e2,e3,e4,e5⟩:=he;subst e2;have key:∀v,RepV I' v nP->v = .iface 171 (.agg #[]):=λv hv=>by
    cases hv with
    | iface _ v' _ hv =>
     cases hv with
     | agg cs _ hl _ _ =>
      have:cs = #[]:=Zj (by simpa using hl);subst this;rfl
   rw [key v e3] at e1;exact ⟨e1,I',e4,e5⟩
  | outgrown=>exact he.elim
 ·exact (q4.block _ (by omega) hno1).trans (Qc w a b c d)
 ·exact (q4.block _ (by omega) hno2).trans (SE w a b c d)
 ·rintro e w2 (⟨_,_,hx,_⟩ | ⟨w1,⟨I',q2,q4⟩,rfl,n1,n2,n3,n4,n5⟩)
  ·exact hx.elim
  ·have hI1:I' (w.heap.size+1)=none:=(q4.old _ (by omega) hno1).trans (hIn _ (by omega));have hI2:I' (w.heap.size+2)=none:=(q4.old _ (by omega) hno2).trans (hIn _ (by omega));have hnot:∀i,i<w.heap.size->¬Bu μ (CI m T k S) i->¬Bu μ1 (HB m T k S 12) i:=λi hi ho h=>by
    rcases hown i h with h | h
    ·omega
    ·exact ho h
   refine ⟨I',μ,?_,?_,Pin.refl _ _,?_⟩
   ·refine .imm _ _ (.tup _ _ rfl λi y x p q=>?_)
    match i,p,q with
    | 0,p,q =>
     cases p;cases q;exact HD I'
    | 1,p,q=>cases p;cases q;exact .bool false
    | i+2,p,q=>simp at p
   ·exact { imm:=λi o h=>(n5 i (GH.1 (q2 i o h)).1 (λe=>by rw [e,hI1] at h;cases h) (λe=>by rw [e,hI2] at h;cases h)).trans (q2 i o h),blk:=λid blk hl=>(by cases hl),apart:=λid blk g b hl=>(by cases hl),inj:=λi j bi bj gi gj b hl=>(by cases hl),nodup:=.nil,idsFree:=λid hi=>(by cases hi) }
   ·exact { imm:=q4.imm,os:=n1.trans q4.os,tape:=n2.trans q4.tape,output:=n3.trans q4.output,size:=by have:=q4.size;omega,
            block:=λi hi ho=>(n5 i (by have:=q4.size;omega) (by omega) (by omega)).trans ((q4.block i (by omega) (hnot i hi ho)).trans (Qd w a b c d hi)),
            fresh:=λi hi ⟨j,bj,g,hl,_⟩=>(by cases hl),
            old:=λi hi ho=>q4.old i (by omega) (hnot i hi ho) }
theorem G7 (m:Md) (k:Int):Tq4 54 [.imm (.agg (Du m)),.imm (.int .i64 k)] [] (.ret (.ref 1 0) (CI m [] k [])):=by
 obtain ⟨m1,m2,m3⟩:=m;exact AQ Ah func54 rfl [4,2,1,3,5,6]<|Ai rfl<|Ev rfl<|N0 4 rfl (by simp)<|DV 1 3 (e:=25) (sz:=4) [.imm (.str m1),.imm (.sl (m2.map BE)),.imm (.sl (m3.map Cg)),.mapr 2,.imm (.int .i64 k),.own 3 0] (by decide) rfl ⟨.inl rfl,.inl rfl,.inl rfl,.inl rfl,.inl rfl,.inr ⟨rfl,rfl⟩,trivial⟩<|Av rfl<|Ag ⟨_,BA⟩
mutual
theorem Q7:∀t:Ty,B9 t=DH t
 | .mk _ _ _ ps=>by simp only [B9,DH,Tj ps]
theorem Tj:∀ps:List Ty,A1 ps=CX ps
 | []=>rfl
 | t::r=>by simp only [A1,CX,Q7 t,Tj r]
end
theorem iI {t:Ty} (h:AV true t=true):DH t<=12:=by
 simp only [AV,A2,decide_eq_true_eq] at h;rw [<- Q7];exact h.1
theorem zbh {k:Int} (hs:Sol (BH T) θ) {t:Ty} (hw:C9 t=true) :
  (DH (A9 θ t)<=12->Tq4 58 [.ref 1 0,.imm (.agg (dTyc t))] (CI m T k S) (.ret (.imm (.tup [.agg (dTyc (A9 θ t)),.bool true])) (CI m T k S))) /\
  (12<DH (A9 θ t)->Tq4 58 [.ref 1 0,.imm (.agg (dTyc t))] (CI m T k S) (.ret (.imm (.tup [.agg (dTyc Dr),.bool false])) [])):=by
 obtain ⟨h1,h2⟩:=oW m T k S hs _ t (BL _) hw 12 (by omega) (by omega);exact ⟨λh=>eD (h1 (by omega)),λh=>jR (h2 (by omega))⟩
def fQ:List (Int×Ty)->Int
 | []=>-1
 | p::r=>max p.1 (fQ r)
theorem mO {x:Int}:∀{T:List (Int×Ty)},(∀p∈T,p.1<=x)->(x = -1\/∃p∈T,p.1=x)->(∀p∈T,0<=p.1) -> -1<=x->fQ T=x:=by
 have hle:∀{T:List (Int×Ty)},-1<=x->(∀p∈T,p.1<=x)->fQ T<=x:=λ{T} hx h=>by
  induction T with
  | nil=>simpa [fQ] using hx
  | cons p r ih=>simp only [fQ];have:=h p (by simp);have:=ih λq hq=>h q (by simp [hq]);omega
 have hge:∀{T:List (Int×Ty)},(∃p∈T,p.1=x)->x<=fQ T:=λ{T} h=>by
  induction T with
  | nil=>obtain ⟨p,hp,_⟩:=h;cases hp
  | cons p r ih =>
   obtain ⟨q,hq,e⟩:=h;simp only [fQ];rcases CA.1 hq with rfl | hq
   ·omega
   ·have:=ih ⟨q,hq,e⟩;omega
 have hm1:∀{T:List (Int×Ty)},-1<=fQ T:=λ{T}=>by
  induction T with
  | nil=>simp [fQ]
  | cons p r ih=>simp only [fQ];omega
 intro T h1 h2 h3 h4;have:=hle h4 h1;rcases h2 with rfl | h2
 ·have:=@hm1 T;omega
 ·have:=hge h2;omega
noncomputable def zdm (T:List (Int×Ty)) (θ:Int->Ty):List Ty:=(List.range (fQ T+1).toNat).map λi:Nat=>θ i
def FD (n:Int):V:=.int .i64 n
def sX:Md:=⟨[],[],[]⟩
theorem cN (h:RepD I μ v .nils):RepV I v (.sl []):=by
 cases h;exact .slnil
theorem sW (h:RepD I μ v (.agg [.imm (.str []),.nils,.nils])):RepD I μ v (.imm (.agg (Du sX))):=by
 cases h with
 | agg cs _ hl h1 h =>
  refine .imm _ _ (.agg cs _ hl h1 λi c x hc hx=>?_)
  match i,hx with
  | 0,hx=>cases hx;exact (h 0 c _ hc rfl).immInv
  | 1,hx=>cases hx;exact cN (h 1 c _ hc rfl)
  | 2,hx=>cases hx;exact cN (h 2 c _ hc rfl)
  | i+3,hx=>simp [Du] at hx
theorem Lq:Tq4 54 [.agg [.imm (.str []),.nils,.nils],.imm (.int .i64 0)] [] (.ret (.ref 1 0) (CI sX [] 0 [])):=λI μ w xs hst hx=>G7 sX 0 I μ w xs hst ⟨hx.1,λi v d p q=>by
 match i,q with
 | 0,q=>cases q;exact sW (hx.2 0 v _ p rfl)
 | 1,q=>cases q;exact hx.2 1 v _ p rfl
 | i+2,q=>simp at q⟩
theorem gW (a b:Ty) (h:(AV true a&&AV true b)=true) (hE:DL sX [] 0 [] a b):Tq3 13 [.agg (dTyc a),.agg (dTyc b)] (.tup [.sl [],FD 7]):=by
 have hK:=Fz [a,b];simp only [Zi,LI,uL] at hK;rw [h] at hK;have hS:=Lq;have hH:=Kh func55 (by decide +kernel) rfl Fy func56 (by decide +kernel) rfl (df:=[]) (dc:=[.ref 4 0,.ref 5 0,.ref 6 0]) (eH hE);obtain ⟨a1,a2,a3,a4⟩:=a;obtain ⟨b1,b2,b3,b4⟩:=b;exact AQ Ah func13 rfl [5,6,1,2,3,4,7]<|Ai rfl<|Ad rfl hK<|Ai rfl<|R7 rfl λh=>Av rfl<|Jf [1,2,3] [] [(1,1),(2,2),(3,3)] rfl hS trivial rfl rfl<|Ai rfl<|Jf [] [(1,1),(2,2),(3,3),(4,4),(5,5),(6,6)] [] rfl hH ⟨⟨rfl,rfl,rfl⟩,⟨rfl,rfl,rfl⟩,⟨rfl,rfl,rfl⟩,⟨rfl,rfl,rfl⟩,⟨rfl,rfl,rfl⟩,⟨rfl,rfl,rfl⟩,trivial⟩ rfl rfl<|Ai rfl<|R6 rfl λh=>Av rfl<|Ab rfl rfl rfl
theorem Y1 {bs:List Nat} {ks:List Tr} {f n:Int} (his:IC ks ps) (h:(Fv v ks).P vs I w bs) (hle:I.le J) (hJ:∀b∈bs,J b=w.heap[b]?) (cs:List Value) (hc:RepL J noMu cs [.imm (.int .i64 f),.imm (.int .i64 n),.imm (.str x),.raw v]):RepVL J cs (dTyc (.mk f n x ps)):=by
 obtain ⟨h1,h2,h3,h4⟩:=h;have hv:RepV J v (.sl (dTys ps)):=Wh h1 h2 (λk hk=>hJ k (by rw [h3];simp [hk])) his λi a t ha ht =>
  cR ((IB.1 his).2 i a t ha ht) (Fb.1 h2 i a ha).2 λk hk=>hJ k (by rw [h3];simp only [BU];exact .inr (M7.2 ⟨a,AK ha,hk⟩))
 obtain ⟨l1,l2⟩:=hc;refine ⟨l1,λi c y hi hy=>?_⟩
 match i,hy with
 | 0,hy=>cases hy;exact (l2 0 c _ hi rfl).immInv
 | 1,hy=>cases hy;exact (l2 1 c _ hi rfl).immInv
 | 2,hy=>cases hy;exact (l2 2 c _ hi rfl).immInv
 | 3,hy =>
  cases hy;have:=l2 3 c _ hi rfl;cases this with
  | raw _ _=>exact hv
 | i+4,hy=>simp at hy
def infE:Env:=[(3,.ref 11 0),(5,.ref 12 0),(6,.ref 13 0),(8,.ref 14 0),(9,.ref 18 0)]
def Nz (m:Md) (t:Tm) (Γ:Au) (stay:List Int) (out:V):Prop :=
 Tq2 Tryz.f26.ntmps (DY []) (Lb Yj Tryz.f26.results.toList (.ret (.imm out) [])) [.code (Gx Tryz.f26 5)] infE (cU m t Γ stay) [1,2,3,21,22,4,23,24,25,26,27]
theorem TE (m:Md) (t:Tm) (Γ:Au) (stay:List Int) (hE:Tq4 78 [.ref 5 0,.ref 6 0,.ref 7 0,.ref 8 0] (Xl m Γ t [] 0 [] (dTyc Dr)) (.pan Gn)):Nz m t Γ stay (.tup [.agg (dTyc Dr),FD 7]):=by
 have hS:=G7 m 0;have hH:=Kh func55 (by decide +kernel) rfl Fy func78 (by decide +kernel) rfl (df:=[]) (dc:=[.ref 5 0,.ref 6 0,.ref 7 0,.ref 8 0]) hE;clear hE;obtain ⟨m1,m2,m3⟩:=m;obtain ⟨t1,t2,t3,t4,t5⟩:=t;unfold Nz;exact Av rfl<|Jf [1,2,3] [] [(1,1),(2,2),(3,3)] rfl hS trivial rfl rfl<|N0 6 rfl (by simp)<|R5 22 (t:=25) (sz:=4) (ds:=[.imm (.int .i64 0),.imm (.int .i64 0),.imm (.str []),.nils]) (dTyc Dr) rfl rfl<|Av rfl<|Jf [] [(1,1),(2,2),(3,3),(21,5),(12,6),(14,7),(22,8)] [] rfl hH Wb rfl rfl<|Ai rfl<|R6 rfl λh=>Av rfl<|Ab rfl rfl rfl
mutual
theorem dA:∀(t:Ty) (l:List Int),(D2 t l).length<=l.length+DH t
 | .mk f n x ps,l=>by
  simp only [D2,DH]
  split
  ·split
   ·omega
   ·simp only [AZ,Cq,B5];omega
  ·have:=Xu ps l;omega
theorem Xu:∀(ts:List Ty) (l:List Int),(Cm ts l).length<=l.length+CX ts
 | [],l=>by simp [Cm]
 | t::r,l=>by
  simp only [Cm,CX];have h1:=dA t l;have h2:=Xu r (D2 t l);omega
end
noncomputable def OV (stay:List Int) (u:Ty):V :=
 if DH u<=12 then (if AV true (G4 stay (D2 u []) u)=true then .tup [.agg (dTyc (G4 stay (D2 u []) u)),FD 0] else .tup [.agg (dTyc Dr),FD 3]) else .tup [.agg (dTyc Dr),FD 3]
theorem Xg (m:Md) (t:Tm) (Γ:Au) (stay:List Int) {k:Int} (hE:Tq4 78 [.ref 5 0,.ref 6 0,.ref 7 0,.ref 8 0] (Xl m Γ t [] 0 [] (dTyc Dr)) (.ret (.imm (.tup [])) (wG m Γ t T k S (dTyc τ)))) (hs:Sol (BH T) θ) (hw:C9 τ=true) (hst:stay.length<=1000000):Nz m t Γ stay (OV stay (A9 θ τ)):=by
 have hS:=G7 m 0;have hH:=II func55 (by decide +kernel) rfl Fy func78 (by decide +kernel) rfl (df:=[]) (dc:=[.ref 5 0,.ref 6 0,.ref 7 0,.ref 8 0]) hE;clear hE;obtain ⟨w1,w2⟩:=zbh (m:=m) (k:=k) (S:=S) hs hw;have huw:C9 (A9 θ τ)=true:=VB (λn=>hs.wfθ n) _ hw;clear hs hw;generalize A9 θ τ=u at *;unfold OV;obtain ⟨m1,m2,m3⟩:=m;obtain ⟨t1,t2,t3,t4,t5⟩:=t;obtain ⟨a1,a2,a3,a4⟩:=τ;unfold Nz
 refine Av rfl<|Jf [1,2,3] [] [(1,1),(2,2),(3,3)] rfl hS trivial rfl rfl<|N0 6 rfl (by simp)<|R5 22 (t:=25) (sz:=4) (ds:=[.imm (.int .i64 0),.imm (.int .i64 0),.imm (.str []),.nils]) (dTyc Dr) rfl rfl<|Av rfl<|Jf [4] [(1,1),(2,2),(3,3),(21,5),(12,6),(14,7),(22,8)] [(4,4)] rfl hH Wb rfl rfl<|Ai rfl<|R7 rfl λh=>Av rfl ?_;by_cases hsz:DH u<=12
 ·have hW:=w1 hsz;have hC:=Rb u huw;have hgl:(D2 u []).length<=1000000:=by have:=dA u [];simp at this;omega
  have hN:=mD stay hst u [] huw hgl;have hF:=Fz [G4 stay (D2 u []) u];simp only [Zi,LI,uL] at hF;rw [if_pos hsz];unfold jH at hN;have e0:tkL stay []=stay:=by simp [tkL]
  have e1:nbS stay []=[(1,some (.cells 123 2 [.mapr 2,.mapr 3])),(2,some (.map (DJ stay))),(3,some (.map []))]:=by rw [nbS,e0];rfl
  rw [e1] at hN;obtain ⟨nb,hnb⟩:∃x,nbS stay (D2 u [])=[(1,some (.cells 123 2 [.mapr 2,.mapr 3])),(2,some (.map x.1)),(3,some (.map x.2))]:=⟨(_,_),rfl⟩
  rw [hnb] at hN;generalize G4 stay (D2 u []) u=v at *;generalize hfo:AV true v=fo at *;clear w1 w2 e0 e1 hgl huw hnb hH;obtain ⟨u1,u2,u3,u4⟩:=u;obtain ⟨v1,v2,v3,v4⟩:=v;refine Jf [] [(1,1),(2,2),(4,3)] [] rfl hW Ax rfl rfl<|Ai rfl<|R7 rfl λh=>Av rfl<|A4 (fr:=[24]) [] [(1,24)] [] (nm:=[24]) rfl trivial (by simp) hC trivial rfl trivial rfl rfl rfl<|Ai rfl<|A4 (fr:=[25]) [(17,1),(15,2),(16,3),(24,4)] [(5,25)] [] (nm:=[17,15,16,25,17,15,16,24]) rfl trivial (by simp) hN JK rfl trivial rfl rfl rfl<|N0 3 rfl (by simp;rfl)<|R4 (ids':=[27]) 25 26 (λx:Value×{ ks:List Tr // IC ks v4 }=>[x.1]) (λx=>Fv x.1 x.2.1) rfl (λvs I w bs h=>by obtain ⟨v,ks,h1,h2,h3⟩:=h;exact ⟨(v,⟨ks,h1⟩),h2,h3⟩) λy=>?_
  obtain ⟨vv,⟨ks,his⟩⟩:=y;refine Vt 26 23 (dTyc (.mk v1 v2 v3 v4)) rfl rfl (λvs I J w bs h1 h2 h3 cs hc=>Y1 his h1 h2 h3 cs hc) rfl<|Av rfl<|Ad rfl hF<|Ai rfl ?_;cases fo with
  | false =>
   exact R6 rfl λh=>Av rfl<|Ab rfl rfl rfl
  | true =>
   exact R7 rfl λh=>Av rfl<|Ab rfl rfl rfl
 ·have hW:=w2 (by omega);rw [if_neg hsz];exact Jf [] [(1,1),(2,2),(4,3)] [] rfl hW Ax rfl rfl<|Ai rfl<|R6 rfl λh=>Av rfl<|Ab rfl rfl rfl
def MQ (m:Md) (Γ:Au) (t:Tm):Bool:=G3 m&&decide (Γ.length<=20)&&Γ.all Vl&&Im t
theorem NY (m:Md) (Γ:Au) (t:Tm) (h:MQ m Γ t=true) (hw:∀p∈Γ,C9 p.2=true) {out:V} (hT:Nz m t (LS Γ) (Gz Γ []) out):Tq3 26 [.agg (Du m),.sl (A0 Γ),.agg (Al t)] out:=by
 have hM:=FR m;have hA:=oE Γ 72 Vl λp _=>ZR p;have hC:=Yh t;unfold MQ at h;simp only [A2,decide_eq_true_eq] at h;obtain ⟨⟨⟨q1,q2⟩,q3⟩,q4⟩:=h;unfold Su at hM hC;rw [q1] at hM;rw [q3] at hA;rw [q4] at hC;clear q1 q3 q4;have hlen:(A0 Γ).length=Γ.length:=dKns_length Γ;obtain ⟨m1,m2,m3⟩:=m;obtain ⟨t1,t2,t3,t4,t5⟩:=t;refine AQ Ah func26 rfl [11,12,13,14,15,16,17,18,19,6,1,2,3,4,21,22,23,24,25,26,27]<|Ai rfl<|Ad rfl hM<|CW rfl<|Ce rfl hA<|CW rfl<|Ce rfl hC<|CW rfl<|Aa rfl (λhh=>?_) (λhh=>?_)
 ·exfalso;rw [hlen] at hh;have:decide ((20:Int)<Γ.length)=false:=decide_eq_false (by omega);simp [this] at hh
 refine Av rfl<|Ev rfl<|Ai rfl<|Ev rfl<|N0 6 rfl (by simp)<|R5 14 (t:=118) (sz:=1) (ds:=[.nils]) [.sl []] rfl rfl<|Av rfl<|Ak (λi:Nat=>zR Γ i) (λi=>cU ⟨m1,m2,m3⟩ (.mk t1 t2 t3 t4 t5) (LS (Γ.take i)) (Gz (Γ.take i) [])) [19,6,1,2,3,21,22,4,23,24,25,26,27] (λi=>Γ.length-i) (λi=>i<=Γ.length) 0 (AF _)
  ⟨rfl,A8 (by simp),GE⟩ Mr rfl λi hi ih=>?_
 refine Av rfl<|Aa rfl (λh=>?_) (λh=>?_)
 ·have hlt:i<Γ.length:=by simp at h;omega
  obtain ⟨p,hp⟩:=Am hlt;have hg:=Ni hp;have hpm:=AK hp;have hF:=WV p.2 (hw p hpm);have hW:=JZ (LS (Γ.take i)) p.1 (FI p.2) (by simp [LS];omega);have hN:=Tz p.2;have hih:=ih (i+1) (by omega) (by omega);have hgv:=VI p.2 (Gz (Γ.take i) []) (hw p hpm);have hst:Gz (Γ.take (i+1)) []=D2 p.2 (Gz (Γ.take i) []):=by rw [Bk hp,Qm]
  have hfr:LS (Γ.take (i+1))=LS (Γ.take i)++[(p.1,FI p.2)]:=by rw [Bk hp,iH]
  rw [hst,hfr] at hih;clear ih hst hfr hM hA hC;generalize Gz (Γ.take i) []=l at *;generalize LS (Γ.take i)=Γ1 at *;obtain ⟨y,tp⟩:=p;simp only at hF hW hN hih hgv;generalize Γ1++[(y,FI tp)]=Γ2 at *;obtain ⟨tf,htf⟩:∃x,FI tp=x:=⟨_,rfl⟩
  rw [htf] at hF hW;obtain ⟨f1,f2,f3,f4⟩:=tf;obtain ⟨p1,p2,p3,p4⟩:=tp;refine Av rfl<|HA rfl hg<|Ai rfl<|Ad rfl hF<|Ai rfl<|Ad rfl hW<|yg [] rfl (by simp;rfl)<|Af (st0:=[]) (fr:=[6]) [] [(6,6)] rfl (by simp) hN trivial rfl rfl rfl rfl<|Ai rfl<|Ol (y:=3) (j:=4) (j2:=5) (stc:=FX (.mk p1 p2 p3 p4)) (stc':=FX (.mk p1 p2 p3 p4)) (stx:=cU ⟨m1,m2,m3⟩ (.mk t1 t2 t3 t4 t5) Γ2 l) (stB:=cU ⟨m1,m2,m3⟩ (.mk t1 t2 t3 t4 t5) Γ2 ((GD (.mk p1 p2 p3 p4)).foldl sT l)) (pend:=none) (E:=zR Γ i) (ids':=[19,6,1,2,3,21,22,4,23,24,25,26,27]) (d:=.tup []) rfl func139 (by decide +kernel) rfl (by decide) Mr
   (Fq Y0) (λL h1 h2 h3 h4 h5 h6 h7=>NO (b:=true) (.mk p1 p2 p3 p4) ?_) ?_ ?_ ?_ ?_ ?_
  ·have:=Yields.all (P:=prog) (l:=D8 (GD (.mk p1 p2 p3 p4))) (λj=>Do L (cU ⟨m1,m2,m3⟩ (.mk t1 t2 t3 t4 t5) Γ2 (((GD (.mk p1 p2 p3 p4)).take j).foldl sT l)) none) λj d hj=>by
    rw [D8,Et] at hj;cases hu:(GD (.mk p1 p2 p3 p4))[j]? with
    | none=>rw [hu] at hj;cases hj
    | some u =>
     rw [hu] at hj;cases hj;have e:((GD (.mk p1 p2 p3 p4)).take (j+1)).foldl sT l=sT (((GD (.mk p1 p2 p3 p4)).take j).foldl sT l) u:=by rw [Bk hu,NB];rfl
     rw [e];exact Xv _ _ Γ Γ2 i _ u h1 h2 h3 h4 h5 h6 h7
   have hl:(D8 (GD (.mk p1 p2 p3 p4))).length=(GD (.mk p1 p2 p3 p4)).length:=by simp [D8]
   rw [hl] at this;simpa using this
  ·simp [FX,cU,DY]
  ·simp [FX,DY]
  ·intro i hi;have e:I0 (F7 (Ep (Br []++[(6,6)])) []++F7 (Ep (Br []++[(6,6)])) [.ref 6 0])=[6]:=rfl;rw [e] at hi;simpa [FX,DY,F3,UI,I0,J9] using hi
  ·refine ⟨by decide,?_⟩;simp [cU,zR,W1,J9,F3,UI,I0,DY]
  ·rw [hgv];exact Av rfl<|Ae hih ⟨M6,F6⟩ Mr rfl
 ·have hlt:¬i<Γ.length:=by simp at h;omega
  refine At rfl ?_;have e1:Γ.take i=Γ:=CQ (by omega);rw [e1];exact Ae hT BA Mr rfl
mutual
theorem oX:∀t:Ty,C9 t=true->inB 1000 t->C9 (FI t)=true/\CO (FI t)=[]
 | .mk f n x ps,hw,hi=>by
  by_cases e9:f=9
  ·subst e9;have hn:=hi.num rfl;simp only [num] at hn;have e:=E7 hw rfl;simp only [Ao,num,Ty.mk.injEq] at e;obtain ⟨_,_,rfl,rfl⟩:=e;have h2:n<=1000000:=by omega
   have h1:0<=n:=by omega
   rw [FI,if_pos rfl];refine ⟨?_,by simp [CO,DK,Lw]⟩;simp [C9,Gw,h1,h2,Lw]
  ·have hp:=dH ps (EU hw) λp hp=>hi.part e9 hp;rw [FI,if_neg e9];simp only [C9,A2] at hw ⊢;refine ⟨⟨⟨⟨by simp [e9],hw.1.1.2⟩,hw.1.2.1,by rw [Rr,Dh];exact hw.1.2.2⟩,hp.1⟩,by rw [CO,if_neg e9];exact hp.2⟩
theorem dH:∀l:List Ty,(∀t∈l,C9 t=true)->(∀t∈l,inB 1000 t)->Gw (Lw l)=true/\DK (Lw l)=[]
 | [],_,_=>by simp [Lw,Gw,DK]
 | t::r,hw,hi=>by
  have h1:=oX t (hw t (by simp)) (hi t (by simp));have h2:=dH r (λp hp=>hw p (by simp [hp])) (λp hp=>hi p (by simp [hp]));simp [Lw,Gw,DK,h1.1,h1.2,h2.1,h2.2]
end
theorem Xw (h:∀p∈Γ,C9 p.2=true/\inB 1000 p.2):EnvCl (LS Γ):=λp hp=>by
 obtain ⟨q,hq,rfl⟩:=Cc.1 hp;have:=oX q.2 (h q hq).1 (h q hq).2;exact ⟨this.2,this.1⟩
noncomputable def WQ (stay:List Int):Option (Ty×Int×Sb×List Ty)->V
 | none=>.tup [.agg (dTyc Dr),FD 7]
 | some (τ,_,σ,N)=>if (N.map (A9 (thS σ))).all Df=true then OV stay (A9 (thS σ) τ) else .tup [.agg (dTyc Dr),FD 7]
theorem VO:StOk 0 (BH []):=⟨JV _,λn t h=>(nomatch h),Ao,Sol.mk (λn t h=>nomatch h) (λn h=>rfl) (λn t h=>nomatch h) (λn t h=>nomatch h)⟩
theorem gY (hm:Dx m) (Γ:Au) (t:Tm) (h:MQ m Γ t=true) (hΓ:∀p∈Γ,C9 p.2=true/\inB 1000 p.2) (ht:Cb t=true) (hz:H8 t<=100000) :
  ∃r,BM m (LS Γ) t 0 (λ_=>none) r/\Tq3 26 [.agg (Du m),.sl (A0 Γ),.agg (Al t)] (WQ (Gz Γ []) r):=by
 have hcl:=Xw hΓ;have hl:Γ.length<=20:=by
  simp only [MQ,A2,decide_eq_true_eq] at h;exact h.1.1.2
 have hst:(Gz Γ []).length<=1000000:=by have:=Yr (B:=1000) λp hp=>(hΓ p hp).2;omega
 have hw:∀p∈Γ,C9 p.2=true:=λp hp=>(hΓ p hp).1;have hB:vH (LS Γ) [] 0 [] (H8 t):=⟨VO,λp hp=>⟨(hcl p hp).2,BD (hcl p hp).1 _⟩,by omega,by simp;omega,by simp [LS];omega⟩
 obtain ⟨r,c,g⟩:=Xk hm (H8 t) t (LS Γ) [] 0 [] (BL _) ht hB;cases r with
 | none=>exact ⟨none,g,NY m Γ t h hw (TE m t _ _ (ZQ c))⟩
 | some z =>
  obtain ⟨τ,T,k,S⟩:=z;obtain ⟨N,g1,g2,g3,g4⟩:=g;simp only [G5] at g2;subst g2;refine ⟨_,g1,?_⟩;obtain ⟨θ,hθ⟩:=g1.1.2.1.2.2;have hth:thS (BH T)=θ:=Us hθ;simp only [WQ,hth];cases hp:(S.map (A9 θ)).all Df with
  | true =>
   rw [if_pos rfl];exact NY m Γ t h hw (Xg m t _ _ (WY c hθ (by omega) hp) hθ g1.2.1 hst)
  | false =>
   rw [if_neg (by simp)];exact NY m Γ t h hw (TE m t _ _ (WZ c hθ (by omega) hp))
theorem ZW (l:List Dt) (f:FuncId) (a b:List V) (q:Dt->Bool) (hq:∀t∈l,Tq3 f (a++[.agg (BE t)]++b) (.bool (q t))) :
  ∃i:Int,(0<=i↔l.any q=true)/\Tq3 286 [.sl ((l.map BE)),.clo (.func f) a b] (.int .i64 i):=by
 obtain ⟨i,h1,h2⟩:∃i:Int,(0<=i↔l.any q=true)/\((i = -1/\l.any q=false)\/∃(k:Nat) (t:Dt),i=k/\l[k]?=some t/\q t=true/\(l.take k).any q=false):=by
  by_cases h:l.any q=true
  ·have key:∀(n:Nat),(l.take n).any q=true->∃(k:Nat) (t:Dt),l[k]?=some t/\q t=true/\(l.take k).any q=false:=λn=>by
    induction n with
    | zero=>intro h;simp at h
    | succ n ih =>
     intro h;by_cases hn:(l.take n).any q=true
     ·exact ih hn
     ·by_cases hl:n<l.length
      ·obtain ⟨t,ht⟩:=Am hl;rw [Bk ht,DU] at h;simp only [QN] at hn;rw [hn,JP] at h;exact ⟨n,t,ht,by simpa using h,hn⟩
      ·rw [CQ (by omega)] at h hn;exact absurd h hn
   obtain ⟨k,t,k1,k2,k3⟩:=key l.length (by rw [E0];exact h);exact ⟨k,⟨λ_=>h,λ_=>by omega⟩,.inr ⟨k,t,rfl,k1,k2,k3⟩⟩
  ·exact ⟨-1,⟨λh'=>by omega,λh'=>absurd h' h⟩,.inl ⟨rfl,by simpa using h⟩⟩
 refine ⟨i,h1,?_⟩;clear h1;refine Bl λhv=>?_;simp [Cx,Ez,maxLen] at hv;refine AQ Ah func286 rfl [1,2]<|Ai rfl<|Ak (λj:Nat=>[(8,.imm (.int .i64 j)),(7,.imm (.int .i64 l.length)),(0,.imm (.sl ((l.map BE)))),(1,.imm (.clo (.func f) a b))]) (λ_=>[]) [1,2] (λj=>l.length-j) (λj=>j<=l.length/\(l.take j).any q=false) 0
  ⟨AF _,rfl⟩ ⟨rfl,A8 (by simp),AD⟩ trivial rfl λj hj ih=>?_
 obtain ⟨hj1,hj2⟩:=hj;refine Av rfl<|Aa rfl (λh=>?_) (λh=>?_)
 ·have hlt:j<l.length:=by simp at h;omega
  obtain ⟨t,ht⟩:=Am hlt;have hg:=GZ ht;have hQ:=hq t (AK ht);have htk:(l.take (j+1)).any q=q t:=by rw [Bk ht,DU,hj2];simp
  have hfound:q t=true->i=j:=λhqt=>by
   rcases h2 with ⟨_,h⟩ | ⟨k,u,rfl,k1,k2,k3⟩
   ·have:l.any q=true:=Ze.2 ⟨t,AK ht,hqt⟩;rw [this] at h;cases h
   ·congr 1;rcases LM k j with hc | hc | hc
    ·have:(l.take j).any q=true:=Ze.2 ⟨u,DE.2 ⟨k,by rw [Dl,if_pos hc];exact k1⟩,k2⟩;rw [hj2] at this;cases this
    ·exact hc
    ·have:(l.take k).any q=true:=Ze.2 ⟨t,DE.2 ⟨j,by rw [Dl,if_pos hc];exact ht⟩,hqt⟩;rw [k3] at this;cases this
  generalize q t=o at *;obtain ⟨t1,t2⟩:=t;refine Av rfl<|yi rfl (c:=BE ⟨t1,t2⟩) (λ_=>⟨by simp,by simpa using hg,by simp [BE]⟩) (by simp)<|Ai rfl<|PP rfl (λ_=>hQ) (by simp)<|Ai rfl ?_;cases o with
  | true =>
   exact R6 rfl λh=>Av rfl<|Ag ⟨_,rfl,tV (by rw [hfound rfl]),trivial⟩
  | false =>
   exact R7 rfl λh=>Av rfl<|Ae (ih (j+1) (by omega) ⟨by omega,htk⟩) ⟨M6,AH⟩ trivial rfl
 ·have hlt:¬j<l.length:=by simp at h;omega
  rw [CQ (by omega)] at hj2;have hi:i = -1:=by
   rcases h2 with ⟨h,_⟩ | ⟨k,u,_,k1,k2,_⟩
   ·exact h
   ·have:l.any q=true:=Ze.2 ⟨u,AK k1,k2⟩;rw [hj2] at this;cases this
  exact At rfl<|Av rfl<|Ag ⟨_,rfl,tV (by rw [hi]),trivial⟩
theorem Lt (l:List Dt) (f:FuncId) (a b:List V) (q:Dt->Bool) (hq:∀t∈l,Tq3 f (a++[.agg (BE t)]++b) (.bool (q t))) :
  Tq3 265 [.sl ((l.map BE)),.clo (.func f) a b] (.bool (l.any q)):=by
 obtain ⟨i,h1,h2⟩:=ZW l f a b q hq;refine AQ Ah func265 rfl [1,2]<|Ai rfl<|Ad rfl h2<|Ai rfl<|Ab rfl rfl (congrArg _ ?_);rw [EY,<- h1];simp
theorem ZV (l:List Fd) (f:FuncId) (a b:List V) (q:Fd->Bool) (hq:∀t∈l,Tq3 f (a++[.agg (Cg t)]++b) (.bool (q t))) :
  ∃i:Int,(0<=i↔l.any q=true)/\Tq3 270 [.sl ((l.map Cg)),.clo (.func f) a b] (.int .i64 i):=by
 obtain ⟨i,h1,h2⟩:∃i:Int,(0<=i↔l.any q=true)/\((i = -1/\l.any q=false)\/∃(k:Nat) (t:Fd),i=k/\l[k]?=some t/\q t=true/\(l.take k).any q=false):=by
  by_cases h:l.any q=true
  ·have key:∀(n:Nat),(l.take n).any q=true->∃(k:Nat) (t:Fd),l[k]?=some t/\q t=true/\(l.take k).any q=false:=λn=>by
    induction n with
    | zero=>intro h;simp at h
    | succ n ih =>
     intro h;by_cases hn:(l.take n).any q=true
     ·exact ih hn
     ·by_cases hl:n<l.length
      ·obtain ⟨t,ht⟩:=Am hl;rw [Bk ht,DU] at h;simp only [QN] at hn;rw [hn,JP] at h;exact ⟨n,t,ht,by simpa using h,hn⟩
      ·rw [CQ (by omega)] at h hn;exact absurd h hn
   obtain ⟨k,t,k1,k2,k3⟩:=key l.length (by rw [E0];exact h);exact ⟨k,⟨λ_=>h,λ_=>by omega⟩,.inr ⟨k,t,rfl,k1,k2,k3⟩⟩
  ·exact ⟨-1,⟨λh'=>by omega,λh'=>absurd h' h⟩,.inl ⟨rfl,by simpa using h⟩⟩
 refine ⟨i,h1,?_⟩;clear h1;refine Bl λhv=>?_;simp [Cx,Ez,maxLen] at hv;refine AQ Ah func270 rfl [1,2]<|Ai rfl<|Ak (λj:Nat=>[(8,.imm (.int .i64 j)),(7,.imm (.int .i64 l.length)),(0,.imm (.sl ((l.map Cg)))),(1,.imm (.clo (.func f) a b))]) (λ_=>[]) [1,2] (λj=>l.length-j) (λj=>j<=l.length/\(l.take j).any q=false) 0
  ⟨AF _,rfl⟩ ⟨rfl,A8 (by simp),AD⟩ trivial rfl λj hj ih=>?_
 obtain ⟨hj1,hj2⟩:=hj;refine Av rfl<|Aa rfl (λh=>?_) (λh=>?_)
 ·have hlt:j<l.length:=by simp at h;omega
  obtain ⟨t,ht⟩:=Am hlt;have hg:=HZ ht;have hQ:=hq t (AK ht);have htk:(l.take (j+1)).any q=q t:=by rw [Bk ht,DU,hj2];simp
  have hfound:q t=true->i=j:=λhqt=>by
   rcases h2 with ⟨_,h⟩ | ⟨k,u,rfl,k1,k2,k3⟩
   ·have:l.any q=true:=Ze.2 ⟨t,AK ht,hqt⟩;rw [this] at h;cases h
   ·congr 1;rcases LM k j with hc | hc | hc
    ·have:(l.take j).any q=true:=Ze.2 ⟨u,DE.2 ⟨k,by rw [Dl,if_pos hc];exact k1⟩,k2⟩;rw [hj2] at this;cases this
    ·exact hc
    ·have:(l.take k).any q=true:=Ze.2 ⟨t,DE.2 ⟨j,by rw [Dl,if_pos hc];exact ht⟩,hqt⟩;rw [k3] at this;cases this
  generalize q t=o at *;obtain ⟨t1,t2,⟨a1,a2,a3,a4⟩,⟨b1,b2,b3,b4⟩,⟨c1,c2,c3,c4,c5⟩⟩:=t;refine Av rfl<|yi rfl (c:=Cg ⟨t1,t2,.mk a1 a2 a3 a4,.mk b1 b2 b3 b4,.mk c1 c2 c3 c4 c5⟩) (λ_=>⟨by simp,by simpa using hg,by simp [Cg]⟩) (by simp)<|Ai rfl<|PP rfl (λ_=>hQ) (by simp)<|Ai rfl ?_;cases o with
  | true =>
   exact R6 rfl λh=>Av rfl<|Ag ⟨_,rfl,tV (by rw [hfound rfl]),trivial⟩
  | false =>
   exact R7 rfl λh=>Av rfl<|Ae (ih (j+1) (by omega) ⟨by omega,htk⟩) ⟨M6,AH⟩ trivial rfl
 ·have hlt:¬j<l.length:=by simp at h;omega
  rw [CQ (by omega)] at hj2;have hi:i = -1:=by
   rcases h2 with ⟨h,_⟩ | ⟨k,u,_,k1,k2,_⟩
   ·exact h
   ·have:l.any q=true:=Ze.2 ⟨u,AK k1,k2⟩;rw [hj2] at this;cases this
  exact At rfl<|Av rfl<|Ag ⟨_,rfl,tV (by rw [hi]),trivial⟩
theorem Ls (l:List Fd) (f:FuncId) (a b:List V) (q:Fd->Bool) (hq:∀t∈l,Tq3 f (a++[.agg (Cg t)]++b) (.bool (q t))) :
  Tq3 225 [.sl ((l.map Cg)),.clo (.func f) a b] (.bool (l.any q)):=by
 obtain ⟨i,h1,h2⟩:=ZV l f a b q hq;refine AQ Ah func225 rfl [1,2]<|Ai rfl<|Ad rfl h2<|Ai rfl<|Ab rfl rfl (congrArg _ ?_);rw [EY,<- h1];simp
theorem gT (d e:Dt):Tq3 266 [.agg (BE e),.ip 113 (BE d) 0] (.bool (e.name == d.name)):=by
 obtain ⟨d1,d2⟩:=d;obtain ⟨e1,e2⟩:=e;exact Mw<|AQ Ah func266 rfl [2,3,4,5]<|Ai rfl<|Ab rfl rfl rfl
theorem oA (d e:Fd):Tq3 268 [.agg (Cg e),.ip 71 (Cg d) 0] (.bool (e.name == d.name)):=by
 obtain ⟨d1,d2,⟨a1,a2,a3,a4⟩,⟨b1,b2,b3,b4⟩,⟨c1,c2,c3,c4,c5⟩⟩:=d;obtain ⟨e1,e2,⟨f1,f2,f3,f4⟩,⟨g1,g2,g3,g4⟩,⟨h1,h2,h3,h4,h5⟩⟩:=e;exact Mw<|AQ Ah func268 rfl [2,3,4,5]<|Ai rfl<|Ab rfl rfl rfl
theorem gF (e:Fd):Tq3 226 [.agg (Cg e)] (.bool (e.name == HO&&BQ e.from_ == 3)):=by
 obtain ⟨e1,e2,⟨f1,f2,f3,f4⟩,⟨g1,g2,g3,g4⟩,⟨h1,h2,h3,h4,h5⟩⟩:=e;refine AQ Ah func226 rfl [2,3,4,5]<|Ai rfl<|Ab rfl rfl ?_;show V.bool (bif e1 == HO then f1 == 3 else false)=V.bool (e1 == HO&&f1 == 3);cases (e1 == HO) <;> rfl
theorem Z2 (t:Ty) (e:Dt):Tq3 287 [.agg (BE e),.ip 25 (dTyc t) 0] (.bool (e.name == Lf t)):=by
 obtain ⟨t1,t2,t3,t4⟩:=t;obtain ⟨e1,e2⟩:=e;exact Mw<|AQ Ah func287 rfl [2,3,4,5]<|Ai rfl<|Ab rfl rfl rfl
def Pv (m:Md):List V:=Du m++[.mapv [],.int .i64 0,.sl []]
def NP (m:Md) (u:Ty):Bool:=!(BQ u == 8 && !m.datas.any λd=>d.name == Lf u)
def Sk (m:Md) (b:Bool):St:=[(11,some (.immb 92 1 [.ip 98 (Pv m) 0])),(12,some (.immb 4 1 [.bool b]))]
def wE (l:List Ty) (i:Nat):Env:=[(10,.imm (.int .i64 i)),(9,.imm (.int .i64 l.length)),(8,.imm (.sl (dTys l))),(2,.ref 11 0),(4,.ref 12 0)]
theorem OT (m:Md) (l:List Ty) (i:Nat) (u:Ty) (h1:prog.funcs[L.fn]?.isSome) (h2:L.tmps.size=Tryz.f267.ntmps) (h3:L.ps = #[16]) (h4:L.asg=lC Tryz.f267) (h5:L.body=Y8 Tryz.f267) (h6:L.E=wE l i) (h7:L.F=[]) :
  (NP m u=true->Oy prog [.imm (.agg (dTyc u))] (Do L (Sk m false) none) true (Do L (Sk m false) none)) /\
  (NP m u=false->Oy prog [.imm (.agg (dTyc u))] (Do L (Sk m false) none) false (Do L (Sk m false) (some .ret))):=by
 obtain ⟨fc,hf⟩:=NA.1 h1;have hC:=Lt m.datas 287 [] [.ip 25 (dTyc u) 0] (λd=>d.name == Lf u) λd _=>Z2 u d;have hfree:Rs [21,22,23] L.E (Sk m false) L.F:=by
  rw [h6,h7];refine ⟨by decide,?_⟩;simp [Sk,wE,W1,J9,F3,UI,I0,DY]
 unfold NP;generalize (m.datas.any λd=>d.name == Lf u)=o at *;obtain ⟨m1,m2,m3⟩:=m;obtain ⟨f,n,x,ps⟩:=u;simp only [BQ];have hasg:∀stx,RU prog Tryz.f267.ntmps L.asg ((16,.imm (.agg (dTyc (.mk f n x ps))))::L.E) stx [21,22,23] _ _ _:=λstx=>by
  rw [h4];exact dT Ah rfl rfl rfl rfl (by simp) (by simp)
 refine ⟨λhb=>?_,λhb=>?_⟩
 ·refine Rx (pend:=none) hf h3 h2 rfl (by decide) hfree (hasg _) ?_;rw [h5,h6,h7];refine Pu rfl<|Jo rfl (λ_=>hC) rfl (by simp [Ap])<|CW rfl<|Aa rfl (λh=>?_) (λh=>?_)
  ·exfalso;by_cases h8:f=8
   ·subst h8;cases o <;> simp at h hb
   ·simp [h8] at h
  ·exact Av rfl<|BP (⟨rfl,rfl,trivial⟩:Iw _ (Sk ⟨m1,m2,m3⟩ false))
 ·refine Rx (pend:=some .ret) hf h3 h2 rfl (by decide) hfree (hasg _) ?_;rw [h5,h6,h7];refine Pu rfl<|Jo rfl (λ_=>hC) rfl (by simp [Ap])<|CW rfl ?_;have hb':f=8/\o=false:=by
   by_cases h8:f=8
   ·subst h8;cases o <;> simp at hb ⊢
   ·simp [h8] at hb
  obtain ⟨rfl,rfl⟩:=hb';exact R6 rfl λh=>Av rfl<|Ag (⟨rfl,rfl,trivial⟩:Iw _ (Sk ⟨m1,m2,m3⟩ false))
theorem PX {P:Program} {S S':Bun} {q:Ty->Bool}:∀(l:List Ty),(∀u∈l,q u=true->Oy P [.imm (.agg (dTyc u))] S true S)->(∀u∈l,q u=false->Oy P [.imm (.agg (dTyc u))] S false S')->(l.all q=true->Yields P (D8 l) S true S)/\(l.all q=false->Yields P (D8 l) S false S')
 | [],_,_=>⟨λ_=>Yields.nil S,λh=>by simp at h⟩
 | u::r,h1,h2=>by
  have ih:=PX r (λv hv=>h1 v (by simp [hv])) (λv hv=>h2 v (by simp [hv]));refine ⟨λh=>?_,λh=>?_⟩
  ·simp only [Zi,A2] at h;exact .cons (h1 u (by simp) h.1) (ih.1 h.2)
  ·simp only [Zi,LK] at h;cases hq:q u with
   | false=>exact .stop (h2 u (by simp) hq)
   | true =>
    rcases h with h | h
    ·rw [hq] at h;cases h
    ·exact .cons (h1 u (by simp) hq) (ih.2 h)
theorem T7 (m:Md) (l:List Ty) (hl:l.length<=1000000):Tq3 267 [.ip 98 (Pv m) 0,.sl (dTys l)] (.bool ((CG l).all (NP m))):=by
 refine AQ Ah func267 rfl [11,12,13,6,1,2,3]<|Ai rfl<|Ak (λi:Nat=>wE l i) (λ_=>Sk m false) [13,6,1,2,3] (λi=>l.length-i) (λi=>i<=l.length/\(CG (l.take i)).all (NP m)=true) 0 ⟨AF _,rfl⟩
  ⟨rfl,A8 (by simp),AH⟩ AD rfl λi hi ih=>?_
 obtain ⟨hi1,hi2⟩:=hi;refine Av rfl<|Aa rfl (λh=>?_) (λh=>?_)
 ·have hlt:i<l.length:=by simp at h;omega
  obtain ⟨p,hp⟩:=Am hlt;have hg:=AA hp;have hN:=Tz p;have htk:∀(a b:List Ty),CG (a++b)=CG a++CG b:=λa b=>by
   induction a with
   | nil=>rfl
   | cons t r ih=>simp [CG,ih]
  have hnx:(CG (l.take (i+1))).all (NP m)=(GD p).all (NP m):=by rw [Bk hp,htk,Ii,hi2];simp [CG]
  have hno:(GD p).all (NP m)=false->(CG l).all (NP m)=false:=λh=>by
   have e:l=l.take i++p::l.drop (i+1):=by rw [<- As hp,cQ]
   rw [e,htk,Ii,CG,Ii,h];simp
  have hR:∀{L:Nx},prog.funcs[L.fn]?.isSome->L.tmps.size=Tryz.f267.ntmps->L.ps = #[16]->L.asg=lC Tryz.f267->L.body=Y8 Tryz.f267->L.E=wE l i->L.F=[] ->
   ((GD p).all (NP m)=true->Yields prog (D8 (GD p)) (Do L (Sk m false) none) true (Do L (Sk m false) none))/\((GD p).all (NP m)=false->Yields prog (D8 (GD p)) (Do L (Sk m false) none) false (Do L (Sk m false) (some .ret))):=λh1 h2 h3 h4 h5 h6 h7=>PX _ (λu _=>(OT m l i u h1 h2 h3 h4 h5 h6 h7).1) (λu _=>(OT m l i u h1 h2 h3 h4 h5 h6 h7).2)
  obtain ⟨p1,p2,p3,p4⟩:=p;refine Av rfl<|HA rfl hg<|Ai rfl<|Af (st0:=[]) (fr:=[6]) [] [(6,6)] rfl (by simp) hN trivial rfl rfl rfl rfl<|Ai rfl ?_;cases hb:(GD (.mk p1 p2 p3 p4)).all (NP m) with
  | true =>
   rw [hb] at hnx;refine Ol (y:=3) (j:=4) (j2:=5) (stc:=FX (.mk p1 p2 p3 p4)) (stc':=FX (.mk p1 p2 p3 p4)) (stx:=Sk m false) (stB:=Sk m false) (pend:=none) (E:=wE l i) (ids':=[13,6,1,2,3]) (d:=.tup []) rfl func139 (by decide +kernel) rfl (by decide) BA
    (Fq AH) (λL h1 h2 h3 h4 h5 h6 h7=>NO (.mk p1 p2 p3 p4) ((hR h1 h2 h3 h4 h5 h6 h7).1 hb)) ?_ ?_ ?_ ?_ ?_
   ·simp [FX,Sk,DY]
   ·simp [FX,DY]
   ·intro i hi;have e:I0 (F7 (Ep (Br []++[(6,6)])) []++F7 (Ep (Br []++[(6,6)])) [.ref 6 0])=[6]:=rfl;rw [e] at hi;simpa [FX,DY,F3,UI,I0,J9] using hi
   ·refine ⟨by decide,?_⟩;simp [Sk,wE,W1,J9,F3,UI,I0,DY]
   ·exact Av rfl<|Ae (ih (i+1) (by omega) ⟨by omega,hnx⟩) ⟨M6,BJ⟩ AD rfl
  | false =>
   have hno:=hno hb;refine Ol (y:=3) (j:=4) (j2:=5) (stc:=FX (.mk p1 p2 p3 p4)) (stc':=FX (.mk p1 p2 p3 p4)) (stx:=Sk m false) (stB:=Sk m false) (pend:=some .ret) (E:=wE l i) (ids':=[13,6,1,2,3]) (d:=.tup []) rfl func139 (by decide +kernel) rfl (by decide) BA
    (Fq AH) (λL h1 h2 h3 h4 h5 h6 h7=>NO (.mk p1 p2 p3 p4) ((hR h1 h2 h3 h4 h5 h6 h7).2 hb)) ?_ ?_ ?_ ?_ ?_
   ·simp [FX,Sk,DY]
   ·simp [FX,DY]
   ·intro i hi;have e:I0 (F7 (Ep (Br []++[(6,6)])) []++F7 (Ep (Br []++[(6,6)])) [.ref 6 0])=[6]:=rfl;rw [e] at hi;simpa [FX,DY,F3,UI,I0,J9] using hi
   ·refine ⟨by decide,?_⟩;simp [Sk,wE,W1,J9,F3,UI,I0,DY]
   ·exact Ag ⟨_,rfl,tV (by rw [hno]),trivial⟩
 ·have hlt:¬i<l.length:=by simp at h;omega
  rw [CQ (by omega)] at hi2;exact At rfl<|Av rfl<|Ag ⟨_,rfl,tV (by rw [hi2]),trivial⟩
def Ke (l:List Str) (x:Str):List Str:=if BS l x=true then l else l++[x]
theorem VU {x:Str}:∀{l:List Str},BS l x=true->F2 (Hr l) (.str x) (.bool true)=Hr l
 | [],h=>by simp [BS] at h
 | y::r,h=>by
  simp only [BS,Hv,beq_iff_eq] at h;simp only [Hr,Cv,F2,jN];by_cases e:x=y
  ·subst e;simp
  ·have ih:=VU (l:=r) (h.resolve_left λh=>e h.symm);simp only [Hr] at ih;simp [e,ih]
theorem VW (l:List Str) (x:Str):F2 (Hr l) (.str x) (.bool true)=Hr (Ke l x):=by
 unfold Ke;cases h:BS l x with
 | true=>rw [if_pos rfl];exact VU h
 | false=>rw [if_neg (by simp)];exact VV l x h
def iR (m:Md) (z:Bool×List Str) (c:Cd):Bool×List Str:=(z.1 && !BS z.2 c.name&&(CG c.args).all (NP m),Ke z.2 c.name)
def Sx (m:Md) (i:Nat) (d:Dt) (met:List Str):Bool×List Str:=d.cons.foldl (iR m) (!((m.datas.take i).any λe=>e.name == d.name),met)
theorem oC (m:Md) (i:Nat) (d:Dt) (met:List Str) (hd:m.datas[i]?=some d) (hl:∀c∈d.cons,c.args.length<=1000000) :
  Tq4 223 [.imm (.ip 98 (Pv m) 0),.imm (.int .i64 i),.mapr 1] [(1,some (.map (Hr met)))] (.ret (.imm (.bool (Sx m i d met).1)) [(1,some (.map (Hr (Sx m i d met).2)))]):=by
 have hg:=GZ hd;have hC:=Lt (m.datas.take i) 266 [] [.ip 113 (BE d) 0] (λe=>e.name == d.name) λe _=>gT d e;have hK:=λl hl=>T7 m l hl;unfold Sx;generalize ((m.datas.take i).any λe=>e.name == d.name)=o at *;generalize hm:NP m=q at *;have hdc:iR m=λz c=>(z.1 && !BS z.2 c.name&&(CG c.args).all q,Ke z.2 c.name):=by funext z c;rw [iR,hm]
 rw [hdc];clear hdc hm;obtain ⟨m1,m2,m3⟩:=m;obtain ⟨d1,cs⟩:=d;simp only at hl;have hi:i<m2.length:=(AO.1 hd).1;refine AQ Ah func223 rfl [2,3,4,5,6]<|Ai rfl<|yi rfl (c:=BE ⟨d1,cs⟩) (λ_=>⟨by simp,by simpa using hg,by simp [BE]⟩) (by simp)<|yg [] rfl (by simp;omega) ?_;simp only [Da] at hC;refine Jo rfl (λ_=>hC) rfl (by simp)<|Ai rfl ?_;clear hC;refine FN (t:=30) rfl λhv=>?_;simp [Ez,maxLen] at hv;generalize hF:(λ(z:Bool×List Str) (c:Cd)=>(z.1 && !BS z.2 c.name&&(CG c.args).all q,Ke z.2 c.name))=F at *;have hFe:∀(o:Bool) (me:List Str) (c:Cd),F (o,me) c=(o && !BS me c.name&&(CG c.args).all q,Ke me c.name):=λo me c=>by rw [<- hF]
 clear hF;refine Ak (λz:Nat×Bool×List Str=>[(32,.imm (.int .i64 z.1)),(31,.imm (.int .i64 cs.length)),(30,.imm (.sl (cs.map CK))),(8,.imm (.bool z.2.1)),(2,.mapr 1),(0,.imm (.ip 98 (Pv ⟨m1,m2,m3⟩) 0))]) (λz=>[(1,some (.map (Hr z.2.2)))]) [4,5,6] (λz=>cs.length-z.1)
  (λz=>z.1<=cs.length/\(cs.drop z.1).foldl F z.2=cs.foldl F (!o,met)) (0,!o,met)
  ⟨AF _,rfl⟩ ⟨rfl,A8 (by simp),BJ⟩ AC rfl λz hz ih=>?_
 obtain ⟨j,b,me⟩:=z;obtain ⟨hj1,hj2⟩:=hz;simp only at hj1 hj2 ih;generalize hR:cs.foldl F (!o,met)=R at *;clear hR;refine Av rfl<|Aa rfl (λh=>?_) (λh=>?_)
 ·have hlt:j<cs.length:=by simp at h;omega
  obtain ⟨c,hc⟩:=Am hlt;have hgc:=Nj hc;have hk:=hK c.args (hl c (AK hc));have hn:=VW me c.name;rw [As hc,OO,hFe] at hj2;obtain ⟨c1,ag⟩:=c;simp only at hk hj2 hn;generalize (CG ag).all q=o3 at *;refine Av rfl<|yi rfl (c:=CK ⟨c1,ag⟩) (λ_=>⟨by simp,by simpa using hgc,by simp [CK]⟩) (by simp)<|CW rfl<|CJ Ah 1 rfl rfl rfl (Gb me) (by simp [Ap]) (z:=.bool false) rfl (λ_=>.bool _) (K3 me c1)<|CW rfl<|Ce rfl hk<|CW rfl<|Fs Ah rfl rfl rfl (Gb me) ?_;rw [hn];refine Ai rfl ?_;exact Ae (ih (j+1,b && !BS me c1&&o3,Ke me c1) (by simp only;omega) ⟨by simp only;omega,hj2⟩) ⟨M6,rfl,rfl,by cases b <;> cases BS me c1 <;> cases o3 <;> rfl,AD⟩ AC rfl
 ·have hlt:¬j<cs.length:=by simp at h;omega
  rw [Bh (by omega)] at hj2;simp only [zb4] at hj2;refine At rfl<|Av rfl ?_;subst hj2;exact Ag ⟨_,AH⟩
theorem Vv (a b:List Int):IO (a++b)=IO a++IO b:=by simp [IO]
structure vD (m:Md):Prop where
 datas:m.datas.length<=1000
 funs:m.funs.length<=1000
 cons:∀d∈m.datas,d.cons.length<=1000
structure OkM (m:Md):Prop where
 few:vD m
 closed:Dx m
 body:∀f∈m.funs,Cb f.body=true/\H8 f.body<=100000
theorem KD:Dc m [t] [(Γ,τ)] S↔CC m t Γ τ S:=by
 simp only [Dc];constructor
 ·rintro ⟨S1,S2,h1,rfl,rfl⟩;rw [HP];exact h1
 ·intro h;exact ⟨S,[],h,rfl,by simp⟩
theorem RI (hm:Dx m) (hf:f∈m.funs):(CO f.from_=[]/\C9 f.from_=true)/\CO f.to_=[]/\C9 f.to_=true:=by
 obtain ⟨h1,h2⟩:=hm.1 f hf;simp only [Be,CO,DK] at h1;simp only [Be,C9,Gw,A2] at h2;simp at h1;exact ⟨⟨h1.1,h2.2.1⟩,h1.2,h2.2.2.1⟩
def wI (m:Md) (f:Fd) (T:List (Int×Ty)) (k:Int) (S:List Ty):St:=CI m T k S++[(5,some (.cells 92 1 [.ref 1 0])),(6,some (.immb 71 15 (Cg f)))]
def zT (m:Md) (f:Fd) (T:List (Int×Ty)) (k:Int) (S:List Ty):St:=U0 m T k S++[(5,some (.cells 92 1 [.ref 1 0])),(6,some (.immb 71 15 (Cg f)))]
theorem nZ {r:HC} (h:B7 m [(f.param,f.from_)] [f.body] [f.to_] [] 0 [] r) (hp:∀T k S,r=some (T,k,S)->S.length<=1000000/\∃θ,Sol (BH T) θ/\(S.map (A9 θ)).all Df=b) (hn:r=none->b=false) :
  (b=true->∃T k S,Tq4 269 [.ref 5 0,.ref 6 0] (wI m f [] 0 []) (.ret (.imm (.tup [])) (zT m f T k S)))/\(b=false->Tq4 269 [.ref 5 0,.ref 6 0] (wI m f [] 0 []) (.pan Gn)):=by
 obtain ⟨f1,f2,⟨a1,a2,a3,a4⟩,⟨b1,b2,b3,b4⟩,⟨t1,t2,t3,t4,t5⟩⟩:=f;rw [B7] at h;rcases h with ⟨hI,rfl⟩ | ⟨⟨τ1,τ2,τ3,τ4⟩,T2,k2,S2,hI,h⟩
 ·have hb:=hn rfl;refine ⟨λh=>(by rw [hb] at h;cases h),λ_=>?_⟩;unfold Ey Cu Dj at hI;exact AQ Ah func269 rfl [4,9,10]<|Ai rfl<|Bg 3 [(1,1),(2,2),(3,3)] rfl (by simp) hI Ax rfl rfl rfl<|Ai rfl<|Eh 12 (.imm (.tup [])) rfl DC (λx h=>by cases h)<|yg [] rfl (by simp;rfl)<|Bs 12 3 rfl
 ·rcases h with ⟨hE,rfl⟩ | ⟨T3,hE,h⟩
  ·have hb:=hn rfl;refine ⟨λh=>(by rw [hb] at h;cases h),λ_=>?_⟩;unfold Ey Cu Dj at hI;unfold DL at hE;exact AQ Ah func269 rfl [4,9,10]<|Ai rfl<|A4 (fr:=[4]) [(1,1),(2,2),(3,3)] [(4,4)] [] (nm:=[1,2,4,1,2,3]) rfl trivial (by simp) hI Ax rfl trivial rfl rfl rfl<|Ai rfl<|Bd [(1,1),(2,2),(4,3)] rfl (by simp) hE Ax rfl rfl rfl<|N0 1 rfl (by simp;rfl)<|By 15 rfl
  ·simp only [B7] at h;obtain ⟨hl,θ,hθ,hpl⟩:=hp _ _ _ h;unfold Ey Cu Dj at hI;unfold Dk at hE;have hy:=MI m T3 k2 S2 hθ hl;have hno:=OS m T3 k2 S2 hθ hl;rw [hpl] at hy hno;refine ⟨λhb=>⟨T3,k2,S2,?_⟩,λhb=>?_⟩
   ·have hS:=hy hb;exact AQ Ah func269 rfl [4,9,10]<|Ai rfl<|A4 (fr:=[4]) [(1,1),(2,2),(3,3)] [(4,4)] [] (nm:=[1,2,4,1,2,3]) rfl trivial (by simp) hI Ax rfl trivial rfl rfl rfl<|Ai rfl<|A4 (fr:=[]) [(1,1),(2,2),(4,3)] [] [] (nm:=[1,2,4,1,2,4]) rfl trivial (by simp) hE Ax rfl trivial rfl rfl rfl<|yg [] rfl (by simp;rfl)<|Jf [] [(1,1),(2,2),(4,3)] [] rfl hS Ax rfl rfl<|Ai rfl<|BP ⟨[],F6⟩
   ·have hS:=hno hb;exact AQ Ah func269 rfl [4,9,10]<|Ai rfl<|A4 (fr:=[4]) [(1,1),(2,2),(3,3)] [(4,4)] [] (nm:=[1,2,4,1,2,3]) rfl trivial (by simp) hI Ax rfl trivial rfl rfl rfl<|Ai rfl<|A4 (fr:=[]) [(1,1),(2,2),(4,3)] [] [] (nm:=[1,2,4,1,2,4]) rfl trivial (by simp) hE Ax rfl trivial rfl rfl rfl<|yg [] rfl (by simp;rfl)<|Bd [(1,1),(2,2),(4,3)] rfl (by simp) hS Ax rfl rfl rfl<|Ai rfl<|By 17 rfl
theorem oD (hm:OkM m) (hf:f∈m.funs):∃r,B7 m [(f.param,f.from_)] [f.body] [f.to_] [] 0 [] r/\(∀T k S,r=some (T,k,S)->S.length<=1000000/\∃θ,Sol (BH T) θ/\(S.map (A9 θ)).all Df=Io m f)/\(r=none->Io m f=false):=by
 obtain ⟨⟨c1,c2⟩,c3,c4⟩:=RI hm.closed hf;obtain ⟨n1,n2⟩:=hm.body f hf;have hcl:EnvCl [(f.param,f.from_)]:=λp hp=>by rw [AN.1 hp];exact ⟨c1,c2⟩
 have hsz:BY [f.body]=H8 f.body:=by simp [BY]
 obtain ⟨r,k1,g1⟩:=Hg (Xk hm.closed (H8 f.body)) [f.body] [f.to_] [(f.param,f.from_)] [] 0 [] rfl (by omega) (λt ht=>by rw [AN.1 ht];exact n1) (λu hu=>by rw [AN.1 hu];exact ⟨c4,BD c3 _⟩)
  ⟨VO,λp hp=>by rw [AN.1 hp];exact ⟨c2,BD c1 _⟩,by simp;omega,by simp;omega,by simp;omega⟩
 refine ⟨r,k1,?_⟩;clear k1;have hapK:∀η,FS η ([f.to_].map λu=>([(f.param,f.from_)],u))=[([(f.param,f.from_)],f.to_)]:=λη=>by
  simp only [FS,Cv,FB];rw [hcl.ap,Gq c3 c4]
 refine ⟨λT k S e=>?_,λe=>?_⟩
 ·subst e;obtain ⟨N,g1,g2,g3,g4⟩:=g1;simp only [G5] at g2;subst g2;obtain ⟨θ,hθ⟩:=g1.1.2.1.2.2;refine ⟨by omega,θ,hθ,(aW ?_ λS' hS'=>?_).symm⟩
  ·have:Dc m [f.body] (FS θ _) (S.map (A9 θ)):=(g1.1.2.2.1 θ hθ.eq).2;rw [hapK] at this;exact KD.1 this
  ·obtain ⟨η',_,e1,e2⟩:=g1.1.2.2.2 Ao S' (λn t h=>nomatch h) (by show Dc m [f.body] (FS Ao _) S';rw [hapK];exact KD.2 hS');refine ⟨η',?_⟩;simp only at e2;rw [<- e2,US];exact Jg λu _=>hθ.mguT e1 u
 ·subst e;refine aX λS hS=>g1 Ao S (λn t h=>nomatch h) ?_;show Dc m [f.body] (FS Ao _) S;rw [hapK];exact KD.2 hS
theorem tI (hm:OkM m) (i:Nat) (f:Fd) (hf:m.funs[i]?=some f):Tq3 224 [.ip 98 (Pv m) 0,.int .i64 i] (.bool (!((m.funs.take i).any λe=>e.name == f.name)&&((CG [f.from_,f.to_]).all (NP m)&&Io m f))):=by
 have hg:=HZ hf;have hi:i<m.funs.length:=(AO.1 hf).1;have hC:=Ls (m.funs.take i) 268 [] [.ip 71 (Cg f) 0] (λe=>e.name == f.name) λe _=>oA f e;have hK:=T7 m [f.from_,f.to_] (by simp);have hS:=G7 m 0;obtain ⟨r,k1,k2,k3⟩:=oD hm (AK hf);obtain ⟨y1,y2⟩:=nZ k1 k2 k3;clear k1 k2 k3 hm;generalize Io m f=B at *;generalize ((m.funs.take i).any λe=>e.name == f.name)=o at *;generalize (CG [f.from_,f.to_]).all (NP m)=q at *;simp only [Da] at hC;obtain ⟨m1,m2,m3⟩:=m;obtain ⟨f1,f2,⟨a1,a2,a3,a4⟩,⟨b1,b2,b3,b4⟩,⟨t1,t2,t3,t4,t5⟩⟩:=f;simp only at hi
 refine AQ Ah func224 rfl [6,1,2,3,5,4,7,8]<|Ai rfl<|yi rfl (c:=Cg ⟨f1,f2,.mk a1 a2 a3 a4,.mk b1 b2 b3 b4,.mk t1 t2 t3 t4 t5⟩) (λ_=>⟨by simp,by simpa using hg,by simp [Cg]⟩) (by simp)<|yg [] rfl (by simp;omega)<|Jo rfl (λ_=>hC) rfl (by simp)<|CW rfl<|Ce rfl hK<|CW rfl ?_;clear hC hK hg;refine Aa rfl (λh=>?_) (λh=>?_)
 ·refine Av rfl ?_;exact Ag ⟨_,rfl,tV (by cases o <;> cases q <;> simp at h ⊢),trivial⟩
 ·have e:(!o&&(q&&B))=B:=by cases o <;> cases q <;> simp at h ⊢
  rw [e];clear e h;refine Av rfl<|Jf [1,2,3] [] [(1,1),(2,2),(3,3)] rfl hS trivial rfl rfl<|Ai rfl ?_;cases B with
  | true =>
   obtain ⟨T,k,S,hE⟩:=y1 rfl;have hH:=II func55 (by decide +kernel) rfl Fy func269 (by decide +kernel) rfl (df:=[]) (dc:=[.ref 5 0,.ref 6 0]) hE;exact Jf [4] [(1,1),(2,2),(3,3),(5,5),(6,6)] [(4,4)] rfl hH Wa rfl rfl<|Ai rfl<|Ab rfl rfl rfl
  | false =>
   have hH:=Kh func55 (by decide +kernel) rfl Fy func269 (by decide +kernel) rfl (df:=[]) (dc:=[.ref 5 0,.ref 6 0]) (y2 rfl);exact Jf [] [(1,1),(2,2),(3,3),(5,5),(6,6)] [] rfl hH Wa rfl rfl<|Ai rfl<|Ab rfl rfl rfl
theorem Of (p:Nat->Bool) (h:i<n):GX p i (n-i)=if p i then some i else GX p (i+1) (n-(i+1)):=by
 rw [show n-i=(n-(i+1))+1 by omega];rfl
theorem Rq (p:Nat->Bool) (h:n<=i):GX p i (n-i)=none:=by
 rw [show n-i=0 by omega];rfl
theorem Um (h:m.funs[i]?=some f):N6 m i=((m.funs.take i).any (λg=>g.name == f.name) || !JR m f.from_ || !JR m f.to_ || !Io m f):=by rw [N6,h]
theorem sH {f:FuncId} {g:Fn} {a v:V} (h:GL P f [a,.clo g [] []] v):GL P f [a,.fn g] v:=λI μ w xs hst hx=>h I μ w xs hst ⟨hx.1,λi v d p q=>by
 match i,q with
 | 0,q=>cases q;exact hx.2 0 v _ p rfl
 | 1,q =>
  cases q;have:=(hx.2 1 v _ p rfl).immInv;cases this;exact .imm _ _ (.clo _ _ _ _ _ rfl rfl (λi c x h=>by simp at h) (λi c x h=>by simp at h))
 | i+2,q=>simp at q⟩
def wO:Int×Int->V
 | (1,i)=>.iface 148 (.agg [.int .i64 i])
 | (2,i)=>.iface 149 (.agg [.int .i64 i])
 | (3,_)=>.iface 151 (.agg [])
 | _=>.niliface
def P9 (m:Md):Nat->Nat->List Str->Option Nat
 | _,0,_=>none
 | i,n+1,met=>match m.datas[i]? with
  | some d=>if (Sx m i d met).1=true then P9 m (i+1) n (Sx m i d met).2 else some i
  | none=>none
noncomputable def Sp (m:Md) (i:Nat):Bool:=match m.funs[i]? with
 | some f=>!(!((m.funs.take i).any λe=>e.name == f.name)&&((CG [f.from_,f.to_]).all (NP m)&&Io m f))
 | none=>false
noncomputable def Gk (m:Md) (at_:Int):Int×Int :=
 if at_=0 then (match P9 m 0 m.datas.length [] with | some i=>(1,(i:Int)) | none=>(0,0))
 else if at_=1 then (match GX (Sp m) 0 m.funs.length with | some i=>(2,(i:Int)) | none=>(0,0))
 else if WC m=true then (0,0) else (3,0)
def bF (m:Md):Prop:=∀d∈m.datas,∀c∈d.cons,c.args.length<=1000000
theorem gG (hf:vD m) (hA:bF m):Tq3 152 [.ip 98 (Pv m) 0,.int .i64 0] (wO (Gk m 0)):=by
 have hl:=hf.datas;have hD:=λi d met hd=>oC m i d met hd (λc hc=>hA d (AK hd) c hc);have e:Gk m 0=(match P9 m 0 m.datas.length [] with | some i=>(1,(i:Int)) | none=>(0,0)):=rfl;rw [e];clear e hA;refine AQ Ah func152 rfl [1,2,3,4]<|Ai rfl<|R6 rfl λh=>Av rfl<|Ev rfl<|Ai rfl<|Ak (λz:Nat×List Str=>[(18,.imm (.int .i64 z.1)),(17,.imm (.int .i64 m.datas.length)),(5,.mapr 1),(0,.imm (.ip 98 (Pv m) 0))]) (λz=>[(1,some (.map (Hr z.2)))]) [2,3,4] (λz=>m.datas.length-z.1)
  (λz=>z.1<=m.datas.length/\P9 m z.1 (m.datas.length-z.1) z.2=P9 m 0 m.datas.length []) (0,[])
  ⟨AF _,rfl⟩ ⟨rfl,A8 (by simp),AD⟩ AC rfl λz hz ih=>?_
 obtain ⟨i,me⟩:=z;obtain ⟨hi1,hi2⟩:=hz;simp only at hi1 hi2 ih;generalize P9 m 0 m.datas.length []=R at *;refine Av rfl<|Aa rfl (λh=>?_) (λh=>?_)
 ·have hlt:i<m.datas.length:=by simp at h;omega
  obtain ⟨d,hd⟩:=Am hlt;have hC:=hD i d me hd;rw [show m.datas.length-i=(m.datas.length-(i+1))+1 by omega,P9,hd] at hi2;simp only at hi2;generalize Sx m i d me=w at *;obtain ⟨w1,w2⟩:=w;simp only at hC hi2;refine Av rfl<|C8 rfl hC Aw rfl<|Ai rfl ?_;cases w1 with
  | false =>
   refine R6 rfl λh=>?_;rw [if_neg (by simp)] at hi2;rw [<- hi2];exact Av rfl<|Ab rfl rfl rfl
  | true =>
   refine R7 rfl λh=>?_;rw [if_pos rfl] at hi2;exact Av rfl<|Ae (ih (i+1,w2) (by simp only;omega) ⟨by simp only;omega,hi2⟩) ⟨M6,AH⟩ AC rfl
 ·have hlt:¬i<m.datas.length:=by simp at h;omega
  rw [show m.datas.length-i=0 by omega,P9] at hi2;rw [<- hi2];exact At rfl<|Av rfl<|Ab rfl rfl rfl
theorem Z0 (hm:OkM m):Tq3 152 [.ip 98 (Pv m) 0,.int .i64 1] (wO (Gk m 1)):=by
 have hF:=λi f hf=>tI hm i f hf;have hl:=hm.few.funs;have e:Gk m 1=(match GX (Sp m) 0 m.funs.length with | some i=>(2,(i:Int)) | none=>(0,0)):=rfl;rw [e];clear e hm;refine AQ Ah func152 rfl [1,2,3,4]<|Ai rfl<|R7 rfl λh=>Av rfl<|R6 rfl λh=>Av rfl<|Ak (λi:Nat=>[(38,.imm (.int .i64 i)),(37,.imm (.int .i64 m.funs.length)),(0,.imm (.ip 98 (Pv m) 0))]) (λ_=>[]) [1,2,3,4] (λi=>m.funs.length-i)
  (λi=>i<=m.funs.length/\GX (Sp m) i (m.funs.length-i)=GX (Sp m) 0 m.funs.length) 0
  ⟨AF _,rfl⟩ ⟨rfl,A8 (by simp),AC⟩ trivial rfl λi hi ih=>?_
 obtain ⟨hi1,hi2⟩:=hi;generalize GX (Sp m) 0 m.funs.length=R at *;refine Av rfl<|Aa rfl (λh=>?_) (λh=>?_)
 ·have hlt:i<m.funs.length:=by simp at h;omega
  obtain ⟨f,hf⟩:=Am hlt;have hC:=hF i f hf;have hw:Sp m i = !(!((m.funs.take i).any λe=>e.name == f.name)&&((CG [f.from_,f.to_]).all (NP m)&&Io m f)):=by rw [Sp,hf]
  rw [Of _ hlt,hw] at hi2;clear hw;generalize (!((m.funs.take i).any λe=>e.name == f.name)&&((CG [f.from_,f.to_]).all (NP m)&&Io m f))=o at *;refine Av rfl<|Ad rfl hC<|Ai rfl ?_;cases o with
  | false =>
   refine R6 rfl λh=>?_;simp only [mW,if_true] at hi2;rw [<- hi2];exact Av rfl<|Ab rfl rfl rfl
  | true =>
   refine R7 rfl λh=>?_;simp only [Bool.not_true,E1,if_false] at hi2;exact Av rfl<|Ae (ih (i+1) (by omega) ⟨by omega,hi2⟩) ⟨M6,AD⟩ trivial rfl
 ·have hlt:¬i<m.funs.length:=by simp at h;omega
  rw [Rq _ (by omega)] at hi2;rw [<- hi2];exact At rfl<|Av rfl<|Ab rfl rfl rfl
theorem gE (m:Md):Tq3 152 [.ip 98 (Pv m) 0,.int .i64 2] (wO (Gk m 2)):=by
 have hC:=sH (Ls m.funs 226 [] [] (λe=>e.name == HO&&BQ e.from_ == 3) λe _=>gF e);have e:Gk m 2=(if WC m=true then (0,0) else (3,0)):=rfl;rw [e];unfold WC;generalize (m.funs.any λe=>e.name == HO&&BQ e.from_ == 3)=o at *;clear e;refine AQ Ah func152 rfl [1,2,3,4]<|Ai rfl<|R7 rfl λh=>Av rfl<|R7 rfl λh=>Av rfl<|R6 rfl λh=>Av rfl<|Ad rfl hC<|Ai rfl ?_;cases o with
 | false =>
  exact R6 rfl λh=>Av rfl<|Ab rfl rfl rfl
 | true =>
  exact R7 rfl λh=>Av rfl<|Ab rfl rfl rfl
structure PSeq where
 t:TypeId
 b:Bool
 g:Option (Bool×Bool)
 ob:List Prop
 dst:Option Nat
 todo:List DI
def oI:D->Option Bool
 | .imm .niliface=>some true
 | .imm (.iface _ _)=>some false
 | _=>none
def vQ (n:Nat) (env:Env) (todo:List DI):Option PSeq :=
 match Bt todo ([],[]) with
 | some (all,o,todo')=>match o.op,Co all env o with
  | .binOp op t x (.const .nilIface) _,some g=>match DN env x,BK n o.dst with
   | some dx,true=>match oI dx,op with
    | some b,.eql=>some ⟨t,b,g,[],o.dst,todo'⟩
    | some b,.neq=>some ⟨t,!b,g,[],o.dst,todo'⟩
    | _,_=>none
   | _,_=>none
  | _,_=>none
 | none=>none
theorem Xe {t:TypeId} {x:Operand} {b0:Bool} {dx:D} (hu:P.underlying t=some (.interface (P.methodsAt t))) (hb:oI dx=some b0) (h:RepD I μ v dx) :
  ((do eqGuard .eql t x (.const .nilIface) v .nilIface;binOp .eql t v .nilIface:Sem Value).run P w = .ok (.bool b0) w)/\((do eqGuard .neq t x (.const .nilIface) v .nilIface;binOp .neq t v .nilIface:Sem Value).run P w = .ok (.bool (!b0)) w):=by
 unfold oI at hb
 split at hb
 ·cases hb;have:=h.immInv;cases this;rw [eqGuard_nil_constR,eqGuard_nil_constR];exact ⟨run_eql_nil_nil w t hu,run_neq_nil_nil w t hu⟩
 ·cases hb;have:=h.immInv;cases this with
  | iface u v x hv =>
  exact ⟨run_eql_held_nil w t _ _ hu,run_neq_held_nil w t _ _ hu⟩
 ·cases hb
theorem Od {t:TypeId} {g:Option (Bool×Bool)} {dst:Option Nat} {todo0:List DI} (h:vQ n env todo=some ⟨t,b,g,ob,dst,todo0⟩) (hu:P.underlying t=some (.interface (P.methodsAt t))) (hk:G P n F Q todo0 (BN dst (gD g (.imm (.bool b))) env) st ids):G P n F Q todo env st ids:=by
 unfold vQ at h
 split at h
 ·rename_i all o todo' h1
  split at h
  ·rename_i op t' x t2 g' hop hgd
   split at h
   ·rename_i dx hx hdo
    split at h
    ·rename_i b' hb;cases h;refine BG (fr:=[]) (wr:=[]) (rd:=[]) h1 (D1 hgd λI μ st1 ids1 a w hag hst hops hcx=>?_) hdo (λc hc=>by rw [hop] at hc;cases hc) hk;rw [hop] at hops;have rx:=hops x (by simp [Op.operands]) _ hx;have hrun:(execOp a.eval o).run P w = .ok (.value (.bool b)) w:=by
      simp only [execOp,hop];exact A7 (Xe hu hb rx).1
     rw [hrun];exact ⟨I,μ,hst,.imm _ _ (.bool _),Mu.le_refl μ,Ext.refl _ _ _ _⟩
    ·rename_i b' hb;cases h;refine BG (fr:=[]) (wr:=[]) (rd:=[]) h1 (D1 hgd λI μ st1 ids1 a w hag hst hops hcx=>?_) hdo (λc hc=>by rw [hop] at hc;cases hc) hk;rw [hop] at hops;have rx:=hops x (by simp [Op.operands]) _ hx;have hrun:(execOp a.eval o).run P w = .ok (.value (.bool (!b'))) w:=by
      simp only [execOp,hop];exact A7 (Xe hu hb rx).2
     rw [hrun];exact ⟨I,μ,hst,.imm _ _ (.bool _),Mu.le_refl μ,Ext.refl _ _ _ _⟩
    ·cases h
   ·cases h
  ·cases h
 ·cases h
noncomputable def Is (m:Md):Int×Int:=if (Gk m 0).1≠0 then Gk m 0 else if (Gk m 1).1≠0 then Gk m 1 else Gk m 2
theorem PD {p:Int×Int} (h:p.1=0):wO p = .niliface:=by
 obtain ⟨a,b⟩:=p;simp only at h;subst h;rfl
theorem K8 (m:Md) (j:Nat):(Gk m j).1=0\/(∃i,Gk m j=(1,i))\/(∃i,Gk m j=(2,i))\/Gk m j=(3,0):=by
 unfold Gk
 split
 ·split
  ·exact .inr (.inl ⟨_,rfl⟩)
  ·exact .inl rfl
 ·split
  ·split
   ·exact .inr (.inr (.inl ⟨_,rfl⟩))
   ·exact .inl rfl
  ·split
   ·exact .inl rfl
   ·exact .inr (.inr (.inr rfl))
theorem T9 (hm:OkM m) (hA:bF m):Tq3 97 [.agg (Du m)] (wO (Is m)):=by
 have hS:=G7 m 0;have hL:∀j:Nat,j<3->Tq3 152 [.ip 98 (Pv m) 0,.int .i64 j] (wO (Gk m j)):=λj hj=>by
  match j,hj with
  | 0,_=>exact gG hm.few hA
  | 1,_=>exact Z0 hm
  | 2,_=>exact gE m
 have hc:=K8 m;have hW:∀j:Nat,j<3->(∀i:Nat,i<j->(Gk m i).1=0)->(Gk m j).1≠0->Is m=Gk m j:=λj hj h1 h2=>by
  unfold Is
  match j,hj with
  | 0,_=>have h2:(Gk m 0).1≠0:=h2;rw [if_pos h2];rfl
  | 1,_=>have h2:(Gk m 1).1≠0:=h2;rw [if_neg (λh=>h (h1 0 (by omega))),if_pos h2];rfl
  | 2,_=>rw [if_neg (λh=>h (h1 0 (by omega))),if_neg (λh=>h (h1 1 (by omega)))];rfl
 have hN:(∀i:Nat,i<3->(Gk m i).1=0)->wO (Is m) = .niliface:=λh=>by
  unfold Is;rw [if_neg (λh'=>h' (h 0 (by omega))),if_neg (λh'=>h' (h 1 (by omega)))];exact PD (h 2 (by omega))
 clear hm hA;generalize Is m=R at *;have hS':Pv m=Du m++[.mapv [],.int .i64 0,.sl []]:=rfl;generalize Gk m=lk at *;obtain ⟨m1,m2,m3⟩:=m;refine AQ Ah func97 rfl [4,1,2,3,5]<|Ai rfl<|Ak (λj:Nat=>[(5,.imm (.int .i64 j)),(1,.ref 4 0)]) (λ_=>[(4,some (.immb 43 3 (Du ⟨m1,m2,m3⟩)))]) [1,2,3,5] (λj=>3-j)
  (λj=>j<=3/\∀i:Nat,i<j->(lk i).1=0) 0
  ⟨by omega,λi h=>by omega⟩ AD AC rfl λj hj ih=>?_
 obtain ⟨hj1,hj2⟩:=hj;refine Av rfl<|Aa rfl (λh=>?_) (λh=>?_)
 ·have hlt:j<3:=by simp at h;omega
  have hP:=hL j hlt;refine Av rfl<|Jf [1,2,3] [] [(1,1),(2,2),(3,3)] rfl hS trivial rfl rfl<|Ai rfl<|XC 2 rfl<|Bv 3 rfl<|XG 9 rfl rfl<|Av rfl<|Ad rfl hP ?_;have hcj:=hc j;have hWj:=hW j hlt hj2;clear hP hS hL hc hW hN;rcases hcj with hcj | hcj
  ·rw [PD hcj];refine Ai rfl<|Od rfl (by kernel_rfl)<|Ai rfl<|Aa rfl (λh=>by cases h) (λh=>?_);exact Av rfl<|Ae (ih (j+1) (by omega) ⟨by omega,λi hi=>if e:i=j then (e ▸ hcj) else hj2 i (by omega)⟩) ⟨M6,AC⟩ AC rfl
  ·rcases hcj with ⟨i,hi⟩ | ⟨i,hi⟩ | hi
   all_goals
    rw [hi] at hWj ⊢;rw [hWj (by simp)];refine Ai rfl<|Od rfl (by kernel_rfl)<|Ai rfl<|Aa rfl (λh=>?_) (λh=>by cases h);exact Av rfl<|Ab rfl rfl rfl
 ·have hlt:¬j<3:=by simp at h;omega
  obtain rfl:j=3:=by omega
  exact At rfl<|Av rfl<|Ag ⟨_,rfl,tV (hN hj2).symm,trivial⟩
theorem rE (i:Int):Tq3 341 [.agg [.int .i64 i]] (.tup [.int .i64 1,.int .i64 i])/\Tq3 342 [.agg [.int .i64 i]] (.tup [.int .i64 2,.int .i64 i])/\Tq3 343 [.agg []] (.tup [.int .i64 3,.int .i64 0]):=by
 refine ⟨?_,?_,?_⟩
 ·exact AQ Ah func341 rfl [1,2]<|yg [] rfl (by simp;rfl)<|Ab rfl rfl rfl
 ·exact AQ Ah func342 rfl [1,2]<|yg [] rfl (by simp;rfl)<|Ab rfl rfl rfl
 ·exact AQ Ah func343 rfl [1,2]<|Ai rfl<|Ab rfl rfl rfl
theorem L5 (m:Md):(Is m).1=0\/(∃i,Is m=(1,i))\/(∃i,Is m=(2,i))\/Is m=(3,0):=by
 unfold Is
 split
 ·exact K8 m 0
 ·split
  ·exact K8 m 1
  ·exact K8 m 2
theorem zc9 (hm:G3 m=true->OkM m/\bF m):Tq3 35 [.agg (Du m)] (if G3 m=true then (if (Is m).1=0 then .tup [.int .i64 0,.int .i64 0,FD 5] else .tup [.int .i64 (Is m).1,.int .i64 (Is m).2,FD 0]) else .tup [.int .i64 0,.int .i64 0,FD 2]):=by
 have hM:=FR m;obtain ⟨t1,t2,t3⟩:=rE (Is m).2;have hc:=L5 m;cases hb:G3 m with
 | false =>
  rw [if_neg (by simp)];rw [hb] at hM;clear t1 t2 t3 hc hm;obtain ⟨m1,m2,m3⟩:=m;exact AQ Ah func35 rfl [1,2]<|Ai rfl<|Ad rfl hM<|Ai rfl<|R6 rfl λh=>Av rfl<|Ab rfl rfl rfl
 | true =>
  rw [if_pos rfl];rw [hb] at hM;obtain ⟨h1,h2⟩:=hm hb;have hF:=T9 h1 h2;clear h1 h2 hm;generalize Is m=R at *;obtain ⟨m1,m2,m3⟩:=m;refine AQ Ah func35 rfl [1,2]<|Ai rfl<|Ad rfl hM<|Ai rfl<|R7 rfl λh=>Av rfl<|Ad rfl hF ?_;rcases hc with hc | hc
  ·rw [PD hc,if_pos hc];refine Ai rfl<|Od rfl (by kernel_rfl)<|Ai rfl<|Aa rfl (λh=>?_) (λh=>by cases h);exact Av rfl<|Ab rfl rfl rfl
  ·rcases hc with ⟨i,rfl⟩ | ⟨i,rfl⟩ | rfl
   ·rw [if_neg (by simp)];refine Ai rfl<|Od rfl (by kernel_rfl)<|Ai rfl<|Aa rfl (λh=>by cases h) (λh=>?_);exact Av rfl<|Vo 341 rfl (by kernel_rfl) (λ_=>t1) (by simp)<|Ai rfl<|Ab rfl rfl rfl
   ·rw [if_neg (by simp)];refine Ai rfl<|Od rfl (by kernel_rfl)<|Ai rfl<|Aa rfl (λh=>by cases h) (λh=>?_);exact Av rfl<|Vo 342 rfl (by kernel_rfl) (λ_=>t2) (by simp)<|Ai rfl<|Ab rfl rfl rfl
   ·rw [if_neg (by simp)];refine Ai rfl<|Od rfl (by kernel_rfl)<|Ai rfl<|Aa rfl (λh=>by cases h) (λh=>?_);exact Av rfl<|Vo 343 rfl (by kernel_rfl) (λ_=>t3) (by simp)<|Ai rfl<|Ab rfl rfl rfl
theorem Z1 {es:Array MapEntry} {seen:Array Nat} (h:(leftOf es seen).size=0) {e:MapEntry} (he:es[j]?=some e):seen.contains e.born=true:=by
 have h2:leftOf es seen = #[]:=Zj h;unfold leftOf at h2;rw [Array.filter_eq_empty_iff] at h2;have:=h2 e (Array.mem_of_getElem? he);simpa using this
noncomputable def Tx (L:List Ty):V:=if L.all (AV true)=true then .tup [.sl (dTys L),FD 0] else .tup [.sl [],FD 3]
theorem ZO (a b:Ty) (h:(AV true a&&AV true b)=true) (hE:Dk sX [] 0 [] a b T) (hs:Sol (BH T) θ) (hk:∀p∈T,0<=p.1/\p.1<100) :
  Tq3 13 [.agg (dTyc a),.agg (dTyc b)] (Tx (zdm T θ)):=by
 have hK:=Fz [a,b];simp only [Zi,LI,uL] at hK;rw [h] at hK;have hS:=Lq;have hH:=II func55 (by decide +kernel) rfl Fy func56 (by decide +kernel) rfl (df:=[]) (dc:=[.ref 4 0,.ref 5 0,.ref 6 0]) (Yn hE);obtain ⟨a1,a2,a3,a4⟩:=a;obtain ⟨b1,b2,b3,b4⟩:=b;refine AQ Ah func13 rfl [5,6,1,2,3,4,7,8,9,10,11]<|Ai rfl<|Ad rfl hK<|Ai rfl<|R7 rfl λh=>Av rfl<|Jf [1,2,3] [] [(1,1),(2,2),(3,3)] rfl hS trivial rfl rfl<|Ai rfl<|Jf [] [(1,1),(2,2),(3,3),(4,4),(5,5),(6,6)] [] rfl hH ⟨⟨rfl,rfl,rfl⟩,⟨rfl,rfl,rfl⟩,⟨rfl,rfl,rfl⟩,⟨rfl,rfl,rfl⟩,⟨rfl,rfl,rfl⟩,⟨rfl,rfl,rfl⟩,trivial⟩ rfl rfl ?_;clear hH;refine Ai rfl<|R7 rfl λh=>IL 2 rfl λbm es clock hes hst=>Av rfl<|oT Ah rfl<|Ai rfl ?_
 have hlen:es.size=T.length:=by simpa using hes
 refine Ak (λz:Array Nat×Int=>[(27,.iter 7),(8,.imm (.int .i64 z.2)),(6,.ref 4 0),(7,.nils)])
  (λz=>[(4,some (.cells 92 1 [.ref 1 0])),(1,some (eQ sX 0 2 3 0)),(2,some (.mapx (T.map jO) bm es clock)),(3,some (.row 25 4 [])),(7,some (.miter bm clock z.1 clock))]) [8,9,10,11]
  (λz=>(leftOf es z.1).size) (λz=>((z.2 = -1\/∃p∈T,p.1=z.2) /\ -1<=z.2/\z.2<100)/\∀(j:Nat) (e:MapEntry) (p:Int×Ty),es[j]?=some e->z.1.contains e.born=true->T[j]?=some p->p.1<=z.2) (#[],-1)
  ⟨⟨.inl rfl,by simp,by simp⟩,λj e p _ h=>by simp at h⟩ BJ BA rfl λz hz ih=>?_
 obtain ⟨seen,x⟩:=z;obtain ⟨⟨hz1,hz2,hz3⟩,hz4⟩:=hz;simp only at hz1 hz2 hz3 hz4;refine Av rfl<|tR 2 rfl rfl (λx hx=>hst.1 x hx) (BL _) (by decide) λz hz=>?_;rcases z with _ | ⟨j,e1⟩
 rotate_left
 ·obtain ⟨hy1,hy2⟩:=hz;obtain ⟨p,hp⟩:∃p,T[j]?=some p:=Am (by rw [<- hlen];exact (GH.1 hy1).1);have hkv:(T.map jO)[j]?=some (jO p):=by simp [hp]
  have hD:W3 (T.map jO) (some (j,e1)) = .imm (.tup [.bool true,.int .i64 p.1,.agg (dTyc p.2)]):=by simp only [W3,hkv,jO]
  rw [hD];refine Av rfl<|R6 rfl λh=>Av rfl<|oU 2 rfl rfl rfl rfl hy1 hkv<|Ai rfl ?_;have hsh:=left_shrinks es seen e1 hy2;have hpm:=AK hp;obtain ⟨k1,k2⟩:=hk p hpm;refine Ae (ih (seen.push e1.born,if p.1 > x then p.1 else x) hsh ⟨⟨?_,?_,?_⟩,λj' e' p' q1 q2 q3=>?_⟩) BJ BA rfl
  ·simp only;split
   ·exact .inr ⟨p,hpm,rfl⟩
   ·exact hz1
  ·simp only;split <;> omega
  ·simp only;split <;> omega
  ·simp only at q2 ⊢;rw [contains_push,Hv] at q2;rcases q2 with q2 | q2
   ·have:=hz4 j' e' p' q1 q2 q3
    split <;> omega
   ·have hb:e'.born=e1.born:=by simpa using q2
    have hjj:j'=j:=by
     have hnd:=hst.2.1;have g1:(es.toList.map (·.born))[j']?=some e'.born:=by simp [q1]
     have g2:(es.toList.map (·.born))[j]?=some e1.born:=by simp [hy1]
     rw [hb] at g1;exact (List.getElem?_inj (AO.1 g1).1 hnd).1 (g1.trans g2.symm)
    subst hjj;rw [q3] at hp;cases hp
    split <;> omega
 have hz:(leftOf es seen).size=0:=hz;have hmx:fQ T=x:=mO (λp hp=>by
  obtain ⟨j,hj⟩:=I4 hp;obtain ⟨e,he⟩:∃e,es[j]?=some e:=⟨_,P2 (by rw [hlen];exact (AO.1 hj).1)⟩
  exact hz4 j e p he (Z1 hz he) hj) hz1 (λp hp=>(hk p hp).1) hz2
 clear ih hz4 hz1;obtain ⟨N,hN⟩:∃N:Nat,x+1=N:=⟨(x+1).toNat,by omega⟩
 have hL:zdm T θ=(List.range N).map λi:Nat=>θ i:=by rw [zdm,hmx,hN,Int.toNat_natCast]
 rw [hL];have hN1:N<=100:=by omega
 refine Av rfl<|R7 rfl λh=>At rfl<|Hy 2 rfl<|Av rfl<|HX (e:=25) (sz:=4) 7 8 (by decide) rfl<|Ak (λj:Nat=>[(37,.imm (.int .i64 j)),(36,.imm (.int .i64 N)),(6,.ref 4 0),(7,.own 8 (dTys ((List.range j).map λi:Nat=>θ i)).length)])
  (λj=>[(4,some (.cells 92 1 [.ref 1 0])),(1,some (eQ sX 0 2 3 0)),(2,some (VR T)),(3,some (.row 25 4 [])),(8,some (.row 25 4 (dTys ((List.range j).map λi:Nat=>θ i))))]) [9,10,11]
  (λj=>N-j) (λj=>j<=N/\((List.range j).map λi:Nat=>θ i).all (AV true)=true) 0
  ⟨AF _,rfl⟩ ⟨rfl,A8 (by rw [BW (by omega) (by omega)];exact hN),AD⟩ BA rfl λj hj ih=>?_
 obtain ⟨hj1,hj2⟩:=hj;refine Av rfl<|Aa rfl (λh=>?_) (λh=>?_)
 ·have hlt:j<N:=by simp at h;omega
  have hH:=WU j;obtain ⟨w1,w2⟩:=zbh (m:=sX) (k:=0) (S:=[]) hs (t:=Ao j) rfl;rw [CV] at w1 w2;have hC:=Fz [θ j];simp only [Zi,LI,uL] at hC;have hall:∀f,AV true (θ j)=f->((List.range N).map λi:Nat=>θ i).all (AV true)=true->f=true:=λf hf h=>by
   rw [<- hf];exact Eo.1 h _ (Cc.2 ⟨j,QL.2 hlt,rfl⟩)
  have hnx:(List.range (j+1)).map (λi:Nat=>θ i)=((List.range j).map λi:Nat=>θ i)++[θ j]:=by rw [NU,CL];rfl
  refine Av rfl<|Ad rfl hH<|Ai rfl ?_;generalize hu:θ (j:Int)=u at w1 w2 hC hall hnx;by_cases hsz:DH u<=12
  ·have hW:=w1 hsz;generalize hfo:AV true u=fo at hC;have hfo':=hall fo hfo;obtain ⟨t1,t2,t3,t4⟩:=u;refine A4 [(1,1),(2,2),(3,3)] [] [1,2,3] (fr:=[]) (nm:=[]) rfl trivial (by simp) hW Ax rfl Ec rfl rfl rfl<|yg [] rfl (by simp;rfl)<|Ce rfl hC<|CW rfl ?_;cases fo with
   | false =>
    refine R6 rfl λh=>Av rfl<|Ab rfl rfl ?_;rw [Tx,if_neg (λh=>by cases hfo' h)];rfl
   | true =>
    refine R7 rfl λh=>Av rfl<|Bn Ah rfl ⟨by simp,by simp [maxLen];omega,by simp;omega,trivial⟩<|Ai rfl<|Bo 8 10 rfl ?_;have et:dTys ((List.range (j+1)).map λi:Nat=>θ i)=dTys ((List.range j).map λi:Nat=>θ i)++[dTyc (.mk t1 t2 t3 t4)]:=by rw [hnx,E4];rfl
    refine Ae (ih (j+1) (by omega) ⟨by omega,?_⟩) ⟨M6,rfl,rfl,by rw [et];rfl,trivial⟩ ⟨rfl,rfl,rfl,rfl,by rw [et];rfl,trivial⟩ rfl;rw [hnx,Ii,hj2];simpa using hfo
  ·have hW:=w2 (by omega);have hno:AV true u=false:=by
    cases hf:AV true u with
    | false=>rfl
    | true=>exact absurd (iI hf) hsz
   have hfo':=hall false hno;refine A4 [(1,1),(2,2),(3,3)] [] [] (fr:=[]) (nm:=[1,2,3]) rfl trivial (by simp) hW Ax rfl trivial rfl rfl rfl<|yg [] rfl (by simp [Ap];rfl)<|Aj (v:=.bool false) rfl (λhc=>by simp [Ap] at hc) (by simp [Ap])<|CW rfl<|R6 rfl λh=>Av rfl<|Ab rfl rfl ?_;rw [Tx,if_neg (λh=>by cases hfo' h)];rfl
 ·have hlt:j=N:=by simp at h;omega
  subst hlt;refine At rfl<|Bv 8 rfl<|Av rfl<|Ab rfl rfl ?_;rw [Tx,if_pos hj2];rfl
theorem YS {op n:Int} {k:Nat} (h:B0 op n x k p=true):p<=5:=by
 unfold B0 at h;by_cases e0:op=1
 ·rw [if_pos e0] at h;simp [Bq,D4] at h;omega
 rw [if_neg e0] at h;by_cases e1:op=2
 ·rw [if_pos e1] at h;simp [Bq,D4] at h;omega
 rw [if_neg e1] at h;by_cases e2:op=3\/op=21\/op=25\/op=28
 ·rw [if_pos e2] at h;simp [Bq,D4] at h;omega
 rw [if_neg e2] at h;by_cases e3:op=4
 ·rw [if_pos e3] at h;simp [Bq,D4] at h;omega
 rw [if_neg e3] at h;by_cases e4:op=5\/op=27
 ·rw [if_pos e4] at h;simp [Bq,D4] at h;omega
 rw [if_neg e4] at h;by_cases e5:op=7
 ·rw [if_pos e5] at h;simp [Bq,D4] at h;omega
 rw [if_neg e5] at h;by_cases e6:op=8
 ·rw [if_pos e6] at h;simp [Bq,D4] at h;omega
 rw [if_neg e6] at h;by_cases e7:op=14
 ·rw [if_pos e7] at h;simp [Bq,D4] at h;omega
 rw [if_neg e7] at h;by_cases e8:op=15
 ·rw [if_pos e8] at h;simp [Bq,D4] at h;omega
 rw [if_neg e8] at h;by_cases e9:op=16\/op=17\/op=19\/op=20\/op=23\/op=26
 ·rw [if_pos e9] at h;simp [Bq,D4] at h;omega
 rw [if_neg e9] at h;by_cases e10:op=24
 ·rw [if_pos e10] at h;simp [Bq,D4] at h;omega
 rw [if_neg e10] at h;by_cases e11:op=6\/op=9\/op=10\/op=11\/op=12\/op=13\/op=18\/op=22
 ·rw [if_pos e11] at h;simp [Bq,D4] at h;omega
 rw [if_neg e11] at h;cases h
theorem Ta:∀{l:List Ty},l.all Gg=true->CX l<=12*l.length
 | [],_=>by simp [CX]
 | t::r,h=>by
  simp only [Zi,A2] at h;have h1:=h.1;simp only [Gg,A2,decide_eq_true_eq] at h1;have h2:=Fa t 12 h1.1.1;rw [Q7] at h2;have h3:=Ta h.2;simp only [CX,Cq];omega
mutual
theorem bM:∀(t:Tm) (l d:Int),0<=B1 t l d->Cb t=true->(H8 t:Int)<=61*(l-B1 t l d)
 | .mk op n x ks ps,l,d,h,hn=>by
  simp only [B1] at h ⊢;by_cases e:l<1\/d<1
  ·rw [if_pos e] at h;omega
  ·rw [if_neg e] at h ⊢;simp only [Cb,A2] at hn;have h1:=VJ ks (l-1) (d-1) h hn.2;have h2:=YS hn.1.1;have h3:=Ta hn.1.2;simp only [H8];omega
theorem VJ:∀(ts:List Tm) (l d:Int),0<=BT ts l d->CY ts=true->(BY ts:Int)<=61*(l-BT ts l d)
 | [],l,d,h,_=>by simp [BY,BT]
 | t::r,l,d,h,hn=>by
  simp only [BT] at h ⊢;by_cases e:0<=l
  ·rw [if_pos e] at h ⊢;simp only [CY,A2] at hn;have h0:0<=B1 t l d:=by
    by_cases e2:0<=B1 t l d
    ·exact e2
    ·have:=(JD r (B1 t l d) d (Hl t l d).1).2;omega
   have h1:=bM t l d h0 hn.1;have h2:=VJ r (B1 t l d) d h hn.2;simp only [BY];omega
  ·rw [if_neg e] at h;omega
end
theorem eM (h:O5 t=true):Cb t=true/\H8 t<=100000:=by
 simp only [O5,A2,decide_eq_true_eq] at h;have h1:=bM t 60 14 h.1 h.2;exact ⟨h.2,by omega⟩
theorem PY {t:Ty} (h:Fp t=true):CO t=[]/\C9 t=true:=by
 simp only [Fp,A2] at h;have:=Ml t h.2;exact ⟨this.2.2 rfl,this.1⟩
theorem YX (h:D6 m=true):OkM m/\bF m:=by
 simp only [D6,A2,decide_eq_true_eq,D4] at h;obtain ⟨⟨⟨⟨h1,h2⟩,h3⟩,h4⟩,h5⟩:=h;have hf:∀f∈m.funs,MW f=true:=Eo.1 h5;have hd:∀d∈m.datas,H2 d=true:=Eo.1 h4;have hc:∀d∈m.datas,d.cons.length<=5/\∀c∈d.cons,LW c=true:=λd hd'=>by
  have:=hd d hd';simp only [H2,A2,decide_eq_true_eq,D4] at this;exact ⟨by omega,Eo.1 this.2⟩
 have ha:∀d∈m.datas,∀c∈d.cons,c.args.length<=3/\∀t∈c.args,Fp t=true:=λd hd' c hc'=>by
  have:=(hc d hd').2 c hc';simp only [LW,A2,decide_eq_true_eq] at this;exact ⟨by omega,Eo.1 this.2⟩
 refine ⟨⟨⟨by omega,by omega,λd hd'=>by have:=(hc d hd').1;omega⟩,⟨λf hf'=>?_,λd hd' c hc' t ht=>PY ((ha d hd' c hc').2 t ht)⟩,λf hf'=>?_⟩,λd hd' c hc'=>by have:=(ha d hd' c hc').1;omega⟩
 ·have:=hf f hf';simp only [MW,A2] at this;obtain ⟨a1,a2⟩:=PY this.1.1.2;obtain ⟨b1,b2⟩:=PY this.1.2;exact ⟨by simp [Be,CO,DK,a1,b1],by simp [Be,C9,Gw,a2,b2]⟩
 ·have:=hf f hf';simp only [MW,A2] at this;exact eM this.2
mutual
theorem xO (m:Md) {b:Bool}:∀t:Ty,CP b t=true->(GD t).all (NP m)=JR m t
 | .mk s n x ps,h=>by
  simp only [CP,A2] at h;simp only [GD,Zi,JR,PK m ps h.2];by_cases e:s=8
  ·subst e;have hp:ps=[]:=by
    have:=h.1;simp [C3] at this;exact this.1.1
   subst hp;simp [NP,BQ,Lf,Fw]
  ·rw [if_neg e];simp [NP,BQ,e]
theorem PK (m:Md) {b:Bool}:∀l:List Ty,Ck b l=true->(CG l).all (NP m)=Fw m l
 | [],_=>rfl
 | t::r,h=>by
  simp only [Ck,A2] at h;simp only [CG,Ii,Fw,xO m t h.1,PK m r h.2]
end
theorem SR {b:Bool}:∀{l:List Ty},(∀t∈l,CP b t=true)->Ck b l=true
 | [],_=>rfl
 | t::r,h=>by simp only [Ck,A2];exact ⟨h t (by simp),SR λu hu=>h u (by simp [hu])⟩
theorem oN {l:List Str}:BS (Ke l x) y=(BS l y||x == y):=by
 unfold Ke;split
 ·rename_i h;by_cases e:x=y
  ·subst e;simp [h]
  ·simp [e]
 ·rw [Ki];simp [BS]
theorem XL (m:Md) (cs:List Cd) (b:Bool) (met:List Str):∀j,j<=cs.length ->
  ((cs.take j).foldl (iR m) (b,met)).1=(b && !((List.range j).any λk=>match cs[k]? with | some c=>BS (met++(cs.take k).map (λc:Cd=>c.name)) c.name | none=>false)&&(cs.take j).all λc=>(CG c.args).all (NP m)) /\
   ∀s,BS ((cs.take j).foldl (iR m) (b,met)).2 s=BS (met++(cs.take j).map (λc:Cd=>c.name)) s
 | 0,_=>by simp
 | j+1,h=>by
  obtain ⟨h1,h2⟩:=XL m cs b met j (by omega);obtain ⟨c,hc⟩:=Am (l:=cs) (i:=j) (by omega);rw [Bk hc,NB,OO,zb4,NU,DU];simp only [iR,h1,h2,Zh,List.any_nil,hc,Bool.or_false,Ii,Zi,LI,uL,oN,CL,Cv,FB];refine ⟨?_,λs=>?_⟩
  ·generalize (List.range j).any _=o1;generalize BS _ c.name=o2;generalize (cs.take j).all _=o3;generalize (CG c.args).all _=o4;cases b <;> cases o1 <;> cases o2 <;> cases o3 <;> cases o4 <;> rfl
  ·rw [<- Cl,Ki _ [c.name]];simp [BS]
theorem yJ (hm:D6 m=true) {d:Dt} (hd:m.datas[i]?=some d) {met:List Str} (hmet:∀s,BS met s=BS (Pf (m.datas.take i)) s) :
  (Sx m i d met).1 = !Mc m i/\∀s,BS (Sx m i d met).2 s=BS (Pf (m.datas.take (i+1))) s:=by
 obtain ⟨h1,h2⟩:=XL m d.cons (!((m.datas.take i).any λe=>e.name == d.name)) met d.cons.length (BL _);rw [E0] at h1 h2;have hw:∀c∈d.cons,Ck false c.args=true:=λc hc=>by
  simp only [D6,A2] at hm;have:=Eo.1 hm.1.2 d (AK hd);simp only [H2,A2] at this;have:=Eo.1 this.2 c hc;simp only [LW,A2] at this;refine SR λt ht=>?_;have:=Eo.1 this.2 t ht;simp only [Fp,A2] at this;exact this.2
 have e1:(d.cons.all λc=>(CG c.args).all (NP m)) = !d.cons.any λc=>!Fw m c.args:=by
  have:∀l:List Cd,(∀c∈l,(CG c.args).all (NP m)=Fw m c.args)->(l.all λc=>(CG c.args).all (NP m)) = !l.any λc=>!Fw m c.args:=λl=>by
   induction l with
   | nil=>intro _;rfl
   | cons c r ih =>
    intro h;simp only [Zi,Zh,ih λx hx=>h x (by simp [hx]),h c (by simp)];cases Fw m c.args <;> simp
  exact this _ λc hc=>PK m c.args (hw c hc)
 have e2:∀k:Nat,(match d.cons[k]? with | some c=>BS (met++(d.cons.take k).map (λc:Cd=>c.name)) c.name | none=>false)=(match d.cons[k]? with | some c=>BS (Pf (m.datas.take i)++(d.cons.take k).map (λc:Cd=>c.name)) c.name | none=>false):=λk=>by
  cases d.cons[k]? with
  | none=>rfl
  | some c=>simp only [Ki,hmet]
 refine ⟨?_,λs=>?_⟩
 ·unfold Sx;rw [h1,e1];simp only [e2,Mc,Yp,hd];generalize (List.range d.cons.length).any _=o1;generalize (m.datas.take i).any _=o2;generalize d.cons.any _=o3;cases o1 <;> cases o2 <;> cases o3 <;> rfl
 ·unfold Sx;rw [h2,Ki,hmet,Bk hd];simp only [Pf,CL,Zu,Cv,FB,JT,List.flatten_nil,HP,Ki]
theorem dL {m:Md} (hm:D6 m=true):∀(n i:Nat) (met:List Str),i+n=m.datas.length->(∀s,BS met s=BS (Pf (m.datas.take i)) s)->P9 m i n met=GX (Mc m) i n
 | 0,_,_,_,_=>rfl
 | n+1,i,met,h,hmet=>by
  obtain ⟨d,hd⟩:=Am (l:=m.datas) (i:=i) (by omega);obtain ⟨h1,h2⟩:=yJ hm hd hmet;rw [P9,GX,hd];simp only [h1];cases Mc m i with
  | true=>rfl
  | false =>
   simp only [mW,if_true,E1,if_false];exact dL hm n (i+1) _ (by omega) h2
theorem Yl (hm:D6 m=true):Is m=RW m:=by
 have e0:P9 m 0 m.datas.length []=GX (Mc m) 0 m.datas.length:=dL hm _ 0 [] (by omega) λs=>by simp [Pf]
 have e1:Sp m=N6 m:=funext λi=>by
  unfold Sp N6;cases hf:m.funs[i]? with
  | none=>rfl
  | some f =>
   simp only;have hw:Ck false [f.from_,f.to_]=true:=by
    simp only [D6,A2] at hm;have:=Eo.1 hm.2 f (AK hf);simp only [MW,Fp,A2] at this;simp [Ck,this.1.1.2.2,this.1.2.2]
   have:=PK m _ hw;rw [this];simp only [Fw,uL];generalize (m.funs.take i).any _=o1;generalize JR m f.from_=o2;generalize JR m f.to_=o3;generalize Io m f=o4;cases o1 <;> cases o2 <;> cases o3 <;> cases o4 <;> rfl
 have l0:Gk m 0=(match P9 m 0 m.datas.length [] with | some i=>(1,(i:Int)) | none=>(0,0)):=rfl;have l1:Gk m 1=(match GX (Sp m) 0 m.funs.length with | some i=>(2,(i:Int)) | none=>(0,0)):=rfl;have l2:Gk m 2=if WC m=true then (0,0) else (3,0):=rfl
 unfold Is RW;rw [l0,l1,l2,e0,e1];cases GX (Mc m) 0 m.datas.length with
 | some i=>simp
 | none =>
  cases GX (N6 m) 0 m.funs.length with
  | some i=>simp
  | none=>simp
theorem QW (σ:Sb):∀H,(∀i:Nat,i<H->(σ (i:Int)).isSome=true->i+1<=MF σ H)/\(MF σ H=0\/∃i:Nat,i<H/\MF σ H=i+1/\(σ (i:Int)).isSome=true)
 | 0=>⟨λi h=>by omega,.inl rfl⟩
 | H+1=>by
  obtain ⟨h1,h2⟩:=QW σ H;simp only [MF]
  split
  ·rename_i hs;exact ⟨λi hi _=>by omega,.inr ⟨H,by omega,rfl,hs⟩⟩
  ·rename_i hs;refine ⟨λi hi his=>?_,h2.imp id λ⟨i,a,b,c⟩=>⟨i,by omega,b,c⟩⟩;by_cases e:i=H
   ·subst e;exact absurd his hs
   ·exact h1 i (by omega) his
theorem U2 {n:Int}:(BH T n).isSome=true↔∃p∈T,p.1=n:=by
 induction T with
 | nil=>simp [BH]
 | cons p r ih =>
  simp only [BH]
  split
  ·rename_i h;simp [h]
  ·rename_i h;simp [h,ih]
theorem mN {H:Nat} (h:∀p∈T,0<=p.1/\p.1<H):fQ T=(MF (BH T) H:Int)-1:=by
 obtain ⟨h1,h2⟩:=QW (BH T) H;refine mO (λp hp=>?_) ?_ (λp hp=>(h p hp).1) (by omega)
 ·obtain ⟨a,b⟩:=h p hp;have:=h1 p.1.toNat (by omega) (U2.2 ⟨p,hp,by omega⟩)
  omega
 ·rcases h2 with h2 | ⟨i,a,b,c⟩
  ·left;omega
  ·right;obtain ⟨p,hp,e⟩:=U2.1 c;exact ⟨p,hp,by omega⟩
noncomputable def nR (H:Nat):Option Sb->V
 | some σ=>Tx (zdn σ H)
 | none=>.tup [.sl [],FD 7]
mutual
theorem O9 {b:Bool}:∀t:Ty,CP b t=true->Uy t=true
 | .mk s n x ps,h=>by
  simp only [CP,A2] at h;obtain ⟨h1,h2,h3,h4⟩:=bP h.1;simp only [Uy,Mk ps h.2,uL,Hv,A2,decide_eq_true_eq,bne_iff_ne];by_cases e:s=9
  ·right;have:=h3 e;omega
  ·exact .inl e
theorem Mk {b:Bool}:∀l:List Ty,Ck b l=true->PH l=true
 | [],_=>rfl
 | t::r,h=>by
  simp only [Ck,A2] at h;simp only [PH,O9 t h.1,Mk r h.2,Bool.and_self]
end
theorem MY {t:Ty} (h:AV true t=true):C9 t=true/\inB 100 t/\Uy t=true:=by
 simp only [AV,A2] at h;have:=Ml t h.2;exact ⟨this.1,this.2.1,O9 t h.2⟩
theorem gX {a b:Ty} (h:(AV true a&&AV true b)=true) {r:Option Sb} (hE:Ox n (λ_=>none) a b r) {H:Nat} (hH:H<=100) (ha:inB H a) (hb:inB H b) :
  Tq3 13 [.agg (dTyc a),.agg (dTyc b)] (nR H r):=by
 have hf:=h;simp only [A2] at hf;obtain ⟨wa,_,_⟩:=MY hf.1;obtain ⟨wb,_,_⟩:=MY hf.2;have h0:Dom (H:Int) (BH []):=λn t h=>(nomatch h)
 have hs0:Sol (BH []) Ao:=Sol.mk (λn t h=>nomatch h) (λn h=>rfl) (λn t h=>nomatch h) (λn t h=>nomatch h);have hG:=dJ sX 0 [] (H:=H) n [] a b r hE ⟨Ao,hs0⟩ h0 wa wb ha hb;have hU:=Ru (H:=H) hE hs0 h0 wa wb ha hb;cases r with
 | none=>exact gW a b h hG
 | some σ' =>
  obtain ⟨T',hK,rfl⟩:=hG;obtain ⟨⟨θ,hθ⟩,hD,_⟩:=hU;have hk:∀p∈T',0<=p.1/\p.1<(H:Int):=λp hp=>by
   obtain ⟨t,ht⟩:=NA.1 (U2.2 ⟨p,hp,rfl⟩);exact (hD _ _ ht).1
  have hY:=ZO a b h hK hθ λp hp=>by have:=hk p hp;omega
  have e:zdm T' θ=zdn (BH T') H:=by
   rw [zdm,zdn,mN hk,Us hθ];congr 2;omega
  rw [e] at hY;exact hY
def zA:Str:=[109,111,100,117,108,101,32,109,32,123,32,116,121,112,101,32,76,105,115,116,32,61,32,78,105,108,32,124,32,67,111,110,115,40,105,110,116,44,32,76,105,115,116,41,59,32,102,117,110,32,115,117,109,40,108,32,58,32,76,105,115,116,41,32,58,32,105,110,116,32,61,32,109,97,116,99,104,32,108,32,123,32,78,105,108,32,45,62,32,48,32,124,32,67,111,110,115,40,120,44,32,114,41,32,45,62,32,120,32,43,32,115,117,109,32,114,32,125,59,32,102,117,110,32,109,97,105,110,40,117,32,58,32,117,110,105,116,41,32,58,32,105,110,116,32,61,32,108,101,116,32,99,32,61,32,99,101,108,108,40,78,105,108,41,32,105,110,32,108,101,116,32,120,32,61,32,112,117,116,40,99,44,32,67,111,110,115,40,105,110,112,117,116,44,32,103,101,116,40,99,41,41,41,32,105,110,32,111,117,116,40,49,44,32,115,117,109,32,40,103,101,116,40,99,41,41,41,59,32,125]
def zD:Str:=[102,117,110,32,102,32,61,62,32,102,32,49]
def zC:Str:=[102,117,110,32,120,32,61,62,32,120,32,120]
def zB:Str:=[115,117,109]
def Cr:Str:=[76,105,115,116]
def bL (s:Str):List Tok:=(Iu 200 s (EO s 0)).getD []
def sumK:Fd:=⟨[115,117,109],[108],Bx Cr,AU,(.mk 15 0 [] [(.mk 4 0 [108] [] []),(.mk 1 0 [] [] []),(.mk 9 0 [] [(.mk 4 0 [120] [] []),(.mk 6 0 [] [(.mk 4 0 [115,117,109] [] []),(.mk 4 0 [114] [] [])] [])] [])] [.mk 6 0 [78,105,108] [],.mk 6 0 [67,111,110,115] [.mk 2 0 [120] [],.mk 2 0 [114] []]])⟩
def mainK:Fd:=⟨[109,97,105,110],[117],Dm,AU,(.mk 7 0 [99] [(.mk 16 0 [] [(.mk 14 0 [78,105,108] [] [])] []),(.mk 7 0 [120] [(.mk 18 0 [] [(.mk 4 0 [99] [] []),(.mk 14 0 [67,111,110,115] [(.mk 25 0 [] [] []),(.mk 17 0 [] [(.mk 4 0 [99] [] [])] [])] [])] []),(.mk 24 1 [] [(.mk 6 0 [] [(.mk 4 0 [115,117,109] [] []),(.mk 17 0 [] [(.mk 4 0 [99] [] [])] [])] [])] [])] [])] [])⟩
def mK:Md:=⟨[109],[⟨Cr,[⟨[78,105,108],[]⟩,⟨[67,111,110,115],[AU,Bx Cr]⟩]⟩],[sumK,mainK]⟩
def yY:Tm:=(.mk 5 0 [102] [(.mk 6 0 [] [(.mk 4 0 [102] [] []),(.mk 1 1 [] [] [])] [])] [])
def Ve:Tm:=(.mk 5 0 [120] [(.mk 6 0 [] [(.mk 4 0 [120] [] []),(.mk 4 0 [120] [] [])] [])] [])
def yX:Tm:=(.mk 4 0 [115,117,109] [] [])
theorem YW:Tq3 51 [] (.agg (Du mK)):=by
 have hP:=RS (s:=zA) (l:=bL zA) (g:=200) (f:=60) (t:=mK) (of_decide_eq_true (by kernel_rfl)) (by decide) (by kernel_rfl) (of_decide_eq_true (by kernel_rfl)) (by decide) (by kernel_rfl) (by kernel_rfl);exact AQ AJ func51 rfl [1,2]<|Aq rfl<|Ad rfl hP<|Aq rfl<|Ab rfl rfl rfl
theorem Qj {s:Str} (h:Tq3 111 [.str s] (.tup [.agg (Al t),.int .i64 0])):Tq3 52 [.str s] (.agg (Al t)):=by
 obtain ⟨t1,t2,t3,t4,t5⟩:=t;exact AQ AJ func52 rfl [1,2]<|Aq rfl<|Ad rfl h<|Aq rfl<|Ab rfl rfl rfl
theorem wY:Tq3 52 [.str zD] (.agg (Al yY)):=Qj (Jy (l:=bL zD) (g:=200) (f:=60) (of_decide_eq_true (by kernel_rfl)) (by decide) (by kernel_rfl) (of_decide_eq_true (by kernel_rfl)) (by decide) (by kernel_rfl) (by kernel_rfl))
theorem wX:Tq3 52 [.str zC] (.agg (Al Ve)):=Qj (Jy (l:=bL zC) (g:=200) (f:=60) (of_decide_eq_true (by kernel_rfl)) (by decide) (by kernel_rfl) (of_decide_eq_true (by kernel_rfl)) (by decide) (by kernel_rfl) (by kernel_rfl))
theorem wV:Tq3 52 [.str zB] (.agg (Al yX)):=Qj (Jy (l:=bL zB) (g:=200) (f:=60) (of_decide_eq_true (by kernel_rfl)) (by decide) (by kernel_rfl) (of_decide_eq_true (by kernel_rfl)) (by decide) (by kernel_rfl) (by kernel_rfl))
theorem Yy {op:Int} {K:List (Au×Ty)} (h:Bp m Γ op x ps K τ S) (h13:op≠13):S=[]:=by
 unfold Bp at h;by_cases e0:op=1\/op=25
 ·rw [if_pos e0] at h;exact h.2.2
 rw [if_neg e0] at h;by_cases e1:op=2
 ·rw [if_pos e1] at h;exact h.2.2
 rw [if_neg e1] at h;by_cases e2:op=3\/op=28
 ·rw [if_pos e2] at h;exact h.2.2
 rw [if_neg e2] at h;by_cases e3:op=4
 ·rw [if_pos e3] at h;exact h.2.2
 rw [if_neg e3] at h;by_cases e4:op=5
 ·rw [if_pos e4] at h;obtain ⟨_,_,h⟩:=h;exact h.2.2
 rw [if_neg e4] at h;by_cases e5:op=6
 ·rw [if_pos e5] at h;obtain ⟨_,h⟩:=h;exact h.2
 rw [if_neg e5] at h;by_cases e6:op=7
 ·rw [if_pos e6] at h;obtain ⟨_,h⟩:=h;exact h.2
 rw [if_neg e6] at h;by_cases e7:op=8
 ·rw [if_pos e7] at h;exact h.2
 rw [if_neg e7] at h;by_cases e8:op=9\/op=10\/op=11
 ·rw [if_pos e8] at h;exact h.2.2
 rw [if_neg e8] at h;by_cases e9:op=12
 ·rw [if_pos e9] at h;exact h.2.2
 rw [if_neg e9] at h;by_cases e10:op=13
 ·rw [if_pos e10] at h;exact absurd e10 h13
 rw [if_neg e10] at h;by_cases e11:op=14
 ·rw [if_pos e11] at h;obtain ⟨_,_,h⟩:=h;exact h.2.2.2
 rw [if_neg e11] at h;by_cases e12:op=15
 ·rw [if_pos e12] at h;obtain ⟨_,_,h⟩:=h;exact h.2.2
 rw [if_neg e12] at h;by_cases e13:op=16
 ·rw [if_pos e13] at h;obtain ⟨_,h⟩:=h;exact h.2.2
 rw [if_neg e13] at h;by_cases e14:op=17
 ·rw [if_pos e14] at h;exact h.2
 rw [if_neg e14] at h;by_cases e15:op=18
 ·rw [if_pos e15] at h;obtain ⟨_,h⟩:=h;exact h.2.2
 rw [if_neg e15] at h;by_cases e16:op=19
 ·rw [if_pos e16] at h;obtain ⟨_,h⟩:=h;exact h.2.2
 rw [if_neg e16] at h;by_cases e17:op=20
 ·rw [if_pos e17] at h;exact h.2
 rw [if_neg e17] at h;by_cases e18:op=21
 ·rw [if_pos e18] at h;obtain ⟨_,h⟩:=h;exact h.2.2
 rw [if_neg e18] at h;by_cases e19:op=22
 ·rw [if_pos e19] at h;obtain ⟨_,h⟩:=h;exact h.2.2
 rw [if_neg e19] at h;by_cases e20:op=23
 ·rw [if_pos e20] at h;exact h.2
 rw [if_neg e20] at h;by_cases e21:op=24
 ·rw [if_pos e21] at h;exact h.2.2
 rw [if_neg e21] at h;by_cases e22:op=26
 ·rw [if_pos e22] at h;exact h.2.2
 rw [if_neg e22] at h;by_cases e23:op=27
 ·rw [if_pos e23] at h;exact h.2
 rw [if_neg e23] at h;exact h.elim
mutual
theorem KC {m:Md}:∀(t:Tm) (Γ:Au) (τ:Ty) (S:List Ty),OZ 13 t=false->CC m t Γ τ S->S=[]
 | .mk op n x ks ps,Γ,τ,S,hd,⟨K,S1,S2,h1,h2,h3⟩=>by
  simp only [OZ,QP,beq_eq_false_iff_ne] at hd;rw [h3,Rl ks K S1 hd.2 h2,Yy h1 hd.1];rfl
theorem Rl {m:Md}:∀(ts:List Tm) (K:List (Au×Ty)) (S:List Ty),LU 13 ts=false->Dc m ts K S->S=[]
 | [],[],S,_,hp=>hp
 | t::ts,k::ks,S,hd,⟨S1,S2,h1,h2,h3⟩=>by
  simp only [LU,QP] at hd;rw [h3,KC t k.1 k.2 S1 hd.1 h1,Rl ts ks S2 hd.2 h2];rfl
 | [],_::_,_,_,hp=>hp.elim
 | _::_,[],_,_,hp=>hp.elim
end
theorem wZ (h:CC mK yY [] τ S):∃b,τ=Be (Be AU b) b/\S=[]:=by
 have hS:=KC yY [] τ S (by decide) h;obtain ⟨K,S1,S2,h1,h2,_⟩:=h;have h1:∃a b,K=[([]++[([102],a)],b)]/\τ=Be a b/\S2=[]:=by simpa [Bp] using h1
 obtain ⟨a,b,rfl,rfl,_⟩:=h1;obtain ⟨S3,_,⟨K,S4,S5,h3,h4,_⟩,_,_⟩:=h2;have h3:∃c,K=[([]++[([102],a)],Be c b),([]++[([102],a)],c)]/\S5=[]:=by simpa [Bp] using h3
 obtain ⟨c,rfl,_⟩:=h3;obtain ⟨_,_,⟨_,_,_,h5,_,_⟩,⟨_,_,⟨_,_,_,h6,_,_⟩,_,_⟩,_⟩:=h4;have h5:a=Be c b:=by
  simp [Bp,CM,LP] at h5;exact h5.2.1
 have h6:c=AU:=by
  simp [Bp] at h6;exact h6.2.1
 subst h6;subst h5;exact ⟨b,rfl,hS⟩
theorem bN (b:Ty):CC mK yY [] (Be (Be AU b) b) [] :=
 ⟨[([]++[([102],Be AU b)],b)],[],[],(by simp [Bp];exact ⟨_,_,⟨rfl,rfl⟩,rfl⟩),⟨[],[],⟨[([]++[([102],Be AU b)],Be AU b),([]++[([102],Be AU b)],AU)],[],[],by simp [Bp],
  ⟨[],[],⟨[],[],[],by simp [Bp,CM,LP],rfl,rfl⟩,⟨[],[],⟨[],[],[],by simp [Bp],rfl,rfl⟩,rfl,rfl⟩,rfl⟩,rfl⟩,rfl,rfl⟩,rfl⟩
theorem rH:¬CC mK Ve [] τ S:=by
 rintro ⟨K,S1,S2,h1,h2,_⟩;have h1:∃a b,K=[([]++[([120],a)],b)]/\τ=Be a b/\S2=[]:=by simpa [Bp] using h1
 obtain ⟨a,b,rfl,rfl,_⟩:=h1;obtain ⟨S3,_,⟨K,S4,S5,h3,h4,_⟩,_,_⟩:=h2;have h3:∃c,K=[([]++[([120],a)],Be c b),([]++[([120],a)],c)]/\S5=[]:=by simpa [Bp] using h3
 obtain ⟨c,rfl,_⟩:=h3;obtain ⟨_,_,⟨_,_,_,h5,_,_⟩,⟨_,_,⟨_,_,_,h6,_,_⟩,_,_⟩,_⟩:=h4;have h5:a=Be c b:=by
  simp [Bp,CM,LP] at h5;exact h5.2.1
 have h6:a=c:=by
  simp [Bp,CM,LP] at h6;exact h6.2.1
 have:=congrArg DH (h6.symm.trans h5);simp only [Be,DH,CX] at this;omega
theorem wW (h:CC mK yX [] τ S):τ=Be (Bx Cr) AU/\S=[]:=by
 have hS:=KC yX [] τ S (by decide) h;obtain ⟨K,S1,S2,h1,h2,_⟩:=h;have h1:K=[]/\Be (Bx Cr) AU=τ/\S2=[]:=by simpa [Bp,CM,LP,mK,MV,sumK] using h1
 exact ⟨h1.2.1.symm,hS⟩
theorem rG:CC mK yX [] (Be (Bx Cr) AU) [] :=
 ⟨[],[],[],by simp [Bp,CM,LP,mK,MV,sumK],rfl,rfl⟩
theorem kO:CC mK sumK.body [(sumK.param,sumK.from_)] sumK.to_ []:=by
 have p1:IQ mK (.mk 6 0 [78,105,108] []) (Bx Cr) [([108],Bx Cr)] [([108],Bx Cr)]:=by
  simp [IQ,Fj,Ju,mK];exact ⟨_,_,⟨rfl,rfl⟩,rfl,rfl,rfl⟩
 have p2:IQ mK (.mk 6 0 [67,111,110,115] [.mk 2 0 [120] [],.mk 2 0 [114] []]) (Bx Cr) [([108],Bx Cr)] [([108],Bx Cr),([120],AU),([114],Bx Cr)]:=by
  simp [IQ,Fj,Ju,mK];exact ⟨_,_,⟨rfl,rfl⟩,rfl,rfl,⟨_,rfl,⟨_,rfl,rfl⟩⟩⟩
 have rw:Nv mK (Bx Cr) [([108],Bx Cr)] [.mk 6 0 [78,105,108] [],.mk 6 0 [67,111,110,115] [.mk 2 0 [120] [],.mk 2 0 [114] []]] [[([108],Bx Cr)],[([108],Bx Cr),([120],AU),([114],Bx Cr)]] :=
  ⟨_,_,p1,⟨_,_,p2,rfl,rfl⟩,rfl⟩
 have hn:∀(Γ:Au) (x:Str) (τ:Ty),CM mK Γ x=some τ->CC mK (.mk 4 0 x [] []) Γ τ []:=λΓ x τ h=>⟨[],[],[],by simp [Bp,h],rfl,rfl⟩
 refine ⟨[([([108],Bx Cr)],Bx Cr),([([108],Bx Cr)],AU),([([108],Bx Cr),([120],AU),([114],Bx Cr)],AU)],[],[],?_,?_,rfl⟩
 ·show Bp mK _ 15 _ _ _ _ _;unfold Bp;exact ⟨_,_,rw,rfl,rfl⟩
 ·refine ⟨[],[],hn _ _ _ (by simp [CM,LP]),⟨[],[],⟨[],[],[],by simp [Bp,sumK],rfl,rfl⟩,⟨[],[],⟨[([([108],Bx Cr),([120],AU),([114],Bx Cr)],AU),([([108],Bx Cr),([120],AU),([114],Bx Cr)],AU)],[],[],by simp [Bp],?_,rfl⟩,rfl,rfl⟩,rfl⟩,rfl⟩;refine ⟨[],[],hn _ _ _ (by simp [CM,LP]),⟨[],[],⟨[([([108],Bx Cr),([120],AU),([114],Bx Cr)],Be (Bx Cr) AU),([([108],Bx Cr),([120],AU),([114],Bx Cr)],Bx Cr)],[],[],by simp [Bp],⟨[],[],hn _ _ _ (by simp [CM,LP,MV,mK,sumK]),⟨[],[],hn _ _ _ (by simp [CM,LP]),rfl,rfl⟩,rfl⟩,rfl⟩,rfl,rfl⟩,rfl⟩
theorem fT (S:List Ty):¬CC mK mainK.body [(mainK.param,mainK.from_)] mainK.to_ S:=by
 rintro ⟨K,S1,S2,h1,h2,_⟩;have h1:∃a,K=[([([117],Dm)],a),([([117],Dm)]++[([99],a)],AU)]/\S2=[]:=by simpa [Bp,mainK] using h1
 obtain ⟨a,rfl,_⟩:=h1;obtain ⟨_,_,_,⟨_,_,⟨K,S3,S4,h3,h4,_⟩,_,_⟩,_⟩:=h2;have h3:∃b,K=[([([117],Dm)]++[([99],a)],b),([([117],Dm)]++[([99],a)]++[([120],b)],AU)]/\S4=[]:=by simpa [Bp,mainK] using h3
 obtain ⟨b,rfl,_⟩:=h3;obtain ⟨_,_,_,⟨_,_,⟨K,S5,S6,h5,h6,_⟩,_,_⟩,_⟩:=h4;simp [Bp,AU,Dm] at h5
structure Bfs (m:Md) (a i:Nat) (l:List Nat):Prop where
 nd:l.Nodup
 lt:∀j∈l,j<m.funs.length
 has:a∈l
 rch:∀j∈l,Rch m a j
 done:∀p j f k g,p<i->l[p]?=some j->m.funs[j]?=some f->m.funs[k]?=some g->Vk 4 g.name f.body=true->k∈l
theorem Ti (h:l.Nodup) (hb:∀x∈l,x<n):l.length<=n:=by
 have:=Oo (l:=l.map λi:Nat=>(i:Int)) (n:=n) (List.Pairwise.map _ (λa b h e=>h (L3.1 e)) h) λx hx=>by
  obtain ⟨y,hy,rfl⟩:=Cc.1 hx;have:=hb y hy;omega
 rw [Dh] at this;omega
theorem Bfs.len (h:Bfs m a i l):l.length<=m.funs.length:=Ti h.nd h.lt
theorem Bfs.init (h:a<m.funs.length):Bfs m a 0 [a] :=
 ⟨by simp,λj hj=>by rw [AN.1 hj];exact h,by simp,λj hj=>by rw [AN.1 hj];exact .base,λp j f k g hp=>by omega⟩
theorem Bfs.all (h:Bfs m a i l) (hi:l.length<=i):∀j,Rch m a j->j∈l:=by
 intro j hj
 induction hj with
 | base=>exact h.has
 | step _ hf hg hh ih =>
  obtain ⟨p,hp⟩:=DE.1 ih;exact h.done p _ _ _ _ (by have:=(AO.1 hp).1;omega) hp hf hg hh
structure BfsK (m:Md) (a i k:Nat) (l:List Nat):Prop where
 b:Bfs m a i l
 now:∀j f k' g,l[i]?=some j->m.funs[j]?=some f->k'<k->m.funs[k']?=some g->Vk 4 g.name f.body=true->k'∈l
theorem Bfs.k (h:Bfs m a i l):BfsK m a i 0 l:=⟨h,λj f k' g _ _ hk=>by omega⟩
theorem BfsK.next {k:Nat} (h:BfsK m a i k l) (hk:m.funs.length<=k):Bfs m a (i+1) l:=by
 refine ⟨h.b.nd,h.b.lt,h.b.has,h.b.rch,λp j f k' g hp hj hf hg hh=>?_⟩;by_cases e:p=i
 ·subst e;exact h.now j f k' g hj hf (by have:=(AO.1 hg).1;omega) hg hh
 ·exact h.b.done p j f k' g (by omega) hj hf hg hh
theorem BfsK.skip {k:Nat} (h:BfsK m a i k l) (hn:k∈l\/∀j f g,l[i]?=some j->m.funs[j]?=some f->m.funs[k]?=some g->Vk 4 g.name f.body=false):BfsK m a i (k+1) l:=by
 refine ⟨h.b,λj f k' g hj hf hk hg hh=>?_⟩;by_cases e:k'=k
 ·subst e;rcases hn with hn | hn
  ·exact hn
  ·have:=hn j f g hj hf hg;rw [hh] at this;cases this
 ·exact h.now j f k' g hj hf (by omega) hg hh
theorem BfsK.add {k:Nat} (h:BfsK m a i k l) (hk:k∉l) (hj:l[i]?=some j) (hf:m.funs[j]?=some f) (hg:m.funs[k]?=some g) (hh:Vk 4 g.name f.body=true):BfsK m a i (k+1) (l++[k]):=by
 have hil:i<l.length:=(AO.1 hj).1;have hsame:∀p,p<=i->(l++[k])[p]?=l[p]?:=λp hp=>Tt (by omega);refine ⟨⟨?_,?_,?_,?_,?_⟩,?_⟩
 ·rw [Hu];exact ⟨h.b.nd,by simp,λx hx y hy e=>by rw [AN.1 hy] at e;exact hk (e ▸ hx)⟩
 ·intro x hx;rcases BU.1 hx with hx | hx
  ·exact h.b.lt x hx
  ·rw [AN.1 hx];exact (AO.1 hg).1
 ·exact LN _ h.b.has
 ·intro x hx;rcases BU.1 hx with hx | hx
  ·exact h.b.rch x hx
  ·rw [AN.1 hx];exact .step (h.b.rch j (AK hj)) hf hg hh
 ·intro p j' f' k' g' hp hj' hf' hg' hh';rw [hsame p (by omega)] at hj';exact LN _ (h.b.done p j' f' k' g' hp hj' hf' hg' hh')
 ·intro j' f' k' g' hj' hf' hk' hg' hh';rw [hsame i (BL _)] at hj';by_cases e:k'=k
  ·subst e;simp
  ·exact LN _ (h.now j' f' k' g' hj' hf' (by omega) hg' hh')
def uR (m:Md) (op:Int) (l:List Nat):Bool:=l.any λj=>match m.funs[j]? with
 | some f=>OZ op f.body
 | none=>false
def Re (l:List Int) (x:Int):List Int:=if x∈l then l else l++[x]
theorem VX (l:List Int) (x:Int):F2 (DJ l) (.int .i64 x) (.bool true)=DJ (Re l x):=by
 unfold Re;by_cases h:x∈l
 ·rw [if_pos h];exact Qu h
 ·rw [if_neg h];exact Iy h
theorem mP {l:List Int} {x y:Int}:y∈Re l x↔y∈l\/x=y:=by
 unfold Re;split
 ·rename_i h;exact ⟨.inl,λh'=>h'.elim id λe=>e ▸ h⟩
 ·simp [eq_comm]
theorem oM {l:List Str}:BS (Ke l x) y=(BS l y||x == y):=by
 have ha:∀a b:List Str,BS (a++b) y=(BS a y||BS b y):=λa b=>by
  induction a with
  | nil=>rfl
  | cons z r ih=>simp only [D0,BS,ih,UN]
 unfold Ke;split
 ·rename_i h;by_cases e:x=y
  ·subst e;simp [h]
  ·simp [e]
 ·rw [ha];simp [BS]
mutual
def P7:Tm->List Int×List Str->List Int×List Str
 | .mk op _ x ks _,z=>HW ks (Re z.1 op,if op=4 then Ke z.2 x else z.2)
def HW:List Tm->List Int×List Str->List Int×List Str
 | [],z=>z
 | t::r,z=>HW r (P7 t z)
end
mutual
theorem Oj {y:Int}:∀(t:Tm) (z:List Int×List Str),y∈(P7 t z).1↔y∈z.1\/OZ y t=true
 | .mk op n x ks ps,z=>by
  simp only [P7,OZ,Ry ks,mP,Hv,beq_iff_eq,or_assoc]
theorem Ry {y:Int}:∀(ts:List Tm) (z:List Int×List Str),y∈(HW ts z).1↔y∈z.1\/LU y ts=true
 | [],z=>by simp [HW,LU]
 | t::r,z=>by simp only [HW,LU,Ry r,Oj t,Hv,or_assoc]
end
mutual
theorem Rz {y:Str}:∀(t:Tm) (z:List Int×List Str),BS (P7 t z).2 y=(BS z.2 y||Vk 4 y t)
 | .mk op n x ks ps,z=>by
  simp only [P7,Vk,TW ks];by_cases e:op=4
  ·subst e;simp [oM,UN]
  ·simp [e,show (op == 4)=false by simpa using e]
theorem TW {y:Str}:∀(ts:List Tm) (z:List Int×List Str),BS (HW ts z).2 y=(BS z.2 y||Xr 4 y ts)
 | [],z=>by simp [HW,Xr]
 | t::r,z=>by simp only [HW,Xr,TW r,Rz t,UN]
end
theorem SO {t:Tm}:∀{l:List Tm},t∈l->H8 t<=BY l
 | x::r,h=>by
  simp only [BY];rcases CA.1 h with rfl | h
  ·omega
  ·have:=SO h;omega
def iN (z:List Int×List Str):St:=[(1,some (.map (DJ z.1))),(2,some (.map (Hr z.2)))]
theorem OW:∀(b:Nat) (t:Tm) (z:List Int×List Str),H8 t<=b->Tq4 93 [.imm (.agg (Al t)),.mapr 1,.mapr 2] (iN z) (.ret (.imm (.tup [])) (iN (P7 t z)))
 | 0,t,z,hb=>by have:=Uv t;omega
 | b+1,.mk op n x ks ps,z,hb=>by
  have hI:=VX z.1 op;have hK:=VW z.2 x;have hR:=λ(u:Tm) (hu:u∈ks) (z:List Int×List Str)=>OW b u z (by have:=SO hu;simp only [H8] at hb;omega);obtain ⟨d,nm⟩:=z;simp only [P7];refine EI 0 rfl λhok=>?_;simp [Ez,Cx,maxLen,Al] at hok;refine AQ Ah func93 rfl [3,4,5]<|Ai rfl<|Fs Ah rfl rfl rfl (CE d) ?_;rw [hI];refine Ai rfl ?_;have hn1:4=op->F2 (Hr nm) (.str x) (.bool true)=Hr (if op=4 then Ke nm x else nm):=λe=>by rw [hK,if_pos e.symm]
  have hn2:op≠4->nm=if op=4 then Ke nm x else nm:=λe=>by rw [if_neg e]
  have hB:∀nm',nm'=(if op=4 then Ke nm x else nm)->Tq2 Tryz.f93.ntmps (DY (iN (d,nm))) (Lb Yj Tryz.f93.results.toList (.ret (.imm (.tup [])) (iN (HW ks (Re d op,if op=4 then Ke nm x else nm)))))
    [.code (Gx Tryz.f93 3)] [(3,.ref 3 0),(1,.mapr 1),(2,.mapr 2)] ((3,some (.immb 49 5 (Al (.mk op n x ks ps))))::iN (Re d op,nm')) [4,5]:=by
   intro nm' e;subst e;generalize (if op=4 then Ke nm x else nm)=nm' at *;generalize Re d op=d' at *;refine Av rfl<|Ak (λz:Nat×List Int×List Str=>[(20,.imm (.int .i64 z.1)),(19,.imm (.int .i64 ks.length)),(18,.imm (.sl (Dq ks))),(1,.mapr 1),(2,.mapr 2)]) (λz=>iN z.2) [4,5] (λz=>ks.length-z.1)
    (λz=>z.1<=ks.length/\HW (ks.drop z.1) z.2=HW ks (d',nm')) (0,d',nm')
    ⟨AF _,rfl⟩ ⟨rfl,A8 (by simp),AH⟩ AD rfl λz hz ih=>?_
   obtain ⟨j,d1,n1⟩:=z;obtain ⟨hj1,hj2⟩:=hz;simp only at hj1 hj2 ih;generalize HW ks (d',nm')=E at *;refine Av rfl<|Aa rfl (λh=>?_) (λh=>?_)
   ·have hlt:j<ks.length:=by simp at h;omega
    obtain ⟨u,hu⟩:=Am hlt;have hg:=E5 hu;have hC:=hR u (AK hu) (d1,n1);rw [As hu,HW] at hj2;generalize P7 u (d1,n1)=w at *;obtain ⟨u1,u2,u3,u4,u5⟩:=u;exact Av rfl<|HA rfl hg<|Ai rfl<|Jf [] [(1,1),(2,2)] [] rfl hC kZ rfl rfl<|Ai rfl<|Ae (ih (j+1,w) (by simp only;omega) ⟨by simp only;omega,hj2⟩) ⟨M6,BJ⟩ AD rfl
   ·have hlt:¬j<ks.length:=by simp at h;omega
    rw [Bh (by omega)] at hj2;simp only [HW] at hj2;subst hj2;exact At rfl<|Av rfl<|BP ⟨[],BJ⟩
  clear hR;by_cases h4:op=4
  ·have hn:=hn1 h4.symm;refine Aa rfl (λh=>?_) (λh=>by exfalso;simp at h;exact h h4);refine Av rfl<|Fs Ah rfl rfl rfl (Gb nm) ?_;rw [hn];refine R3<|Jr ?_ ?_ ?_ (hB _ rfl)
   ·exact AH
   ·exact AH
   ·rfl
  ·have hn:=hn2 h4;refine Aa rfl (λh=>by exfalso;simp at h;exact h4 h) (λh=>?_);refine Nh<|Jr ?_ ?_ ?_ (hB _ hn)
   ·exact AH
   ·exact AH
   ·rfl
def TZ (l:List Nat):List (List V):=IO (l.map λi:Nat=>(i:Int))
@[simp] theorem dNats_length (l:List Nat):(TZ l).length=l.length:=by simp [TZ]
theorem uJ (a b:List Nat):TZ (a++b)=TZ a++TZ b:=by simp [TZ,IO]
def mM (m:Md) (s:Str) (l:List Nat):Bool:=l.any λj=>match m.funs[j]? with
 | some f=>Vk 4 s f.body
 | none=>false
structure EfI (m:Md) (a:Nat) (l:List Nat) (z:List Int×List Str):Prop where
 nd:l.Nodup
 lt:∀j∈l,j<m.funs.length
 has:a∈l
 rch:∀j∈l,Rch m a j
 dos:∀y,y∈z.1↔uR m y l=true
 nam:∀s,BS z.2 s=mM m s l
theorem EfI.init (h:m.funs[a]?=some f):EfI m a [a] (P7 f.body ([],[])):=by
 have hlt:=(AO.1 h).1;refine ⟨by simp,λj hj=>by rw [AN.1 hj];exact hlt,by simp,λj hj=>by rw [AN.1 hj];exact .base,λy=>?_,λs=>?_⟩
 ·rw [Oj];simp [uR,h]
 ·rw [Rz];simp [mM,h,BS]
theorem EfI.add {k:Nat} {z:List Int×List Str} (h:EfI m a l z) (hg:m.funs[k]?=some g) (hk:k∉l) (hn:BS z.2 g.name=true):EfI m a (l++[k]) (P7 g.body z):=by
 have hlt:=(AO.1 hg).1;refine ⟨?_,λj hj=>?_,LN _ h.has,λj hj=>?_,λy=>?_,λs=>?_⟩
 ·rw [Hu];exact ⟨h.nd,by simp,λx hx y hy e=>by rw [AN.1 hy] at e;exact hk (e ▸ hx)⟩
 ·rcases BU.1 hj with hj | hj
  ·exact h.lt j hj
  ·rw [AN.1 hj];exact hlt
 ·rcases BU.1 hj with hj | hj
  ·exact h.rch j hj
  ·rw [AN.1 hj];rw [h.nam,mM,Ze] at hn;obtain ⟨i,h1,h2⟩:=hn;cases hf:m.funs[i]? with
   | none=>rw [hf] at h2;cases h2
   | some f=>rw [hf] at h2;exact .step (h.rch i h1) hf hg h2
 ·rw [Oj,h.dos];simp [uR,DU,hg]
 ·rw [Rz,h.nam];simp [mM,DU,hg]
open Classical in
theorem EfI.fin {z:List Int×List Str} (h:EfI m a l z) (hc:∀(k:Nat) (g:Fd),m.funs[k]?=some g->BS z.2 g.name=true->k∈l) (op:Int):decide (op∈z.1)=pK m a op:=by
 have hall:∀j,Rch m a j->j∈l:=λj hj=>by
  induction hj with
  | base=>exact h.has
  | step _ hf hg hh ih =>
   refine hc _ _ hg ?_;rw [h.nam,mM,Ze];exact ⟨_,ih,by rw [hf];exact hh⟩
 unfold pK;rw [decide_eq_decide,h.dos,uR,Ze];constructor
 ·rintro ⟨j,h1,h2⟩;cases hf:m.funs[j]? with
  | none=>rw [hf] at h2;cases h2
  | some f=>rw [hf] at h2;exact ⟨j,f,h.rch j h1,hf,h2⟩
 ·rintro ⟨j,f,h1,h2,h3⟩;exact ⟨j,hall j h1,by rw [h2];exact h3⟩
theorem EfI.len {z:List Int×List Str} (h:EfI m a l z):l.length<=m.funs.length:=Ti h.nd h.lt
def P1 (l:List Nat):List Int:=l.map λi:Nat=>(i:Int)
theorem W8 {k:Nat}:(k:Int)∈P1 l↔k∈l:=by
 simp only [P1,Cc,L3,exists_eq_right]
theorem Xa (m:Md) (a:Nat) (hm:G3 m=true) (ha:a<m.funs.length) (hl:m.funs.length<=1000000):Tq3 32 [.agg (Du m),.int .i64 a] (.tup [.sl (IO (uD m a)),FD 0]):=by
 have hM:=FR m;rw [hm] at hM;obtain ⟨f,hf⟩:=Am ha;have hg:=HZ hf;have hE:=λt z=>OW (H8 t) t z (BL _);have hE0:=hE f.body ([],[]);have hI:=EfI.init hf;generalize P7 f.body ([],[])=z0 at *;obtain ⟨m1,m2,m3⟩:=m;obtain ⟨f1,f2,⟨a1,a2,a3,a4⟩,⟨b1,b2,b3,b4⟩,⟨t1,t2,t3,t4,t5⟩⟩:=f;simp only at hE0 ha hl;refine AQ Ah func32 rfl [6,1,2,3,7,8,9,10]<|Ai rfl<|Ad rfl hM<|CW rfl<|Aa rfl (λhh=>?_) (λhh=>?_)
 ·exfalso;simp at hh;omega
 refine Av rfl<|Ev rfl<|Ai rfl<|Ev rfl<|Ai rfl<|Ev rfl<|Ai rfl<|Fs Ah rfl rfl rfl (CE [])<|Ai rfl<|yi rfl (c:=Cg ⟨f1,f2,.mk a1 a2 a3 a4,.mk b1 b2 b3 b4,.mk t1 t2 t3 t4 t5⟩) (λ_=>⟨by simp,by simpa using hg,by simp [Cg]⟩) (by simp)<|Ai rfl<|Jf [] [(1,1),(2,2)] [] rfl hE0 kZ rfl rfl<|Ai rfl ?_;clear hE0 hM hh hg;refine Ak (λz:List Nat×List Int×List Str=>[(6,.mapr 1),(7,.mapr 2),(8,.mapr 3),(2,.ref 6 0)]) (λz=>[(1,some (.map (DJ z.2.1))),(2,some (.map (Hr z.2.2))),(3,some (.map (DJ (P1 z.1)))),(6,some (.immb 43 3 (Du ⟨m1,m2,m3⟩)))]) [7,8,9,10]
  (λz=>m3.length-z.1.length) (λz=>EfI ⟨m1,m2,m3⟩ a z.1 z.2) ([a],z0) hI BJ BJ rfl λz hz ih=>?_
 clear hI;obtain ⟨l,d,nm⟩:=z;simp only at hz ih;refine Av rfl<|Ak (λi:Nat=>[(44,.imm (.int .i64 i)),(43,.imm (.int .i64 m3.length)),(42,.imm (.sl (m3.map Cg))),(6,.mapr 1),(7,.mapr 2),(8,.mapr 3),(2,.ref 6 0)]) (λ_=>[(1,some (.map (DJ d))),(2,some (.map (Hr nm))),(3,some (.map (DJ (P1 l)))),(6,some (.immb 43 3 (Du ⟨m1,m2,m3⟩)))]) [7,8,9,10]
  (λi=>m3.length-i) (λi=>i<=m3.length/\∀(k:Nat) (g:Fd),k<i->m3[k]?=some g->BS nm g.name=true->k∈l) 0 ⟨AF _,λk g h=>by omega⟩
  ⟨rfl,A8 (by simp),BA⟩ BJ rfl λi hi jh=>?_
 obtain ⟨hi1,hi2⟩:=hi;refine Av rfl<|Aa rfl (λh=>?_) (λh=>?_)
 ·have hlt:i<m3.length:=by simp at h;omega
  obtain ⟨g,hg⟩:=Am hlt;have hgg:=HZ hg;have hC:=hE g.body (d,nm);have hadd:=λh1 h2=>hz.add (k:=i) (g:=g) hg h1 h2;have hk3:F2 (DJ (P1 l)) (.int .i64 i) (.bool true)=DJ (Re (P1 l) i):=VX _ _;have hlk:decide ((i:Int)∈P1 l)=decide (i∈l):=by rw [decide_eq_decide];exact W8
  obtain ⟨g1,g2,⟨c1,c2,c3,c4⟩,⟨d1,d2,d3,d4⟩,⟨u1,u2,u3,u4,u5⟩⟩:=g;simp only at hC hadd;generalize P7 (.mk u1 u2 u3 u4 u5) (d,nm)=z1 at *;refine Av rfl<|yi rfl (c:=Cg ⟨g1,g2,.mk c1 c2 c3 c4,.mk d1 d2 d3 d4,.mk u1 u2 u3 u4 u5⟩) (λ_=>⟨by simp,by simpa using hgg,by simp [Cg]⟩) (by simp)<|Ai rfl<|CJ Ah 2 rfl rfl rfl (Gb nm) (by simp [Ap]) (z:=.bool false) rfl (λ_=>.bool _) (K3 nm g1)<|CW rfl<|CJ Ah 3 rfl rfl rfl (CE (P1 l)) (by simp [Ap]) (z:=.bool false) rfl (λ_=>.bool _) (by rw [Gc,hlk])<|CW rfl ?_;generalize hb1:BS nm g1=b1 at *;refine Aa rfl (λh=>?_) (λh=>?_)
  ·have hb2:b1=true/\i∉l:=by
    by_cases e:i∈l
    ·cases b1 <;> simp [e] at h
    ·cases b1 <;> simp [e] at h ⊢
   obtain ⟨rfl,hnl⟩:=hb2;have hz1:=hadd hnl rfl;have hin:Re (P1 l) i=P1 (l++[i]):=by
    unfold Re;rw [if_neg (λh=>hnl (W8.1 h))];simp [P1]
   rw [hin] at hk3;have hle:=hz1.len;simp only [AZ,Cq,B5] at hle;refine Av rfl<|Fs Ah rfl rfl rfl (CE (P1 l)) ?_;rw [hk3];exact Ai rfl<|Jf [] [(1,1),(2,2)] [] rfl hC kZ rfl rfl<|Ai rfl<|Ae (ih (l++[i],z1) (by simp only [AZ,Cq,B5];omega) hz1) BJ BJ rfl
  ·have hkk:∀(k:Nat) (g:Fd),k<i+1->m3[k]?=some g->BS nm g.name=true->k∈l:=λk g hk hg' hn=>by
    by_cases e:k=i
    ·subst e;rw [hg] at hg';cases hg';rw [hb1] at hn;subst hn;simpa using h
    ·exact hi2 k g (by omega) hg' hn
   exact Av rfl<|Ae (jh (i+1) (by omega) ⟨by omega,hkk⟩) ⟨M6,GE⟩ BJ rfl
 ·have hlt:¬i<m3.length:=by simp at h;omega
  have hfin:=hz.fin λk g hg=>hi2 k g (by have:=(AO.1 hg).1;simp only at this;omega) hg;clear ih jh hE hf;unfold uD;simp only at hfin;generalize pK ⟨m1,m2,m3⟩ a=eb at *;refine At rfl<|At rfl<|Av rfl<|HX (e:=45) (sz:=1) 11 7 (by decide) rfl ?_;generalize hL:(λq:Nat=>((List.range q).map λi:Nat=>16+(i:Int)).filter eb)=L at *;have hL13:(((List.range 13).map λi:Nat=>16+(i:Int)).filter eb)=L 13:=by rw [<- hL]
  have hL0:L 0=[]:=by rw [<- hL];rfl
  have hLs:∀q,L (q+1)=L q++if eb (16+(q:Int))=true then [16+(q:Int)] else []:=λq=>by
   rw [<- hL];simp only [NU,CL,List.filter_append,Cv,FB,Zq,List.filter_nil]
  have hLl:∀q,(L q).length<=q:=λq=>by
   rw [<- hL];exact sY (List.length_filter_le _ _) (by simp)
  rw [hL13];clear hL hL13;refine Ak (λq:Nat=>[(12,.imm (.int .i64 (16+(q:Int)))),(11,.own 7 (IO (L q)).length),(6,.mapr 1)]) (λq=>[(1,some (.map (DJ d))),(7,some (.row 45 1 (IO (L q))))]) [8,9,10]
   (λq=>13-q) (λq=>q<=13) 0 (AF _)
   ⟨rfl,by rw [hL0];rfl,AC⟩ ⟨rfl,by rw [hL0];rfl,trivial⟩ rfl λq hq ih=>?_
  refine Av rfl<|Aa rfl (λh=>?_) (λh=>?_)
  ·have hlt:q<13:=by simp at h;omega
   have hs:=hLs q;have hll:=hLl q;have hlk:=hfin (16+(q:Int));refine Av rfl<|CJ Ah 1 rfl rfl rfl (CE d) (by simp [Ap]) (z:=.bool false) rfl (λ_=>.bool _) (by rw [Gc,hlk]) ?_;generalize eb (16+(q:Int))=b at *;refine Ai rfl ?_;cases b with
   | false =>
    refine R7 rfl λh=>Av rfl ?_;rw [if_neg (by simp),HP] at hs;exact Ae (ih (q+1) (by omega) (by omega)) ⟨A8 (by rw [BW (by omega) (by omega)];omega),by rw [hs];rfl,AC⟩ ⟨rfl,by rw [hs];rfl,trivial⟩ rfl
   | true =>
    refine R6 rfl λh=>Av rfl<|Bn Ah rfl ⟨by simp,by simp [maxLen];omega,by simp;omega,trivial⟩<|Ai rfl ?_;rw [if_pos rfl] at hs;have et:IO (L (q+1))=IO (L q)++[[.int .i64 (16+(q:Int))]]:=by rw [hs,Vv];rfl
    exact Bo 7 8 rfl<|Ae (ih (q+1) (by omega) (by omega)) ⟨A8 (by rw [BW (by omega) (by omega)];omega),by rw [et];rfl,AC⟩ ⟨rfl,by rw [et];rfl,trivial⟩ rfl
  ·have hlt:q=13:=by simp at h;omega
   subst hlt;exact At rfl<|Bv 7 rfl<|Av rfl<|Ab rfl rfl rfl
theorem mQ:D6 mK=true:=by kernel_rfl
theorem vY:OkM mK/\bF mK:=YX mQ
theorem qW:RW mK=(2,1):=by
 have b0:Io mK sumK=true:=by
  rw [aW (N:=[]) kO λS hS=>⟨Ao,(KC sumK.body _ _ S (by decide) hS).symm⟩];rfl
 have b1:Io mK mainK=false:=aX fT;have d0:GX (Mc mK) 0 mK.datas.length=none:=by kernel_rfl
 have f0:N6 mK 0=false:=by
  rw [Um (f:=sumK) rfl,b0];kernel_rfl
 have f1:N6 mK 1=true:=by
  rw [Um (f:=mainK) rfl,b1];simp
 unfold RW;rw [d0];rw [show mK.funs.length=2 from rfl];simp [GX,f0,f1]
theorem uC:uD mK 0=[]:=by
 have hr:∀j,Rch mK 0 j->j=0:=λj h=>by
  induction h with
  | base=>rfl
  | @step j k f g _ hf hg hh ih =>
   subst ih;cases hf;have hk:k<2:=(AO.1 hg).1
   match k,hk,hg with
   | 0,_,_=>rfl
   | 1,_,hg =>
    cases hg;exact absurd hh (by decide)
 unfold uD;rw [List.filter_eq_nil_iff];intro op hop h;simp only [pK,decide_eq_true_eq] at h;obtain ⟨j,f,h1,h2,h3⟩:=h;obtain rfl:=hr j h1;cases h2;simp only [Cc,QL] at hop;obtain ⟨i,hi,rfl⟩:=hop;have:∀i:Nat,i<13->OZ (16+(i:Int)) sumK.body=false:=by decide
 rw [this i hi] at h3;cases h3
theorem XP:∀n,H4 [] n=n
 | 0=>rfl
 | n+1=>by rw [De,XP n];simp
theorem mE (k:Nat):EC [] k=k:=by
 have:=(M4 [] k).2
 rwa [XP] at this
theorem zc5:Tq3 13 [.agg (dTyc (Be (Ao 0) AU)),.agg (dTyc (Be Ca (Ao 1)))] (.tup [.sl (dTys [Ca,AU]),FD 0]):=by
 have ia:inB (2:Nat) (Be (Ao 0) AU):=by intro m hm;simp [Be,AU,Ao,CO,DK] at hm;omega
 have ib:inB (2:Nat) (Be Ca (Ao 1)):=by intro m hm;simp [Be,Ca,Ao,CO,DK] at hm;omega
 have hs:StOk (2:Nat) (λ_=>none):=eP (by omega);obtain ⟨n,r,hE,hr⟩:=YA hs (a:=Be (Ao 0) AU) (b:=Be Ca (Ao 1)) (by decide) (by decide) ia ib;have hU:=gX (H:=2) (a:=Be (Ao 0) AU) (b:=Be Ca (Ao 1)) (by decide) hE (by omega) ia ib;cases r with
 | none=>exact absurd rfl (hr (λn=>if n=0 then Ca else AU) () (λn t h=>nomatch h))
 | some σ =>
  obtain ⟨_,⟨_,hD,θ,hθ⟩,h1,_⟩:=hr;have h2:=(h1 θ hθ.eq).2;simp only [Be,AU,Ca,Ao,A9,Db,Ty.mk.injEq,E2] at h2;simp at h2;obtain ⟨e0,e1⟩:=h2;have hs1:(σ 1).isSome=true:=by
   cases e:σ 1 with
   | some t=>rfl
   | none =>
    have:=hθ.free 1 e;rw [<- e1] at this;cases this
  have hl:MF σ 2=2:=by
   show (if (σ ((1:Nat):Int)).isSome then 1+1 else MF σ 1)=2;exact if_pos hs1
  have hL:zdn σ 2=[Ca,AU]:=by
   rw [zdn,hl,Us hθ];show [θ 0,θ 1]=[Ca,AU];rw [e0,<- e1];rfl
  have hv:nR 2 (some σ) = .tup [.sl (dTys [Ca,AU]),FD 0]:=by
   rw [nR,hL,Tx,if_pos (by decide)]
  rw [hv] at hU;exact hU
theorem oH:Tq3 14 [.agg (dTyc (Be (Ao 0) (Ao 0))),.agg (dTyc (Be AU Ca))] (.tup [.bool false,.int .i64 0]):=by
 have h:=Vc (Be (Ao 0) (Ao 0)) (Be AU Ca);rw [show (AV true (Be (Ao 0) (Ao 0))&&AV true (Be AU Ca)&&(WB (Be (Ao 0) (Ao 0)) (Be AU Ca) λ_=>none).isSome)=false by kernel_rfl] at h;exact h
theorem Vj (h:MQ mK [] t=true) (ht:Cb t=true) (hz:H8 t<=100000):∃r,BM mK [] t 0 (λ_=>none) r/\Tq3 26 [.agg (Du mK),.sl [],.agg (Al t)] (WQ [] r) :=
 gY vY.1.closed [] t h (λp hp=>by cases hp) ht hz
theorem TF {r:Option (Ty×Int×Sb×List Ty)} (hr:BM mK [] t 0 (λ_=>none) r) {T0:Ty} {S0:List Ty} (h0:CC mK t [] T0 S0):∃T N,zak mK [] t T N/\C9 T=true/\WQ [] r=if N.all Df=true then OV [] T else .tup [.agg (dTyc Dr),FD 7]:=by
 have hcl:EnvCl []:=λp hp=>by cases hp
 cases r with
 | none=>exact absurd h0 (xY hcl hr _ _)
 | some z =>
  obtain ⟨τ,k,σ,N⟩:=z;obtain ⟨θ,hθ⟩:=hr.1.2.1.2.2;refine ⟨A9 θ τ,N.map (A9 θ),Xi hcl hr hθ,VB (λn=>hθ.wfθ n) _ hr.2.1,?_⟩;simp only [WQ,Us hθ]
theorem tN:Tq3 26 [.agg (Du mK),.sl [],.agg (Al yY)] (.tup [.agg (dTyc (Be (Be AU (Ao 0)) (Ao 0))),FD 0]):=by
 obtain ⟨r,hr,hP⟩:=Vj (t:=yY) (by kernel_rfl) (by kernel_rfl) (by decide);obtain ⟨T,N,hp,hw,hv⟩:=TF hr (bN (Ao 0));obtain ⟨b,rfl,hN⟩:=wZ hp.1;subst hN;obtain ⟨η,he,_⟩:=hp.2 _ _ (bN (Ao 0));have hb:∃n,b=Ao n:=by
  have hwb:C9 b=true:=EU hw b (by simp [Be,Ff]);simp only [Be,AU,Ao,A9,Db,Ty.mk.injEq,E2] at he;simp at he;by_cases e:BQ b=9
  ·exact ⟨num b,E7 hwb e⟩
  ·obtain ⟨f,n,x,e1,e2,e3⟩:=Ya (θ:=η) e;rw [e3] at he;simp at he;exact absurd he.1 e2
 obtain ⟨n,rfl⟩:=hb;rw [hv] at hP;have hf:(if ([]:List Ty).all Df=true then OV [] (Be (Be AU (Ao n)) (Ao n)) else .tup [.agg (dTyc Dr),FD 7]) = .tup [.agg (dTyc (Be (Be AU (Ao 0)) (Ao 0))),FD 0]:=by
  have hg:D2 (Be (Be AU (Ao n)) (Ao n)) []=[n]:=by simp [D2,Cm,Be,AU,Ao]
  have hl:G4 [] [n] (Be (Be AU (Ao n)) (Ao n))=Be (Be AU (Ao 0)) (Ao 0):=by
   simp [G4,Ht,Be,AU,Ao,mE]
  simp only [LI,if_true];rw [OV,hg,hl,if_pos (by simp [Be,AU,Ao,DH,CX]),if_pos (by kernel_rfl)]
 rw [hf] at hP;exact hP
theorem tM:Tq3 26 [.agg (Du mK),.sl [],.agg (Al Ve)] (.tup [.agg (dTyc Dr),FD 7]):=by
 obtain ⟨r,hr,hP⟩:=Vj (t:=Ve) (by kernel_rfl) (by kernel_rfl) (by decide);have hcl:EnvCl []:=λp hp=>by cases hp
 cases r with
 | none=>exact hP
 | some z =>
  obtain ⟨τ,k,σ,N⟩:=z;obtain ⟨θ,hθ⟩:=hr.1.2.1.2.2;exact absurd (Xi hcl hr hθ).1 rH
theorem tL:Tq3 26 [.agg (Du mK),.sl [],.agg (Al yX)] (.tup [.agg (dTyc (Be (Bx Cr) AU)),FD 0]):=by
 obtain ⟨r,hr,hP⟩:=Vj (t:=yX) (by kernel_rfl) (by kernel_rfl) (by decide);obtain ⟨T,N,hp,hw,hv⟩:=TF hr rG;obtain ⟨rfl,rfl⟩:=wW hp.1;rw [hv] at hP;have hl:G4 [] (D2 (Be (Bx Cr) AU) []) (Be (Bx Cr) AU)=Be (Bx Cr) AU:=by
  simp [G4,Ht,Be,AU,Bx]
 have hf:(if ([]:List Ty).all Df=true then OV [] (Be (Bx Cr) AU) else .tup [.agg (dTyc Dr),FD 7]) = .tup [.agg (dTyc (Be (Bx Cr) AU)),FD 0]:=by
  simp only [LI,if_true];rw [OV,hl,if_pos (by simp [Be,AU,Bx,DH,CX]),if_pos (by kernel_rfl)]
 rw [hf] at hP;exact hP
theorem eC:Tq3 35 [.agg (Du mK)] (.tup [.int .i64 2,.int .i64 1,FD 0]):=by
 have h:=zc9 (m:=mK) λ_=>vY;rw [Yl mQ,qW,if_pos (by kernel_rfl),if_neg (by decide)] at h;exact h
theorem uE:Tq3 32 [.agg (Du mK),.int .i64 0] (.tup [.sl [],FD 0]):=by
 have h:=Xa mK 0 (by kernel_rfl) (by decide) (by decide);rw [uC] at h;exact h
theorem WO:Tq3 12 [] (.bool true):=by
 have hH0:=PT 0;have hH1:=PT 1;have hI:=DW;have hB:=KW;have hF:=Ow;have hM:=YW;have hS:∀a:Ty,Tq3 21 [.agg (dTyc a),.agg (dTyc a)] (.bool true):=λa=>by
  have:=Po a a
  rwa [(Rv a a).2 rfl] at this
 refine AQ Ah func12 rfl [1,2,3,4,5,6,7]<|Ai rfl<|Ad rfl hH0<|Ai rfl<|Ad rfl hH1<|Ai rfl<|Ad rfl hI<|Ai rfl<|Aj rfl (λ_=>hF (Ao 0) AU) (by simp)<|Ai rfl<|Ad rfl hB<|Ai rfl<|Aj rfl (λ_=>hF Ca (Ao 1)) (by simp)<|Ai rfl<|Ad rfl zc5<|yg [] rfl (by simp;kernel_rfl)<|Aj rfl (λ_=>hF (Ao 0) (Ao 0)) (by simp)<|Ai rfl<|Ad rfl hI<|Ai rfl<|Ad rfl hB<|Ai rfl<|Aj rfl (λ_=>hF AU Ca) (by simp)<|Ai rfl<|Ad rfl oH<|Ai rfl<|Ad rfl hM<|Ai rfl<|Ad rfl wY<|Ai rfl<|Ad rfl tN<|Ai rfl<|Ad rfl hM<|Ai rfl<|Ad rfl wX<|Ai rfl<|Ad rfl tM<|Ai rfl<|Ad rfl hM<|Ai rfl<|Ad rfl wV<|Ai rfl<|Ad rfl tL<|Ai rfl<|Ad rfl hM<|Ai rfl<|Ad rfl eC<|Ai rfl<|Ad rfl hM<|Ai rfl<|Ad rfl uE<|CW rfl<|Aa rfl (λh=>by cases h) (λh=>?_)
 exact Av rfl<|yi rfl (c:=dTyc Ca) (λ_=>⟨by simp,rfl,rfl⟩) (by simp)<|Ai rfl<|Ad rfl hB<|Ai rfl<|Aj rfl (λ_=>hS Ca) (by simp [Ap])<|CW rfl<|yi rfl (c:=dTyc AU) (λ_=>⟨by simp,rfl,rfl⟩) (by simp [Ap])<|CW rfl<|Ce rfl hI<|CW rfl<|Aj rfl (λ_=>hS AU) (by simp [Ap])<|CW rfl<|Ce rfl hI<|CW rfl<|Aj rfl (λ_=>hF AU (Ao 0)) (by simp [Ap])<|CW rfl<|Aj rfl (λ_=>hF (Be AU (Ao 0)) (Ao 0)) (by simp [Ap])<|CW rfl<|Aj rfl (λ_=>hS (Be (Be AU (Ao 0)) (Ao 0))) (by simp [Ap])<|CW rfl<|Ce rfl hI<|CW rfl<|Aj rfl (λ_=>hF (Bx Cr) AU) (by simp [Ap])<|CW rfl<|Aj rfl (λ_=>hS (Be (Bx Cr) AU)) (by simp [Ap])<|yg [] rfl (by simp [Ap];kernel_rfl)<|Ab rfl rfl rfl
theorem Pk (l:List Ty):Tq3 18 [.sl (dTys l)] (.bool (l.all kD)):=by
 refine Bl λhv=>?_;simp [Cx,Ez,maxLen] at hv;refine AQ Ah func18 rfl [1,2]<|Ai rfl<|Ak (λi:Nat=>[(3,.imm (.int .i64 i)),(0,.imm (.sl (dTys l)))]) (λ_=>[]) [1,2] (λi=>l.length-i) (λi=>i<=l.length/\l.all kD=(l.drop i).all kD) 0 ⟨AF _,rfl⟩
  AD trivial rfl λi hi ih=>?_
 obtain ⟨hi1,hi2⟩:=hi;refine Av rfl<|Aa rfl (λh=>?_) (λh=>?_)
 ·have hlt:i<l.length:=by simp at h;omega
  obtain ⟨p,hp⟩:=Am hlt;have hgp:=AA hp;have hS:=zc2 p;rw [As hp,Zi] at hi2;generalize kD p=o at *;obtain ⟨p1,p2,p3,p4⟩:=p;refine Av rfl<|HA rfl hgp<|Ai rfl<|Ad rfl hS<|Ai rfl ?_;cases o with
  | false =>
   exact R6 rfl λh=>Av rfl<|Ag ⟨_,rfl,tV (by rw [hi2];rfl),trivial⟩
  | true =>
   exact R7 rfl λh=>Av rfl<|Ae (ih (i+1) (by omega) ⟨by omega,by simpa using hi2⟩) ⟨M6,AC⟩ trivial rfl
 ·have hge:l.length<=i:=by simp at h;omega
  rw [Bh hge] at hi2;exact At rfl<|Av rfl<|Ag ⟨_,rfl,tV (by rw [hi2];rfl),trivial⟩
def C6 (l:List Ty) (n:Int):Ty:=if 0<=n/\n<l.length then l.getD n.toNat Dr else Ao n
theorem Qz (l:List Ty):∀t:Ty,C9 t=true->inB 1000 t->Tq3 22 [.agg (dTyc t),.sl (dTys l)] (.agg (dTyc (A9 (C6 l) t)))
 | .mk f n x ps,hw,hi=>by
  have hl:=Ie hw;have hwp:=EU hw;simp only [Ff] at hl hwp;by_cases hc:f=9/\n<l.length
  ·obtain ⟨e9,hc⟩:=hc;subst e9;have hn:=hi.num rfl;simp only [num] at hn;obtain ⟨v,hv⟩:=Am (l:=l) (i:=n.toNat) (by omega);have hg:=AA hv;rw [show A9 (C6 l) (.mk 9 n x ps)=v by rw [A9,if_pos rfl,C6,if_pos ⟨hn.1,hc⟩,I8,hv];rfl];obtain ⟨v1,v2,v3,v4⟩:=v;refine AQ Ah func22 rfl [1,2,3,4,5]<|CW rfl<|Aa rfl (λh=>?_) (λh=>by exfalso;simp at h;omega);exact Av rfl<|yi rfl (c:=dTyc (.mk v1 v2 v3 v4)) (λ_=>⟨hn.1,by simpa using hg,by simp⟩) (by simp)<|Ai rfl<|Ab rfl rfl rfl
  have hpi:∀p∈ps,inB 1000 p:=λp hp=>by
   by_cases e9:f=9
   ·have hq:=E7 hw (by simp [BQ,e9]);simp only [Ao,num,Ty.mk.injEq] at hq;rw [hq.2.2.2] at hp;cases hp
   ·exact hi.part e9 hp
  have hη:A9 (C6 l) (.mk f n x ps) = .mk f n x (ps.map (A9 (C6 l))):=by
   by_cases e9:f=9
   ·have hq:=E7 hw (by simp [BQ,e9]);have hnl:¬(0<=n/\n<l.length):=λh=>hc ⟨e9,h.2⟩;simp only [Ao,num,Ty.mk.injEq] at hq;obtain ⟨_,_,rfl,rfl⟩:=hq;rw [A9,if_pos e9,C6,if_neg hnl,e9];rfl
   ·rw [A9,if_neg e9,Ib]
  rw [hη];clear hη hi hw;refine AQ Ah func22 rfl [1,2,3,4,5]<|CW rfl<|Aa rfl (λh=>by exfalso;simp at h;exact hc h) (λh=>?_);refine Av rfl<|HX (e:=25) (sz:=4) 5 3 (by decide) rfl<|Ak (λi:Nat=>[(6,.imm (.int .i64 i)),(5,.own 3 (dTys ((ps.take i).map (A9 (C6 l)))).length),(2,.ref 1 0),(4,.ref 2 0),(1,.imm (.sl (dTys l)))])
   (λi=>[(1,some (.immb 25 4 (dTyc (.mk f n x ps)))),(2,some (.cells 25 4 [.imm (.int .i64 0),.imm (.int .i64 0),.imm (.str []),.nils])),(3,some (.row 25 4 (dTys ((ps.take i).map (A9 (C6 l))))))]) [4,5] (λi=>ps.length-i) (λi=>i<=ps.length) 0 (AF _)
   BA AH rfl λi hi ih=>?_
  refine Av rfl<|Aa rfl (λh=>?_) (λh=>?_)
  ·have hlt:i<ps.length:=by simp at h;omega
   obtain ⟨p,hp⟩:=Am hlt;have hg:=AA hp;have hI:=Qz l p (hwp p (AK hp)) (hpi p (AK hp));have hih:=ih (i+1) (by omega) (by omega);rw [Bk hp,CL,E4,show dTys (List.map (A9 (C6 l)) [p])=[dTyc (A9 (C6 l) p)] from rfl] at hih;have hlen:(dTys ((ps.take i).map (A9 (C6 l)))).length<=3:=by rw [dTys_length,Dh,FA];omega
   generalize dTys ((ps.take i).map (A9 (C6 l)))=R at *;obtain ⟨p1,p2,p3,p4⟩:=p;generalize A9 (C6 l) (.mk p1 p2 p3 p4)=q at *;obtain ⟨q1,q2,q3,q4⟩:=q;exact Av rfl<|HA rfl hg<|Ai rfl<|Ad rfl hI<|Ai rfl<|Bn Ah rfl ⟨by simp,by simp [maxLen];omega,by simp;omega,trivial⟩<|Ai rfl<|Bo 3 4 rfl<|Ae hih ⟨M6,by simp only [AZ];rfl,AH⟩ AH rfl
  ·have hlt:¬i<ps.length:=by simp at h;omega
   refine At rfl ?_;rw [CQ (by omega)];exact Bv 3 rfl<|Av rfl<|Ab rfl rfl rfl
termination_by t=>SizeOf.sizeOf t
decreasing_by
 have:=Ct (AK hp);simp_wf;omega
mutual
theorem PU {η:Int->Ty}:∀(a:Ty) (σ:Sb),(∀n v,σ n=some v->v=η n)->∃σ',WB a (A9 η a) σ=some σ'/\∀n v,σ' n=some v->v=η n
 | .mk f n x ps,σ,h=>by
  by_cases e9:f=9
  ·subst e9;rw [A9,if_pos rfl,WB,if_pos rfl];cases hv:σ n with
   | none =>
    refine ⟨_,rfl,λk v hk=>?_⟩;rw [Ew] at hk;by_cases e:k=n
    ·subst e;rw [if_pos rfl] at hk;cases hk;rfl
    ·rw [if_neg e] at hk;exact h k v hk
   | some v =>
    refine ⟨σ,?_,h⟩;simp only;rw [if_pos ((Rv v (η n)).2 (h n v hv))]
  ·obtain ⟨σ',h1,h2⟩:=MX ps σ h;refine ⟨σ',?_,h2⟩;rw [A9,if_neg e9,WB,if_neg e9];show (if f=f/\x=x/\ps.length=(Db η ps).length then WA ps (Db η ps) σ else none)=some σ';rw [if_pos ⟨rfl,rfl,by rw [Ib,Dh]⟩,h1]
theorem MX {η:Int->Ty}:∀(l:List Ty) (σ:Sb),(∀n v,σ n=some v->v=η n)->∃σ',WA l (Db η l) σ=some σ'/\∀n v,σ' n=some v->v=η n
 | [],σ,h=>⟨σ,rfl,h⟩
 | t::r,σ,h=>by
  obtain ⟨σ1,h1,h2⟩:=PU t σ h;obtain ⟨σ2,h3,h4⟩:=MX r σ1 h2;refine ⟨σ2,?_,h4⟩;rw [Db,WA,h1];exact h3
end
theorem PA (hθ:Sol σ θ) {H:Nat} {t:Ty} (ht:inB H t):A9 (C6 (zdn σ H)) t=A9 θ t:=by
 refine FQ t λm hm=>?_;obtain ⟨h1,h2⟩:=ht m hm;have hlen:(zdn σ H).length=MF σ H:=by simp [zdn]
 rw [C6,hlen];by_cases hl:0<=m/\m<MF σ H
 ·rw [if_pos hl];have hg:(zdn σ H)[m.toNat]?=some (θ m):=by
   simp only [zdn,Et,Us hθ];rw [TA (by omega)];simp only [cP];rw [show ((m.toNat:Nat):Int)=m by omega]
  rw [I8,hg];rfl
 ·rw [if_neg hl];refine (hθ.free m ?_).symm;cases hs:σ m with
  | none=>rfl
  | some v =>
   have:=(QW σ H).1 m.toNat (by omega) (by rw [show ((m.toNat:Nat):Int)=m by omega,hs];rfl)
   omega
mutual
theorem Mn {η:Int->Ty}:∀t:Ty,Uy t=true->(∀n∈CO t,Uy (η n)=true)->Uy (A9 η t)=true
 | .mk f n x ps,h,hη=>by
  simp only [Uy,A2] at h;by_cases e:f=9
  ·rw [A9,if_pos e];exact hη n (by simp [CO,e])
  ·rw [A9,if_neg e,Uy,Jw ps h.2 (by simpa [CO,e] using hη)];simp [e]
theorem Jw {η:Int->Ty}:∀l:List Ty,PH l=true->(∀n∈DK l,Uy (η n)=true)->PH (Db η l)=true
 | [],_,_=>rfl
 | t::r,h,hη=>by
  simp only [PH,A2] at h;simp only [DK,BU] at hη;rw [Db,PH,Mn t h.1 λn hn=>hη n (.inl hn),Jw r h.2 λn hn=>hη n (.inr hn)];rfl
end
theorem So {φ:Int->Ty} (hθ:Sol σ θ) (hφ:PS φ σ) (a:Ty):(WB (A9 θ a) (A9 φ a) λ_=>none).isSome=true:=by
 have e:A9 φ (A9 θ a)=A9 φ a:=hθ.mguT hφ a;obtain ⟨σ',h,_⟩:=PU (η:=φ) (A9 θ a) (λ_=>none) (λn v h=>by cases h);rw [e] at h;rw [h];rfl
def Ul (a b:Ty) (l:List Ty):Bool:=Cz a&&Cz b&&kD a&&kD b&&decide (1<=l.length)&&decide (l.length<=6)
theorem KindGeneral_pure (a b:Ty) (l:List Ty):Tq3 4 [.agg (dTyc a),.agg (dTyc b),.sl (dTys l)] (.bool true):=by
 have hK:=WO;have hsa:=Jx a;have hsb:=Jx b;have hTa:=zc2 a;have hTb:=zc2 b;cases hg:Ul a b l with
 | false =>
  unfold Ul at hg;generalize Cz a=o1 at *;generalize Cz b=o2 at *;generalize kD a=o3 at *;generalize kD b=o4 at *;obtain ⟨a1,a2,a3,a4⟩:=a;obtain ⟨b1,b2,b3,b4⟩:=b;refine AQ Ah func4 rfl [1,2,3,4,5,6]<|Ai rfl<|Ad rfl hsa<|CW rfl<|Ce rfl hsb<|CW rfl<|Ce rfl hTa<|CW rfl<|Ce rfl hTb<|CW rfl<|Aa rfl (λh=>?_) (λh=>by exfalso;cases o1 <;> cases o2 <;> cases o3 <;> cases o4 <;> simp at h hg;omega);exact Av rfl<|Ad rfl hK<|Ai rfl<|Ab rfl rfl rfl
 | true =>
  simp only [Ul,A2,decide_eq_true_eq] at hg;obtain ⟨⟨⟨⟨⟨g1,g2⟩,g3⟩,g4⟩,g5⟩,g6⟩:=hg;rw [g1] at hsa;rw [g2] at hsb;rw [g3] at hTa;rw [g4] at hTb;have hfa:AV true a=true:=by rw [dZ];exact g3
  have hfb:AV true b=true:=by rw [dZ];exact g4
  obtain ⟨wa,ia,sma⟩:=MY hfa;obtain ⟨wb,ib,smb⟩:=MY hfb;obtain ⟨k,r,hE,hG⟩:=dK 100 _ _ (λ_=>none) Ao a b (Sol.mk (λn t h=>nomatch h) (λn h=>rfl) (λn t h=>nomatch h) (λn t h=>nomatch h)) (λn t h=>nomatch h) (BL _) (λ_=>BL _) wa wb ia ib;have hU:=gX (H:=100) (by rw [hfa,hfb];rfl) hE (by omega) ia ib;have hput:=λ(L:List Ty) (t:Ty) (w:C9 t=true) (i:inB 100 t)=>Qz L t w (i.mono (by omega));clear hE g1 g2 g3 g4 hfa hfb;have hwF:∀F:List Ty,(∀t∈F,Fp t=true)->∀n,C9 (C6 F n)=true:=λF hF n=>by
   unfold C6;by_cases h:0<=n/\n<F.length
   ·rw [if_pos h];obtain ⟨v,hv⟩:=Am (l:=F) (i:=n.toNat) (by omega);rw [I8,hv];exact (PY (hF v (AK hv))).2
   ·rw [if_neg h];simp [Ao,C9,Gw]
  have hsm:∀σ θ,Sol σ θ->(zdn σ 100).all (AV true)=true->∀n:Int,0<=n/\n<100->Uy (θ n)=true:=λσ θ hθ hall n hn=>by
   cases hs:σ n with
   | none=>rw [hθ.free n hs];simp [Ao,Uy,PH];omega
   | some v =>
    have hl:=(QW σ 100).1 n.toNat (by omega) (by rw [show ((n.toNat:Nat):Int)=n by omega,hs];rfl)
    have hm:θ n∈zdn σ 100:=by
     simp only [zdn,Us hθ];exact Cc.2 ⟨n.toNat,QL.2 (by omega),by rw [show ((n.toNat:Nat):Int)=n by omega]⟩
    exact (MY (Eo.1 hall _ hm)).2.2
  obtain ⟨a1,a2,a3,a4⟩:=a;obtain ⟨b1,b2,b3,b4⟩:=b;refine AQ Ah func4 rfl [1,2,3,4,5,6]<|Ai rfl<|Ad rfl hsa<|CW rfl<|Ce rfl hsb<|CW rfl<|Ce rfl hTa<|CW rfl<|Ce rfl hTb<|CW rfl<|Aa rfl (λh=>by exfalso;simp at h;omega) (λh=>?_);clear h;refine Av rfl<|Ak (λi:Nat=>[(7,.imm (.int .i64 i)),(2,.imm (.sl (dTys l))),(3,.ref 1 0),(4,.ref 2 0)]) (λ_=>[(1,some (.immb 25 4 (dTyc (.mk a1 a2 a3 a4)))),(2,some (.immb 25 4 (dTyc (.mk b1 b2 b3 b4))))]) [3,4,5,6] (λi=>l.length-i) (λi=>i<=l.length/\∀t∈l.take i,Fp t=true) 0 ⟨AF _,by simp⟩
   BJ AD rfl λi hi ih=>?_
  obtain ⟨hi1,hi2⟩:=hi;refine Av rfl<|Aa rfl (λh=>?_) (λh=>?_)
  ·have hlt:i<l.length:=by simp at h;omega
   obtain ⟨p,hp⟩:=Am hlt;have hgp:=AA hp;have hS:=Jx p;have hW:=RP p;have hih:Fp p=true->_:=λhw=>ih (i+1) (by omega) ⟨by omega,λt ht=>by
    rw [Bk hp,BU] at ht;rcases ht with ht | ht
    ·exact hi2 t ht
    ·rw [AN.1 ht];exact hw⟩
   generalize Cz p=o1 at *;generalize Fp p=o2 at *;obtain ⟨p1,p2,p3,p4⟩:=p;refine Av rfl<|HA rfl hgp<|CW rfl<|Ce rfl hS<|CW rfl<|yizc rfl hgp<|CW rfl<|Ce rfl hW<|CW rfl ?_;by_cases ho:o1=true/\o2=true
   ·obtain ⟨rfl,rfl⟩:=ho;exact R7 rfl λh=>Av rfl<|Ae (hih rfl) ⟨M6,AH⟩ AD rfl
   ·refine Aa rfl (λh=>?_) (λh=>by exfalso;apply ho;cases o1 <;> cases o2 <;> simp at h ⊢);exact Av rfl<|Ad rfl hK<|Ai rfl<|Ab rfl rfl rfl
  ·have hlt:i=l.length:=by simp at h;omega
   subst hlt;clear ih;rw [E0] at hi2;refine At rfl<|Av rfl<|Bn Ah rfl ⟨λc hc=>by rw [CU] at hc;obtain ⟨x,_,rfl⟩:=Cc.1 hc;simp,by simp [maxLen];omega,by simp;omega,trivial⟩<|Ai rfl ?_;obtain ⟨v,hv⟩:=Am (l:=l) (i:=l.length-1) (by omega);have hgv:=AA hv;have hvw:Fp v=true:=hi2 v (AK hv);refine Ak (λj:Nat=>[(8,.own 3 (dTys (l++List.replicate j v)).length),(2,.imm (.sl (dTys l))),(3,.ref 1 0),(4,.ref 2 0)]) (λj=>[(1,some (.immb 25 4 (dTyc (.mk a1 a2 a3 a4)))),(2,some (.immb 25 4 (dTyc (.mk b1 b2 b3 b4)))),(3,some (.row 25 4 (dTys (l++List.replicate j v))))]) [4,5,6] (λj=>100-j) (λj=>j+l.length<=100) 0 (by omega)
    ⟨by simp;rfl,AH⟩ ⟨rfl,rfl,by simp;rfl,trivial⟩ rfl λj hj jh=>?_
   refine Av rfl<|Aa rfl (λh=>?_) (λh=>?_)
   ·have hlt:j+l.length<100:=by simp at h;omega
    have hlen:(dTys (l++List.replicate j v)).length=l.length+j:=by simp
    have hjh:=jh (j+1) (by omega) (by omega);rw [List.replicate_succ',<- Cl,E4,show dTys [v]=[dTyc v] from rfl] at hjh;generalize dTys (l++List.replicate j v)=R at *;have hw:IntKind.i64.wrap ((l.length:Int)-1)=((l.length-1:Nat):Int):=by rw [BW (by omega) (by omega)];omega
    obtain ⟨v1,v2,v3,v4⟩:=v;exact Av rfl<|yi rfl (c:=dTyc (.mk v1 v2 v3 v4)) (λ_=>⟨by simp only [dTys_length,hw];omega,by simp only [dTys_length,hw];simpa using hgv,by simp⟩) (by simp)<|Ai rfl<|Bn Ah rfl ⟨by simp,by simp [maxLen];omega,by simp;omega,trivial⟩<|Ai rfl<|Bo 3 4 rfl<|Ae hjh ⟨by simp only [AZ];rfl,AH⟩ AH rfl
   ·refine At rfl ?_;clear jh;refine Bv 3 rfl ?_;have hF:∀t∈l++List.replicate j v,Fp t=true:=λt ht=>by
     rcases BU.1 ht with ht | ht
     ·exact hi2 t ht
     ·rw [Gj ht];exact hvw
    generalize l++List.replicate j v=F at *;have hPa:=hput F (.mk a1 a2 a3 a4) wa ia;have hPb:=hput F (.mk b1 b2 b3 b4) wb ib;have hwa:C9 (A9 (C6 F) (.mk a1 a2 a3 a4))=true:=VB (hwF F hF) _ wa;refine Av rfl ?_;cases r with
    | none =>
     have hne:J8 (A9 (C6 F) (.mk a1 a2 a3 a4)) (A9 (C6 F) (.mk b1 b2 b3 b4))=false:=by
      cases h:J8 (A9 (C6 F) (.mk a1 a2 a3 a4)) (A9 (C6 F) (.mk b1 b2 b3 b4)) with
      | false=>rfl
      | true=>exact absurd ((Rv _ _).1 h) (hG _ λn t h=>nomatch h)
     have hST:=Po (A9 (C6 F) (.mk a1 a2 a3 a4)) (A9 (C6 F) (.mk b1 b2 b3 b4));rw [hne] at hST;clear hne hG hwa;generalize A9 (C6 F) (.mk a1 a2 a3 a4)=pa at *;generalize A9 (C6 F) (.mk b1 b2 b3 b4)=pb at *;obtain ⟨x1,x2,x3,x4⟩:=pa;obtain ⟨z1,z2,z3,z4⟩:=pb;unfold nR at hU;exact Ad rfl hU<|CW rfl<|PO (.imm (.bool false)) rfl (by simp [Ap])<|CW rfl<|PO (.imm (.agg (dTyc Dr))) rfl (by simp [Ap])<|CW rfl<|PO (.imm (.agg (dTyc Dr))) rfl (by simp [Ap])<|CW rfl<|PO (.imm (.bool false)) rfl (by simp [Ap])<|yg [] rfl (by simp [Ap];kernel_rfl)<|R7 rfl λh=>Av rfl<|Ad rfl hPa<|Ai rfl<|Ad rfl hPb<|Ai rfl<|Ad rfl hST<|yg [] rfl (by simp;kernel_rfl)<|R6 rfl λh=>Pu rfl<|Ce rfl hK<|CW rfl<|Ab rfl rfl rfl
    | some σ =>
     obtain ⟨⟨θ,hθ⟩,hD,_,hS⟩:=hG;have hsmall:=hsm σ θ hθ;have hxa:=hput (zdn σ 100) (.mk a1 a2 a3 a4) wa ia;have hxb:=hput (zdn σ 100) (.mk b1 b2 b3 b4) wb ib;rw [PA hθ ia] at hxa;rw [PA hθ ib] at hxb;rw [<- ((hS θ).1 hθ.eq).2] at hxb;have hxs:=Po (A9 θ (.mk a1 a2 a3 a4)) (A9 θ (.mk a1 a2 a3 a4));rw [(Rv _ _).2 rfl] at hxs;have hfo:=Pk (zdn σ 100);rw [show kD=AV true from (funext dZ).symm] at hfo;have hlen:(zdn σ 100).length<=100:=by simp only [zdn,Dh,List.length_range];exact Na σ 100
     have hST:=Po (A9 (C6 F) (.mk a1 a2 a3 a4)) (A9 (C6 F) (.mk b1 b2 b3 b4));have hIn:J8 (A9 (C6 F) (.mk a1 a2 a3 a4)) (A9 (C6 F) (.mk b1 b2 b3 b4))=true->(zdn σ 100).all (AV true)=true->Tq3 16 [.agg (dTyc (A9 θ (.mk a1 a2 a3 a4))),.agg (dTyc (A9 (C6 F) (.mk a1 a2 a3 a4)))] (.bool true):=λh1 h2=>by
      have hφ:PS (C6 F) σ:=(hS (C6 F)).2 ⟨(λn t h=>nomatch h),(Rv _ _).1 h1⟩;have:=Me (A9 θ (.mk a1 a2 a3 a4)) (A9 (C6 F) (.mk a1 a2 a3 a4)) hwa (Mn _ sma λn hn=>hsmall h2 n (ia n hn))
      rwa [So hθ hφ] at this
     clear hS hsmall hwa;simp only [nR,Tx] at hU;generalize J8 (A9 (C6 F) (.mk a1 a2 a3 a4)) (A9 (C6 F) (.mk b1 b2 b3 b4))=o at *;generalize A9 (C6 F) (.mk a1 a2 a3 a4)=pa at *;generalize A9 (C6 F) (.mk b1 b2 b3 b4)=pb at *;generalize A9 θ (.mk a1 a2 a3 a4)=xa at *;generalize zdn σ 100=L at *;obtain ⟨x1,x2,x3,x4⟩:=pa;obtain ⟨z1,z2,z3,z4⟩:=pb;obtain ⟨y1,y2,y3,y4⟩:=xa;cases hall:L.all (AV true) with
     | false =>
      rw [hall,if_neg (by simp)] at hU;refine Ad rfl hU<|CW rfl<|PO (.imm (.bool false)) rfl (by simp [Ap])<|CW rfl<|PO (.imm (.agg (dTyc Dr))) rfl (by simp [Ap])<|CW rfl<|PO (.imm (.agg (dTyc Dr))) rfl (by simp [Ap])<|CW rfl<|PO (.imm (.bool false)) rfl (by simp [Ap])<|yg [] rfl (by simp [Ap];kernel_rfl)<|R7 rfl λh=>Av rfl<|Ad rfl hPa<|Ai rfl<|Ad rfl hPb<|Ai rfl<|Ad rfl hST<|yg [] rfl (by simp;kernel_rfl) ?_;cases o with
      | false =>
       exact R6 rfl λh=>Pu rfl<|Ce rfl hK<|CW rfl<|Ab rfl rfl rfl
      | true =>
       exact R7 rfl λh=>Pu rfl<|PO (.imm (.agg (dTyc Dr))) rfl (by simp [Ap])<|CW rfl<|PO (.imm (.bool false)) rfl (by simp [Ap])<|CW rfl<|Ce rfl hK<|yg [] rfl (by simp [Ap];kernel_rfl)<|Ab rfl rfl rfl
     | true =>
      rw [hall,if_pos rfl] at hU;rw [hall] at hfo;refine Ad rfl hU<|CW rfl<|Ce rfl hfo<|CW rfl<|Ce rfl hxa<|CW rfl<|Ce rfl hxb<|CW rfl<|Ce rfl hxs<|yg [] rfl (by simp [Ap];kernel_rfl)<|Aa rfl (λh=>by exfalso;simp at h;omega) (λh=>?_);refine Av rfl<|Ad rfl hPa<|Ai rfl<|Ad rfl hPb<|Ai rfl<|Ad rfl hST<|yg [] rfl (by simp;kernel_rfl) ?_;cases o with
      | false =>
       exact R6 rfl λh=>Pu rfl<|Ce rfl hK<|CW rfl<|Ab rfl rfl rfl
      | true =>
       exact R7 rfl λh=>Pu rfl<|Ce rfl hxa<|CW rfl<|Aj rfl (λ_=>hIn rfl hall) (by simp [Ap])<|CW rfl<|Ce rfl hK<|yg [] rfl (by simp [Ap];kernel_rfl)<|Ab rfl rfl rfl
theorem Ext.below {I':Imm} {μ':Mu} (h:Ext I μ [] w I' μ' st' w'):Below w.heap.size w w' :=
 ⟨h.os,h.tape,h.output,h.size,λk hk=>h.block k hk (by rintro ⟨id,blk,g,hl,_⟩;cases hl)⟩
theorem nO {enc:TypeId×Value->H} {f:Func} {apart fresh handsOn again:Bool} {args:Array Value} {ds gs:List (DataW H)} {before pa pv:List MemPlace} (hW:DataW.Whole enc P f.params.toList s.vars apart W args.toList ds gs before) (hb:Below W.heap.size W W') (hps:before=pa++pv) (hres:∀(b:Nat) (sp:Nat->Bool) (hd:Bool),DataW.TrodAll enc P W' b sp hd f.resultTypes.toList (v.resultList f.resultTypes.size) (s.fn H (ds++gs)).results []) (hargs:∀sp:Nat->Bool,(∀p∈before,sp p.block=true)->DataW.TrodAll enc P W' 0 sp true f.params.toList args.toList (s.fn H (ds++gs)).args pa) (hvars:∀sp:Nat->Bool,(∀p∈before,sp p.block=true)->DataW.TrodVars enc P W' sp s.vars (s.fn H (ds++gs)).vars pv) (hok:∀(j:Nat) (t:TypeId) (r:Value),f.resultTypes[j]?=some t->(v.resultList f.resultTypes.size)[j]?=some r->Value.okWide P W' .any 0 t r) :
  s.post enc P f apart fresh handsOn again W args v W':=by
 have lt:∀p∈before,decide (p.block<W.heap.size)=true:=λp hp=>by simpa using hW.lt p hp
 refine ⟨ds,gs,before,[],pa,pv,hW,hres _ _ _,hargs (λb=>decide (b<W.heap.size)) lt,hvars (λb=>decide (b<W.heap.size)) lt,World.keptBut_mono (λp hp=>⟨hp,.inr ?_⟩) (hb.frame (· ∈ before)),λ_=>⟨hok,?_⟩⟩
 ·rw [hps] at hp;exact BU.1 hp
 ·have hlt:=hW.lt;obtain ⟨_,_,_,_,_,hz,hn⟩:=hW;refine ⟨(s.fn H (ds++gs)).results++(s.fn H (ds++gs)).args,(s.fn H (ds++gs)).vars,pa++pv,⟨pa,pv,?_,hvars _ (λ_ _=>rfl),rfl,λb off hp=>?_,λha=>?_⟩,λp hp _=>by rw [hps];exact hp⟩
  ·have:=trodAll_append (hargs (λ_=>true) λ_ _=>rfl) (hres 0 (λ_=>true) true);simpa using this
  ·have hin:MemPlace.cell b off∈before:=by rw [hps];exact hp
   rw [hb.frozen (hlt _ hin)];exact hz b off hin
  ·rw [<- hps];exact hn ha
def P4 (W:World):Imm:=λb=>W.heap[b]?
theorem tO (W:World):(P4 W).ok W:=λ_ _ h=>h
def Rds (P:Program) (W:World) (n:Nat) (t:TypeId) (cs:List Value):Prop :=
 ∃(H:Type) (enc:TypeId×Value->H) (x:DataW H×List MemPlace),DataW.trod enc P W 0 (λ_=>true) true n t cs=some x
def RV (W:World) (cs:List Value) (xs:List V):Prop:=RepVL (P4 W) cs xs/\∀c∈cs,c.oneCell'=true
theorem RV.app {a b:List Value} {x y:List V} (h:RV W a x) (k:RV W b y):RV W (a++b) (x++y) :=
 ⟨h.1.append k.1,λc hc=>(BU.1 hc).elim (h.2 c) (k.2 c)⟩
theorem RV.one {x:V} (h:RepV (P4 W) v x) (h1:v.oneCell'=true):RV W [v] [x] :=
 ⟨.mk h .nil,λc hc=>by simp at hc;rw [hc];exact h1⟩
theorem RV.agg {cs:Array Value} (h:RV W cs.toList xs):RepV (P4 W) (.agg cs) (.agg xs) :=
 .agg _ _ (by simpa using h.1.1) h.2 (λi c x a b=>h.1.2 i c x (by simpa using a) b)
theorem RV.len (h:RV W cs xs):cs.length=xs.length:=h.1.1
section
variable {t:TypeId}
theorem PJ {k:IntKind} {a:Bool} {by_:Nat} (htt:TTok P tt) (hl:lk tt t=some ⟨.int k,a,sz,by_,z⟩) (h:Rds P W n t cs):∃m,RV W cs [.int k m]/\(Lit.int k m).wf=true:=by
 obtain ⟨H,enc,x,h⟩:=h;have hu:P.underlying t=some (.int k):=htt.sh hl;cases n with
 | zero=>simp [DataW.trod] at h
 | succ n =>
  unfold DataW.trod at h;rw [hu] at h
  split at h <;> simp_all
  rename_i k' m heq;exact ⟨m,.one (.int _ _) rfl,h.1.2⟩
theorem IZ {a:Bool} {by_:Nat} (htt:TTok P tt) (hl:lk tt t=some ⟨.str,a,sz,by_,z⟩) (h:Rds P W n t cs):∃s,RV W cs [.str s]/\s.length<=maxLen:=by
 obtain ⟨H,enc,x,h⟩:=h;have hu:P.underlying t=some .string:=htt.sh hl;cases n with
 | zero=>simp [DataW.trod] at h
 | succ n =>
  unfold DataW.trod at h;rw [hu] at h
  split at h <;> simp_all
  rename_i s;exact ⟨s.data.toList,.one (.str _ _ rfl) rfl,by have:=h.1;simpa using this⟩
theorem RK {a:Addr} {k:Nat} {cs':List Value} (h:W.cells? 0 a k=some cs') (hk:0<k):a.spot=none/\∀(j:Nat) (v:Value),cs'[j]?=some v->(P4 W).cell a.block (a.off+j)=some v:=by
 obtain ⟨_,h2,h3⟩:=World.cells?_some h;have cell:∀(b:Addr) (v:Value),W.cell? b=some v->b.spot=none/\(P4 W).cell b.block b.off=some v:=by
  intro b v hb;unfold World.cell? at hb
  split at hb
  ·rename_i c t0 fz hh
   split at hb
   ·cases hb
   ·rename_i hs;refine ⟨by cases h:b.spot with | none=>rfl | some _=>rw [h] at hs;exact absurd rfl hs,?_⟩;unfold Imm.cell P4;rw [hh];exact hb
  ·cases hb
 have hs:a.spot=none:=by
  have hlt:0<cs'.length:=by omega
  have:=h3 0 hk;rw [Bw hlt] at this;exact (cell (a.add 0) _ this).1
 refine ⟨hs,λj v hv=>?_⟩;have hj:=(AO.1 hv).1;have:=(cell (a.add j) v (by rw [h3 j (by omega)];exact hv)).2;unfold Addr.add at this;by_cases h0:j=0
 ·subst h0;simpa using this
 ·rw [if_neg h0] at this;exact this
theorem Gf {e:TypeId} {a:Bool} {by_:Nat} {i:TyI} {d:α->List V} (htt:TTok P tt) (hl:lk tt t=some ⟨.sl e,a,sz,by_,z⟩) (hi:lk tt e=some i) (hpos:0<i.size) (hd:∀x,(d x).length=i.size) (hel:∀m,m<n->∀cs',Rds P W m e cs'->∃x,RV W cs' (d x)) (h:Rds P W n t cs):∃xs:List α,RV W cs [.sl (xs.map d)]:=by
 obtain ⟨H,enc,x,h⟩:=h;have hu:P.underlying t=some (.slice e):=htt.sh hl;have hce:P.cellsOf e=i.size:=(htt e i hi).cellsOf;rcases DataW.trod_slice hu h with ⟨rfl,_⟩ | ⟨ad,len,cap,elems,rest,m,rfl,rfl,_,_,h1,h2,h3,h4,h5,_⟩
 ·exact ⟨[],.one .slnil rfl⟩
 rw [hce] at h4 h5;have he:∀k,k<len->∃(cs':List Value) (x:α),W.cells? 0 (ad.add (k*i.size)) i.size=some cs'/\RV W cs' (d x):=by
  intro k hk;have:=h4 k hk;rw [Bw (by omega)] at this;obtain ⟨cs',q1,q2⟩:=R2.1 this;obtain ⟨x,hx⟩:=hel m (by omega) cs' ⟨H,enc,_,q2⟩;exact ⟨cs',x,q1,hx⟩
 have hch:∃(C:Nat->List Value) (X:Nat->Option α),∀k,k<len->∃x,X k=some x/\W.cells? 0 (ad.add (k*i.size)) i.size=some (C k)/\RV W (C k) (d x):=by
  classical
  refine ⟨λk=>if hk:k<len then (he k hk).choose else [],λk=>if hk:k<len then some ((he k hk).choose_spec.choose) else none,λk hk=>?_⟩;simp only [hk,dif_pos];exact ⟨_,rfl,(he k hk).choose_spec.choose_spec⟩
 obtain ⟨C,X,hCX⟩:=hch;have hlist:∀l,l<=len->∃xs:List α,xs.length=l/\∀k x,xs[k]?=some x->X k=some x:=by
  intro l
  induction l with
  | zero=>exact λ_=>⟨[],rfl,λk x h=>by simp at h⟩
  | succ l ih =>
   intro hl';obtain ⟨xs,q1,q2⟩:=ih (by omega);obtain ⟨x,hx,_⟩:=hCX l (by omega);refine ⟨xs++[x],by simp [q1],λk y hy=>?_⟩;by_cases hk:k<xs.length
   ·rw [Tt hk] at hy;exact q2 k y hy
   ·rw [QG (by omega)] at hy;have:k-xs.length=0:=by
     have:=(AO.1 hy).1;simp at this;omega
    rw [this] at hy;cases hy;have:k=l:=by omega
    rw [this];exact hx
 obtain ⟨xs,hx1,hx2⟩:=hlist len (BL _);refine ⟨xs,.one ?_ rfl⟩;by_cases hcap:cap=0
 ·have:len=0:=by omega
  subst this;subst hcap;have:xs=[]:=Ll hx1;subst this;exact .sl0 ad
 have hspot:ad.spot=none:=by
  by_cases hlen:0<len
  ·obtain ⟨x,_,q,_⟩:=hCX 0 hlen;have:=(RK q hpos).1;simpa [Addr.add] using this
  ·have h6:=h5 rfl;have h7:=h6.2 0 (by omega);rw [Bw (by omega)] at h7;obtain ⟨cs',q1,q2⟩:=R2.1 h7;have:=(RK q1 hpos).1;have hl0:len=0:=by omega
   subst hl0;simpa [Addr.add] using this
 obtain ⟨b,o,sp⟩:=ad;simp only at hspot;subst hspot;have hget:∀(k:Nat) (e:List V),(xs.map d)[k]?=some e->k<len/\∃x,X k=some x/\e=d x/\W.cells? 0 ⟨b,o+k*i.size,none⟩ i.size=some (C k)/\RV W (C k) (d x):=by
  intro k e hk;rw [Et,OP] at hk;obtain ⟨x,q1,q2⟩:=hk;have hlt:=(AO.1 q1).1;obtain ⟨y,r1,r2,r3⟩:=hCX k (by omega);rw [hx2 k x q1] at r1;cases r1;refine ⟨by omega,x,hx2 k x q1,q2.symm,?_,r3⟩;rw [<- r2];congr 1;unfold Addr.add;by_cases h0:k*i.size=0
  ·simp [h0]
  ·simp [h0]
 refine .sl b o len cap i.size _ (λk j=>(C k).getD j undef) (by simp [hx1]) h1 h2 (λe he=>?_) (λk e j x hk hj=>?_) (λk e j x hk hj=>?_)
 ·obtain ⟨x,_,rfl⟩:=Cc.1 he;exact hd x
 ·obtain ⟨_,y,_,rfl,q3,q4⟩:=hget k e hk;have hlt:j<(C k).length:=by rw [q4.len];exact (AO.1 hj).1
  have hv:(C k)[j]?=some ((C k)[j]):=Bw hlt;have hD:(C k).getD j undef=(C k)[j]:=by simp [List.getD,hv]
  show (P4 W).cell b (o+k*i.size+j)=some ((C k).getD j undef)/\((C k).getD j undef).oneCell'=true;rw [hD];exact ⟨(RK q3 hpos).2 j _ hv,q4.2 _ (I6 _)⟩
 ·obtain ⟨_,y,_,rfl,q3,q4⟩:=hget k e hk;have hlt:j<(C k).length:=by rw [q4.len];exact (AO.1 hj).1
  have hv:(C k)[j]?=some ((C k)[j]):=Bw hlt;have hD:(C k).getD j undef=(C k)[j]:=by simp [List.getD,hv]
  show RepV (P4 W) ((C k).getD j undef) x;rw [hD];exact q4.1.2 j _ x hv hj
theorem Ge {fs:List (Nat×TypeId)} {a:Bool} {by_:Nat} (htt:TTok P tt) (hl:lk tt t=some ⟨.struct fs,a,sz,by_,z⟩) (h:Rds P W n t cs) :
  cs.length=sz/\∃m,n=m+1/\∀(j off:Nat) (ft:TypeId) (i:TyI),fs[j]?=some (off,ft)->lk tt ft=some i->Rds P W m ft ((cs.drop off).take i.size):=by
 obtain ⟨H,enc,x,h⟩:=h;obtain ⟨fields,hu,hmap,_⟩:∃fields,P.underlying t=some (.struct fields)/\fields.toList.map (λf=>(f.offset,f.type))=fs/\∀f∈fields.toList,0<P.cellsOf f.type:=htt.sh hl;obtain ⟨xs,m,rfl,_,h1,h2,h3⟩:=DataW.trod_struct hu h;refine ⟨by rw [h1];exact (htt t _ hl).cellsOf,m,rfl,λj off ft i hj hi=>?_⟩;rw [<- hmap,Et,OP] at hj;obtain ⟨f,q1,q2⟩:=hj;cases q2;have hf:fields[j]?=some f:=by rw [<- QI];exact q1
 have hlt:=(GH.1 hf).1;have:=h3 j f hf;rw [Bw (by omega),(htt _ i hi).cellsOf] at this;exact ⟨H,enc,_,this⟩
end
theorem four {l:List α} (h:l.length=4):∃a b c d,l=[a,b,c,d]:=by
 match l,h with
 | [a,b,c,d],_=>exact ⟨a,b,c,d,rfl⟩
theorem R9 (l:List Ty):l.map dTyc=dTys l:=(CU l).symm
theorem SZ (tt0 ts tl:TypeId) (hs:lk bI tt0=some ⟨.struct [(0,ts),(1,3),(2,9),(3,tl)],true,4,56,[.imm (.int .i64 0),.imm (.int .i64 0),.imm (.str []),.nils]⟩)
  (h1:lk bI ts=some ⟨.int .i64,false,1,8,[.imm (.int .i64 0)]⟩) (h2:lk bI tl=some ⟨.sl tt0,false,1,24,[.nils]⟩) :
  ∀(n:Nat) (cs:List Value),Rds prog W n tt0 cs->∃t:Ty,RV W cs (dTyc t):=by
 intro n
 induction n using Nat.strongRecOn with
 | ind n ih =>
  intro cs h;obtain ⟨hl,m,rfl,hf⟩:=Ge Bf hs h;obtain ⟨a,b,c,d,rfl⟩:=four hl;obtain ⟨s,r1,_⟩:=PJ Bf h1 (hf 0 0 ts _ rfl h1);obtain ⟨k,r2,_⟩:=PJ Bf rfl (hf 1 1 3 _ rfl rfl);obtain ⟨x,r3,_⟩:=IZ Bf rfl (hf 2 2 9 _ rfl rfl);obtain ⟨ps,r4⟩:=Gf (d:=dTyc) Bf h2 hs (show 0<4 by decide) dTyc_length (λm' hm cs'=>ih m' (by omega) cs') (hf 3 3 tl _ rfl h2);exact ⟨.mk s k x ps,by rw [dTyc,<- R9];exact ((r1.app r2).app r3).app r4⟩
theorem read_type (n:Nat) (cs:List Value) (h:Rds prog W n 25 cs):∃t:Ty,RV W cs (dTyc t):=SZ 25 22 23 rfl rfl rfl n cs h
theorem read_types (n:Nat) (cs:List Value) (h:Rds prog W n 23 cs):∃l:List Ty,RV W cs [.sl (dTys l)]:=by
 obtain ⟨l,r⟩:=Gf (d:=dTyc) Ah rfl (e:=25) rfl (by decide) dTyc_length (λm' hm cs'=>read_type m' cs') h;exact ⟨l,by rw [<- R9];exact r⟩
theorem Mh {H:Type} {enc:TypeId×Value->H} {P:Program} (hl:laidOutB P=true) {W W':World} (hb:Below W.heap.size W W') {sp:Nat->Bool} :
  ∀{ts:List TypeId} {vs:List Value} {ds:List (DataW H)} {ps:List MemPlace},ts.all (λt=>P.readableRec t&&decide (t<P.types.size))=true->DataW.TrodAll enc P W 0 (λ_=>true) true ts vs ds ps ->
   (∀p∈ps,p.block<W.heap.size)->(∀p∈ps,sp p.block=true)->DataW.TrodAll enc P W' 0 sp true ts vs ds ps
 | [],[],[],_,_,h,_,_=>h
 | [],[],_::_,_,_,h,_,_=>h.elim
 | [],_::_,_,_,_,h,_,_=>h.elim
 | _::_,[],_,_,_,h,_,_=>h.elim
 | _::_,_::_,[],_,_,h,_,_=>h.elim
 | t::ts,v::vs,d::ds,ps,ht,h,hlt,hs=>by
  obtain ⟨p,q,h1,h2,rfl⟩:=h;rw [Zi,A2,A2,decide_eq_true_eq] at ht;refine ⟨p,q,WideElems.Trod_stays hl ht.1.1 ht.1.2 h1 (λx hx=>hb.same (hlt x (LN _ hx))) (λx hx=>hs x (LN _ hx)),?_,rfl⟩;exact Mh hl hb ht.2 h2 (λx hx=>hlt x (Zw _ hx)) (λx hx=>hs x (Zw _ hx))
theorem Rds.of {enc:TypeId×Value->H} {t:TypeId} {d:DataW H} {ps:List MemPlace} (h:DataW.Trod enc P W 0 (λ_=>true) true t v d ps):∃n,Rds P W n t v.cells.toList:=by
 obtain ⟨n,hn⟩:=h;exact ⟨n,H,enc,_,hn⟩
section
variable {enc:TypeId×Value->H} {sp:Nat->Bool} {hd:Bool}
theorem trodAll0 {ds:List (DataW H)} {ps:List MemPlace} (h:DataW.TrodAll enc P W 0 sp hd [] vs ds ps):vs=[]/\ds=[]:=by
 cases vs with
 | nil=>cases ds with
  | nil=>exact ⟨rfl,rfl⟩
  | cons=>exact h.elim
 | cons=>cases ds <;> exact h.elim
theorem trodAllS {t:TypeId} {ts:List TypeId} {ds:List (DataW H)} {ps:List MemPlace} (h:DataW.TrodAll enc P W 0 sp hd (t::ts) vs ds ps) :
  ∃v vs' d ds' p q,vs=v::vs'/\ds=d::ds'/\DataW.Trod enc P W 0 sp hd t v d p/\DataW.TrodAll enc P W 0 sp hd ts vs' ds' q:=by
 cases vs with
 | nil=>cases ds <;> exact h.elim
 | cons v vs=>cases ds with
  | nil=>exact h.elim
  | cons d ds =>
   obtain ⟨p,q,h1,h2,_⟩:=h;exact ⟨v,vs,d,ds,p,q,rfl,rfl,h1,h2⟩
end
theorem agg_of {base:Nat} {t:TypeId} {fs:Array Field} (hu:P.underlying t=some (.struct fs)) (h:Value.okWide P W .any base t v):∃cs,v = .agg cs:=by
 unfold Value.okWide at h;rw [hu] at h;obtain ⟨cs,e,_⟩:=h;exact ⟨cs,e⟩
theorem one_of {base:Nat} {t:TypeId} {x:V} (h:Value.okWide P W .any base t v) (hu:P.underlying t=some .string\/∃e,P.underlying t=some (.slice e)) (hr:RV W v.cells.toList [x]):RepV (P4 W) v x:=by
 have hc:v.cells = #[v]:=by
  cases v <;> first
   | rfl
   | (exfalso
      unfold Value.okWide at h;rcases hu with hu | ⟨e,hu⟩ <;> (rw [hu] at h;unfold Cell.okWide Cell.ok at h;rw [hu] at h;exact h))
 rw [hc] at hr;exact hr.1.2 0 v x rfl rfl
theorem Sz {P: Program} {f: FuncId} {fn: Func} {c: Code} (hf : P.funcs[f]? = some fn) (hname : (fn.name == "runtime.NumGoroutine") = false) (hb : fn.body = some c) {W: World} {args: Array Value} {vs: List V} {b: Bool} (hv : RepVL (P4 W) args.toList vs) (hp : GL P f vs (.bool b)) :
  Calls P f args W λe W'=>e = .returned (.bool b)/\Below W.heap.size W W':=by
 have h:=hp (P4 W) (λ_=>none) W args { imm:=tO W,blk:=λid blk hl=>(by cases hl),apart:=λid blk g b hl=>(by cases hl),inj:=λi j bi bj gi gj b hl=>(by cases hl),nodup:=.nil,idsFree:=λid hi=>(by cases hi) }
  ⟨by simpa using hv.1,λi v d h1 h2=>by
   rw [Et,OP] at h2;obtain ⟨x,q1,rfl⟩:=h2;exact .imm _ _ (hv.2 i v x h1 q1)⟩
 rw [B6 hf hname hb] at h;refine Calls.mono h λe w' he=>?_;cases e with
 | returned v =>
  obtain ⟨I',μ',h1,_,_,h4⟩:=he;cases h1 with
  | imm v x hx =>
   cases hx;exact ⟨rfl,h4.below⟩
 | panicked=>exact he.elim
 | outgrown=>exact he.elim
theorem law_done {enc:TypeId×Value->H} {f:FuncId} {fn:Func} {apart fresh handsOn again:Bool} {args:Array Value} {ds gs:List (DataW H)} {before:List MemPlace} {tb:TypeId} {vs:List V} (hW : DataW.Whole enc P fn.params.toList s.vars apart W args.toList ds gs before) (hv : s.vars = []) (hf : P.funcs[f]? = some fn) (hname : (fn.name == "runtime.NumGoroutine") = false) (hb : fn.body = some c) (hrt : fn.resultTypes = #[tb]) (hbool : P.underlying tb = some .bool) (hl:laidOutB P=true) (hpar:fn.params.toList.all (λt=>P.readableRec t&&decide (t<P.types.size))=true) (hs:s.fn H ds={ results:=[.lit (.bool true)],args:=ds }) (hx:RepVL (P4 W) args.toList vs) (hp:GL P f vs (.bool true)) :
  Calls P f args W λe W'=>∃v,e = .returned v/\s.post enc P fn apart fresh handsOn again W args v W':=by
 refine (Sz hf hname hb hx hp).mono λe W' ⟨he,hg⟩=>?_;subst he;have hW':=hW;obtain ⟨p,q,hA,hV,e1,hfz,hnd⟩:=hW;rw [hv] at hV;have hg0:gs=[]/\q=[]:=by
  cases gs with
  | nil=>exact ⟨rfl,hV⟩
  | cons=>exact hV.elim
 obtain ⟨rfl,rfl⟩:=hg0;rw [HP] at e1;subst e1;have hlt:=hW'.lt;refine ⟨_,rfl,nO (pa:=before) (pv:=[]) hW' hg (by simp) (λb sp hd=>?_) (λsp hsp=>?_) (λsp hsp=>?_) ?_⟩
 ·rw [HP,hs,hrt];exact trodAll_cons_mk (shut_bool hbool _) trodAll_mk0
 ·rw [HP,hs];exact Mh hl hg hpar hA hlt hsp
 ·rw [HP,hs,hv];rfl
 ·exact ok_one hrt rfl (okWide_bool_mk hbool _)
end Go.Hk
namespace Go.Proofs.YtcdpbkolkeeopaaGreat.kindGeneral
open Go.ChangeShapes Go.WideShapes Go.RowKit
set_option linter.unusedVariables false
theorem own:ownKnob Tryz.prog.godebug=none:=by kernel_rfl
theorem xQ (os:Os) (started:os.Started) (H:Type) (enc:TypeId×Value->H) :
  ReturnsInHanded {} Tryz.checked os 4 .any (Rows.kindGeneralSpec.pre6 enc Tryz.prog Tryz.f4 Rows.kindGeneralRow.domain false) (Rows.kindGeneralSpec.post enc Tryz.prog Tryz.f4 false true false false):=by
 refine returnsInHanded_of_change (C:=Tryz.checked) own started (by kernel_rfl) Tryz.func4
  (ChangeSpec.witness6 (enc:=enc) (C:=Tryz.checked) false ⟨#[],#[.agg #[.int .i64 0,.int .i64 0,.string ⟨#[]⟩,.slice none 0 0],.agg #[.int .i64 0,.int .i64 0,.string ⟨#[]⟩,.slice none 0 0],.slice none 0 0],[]⟩ 8 (by kernel_rfl) (by kernel_rfl) (by kernel_rfl) (by kernel_rfl)) ?_
 intro W base args ds gs before hval hW hcnd _;obtain ⟨p,q,hA,_⟩:=id hW;obtain ⟨v1,w1,d1,x1,p1,q1,e1,rfl,hd1,hA⟩:=Hk.trodAllS (t:=25) hA;obtain ⟨v2,w2,d2,x2,p2,q2,e2,rfl,hd2,hA⟩:=Hk.trodAllS (t:=25) hA;obtain ⟨v3,w3,d3,x3,p3,q3,e3,rfl,hd3,hA⟩:=Hk.trodAllS (t:=23) hA;obtain ⟨rfl,rfl⟩:=Hk.trodAll0 hA;obtain ⟨args⟩:=args;simp only at e1;subst e3;subst e2;subst e1;obtain ⟨n1,hn1⟩:=Hk.Rds.of hd1;obtain ⟨m1,hm1⟩:=Hk.read_type n1 _ hn1;obtain ⟨c1,rfl⟩:=Hk.agg_of Tryz.underlying25 (hval 0 25 v1 rfl rfl);obtain ⟨n2,hn2⟩:=Hk.Rds.of hd2;obtain ⟨m2,hm2⟩:=Hk.read_type n2 _ hn2;obtain ⟨c2,rfl⟩:=Hk.agg_of Tryz.underlying25 (hval 1 25 v2 rfl rfl);obtain ⟨n3,hn3⟩:=Hk.Rds.of hd3
 obtain ⟨m3,hm3⟩:=Hk.read_types n3 _ hn3;have r3:=Hk.one_of (hval 2 23 v3 rfl rfl) (.inr ⟨_,Tryz.underlying23⟩) hm3;exact Hk.law_done hW rfl Tryz.func4 (by decide +kernel) rfl rfl Tryz.underlying4 (by kernel_rfl) (by kernel_rfl) rfl (vs:=[.agg (Hk.dTyc m1),.agg (Hk.dTyc m2),.sl (Hk.dTys m3)]) (.mk (Hk.RV.agg hm1) (.mk (Hk.RV.agg hm2) (.mk r3 .nil))) (Hk.KindGeneral_pure m1 m2 m3)
theorem zW:laidOutB Tryz.pinned.checked.prog=true:=by kernel_rfl
theorem zV:mapsRowed Tryz.pinned.checked.prog=true:=by kernel_rfl
theorem yH:(Rows.kindGeneralRow.inPlace == Tryz.pinned.checked.prog.inPlace 4)=true:=by kernel_rfl
theorem yG:(Rows.kindGeneralRow.unfollowed == Tryz.pinned.checked.prog.unfollowed 4)=true:=by kernel_rfl
theorem yF:(Rows.kindGeneralRow.recurses == Tryz.pinned.checked.prog.recurses 4)=true:=by kernel_rfl
theorem yE:(Rows.kindGeneralRow.named == Tryz.pinned.checked.prog.varsNamed 4)=true:=by kernel_rfl
theorem closed:joinedFacts Tryz.pinned.checked.prog 4 Tryz.f4 Rows.kindGeneralSpec Rows.kindGeneralRow=true:=by
 unfold joinedFacts;simp only [Bool.and_eq_true];exact ⟨⟨⟨⟨⟨⟨⟨⟨⟨⟨⟨⟨⟨⟨⟨⟨⟨⟨⟨⟨⟨⟨⟨⟨⟨⟨⟨⟨⟨⟨⟨by kernel_rfl,zW⟩,zV⟩,by kernel_rfl⟩,by kernel_rfl⟩,by kernel_rfl⟩,by kernel_rfl⟩,by kernel_rfl⟩,by kernel_rfl⟩,yH⟩,yG⟩,yF⟩,yE⟩,by kernel_rfl⟩,by kernel_rfl⟩,by kernel_rfl⟩,by kernel_rfl⟩,by kernel_rfl⟩,by kernel_rfl⟩,by kernel_rfl⟩,by kernel_rfl⟩,by kernel_rfl⟩,by kernel_rfl⟩,by kernel_rfl⟩,by kernel_rfl⟩,by kernel_rfl⟩,by kernel_rfl⟩,by kernel_rfl⟩,by kernel_rfl⟩,by kernel_rfl⟩,by kernel_rfl⟩,by kernel_rfl⟩
theorem over:Rows.kindGeneralRow.holds Tryz.pinned (OpenSpec.ofChange Rows.kindGeneralSpec) :=
 OpenClaim.holds_of_wide 4 Tryz.f4 rfl rfl rfl rfl rfl rfl rfl ⟨rfl,rfl,rfl,rfl,rfl⟩ rfl rfl rfl rfl rfl (by kernel_rfl) Tryz.func4 closed
  (of_decide_eq_true (by kernel_rfl)) (by unfold Func.isWrapper;first | (rw [if_pos (by decide +kernel)];kernel_rfl) | (rw [if_neg (by decide +kernel)];exact ⟨rfl,rfl⟩))
  (λos started H enc _=>xQ os started H enc)
theorem proved:Rows.KindGeneralSaid :=
 over
end Go.Proofs.YtcdpbkolkeeopaaGreat.kindGeneral
