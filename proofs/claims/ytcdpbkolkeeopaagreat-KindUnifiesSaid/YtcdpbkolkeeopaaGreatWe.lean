/- Trees of types that are owned: rows known by address. (And what it stands on.) -/
import Derived.Test.YtcdpbkolkeeopaaGreatWd
import Derived.Test.YtcdpbkolkeeopaaGreatWb
import Derived.Test.YtcdpbkolkeeopaaGreatWc
import Derived.Test.YtcdpbkolkeeopaaGreatProg
import Derived.WalkKit
import Derived.RowKit3
import Derived.Laws.NewBlocks
import Derived.Defers
import Derived.Recover
set_option linter.defProp false
set_option linter.unnecessarySimpa false
set_option linter.unusedSimpArgs false
set_option linter.unusedVariables false

set_option maxRecDepth 100000
set_option maxHeartbeats 4000000
namespace Go.Hk
open Go.Proofs
def bxS (n:Int):St:=[(5,some (.cells 92 1 [.ref 1 0])),(6,some (.immb 3 1 [.int .i64 n])),(7,some (.cells 120 1 [.mapr 4]))]
def tJ (m:Md) (T:List (Int×Ty)) (k:Int) (S:List Ty) (n:Int) (met:List Int):St:=C8 m T k S++[(4,some (.map (D7 met)))]++bxS n
theorem Xc {m:Md} {T:List (Int×Ty)} {k:Int} {S:List Ty} {n:Int} {t:Ty} {met met':List Int} {b:Bool} (hC:DA m T k S n t met b met') :
  AK Tryz.prog 177 [.imm (.agg (dTyc t)),.ref 5 0,.ref 6 0,.ref 7 0] (tJ m T k S n met) (.ret (.imm (.bool b)) (tJ m T k S n met')):=by
 unfold DA at hC;obtain ⟨t1,t2,t3,t4⟩:=t;exact Ac Ah Tryz.func177 (by decide +kernel) rfl [8,9] rfl rfl <| Ai rfl <| A4 [(1,1),(2,2),(3,3),(4,4)] [] [] (fr:=[]) (nm:=[1,2,3,4,1,2,3,4]) rfl trivial (by simp) hC Jg rfl trivial rfl rfl rfl <| Ai rfl <| Ag ⟨_,cA⟩
def Ok (m:Md) (T:List (Int×Ty)) (k:Int) (S:List Ty) (n:Int):List Ty->List Int->Bool->List Int->Prop
 | [],met,b,met'=>b=false/\met'=met
 | t::r,met,b,met'=>∃b1 met1,DA m T k S n t met b1 met1/\if b1=true then b=true/\met'=met1 else Ok m T k S n r met1 b met'
def Mx (m:Md) (T:List (Int×Ty)) (k:Int) (S:List Ty) (n:Int):Nat->List Ty->List Int->Int->List Int->Prop
 | _,[],met,i,met'=>i = -1/\met'=met
 | j,t::r,met,i,met'=>∃b1 met1,DA m T k S n t met b1 met1/\if b1=true then i=j/\met'=met1 else Mx m T k S n (j+1) r met1 i met'
theorem gR {m:Md} {T:List (Int×Ty)} {k:Int} {S:List Ty} {n:Int}:∀{ps:List Ty} (j:Nat) {met met':List Int} {b:Bool},Ok m T k S n ps met b met'->∃i:Int,(0<=i↔b=true)/\Mx m T k S n j ps met i met'
 | [],j,met,met',b,h=>by
  obtain ⟨h1,h2⟩:=h;refine ⟨-1,⟨λh=>by omega,λh=>by rw [h1] at h;cases h⟩,?_⟩;rw [Mx];exact ⟨rfl,h2⟩
 | t::r,j,met,met',b,h=>by
  rw [Ok] at h;obtain ⟨b1,met1,h1,h2⟩:=h;cases b1 with
  | true =>
   rw [if_pos rfl] at h2;refine ⟨j,⟨λ_=>h2.1,λ_=>by omega⟩,?_⟩;rw [Mx];refine ⟨true,met1,h1,?_⟩;rw [if_pos rfl];exact ⟨rfl,h2.2⟩
  | false =>
   rw [if_neg (by simp)] at h2;obtain ⟨i,i1,i2⟩:=gR (j+1) h2;refine ⟨i,i1,?_⟩;rw [Mx];refine ⟨false,met1,h1,?_⟩;rw [if_neg (by simp)];exact i2
theorem YE {m:Md} {T:List (Int×Ty)} {k:Int} {S:List Ty} {n:Int} {ps:List Ty} {met met':List Int} {i:Int} (hl:ps.length<=3) (hC:Mx m T k S n 0 ps met i met') :
  AK Tryz.prog 245 [.imm (.sl (A2 ps)),.fn (.func 177) [] [.ref 5 0,.ref 6 0,.ref 7 0]] (tJ m T k S n met) (.ret (.imm (.int .i64 i)) (tJ m T k S n met')):=by
 refine Ac Ah Tryz.func245 (by decide +kernel) rfl [8,9] rfl rfl <| Ai rfl <| Ak (λz:Nat×List Int=>[(8,.imm (.int .i64 z.1)),(7,.imm (.int .i64 ps.length)),(0,.imm (.sl (A2 ps))),(1,.fn (.func 177) [] [.ref 5 0,.ref 6 0,.ref 7 0])]) (λz=>tJ m T k S n z.2) [8,9] (λz=>ps.length-z.1) (λz=>z.1<=ps.length/\Mx m T k S n z.1 (ps.drop z.1) z.2 i met') (0,met)
  ⟨AL _,hC⟩ ⟨rfl,AA (by simp),AM⟩ Gw rfl λz hz ih=>?_
 clear hC;obtain ⟨j,K⟩:=z;obtain ⟨hj1,hj2⟩:=hz;simp only at hj1 hj2 ih;refine Aq rfl <| Aa rfl (λh=>?_) (λh=>?_)
 ·have hlt:j<ps.length:=by simp at h;omega
  obtain ⟨t,ht⟩:=Ao hlt;have hg:=A8 ht;rw [Av ht,Mx] at hj2;obtain ⟨b1,K1,h1,h2⟩:=hj2;have hQ:=Xc h1;obtain ⟨t1,t2,t3,t4⟩:=t;refine Aq rfl <| yi rfl (c:=dTyc (.mk t1 t2 t3 t4)) (λ_=>⟨by simp,by simpa using hg,by simp⟩) (by simp) <| Ai rfl <| Ad (fr:=[]) [(1,1),(2,2),(3,3),(4,4),(5,5),(6,6),(7,7)] [] rfl (by simp) hQ UU rfl rfl rfl rfl <| Ai rfl ?_;cases b1 with
  | true =>
   rw [if_pos rfl] at h2;obtain ⟨e1,e2⟩:=h2;subst e1;subst e2;refine Aa rfl (λh=>?_) (λh=>by exfalso;simp at h);exact Aq rfl <| Ag ⟨_,cA⟩
  | false =>
   rw [if_neg (by simp)] at h2;refine Aa rfl (λh=>by exfalso;simp at h) (λh=>?_);exact Aq rfl <| Ae (ih (j+1,K1) (by simp only;omega) ⟨by simp only;omega,h2⟩) ⟨AA (Cb (by omega) (by omega)),AD⟩ Gw rfl
 ·have hlt:¬j<ps.length:=by simp at h;omega
  rw [Br (by omega),Mx] at hj2;obtain ⟨e1,e2⟩:=hj2;subst e1;subst e2;exact Aw rfl <| Aq rfl <| Ag ⟨_,cA⟩
theorem Ro {m:Md} {T:List (Int×Ty)} {k:Int} {S:List Ty} {n:Int} {ps:List Ty} {met met':List Int} {b:Bool} (hl:ps.length<=3) (hC:Ok m T k S n ps met b met') :
  AK Tryz.prog 174 [.imm (.sl (A2 ps)),.fn (.func 177) [] [.ref 5 0,.ref 6 0,.ref 7 0]] (tJ m T k S n met) (.ret (.imm (.bool b)) (tJ m T k S n met')):=by
 obtain ⟨i,h1,h2⟩:=gR 0 hC;have hI:=YE hl h2;have hb:decide (0<=i)=b:=by rw [EU,decide_eq_true_iff];exact h1
 refine Ac Ah Tryz.func174 (by decide +kernel) rfl [8,9] rfl rfl <| Ai rfl <| Ad (fr:=[]) [(1,1),(2,2),(3,3),(4,4),(5,5),(6,6),(7,7)] [] rfl (by simp) hI UU rfl rfl rfl rfl <| Ai rfl <| Ag ⟨_,rfl,tV ?_,Gw⟩;rw [<- hb]
theorem Ti {m:Md} {T:List (Int×Ty)} {k:Int} {S:List Ty} {n:Int} {f n':Int} {x:Str} {ps:List Ty} {met met':List Int} {b:Bool} (h9:f≠9) (hl:ps.length<=3) (hC:Ok m T k S n ps met b met'):DA m T k S n (.mk f n' x ps) met b met':=by
 have hI:=Ro hl hC;unfold DA;refine Ac Ah Tryz.func118 (by decide +kernel) rfl [5,6,7,8,9] rfl rfl <| Ai rfl <| Aa rfl (λh=>by exfalso;simp at h;exact h9 h) (λh=>?_);exact Aq rfl <| Ad (fr:=[]) [(1,1),(2,2),(3,3),(4,4),(5,5),(6,6),(8,7)] [] rfl (by simp) hI UU rfl rfl rfl rfl <| Ai rfl <| Ag ⟨_,Gq⟩
theorem UG {P0:Ty->Prop} {m:Md} {T:List (Int×Ty)} {k:Int} {S:List Ty} {n:Int} {θ:Int->Ty} (hP:∀(p:Ty) (met:List Int),P0 p->MetOk θ n p met->∃b met',DA m T k S n p met b met'/\b=decide (n∈CA (A7 θ p))/\(b=false->MetNew θ n met met')) :
  ∀(ps:List Ty) (met:List Int),(∀p∈ps,P0 p)->(∀p∈ps,MetOk θ n p met)->∃b met',Ok m T k S n ps met b met'/\b=decide (n∈Dm (CO θ ps))/\(b=false->MetNew θ n met met')
 | [],met,_,_=>⟨false,met,⟨rfl,rfl⟩,by simp [CO,Dm],λ_=>MetNew.refl met⟩
 | p::r,met,h0,hm=>by
  obtain ⟨b1,met1,c1,e1,n1⟩:=hP p met (h0 p (by simp)) (hm p (by simp));cases b1 with
  | true =>
   refine ⟨true,met1,?_,?_,λh=>nomatch h⟩
   ·rw [Ok];refine ⟨true,met1,c1,?_⟩;rw [if_pos rfl];exact ⟨rfl,rfl⟩
   ·have:n∈CA (A7 θ p):=of_decide_eq_true e1.symm;simp [CO,Dm,this]
  | false =>
   obtain ⟨b,met',c2,e2,n2⟩:=UG hP r met1 (λq hq=>h0 q (by simp [hq])) (λq hq=>(hm q (by simp [hq])).new (n1 rfl));have hn:n∉CA (A7 θ p):=of_decide_eq_false e1.symm;refine ⟨b,met',?_,?_,λh=>(n1 rfl).trans (n2 h)⟩
   ·rw [Ok];refine ⟨false,met1,c1,?_⟩;rw [if_neg (by simp)];exact c2
   ·rw [e2];simp [CO,Dm,hn]
theorem Pm (m:Md) (T:List (Int×Ty)) (k:Int) (S:List Ty) {n:Int} {θ:Int->Ty} (hs:Sol (B6 T) θ) (hn:B6 T n=none):∀(s:Nat) (t:Ty) (met:List Int),Ek (A7 θ t)<=s->Cl t=true->MetOk θ n t met->∃b met',DA m T k S n t met b met'/\b=decide (n∈CA (A7 θ t))/\(b=false->MetNew θ n met met'):=by
 intro s
 induction s with
 | zero=>intro t met h;have:=Hu (A7 θ t);omega
 | succ s IH =>
 intro t met hN hw hm;have node:∀(t:Ty) (met:List Int),BA t≠9->Ek (A7 θ t)<=s+1->Cl t=true->MetOk θ n t met->∃b met',DA m T k S n t met b met'/\b=decide (n∈CA (A7 θ t))/\(b=false->MetNew θ n met met'):=λt met h9 hN hw hm=>by
  obtain ⟨b,met',c,e,hnew⟩:=UG (P0:=λp=>Ek (A7 θ p)<=s/\Cl p=true) (m:=m) (T:=T) (k:=k) (S:=S) (λp met hp hmp=>IH p met hp.1 hp.2 hmp) (DZ t) met
   (λp hp=>⟨by have:=OD (θ:=θ) h9 hp;omega,DB hw p hp⟩) (λp hp=>hm.part h9 hp)
  have hl:=Gm hw;obtain ⟨f,n',x,ps⟩:=t;simp only [BA] at h9;refine ⟨b,met',Ti h9 hl c,?_,hnew⟩;rw [e];have hi:n∈CA (A7 θ (.mk f n' x ps))↔n∈Dm (CO θ ps):=by simp only [A7,CA,if_neg h9]
  exact decide_eq_decide.2 hi.symm
 by_cases h9:BA t=9
 ·-- holes,one after the other
  have step:∀(h:Int) (met:List Int),(∀h' met,0<=h'->h'<h->Ek (θ h')<=s+1->MetOk θ n (As h') met->∃b met',DA m T k S n (As h') met b met'/\b=decide (n∈CA (θ h'))/\(b=false->MetNew θ n met met')) ->
    Ek (θ h)<=s+1->MetOk θ n (As h) met->∃b met',DA m T k S n (As h) met b met'/\b=decide (n∈CA (θ h))/\(b=false->MetNew θ n met met'):=λh met hrec hN hm=>by
   by_cases hh:h∈met
   ·exact ⟨false,met,Xb m T k S n h met hh,(decide_eq_false (hm.met hh)).symm,λ_=>MetNew.refl met⟩
   by_cases hnn:h=n
   ·subst hnn;refine ⟨true,met++[h],UH m T k S h met hh hn,?_,λh=>nomatch h⟩;rw [hs.free h hn];simp [As,CA]
   have hadd:n∉CA (θ h)->MetNew θ n met (met++[h]):=λhx y hy=>by
    rcases BH.1 hy with hy | hy
    ·exact .inl hy
    ·rw [AO.1 hy];exact .inr hx
   cases hsb:B6 T h with
   | none =>
    have hx:n∉CA (θ h):=by rw [hs.free h hsb];simp [As,CA];exact λe=>hnn e.symm
    exact ⟨false,met++[h],Je m T k S n h met hh hnn hsb,(decide_eq_false hx).symm,λ_=>hadd hx⟩
   | some u =>
    have hθ:θ h=A7 θ u:=hs.eq h u hsb;have hwu:=hs.wf h u hsb;have hmu:MetOk θ n u (met++[h]):=λy hy=>hm.next hs hsb y (by
     rcases BH.1 hy with hy | hy
     ·exact H3 _ hy
     ·rw [AO.1 hy];exact PP ..)
    have hrest:∃b met',DA m T k S n u (met++[h]) b met'/\b=decide (n∈CA (A7 θ u))/\(b=false->MetNew θ n (met++[h]) met'):=by
     by_cases hu9:BA u=9
     ·have hd:=hs.down h u hsb hu9;have eu:=DC hwu hu9;rw [Gi hu9];rw [eu] at hmu ⊢;have h':=hrec (num u) (met++[h]) hd.1 hd.2 (by rw [hθ,Gi hu9] at hN;exact hN) hmu;exact h'
     ·exact node u (met++[h]) hu9 (by rw [<- hθ];exact hN) hwu hmu
    obtain ⟨b,met',c,e,hnew⟩:=hrest;refine ⟨b,met',UI m T k S n h met met' u b hh hnn hsb c,by rw [hθ];exact e,λhb=>?_⟩;have hx:n∉CA (θ h):=by
     rw [hθ];subst hb;exact of_decide_eq_false e.symm
    exact (hadd hx).trans (hnew hb)
  have key:∀(j:Nat) (h:Int) (met:List Int),(0<=h->h<j)->Ek (θ h)<=s+1->MetOk θ n (As h) met->∃b met',DA m T k S n (As h) met b met'/\b=decide (n∈CA (θ h))/\(b=false->MetNew θ n met met'):=by
   intro j
   induction j with
   | zero =>
    intro h met hj hN hm;exact step h met (λh' _ h1 h2=>by omega) hN hm
   | succ j ih =>
    intro h met hj hN hm;exact step h met (λh' met h1 h2 h3 h4=>ih h' met (λ_=>by omega) h3 h4) hN hm
  have et:=DC hw h9;rw [Gi h9] at hN ⊢;rw [et] at hm ⊢;exact key ((num t).toNat+1) (num t) met (λ_=>by omega) hN hm
 ·exact node t met h9 hN hw hm
end Go.Hk
namespace Go.Hk
section
variable {P:Program} {n:Nat} {F:List Nat} {Q:DQ} {tt:TT} {env env':Env} {st st' st0:St} {ids ids':List Nat} {k todo todo':List DI} {I:Imm} {μ:Mu} {w w':World} {a:Act} {Pn:V->Prop} {d:D} {cx:Prop} {ob:List Prop} {σ:List (Nat×Nat)} {das:List D}
def R9:D:=.slc 0 0 1 0
theorem Bk (t:Nat) (h:lk env t=some R9):DGo P n F Q todo env st ids:=by
 intro b cs I μ a w items hd hc;have hv:=hc.env t _ h;generalize a.tmps.getD t undef=v at hv;cases hv;omega
theorem PY {all:List Oper} {o:Oper} {f:FuncId} {x:V} (hg:o.guard=none) (hc:E7 P o env f das True) (hE:AK P f (Fp (Ec σ) das) st0 (.pan x)) (hb:EI σ st st0) (hn:CR σ (Bb σ) (HU das)=true) (hq:Pn x) :
  LD P Pn all o env st (Fu σ) [] [] d:=by
 intro I μ st2 ids1 a w hag hst hon;refine ⟨λ_=>?_,λhw=>by rw [AG hg] at hw;cases hw⟩;obtain ⟨xs,h1,h2⟩:=hc I μ a w (Bd hon) trivial;have hb':=F2 hag hb;obtain ⟨p1,p2,p3⟩:=FP hst hb' hn h1;rw [h2];refine (hE I _ w xs p1 p2).mono (λ_ _ h=>h.elim) λchain w' hp=>?_;obtain ⟨v,y,I',r1,r2,r3,r4,r5⟩:=hp;subst r2;have hE':Ext I μ st2 w I' μ [] w':={ imm:=r5.imm,os:=r5.os,tape:=r5.tape,output:=r5.output,size:=r5.size,block:=λb hb ho=>r5.block b hb (λh=>ho (p3 b h)),fresh:=λb hb ⟨i,bi,g,h1,_⟩=>by simp [Az,lk] at h1,old:=λb hb ho=>r5.old b hb (λh=>ho (p3 b h)) }
 exact ⟨v,y,I',r1,hq,r3,r4,hE'⟩
theorem AU {c:SZ} {x:V} (σ:List (Nat×Nat)) (h:SP n env todo=some c) (hob:AB c.ob) (hE:AK P c.f (Fp (Ec σ) c.das) st0 (.pan x)) (hb:EI σ st st0) (hn:CR σ (Bb σ) (HU c.das)=true) (hq:Kn Q x)
  (h1:Bh todo (Fu σ,[])=some (c.all,c.o,todo')) (hk:G P n F Q todo' (BD c.dst R9 env) st ids):G P n F Q todo env st ids:=by
 obtain ⟨_,q2,q3,q4,q5,q6⟩:=Mj (P:=P) h hob;rw [q6] at q4 hk;exact B9 (fr:=[]) (wr:=[]) h1 (PY q2 q3 hE hb hn hq) q4 q5 hk
end
end Go.Hk
namespace Go.Hk
open Go.Proofs
def CU (m:Md) (T:List (Int×Ty)) (k:Int) (S:List Ty) (a b:Ty) (T':List (Int×Ty)):Prop :=
 AK Tryz.prog 57 [.ref 1 0,.imm (.agg (dTyc a)),.imm (.agg (dTyc b))] (C8 m T k S) (.ret (.imm (.tup [])) (C8 m T' k S))
def D8 (m:Md) (T:List (Int×Ty)) (k:Int) (S:List Ty) (a b:Ty):Prop :=
 AK Tryz.prog 57 [.ref 1 0,.imm (.agg (dTyc a)),.imm (.agg (dTyc b))] (C8 m T k S) (.pan FO)
theorem mP (m:Md) (T:List (Int×Ty)) (k:Int) (S:List Ty) {θ:Int->Ty} (hs:Sol (B6 T) θ) (a b:Ty) (h:Int) (ha:Top (B6 T) a (As h)) (hb:Top (B6 T) b (As h)):CU m T k S a b T:=by
 unfold CU;have hA:=BZ m T k S hs a _ ha;have hB:=BZ m T k S hs b _ hb;obtain ⟨a1,a2,a3,a4⟩:=a;obtain ⟨b1,b2,b3,b4⟩:=b;refine Ac Ah Tryz.func57 (by decide +kernel) rfl [4,5,6,7] rfl rfl <| Ai rfl <| A4 [(1,1),(2,2),(3,3)] [] [1,2,3] (fr:=[]) (nm:=[]) rfl trivial (by simp) hA Au rfl DM rfl rfl rfl <| Ai rfl <| A4 [(1,1),(2,2),(3,3)] [] [1,2,3] (fr:=[]) (nm:=[]) rfl trivial (by simp) hB Au rfl DM rfl rfl rfl <| yg [] rfl (by simp [Am];rfl) <| Aa rfl (λh=>by exfalso;simp at h) (λh=>?_);refine yd [.a] rfl (by simp [Am]) <| Aa rfl (λh=>?_) (λh=>by exfalso;simp at h);exact Aq rfl <| Ag ⟨_,Bx⟩
theorem Wl (m:Md) (T:List (Int×Ty)) (k:Int) (S:List Ty) {θ:Int->Ty} (hs:Sol (B6 T) θ) (a b u:Ty) (h:Int) (ha:Top (B6 T) a (As h)) (hb:Top (B6 T) b u) (hu:BA u≠9) (hwu:Cl u=true) (ho:h∉CA (A7 θ u)):CU m T k S a b (Pw T h u):=by
 unfold CU;have hA:=BZ m T k S hs a _ ha;have hB:=BZ m T k S hs b _ hb;have hfree:B6 T h=none:=ha.end_ rfl;obtain ⟨o,met',hC,e,_⟩:=Pm m T k S hs hfree _ u [] (B8 _) hwu (λx hx=>nomatch hx);rw [decide_eq_false ho] at e;subst e;unfold DA at hC;have hst:=Jf h u T;obtain ⟨a1,a2,a3,a4⟩:=a;obtain ⟨b1,b2,b3,b4⟩:=b;obtain ⟨u1,u2,u3,u4⟩:=u;simp only [BA] at hu;have hub:(u1 == 9)=false:=by simpa using hu
 refine Ac Ah Tryz.func57 (by decide +kernel) rfl [4,5,6,7] rfl rfl <| Ai rfl <| A4 [(1,1),(2,2),(3,3)] [] [1,2,3] (fr:=[]) (nm:=[]) rfl trivial (by simp) hA Au rfl DM rfl rfl rfl <| Ai rfl <| A4 [(1,1),(2,2),(3,3)] [] [1,2,3] (fr:=[]) (nm:=[]) rfl trivial (by simp) hB Au rfl DM rfl rfl rfl <| yg [] rfl (by simp [Am];rfl) <| Aa rfl (λh=>by exfalso;simp [hub] at h) (λh=>?_);refine yd [.a] rfl (by simp [Am]) <| Aa rfl (λh=>by exfalso;simp [hub] at h) (λh=>?_)
 exact Aq rfl <| Ei rfl <| Ai rfl <| A4 [(1,1),(2,2),(3,3),(6,4)] [] [1,2,3] (fr:=[]) (nm:=[6,6]) rfl trivial (by simp) hC Jg rfl DM rfl rfl rfl <| Ai rfl <| Af rfl Fc <| Ai rfl <| EW Ah rfl rfl rfl (DU T) <| yg [] rfl (by simp;rfl) <| BE ⟨_,rfl,rfl,rfl,congrArg (λx=>some (some (Blk.map x))) hst,AI⟩
theorem aH (m:Md) (T:List (Int×Ty)) (k:Int) (S:List Ty) {θ:Int->Ty} (hs:Sol (B6 T) θ) (a b u:Ty) (h:Int) (ha:Top (B6 T) a (As h)) (hb:Top (B6 T) b u) (hu:BA u≠9) (hwu:Cl u=true) (ho:h∈CA (A7 θ u)):D8 m T k S a b:=by
 unfold D8;have hA:=BZ m T k S hs a _ ha;have hB:=BZ m T k S hs b _ hb;have hfree:B6 T h=none:=ha.end_ rfl;obtain ⟨o,met',hC,e,_⟩:=Pm m T k S hs hfree _ u [] (B8 _) hwu (λx hx=>nomatch hx);rw [decide_eq_true ho] at e;subst e;unfold DA at hC;obtain ⟨a1,a2,a3,a4⟩:=a;obtain ⟨b1,b2,b3,b4⟩:=b;obtain ⟨u1,u2,u3,u4⟩:=u;simp only [BA] at hu;have hub:(u1 == 9)=false:=by simpa using hu
 refine Ac Ah Tryz.func57 (by decide +kernel) rfl [4,5,6,7] rfl rfl <| Ai rfl <| A4 [(1,1),(2,2),(3,3)] [] [1,2,3] (fr:=[]) (nm:=[]) rfl trivial (by simp) hA Au rfl DM rfl rfl rfl <| Ai rfl <| A4 [(1,1),(2,2),(3,3)] [] [1,2,3] (fr:=[]) (nm:=[]) rfl trivial (by simp) hB Au rfl DM rfl rfl rfl <| yg [] rfl (by simp [Am];rfl) <| Aa rfl (λh=>by exfalso;simp [hub] at h) (λh=>?_);refine yd [.a] rfl (by simp [Am]) <| Aa rfl (λh=>by exfalso;simp [hub] at h) (λh=>?_);exact Aq rfl <| Ei rfl <| Ai rfl <| A4 [(1,1),(2,2),(3,3),(6,4)] [] [1,2,3] (fr:=[]) (nm:=[6,6]) rfl trivial (by simp) hC Jg rfl DM rfl rfl rfl <| Ai rfl <| AU [] rfl (by simp) (Ia _ rfl) trivial rfl rfl rfl <| Bk 99 rfl
theorem qP (m:Md) (T:List (Int×Ty)) (k:Int) (S:List Ty) {θ:Int->Ty} (hs:Sol (B6 T) θ) (a b:Ty) (h g:Int) (ha:Top (B6 T) a (As h)) (hb:Top (B6 T) b (As g)) (hg:g<h):CU m T k S a b (Pw T h (As g)):=by
 unfold CU;have hA:=BZ m T k S hs a _ ha;have hB:=BZ m T k S hs b _ hb;have hC:=Je m T k S h g [] (by simp) (by omega) (hb.end_ rfl);unfold DA at hC;have hst:=Jf h (As g) T;obtain ⟨a1,a2,a3,a4⟩:=a;obtain ⟨b1,b2,b3,b4⟩:=b;refine Ac Ah Tryz.func57 (by decide +kernel) rfl [4,5,6,7] rfl rfl <| Ai rfl <| A4 [(1,1),(2,2),(3,3)] [] [1,2,3] (fr:=[]) (nm:=[]) rfl trivial (by simp) hA Au rfl DM rfl rfl rfl <| Ai rfl <| A4 [(1,1),(2,2),(3,3)] [] [1,2,3] (fr:=[]) (nm:=[]) rfl trivial (by simp) hB Au rfl DM rfl rfl rfl <| yg [] rfl (by simp [Am];rfl) <| Aa rfl (λh'=>by exfalso;simp at h';omega) (λh'=>?_);refine yd [.a] rfl (by simp [Am]) <| Aa rfl (λh'=>by exfalso;simp at h';omega) (λh'=>?_)
 exact Aq rfl <| Ei rfl <| Ai rfl <| A4 [(1,1),(2,2),(3,3),(6,4)] [] [1,2,3] (fr:=[]) (nm:=[6,6]) rfl trivial (by simp) hC Jg rfl DM rfl rfl rfl <| Ai rfl <| Af rfl Fc <| Ai rfl <| EW Ah rfl rfl rfl (DU T) <| yg [] rfl (by simp;rfl) <| BE ⟨_,rfl,rfl,rfl,congrArg (λx=>some (some (Blk.map x))) hst,AI⟩
theorem mN (m:Md) (T:List (Int×Ty)) (k:Int) (S:List Ty) {θ:Int->Ty} (hs:Sol (B6 T) θ) (a b:Ty) (h g:Int) (ha:Top (B6 T) a (As h)) (hb:Top (B6 T) b (As g)) (hg:h<g):CU m T k S a b (Pw T g (As h)):=by
 unfold CU;have hA:=BZ m T k S hs a _ ha;have hB:=BZ m T k S hs b _ hb;have hC:=Je m T k S g h [] (by simp) (by omega) (ha.end_ rfl);unfold DA at hC;have hst:=Jf g (As h) T;obtain ⟨a1,a2,a3,a4⟩:=a;obtain ⟨b1,b2,b3,b4⟩:=b;refine Ac Ah Tryz.func57 (by decide +kernel) rfl [4,5,6,7] rfl rfl <| Ai rfl <| A4 [(1,1),(2,2),(3,3)] [] [1,2,3] (fr:=[]) (nm:=[]) rfl trivial (by simp) hA Au rfl DM rfl rfl rfl <| Ai rfl <| A4 [(1,1),(2,2),(3,3)] [] [1,2,3] (fr:=[]) (nm:=[]) rfl trivial (by simp) hB Au rfl DM rfl rfl rfl <| yg [] rfl (by simp [Am];rfl) <| Aa rfl (λh'=>?_) (λh'=>by exfalso;simp at h';omega);refine yd [.a] rfl (by simp [Am]) <| Aa rfl (λh'=>by exfalso;simp at h';omega) (λh'=>?_)
 exact Aq rfl <| Ei rfl <| Ai rfl <| A4 [(1,1),(2,2),(3,3),(6,4)] [] [1,2,3] (fr:=[]) (nm:=[6,6]) rfl trivial (by simp) hC Jg rfl DM rfl rfl rfl <| Ai rfl <| Af rfl Fc <| Ai rfl <| EW Ah rfl rfl rfl (DU T) <| yg [] rfl (by simp;rfl) <| BE ⟨_,rfl,rfl,rfl,congrArg (λx=>some (some (Blk.map x))) hst,AI⟩
theorem mO (m:Md) (T T':List (Int×Ty)) (k:Int) (S:List Ty) {θ:Int->Ty} (hs:Sol (B6 T) θ) (a b u:Ty) (h:Int) (ha:Top (B6 T) a u) (hb:Top (B6 T) b (As h)) (hu:BA u≠9) (hE:CU m T k S (As h) u T'):CU m T k S a b T':=by
 unfold CU at hE ⊢;have hA:=BZ m T k S hs a _ ha;have hB:=BZ m T k S hs b _ hb;obtain ⟨a1,a2,a3,a4⟩:=a;obtain ⟨b1,b2,b3,b4⟩:=b;obtain ⟨u1,u2,u3,u4⟩:=u;simp only [BA] at hu;have hub:(u1 == 9)=false:=by simpa using hu
 refine Ac Ah Tryz.func57 (by decide +kernel) rfl [4,5,6,7] rfl rfl <| Ai rfl <| A4 [(1,1),(2,2),(3,3)] [] [1,2,3] (fr:=[]) (nm:=[]) rfl trivial (by simp) hA Au rfl DM rfl rfl rfl <| Ai rfl <| A4 [(1,1),(2,2),(3,3)] [] [1,2,3] (fr:=[]) (nm:=[]) rfl trivial (by simp) hB Au rfl DM rfl rfl rfl <| yg [] rfl (by simp [Am];rfl) <| Aa rfl (λh'=>by exfalso;simp [hub] at h') (λh'=>?_);refine Aq rfl <| Aa rfl (λh'=>by exfalso;simp [hub] at h') (λh'=>?_);exact yd [.a] rfl (by simp) <| Ad (fr:=[]) [(1,1),(2,2),(3,3)] [] rfl (by simp) hE Au rfl rfl rfl rfl <| Ai rfl <| BE ⟨_,Bx⟩
theorem eP (m:Md) (T:List (Int×Ty)) (k:Int) (S:List Ty) {θ:Int->Ty} (hs:Sol (B6 T) θ) (a b u:Ty) (h:Int) (ha:Top (B6 T) a u) (hb:Top (B6 T) b (As h)) (hu:BA u≠9) (hE:D8 m T k S (As h) u):D8 m T k S a b:=by
 unfold D8 at hE ⊢;have hA:=BZ m T k S hs a _ ha;have hB:=BZ m T k S hs b _ hb;obtain ⟨a1,a2,a3,a4⟩:=a;obtain ⟨b1,b2,b3,b4⟩:=b;obtain ⟨u1,u2,u3,u4⟩:=u;simp only [BA] at hu;have hub:(u1 == 9)=false:=by simpa using hu
 refine Ac Ah Tryz.func57 (by decide +kernel) rfl [4,5,6,7] rfl rfl <| Ai rfl <| A4 [(1,1),(2,2),(3,3)] [] [1,2,3] (fr:=[]) (nm:=[]) rfl trivial (by simp) hA Au rfl DM rfl rfl rfl <| Ai rfl <| A4 [(1,1),(2,2),(3,3)] [] [1,2,3] (fr:=[]) (nm:=[]) rfl trivial (by simp) hB Au rfl DM rfl rfl rfl <| yg [] rfl (by simp [Am];rfl) <| Aa rfl (λh'=>by exfalso;simp [hub] at h') (λh'=>?_);refine Aq rfl <| Aa rfl (λh'=>by exfalso;simp [hub] at h') (λh'=>?_);exact yd [.a] rfl (by simp) <| AU [(1,1),(2,2),(3,3)] rfl (by simp) hE Au rfl rfl rfl <| Bk 114 rfl
theorem YV (m:Md) (T:List (Int×Ty)) (k:Int) (S:List Ty) {θ:Int->Ty} (hs:Sol (B6 T) θ) (a b u v:Ty) (ha:Top (B6 T) a u) (hb:Top (B6 T) b v) (hu:BA u≠9) (hv:BA v≠9) (hd:¬EG u v):D8 m T k S a b:=by
 unfold D8;have hA:=BZ m T k S hs a _ ha;have hB:=BZ m T k S hs b _ hb;obtain ⟨a1,a2,a3,a4⟩:=a;obtain ⟨b1,b2,b3,b4⟩:=b;obtain ⟨u1,u2,u3,u4⟩:=u;obtain ⟨v1,v2,v3,v4⟩:=v;simp only [BA] at hu hv;simp only [EG,BA,num,WR,DZ] at hd;have hub:(u1 == 9)=false:=by simpa using hu
 have hvb:(v1 == 9)=false:=by simpa using hv
 refine Ac Ah Tryz.func57 (by decide +kernel) rfl [4,5,6,7] rfl rfl <| Ai rfl <| A4 [(1,1),(2,2),(3,3)] [] [1,2,3] (fr:=[]) (nm:=[]) rfl trivial (by simp) hA Au rfl DM rfl rfl rfl <| Ai rfl <| A4 [(1,1),(2,2),(3,3)] [] [1,2,3] (fr:=[]) (nm:=[]) rfl trivial (by simp) hB Au rfl DM rfl rfl rfl <| yg [] rfl (by simp [Am];rfl) <| Aa rfl (λh'=>by exfalso;simp [hub] at h') (λh'=>?_);refine Aq rfl <| Aa rfl (λh'=>by exfalso;simp [hub] at h') (λh'=>?_);refine Aq rfl <| Aa rfl (λh'=>by exfalso;simp [hvb] at h') (λh'=>?_);refine KM rfl <| AU [] rfl (by simp) (Ia _ (by
  show (bif bif bif u1 == v1 then u2 == v2 else false then u3 == v3 else false then ((A2 u4).length:Int) == (A2 v4).length else false)=false;rw [Bool.eq_false_iff];intro hc;apply hd;simp at hc;obtain ⟨⟨⟨c1,c2⟩,c3⟩,c4⟩:=hc;exact ⟨c1,c2,c3,by omega⟩)) trivial rfl rfl rfl ?_
 exact Bk 58 rfl
def fO (m:Md) (k:Int) (S:List Ty):List Ty->List Ty->List (Int×Ty)->List (Int×Ty)->Prop
 | a::r,b::q,T,T'=>∃T1,CU m T k S a b T1/\fO m k S r q T1 T'
 | _,_,T,T'=>T'=T
theorem eQ (m:Md) (T T':List (Int×Ty)) (k:Int) (S:List Ty) {θ:Int->Ty} (hs:Sol (B6 T) θ) (a b u v:Ty) (ha:Top (B6 T) a u) (hb:Top (B6 T) b v) (hu:BA u≠9) (hv:BA v≠9) (hd:EG u v) (hw:Cl u=true) (hC:fO m k S (DZ u) (DZ v) T T'):CU m T k S a b T':=by
 unfold CU;have hA:=BZ m T k S hs a _ ha;have hB:=BZ m T k S hs b _ hb;have hul:=Gm hw;obtain ⟨a1,a2,a3,a4⟩:=a;obtain ⟨b1,b2,b3,b4⟩:=b;obtain ⟨u1,u2,u3,ps⟩:=u;obtain ⟨v1,v2,v3,qs⟩:=v;simp only [BA] at hu hv;simp only [EG,BA,num,WR,DZ] at hd hul hC;obtain ⟨rfl,rfl,rfl,hl⟩:=hd;have hub:(u1 == 9)=false:=by simpa using hu
 refine Ac Ah Tryz.func57 (by decide +kernel) rfl [4,5,6,7] rfl rfl <| Ai rfl <| A4 [(1,1),(2,2),(3,3)] [] [1,2,3] (fr:=[]) (nm:=[]) rfl trivial (by simp) hA Au rfl DM rfl rfl rfl <| Ai rfl <| A4 [(1,1),(2,2),(3,3)] [] [1,2,3] (fr:=[]) (nm:=[]) rfl trivial (by simp) hB Au rfl DM rfl rfl rfl <| yg [] rfl (by simp [Am];rfl) <| Aa rfl (λh'=>by exfalso;simp [hub] at h') (λh'=>?_);refine Aq rfl <| Aa rfl (λh'=>by exfalso;simp [hub] at h') (λh'=>?_);refine Aq rfl <| Aa rfl (λh'=>by exfalso;simp [hub] at h') (λh'=>?_);refine KM rfl ?_
 have hwt:Al Tryz.prog 117 [.bool (bif bif bif u1 == u1 then u2 == u2 else false then u3 == u3 else false then ((A2 ps).length:Int) == (A2 qs).length else false)] (.tup []):=by
  rw [show (bif bif bif u1 == u1 then u2 == u2 else false then u3 == u3 else false then ((A2 ps).length:Int) == (A2 qs).length else false)=true by simp;omega];exact Fc
 refine Af rfl hwt <| Ai rfl <| Ak (λz:Nat×List (Int×Ty)=>[(62,.imm (.int .i64 z.1)),(61,.imm (.int .i64 ps.length)),(0,.ref 1 0),(4,.ref 4 0),(5,.ref 5 0)]) (λz=>(4,some (.immb 25 4 (dTyc (.mk u1 u2 u3 ps))))::(5,some (.immb 25 4 (dTyc (.mk u1 u2 u3 qs))))::C8 m z.2 k S) [6,7] (λz=>ps.length-z.1)
  (λz=>z.1<=ps.length/\fO m k S (ps.drop z.1) (qs.drop z.1) z.2 T') (0,T)
  ⟨AL _,hC⟩ ⟨rfl,AA (by simp),AD⟩ Bx rfl λz hz ih=>?_
 clear hC;obtain ⟨j,K⟩:=z;obtain ⟨hj1,hj2⟩:=hz;simp only at hj1 hj2 ih;refine Aq rfl <| Aa rfl (λh'=>?_) (λh'=>?_)
 ·have hlt:j<ps.length:=by simp at h';omega
  obtain ⟨p,hp⟩:=Ao hlt;obtain ⟨q,hq⟩:=Ao (l:=qs) (i:=j) (by omega);have hgp:=A8 hp;have hgq:=A8 hq;rw [Av hp,Av hq,fO] at hj2;obtain ⟨K1,hE,hj2⟩:=hj2;unfold CU at hE;obtain ⟨p1,p2,p3,p4⟩:=p;obtain ⟨q1,q2,q3,q4⟩:=q;exact Aq rfl <| yi rfl (c:=dTyc (.mk p1 p2 p3 p4)) (λ_=>⟨by simp,by simpa using hgp,by simp⟩) (by simp) <| Ai rfl <| yi rfl (c:=dTyc (.mk q1 q2 q3 q4)) (λ_=>⟨by simp,by simpa using hgq,by simp⟩) (by simp) <| Ai rfl <| Ad (fr:=[]) [(1,1),(2,2),(3,3)] [] rfl (by simp) hE Au rfl rfl rfl rfl <| yg [] rfl (by simp;rfl) <| Ae (ih (j+1,K1) (by simp only;omega) ⟨by simp only;omega,hj2⟩) ⟨AA (Cb (by omega) (by omega)),BF⟩ Bx rfl
 ·have hlt:¬j<ps.length:=by simp at h';omega
  rw [Br (by omega)] at hj2;simp only [fO] at hj2;subst hj2;exact Aw rfl <| Aq rfl <| BE ⟨_,Bx⟩
def fN (m:Md) (k:Int) (S:List Ty):List Ty->List Ty->List (Int×Ty)->Prop
 | a::r,b::q,T=>D8 m T k S a b\/∃T1,CU m T k S a b T1/\fN m k S r q T1
 | _,_,_=>False
theorem YU (m:Md) (T:List (Int×Ty)) (k:Int) (S:List Ty) {θ:Int->Ty} (hs:Sol (B6 T) θ) (a b u v:Ty) (ha:Top (B6 T) a u) (hb:Top (B6 T) b v) (hu:BA u≠9) (hv:BA v≠9) (hd:EG u v) (hw:Cl u=true) (hC:fN m k S (DZ u) (DZ v) T):D8 m T k S a b:=by
 unfold D8;have hA:=BZ m T k S hs a _ ha;have hB:=BZ m T k S hs b _ hb;have hul:=Gm hw;obtain ⟨a1,a2,a3,a4⟩:=a;obtain ⟨b1,b2,b3,b4⟩:=b;obtain ⟨u1,u2,u3,ps⟩:=u;obtain ⟨v1,v2,v3,qs⟩:=v;simp only [BA] at hu hv;simp only [EG,BA,num,WR,DZ] at hd hul hC;obtain ⟨rfl,rfl,rfl,hl⟩:=hd;have hub:(u1 == 9)=false:=by simpa using hu
 refine Ac Ah Tryz.func57 (by decide +kernel) rfl [4,5,6,7] rfl rfl <| Ai rfl <| A4 [(1,1),(2,2),(3,3)] [] [1,2,3] (fr:=[]) (nm:=[]) rfl trivial (by simp) hA Au rfl DM rfl rfl rfl <| Ai rfl <| A4 [(1,1),(2,2),(3,3)] [] [1,2,3] (fr:=[]) (nm:=[]) rfl trivial (by simp) hB Au rfl DM rfl rfl rfl <| yg [] rfl (by simp [Am];rfl) <| Aa rfl (λh'=>by exfalso;simp [hub] at h') (λh'=>?_);refine Aq rfl <| Aa rfl (λh'=>by exfalso;simp [hub] at h') (λh'=>?_);refine Aq rfl <| Aa rfl (λh'=>by exfalso;simp [hub] at h') (λh'=>?_);refine KM rfl ?_
 have hwt:Al Tryz.prog 117 [.bool (bif bif bif u1 == u1 then u2 == u2 else false then u3 == u3 else false then ((A2 ps).length:Int) == (A2 qs).length else false)] (.tup []):=by
  rw [show (bif bif bif u1 == u1 then u2 == u2 else false then u3 == u3 else false then ((A2 ps).length:Int) == (A2 qs).length else false)=true by simp;omega];exact Fc
 refine Af rfl hwt <| Ai rfl <| Ak (λz:Nat×List (Int×Ty)=>[(62,.imm (.int .i64 z.1)),(61,.imm (.int .i64 ps.length)),(0,.ref 1 0),(4,.ref 4 0),(5,.ref 5 0)]) (λz=>(4,some (.immb 25 4 (dTyc (.mk u1 u2 u3 ps))))::(5,some (.immb 25 4 (dTyc (.mk u1 u2 u3 qs))))::C8 m z.2 k S) [6,7] (λz=>ps.length-z.1)
  (λz=>z.1<=ps.length/\fN m k S (ps.drop z.1) (qs.drop z.1) z.2) (0,T)
  ⟨AL _,hC⟩ ⟨rfl,AA (by simp),AD⟩ Bx rfl λz hz ih=>?_
 clear hC;obtain ⟨j,K⟩:=z;obtain ⟨hj1,hj2⟩:=hz;simp only at hj1 hj2 ih;refine Aq rfl <| Aa rfl (λh'=>?_) (λh'=>?_)
 ·have hlt:j<ps.length:=by simp at h';omega
  obtain ⟨p,hp⟩:=Ao hlt;obtain ⟨q,hq⟩:=Ao (l:=qs) (i:=j) (by omega);have hgp:=A8 hp;have hgq:=A8 hq;rw [Av hp,Av hq,fN] at hj2;obtain ⟨p1,p2,p3,p4⟩:=p;obtain ⟨q1,q2,q3,q4⟩:=q;refine Aq rfl <| yi rfl (c:=dTyc (.mk p1 p2 p3 p4)) (λ_=>⟨by simp,by simpa using hgp,by simp⟩) (by simp) <| Ai rfl <| yi rfl (c:=dTyc (.mk q1 q2 q3 q4)) (λ_=>⟨by simp,by simpa using hgq,by simp⟩) (by simp) <| Ai rfl ?_;rcases hj2 with hE | ⟨K1,hE,hj2⟩
  ·unfold D8 at hE;exact AU [(1,1),(2,2),(3,3)] rfl (by simp) hE Au rfl rfl rfl <| M5 1 rfl (by simp;rfl) <| Bk 76 rfl
  ·unfold CU at hE;exact Ad (fr:=[]) [(1,1),(2,2),(3,3)] [] rfl (by simp) hE Au rfl rfl rfl rfl <| yg [] rfl (by simp;rfl) <| Ae (ih (j+1,K1) (by simp only;omega) ⟨by simp only;omega,hj2⟩) ⟨AA (Cb (by omega) (by omega)),BF⟩ Bx rfl
 ·have hlt:¬j<ps.length:=by simp at h';omega
  rw [Br (by omega)] at hj2;simp only [fN] at hj2
def xD (m:Md) (T:List (Int×Ty)) (k:Int) (S:List Ty) (a b:Ty):Option Sb->Prop
 | some σ'=>∃T',CU m T k S a b T'/\B6 T'=σ'
 | none=>D8 m T k S a b
def EqsR (m:Md) (T:List (Int×Ty)) (k:Int) (S:List Ty) (xs ys:List Ty):Option Sb->Prop
 | some σ'=>∃T',fO m k S xs ys T T'/\B6 T'=σ'
 | none=>fN m k S xs ys T
theorem SL {m:Md} {k:Int} {S:List Ty} {H n:Nat} (hE:∀(T:List (Int×Ty)) (a b:Ty) (r:Option Sb),M4 n (B6 T) a b r->(∃θ,Sol (B6 T) θ)->Dom H (B6 T)->Cl a=true->Cl b=true->inB H a->inB H b->xD m T k S a b r) :
  ∀(xs ys:List Ty) (T:List (Int×Ty)) (r:Option Sb),Kx (M4 n) (B6 T) xs ys r->(∃θ,Sol (B6 T) θ)->Dom H (B6 T)->(∀x∈xs,Cl x=true/\inB H x)->(∀y∈ys,Cl y=true/\inB H y)->EqsR m T k S xs ys r
 | [],[],T,r,h,_,_,_,_=>by
  have e:r=some (B6 T):=h;subst e;exact ⟨T,rfl,rfl⟩
 | [],_::_,_,_,h,_,_,_,_=>h.elim
 | _::_,[],_,_,h,_,_,_,_=>h.elim
 | x::xs,y::ys,T,r,h,hs,hd,hx,hy=>by
  rcases h with ⟨h1,rfl⟩ | ⟨σ1,h1,h2⟩
  ·exact .inl (hE T x y none h1 hs hd (hx x (by simp)).1 (hy y (by simp)).1 (hx x (by simp)).2 (hy y (by simp)).2)
  ·obtain ⟨T1,c1,e1⟩:=hE T x y (some σ1) h1 hs hd (hx x (by simp)).1 (hy y (by simp)).1 (hx x (by simp)).2 (hy y (by simp)).2;obtain ⟨θ,hθ⟩:=hs;obtain ⟨g1,g2,_,_⟩:=Q2 h1 hθ hd (hx x (by simp)).1 (hy y (by simp)).1 (hx x (by simp)).2 (hy y (by simp)).2;subst e1;have ih:=SL hE xs ys T1 r h2 g1 g2 (λz hz=>hx z (by simp [hz])) (λz hz=>hy z (by simp [hz]));cases r with
   | none=>exact .inr ⟨T1,c1,ih⟩
   | some σ' =>
    obtain ⟨T',c2,e2⟩:=ih;exact ⟨T',⟨T1,c1,c2⟩,e2⟩
theorem aI (m:Md) (k:Int) (S:List Ty) {H:Nat}:∀(n:Nat) (T:List (Int×Ty)) (a b:Ty) (r:Option Sb),M4 n (B6 T) a b r->(∃θ,Sol (B6 T) θ)->Dom H (B6 T)->Cl a=true->Cl b=true->inB H a->inB H b->xD m T k S a b r:=by
 intro n
 induction n with
 | zero=>intro T a b r h;exact h.elim
 | succ n IH =>
 intro T a b r hE hs hd wa wb ia ib;obtain ⟨u,v,hu,hv,hT⟩:=hE;obtain ⟨θ,hθ⟩:=hs;have wu:=hu.wf hθ wa;have wv:=hv.wf hθ wb;have iu:=hu.inB hd ia;have iv:=hv.inB hd ib;by_cases u9:BA u=9
 ·have eu:=DC wu u9;by_cases v9:BA v=9
  ·have ev:=DC wv v9;rw [eu] at hu;rw [ev] at hv;by_cases e:num u=num v
   ·have hr:r=some (B6 T):=by simpa [CZ,u9,v9,e] using hT
    subst hr;rw [e] at hu;exact ⟨T,mP m T k S hθ a b (num v) hu hv,rfl⟩
   ·have hr:r=some (Ej (B6 T) (max (num u) (num v)) (As (min (num u) (num v)))):=by simpa [CZ,u9,v9,e] using hT
    subst hr;rcases Int.lt_or_gt_of_ne e with hl | hl
    ·rw [XY (by omega),XW (by omega)];exact ⟨_,mN m T k S hθ a b (num u) (num v) hu hv hl,Iw _ _ _⟩
    ·rw [XX (by omega),XV (by omega)];exact ⟨_,qP m T k S hθ a b (num u) (num v) hu hv hl,Iw _ _ _⟩
  ·rw [eu] at hu;by_cases o:fJ (B6 T) (num u) v
   ·have hr:r=none:=by simpa [CZ,u9,v9,o] using hT
    subst hr;exact aH m T k S hθ a b v (num u) hu hv v9 wv (hθ.occ.1 o)
   ·have hr:r=some (Ej (B6 T) (num u) v):=by simpa [CZ,u9,v9,o] using hT
    subst hr;exact ⟨_,Wl m T k S hθ a b v (num u) hu hv v9 wv (λh=>o (hθ.occ.2 h)),Iw _ _ _⟩
 ·by_cases v9:BA v=9
  ·have ev:=DC wv v9;rw [ev] at hv;have hvv:Top (B6 T) (As (num v)) (As (num v)):=UC hv;have huu:=UC hu;by_cases o:fJ (B6 T) (num v) u
   ·have hr:r=none:=by simpa [CZ,u9,v9,o] using hT
    subst hr;exact eP m T k S hθ a b u (num v) hu hv u9 (aH m T k S hθ _ _ u (num v) hvv huu u9 wu (hθ.occ.1 o))
   ·have hr:r=some (Ej (B6 T) (num v) u):=by simpa [CZ,u9,v9,o] using hT
    subst hr;exact ⟨_,mO m T _ k S hθ a b u (num v) hu hv u9 (Wl m T k S hθ _ _ u (num v) hvv huu u9 wu (λh=>o (hθ.occ.2 h))),Iw _ _ _⟩
  ·by_cases sh:EG u v
   ·have hr:Kx (M4 n) (B6 T) (DZ u) (DZ v) r:=by simpa [CZ,u9,v9,sh] using hT
    have hc:=SL IH (DZ u) (DZ v) T r hr ⟨θ,hθ⟩ hd (λp hp=>⟨DB wu p hp,iu.part u9 hp⟩) (λp hp=>⟨DB wv p hp,iv.part v9 hp⟩);cases r with
    | none=>exact YU m T k S hθ a b u v hu hv u9 v9 sh wu hc
    | some σ' =>
     obtain ⟨T',c,e⟩:=hc;exact ⟨T',eQ m T T' k S hθ a b u v hu hv u9 v9 sh wu c,e⟩
   ·have hr:r=none:=by simpa [CZ,u9,v9,sh] using hT
    subst hr;exact YV m T k S hθ a b u v hu hv u9 v9 sh
def rQ:TT:=[
 (3,⟨.int .i64,false,1,8,[.imm (.int .i64 0)]⟩),
 (4,⟨.bool,false,1,1,[.imm (.bool false)]⟩),
 (25,⟨.struct [(0,22),(1,3),(2,9),(3,23)],true,4,56,[.imm (.int .i64 0),.imm (.int .i64 0),.imm (.str []),.nils]⟩),
 (23,⟨.sl 25,false,1,24,[.nils]⟩),
 (105,⟨.struct [(0,23),(1,23)],true,2,48,[.nils,.nils]⟩),
 (9,⟨.str,false,1,16,[.imm (.str [])]⟩),
 (45,⟨.int .i64,false,1,8,[.imm (.int .i64 0)]⟩),
 (22,⟨.int .i64,false,1,8,[.imm (.int .i64 0)]⟩),
 (43,⟨.struct [(0,9),(1,40),(2,41)],true,3,64,[.imm (.str []),.nils,.nils]⟩),
 (44,⟨.sl 84,false,1,24,[.nils]⟩),
 (130,⟨.sl 3,false,1,24,[.nils]⟩),
 (49,⟨.struct [(0,45),(1,3),(2,9),(3,46),(4,47)],true,5,80,[.imm (.int .i64 0),.imm (.int .i64 0),.imm (.str []),.nils,.nils]⟩),
 (46,⟨.sl 49,false,1,24,[.nils]⟩),
 (40,⟨.sl 113,false,1,24,[.nils]⟩),
 (41,⟨.sl 71,false,1,24,[.nils]⟩),
 (111,⟨.sl 178,false,1,24,[.nils]⟩),
 (71,⟨.struct [(0,9),(1,9),(2,25),(6,25),(10,49)],true,15,224,[.imm (.str []),.imm (.str []),.imm (.int .i64 0),.imm (.int .i64 0),.imm (.str []),.nils,.imm (.int .i64 0),.imm (.int .i64 0),.imm (.str []),.nils,.imm (.int .i64 0),.imm (.int .i64 0),.imm (.str []),.nils,.nils]⟩),
 (178,⟨.struct [(0,9),(1,23)],true,2,40,[.imm (.str []),.nils]⟩),
 (113,⟨.struct [(0,9),(1,111)],true,2,40,[.imm (.str []),.nils]⟩),
 (84,⟨.struct [(0,9),(1,25)],true,5,72,[.imm (.str []),.imm (.int .i64 0),.imm (.int .i64 0),.imm (.str []),.nils]⟩),
 (47,⟨.sl 182,false,1,24,[.nils]⟩),
 (180,⟨.int .i64,false,1,8,[.imm (.int .i64 0)]⟩),
 (182,⟨.struct [(0,180),(1,3),(2,9),(3,47)],true,4,56,[.imm (.int .i64 0),.imm (.int .i64 0),.imm (.str []),.nils]⟩),
 (58,⟨.sl 45,false,1,24,[.nils]⟩),
 (73,⟨.sl 9,false,1,24,[.nils]⟩),
 (64,⟨.int .i64,false,1,8,[.imm (.int .i64 0)]⟩)]
theorem BR:TTok Tryz.prog rQ:=.of_eq (l:=[3,4,25,23,105,9,45,22,43,44,130,49,46,40,41,111,71,178,113,84,47,180,182,58,73,64]) (by kernel_rfl)
section
variable {n:Nat} {F:List Nat} {Q:DQ} {env env':Env} {st st':St} {ids ids':List Nat} {k todo:List DI} {ob:List Prop}
theorem rd (path:List Pt) (h:run rQ n 300 path todo env st ids [] = .at k env' st' ids' ob) (hob:AB ob) (hd:G Tryz.prog n F Q k env' st' ids'):DGo Tryz.prog n F Q todo env st ids:=KK BR Fb 300 path h hob hd
theorem BS (h:run rQ n 300 [] todo env st ids [] = .at k env' st' ids' ob) (hd:G Tryz.prog n F Q k env' st' ids') (hob:AB ob:=by simp):DGo Tryz.prog n F Q todo env st ids:=rd [] h hob hd
theorem tO (h:run rQ n 300 [] todo env st ids [] = .at k env' st' ids' ob) (hd:G Tryz.prog n F Q k env' st' ids') (hob:AB ob:=by simp [Am]):DGo Tryz.prog n F Q todo env st ids:=rd [] h hob hd
theorem rg (path:List Pt) (h:run rQ n 300 path todo env st ids [] = .at k env' st' ids' ob) (hob:AB ob) (hd:G Tryz.prog n F Q k env' st' ids'):G Tryz.prog n F Q todo env st ids:=J6 BR Fb 300 path h hob hd
theorem Cg (h:run rQ n 300 [] todo env st ids [] = .at k env' st' ids' ob) (hd:G Tryz.prog n F Q k env' st' ids') (hob:AB ob:=by simp):G Tryz.prog n F Q todo env st ids:=rg [] h hob hd
theorem tN (h:run rQ n 300 [] todo env st ids [] = .at k env' st' ids' ob) (hd:G Tryz.prog n F Q k env' st' ids') (hob:AB ob:=by simp [Am]):G Tryz.prog n F Q todo env st ids:=rg [] h hob hd
theorem ri {es:List (List V)} {m:Int} {sz:Nat} {e:TypeId} {g:Option (Bool×Bool)} {ob:List Prop} {t:Nat} {todo':List DI} {c:List V} (h:Rh rQ n env todo=some ⟨es,m,sz,e,g,ob,some t,todo'⟩)
  (hc:Am g->0<=m/\es[m.toNat]?=some c/\c.length=sz) (hob:AB ob) (hk:G Tryz.prog n F Q todo' ((t,gD g (.ip e c 0))::env) st ids):G Tryz.prog n F Q todo env st ids:=H5 BR h hc hob hk
end
def Kt (L S:List Ty):List V:=[.sl (A2 L),.sl (A2 S)]
@[simp] theorem dSt_length (L S:List Ty):(Kt L S).length=2:=rfl
theorem W3 (L:List Ty) (i:Nat) (t:Ty):A2 (L.set i t)=(A2 L).set i (dTyc t):=by simp [Ck,List.map_set]
theorem Mb (L S:List Ty) {θ:Int->Ty} (hs:Sol (G5 L) θ) (hd:Dom L.length (G5 L)) (t u:Ty) (ht:Top (G5 L) t u) (hi:inB L.length t):Al Tryz.prog 123 [.agg (Kt L S),.agg (dTyc t)] (.agg (dTyc u)):=by
 obtain ⟨a1,a2,a3,a4⟩:=t;refine Ac BR Tryz.func123 (by decide +kernel) rfl [1,2,3,4] rfl rfl <| Cg rfl <| Ak (λx:Ty=>[(2,.ref 1 0),(3,.ref 2 0),(4,.ref 3 0)]) (λx=>[(1,some (.immb 105 2 (Kt L S))),(2,some (.immb 25 4 (dTyc x))),(3,some (.cells 25 4 [.imm (.int .i64 0),.imm (.int .i64 0),.imm (.str []),.nils]))]) [4] (λx=>if BA x=9/\G5 L (num x)≠none then (num x).toNat+1 else 0)
  (λx=>Top (G5 L) x u/\inB L.length x) (.mk a1 a2 a3 a4) ⟨ht,hi⟩ AD AD rfl λx hx ih=>?_
 obtain ⟨hx1,hx2⟩:=hx;clear ht hi;obtain ⟨f,m,y,ps⟩:=x;by_cases e9:f=9
 ·subst e9;have hm:=hx2.num rfl;simp only [num] at hm;obtain ⟨v,hv⟩:=Ao (l:=L) (i:=m.toNat) (by omega);have hg:=A8 hv;have hsb:=To hv;rw [show ((m.toNat:Nat):Int)=m by omega] at hsb;obtain ⟨v1,v2,v3,v4⟩:=v;refine BS rfl <| ri rfl (c:=dTyc (.mk v1 v2 v3 v4)) (λ_=>⟨hm.1,by simpa using hg,by simp⟩) (by simp [Am]) <| tN rfl ?_;by_cases ev:v1=0
  ·subst ev;have hsb:G5 L m=none:=hsb.trans (if_pos rfl);refine Aa rfl (λh=>by exfalso;simp at h) (λh=>?_);refine Aw rfl ?_;have hu:Ty.mk 9 m y ps=u:=by
    cases hx1 with
    | stop _=>rfl
    | step _ h2 _=>rw [show num (Ty.mk 9 m y ps)=m from rfl,hsb] at h2;cases h2
   subst hu;exact BS rfl <| Ab rfl rfl rfl
  ·have hsb:G5 L m=some (.mk v1 v2 v3 v4):=hsb.trans (if_neg ev);refine Aa rfl (λh=>?_) (λh=>by exfalso;simp at h;exact ev h);clear h;refine BS rfl <| ri rfl (c:=dTyc (.mk v1 v2 v3 v4)) (λ_=>⟨hm.1,by simpa using hg,by simp⟩) (by simp) <| Cg rfl ?_;have hx3:Top (G5 L) (.mk v1 v2 v3 v4) u:=by
    cases hx1 with
    | stop h=>have:=h rfl;rw [show num (Ty.mk 9 m y ps)=m from rfl,hsb] at this;cases this
    | step _ h2 h3=>rw [show num (Ty.mk 9 m y ps)=m from rfl,hsb] at h2;cases h2;exact h3
   refine Ae (ih (.mk v1 v2 v3 v4) ?_ ⟨hx3,(hd m _ hsb).2⟩) AD AD rfl;rw [if_pos (show BA (Ty.mk 9 m y ps)=9/\G5 L (num (Ty.mk 9 m y ps))≠none from ⟨rfl,by rw [show num (Ty.mk 9 m y ps)=m from rfl,hsb];simp⟩)]
   split
   ·rename_i h;have:=hs.down m _ hsb h.1;simp only [num] at *;omega
   ·omega
 ·refine BS rfl <| ri rfl (c:=dTyc F5) (λh=>absurd (of_decide_eq_true (show decide (f=9)=true from h)) e9) (by simp [Am]) <| tN rfl <| Aa rfl (λh=>by exfalso;simp [e9] at h) (λh=>?_);refine Aw rfl ?_;have hu:Ty.mk f m y ps=u:=by
   cases hx1 with
   | stop _=>rfl
   | step h1 _ _=>exact absurd h1 e9
  subst hu;exact BS rfl <| Ab rfl rfl rfl
end Go.Hk
namespace Go.Hk
open Go.Proofs
theorem OS (n:Int):Al Tryz.prog 48 [.int .i64 n] (.agg (dTyc (As n))):=by
 exact Ac BR Tryz.func48 (by decide +kernel) rfl [1,2] rfl rfl <| Cg rfl <| Ab rfl rfl rfl
theorem qG (L S:List Ty) (n:Int) (t:Ty) (hn:0<=n/\n<L.length) (hL:L.length<=1000000):Al Tryz.prog 124 [.agg (Kt L S),.int .i64 n,.agg (dTyc t)] (.agg (Kt (L.set n.toNat t) S)):=by
 obtain ⟨v,hv⟩:=Ao (l:=L) (i:=n.toNat) (by omega);have hg:=A8 hv;have hne:A2 L≠[]:=λe=>by rw [e] at hg;simp at hg
 have h4:∀c∈A2 L,c.length=4:=λc hc=>by rw [Ck] at hc;obtain ⟨x,_,rfl⟩:=Cc.1 hc;simp
 have hset:=W3 L n.toNat t;have hlen:(A2 L).length=L.length:=dTys_length L;obtain ⟨a1,a2,a3,a4⟩:=t;refine Ac BR Tryz.func124 (by decide +kernel) rfl [1,2,3,4,5,6] rfl rfl <| Cg rfl <| B4 BR rfl ⟨h4,by simp only [maxLen,BX] at *;omega,by simp only [BX] at *;omega,trivial⟩ <| Cg rfl <| EN BR rfl (λ_=>⟨hn.1,by simp;omega⟩) (by simp) <| Cg rfl <| Ii BR (e:=dTyc v) (e':=dTyc (.mk a1 a2 a3 a4)) rfl (by simpa using hg) (by show 0+4<=4;decide) (by obtain ⟨v1,v2,v3,v4⟩:=v;simp) (by simp) <| Cg rfl <| By 4 rfl <| Ab rfl rfl (congrArg _ ?_);simp only [Kt,hset];rfl
theorem bO (L S:List Ty) {θ:Int->Ty} (hs:Sol (G5 L) θ) (hd:Dom L.length (G5 L)) (n:Int):∀(N:Nat) (t:Ty),Ek (A7 θ t)<=N->Cl t=true->inB L.length t->Al Tryz.prog 125 [.agg (Kt L S),.int .i64 n,.agg (dTyc t)] (.bool (decide (n∈CA (A7 θ t)))):=by
 intro N
 induction N with
 | zero=>intro t h;have:=Hu (A7 θ t);omega
 | succ N ih =>
 intro t hN hw hi;obtain ⟨u,hu⟩:=Ja hs t;have hH:=Mb L S hs hd t u hu hi;have wu:=hu.wf hs hw;have iu:=hu.inB hd hi;have eu:=hu.ap hs.eq;have ue:=hu.end_;rw [eu] at hN ⊢;clear hu eu hw hi;obtain ⟨a1,a2,a3,a4⟩:=t;obtain ⟨f,m,y,ps⟩:=u;refine Ac BR Tryz.func125 (by decide +kernel) rfl [1,2,3,4] rfl rfl <| Cg rfl <| Af rfl hH <| Cg rfl ?_;by_cases e9:f=9
 ·subst e9;refine Aa rfl (λh=>?_) (λh=>by exfalso;simp at h);refine BS rfl <| Ab rfl rfl (congrArg _ ?_);have h0:=hs.free m (ue rfl);have:n∈CA (A7 θ (.mk 9 m y ps))↔m=n:=by
   rw [show A7 θ (.mk 9 m y ps)=θ m by simp [A7],h0];simp [As,CA,eq_comm]
  rw [EU];simp [this]
 ·refine Aa rfl (λh=>by exfalso;simp [e9] at h) (λh=>?_);clear h;have hl:ps.length<=3:=Gm wu;have hmem:n∈CA (A7 θ (.mk f m y ps))↔∃p∈ps,n∈CA (A7 θ p):=by
   simp only [A7,if_neg e9,CA,HB,Jm,Cc];constructor
   ·rintro ⟨_,⟨p,h1,rfl⟩,h2⟩;exact ⟨p,h1,h2⟩
   ·rintro ⟨p,h1,h2⟩;exact ⟨_,⟨p,h1,rfl⟩,h2⟩
  refine BS rfl <| Ak (λi:Nat=>[(7,.imm (.int .i64 i)),(1,.imm (.int .i64 n)),(3,.ref 1 0),(5,.ref 2 0)]) (λ_=>[(1,some (.immb 105 2 (Kt L S))),(2,some (.immb 25 4 (dTyc (.mk f m y ps))))]) [3,4] (λi=>ps.length-i) (λi=>i<=ps.length/\∀p∈ps.take i,n∉CA (A7 θ p)) 0 ⟨AL _,λp hp=>by simp at hp⟩
   BF AM rfl λi hi' ih2=>?_
  obtain ⟨hi1,hi2⟩:=hi';refine BS rfl <| Aa rfl (λh=>?_) (λh=>?_)
  ·have hlt:i<ps.length:=by simp at h;omega
   obtain ⟨p,hp⟩:=Ao hlt;have hpm:=AF hp;have hg:=A8 hp;have hsz:=OD (θ:=θ) (t:=.mk f m y ps) e9 hpm;have hI:=ih p (by omega) (DB wu p hpm) (iu.part e9 hpm);obtain ⟨p1,p2,p3,p4⟩:=p;refine BS rfl <| ri rfl (c:=dTyc (.mk p1 p2 p3 p4)) (λ_=>⟨by simp,by simpa using hg,by simp⟩) (by simp) <| Cg rfl <| Af rfl hI <| rg [] rfl (by simp;rfl) ?_;by_cases hq:n∈CA (A7 θ (.mk p1 p2 p3 p4))
   ·refine Aa rfl (λh=>?_) (λh=>by exfalso;simp [hq] at h);exact BS rfl <| Ag ⟨_,rfl,tV (congrArg _ (decide_eq_true (hmem.2 ⟨_,hpm,hq⟩)).symm),trivial⟩
   ·refine Aa rfl (λh=>by exfalso;simp [hq] at h) (λh=>?_);refine BS rfl <| Ae (ih2 (i+1) (by omega) ⟨by omega,λx hx=>?_⟩) ⟨AA (Cb (by omega) (by omega)),AD⟩ AM rfl;rw [Be hp] at hx;rcases BH.1 hx with hx | hx
    ·exact hi2 x hx
    ·rw [AO.1 hx];exact hq
  ·have hlt:¬i<ps.length:=by simp at h;omega
   rw [CD (by omega)] at hi2;refine Aw rfl <| BS rfl <| Ag ⟨_,rfl,tV (congrArg _ (decide_eq_false λh=>?_).symm),trivial⟩;obtain ⟨p,h1,h2⟩:=hmem.1 h;exact hi2 p h1 h2
theorem rM (L S:List Ty) {θ:Int->Ty} (hs:Sol (G5 L) θ) (hd:Dom L.length (G5 L)):∀(N:Nat) (t:Ty),Ek (A7 θ t)<=N->Cl t=true->inB L.length t->Al Tryz.prog 66 [.agg (Kt L S),.agg (dTyc t)] (.agg (dTyc (A7 θ t))):=by
 intro N
 induction N with
 | zero=>intro t h;have:=Hu (A7 θ t);omega
 | succ N ih =>
 intro t hN hw hi;obtain ⟨u,hu⟩:=Ja hs t;have hH:=Mb L S hs hd t u hu hi;have wu:=hu.wf hs hw;have iu:=hu.inB hd hi;have eu:=hu.ap hs.eq;have ue:=hu.end_;rw [eu] at hN ⊢;clear hu eu hw hi;have hl:=Gm wu;have hps:∀(i:Nat) p,(DZ u)[i]?=some p->BA u≠9/\Al Tryz.prog 66 [.agg (Kt L S),.agg (dTyc p)] (.agg (dTyc (A7 θ p))):=λi p hp=>by
  have hpm:=AF hp;by_cases e9:BA u=9
  ·have:=DC wu e9;rw [this] at hpm;simp [As,DZ] at hpm
  ·have hsz:=OD (θ:=θ) e9 hpm;exact ⟨e9,ih p (by omega) (DB wu p hpm) (iu.part e9 hpm)⟩
 have hfin:A7 θ u = .mk (BA u) (num u) (WR u) ((DZ u).map (A7 θ)):=by
  by_cases e9:BA u=9
  ·have e1:=DC wu e9;rw [Gi e9,hs.free _ (ue e9),e1];rfl
  ·obtain ⟨f,n,x,h1,_,h3⟩:=SW (θ:=θ) e9;rw [h3,h1];rfl
 rw [hfin];obtain ⟨a1,a2,a3,a4⟩:=t;obtain ⟨f,m,y,ps⟩:=u;simp only [DZ] at hps hl;simp only [BA,num,WR,DZ];refine Ac BR Tryz.func66 (by decide +kernel) rfl [1,2,3,4,5,6] rfl rfl <| Cg rfl <| Af rfl hH <| Cg rfl <| Gf (e:=25) (sz:=4) 5 4 (by decide) rfl <| Ak (λi:Nat=>[(6,.imm (.int .i64 i)),(2,.ref 1 0),(3,.ref 2 0),(4,.ref 3 0),(5,.own 4 (A2 ((ps.take i).map (A7 θ))).length)]) (λi=>[(1,some (.immb 105 2 (Kt L S))),(2,some (.immb 25 4 (dTyc (.mk f m y ps)))),(3,some (.cells 25 4 [.imm (.int .i64 0),.imm (.int .i64 0),.imm (.str []),.nils])),(4,some (.row 25 4 (A2 ((ps.take i).map (A7 θ)))))]) [5,6] (λi=>ps.length-i) (λi=>i<=ps.length) 0 (AL _)
  Bx BF rfl λi hi' ih2=>?_
 refine BS rfl <| Aa rfl (λh=>?_) (λh=>?_)
 ·have hlt:i<ps.length:=by simp at h;omega
  obtain ⟨p,hp⟩:=Ao hlt;have hg:=A8 hp;have hI:=(hps i p hp).2;have hih:=ih2 (i+1) (by omega) (by omega);rw [Be hp,C4,Eu,show A2 (List.map (A7 θ) [p])=[dTyc (A7 θ p)] from rfl] at hih;have hlen:(A2 ((ps.take i).map (A7 θ))).length<=3:=by rw [dTys_length,CW,Gx];omega
  have h4:∀c∈A2 ((ps.take i).map (A7 θ)),c.length=4:=λc hc=>by rw [Ck] at hc;obtain ⟨x,_,rfl⟩:=Cc.1 hc;simp
  generalize A2 ((ps.take i).map (A7 θ))=R at *;obtain ⟨p1,p2,p3,p4⟩:=p;generalize A7 θ (.mk p1 p2 p3 p4)=q at *;obtain ⟨q1,q2,q3,q4⟩:=q;exact BS rfl <| ri rfl (c:=dTyc (.mk p1 p2 p3 p4)) (λ_=>⟨by simp,by simpa using hg,by simp⟩) (by simp) <| Cg rfl <| Af rfl hI <| Cg rfl <| B4 BR rfl ⟨by simp,by simp [maxLen];omega,by simp;omega,trivial⟩ <| rg [] rfl (by simp;rfl) <| AZ 4 5 rfl <| Ae hih ⟨AA (Cb (by omega) (by omega)),rfl,rfl,rfl,by simp only [Bw];rfl,trivial⟩ BF rfl
 ·have hlt:¬i<ps.length:=by simp at h;omega
  refine Aw rfl ?_;rw [CD (by omega)];exact By 4 rfl <| BS rfl <| Ab rfl rfl rfl
noncomputable def oL (σ:Sb) (t:Ty):Ty:=open Classical in if h:∃u,Top σ t u then h.choose else t
theorem OB {σ:Sb} {t u:Ty} (h:Top σ t u):oL σ t=u:=by
 have hx:∃u,Top σ t u:=⟨u,h⟩
 unfold oL;rw [dif_pos hx];exact Tg hx.choose_spec h
noncomputable def Mg (E:List Ty->Ty->Ty->List Ty×Bool):List Ty->List Ty->List Ty->List Ty×Bool
 | L,a::xs,b::ys=>if (E L a b).2=true then Mg E (E L a b).1 xs ys else E L a b
 | L,_,_=>(L,true)
noncomputable def Fx (E:List Ty->Ty->Ty->List Ty×Bool) (L:List Ty) (u v:Ty):List Ty×Bool:=open Classical in
 if BA u=9 then
  if BA v=9 then
   if num u=num v then (L,true) else (L.set (max (num u) (num v)).toNat (As (min (num u) (num v))),true)
  else (L.set (num u).toNat v,decide (¬fJ (G5 L) (num u) v))
 else if BA v=9 then (L.set (num v).toNat u,decide (¬fJ (G5 L) (num v) u))
 else if EG u v then Mg E L (DZ u) (DZ v) else (L,false)
noncomputable def eqF:Nat->List Ty->Ty->Ty->List Ty×Bool
 | 0,L,_,_=>(L,false)
 | k+1,L,a,b=>Fx (eqF k) L (oL (G5 L) a) (oL (G5 L) b)
def oA (L:List Ty) (x:List Ty×Bool) (r:Option Sb):Prop:=x.1.length=L.length/\x.2=r.isSome/\∀σ',r=some σ'->G5 x.1=σ'
structure StL (L:List Ty):Prop where
 sol:∃θ,Sol (G5 L) θ
 dom:Dom L.length (G5 L)
 len:L.length<=1000000
structure TypL (L:List Ty) (t:Ty):Prop where
 wf:Cl t=true
 inb:inB L.length t
theorem TypL.part {L:List Ty} {t p:Ty} (h:TypL L t) (h9:BA t≠9) (hp:p∈DZ t):TypL L p:=⟨DB h.wf p hp,h.inb.part h9 hp⟩
theorem TypL.top {L:List Ty} (hL:StL L) {t u:Ty} (ht:Top (G5 L) t u) (h:TypL L t):TypL L u:=by
 obtain ⟨θ,hs⟩:=hL.sol;exact ⟨ht.wf hs h.wf,ht.inB hL.dom h.inb⟩
theorem StL.of {L L':List Ty} {k:Nat} {a b:Ty} {σ':Sb} (hL:StL L) (ha:TypL L a) (hb:TypL L b) (h:M4 k (G5 L) a b (some σ')) (hl:L'.length=L.length) (he:G5 L'=σ'):StL L':=by
 obtain ⟨θ,hs⟩:=hL.sol;obtain ⟨g1,g2,_,_⟩:=Q2 h hs hL.dom ha.wf hb.wf ha.inb hb.inb;subst he;exact ⟨g1,by rw [hl];exact g2,by rw [hl];exact hL.len⟩
theorem TypL.len {L L':List Ty} (h:L'.length=L.length) {t:Ty} (ht:TypL L t):TypL L' t:=⟨ht.wf,by rw [h];exact ht.inb⟩
theorem Mh:∀(k:Nat) (L:List Ty) (a b:Ty) (r:Option Sb),M4 k (G5 L) a b r->StL L->TypL L a->TypL L b->oA L (eqF k L a b) r
 | 0,_,_,_,_,h,_,_,_=>h.elim
 | k+1,L,a,b,r,⟨u,v,h1,h2,h3⟩,hL,ha,hb=>by
  have tu:=ha.top hL h1;have tv:=hb.top hL h2;rw [eqF,OB h1,OB h2];unfold Fx;rcases h3 with ⟨u9,v9,e,rfl⟩ | ⟨u9,v9,e,rfl⟩ | ⟨u9,v9,e,rfl⟩ | ⟨u9,v9,e,rfl⟩ | ⟨u9,v9,e,rfl⟩ | ⟨u9,v9,e,rfl⟩ | ⟨u9,v9,e,rfl⟩ | ⟨u9,v9,e,h⟩
  ·rw [if_pos u9,if_pos v9,if_pos e];exact ⟨rfl,rfl,λσ' h=>by cases h;rfl⟩
  ·have bu:=tu.inb.num u9;have bv:=tv.inb.num v9;rw [if_pos u9,if_pos v9,if_neg e];refine ⟨by simp,rfl,λσ' h=>?_⟩;cases h;exact OG ⟨by omega,by omega⟩ (by simp [As,BA])
  ·have bu:=tu.inb.num u9;rw [if_pos u9,if_neg v9];exact ⟨by simp,by simp [e],λσ' h=>by cases h⟩
  ·have bu:=tu.inb.num u9;rw [if_pos u9,if_neg v9];exact ⟨by simp,by simp [e],λσ' h=>by cases h;exact OG bu (WW tv.wf)⟩
  ·have bv:=tv.inb.num v9;rw [if_neg u9,if_pos v9];exact ⟨by simp,by simp [e],λσ' h=>by cases h⟩
  ·have bv:=tv.inb.num v9;rw [if_neg u9,if_pos v9];exact ⟨by simp,by simp [e],λσ' h=>by cases h;exact OG bv (WW tu.wf)⟩
  ·rw [if_neg u9,if_neg v9,if_neg e];exact ⟨rfl,rfl,λσ' h=>by cases h⟩
  ·rw [if_neg u9,if_neg v9,if_pos e];have key:∀(xs ys:List Ty) (L:List Ty) (r:Option Sb),StL L->(∀x∈xs,TypL L x)->(∀y∈ys,TypL L y)->Kx (M4 k) (G5 L) xs ys r->oA L (Mg (eqF k) L xs ys) r:=by
    intro xs
    induction xs with
    | nil=>intro ys L r _ _ _ h;cases ys with
     | nil =>
      simp only [Kx] at h;subst h;exact ⟨rfl,rfl,λσ' h=>by cases h;rfl⟩
     | cons=>exact h.elim
    | cons x xs ih=>intro ys L r hL hx hy h;cases ys with
     | nil=>exact h.elim
     | cons y ys =>
      rcases h with ⟨h1,rfl⟩ | ⟨σ1,h1,h2⟩
      ·obtain ⟨s1,s2,s3⟩:=Mh k L x y none h1 hL (hx x (by simp)) (hy y (by simp));simp only [Mg];rw [if_neg (by rw [s2];simp)];exact ⟨s1,s2,s3⟩
      ·obtain ⟨s1,s2,s3⟩:=Mh k L x y (some σ1) h1 hL (hx x (by simp)) (hy y (by simp));have s3:=s3 σ1 rfl;have hL':=hL.of (hx x (by simp)) (hy y (by simp)) h1 s1 s3;simp only [Mg];rw [if_pos (by rw [s2];rfl)];rw [<- s3] at h2;obtain ⟨q1,q2,q3⟩:=ih ys (eqF k L x y).1 r hL' (λz hz=>(hx z (by simp [hz])).len s1) (λz hz=>(hy z (by simp [hz])).len s1) h2;exact ⟨q1.trans s1,q2,q3⟩
   exact key _ _ L r hL (λx hx=>tu.part u9 hx) (λy hy=>tv.part v9 hy) h
theorem fM:∀(k:Nat) (L S:List Ty) (a b:Ty) (r:Option Sb),M4 k (G5 L) a b r->StL L->TypL L a->TypL L b ->
  Al Tryz.prog 65 [.agg (Kt L S),.agg (dTyc a),.agg (dTyc b)] (.tup [.agg (Kt (eqF k L a b).1 S),.bool (eqF k L a b).2]):=by
 intro k
 induction k with
 | zero=>intro L S a b r h;exact h.elim
 | succ k ih =>
 intro L S a b r hE hL ha hb;obtain ⟨u,v,h1,h2,h3⟩:=hE;obtain ⟨θ,hs⟩:=hL.sol;have tu:=ha.top hL h1;have tv:=hb.top hL h2;have hHa:=Mb L S hs hL.dom a u h1 ha.inb;have hHb:=Mb L S hs hL.dom b v h2 hb.inb;have hSt:=λn t (ht:TypL L t)=>bO L S hs hL.dom n (Ek (A7 θ t)) t (B8 _) ht.wf ht.inb;have hOc:=λn t=>hs.occ (n:=n) (t:=t);have hGv:=λn t hn=>qG L S n t hn hL.len;rw [eqF,OB h1,OB h2];clear h1 h2 ha hb;have e1:BA u=9->BA v=9->num u=num v->Fx (eqF k) L u v=(L,true):=λh1 h2 h3=>by unfold Fx;rw [if_pos h1,if_pos h2,if_pos h3]
 have e2:BA u=9->BA v=9->num u≠num v->Fx (eqF k) L u v=(L.set (max (num u) (num v)).toNat (As (min (num u) (num v))),true):=λh1 h2 h3=>by unfold Fx;rw [if_pos h1,if_pos h2,if_neg h3]
 have e3:BA u=9->BA v≠9->∀o:Bool,(o=true↔num u∈CA (A7 θ v))->Fx (eqF k) L u v=(L.set (num u).toNat v,!o):=λh1 h2 o ho=>by
  unfold Fx;rw [if_pos h1,if_neg h2];cases o with
  | true=>simp [hOc,ho.1 rfl]
  | false=>simp [hOc];exact λh=>Bool.false_ne_true (ho.2 h)
 have e4:BA u≠9->BA v=9->∀o:Bool,(o=true↔num v∈CA (A7 θ u))->Fx (eqF k) L u v=(L.set (num v).toNat u,!o):=λh1 h2 o ho=>by
  unfold Fx;rw [if_neg h1,if_pos h2];cases o with
  | true=>simp [hOc,ho.1 rfl]
  | false=>simp [hOc];exact λh=>Bool.false_ne_true (ho.2 h)
 have e5:BA u≠9->BA v≠9->¬EG u v->Fx (eqF k) L u v=(L,false):=λh1 h2 h3=>by unfold Fx;rw [if_neg h1,if_neg h2,if_neg h3]
 have e6:BA u≠9->BA v≠9->EG u v->Fx (eqF k) L u v=Mg (eqF k) L (DZ u) (DZ v):=λh1 h2 h3=>by unfold Fx;rw [if_neg h1,if_neg h2,if_pos h3]
 have bu:=λh=>tu.inb.num h;have bv:=λh=>tv.inb.num h;have hEq:BA u≠9->BA v≠9->EG u v->Kx (M4 k) (G5 L) (DZ u) (DZ v) r:=λh1 h2 h4=>by simpa [CZ,h1,h2,h4] using h3
 have pu:=λh p hp=>tu.part h (p:=p) hp;have pv:=λh p hp=>tv.part h (p:=p) hp;have lu:=Gm tu.wf;have hS1:=λn=>hSt n v tv;have hS2:=λn=>hSt n u tu;clear h3 hSt hOc;obtain ⟨a1,a2,a3,a4⟩:=a;obtain ⟨b1,b2,b3,b4⟩:=b;obtain ⟨f,m,x,ps⟩:=u;obtain ⟨g,n,y,qs⟩:=v;simp only [BA,num,DZ,WR,EG] at *;refine Ac BR Tryz.func65 (by decide +kernel) rfl [1,2,3,4,5,6,7,8] rfl rfl <| Cg rfl <| Af rfl hHa <| Cg rfl <| Af rfl hHb <| rg [] rfl (by simp;rfl) ?_;by_cases u9:f=9
 ·have bu':=bu u9;by_cases v9:g=9
  ·have bv':=bv v9;subst u9;subst v9;refine Aa rfl (λh=>?_) (λh=>by exfalso;simp at h);clear h;refine BS rfl ?_;by_cases e:m=n
   ·rw [e1 rfl rfl e];refine Aa rfl (λh=>?_) (λh=>by exfalso;simp [e] at h);exact BS rfl <| Ab rfl rfl rfl
   ·rw [e2 rfl rfl e];refine Aa rfl (λh=>by exfalso;simp [e] at h) (λh=>?_);clear h;have hG:=hGv (max m n) (As (min m n)) (by omega);have hHo:=OS (min m n);have m1:max m n=if n > m then n else m:=by split <;> omega
    have m2:min m n=if n<m then n else m:=by split <;> omega
    rw [m1,m2] at hG ⊢;rw [m2] at hHo;exact BS rfl <| Af rfl hHo <| Cg rfl <| Af rfl hG <| rg [] rfl (by simp;rfl) <| Ab rfl rfl rfl
  ·subst u9;have hG:=hGv m (.mk g n y qs) bu';obtain ⟨o,ho,hS⟩:∃o:Bool,(o=true↔m∈CA (A7 θ (.mk g n y qs)))/\Al Tryz.prog 125 [.agg (Kt L S),.int .i64 m,.agg (dTyc (.mk g n y qs))] (.bool o):=⟨_,by simp,hS1 m⟩
   rw [e3 rfl v9 o ho];refine Aa rfl (λh=>by exfalso;simp [v9] at h) (λh=>?_);clear h;refine BS rfl <| Aa rfl (λh=>?_) (λh=>by exfalso;simp at h);clear h;exact BS rfl <| Af rfl hG <| Cg rfl <| Af rfl hS <| rg [] rfl (by simp;rfl) <| Ab rfl rfl rfl
 ·refine Aa rfl (λh=>by exfalso;simp [u9] at h) (λh=>?_);clear h;refine BS rfl <| Aa rfl (λh=>by exfalso;simp [u9] at h) (λh=>?_);clear h;refine BS rfl ?_;by_cases v9:g=9
  ·have bv':=bv v9;subst v9;have hG:=hGv n (.mk f m x ps) bv';obtain ⟨o,ho,hS⟩:∃o:Bool,(o=true↔n∈CA (A7 θ (.mk f m x ps)))/\Al Tryz.prog 125 [.agg (Kt L S),.int .i64 n,.agg (dTyc (.mk f m x ps))] (.bool o):=⟨_,by simp,hS2 n⟩
   rw [e4 u9 rfl o ho];refine Aa rfl (λh=>?_) (λh=>by exfalso;simp at h);clear h;exact BS rfl <| Af rfl hG <| Cg rfl <| Af rfl hS <| rg [] rfl (by simp;rfl) <| Ab rfl rfl rfl
  ·refine Aa rfl (λh=>by exfalso;simp [v9] at h) (λh=>?_);clear h;refine BS rfl ?_;by_cases hh:f=g/\m=n/\x=y/\ps.length=qs.length
   case neg =>
    rw [e5 u9 v9 hh];refine Aa rfl (λh=>?_) (λh=>by exfalso;apply hh;simp at h;grind);exact BS rfl <| Ab rfl rfl rfl
   rw [e6 u9 v9 hh];have hEq':=hEq u9 v9 hh;have pu':=pu u9;have pv':=pv v9;obtain ⟨rfl,rfl,rfl,hl⟩:=hh;clear hEq pu pv;clear e1 e2 e3 e4 e5 e6 bu bv hS1 hS2 hGv hHa hHb;refine Aa rfl (λh=>by exfalso;simp [hl] at h) (λh=>?_);clear h;refine BS rfl <| Ak (λz:Nat×List Ty×Bool=>[(9,.imm (.int .i64 z.1)),(8,.imm (.bool z.2.2)),(3,.ref 1 0),(4,.ref 2 0),(5,.ref 3 0),(6,.ref 4 0)]) (λz=>[(1,some (.immb 105 2 (Kt z.2.1 S))),(2,some (.immb 25 4 (dTyc (.mk f m x ps)))),(3,some (.immb 25 4 (dTyc (.mk f m x qs)))),(4,some (.cells 105 2 [.nils,.nils]))]) [5,6,7,8]
    (λz=>ps.length-z.1) (λz=>z.1<=ps.length/\(z.2.2=true->StL z.2.1/\z.2.1.length=L.length/\Kx (M4 k) (G5 z.2.1) (ps.drop z.1) (qs.drop z.1) r/\Mg (eqF k) L ps qs=Mg (eqF k) z.2.1 (ps.drop z.1) (qs.drop z.1))/\(z.2.2=false->Mg (eqF k) L ps qs=(z.2.1,false)))
    (0,L,true) ⟨AL _,λ_=>⟨hL,rfl,hEq',rfl⟩,λh=>by cases h⟩ Gq BF rfl λz hz ihl=>?_
   clear hEq' hL hs;obtain ⟨i,L1,ok⟩:=z;obtain ⟨z1,z2,z3⟩:=hz;simp only at z1 z2 z3;refine BS rfl ?_;cases ok with
   | false =>
    rw [z3 rfl];refine Aa rfl (λh=>by exfalso;simp at h) (λh=>?_);exact Aw rfl <| BS rfl <| Ab rfl rfl rfl
   | true =>
    obtain ⟨hL1,hlen,hE1,hF1⟩:=z2 rfl;clear z2 z3;by_cases hlt:i<ps.length
    ·obtain ⟨p,hp⟩:=Ao hlt;obtain ⟨q,hq⟩:=Ao (l:=qs) (i:=i) (by omega);have hgp:=A8 hp;have hgq:=A8 hq;have tp:=(pu' p (AF hp)).len hlen;have tq:=(pv' q (AF hq)).len hlen;rw [Av hp,Av hq] at hE1 hF1;obtain ⟨r1,hr1⟩:∃r1,M4 k (G5 L1) p q r1:=by
      rcases hE1 with ⟨h,_⟩ | ⟨σ1,h,_⟩
      ·exact ⟨_,h⟩
      ·exact ⟨_,h⟩
     have hI:=ih L1 S p q r1 hr1 hL1 tp tq;obtain ⟨s1,s2,s3⟩:=Mh k L1 p q r1 hr1 hL1 tp tq;have hnext:(eqF k L1 p q).2=true->StL (eqF k L1 p q).1/\(eqF k L1 p q).1.length=L.length/\Kx (M4 k) (G5 (eqF k L1 p q).1) (ps.drop (i+1)) (qs.drop (i+1)) r/\Mg (eqF k) L ps qs=Mg (eqF k) (eqF k L1 p q).1 (ps.drop (i+1)) (qs.drop (i+1)):=λh=>by
      rw [s2] at h;cases r1 with
      | none=>cases h
      | some σ1 =>
       have s3:=s3 σ1 rfl;refine ⟨hL1.of tp tq hr1 s1 s3,s1.trans hlen,?_,?_⟩
       ·rw [s3];rcases hE1 with ⟨h1,_⟩ | ⟨σ2,h1,h2⟩
        ·have:=Ul h1 hr1;cases this
        ·have:=Ul h1 hr1;cases this;exact h2
       ·rw [hF1,Mg,if_pos (by rw [s2];rfl)]
     have hfail:(eqF k L1 p q).2=false->Mg (eqF k) L ps qs=((eqF k L1 p q).1,false):=λh=>by
      rw [hF1,Mg,if_neg (by rw [h];simp)];exact Prod.ext rfl h
     have hih:=ihl (i+1,(eqF k L1 p q).1,(eqF k L1 p q).2) (by simp only;omega) ⟨by simp only;omega,hnext,hfail⟩;clear hnext hfail s1 s2 s3 hr1 hE1 hF1 ihl;generalize eqF k L1 p q=X at *;obtain ⟨L2,ok2⟩:=X;simp only at hih hI;obtain ⟨p1,p2,p3,p4⟩:=p;obtain ⟨q1,q2,q3,q4⟩:=q;refine Aa rfl (λh=>?_) (λh=>by exfalso;simp at h;omega);clear h;exact BS rfl <| ri rfl (c:=dTyc (.mk p1 p2 p3 p4)) (λ_=>⟨by simp,by simpa using hgp,by simp⟩) (by simp) <| Cg rfl <| ri rfl (c:=dTyc (.mk q1 q2 q3 q4)) (λ_=>⟨by simp,by simpa using hgq,by simp⟩) (by simp) <| Cg rfl <| Af rfl hI <| rg [] rfl (by simp;rfl) <| Ae hih ⟨AA (Cb (by omega) (by omega)),Bx⟩ BF rfl
    ·rw [Br (by omega),Br (by omega)] at hF1;rw [hF1];refine Aa rfl (λh=>by exfalso;simp at h;omega) (λh=>?_);exact Aw rfl <| BS rfl <| Ab rfl rfl rfl
theorem HC:∀a b:Ty,Al Tryz.prog 21 [.agg (dTyc a),.agg (dTyc b)] (.bool (Hq a b))
 | .mk s n x ps,.mk s' n' x' qs=>by
  refine B1 λhv=>?_;simp [CL,Fh,dTyc,maxLen] at hv;have hw1:=hv.1;refine Ac BR Tryz.func21 (by decide +kernel) rfl [1,2,3] rfl rfl <| tN rfl <| Aa rfl (λh=>?_) (λh=>?_)
  ·refine BS rfl <| Ab rfl rfl (congrArg _ ?_)
   symm
   simp only [Hq];by_cases hl:ps.length=qs.length
   ·simp [hl] at h;cases he:Et ps qs <;> grind
   ·rw [Nf hl,Bool.and_false]
  have hl:s=s'/\n=n'/\x=x'/\ps.length=qs.length:=by
   simp at h;grind
  obtain ⟨rfl,rfl,rfl,hl⟩:=hl;refine BS rfl <| Ak (λi:Nat=>[(5,.imm (.int .i64 i)),(2,.ref 1 0),(3,.ref 2 0)]) (λ_=>[(1,some (.immb 25 4 (dTyc (.mk s n x ps)))),(2,some (.immb 25 4 (dTyc (.mk s n x qs))))]) [3] (λi=>ps.length-i) (λi=>i<=ps.length/\Et ps qs=Et (ps.drop i) (qs.drop i)) 0
   ⟨AL _,rfl⟩ AD AM rfl λi hi ih=>?_
  obtain ⟨hi1,hi2⟩:=hi;refine BS rfl <| Aa rfl (λh1=>?_) (λh1=>?_)
  ·simp at h1;obtain ⟨p,hp⟩:=Ao h1;obtain ⟨q,hq⟩:=Ao (l:=qs) (i:=i) (by omega);rw [Av hp,Av hq] at hi2;simp only [Et] at hi2;refine BS rfl <| ri rfl (c:=dTyc p) (λ_=>⟨by simp,by simpa using A8 hp,by simp⟩) (by simp) <| Cg rfl <| ri rfl (c:=dTyc q) (λ_=>⟨by simp,by simpa using A8 hq,by simp⟩) (by simp) <| Cg rfl <| Aj rfl (λ_=>HC p q) (by simp) <| rg [] rfl (by simp;rfl) <| Aa rfl (λh2=>?_) (λh2=>?_)
   ·refine BS rfl <| Ab rfl rfl (congrArg _ ?_);have:Hq p q=false:=by simpa using h2
    simp [Hq,hi2,this]
   ·refine BS rfl ?_;have:Hq p q=true:=by simpa using h2
    rw [this,KZ] at hi2;exact Ae (ih (i+1) (by omega) ⟨by omega,hi2⟩) ⟨AA (Cb (by omega) (by omega)),AM⟩ AM rfl
  ·simp at h1;rw [Br (by omega),Br (by omega)] at hi2;refine Aw rfl <| BS rfl <| Ab rfl rfl (congrArg _ ?_);simp [Hq,hi2,Et]
termination_by a=>SizeOf.sizeOf a
decreasing_by
 all_goals
  have:=Cn (AF hp);simp_wf;omega
theorem Uw (s:Int) (ps:List Ty):Al Tryz.prog 105 [.int .i64 s,.sl (A2 ps)] (.agg (dTyc (.mk s 0 [] ps))):=by
 exact Ac BR Tryz.func105 (by decide +kernel) rfl [1,2] rfl rfl <| Cg rfl <| Ab rfl rfl rfl
theorem vD:Al Tryz.prog 49 [] (.agg (dTyc AT)):=by
 exact Ac BR Tryz.func49 (by decide +kernel) rfl [1,2] rfl rfl <| Cg rfl <| Aj rfl (λ_=>Uw 1 []) (by simp) <| Cg rfl <| Ab rfl rfl rfl
theorem rO:Al Tryz.prog 50 [] (.agg (dTyc BP)):=by
 exact Ac BR Tryz.func50 (by decide +kernel) rfl [1,2] rfl rfl <| Cg rfl <| Aj rfl (λ_=>Uw 2 []) (by simp) <| Cg rfl <| Ab rfl rfl rfl
theorem vG (a b:Ty):Al Tryz.prog 41 [.agg (dTyc a),.agg (dTyc b)] (.agg (dTyc (Ba a b))):=by
 have h:=Uw 4 [a,b];obtain ⟨a1,a2,a3,a4⟩:=a;obtain ⟨b1,b2,b3,b4⟩:=b;exact Ac BR Tryz.func41 (by decide +kernel) rfl [1,2,3,4] rfl rfl <| Cg rfl <| Af rfl h <| Cg rfl <| Ab rfl rfl rfl
theorem W4 (n:Nat) (t:Ty):A2 (List.replicate n t)=List.replicate n (dTyc t):=by simp [Ck]
theorem nG (n:Nat) (hn:n<=1000):Al Tryz.prog 64 [.int .i64 n] (.agg (Kt (List.replicate n F5) [])):=by
 refine Ac BR Tryz.func64 (by decide +kernel) rfl [1,2] rfl rfl <| Cg rfl <| Qu BR rfl rfl (by simp) (by simp;omega) (by simp [maxLen];omega) <| Cg rfl <| Ab rfl rfl (congrArg _ ?_);simp only [Kt,W4,PR];rfl
mutual
def CV:Ty->Int
 | .mk f n _ ps=>if f=9 then n+1 else Gt ps
def Gt:List Ty->Int
 | []=>0
 | t::r=>max (CV t) (Gt r)
end
mutual
def Gp:Ty->Bool
 | .mk f n _ ps=>(f != 9||(decide (0<=n)&&decide (n<=99)))&&FQ ps
def FQ:List Ty->Bool
 | []=>true
 | t::r=>Gp t&&FQ r
end
theorem N8:∀{l:List Ty},FQ l=true↔∀t∈l,Gp t=true
 | []=>by simp [FQ]
 | t::r=>by simp [FQ,N8 (l:=r)]
mutual
theorem KX:∀t:Ty,Gp t=true->0<=CV t/\CV t<=100/\inB (CV t) t
 | .mk f n x ps,h=>by
  simp only [Gp,A1] at h;by_cases e:f=9
  ·subst e;simp at h;simp only [CV,if_true];exact ⟨by omega,by omega,λm hm=>by simp [CA] at hm;rw [hm];omega⟩
  ·obtain ⟨h1,h2,h3⟩:=ZL ps h.2;simp only [CV,if_neg e];exact ⟨h1,h2,λm hm=>by simp only [CA,if_neg e] at hm;exact h3 m hm⟩
theorem ZL:∀l:List Ty,FQ l=true->0<=Gt l/\Gt l<=100/\∀m∈Dm l,0<=m/\m<Gt l
 | [],_=>by simp [Gt,Dm]
 | t::r,h=>by
  simp only [FQ,A1] at h;obtain ⟨a1,a2,a3⟩:=KX t h.1;obtain ⟨b1,b2,b3⟩:=ZL r h.2;simp only [Gt,Dm,BH];refine ⟨by omega,by omega,λm hm=>?_⟩;rcases hm with hm | hm
  ·have:=a3 m hm;omega
  ·have:=b3 m hm;omega
end
theorem NF:∀(l:List Ty) (t:Ty),Gt (l++[t])=max (Gt l) (CV t)
 | [],t=>by simp only [Jp,Gt];omega
 | a::r,t=>by simp only [Db,Gt,NF r t];omega
theorem OJ:∀t:Ty,Gp t=true->Al Tryz.prog 63 [.agg (dTyc t)] (.int .i64 (CV t))
 | .mk f n x ps,h=>by
  refine B1 λhv=>?_;simp [CL,Fh,dTyc,maxLen] at hv;have hb:=KX _ h;simp only [Gp,A1] at h;refine Ac BR Tryz.func63 (by decide +kernel) rfl [1,2] rfl rfl <| Cg rfl ?_;by_cases e:f=9
  ·subst e;simp at h;refine Aa rfl (λh=>?_) (λh=>by exfalso;simp at h);refine BS rfl <| Ab rfl rfl (congrArg _ ?_);simp only [CV,if_true];exact Cb (by omega) (by omega)
  ·refine Aa rfl (λh=>by exfalso;simp [e] at h) (λh=>?_);simp only [CV,if_neg e] at hb ⊢;refine BS rfl <| Ak (λi:Nat=>[(4,.imm (.int .i64 i)),(3,.imm (.int .i64 (Gt (ps.take i)))),(1,.ref 1 0)]) (λ_=>[(1,some (.immb 25 4 (dTyc (.mk f n x ps))))]) [2] (λi=>ps.length-i) (λi=>i<=ps.length) 0 (AL _)
    AD AI rfl λi hi ih=>?_
   refine BS rfl <| Aa rfl (λh=>?_) (λh=>?_)
   ·have hlt:i<ps.length:=by simp at h;omega
    obtain ⟨p,hp⟩:=Ao hlt;have hg:=A8 hp;have hs:=N8.1 ‹_/\FQ ps=true›.2 p (AF hp);have hI:=OJ p hs;have hih:=ih (i+1) (by omega) (by omega);rw [Be hp,NF] at hih;obtain ⟨p1,p2,p3,p4⟩:=p;refine BS rfl <| ri rfl (c:=dTyc (.mk p1 p2 p3 p4)) (λ_=>⟨by simp,by simpa using hg,by simp⟩) (by simp) <| Cg rfl <| Af rfl hI <| Cg rfl ?_;exact Ae hih ⟨AA (Cb (by omega) (by omega)),AA (by split <;> omega),AI⟩ AI rfl
   ·have hlt:¬i<ps.length:=by simp at h;omega
    refine Aw rfl ?_;rw [CD (by omega)];exact BS rfl <| Ab rfl rfl rfl
termination_by t=>SizeOf.sizeOf t
decreasing_by
 have:=Cn (AF hp);simp_wf;omega
def WU (p:Str×Ty):List V:=.str p.1::dTyc p.2
def Dq (Γ:Ax):List (List V):=Γ.map WU
@[simp] theorem dKn_length (p:Str×Ty):(WU p).length=5:=by simp [WU]
@[simp] theorem dKns_length (Γ:Ax):(Dq Γ).length=Γ.length:=by simp [Dq]
theorem QI {Γ:Ax} {i:Nat} {p:Str×Ty} (h:Γ[i]?=some p):(Dq Γ)[i]?=some (WU p):=by simp [Dq,h]
theorem Uq {l:List Dt} {i:Nat} {d:Dt} (h:l[i]?=some d):(l.map CK)[i]?=some (CK d):=by simp [h]
theorem aL {l:List Cd} {i:Nat} {d:Cd} (h:l[i]?=some d):(l.map EY)[i]?=some (EY d):=by simp [h]
theorem Mn {l:List Fd} {i:Nat} {d:Fd} (h:l[i]?=some d):(l.map CG)[i]?=some (CG d):=by simp [h]
theorem V4:∀(Γ:Ax) (p:Str×Ty) (x:Str),M3 (Γ++[p]) x=if p.1=x then some p.2 else M3 Γ x
 | [],(y,t),x=>by simp [M3]
 | (z,u)::r,p,x=>by
  simp only [Db,M3,V4 r p x];by_cases h:p.1=x
  ·simp [h]
  ·simp [h]
theorem fC {l:List Cd} {i:Nat} {c:Cd} (h:l[i]?=some c) (x:Str):Nk (l.drop i) x=if c.name=x then some c else Nk (l.drop (i+1)) x:=by rw [Av h];rfl
theorem eH {l:List Fd} {i:Nat} {f:Fd} (h:l[i]?=some f) (x:Str):O2 (l.drop i) x=if f.name=x then some (Ba f.from_ f.to_) else O2 (l.drop (i+1)) x:=by rw [Av h];rfl
noncomputable def thS (σ:Sb):Int->Ty:=open Classical in if h:∃θ,Sol σ θ then h.choose else As
theorem Ph {σ:Sb} {θ:Int->Ty} (h:Sol σ θ):thS σ=θ:=by
 have h':∃θ,Sol σ θ:=⟨θ,h⟩
 rw [thS,dif_pos h'];exact h'.choose_spec.unique h
def Gb (σ:Sb):Nat->Nat
 | 0=>0
 | i+1=>if (σ (i:Int)).isSome then i+1 else Gb σ i
theorem Qa (σ:Sb):∀n,Gb σ n<=n
 | 0=>B8 _
 | n+1=>by
  have:=Qa σ n;simp only [Gb];split <;> omega
noncomputable def U9 (σ:Sb) (H:Nat):List Ty:=(List.range (Gb σ H)).map λi:Nat=>thS σ i
noncomputable def oG (H:Nat) (r:Option Sb):V:=match r with
 | some σ=>.tup [.sl (A2 (U9 σ H)),.bool true]
 | none=>.tup [.sl [],.bool false]
theorem fS (n:Nat) (h:n<=1000000):StL (List.replicate n F5):=by
 refine ⟨⟨As,(?_:Sol _ _)⟩,?_,by simpa using h⟩
 ·rw [L0];exact Sol.mk (λn t h=>nomatch h) (λn h=>rfl) (λn t h=>nomatch h) (λn t h=>nomatch h)
 ·rw [L0];intro n t h;cases h
theorem fH (a b:Ty) (ha:Cl a=true) (hb:Cl b=true) (sa:Gp a=true) (sb:Gp b=true):∃k r,M4 k (λ_=>none) a b r /\
  Al Tryz.prog 17 [.agg (dTyc a),.agg (dTyc b)] (oG (max (CV a) (CV b)).toNat r):=by
 obtain ⟨u0,u1,u2⟩:=KX a sa;obtain ⟨w0,w1,w2⟩:=KX b sb;have hMa:=OJ a sa;have hMb:=OJ b sb;obtain ⟨H,hH⟩:∃H:Nat,max (CV a) (CV b)=H:=⟨(max (CV a) (CV b)).toNat,by omega⟩
 have hH1:H<=100:=by omega
 rw [hH,PR];have hB:Al Tryz.prog 64 [.int .i64 (if CV b > CV a then CV b else CV a)] (.agg (Kt (List.replicate H F5) [])):=by
  rw [show (if CV b > CV a then CV b else CV a)=(H:Int) by rw [<- hH];split <;> omega];exact nG H (by omega)
 have hL0:=fS H (by omega);have hz:G5 (List.replicate H F5)=λ_=>none:=L0 H;have hTa:TypL (List.replicate H F5) a:=⟨ha,by rw [PO];exact inB.mono u2 (by omega)⟩
 have hTb:TypL (List.replicate H F5) b:=⟨hb,by rw [PO];exact inB.mono w2 (by omega)⟩
 obtain ⟨θ0,hθ0⟩:=hL0.sol;obtain ⟨k,r,hE,hG⟩:=Um (List.replicate H F5).length _ _ (G5 (List.replicate H F5)) θ0 a b hθ0 hL0.dom (B8 _) (λ_=>B8 _) ha hb hTa.inb hTb.inb;have hQ:=fM k _ [] a b r hE hL0 hTa hTb;obtain ⟨q1,q2,q3⟩:=Mh k _ a b r hE hL0 hTa hTb;rw [hz] at hE;refine ⟨k,r,hE,?_⟩;have hst:∀σ',r=some σ'->StL (eqF k (List.replicate H F5) a b).1:=λσ' e=>by
  subst e;rw [<- hz] at hE;exact hL0.of hTa hTb hE q1 (q3 σ' rfl)
 rw [PO] at q1;generalize (eqF k (List.replicate H F5) a b).1=L at *;generalize (eqF k (List.replicate H F5) a b).2=o at *;subst q2;obtain ⟨a1,a2,a3,a4⟩:=a;obtain ⟨b1,b2,b3,b4⟩:=b;refine Ac BR Tryz.func17 (by decide +kernel) rfl [1,2,3,4,5,6] rfl rfl <| Cg rfl <| Af rfl hMa <| Cg rfl <| Af rfl hMb <| Cg rfl <| Af rfl hB <| Cg rfl <| Af rfl hQ <| rg [] rfl (by simp;rfl) ?_;cases r with
 | none =>
  refine Aa rfl (λh=>?_) (λh=>by exfalso;simp at h);exact BS rfl <| Ab rfl rfl rfl
 | some σ =>
  have hL:=hst σ rfl;have hσ:=q3 σ rfl;obtain ⟨θ,hθ⟩:=hL.sol;have hF:∀i:Nat,i<H->Al Tryz.prog 66 [.agg (Kt L []),.agg (dTyc (As i))] (.agg (dTyc (θ i))):=λi hi =>
   rM L [] hθ hL.dom _ (As i) (B8 _) (by simp [As,Cl,FC]) (If ⟨by omega,by omega⟩)
  rw [hσ] at hθ;refine Aa rfl (λh=>by exfalso;simp at h) (λh=>?_);refine BS rfl <| Gf (e:=25) (sz:=4) 9 4 (by decide) rfl <| Ak (λi:Nat=>[(10,.imm (.int .i64 i)),(8,.imm (.int .i64 (Gb σ i))),(6,.ref 3 0),(9,.own 4 (A2 ((List.range i).map λi:Nat=>θ i)).length)]) (λi=>[(3,some (.immb 105 2 (Kt L []))),(4,some (.row 25 4 (A2 ((List.range i).map λi:Nat=>θ i))))]) [5,6] (λi=>H-i) (λi=>i<=H) 0 (AL _)
   BF AM rfl λi hi ih=>?_
  refine BS rfl <| Aa rfl (λh=>?_) (λh=>?_)
  ·have hlt:i<H:=by simp at h;omega
   obtain ⟨p,hp⟩:=Ao (l:=L) (i:=i) (by omega);have hg:=A8 hp;have hI:=hF i hlt;have hO:=OS i;have hle:=Qa σ i;have hih:=ih (i+1) (by omega) (by omega);have hsi:=To hp;rw [hσ] at hsi;rw [MT,C4,Eu,show A2 (List.map (λi:Nat=>θ i) [i])=[dTyc (θ i)] from rfl] at hih;have hlen:(A2 ((List.range i).map λi:Nat=>θ i)).length<=100:=by simp;omega
   have h4:∀c∈A2 ((List.range i).map λi:Nat=>θ i),c.length=4:=λc hc=>by rw [Ck] at hc;obtain ⟨x,_,rfl⟩:=Cc.1 hc;simp
   generalize A2 ((List.range i).map λi:Nat=>θ i)=R at *;obtain ⟨p1,p2,p3,p4⟩:=p;generalize θ i=q at *;obtain ⟨q1,q2,q3,q4⟩:=q;refine BS rfl <| Af rfl hO <| Cg rfl <| Af rfl hI <| Cg rfl <| B4 BR rfl ⟨by simp,by simp [maxLen];omega,by simp;omega,trivial⟩ <| rg [] rfl (by simp;rfl) <| ri rfl (c:=dTyc (.mk p1 p2 p3 p4)) (λ_=>⟨by simp,by simpa using hg,by simp⟩) (by simp) <| Cg rfl <| Aa rfl (λh2=>?_) (λh2=>?_)
   ·have hp1:p1≠0:=by simpa using h2
    have hla:Gb σ (i+1)=i+1:=by simp only [Gb,hsi];simp [BA,hp1]
    rw [hla] at hih;exact BS rfl <| AZ 4 5 rfl <| Ae hih ⟨AA (Cb (by omega) (by omega)),AA (Cb (by omega) (by omega)),rfl,by simp only [Bw];rfl,trivial⟩ AM rfl
   ·have hp1:p1=0:=by simpa using h2
    have hla:Gb σ (i+1)=Gb σ i:=by simp only [Gb,hsi];simp [BA,hp1]
    rw [hla] at hih;exact BS rfl <| AZ 4 5 rfl <| Ae hih ⟨AA (Cb (by omega) (by omega)),rfl,rfl,by simp only [Bw];rfl,trivial⟩ AM rfl
  ·have hlt:i=H:=by simp at h;omega
   subst hlt;have hle:=Qa σ i;have h4:∀c∈A2 ((List.range i).map λi:Nat=>θ i),c.length=4:=λc hc=>by rw [Ck] at hc;obtain ⟨x,_,rfl⟩:=Cc.1 hc;simp
   refine Aw rfl <| By 4 rfl <| rd [] rfl (by simp;exact ⟨hle,h4⟩) <| Ab rfl rfl ?_;simp only [oG,U9,Ph hθ,PR,Ck,<- TJ,List.take_range,Sn hle]
theorem XG {ps qs:List Ty} {i:Nat} {p q:Ty} (hp:ps[i]?=some p) (hq:qs[i]?=some q) (l:List Ty):Jn (ps.drop i) (qs.drop i) l=if (F4 p q l).2=true then Jn (ps.drop (i+1)) (qs.drop (i+1)) (F4 p q l).1 else F4 p q l:=by
 rw [Av hp,Av hq,Jn]
theorem PC:∀(a b:Ty) (l:List Ty),Cl b=true->inB l.length a->l.length<=100->Al Tryz.prog 62 [.agg (dTyc a),.agg (dTyc b),.sl (A2 l)] (.tup [.sl (A2 (F4 a b l).1),.bool (F4 a b l).2])
 | .mk f n x ps,.mk g m y qs,l,hb,ha,hl=>by
  by_cases e9:f=9
  ·subst e9;have hn:=ha.num rfl;simp only [num] at hn;obtain ⟨v,hv⟩:=Ao (l:=l) (i:=n.toNat) (by omega);have hg:=A8 hv;have hd:l.getD n.toNat F5=v:=by rw [kC,hv];rfl
   have hS:=HC v (.mk g m y qs);by_cases h0:BA v=0
   ·have hr:F4 (.mk 9 n x ps) (.mk g m y qs) l=(l.set n.toNat (.mk g m y qs),true):=by rw [F4,if_pos rfl,hd,if_pos h0]
    ·rw [hr];have h4:∀c∈A2 l,c.length=4:=λc hc=>by rw [Ck] at hc;obtain ⟨x,_,rfl⟩:=Cc.1 hc;simp
     have hset:=W3 l n.toNat (.mk g m y qs)
     have hlen:(A2 l).length=l.length:=dTys_length l;have hne:A2 l≠[]:=λe=>by rw [e] at hg;simp at hg
     obtain ⟨v1,v2,v3,v4⟩:=v;simp only [BA] at h0;subst h0;refine Ac BR Tryz.func62 (by decide +kernel) rfl [1,2,3,4,5,6] rfl rfl <| Cg rfl <| Aa rfl (λh=>?_) (λh=>by exfalso;simp at h);refine BS rfl <| ri rfl (c:=dTyc (.mk 0 v2 v3 v4)) (λ_=>⟨hn.1,by simpa using hg,by simp⟩) (by simp) <| Cg rfl <| Aa rfl (λh=>?_) (λh=>by exfalso;simp at h);refine BS rfl <| B4 BR rfl ⟨h4,by simp only [maxLen,BX] at *;omega,by simp only [BX] at *;omega,trivial⟩ <| Cg rfl <| EN BR rfl (λ_=>⟨hn.1,by simp;omega⟩) (by simp) <| Cg rfl <| Ii BR (e:=dTyc (.mk 0 v2 v3 v4)) (e':=dTyc (.mk g m y qs)) rfl (by simpa using hg) (by show 0+4<=4;decide) (by simp) (by simp) <| Cg rfl <| By 3 rfl <| Ab rfl rfl ?_
     simp only [hset];rfl
   ·have hr:F4 (.mk 9 n x ps) (.mk g m y qs) l=(l,Hq v (.mk g m y qs)):=by rw [F4,if_pos rfl,hd,if_neg h0]
    ·rw [hr];obtain ⟨v1,v2,v3,v4⟩:=v;simp only [BA] at h0;refine Ac BR Tryz.func62 (by decide +kernel) rfl [1,2,3,4,5,6] rfl rfl <| Cg rfl <| Aa rfl (λh=>?_) (λh=>by exfalso;simp at h);refine BS rfl <| ri rfl (c:=dTyc (.mk v1 v2 v3 v4)) (λ_=>⟨hn.1,by simpa using hg,by simp⟩) (by simp) <| Cg rfl <| Aa rfl (λh=>by exfalso;simp at h;exact h0 h) (λh=>?_);exact BS rfl <| ri rfl (c:=dTyc (.mk v1 v2 v3 v4)) (λ_=>⟨hn.1,by simpa using hg,by simp⟩) (by simp) <| Cg rfl <| Af rfl hS <| rg [] rfl (by simp;rfl) <| Ab rfl rfl rfl
  ·by_cases hh:f=g/\x=y/\ps.length=qs.length
   ·have hr:F4 (.mk f n x ps) (.mk g m y qs) l=Jn ps qs l:=by rw [F4,if_neg e9];exact if_pos hh
    obtain ⟨rfl,rfl,hq⟩:=hh;have hbl:=Gm hb;simp only [DZ] at hbl;rw [hr];have hpi:∀p∈ps,inB l.length p:=λp hp=>ha.part e9 hp;have hqw:∀q∈qs,Cl q=true:=DB hb;refine Ac BR Tryz.func62 (by decide +kernel) rfl [1,2,3,4,5,6] rfl rfl <| Cg rfl <| Aa rfl (λh=>by exfalso;simp at h;exact e9 h) (λh=>?_);refine tO rfl <| Aa rfl (λh=>by exfalso;simp at h;exact h (by omega)) (λh=>?_);refine BS rfl <| Ak (λz:Nat×List Ty×Bool=>[(9,.imm (.int .i64 z.1)),(2,.imm (.sl (A2 z.2.1))),(8,.imm (.bool z.2.2)),(3,.ref 1 0),(4,.ref 2 0)]) (λ_=>[(1,some (.immb 25 4 (dTyc (.mk f n x ps)))),(2,some (.immb 25 4 (dTyc (.mk f m x qs))))]) [3,4,5,6] (λz=>ps.length-z.1)
     (λz=>z.1<=ps.length/\z.2.1.length=l.length/\Jn ps qs l=if z.2.2=true then Jn (ps.drop z.1) (qs.drop z.1) z.2.1 else (z.2.1,false)) (0,l,true)
     ⟨AL _,rfl,rfl⟩ Bx AM rfl λz hz ih=>?_
    obtain ⟨i,k,o⟩:=z;obtain ⟨hz1,hz2,hz3⟩:=hz;simp only at hz1 hz2 hz3 ih;refine tO rfl <| Aa rfl (λh=>?_) (λh=>?_)
    ·have hlt:i<ps.length/\o=true:=by simp at h;exact ⟨by omega,by grind⟩
     obtain ⟨hlt,rfl⟩:=hlt;obtain ⟨p,hp⟩:=Ao hlt;obtain ⟨q,hq'⟩:=Ao (l:=qs) (i:=i) (by omega);have hgp:=A8 hp;have hgq:=A8 hq';have hI:=PC p q k (hqw q (AF hq')) (by rw [hz2];exact hpi p (AF hp)) (by omega);have hlen:=jO p q k (hqw q (AF hq')) (by rw [hz2];exact hpi p (AF hp));rw [if_pos rfl,XG hp hq'] at hz3;have hih:=ih (i+1,(F4 p q k).1,(F4 p q k).2) (by simp only;omega) ⟨by simp only;omega,by simp only;omega,by
      rw [hz3];cases hc:(F4 p q k).2 with
      | true=>rfl
      | false=>simp only [Eo,if_false];rw [<- hc]⟩
     generalize (F4 p q k).1=k' at *;generalize (F4 p q k).2=o' at *;obtain ⟨p1,p2,p3,p4⟩:=p;obtain ⟨q1,q2,q3,q4⟩:=q;exact BS rfl <| ri rfl (c:=dTyc (.mk p1 p2 p3 p4)) (λ_=>⟨by simp,by simpa using hgp,by simp⟩) (by simp) <| Cg rfl <| ri rfl (c:=dTyc (.mk q1 q2 q3 q4)) (λ_=>⟨by simp,by simpa using hgq,by simp⟩) (by simp) <| Cg rfl <| Af rfl hI <| rg [] rfl (by simp;rfl) <| Ae hih ⟨AA (Cb (by omega) (by omega)),BF⟩ AM rfl
    ·have hlt:i=ps.length\/o=false:=by simp at h;grind
     refine Aw rfl <| BS rfl <| Ab rfl rfl ?_;rw [hz3];cases o with
     | false=>rfl
     | true =>
      rcases hlt with rfl | h
      ·rw [if_pos rfl,Br (B8 _)];simp only [Jn]
      ·cases h
   ·have hr:F4 (.mk f n x ps) (.mk g m y qs) l=(l,false):=by rw [F4,if_neg e9];exact if_neg hh
    rw [hr];refine Ac BR Tryz.func62 (by decide +kernel) rfl [1,2,3,4,5,6] rfl rfl <| Cg rfl <| Aa rfl (λh=>by exfalso;simp at h;exact e9 h) (λh=>?_);refine tO rfl <| Aa rfl (λh=>?_) (λh=>by exfalso;simp at h;grind);exact BS rfl <| Ab rfl rfl rfl
termination_by a=>SizeOf.sizeOf a
decreasing_by
 have:=Cn (AF hp);simp_wf;omega
theorem Ux (a b:Ty) (hb:Cl b=true) (sa:Gp a=true):Al Tryz.prog 16 [.agg (dTyc a),.agg (dTyc b)] (.bool (LI a b λ_=>none).isSome):=by
 obtain ⟨u0,u1,u2⟩:=KX a sa;have hM:=OJ a sa;obtain ⟨H,hH⟩:∃H:Nat,CV a=H:=⟨(CV a).toNat,by omega⟩
 have hI:inB (List.replicate H F5).length a:=by rw [PO,<- hH];exact u2
 have hC:=PC a b (List.replicate H F5) hb hI (by simp;omega);obtain ⟨_,h2,_⟩:=MQ a b (List.replicate H F5) hb hI;rw [L0] at h2;rw [<- h2];rw [hH] at hM;generalize (F4 a b (List.replicate H F5)).1=l' at *;generalize (F4 a b (List.replicate H F5)).2=o at *;rw [W4] at hC;obtain ⟨a1,a2,a3,a4⟩:=a;obtain ⟨b1,b2,b3,b4⟩:=b;exact Ac BR Tryz.func16 (by decide +kernel) rfl [1,2,3,4] rfl rfl <| Cg rfl <| Af rfl hM <| Cg rfl <| Qu BR rfl rfl (by simp) (by simp;omega) (by simp [maxLen];omega) <| Cg rfl <| Af rfl hC <| rg [] rfl (by simp;rfl) <| Ab rfl rfl rfl
def oW {α:Type} (o:Bool) (x:α):Option α:=if o=true then some x else none
@[simp] theorem resO_true {α:Type} (x:α):oW true x=some x:=rfl
@[simp] theorem resO_false {α:Type} (x:α):oW false x=none:=rfl
theorem vV {α β:Type} (f:α->β) (o:Bool) (x:α):(oW o x).map f=oW o (f x):=by cases o <;> rfl
theorem StL.ok {L:List Ty} (h:StL L):StOk L.length (G5 L):=⟨by omega,h.dom,h.sol⟩
def nS (m:Md) (S:List Ty) (p t:Ty) (Γ:Ax) (L:List Ty) (Γ':Ax) (L':List Ty) (o:Bool):Prop :=
 Al Tryz.prog 220 [.agg (El m),.sl (Dq Γ),.agg (dTyc p),.agg (dTyc t),.agg (Kt L S)] (.tup [.sl (Dq Γ'),.agg (Kt L' S),.bool o])
def PatsC (m:Md) (S:List Ty):List Ty->List Ty->Ax->List Ty->Ax->List Ty->Bool->Prop
 | p::ps,t::ts,Γ,L,Γ',L',o=>∃Γ1 L1 o1,nS m S p t Γ L Γ1 L1 o1/\if o1=true then PatsC m S ps ts Γ1 L1 Γ' L' o else (Γ'=Γ1/\L'=L1/\o=false)
 | _,_,Γ,L,Γ',L',o=>Γ'=Γ/\L'=L/\o=true
theorem PatsC.stop {m:Md} {S:List Ty} {p t:Ty} {ps ts:List Ty} {Γ Γ1:Ax} {L L1:List Ty} (h:nS m S p t Γ L Γ1 L1 false):PatsC m S (p::ps) (t::ts) Γ L Γ1 L1 false:=by
 rw [PatsC];exact ⟨Γ1,L1,false,h,by rw [if_neg (by simp)];exact ⟨rfl,rfl,rfl⟩⟩
theorem PatsC.step {m:Md} {S:List Ty} {p t:Ty} {ps ts:List Ty} {Γ Γ1 Γ2:Ax} {L L1 L2:List Ty} {o:Bool} (h:nS m S p t Γ L Γ1 L1 true) (h2:PatsC m S ps ts Γ1 L1 Γ2 L2 o):PatsC m S (p::ps) (t::ts) Γ L Γ2 L2 o:=by
 rw [PatsC];exact ⟨Γ1,L1,true,h,by rw [if_pos rfl];exact h2⟩
theorem TypL.lit {L:List Ty} (f:Int):TypL L (Oy f):=by
 refine ⟨?_,?_⟩
 ·unfold Oy;split
  ·rfl
  ·split <;> rfl
 ·refine Ce ?_ _;unfold Oy;split
  ·rfl
  ·split <;> rfl
theorem TypL.data {L:List Ty} (x:Str):TypL L (Bt x):=⟨by simp [Bt,Cl,FC],Ce (by simp [Bt,CA,Dm]) _⟩
end Go.Hk
namespace Go.Hk
mutual
def JK:Tm->Nat
 | .mk _ _ _ ks ps=>1+De ks+Dx ps
def De:List Tm->Nat
 | []=>0
 | t::r=>JK t+De r
end
theorem Zv (t:Tm):1<=JK t:=by cases t;simp [JK];omega
theorem LG:∀{l:List Tm},Df l=true↔∀t∈l,Cy t=true
 | []=>by simp [Df]
 | t::r=>by simp [Df,LG (l:=r)]
def Ar (op:Int) (k p:Nat):Prop:=(op=4/\k=0)\/(op=5/\k=1)\/(op=27/\k=1)\/(op=6/\k=2)\/(op=7/\k=2)\/op=14\/(op=15/\k=1+p)\/(Cm op/\k=(Bj op (As 0)).1.length)
theorem Ar.rule {op:Int} {k p:Nat} (h:Cm op) (hk:k=(Bj op (As 0)).1.length):Ar op k p:=.inr (.inr (.inr (.inr (.inr (.inr (.inr ⟨h,hk⟩))))))
theorem jG {op n:Int} {x:Str} {k p:Nat} (h:C6 op n x k p=true):Ar op k p:=by
 unfold C6 at h;by_cases e0:op=1
 ·rw [if_pos e0] at h;have hk:k=0:=by simp only [A1,beq_iff_eq] at h;omega
  subst e0;exact Ar.rule (by unfold Cm;decide) (by rw [hk];rfl)
 rw [if_neg e0] at h;by_cases e1:op=2
 ·rw [if_pos e1] at h;have hk:k=0:=by simp only [A1,beq_iff_eq] at h;omega
  subst e1;exact Ar.rule (by unfold Cm;decide) (by rw [hk];rfl)
 rw [if_neg e1] at h;by_cases e2:op=3\/op=21\/op=25\/op=28
 ·rw [if_pos e2] at h;have hk:k=0:=by simp only [A1,beq_iff_eq] at h;omega
  rcases e2 with rfl | rfl | rfl | rfl
  ·exact Ar.rule (by unfold Cm;decide) (by rw [hk];rfl)
  ·exact Ar.rule (by unfold Cm;decide) (by rw [hk];rfl)
  ·exact Ar.rule (by unfold Cm;decide) (by rw [hk];rfl)
  ·exact Ar.rule (by unfold Cm;decide) (by rw [hk];rfl)
 rw [if_neg e2] at h;by_cases e3:op=4
 ·rw [if_pos e3] at h;have hk:k=0:=by simp only [A1,beq_iff_eq] at h;omega
  subst e3;exact .inl ⟨rfl,hk⟩
 rw [if_neg e3] at h;by_cases e4:op=5\/op=27
 ·rw [if_pos e4] at h;have hk:k=1:=by simp only [A1,beq_iff_eq] at h;omega
  rcases e4 with rfl | rfl
  ·exact .inr (.inl ⟨rfl,hk⟩)
  ·exact .inr (.inr (.inl ⟨rfl,hk⟩))
 rw [if_neg e4] at h;by_cases e5:op=7
 ·rw [if_pos e5] at h;have hk:k=2:=by simp only [A1,beq_iff_eq] at h;omega
  subst e5;exact .inr (.inr (.inr (.inr (.inl ⟨rfl,hk⟩))))
 rw [if_neg e5] at h;by_cases e6:op=8
 ·rw [if_pos e6] at h;have hk:k=3:=by simp only [A1,beq_iff_eq] at h;omega
  subst e6;exact Ar.rule (by unfold Cm;decide) (by rw [hk];rfl)
 rw [if_neg e6] at h;by_cases e7:op=14
 ·rw [if_pos e7] at h;subst e7;exact .inr (.inr (.inr (.inr (.inr (.inl rfl)))))
 rw [if_neg e7] at h;by_cases e8:op=15
 ·rw [if_pos e8] at h;have hk:k=1+p:=by simp only [A1,beq_iff_eq] at h;omega
  subst e8;exact .inr (.inr (.inr (.inr (.inr (.inr (.inl ⟨rfl,hk⟩))))))
 rw [if_neg e8] at h;by_cases e9:op=16\/op=17\/op=19\/op=20\/op=23\/op=26
 ·rw [if_pos e9] at h;have hk:k=1:=by simp only [A1,beq_iff_eq] at h;omega
  rcases e9 with rfl | rfl | rfl | rfl | rfl | rfl
  ·exact Ar.rule (by unfold Cm;decide) (by rw [hk];rfl)
  ·exact Ar.rule (by unfold Cm;decide) (by rw [hk];rfl)
  ·exact Ar.rule (by unfold Cm;decide) (by rw [hk];rfl)
  ·exact Ar.rule (by unfold Cm;decide) (by rw [hk];rfl)
  ·exact Ar.rule (by unfold Cm;decide) (by rw [hk];rfl)
  ·exact Ar.rule (by unfold Cm;decide) (by rw [hk];rfl)
 rw [if_neg e9] at h;by_cases e10:op=24
 ·rw [if_pos e10] at h;have hk:k=1:=by simp only [A1,beq_iff_eq] at h;omega
  subst e10;exact Ar.rule (by unfold Cm;decide) (by rw [hk];rfl)
 rw [if_neg e10] at h;by_cases e11:op=6\/op=9\/op=10\/op=11\/op=12\/op=13\/op=18\/op=22
 ·rw [if_pos e11] at h;have hk:k=2:=by simp only [A1,beq_iff_eq] at h;omega
  rcases e11 with rfl | rfl | rfl | rfl | rfl | rfl | rfl | rfl
  ·exact .inr (.inr (.inr (.inl ⟨rfl,hk⟩)))
  ·exact Ar.rule (by unfold Cm;decide) (by rw [hk];rfl)
  ·exact Ar.rule (by unfold Cm;decide) (by rw [hk];rfl)
  ·exact Ar.rule (by unfold Cm;decide) (by rw [hk];rfl)
  ·exact Ar.rule (by unfold Cm;decide) (by rw [hk];rfl)
  ·exact Ar.rule (by unfold Cm;decide) (by rw [hk];rfl)
  ·exact Ar.rule (by unfold Cm;decide) (by rw [hk];rfl)
  ·exact Ar.rule (by unfold Cm;decide) (by rw [hk];rfl)
 rw [if_neg e11] at h;cases h
theorem pH {op n:Int} {x:Str} {ks:List Tm} {ps:List Ty} (h:Cy (.mk op n x ks ps)=true):Ar op ks.length ps.length:=by
 simp only [Cy,A1] at h;exact jG h.1.1
theorem cQ {op n:Int} {x:Str} {ks:List Tm} {ps:List Ty} (h:Cy (.mk op n x ks ps)=true):∀t∈ks,Cy t=true:=by
 simp only [Cy,A1] at h;exact LG.1 h.2
end Go.Hk
namespace Go.Hk
open Go.Proofs
def vE (m:Md) (Γ:Ax) (t:Tm) (L S:List Ty) (τ:Ty) (L' S':List Ty) (o:Bool):Prop :=
 Al Tryz.prog 88 [.agg (El m),.sl (Dq Γ),.agg (Bo t),.agg (Kt L S)] (.tup [.agg (dTyc τ),.agg (Kt L' S'),.bool o])
def vJ (L S:List Ty) (a b:Ty) (L':List Ty) (o:Bool):Prop :=
 Al Tryz.prog 65 [.agg (Kt L S),.agg (dTyc a),.agg (dTyc b)] (.tup [.agg (Kt L' S),.bool o])
def AllK (m:Md) (Γ:Ax):List Tm->List Ty->List Ty->List Ty->List Ty->List Ty->Bool->Prop
 | t::ts,u::us,L,S,L',S',o=>∃τ L1 S1 o1,vE m Γ t L S τ L1 S1 o1/\if o1=true then (∃L2 o2,vJ L1 S1 τ u L2 o2/\if o2=true then AllK m Γ ts us L2 S1 L' S' o else (L'=L2/\S'=S1/\o=false)) else (L'=L/\S'=S/\o=false)
 | _,_,L,S,L',S',o=>L'=L/\S'=S/\o=true
def AllC (m:Md) (Γ:Ax) (ts:List Tm) (us:List Ty) (L S L' S':List Ty) (o:Bool):Prop :=
 Al Tryz.prog 147 [.agg (El m),.sl (Dq Γ),.sl (E4 ts),.sl (A2 us),.agg (Kt L S)] (.tup [.agg (Kt L' S'),.bool o])
theorem wR (m:Md) (Γ:Ax) (ts:List Tm) (us:List Ty) (L S L' S':List Ty) (o:Bool) (hl:ts.length<=us.length) (h:AllK m Γ ts us L S L' S' o):AllC m Γ ts us L S L' S' o:=by
 unfold AllC;refine B1 λhv=>?_;simp [CL,Fh,maxLen] at hv;obtain ⟨m1,m2,m3⟩:=m;refine Ac BR Tryz.func147 (by decide +kernel) rfl [1,2,3,4,5,6,7,8] rfl rfl <| Cg rfl <| Ak (λz:Nat×List Ty×List Ty=>[(12,.imm (.int .i64 z.1)),(1,.imm (.sl (Dq Γ))),(2,.imm (.sl (E4 ts))),(3,.imm (.sl (A2 us))),(5,.ref 1 0),(9,.ref 2 0),(10,.ref 3 0)])
  (λz=>[(1,some (.immb 43 3 (El ⟨m1,m2,m3⟩))),(2,some (.immb 105 2 (Kt z.2.1 z.2.2))),(3,some (.cells 105 2 [.nils,.nils]))]) [4,5,6,7,8] (λz=>ts.length-z.1)
  (λz=>z.1<=ts.length/\AllK ⟨m1,m2,m3⟩ Γ (ts.drop z.1) (us.drop z.1) z.2.1 z.2.2 L' S' o) (0,L,S)
  ⟨AL _,h⟩ Gw AD rfl λz hz ih=>?_
 clear h;obtain ⟨j,K,R⟩:=z;obtain ⟨hz1,hz2⟩:=hz;simp only at hz1 hz2 ih;refine BS rfl <| Aa rfl (λh=>?_) (λh=>?_)
 ·have hlt:j<ts.length:=by simp at h;omega
  obtain ⟨t,ht⟩:=Ao hlt;obtain ⟨u,hu⟩:=Ao (l:=us) (i:=j) (by omega);have hgt:=Fz ht;have hgu:=A8 hu;rw [Av ht,Av hu,AllK] at hz2;obtain ⟨τ,K1,R1,o1,hI,hz2⟩:=hz2;unfold vE at hI;obtain ⟨t1,t2,t3,t4,t5⟩:=t;obtain ⟨u1,u2,u3,u4⟩:=u;obtain ⟨a1,a2,a3,a4⟩:=τ;refine BS rfl <| ri rfl (c:=Bo (.mk t1 t2 t3 t4 t5)) (λ_=>⟨by simp,by simpa using hgt,by simp⟩) (by simp) <| Cg rfl <| Af rfl hI ?_;cases o1 with
  | false =>
   refine rg [] rfl (by simp;rfl) <| Aa rfl (λh=>?_) (λh=>by exfalso;simp at h);refine BS rfl <| Ab rfl rfl ?_;obtain ⟨h1,h2,h3⟩:=hz2;rw [h1,h2,h3]
  | true =>
   obtain ⟨K2,o2,hE,hz2⟩:=hz2;unfold vJ at hE;refine rg [] rfl (by simp;rfl) <| Aa rfl (λh=>by exfalso;simp at h) (λh=>?_);refine BS rfl <| ri rfl (c:=dTyc (.mk u1 u2 u3 u4)) (λ_=>⟨by simp,by simpa using hgu,by simp⟩) (by simp) <| Cg rfl <| Af rfl hE ?_;cases o2 with
   | false =>
    refine rg [] rfl (by simp;rfl) <| Aa rfl (λh=>?_) (λh=>by exfalso;simp at h);refine BS rfl <| Ab rfl rfl ?_;obtain ⟨h1,h2,h3⟩:=hz2;rw [h1,h2,h3]
   | true =>
    refine rg [] rfl (by simp;rfl) <| Aa rfl (λh=>by exfalso;simp at h) (λh=>?_);refine BS rfl ?_;have hih:=ih (j+1,K2,R1) (by simp only;omega) ⟨by simp only;omega,hz2⟩;exact Ae hih ⟨AA (Cb (by omega) (by omega)),Gq⟩ AD rfl
 ·have hlt:j=ts.length:=by simp at h;omega
  subst hlt;refine Aw rfl <| BS rfl ?_;rw [Br (B8 _)] at hz2;simp only [AllK] at hz2;obtain ⟨h1,h2,h3⟩:=hz2;refine Ab rfl rfl ?_;rw [h1,h2,h3]
theorem AllK.step {m:Md} {Γ:Ax} {t:Tm} {ts:List Tm} {u:Ty} {us:List Ty} {L S L1 S1 L2 L' S':List Ty} {τ:Ty} {o:Bool} (h:vE m Γ t L S τ L1 S1 true) (h2:vJ L1 S1 τ u L2 true) (h3:AllK m Γ ts us L2 S1 L' S' o):AllK m Γ (t::ts) (u::us) L S L' S' o:=by
 rw [AllK];refine ⟨τ,L1,S1,true,h,?_⟩;rw [if_pos rfl];refine ⟨L2,true,h2,?_⟩;rw [if_pos rfl];exact h3
def RowsC (m:Md) (Γ:Ax) (b a:Ty):List Ty->List Tm->List Ty->List Ty->List Ty->List Ty->Bool->Prop
 | p::ps,t::ts,L,S,L',S',o=>∃Γ1 L1 o1,nS m S p b Γ L Γ1 L1 o1/\if o1=true then (∃L2 S2 o2,AllC m Γ1 [t] [a] L1 S L2 S2 o2/\if o2=true then RowsC m Γ b a ps ts L2 S2 L' S' o else (L'=L2/\S'=S2/\o=false)) else (L'=L/\S'=S/\o=false)
 | _,_,L,S,L',S',o=>L'=L/\S'=S/\o=true
theorem AllC.one {m:Md} {Γ:Ax} {t:Tm} {u:Ty} {L S L' S':List Ty} {o:Bool} (h:AllK m Γ [t] [u] L S L' S' o):AllC m Γ [t] [u] L S L' S' o:=wR m Γ [t] [u] L S L' S' o (by simp) h
theorem RowsC.step {m:Md} {Γ Γ1:Ax} {b a p:Ty} {t:Tm} {ps:List Ty} {ts:List Tm} {L S L1 L2 S2 L' S':List Ty} {o:Bool} (h:nS m S p b Γ L Γ1 L1 true) (h2:AllC m Γ1 [t] [a] L1 S L2 S2 true) (h3:RowsC m Γ b a ps ts L2 S2 L' S' o):RowsC m Γ b a (p::ps) (t::ts) L S L' S' o:=by
 rw [RowsC];refine ⟨Γ1,L1,true,h,?_⟩;rw [if_pos rfl];refine ⟨L2,S2,true,h2,?_⟩;rw [if_pos rfl];exact h3
theorem AllK.end_ {m:Md} {Γ:Ax} {L S:List Ty}:AllK m Γ [] [] L S L S true:=by
 rw [AllK]
 ·exact ⟨rfl,rfl,rfl⟩
 ·intro _ _ _ _ h;cases h
theorem StL.fresh {L:List Ty} (h:StL L) (hl:L.length<1000000):StL (L++[F5]):=by
 refine ⟨by rw [RS];exact h.sol,?_,by simp;omega⟩;rw [RS];exact h.dom.mono (by simp;omega)
theorem bZ {op:Int} (h:Cm op) (a b:Ty):(Bj op a).1.length=(Bj op b).1.length:=by
 rcases h with rfl | rfl | rfl | rfl | rfl | rfl | rfl | rfl | rfl | rfl | rfl | rfl | rfl | rfl | rfl | rfl | rfl | rfl | rfl | rfl | rfl <;> rfl
def TyK (k:Int) (t:Ty):Prop:=Cl t=true/\inB k t
theorem TyK.i {k:Int}:TyK k AT:=⟨rfl,Ce rfl _⟩
theorem TyK.b {k:Int}:TyK k BP:=⟨rfl,Ce rfl _⟩
theorem TyK.u {k:Int}:TyK k Ds:=⟨rfl,Ce rfl _⟩
theorem TyK.f {k:Int} {a b:Ty} (h:TyK k a) (h':TyK k b):TyK k (Ba a b):=⟨Zm h.1 h'.1,VT h.2 h'.2⟩
theorem TyK.o {k s:Int} (hs:s≠9) (h0:s≠0) {a:Ty} (h:TyK k a):TyK k (Ic s a):=⟨fW hs h0 h.1,ZU hs h.2⟩
theorem Pz {op k:Int} (h:Cm op) {a:Ty} (ha:TyK k a):(∀u∈(Bj op a).1,TyK k u)/\TyK k (Bj op a).2.1/\∀u∈(Bj op a).2.2,TyK k u:=by
 have h5:=TyK.o (s:=5) (by decide) (by decide) ha;have h6:=TyK.o (s:=6) (by decide) (by decide) ha;have h7:=TyK.o (s:=7) (by decide) (by decide) ha;have hf:=TyK.f (TyK.u (k:=k)) ha;have hi:=TyK.i (k:=k);have hb:=TyK.b (k:=k);have hu:=TyK.u (k:=k);have n0:∀u∈([]:List Ty),TyK k u:=λu h=>nomatch h;have n1:∀{x:Ty},TyK k x->∀u∈[x],TyK k u:=λhx u h=>by rw [AO.1 h];exact hx
 have n2:∀{x y:Ty},TyK k x->TyK k y->∀u∈[x,y],TyK k u:=λhx hy u h=>by
  rcases CC.1 h with rfl | h
  ·exact hx
  ·exact n1 hy u h
 have n3:∀{x y z:Ty},TyK k x->TyK k y->TyK k z->∀u∈[x,y,z],TyK k u:=λhx hy hz u h=>by
  rcases CC.1 h with rfl | h
  ·exact hx
  ·exact n2 hy hz u h
 rcases h with rfl | rfl | rfl | rfl | rfl | rfl | rfl | rfl | rfl | rfl | rfl | rfl | rfl | rfl | rfl | rfl | rfl | rfl | rfl | rfl | rfl
 ·exact ⟨n0,hi,n0⟩
 ·exact ⟨n0,hi,n0⟩
 ·exact ⟨n0,hb,n0⟩
 ·exact ⟨n0,hu,n0⟩
 ·exact ⟨n0,hu,n0⟩
 ·exact ⟨n3 hb ha ha,ha,n0⟩
 ·exact ⟨n2 hi hi,hi,n0⟩
 ·exact ⟨n2 hi hi,hi,n0⟩
 ·exact ⟨n2 hi hi,hi,n0⟩
 ·exact ⟨n2 hi hi,hb,n0⟩
 ·exact ⟨n2 ha ha,hb,n1 ha⟩
 ·exact ⟨n1 ha,h5,n0⟩
 ·exact ⟨n1 h5,ha,n0⟩
 ·exact ⟨n2 h5 ha,hu,n0⟩
 ·exact ⟨n1 hf,h7,n0⟩
 ·exact ⟨n1 h7,ha,n0⟩
 ·exact ⟨n0,h6,n0⟩
 ·exact ⟨n2 h6 ha,hu,n0⟩
 ·exact ⟨n1 h6,ha,n0⟩
 ·exact ⟨n1 hi,hu,n0⟩
 ·exact ⟨n1 hi,hi,n0⟩
theorem TyK.h {n k:Int} (h:0<=n/\n<k):TyK k (As n):=⟨by simp [As,Cl,FC],If h⟩
abbrev Kw:=Option (Ty×List (Int×Ty)×Int×List Ty)
def Tk (m:Md) (T:List (Int×Ty)) (k:Int) (S:List Ty):St:=[(1,some (bQ m k 2 4 (A2 S).length)),(2,some (UM T)),(4,some (.row 25 4 (A2 S)))]
def CT (m:Md):Kw->Out
 | some (τ,T',k',S')=>.ret (.imm (.agg (dTyc τ))) (Tk m T' k' S')
 | none=>.pan FO
def Co (f:FuncId) (m:Md) (Γ:Ax) (t:Tm) (T:List (Int×Ty)) (k:Int) (S:List Ty) (r:Kw):Prop :=
 AK Tryz.prog f [.ref 1 0,.imm (.agg (Bo t)),.imm (.sl (Dq Γ))] (C8 m T k S) (CT m r)
def En (m:Md) (Γ:Ax) (t:Tm) (T:List (Int×Ty)) (k:Int) (S:List Ty) (r:Kw):Prop:=Co 79 m Γ t T k S r
def rN (m:Md) (T:List (Int×Ty)) (k:Int) (S:List Ty) (a b:Ty):Option (List (Int×Ty))->Prop
 | some T'=>CU m T k S a b T'
 | none=>D8 m T k S a b
abbrev Hs:=Option (List (Int×Ty)×Int×List Ty)
def Bs (m:Md) (Γ:Ax):List Tm->List Ty->List (Int×Ty)->Int->List Ty->Hs->Prop
 | t::ts,u::us,T,k,S,r=>(En m Γ t T k S none/\r=none)\/∃τ T1 k1 S1,En m Γ t T k S (some (τ,T1,k1,S1))/\((D8 m T1 k1 S1 τ u/\r=none)\/∃T2,CU m T1 k1 S1 τ u T2/\Bs m Γ ts us T2 k1 S1 r)
 | _,_,T,k,S,r=>r=some (T,k,S)
def jA (m:Md) (k:Int) (S:List Ty):Option (Ax×List (Int×Ty))->Out
 | some (Γ',T')=>.ret (.imm (.sl (Dq Γ'))) (C8 m T' k S)
 | none=>.pan FO
def Gj (m:Md) (Γ:Ax) (p τ:Ty) (T:List (Int×Ty)) (k:Int) (S:List Ty) (r:Option (Ax×List (Int×Ty))):Prop :=
 AK Tryz.prog 263 [.ref 1 0,.imm (.agg (dTyc p)),.imm (.agg (dTyc τ)),.imm (.sl (Dq Γ))] (C8 m T k S) (jA m k S r)
def M0 (m:Md) (k:Int) (S:List Ty):List Ty->List Ty->Ax->List (Int×Ty)->Option (Ax×List (Int×Ty))->Prop
 | p::ps,t::ts,Γ,T,r=>(Gj m Γ p t T k S none/\r=none)\/∃Γ1 T1,Gj m Γ p t T k S (some (Γ1,T1))/\M0 m k S ps ts Γ1 T1 r
 | _,_,Γ,T,r=>r=some (Γ,T)
def JH (m:Md) (Γ:Ax) (b a:Ty):List Ty->List Tm->List (Int×Ty)->Int->List Ty->Hs->Prop
 | p::ps,t::ts,T,k,S,r=>(Gj m Γ p b T k S none/\r=none)\/∃Γ1 T1,Gj m Γ p b T k S (some (Γ1,T1))/\((En m Γ1 t T1 k S none/\r=none)\/∃τ T2 k2 S2,En m Γ1 t T1 k S (some (τ,T2,k2,S2)) /\
   ((D8 m T2 k2 S2 τ a/\r=none)\/∃T3,CU m T2 k2 S2 τ a T3/\JH m Γ b a ps ts T3 k2 S2 r))
 | _,_,T,k,S,r=>r=some (T,k,S)
theorem StOk.mono {k k':Int} {σ:Sb} (h:StOk k σ) (hk:k<=k'):StOk k' σ:=⟨by have:=h.1;omega,h.2.1.mono hk,h.2.2⟩
def vI (T:List (Int×Ty)) (k:Int) (a b:Ty):Option (List (Int×Ty))->Prop
 | some T'=>StpR k (B6 T) k (B6 T') (λ_=>()) (λη _=>A7 η a=A7 η b)
 | none=>StpN (B6 T) (β:=Unit) (λη _=>A7 η a=A7 η b)
theorem Ij (m:Md) (T:List (Int×Ty)) (k:Int) (S:List Ty) {a b:Ty} (h:StOk k (B6 T)) (ha:TyK k a) (hb:TyK k b):∃r,rN m T k S a b r/\vI T k a b r:=by
 obtain ⟨n,r,h1,h2⟩:=iG h ha.1 hb.1 ha.2 hb.2;obtain ⟨h0,hd,hs⟩:=h;have ek:((k.toNat:Nat):Int)=k:=by omega
 obtain ⟨a1,a2⟩:=ha;obtain ⟨b1,b2⟩:=hb;rw [<- ek] at hd a2 b2;have h3:=aI m k S n T a b r h1 hs hd a1 b1 a2 b2;cases r with
 | none=>exact ⟨none,h3,h2⟩
 | some σ' =>
  obtain ⟨T',c,e⟩:=h3;exact ⟨some T',c,by subst e;exact h2⟩
structure rP (Γ:Ax) (T:List (Int×Ty)) (k:Int) (S:List Ty) (n:Nat):Prop where
 st:StOk k (B6 T)
 env:EnvOk k Γ
 l:k+n<=1000000
 s:S.length+n<=1000000
 g:Γ.length+n<=1000000
def rL (m:Md) (t:Tm) (Γ:Ax) (T:List (Int×Ty)) (k:Int) (S:List Ty):Kw->Prop
 | some (τ,T',k',S')=>∃N,BI m Γ t k (B6 T) (some (τ,k',B6 T',N))/\S'=S++N/\N.length<=JK t/\k'<=k+JK t
 | none=>BI m Γ t k (B6 T) none
def nV (m:Md) (ts:List Tm) (us:List Ty) (Γ:Ax) (T:List (Int×Ty)) (k:Int) (S:List Ty):Hs->Prop
 | some (T',k',S')=>∃N,HE m ts (us.map λu=>(Γ,u)) k (B6 T) (some (k',B6 T',N))/\S'=S++N/\N.length<=De ts/\k'<=k+De ts
 | none=>HE m ts (us.map λu=>(Γ,u)) k (B6 T) none
def Uy (m:Md) (n:Nat):Prop:=∀(t:Tm) (Γ:Ax) (T:List (Int×Ty)) (k:Int) (S:List Ty),JK t<=n->Cy t=true->rP Γ T k S (JK t)->∃r,En m Γ t T k S r/\rL m t Γ T k S r
theorem TyK.mono {k k':Int} {t:Ty} (h:TyK k t) (hk:k<=k'):TyK k' t:=⟨h.1,h.2.mono hk⟩
theorem GL {m:Md} {n:Nat} (hI:Uy m n):∀(ts:List Tm) (us:List Ty) (Γ:Ax) (T:List (Int×Ty)) (k:Int) (S:List Ty),ts.length=us.length->De ts<=n->(∀t∈ts,Cy t=true)->(∀u∈us,TyK k u)->rP Γ T k S (De ts) ->
  ∃r,Bs m Γ ts us T k S r/\nV m ts us Γ T k S r
 | [],[],Γ,T,k,S,_,_,_,_,hB=>by
  refine ⟨some (T,k,S),?_,[],lB hB.st,by simp,by simp [De],by simp [De]⟩;simp only [Bs]
 | [],_::_,_,_,_,_,h,_,_,_,_=>by cases h
 | _::_,[],_,_,_,_,h,_,_,_,_=>by cases h
 | t::ts,u::us,Γ,T,k,S,h,hn,hf,hu,⟨b1,b2,b3,b4,b5⟩=>by
  simp only [De] at hn b3 b4 b5;obtain ⟨r1,c1,g1⟩:=hI t Γ T k S (by omega) (hf t (by simp)) ⟨b1,b2,by omega,by omega,by omega⟩;cases r1 with
  | none =>
   refine ⟨none,?_,O0 (k:=k) (σ:=B6 T) g1⟩;rw [Bs];exact .inl ⟨c1,rfl⟩
  | some z =>
   obtain ⟨τ,T1,k1,S1⟩:=z;obtain ⟨N1,r1,s1,s2,s3⟩:=g1;have hle:k<=k1:=r1.1.1;have hu0:=hu u (by simp);obtain ⟨r2,c2,g2⟩:=Ij m T1 k1 S1 r1.1.2.1 ⟨r1.2.1,r1.2.2.1⟩ (hu0.mono hle);cases r2 with
   | none =>
    refine ⟨none,?_,TS r1 hu0.2 g2⟩;rw [Bs];exact .inr ⟨τ,T1,k1,S1,c1,.inl ⟨c2,rfl⟩⟩
   | some T2 =>
    obtain ⟨r,c3,g3⟩:=GL hI ts us Γ T2 k1 S1 (by simpa using h) (by omega) (λt ht=>hf t (by simp [ht])) (λv hv=>(hu v (by simp [hv])).mono hle)
     ⟨g2.2.1,b2.mono hle,by omega,by rw [s1,Bw];omega,by omega⟩
    have hko:KidsOk k ((Γ,u)::us.map λu=>(Γ,u)):=by
     intro p hp;rcases CC.1 hp with rfl | hp
     ·exact ⟨b2,hu0⟩
     ·obtain ⟨v,hv,rfl⟩:=Cc.1 hp;exact ⟨b2,hu v (by simp [hv])⟩
    refine ⟨r,?_,?_⟩
    ·rw [Bs];exact .inr ⟨τ,T1,k1,S1,c1,.inr ⟨T2,c2,c3⟩⟩
    ·cases r with
     | none =>
      exact Sw (r:=none) hko r1 g2 g3
     | some y =>
      obtain ⟨T',k',S'⟩:=y;obtain ⟨N,r3,t1,t2,t3⟩:=g3;refine ⟨N1++N,Sw (r:=some (k',B6 T',N)) hko r1 g2 r3,by rw [t1,s1,CE],by rw [Bw];simp only [De];omega,by simp only [De];omega⟩
def Uv (m:Md) (p τ:Ty) (Γ:Ax) (T:List (Int×Ty)) (k:Int):Option (Ax×List (Int×Ty))->Prop
 | some (Γ',T')=>Lm m p τ Γ k (B6 T) (some (Γ',B6 T'))/\Γ'.length<=Γ.length+Ek p
 | none=>Lm m p τ Γ k (B6 T) none
def nR (m:Md) (ps ts:List Ty) (Γ:Ax) (T:List (Int×Ty)) (k:Int):Option (Ax×List (Int×Ty))->Prop
 | some (Γ',T')=>QW m ps ts Γ k (B6 T) (some (Γ',B6 T'))/\Γ'.length<=Γ.length+Dx ps
 | none=>QW m ps ts Γ k (B6 T) none
theorem RY {m:Md} {S:List Ty} {k:Int} {n:Nat} (hP:∀(p τ:Ty) (Γ:Ax) (T:List (Int×Ty)),Ek p<=n->StOk k (B6 T)->TyK k τ->EnvOk k Γ->Γ.length+Ek p<=1000000->∃r,Gj m Γ p τ T k S r/\Uv m p τ Γ T k r) :
  ∀(ps ts:List Ty) (Γ:Ax) (T:List (Int×Ty)),ps.length=ts.length->Dx ps<=n->StOk k (B6 T)->(∀t∈ts,TyK k t)->EnvOk k Γ->Γ.length+Dx ps<=1000000->∃r,M0 m k S ps ts Γ T r/\nR m ps ts Γ T k r
 | [],[],Γ,T,_,_,hs,_,hΓ,_=>by
  refine ⟨some (Γ,T),by simp only [M0],iT hs hΓ,by simp [Dx]⟩
 | [],_::_,_,_,h,_,_,_,_,_=>by cases h
 | _::_,[],_,_,h,_,_,_,_,_=>by cases h
 | p::ps,t::ts,Γ,T,h,hn,hs,ht,hΓ,hg=>by
  simp only [Dx] at hn hg;obtain ⟨r1,c1,g1⟩:=hP p t Γ T (by omega) hs (ht t (by simp)) hΓ (by omega);cases r1 with
  | none =>
   refine ⟨none,?_,cM (k:=k) (σ:=B6 T) g1⟩;rw [M0];exact .inl ⟨c1,rfl⟩
  | some z =>
   obtain ⟨Γ1,T1⟩:=z;obtain ⟨g1,l1⟩:=g1;obtain ⟨r,c2,g2⟩:=RY hP ps ts Γ1 T1 (by simpa using h) (by omega) g1.1.2.1 (λu hu=>ht u (by simp [hu])) g1.2 (by omega);refine ⟨r,?_,?_⟩
   ·rw [M0];exact .inr ⟨Γ1,T1,c1,c2⟩
   ·have hto:TysOk k ts:=λu hu=>ht u (by simp [hu]);cases r with
    | none=>exact RX (r:=none) hto g1 g2
    | some y =>
     obtain ⟨Γ',T'⟩:=y;exact ⟨RX (r:=some (Γ',B6 T')) hto g1 g2.1,by have:=g2.2;simp only [Dx];omega⟩
def nP (m:Md) (b a:Ty) (ps:List Ty) (ts:List Tm) (Γ:Ax) (T:List (Int×Ty)) (k:Int) (S:List Ty):Hs->Prop
 | some (T',k',S')=>∃N,KL m b a Γ ps ts k (B6 T) (some (k',B6 T',N))/\S'=S++N/\N.length<=De ts/\k'<=k+De ts
 | none=>KL m b a Γ ps ts k (B6 T) none
def aV (m:Md):Prop:=∀(S:List Ty) (k:Int) (p τ:Ty) (Γ:Ax) (T:List (Int×Ty)),StOk k (B6 T)->TyK k τ->EnvOk k Γ->Γ.length+Ek p<=1000000->∃r,Gj m Γ p τ T k S r/\Uv m p τ Γ T k r
theorem RU {m:Md} (hP:aV m) {n:Nat} (hI:Uy m n):∀(ps:List Ty) (ts:List Tm) (Γ:Ax) (b a:Ty) (T:List (Int×Ty)) (k:Int) (S:List Ty),ps.length=ts.length->De ts<=n->(∀t∈ts,Cy t=true)->TyK k b->TyK k a->rP Γ T k S (De ts+Dx ps) ->
  ∃r,JH m Γ b a ps ts T k S r/\nP m b a ps ts Γ T k S r
 | [],[],Γ,b,a,T,k,S,_,_,_,_,_,hB=>by
  refine ⟨some (T,k,S),by simp only [JH],[],iC hB.st,by simp,by simp [De],by simp [De]⟩
 | [],_::_,_,_,_,_,_,_,h,_,_,_,_,_=>by cases h
 | _::_,[],_,_,_,_,_,_,h,_,_,_,_,_=>by cases h
 | p::ps,t::ts,Γ,b,a,T,k,S,h,hn,hf,hb,ha,⟨b1,b2,b3,b4,b5⟩=>by
  simp only [De,Dx] at hn b3 b4 b5;obtain ⟨r1,c1,g1⟩:=hP S k p b Γ T b1 hb b2 (by omega);cases r1 with
  | none =>
   refine ⟨none,?_,Re (k:=k) (σ:=B6 T) g1⟩;rw [JH];exact .inl ⟨c1,rfl⟩
  | some z =>
   obtain ⟨Γ1,T1⟩:=z;obtain ⟨r1,l1⟩:=g1;obtain ⟨r2,c2,g2⟩:=hI t Γ1 T1 k S (by omega) (hf t (by simp)) ⟨r1.1.2.1,r1.2,by omega,by omega,by omega⟩;cases r2 with
   | none =>
    refine ⟨none,?_,Or r1 g2⟩;rw [JH];exact .inr ⟨Γ1,T1,c1,.inl ⟨c2,rfl⟩⟩
   | some z =>
    obtain ⟨τ,T2,k2,S2⟩:=z;obtain ⟨N1,r2,d1,d2,d3⟩:=g2;have hle:k<=k2:=r2.1.1;obtain ⟨r3,c3,g3⟩:=Ij m T2 k2 S2 r2.1.2.1 ⟨r2.2.1,r2.2.2.1⟩ (ha.mono hle);cases r3 with
    | none =>
     refine ⟨none,?_,Ts ha.2 r1 r2 g3⟩;rw [JH];exact .inr ⟨Γ1,T1,c1,.inr ⟨τ,T2,k2,S2,c2,.inl ⟨c3,rfl⟩⟩⟩
    | some T3 =>
     obtain ⟨r,c4,g4⟩:=RU hP hI ps ts Γ b a T3 k2 S2 (by simpa using h) (by omega) (λt ht=>hf t (by simp [ht])) (hb.mono hle) (ha.mono hle)
      ⟨g3.2.1,b2.mono hle,by omega,by rw [d1,Bw];omega,by omega⟩
     refine ⟨r,?_,?_⟩
     ·rw [JH];exact .inr ⟨Γ1,T1,c1,.inr ⟨τ,T2,k2,S2,c2,.inr ⟨T3,c3,c4⟩⟩⟩
     ·cases r with
      | none=>exact RT (r:=none) ha.2 hb.2 b2 r1 r2 g3 g4
      | some y =>
       obtain ⟨T',k',S'⟩:=y;obtain ⟨N,r4,t1,t2,t3⟩:=g4;exact ⟨N1++N,RT (r:=some (k',B6 T',N)) ha.2 hb.2 b2 r1 r2 g3 r4,by rw [t1,d1,CE],by rw [Bw];simp only [De];omega,by simp only [De];omega⟩
end Go.Hk
namespace Go.Hk
def iS (tt:TT) (n:Nat) (env:Env) (todo:List DI):Option PBa :=
 match Bh todo ([],[]) with
 | some (_,o,todo')=>match o.guard,o.op with
  | none,.build t ⟨parts⟩=>match lk tt t with
   | some { sh:=.arr m e,zero:=z0::z,.. }=>match lk tt e,Ji env 1 parts,BB n o.dst with
    | some ti,some ds,true=>match Nat.beq ti.size 1,Nat.beq (ds.length+1) m,Nat.beq (z.length+1) m,z0.one with
     | true,true,true,true=>some ⟨z0::ds,o.dst,todo'⟩
     | _,_,_,_=>none
    | _,_,_=>none
   | _=>none
  | _,_=>none
 | none=>none
structure PVx where
 xs:List V
 len:Nat
 m:Int
 g:Option (Bool×Bool)
 ob:List Prop
 t:Nat
 todo:List DI
def rU (tt:TT) (n:Nat) (env:Env) (todo:List DI):Option PVx :=
 match Bh todo ([],[]) with
 | some (all,o,todo')=>match o.op,Ca all env o with
  | .index t x i,some g=>match lk tt t,Lq (Am g) env x,Lq (Am g) env i with
   | some { sh:=.arr len e,.. },some (.imm (.agg xs),o1),some (.imm (.int _ m),o2)=>match lk tt e,o.dst,BB n o.dst with
    | some ti,some t',true=>match Nat.beq ti.size 1,ti.agg with
     | true,false=>some ⟨xs,len,m,g,Is o1 o2,t',todo'⟩
     | _,_=>none
    | _,_,_=>none
   | _,_,_=>none
  | _,_=>none
 | none=>none
section
variable {P:Program} {n:Nat} {F:List Nat} {Q:DQ} {tt:TT} {env env':Env} {st st':St} {ids ids':List Nat} {k todo todo':List DI} {I J:Imm} {μ:Mu} {w:World} {a:Act} {d:D}
theorem qJ (htt:TTok P tt) {c:PBa} (h:iS tt n env todo=some c) (hk:G P n F Q c.todo (BD c.dst (H1 c.ds) env) st ids):G P n F Q todo env st ids:=by
 unfold iS at h
 split at h
 ·rename_i all o todo' h1
  split at h
  ·rename_i t parts hg hop
   split at h
   ·rename_i m e _ _ _ z0 z ht
    split at h
    ·rename_i ti ds hti hps hd
     split at h
     ·rename_i hsz hlen hzlen hone;cases h;refine B9 (fr:=[]) (wr:=[]) (rd:=[]) h1 ?_ hd (λc hc=>by rw [hop] at hc;cases hc) hk;intro I μ st1 ids1 a w hag hst hon;refine ⟨λ_=>?_,λhw=>by rw [AG hg] at hw;cases hw⟩;have hops:=Bd hon;rw [hop] at hops;obtain ⟨q1,q2,q3⟩:=NB (a:=a) (I:=I) (μ:=μ) hps (λx hx=>hops x (by simp only [Op.operands];simpa using hx));have hty:=htt t _ ht;obtain ⟨inf,zv,hi1,_,_,hi4,hi5,hi6⟩:=hty.info;have hu:P.underlying t=some (.array m e):=htt.sh ht;have hs1:ti.size=1:=Cx hsz;obtain ⟨hz1,hz2⟩:=hi5 I μ;have hzl:zv.cells.toList.length=m:=by
       rw [hz1];exact Cx hzlen
      have hpl:(parts.map λp=>a.eval p.2).length+1=m:=by rw [q2.1];exact Cx hlen
      obtain ⟨v0,vr,hvz⟩:∃v0 vr,zv.cells.toList=v0::vr:=by
       cases hc:zv.cells.toList with
       | nil=>rw [hc] at hzl;simp at hzl;omega
       | cons a b=>exact ⟨a,b,rfl⟩
      rw [hvz] at hzl hz2;have hv0:RepD I μ v0 z0:=hz2 0 v0 z0 rfl rfl;have hfill:=Wg (parts.map λp=>a.eval p.2) [v0] vr (by simp at hzl;simp at hpl;simp;omega) q3;simp only [Dh,BX,Db,Jp,Di] at hfill;have hrun:(execOp a.eval o).run P w = .ok (.value (.agg (v0::parts.map λp=>a.eval p.2).toArray)) w:=by
       simp only [execOp,hop,Instr.build,Sem.run_bind,zeroValue,typeInfo,run_program,Result.andThen_ok,hi1,hi4,Sem.run_pure,run_underlying hu,(htt e ti hti).sizeOf w,hs1,LM,q1];rw [show zv.cells=zv.cells.toList.toArray from rfl,hvz,hfill];rfl
      rw [hrun];refine ⟨I,μ,hst,GJ ⟨by simp [q2.1],λi v d p q=>?_⟩ (λv hv=>?_),Mu.le_refl μ,Ext.refl _ _ _ _⟩
      ·match i,p,q with
       | 0,p,q=>cases p;cases q;exact hv0
       | i+1,p,q=>exact q2.2 i v d (by simpa using p) (by simpa using q)
      ·rcases CC.1 hv with rfl | hv
       ·exact hv0.one hone
       ·exact q3 v hv
     ·cases h
    ·cases h
   ·cases h
  ·cases h
 ·cases h
theorem uI (htt:TTok P tt) {c:PVx} {x:V} (h:rU tt n env todo=some c) (hc:Am c.g->0<=c.m/\c.m<c.len/\c.xs[c.m.toNat]?=some x) (hob:AB c.ob)
  (hk:G P n F Q c.todo ((c.t,gD c.g (.imm x))::env) st ids):G P n F Q todo env st ids:=by
 unfold rU at h
 split at h
 ·rename_i all o todo' h1
  split at h
  ·rename_i t y i g hop hg
   split at h
   ·rename_i len e _ _ _ _ xs o1 kk m o2 ht hx hi
    split at h
    ·rename_i ti t' hti hdst hd
     split at h
     ·rename_i hsz hagg;cases h;have hk:G P n F Q todo' (BD o.dst (gD g (.imm x)) env) st ids:=by rw [hdst];exact hk
      refine B9 (fr:=[]) (wr:=[]) (rd:=[]) h1 (Dl hg λI μ st1 ids1 a w _ hst hops hcx=>?_) (by rw [hdst] at hd ⊢;exact hd) (λc hc=>by rw [hop] at hc;cases hc) hk;rw [hop] at hops;obtain ⟨ho1,ho2⟩:=Bu hob;have rx:=(DK hx ho1 hcx (hops y (by simp [Op.operands]))).immInv;have ri:=(DK hi ho2 hcx (hops i (by simp [Op.operands]))).immInv.intInv;obtain ⟨c0,c1,c2⟩:=hc hcx;simp only at c0 c1 c2;have hu:P.underlying t=some (.array len e):=htt.sh ht;have hs1:ti.size=1:=Cx hsz;obtain ⟨cs,hcs,hl,hrep⟩:∃cs:Array Value,a.eval y = .agg cs/\cs.size=xs.length/\∀(i:Nat) (c:Value) (x:V),cs[i]?=some c->xs[i]?=some x->RepV I c x:=by
       have:∀v,RepV I v (.agg xs)->∃cs:Array Value,v = .agg cs/\cs.size=xs.length/\∀(i:Nat) (c:Value) (x:V),cs[i]?=some c->xs[i]?=some x->RepV I c x:=λv hv=>by
        cases hv with
        | agg cs _ hl _ h=>exact ⟨cs,rfl,hl,h⟩
       exact this _ rx
      have hlt:m.toNat<cs.size:=by rw [hl];exact (AJ.1 c2).1
      have hget:cs[m.toNat]?=some cs[m.toNat]:=Ox hlt;have hr:=hrep m.toNat _ x hget c2;have hna:=(htt e ti hti).isAgg w;rw [hagg] at hna;simp only [execOp,hop,ri,hcs];have hrun:(do pure (.value (<- Instr.index t (.agg cs) (.int kk m))):Sem Next).run P w = .ok (.value cs[m.toNat]) w:=by
       apply A6;simp only [Instr.index,Sem.run_bind,asIntOf,Sem.run_pure,Result.andThen_ok,run_underlying hu];simp [c0,c1,(htt e ti hti).sizeOf w,hs1,part,hna,hget]
      rw [hrun];exact ⟨I,μ,hst,.imm _ _ hr,Mu.le_refl μ,Ext.refl _ _ _ _⟩
     ·cases h
    ·cases h
   ·cases h
  ·cases h
 ·cases h
end
end Go.Hk
namespace Go.Hk
section
variable {P:Program} {n:Nat} {F:List Nat} {Q:DQ} {env:Env} {st st0:St} {ids:List Nat} {todo todo':List DI}
def Zn (m:Nat):D:=.agg (List.replicate (m+1) R9)
theorem Bc (t m:Nat) (h:lk env t=some (Zn m)):DGo P n F Q todo env st ids:=by
 intro b cs I μ a w items hd hc;have hv:=hc.env t _ h;generalize a.tmps.getD t undef=v at hv;cases hv with
 | agg cs ds hl _ hr =>
  have h0:0<cs.size:=by rw [hl];simp
  have:=hr 0 cs[0] R9 (Ox h0) rfl;generalize cs[0]=u at this;cases this;omega
theorem AV {c:SZ} {x:V} (m:Nat) (σ:List (Nat×Nat)) (h:SP n env todo=some c) (hob:AB c.ob) (hE:AK P c.f (Fp (Ec σ) c.das) st0 (.pan x)) (hb:EI σ st st0) (hn:CR σ (Bb σ) (HU c.das)=true) (hq:Kn Q x)
  (h1:Bh todo (Fu σ,[])=some (c.all,c.o,todo')) (hk:G P n F Q todo' (BD c.dst (Zn m) env) st ids):G P n F Q todo env st ids:=by
 obtain ⟨_,q2,q3,q4,q5,q6⟩:=Mj (P:=P) h hob;rw [q6] at q4 hk;exact B9 (fr:=[]) (wr:=[]) h1 (PY q2 q3 hE hb hn hq) q4 q5 hk
theorem D1 {m:Nat} (I:Imm) (μ:Mu) (v:Value):¬RepD I μ v (Zn m):=λh=>by
 cases h with
 | agg cs ds hl _ hr =>
  have h0:0<cs.size:=by rw [hl];simp
  have:=hr 0 cs[0] R9 (Ox h0) rfl;generalize cs[0]=u at this;cases this;omega
theorem cP (I:Imm) (μ:Mu) (v:Value):¬RepD I μ v R9:=λh=>by
 cases h;omega
structure PVo where
 d:D
 all:List Oper
 o:Oper
 todo:List DI
def rT (n:Nat) (env:Env) (t:Nat) (todo:List DI):Option PVo :=
 match Bh todo ([],[]) with
 | some (all,o,todo')=>match o.guard,EH (o.op.operands.toList.filterMap λx=>match x with | .tmp i=>some i | _=>none) t,lk env t,BB n o.dst with
  | none,true,some d,true=>some ⟨d,all,o,todo'⟩
  | _,_,_,_=>none
 | none=>none
theorem DS (t:Nat) (d':D) {c:PVo} (h:rT n env t todo=some c) (hv:∀I μ v,¬RepD I μ v c.d) (hnd:∀x,c.o.op ≠ .defer x) (hk:G P n F Q c.todo (BD c.o.dst d' env) st ids):G P n F Q todo env st ids:=by
 unfold rT at h
 split at h
 ·rename_i all o todo' h1
  split at h
  ·rename_i d hg hm hl hd;cases h;refine B9 (fr:=[]) (wr:=[]) (rd:=[]) h1 (λI μ st2 ids1 a w hag hst hon=>⟨λ_=>?_,λhw=>by rw [AG hg] at hw;cases hw⟩) hd hnd hk;exfalso;have hm:=BG.1 hm;obtain ⟨x,hx,e⟩:=List.mem_filterMap.1 hm;cases x with
   | tmp i =>
    cases e;exact hv I μ _ ((Bd hon) (.tmp t) (by simpa using hx) d hl)
   | _=>cases e
  ·cases h
 ·cases h
end
end Go.Hk
namespace Go.Hk
open Go.Proofs
theorem Zb (Γ:Ax):∀c∈Dq Γ,c.length=5:=λc hc=>by obtain ⟨x,_,rfl⟩:=Cc.1 hc;simp [WU]
theorem lK (es:List (List V)):AK Tryz.prog 137 [.imm (.sl es)] [] (.ret (.clip es) []):=by
 exact Ac Ah Tryz.func137 (by decide +kernel) rfl [1,2] rfl rfl <| Ai rfl <| uJ Ah rfl rfl rfl <| Ai rfl <| Ag ⟨_,AM⟩
theorem Jx (Γ:Ax) (x:Str) (t:Ty) (hΓ:Γ.length<=1000000):Al Tryz.prog 75 [.sl (Dq Γ),.str x,.agg (dTyc t)] (.sl (Dq (Γ++[(x,t)]))):=by
 have hC:=lK (Dq Γ);have h5:=Zb Γ;have hl:(Dq Γ).length<=1000000:=by simpa [Dq] using hΓ
 have he:Dq (Γ++[(x,t)])=Dq Γ++[.str x::dTyc t]:=by simp [Dq,WU]
 rw [he];generalize Dq Γ=es at *;obtain ⟨t1,t2,t3,t4⟩:=t;exact Ac Ah Tryz.func75 (by decide +kernel) rfl [1,2,3] rfl rfl <| Ai rfl <| Ad (fr:=[]) [] [] rfl (by simp) hC trivial rfl rfl rfl rfl <| Ai rfl <| eG Ah rfl ⟨by simp,by simp [maxLen];omega,by simp;omega,λc hc=>h5 c hc,by simp⟩ (λc hc=>h5 c hc) <| yg [] rfl (by simp;rfl) <| Ab rfl rfl rfl
def iA:List V:=[.nilfn,.fn (.func 192),.fn (.func 193),.fn (.func 194),.fn (.func 195),.fn (.func 196),.fn (.func 197),.fn (.func 198),.fn (.func 199),.fn (.func 200),.fn (.func 200),.fn (.func 200),.fn (.func 201),.fn (.func 202),.fn (.func 203),.fn (.func 204),.fn (.func 205),.fn (.func 206),.fn (.func 207),.fn (.func 208),.fn (.func 209),.fn (.func 210),.fn (.func 211),.fn (.func 212),.fn (.func 213),.fn (.func 192),.fn (.func 214),.fn (.func 215),.fn (.func 194)]
theorem dB:Al Tryz.prog 141 [] (.agg iA):=by
 exact Ac Ah Tryz.func141 (by decide +kernel) rfl [1] rfl rfl <| Ai rfl <| qJ Ah rfl <| Ai rfl <| Ab rfl rfl rfl
theorem DF (op:Nat) {f:FuncId} (hop:iA[op]?=some (.fn (.func f))) {m:Md} {Γ:Ax} {n:Int} {x:Str} {ks:List Tm} {ps:List Ty} {T:List (Int×Ty)} {k:Int} {S:List Ty} {r:Kw} (h:Co f m Γ (.mk op n x ks ps) T k S r):En m Γ (.mk op n x ks ps) T k S r:=by
 have hlt:op<29:=(AJ.1 hop).1;have hR:=dB;unfold En Co;unfold Co at h;refine Ac Ah Tryz.func79 (by decide +kernel) rfl [5,6,4,7] rfl rfl <| Ai rfl <| Af rfl hR <| Ai rfl <| uI Ah rfl (λ_=>⟨by simp,by simp;omega,by simpa using hop⟩) (by simp) <| Ai rfl ?_;cases r with
 | some z =>
  obtain ⟨⟨τ1,τ2,τ3,τ4⟩,T',k',S'⟩:=z;exact A4 [(1,1),(2,2),(3,3)] [(4,4)] [] (fr:=[4]) (nm:=[1,2,4,1,2,3]) rfl trivial (by simp) h Au rfl trivial rfl rfl rfl <| yg [] rfl (by simp;rfl) <| Ag ⟨_,Bx⟩
 | none =>
  exact AV 3 [(1,1),(2,2),(3,3)] rfl (by simp) h Au rfl rfl rfl <| yg [] rfl (by simp;rfl) <| Bc 14 3 rfl
theorem C0 {i:Nat} {u:Tm} {m:Md} {Γ:Ax} {op n:Int} {x:Str} {ks:List Tm} {ps:List Ty} (hu:ks[i]?=some u) {T:List (Int×Ty)} {k:Int} {S:List Ty} {r:Kw} (h:En m Γ u T k S r) :
  AK Tryz.prog 260 [.ref 1 0,.imm (.agg (Bo (.mk op n x ks ps))),.imm (.int .i64 i),.imm (.sl (Dq Γ))] (C8 m T k S) (CT m r):=by
 unfold En Co at h;have hg:=Fz hu;have hlt:=(AJ.1 hu).1;obtain ⟨u1,u2,u3,u4,u5⟩:=u;refine Ac Ah Tryz.func260 (by decide +kernel) rfl [5,6,4,7] rfl rfl <| Ai rfl <| yi rfl (c:=Bo (.mk u1 u2 u3 u4 u5)) (λ_=>⟨by simp,by simpa using hg,by simp⟩) (by simp) <| Ai rfl ?_;cases r with
 | some z =>
  obtain ⟨⟨τ1,τ2,τ3,τ4⟩,T',k',S'⟩:=z;exact Ad (fr:=[4]) [(1,1),(2,2),(3,3)] [(4,4)] rfl (by simp) h Au rfl rfl rfl rfl <| Ai rfl <| Ag ⟨_,Bx⟩
 | none =>
  exact AV 3 [(1,1),(2,2),(3,3)] rfl (by simp) h Au rfl rfl rfl <| Bc 16 3 rfl
end Go.Hk
namespace Go.Hk
def rnL (i j:Nat):List D->List D->Prop
 | [],[]=>True
 | d::r,d'::r'=>(d=d'\/∃l,d = .own i l/\d' = .own j l)/\rnL i j r r'
 | _,_=>False
theorem UZ {i j:Nat}:∀{ds ds':List D},rnL i j ds ds'->ds.length=ds'.length/\∀(q:Nat) (d':D),ds'[q]?=some d'->∃d,ds[q]?=some d/\(d=d'\/∃l,d = .own i l/\d' = .own j l)
 | [],[],_=>⟨rfl,λi d h=>by simp at h⟩
 | d::r,d'::r',h=>by
  obtain ⟨h1,h2⟩:=UZ h.2;refine ⟨by simp [h1],λq x hx=>?_⟩
  match q,hx with
  | 0,hx=>simp at hx;subst hx;exact ⟨d,rfl,h.1⟩
  | q+1,hx=>exact h2 q x (by simpa using hx)
 | [],_::_,h=>h.elim
 | _::_,[],h=>h.elim
theorem EX {P:Program} {n:Nat} {F:List Nat} {Q:DQ} {todo:List DI} {env:Env} {st:St} {ids':List Nat} (i j k:Nat) {e:TypeId} {sz:Nat} {es:List (List V)} {t:TypeId} {sz':Nat} {ds:List D} (ds':List D)
  (hl:lk st i=some (some (.row e sz es))) (hk:lk st k=some (some (.cells t sz' ds))) (hik:i≠k) (hcl:rnL i j ds ds')
  (h:DGo P n F Q todo env ((k,some (.cells t sz' ds'))::(j,some (.row e sz es))::(i,none)::st) ids'):DGo P n F Q todo env st (j::ids'):=by
 refine E2 λI μ a w hc=>?_;obtain ⟨g,hg,hr⟩:=hc.blk i _ hl;obtain ⟨gk,hgk,_⟩:=hc.blk k _ hk;have hjk:j≠k:=λe=>by rw [<- e,hc.idsFree j (by simp)] at hgk;cases hgk
 obtain ⟨q1,q2,q3⟩:=StRep.relay (R:=[i]) (new:=[(j,g,.row e sz es)]) (ids':=ids') hc.toStRep
  (λp hp b hb=>by rw [AO.1 hp] at hb;exact ⟨i,_,g,by simp,hl,hg,hb⟩)
  (λp hp q hq b _ _=>by rw [AO.1 hp,AO.1 hq]) (Imm.le_refl I) hc.imm (λb o h=>.inl h)
  (λhle p hp=>by rw [AO.1 hp];exact hr.mono (Imm.le_refl I) hle)
 have hmj:DP [(j,g,Blk.row e sz es)] μ j=some g:=by simp [DP,lk]
 have hmi:∀x v,μ x=some v->DP [(j,g,Blk.row e sz es)] μ x=some v:=q1;have hk2:Az ((j,some (.row e sz es))::(i,none)::st) k (.cells t sz' ds):=by
  refine A9.2 (.inr ⟨hjk.symm,?_⟩);show lk ((i,none)::st) k=_;rw [A5 _ _ hik];exact hk
 obtain ⟨c1,c2⟩:=UZ hcl;obtain ⟨p1,p2⟩:=q2.retell (st1:=(k,some (.cells t sz' ds'))::(j,some (.row e sz es))::(i,none)::st) (λx bb hlb=>by
  rcases A9.1 hlb with ⟨rfl,rfl⟩ | ⟨_,h2⟩
  ·refine ⟨_,hk2,λgb hb=>?_⟩;obtain ⟨hs,b,us,e1,e2,e3,e4⟩:=hb;refine ⟨by rw [<- c1,hs],b,us,e1,e2,⟨by rw [<- c1,e3.1],λq v y hv hy=>?_⟩,e4⟩;obtain ⟨d,y1,y2⟩:=c2 q y hy;have hr:=e3.2 q v d hv y1;rcases y2 with rfl | ⟨l,rfl,rfl⟩
   ·exact hr
   ·cases hr with
    | own _ _ ad cap hm =>
     rw [hmi i g hg] at hm;cases hm;exact .own j l ad cap hmj
  ·exact ⟨bb,h2,λ_ h=>h⟩)
 exact ⟨I,_,env,_,ids',p1,λt d hd=>(hc.env t d hd).mono (Imm.le_refl I) q1,q3.trans p2,.of_le q1,h⟩
end Go.Hk
namespace Go.Hk
open Go.Proofs
def outK (m:Md):Hs->Out
 | some (T',k',S')=>.ret (.imm (.tup [])) (Tk m T' k' S')
 | none=>.pan FO
theorem Jz (m:Md) (Γ:Ax) (op n:Int) (x:Str) (ks:List Tm) (ps:List Ty) (u:Ty) (T:List (Int×Ty)) (k:Int) (S:List Ty) (r:Hs) (hl:ks.length<=1000000) (h:Bs m Γ ks (ks.map λ_=>u) T k S r) :
  AK Tryz.prog 261 [.ref 1 0,.imm (.agg (Bo (.mk op n x ks ps))),.imm (.sl (Dq Γ)),.imm (.agg (dTyc u))] (C8 m T k S) (outK m r):=by
 obtain ⟨u1,u2,u3,u4⟩:=u;refine Ac Ah Tryz.func261 (by decide +kernel) rfl [5,6,4,7,8,9] rfl rfl <| Ai rfl <| EX 3 4 1 [.imm (.str m.name),.imm (.sl (m.datas.map CK)),.imm (.sl (m.funs.map CG)),.mapr 2,.imm (.int .i64 (k)),.own 4 (A2 S).length] rfl rfl (by decide) ⟨.inl rfl,.inl rfl,.inl rfl,.inl rfl,.inl rfl,.inr ⟨_,rfl,rfl⟩,trivial⟩ <| Ak (λz:Nat×List (Int×Ty)×Int×List Ty=>[(12,.imm (.int .i64 z.1)),(11,.imm (.int .i64 ks.length)),(0,.ref 1 0),(2,.imm (.sl (Dq Γ))),(5,.ref 5 0),(7,.ref 6 0)]) (λz=>(5,some (.immb 49 5 (Bo (.mk op n x ks ps))))::(6,some (.immb 25 4 (dTyc (.mk u1 u2 u3 u4))))::Tk m z.2.1 z.2.2.1 z.2.2.2) [7,8,9] (λz=>ks.length-z.1)
  (λz=>z.1<=ks.length/\Bs m Γ (ks.drop z.1) ((ks.drop z.1).map λ_=>.mk u1 u2 u3 u4) z.2.1 z.2.2.1 z.2.2.2 r) (0,T,k,S)
  ⟨AL _,h⟩ ⟨rfl,AA (by simp),BF⟩ Bx rfl λz hz ih=>?_
 clear h;obtain ⟨j,T1,k1,S1⟩:=z;obtain ⟨hj1,hj2⟩:=hz;simp only at hj1 hj2 ih;refine Aq rfl <| Aa rfl (λh'=>?_) (λh'=>?_)
 ·have hlt:j<ks.length:=by simp at h';omega
  obtain ⟨t,ht⟩:=Ao hlt;rw [Av ht,Cz,Bs] at hj2;refine Aq rfl ?_;rcases hj2 with ⟨hI,rfl⟩ | ⟨⟨τ1,τ2,τ3,τ4⟩,T2,k2,S2,hI,hj2⟩
  ·have hK:=C0 (op:=op) (n:=n) (x:=x) (ps:=ps) ht hI;simp only [CT] at hK;exact AV 3 [(1,1),(2,2),(4,3)] rfl (by simp) hK Au rfl rfl rfl <| Ai rfl <| DS 20 (.imm (.tup [])) rfl D1 (λx h=>by cases h) <| yg [] rfl (by simp;rfl) <| Bc 20 3 rfl
  ·have hK:=C0 (op:=op) (n:=n) (x:=x) (ps:=ps) ht hI;simp only [CT] at hK;refine A4 [(1,1),(2,2),(4,3)] [(4,7)] [] (fr:=[7]) (nm:=[1,2,7,1,2,4]) rfl trivial (by simp) hK Au rfl trivial rfl rfl rfl <| Ai rfl ?_;rcases hj2 with ⟨hE,rfl⟩ | ⟨T3,hE,hj2⟩
   ·unfold D8 at hE;exact AU [(1,1),(2,2),(7,3)] rfl (by simp) hE Au rfl rfl rfl <| M5 1 rfl (by simp;rfl) <| Bk 22 rfl
   ·unfold CU at hE;exact A4 [(1,1),(2,2),(7,3)] [] [] (fr:=[]) (nm:=[1,2,7,1,2,7]) rfl trivial (by simp) hE Au rfl trivial rfl rfl rfl <| yg [] rfl (by simp;rfl) <| AZ 7 4 rfl <| Ae (ih (j+1,T3,k2,S2) (by simp only;omega) ⟨by simp only;omega,hj2⟩) ⟨AA (Cb (by omega) (by omega)),Bx⟩ Bx rfl
 ·have hlt:¬j<ks.length:=by simp at h';omega
  rw [Br (by omega)] at hj2;simp only [HJ,Bs] at hj2;subst hj2;exact Aw rfl <| Aq rfl <| BE ⟨_,Bx⟩
theorem Jy (m:Md) (Γ:Ax) (op n:Int) (x:Str) (t0:Tm) (ks:List Tm) (ps:List Ty) (s:Int) (T:List (Int×Ty)) (k:Int) (S:List Ty) (r:Hs) (hk:0<=k/\k<=1000000) (h:Bs m Γ [t0] [Ic s (As k)] T (k+1) S r) :
  AK Tryz.prog 264 [.ref 1 0,.imm (.agg (Bo (.mk op n x (t0::ks) ps))),.imm (.int .i64 s),.imm (.sl (Dq Γ))] (C8 m T k S) (CT m (r.map λz=>(As k,z))):=by
 have hA:=H4 m T k S hk;have hKd:=B2 s [As k];have ht:(t0::ks)[0]?=some t0:=rfl;rw [Bs] at h;refine Ac Ah Tryz.func264 (by decide +kernel) rfl [5,6,7,4,8] rfl rfl <| Ai rfl <| Ad (fr:=[]) [(1,1),(2,2),(3,3)] [] rfl (by simp) hA Au rfl rfl rfl rfl <| Ai rfl ?_;rcases h with ⟨hI,rfl⟩ | ⟨⟨τ1,τ2,τ3,τ4⟩,T2,k2,S2,hI,h⟩
 ·have hK:=C0 (op:=op) (n:=n) (x:=x) (ps:=ps) ht hI;simp only [CT] at hK;exact AV 3 [(1,1),(2,2),(3,3)] rfl (by simp) hK Au rfl rfl rfl <| Ai rfl <| Af rfl hKd <| Ai rfl <| DS 16 (.imm (.tup [])) rfl D1 (λx h=>by cases h) <| yg [] rfl (by simp;rfl) <| Bc 16 3 rfl
 ·have hK:=C0 (op:=op) (n:=n) (x:=x) (ps:=ps) ht hI;simp only [CT] at hK;refine A4 [(1,1),(2,2),(3,3)] [(4,4)] [] (fr:=[4]) (nm:=[1,2,4,1,2,3]) rfl trivial (by simp) hK Au rfl trivial rfl rfl rfl <| Ai rfl <| Af rfl hKd <| Ai rfl ?_;rcases h with ⟨hE,rfl⟩ | ⟨T3,hE,h⟩
  ·unfold D8 at hE;exact AU [(1,1),(2,2),(4,3)] rfl (by simp) hE Au rfl rfl rfl <| M5 1 rfl (by simp;rfl) <| Bk 21 rfl
  ·unfold CU at hE;simp only [Bs] at h;subst h;exact A4 [(1,1),(2,2),(4,3)] [] [] (fr:=[]) (nm:=[1,2,4,1,2,4]) rfl trivial (by simp) hE Au rfl trivial rfl rfl rfl <| yg [] rfl (by simp;rfl) <| Ag ⟨_,Bx⟩
theorem Qd (m:Md) (Γ:Ax) (op n:Int) (x:Str) (ks:List Tm) (ps:List Ty) (T:List (Int×Ty)) (k:Int) (S:List Ty):Co 192 m Γ (.mk op n x ks ps) T k S (some (AT,T,k,S)):=by
 have hKd:=B2 1 [];unfold Co;exact Ac Ah Tryz.func192 (by decide +kernel) rfl [4,5,6,7] rfl rfl <| EX 3 4 1 [.imm (.str m.name),.imm (.sl (m.datas.map CK)),.imm (.sl (m.funs.map CG)),.mapr 2,.imm (.int .i64 (k)),.own 4 (A2 S).length] rfl rfl (by decide) ⟨.inl rfl,.inl rfl,.inl rfl,.inl rfl,.inl rfl,.inr ⟨_,rfl,rfl⟩,trivial⟩ <| Aq rfl <| Af rfl hKd <| Ai rfl <| Ag ⟨_,Bx⟩
theorem kV (m:Md) (Γ:Ax) (op n:Int) (x:Str) (ks:List Tm) (ps:List Ty) (T:List (Int×Ty)) (k:Int) (S:List Ty):Co 193 m Γ (.mk op n x ks ps) T k S (some (BP,T,k,S)):=by
 have hKd:=B2 2 [];unfold Co;exact Ac Ah Tryz.func193 (by decide +kernel) rfl [4,5,6,7] rfl rfl <| EX 3 4 1 [.imm (.str m.name),.imm (.sl (m.datas.map CK)),.imm (.sl (m.funs.map CG)),.mapr 2,.imm (.int .i64 (k)),.own 4 (A2 S).length] rfl rfl (by decide) ⟨.inl rfl,.inl rfl,.inl rfl,.inl rfl,.inl rfl,.inr ⟨_,rfl,rfl⟩,trivial⟩ <| Aq rfl <| Af rfl hKd <| Ai rfl <| Ag ⟨_,Bx⟩
theorem Qc (m:Md) (Γ:Ax) (op n:Int) (x:Str) (ks:List Tm) (ps:List Ty) (T:List (Int×Ty)) (k:Int) (S:List Ty):Co 194 m Γ (.mk op n x ks ps) T k S (some (Ds,T,k,S)):=by
 have hKd:=B2 3 [];unfold Co;exact Ac Ah Tryz.func194 (by decide +kernel) rfl [4,5,6,7] rfl rfl <| EX 3 4 1 [.imm (.str m.name),.imm (.sl (m.datas.map CK)),.imm (.sl (m.funs.map CG)),.mapr 2,.imm (.int .i64 (k)),.own 4 (A2 S).length] rfl rfl (by decide) ⟨.inl rfl,.inl rfl,.inl rfl,.inl rfl,.inl rfl,.inr ⟨_,rfl,rfl⟩,trivial⟩ <| Aq rfl <| Af rfl hKd <| Ai rfl <| Ag ⟨_,Bx⟩
theorem Yk (m:Md) (Γ:Ax) (op n:Int) (x:Str) (ks:List Tm) (ps:List Ty) (T:List (Int×Ty)) (k:Int) (S:List Ty) (r:Hs) (hl:ks.length<=1000000) (h:Bs m Γ ks (ks.map λ_=>AT) T k S r):Co 200 m Γ (.mk op n x ks ps) T k S (r.map λz=>(AT,z)):=by
 have hKd:=B2 1 [];have hKi:=B2 1 [];have hH:=Jz m Γ op n x ks ps AT T k S r hl h;unfold Co;refine Ac Ah Tryz.func200 (by decide +kernel) rfl [5,6,4,7] rfl rfl <| Ai rfl <| Af rfl hKi <| Ai rfl ?_;cases r with
 | none =>
  exact AU [(1,1),(2,2),(3,3)] rfl (by simp) hH Au rfl rfl rfl <| M5 1 rfl (by simp;rfl) <| Bk 11 rfl
 | some z =>
  obtain ⟨T',k',S'⟩:=z;exact A4 [(1,1),(2,2),(3,3)] [(4,4)] [] (fr:=[4]) (nm:=[1,2,4,1,2,3]) rfl trivial (by simp) hH Au rfl trivial rfl rfl rfl <| yg [] rfl (by simp;rfl) <| Af rfl hKd <| Ai rfl <| Ag ⟨_,Bx⟩
theorem pX (m:Md) (Γ:Ax) (op n:Int) (x:Str) (ks:List Tm) (ps:List Ty) (T:List (Int×Ty)) (k:Int) (S:List Ty) (r:Hs) (hl:ks.length<=1000000) (h:Bs m Γ ks (ks.map λ_=>AT) T k S r):Co 201 m Γ (.mk op n x ks ps) T k S (r.map λz=>(BP,z)):=by
 have hKd:=B2 2 [];have hKi:=B2 1 [];have hH:=Jz m Γ op n x ks ps AT T k S r hl h;unfold Co;refine Ac Ah Tryz.func201 (by decide +kernel) rfl [5,6,4,7] rfl rfl <| Ai rfl <| Af rfl hKi <| Ai rfl ?_;cases r with
 | none =>
  exact AU [(1,1),(2,2),(3,3)] rfl (by simp) hH Au rfl rfl rfl <| M5 1 rfl (by simp;rfl) <| Bk 11 rfl
 | some z =>
  obtain ⟨T',k',S'⟩:=z;exact A4 [(1,1),(2,2),(3,3)] [(4,4)] [] (fr:=[4]) (nm:=[1,2,4,1,2,3]) rfl trivial (by simp) hH Au rfl trivial rfl rfl rfl <| yg [] rfl (by simp;rfl) <| Af rfl hKd <| Ai rfl <| Ag ⟨_,Bx⟩
theorem tZ (m:Md) (Γ:Ax) (op n:Int) (x:Str) (ks:List Tm) (ps:List Ty) (T:List (Int×Ty)) (k:Int) (S:List Ty) (r:Hs) (hl:ks.length<=1000000) (h:Bs m Γ ks (ks.map λ_=>AT) T k S r):Co 213 m Γ (.mk op n x ks ps) T k S (r.map λz=>(Ds,z)):=by
 have hKd:=B2 3 [];have hKi:=B2 1 [];have hH:=Jz m Γ op n x ks ps AT T k S r hl h;unfold Co;refine Ac Ah Tryz.func213 (by decide +kernel) rfl [5,6,4,7] rfl rfl <| Ai rfl <| Af rfl hKi <| Ai rfl ?_;cases r with
 | none =>
  exact AU [(1,1),(2,2),(3,3)] rfl (by simp) hH Au rfl rfl rfl <| M5 1 rfl (by simp;rfl) <| Bk 11 rfl
 | some z =>
  obtain ⟨T',k',S'⟩:=z;exact A4 [(1,1),(2,2),(3,3)] [(4,4)] [] (fr:=[4]) (nm:=[1,2,4,1,2,3]) rfl trivial (by simp) hH Au rfl trivial rfl rfl rfl <| yg [] rfl (by simp;rfl) <| Af rfl hKd <| Ai rfl <| Ag ⟨_,Bx⟩
theorem kY (m:Md) (Γ:Ax) (op n:Int) (x:Str) (ks:List Tm) (ps:List Ty) (T:List (Int×Ty)) (k:Int) (S:List Ty) (r:Hs) (hl:ks.length<=1000000) (h:Bs m Γ ks (ks.map λ_=>AT) T k S r):Co 214 m Γ (.mk op n x ks ps) T k S (r.map λz=>(AT,z)):=by
 have hKd:=B2 1 [];have hKi:=B2 1 [];have hH:=Jz m Γ op n x ks ps AT T k S r hl h;unfold Co;refine Ac Ah Tryz.func214 (by decide +kernel) rfl [5,6,4,7] rfl rfl <| Ai rfl <| Af rfl hKi <| Ai rfl ?_;cases r with
 | none =>
  exact AU [(1,1),(2,2),(3,3)] rfl (by simp) hH Au rfl rfl rfl <| M5 1 rfl (by simp;rfl) <| Bk 11 rfl
 | some z =>
  obtain ⟨T',k',S'⟩:=z;exact A4 [(1,1),(2,2),(3,3)] [(4,4)] [] (fr:=[4]) (nm:=[1,2,4,1,2,3]) rfl trivial (by simp) hH Au rfl trivial rfl rfl rfl <| yg [] rfl (by simp;rfl) <| Af rfl hKd <| Ai rfl <| Ag ⟨_,Bx⟩
theorem lF (m:Md) (Γ:Ax) (op n:Int) (x:Str) (ks:List Tm) (ps:List Ty) (T:List (Int×Ty)) (k:Int) (S:List Ty) (r:Hs) (hk:0<=k/\k<=1000000) (hl:ks.length<=1000000) (hS:∀z,r=some z->z.2.2.length<=1000000) (h:Bs m Γ ks (ks.map λ_=>As k) T (k+1) S r):Co 202 m Γ (.mk op n x ks ps) T k S (r.map λz=>(BP,z.1,z.2.1,z.2.2++[As k])):=by
 have hA:=H4 m T k S hk;have hKd:=B2 2 [];have hH:=Jz m Γ op n x ks ps (As k) T (k+1) S r hl h;unfold Co;refine Ac Ah Tryz.func202 (by decide +kernel) rfl [5,6,7,8,4,9,10] rfl rfl <| Ai rfl <| Ad (fr:=[]) [(1,1),(2,2),(3,3)] [] rfl (by simp) hA Au rfl rfl rfl rfl <| Ai rfl ?_;cases r with
 | none =>
  exact AU [(1,1),(2,2),(3,3)] rfl (by simp) hH Au rfl rfl rfl <| Bk 14 rfl
 | some z =>
  obtain ⟨T',k',S'⟩:=z;have hSl:=hS _ rfl;simp only at hSl;have hap:A2 (S'++[As k])=A2 S'++[dTyc (As k)]:=by rw [Eu];rfl
  have hln:(A2 S').length=S'.length:=dTys_length S';have hst:(A2 S'++[[V.int .i64 0,V.int .i64 0,V.str [],V.sl []]]).set (A2 S').length (dTyc (As k))=A2 (S'++[As k]):=by
   rw [hap,XO _ _ (B8 _),Lb];rfl
  have hgt:(A2 S'++[[V.int .i64 0,V.int .i64 0,V.str [],V.sl []]])[(A2 S').length]?=some [V.int .i64 0,V.int .i64 0,V.str [],V.sl []]:=by
   rw [NL (B8 _),Lb];rfl
  exact Ad (fr:=[8]) [(1,1),(2,2),(3,3)] [(4,8)] rfl (by simp) hH Au rfl rfl rfl rfl <| Ai rfl <| B4 Ah rfl ⟨by simp,by simp [maxLen];omega,by simp;omega,trivial⟩ <| Ai rfl <| EN Ah rfl (λ_=>⟨by show (0:Int)<=((A2 S').length:Int);omega,by show ((A2 S').length:Int)<((A2 S'++[[V.int .i64 0,V.int .i64 0,V.str [],V.sl []]]).length:Int);simp;omega⟩) (by simp [Am]) <| Ai rfl <| Ii Ah (e:=[V.int .i64 0,V.int .i64 0,V.str [],V.sl []]) (e':=dTyc (As k)) rfl (by simpa using hgt) (by show 0+4<=4;decide) (by simp [As,dTyc]) (by simp) <| yg [] rfl (by simp;rfl) <| Af rfl hKd <| Ai rfl <| Ag ⟨_,rfl,rfl,congrArg (λq=>some (some (bQ m k' 2 4 q))) (by simp:(A2 S'++[[V.int .i64 0,V.int .i64 0,V.str [],V.sl []]]).length=(A2 (S'++[As k])).length),rfl,congrArg (λq=>some (some (Blk.row 25 4 q))) hst,trivial⟩
theorem VC {m:Md} {Γ:Ax} {t0 t1:Tm} {u0 u1:Ty} {T:List (Int×Ty)} {k:Int} {S:List Ty} {r:Hs} (h:Bs m Γ [t0,t1] [u0,u1] T k S r) :
  ∃r1,Bs m Γ [t0] [u0] T k S r1/\((r1=none/\r=none)\/∃T1 k1 S1,r1=some (T1,k1,S1)/\Bs m Γ [t1] [u1] T1 k1 S1 r):=by
 rw [Bs] at h;rcases h with ⟨hI,rfl⟩ | ⟨τ,T2,k2,S2,hI,h⟩
 ·refine ⟨none,?_,.inl ⟨rfl,rfl⟩⟩;rw [Bs];exact .inl ⟨hI,rfl⟩
 ·rcases h with ⟨hE,rfl⟩ | ⟨T3,hE,h⟩
  ·refine ⟨none,?_,.inl ⟨rfl,rfl⟩⟩;rw [Bs];exact .inr ⟨τ,T2,k2,S2,hI,.inl ⟨hE,rfl⟩⟩
  ·refine ⟨some (T3,k2,S2),?_,.inr ⟨T3,k2,S2,rfl,h⟩⟩;rw [Bs];exact .inr ⟨τ,T2,k2,S2,hI,.inr ⟨T3,hE,by simp only [Bs]⟩⟩
theorem uA (m:Md) (Γ:Ax) (n:Int) (x:Str) (t0:Tm) (ks:List Tm) (ps:List Ty) (T:List (Int×Ty)) (k:Int) (S:List Ty) (r:Hs) (hk:0<=k/\k<=1000000) (h:Bs m Γ [t0] [Ic 5 (As k)] T (k+1) S r):Co 206 m Γ (.mk 17 n x (t0::ks) ps) T k S (r.map λz=>(As k,z)):=by
 have hP:=Jy m Γ 17 n x t0 ks ps 5 T k S r hk h;unfold Co;refine Ac Ah Tryz.func206 (by decide +kernel) rfl [5,6,4,7] rfl rfl <| Ai rfl ?_;cases r with
 | none =>
  exact AV 3 [(1,1),(2,2),(3,3)] rfl (by simp) hP Au rfl rfl rfl <| Bc 10 3 rfl
 | some z =>
  obtain ⟨T',k',S'⟩:=z;exact Ad (fr:=[4]) [(1,1),(2,2),(3,3)] [(4,4)] rfl (by simp) hP Au rfl rfl rfl rfl <| Ai rfl <| Ag ⟨_,Bx⟩
theorem pY (m:Md) (Γ:Ax) (n:Int) (x:Str) (t0:Tm) (ks:List Tm) (ps:List Ty) (T:List (Int×Ty)) (k:Int) (S:List Ty) (r:Hs) (hk:0<=k/\k<=1000000) (h:Bs m Γ [t0] [Ic 7 (As k)] T (k+1) S r):Co 209 m Γ (.mk 20 n x (t0::ks) ps) T k S (r.map λz=>(As k,z)):=by
 have hP:=Jy m Γ 20 n x t0 ks ps 7 T k S r hk h;unfold Co;refine Ac Ah Tryz.func209 (by decide +kernel) rfl [5,6,4,7] rfl rfl <| Ai rfl ?_;cases r with
 | none =>
  exact AV 3 [(1,1),(2,2),(3,3)] rfl (by simp) hP Au rfl rfl rfl <| Bc 10 3 rfl
 | some z =>
  obtain ⟨T',k',S'⟩:=z;exact Ad (fr:=[4]) [(1,1),(2,2),(3,3)] [(4,4)] rfl (by simp) hP Au rfl rfl rfl rfl <| Ai rfl <| Ag ⟨_,Bx⟩
theorem pT (m:Md) (Γ:Ax) (n:Int) (x:Str) (t0:Tm) (ks:List Tm) (ps:List Ty) (T:List (Int×Ty)) (k:Int) (S:List Ty) (r:Hs) (hk:0<=k/\k<=1000000) (h:Bs m Γ [t0] [Ic 6 (As k)] T (k+1) S r):Co 212 m Γ (.mk 23 n x (t0::ks) ps) T k S (r.map λz=>(As k,z)):=by
 have hP:=Jy m Γ 23 n x t0 ks ps 6 T k S r hk h;unfold Co;refine Ac Ah Tryz.func212 (by decide +kernel) rfl [5,6,4,7] rfl rfl <| Ai rfl ?_;cases r with
 | none =>
  exact AV 3 [(1,1),(2,2),(3,3)] rfl (by simp) hP Au rfl rfl rfl <| Bc 10 3 rfl
 | some z =>
  obtain ⟨T',k',S'⟩:=z;exact Ad (fr:=[4]) [(1,1),(2,2),(3,3)] [(4,4)] rfl (by simp) hP Au rfl rfl rfl rfl <| Ai rfl <| Ag ⟨_,Bx⟩
theorem tY (m:Md) (Γ:Ax) (n:Int) (x:Str) (t0 t1:Tm) (ks:List Tm) (ps:List Ty) (T:List (Int×Ty)) (k:Int) (S:List Ty) (r:Hs) (hk:0<=k/\k<=1000000) (h:Bs m Γ [t0,t1] [Ic 5 (As k),As k] T (k+1) S r):Co 207 m Γ (.mk 18 n x (t0::t1::ks) ps) T k S (r.map λz=>(Ds,z)):=by
 have hKd:=B2 3 [];have ht:(t0::t1::ks)[1]?=some t1:=rfl;obtain ⟨r1,hP,h⟩:=VC h;have hP:=Jy m Γ 18 n x t0 (t1::ks) ps 5 T k S r1 hk hP;unfold Co;refine Ac Ah Tryz.func207 (by decide +kernel) rfl [5,6,8,7,4,9] rfl rfl <| Ai rfl ?_;rcases h with ⟨rfl,rfl⟩ | ⟨T1,k1,S1,rfl,h⟩
 ·exact AV 3 [(1,1),(2,2),(3,3)] rfl (by simp) hP Au rfl rfl rfl <| Bc 11 3 rfl
 ·rw [Bs] at h;refine Ad (fr:=[8]) [(1,1),(2,2),(3,3)] [(4,8)] rfl (by simp) hP Au rfl rfl rfl rfl <| Ai rfl ?_;rcases h with ⟨hI,rfl⟩ | ⟨⟨τ1,τ2,τ3,τ4⟩,T2,k2,S2,hI,h⟩
  ·have hK:=C0 (op:=18) (n:=n) (x:=x) (ps:=ps) ht hI;simp only [CT] at hK;exact AV 3 [(1,1),(2,2),(8,3)] rfl (by simp) hK Au rfl rfl rfl <| Ai rfl <| DS 16 (.imm (.tup [])) rfl D1 (λx h=>by cases h) <| yg [] rfl (by simp;rfl) <| Bc 16 3 rfl
  ·have hK:=C0 (op:=18) (n:=n) (x:=x) (ps:=ps) ht hI;simp only [CT] at hK;refine A4 [(1,1),(2,2),(8,3)] [(4,4)] [] (fr:=[4]) (nm:=[1,2,4,1,2,8]) rfl trivial (by simp) hK Au rfl trivial rfl rfl rfl <| Ai rfl ?_;rcases h with ⟨hE,rfl⟩ | ⟨T3,hE,h⟩
   ·unfold D8 at hE;exact AU [(1,1),(2,2),(4,3)] rfl (by simp) hE Au rfl rfl rfl <| M5 1 rfl (by simp;rfl) <| Bk 18 rfl
   ·unfold CU at hE;simp only [Bs] at h;subst h;exact A4 [(1,1),(2,2),(4,3)] [] [] (fr:=[]) (nm:=[1,2,4,1,2,4]) rfl trivial (by simp) hE Au rfl trivial rfl rfl rfl <| yg [] rfl (by simp;rfl) <| Af rfl hKd <| Ai rfl <| Ag ⟨_,Bx⟩
theorem pU (m:Md) (Γ:Ax) (n:Int) (x:Str) (t0 t1:Tm) (ks:List Tm) (ps:List Ty) (T:List (Int×Ty)) (k:Int) (S:List Ty) (r:Hs) (hk:0<=k/\k<=1000000) (h:Bs m Γ [t0,t1] [Ic 6 (As k),As k] T (k+1) S r):Co 211 m Γ (.mk 22 n x (t0::t1::ks) ps) T k S (r.map λz=>(Ds,z)):=by
 have hKd:=B2 3 [];have ht:(t0::t1::ks)[1]?=some t1:=rfl;obtain ⟨r1,hP,h⟩:=VC h;have hP:=Jy m Γ 22 n x t0 (t1::ks) ps 6 T k S r1 hk hP;unfold Co;refine Ac Ah Tryz.func211 (by decide +kernel) rfl [5,6,8,7,4,9] rfl rfl <| Ai rfl ?_;rcases h with ⟨rfl,rfl⟩ | ⟨T1,k1,S1,rfl,h⟩
 ·exact AV 3 [(1,1),(2,2),(3,3)] rfl (by simp) hP Au rfl rfl rfl <| Bc 11 3 rfl
 ·rw [Bs] at h;refine Ad (fr:=[8]) [(1,1),(2,2),(3,3)] [(4,8)] rfl (by simp) hP Au rfl rfl rfl rfl <| Ai rfl ?_;rcases h with ⟨hI,rfl⟩ | ⟨⟨τ1,τ2,τ3,τ4⟩,T2,k2,S2,hI,h⟩
  ·have hK:=C0 (op:=22) (n:=n) (x:=x) (ps:=ps) ht hI;simp only [CT] at hK;exact AV 3 [(1,1),(2,2),(8,3)] rfl (by simp) hK Au rfl rfl rfl <| Ai rfl <| DS 16 (.imm (.tup [])) rfl D1 (λx h=>by cases h) <| yg [] rfl (by simp;rfl) <| Bc 16 3 rfl
  ·have hK:=C0 (op:=22) (n:=n) (x:=x) (ps:=ps) ht hI;simp only [CT] at hK;refine A4 [(1,1),(2,2),(8,3)] [(4,4)] [] (fr:=[4]) (nm:=[1,2,4,1,2,8]) rfl trivial (by simp) hK Au rfl trivial rfl rfl rfl <| Ai rfl ?_;rcases h with ⟨hE,rfl⟩ | ⟨T3,hE,h⟩
   ·unfold D8 at hE;exact AU [(1,1),(2,2),(4,3)] rfl (by simp) hE Au rfl rfl rfl <| M5 1 rfl (by simp;rfl) <| Bk 18 rfl
   ·unfold CU at hE;simp only [Bs] at h;subst h;exact A4 [(1,1),(2,2),(4,3)] [] [] (fr:=[]) (nm:=[1,2,4,1,2,4]) rfl trivial (by simp) hE Au rfl trivial rfl rfl rfl <| yg [] rfl (by simp;rfl) <| Af rfl hKd <| Ai rfl <| Ag ⟨_,Bx⟩
theorem kW (m:Md) (Γ:Ax) (n:Int) (x:Str) (t0:Tm) (ks:List Tm) (ps:List Ty) (T:List (Int×Ty)) (k:Int) (S:List Ty) (r:Hs) (hk:0<=k/\k<=1000000) (h:Bs m Γ [t0] [Ba Ds (As k)] T (k+1) S r):Co 208 m Γ (.mk 19 n x (t0::ks) ps) T k S (r.map λz=>(Ic 7 (As k),z)):=by
 have hA:=H4 m T k S hk;have hK3:=B2 3 [];have hK4:=B2 4 [Ds,As k];have hK7:=B2 7 [As k];have ht:(t0::ks)[0]?=some t0:=rfl;rw [Bs] at h;unfold Co;refine Ac Ah Tryz.func208 (by decide +kernel) rfl [5,6,8,4,7] rfl rfl <| Ai rfl <| Ad (fr:=[]) [(1,1),(2,2),(3,3)] [] rfl (by simp) hA Au rfl rfl rfl rfl <| Ai rfl ?_;rcases h with ⟨hI,rfl⟩ | ⟨⟨τ1,τ2,τ3,τ4⟩,T2,k2,S2,hI,h⟩
 ·have hK:=C0 (op:=19) (n:=n) (x:=x) (ps:=ps) ht hI;simp only [CT] at hK;exact AV 3 [(1,1),(2,2),(3,3)] rfl (by simp) hK Au rfl rfl rfl <| Ai rfl <| Af rfl hK3 <| Ai rfl <| Af rfl hK4 <| Ai rfl <| DS 14 (.imm (.tup [])) rfl D1 (λx h=>by cases h) <| yg [] rfl (by simp;rfl) <| Bc 14 3 rfl
 ·have hK:=C0 (op:=19) (n:=n) (x:=x) (ps:=ps) ht hI;simp only [CT] at hK;refine A4 [(1,1),(2,2),(3,3)] [(4,4)] [] (fr:=[4]) (nm:=[1,2,4,1,2,3]) rfl trivial (by simp) hK Au rfl trivial rfl rfl rfl <| Ai rfl <| Af rfl hK3 <| Ai rfl <| Af rfl hK4 <| Ai rfl ?_;rcases h with ⟨hE,rfl⟩ | ⟨T3,hE,h⟩
  ·unfold D8 at hE;exact AU [(1,1),(2,2),(4,3)] rfl (by simp) hE Au rfl rfl rfl <| M5 1 rfl (by simp;rfl) <| Bk 19 rfl
  ·unfold CU at hE;simp only [Bs] at h;subst h;exact A4 [(1,1),(2,2),(4,3)] [] [] (fr:=[]) (nm:=[1,2,4,1,2,4]) rfl trivial (by simp) hE Au rfl trivial rfl rfl rfl <| yg [] rfl (by simp;rfl) <| Af rfl hK7 <| Ai rfl <| Ag ⟨_,Bx⟩
theorem Y8 (m:Md) (Γ:Ax) (op n:Int) (x:Str) (ks:List Tm) (ps:List Ty) (T:List (Int×Ty)) (k:Int) (S:List Ty) (hk:0<=k/\k<=1000000):Co 210 m Γ (.mk op n x ks ps) T k S (some (Ic 6 (As k),T,k+1,S)):=by
 have hA:=H4 m T k S hk;have hKd:=B2 6 [As k];unfold Co;exact Ac Ah Tryz.func210 (by decide +kernel) rfl [4,5,6,7] rfl rfl <| EX 3 4 1 [.imm (.str m.name),.imm (.sl (m.datas.map CK)),.imm (.sl (m.funs.map CG)),.mapr 2,.imm (.int .i64 (k)),.own 4 (A2 S).length] rfl rfl (by decide) ⟨.inl rfl,.inl rfl,.inl rfl,.inl rfl,.inl rfl,.inr ⟨_,rfl,rfl⟩,trivial⟩ <| Aq rfl <| Ad (fr:=[]) [(1,1),(2,2),(4,3)] [] rfl (by simp) hA Au rfl rfl rfl rfl <| Ai rfl <| Af rfl hKd <| Ai rfl <| Ag ⟨_,Bx⟩
theorem qA (m:Md) (Γ:Ax) (n:Int) (x:Str) (t0:Tm) (ks:List Tm) (ps:List Ty) (T:List (Int×Ty)) (k:Int) (S:List Ty) {r:Kw} (h:En m Γ t0 T k S r):Co 205 m Γ (.mk 16 n x (t0::ks) ps) T k S (r.map λz=>(Ic 5 z.1,z.2)):=by
 have ht:(t0::ks)[0]?=some t0:=rfl;unfold Co;refine Ac Ah Tryz.func205 (by decide +kernel) rfl [5,6,4,7] rfl rfl <| Ai rfl ?_;cases r with
 | none =>
  have hK:=C0 (op:=16) (n:=n) (x:=x) (ps:=ps) ht h;simp only [CT] at hK;exact AV 3 [(1,1),(2,2),(3,3)] rfl (by simp) hK Au rfl rfl rfl <| Bc 10 3 rfl
 | some z =>
  obtain ⟨⟨τ1,τ2,τ3,τ4⟩,T',k',S'⟩:=z;have hKd:=B2 5 [.mk τ1 τ2 τ3 τ4];have hK:=C0 (op:=16) (n:=n) (x:=x) (ps:=ps) ht h;simp only [CT] at hK;exact Ad (fr:=[4]) [(1,1),(2,2),(3,3)] [(4,4)] rfl (by simp) hK Au rfl rfl rfl rfl <| Ai rfl <| Af rfl hKd <| Ai rfl <| Ag ⟨_,Bx⟩
def ApO (m:Md) (Γ:Ax) (t0 t1:Tm) (T:List (Int×Ty)) (k:Int) (S:List Ty) (r:Kw):Prop :=
 (En m Γ t0 T k S none/\r=none)\/∃τ T1 k1 S1,En m Γ t0 T k S (some (τ,T1,k1,S1))/\((En m Γ t1 T1 k1 S1 none/\r=none)\/∃a T2 k2 S2,En m Γ t1 T1 k1 S1 (some (a,T2,k2,S2))/\(0<=k2/\k2<=1000000) /\
  ((D8 m T2 (k2+1) S2 τ (Ba a (As k2))/\r=none)\/∃T3,CU m T2 (k2+1) S2 τ (Ba a (As k2)) T3/\r=some (As k2,T3,k2+1,S2)))
def LetO (m:Md) (Γ:Ax) (x:Str) (t0 t1:Tm) (T:List (Int×Ty)) (k:Int) (S:List Ty) (r:Kw):Prop :=
 (En m Γ t0 T k S none/\r=none)\/∃τ T1 k1 S1,En m Γ t0 T k S (some (τ,T1,k1,S1))/\En m (Γ++[(x,τ)]) t1 T1 k1 S1 r
def IfO (m:Md) (Γ:Ax) (t0 t1 t2:Tm) (T:List (Int×Ty)) (k:Int) (S:List Ty) (r:Kw):Prop :=
 (Bs m Γ [t0] [BP] T k S none/\r=none)\/∃T1 k1 S1,Bs m Γ [t0] [BP] T k S (some (T1,k1,S1))/\((En m Γ t1 T1 k1 S1 none/\r=none)\/∃τ T2 k2 S2,En m Γ t1 T1 k1 S1 (some (τ,T2,k2,S2)) /\
  ((En m Γ t2 T2 k2 S2 none/\r=none)\/∃a T3 k3 S3,En m Γ t2 T2 k2 S2 (some (a,T3,k3,S3))/\((D8 m T3 k3 S3 τ a/\r=none)\/∃T4,CU m T3 k3 S3 τ a T4/\r=some (τ,T4,k3,S3))))
theorem uB (m:Md) (Γ:Ax) (n:Int) (x:Str) (t0:Tm) (ks:List Tm) (ps:List Ty) (T:List (Int×Ty)) (k:Int) (S:List Ty) (hk:0<=k/\k<=1000000) (hΓ:Γ.length<=1000000) {r:Kw} (h:En m (Γ++[(x,As k)]) t0 T (k+1) S r):Co 196 m Γ (.mk 5 n x (t0::ks) ps) T k S (r.map λz=>(Ba (As k) z.1,z.2)):=by
 have hA:=H4 m T k S hk;have hW:=Jx Γ x (As k) hΓ;have ht:(t0::ks)[0]?=some t0:=rfl;unfold Co;refine Ac Ah Tryz.func196 (by decide +kernel) rfl [5,6,7,4,8,9] rfl rfl <| Ai rfl <| Ad (fr:=[]) [(1,1),(2,2),(3,3)] [] rfl (by simp) hA Au rfl rfl rfl rfl <| Ai rfl <| Af rfl hW <| Ai rfl ?_;cases r with
 | none =>
  have hK:=C0 (op:=5) (n:=n) (x:=x) (ps:=ps) ht h;simp only [CT] at hK;exact AV 3 [(1,1),(2,2),(3,3)] rfl (by simp) hK Au rfl rfl rfl <| yg [] rfl (by simp;rfl) <| Bc 18 3 rfl
 | some z =>
  obtain ⟨⟨τ1,τ2,τ3,τ4⟩,T',k',S'⟩:=z;have hKd:=B2 4 [As k,.mk τ1 τ2 τ3 τ4];have hK:=C0 (op:=5) (n:=n) (x:=x) (ps:=ps) ht h;simp only [CT] at hK;exact A4 [(1,1),(2,2),(3,3)] [(4,4)] [] (fr:=[4]) (nm:=[1,2,4,1,2,3]) rfl trivial (by simp) hK Au rfl trivial rfl rfl rfl <| yg [] rfl (by simp;rfl) <| Af rfl hKd <| Ai rfl <| Ag ⟨_,Bx⟩
theorem kX (m:Md) (Γ:Ax) (n:Int) (x:Str) (t0:Tm) (ks:List Tm) (ps:List Ty) (T:List (Int×Ty)) (k:Int) (S:List Ty) (hk:0<=k/\k<=1000000) (hΓ:Γ.length<=1000000) {r:Hs} (h:Bs m (Γ++[(x,Ba (As k) AT)]) [t0] [AT] T (k+1) S r):Co 215 m Γ (.mk 27 n x (t0::ks) ps) T k S (r.map λz=>(As k,z)):=by
 have hA:=H4 m T k S hk;have hK1:=B2 1 [];have hK4:=B2 4 [As k,AT];have hW:=Jx Γ x (Ba (As k) AT) hΓ;have ht:(t0::ks)[0]?=some t0:=rfl;rw [Bs] at h;unfold Co;refine Ac Ah Tryz.func215 (by decide +kernel) rfl [5,6,7,4,8,9] rfl rfl <| Ai rfl <| Ad (fr:=[]) [(1,1),(2,2),(3,3)] [] rfl (by simp) hA Au rfl rfl rfl rfl <| Ai rfl <| Af rfl hK1 <| Ai rfl <| Af rfl hK4 <| Ai rfl <| Af rfl hW <| Ai rfl ?_;rcases h with ⟨hI,rfl⟩ | ⟨⟨τ1,τ2,τ3,τ4⟩,T2,k2,S2,hI,h⟩
 ·have hK:=C0 (op:=27) (n:=n) (x:=x) (ps:=ps) ht hI;simp only [CT] at hK;exact AV 3 [(1,1),(2,2),(3,3)] rfl (by simp) hK Au rfl rfl rfl <| Ai rfl <| Af rfl hK1 <| Ai rfl <| DS 21 (.imm (.tup [])) rfl D1 (λx h=>by cases h) <| yg [] rfl (by simp;rfl) <| Bc 21 3 rfl
 ·have hK:=C0 (op:=27) (n:=n) (x:=x) (ps:=ps) ht hI;simp only [CT] at hK;refine A4 [(1,1),(2,2),(3,3)] [(4,4)] [] (fr:=[4]) (nm:=[1,2,4,1,2,3]) rfl trivial (by simp) hK Au rfl trivial rfl rfl rfl <| Ai rfl <| Af rfl hK1 <| Ai rfl ?_;rcases h with ⟨hE,rfl⟩ | ⟨T3,hE,h⟩
  ·unfold D8 at hE;exact AU [(1,1),(2,2),(4,3)] rfl (by simp) hE Au rfl rfl rfl <| M5 1 rfl (by simp;rfl) <| Bk 23 rfl
  ·unfold CU at hE;simp only [Bs] at h;subst h;exact A4 [(1,1),(2,2),(4,3)] [] [] (fr:=[]) (nm:=[1,2,4,1,2,4]) rfl trivial (by simp) hE Au rfl trivial rfl rfl rfl <| yg [] rfl (by simp;rfl) <| Ag ⟨_,Bx⟩
theorem LU (m:Md) (Γ:Ax) (n:Int) (x:Str) (t0 t1:Tm) (ks:List Tm) (ps:List Ty) (T:List (Int×Ty)) (k:Int) (S:List Ty) (r:Kw) (h:ApO m Γ t0 t1 T k S r):Co 197 m Γ (.mk 6 n x (t0::t1::ks) ps) T k S (r):=by
 have ht:(t0::t1::ks)[0]?=some t0:=rfl;have ht1:(t0::t1::ks)[1]?=some t1:=rfl;unfold Co;refine Ac Ah Tryz.func197 (by decide +kernel) rfl [5,6,8,7,4,9,10] rfl rfl <| Ai rfl ?_;rcases h with ⟨hI,rfl⟩ | ⟨⟨τ1,τ2,τ3,τ4⟩,T1,k1,S1,hI,h⟩
 ·have hK:=C0 (op:=6) (n:=n) (x:=x) (ps:=ps) ht hI;simp only [CT] at hK;exact AV 3 [(1,1),(2,2),(3,3)] rfl (by simp) hK Au rfl rfl rfl <| Bc 13 3 rfl
 ·have hK:=C0 (op:=6) (n:=n) (x:=x) (ps:=ps) ht hI;simp only [CT] at hK;refine Ad (fr:=[8]) [(1,1),(2,2),(3,3)] [(4,8)] rfl (by simp) hK Au rfl rfl rfl rfl <| Ai rfl ?_;rcases h with ⟨hI2,rfl⟩ | ⟨⟨a1,a2,a3,a4⟩,T2,k2,S2,hI2,hk2,h⟩
  ·have hK2:=C0 (op:=6) (n:=n) (x:=x) (ps:=ps) ht1 hI2;simp only [CT] at hK2;exact AV 3 [(1,1),(2,2),(8,3)] rfl (by simp) hK2 Au rfl rfl rfl <| Bc 17 3 rfl
  ·have hA:=H4 m T2 k2 S2 hk2;have hK4:=B2 4 [.mk a1 a2 a3 a4,As k2];have hK2:=C0 (op:=6) (n:=n) (x:=x) (ps:=ps) ht1 hI2;simp only [CT] at hK2;refine Ad (fr:=[4]) [(1,1),(2,2),(8,3)] [(4,4)] rfl (by simp) hK2 Au rfl rfl rfl rfl <| Ai rfl <| Ad (fr:=[]) [(1,1),(2,2),(4,3)] [] rfl (by simp) hA Au rfl rfl rfl rfl <| Ai rfl <| Af rfl hK4 <| Ai rfl ?_;rcases h with ⟨hE,rfl⟩ | ⟨T3,hE,rfl⟩
   ·unfold D8 at hE;exact AU [(1,1),(2,2),(4,3)] rfl (by simp) hE Au rfl rfl rfl <| M5 1 rfl (by simp;rfl) <| Bk 26 rfl
   ·unfold CU at hE;exact A4 [(1,1),(2,2),(4,3)] [] [] (fr:=[]) (nm:=[1,2,4,1,2,4]) rfl trivial (by simp) hE Au rfl trivial rfl rfl rfl <| yg [] rfl (by simp;rfl) <| Ag ⟨_,Bx⟩
theorem lA (m:Md) (Γ:Ax) (n:Int) (x:Str) (t0 t1:Tm) (ks:List Tm) (ps:List Ty) (T:List (Int×Ty)) (k:Int) (S:List Ty) (r:Kw) (hΓ:Γ.length<=1000000) (h:LetO m Γ x t0 t1 T k S r):Co 198 m Γ (.mk 7 n x (t0::t1::ks) ps) T k S (r):=by
 have ht:(t0::t1::ks)[0]?=some t0:=rfl;have ht1:(t0::t1::ks)[1]?=some t1:=rfl;unfold Co;refine Ac Ah Tryz.func198 (by decide +kernel) rfl [5,6,8,7,4,9,10] rfl rfl <| Ai rfl ?_;rcases h with ⟨hI,rfl⟩ | ⟨⟨τ1,τ2,τ3,τ4⟩,T1,k1,S1,hI,h⟩
 ·have hK:=C0 (op:=7) (n:=n) (x:=x) (ps:=ps) ht hI;simp only [CT] at hK;exact AV 3 [(1,1),(2,2),(3,3)] rfl (by simp) hK Au rfl rfl rfl <| Bc 11 3 rfl
 ·have hW:=Jx Γ x (.mk τ1 τ2 τ3 τ4) hΓ;have hK:=C0 (op:=7) (n:=n) (x:=x) (ps:=ps) ht hI;simp only [CT] at hK;refine Ad (fr:=[8]) [(1,1),(2,2),(3,3)] [(4,8)] rfl (by simp) hK Au rfl rfl rfl rfl <| Ai rfl <| Af rfl hW <| Ai rfl ?_;cases r with
  | none =>
   have hK2:=C0 (op:=7) (n:=n) (x:=x) (ps:=ps) ht1 h;simp only [CT] at hK2;exact AV 3 [(1,1),(2,2),(8,3)] rfl (by simp) hK2 Au rfl rfl rfl <| yg [] rfl (by simp;rfl) <| Bc 19 3 rfl
  | some z =>
   obtain ⟨⟨a1,a2,a3,a4⟩,T',k',S'⟩:=z;have hK2:=C0 (op:=7) (n:=n) (x:=x) (ps:=ps) ht1 h;simp only [CT] at hK2;exact A4 [(1,1),(2,2),(8,3)] [(4,4)] [] (fr:=[4]) (nm:=[1,2,4,1,2,8]) rfl trivial (by simp) hK2 Au rfl trivial rfl rfl rfl <| yg [] rfl (by simp;rfl) <| Ag ⟨_,Bx⟩
theorem VB (m:Md) (Γ:Ax) (n:Int) (x:Str) (t0 t1 t2:Tm) (ks:List Tm) (ps:List Ty) (T:List (Int×Ty)) (k:Int) (S:List Ty) (r:Kw) (h:IfO m Γ t0 t1 t2 T k S r):Co 199 m Γ (.mk 8 n x (t0::t1::t2::ks) ps) T k S (r):=by
 have ht:(t0::t1::t2::ks)[0]?=some t0:=rfl;have ht1:(t0::t1::t2::ks)[1]?=some t1:=rfl;have ht2:(t0::t1::t2::ks)[2]?=some t2:=rfl;have hKb:=B2 2 [];unfold Co;refine Ac Ah Tryz.func199 (by decide +kernel) rfl [5,6,8,9,7,4,10] rfl rfl <| Ai rfl ?_;rcases h with ⟨h,rfl⟩ | ⟨T1,k1,S1,h,h'⟩
 ·rw [Bs] at h;rcases h with ⟨hI,_⟩ | ⟨⟨τ1,τ2,τ3,τ4⟩,T2,k2,S2,hI,h⟩
  ·have hK:=C0 (op:=8) (n:=n) (x:=x) (ps:=ps) ht hI;simp only [CT] at hK;exact AV 3 [(1,1),(2,2),(3,3)] rfl (by simp) hK Au rfl rfl rfl <| Bc 12 3 rfl
  ·have hK:=C0 (op:=8) (n:=n) (x:=x) (ps:=ps) ht hI;simp only [CT] at hK;refine Ad (fr:=[8]) [(1,1),(2,2),(3,3)] [(4,8)] rfl (by simp) hK Au rfl rfl rfl rfl <| Ai rfl <| Af rfl hKb <| Ai rfl ?_;rcases h with ⟨hE,_⟩ | ⟨T3,hE,h⟩
   ·unfold D8 at hE;exact AU [(1,1),(2,2),(8,3)] rfl (by simp) hE Au rfl rfl rfl <| Bk 14 rfl
   ·simp only [Bs] at h;cases h
 ·rw [Bs] at h;rcases h with ⟨_,h⟩ | ⟨⟨τ1,τ2,τ3,τ4⟩,T2,k2,S2,hI,h⟩
  ·cases h
  rcases h with ⟨_,h⟩ | ⟨T3,hE,h⟩
  ·cases h
  simp only [Bs] at h;cases h;unfold CU at hE;have hK:=C0 (op:=8) (n:=n) (x:=x) (ps:=ps) ht hI;simp only [CT] at hK;refine Ad (fr:=[8]) [(1,1),(2,2),(3,3)] [(4,8)] rfl (by simp) hK Au rfl rfl rfl rfl <| Ai rfl <| Af rfl hKb <| Ai rfl <| Ad (fr:=[]) [(1,1),(2,2),(8,3)] [] rfl (by simp) hE Au rfl rfl rfl rfl <| Ai rfl ?_;rcases h' with ⟨hI2,rfl⟩ | ⟨⟨a1,a2,a3,a4⟩,T4,k4,S4,hI2,h⟩
  ·have hK2:=C0 (op:=8) (n:=n) (x:=x) (ps:=ps) ht1 hI2;simp only [CT] at hK2;exact AV 3 [(1,1),(2,2),(8,3)] rfl (by simp) hK2 Au rfl rfl rfl <| Bc 18 3 rfl
  ·have hK2:=C0 (op:=8) (n:=n) (x:=x) (ps:=ps) ht1 hI2;simp only [CT] at hK2;refine Ad (fr:=[9]) [(1,1),(2,2),(8,3)] [(4,9)] rfl (by simp) hK2 Au rfl rfl rfl rfl <| Ai rfl ?_;rcases h with ⟨hI3,rfl⟩ | ⟨⟨c1,c2,c3,c4⟩,T5,k5,S5,hI3,h⟩
   ·have hK3:=C0 (op:=8) (n:=n) (x:=x) (ps:=ps) ht2 hI3;simp only [CT] at hK3;exact AV 3 [(1,1),(2,2),(9,3)] rfl (by simp) hK3 Au rfl rfl rfl <| Ai rfl <| DS 24 (.imm (.tup [])) rfl D1 (λx h=>by cases h) <| yg [] rfl (by simp;rfl) <| Bc 24 3 rfl
   ·have hK3:=C0 (op:=8) (n:=n) (x:=x) (ps:=ps) ht2 hI3;simp only [CT] at hK3;refine A4 [(1,1),(2,2),(9,3)] [(4,4)] [] (fr:=[4]) (nm:=[1,2,4,1,2,9]) rfl trivial (by simp) hK3 Au rfl trivial rfl rfl rfl <| Ai rfl ?_;rcases h with ⟨hE2,rfl⟩ | ⟨T6,hE2,rfl⟩
    ·unfold D8 at hE2;exact AU [(1,1),(2,2),(4,3)] rfl (by simp) hE2 Au rfl rfl rfl <| M5 1 rfl (by simp;rfl) <| Bk 25 rfl
    ·unfold CU at hE2;exact A4 [(1,1),(2,2),(4,3)] [] [] (fr:=[]) (nm:=[1,2,4,1,2,4]) rfl trivial (by simp) hE2 Au rfl trivial rfl rfl rfl <| yg [] rfl (by simp;rfl) <| Ag ⟨_,Bx⟩
theorem pW (m:Md) (Γ:Ax) (n:Int) (x:Str) (ks:List Tm) (ps:List Ty) (T:List (Int×Ty)) (k:Int) (S:List Ty):Co 195 m Γ (.mk 4 n x ks ps) T k S ((D4 m Γ x).map λτ=>(τ,T,k,S)):=by
 obtain ⟨m1,ds,fs⟩:=m;unfold Co;refine Ac Ah Tryz.func195 (by decide +kernel) rfl [4,5,6,7,8] rfl rfl <| EX 3 4 1 [.imm (.str m1),.imm (.sl (ds.map CK)),.imm (.sl (fs.map CG)),.mapr 2,.imm (.int .i64 k),.own 4 (A2 S).length] rfl rfl (by decide) ⟨.inl rfl,.inl rfl,.inl rfl,.inl rfl,.inl rfl,.inr ⟨_,rfl,rfl⟩,trivial⟩ <| Fy (t:=2) rfl λhv=>?_;simp [Fh,maxLen,Dq] at hv;refine Aq rfl <| Ak (λj:Nat=>[(7,.imm (.int .i64 ((j:Int)-1))),(0,.ref 1 0),(2,.imm (.sl (Dq Γ))),(4,.ref 5 0),(6,.ref 6 0)]) (λ_=>(5,some (.immb 49 5 (Bo (.mk 4 n x ks ps))))::(6,some (.cells 25 4 [.imm (.int .i64 0),.imm (.int .i64 0),.imm (.str []),.nils]))::Tk ⟨m1,ds,fs⟩ T k S) [7,8] (λj=>j)
  (λj=>j<=Γ.length/\M3 Γ x=M3 (Γ.take j) x) Γ.length
  ⟨B8 _,by rw [Jr]⟩ ⟨AA (by simp [Dq];exact Cb (by omega) (by omega)),BF⟩ Bx rfl λj hj jh=>?_
 refine Aq rfl <| Aa rfl (λh=>?_) (λh=>?_)
 ·have h1:1<=j:=by simp at h;omega
  obtain ⟨i,rfl⟩:∃i,j=i+1:=⟨j-1,by omega⟩
  obtain ⟨p,hp⟩:=Ao (l:=Γ) (i:=i) (by omega);have hg:=QI hp;have hlk:=hj.2;rw [Be hp,V4] at hlk;obtain ⟨y,u1,u2,u3,u4⟩:=p;refine Aq rfl <| yi rfl (c:=WU (y,.mk u1 u2 u3 u4)) (λ_=>⟨by simp,by simpa using hg,by simp⟩) (by simp) <| yg [] rfl (by simp;rfl) <| Aa rfl (λh2=>?_) (λh2=>?_)
  ·have hx:y=x:=by simpa using h2
   rw [if_pos hx] at hlk;have hr:D4 ⟨m1,ds,fs⟩ Γ x=some (.mk u1 u2 u3 u4):=by simp only [D4,hlk]
   rw [hr];exact Aq rfl <| yi rfl (c:=WU (y,.mk u1 u2 u3 u4)) (λ_=>⟨by simp,by simpa using hg,by simp⟩) (by simp) <| Ai rfl <| Ag ⟨_,Bx⟩
  ·have hx:y≠x:=by simpa using h2
   rw [if_neg hx] at hlk;exact Aq rfl <| Ae (jh i (by omega) ⟨by omega,hlk⟩) ⟨AA (by rw [Cb (by omega) (by omega)];omega),BF⟩ Bx rfl
 ·have h1:j=0:=by simp at h;omega
  subst h1;have hlk:M3 Γ x=none:=hj.2;clear hj jh;refine Aw rfl <| Aq rfl <| Fy (t:=34) rfl λhv2=>?_;simp [Fh,maxLen] at hv2;refine Ak (λi:Nat=>[(36,.imm (.int .i64 i)),(35,.imm (.int .i64 fs.length)),(34,.imm (.sl (fs.map CG))),(4,.ref 5 0),(6,.ref 6 0)]) (λ_=>(5,some (.immb 49 5 (Bo (.mk 4 n x ks ps))))::(6,some (.cells 25 4 [.imm (.int .i64 0),.imm (.int .i64 0),.imm (.str []),.nils]))::Tk ⟨m1,ds,fs⟩ T k S) [7,8] (λi=>fs.length-i)
   (λi=>i<=fs.length/\O2 fs x=O2 (fs.drop i) x) 0
   ⟨AL _,rfl⟩ ⟨rfl,AA (by simp),AD⟩ Bx rfl λi hi ih=>?_
  refine Aq rfl <| Aa rfl (λh=>?_) (λh=>?_)
  ·have hlt:i<fs.length:=by simp at h;omega
   obtain ⟨f,hf⟩:=Ao hlt;have hg:=Mn hf;have hft:=hi.2;rw [eH hf] at hft;have hF:=B2 4 [f.from_,f.to_];obtain ⟨f1,f2,⟨a1,a2,a3,a4⟩,⟨b1,b2,b3,b4⟩,⟨c1,c2,c3,c4,c5⟩⟩:=f;simp only at hft hF;refine Aq rfl <| yi rfl (c:=CG ⟨f1,f2,⟨a1,a2,a3,a4⟩,⟨b1,b2,b3,b4⟩,⟨c1,c2,c3,c4,c5⟩⟩) (λ_=>⟨by simp,by simpa using hg,by simp [CG]⟩) (by simp) <| Ai rfl <| Aa rfl (λh2=>?_) (λh2=>?_)
   ·have hx:f1=x:=by simpa using h2
    rw [if_pos hx] at hft;have hr:D4 ⟨m1,ds,fs⟩ Γ x=some (Ba (.mk a1 a2 a3 a4) (.mk b1 b2 b3 b4)):=by simp only [D4,hlk,hft]
    rw [hr];exact Aq rfl <| Af rfl hF <| Ai rfl <| Ag ⟨_,Bx⟩
   ·have hx:f1≠x:=by simpa using h2
    rw [if_neg hx] at hft;exact Aq rfl <| Ae (ih (i+1) (by omega) ⟨by omega,hft⟩) ⟨AA (Cb (by omega) (by omega)),BF⟩ Bx rfl
  ·have hlt:¬i<fs.length:=by simp at h;omega
   have hft:=hi.2;rw [Br (by omega)] at hft;have hr:D4 ⟨m1,ds,fs⟩ Γ x=none:=by simp only [D4,hlk,hft];rfl
   rw [hr];exact Aw rfl <| Aq rfl <| Ik rfl rfl rfl rfl
def X5 (m:Md) (T:List (Int×Ty)) (k:Int) (S:List Ty):Option (Cd×Str)->Out
 | some (c,y)=>.ret (.imm (.tup [.agg (EY c),.agg (dTyc (Bt y))])) (C8 m T k S)
 | none=>.pan FO
theorem fB {l:List Dt} {i:Nat} {d:Dt} (h:l[i]?=some d) (x:Str):F0 (l.drop i) x=match Nk d.cons x with
 | some c=>some (c,d.name)
 | none=>F0 (l.drop (i+1)) x:=by rw [Av h];rfl
theorem JR (m:Md) (x:Str) (T:List (Int×Ty)) (k:Int) (S:List Ty):AK Tryz.prog 262 [.ref 1 0,.imm (.str x)] (C8 m T k S) (X5 m T k S (F0 m.datas x)):=by
 obtain ⟨m1,ds,fs⟩:=m;refine Ac Ah Tryz.func262 (by decide +kernel) rfl [5,6,7,8,9] rfl rfl <| Ai rfl <| Fy (t:=14) rfl λhv=>?_;simp [Fh,maxLen] at hv;refine Ak (λi:Nat=>[(16,.imm (.int .i64 i)),(15,.imm (.int .i64 ds.length)),(14,.imm (.sl (ds.map CK))),(1,.imm (.str x)),(4,.ref 5 0),(5,.ref 6 0)]) (λ_=>(5,some (.cells 178 2 [.imm (.str []),.nils]))::(6,some (.cells 25 4 [.imm (.int .i64 0),.imm (.int .i64 0),.imm (.str []),.nils]))::C8 ⟨m1,ds,fs⟩ T k S) [7,8,9] (λi=>ds.length-i)
  (λi=>i<=ds.length/\F0 ds x=F0 (ds.drop i) x) 0
  ⟨AL _,rfl⟩ ⟨rfl,AA (by simp),BF⟩ Bx rfl λi hi ih=>?_
 refine Aq rfl <| Aa rfl (λh=>?_) (λh=>?_)
 ·have hlt:i<ds.length:=by simp at h;omega
  obtain ⟨d,hd⟩:=Ao hlt;have hg:=Uq hd;have hcd:=hi.2;rw [fB hd] at hcd;obtain ⟨d1,cs⟩:=d;simp only at hcd;refine Aq rfl <| yi rfl (c:=CK ⟨d1,cs⟩) (λ_=>⟨by simp,by simpa using hg,by simp [CK]⟩) (by simp) <| Ai rfl <| Fy (t:=21) rfl λhv2=>?_;simp [Fh,maxLen] at hv2
  refine Ak (λj:Nat=>[(23,.imm (.int .i64 j)),(22,.imm (.int .i64 cs.length)),(21,.imm (.sl (cs.map EY))),(7,.ref 7 0),(16,.imm (.int .i64 i)),(15,.imm (.int .i64 ds.length)),(14,.imm (.sl (ds.map CK))),(1,.imm (.str x)),(4,.ref 5 0),(5,.ref 6 0)]) (λ_=>(7,some (.immb 113 2 (CK ⟨d1,cs⟩)))::(5,some (.cells 178 2 [.imm (.str []),.nils]))::(6,some (.cells 25 4 [.imm (.int .i64 0),.imm (.int .i64 0),.imm (.str []),.nils]))::C8 ⟨m1,ds,fs⟩ T k S) [8,9] (λj=>cs.length-j)
   (λj=>j<=cs.length/\Nk cs x=Nk (cs.drop j) x) 0
   ⟨AL _,rfl⟩ ⟨rfl,AA (by simp),P1⟩ Gq rfl λj hj jh=>?_
  refine Aq rfl <| Aa rfl (λh=>?_) (λh=>?_)
  ·have hlt2:j<cs.length:=by simp at h;omega
   obtain ⟨c,hc⟩:=Ao hlt2;have hgc:=aL hc;have hcl:=hj.2;rw [fC hc] at hcl;obtain ⟨c1,ag⟩:=c;simp only at hcl;refine Aq rfl <| yi rfl (c:=EY ⟨c1,ag⟩) (λ_=>⟨by simp,by simpa using hgc,by simp [EY]⟩) (by simp) <| Ai rfl <| Aa rfl (λh2=>?_) (λh2=>?_)
   ·have hx:c1=x:=by simpa using h2
    rw [if_pos hx] at hcl;have hr:F0 ds x=some (⟨c1,ag⟩,d1):=by rw [hcd,hcl]
    simp only [hr];exact yd [] rfl (by simp;rfl) <| Ag ⟨_,Bx⟩
   ·have hx:c1≠x:=by simpa using h2
    rw [if_neg hx] at hcl;exact Aq rfl <| Ae (jh (j+1) (by omega) ⟨by omega,hcl⟩) ⟨AA (Cb (by omega) (by omega)),cA⟩ Gq rfl
  ·have hlt2:¬j<cs.length:=by simp at h;omega
   have hcl:=hj.2;rw [Br (by omega)] at hcl;have hcl:Nk cs x=none:=hcl;rw [hcl] at hcd;simp only at hcd;exact Aw rfl <| Aq rfl <| Ae (ih (i+1) (by omega) ⟨by omega,hcd⟩) ⟨AA (Cb (by omega) (by omega)),Bx⟩ Bx rfl
 ·have hlt:¬i<ds.length:=by simp at h;omega
  have hcd:=hi.2;rw [Br (by omega)] at hcd;have hr:F0 ds x=none:=hcd;simp only [hr];exact Aw rfl <| Aq rfl <| Ik rfl rfl rfl rfl
theorem Sx (m:Md) (Γ:Ax) (n:Int) (x:Str) (ks:List Tm) (ps:List Ty) (T:List (Int×Ty)) (k:Int) (S:List Ty) (h:F0 m.datas x=none\/∃c y,F0 m.datas x=some (c,y)/\c.args.length≠ks.length):Co 203 m Γ (.mk 14 n x ks ps) T k S none:=by
 have hF:=JR m x T k S;unfold Co;refine Ac Ah Tryz.func203 (by decide +kernel) rfl [5,6,7,8,4,9] rfl rfl <| Ai rfl ?_;rcases h with h | ⟨c,y,h,hl⟩
 ·rw [h] at hF;simp only [X5] at hF;exact AV 1 [(1,1),(2,2),(3,3)] rfl (by simp) hF Au rfl rfl rfl <| Bc 15 1 rfl
 ·rw [h] at hF;obtain ⟨c1,ag⟩:=c;simp only [X5] at hF;exact Ad (fr:=[]) [(1,1),(2,2),(3,3)] [] rfl (by simp) hF Au rfl rfl rfl rfl <| Ai rfl <| AU [] rfl (by simp) (Ia _ (by simp at hl ⊢;omega)) trivial rfl rfl rfl <| Bk 25 rfl
theorem uC (m:Md) (Γ:Ax) (n:Int) (x:Str) (ks:List Tm) (ps:List Ty) (T:List (Int×Ty)) (k:Int) (S:List Ty) (r:Hs) (c:Cd) (y:Str) (hC:F0 m.datas x=some (c,y)) (hl:c.args.length=ks.length) (h:Bs m Γ ks c.args T k S r):Co 203 m Γ (.mk 14 n x ks ps) T k S (r.map λz=>(Bt y,z)):=by
 have hF:=JR m x T k S;rw [hC] at hF;obtain ⟨c1,ag⟩:=c;simp only [X5] at hF;simp only at hl h;have hwt:Al Tryz.prog 117 [.bool (((A2 ag).length:Int) == (E4 ks).length)] (.tup []):=by
  rw [show (((A2 ag).length:Int) == (E4 ks).length)=true by simp;omega];exact Fc
 unfold Co;refine Ac Ah Tryz.func203 (by decide +kernel) rfl [5,6,7,8,4,9,10,11] rfl rfl <| Ai rfl <| Ad (fr:=[]) [(1,1),(2,2),(3,3)] [] rfl (by simp) hF Au rfl rfl rfl rfl <| Ai rfl <| Af rfl hwt <| Ai rfl <| EX 3 4 1 [.imm (.str m.name),.imm (.sl (m.datas.map CK)),.imm (.sl (m.funs.map CG)),.mapr 2,.imm (.int .i64 (k)),.own 4 (A2 S).length] rfl rfl (by decide) ⟨.inl rfl,.inl rfl,.inl rfl,.inl rfl,.inl rfl,.inr ⟨_,rfl,rfl⟩,trivial⟩ <| Fy (t:=27) rfl λhv=>?_;simp [Fh,maxLen] at hv
 refine Ak (λz:Nat×List (Int×Ty)×Int×List Ty=>[(29,.imm (.int .i64 z.1)),(28,.imm (.int .i64 ag.length)),(27,.imm (.sl (A2 ag))),(0,.ref 1 0),(2,.imm (.sl (Dq Γ))),(4,.ref 5 0),(6,.ref 6 0),(8,.ref 8 0)]) (λz=>(5,some (.immb 49 5 (Bo (.mk 14 n x ks ps))))::(6,some (.cells 25 4 [.imm (.int .i64 0),.imm (.int .i64 0),.imm (.str []),.nils]))::(8,some (.immb 25 4 (dTyc (Bt y))))::Tk m z.2.1 z.2.2.1 z.2.2.2) [9,10,11] (λz=>ag.length-z.1)
  (λz=>z.1<=ag.length/\Bs m Γ (ks.drop z.1) (ag.drop z.1) z.2.1 z.2.2.1 z.2.2.2 r) (0,T,k,S)
  ⟨AL _,h⟩ ⟨rfl,AA (by simp),Gq⟩ Gq rfl λz hz ih=>?_
 clear h;obtain ⟨j,T1,k1,S1⟩:=z;obtain ⟨hj1,hj2⟩:=hz;simp only at hj1 hj2 ih;refine Aq rfl <| Aa rfl (λh'=>?_) (λh'=>?_)
 ·have hlt:j<ag.length:=by simp at h';omega
  obtain ⟨u,hu⟩:=Ao hlt;obtain ⟨t,ht⟩:=Ao (l:=ks) (i:=j) (by omega);have hgu:=A8 hu;rw [Av ht,Av hu,Bs] at hj2;obtain ⟨u1,u2,u3,u4⟩:=u;refine Aq rfl <| yi rfl (c:=dTyc (.mk u1 u2 u3 u4)) (λ_=>⟨by simp,by simpa using hgu,by simp⟩) (by simp) <| Ai rfl ?_;rcases hj2 with ⟨hI,rfl⟩ | ⟨⟨τ1,τ2,τ3,τ4⟩,T2,k2,S2,hI,hj2⟩
  ·have hK:=C0 (op:=14) (n:=n) (x:=x) (ps:=ps) ht hI;simp only [CT] at hK;exact AV 3 [(1,1),(2,2),(4,3)] rfl (by simp) hK Au rfl rfl rfl <| Ai rfl <| DS 39 (.imm (.tup [])) rfl D1 (λx h=>by cases h) <| yg [] rfl (by simp;rfl) <| Bc 39 3 rfl
  ·have hK:=C0 (op:=14) (n:=n) (x:=x) (ps:=ps) ht hI;simp only [CT] at hK;refine A4 [(1,1),(2,2),(4,3)] [(4,10)] [] (fr:=[10]) (nm:=[1,2,10,1,2,4]) rfl trivial (by simp) hK Au rfl trivial rfl rfl rfl <| Ai rfl ?_;rcases hj2 with ⟨hE,rfl⟩ | ⟨T3,hE,hj2⟩
   ·unfold D8 at hE;exact AU [(1,1),(2,2),(10,3)] rfl (by simp) hE Au rfl rfl rfl <| M5 1 rfl (by simp;rfl) <| Bk 41 rfl
   ·unfold CU at hE;exact A4 [(1,1),(2,2),(10,3)] [] [] (fr:=[]) (nm:=[1,2,10,1,2,10]) rfl trivial (by simp) hE Au rfl trivial rfl rfl rfl <| yg [] rfl (by simp;rfl) <| AZ 10 4 rfl <| Ae (ih (j+1,T3,k2,S2) (by simp only;omega) ⟨by simp only;omega,hj2⟩) ⟨AA (Cb (by omega) (by omega)),Gw⟩ Gq rfl
 ·have hlt:¬j<ag.length:=by simp at h';omega
  rw [Br (by omega:ks.length<=j)] at hj2;simp only [Bs] at hj2;subst hj2;exact Aw rfl <| Aq rfl <| Ag ⟨_,Bx⟩
theorem dC (m:Md) (Γ:Ax) (n:Int) (x:Str) (ps:List Ty) (τ:Ty) (T:List (Int×Ty)) (k:Int) (S:List Ty) (hΓ:Γ.length<=1000000):Gj m Γ (.mk 2 n x ps) τ T k S (some (Γ++[(x,τ)],T)):=by
 have hW:=Jx Γ x τ hΓ;obtain ⟨τ1,τ2,τ3,τ4⟩:=τ;unfold Gj;exact Ac Ah Tryz.func263 (by decide +kernel) rfl [5,6,7,8] rfl rfl <| yg [.a] rfl (by simp) <| Af rfl hW <| Ai rfl <| Ag ⟨_,Bx⟩
theorem kZ (m:Md) (Γ:Ax) (f n:Int) (x:Str) (ps:List Ty) (τ:Ty) (T:List (Int×Ty)) (k:Int) (S:List Ty) (hf:f≠2/\f≠3/\f≠4/\f≠5/\f≠6):Gj m Γ (.mk f n x ps) τ T k S (some (Γ,T)):=by
 obtain ⟨τ1,τ2,τ3,τ4⟩:=τ;unfold Gj;refine Ac Ah Tryz.func263 (by decide +kernel) rfl [5,6,7,8] rfl rfl <| Ai rfl <| Aa rfl (λh=>by exfalso;simp at h;omega) (λh=>?_);refine Aq rfl <| Aa rfl (λh=>by exfalso;simp at h;omega) (λh=>?_);refine Aq rfl <| Aa rfl (λh=>by exfalso;simp at h;omega) (λh=>?_);refine Aq rfl <| Aa rfl (λh=>by exfalso;simp at h;omega) (λh=>?_);refine Aq rfl <| Aa rfl (λh=>by exfalso;simp at h;omega) (λh=>?_);exact Aq rfl <| Ag ⟨_,Bx⟩
theorem dF (m:Md) (Γ:Ax) (n:Int) (x:Str) (ps:List Ty) (τ:Ty) (T:List (Int×Ty)) (k:Int) (S:List Ty) (r:Option (List (Int×Ty))) (h:rN m T k S τ (Oy 3) r):Gj m Γ (.mk 3 n x ps) τ T k S (r.map λT'=>(Γ,T')):=by
 have hKd:=B2 1 [];obtain ⟨τ1,τ2,τ3,τ4⟩:=τ;unfold Gj;refine Ac Ah Tryz.func263 (by decide +kernel) rfl [5,6,7,8] rfl rfl <| yg [.a,.a] rfl (by simp) <| Af rfl hKd <| Ai rfl ?_;cases r with
 | none =>
  have h:D8 m T k S _ (.mk 1 0 [] []):=h;unfold D8 at h;exact AU [(1,1),(2,2),(3,3)] rfl (by simp) h Au rfl rfl rfl <| M5 1 rfl (by simp;rfl) <| Bk 27 rfl
 | some T' =>
  have h:CU m T k S _ (.mk 1 0 [] []) T':=h;unfold CU at h;exact A4 [(1,1),(2,2),(3,3)] [] [] (fr:=[]) (nm:=[1,2,3,1,2,3]) rfl trivial (by simp) h Au rfl trivial rfl rfl rfl <| yg [] rfl (by simp;rfl) <| Ag ⟨_,Bx⟩
theorem dE (m:Md) (Γ:Ax) (n:Int) (x:Str) (ps:List Ty) (τ:Ty) (T:List (Int×Ty)) (k:Int) (S:List Ty) (r:Option (List (Int×Ty))) (h:rN m T k S τ (Oy 4) r):Gj m Γ (.mk 4 n x ps) τ T k S (r.map λT'=>(Γ,T')):=by
 have hKd:=B2 2 [];obtain ⟨τ1,τ2,τ3,τ4⟩:=τ;unfold Gj;refine Ac Ah Tryz.func263 (by decide +kernel) rfl [5,6,7,8] rfl rfl <| yg [.a,.a,.a] rfl (by simp) <| Af rfl hKd <| Ai rfl ?_;cases r with
 | none =>
  have h:D8 m T k S _ (.mk 2 0 [] []):=h;unfold D8 at h;exact AU [(1,1),(2,2),(3,3)] rfl (by simp) h Au rfl rfl rfl <| M5 1 rfl (by simp;rfl) <| Bk 33 rfl
 | some T' =>
  have h:CU m T k S _ (.mk 2 0 [] []) T':=h;unfold CU at h;exact A4 [(1,1),(2,2),(3,3)] [] [] (fr:=[]) (nm:=[1,2,3,1,2,3]) rfl trivial (by simp) h Au rfl trivial rfl rfl rfl <| yg [] rfl (by simp;rfl) <| Ag ⟨_,Bx⟩
theorem dD (m:Md) (Γ:Ax) (n:Int) (x:Str) (ps:List Ty) (τ:Ty) (T:List (Int×Ty)) (k:Int) (S:List Ty) (r:Option (List (Int×Ty))) (h:rN m T k S τ (Oy 5) r):Gj m Γ (.mk 5 n x ps) τ T k S (r.map λT'=>(Γ,T')):=by
 have hKd:=B2 3 [];obtain ⟨τ1,τ2,τ3,τ4⟩:=τ;unfold Gj;refine Ac Ah Tryz.func263 (by decide +kernel) rfl [5,6,7,8] rfl rfl <| yg [.a,.a,.a,.a] rfl (by simp) <| Af rfl hKd <| Ai rfl ?_;cases r with
 | none =>
  have h:D8 m T k S _ (.mk 3 0 [] []):=h;unfold D8 at h;exact AU [(1,1),(2,2),(3,3)] rfl (by simp) h Au rfl rfl rfl <| M5 1 rfl (by simp;rfl) <| Bk 39 rfl
 | some T' =>
  have h:CU m T k S _ (.mk 3 0 [] []) T':=h;unfold CU at h;exact A4 [(1,1),(2,2),(3,3)] [] [] (fr:=[]) (nm:=[1,2,3,1,2,3]) rfl trivial (by simp) h Au rfl trivial rfl rfl rfl <| yg [] rfl (by simp;rfl) <| Ag ⟨_,Bx⟩
theorem KA (m:Md) (Γ:Ax) (n:Int) (x:Str) (ps:List Ty) (τ:Ty) (T:List (Int×Ty)) (k:Int) (S:List Ty) (h:F0 m.datas x=none\/∃c y,F0 m.datas x=some (c,y)/\c.args.length≠ps.length):Gj m Γ (.mk 6 n x ps) τ T k S none:=by
 have hF:=JR m x T k S;obtain ⟨τ1,τ2,τ3,τ4⟩:=τ;unfold Gj;refine Ac Ah Tryz.func263 (by decide +kernel) rfl [5,6,7,8,9] rfl rfl <| yg [.a,.a,.a,.a,.a] rfl (by simp) ?_;rcases h with h | ⟨c,y,h,hl⟩
 ·rw [h] at hF;simp only [X5] at hF;exact AV 1 [(1,1),(2,2),(3,3)] rfl (by simp) hF Au rfl rfl rfl <| Bc 46 1 rfl
 ·rw [h] at hF;obtain ⟨c1,ag⟩:=c;simp only [X5] at hF;exact Ad (fr:=[]) [(1,1),(2,2),(3,3)] [] rfl (by simp) hF Au rfl rfl rfl rfl <| Ai rfl <| AU [] rfl (by simp) (Ia _ (by simp at hl ⊢;omega)) trivial rfl rfl rfl <| Bk 56 rfl
theorem V7 (m:Md) (Γ:Ax) (n:Int) (x:Str) (ps:List Ty) (τ:Ty) (T:List (Int×Ty)) (k:Int) (S:List Ty) (r:Option (Ax×List (Int×Ty))) (c:Cd) (y:Str) (hC:F0 m.datas x=some (c,y)) (hl:c.args.length=ps.length)
  (h:(D8 m T k S τ (Bt y)/\r=none)\/∃T1,CU m T k S τ (Bt y) T1/\M0 m k S ps c.args Γ T1 r):Gj m Γ (.mk 6 n x ps) τ T k S r:=by
 have hF:=JR m x T k S;rw [hC] at hF;obtain ⟨c1,ag⟩:=c;simp only [X5] at hF;simp only at hl h;have hwt:Al Tryz.prog 117 [.bool (((A2 ag).length:Int) == (A2 ps).length)] (.tup []):=by
  rw [show (((A2 ag).length:Int) == (A2 ps).length)=true by simp;omega];exact Fc
 obtain ⟨τ1,τ2,τ3,τ4⟩:=τ;unfold Gj;refine Ac Ah Tryz.func263 (by decide +kernel) rfl [5,6,7,8,9,10] rfl rfl <| yg [.a,.a,.a,.a,.a] rfl (by simp) <| Ad (fr:=[]) [(1,1),(2,2),(3,3)] [] rfl (by simp) hF Au rfl rfl rfl rfl <| Ai rfl <| Af rfl hwt <| Ai rfl ?_;rcases h with ⟨hE,rfl⟩ | ⟨T1,hE,h⟩
 ·unfold D8 at hE;exact AU [(1,1),(2,2),(3,3)] rfl (by simp) hE Au rfl rfl rfl <| Bk 60 rfl
 unfold CU at hE;refine Ad (fr:=[]) [(1,1),(2,2),(3,3)] [] rfl (by simp) hE Au rfl rfl rfl rfl <| Ai rfl <| Fy (t:=62) rfl λhv=>?_;simp [Fh,maxLen] at hv;refine Ak (λz:Nat×Ax×List (Int×Ty)=>[(64,.imm (.int .i64 z.1)),(63,.imm (.int .i64 ps.length)),(62,.imm (.sl (A2 ps))),(0,.ref 1 0),(3,.imm (.sl (Dq z.2.1))),(9,.ref 7 0)]) (λz=>(7,some (.immb 178 2 (EY ⟨c1,ag⟩)))::C8 m z.2.2 k S) [9,10] (λz=>ps.length-z.1)
  (λz=>z.1<=ps.length/\M0 m k S (ps.drop z.1) (ag.drop z.1) z.2.1 z.2.2 r) (0,Γ,T1)
  ⟨AL _,h⟩ ⟨rfl,AA (by simp),BF⟩ BF rfl λz hz ih=>?_
 clear h;obtain ⟨j,Γ1,T2⟩:=z;obtain ⟨hj1,hj2⟩:=hz;simp only at hj1 hj2 ih;refine Aq rfl <| Aa rfl (λh'=>?_) (λh'=>?_)
 ·have hlt:j<ps.length:=by simp at h';omega
  obtain ⟨p,hp⟩:=Ao hlt;obtain ⟨u,hu⟩:=Ao (l:=ag) (i:=j) (by omega);have hgp:=A8 hp;have hgu:=A8 hu;rw [Av hp,Av hu,M0] at hj2;obtain ⟨u1,u2,u3,u4⟩:=u;obtain ⟨p1,p2,p3,p4⟩:=p;refine Aq rfl <| yi rfl (c:=dTyc (.mk p1 p2 p3 p4)) (λ_=>⟨by simp,by simpa using hgp,by simp⟩) (by simp) <| Ai rfl <| yi rfl (c:=dTyc (.mk u1 u2 u3 u4)) (λ_=>⟨by simp,by simpa using hgu,by simp⟩) (by simp) <| Ai rfl ?_;rcases hj2 with ⟨hP,rfl⟩ | ⟨Γ2,T3,hP,hj2⟩
  ·unfold Gj at hP;simp only [jA] at hP;exact AU [(1,1),(2,2),(3,3)] rfl (by simp) hP Au rfl rfl rfl <| yg [] rfl (by simp;rfl) <| Bk 77 rfl
  ·unfold Gj at hP;simp only [jA] at hP;exact A4 [(1,1),(2,2),(3,3)] [] [] (fr:=[]) (nm:=[1,2,3,1,2,3]) rfl trivial (by simp) hP Au rfl trivial rfl rfl rfl <| yg [] rfl (by simp;rfl) <| Ae (ih (j+1,Γ2,T3) (by simp only;omega) ⟨by simp only;omega,hj2⟩) ⟨AA (Cb (by omega) (by omega)),Bx⟩ BF rfl
 ·have hlt:¬j<ps.length:=by simp at h';omega
  rw [Br (by omega:ps.length<=j)] at hj2;simp only [M0] at hj2;subst hj2;exact Aw rfl <| Aq rfl <| Ag ⟨_,Bx⟩
theorem iV {m:Md} (hm:Ev m):aV m:=by
 intro S k;have key:∀(N:Nat) (p τ:Ty) (Γ:Ax) (T:List (Int×Ty)),Ek p<=N->StOk k (B6 T)->TyK k τ->EnvOk k Γ->Γ.length+Ek p<=1000000->∃r,Gj m Γ p τ T k S r/\Uv m p τ Γ T k r:=by
  intro N
  induction N with
  | zero=>intro p t Γ L h;have:=Hu p;omega
  | succ N ih =>
  intro p t Γ T hN hs ht hΓ hB;obtain ⟨f,n,x,ps⟩:=p;have hB':=hB;simp only [Ek] at hN hB';by_cases e2:f=2
  ·subst e2;refine ⟨some (Γ++[(x,t)],T),dC m Γ n x ps t T k S (by omega),iU hs hΓ ht.1 ht.2,?_⟩;simp only [Ek,Bw,Dh,BX];omega
  by_cases e345:f=3\/f=4\/f=5
  ·have hlit:TyK k (Oy f):=by
    unfold Oy;split
    ·exact TyK.i
    ·split
     ·exact TyK.b
     ·exact TyK.u
   obtain ⟨r,hE,hR⟩:=Ij m T k S hs ht hlit;have hP:Gj m Γ (.mk f n x ps) t T k S (r.map λT'=>(Γ,T')):=by
    rcases e345 with rfl | rfl | rfl
    ·exact dF m Γ n x ps t T k S r hE
    ·exact dE m Γ n x ps t T k S r hE
    ·exact dD m Γ n x ps t T k S r hE
   refine ⟨_,hP,?_⟩;cases r with
   | none=>exact ZA (m:=m) (n:=n) (x:=x) (ps:=ps) (τ:=t) (r:=none) hΓ e345 hR
   | some T'=>exact ⟨ZA (m:=m) (n:=n) (x:=x) (ps:=ps) (τ:=t) (r:=some (B6 T')) hΓ e345 hR,by omega⟩
  by_cases e6:f=6
  ·subst e6;cases hC:F0 m.datas x with
   | none=>exact ⟨none,KA m Γ n x ps t T k S (.inl hC),L6 (k:=k) (σ:=B6 T) (.inl hC)⟩
   | some cy =>
    obtain ⟨c,y⟩:=cy;by_cases hl:c.args.length=ps.length
    ·obtain ⟨r,hE,hR⟩:=Ij m T k S hs ht (b:=Bt y) ⟨by simp [Bt,Cl,FC],Ce (by simp [Bt,CA,Dm]) _⟩;cases r with
     | none=>exact ⟨none,V7 m Γ n x ps t T k S none c y hC hl (.inl ⟨hE,rfl⟩),X1 (k:=k) (σ:=B6 T) hC hR⟩
     | some T1 =>
      have hT:∀u∈c.args,TyK k u:=λu hu=>⟨(Ip hm hC u hu).2,Ce (Ip hm hC u hu).1 _⟩
      obtain ⟨r,c1,g1⟩:=RY ih ps c.args Γ T1 hl.symm (by omega) hR.2.1 hT hΓ (by omega);refine ⟨r,V7 m Γ n x ps t T k S r c y hC hl (.inr ⟨T1,hE,c1⟩),?_⟩;cases r with
      | none=>exact ZB hm (r:=none) hC hl hΓ hR g1
      | some z =>
       obtain ⟨Γ',T'⟩:=z;exact ⟨ZB hm (r:=some (Γ',B6 T')) hC hl hΓ hR g1.1,by have:=g1.2;simp only [Ek];omega⟩
    ·exact ⟨none,KA m Γ n x ps t T k S (.inr ⟨c,y,hC,hl⟩),L6 (k:=k) (σ:=B6 T) (.inr ⟨c,y,hC,hl⟩)⟩
  ·have hf:f≠2/\f≠3/\f≠4/\f≠5/\f≠6:=⟨e2,λh=>e345 (.inl h),λh=>e345 (.inr (.inl h)),λh=>e345 (.inr (.inr h)),e6⟩
   exact ⟨some (Γ,T),kZ m Γ f n x ps t T k S hf,pA hs hΓ hf,by omega⟩
 exact λp τ Γ T=>key (Ek p) p τ Γ T (B8 _)
def vC (m:Md) (Γ:Ax) (t0:Tm) (ks:List Tm) (ps:List Ty) (T:List (Int×Ty)) (k:Int) (S:List Ty) (r:Kw):Prop :=
 (En m Γ t0 T k S none/\r=none)\/∃b T1 k1 S1,En m Γ t0 T k S (some (b,T1,k1,S1))/\(0<=k1/\k1<=1000000)/\∃r',JH m Γ b (As k1) ps ks T1 (k1+1) S1 r'/\r=r'.map λz=>(As k1,z)
theorem V9 (m:Md) (Γ:Ax) (n:Int) (x:Str) (t0:Tm) (ks:List Tm) (ps:List Ty) (T:List (Int×Ty)) (k:Int) (S:List Ty) (r:Kw) (hl:ks.length=ps.length) (h:vC m Γ t0 ks ps T k S r):Co 204 m Γ (.mk 15 n x (t0::ks) ps) T k S r:=by
 have ht:(t0::ks)[0]?=some t0:=rfl;unfold Co;refine Ac Ah Tryz.func204 (by decide +kernel) rfl [5,6,8,7,9,10,11,12] rfl rfl <| Ai rfl ?_;rcases h with ⟨hI,rfl⟩ | ⟨⟨b1,b2,b3,b4⟩,T1,k1,S1,hI,hk1,r',h,rfl⟩
 ·have hK:=C0 (op:=15) (n:=n) (x:=x) (ps:=ps) ht hI;simp only [CT] at hK;exact AV 3 [(1,1),(2,2),(3,3)] rfl (by simp) hK Au rfl rfl rfl <| Bc 14 3 rfl
 have hA:=H4 m T1 k1 S1 hk1;have hK:=C0 (op:=15) (n:=n) (x:=x) (ps:=ps) ht hI;simp only [CT] at hK;refine Ad (fr:=[8]) [(1,1),(2,2),(3,3)] [(4,8)] rfl (by simp) hK Au rfl rfl rfl rfl <| Ai rfl <| Ad (fr:=[]) [(1,1),(2,2),(8,3)] [] rfl (by simp) hA Au rfl rfl rfl rfl <| Ai rfl <| AZ 8 4 rfl <| Fy (t:=18) rfl λhv=>?_;simp [Fh,maxLen] at hv
 refine Ak (λz:Nat×List (Int×Ty)×Int×List Ty=>[(20,.imm (.int .i64 z.1)),(19,.imm (.int .i64 ps.length)),(18,.imm (.sl (A2 ps))),(0,.ref 1 0),(2,.imm (.sl (Dq Γ))),(4,.ref 5 0),(6,.ref 6 0),(7,.ref 7 0),(8,.ref 9 0)]) (λz=>(5,some (.immb 49 5 (Bo (.mk 15 n x (t0::ks) ps))))::(6,some (.cells 25 4 [.imm (.int .i64 0),.imm (.int .i64 0),.imm (.str []),.nils]))::(7,some (.immb 25 4 (dTyc (.mk b1 b2 b3 b4))))::(9,some (.immb 25 4 (dTyc (As k1))))::Tk m z.2.1 z.2.2.1 z.2.2.2) [10,11,12] (λz=>ps.length-z.1)
  (λz=>z.1<=ps.length/\JH m Γ (.mk b1 b2 b3 b4) (As k1) (ps.drop z.1) (ks.drop z.1) z.2.1 z.2.2.1 z.2.2.2 r') (0,T1,k1+1,S1)
  ⟨AL _,h⟩ ⟨rfl,AA (by simp),Gw⟩ Gw rfl λz hz ih=>?_
 clear h hK hA hI;obtain ⟨j,T2,k2,S2⟩:=z;obtain ⟨hj1,hj2⟩:=hz;simp only at hj1 hj2 ih;refine Aq rfl <| Aa rfl (λh'=>?_) (λh'=>?_)
 ·have hlt:j<ps.length:=by simp at h';omega
  obtain ⟨p,hp⟩:=Ao hlt;obtain ⟨t,ht1⟩:=Ao (l:=ks) (i:=j) (by omega);have ht2:(t0::ks)[j+1]?=some t:=by simpa using ht1
  have hw:IntKind.i64.wrap ((j:Int)+1)=((j+1:Nat):Int):=by rw [Cb (by omega) (by omega)];omega
  have hgp:=A8 hp;rw [Av hp,Av ht1,JH] at hj2;obtain ⟨p1,p2,p3,p4⟩:=p;refine Aq rfl <| yi rfl (c:=dTyc (.mk p1 p2 p3 p4)) (λ_=>⟨by simp,by simpa using hgp,by simp⟩) (by simp) <| Ai rfl ?_;rcases hj2 with ⟨hP,rfl⟩ | ⟨Γ1,T3,hP,hj2⟩
  ·unfold Gj at hP;simp only [jA] at hP;exact AU [(1,1),(2,2),(4,3)] rfl (by simp) hP Au rfl rfl rfl <| DS 34 (Zn 3) rfl cP (λx h=>by cases h) <| Ai rfl <| DS 35 (.imm (.tup [])) rfl D1 (λx h=>by cases h) <| yg [] rfl (by simp;rfl) <| Bc 35 3 rfl
  ·unfold Gj at hP;simp only [jA] at hP;refine A4 [(1,1),(2,2),(4,3)] [] [] (fr:=[]) (nm:=[1,2,4,1,2,4]) rfl trivial (by simp) hP Au rfl trivial rfl rfl rfl <| Ai rfl ?_;rcases hj2 with ⟨hI,rfl⟩ | ⟨⟨τ1,τ2,τ3,τ4⟩,T4,k4,S4,hI,hj2⟩
   ·have hK:=C0 (op:=15) (n:=n) (x:=x) (ps:=ps) ht2 hI;simp only [CT] at hK;rw [<- hw] at hK;exact AV 3 [(1,1),(2,2),(4,3)] rfl (by simp) hK Au rfl rfl rfl <| Ai rfl <| DS 35 (.imm (.tup [])) rfl D1 (λx h=>by cases h) <| yg [] rfl (by simp;rfl) <| Bc 35 3 rfl
   ·have hK:=C0 (op:=15) (n:=n) (x:=x) (ps:=ps) ht2 hI;simp only [CT] at hK;rw [<- hw] at hK;refine A4 [(1,1),(2,2),(4,3)] [(4,11)] [] (fr:=[11]) (nm:=[1,2,11,1,2,4]) rfl trivial (by simp) hK Au rfl trivial rfl rfl rfl <| Ai rfl ?_;rcases hj2 with ⟨hE,rfl⟩ | ⟨T5,hE,hj2⟩
    ·unfold D8 at hE;exact AU [(1,1),(2,2),(11,3)] rfl (by simp) hE Au rfl rfl rfl <| M5 1 rfl (by simp;rfl) <| Bk 37 rfl
    ·unfold CU at hE;exact A4 [(1,1),(2,2),(11,3)] [] [] (fr:=[]) (nm:=[1,2,11,1,2,11]) rfl trivial (by simp) hE Au rfl trivial rfl rfl rfl <| yg [] rfl (by simp;rfl) <| AZ 11 4 rfl <| Ae (ih (j+1,T5,k4,S4) (by simp only;omega) ⟨by simp only;omega,hj2⟩) ⟨AA (Cb (by omega) (by omega)),P1⟩ Gw rfl
 ·have hlt:¬j<ps.length:=by simp at h';omega
  rw [Br (by omega:ps.length<=j)] at hj2;simp only [JH] at hj2;subst hj2;exact Aw rfl <| Aq rfl <| Ag ⟨_,Bx⟩
theorem lP {m:Md} {Γ:Ax} {n:Int} {x:Str} {t0 t1 t2:Tm} {ps:List Ty} {k k1 k2:Int} {σ σ1 σ2:Sb} {τ:Ty} {N1 N2:List Ty} (hΓ:EnvOk k Γ) (r1:HE m [t0] [(Γ,BP)] k σ (some (k1,σ1,N1))) (r2:BI m Γ t1 k1 σ1 (some (τ,k2,σ2,N2)))
  (r3:BI m Γ t2 k2 σ2 none):BI m Γ (.mk 8 n x [t0,t1,t2] ps) k σ none:=by
 obtain ⟨a1,a2⟩:=r1;obtain ⟨c1,c2,c3,c4⟩:=r2;have hB:StpR k σ k2 σ2 (λη=>(N1.map (A7 η),A7 η τ,N2.map (A7 η))) (λη (w:List Ty×Ty×List Ty)=>Dj m [t0] [(Fg η Γ,BP)] w.1/\C1 m t1 (Fg η Γ) w.2.1 w.2.2) :=
  a1.bind c1 (λη g1 g2=>⟨by simpa [Gz] using g1,g2⟩) λη w hG=>⟨w.1,by simpa [Gz] using hG.1,λη1 ha hv=>⟨(w.2.1,w.2.2),by rw [ha.env hΓ];exact hG.2,λη2 hb _ hv2=>by
   obtain ⟨w1,w2,w3⟩:=w;simp only [AS] at hv2 ⊢;exact ⟨by rw [hb.tys a2,hv],hv2.1,hv2.2⟩⟩⟩
 refine StpN.second hB r3 λη w hw=>?_;obtain ⟨S1,S2,S3,q1,q2,q3,_⟩:=MX.1 hw;exact ⟨(S1,w.1,S2),⟨q1,q2⟩,λη1 ha _=>⟨(w.1,S3),by rw [ha.env hΓ];exact q3⟩⟩
def xL (op:Int) (j:Nat):Prop:=j<=1/\(Cr op->op≠8->op≠16->j=1)
theorem Xi {op:Int} (h:Cm op) (a:Ty):(Bj op a).2.2.length<=1:=by
 rcases h with rfl | rfl | rfl | rfl | rfl | rfl | rfl | rfl | rfl | rfl | rfl | rfl | rfl | rfl | rfl | rfl | rfl | rfl | rfl | rfl | rfl <;> simp [Bj]
theorem Tq {op:Int} (h:Cm op) (h8:op≠8) (h16:op≠16) (ho:¬Cr op) (a b:Ty):Bj op a=Bj op b:=by
 rcases h with rfl | rfl | rfl | rfl | rfl | rfl | rfl | rfl | rfl | rfl | rfl | rfl | rfl | rfl | rfl | rfl | rfl | rfl | rfl | rfl | rfl <;> first | rfl | (exfalso;simp [Cr] at ho)
theorem bY {op k:Int} (h:Cm op) (h8:op≠8) (h16:op≠16) {j:Nat} (hj:xL op j) (hk:0<=k):(∀u∈(Bj op (As k)).1,TyK (k+j) u)/\TyK (k+j) (Bj op (As k)).2.1/\∀u∈(Bj op (As k)).2.2,TyK (k+j) u:=by
 by_cases ho:Cr op
 ·have:=hj.2 ho h8 h16;subst this;exact Pz h (TyK.h ⟨hk,by omega⟩)
 ·rw [Tq h h8 h16 ho (As k) AT];exact Pz h TyK.i
theorem DY {m:Md} {Γ:Ax} {t:Tm} {ks:List Tm} {us:List Ty} {τ:Ty} {T:List (Int×Ty)} {k k':Int} {S:List Ty} {j:Nat} (hk:k'=k+j) (h:∀r,Bs m Γ ks us T k' S r->En m Γ t T k S (r.map λz=>(τ,z))) :
  ∀r,Bs m Γ ks us T (k+j) S r->En m Γ t T k S (r.map λz=>(τ,z.1,z.2.1,z.2.2++[])):=λr hr=>by
 subst hk;have:=h r hr;cases r with
 | none=>exact this
 | some z=>simpa using this
theorem pV (m:Md) (Γ:Ax) (op n:Int) (x:Str) (ks:List Tm) (ps:List Ty) (T:List (Int×Ty)) (k:Int) (S:List Ty) (hr:Cm op) (h8:op≠8) (h16:op≠16) (hk:0<=k/\k<=1000000) (hl:ks.length=(Bj op (As k)).1.length) :
  ∃j:Nat,xL op j/\∀r,Bs m Γ ks (Bj op (As k)).1 T (k+j) S r->(∀z,r=some z->z.2.2.length<=1000000)->En m Γ (.mk op n x ks ps) T k S (r.map λz=>((Bj op (As k)).2.1,z.1,z.2.1,z.2.2++(Bj op (As k)).2.2)):=by
 have c0:xL op 0\/Cr op:=by
  by_cases h:Cr op
  ·exact .inr h
  ·exact .inl ⟨by omega,λh'=>absurd h' h⟩
 have c1:xL op 1:=⟨by omega,λ_ _ _=>rfl⟩
 have k0:k=k+(0:Nat):=by simp
 rcases hr with rfl | rfl | rfl | rfl | rfl | rfl | rfl | rfl | rfl | rfl | rfl | rfl | rfl | rfl | rfl | rfl | rfl | rfl | rfl | rfl | rfl
 ·obtain rfl:ks=[]:=Jq.1 hl;exact ⟨0,c0.resolve_right (by simp [Cr]),λr hr _=>DY k0 (λr h=>by simp only [Bj,Bs] at h;subst h;exact DF 1 rfl (Qd m Γ 1 n x [] ps T k S)) r hr⟩
 ·obtain rfl:ks=[]:=Jq.1 hl;exact ⟨0,c0.resolve_right (by simp [Cr]),λr hr _=>DY k0 (λr h=>by simp only [Bj,Bs] at h;subst h;exact DF 25 rfl (Qd m Γ 25 n x [] ps T k S)) r hr⟩
 ·obtain rfl:ks=[]:=Jq.1 hl;exact ⟨0,c0.resolve_right (by simp [Cr]),λr hr _=>DY k0 (λr h=>by simp only [Bj,Bs] at h;subst h;exact DF 2 rfl (kV m Γ 2 n x [] ps T k S)) r hr⟩
 ·obtain rfl:ks=[]:=Jq.1 hl;exact ⟨0,c0.resolve_right (by simp [Cr]),λr hr _=>DY k0 (λr h=>by simp only [Bj,Bs] at h;subst h;exact DF 3 rfl (Qc m Γ 3 n x [] ps T k S)) r hr⟩
 ·obtain rfl:ks=[]:=Jq.1 hl;exact ⟨0,c0.resolve_right (by simp [Cr]),λr hr _=>DY k0 (λr h=>by simp only [Bj,Bs] at h;subst h;exact DF 28 rfl (Qc m Γ 28 n x [] ps T k S)) r hr⟩
 ·exact absurd rfl h8
 ·obtain ⟨a,b,rfl⟩:∃a b,ks=[a,b]:=by
   match ks,hl with
   | [a,b],_=>exact ⟨a,b,rfl⟩
  exact ⟨0,c0.resolve_right (by simp [Cr]),λr hr _=>DY k0 (λr h=>DF 9 rfl (Yk m Γ 9 n x [a,b] ps T k S r (by simp) h)) r hr⟩
 ·obtain ⟨a,b,rfl⟩:∃a b,ks=[a,b]:=by
   match ks,hl with
   | [a,b],_=>exact ⟨a,b,rfl⟩
  exact ⟨0,c0.resolve_right (by simp [Cr]),λr hr _=>DY k0 (λr h=>DF 10 rfl (Yk m Γ 10 n x [a,b] ps T k S r (by simp) h)) r hr⟩
 ·obtain ⟨a,b,rfl⟩:∃a b,ks=[a,b]:=by
   match ks,hl with
   | [a,b],_=>exact ⟨a,b,rfl⟩
  exact ⟨0,c0.resolve_right (by simp [Cr]),λr hr _=>DY k0 (λr h=>DF 11 rfl (Yk m Γ 11 n x [a,b] ps T k S r (by simp) h)) r hr⟩
 ·obtain ⟨a,b,rfl⟩:∃a b,ks=[a,b]:=by
   match ks,hl with
   | [a,b],_=>exact ⟨a,b,rfl⟩
  exact ⟨0,c0.resolve_right (by simp [Cr]),λr hr _=>DY k0 (λr h=>DF 12 rfl (pX m Γ 12 n x [a,b] ps T k S r (by simp) h)) r hr⟩
 ·obtain ⟨a,b,rfl⟩:∃a b,ks=[a,b]:=by
   match ks,hl with
   | [a,b],_=>exact ⟨a,b,rfl⟩
  exact ⟨1,c1,λr hr hb=>DF 13 rfl (lF m Γ 13 n x [a,b] ps T k S r hk (by simp) hb hr)⟩
 ·exact absurd rfl h16
 ·obtain ⟨a,rfl⟩:∃a,ks=[a]:=by
   match ks,hl with
   | [a],_=>exact ⟨a,rfl⟩
  exact ⟨1,c1,λr hr _=>DY (by simp) (λr h=>DF 17 rfl (uA m Γ n x a [] ps T k S r hk h)) r hr⟩
 ·obtain ⟨a,b,rfl⟩:∃a b,ks=[a,b]:=by
   match ks,hl with
   | [a,b],_=>exact ⟨a,b,rfl⟩
  exact ⟨1,c1,λr hr _=>DY (by simp) (λr h=>DF 18 rfl (tY m Γ n x a b [] ps T k S r hk h)) r hr⟩
 ·obtain ⟨a,rfl⟩:∃a,ks=[a]:=by
   match ks,hl with
   | [a],_=>exact ⟨a,rfl⟩
  exact ⟨1,c1,λr hr _=>DY (by simp) (λr h=>DF 19 rfl (kW m Γ n x a [] ps T k S r hk h)) r hr⟩
 ·obtain ⟨a,rfl⟩:∃a,ks=[a]:=by
   match ks,hl with
   | [a],_=>exact ⟨a,rfl⟩
  exact ⟨1,c1,λr hr _=>DY (by simp) (λr h=>DF 20 rfl (pY m Γ n x a [] ps T k S r hk h)) r hr⟩
 ·obtain rfl:ks=[]:=Jq.1 hl;exact ⟨1,c1,λr hr _=>DY (k':=k+1) (by simp) (λr h=>by simp only [Bj,Bs] at h;subst h;exact DF 21 rfl (Y8 m Γ 21 n x [] ps T k S hk)) r hr⟩
 ·obtain ⟨a,b,rfl⟩:∃a b,ks=[a,b]:=by
   match ks,hl with
   | [a,b],_=>exact ⟨a,b,rfl⟩
  exact ⟨1,c1,λr hr _=>DY (by simp) (λr h=>DF 22 rfl (pU m Γ n x a b [] ps T k S r hk h)) r hr⟩
 ·obtain ⟨a,rfl⟩:∃a,ks=[a]:=by
   match ks,hl with
   | [a],_=>exact ⟨a,rfl⟩
  exact ⟨1,c1,λr hr _=>DY (by simp) (λr h=>DF 23 rfl (pT m Γ n x a [] ps T k S r hk h)) r hr⟩
 ·obtain ⟨a,rfl⟩:∃a,ks=[a]:=by
   match ks,hl with
   | [a],_=>exact ⟨a,rfl⟩
  exact ⟨0,c0.resolve_right (by simp [Cr]),λr hr _=>DY k0 (λr h=>DF 24 rfl (tZ m Γ 24 n x [a] ps T k S r (by simp) h)) r hr⟩
 ·obtain ⟨a,rfl⟩:∃a,ks=[a]:=by
   match ks,hl with
   | [a],_=>exact ⟨a,rfl⟩
  exact ⟨0,c0.resolve_right (by simp [Cr]),λr hr _=>DY k0 (λr h=>DF 26 rfl (kY m Γ 26 n x [a] ps T k S r (by simp) h)) r hr⟩
theorem StOk.fresh {k:Int} {σ:Sb} (h:StOk k σ):StOk (k+1) σ:=h.mono (by omega)
theorem VR {m:Md} (hm:Ev m):∀n,Uy m n:=by
 intro n
 induction n with
 | zero=>intro t Γ T k S h;have:=Zv t;omega
 | succ n IH =>
 intro t Γ T k S hn hf hB;obtain ⟨op,nn,x,ks,ps⟩:=t;have hk:=cQ hf;have har:=pH hf;obtain ⟨b1,b2,b3,b4,b5⟩:=hB;have hsz:JK (.mk op nn x ks ps)=1+De ks+Dx ps:=rfl;rw [hsz] at hn b3 b4 b5;have hk0:0<=k:=b1.1;have hΓ':EnvOk (k+1) Γ:=b2.mono (by omega);have hh:TyK (k+1) (As k):=TyK.h ⟨hk0,by omega⟩;rcases har with ⟨rfl,h0⟩ | ⟨rfl,h0⟩ | ⟨rfl,h0⟩ | ⟨rfl,h0⟩ | ⟨rfl,h0⟩ | rfl | ⟨rfl,h0⟩ | ⟨hr,h0⟩
 ·-- a name
  obtain rfl:ks=[]:=Jq.1 h0;refine ⟨_,DF 4 rfl (pW m Γ nn x [] ps T k S),?_⟩;have:=lN hm (n:=nn) (x:=x) (ps:=ps) b1 b2;cases hl:D4 m Γ x with
  | none=>rw [hl] at this;exact this
  | some τ=>rw [hl] at this;exact ⟨[],this,by simp,by simp,by omega⟩
 ·-- a function
  obtain ⟨t0,rfl⟩:=XN.1 h0;have hs0:De [t0]=JK t0:=by simp [De]
  rw [hs0] at hn b3 b4 b5 hsz;obtain ⟨r,c1,g1⟩:=IH t0 (Γ++[(x,As k)]) T (k+1) S (by omega) (hk t0 (by simp)) ⟨b1.fresh,hΓ'.add hh.1 hh.2,by omega,by omega,by rw [Bw,XM];omega⟩;refine ⟨_,DF 5 rfl (uB m Γ nn x t0 [] ps T k S (by omega) (by omega) c1),?_⟩;cases r with
  | none=>exact ZS (n:=nn) (ps:=ps) (r:=none) b1 b2 g1
  | some z =>
   obtain ⟨τ,T1,k1,S1⟩:=z;obtain ⟨N,r1,s1,s2,s3⟩:=g1;exact ⟨N,ZS (n:=nn) (ps:=ps) (r:=some (τ,k1,B6 T1,N)) b1 b2 r1,s1,by rw [hsz];omega,by rw [hsz];omega⟩
 ·-- a continuation
  obtain ⟨t0,rfl⟩:=XN.1 h0;have hs0:De [t0]=JK t0:=by simp [De]
  have hkf:TyK (k+1) (Ba (As k) AT):=TyK.f hh TyK.i;have hE:EnvOk (k+1) (Γ++[(x,Ba (As k) AT)]):=hΓ'.add hkf.1 hkf.2;obtain ⟨r,c1,g1⟩:=GL IH [t0] [AT] (Γ++[(x,Ba (As k) AT)]) T (k+1) S rfl (by omega) hk (λu hu=>by rw [AO.1 hu];exact TyK.i) ⟨b1.fresh,hE,by omega,by omega,by rw [Bw,XM];omega⟩;refine ⟨_,DF 27 rfl (kX m Γ nn x t0 [] ps T k S (by omega) (by omega) c1),?_⟩;have hN:∀{r},HE m [t0] [(Γ++[(x,Ba (As k) AT)],AT)] (k+1) (B6 T) r->BI m Γ (.mk 27 nn x [t0] ps) k (B6 T) (r.map λy=>(As k,y.1,y.2.1,y.2.2++[])):=λhr =>
   Ql (op:=27) (n:=nn) (x:=x) (ps:=ps) (j:=1) b1 (bU (by omega) b2) (λp hp=>by rw [AO.1 hp];exact ⟨hE,rfl,Ce rfl _⟩) hh.1 hh.2 (λt h=>nomatch h) hr
  cases r with
  | none=>exact hN (r:=none) g1
  | some z =>
   obtain ⟨T1,k1,S1⟩:=z;obtain ⟨N,r1,s1,s2,s3⟩:=g1;exact ⟨N,by simpa using hN (r:=some (k1,B6 T1,N)) r1,s1,by rw [hsz];omega,by rw [hsz];omega⟩
 ·-- an application
  obtain ⟨t0,u0,rfl⟩:∃t0 u0,ks=[t0,u0]:=by
   match ks,h0 with
   | [a,b],_=>exact ⟨a,b,rfl⟩
  have hs0:De [t0,u0]=JK t0+JK u0:=by simp [De]
  rw [hs0] at hn b3 b4 b5 hsz;obtain ⟨r1,c1,g1⟩:=IH t0 Γ T k S (by omega) (hk t0 (by simp)) ⟨b1,b2,by omega,by omega,by omega⟩;cases r1 with
  | none=>exact ⟨none,DF 6 rfl (LU m Γ nn x t0 u0 [] ps T k S none (.inl ⟨c1,rfl⟩)),lC (k:=k) (k0:=k) (σ:=B6 T) g1 λη w hw=>by
    obtain ⟨a0,S1,S2,q1,q2,_⟩:=Iq.1 hw;exact ⟨_,_,q1⟩⟩
  | some z =>
   obtain ⟨f,T1,k1,S1⟩:=z;obtain ⟨N1,r1,s1,s2,s3⟩:=g1;have hle:k<=k1:=r1.1.1;obtain ⟨r2,c2,g2⟩:=IH u0 Γ T1 k1 S1 (by omega) (hk u0 (by simp)) ⟨r1.1.2.1,b2.mono hle,by omega,by rw [s1,Bw];omega,by omega⟩;cases r2 with
   | none=>exact ⟨none,DF 6 rfl (LU m Γ nn x t0 u0 [] ps T k S none (.inr ⟨f,T1,k1,S1,c1,.inl ⟨c2,rfl⟩⟩)),dK b2 r1 g2 λη w hw=>by
     obtain ⟨a0,S1,S2,q1,q2,_⟩:=Iq.1 hw;exact ⟨⟨_,_,q1⟩,_,_,q2⟩⟩
   | some z =>
    obtain ⟨a,T2,k2,S2⟩:=z;obtain ⟨N2,r2,u1,u2,u3⟩:=g2;have hle2:k1<=k2:=r2.1.1;have hh2:TyK (k2+1) (As k2):=TyK.h ⟨by omega,by omega⟩;have ha2:TyK k2 a:=⟨r2.2.1,r2.2.2.1⟩
    obtain ⟨r3,c3,g3⟩:=Ij m T2 (k2+1) S2 r2.1.2.1.fresh (a:=f) (b:=Ba a (As k2)) (TyK.mono ⟨r1.2.1,r1.2.2.1⟩ (by omega)) (TyK.f (ha2.mono (by omega)) hh2);cases r3 with
    | none=>exact ⟨none,DF 6 rfl (LU m Γ nn x t0 u0 [] ps T k S none (.inr ⟨f,T1,k1,S1,c1,.inr ⟨a,T2,k2,S2,c2,by omega,.inl ⟨c3,rfl⟩⟩⟩)),KE (r:=none) b2 r1 r2 g3⟩
    | some T3=>exact ⟨some (As k2,T3,k2+1,S2),DF 6 rfl (LU m Γ nn x t0 u0 [] ps T k S _ (.inr ⟨f,T1,k1,S1,c1,.inr ⟨a,T2,k2,S2,c2,by omega,.inr ⟨T3,c3,rfl⟩⟩⟩)),N1++N2,KE (r:=some (B6 T3)) b2 r1 r2 g3,by rw [u1,s1,CE],by rw [hsz,Bw];omega,by rw [hsz];omega⟩
 ·-- let
  obtain ⟨t0,u0,rfl⟩:∃t0 u0,ks=[t0,u0]:=by
   match ks,h0 with
   | [a,b],_=>exact ⟨a,b,rfl⟩
  have hs0:De [t0,u0]=JK t0+JK u0:=by simp [De]
  rw [hs0] at hn b3 b4 b5 hsz;obtain ⟨r1,c1,g1⟩:=IH t0 Γ T k S (by omega) (hk t0 (by simp)) ⟨b1,b2,by omega,by omega,by omega⟩;cases r1 with
  | none=>exact ⟨none,DF 7 rfl (lA m Γ nn x t0 u0 [] ps T k S none (by omega) (.inl ⟨c1,rfl⟩)),Ua (k:=k) (k0:=k) (σ:=B6 T) g1⟩
  | some z =>
   obtain ⟨τ,T1,k1,S1⟩:=z;obtain ⟨N1,r1,s1,s2,s3⟩:=g1;have hle:k<=k1:=r1.1.1;obtain ⟨r2,c2,g2⟩:=IH u0 (Γ++[(x,τ)]) T1 k1 S1 (by omega) (hk u0 (by simp)) ⟨r1.1.2.1,(b2.mono hle).add r1.2.1 r1.2.2.1,by omega,by rw [s1,Bw];omega,by rw [Bw,XM];omega⟩;refine ⟨r2,DF 7 rfl (lA m Γ nn x t0 u0 [] ps T k S r2 (by omega) (.inr ⟨τ,T1,k1,S1,c1,c2⟩)),?_⟩;cases r2 with
   | none=>exact ZR (n:=nn) (ps:=ps) (r:=none) (Jt _) b2 r1 g2
   | some z =>
    obtain ⟨τ',T2,k2,S2⟩:=z;obtain ⟨N2,r2,u1,u2,u3⟩:=g2;exact ⟨N1++N2,ZR (n:=nn) (ps:=ps) (r:=some (τ',k2,B6 T2,N2)) (Jt _) b2 r1 r2,by rw [u1,s1,CE],by rw [hsz,Bw];omega,by rw [hsz];omega⟩
 ·-- a constructor
  cases hC:F0 m.datas x with
  | none=>exact ⟨none,DF 14 rfl (Sx m Γ nn x ks ps T k S (.inl hC)),Ub (k:=k) (σ:=B6 T) hC⟩
  | some cy =>
   obtain ⟨c,y⟩:=cy;by_cases hl:c.args.length=ks.length
   ·obtain ⟨r,c1,g1⟩:=GL IH ks c.args Γ T k S hl.symm (by omega) hk (λu hu=>⟨(Ip hm hC u hu).2,Ce (Ip hm hC u hu).1 _⟩) ⟨b1,b2,by omega,by omega,by omega⟩;refine ⟨_,DF 14 rfl (uC m Γ nn x ks ps T k S r c y hC hl c1),?_⟩;cases r with
    | none=>exact Uc hm (n:=nn) (ps:=ps) (r:=none) b1 b2 hC g1
    | some z =>
     obtain ⟨T1,k1,S1⟩:=z;obtain ⟨N,r1,s1,s2,s3⟩:=g1;exact ⟨N,Uc hm (n:=nn) (ps:=ps) (r:=some (k1,B6 T1,N)) b1 b2 hC r1,s1,by rw [hsz];omega,by rw [hsz];omega⟩
   ·exact ⟨none,DF 14 rfl (Sx m Γ nn x ks ps T k S (.inr ⟨c,y,hC,hl⟩)),Uc hm (n:=nn) (ps:=ps) (r:=none) b1 b2 hC (dJ (by simpa using λh=>hl h.symm))⟩
 ·-- a match
  obtain ⟨t0,ks,rfl⟩:∃t0 l,ks=t0::l:=by
   cases ks with
   | nil=>simp at h0;omega
   | cons a l=>exact ⟨a,l,rfl⟩
  have hs0:De (t0::ks)=JK t0+De ks:=rfl;rw [hs0] at hn b3 b4 b5 hsz;obtain ⟨r1,c1,g1⟩:=IH t0 Γ T k S (by omega) (hk t0 (by simp)) ⟨b1,b2,by omega,by omega,by omega⟩;cases r1 with
  | none=>exact ⟨none,DF 15 rfl (V9 m Γ nn x t0 ks ps T k S none (by simp at h0;omega) (.inl ⟨c1,rfl⟩)),Qm (k:=k) (k0:=k) (σ:=B6 T) g1⟩
  | some z =>
   obtain ⟨b,T1,k1,S1⟩:=z;obtain ⟨N1,r1,s1,s2,s3⟩:=g1;have hle:k<=k1:=r1.1.1;have hh2:TyK (k1+1) (As k1):=TyK.h ⟨by omega,by omega⟩;obtain ⟨r2,c2,g2⟩:=RU (iV hm) IH ps ks Γ b (As k1) T1 (k1+1) S1 (by simp at h0;omega) (by omega) (λt ht=>hk t (by simp [ht])) (TyK.mono ⟨r1.2.1,r1.2.2.1⟩ (by omega)) hh2 ⟨r1.1.2.1.fresh,b2.mono (by omega),by omega,by rw [s1,Bw];omega,by omega⟩;refine ⟨_,DF 15 rfl (V9 m Γ nn x t0 ks ps T k S (r2.map λz=>(As k1,z)) (by simp at h0;omega) (.inr ⟨b,T1,k1,S1,c1,by omega,r2,c2,rfl⟩)),?_⟩;cases r2 with
   | none=>exact KD (n:=nn) (x:=x) (r:=none) b2 r1 g2
   | some z =>
    obtain ⟨T2,k2,S2⟩:=z;obtain ⟨N2,r2,u1,u2,u3⟩:=g2;exact ⟨N1++N2,KD (n:=nn) (x:=x) (r:=some (k2,B6 T2,N2)) b2 r1 r2,by rw [u1,s1,CE],by rw [hsz,Bw];omega,by rw [hsz];omega⟩
 ·-- the others
  by_cases h16:op=16
  ·subst h16;obtain ⟨t0,rfl⟩:∃t0,ks=[t0]:=XN.1 (by rw [h0];rfl);have hs0:De [t0]=JK t0:=by simp [De]
   rw [hs0] at hn b3 b4 b5 hsz;obtain ⟨r,c1,g1⟩:=IH t0 Γ T k S (by omega) (hk t0 (by simp)) ⟨b1,b2,by omega,by omega,by omega⟩;refine ⟨_,DF 16 rfl (qA m Γ nn x t0 [] ps T k S c1),?_⟩;cases r with
   | none=>exact LX (k:=k) (σ:=B6 T) (n:=nn) (x:=x) (ps:=ps) (r:=none) g1
   | some z =>
    obtain ⟨τ,T1,k1,S1⟩:=z;obtain ⟨N,r1,s1,s2,s3⟩:=g1;exact ⟨N,LX (n:=nn) (x:=x) (ps:=ps) (r:=some (τ,k1,B6 T1,N)) r1,s1,by rw [hsz];omega,by rw [hsz];omega⟩
  by_cases h8:op=8
  ·subst h8;obtain ⟨t0,t1,t2,rfl⟩:∃t0 t1 t2,ks=[t0,t1,t2]:=by
    match ks,h0 with
    | [a,b,c],_=>exact ⟨a,b,c,rfl⟩
   have hs0:De [t0,t1,t2]=JK t0+JK t1+JK t2:=by simp [De];omega
   rw [hs0] at hn b3 b4 b5 hsz;have hs1:De [t0]=JK t0:=by simp [De]
   obtain ⟨r1,c1,g1⟩:=GL IH [t0] [BP] Γ T k S rfl (by omega) (λt ht=>hk t (by rw [AO.1 ht];simp)) (λu hu=>by rw [AO.1 hu];exact TyK.b) ⟨b1,b2,by omega,by omega,by omega⟩;cases r1 with
   | none=>exact ⟨none,DF 8 rfl (VB m Γ nn x t0 t1 t2 [] ps T k S none (.inl ⟨c1,rfl⟩)),StpN.first g1 λη w hw=>by
     obtain ⟨S1,S2,S3,q1,_⟩:=MX.1 hw;exact ⟨S1,by simpa [Gz] using q1⟩⟩
   | some z =>
    obtain ⟨T1,k1,S1⟩:=z;obtain ⟨N1,r1,s1,s2,s3⟩:=g1;have hle:k<=k1:=r1.1.1;obtain ⟨r2,c2,g2⟩:=IH t1 Γ T1 k1 S1 (by omega) (hk t1 (by simp)) ⟨r1.1.2.1,b2.mono hle,by omega,by rw [s1,Bw];omega,by omega⟩;cases r2 with
    | none=>exact ⟨none,DF 8 rfl (VB m Γ nn x t0 t1 t2 [] ps T k S none (.inr ⟨T1,k1,S1,c1,.inl ⟨c2,rfl⟩⟩)),StpN.second r1.1 g2 λη w hw=>by
      obtain ⟨S1,S2,S3,q1,q2,q3,_⟩:=MX.1 hw;exact ⟨S1,by simpa [Gz] using q1,λη1 ha _=>⟨(_,S2),by rw [ha.env b2];exact q2⟩⟩⟩
    | some z =>
     obtain ⟨τ,T2,k2,S2⟩:=z;obtain ⟨N2,r2,u1,u2,u3⟩:=g2;have hle2:k1<=k2:=r2.1.1;obtain ⟨r3,c3,g3⟩:=IH t2 Γ T2 k2 S2 (by omega) (hk t2 (by simp)) ⟨r2.1.2.1,b2.mono (by omega),by omega,by rw [u1,s1,Bw,Bw];omega,by omega⟩;cases r3 with
     | none =>
      refine ⟨none,DF 8 rfl (VB m Γ nn x t0 t1 t2 [] ps T k S none (.inr ⟨T1,k1,S1,c1,.inr ⟨τ,T2,k2,S2,c2,.inl ⟨c3,rfl⟩⟩⟩)),?_⟩;exact lP b2 r1 r2 g3
     | some z =>
      obtain ⟨a,T3,k3,S3⟩:=z;obtain ⟨N3,r3,v1,v2,v3⟩:=g3;have hle3:k2<=k3:=r3.1.1;obtain ⟨r4,c4,g4⟩:=Ij m T3 k3 S3 r3.1.2.1 (a:=τ) (b:=a) (TyK.mono ⟨r2.2.1,r2.2.2.1⟩ hle3) ⟨r3.2.1,r3.2.2.1⟩;cases r4 with
      | none=>exact ⟨none,DF 8 rfl (VB m Γ nn x t0 t1 t2 [] ps T k S none (.inr ⟨T1,k1,S1,c1,.inr ⟨τ,T2,k2,S2,c2,.inr ⟨a,T3,k3,S3,c3,.inl ⟨c4,rfl⟩⟩⟩⟩)),Qn (r:=none) b2 r1 r2 r3 g4⟩
      | some T4=>exact ⟨some (τ,T4,k3,S3),DF 8 rfl (VB m Γ nn x t0 t1 t2 [] ps T k S _ (.inr ⟨T1,k1,S1,c1,.inr ⟨τ,T2,k2,S2,c2,.inr ⟨a,T3,k3,S3,c3,.inr ⟨T4,c4,rfl⟩⟩⟩⟩)),N1++(N2++N3),Qn (r:=some (B6 T4)) b2 r1 r2 r3 g4,by rw [v1,u1,s1];simp,by rw [hsz,Bw,Bw];omega,by rw [hsz];omega⟩
  obtain ⟨k1,k2,k3⟩:=Pz hr hh;have hlen:ks.length=(Bj op (As k)).1.length:=h0.trans (bZ hr _ _);obtain ⟨j,hj,hw⟩:=pV m Γ op nn x ks ps T k S hr h8 h16 (by omega) hlen;obtain ⟨n1,n2,n3⟩:=bY hr h8 h16 (j:=j) hj hk0;have hj1:j<=1:=hj.1;obtain ⟨r,c1,g1⟩:=GL IH ks (Bj op (As k)).1 Γ T (k+j) S hlen (by omega) hk n1 ⟨b1.mono (by omega),b2.mono (by omega),by omega,by omega,by omega⟩;have hI:∀{r},HE m ks ((Bj op (As k)).1.map λu=>(Γ,u)) (k+j) (B6 T) r->BI m Γ (.mk op nn x ks ps) k (B6 T) (r.map λy=>((Bj op (As k)).2.1,y.1,y.2.1,y.2.2++(Bj op (As k)).2.2)):=λhr' =>
   Ql (op:=op) (n:=nn) (x:=x) (ps:=ps) (j:=j) b1 (gX hr (λho=>by have:=hj.2 ho h8 h16;omega) b2) (λp hp=>by
    obtain ⟨u,hu,rfl⟩:=Cc.1 hp;exact ⟨b2.mono (by omega),n1 u hu⟩) n2.1 n2.2 n3 hr'
  refine ⟨_,hw r c1 (λz hz=>by
   subst hz;obtain ⟨T1,k1',S1⟩:=z;obtain ⟨N,_,s1,s2,_⟩:=g1;simp only [s1,Bw];omega),?_⟩
  cases r with
  | none=>exact hI (r:=none) g1
  | some z =>
   obtain ⟨T1,k1',S1⟩:=z;obtain ⟨N,r1,s1,s2,s3⟩:=g1;have hSl:(Bj op (As k)).2.2.length<=1:=Xi hr _;exact ⟨N++(Bj op (As k)).2.2,hI (r:=some (k1',B6 T1,N)) r1,by rw [s1,CE],by rw [hsz,Bw];omega,by show k1'<=_;rw [hsz];omega⟩
def Io (l:List Int):List (List V):=l.map λx=>[.int .i64 x]
@[simp] theorem dNums_length (l:List Int):(Io l).length=l.length:=by simp [Io]
theorem vY (L S:List Ty) {θ:Int->Ty} (hs:Sol (G5 L) θ) (hd:Dom L.length (G5 L)) (hS:∀t∈S,inB L.length t):Al Tryz.prog 89 [.agg (Kt L S)] (.bool ((S.map (A7 θ)).all CS)):=by
 refine B1 λhv=>?_;simp [CL,Fh,Kt,maxLen] at hv;refine Ac BR Tryz.func89 (by decide +kernel) rfl [1,2,3] rfl rfl <| Cg rfl <| Ak (λi:Nat=>[(3,.imm (.int .i64 i)),(1,.ref 1 0)]) (λ_=>[(1,some (.immb 105 2 (Kt L S)))]) [2,3] (λi=>S.length-i) (λi=>i<=S.length/\(S.map (A7 θ)).all CS=((S.drop i).map (A7 θ)).all CS) 0
  ⟨AL _,rfl⟩ AM AI rfl λi hi ih=>?_
 obtain ⟨hi1,hi2⟩:=hi;refine BS rfl <| Aa rfl (λh=>?_) (λh=>?_)
 ·have hlt:i<S.length:=by simp at h;omega
  obtain ⟨p,hp⟩:=Ao hlt;have hg:=A8 hp;obtain ⟨u,hu⟩:=Ja hs p;have hH:=Mb L S hs hd p u hu (hS p (AF hp));have hu1:=hu.srt_eq hs;rw [Av hp,Cz,Da] at hi2;have hpl:CS (A7 θ p)=(BA u == 1||BA u == 2||BA u == 3):=by rw [CS,hu1]
  rw [hpl] at hi2;clear hu hu1 hpl;obtain ⟨p1,p2,p3,p4⟩:=p;obtain ⟨f,u2,u3,u4⟩:=u;simp only [BA] at hi2;refine BS rfl <| ri rfl (c:=dTyc (.mk p1 p2 p3 p4)) (λ_=>⟨by simp,by simpa using hg,by simp⟩) (by simp) <| Cg rfl <| Af rfl hH <| rg [] rfl (by simp [Am];rfl) ?_;by_cases hf:f=1\/f=2\/f=3
  ·have hb:(f == 1||f == 2||f == 3)=true:=by simpa [or_assoc] using hf
   rw [hb,KZ] at hi2;refine Aa rfl (λh=>by exfalso;simp at h;grind) (λh=>?_);exact BS rfl <| Ae (ih (i+1) (by omega) ⟨by omega,hi2⟩) ⟨AA (Cb (by omega) (by omega)),AI⟩ AI rfl
  ·have hb:(f == 1||f == 2||f == 3)=false:=by simp only [not_or] at hf;simp [hf.1,hf.2.1,hf.2.2]
   rw [hb,Bool.false_and] at hi2;refine Aa rfl (λh=>?_) (λh=>by exfalso;simp at h;grind);exact BS rfl <| Ag ⟨_,rfl,tV (by rw [hi2]),trivial⟩
 ·have hlt:¬i<S.length:=by simp at h;omega
  refine Aw rfl <| BS rfl ?_;rw [Br (by omega)] at hi2;exact Ag ⟨_,rfl,tV (by rw [hi2];rfl),trivial⟩
def vZ (m:Md) (T:List (Int×Ty)) (k:Int) (S:List Ty):St:=C8 m T k S++[(5,some (.cells 92 1 [.ref 1 0]))]
def Xz (m:Md) (T:List (Int×Ty)) (k:Int) (S:List Ty):St:=vZ m T k S++[(6,some (.cells 26 1 [.fn (.func 142) [] [.ref 5 0]]))]
theorem TR (m:Md) (T:List (Int×Ty)) (k:Int) (S:List Ty) {θ:Int->Ty} (hs:Sol (B6 T) θ) (t:Ty) :
  AK Tryz.prog 142 [.imm (.agg (dTyc t)),.ref 5 0] (vZ m T k S) (.ret (.imm (.bool (CS (A7 θ t)))) (vZ m T k S)):=by
 obtain ⟨u,hu⟩:=Ja hs t;have hH:=BZ m T k S hs t u hu;have hu1:=hu.srt_eq hs;have hpl:CS (A7 θ t)=(BA u == 1||BA u == 2||BA u == 3):=by rw [CS,hu1]
 rw [hpl];clear hu hu1 hpl;obtain ⟨t1,t2,t3,t4⟩:=t;obtain ⟨f,u2,u3,u4⟩:=u;refine Ac Ah Tryz.func142 (by decide +kernel) rfl [7,8,9] rfl rfl <| Ai rfl <| A4 [(1,1),(2,2),(3,3)] [] [] (fr:=[]) (nm:=[1,2,3,1,2,3]) rfl trivial (by simp) hH Au rfl trivial rfl rfl rfl <| Ai rfl <| Ag ⟨_,rfl,tV (congrArg _ ?_),BF⟩;simp only [BA];by_cases h1:f=1
 ·subst h1;rfl
 by_cases h2:f=2
 ·subst h2;rfl
 by_cases h3:f=3
 ·subst h3;rfl
 ·simp [h1,h2,h3]
theorem dX (m:Md) (T:List (Int×Ty)) (k:Int) (S:List Ty) {θ:Int->Ty} (hs:Sol (B6 T) θ) (t:Ty) :
  AK Tryz.prog 175 [.imm (.agg (dTyc t)),.ref 6 0] (Xz m T k S) (.ret (.imm (.bool (!CS (A7 θ t)))) (Xz m T k S)):=by
 have hH:=TR m T k S hs t;generalize CS (A7 θ t)=o at *;obtain ⟨t1,t2,t3,t4⟩:=t;exact Ac Ah Tryz.func175 (by decide +kernel) rfl [7,8,9] rfl rfl <| Ai rfl <| A4 [(1,1),(2,2),(3,3),(5,5)] [] [] (fr:=[]) (nm:=[1,2,3,5,1,2,3,5]) rfl trivial (by simp) hH Jg rfl trivial rfl rfl rfl <| Ai rfl <| Ag ⟨_,rfl,tV rfl,Bx⟩
theorem YF (m:Md) (T:List (Int×Ty)) (k:Int) (S:List Ty) {θ:Int->Ty} (hs:Sol (B6 T) θ) (hl:S.length<=1000000) :
  ∃i:Int,(0<=i↔(S.map (A7 θ)).all CS=false)/\AK Tryz.prog 245 [.own 3 (A2 S).length,.fn (.func 175) [] [.ref 6 0]] (Xz m T k S) (.ret (.imm (.int .i64 i)) (Xz m T k S)):=by
 have hfi:∃i:Int,(0<=i↔(S.map (A7 θ)).all CS=false)/\((i = -1/\(S.map (A7 θ)).all CS=true)\/∃(j:Nat) (t:Ty),i=j/\S[j]?=some t/\CS (A7 θ t)=false/\((S.take j).map (A7 θ)).all CS=true):=by
  cases h:(S.map (A7 θ)).all CS with
  | true=>exact ⟨-1,⟨λh=>by omega,λh=>nomatch h⟩,.inl ⟨rfl,rfl⟩⟩
  | false =>
   have key:∀(n:Nat),((S.take n).map (A7 θ)).all CS=false->∃(j:Nat) (t:Ty),S[j]?=some t/\CS (A7 θ t)=false/\((S.take j).map (A7 θ)).all CS=true:=λn=>by
    induction n with
    | zero=>intro h;simp at h
    | succ n ih =>
     intro h;cases hn:((S.take n).map (A7 θ)).all CS with
     | false=>exact ih hn
     | true =>
      by_cases hl:n<S.length
      ·obtain ⟨t,ht⟩:=Ao hl;rw [Be ht,C4,HI,hn,KZ] at h;exact ⟨n,t,ht,by simpa using h,hn⟩
      ·rw [CD (by omega)] at h hn;rw [hn] at h;cases h
   obtain ⟨j,t,k1,k2,k3⟩:=key S.length (by rw [Jr];exact h);exact ⟨j,⟨λ_=>rfl,λ_=>by omega⟩,.inr ⟨j,t,rfl,k1,k2,k3⟩⟩
 obtain ⟨i,h1,h2⟩:=hfi;refine ⟨i,h1,?_⟩;clear h1;refine Ac Ah Tryz.func245 (by decide +kernel) rfl [7,8,9] rfl rfl <| Ai rfl <| Ak (λj:Nat=>[(8,.imm (.int .i64 j)),(7,.imm (.int .i64 S.length)),(0,.own 3 (A2 S).length),(1,.fn (.func 175) [] [.ref 6 0])]) (λ_=>Xz m T k S) [7,8,9] (λj=>S.length-j) (λj=>j<=S.length/\((S.take j).map (A7 θ)).all CS=true) 0
  ⟨AL _,rfl⟩ ⟨rfl,AA (by simp),AM⟩ Bx rfl λj hj ih=>?_
 obtain ⟨hj1,hj2⟩:=hj;refine Aq rfl <| Aa rfl (λh=>?_) (λh=>?_)
 ·have hlt:j<S.length:=by simp at h;omega
  obtain ⟨t,ht⟩:=Ao hlt;have hg:=A8 ht;have hQ:=dX m T k S hs t;have htk:((S.take (j+1)).map (A7 θ)).all CS=CS (A7 θ t):=by rw [Be ht,C4,HI,hj2];simp
  have hfound:CS (A7 θ t)=false->i=j:=λhqt=>by
   rcases h2 with ⟨_,h⟩ | ⟨k',u,rfl,k1,k2,k3⟩
   ·rw [EV.1 h _ (Cc.2 ⟨t,AF ht,rfl⟩)] at hqt;cases hqt
   ·congr 1;rcases Lc k' j with hc | hc | hc
    ·rw [EV.1 hj2 _ (Cc.2 ⟨u,D3.2 ⟨k',by rw [Dr,if_pos hc];exact k1⟩,rfl⟩)] at k2;cases k2
    ·exact hc
    ·rw [EV.1 k3 _ (Cc.2 ⟨t,D3.2 ⟨j,by rw [Dr,if_pos hc];exact ht⟩,rfl⟩)] at hqt;cases hqt
  generalize CS (A7 θ t)=o at *;obtain ⟨t1,t2,t3,t4⟩:=t;refine Aq rfl <| EN Ah rfl (λ_=>⟨by simp,by simpa using hlt⟩) (by simp) <| Ai rfl <| OL Ah (e:=dTyc (.mk t1 t2 t3 t4)) rfl (λ_=>by simpa using hg) rfl (by simp) <| Ai rfl <| Ad (fr:=[]) [(1,1),(2,2),(3,3),(5,5),(6,6)] [] rfl (by simp) hQ UT rfl rfl rfl rfl <| Ai rfl ?_;cases o with
  | false =>
   refine Aa rfl (λh=>?_) (λh=>by exfalso;simp at h);exact Aq rfl <| Ag ⟨_,rfl,tV (by rw [hfound rfl]),Bx⟩
  | true =>
   refine Aa rfl (λh=>by exfalso;simp at h) (λh=>?_);exact Aq rfl <| Ae (ih (j+1) (by omega) ⟨by omega,htk⟩) ⟨AA (Cb (by omega) (by omega)),AD⟩ Bx rfl
 ·have hlt:¬j<S.length:=by simp at h;omega
  rw [CD (by omega)] at hj2;have hi:i = -1:=by
   rcases h2 with ⟨h,_⟩ | ⟨k',u,_,k1,k2,_⟩
   ·exact h
   ·rw [EV.1 hj2 _ (Cc.2 ⟨u,AF k1,rfl⟩)] at k2;cases k2
  exact Aw rfl <| Aq rfl <| Ag ⟨_,rfl,tV (by rw [hi]),Bx⟩
theorem Rp (m:Md) (T:List (Int×Ty)) (k:Int) (S:List Ty) {θ:Int->Ty} (hs:Sol (B6 T) θ) (hl:S.length<=1000000) :
  AK Tryz.prog 174 [.own 3 (A2 S).length,.fn (.func 175) [] [.ref 6 0]] (Xz m T k S) (.ret (.imm (.bool (!((S.map (A7 θ)).all CS)))) (Xz m T k S)):=by
 obtain ⟨i,h1,hI⟩:=YF m T k S hs hl;have hb:decide (0<=i) = !((S.map (A7 θ)).all CS):=by rw [EU,decide_eq_true_iff,h1];simp
 refine Ac Ah Tryz.func174 (by decide +kernel) rfl [7,8,9] rfl rfl <| Ai rfl <| Ad (fr:=[]) [(1,1),(2,2),(3,3),(5,5),(6,6)] [] rfl (by simp) hI UT rfl rfl rfl rfl <| Ai rfl <| Ag ⟨_,rfl,tV ?_,Bx⟩;rw [<- hb]
theorem VG (m:Md) (T:List (Int×Ty)) (k:Int) (S:List Ty) {θ:Int->Ty} (hs:Sol (B6 T) θ) (hl:S.length<=1000000) :
  AK Tryz.prog 112 [.own 3 (A2 S).length,.fn (.func 142) [] [.ref 5 0]] (vZ m T k S) (.ret (.imm (.bool ((S.map (A7 θ)).all CS))) (vZ m T k S)):=by
 have hC:=Rp m T k S hs hl;refine Ac Ah Tryz.func112 (by decide +kernel) rfl [6,7,8,9] rfl rfl <| Ai rfl <| Ad (fr:=[]) [(1,1),(2,2),(3,3),(5,5),(6,6)] [] rfl (by simp) hC UT rfl rfl rfl rfl <| Ai rfl <| Ag ⟨_,rfl,tV (congrArg _ ?_),BF⟩;rw [EU];simp
theorem LT (m:Md) (T:List (Int×Ty)) (k:Int) (S:List Ty) {θ:Int->Ty} (hs:Sol (B6 T) θ) (hl:S.length<=1000000) (hp:(S.map (A7 θ)).all CS=true) :
  AK Tryz.prog 80 [.ref 1 0] (C8 m T k S) (.ret (.imm (.tup [])) (C8 m T k S)):=by
 have hC:=VG m T k S hs hl;rw [hp] at hC;exact Ac Ah Tryz.func80 (by decide +kernel) rfl [5,6,7,8,9] rfl rfl <| Ai rfl <| Ad (fr:=[]) [(1,1),(2,2),(3,3),(5,5)] [] rfl (by simp) hC Jg rfl rfl rfl rfl <| Ai rfl <| Af rfl Fc <| Ai rfl <| BE ⟨_,Bx⟩
theorem NQ (m:Md) (T:List (Int×Ty)) (k:Int) (S:List Ty) {θ:Int->Ty} (hs:Sol (B6 T) θ) (hl:S.length<=1000000) (hp:(S.map (A7 θ)).all CS=false) :
  AK Tryz.prog 80 [.ref 1 0] (C8 m T k S) (.pan FO):=by
 have hC:=VG m T k S hs hl;rw [hp] at hC;exact Ac Ah Tryz.func80 (by decide +kernel) rfl [5,6,7,8,9] rfl rfl <| Ai rfl <| Ad (fr:=[]) [(1,1),(2,2),(3,3),(5,5)] [] rfl (by simp) hC Jg rfl rfl rfl rfl <| Ai rfl <| AU [] rfl (by simp) (Ia _ rfl) trivial rfl rfl rfl <| Ai rfl <| Bk 8 rfl
theorem wF:∀(fn:Fn) (first cap:Array Value) (w:World),(Instr.makeFunc fn first cap).run Tryz.prog w = .ok (.func fn first cap) w:=λ_ _ _ _=>rfl
theorem TV (p:Addr) (w:World) :
  CallsD Tryz.prog 115 #[.pointer (some p)] .returning w λe u' w'=>e = .returned (.tuple #[])/\u' = .returning/\w'=w:=by
 refine callsD_of_wpS Tryz.func115 rfl λc₀ cs hu=>?_;apply wpS_seq;apply wpS_region;simp [wpOpsS,go_sem,recoverD,hu,Tryz.ntmps115,Exit.thenS];apply wpS_seq;apply wpS_region;simp [wpOpsS,go_sem,Exit.thenS];refine wpS_cond (t:=false) (by simp [Act.eval,Array.replicate]) ?_;simp only [if_false,Eo];refine wpS_of_wp (wp_skip ?_);cases c₀;simp_all [bodyPostS,results,Tryz.results115]
theorem TW (pb:Nat) (x:Value) (w:World) (hpb:pb<w.heap.size) (hx:w.cell? ⟨pb,0,none⟩=some x) (hz:w.frozen? ⟨pb,0,none⟩=false) :
  CallsD Tryz.prog 115 #[.pointer (some ⟨pb,0,none⟩)] (.panicking [{ v:=.iface 167 (.agg #[]),recovered:=false }]) w λe u' w'=>e = .returned (.tuple #[]) /\
   u' = .panicking [{ v:=.iface 167 (.agg #[]),recovered:=true }]/\w'=(w.setCell ⟨pb,0,none⟩ (.bool false)).alloc (.cells #[] 167):=by
 refine callsD_of_wpS Tryz.func115 rfl λc₀ cs hu=>?_;change Code.wpS _ _ _ { tmps:=#[.pointer (some ⟨pb,0,none⟩),undef,undef,undef,undef,undef,undef,undef,undef,undef,undef,undef,undef,undef,undef],defers:=[] } _ _;apply wpS_seq;apply wpS_region;simp [wpOpsS,go_sem,recoverD,hu,Tryz.ntmps115,Exit.thenS];apply wpS_seq;apply wpS_region;simp [wpOpsS,go_sem,Exit.thenS];refine wpS_cond (t:=true) (by simp [Act.eval,Array.replicate]) ?_;simp only [if_true];refine wpS_of_wp ?_;clear hu;have hta:∀w:World,(Instr.typeAssert (.iface 167 (.agg #[])) 20 167 true).run Tryz.prog w = .ok (.tuple #[.agg #[],.bool true]) w:=λ_=>by kernel_rfl
 have hx':(w.alloc (.cells #[] 167)).cell? ⟨pb,0,none⟩=some x:=by rw [World.cell?_alloc_past _ _ _ hpb];exact hx
 have hz':(w.alloc (.cells #[] 167)).frozen? ⟨pb,0,none⟩=false:=by rw [RowKit.frozen?_alloc_cells];exact hz
 go_wp2
 simp [bodyPostS,results,Tryz.results115]
theorem TU (g:FuncId) (fi ca:Array Value) (w:World) (K:World->Prop) (Kp:World->Prop)
  (hen:(callFunc g (fi++ca)).run Tryz.prog (w.alloc (.cells #[.bool false] 4)) = .ok (.enter g (fi++ca)) (w.alloc (.cells #[.bool false] 4)))
  (hcall:Calls Tryz.prog g (fi++ca) (w.alloc (.cells #[.bool false] 4)) λe w'=>match e with
   | .returned _=>K w'
   | .panicked chain=>chain=[{ v:=.iface 167 (.agg #[]),recovered:=false }]/\Kp w'
   | .outgrown=>False)
  (hK:∀w',K w'->w'.heap[w.heap.size]?=some (.cells #[.bool false] 4 (0,0))) (hKp:∀w',Kp w'->w'.heap[w.heap.size]?=some (.cells #[.bool false] 4 (0,0))) :
  Calls Tryz.prog 55 #[.func (.func g) fi ca] w λe w'=>(e = .returned (.bool true)/\∃w1,K w1/\w'=w1.setCell ⟨w.heap.size,0,none⟩ (.bool true)) \/
   (e = .returned (.bool false)/\∃w1,Kp w1/\w'=(w1.setCell ⟨w.heap.size,0,none⟩ (.bool false)).alloc (.cells #[] 167)):=by
 go_enter_defers Tryz.func55,Tryz.ntmps55
 have xN:=wF
 go_wp2_with fail
 clear hen;refine hcall.mono ?_;intro e w' he;cases e with
 | outgrown=>exact he.elim
 | returned v =>
  have hc:w'.cell? ⟨w.heap.size,0,none⟩=some (.bool false):=by unfold World.cell?;simp [hK w' he]
  have hz:w'.frozen? ⟨w.heap.size,0,none⟩=false:=by unfold World.frozen?;simp [hK w' he]
  simp only
  go_wp2
  refine leaves_cons (f:=115) (args:=#[.pointer (some ⟨w.heap.size,0,none⟩)]) (by simp) (by simp [go_sem]) <| (TV ⟨w.heap.size,0,none⟩ _).mono ?_;rintro e u' w'' ⟨rfl,rfl,rfl⟩;simp [Leaves,settle,results,Tryz.results55,go_sem,hc];exact ⟨w',he,rfl⟩
 | panicked chain =>
  obtain ⟨rfl,he⟩:=he;have hc:w'.cell? ⟨w.heap.size,0,none⟩=some (.bool false):=by unfold World.cell?;simp [hKp w' he]
  have hz:w'.frozen? ⟨w.heap.size,0,none⟩=false:=by unfold World.frozen?;simp [hKp w' he]
  have hlt:w.heap.size<w'.heap.size:=(Gu.1 (hKp w' he)).1;refine leaves_cons (f:=115) (args:=#[.pointer (some ⟨w.heap.size,0,none⟩)]) (by simp) (by simp [go_sem]) <| (TW w.heap.size _ _ hlt hc hz).mono ?_;rintro e u' w'' ⟨rfl,rfl,rfl⟩;have hc2:((w'.setCell ⟨w.heap.size,0,none⟩ (.bool false)).alloc (.cells #[] 167)).cell? ⟨w.heap.size,0,none⟩=some (.bool false):=by
   rw [DW (hKp w' he),World.cell?_alloc_past _ _ _ (by simpa using hlt)];unfold World.cell?;simp [hlt]
  simp [Leaves,settle,results,Tryz.results55,go_sem,hc2];exact ⟨w',he,rfl⟩
theorem Fe:Kl Tryz.prog 55 167 4:=λg fi ca w K Kp h1 h2 h3 h4=>TU g fi ca w K Kp h1 h2 h3 h4
def sY (m:Md) (T:List (Int×Ty)) (k:Int) (S:List Ty) (a b:Ty):St:=(4,some (.cells 92 1 [.ref 1 0]))::(5,some (.immb 25 4 (dTyc a)))::(6,some (.immb 25 4 (dTyc b)))::C8 m T k S
theorem WX {m:Md} {T T':List (Int×Ty)} {k:Int} {S:List Ty} {a b:Ty} (hE:CU m T k S a b T'):AK Tryz.prog 56 [.ref 4 0,.ref 5 0,.ref 6 0] (sY m T k S a b) (.ret (.imm (.tup [])) (sY m T' k S a b)):=by
 unfold CU at hE;obtain ⟨a1,a2,a3,a4⟩:=a;obtain ⟨b1,b2,b3,b4⟩:=b;exact Ac Ah Tryz.func56 (by decide +kernel) rfl [7,8] rfl rfl <| Ai rfl <| Ad (fr:=[]) [(1,1),(2,2),(3,3)] [] rfl (by simp) hE Au rfl rfl rfl rfl <| Ai rfl <| BE ⟨_,P1⟩
theorem bH {m:Md} {T:List (Int×Ty)} {k:Int} {S:List Ty} {a b:Ty} (hE:D8 m T k S a b):AK Tryz.prog 56 [.ref 4 0,.ref 5 0,.ref 6 0] (sY m T k S a b) (.pan FO):=by
 unfold D8 at hE;obtain ⟨a1,a2,a3,a4⟩:=a;obtain ⟨b1,b2,b3,b4⟩:=b;exact Ac Ah Tryz.func56 (by decide +kernel) rfl [7,8] rfl rfl <| Ai rfl <| AU [(1,1),(2,2),(3,3)] rfl (by simp) hE Au rfl rfl rfl <| Bk 6 rfl
theorem Qh:Al Tryz.prog 138 [.sl []] (.sl []):=by
 refine Ac Ah Tryz.func138 (by decide +kernel) rfl [1] rfl rfl <| Ai rfl <| Kd Ah rfl λb hb=>?_;cases b with
 | true =>
  exact yd [.a] rfl (by simp) <| Ab rfl rfl rfl
 | false =>
  exact yd [.a] rfl (by simp) <| SD Ah rfl <| Ai rfl <| Ab rfl rfl rfl
theorem J0 (es:List (List V)) (hne:es≠[]) (hs:∀c∈es,c.length=4) (hlen:es.length<=1000000):AK Tryz.prog 138 [.imm (.sl es)] [] (.ret (.own 1 es.length) [(1,some (.row 25 4 es))]):=by
 cases es with
 | nil=>exact absurd rfl hne
 | cons e r =>
  refine Ac Ah Tryz.func138 (by decide +kernel) rfl [1,2] rfl rfl <| Ai rfl <| Kd Ah rfl λb hb=>?_;have hb:b=false:=hb (by simp);subst hb;exact yd [.a] rfl (by simp) <| B4 Ah rfl ⟨hs,by simp only [maxLen,BX] at *;omega,by simp only [BX] at *;omega,λc hc=>by simp at hc,by simp⟩ <| Ai rfl <| Ag ⟨_,AD⟩
def kT:V:=.iface 171 (.agg [])
def Hr (m:Md) (T:List (Int×Ty)) (k:Int) (S:List Ty) (c:Int):St:=(4,some (.immb 3 1 [.int .i64 c]))::C8 m T k S
def QY (m:Md) (T:List (Int×Ty)) (k:Int) (S:List Ty) (t:Ty) (c:Int) (u:Ty) (c':Int):Prop :=
 AK Tryz.prog 120 [.ref 1 0,.imm (.agg (dTyc t)),.ref 4 0] (Hr m T k S c) (.ret (.imm (.agg (dTyc u))) (Hr m T k S c'))
def Uz (m:Md) (T:List (Int×Ty)) (k:Int) (S:List Ty) (t:Ty) (c:Int):Prop :=
 AK Tryz.prog 120 [.ref 1 0,.imm (.agg (dTyc t)),.ref 4 0] (Hr m T k S c) (.pan kT)
theorem eI (m:Md) (T:List (Int×Ty)) (k:Int) (S:List Ty) {θ:Int->Ty} (hs:Sol (B6 T) θ) (t:Ty):Uz m T k S t 0:=by
 unfold Uz;obtain ⟨u,hu⟩:=Ja hs t;have hA:=BZ m T k S hs t u hu;obtain ⟨t1,t2,t3,t4⟩:=t;obtain ⟨u1,u2,u3,u4⟩:=u;refine Ac Ah Tryz.func120 (by decide +kernel) rfl [5,6,7,8] rfl rfl <| Ai rfl <| Ad (fr:=[]) [(1,1),(2,2),(3,3)] [] rfl (by simp) hA Au rfl rfl rfl rfl <| Ai rfl <| Aa rfl (λh'=>?_) (λh'=>by exfalso;simp at h';revert h';decide);exact Aq rfl <| Ik rfl rfl rfl rfl
theorem SE (m:Md) (T:List (Int×Ty)) (k:Int) (S:List Ty) {θ:Int->Ty} (hs:Sol (B6 T) θ) (t:Ty) (f n:Int) (x:Str) (hu:Top (B6 T) t (.mk f n x [])) (c:Int) (hc:1<=c/\c<=1000000):QY m T k S t c (.mk f n x []) (c-1):=by
 unfold QY;have hA:=BZ m T k S hs t _ hu;have e1:IntKind.i64.wrap (c-1)=c-1:=Cb (by omega) (by omega);obtain ⟨t1,t2,t3,t4⟩:=t;refine Ac Ah Tryz.func120 (by decide +kernel) rfl [5,6,7,8] rfl rfl <| Ai rfl <| Ad (fr:=[]) [(1,1),(2,2),(3,3)] [] rfl (by simp) hA Au rfl rfl rfl rfl <| Ai rfl <| Aa rfl (λh'=>by exfalso;simp [e1] at h';omega) (λh'=>?_);refine Aq rfl <| Af rfl Qh <| Ai rfl <| Ak (λ_:Unit=>[(29,.imm (.int .i64 0)),(28,.imm (.int .i64 0)),(7,.imm (.sl [])),(4,.ref 5 0),(6,.ref 6 0)]) (λ_=>(5,some (.immb 25 4 (dTyc (.mk f n x []))))::(6,some (.cells 25 4 [.imm (.int .i64 0),.imm (.int .i64 0),.imm (.str []),.nils]))::Hr m T k S (IntKind.i64.wrap (c-1))) [7,8] (λ_=>0) (λ_=>True) ()
  trivial Bx Gq rfl λ_ _ ih=>?_
 refine Aq rfl <| Aa rfl (λh'=>by exfalso;simp at h') (λh'=>?_);exact Aw rfl <| Aq rfl <| Ag ⟨_,rfl,tV rfl,congrArg (λz=>some (some (Blk.immb 3 1 [V.int .i64 z]))) e1,AD⟩
theorem QD (L:List Ty) (i:Nat) (t:Ty):A2 (L.set i t)=(A2 L).set i (dTyc t):=by simp [Ck,List.map_set]
def Om (m:Md) (T:List (Int×Ty)) (k:Int) (S:List Ty):List Ty->Int->List Ty->Int->Prop
 | [],c,us,c'=>us=[]/\c'=c
 | p::r,c,us,c'=>∃v c1 vs,QY m T k S p c v c1/\us=v::vs/\Om m T k S r c1 vs c'
theorem eJ (m:Md) (T:List (Int×Ty)) (k:Int) (S:List Ty) {θ:Int->Ty} (hs:Sol (B6 T) θ) (t:Ty) (f n:Int) (x:Str) (ps us:List Ty) (hne:ps≠[]) (hl:ps.length<=3) (hu:Top (B6 T) t (.mk f n x ps)) (c c':Int) (hc:1<=c/\c<=1000000) (hlu:us.length=ps.length) (hC:Om m T k S ps (c-1) us c'):QY m T k S t c (.mk f n x us) c':=by
 unfold QY;have hA:=BZ m T k S hs t _ hu;have e1:IntKind.i64.wrap (c-1)=c-1:=Cb (by omega) (by omega);have hpe:A2 ps≠[]:=λe=>hne (by have:=congrArg List.length e;simpa using this);have h4:∀c∈A2 ps,c.length=4:=λc hc=>by rw [Ck] at hc;obtain ⟨x,_,rfl⟩:=Cc.1 hc;simp
 have hK:=J0 (A2 ps) hpe h4 (by simp;omega);obtain ⟨t1,t2,t3,t4⟩:=t;rw [<- e1] at hC;refine Ac Ah Tryz.func120 (by decide +kernel) rfl [5,6,7,8,9] rfl rfl <| Ai rfl <| Ad (fr:=[]) [(1,1),(2,2),(3,3)] [] rfl (by simp) hA Au rfl rfl rfl rfl <| Ai rfl <| Aa rfl (λh'=>by exfalso;simp [e1] at h';omega) (λh'=>?_);refine Aq rfl <| Ad (fr:=[7]) [] [(1,7)] rfl (by simp) hK trivial rfl rfl rfl rfl <| Ai rfl <| Ak (λz:Nat×Int=>[(29,.imm (.int .i64 z.1)),(28,.imm (.int .i64 ps.length)),(27,.own 7 (A2 ps).length),(7,.own 7 (A2 ps).length),(0,.ref 1 0),(2,.ref 4 0),(4,.ref 5 0),(6,.ref 6 0)])
  (λz=>(5,some (.immb 25 4 (dTyc (.mk f n x ps))))::(6,some (.cells 25 4 [.imm (.int .i64 0),.imm (.int .i64 0),.imm (.str []),.nils]))::(7,some (.row 25 4 (A2 (us.take z.1++ps.drop z.1))))::Hr m T k S z.2) [8,9] (λz=>ps.length-z.1)
  (λz=>z.1<=ps.length/\Om m T k S (ps.drop z.1) z.2 (us.drop z.1) c') (0,IntKind.i64.wrap (c-1))
  ⟨AL _,hC⟩ ⟨rfl,AA (by simp),Gq⟩ Gw rfl λz hz ih=>?_
 clear hC;obtain ⟨j,e⟩:=z;obtain ⟨hj1,hj2⟩:=hz;simp only at hj1 hj2 ih;refine Aq rfl <| Aa rfl (λh'=>?_) (λh'=>?_)
 ·have hlt:j<ps.length:=by simp at h';omega
  obtain ⟨p,hp⟩:=Ao hlt;rw [Av hp,Om] at hj2;obtain ⟨v,e2,vs,hF,hus,hj2⟩:=hj2;have hv:us[j]?=some v:=by
   have:=congrArg (·[0]?) hus;simpa using this
  have hvs:us.drop (j+1)=vs:=by
   rw [Av hv] at hus;exact (List.cons.inj hus).2
  have hlen:(us.take j).length=j:=by rw [Gx];omega
  have hg:(A2 (us.take j++ps.drop j))[j]?=some (dTyc p):=A8 (by rw [NL (by omega),hlen,Lb,EB];simpa using hp);have hset:(A2 (us.take j++ps.drop j)).set j (dTyc v)=A2 (us.take (j+1)++ps.drop (j+1)):=by
   rw [<- QD,XO _ _ (by omega),hlen,Lb,Av hp,Be hv];simp
  have hrl:(A2 (us.take j++ps.drop j)).length=(A2 ps).length:=by simp;omega
  have hpl:(A2 ps).length=ps.length:=dTys_length ps;have hih:=ih (j+1,e2) (by simp only;omega) ⟨by simp only;omega,by rw [hvs];exact hj2⟩;unfold QY at hF;simp only [<- hset] at hih;generalize A2 (us.take j++ps.drop j)=R at *;obtain ⟨p1,p2,p3,p4⟩:=p;obtain ⟨v1,v2,v3,v4⟩:=v
  exact Aq rfl <| EN Ah rfl (λ_=>⟨by simp,by simp;omega⟩) (by simp [Am]) <| BU rfl <| OL Ah (e:=dTyc (.mk p1 p2 p3 p4)) rfl (λ_=>by simpa using hg) rfl (by simp [Am]) <| Ai rfl <| Ad (fr:=[]) [(1,1),(2,2),(3,3),(4,4)] [] rfl (by simp) hF Jg rfl rfl rfl rfl <| Ai rfl <| EN Ah rfl (λ_=>⟨by simp,by simp;omega⟩) (by simp [Am]) <| BU rfl <| Ii Ah (e:=dTyc (.mk p1 p2 p3 p4)) (e':=dTyc (.mk v1 v2 v3 v4)) rfl (by simpa using hg) (by show 0+4<=4;decide) (by simp) (by simp) <| Ai rfl <| Ae hih ⟨AA (Cb (by omega) (by omega)),Gw⟩ Gw rfl
 ·have hlt:j=ps.length:=by simp at h';omega
  subst hlt;rw [Br (B8 _),Om] at hj2;obtain ⟨_,e2⟩:=hj2;subst e2;have hrow:us.take ps.length++ps.drop ps.length=us:=by rw [Br (B8 _),IM,CD (by omega)]
  simp only [hrow];clear ih hrow;exact Aw rfl <| By 7 rfl <| Aq rfl <| Ag ⟨_,rfl,tV rfl,BF⟩
def Ol (m:Md) (T:List (Int×Ty)) (k:Int) (S:List Ty):List Ty->Int->Prop
 | [],_=>False
 | p::r,c=>Uz m T k S p c\/∃v c1,QY m T k S p c v c1/\Ol m T k S r c1
theorem YL (m:Md) (T:List (Int×Ty)) (k:Int) (S:List Ty) {θ:Int->Ty} (hs:Sol (B6 T) θ) (t:Ty) (f n:Int) (x:Str) (ps:List Ty) (hne:ps≠[]) (hl:ps.length<=3) (hu:Top (B6 T) t (.mk f n x ps)) (c:Int) (hc:1<=c/\c<=1000000) (hC:Ol m T k S ps (c-1)):Uz m T k S t c:=by
 unfold Uz;have hA:=BZ m T k S hs t _ hu;have e1:IntKind.i64.wrap (c-1)=c-1:=Cb (by omega) (by omega);have hpe:A2 ps≠[]:=λe=>hne (by have:=congrArg List.length e;simpa using this);have h4:∀c∈A2 ps,c.length=4:=λc hc=>by rw [Ck] at hc;obtain ⟨x,_,rfl⟩:=Cc.1 hc;simp
 have hK:=J0 (A2 ps) hpe h4 (by simp;omega);obtain ⟨t1,t2,t3,t4⟩:=t;rw [<- e1] at hC;refine Ac Ah Tryz.func120 (by decide +kernel) rfl [5,6,7,8,9] rfl rfl <| Ai rfl <| Ad (fr:=[]) [(1,1),(2,2),(3,3)] [] rfl (by simp) hA Au rfl rfl rfl rfl <| Ai rfl <| Aa rfl (λh'=>by exfalso;simp [e1] at h';omega) (λh'=>?_);refine Aq rfl <| Ad (fr:=[7]) [] [(1,7)] rfl (by simp) hK trivial rfl rfl rfl rfl <| Ai rfl <| Ak (λz:Nat×Int×List Ty=>[(29,.imm (.int .i64 z.1)),(28,.imm (.int .i64 ps.length)),(27,.own 7 (A2 ps).length),(7,.own 7 (A2 ps).length),(0,.ref 1 0),(2,.ref 4 0),(4,.ref 5 0),(6,.ref 6 0)])
  (λz=>(5,some (.immb 25 4 (dTyc (.mk f n x ps))))::(6,some (.cells 25 4 [.imm (.int .i64 0),.imm (.int .i64 0),.imm (.str []),.nils]))::(7,some (.row 25 4 (A2 z.2.2)))::Hr m T k S z.2.1) [8,9] (λz=>ps.length-z.1)
  (λz=>z.1<=ps.length/\z.2.2.length=ps.length/\z.2.2.drop z.1=ps.drop z.1/\Ol m T k S (ps.drop z.1) z.2.1) (0,IntKind.i64.wrap (c-1),ps)
  ⟨AL _,rfl,rfl,hC⟩ ⟨rfl,AA (by simp),Gq⟩ Gw rfl λz hz ih=>?_
 clear hC;obtain ⟨j,e,R0⟩:=z;obtain ⟨hj1,hjl,hjd,hj2⟩:=hz;simp only at hj1 hjl hjd hj2 ih;refine Aq rfl <| Aa rfl (λh'=>?_) (λh'=>?_)
 ·have hlt:j<ps.length:=by simp at h';omega
  obtain ⟨p,hp⟩:=Ao hlt;rw [Av hp,Ol] at hj2;have hR:R0[j]?=some p:=by
   have:=congrArg (·[0]?) hjd;simp only [EB,HY] at this;rw [this,hp]
  have hg:(A2 R0)[j]?=some (dTyc p):=A8 hR;have hrl:(A2 R0).length=(A2 ps).length:=by simp;omega
  have hpl:(A2 ps).length=ps.length:=dTys_length ps;have hih:=λ(v:Ty) (e2:Int) (h2:Ol m T k S (ps.drop (j+1)) e2)=>ih (j+1,e2,R0.set j v) (by simp only;omega) ⟨by simp only;omega,by simpa using hjl,by
   show (R0.set j v).drop (j+1)=ps.drop (j+1);rw [List.drop_set,if_pos (by omega)];have:=congrArg (·.drop 1) hjd;simpa [jT,Nat.add_comm] using this,h2⟩
  simp only [QD] at hih;generalize A2 R0=R at *;clear hR hjd;obtain ⟨p1,p2,p3,p4⟩:=p;refine Aq rfl <| EN Ah rfl (λ_=>⟨by simp,by simp;omega⟩) (by simp [Am]) <| BU rfl <| OL Ah (e:=dTyc (.mk p1 p2 p3 p4)) rfl (λ_=>by simpa using hg) rfl (by simp [Am]) <| Ai rfl ?_;rcases hj2 with hF | ⟨v,e2,hF,hj2⟩
  ·unfold Uz at hF;exact AU [(1,1),(2,2),(3,3),(4,4)] rfl (by simp) hF Jg rfl rfl rfl <| Bk 39 rfl
  ·unfold QY at hF;have hihv:=hih v e2 hj2;obtain ⟨v1,v2,v3,v4⟩:=v;exact Ad (fr:=[]) [(1,1),(2,2),(3,3),(4,4)] [] rfl (by simp) hF Jg rfl rfl rfl rfl <| Ai rfl <| EN Ah rfl (λ_=>⟨by simp,by simp;omega⟩) (by simp [Am]) <| BU rfl <| Ii Ah (e:=dTyc (.mk p1 p2 p3 p4)) (e':=dTyc (.mk v1 v2 v3 v4)) rfl (by simpa using hg) (by show 0+4<=4;decide) (by simp) (by simp) <| Ai rfl <| Ae hihv ⟨AA (Cb (by omega) (by omega)),Gw⟩ Gw rfl
 ·have hlt:j=ps.length:=by simp at h';omega
  subst hlt;rw [Br (B8 _),Ol] at hj2;exact hj2.elim
def vH (m:Md) (T:List (Int×Ty)) (k:Int) (S:List Ty) (θ:Int->Ty) (t:Ty) (c:Int):Prop :=
 ((Ek (A7 θ t):Int)<=c->QY m T k S t c (A7 θ t) (c-Ek (A7 θ t)))/\(c<(Ek (A7 θ t):Int)->Uz m T k S t c)
theorem Qx {m:Md} {T:List (Int×Ty)} {k:Int} {S:List Ty} {θ:Int->Ty}:∀(ps:List Ty) (c:Int),0<=c->(∀p∈ps,∀c,0<=c->c<=1000000->vH m T k S θ p c)->c<=1000000 ->
  ((Dx (CO θ ps):Int)<=c->Om m T k S ps c (CO θ ps) (c-Dx (CO θ ps)))/\(c<(Dx (CO θ ps):Int)->Ol m T k S ps c)
 | [],c,h0,_,_=>by
  refine ⟨λ_=>?_,λh=>?_⟩
  ·rw [Om];exact ⟨rfl,by simp [CO,Dx]⟩
  ·simp [CO,Dx] at h;omega
 | p::r,c,h0,hp,hc=>by
  have h1:=hp p (by simp) c h0 hc;have hpos:0<=(Ek (A7 θ p):Int):=by omega
  refine ⟨λh=>?_,λh=>?_⟩
  ·simp only [CO,Dx] at h ⊢;have h2:=(Qx (m:=m) (T:=T) (k:=k) (S:=S) (θ:=θ) r (c-Ek (A7 θ p)) (by omega) (λq hq=>hp q (by simp [hq])) (by omega)).1 (by omega);rw [Om];refine ⟨_,_,_,h1.1 (by omega),rfl,?_⟩;rw [show c-((Ek (A7 θ p)+Dx (CO θ r):Nat):Int)=c-Ek (A7 θ p)-Dx (CO θ r) by omega];exact h2
  ·simp only [CO,Dx] at h;rw [Ol];by_cases hb:c<(Ek (A7 θ p):Int)
   ·exact .inl (h1.2 hb)
   ·have h2:=(Qx (m:=m) (T:=T) (k:=k) (S:=S) (θ:=θ) r (c-Ek (A7 θ p)) (by omega) (λq hq=>hp q (by simp [hq])) (by omega)).2 (by omega);exact .inr ⟨_,_,h1.1 (by omega),h2⟩
theorem mC (m:Md) (T:List (Int×Ty)) (k:Int) (S:List Ty) {θ:Int->Ty} (hs:Sol (B6 T) θ):∀(s:Nat) (t:Ty),Ek (A7 θ t)<=s->Cl t=true->∀c,0<=c->c<=1000000->vH m T k S θ t c:=by
 intro s
 induction s with
 | zero=>intro t h;have:=Hu (A7 θ t);omega
 | succ s IH =>
 intro t ht hw c h0 hc;have hpos:=Hu (A7 θ t);by_cases hz:c=0
 ·subst hz;exact ⟨λh=>by omega,λ_=>eI m T k S hs t⟩
 obtain ⟨u,hu⟩:=Ja hs t;have he:A7 θ t=A7 θ u:=hu.ap hs.eq;have hwu:=hu.wf hs hw;rw [he] at ht hpos;unfold vH;rw [he];by_cases h9:BA u=9
 ·have eu:=DC hwu h9;have hfree:=hu.end_ h9;have ea:A7 θ u=u:=by rw [Gi h9,hs.free _ hfree];exact eu.symm
  rw [ea];rw [eu] at hu ⊢;refine ⟨λ_=>?_,λh=>?_⟩
  ·have:=SE m T k S hs t 9 (num u) [] hu c ⟨by omega,hc⟩;simpa [As,Ek,Dx] using this
  ·simp [As,Ek,Dx] at h;omega
 ·obtain ⟨f,n,x,ps⟩:=u;simp only [BA] at h9;have hlen:=Gm hwu;have hpw:=DB hwu;simp only [DZ] at hlen hpw;have ea:A7 θ (.mk f n x ps) = .mk f n x (CO θ ps):=by simp only [A7,if_neg h9]
  rw [ea] at ht ⊢;simp only [Ek] at ht ⊢;by_cases hne:ps=[]
  ·subst hne;refine ⟨λ_=>?_,λh=>?_⟩
   ·have:=SE m T k S hs t f n x hu c ⟨by omega,hc⟩;simpa [CO,Dx] using this
   ·simp [CO,Dx] at h;omega
  ·have hF:=Qx (m:=m) (T:=T) (k:=k) (S:=S) (θ:=θ) ps (c-1) (by omega) (λp hp c h0 hc=>IH p (by
    have:=Pj (TO (f:=A7 θ) hp);rw [<- HB] at this;omega) (hpw p hp) c h0 hc) (by omega)
   refine ⟨λh=>?_,λh=>?_⟩
   ·have hk:=hF.1 (by omega);have:=eJ m T k S hs t f n x ps (CO θ ps) hne hlen hu c _ ⟨by omega,hc⟩ (by rw [HB,CW]) hk;rw [show c-((1+Dx (CO θ ps):Nat):Int)=c-1-Dx (CO θ ps) by omega];exact this
   ·exact YL m T k S hs t f n x ps hne hlen hu c ⟨by omega,hc⟩ (hF.2 (by omega))
mutual
def Gn:Ty->List Ty
 | .mk f n x ps=>.mk f n x ps::C5 ps
def C5:List Ty->List Ty
 | []=>[]
 | t::r=>Gn t++C5 r
end
def Dw (l:List Ty):List D:=l.map λu=>.imm (.agg (dTyc u))
theorem Ra (a b:List Ty):Dw (a++b)=Dw a++Dw b:=by simp [Dw]
def Vn (r:St):St:=(1,some (.cells 26 1 [.yld 3]))::(2,some (.cells 26 1 [.fn (.func 140) [] [.ref 1 0,.ref 2 0]]))::r
def tR (t:Ty) (b:Bool) (S S':Bun):Prop:=AK Tryz.prog 140 [.imm (.agg (dTyc t)),.ref 1 0,.ref 2 0]
 (Vn [(3,some .pin),(4,some (.bun 3 S))]) (.ret (.imm (.bool b)) (Vn [(3,some .pin),(5,some (.bun 3 S'))]))
theorem jH (s n:Int) (x:Str) (ps:List Ty) (IH:∀t∈ps,∀{b:Bool} {S S':Bun},Yields Tryz.prog (Dw (Gn t)) S b S'->tR t b S S') {b:Bool} {S S':Bun} (hY:Yields Tryz.prog (Dw (C5 ps)) S b S') :
  DGo Tryz.prog Tryz.f140.ntmps [1,2,3,4] (Kv WS Tryz.f140.results.toList (.ret (.imm (.bool b)) (Vn [(3,some .pin),(5,some (.bun 3 S'))])))
   [.code (FV Tryz.f140 2)] [(3,.ref 8 0),(1,.ref 1 0),(2,.ref 2 0)] ((8,some (.immb 25 4 (dTyc (.mk s n x ps))))::Vn [(3,some .pin),(6,some (.bun 3 S))]) [7,9,10,11,5]:=by
 refine KM rfl <| Fy (t:=12) rfl λhv=>?_;have hlen:ps.length<=9223372036854775807:=by simp [Fh,maxLen] at hv;omega
 refine Ak (λy:Nat×Bun=>[(14,.imm (.int .i64 y.1)),(13,.imm (.int .i64 ps.length)),(12,.imm (.sl (A2 ps))),(1,.ref 1 0),(2,.ref 2 0)])
  (λy=>Vn [(3,some .pin),(6,some (.bun 3 y.2))]) [7,9,10,11,5] (λy=>ps.length-y.1)
  (λy=>y.1<=ps.length/\Yields Tryz.prog (Dw (C5 (ps.drop y.1))) y.2 b S') (0,S) ⟨AL _,hY⟩ ⟨rfl,AA (by simp),AD⟩ BF rfl λy hi ih=>?_
 obtain ⟨i,S0⟩:=y;obtain ⟨hi1,hi2⟩:=hi;simp only at hi1 hi2;refine KM rfl <| Aa rfl (λh=>?_) (λh=>?_)
 ·simp at h;obtain ⟨t,ht⟩:=Ao h;have hd:ps.drop i=t::ps.drop (i+1):=Av ht;rw [hd,C5,Ra] at hi2;obtain ⟨t1,t2,t3,t4⟩:=t;refine KM rfl <| yi rfl (c:=dTyc (.mk t1 t2 t3 t4)) (λ_=>⟨by simp,by simpa using A8 ht,by simp⟩) (by simp) <| BU rfl ?_;rcases Yields.split hi2 with ⟨S1,q1,q2⟩ | ⟨q1,q2⟩
  ·exact Ad (fr:=[9]) [(1,1),(2,2),(3,3),(6,4)] [(5,9)] rfl (by simp) (IH _ (AF ht) q1) Jg rfl rfl rfl rfl <| Ai rfl <| QC rfl λh=>Aq rfl <| AZ 6 9 rfl <| Ae (ih (i+1,S1) (by simp only;omega) ⟨by simp only;omega,q2⟩) ⟨AA (Cb (by simp only;omega) (by simp only;omega)),BF⟩ BF rfl
  ·subst q1;exact Ad (fr:=[9]) [(1,1),(2,2),(3,3),(6,4)] [(5,9)] rfl (by simp) (IH _ (AF ht) q2) Jg rfl rfl rfl rfl <| Ai rfl <| QB rfl λh=>Aq rfl <| Ke (ids':=[]) 9 5 rfl rfl <| Ag ⟨_,rfl,tV rfl,BF⟩
 ·simp at h;have hd:ps.drop i=[]:=Br (by omega);rw [hd] at hi2;obtain ⟨rfl,rfl⟩:=Yields.nilInv hi2;exact Aw rfl <| Aq rfl <| Ke (ids':=[]) 6 5 rfl rfl <| Ag ⟨_,rfl,tV rfl,BF⟩
theorem jI:∀(t:Ty) {b:Bool} {S S':Bun},Yields Tryz.prog (Dw (Gn t)) S b S'->tR t b S S'
 | .mk s n x ps,b,S,S',hY=>by
  have IH:∀t∈ps,∀{b:Bool} {S S':Bun},Yields Tryz.prog (Dw (Gn t)) S b S'->tR t b S S':=λt ht {b S S'} h=>jI t h;refine Ac Ah Tryz.func140 (by decide +kernel) rfl [8,6,7,9,10,11,5] rfl rfl <| BU rfl ?_;have e:Dw (Gn (.mk s n x ps)) = .imm (.agg (dTyc (.mk s n x ps)))::Dw (C5 ps):=rfl;rw [e] at hY;cases hY with
  | cons h h1 =>
   exact aB (j:=4) (j2:=6) rfl (by simp [Am]) (by simp [Am]) h rfl rfl rfl rfl rfl <| Ai rfl <| QC rfl λh=>Mm <| Ae (jH s n x ps IH h1) AD Bx rfl
  | stop h =>
   exact aB (j:=4) (j2:=6) rfl (by simp [Am]) (by simp [Am]) h rfl rfl rfl rfl rfl <| Ai rfl <| QB rfl λh=>Aq rfl <| Ke (ids':=[]) 6 5 rfl rfl <| Ag ⟨_,rfl,tV rfl,BF⟩
termination_by t=>SizeOf.sizeOf t
decreasing_by
 all_goals
  have:=Cn ht;simp_wf;omega
def FB (t:Ty):St:=[(6,some (.immb 25 4 (dTyc t)))]
theorem MM (t:Ty) {b:Bool} {S S':Bun} (hY:Yields Tryz.prog (Dw (Gn t)) S b S') :
  AK Tryz.prog 139 [.yld 3,.ref 6 0] ((3,some .pin)::(4,some (.bun 3 S))::FB t) (.ret (.tup []) ((3,some .pin)::(5,some (.bun 3 S'))::FB t)):=by
 have hC:=jI t hY;obtain ⟨t1,t2,t3,t4⟩:=t;exact Ac Ah Tryz.func139 (by decide +kernel) rfl [1,2,7,5] rfl rfl <| BU rfl <| Ad (fr:=[7]) [(1,1),(2,2),(3,3),(4,4)] [(5,7)] rfl (by simp) hC Jg rfl rfl rfl rfl <| BU rfl <| Ke (ids':=[]) 7 5 rfl rfl <| BE ⟨[],Bx⟩
theorem Su (t:Ty):AK Tryz.prog 77 [.imm (.agg (dTyc t))] [] (.ret (.fn (.func 139) [] [.ref 6 0]) (FB t)):=by
 obtain ⟨t1,t2,t3,t4⟩:=t;exact Ac Ah Tryz.func77 (by decide +kernel) rfl [6] rfl rfl <| BU rfl <| Ag ⟨_,AD⟩
mutual
def Fv:Ty->Ty
 | .mk f n x ps=>.mk (if f=9 then 10 else f) n x (KF ps)
def KF:List Ty->List Ty
 | []=>[]
 | t::r=>Fv t::KF r
end
theorem Qz:∀l:List Ty,KF l=l.map Fv
 | []=>rfl
 | t::r=>by simp [KF,Qz r]
theorem VE:∀t:Ty,Cl t=true->Al Tryz.prog 76 [.agg (dTyc t)] (.agg (dTyc (Fv t)))
 | .mk f n x ps,hw=>by
  have hl:=Gm hw;simp only [DZ] at hl;have IH:∀t∈ps,Al Tryz.prog 76 [.agg (dTyc t)] (.agg (dTyc (Fv t))):=λt ht=>VE t (DB hw t (by simpa [DZ] using ht));clear hw;have node:∀g:Int,(if f=9 then 10 else f)=g ->
   DGo Tryz.prog Tryz.f76.ntmps (DJ []) (Kv WS Tryz.f76.results.toList (.ret (.imm (.agg (dTyc (Fv (.mk f n x ps))))) []))
    [.code (FV Tryz.f76 2)] [(1,.ref 1 0),(2,.ref 2 0)] [(1,some (.immb 25 4 (dTyc (.mk g n x ps)))),(2,some (.cells 25 4 [.imm (.int .i64 0),.imm (.int .i64 0),.imm (.str []),.nils]))] [7,8,9,10]:=λg hg=>by
   rw [Fv,hg,Qz];clear hg;refine Aq rfl ?_;cases ps with
   | nil =>
    refine Af rfl Qh <| Ai rfl <| Ak (λ_:Unit=>[(15,.imm (.int .i64 0)),(14,.imm (.int .i64 0)),(3,.imm (.sl [])),(1,.ref 1 0),(2,.ref 2 0)]) (λ_=>[(1,some (.immb 25 4 (dTyc (.mk g n x [])))),(2,some (.cells 25 4 [.imm (.int .i64 0),.imm (.int .i64 0),.imm (.str []),.nils]))]) [7,8,9,10] (λ_=>0) (λ_=>True) ()
     trivial Bx AM rfl λ_ _ ih=>?_
    refine Aq rfl <| Aa rfl (λh'=>by exfalso;simp at h') (λh'=>?_);exact Aw rfl <| Aq rfl <| Ab rfl rfl rfl
   | cons p0 r0 =>
    generalize hps:p0::r0=ps at *;have hne:ps≠[]:=by rw [<- hps];simp
    clear hps;have hpe:A2 ps≠[]:=λe=>hne (by have:=congrArg List.length e;simpa using this);have h4:∀c∈A2 ps,c.length=4:=λc hc=>by rw [Ck] at hc;obtain ⟨x,_,rfl⟩:=Cc.1 hc;simp
    have hK:=J0 (A2 ps) hpe h4 (by simp;omega);refine Ad (fr:=[7]) [] [(1,7)] rfl (by simp) hK trivial rfl rfl rfl rfl <| Ai rfl <| Ak (λz:Nat=>[(15,.imm (.int .i64 z)),(14,.imm (.int .i64 ps.length)),(13,.own 7 (A2 ps).length),(3,.own 7 (A2 ps).length),(1,.ref 1 0),(2,.ref 2 0)])
     (λz=>[(1,some (.immb 25 4 (dTyc (.mk g n x ps)))),(2,some (.cells 25 4 [.imm (.int .i64 0),.imm (.int .i64 0),.imm (.str []),.nils])),(7,some (.row 25 4 (A2 ((ps.map Fv).take z++ps.drop z))))]) [8,9,10] (λz=>ps.length-z)
     (λz=>z<=ps.length) 0
     (AL _) ⟨rfl,AA (by simp),BF⟩ AD rfl λj hj1 ih=>?_
    refine Aq rfl <| Aa rfl (λh'=>?_) (λh'=>?_)
    ·have hlt:j<ps.length:=by simp at h';omega
     obtain ⟨p,hp⟩:=Ao hlt;have hv:(ps.map Fv)[j]?=some (Fv p):=by simp [hp]
     have hlen:((ps.map Fv).take j).length=j:=by rw [Gx,CW];omega
     have hg:(A2 ((ps.map Fv).take j++ps.drop j))[j]?=some (dTyc p):=A8 (by rw [NL (by omega),hlen,Lb,EB];simpa using hp);have hset:(A2 ((ps.map Fv).take j++ps.drop j)).set j (dTyc (Fv p))=A2 ((ps.map Fv).take (j+1)++ps.drop (j+1)):=by
      rw [<- QD,XO _ _ (by omega),hlen,Lb,Av hp,Be hv];simp
     have hrl:(A2 ((ps.map Fv).take j++ps.drop j)).length=(A2 ps).length:=by simp;omega
     have hpl:(A2 ps).length=ps.length:=dTys_length ps;have hih:=ih (j+1) (by omega) (by omega);have hF:=IH p (AF hp);simp only [<- hset] at hih;generalize A2 ((ps.map Fv).take j++ps.drop j)=R at *;generalize Fv p=v at *;obtain ⟨p1,p2,p3,p4⟩:=p;obtain ⟨v1,v2,v3,v4⟩:=v
     exact Aq rfl <| EN Ah rfl (λ_=>⟨by simp,by simp;omega⟩) (by simp [Am]) <| BU rfl <| OL Ah (e:=dTyc (.mk p1 p2 p3 p4)) rfl (λ_=>by simpa using hg) rfl (by simp [Am]) <| Ai rfl <| Af rfl hF <| Ai rfl <| EN Ah rfl (λ_=>⟨by simp,by simp;omega⟩) (by simp [Am]) <| BU rfl <| Ii Ah (e:=dTyc (.mk p1 p2 p3 p4)) (e':=dTyc (.mk v1 v2 v3 v4)) rfl (by simpa using hg) (by show 0+4<=4;decide) (by simp) (by simp) <| Ai rfl <| Ae hih ⟨AA (Cb (by omega) (by omega)),Bx⟩ AD rfl
    ·have hlt:j=ps.length:=by simp at h';omega
     subst hlt;have hrow:(ps.map Fv).take ps.length++ps.drop ps.length=ps.map Fv:=by rw [Br (B8 _),IM,CD (by simp)]
     simp only [hrow];clear ih hrow;exact Aw rfl <| By 7 rfl <| Aq rfl <| Ab rfl rfl rfl
  refine Ac Ah Tryz.func76 (by decide +kernel) rfl [1,2,7,8,9,10] rfl rfl <| Ai rfl ?_;by_cases h9:f=9
  ·subst h9;refine Aa rfl (λh=>?_) (λh=>by exfalso;simp at h);exact vM 4 rfl (by simp) <| Ae (node 10 rfl) AM AM rfl
  ·refine Aa rfl (λh=>by exfalso;simp at h;exact h9 h) (λh=>?_);exact Mm <| Ae (node f (if_neg h9)) AM AM rfl
termination_by t=>SizeOf.sizeOf t
decreasing_by
 have:=Cn ht;simp_wf;omega
inductive Tr where
 | nd (f n:Int) (x:Str) (v:Value) (ks:List Tr)
 | im (cs:List Value) (c:List V)
 | gp (f n:Int) (x:Str) (v:Value)
def cT:Tr->List Value
 | .nd f n x v _=>[.int .i64 f,.int .i64 n,oU x,v]
 | .im cs _=>cs
 | .gp f n x v=>[.int .i64 f,.int .i64 n,oU x,v]
mutual
def U3 (I:Imm) (w:World):Tr->Prop
 | .nd _ _ _ v ks=>UX w 25 4 v ks.length/\Iv I w (Ff v) 0 ks
 | .im cs c=>RepVL I cs c/\(∀y∈cs,y.oneCell'=true)/\c.length=4
 | .gp _ _ _ v=>v.oneCell'=true
def Iv (I:Imm) (w:World) (b:Nat):Nat->List Tr->Prop
 | _,[]=>True
 | i,a::r=>(rE w b (i*4) (cT a)/\U3 I w a)/\Iv I w b (i+1) r
end
mutual
def WT:Tr->List Nat
 | .nd _ _ _ v ks=>GX v ks.length++G0 ks
 | .im _ _=>[]
 | .gp _ _ _ _=>[]
def G0:List Tr->List Nat
 | []=>[]
 | a::r=>WT a++G0 r
end
mutual
def VL:Tr->Ty->Prop
 | .nd f n x _ ks,.mk f' n' x' ps=>f=f'/\n=n'/\x=x'/\Ie ks ps
 | _,_=>False
def Ie:List Tr->List Ty->Prop
 | [],[]=>True
 | a::r,t::q=>VL a t/\Ie r q
 | _,_=>False
end
theorem LW:∀{l:List Tr} {q:List Ty},Ie l q->l.length=q.length
 | [],[],_=>rfl
 | _::_,_::_,h=>by simp only [Ie] at h;simp [LW h.2]
 | [],_::_,h=>by simp [Ie] at h
 | _::_,[],h=>by simp [Ie] at h
theorem Id:∀{l:List Tr} {q:List Ty},Ie l q↔l.length=q.length/\∀(i:Nat) a t,l[i]?=some a->q[i]?=some t->VL a t
 | [],[]=>by simp [Ie]
 | a::r,t::q=>by
  simp only [Ie,Id (l:=r) (q:=q),Dh,Nat.add_right_cancel_iff];constructor
  ·rintro ⟨h1,h2,h3⟩;refine ⟨h2,λi a' t' ha ht=>?_⟩
   match i,ha,ht with
   | 0,ha,ht=>simp at ha ht;rw [<- ha,<- ht];exact h1
   | i+1,ha,ht=>exact h3 i a' t' (by simpa using ha) (by simpa using ht)
  ·rintro ⟨h2,h3⟩;exact ⟨h3 0 a t rfl rfl,h2,λi a' t' ha ht=>h3 (i+1) a' t' (by simpa using ha) (by simpa using ht)⟩
 | [],_::_=>by simp [Ie]
 | _::_,[]=>by simp [Ie]
theorem EK {I:Imm} {w:World} {b:Nat}:∀{gs:List Tr} {i:Nat},Iv I w b i gs↔∀(j:Nat) a,gs[j]?=some a->rE w b ((i+j)*4) (cT a)/\U3 I w a
 | [],i=>by simp [Iv]
 | x::r,i=>by
  simp only [Iv,EK (gs:=r) (i:=i+1)];constructor
  ·rintro ⟨h1,h2⟩ j a ha
   match j,ha with
   | 0,ha=>simp at ha;rw [<- ha];exact h1
   | j+1,ha=>rw [show i+(j+1)=i+1+j by omega];exact h2 j a (by simpa using ha)
  ·intro h;exact ⟨h 0 x rfl,λj a ha=>by rw [show i+1+j=i+(j+1) by omega];exact h (j+1) a (by simpa using ha)⟩
theorem LH {k:Nat}:∀{gs:List Tr},k∈G0 gs↔∃a∈gs,k∈WT a
 | []=>by simp [G0]
 | x::r=>by simp [G0,LH (gs:=r)]
mutual
theorem Tf {I:Imm} {w w':World}:∀{a:Tr},(∀k∈WT a,w'.heap[k]?=w.heap[k]?)->U3 I w a->U3 I w' a
 | .im _ _,_,h=>h
 | .gp _ _ _ _,_,h=>h
 | .nd f n x v ks,h,ha=>by
  simp only [U3] at ha ⊢;simp only [WT,BH] at h;exact ⟨UW (λk hk=>h k (.inl hk)) ha.1,Pd (λhne=>h (Ff v) (.inl (by cases ks with | nil=>exact absurd rfl hne | cons=>simp [GX]))) (λk hk=>h k (.inr hk)) ha.2⟩
theorem Pd {I:Imm} {w w':World} {b:Nat}:∀{gs:List Tr} {i:Nat},(gs≠[]->w'.heap[b]?=w.heap[b]?)->(∀k∈G0 gs,w'.heap[k]?=w.heap[k]?)->Iv I w b i gs->Iv I w' b i gs
 | [],_,_,_,_=>by simp [Iv]
 | a::r,i,hb,h,ha=>by
  simp only [Iv] at ha ⊢;simp only [G0,BH] at h;exact ⟨⟨rC (hb (by simp)) ha.1.1,Tf (λk hk=>h k (.inl hk)) ha.1.2⟩,Pd (λ_=>hb (by simp)) (λk hk=>h k (.inr hk)) ha.2⟩
end
mutual
theorem gJ {I J:Imm} {w:World} (h:I.le J):∀{a:Tr},U3 I w a->U3 J w a
 | .nd f n x v ks,ha=>by
  simp only [U3] at ha ⊢;exact ⟨ha.1,M8 h ha.2⟩
 | .im cs c,ha=>⟨ha.1.mono h,ha.2⟩
 | .gp _ _ _ _,ha=>ha
theorem M8 {I J:Imm} {w:World} (h:I.le J) {b:Nat}:∀{gs:List Tr} {i:Nat},Iv I w b i gs->Iv J w b i gs
 | [],_,_=>by simp [Iv]
 | a::r,i,ha=>by
  simp only [Iv] at ha ⊢;exact ⟨⟨ha.1.1,gJ h ha.1.2⟩,M8 h ha.2⟩
end
theorem nA {I:Imm} {w:World} {a:Tr} (h:U3 I w a):(cT a).length=4:=by
 cases a with
 | nd f n x v ks=>rfl
 | im cs c=>simp only [U3] at h;exact h.1.1.trans h.2.2
 | gp f n x v=>rfl
theorem uT {I:Imm} {w:World} {a:Tr} (h:U3 I w a):∀c∈cT a,c.oneCell'=true:=by
 cases a with
 | im cs c=>simp only [U3] at h;exact h.2.1
 | nd f n x v ks =>
  simp only [U3] at h;have h1:=UV h.1;intro c hc;simp only [cT,CC,KY,or_false] at hc;rcases hc with rfl | rfl | rfl | rfl <;> first | rfl | exact h1
 | gp f n x v =>
  intro c hc;simp only [cT,CC,KY,or_false] at hc;rcases hc with rfl | rfl | rfl | rfl <;> first | rfl | exact h
def Fa (v:Value) (gs:List Tr):Asn where
 P:=λ_ I w bs=>UX w 25 4 v gs.length/\Iv I w (Ff v) 0 gs/\bs=GX v gs.length++G0 gs/\bs.Nodup
 mono:=λh ⟨h1,h2,h3⟩=>⟨h1,M8 h h2,h3⟩
 loc:=λ{vs I w w' bs} h ⟨h1,h2,h3,h4⟩=>⟨UW (λk hk=>h k (by rw [h3];simp [hk])) h1,Pd (λhne=>h _ (by rw [h3];cases gs with | nil=>exact absurd rfl hne | cons=>simp [GX])) (λk hk=>h k (by rw [h3];simp [hk])) h2,h3,h4⟩
def IR (ps:List Ty):Asn where
 P:=λvs I w bs=>∃v ks,Ie ks ps/\vs=[v]/\(Fa v ks).P [] I w bs
 mono:=λh ⟨v,ks,h1,h2,h3⟩=>⟨v,ks,h1,h2,(Fa v ks).mono h h3⟩
 loc:=λh ⟨v,ks,h1,h2,h3⟩=>⟨v,ks,h1,h2,(Fa v ks).loc h h3⟩
def Qo:List (List Value)->List (List V)->List Tr
 | cs::r,c::q=>.im cs c::Qo r q
 | _,_=>[]
def Ln (es:List (List V)):Asn where
 P:=λvs I w bs=>∃v css,css.length=es.length/\vs=[v]/\(Fa v (Qo css es)).P [] I w bs
 mono:=λh hx=>by
  obtain ⟨v,css,h1,h2,h3⟩:=hx;exact ⟨v,css,h1,h2,(Fa v (Qo css es)).mono h h3⟩
 loc:=λh hx=>by
  obtain ⟨v,css,h1,h2,h3⟩:=hx;exact ⟨v,css,h1,h2,(Fa v (Qo css es)).loc h h3⟩
theorem ZW:∀{css:List (List Value)} {es:List (List V)} {i:Nat},css.length=es.length->(Qo css es)[i]?=match css[i]?,es[i]? with | some cs,some c=>some (.im cs c) | _,_=>none
 | [],[],i,_=>by simp [Qo]
 | cs::r,c::q,0,_=>rfl
 | cs::r,c::q,i+1,h=>by simpa [Qo] using ZW (css:=r) (es:=q) (i:=i) (by simpa using h)
 | [],_::_,_,h=>by cases h
 | _::_,[],_,h=>by cases h
theorem I8:∀{css:List (List Value)} {es:List (List V)},css.length=es.length->(Qo css es).length=es.length
 | [],[],_=>rfl
 | cs::r,c::q,h=>by simp [Qo,I8 (css:=r) (es:=q) (by simpa using h)]
 | [],_::_,h=>by cases h
 | _::_,[],h=>by cases h
theorem sO:∀{css:List (List Value)} {es:List (List V)},G0 (Qo css es)=[]
 | [],_=>by simp [Qo,G0]
 | _::_,[]=>by simp [Qo,G0]
 | cs::r,c::q=>by simp [Qo,G0,WT,sO (css:=r) (es:=q)]
theorem ST {I:Imm} {w:World} {vs:List Value} {bs:List Nat} {es:List (List V)} (h0:es=[]->∃v,vs=[v]/\bs=[]/\(∃a c,v = .slice a 0 c)/\∀I,RepV I v (.sl []))
  (h:es≠[]->∃b cap cur,vs=[.slice (some ⟨b,0,none⟩) es.length cap]/\bs=[b]/\w.heap[b]?=some (.cells cur 25 (0,0))/\es.length<=cap/\cap<=maxLen/\cur.size=cap*4 /\
   ∀(j:Nat) (e:List V),es[j]?=some e->∃cs:List Value,(∀(i:Nat) (c:Value),cs[i]?=some c->cur[j*4+i]?=some c)/\RepVL I cs e/\(∀c∈cs,c.oneCell'=true)/\e.length=4):(Ln es).P vs I w bs:=by
 by_cases hne:es=[]
 ·obtain ⟨v,rfl,rfl,h1,h2⟩:=h0 hne;subst hne;exact ⟨v,[],rfl,rfl,.inl ⟨rfl,h1,h2⟩,by simp [Qo,Iv],by simp [Qo,GX,G0],.nil⟩
 ·obtain ⟨b,cap,cur,rfl,rfl,h1,h2,h3,h4,h5⟩:=h hne;have key:∀(l:List (List V)) (o:Nat),(∀(j:Nat) (e:List V),l[j]?=some e->∃cs:List Value,(∀(i:Nat) (c:Value),cs[i]?=some c->cur[(o+j)*4+i]?=some c)/\RepVL I cs e/\(∀c∈cs,c.oneCell'=true)/\e.length=4) ->
    ∃css:List (List Value),css.length=l.length/\Iv I w b o (Qo css l):=by
   intro l
   induction l with
   | nil=>exact λo _=>⟨[],rfl,by simp [Qo,Iv]⟩
   | cons e r ih =>
    intro o hl;obtain ⟨cs,q1,q2,q3,q4⟩:=hl 0 e rfl;obtain ⟨css,e1,e2⟩:=ih (o+1) λj e' he'=>by
     have:=hl (j+1) e' (by simpa using he')
     rwa [show o+(j+1)=o+1+j by omega] at this
    refine ⟨cs::css,by simp [e1],?_⟩;simp only [Qo,Iv];exact ⟨⟨⟨cur,_,_,h1,λi c hc=>by simpa using q1 i c hc⟩,q2,q3,q4⟩,e2⟩
  obtain ⟨css,e1,e2⟩:=key es 0 λj e he=>by rw [Di];exact h5 j e he
  have hpos:0<es.length:=by cases es with | nil=>exact absurd rfl hne | cons=>simp
  refine ⟨_,css,e1,rfl,.inr ⟨by rw [I8 e1];exact hpos,b,cap,cur,by rw [I8 e1],h1,by rw [I8 e1];exact h2,h3,h4⟩,e2,?_,by simp⟩;rw [I8 e1,sO];cases hl:es.length with
  | zero=>omega
  | succ n=>simp [GX,Ff]
theorem Z0 {I:Imm} {w:World} {vs:List Value} {bs:List Nat} {v:Value} {gs:List Tr} (h:(Fa v gs).P vs I w bs) {i:Nat} {a:Tr} (ha:gs[i]?=some a):∃cur ty k,w.heap[Ff v]?=some (.cells cur ty k)/\(∀(j:Nat) (c:Value),(cT a)[j]?=some c->cur[i*4+j]?=some c)/\U3 I w a:=by
 obtain ⟨h1,h2⟩:=EK.1 h.2.1 i a ha;obtain ⟨cur,ty,k,q1,q2⟩:=h1;rw [Di] at q2;exact ⟨cur,ty,k,q1,q2,h2⟩
theorem Xn {I:Imm} {w:World} {vs:List Value} {bs:List Nat} {v:Value} {gs:List Tr} (h:(Fa v gs).P vs I w bs) {i:Nat} {cs:List Value} {c:List V} (ha:gs[i]?=some (.im cs c)):OT I w (Ff v) (i*4) (c.map .imm):=by
 obtain ⟨cur,ty,k,q1,q2,h3,h4,h5⟩:=Z0 h ha;refine ⟨cur,ty,k,q1,λj d hd=>?_⟩;rw [Eg] at hd;cases hx:c[j]? with
 | none=>rw [hx] at hd;cases hd
 | some x =>
  rw [hx] at hd;cases hd;have hlt:j<cs.length:=by rw [h3.1];exact (AJ.1 hx).1
  have hc:=Bi hlt;exact ⟨_,q2 j _ hc,h4 _ (AF hc),.imm _ _ (h3.2 j _ x hc hx)⟩
theorem Xo {I:Imm} {w:World} {vs:List Value} {bs:List Nat} {v:Value} {gs:List Tr} (h:(Fa v gs).P vs I w bs) {i:Nat} {f n:Int} {x:Str} {u:Value} (ha:gs[i]?=some (.gp f n x u)):OT I w (Ff v) (i*4) [.imm (.int .i64 f),.imm (.int .i64 n),.imm (.str x),.raw u]:=by
 obtain ⟨cur,ty,k,q1,q2,h3⟩:=Z0 h ha;refine ⟨cur,ty,k,q1,λj d hd=>?_⟩
 match j,hd with
 | 0,hd=>cases hd;exact ⟨_,q2 0 _ rfl,rfl,.imm _ _ (.int _ _)⟩
 | 1,hd=>cases hd;exact ⟨_,q2 1 _ rfl,rfl,.imm _ _ (.int _ _)⟩
 | 2,hd=>cases hd;exact ⟨_,q2 2 _ rfl,rfl,.imm _ _ (.encStr _ _)⟩
 | 3,hd=>cases hd;exact ⟨_,q2 3 _ rfl,h3,.raw _ h3⟩
 | j+4,hd=>simp at hd
theorem L3 {I:Imm} {w:World} {vs:List Value} {bs:List Nat} {v:Value} {gs:List Tr} (h:(Fa v gs).P vs I w bs):∃a cap,v = .slice a gs.length cap/\(0<gs.length->∃b,a=some ⟨b,0,none⟩):=by
 rcases h.1 with ⟨h0,⟨a,c,rfl⟩,_⟩ | ⟨h0,b,cap,cur,rfl,_⟩
 ·exact ⟨a,c,by rw [h0],λh=>by omega⟩
 ·exact ⟨_,cap,rfl,λ_=>⟨b,rfl⟩⟩
theorem Pe {a:Tr}:∀{gs:List Tr} {i:Nat} {g:Tr},gs[i]?=some g->WT g=[]->∃l r,G0 gs=l++r/\G0 (gs.set i a)=l++(WT a++r)
 | x::q,0,g,h,h0=>by
  simp at h;subst h;exact ⟨[],G0 q,by simp [G0,h0],by simp [G0]⟩
 | x::q,i+1,g,h,h0=>by
  obtain ⟨l,r,e1,e2⟩:=Pe (a:=a) (gs:=q) (i:=i) (by simpa using h) h0;exact ⟨WT x++l,r,by simp [G0,e1],by simp [G0,e2]⟩
theorem Xl {I:Imm} {w:World} {vs:List Value} {b1 b2:List Nat} {v:Value} {gs:List Tr} (h:(Fa v gs).P vs I w b1) {i:Nat} {g a:Tr} (hg:gs[i]?=some g) (h0:WT g=[]) (ha:U3 I w a) (hb:b2=WT a) (hd2:b2.Nodup) (hdis:∀b∈b1,b∉b2) :
  Ff v∈b1/\∃cur,w.heap[Ff v]?=some (.cells cur 25 (0,0))/\i*4+4<=cur.size /\
   ∃bs,(∀b∈bs,b∈b1\/b∈b2)/\(Fa v (gs.set i a)).P [] I (w.setRow (Ff v) (cur.toList.take (i*4)++cT a++cur.toList.drop (i*4+4)).toArray) bs:=by
 obtain ⟨h1,h2,h3,h4⟩:=h;have hlt:i<gs.length:=(AJ.1 hg).1;rcases h1 with ⟨q0,_⟩ | ⟨q0,b,cap,cur,rfl,hheap,hcap,hcm,hcs⟩
 ·omega
 have hbl:Ff (.slice (some ⟨b,0,none⟩) gs.length cap)=b:=rfl;rw [hbl] at h2 ⊢;have hrb:GX (.slice (some ⟨b,0,none⟩) gs.length cap) gs.length=[b]:=by
  cases hl:gs.length with
  | zero=>omega
  | succ n=>simp [GX,Ff]
 rw [hrb] at h3;have hbs:b∈b1:=by rw [h3];simp
 have hfit:i*4+4<=cur.size:=by rw [hcs];omega
 refine ⟨hbs,cur,hheap,hfit,?_⟩;have hcl:=nA ha;have hf:i*4+(cT a).length<=cur.size:=by rw [hcl];exact hfit
 have hnb:b∉G0 gs:=by
  rw [h3] at h4;intro hk;exact (Hc.1 h4).2.2 b (by simp) b hk rfl
 have hnb2:b∉WT a:=λhk=>hdis b hbs (by rw [hb];exact hk);obtain ⟨l,r,e1,e2⟩:=Pe (a:=a) hg h0;refine ⟨[b]++G0 (gs.set i a),λk hk=>?_,?_,?_,?_,?_⟩
 ·rw [e2] at hk;rw [h3,e1,hb];simp only [BH] at hk ⊢;grind
 ·rw [TE];refine .inr ⟨q0,b,cap,(cur.toList.take (i*4)++cT a++cur.toList.drop (i*4+4)).toArray,rfl,?_,hcap,hcm,?_⟩
  ·have:=MD (off:=i*4) (cs:=cT a) hheap
   rwa [hcl] at this
  ·rw [<- hcs];have hl2:cur.toList.length=cur.size:=Sp;show (cur.toList.take (i*4)++cT a++cur.toList.drop (i*4+4)).length=cur.size;rw [Bw,Bw,Gx,IN];omega
 ·have e4:i*4+4=i*4+(cT a).length:=by rw [hcl]
  rw [e4,hbl,EK];intro j y hy;rw [Di];by_cases e:i=j
  ·subst e;rw [K7 (by omega)] at hy;cases hy;exact ⟨rD hheap hf,Tf (λk hk=>setRow_other w b k _ (λe=>hnb2 (e ▸ hk))) ha⟩
  ·rw [K6 e] at hy;obtain ⟨p1,p2⟩:=EK.1 h2 j y hy;rw [Di] at p1;refine ⟨nH hheap hf p1 ?_,Tf (λk hk=>setRow_other w b k _ (λe=>hnb (e ▸ LH.2 ⟨y,AF hy,hk⟩))) p2⟩;have:=nA p2;rcases Nat.lt_or_gt_of_ne e with hc | hc
   ·right;omega
   ·left;omega
 ·rw [TE,hrb]
 ·rw [e2];rw [h3,e1] at h4;have hd:∀k∈[b]++(l++r),k∉WT a:=λk hk=>by rw [<- hb];exact hdis k (by rw [h3,e1];exact hk)
  rw [hb] at hd2;simp only [Db,Jp,K4,BH,Hc,not_or] at h4 hd ⊢;grind
theorem Xm {I:Imm} {w:World} {vs:List Value} {bs:List Nat} {v:Value} {gs:List Tr} (h:(Fa v gs).P vs I w bs) {i:Nat} {f n:Int} {x:Str} {u:Value} {ks:List Tr} (hg:gs[i]?=some (.nd f n x u ks)) :
  ∃b1 b2,(∀b∈b1,b∈bs)/\(∀b∈b2,b∈bs)/\(∀b∈b1,b∉b2)/\(Fa v (gs.set i (.gp f n x u))).P [] I w b1/\(Fa u ks).P [] I w b2:=by
 obtain ⟨h1,h2,h3,h4⟩:=h;have hlt:i<gs.length:=(AJ.1 hg).1;have hset:(gs.set i (.gp f n x u)).set i (.nd f n x u ks)=gs:=by
  rw [List.set_set];apply kB;intro j;by_cases e:i=j
  ·subst e;rw [K7 hlt,hg]
  ·rw [K6 e]
 obtain ⟨l,r,e1,e2⟩:=Pe (a:=.nd f n x u ks) (gs:=gs.set i (.gp f n x u)) (i:=i) (K7 hlt) rfl;rw [hset] at e2;obtain ⟨p1,p2⟩:=EK.1 h2 i _ hg;simp only [U3] at p2;have hB:WT (.nd f n x u ks)=GX u ks.length++G0 ks:=rfl;rw [h3,e2,hB] at h4;refine ⟨GX v gs.length++(l++r),GX u ks.length++G0 ks,λb hb=>?_,λb hb=>?_,λb hb hb2=>?_,⟨by rw [TE];exact h1,?_,by rw [TE,e1],?_⟩,p2.1,p2.2,rfl,?_⟩
 ·rw [h3,e2,hB];simp only [BH] at hb ⊢;grind
 ·rw [h3,e2,hB];simp only [BH] at hb ⊢;grind
 ·simp only [Hc,BH] at h4 hb hb2;grind
 ·rw [EK];intro j y hy;by_cases e:i=j
  ·subst e;rw [K7 hlt] at hy;cases hy;exact ⟨p1,UV p2.1⟩
  ·rw [K6 e] at hy;exact EK.1 h2 j y hy
 ·simp only [Hc,BH] at h4 ⊢;grind
 ·simp only [Hc,BH] at h4 ⊢;grind
theorem UY {w:World} {I J:Imm} {v:Value} {gs:List Tr} {ps:List Ty} (hr:UX w 25 4 v gs.length) (hw:Iv I w (Ff v) 0 gs) (hJ:∀k∈GX v gs.length,J k=w.heap[k]?) (hp:Ie gs ps)
  (ih:∀(i:Nat) a t,gs[i]?=some a->ps[i]?=some t->RepVL J (cT a) (dTyc t)):RepV J v (.sl (A2 ps)):=by
 have hlen:=LW hp;rcases hr with ⟨h0,_,h1⟩ | ⟨h0,b,cap,cur,rfl,h1,h2,h3,h4⟩
 ·have:ps=[]:=K5 (by omega);subst this;exact h1 J
 ·have hJb:J b=some (.cells cur 25 (0,0)):=by
   rw [hJ b (by cases gs with | nil=>simp at h0 | cons=>simp [GX,Ff]),h1]
  have hb:Ff (.slice (some ⟨b,0,none⟩) gs.length cap)=b:=rfl;rw [hb] at hw;have hget:∀(i:Nat) (e:List V) (j:Nat) (x:V),(A2 ps)[i]?=some e->e[j]?=some x->∃c,cur[i*4+j]?=some c/\c.oneCell'=true/\RepV J c x:=by
   intro i e j x hi hj;rw [Ck,Eg] at hi;cases ht:ps[i]? with
   | none=>rw [ht] at hi;cases hi
   | some t =>
    rw [ht] at hi;cases hi;obtain ⟨a,ha⟩:=Ao (l:=gs) (i:=i) (by rw [hlen];exact (AJ.1 ht).1);obtain ⟨g2,g3⟩:=EK.1 hw i a ha;have hrep:=ih i a t ha ht;have hlt:j<(cT a).length:=by rw [hrep.1];exact (AJ.1 hj).1
    have hc:=Bi hlt;obtain ⟨cur',ty,k,q1,q2⟩:=g2;rw [h1] at q1;cases q1;refine ⟨_,?_,uT g3 _ (AF hc),hrep.2 j _ x hc hj⟩;have:=q2 j _ hc
    rwa [Di] at this
  refine .sl b 0 gs.length cap 4 (A2 ps) (λi j=>(cur[i*4+j]?).getD undef) (by simpa using hlen) h2 h3 (λe he=>?_) (λi e j x hi hj=>?_) (λi e j x hi hj=>?_)
  ·rw [Ck] at he;obtain ⟨t,_,rfl⟩:=Cc.1 he;simp
  ·obtain ⟨c,k3,k4,k5⟩:=hget i e j x hi hj;simp [Imm.cell,hJb,k3,k4]
  ·obtain ⟨c,k3,k4,k5⟩:=hget i e j x hi hj;simpa [k3] using k5
theorem ZP {w:World} {I J:Imm}:∀{t:Ty} {a:Tr},VL a t->U3 I w a->(∀k∈WT a,J k=w.heap[k]?)->RepVL J (cT a) (dTyc t)
 | .mk f n x ps,.nd f' n' x' v ks,h,hw,hJ=>by
  simp only [VL] at h;obtain ⟨rfl,rfl,rfl,h⟩:=h;simp only [U3] at hw;simp only [WT,BH] at hJ;have hv:RepV J v (.sl (A2 ps)):=UY hw.1 hw.2 (λk hk=>hJ k (.inl hk)) h λi a t ha ht =>
   ZP ((Id.1 h).2 i a t ha ht) (EK.1 hw.2 i a ha).2 λk hk=>hJ k (.inr (LH.2 ⟨a,AF ha,hk⟩))
  refine ⟨rfl,λi c y h1 h2=>?_⟩;simp only [cT] at h1
  match i with
  | 0=>cases h1;cases h2;exact .int _ _
  | 1=>cases h1;cases h2;exact .int _ _
  | 2=>cases h1;cases h2;exact .encStr _ _
  | 3=>cases h1;cases h2;exact hv
  | i+4=>simp at h1
 | .mk _ _ _ _,.im _ _,h,_,_=>by simp [VL] at h
 | .mk _ _ _ _,.gp _ _ _ _,h,_,_=>by simp [VL] at h
termination_by t=>SizeOf.sizeOf t
decreasing_by
 have:=Cn (AF ht);simp_wf;omega
end Go.Hk
