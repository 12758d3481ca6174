/- Contracts of hearthref03: plain, rigid, loose, given, at. -/
import Derived.Test.YtcdpbkolkeeopaaGreatTc
import Derived.Test.YtcdpbkolkeeopaaGreatTd
import Derived.Test.YtcdpbkolkeeopaaGreatTb
set_option linter.all false
set_option maxRecDepth 100000
set_option maxHeartbeats 4000000
namespace Go.Hk
open Go.Proofs.Tryz
open Go.Proofs
variable {m:Md} {θ:Int->Ty} {k n k':Int} {S L ps L1 L' L2 S1 S' S2:List Ty} {Γ Γ1:Au} {t a p τ:Ty} {T:List (Int×Ty)} {F ids ids':List Nat} {Q:DQ} {env env':Env} {st st' st0:St} {todo todo':List DI} {σ:Sb} {x:Str} {P:Program} {ob:List Prop} {ts ks:List Tm} {tt:TT} {I J:Imm} {μ:Mu} {w w':World} {d:D} {es:List (List V)} {sz j H:Nat} {e:TypeId} {g:Option (Bool×Bool)} {c:List V} {l:List Dt} {α:Type} {Pn:V->Prop} {cx:Prop} {das:List D} {t0 t1:Tm}
def lexT (θ:Int->Ty) (x h:Int):Prop:=DH (θ x)<DH (θ h)\/(DH (θ x)=DH (θ h)/\x<h)
theorem lexT.trans {x y z:Int} (h:lexT θ x y) (h':lexT θ y z):lexT θ x z:=by
 unfold lexT at *;omega
theorem lexT.irrefl {x:Int}:¬lexT θ x x:=by unfold lexT;omega
theorem Sol.below (hs:Sol σ θ) {h x:Int} (ht:σ h=some t) (hx:x∈CO t):lexT θ x h:=by
 have hθ:θ h=A9 θ t:=hs.eq h t ht;by_cases h9:BQ t=9
 ·have e:=E7 (hs.wf h t ht) h9;have hd:=hs.down h t ht h9;rw [e] at hx;simp [Ao,CO] at hx;refine .inr ⟨?_,by omega⟩;rw [hθ,GK h9,hx]
 ·exact .inl (by rw [hθ];exact bO h9 hx)
def MetOk (θ:Int->Ty) (n:Int) (t:Ty) (met:List Int):Prop:=∀h∈met,n∉CO (θ h)\/∀x∈CO t,lexT θ x h
def MetNew (θ:Int->Ty) (n:Int) (met met':List Int):Prop:=∀h∈met',h∈met\/n∉CO (θ h)
theorem MetNew.refl (met:List Int):MetNew θ n met met:=λ_ h=>.inl h
theorem MetNew.trans {a b c:List Int} (h:MetNew θ n a b) (h':MetNew θ n b c):MetNew θ n a c:=λx hx=>by
 rcases h' x hx with hx | hx
 ·exact h x hx
 ·exact .inr hx
theorem MetOk.part {met:List Int} (h:MetOk θ n t met) (h9:BQ t≠9) (hp:p∈Ff t):MetOk θ n p met:=λx hx=>(h x hx).imp id λhb y hy=>hb y (by
 obtain ⟨f,m,z,ps⟩:=t;simp only [BQ] at h9;simp only [CO,if_neg h9];exact JS.2 ⟨p,hp,hy⟩)
theorem MetOk.new {met met':List Int} (h:MetOk θ n t met) (h':MetNew θ n met met'):MetOk θ n t met':=λx hx=>by
 rcases h' x hx with hx | hx
 ·exact h x hx
 ·exact .inl hx
theorem MetOk.met {h:Int} {met:List Int} (hm:MetOk θ n (Ao h) met) (hh:h∈met):n∉CO (θ h):=by
 rcases hm h hh with h1 | h1
 ·exact h1
 ·exact absurd (h1 h (by simp [Ao,CO])) lexT.irrefl
theorem MetOk.next (hs:Sol σ θ) {h:Int} {met:List Int} (hm:MetOk θ n (Ao h) met) (ht:σ h=some t):MetOk θ n t (h::met):=λx hx=>by
 rcases CA.1 hx with rfl | hx
 ·exact .inr λy hy=>hs.below ht hy
 ·exact (hm x hx).imp id λhb y hy=>(hs.below ht hy).trans (hb h (by simp [Ao,CO]))
def DJ (l:List Int):List (V×V):=l.map λh=>(.int .i64 h,.bool true)
theorem CE (l:List Int):∀p∈DJ l,GV (.int .i64) p.1=true:=λp hp=>by
 obtain ⟨q,_,rfl⟩:=Cc.1 hp;rfl
theorem NE (h:Int):∀l:List Int,G6 (DJ l) (.int .i64 h)=if h∈l then some (.bool true) else none
 | []=>rfl
 | x::r=>by
  have ih:=NE h r;simp only [DJ,Cv,G6,KJ] at ih ⊢;by_cases e:x=h
  ·subst e;rw [decide_eq_true rfl,if_pos (QM ..)];rfl
  ·rw [decide_eq_false e];simp only [CA];rw [ih];have e':¬h=x:=λh'=>e h'.symm;simp only [e',false_or];rfl
theorem Gc (h:Int) (l:List Int):FC false (DJ l) (.int .i64 h) (.bool false) = .imm (.bool (decide (h∈l))):=by
 simp only [FC,NE];by_cases e:h∈l <;> simp [e]
theorem Iy {h:Int}:∀{l:List Int},h∉l->F2 (DJ l) (.int .i64 h) (.bool true)=DJ (l++[h])
 | [],_=>rfl
 | x::r,hn=>by
  simp only [CA,not_or] at hn;have ih:=Iy (l:=r) hn.2;simp only [DJ,Cv,F2,KJ,D0] at ih ⊢;rw [decide_eq_false (λe=>hn.1 e.symm),<- ih];rfl
def DO (m:Md) (T:List (Int×Ty)) (k:Int) (S:List Ty) (n:Int) (t:Ty) (met:List Int) (b:Bool) (met':List Int):Prop :=
 Tq4 118 [.ref 1 0,.imm (.int .i64 n),.imm (.agg (Al t)),.mapr 4] (CI m T k S++[(4,some (.map (DJ met)))]) (.ret (.imm (.bool b)) (CI m T k S++[(4,some (.map (DJ met')))]))
theorem Ys (m:Md) (T:List (Int×Ty)) (k:Int) (S:List Ty) (n h:Int) (met:List Int) (hh:h∈met):DO m T k S n (Ao h) met false met:=by
 unfold DO;exact AQ Ah func118 rfl [5,6,7,8,9]<|yg [.a] rfl (by simp)<|CJ Ah 4 (z:=.bool false) (zd:=.bool false) (dr:=.imm (.bool true)) rfl rfl rfl (CE met) (by simp) rfl (λ_=>.bool _) (by rw [Gc];simp [hh])<|yg [.a] rfl (by simp)<|Ag ⟨_,GE⟩
theorem VL (m:Md) (T:List (Int×Ty)) (k:Int) (S:List Ty) (n:Int) (met:List Int) (hh:n∉met) (hs:BH T n=none):DO m T k S n (Ao n) met true (met++[n]):=by
 unfold DO;have hlk:=Hf n T;rw [hs] at hlk;have hnew:=Iy hh;exact AQ Ah func118 rfl [5,6,7,8,9]<|yg [.a] rfl (by simp)<|CJ Ah 4 (z:=.bool false) (zd:=.bool false) (dr:=.imm (.bool false)) rfl rfl rfl (CE met) (by simp) rfl (λ_=>.bool _) (by rw [Gc];simp [hh])<|yg [.a] rfl (by simp)<|Fs Ah rfl rfl rfl (CE met)<|Ai rfl<|CJ Ah 2 (zd:=.agg (Al Dr)) (dr:=.imm (.tup [.agg (Al Dr),.bool false])) rfl rfl rfl (Ei T) (by simp) rfl HD (by simp only [FC,hlk];rfl)<|yg [] rfl (by simp [Ap];rfl)<|PO (.imm (.bool false)) rfl (by simp [Ap])<|CW rfl<|Ag ⟨_,rfl,tV (by simp),rfl,rfl,rfl,congrArg (λx=>some (some (Blk.map x))) hnew,trivial⟩
theorem JI (m:Md) (T:List (Int×Ty)) (k:Int) (S:List Ty) (n h:Int) (met:List Int) (hh:h∉met) (hn:h≠n) (hs:BH T h=none):DO m T k S n (Ao h) met false (met++[h]):=by
 unfold DO;have hlk:=Hf h T;rw [hs] at hlk;have hnew:=Iy hh;have hb:(h == n)=false:=by simpa using hn
 exact AQ Ah func118 rfl [5,6,7,8,9]<|yg [.a] rfl (by simp)<|CJ Ah 4 (z:=.bool false) (zd:=.bool false) (dr:=.imm (.bool false)) rfl rfl rfl (CE met) (by simp) rfl (λ_=>.bool _) (by rw [Gc];simp [hh])<|yg [.a] rfl (by simp)<|Fs Ah rfl rfl rfl (CE met)<|Ai rfl<|CJ Ah 2 (zd:=.agg (Al Dr)) (dr:=.imm (.tup [.agg (Al Dr),.bool false])) rfl rfl rfl (Ei T) (by simp) rfl HD (by simp only [FC,hlk];rfl)<|yg [] rfl (by simp [Ap];rfl)<|PO (.imm (.bool false)) rfl (by simp [Ap])<|CW rfl<|Ag ⟨_,rfl,tV (by simp [hb]),rfl,rfl,rfl,congrArg (λx=>some (some (Blk.map x))) hnew,trivial⟩
theorem VM (m:Md) (T:List (Int×Ty)) (k:Int) (S:List Ty) (n h:Int) (met met':List Int) (u:Ty) (b:Bool) (hh:h∉met) (hn:h≠n) (hs:BH T h=some u) (hC:DO m T k S n u (met++[h]) b met'):DO m T k S n (Ao h) met b met':=by
 unfold DO at hC ⊢;have hlk:=Hf h T;rw [hs] at hlk;have hnew:=Iy hh;have hb:(h == n)=false:=by simpa using hn
 obtain ⟨u1,u2,u3,u4⟩:=u;refine AQ Ah func118 rfl [5,6,7,8,9]<|yg [.a] rfl (by simp)<|CJ Ah 4 (z:=.bool false) (zd:=.bool false) (dr:=.imm (.bool false)) rfl rfl rfl (CE met) (by simp) rfl (λ_=>.bool _) (by rw [Gc];simp [hh])<|yg [.a] rfl (by simp)<|Fs Ah rfl rfl rfl (CE met)<|Ai rfl<|CJ Ah 2 (zd:=.agg (Al Dr)) (dr:=.imm (.tup [.agg (Al (.mk u1 u2 u3 u4)),.bool true])) rfl rfl rfl (Ei T) (by simp) rfl HD (by simp only [FC,hlk];rfl)<|yg [] rfl (by simp [Ap];rfl) ?_;simp only [hnew];exact A4 [(1,1),(2,2),(3,3),(4,4)] [] [] (fr:=[]) (nm:=[1,2,3,4,1,2,3,4]) rfl (by simp [Ap,hb]) (by simp [Ap]) hC JK rfl trivial rfl rfl rfl<|CW rfl<|Ag ⟨_,rfl,tV (by simp [hb]),BJ⟩
def bxS (n:Int):St:=[(5,some (.cells 92 1 [.ref 1 0])),(6,some (.immb 3 1 [.int .i64 n])),(7,some (.cells 120 1 [.mapr 4]))]
def xB (m:Md) (T:List (Int×Ty)) (k:Int) (S:List Ty) (n:Int) (met:List Int):St:=CI m T k S++[(4,some (.map (DJ met)))]++bxS n
theorem Yt {met met':List Int} {b:Bool} (hC:DO m T k S n t met b met') :
  Tq4 177 [.imm (.agg (Al t)),.ref 5 0,.ref 6 0,.ref 7 0] (xB m T k S n met) (.ret (.imm (.bool b)) (xB m T k S n met')):=by
 unfold DO at hC;obtain ⟨t1,t2,t3,t4⟩:=t;exact AQ Ah func177 rfl [8,9]<|Ai rfl<|A4 [(1,1),(2,2),(3,3),(4,4)] [] [] (fr:=[]) (nm:=[1,2,3,4,1,2,3,4]) rfl trivial (by simp) hC JK rfl trivial rfl rfl rfl<|Ai rfl<|Ag ⟨_,Y0⟩
def Pm (m:Md) (T:List (Int×Ty)) (k:Int) (S:List Ty) (n:Int):List Ty->List Int->Bool->List Int->Prop
 | [],met,b,met'=>b=false/\met'=met
 | t::r,met,b,met'=>∃b1 met1,DO m T k S n t met b1 met1/\if b1=true then b=true/\met'=met1 else Pm m T k S n r met1 b met'
def Nu (m:Md) (T:List (Int×Ty)) (k:Int) (S:List Ty) (n:Int):Nat->List Ty->List Int->Int->List Int->Prop
 | _,[],met,i,met'=>i = -1/\met'=met
 | j,t::r,met,i,met'=>∃b1 met1,DO m T k S n t met b1 met1/\if b1=true then i=j/\met'=met1 else Nu m T k S n (j+1) r met1 i met'
theorem kQ {m:Md} {T:List (Int×Ty)} {k:Int} {S:List Ty} {n:Int}:∀{ps:List Ty} (j:Nat) {met met':List Int} {b:Bool},Pm m T k S n ps met b met'->∃i:Int,(0<=i↔b=true)/\Nu m T k S n j ps met i met'
 | [],j,met,met',b,h=>by
  obtain ⟨h1,h2⟩:=h;refine ⟨-1,⟨λh=>by omega,λh=>by rw [h1] at h;cases h⟩,?_⟩;rw [Nu];exact ⟨rfl,h2⟩
 | t::r,j,met,met',b,h=>by
  rw [Pm] at h;obtain ⟨b1,met1,h1,h2⟩:=h;cases b1 with
  | true =>
   rw [if_pos rfl] at h2;refine ⟨j,⟨λ_=>h2.1,λ_=>by omega⟩,?_⟩;rw [Nu];refine ⟨true,met1,h1,?_⟩;rw [if_pos rfl];exact ⟨rfl,h2.2⟩
  | false =>
   rw [if_neg (by simp)] at h2;obtain ⟨i,i1,i2⟩:=kQ (j+1) h2;refine ⟨i,i1,?_⟩;rw [Nu];refine ⟨false,met1,h1,?_⟩;rw [if_neg (by simp)];exact i2
theorem ZS {met met':List Int} {i:Int} (hl:ps.length<=3) (hC:Nu m T k S n 0 ps met i met') :
  Tq4 245 [.imm (.sl (A0 ps)),.fn (.func 177) [] [.ref 5 0,.ref 6 0,.ref 7 0]] (xB m T k S n met) (.ret (.imm (.int .i64 i)) (xB m T k S n met')):=by
 refine AQ Ah func245 rfl [8,9]<|Ai rfl<|Ak (λz:Nat×List Int=>[(8,.imm (.int .i64 z.1)),(7,.imm (.int .i64 ps.length)),(0,.imm (.sl (A0 ps))),(1,.fn (.func 177) [] [.ref 5 0,.ref 6 0,.ref 7 0])]) (λz=>xB m T k S n z.2) [8,9] (λz=>ps.length-z.1) (λz=>z.1<=ps.length/\Nu m T k S n z.1 (ps.drop z.1) z.2 i met') (0,met)
  ⟨AF _,hC⟩ ⟨rfl,A8 (by simp),AD⟩ F6 rfl λz hz ih=>?_
 clear hC;obtain ⟨j,K⟩:=z;obtain ⟨hj1,hj2⟩:=hz;simp only at hj1 hj2 ih;refine Av rfl<|Aa rfl (λh=>?_) (λh=>?_)
 ·have hlt:j<ps.length:=by simp at h;omega
  obtain ⟨t,ht⟩:=Am hlt;have hg:=AA ht;rw [As ht,Nu] at hj2;obtain ⟨b1,K1,h1,h2⟩:=hj2;have hQ:=Yt h1;obtain ⟨t1,t2,t3,t4⟩:=t;refine Av rfl<|yiz rfl hg<|Ai rfl<|Jf [] [(1,1),(2,2),(3,3),(4,4),(5,5),(6,6),(7,7)] [] rfl hQ Wb rfl rfl<|Ai rfl ?_;cases b1 with
  | true =>
   rw [if_pos rfl] at h2;obtain ⟨e1,e2⟩:=h2;subst e1;subst e2;exact R6 rfl λh=>Av rfl<|Ag ⟨_,Y0⟩
  | false =>
   rw [if_neg (by simp)] at h2;exact R7 rfl λh=>Av rfl<|Ae (ih (j+1,K1) (by simp only;omega) ⟨by simp only;omega,h2⟩) ⟨M6,AH⟩ F6 rfl
 ·have hlt:¬j<ps.length:=by simp at h;omega
  rw [Bh (by omega),Nu] at hj2;obtain ⟨e1,e2⟩:=hj2;subst e1;subst e2;exact At rfl<|Av rfl<|Ag ⟨_,Y0⟩
theorem Sl {met met':List Int} {b:Bool} (hl:ps.length<=3) (hC:Pm m T k S n ps met b met') :
  Tq4 174 [.imm (.sl (A0 ps)),.fn (.func 177) [] [.ref 5 0,.ref 6 0,.ref 7 0]] (xB m T k S n met) (.ret (.imm (.bool b)) (xB m T k S n met')):=by
 obtain ⟨i,h1,h2⟩:=kQ 0 hC;have hI:=ZS hl h2;have hb:decide (0<=i)=b:=by rw [EY,decide_eq_true_iff];exact h1
 refine AQ Ah func174 rfl [8,9]<|Ai rfl<|Jf [] [(1,1),(2,2),(3,3),(4,4),(5,5),(6,6),(7,7)] [] rfl hI Wb rfl rfl<|Ai rfl<|Ag ⟨_,rfl,tV ?_,F6⟩;rw [<- hb]
theorem Uw {f n':Int} {met met':List Int} {b:Bool} (h9:f≠9) (hl:ps.length<=3) (hC:Pm m T k S n ps met b met'):DO m T k S n (.mk f n' x ps) met b met':=by
 have hI:=Sl hl hC;unfold DO;refine AQ Ah func118 rfl [5,6,7,8,9]<|Ai rfl<|Aa rfl (λh=>by exfalso;simp at h;exact h9 h) (λh=>?_);exact Av rfl<|Jf [] [(1,1),(2,2),(3,3),(4,4),(5,5),(6,6),(8,7)] [] rfl hI Wb rfl rfl<|Ai rfl<|Ag ⟨_,GE⟩
theorem VK {P0:Ty->Prop} {m:Md} {T:List (Int×Ty)} {k:Int} {S:List Ty} {n:Int} {θ:Int->Ty} (hP:∀(p:Ty) (met:List Int),P0 p->MetOk θ n p met->∃b met',DO m T k S n p met b met'/\b=decide (n∈CO (A9 θ p))/\(b=false->MetNew θ n met met')) :
  ∀(ps:List Ty) (met:List Int),(∀p∈ps,P0 p)->(∀p∈ps,MetOk θ n p met)->∃b met',Pm m T k S n ps met b met'/\b=decide (n∈DK (Db θ ps))/\(b=false->MetNew θ n met met')
 | [],met,_,_=>⟨false,met,⟨rfl,rfl⟩,by simp [Db,DK],λ_=>MetNew.refl met⟩
 | p::r,met,h0,hm=>by
  obtain ⟨b1,met1,c1,e1,n1⟩:=hP p met (h0 p (by simp)) (hm p (by simp));cases b1 with
  | true =>
   refine ⟨true,met1,?_,?_,λh=>nomatch h⟩
   ·rw [Pm];refine ⟨true,met1,c1,?_⟩;rw [if_pos rfl];exact ⟨rfl,rfl⟩
   ·have:n∈CO (A9 θ p):=of_decide_eq_true e1.symm;simp [Db,DK,this]
  | false =>
   obtain ⟨b,met',c2,e2,n2⟩:=VK hP r met1 (λq hq=>h0 q (by simp [hq])) (λq hq=>(hm q (by simp [hq])).new (n1 rfl));have hn:n∉CO (A9 θ p):=of_decide_eq_false e1.symm;refine ⟨b,met',?_,?_,λh=>(n1 rfl).trans (n2 h)⟩
   ·rw [Pm];refine ⟨false,met1,c1,?_⟩;rw [if_neg (by simp)];exact c2
   ·rw [e2];simp [Db,DK,hn]
theorem Qn (m:Md) (T:List (Int×Ty)) (k:Int) (S:List Ty) (hs:Sol (BH T) θ) (hn:BH T n=none):∀(s:Nat) (t:Ty) (met:List Int),DH (A9 θ t)<=s->C9 t=true->MetOk θ n t met->∃b met',DO m T k S n t met b met'/\b=decide (n∈CO (A9 θ t))/\(b=false->MetNew θ n met met'):=by
 intro s
 induction s with
 | zero=>intro t met h;have:=HE (A9 θ t);omega
 | succ s IH =>
 intro t met hN hw hm;have node:∀(t:Ty) (met:List Int),BQ t≠9->DH (A9 θ t)<=s+1->C9 t=true->MetOk θ n t met->∃b met',DO m T k S n t met b met'/\b=decide (n∈CO (A9 θ t))/\(b=false->MetNew θ n met met'):=λt met h9 hN hw hm=>by
  obtain ⟨b,met',c,e,hnew⟩:=VK (P0:=λp=>DH (A9 θ p)<=s/\C9 p=true) (m:=m) (T:=T) (k:=k) (S:=S) (λp met hp hmp=>IH p met hp.1 hp.2 hmp) (Ff t) met
   (λp hp=>⟨by have:=Uu (θ:=θ) h9 hp;omega,EU hw p hp⟩) (λp hp=>hm.part h9 hp)
  have hl:=Ie hw;obtain ⟨f,n',x,ps⟩:=t;simp only [BQ] at h9;refine ⟨b,met',Uw h9 hl c,?_,hnew⟩;rw [e];have hi:n∈CO (A9 θ (.mk f n' x ps))↔n∈DK (Db θ ps):=by simp only [A9,CO,if_neg h9]
  exact decide_eq_decide.2 hi.symm
 by_cases h9:BQ t=9
 ·-- holes,one after the other
  have step:∀(h:Int) (met:List Int),(∀h' met,0<=h'->h'<h->DH (θ h')<=s+1->MetOk θ n (Ao h') met->∃b met',DO m T k S n (Ao h') met b met'/\b=decide (n∈CO (θ h'))/\(b=false->MetNew θ n met met')) ->
    DH (θ h)<=s+1->MetOk θ n (Ao h) met->∃b met',DO m T k S n (Ao h) met b met'/\b=decide (n∈CO (θ h))/\(b=false->MetNew θ n met met'):=λh met hrec hN hm=>by
   by_cases hh:h∈met
   ·exact ⟨false,met,Ys m T k S n h met hh,(decide_eq_false (hm.met hh)).symm,λ_=>MetNew.refl met⟩
   by_cases hnn:h=n
   ·subst hnn;refine ⟨true,met++[h],VL m T k S h met hh hn,?_,λh=>nomatch h⟩;rw [hs.free h hn];simp [Ao,CO]
   have hadd:n∉CO (θ h)->MetNew θ n met (met++[h]):=λhx y hy=>by
    rcases BU.1 hy with hy | hy
    ·exact .inl hy
    ·rw [AN.1 hy];exact .inr hx
   cases hsb:BH T h with
   | none =>
    have hx:n∉CO (θ h):=by rw [hs.free h hsb];simp [Ao,CO];exact λe=>hnn e.symm
    exact ⟨false,met++[h],JI m T k S n h met hh hnn hsb,(decide_eq_false hx).symm,λ_=>hadd hx⟩
   | some u =>
    have hθ:θ h=A9 θ u:=hs.eq h u hsb;have hwu:=hs.wf h u hsb;have hmu:MetOk θ n u (met++[h]):=λy hy=>hm.next hs hsb y (by
     rcases BU.1 hy with hy | hy
     ·exact HR _ hy
     ·rw [AN.1 hy];exact QM ..)
    have hrest:∃b met',DO m T k S n u (met++[h]) b met'/\b=decide (n∈CO (A9 θ u))/\(b=false->MetNew θ n (met++[h]) met'):=by
     by_cases hu9:BQ u=9
     ·have hd:=hs.down h u hsb hu9;have eu:=E7 hwu hu9;rw [GK hu9];rw [eu] at hmu ⊢;have h':=hrec (num u) (met++[h]) hd.1 hd.2 (by rw [hθ,GK hu9] at hN;exact hN) hmu;exact h'
     ·exact node u (met++[h]) hu9 (by rw [<- hθ];exact hN) hwu hmu
    obtain ⟨b,met',c,e,hnew⟩:=hrest;refine ⟨b,met',VM m T k S n h met met' u b hh hnn hsb c,by rw [hθ];exact e,λhb=>?_⟩;have hx:n∉CO (θ h):=by
     rw [hθ];subst hb;exact of_decide_eq_false e.symm
    exact (hadd hx).trans (hnew hb)
  have key:∀(j:Nat) (h:Int) (met:List Int),(0<=h->h<j)->DH (θ h)<=s+1->MetOk θ n (Ao h) met->∃b met',DO m T k S n (Ao h) met b met'/\b=decide (n∈CO (θ h))/\(b=false->MetNew θ n met met'):=by
   intro j
   induction j with
   | zero =>
    intro h met hj hN hm;exact step h met (λh' _ h1 h2=>by omega) hN hm
   | succ j ih =>
    intro h met hj hN hm;exact step h met (λh' met h1 h2 h3 h4=>ih h' met (λ_=>by omega) h3 h4) hN hm
  have et:=E7 hw h9;rw [GK h9] at hN ⊢;rw [et] at hm ⊢;exact key ((num t).toNat+1) (num t) met (λ_=>by omega) hN hm
 ·exact node t met h9 hN hw hm
section
variable {n:Nat} {k:List DI} {a:Act} {σ:List (Nat×Nat)}
def SF:D:=.slc 0 0 1 0
theorem By (t:Nat) (h:lk env t=some SF):DGo P n F Q todo env st ids:=by
 intro b cs I μ a w items hd hc;have hv:=hc.env t _ h;generalize a.tmps.getD t undef=v at hv;cases hv;omega
theorem QV {all:List Oper} {o:Oper} {f:FuncId} {x:V} (hg:o.guard=none) (hc:EN P o env f das True) (hE:IR P f (F7 (Ep σ) das) st0 (.pan x)) (hb:EZ σ st st0) (hn:Di σ (Br σ) (I0 das)=true) (hq:Pn x) :
  LD P Pn all o env st (FH σ) [] [] d:=by
 intro I μ st2 ids1 a w hag hst hon;refine ⟨λ_=>?_,λhw=>by rw [AL hg] at hw;cases hw⟩;obtain ⟨xs,h1,h2⟩:=hc I μ a w (Bm hon) trivial;have hb':=FP hag hb;obtain ⟨p1,p2,p3⟩:=Gp hst hb' hn h1;rw [h2];refine (hE I _ w xs p1 p2).mono (λ_ _ h=>h.elim) λchain w' hp=>?_;obtain ⟨v,y,I',r1,r2,r3,r4,r5⟩:=hp;subst r2;have hE':Ext I μ st2 w I' μ [] w':={ imm:=r5.imm,os:=r5.os,tape:=r5.tape,output:=r5.output,size:=r5.size,block:=λb hb ho=>r5.block b hb (λh=>ho (p3 b h)),fresh:=λb hb ⟨i,bi,g,h1,_⟩=>by simp [Az,lk] at h1,old:=λb hb ho=>r5.old b hb (λh=>ho (p3 b h)) }
 exact ⟨v,y,I',r1,hq,r3,r4,hE'⟩
theorem Bd {c:Uj} {x:V} (σ:List (Nat×Nat)) (h:TY n env todo=some c) (hob:AG c.ob) (hE:IR P c.f (F7 (Ep σ) c.das) st0 (.pan x)) (hb:EZ σ st st0) (hn:Di σ (Br σ) (I0 c.das)=true) (hq:KY Q x)
  (h1:Bt todo (FH σ,[])=some (c.all,c.o,todo')) (hk:G P n F Q todo' (BN c.dst SF env) st ids):G P n F Q todo env st ids:=by
 obtain ⟨_,q2,q3,q4,q5,q6⟩:=Nd (P:=P) h hob;rw [q6] at q4 hk;exact BG (fr:=[]) (wr:=[]) h1 (QV q2 q3 hE hb hn hq) q4 q5 hk
end
def Dk (m:Md) (T:List (Int×Ty)) (k:Int) (S:List Ty) (a b:Ty) (T':List (Int×Ty)):Prop :=
 Tq4 57 [.ref 1 0,.imm (.agg (Al a)),.imm (.agg (Al b))] (CI m T k S) (.ret (.imm (.tup [])) (CI m T' k S))
def DL (m:Md) (T:List (Int×Ty)) (k:Int) (S:List Ty) (a b:Ty):Prop :=
 Tq4 57 [.ref 1 0,.imm (.agg (Al a)),.imm (.agg (Al b))] (CI m T k S) (.pan Gn)
theorem pH (m:Md) (T:List (Int×Ty)) (k:Int) (S:List Ty) (hs:Sol (BH T) θ) (a b:Ty) (h:Int) (ha:Top (BH T) a (Ao h)) (hb:Top (BH T) b (Ao h)):Dk m T k S a b T:=by
 unfold Dk;have hA:=Cn m T k S hs a _ ha;have hB:=Cn m T k S hs b _ hb;obtain ⟨a1,a2,a3,a4⟩:=a;obtain ⟨b1,b2,b3,b4⟩:=b;exact AQ Ah func57 rfl [4,5,6,7]<|Ai rfl<|A4 [(1,1),(2,2),(3,3)] [] [1,2,3] (fr:=[]) (nm:=[]) rfl trivial (by simp) hA Ax rfl Ec rfl rfl rfl<|Ai rfl<|A4 [(1,1),(2,2),(3,3)] [] [1,2,3] (fr:=[]) (nm:=[]) rfl trivial (by simp) hB Ax rfl Ec rfl rfl rfl<|yg [] rfl (by simp [Ap];rfl)<|R7 rfl λh=>yd [.a] rfl (by simp [Ap])<|R6 rfl λh=>Av rfl<|Ag ⟨_,BA⟩
theorem X3 (m:Md) (T:List (Int×Ty)) (k:Int) (S:List Ty) (hs:Sol (BH T) θ) (a b u:Ty) (h:Int) (ha:Top (BH T) a (Ao h)) (hb:Top (BH T) b u) (hu:BQ u≠9) (hwu:C9 u=true) (ho:h∉CO (A9 θ u)):Dk m T k S a b (Qt T h u):=by
 unfold Dk;have hA:=Cn m T k S hs a _ ha;have hB:=Cn m T k S hs b _ hb;have hfree:BH T h=none:=ha.end_ rfl;obtain ⟨o,met',hC,e,_⟩:=Qn m T k S hs hfree _ u [] (BL _) hwu (λx hx=>nomatch hx);rw [decide_eq_false ho] at e;subst e;unfold DO at hC;have hst:=JJ h u T;obtain ⟨a1,a2,a3,a4⟩:=a;obtain ⟨b1,b2,b3,b4⟩:=b;obtain ⟨u1,u2,u3,u4⟩:=u;simp only [BQ] at hu;have hub:(u1 == 9)=false:=by simpa using hu
 refine AQ Ah func57 rfl [4,5,6,7]<|Ai rfl<|A4 [(1,1),(2,2),(3,3)] [] [1,2,3] (fr:=[]) (nm:=[]) rfl trivial (by simp) hA Ax rfl Ec rfl rfl rfl<|Ai rfl<|A4 [(1,1),(2,2),(3,3)] [] [1,2,3] (fr:=[]) (nm:=[]) rfl trivial (by simp) hB Ax rfl Ec rfl rfl rfl<|yg [] rfl (by simp [Ap];rfl)<|Aa rfl (λh=>by exfalso;simp [hub] at h) (λh=>?_);refine yd [.a] rfl (by simp [Ap])<|Aa rfl (λh=>by exfalso;simp [hub] at h) (λh=>?_)
 exact Av rfl<|Ev rfl<|Ai rfl<|A4 [(1,1),(2,2),(3,3),(6,4)] [] [1,2,3] (fr:=[]) (nm:=[6,6]) rfl trivial (by simp) hC JK rfl Ec rfl rfl rfl<|Ai rfl<|Ad rfl Fx<|Ai rfl<|Fs Ah rfl rfl rfl (Ei T)<|yg [] rfl (by simp;rfl)<|BP ⟨_,rfl,rfl,rfl,congrArg (λx=>some (some (Blk.map x))) hst,AC⟩
theorem dI (m:Md) (T:List (Int×Ty)) (k:Int) (S:List Ty) (hs:Sol (BH T) θ) (a b u:Ty) (h:Int) (ha:Top (BH T) a (Ao h)) (hb:Top (BH T) b u) (hu:BQ u≠9) (hwu:C9 u=true) (ho:h∈CO (A9 θ u)):DL m T k S a b:=by
 unfold DL;have hA:=Cn m T k S hs a _ ha;have hB:=Cn m T k S hs b _ hb;have hfree:BH T h=none:=ha.end_ rfl;obtain ⟨o,met',hC,e,_⟩:=Qn m T k S hs hfree _ u [] (BL _) hwu (λx hx=>nomatch hx);rw [decide_eq_true ho] at e;subst e;unfold DO at hC;obtain ⟨a1,a2,a3,a4⟩:=a;obtain ⟨b1,b2,b3,b4⟩:=b;obtain ⟨u1,u2,u3,u4⟩:=u;simp only [BQ] at hu;have hub:(u1 == 9)=false:=by simpa using hu
 refine AQ Ah func57 rfl [4,5,6,7]<|Ai rfl<|A4 [(1,1),(2,2),(3,3)] [] [1,2,3] (fr:=[]) (nm:=[]) rfl trivial (by simp) hA Ax rfl Ec rfl rfl rfl<|Ai rfl<|A4 [(1,1),(2,2),(3,3)] [] [1,2,3] (fr:=[]) (nm:=[]) rfl trivial (by simp) hB Ax rfl Ec rfl rfl rfl<|yg [] rfl (by simp [Ap];rfl)<|Aa rfl (λh=>by exfalso;simp [hub] at h) (λh=>?_);refine yd [.a] rfl (by simp [Ap])<|Aa rfl (λh=>by exfalso;simp [hub] at h) (λh=>?_);exact Av rfl<|Ev rfl<|Ai rfl<|A4 [(1,1),(2,2),(3,3),(6,4)] [] [1,2,3] (fr:=[]) (nm:=[6,6]) rfl trivial (by simp) hC JK rfl Ec rfl rfl rfl<|Ai rfl<|Bd [] rfl (by simp) (I7 _ rfl) trivial rfl rfl rfl<|By 99 rfl
theorem tZ (m:Md) (T:List (Int×Ty)) (k:Int) (S:List Ty) (hs:Sol (BH T) θ) (a b:Ty) (h g:Int) (ha:Top (BH T) a (Ao h)) (hb:Top (BH T) b (Ao g)) (hg:g<h):Dk m T k S a b (Qt T h (Ao g)):=by
 unfold Dk;have hA:=Cn m T k S hs a _ ha;have hB:=Cn m T k S hs b _ hb;have hC:=JI m T k S h g [] (by simp) (by omega) (hb.end_ rfl);unfold DO at hC;have hst:=JJ h (Ao g) T;obtain ⟨a1,a2,a3,a4⟩:=a;obtain ⟨b1,b2,b3,b4⟩:=b;refine AQ Ah func57 rfl [4,5,6,7]<|Ai rfl<|A4 [(1,1),(2,2),(3,3)] [] [1,2,3] (fr:=[]) (nm:=[]) rfl trivial (by simp) hA Ax rfl Ec rfl rfl rfl<|Ai rfl<|A4 [(1,1),(2,2),(3,3)] [] [1,2,3] (fr:=[]) (nm:=[]) rfl trivial (by simp) hB Ax rfl Ec rfl rfl rfl<|yg [] rfl (by simp [Ap];rfl)<|Aa rfl (λh'=>by exfalso;simp at h';omega) (λh'=>?_);refine yd [.a] rfl (by simp [Ap])<|Aa rfl (λh'=>by exfalso;simp at h';omega) (λh'=>?_)
 exact Av rfl<|Ev rfl<|Ai rfl<|A4 [(1,1),(2,2),(3,3),(6,4)] [] [1,2,3] (fr:=[]) (nm:=[6,6]) rfl trivial (by simp) hC JK rfl Ec rfl rfl rfl<|Ai rfl<|Ad rfl Fx<|Ai rfl<|Fs Ah rfl rfl rfl (Ei T)<|yg [] rfl (by simp;rfl)<|BP ⟨_,rfl,rfl,rfl,congrArg (λx=>some (some (Blk.map x))) hst,AC⟩
theorem pF (m:Md) (T:List (Int×Ty)) (k:Int) (S:List Ty) (hs:Sol (BH T) θ) (a b:Ty) (h g:Int) (ha:Top (BH T) a (Ao h)) (hb:Top (BH T) b (Ao g)) (hg:h<g):Dk m T k S a b (Qt T g (Ao h)):=by
 unfold Dk;have hA:=Cn m T k S hs a _ ha;have hB:=Cn m T k S hs b _ hb;have hC:=JI m T k S g h [] (by simp) (by omega) (ha.end_ rfl);unfold DO at hC;have hst:=JJ g (Ao h) T;obtain ⟨a1,a2,a3,a4⟩:=a;obtain ⟨b1,b2,b3,b4⟩:=b;refine AQ Ah func57 rfl [4,5,6,7]<|Ai rfl<|A4 [(1,1),(2,2),(3,3)] [] [1,2,3] (fr:=[]) (nm:=[]) rfl trivial (by simp) hA Ax rfl Ec rfl rfl rfl<|Ai rfl<|A4 [(1,1),(2,2),(3,3)] [] [1,2,3] (fr:=[]) (nm:=[]) rfl trivial (by simp) hB Ax rfl Ec rfl rfl rfl<|yg [] rfl (by simp [Ap];rfl)<|Aa rfl (λh'=>?_) (λh'=>by exfalso;simp at h';omega);refine yd [.a] rfl (by simp [Ap])<|Aa rfl (λh'=>by exfalso;simp at h';omega) (λh'=>?_)
 exact Av rfl<|Ev rfl<|Ai rfl<|A4 [(1,1),(2,2),(3,3),(6,4)] [] [1,2,3] (fr:=[]) (nm:=[6,6]) rfl trivial (by simp) hC JK rfl Ec rfl rfl rfl<|Ai rfl<|Ad rfl Fx<|Ai rfl<|Fs Ah rfl rfl rfl (Ei T)<|yg [] rfl (by simp;rfl)<|BP ⟨_,rfl,rfl,rfl,congrArg (λx=>some (some (Blk.map x))) hst,AC⟩
theorem pG (m:Md) (T T':List (Int×Ty)) (k:Int) (S:List Ty) (hs:Sol (BH T) θ) (a b u:Ty) (h:Int) (ha:Top (BH T) a u) (hb:Top (BH T) b (Ao h)) (hu:BQ u≠9) (hE:Dk m T k S (Ao h) u T'):Dk m T k S a b T':=by
 unfold Dk at hE ⊢;have hA:=Cn m T k S hs a _ ha;have hB:=Cn m T k S hs b _ hb;obtain ⟨a1,a2,a3,a4⟩:=a;obtain ⟨b1,b2,b3,b4⟩:=b;obtain ⟨u1,u2,u3,u4⟩:=u;simp only [BQ] at hu;have hub:(u1 == 9)=false:=by simpa using hu
 refine AQ Ah func57 rfl [4,5,6,7]<|Ai rfl<|A4 [(1,1),(2,2),(3,3)] [] [1,2,3] (fr:=[]) (nm:=[]) rfl trivial (by simp) hA Ax rfl Ec rfl rfl rfl<|Ai rfl<|A4 [(1,1),(2,2),(3,3)] [] [1,2,3] (fr:=[]) (nm:=[]) rfl trivial (by simp) hB Ax rfl Ec rfl rfl rfl<|yg [] rfl (by simp [Ap];rfl)<|Aa rfl (λh'=>by exfalso;simp [hub] at h') (λh'=>?_);refine Av rfl<|Aa rfl (λh'=>by exfalso;simp [hub] at h') (λh'=>?_);exact yd [.a] rfl (by simp)<|Jf [] [(1,1),(2,2),(3,3)] [] rfl hE Ax rfl rfl<|Ai rfl<|BP ⟨_,BA⟩
theorem iK (m:Md) (T:List (Int×Ty)) (k:Int) (S:List Ty) (hs:Sol (BH T) θ) (a b u:Ty) (h:Int) (ha:Top (BH T) a u) (hb:Top (BH T) b (Ao h)) (hu:BQ u≠9) (hE:DL m T k S (Ao h) u):DL m T k S a b:=by
 unfold DL at hE ⊢;have hA:=Cn m T k S hs a _ ha;have hB:=Cn m T k S hs b _ hb;obtain ⟨a1,a2,a3,a4⟩:=a;obtain ⟨b1,b2,b3,b4⟩:=b;obtain ⟨u1,u2,u3,u4⟩:=u;simp only [BQ] at hu;have hub:(u1 == 9)=false:=by simpa using hu
 refine AQ Ah func57 rfl [4,5,6,7]<|Ai rfl<|A4 [(1,1),(2,2),(3,3)] [] [1,2,3] (fr:=[]) (nm:=[]) rfl trivial (by simp) hA Ax rfl Ec rfl rfl rfl<|Ai rfl<|A4 [(1,1),(2,2),(3,3)] [] [1,2,3] (fr:=[]) (nm:=[]) rfl trivial (by simp) hB Ax rfl Ec rfl rfl rfl<|yg [] rfl (by simp [Ap];rfl)<|Aa rfl (λh'=>by exfalso;simp [hub] at h') (λh'=>?_);refine Av rfl<|Aa rfl (λh'=>by exfalso;simp [hub] at h') (λh'=>?_);exact yd [.a] rfl (by simp)<|Bd [(1,1),(2,2),(3,3)] rfl (by simp) hE Ax rfl rfl rfl<|By 114 rfl
theorem aJ (m:Md) (T:List (Int×Ty)) (k:Int) (S:List Ty) (hs:Sol (BH T) θ) (a b u v:Ty) (ha:Top (BH T) a u) (hb:Top (BH T) b v) (hu:BQ u≠9) (hv:BQ v≠9) (hd:¬EW u v):DL m T k S a b:=by
 unfold DL;have hA:=Cn m T k S hs a _ ha;have hB:=Cn m T k S hs b _ hb;obtain ⟨a1,a2,a3,a4⟩:=a;obtain ⟨b1,b2,b3,b4⟩:=b;obtain ⟨u1,u2,u3,u4⟩:=u;obtain ⟨v1,v2,v3,v4⟩:=v;simp only [BQ] at hu hv;simp only [EW,BQ,num,jM,Ff] at hd;have hub:(u1 == 9)=false:=by simpa using hu
 have hvb:(v1 == 9)=false:=by simpa using hv
 refine AQ Ah func57 rfl [4,5,6,7]<|Ai rfl<|A4 [(1,1),(2,2),(3,3)] [] [1,2,3] (fr:=[]) (nm:=[]) rfl trivial (by simp) hA Ax rfl Ec rfl rfl rfl<|Ai rfl<|A4 [(1,1),(2,2),(3,3)] [] [1,2,3] (fr:=[]) (nm:=[]) rfl trivial (by simp) hB Ax rfl Ec rfl rfl rfl<|yg [] rfl (by simp [Ap];rfl)<|Aa rfl (λh'=>by exfalso;simp [hub] at h') (λh'=>?_);refine Av rfl<|Aa rfl (λh'=>by exfalso;simp [hub] at h') (λh'=>?_);refine Av rfl<|Aa rfl (λh'=>by exfalso;simp [hvb] at h') (λh'=>?_);refine Pu rfl<|Bd [] rfl (by simp) (I7 _ (by
  show (bif bif bif u1 == v1 then u2 == v2 else false then u3 == v3 else false then ((A0 u4).length:Int) == (A0 v4).length else false)=false;rw [Bool.eq_false_iff];intro hc;apply hd;simp at hc;obtain ⟨⟨⟨c1,c2⟩,c3⟩,c4⟩:=hc;exact ⟨c1,c2,c3,by omega⟩)) trivial rfl rfl rfl ?_
 exact By 58 rfl
def jK (m:Md) (k:Int) (S:List Ty):List Ty->List Ty->List (Int×Ty)->List (Int×Ty)->Prop
 | a::r,b::q,T,T'=>∃T1,Dk m T k S a b T1/\jK m k S r q T1 T'
 | _,_,T,T'=>T'=T
theorem iL (m:Md) (T T':List (Int×Ty)) (k:Int) (S:List Ty) (hs:Sol (BH T) θ) (a b u v:Ty) (ha:Top (BH T) a u) (hb:Top (BH T) b v) (hu:BQ u≠9) (hv:BQ v≠9) (hd:EW u v) (hw:C9 u=true) (hC:jK m k S (Ff u) (Ff v) T T'):Dk m T k S a b T':=by
 unfold Dk;have hA:=Cn m T k S hs a _ ha;have hB:=Cn m T k S hs b _ hb;have hul:=Ie hw;obtain ⟨a1,a2,a3,a4⟩:=a;obtain ⟨b1,b2,b3,b4⟩:=b;obtain ⟨u1,u2,u3,ps⟩:=u;obtain ⟨v1,v2,v3,qs⟩:=v;simp only [BQ] at hu hv;simp only [EW,BQ,num,jM,Ff] at hd hul hC;obtain ⟨rfl,rfl,rfl,hl⟩:=hd;have hub:(u1 == 9)=false:=by simpa using hu
 refine AQ Ah func57 rfl [4,5,6,7]<|Ai rfl<|A4 [(1,1),(2,2),(3,3)] [] [1,2,3] (fr:=[]) (nm:=[]) rfl trivial (by simp) hA Ax rfl Ec rfl rfl rfl<|Ai rfl<|A4 [(1,1),(2,2),(3,3)] [] [1,2,3] (fr:=[]) (nm:=[]) rfl trivial (by simp) hB Ax rfl Ec rfl rfl rfl<|yg [] rfl (by simp [Ap];rfl)<|Aa rfl (λh'=>by exfalso;simp [hub] at h') (λh'=>?_);refine Av rfl<|Aa rfl (λh'=>by exfalso;simp [hub] at h') (λh'=>?_);refine Av rfl<|Aa rfl (λh'=>by exfalso;simp [hub] at h') (λh'=>?_);refine Pu rfl ?_;have hwt:Tq3 117 [.bool (bif bif bif u1 == u1 then u2 == u2 else false then u3 == u3 else false then ((A0 ps).length:Int) == (A0 qs).length else false)] (.tup []):=by
  rw [show (bif bif bif u1 == u1 then u2 == u2 else false then u3 == u3 else false then ((A0 ps).length:Int) == (A0 qs).length else false)=true by simp;omega];exact Fx
 refine Ad rfl hwt<|Ai rfl<|Ak (λz:Nat×List (Int×Ty)=>[(62,.imm (.int .i64 z.1)),(61,.imm (.int .i64 ps.length)),(0,.ref 1 0),(4,.ref 4 0),(5,.ref 5 0)]) (λz=>(4,some (.immb 25 4 (Al (.mk u1 u2 u3 ps))))::(5,some (.immb 25 4 (Al (.mk u1 u2 u3 qs))))::CI m z.2 k S) [6,7] (λz=>ps.length-z.1)
  (λz=>z.1<=ps.length/\jK m k S (ps.drop z.1) (qs.drop z.1) z.2 T') (0,T)
  ⟨AF _,hC⟩ ⟨rfl,A8 (by simp),AH⟩ BA rfl λz hz ih=>?_
 clear hC;obtain ⟨j,K⟩:=z;obtain ⟨hj1,hj2⟩:=hz;simp only at hj1 hj2 ih;refine Av rfl<|Aa rfl (λh'=>?_) (λh'=>?_)
 ·have hlt:j<ps.length:=by simp at h';omega
  obtain ⟨p,hp⟩:=Am hlt;obtain ⟨q,hq⟩:=Am (l:=qs) (i:=j) (by omega);have hgp:=AA hp;have hgq:=AA hq;rw [As hp,As hq,jK] at hj2;obtain ⟨K1,hE,hj2⟩:=hj2;unfold Dk at hE;obtain ⟨p1,p2,p3,p4⟩:=p;obtain ⟨q1,q2,q3,q4⟩:=q;exact Av rfl<|yiz rfl hgp<|Ai rfl<|yiz rfl hgq<|Ai rfl<|Jf [] [(1,1),(2,2),(3,3)] [] rfl hE Ax rfl rfl<|yg [] rfl (by simp;rfl)<|Ae (ih (j+1,K1) (by simp only;omega) ⟨by simp only;omega,hj2⟩) ⟨M6,BJ⟩ BA rfl
 ·have hlt:¬j<ps.length:=by simp at h';omega
  rw [Bh (by omega)] at hj2;simp only [jK] at hj2;subst hj2;exact At rfl<|Av rfl<|BP ⟨_,BA⟩
def jJ (m:Md) (k:Int) (S:List Ty):List Ty->List Ty->List (Int×Ty)->Prop
 | a::r,b::q,T=>DL m T k S a b\/∃T1,Dk m T k S a b T1/\jJ m k S r q T1
 | _,_,_=>False
theorem aI (m:Md) (T:List (Int×Ty)) (k:Int) (S:List Ty) (hs:Sol (BH T) θ) (a b u v:Ty) (ha:Top (BH T) a u) (hb:Top (BH T) b v) (hu:BQ u≠9) (hv:BQ v≠9) (hd:EW u v) (hw:C9 u=true) (hC:jJ m k S (Ff u) (Ff v) T):DL m T k S a b:=by
 unfold DL;have hA:=Cn m T k S hs a _ ha;have hB:=Cn m T k S hs b _ hb;have hul:=Ie hw;obtain ⟨a1,a2,a3,a4⟩:=a;obtain ⟨b1,b2,b3,b4⟩:=b;obtain ⟨u1,u2,u3,ps⟩:=u;obtain ⟨v1,v2,v3,qs⟩:=v;simp only [BQ] at hu hv;simp only [EW,BQ,num,jM,Ff] at hd hul hC;obtain ⟨rfl,rfl,rfl,hl⟩:=hd;have hub:(u1 == 9)=false:=by simpa using hu
 refine AQ Ah func57 rfl [4,5,6,7]<|Ai rfl<|A4 [(1,1),(2,2),(3,3)] [] [1,2,3] (fr:=[]) (nm:=[]) rfl trivial (by simp) hA Ax rfl Ec rfl rfl rfl<|Ai rfl<|A4 [(1,1),(2,2),(3,3)] [] [1,2,3] (fr:=[]) (nm:=[]) rfl trivial (by simp) hB Ax rfl Ec rfl rfl rfl<|yg [] rfl (by simp [Ap];rfl)<|Aa rfl (λh'=>by exfalso;simp [hub] at h') (λh'=>?_);refine Av rfl<|Aa rfl (λh'=>by exfalso;simp [hub] at h') (λh'=>?_);refine Av rfl<|Aa rfl (λh'=>by exfalso;simp [hub] at h') (λh'=>?_);refine Pu rfl ?_;have hwt:Tq3 117 [.bool (bif bif bif u1 == u1 then u2 == u2 else false then u3 == u3 else false then ((A0 ps).length:Int) == (A0 qs).length else false)] (.tup []):=by
  rw [show (bif bif bif u1 == u1 then u2 == u2 else false then u3 == u3 else false then ((A0 ps).length:Int) == (A0 qs).length else false)=true by simp;omega];exact Fx
 refine Ad rfl hwt<|Ai rfl<|Ak (λz:Nat×List (Int×Ty)=>[(62,.imm (.int .i64 z.1)),(61,.imm (.int .i64 ps.length)),(0,.ref 1 0),(4,.ref 4 0),(5,.ref 5 0)]) (λz=>(4,some (.immb 25 4 (Al (.mk u1 u2 u3 ps))))::(5,some (.immb 25 4 (Al (.mk u1 u2 u3 qs))))::CI m z.2 k S) [6,7] (λz=>ps.length-z.1)
  (λz=>z.1<=ps.length/\jJ m k S (ps.drop z.1) (qs.drop z.1) z.2) (0,T)
  ⟨AF _,hC⟩ ⟨rfl,A8 (by simp),AH⟩ BA rfl λz hz ih=>?_
 clear hC;obtain ⟨j,K⟩:=z;obtain ⟨hj1,hj2⟩:=hz;simp only at hj1 hj2 ih;refine Av rfl<|Aa rfl (λh'=>?_) (λh'=>?_)
 ·have hlt:j<ps.length:=by simp at h';omega
  obtain ⟨p,hp⟩:=Am hlt;obtain ⟨q,hq⟩:=Am (l:=qs) (i:=j) (by omega);have hgp:=AA hp;have hgq:=AA hq;rw [As hp,As hq,jJ] at hj2;obtain ⟨p1,p2,p3,p4⟩:=p;obtain ⟨q1,q2,q3,q4⟩:=q;refine Av rfl<|yiz rfl hgp<|Ai rfl<|yiz rfl hgq<|Ai rfl ?_;rcases hj2 with hE | ⟨K1,hE,hj2⟩
  ·unfold DL at hE;exact Bd [(1,1),(2,2),(3,3)] rfl (by simp) hE Ax rfl rfl rfl<|N0 1 rfl (by simp;rfl)<|By 76 rfl
  ·unfold Dk at hE;exact Jf [] [(1,1),(2,2),(3,3)] [] rfl hE Ax rfl rfl<|yg [] rfl (by simp;rfl)<|Ae (ih (j+1,K1) (by simp only;omega) ⟨by simp only;omega,hj2⟩) ⟨M6,BJ⟩ BA rfl
 ·have hlt:¬j<ps.length:=by simp at h';omega
  rw [Bh (by omega)] at hj2;simp only [jJ] at hj2
def zao (m:Md) (T:List (Int×Ty)) (k:Int) (S:List Ty) (a b:Ty):Option Sb->Prop
 | some σ'=>∃T',Dk m T k S a b T'/\BH T'=σ'
 | none=>DL m T k S a b
def EqsR (m:Md) (T:List (Int×Ty)) (k:Int) (S:List Ty) (xs ys:List Ty):Option Sb->Prop
 | some σ'=>∃T',jK m k S xs ys T T'/\BH T'=σ'
 | none=>jJ m k S xs ys T
theorem TS {m:Md} {k:Int} {S:List Ty} {H n:Nat} (hE:∀(T:List (Int×Ty)) (a b:Ty) (r:Option Sb),Ox n (BH T) a b r->(∃θ,Sol (BH T) θ)->Dom H (BH T)->C9 a=true->C9 b=true->inB H a->inB H b->zao m T k S a b r) :
  ∀(xs ys:List Ty) (T:List (Int×Ty)) (r:Option Sb),Le (Ox n) (BH T) xs ys r->(∃θ,Sol (BH T) θ)->Dom H (BH T)->(∀x∈xs,C9 x=true/\inB H x)->(∀y∈ys,C9 y=true/\inB H y)->EqsR m T k S xs ys r
 | [],[],T,r,h,_,_,_,_=>by
  have e:r=some (BH T):=h;subst e;exact ⟨T,rfl,rfl⟩
 | [],_::_,_,_,h,_,_,_,_=>h.elim
 | _::_,[],_,_,h,_,_,_,_=>h.elim
 | x::xs,y::ys,T,r,h,hs,hd,hx,hy=>by
  rcases h with ⟨h1,rfl⟩ | ⟨σ1,h1,h2⟩
  ·exact .inl (hE T x y none h1 hs hd (hx x (by simp)).1 (hy y (by simp)).1 (hx x (by simp)).2 (hy y (by simp)).2)
  ·obtain ⟨T1,c1,e1⟩:=hE T x y (some σ1) h1 hs hd (hx x (by simp)).1 (hy y (by simp)).1 (hx x (by simp)).2 (hy y (by simp)).2;obtain ⟨θ,hθ⟩:=hs;obtain ⟨g1,g2,_,_⟩:=Ru h1 hθ hd (hx x (by simp)).1 (hy y (by simp)).1 (hx x (by simp)).2 (hy y (by simp)).2;subst e1;have ih:=TS hE xs ys T1 r h2 g1 g2 (λz hz=>hx z (by simp [hz])) (λz hz=>hy z (by simp [hz]));cases r with
   | none=>exact .inr ⟨T1,c1,ih⟩
   | some σ' =>
    obtain ⟨T',c2,e2⟩:=ih;exact ⟨T',⟨T1,c1,c2⟩,e2⟩
theorem dJ (m:Md) (k:Int) (S:List Ty):∀(n:Nat) (T:List (Int×Ty)) (a b:Ty) (r:Option Sb),Ox n (BH T) a b r->(∃θ,Sol (BH T) θ)->Dom H (BH T)->C9 a=true->C9 b=true->inB H a->inB H b->zao m T k S a b r:=by
 intro n
 induction n with
 | zero=>intro T a b r h;exact h.elim
 | succ n IH =>
 intro T a b r hE hs hd wa wb ia ib;obtain ⟨u,v,hu,hv,hT⟩:=hE;obtain ⟨θ,hθ⟩:=hs;have wu:=hu.wf hθ wa;have wv:=hv.wf hθ wb;have iu:=hu.inB hd ia;have iv:=hv.inB hd ib;by_cases u9:BQ u=9
 ·have eu:=E7 wu u9;by_cases v9:BQ v=9
  ·have ev:=E7 wv v9;rw [eu] at hu;rw [ev] at hv;by_cases e:num u=num v
   ·have hr:r=some (BH T):=by simpa [Dp,u9,v9,e] using hT
    subst hr;rw [e] at hu;exact ⟨T,pH m T k S hθ a b (num v) hu hv,rfl⟩
   ·have hr:r=some (Ew (BH T) (max (num u) (num v)) (Ao (min (num u) (num v)))):=by simpa [Dp,u9,v9,e] using hT
    subst hr;rcases Int.lt_or_gt_of_ne e with hl | hl
    ·rw [Zo (by omega),Zm (by omega)];exact ⟨_,pF m T k S hθ a b (num u) (num v) hu hv hl,IW _ _ _⟩
    ·rw [Zn (by omega),Zl (by omega)];exact ⟨_,tZ m T k S hθ a b (num u) (num v) hu hv hl,IW _ _ _⟩
  ·rw [eu] at hu;by_cases o:jG (BH T) (num u) v
   ·have hr:r=none:=by simpa [Dp,u9,v9,o] using hT
    subst hr;exact dI m T k S hθ a b v (num u) hu hv v9 wv (hθ.occ.1 o)
   ·have hr:r=some (Ew (BH T) (num u) v):=by simpa [Dp,u9,v9,o] using hT
    subst hr;exact ⟨_,X3 m T k S hθ a b v (num u) hu hv v9 wv (λh=>o (hθ.occ.2 h)),IW _ _ _⟩
 ·by_cases v9:BQ v=9
  ·have ev:=E7 wv v9;rw [ev] at hv;have hvv:Top (BH T) (Ao (num v)) (Ao (num v)):=VG hv;have huu:=VG hu;by_cases o:jG (BH T) (num v) u
   ·have hr:r=none:=by simpa [Dp,u9,v9,o] using hT
    subst hr;exact iK m T k S hθ a b u (num v) hu hv u9 (dI m T k S hθ _ _ u (num v) hvv huu u9 wu (hθ.occ.1 o))
   ·have hr:r=some (Ew (BH T) (num v) u):=by simpa [Dp,u9,v9,o] using hT
    subst hr;exact ⟨_,pG m T _ k S hθ a b u (num v) hu hv u9 (X3 m T k S hθ _ _ u (num v) hvv huu u9 wu (λh=>o (hθ.occ.2 h))),IW _ _ _⟩
  ·by_cases sh:EW u v
   ·have hr:Le (Ox n) (BH T) (Ff u) (Ff v) r:=by simpa [Dp,u9,v9,sh] using hT
    have hc:=TS IH (Ff u) (Ff v) T r hr ⟨θ,hθ⟩ hd (λp hp=>⟨EU wu p hp,iu.part u9 hp⟩) (λp hp=>⟨EU wv p hp,iv.part v9 hp⟩);cases r with
    | none=>exact aI m T k S hθ a b u v hu hv u9 v9 sh wu hc
    | some σ' =>
     obtain ⟨T',c,e⟩:=hc;exact ⟨T',iL m T T' k S hθ a b u v hu hv u9 v9 sh wu c,e⟩
   ·have hr:r=none:=by simpa [Dp,u9,v9,sh] using hT
    subst hr;exact aJ m T k S hθ a b u v hu hv u9 v9 sh
def ttR:TT:=[
 (3,⟨.int .i64,false,1,8,[.imm (.int .i64 0)]⟩),
 (4,⟨.bool,false,1,1,[.imm (.bool false)]⟩),
 (25,⟨.struct [(0,22),(1,3),(2,9),(3,23)],true,4,56,[.imm (.int .i64 0),.imm (.int .i64 0),.imm (.str []),.nils]⟩),
 (23,⟨.sl 25,false,1,24,[.nils]⟩),
 (105,⟨.struct [(0,23),(1,23)],true,2,48,[.nils,.nils]⟩),
 (9,⟨.str,false,1,16,[.imm (.str [])]⟩),
 (45,⟨.int .i64,false,1,8,[.imm (.int .i64 0)]⟩),
 (22,⟨.int .i64,false,1,8,[.imm (.int .i64 0)]⟩),
 (43,⟨.struct [(0,9),(1,40),(2,41)],true,3,64,[.imm (.str []),.nils,.nils]⟩),
 (44,⟨.sl 84,false,1,24,[.nils]⟩),
 (130,⟨.sl 3,false,1,24,[.nils]⟩),
 (49,⟨.struct [(0,45),(1,3),(2,9),(3,46),(4,47)],true,5,80,[.imm (.int .i64 0),.imm (.int .i64 0),.imm (.str []),.nils,.nils]⟩),
 (46,⟨.sl 49,false,1,24,[.nils]⟩),
 (40,⟨.sl 113,false,1,24,[.nils]⟩),
 (41,⟨.sl 71,false,1,24,[.nils]⟩),
 (111,⟨.sl 178,false,1,24,[.nils]⟩),
 (71,⟨.struct [(0,9),(1,9),(2,25),(6,25),(10,49)],true,15,224,[.imm (.str []),.imm (.str []),.imm (.int .i64 0),.imm (.int .i64 0),.imm (.str []),.nils,.imm (.int .i64 0),.imm (.int .i64 0),.imm (.str []),.nils,.imm (.int .i64 0),.imm (.int .i64 0),.imm (.str []),.nils,.nils]⟩),
 (178,⟨.struct [(0,9),(1,23)],true,2,40,[.imm (.str []),.nils]⟩),
 (113,⟨.struct [(0,9),(1,111)],true,2,40,[.imm (.str []),.nils]⟩),
 (84,⟨.struct [(0,9),(1,25)],true,5,72,[.imm (.str []),.imm (.int .i64 0),.imm (.int .i64 0),.imm (.str []),.nils]⟩),
 (47,⟨.sl 182,false,1,24,[.nils]⟩),
 (180,⟨.int .i64,false,1,8,[.imm (.int .i64 0)]⟩),
 (182,⟨.struct [(0,180),(1,3),(2,9),(3,47)],true,4,56,[.imm (.int .i64 0),.imm (.int .i64 0),.imm (.str []),.nils]⟩),
 (58,⟨.sl 45,false,1,24,[.nils]⟩),
 (73,⟨.sl 9,false,1,24,[.nils]⟩),
 (64,⟨.int .i64,false,1,8,[.imm (.int .i64 0)]⟩)]
theorem AE:TTok prog ttR:=.of_eq (l:=[3,4,25,23,105,9,45,22,43,44,130,49,46,40,41,111,71,178,113,84,47,180,182,58,73,64]) (by kernel_rfl)
section
variable {n:Nat} {k:List DI}
theorem rd (path:List Pt) (h:run ttR n 300 path todo env st ids [] = .at k env' st' ids' ob) (hob:AG ob) (hd:Tq1 n F Q k env' st' ids'):Tq2 n F Q todo env st ids:=L4 AE Fh 300 path h hob hd
theorem AM (h:run ttR n 300 [] todo env st ids [] = .at k env' st' ids' ob) (hd:Tq1 n F Q k env' st' ids') (hob:AG ob:=by simp):Tq2 n F Q todo env st ids:=rd [] h hob hd
theorem zH (h:run ttR n 300 [] todo env st ids [] = .at k env' st' ids' ob) (hd:Tq1 n F Q k env' st' ids') (hob:AG ob:=by simp [Ap]):Tq2 n F Q todo env st ids:=rd [] h hob hd
theorem rg (path:List Pt) (h:run ttR n 300 path todo env st ids [] = .at k env' st' ids' ob) (hob:AG ob) (hd:Tq1 n F Q k env' st' ids'):Tq1 n F Q todo env st ids:=J4 AE Fh 300 path h hob hd
theorem AP (h:run ttR n 300 [] todo env st ids [] = .at k env' st' ids' ob) (hd:Tq1 n F Q k env' st' ids') (hob:AG ob:=by simp):Tq1 n F Q todo env st ids:=rg [] h hob hd
theorem IX (h:run ttR n 300 [] todo env st ids [] = .at k env' st' ids' ob) (hd:Tq1 n F Q k env' st' ids') (hob:AG ob:=by simp [Ap]):Tq1 n F Q todo env st ids:=rg [] h hob hd
theorem rgf (f:Nat) (h:run ttR n f [] todo env st ids [] = .at k env' st' ids' ob) (hob:AG ob) (hd:Tq1 n F Q k env' st' ids'):Tq1 n F Q todo env st ids:=J4 AE Fh f [] h hob hd
theorem ri {m:Int} {t:Nat} (h:Se ttR n env todo=some ⟨es,m,sz,e,g,ob,some t,todo'⟩) (hc:Ap g->0<=m/\es[m.toNat]?=some c/\c.length=sz) (hob:AG ob) (hk:Tq1 n F Q todo' ((t,gD g (.ip e c 0))::env) st ids):Tq1 n F Q todo env st ids:=HT AE h hc hob hk
theorem riz {i:Nat} {t:Nat} (h:Se ttR n env todo=some ⟨es,(i:Int),sz,e,g,ob,some t,todo'⟩) (hg:es[i]?=some c) (hk:Tq1 n F Q todo' ((t,gD g (.ip e c 0))::env) st ids) (hl:c.length=sz:=by simp) (hob:AG ob:=by simp):Tq1 n F Q todo env st ids:=ri h (λ_=>⟨by omega,by simpa using hg,hl⟩) hob hk
theorem rizc {i:Nat} {t:Nat} (h:Se ttR n env todo=some ⟨es,(i:Int),sz,e,g,ob,some t,todo'⟩) (hg:es[i]?=some c) (hk:Tq1 n F Q todo' ((t,gD g (.ip e c 0))::env) st ids) (hl:c.length=sz:=by simp) (hob:AG ob:=by simp [Ap]):Tq1 n F Q todo env st ids:=ri h (λ_=>⟨by omega,by simpa using hg,hl⟩) hob hk
end
def Il (L S:List Ty):List V:=[.sl (A0 L),.sl (A0 S)]
@[simp] theorem dSt_length (L S:List Ty):(Il L S).length=2:=rfl
theorem pP (L:List Ty) (i:Nat) (t:Ty):A0 (L.set i t)=(A0 L).set i (Al t):=by simp [CU,List.map_set]
theorem PM (L S:List Ty) (hs:Sol (Fk L) θ) (hd:Dom L.length (Fk L)) (t u:Ty) (ht:Top (Fk L) t u) (hi:inB L.length t):Tq3 123 [.agg (Il L S),.agg (Al t)] (.agg (Al u)):=by
 obtain ⟨a1,a2,a3,a4⟩:=t;refine AQ AE func123 rfl [1,2,3,4]<|AP rfl<|Ak (λx:Ty=>[(2,.ref 1 0),(3,.ref 2 0),(4,.ref 3 0)]) (λx=>[(1,some (.immb 105 2 (Il L S))),(2,some (.immb 25 4 (Al x))),(3,some (.cells 25 4 [.imm (.int .i64 0),.imm (.int .i64 0),.imm (.str []),.nils]))]) [4] (λx=>if BQ x=9/\Fk L (num x)≠none then (num x).toNat+1 else 0)
  (λx=>Top (Fk L) x u/\inB L.length x) (.mk a1 a2 a3 a4) ⟨ht,hi⟩ AH AH rfl λx hx ih=>?_
 obtain ⟨hx1,hx2⟩:=hx;clear ht hi;obtain ⟨f,m,y,ps⟩:=x;by_cases e9:f=9
 ·subst e9;have hm:=hx2.num rfl;simp only [num] at hm;obtain ⟨v,hv⟩:=Am (l:=L) (i:=m.toNat) (by omega);have hg:=AA hv;have hsb:=rN hv;rw [show ((m.toNat:Nat):Int)=m by omega] at hsb;obtain ⟨v1,v2,v3,v4⟩:=v;refine AM rfl<|ri rfl (c:=Al (.mk v1 v2 v3 v4)) (λ_=>⟨hm.1,by simpa using hg,by simp⟩) (by simp [Ap])<|IX rfl ?_;by_cases ev:v1=0
  ·subst ev;have hsb:Fk L m=none:=hsb.trans (if_pos rfl);refine R7 rfl λh=>At rfl ?_;have hu:Ty.mk 9 m y ps=u:=by
    cases hx1 with
    | stop _=>rfl
    | step _ h2 _=>rw [show num (Ty.mk 9 m y ps)=m from rfl,hsb] at h2;cases h2
   subst hu;exact AM rfl<|Ab rfl rfl rfl
  ·have hsb:Fk L m=some (.mk v1 v2 v3 v4):=hsb.trans (if_neg ev);refine Aa rfl (λh=>?_) (λh=>by exfalso;simp at h;exact ev h);clear h;refine AM rfl<|ri rfl (c:=Al (.mk v1 v2 v3 v4)) (λ_=>⟨hm.1,by simpa using hg,by simp⟩) (by simp)<|AP rfl ?_;have hx3:Top (Fk L) (.mk v1 v2 v3 v4) u:=by
    cases hx1 with
    | stop h=>have:=h rfl;rw [show num (Ty.mk 9 m y ps)=m from rfl,hsb] at this;cases this
    | step _ h2 h3=>rw [show num (Ty.mk 9 m y ps)=m from rfl,hsb] at h2;cases h2;exact h3
   refine Ae (ih (.mk v1 v2 v3 v4) ?_ ⟨hx3,(hd m _ hsb).2⟩) AH AH rfl;rw [if_pos (show BQ (Ty.mk 9 m y ps)=9/\Fk L (num (Ty.mk 9 m y ps))≠none from ⟨rfl,by rw [show num (Ty.mk 9 m y ps)=m from rfl,hsb];simp⟩)]
   split
   ·rename_i h;have:=hs.down m _ hsb h.1;simp only [num] at *;omega
   ·omega
 ·refine AM rfl<|ri rfl (c:=Al Dr) (λh=>absurd (of_decide_eq_true (show decide (f=9)=true from h)) e9) (by simp [Ap])<|IX rfl<|Aa rfl (λh=>by exfalso;simp [e9] at h) (λh=>?_);refine At rfl ?_;have hu:Ty.mk f m y ps=u:=by
   cases hx1 with
   | stop _=>rfl
   | step h1 _ _=>exact absurd h1 e9
  subst hu;exact AM rfl<|Ab rfl rfl rfl
theorem PT (n:Int):Tq3 48 [.int .i64 n] (.agg (Al (Ao n))):=by
 exact AQ AE func48 rfl [1,2]<|AP rfl<|Ab rfl rfl rfl
theorem tP (L S:List Ty) (n:Int) (t:Ty) (hn:0<=n/\n<L.length) (hL:L.length<=1000000):Tq3 124 [.agg (Il L S),.int .i64 n,.agg (Al t)] (.agg (Il (L.set n.toNat t) S)):=by
 obtain ⟨v,hv⟩:=Am (l:=L) (i:=n.toNat) (by omega);have hg:=AA hv;have hne:A0 L≠[]:=λe=>by rw [e] at hg;simp at hg
 have h4:∀c∈A0 L,c.length=4:=λc hc=>by rw [CU] at hc;obtain ⟨x,_,rfl⟩:=Cc.1 hc;simp
 have hset:=pP L n.toNat t;have hlen:(A0 L).length=L.length:=dTys_length L;obtain ⟨a1,a2,a3,a4⟩:=t;refine AQ AE func124 rfl [1,2,3,4,5,6]<|AP rfl<|Bn AE rfl ⟨h4,by simp only [maxLen,B5] at *;omega,by simp only [B5] at *;omega,trivial⟩<|AP rfl<|FG AE rfl (λ_=>⟨hn.1,by simp;omega⟩) (by simp)<|AP rfl<|Kj AE (e:=Al v) (e':=Al (.mk a1 a2 a3 a4)) rfl (by simpa using hg) (by show 0+4<=4;decide) (by obtain ⟨v1,v2,v3,v4⟩:=v;simp) (by simp)<|AP rfl<|Bv 4 rfl<|Ab rfl rfl (congrArg _ ?_);simp only [Il,hset];rfl
theorem eO (L S:List Ty) (hs:Sol (Fk L) θ) (hd:Dom L.length (Fk L)) (n:Int):∀(N:Nat) (t:Ty),DH (A9 θ t)<=N->C9 t=true->inB L.length t->Tq3 125 [.agg (Il L S),.int .i64 n,.agg (Al t)] (.bool (decide (n∈CO (A9 θ t)))):=by
 intro N
 induction N with
 | zero=>intro t h;have:=HE (A9 θ t);omega
 | succ N ih =>
 intro t hN hw hi;obtain ⟨u,hu⟩:=L8 hs t;have hH:=PM L S hs hd t u hu hi;have wu:=hu.wf hs hw;have iu:=hu.inB hd hi;have eu:=hu.ap hs.eq;have ue:=hu.end_;rw [eu] at hN ⊢;clear hu eu hw hi;obtain ⟨a1,a2,a3,a4⟩:=t;obtain ⟨f,m,y,ps⟩:=u;refine AQ AE func125 rfl [1,2,3,4]<|AP rfl<|Ad rfl hH<|AP rfl ?_;by_cases e9:f=9
 ·subst e9;refine R6 rfl λh=>AM rfl<|Ab rfl rfl (congrArg _ ?_);have h0:=hs.free m (ue rfl);have:n∈CO (A9 θ (.mk 9 m y ps))↔m=n:=by
   rw [show A9 θ (.mk 9 m y ps)=θ m by simp [A9],h0];simp [Ao,CO,eq_comm]
  rw [EY];simp [this]
 ·refine Aa rfl (λh=>by exfalso;simp [e9] at h) (λh=>?_);clear h;have hl:ps.length<=3:=Ie wu;have hmem:n∈CO (A9 θ (.mk f m y ps))↔∃p∈ps,n∈CO (A9 θ p):=by
   simp only [A9,if_neg e9,CO,Ib,JS,Cc];constructor
   ·rintro ⟨_,⟨p,h1,rfl⟩,h2⟩;exact ⟨p,h1,h2⟩
   ·rintro ⟨p,h1,h2⟩;exact ⟨_,⟨p,h1,rfl⟩,h2⟩
  refine AM rfl<|Ak (λi:Nat=>[(7,.imm (.int .i64 i)),(1,.imm (.int .i64 n)),(3,.ref 1 0),(5,.ref 2 0)]) (λ_=>[(1,some (.immb 105 2 (Il L S))),(2,some (.immb 25 4 (Al (.mk f m y ps))))]) [3,4] (λi=>ps.length-i) (λi=>i<=ps.length/\∀p∈ps.take i,n∉CO (A9 θ p)) 0 ⟨AF _,λp hp=>by simp at hp⟩
   BJ AD rfl λi hi' ih2=>?_
  obtain ⟨hi1,hi2⟩:=hi';refine AM rfl<|Aa rfl (λh=>?_) (λh=>?_)
  ·have hlt:i<ps.length:=by simp at h;omega
   obtain ⟨p,hp⟩:=Am hlt;have hpm:=AK hp;have hg:=AA hp;have hsz:=Uu (θ:=θ) (t:=.mk f m y ps) e9 hpm;have hI:=ih p (by omega) (EU wu p hpm) (iu.part e9 hpm);obtain ⟨p1,p2,p3,p4⟩:=p;refine AM rfl<|riz rfl hg<|AP rfl<|Ad rfl hI<|rg [] rfl (by simp;rfl) ?_;by_cases hq:n∈CO (A9 θ (.mk p1 p2 p3 p4))
   ·refine Aa rfl (λh=>?_) (λh=>by exfalso;simp [hq] at h);exact AM rfl<|Ag ⟨_,rfl,tV (congrArg _ (decide_eq_true (hmem.2 ⟨_,hpm,hq⟩)).symm),trivial⟩
   ·refine Aa rfl (λh=>by exfalso;simp [hq] at h) (λh=>?_);refine AM rfl<|Ae (ih2 (i+1) (by omega) ⟨by omega,λx hx=>?_⟩) ⟨M6,AH⟩ AD rfl;rw [Bk hp] at hx;rcases BU.1 hx with hx | hx
    ·exact hi2 x hx
    ·rw [AN.1 hx];exact hq
  ·have hlt:¬i<ps.length:=by simp at h;omega
   rw [CQ (by omega)] at hi2;refine At rfl<|AM rfl<|Ag ⟨_,rfl,tV (congrArg _ (decide_eq_false λh=>?_).symm),trivial⟩;obtain ⟨p,h1,h2⟩:=hmem.1 h;exact hi2 p h1 h2
theorem zem (L S:List Ty) (hs:Sol (Fk L) θ) (hd:Dom L.length (Fk L)):∀(N:Nat) (t:Ty),DH (A9 θ t)<=N->C9 t=true->inB L.length t->Tq3 66 [.agg (Il L S),.agg (Al t)] (.agg (Al (A9 θ t))):=by
 intro N
 induction N with
 | zero=>intro t h;have:=HE (A9 θ t);omega
 | succ N ih =>
 intro t hN hw hi;obtain ⟨u,hu⟩:=L8 hs t;have hH:=PM L S hs hd t u hu hi;have wu:=hu.wf hs hw;have iu:=hu.inB hd hi;have eu:=hu.ap hs.eq;have ue:=hu.end_;rw [eu] at hN ⊢;clear hu eu hw hi;have hl:=Ie wu;have hps:∀(i:Nat) p,(Ff u)[i]?=some p->BQ u≠9/\Tq3 66 [.agg (Il L S),.agg (Al p)] (.agg (Al (A9 θ p))):=λi p hp=>by
  have hpm:=AK hp;by_cases e9:BQ u=9
  ·have:=E7 wu e9;rw [this] at hpm;simp [Ao,Ff] at hpm
  ·have hsz:=Uu (θ:=θ) e9 hpm;exact ⟨e9,ih p (by omega) (EU wu p hpm) (iu.part e9 hpm)⟩
 have hfin:A9 θ u = .mk (BQ u) (num u) (jM u) ((Ff u).map (A9 θ)):=by
  by_cases e9:BQ u=9
  ·have e1:=E7 wu e9;rw [GK e9,hs.free _ (ue e9),e1];rfl
  ·obtain ⟨f,n,x,h1,_,h3⟩:=Ya (θ:=θ) e9;rw [h3,h1];rfl
 rw [hfin];obtain ⟨a1,a2,a3,a4⟩:=t;obtain ⟨f,m,y,ps⟩:=u;simp only [Ff] at hps hl;simp only [BQ,num,jM,Ff];refine AQ AE func66 rfl [1,2,3,4,5,6]<|AP rfl<|Ad rfl hH<|AP rfl<|HX (e:=25) (sz:=4) 5 4 (by decide) rfl<|Ak (λi:Nat=>[(6,.imm (.int .i64 i)),(2,.ref 1 0),(3,.ref 2 0),(4,.ref 3 0),(5,.own 4 (A0 ((ps.take i).map (A9 θ))).length)]) (λi=>[(1,some (.immb 105 2 (Il L S))),(2,some (.immb 25 4 (Al (.mk f m y ps)))),(3,some (.cells 25 4 [.imm (.int .i64 0),.imm (.int .i64 0),.imm (.str []),.nils])),(4,some (.row 25 4 (A0 ((ps.take i).map (A9 θ)))))]) [5,6] (λi=>ps.length-i) (λi=>i<=ps.length) 0 (AF _)
  BA BJ rfl λi hi' ih2=>?_
 refine AM rfl<|Aa rfl (λh=>?_) (λh=>?_)
 ·have hlt:i<ps.length:=by simp at h;omega
  obtain ⟨p,hp⟩:=Am hlt;have hg:=AA hp;have hI:=(hps i p hp).2;have hih:=ih2 (i+1) (by omega) (by omega);rw [Bk hp,CL,E4,show A0 (List.map (A9 θ) [p])=[Al (A9 θ p)] from rfl] at hih;have hlen:(A0 ((ps.take i).map (A9 θ))).length<=3:=by rw [dTys_length,Dh,FA];omega
  have h4:∀c∈A0 ((ps.take i).map (A9 θ)),c.length=4:=λc hc=>by rw [CU] at hc;obtain ⟨x,_,rfl⟩:=Cc.1 hc;simp
  generalize A0 ((ps.take i).map (A9 θ))=R at *;obtain ⟨p1,p2,p3,p4⟩:=p;generalize A9 θ (.mk p1 p2 p3 p4)=q at *;obtain ⟨q1,q2,q3,q4⟩:=q;exact AM rfl<|riz rfl hg<|AP rfl<|Ad rfl hI<|AP rfl<|Bn AE rfl ⟨by simp,by simp [maxLen];omega,by simp;omega,trivial⟩<|rg [] rfl (by simp;rfl)<|Bo 4 5 rfl<|Ae hih ⟨M6,rfl,rfl,rfl,by simp only [AZ];rfl,trivial⟩ BJ rfl
 ·have hlt:¬i<ps.length:=by simp at h;omega
  refine At rfl ?_;rw [CQ (by omega)];exact Bv 4 rfl<|AM rfl<|Ab rfl rfl rfl
noncomputable def rD (σ:Sb) (t:Ty):Ty:=open Classical in if h:∃u,Top σ t u then h.choose else t
theorem PE {u:Ty} (h:Top σ t u):rD σ t=u:=by
 have hx:∃u,Top σ t u:=⟨u,h⟩
 unfold rD;rw [dif_pos hx];exact Ur hx.choose_spec h
noncomputable def Na (E:List Ty->Ty->Ty->List Ty×Bool):List Ty->List Ty->List Ty->List Ty×Bool
 | L,a::xs,b::ys=>if (E L a b).2=true then Na E (E L a b).1 xs ys else E L a b
 | L,_,_=>(L,true)
noncomputable def FM (E:List Ty->Ty->Ty->List Ty×Bool) (L:List Ty) (u v:Ty):List Ty×Bool:=open Classical in
 if BQ u=9 then
  if BQ v=9 then
   if num u=num v then (L,true) else (L.set (max (num u) (num v)).toNat (Ao (min (num u) (num v))),true)
  else (L.set (num u).toNat v,decide (¬jG (Fk L) (num u) v))
 else if BQ v=9 then (L.set (num v).toNat u,decide (¬jG (Fk L) (num v) u))
 else if EW u v then Na E L (Ff u) (Ff v) else (L,false)
noncomputable def eqF:Nat->List Ty->Ty->Ty->List Ty×Bool
 | 0,L,_,_=>(L,false)
 | k+1,L,a,b=>FM (eqF k) L (rD (Fk L) a) (rD (Fk L) b)
def qS (L:List Ty) (x:List Ty×Bool) (r:Option Sb):Prop:=x.1.length=L.length/\x.2=r.isSome/\∀σ',r=some σ'->Fk x.1=σ'
structure StL (L:List Ty):Prop where
 sol:∃θ,Sol (Fk L) θ
 dom:Dom L.length (Fk L)
 len:L.length<=1000000
structure TypL (L:List Ty) (t:Ty):Prop where
 wf:C9 t=true
 inb:inB L.length t
theorem TypL.part (h:TypL L t) (h9:BQ t≠9) (hp:p∈Ff t):TypL L p:=⟨EU h.wf p hp,h.inb.part h9 hp⟩
theorem TypL.top (hL:StL L) {u:Ty} (ht:Top (Fk L) t u) (h:TypL L t):TypL L u:=by
 obtain ⟨θ,hs⟩:=hL.sol;exact ⟨ht.wf hs h.wf,ht.inB hL.dom h.inb⟩
theorem StL.of {k:Nat} {b:Ty} {σ':Sb} (hL:StL L) (ha:TypL L a) (hb:TypL L b) (h:Ox k (Fk L) a b (some σ')) (hl:L'.length=L.length) (he:Fk L'=σ'):StL L':=by
 obtain ⟨θ,hs⟩:=hL.sol;obtain ⟨g1,g2,_,_⟩:=Ru h hs hL.dom ha.wf hb.wf ha.inb hb.inb;subst he;exact ⟨g1,by rw [hl];exact g2,by rw [hl];exact hL.len⟩
theorem TypL.len (h:L'.length=L.length) (ht:TypL L t):TypL L' t:=⟨ht.wf,by rw [h];exact ht.inb⟩
theorem Nb:∀(k:Nat) (L:List Ty) (a b:Ty) (r:Option Sb),Ox k (Fk L) a b r->StL L->TypL L a->TypL L b->qS L (eqF k L a b) r
 | 0,_,_,_,_,h,_,_,_=>h.elim
 | k+1,L,a,b,r,⟨u,v,h1,h2,h3⟩,hL,ha,hb=>by
  have tu:=ha.top hL h1;have tv:=hb.top hL h2;rw [eqF,PE h1,PE h2];unfold FM;rcases h3 with ⟨u9,v9,e,rfl⟩ | ⟨u9,v9,e,rfl⟩ | ⟨u9,v9,e,rfl⟩ | ⟨u9,v9,e,rfl⟩ | ⟨u9,v9,e,rfl⟩ | ⟨u9,v9,e,rfl⟩ | ⟨u9,v9,e,rfl⟩ | ⟨u9,v9,e,h⟩
  ·rw [if_pos u9,if_pos v9,if_pos e];exact ⟨rfl,rfl,λσ' h=>by cases h;rfl⟩
  ·have bu:=tu.inb.num u9;have bv:=tv.inb.num v9;rw [if_pos u9,if_pos v9,if_neg e];refine ⟨by simp,rfl,λσ' h=>?_⟩;cases h;exact U3 ⟨by omega,by omega⟩ (by simp [Ao,BQ])
  ·have bu:=tu.inb.num u9;rw [if_pos u9,if_neg v9];exact ⟨by simp,by simp [e],λσ' h=>by cases h⟩
  ·have bu:=tu.inb.num u9;rw [if_pos u9,if_neg v9];exact ⟨by simp,by simp [e],λσ' h=>by cases h;exact U3 bu (jT tv.wf)⟩
  ·have bv:=tv.inb.num v9;rw [if_neg u9,if_pos v9];exact ⟨by simp,by simp [e],λσ' h=>by cases h⟩
  ·have bv:=tv.inb.num v9;rw [if_neg u9,if_pos v9];exact ⟨by simp,by simp [e],λσ' h=>by cases h;exact U3 bv (jT tu.wf)⟩
  ·rw [if_neg u9,if_neg v9,if_neg e];exact ⟨rfl,rfl,λσ' h=>by cases h⟩
  ·rw [if_neg u9,if_neg v9,if_pos e];have key:∀(xs ys:List Ty) (L:List Ty) (r:Option Sb),StL L->(∀x∈xs,TypL L x)->(∀y∈ys,TypL L y)->Le (Ox k) (Fk L) xs ys r->qS L (Na (eqF k) L xs ys) r:=by
    intro xs
    induction xs with
    | nil=>intro ys L r _ _ _ h;cases ys with
     | nil =>
      simp only [Le] at h;subst h;exact ⟨rfl,rfl,λσ' h=>by cases h;rfl⟩
     | cons=>exact h.elim
    | cons x xs ih=>intro ys L r hL hx hy h;cases ys with
     | nil=>exact h.elim
     | cons y ys =>
      rcases h with ⟨h1,rfl⟩ | ⟨σ1,h1,h2⟩
      ·obtain ⟨s1,s2,s3⟩:=Nb k L x y none h1 hL (hx x (by simp)) (hy y (by simp));simp only [Na];rw [if_neg (by rw [s2];simp)];exact ⟨s1,s2,s3⟩
      ·obtain ⟨s1,s2,s3⟩:=Nb k L x y (some σ1) h1 hL (hx x (by simp)) (hy y (by simp));have s3:=s3 σ1 rfl;have hL':=hL.of (hx x (by simp)) (hy y (by simp)) h1 s1 s3;simp only [Na];rw [if_pos (by rw [s2];rfl)];rw [<- s3] at h2;obtain ⟨q1,q2,q3⟩:=ih ys (eqF k L x y).1 r hL' (λz hz=>(hx z (by simp [hz])).len s1) (λz hz=>(hy z (by simp [hz])).len s1) h2;exact ⟨q1.trans s1,q2,q3⟩
   exact key _ _ L r hL (λx hx=>tu.part u9 hx) (λy hy=>tv.part v9 hy) h
theorem jI:∀(k:Nat) (L S:List Ty) (a b:Ty) (r:Option Sb),Ox k (Fk L) a b r->StL L->TypL L a->TypL L b ->
  Tq3 65 [.agg (Il L S),.agg (Al a),.agg (Al b)] (.tup [.agg (Il (eqF k L a b).1 S),.bool (eqF k L a b).2]):=by
 intro k
 induction k with
 | zero=>intro L S a b r h;exact h.elim
 | succ k ih =>
 intro L S a b r hE hL ha hb;obtain ⟨u,v,h1,h2,h3⟩:=hE;obtain ⟨θ,hs⟩:=hL.sol;have tu:=ha.top hL h1;have tv:=hb.top hL h2;have hHa:=PM L S hs hL.dom a u h1 ha.inb;have hHb:=PM L S hs hL.dom b v h2 hb.inb;have hSt:=λn t (ht:TypL L t)=>eO L S hs hL.dom n (DH (A9 θ t)) t (BL _) ht.wf ht.inb;have hOc:=λn t=>hs.occ (n:=n) (t:=t);have hGv:=λn t hn=>tP L S n t hn hL.len;rw [eqF,PE h1,PE h2];clear h1 h2 ha hb;have e1:BQ u=9->BQ v=9->num u=num v->FM (eqF k) L u v=(L,true):=λh1 h2 h3=>by unfold FM;rw [if_pos h1,if_pos h2,if_pos h3]
 have e2:BQ u=9->BQ v=9->num u≠num v->FM (eqF k) L u v=(L.set (max (num u) (num v)).toNat (Ao (min (num u) (num v))),true):=λh1 h2 h3=>by unfold FM;rw [if_pos h1,if_pos h2,if_neg h3]
 have e3:BQ u=9->BQ v≠9->∀o:Bool,(o=true↔num u∈CO (A9 θ v))->FM (eqF k) L u v=(L.set (num u).toNat v,!o):=λh1 h2 o ho=>by
  unfold FM;rw [if_pos h1,if_neg h2];cases o with
  | true=>simp [hOc,ho.1 rfl]
  | false=>simp [hOc];exact λh=>Bool.false_ne_true (ho.2 h)
 have e4:BQ u≠9->BQ v=9->∀o:Bool,(o=true↔num v∈CO (A9 θ u))->FM (eqF k) L u v=(L.set (num v).toNat u,!o):=λh1 h2 o ho=>by
  unfold FM;rw [if_neg h1,if_pos h2];cases o with
  | true=>simp [hOc,ho.1 rfl]
  | false=>simp [hOc];exact λh=>Bool.false_ne_true (ho.2 h)
 have e5:BQ u≠9->BQ v≠9->¬EW u v->FM (eqF k) L u v=(L,false):=λh1 h2 h3=>by unfold FM;rw [if_neg h1,if_neg h2,if_neg h3]
 have e6:BQ u≠9->BQ v≠9->EW u v->FM (eqF k) L u v=Na (eqF k) L (Ff u) (Ff v):=λh1 h2 h3=>by unfold FM;rw [if_neg h1,if_neg h2,if_pos h3]
 have bu:=λh=>tu.inb.num h;have bv:=λh=>tv.inb.num h;have hEq:BQ u≠9->BQ v≠9->EW u v->Le (Ox k) (Fk L) (Ff u) (Ff v) r:=λh1 h2 h4=>by simpa [Dp,h1,h2,h4] using h3
 have pu:=λh p hp=>tu.part h (p:=p) hp;have pv:=λh p hp=>tv.part h (p:=p) hp;have lu:=Ie tu.wf;have hS1:=λn=>hSt n v tv;have hS2:=λn=>hSt n u tu;clear h3 hSt hOc;obtain ⟨a1,a2,a3,a4⟩:=a;obtain ⟨b1,b2,b3,b4⟩:=b;obtain ⟨f,m,x,ps⟩:=u;obtain ⟨g,n,y,qs⟩:=v;simp only [BQ,num,Ff,jM,EW] at *;refine AQ AE func65 rfl [1,2,3,4,5,6,7,8]<|AP rfl<|Ad rfl hHa<|AP rfl<|Ad rfl hHb<|rg [] rfl (by simp;rfl) ?_;by_cases u9:f=9
 ·have bu':=bu u9;by_cases v9:g=9
  ·have bv':=bv v9;subst u9;subst v9;refine R6 rfl λh=>?_;clear h;refine AM rfl ?_;by_cases e:m=n
   ·rw [e1 rfl rfl e];refine Aa rfl (λh=>?_) (λh=>by exfalso;simp [e] at h);exact AM rfl<|Ab rfl rfl rfl
   ·rw [e2 rfl rfl e];refine Aa rfl (λh=>by exfalso;simp [e] at h) (λh=>?_);clear h;have hG:=hGv (max m n) (Ao (min m n)) (by omega);have hHo:=PT (min m n);have m1:max m n=if n > m then n else m:=by split <;> omega
    have m2:min m n=if n<m then n else m:=by split <;> omega
    rw [m1,m2] at hG ⊢;rw [m2] at hHo;exact AM rfl<|Ad rfl hHo<|AP rfl<|Ad rfl hG<|rg [] rfl (by simp;rfl)<|Ab rfl rfl rfl
  ·subst u9;have hG:=hGv m (.mk g n y qs) bu';obtain ⟨o,ho,hS⟩:∃o:Bool,(o=true↔m∈CO (A9 θ (.mk g n y qs)))/\Tq3 125 [.agg (Il L S),.int .i64 m,.agg (Al (.mk g n y qs))] (.bool o):=⟨_,by simp,hS1 m⟩
   rw [e3 rfl v9 o ho];refine Aa rfl (λh=>by exfalso;simp [v9] at h) (λh=>?_);clear h;refine AM rfl<|R6 rfl λh=>?_;clear h;exact AM rfl<|Ad rfl hG<|AP rfl<|Ad rfl hS<|rg [] rfl (by simp;rfl)<|Ab rfl rfl rfl
 ·refine Aa rfl (λh=>by exfalso;simp [u9] at h) (λh=>?_);clear h;refine AM rfl<|Aa rfl (λh=>by exfalso;simp [u9] at h) (λh=>?_);clear h;refine AM rfl ?_;by_cases v9:g=9
  ·have bv':=bv v9;subst v9;have hG:=hGv n (.mk f m x ps) bv';obtain ⟨o,ho,hS⟩:∃o:Bool,(o=true↔n∈CO (A9 θ (.mk f m x ps)))/\Tq3 125 [.agg (Il L S),.int .i64 n,.agg (Al (.mk f m x ps))] (.bool o):=⟨_,by simp,hS2 n⟩
   rw [e4 u9 rfl o ho];refine R6 rfl λh=>?_;clear h;exact AM rfl<|Ad rfl hG<|AP rfl<|Ad rfl hS<|rg [] rfl (by simp;rfl)<|Ab rfl rfl rfl
  ·refine Aa rfl (λh=>by exfalso;simp [v9] at h) (λh=>?_);clear h;refine AM rfl ?_;by_cases hh:f=g/\m=n/\x=y/\ps.length=qs.length
   case neg =>
    rw [e5 u9 v9 hh];refine Aa rfl (λh=>?_) (λh=>by exfalso;apply hh;simp at h;grind);exact AM rfl<|Ab rfl rfl rfl
   rw [e6 u9 v9 hh];have hEq':=hEq u9 v9 hh;have pu':=pu u9;have pv':=pv v9;obtain ⟨rfl,rfl,rfl,hl⟩:=hh;clear hEq pu pv;clear e1 e2 e3 e4 e5 e6 bu bv hS1 hS2 hGv hHa hHb;refine Aa rfl (λh=>by exfalso;simp [hl] at h) (λh=>?_);clear h;refine AM rfl<|Ak (λz:Nat×List Ty×Bool=>[(9,.imm (.int .i64 z.1)),(8,.imm (.bool z.2.2)),(3,.ref 1 0),(4,.ref 2 0),(5,.ref 3 0),(6,.ref 4 0)]) (λz=>[(1,some (.immb 105 2 (Il z.2.1 S))),(2,some (.immb 25 4 (Al (.mk f m x ps)))),(3,some (.immb 25 4 (Al (.mk f m x qs)))),(4,some (.cells 105 2 [.nils,.nils]))]) [5,6,7,8]
    (λz=>ps.length-z.1) (λz=>z.1<=ps.length/\(z.2.2=true->StL z.2.1/\z.2.1.length=L.length/\Le (Ox k) (Fk z.2.1) (ps.drop z.1) (qs.drop z.1) r/\Na (eqF k) L ps qs=Na (eqF k) z.2.1 (ps.drop z.1) (qs.drop z.1))/\(z.2.2=false->Na (eqF k) L ps qs=(z.2.1,false)))
    (0,L,true) ⟨AF _,λ_=>⟨hL,rfl,hEq',rfl⟩,λh=>by cases h⟩ GE BJ rfl λz hz ihl=>?_
   clear hEq' hL hs;obtain ⟨i,L1,ok⟩:=z;obtain ⟨z1,z2,z3⟩:=hz;simp only at z1 z2 z3;refine AM rfl ?_;cases ok with
   | false =>
    rw [z3 rfl];exact R7 rfl λh=>At rfl<|AM rfl<|Ab rfl rfl rfl
   | true =>
    obtain ⟨hL1,hlen,hE1,hF1⟩:=z2 rfl;clear z2 z3;by_cases hlt:i<ps.length
    ·obtain ⟨p,hp⟩:=Am hlt;obtain ⟨q,hq⟩:=Am (l:=qs) (i:=i) (by omega);have hgp:=AA hp;have hgq:=AA hq;have tp:=(pu' p (AK hp)).len hlen;have tq:=(pv' q (AK hq)).len hlen;rw [As hp,As hq] at hE1 hF1;obtain ⟨r1,hr1⟩:∃r1,Ox k (Fk L1) p q r1:=by
      rcases hE1 with ⟨h,_⟩ | ⟨σ1,h,_⟩
      ·exact ⟨_,h⟩
      ·exact ⟨_,h⟩
     have hI:=ih L1 S p q r1 hr1 hL1 tp tq;obtain ⟨s1,s2,s3⟩:=Nb k L1 p q r1 hr1 hL1 tp tq;have hnext:(eqF k L1 p q).2=true->StL (eqF k L1 p q).1/\(eqF k L1 p q).1.length=L.length/\Le (Ox k) (Fk (eqF k L1 p q).1) (ps.drop (i+1)) (qs.drop (i+1)) r/\Na (eqF k) L ps qs=Na (eqF k) (eqF k L1 p q).1 (ps.drop (i+1)) (qs.drop (i+1)):=λh=>by
      rw [s2] at h;cases r1 with
      | none=>cases h
      | some σ1 =>
       have s3:=s3 σ1 rfl;refine ⟨hL1.of tp tq hr1 s1 s3,s1.trans hlen,?_,?_⟩
       ·rw [s3];rcases hE1 with ⟨h1,_⟩ | ⟨σ2,h1,h2⟩
        ·have:=Vs h1 hr1;cases this
        ·have:=Vs h1 hr1;cases this;exact h2
       ·rw [hF1,Na,if_pos (by rw [s2];rfl)]
     have hfail:(eqF k L1 p q).2=false->Na (eqF k) L ps qs=((eqF k L1 p q).1,false):=λh=>by
      rw [hF1,Na,if_neg (by rw [h];simp)];exact Prod.ext rfl h
     have hih:=ihl (i+1,(eqF k L1 p q).1,(eqF k L1 p q).2) (by simp only;omega) ⟨by simp only;omega,hnext,hfail⟩;clear hnext hfail s1 s2 s3 hr1 hE1 hF1 ihl;generalize eqF k L1 p q=X at *;obtain ⟨L2,ok2⟩:=X;simp only at hih hI;obtain ⟨p1,p2,p3,p4⟩:=p;obtain ⟨q1,q2,q3,q4⟩:=q;refine Aa rfl (λh=>?_) (λh=>by exfalso;simp at h;omega);clear h;exact AM rfl<|riz rfl hgp<|AP rfl<|riz rfl hgq<|AP rfl<|Ad rfl hI<|rg [] rfl (by simp;rfl)<|Ae hih ⟨M6,BA⟩ BJ rfl
    ·rw [Bh (by omega),Bh (by omega)] at hF1;rw [hF1];refine Aa rfl (λh=>by exfalso;simp at h;omega) (λh=>?_);exact At rfl<|AM rfl<|Ab rfl rfl rfl
theorem Po:∀a b:Ty,Tq3 21 [.agg (Al a),.agg (Al b)] (.bool (J8 a b))
 | .mk s n x ps,.mk s' n' x' qs=>by
  refine Bl λhv=>?_;simp [Cx,Ez,Al,maxLen] at hv;have hw1:=hv.1;refine AQ AE func21 rfl [1,2,3]<|IX rfl<|Aa rfl (λh=>?_) (λh=>?_)
  ·refine AM rfl<|Ab rfl rfl (congrArg _ ?_)
   symm
   simp only [J8];by_cases hl:ps.length=qs.length
   ·simp [hl] at h;cases he:FL ps qs <;> grind
   ·rw [TU hl,Bool.and_false]
  have hl:s=s'/\n=n'/\x=x'/\ps.length=qs.length:=by
   simp at h;grind
  obtain ⟨rfl,rfl,rfl,hl⟩:=hl;refine AM rfl<|Ak (λi:Nat=>[(5,.imm (.int .i64 i)),(2,.ref 1 0),(3,.ref 2 0)]) (λ_=>[(1,some (.immb 25 4 (Al (.mk s n x ps)))),(2,some (.immb 25 4 (Al (.mk s n x qs))))]) [3] (λi=>ps.length-i) (λi=>i<=ps.length/\FL ps qs=FL (ps.drop i) (qs.drop i)) 0
   ⟨AF _,rfl⟩ AH AD rfl λi hi ih=>?_
  obtain ⟨hi1,hi2⟩:=hi;refine AM rfl<|Aa rfl (λh1=>?_) (λh1=>?_)
  ·simp at h1;obtain ⟨p,hp⟩:=Am h1;obtain ⟨q,hq⟩:=Am (l:=qs) (i:=i) (by omega);rw [As hp,As hq] at hi2;simp only [FL] at hi2;refine AM rfl<|riz rfl (AA hp)<|AP rfl<|riz rfl (AA hq)<|AP rfl<|Aj rfl (λ_=>Po p q) (by simp)<|rg [] rfl (by simp;rfl)<|Aa rfl (λh2=>?_) (λh2=>?_)
   ·refine AM rfl<|Ab rfl rfl (congrArg _ ?_);have:J8 p q=false:=by simpa using h2
    simp [J8,hi2,this]
   ·refine AM rfl ?_;have:J8 p q=true:=by simpa using h2
    rw [this,JU] at hi2;exact Ae (ih (i+1) (by omega) ⟨by omega,hi2⟩) ⟨M6,AD⟩ AD rfl
  ·simp at h1;rw [Bh (by omega),Bh (by omega)] at hi2;refine At rfl<|AM rfl<|Ab rfl rfl (congrArg _ ?_);simp [J8,hi2,FL]
termination_by a=>SizeOf.sizeOf a
decreasing_by
 all_goals
  have:=Ct (AK hp);simp_wf;omega
theorem Ny (s:Int) (ps:List Ty):Tq3 105 [.int .i64 s,.sl (A0 ps)] (.agg (Al (.mk s 0 [] ps))):=by
 exact AQ AE func105 rfl [1,2]<|AP rfl<|Ab rfl rfl rfl
theorem DW:Tq3 49 [] (.agg (Al AU)):=by
 exact AQ AE func49 rfl [1,2]<|AP rfl<|Aj rfl (λ_=>Ny 1 []) (by simp)<|AP rfl<|Ab rfl rfl rfl
theorem KW:Tq3 50 [] (.agg (Al Ca)):=by
 exact AQ AE func50 rfl [1,2]<|AP rfl<|Aj rfl (λ_=>Ny 2 []) (by simp)<|AP rfl<|Ab rfl rfl rfl
theorem Jw:Tq3 221 [] (.agg (Al Dm)):=by
 exact AQ AE func221 rfl [1,2]<|AP rfl<|Aj rfl (λ_=>Ny 3 []) (by simp)<|AP rfl<|Ab rfl rfl rfl
theorem Ow (a b:Ty):Tq3 41 [.agg (Al a),.agg (Al b)] (.agg (Al (Be a b))):=by
 have h:=Ny 4 [a,b];obtain ⟨a1,a2,a3,a4⟩:=a;obtain ⟨b1,b2,b3,b4⟩:=b;exact AQ AE func41 rfl [1,2,3,4]<|AP rfl<|Ad rfl h<|AP rfl<|Ab rfl rfl rfl
theorem JP (s:Int) (a:Ty):Tq3 222 [.int .i64 s,.agg (Al a)] (.agg (Al (Ir s a))):=by
 have h:=Ny s [a];obtain ⟨a1,a2,a3,a4⟩:=a;exact AQ AE func222 rfl [1,2,3,4]<|AP rfl<|Ad rfl h<|AP rfl<|Ab rfl rfl rfl
mutual
def Uy:Ty->Bool
 | .mk f n _ ps=>(f != 9||(decide (0<=n)&&decide (n<=99)))&&PH ps
def PH:List Ty->Bool
 | []=>true
 | t::r=>Uy t&&PH r
end
theorem FJ (L S:List Ty) (hL:L.length<=1000000):Tq3 150 [.agg (Il L S)] (.tup [.agg (Al (Ao L.length)),.agg (Il (L++[Dr]) S)]):=by
 have hH:=PT L.length;have h4:∀c∈A0 L,c.length=4:=λc hc=>by rw [CU] at hc;obtain ⟨x,_,rfl⟩:=Cc.1 hc;simp
 have hlen:(A0 L).length=L.length:=dTys_length L;have happ:A0 (L++[Dr])=A0 L++[Al Dr]:=E4 L [Dr];refine AQ AE func150 rfl [1,2,3,4,5,6]<|AP rfl ?_;by_cases hne:L=[]
 ·subst hne;have e0:A0 []=[]:=rfl;simp only [Il,e0];exact LR AE rfl<|AP rfl<|Bn AE rfl ⟨by simp,by simp [maxLen],by simp,trivial⟩<|rgf 3 rfl (by simp)<|Bv 4 rfl<|AM rfl<|Ad rfl hH<|rg [] rfl (by simp;rfl)<|Ab rfl rfl rfl
 ·have hw:IntKind.i64.wrap ((([]++A0 L++[Al Dr]).length:Int)-1)=L.length:=by
   have e:(([]++A0 L++[Al Dr]).length:Int)=L.length+1:=by simp
   rw [e,BW (by omega) (by omega)];omega
  have hH':Tq3 48 [.int .i64 (IntKind.i64.wrap ((([]++A0 L++[Al Dr]).length:Int)-1))] (.agg (Al (Ao L.length))):=by rw [hw];exact hH
  refine Bn AE rfl ⟨h4,by simp only [maxLen,B5] at *;omega,by simp only [B5] at *;omega,trivial⟩<|AP rfl<|Bn AE rfl ⟨by simp,by simp only [maxLen,B5,G5,AZ,Cq] at *;omega,by simp only [B5,G5,AZ,Cq] at *;omega,trivial⟩<|rgf 3 rfl (by simp)<|Bv 5 rfl<|AM rfl<|Aj rfl (λ_=>hH') (by simp)<|rg [] rfl (by simp;rfl)<|Ab rfl rfl (congrArg _ ?_);simp only [Il,happ];rfl
def Vw (p:Str×Ty):List V:=.str p.1::Al p.2
def dKns (Γ:Au):List (List V):=Γ.map Vw
@[simp] theorem dKn_length (p:Str×Ty):(Vw p).length=5:=by simp [Vw]
@[simp] theorem dKns_length (Γ:Au):(dKns Γ).length=Γ.length:=by simp [dKns]
theorem Ni {i:Nat} {p:Str×Ty} (h:Γ[i]?=some p):(dKns Γ)[i]?=some (Vw p):=by simp [dKns,h]
theorem GZ {i:Nat} {d:Dt} (h:l[i]?=some d):(l.map BE)[i]?=some (BE d):=by simp [h]
theorem Nj {l:List Cd} {i:Nat} {d:Cd} (h:l[i]?=some d):(l.map CK)[i]?=some (CK d):=by simp [h]
theorem HZ {l:List Fd} {i:Nat} {d:Fd} (h:l[i]?=some d):(l.map Cg)[i]?=some (Cg d):=by simp [h]
theorem QU:∀(Γ:Au) (p:Str×Ty) (x:Str),LP (Γ++[p]) x=if p.1=x then some p.2 else LP Γ x
 | [],(y,t),x=>by simp [LP]
 | (z,u)::r,p,x=>by
  simp only [D0,LP,QU r p x];by_cases h:p.1=x
  ·simp [h]
  ·simp [h]
theorem Me (Γ:Au) (x:Str) (t:Ty) (hΓ:Γ.length<=1000000):Tq3 219 [.sl (dKns Γ),.str x,.agg (Al t)] (.sl (dKns (Γ++[(x,t)]))):=by
 have h4:∀c∈dKns Γ,c.length=5:=λc hc=>by obtain ⟨x,_,rfl⟩:=Cc.1 hc;simp
 have hlen:(dKns Γ).length=Γ.length:=by simp
 have happ:dKns (Γ++[(x,t)])=dKns Γ++[Vw (x,t)]:=by simp [dKns]
 obtain ⟨a1,a2,a3,a4⟩:=t;refine AQ AE func219 rfl [1,2,3,4,5,6]<|AP rfl ?_;by_cases hne:Γ=[]
 ·subst hne;have e0:dKns []=[]:=rfl;simp only [e0];exact LR AE rfl<|AP rfl<|Bn AE rfl ⟨by simp,by simp [maxLen],by simp,trivial⟩<|rg [] rfl (by simp;rfl)<|Bv 2 rfl<|Ab rfl rfl rfl
 ·refine Bn AE rfl ⟨h4,by simp only [maxLen,B5] at *;omega,by simp only [B5] at *;omega,trivial⟩<|AP rfl<|Bn AE rfl ⟨by simp,by simp only [maxLen,B5,G5,AZ,Cq] at *;omega,by simp only [B5,G5,AZ,Cq] at *;omega,trivial⟩<|rg [] rfl (by simp;rfl)<|Bv 3 rfl<|Ab rfl rfl (congrArg _ ?_);simp only [happ];rfl
theorem XK (m:Md) (n:Nat) (d:Dt) (h:m.datas[n]?=some d):Tq3 148 [.agg (dMdc m),.int .i64 n] (.agg (Al (Bx d.name))):=by
 have hg:=GZ h;obtain ⟨d1,d2⟩:=d;exact AQ AE func148 rfl [1,2]<|AP rfl<|ri rfl (c:=BE ⟨d1,d2⟩) (λ_=>⟨by simp,by simpa using hg,by simp [BE]⟩) (by simp)<|AP rfl<|Ab rfl rfl rfl
def HA:List Dt->Str->Option (Cd×Nat)
 | [],_=>none
 | d::r,x=>match Ju d.cons x with
  | some c=>some (c,0)
  | none=>(HA r x).map λp=>(p.1,p.2+1)
theorem On:∀{l:List Dt} {x:Str},(HA l x=none->Fj l x=none)/\∀c n,HA l x=some (c,n)->∃d,l[n]?=some d/\Fj l x=some (c,d.name)
 | [],x=>⟨λ_=>rfl,λc n h=>by cases h⟩
 | d::r,x=>by
  obtain ⟨i1,i2⟩:=On (l:=r) (x:=x);simp only [HA,Fj];cases hc:Ju d.cons x with
  | some c=>exact ⟨λh=>(nomatch h),λc' n h=>by cases h;exact ⟨d,rfl,rfl⟩⟩
  | none =>
   refine ⟨λh=>?_,λc n h=>?_⟩
   ·cases hr:HA r x with
    | none=>exact i1 hr
    | some p=>rw [hr] at h;cases h
   ·cases hr:HA r x with
    | none=>rw [hr] at h;cases h
    | some p =>
     rw [hr] at h;obtain ⟨c1,n1⟩:=p;cases h;obtain ⟨d',h1,h2⟩:=i2 _ _ hr;exact ⟨d',h1,h2⟩
theorem iY {i:Nat} {d:Dt} (h:l[i]?=some d) (x:Str):HA (l.drop i) x=match Ju d.cons x with
  | some c=>some (c,0)
  | none=>(HA (l.drop (i+1)) x).map λp=>(p.1,p.2+1):=by rw [As h];rfl
theorem Ub {l:List Cd} {i:Nat} {c:Cd} (h:l[i]?=some c) (x:Str):Ju (l.drop i) x=if c.name=x then some c else Ju (l.drop (i+1)) x:=by rw [As h];rfl
def zac (r:Option (Cd×Nat)):V:=match r with
 | some (c,n)=>.tup [.agg (CK c),.int .i64 n,.bool true]
 | none=>.tup [.agg [.str [],.sl []],.int .i64 0,.bool false]
theorem PU (m:Md) (x:Str):Tq3 146 [.agg (dMdc m),.str x] (zac (HA m.datas x)):=by
 obtain ⟨m1,ds,m3⟩:=m;refine Bl λhv=>?_;simp [Cx,Ez,dMdc,maxLen] at hv;refine AQ AE func146 rfl [1,2,3]<|AP rfl<|Ak (λi:Nat=>[(7,.imm (.int .i64 i)),(1,.imm (.str x)),(2,.ref 1 0),(4,.ref 2 0)]) (λ_=>[(1,some (.immb 43 3 (dMdc ⟨m1,ds,m3⟩))),(2,some (.cells 178 2 [.imm (.str []),.nils]))]) [3] (λi=>ds.length-i)
  (λi=>i<=ds.length/\HA ds x=(HA (ds.drop i) x).map λp=>(p.1,p.2+i)) 0
  ⟨AF _,by cases h:HA ds x <;> simp [h]⟩ BJ AD rfl λi hi ih=>?_
 refine AM rfl<|Aa rfl (λh=>?_) (λh=>?_)
 ·have hlt:i<ds.length:=by simp at h;omega
  obtain ⟨d,hd⟩:=Am hlt;have hg:=GZ hd;have hdr:=iY hd x;have hcl:d.cons.length<=maxLen:=by
   have:=It.1 hv.1.2 (BE d) (Cc.2 ⟨d,AK hd,rfl⟩);simp [BE,Cx,Ez] at this;exact this.1
  obtain ⟨d1,cs⟩:=d;simp only [maxLen] at hdr hcl;refine AM rfl<|Ak (λj:Nat=>[(8,.imm (.int .i64 j)),(7,.imm (.int .i64 i)),(1,.imm (.str x)),(2,.ref 1 0),(4,.ref 2 0)]) (λ_=>[(1,some (.immb 43 3 (dMdc ⟨m1,ds,m3⟩))),(2,some (.cells 178 2 [.imm (.str []),.nils]))]) [3] (λj=>cs.length-j)
   (λj=>j<=cs.length/\Ju cs x=Ju (cs.drop j) x) 0
   ⟨AF _,rfl⟩ BA AD rfl λj hj jh=>?_
  refine AM rfl<|ri rfl (c:=BE ⟨d1,cs⟩) (λ_=>⟨by simp,by simpa using hg,by simp [BE]⟩) (by simp)<|AP rfl<|Aa rfl (λh=>?_) (λh=>?_)
  ·have hjl:j<cs.length:=by simp at h;omega
   obtain ⟨c,hc⟩:=Am hjl;have hgc:=Nj hc;have hcr:=Ub hc x;obtain ⟨c1,cps⟩:=c;simp only at hcr;refine AM rfl<|ri rfl (c:=BE ⟨d1,cs⟩) (λ_=>⟨by simp,by simpa using hg,by simp [BE]⟩) (by simp)<|AP rfl<|ri rfl (c:=CK ⟨c1,cps⟩) (λ_=>⟨by simp,by simpa using hgc,by simp [CK]⟩) (by simp)<|AP rfl<|Aa rfl (λh2=>?_) (λh2=>?_)
   ·refine AM rfl<|ri rfl (c:=BE ⟨d1,cs⟩) (λ_=>⟨by simp,by simpa using hg,by simp [BE]⟩) (by simp)<|AP rfl<|ri rfl (c:=CK ⟨c1,cps⟩) (λ_=>⟨by simp,by simpa using hgc,by simp [CK]⟩) (by simp)<|AP rfl<|Ab rfl rfl ?_;have hx:c1=x:=by simpa using h2
    rw [hi.2,hdr,hj.2,hcr,if_pos hx];simp [zac]
   ·refine AM rfl ?_;have hx:c1≠x:=by simpa using h2
    exact Ae (jh (j+1) (by omega) ⟨by omega,by rw [hj.2,hcr,if_neg hx]⟩) ⟨M6,BJ⟩ AD rfl
  ·have hjl:¬j<cs.length:=by simp at h;omega
   refine At rfl<|AM rfl ?_;have hn:Ju cs x=none:=by rw [hj.2,Bh (by omega)];rfl
   rw [hn] at hdr;exact Ae (ih (i+1) (by omega) ⟨by omega,by rw [hi.2,hdr];cases HA (ds.drop (i+1)) x <;> simp;omega⟩) ⟨M6,AH⟩ AD rfl
 ·have hlt:¬i<ds.length:=by simp at h;omega
  refine At rfl<|AM rfl ?_;have hn:HA ds x=none:=by rw [hi.2,Bh (by omega)];rfl
  refine Ab rfl rfl ?_;simp only [hn];rfl
theorem TK {l:List Fd} {i:Nat} {f:Fd} (h:l[i]?=some f) (x:Str):MV (l.drop i) x=if f.name=x then some (Be f.from_ f.to_) else MV (l.drop (i+1)) x:=by rw [As h];rfl
def zP (r:Option Ty):V:=match r with
 | some t=>.tup [.agg (Al t),.bool true]
 | none=>.tup [.agg (Al Dr),.bool false]
theorem nJ (m:Md) (Γ:Au) (x:Str):Tq3 145 [.agg (dMdc m),.sl (dKns Γ),.str x] (zP (CM m Γ x)):=by
 obtain ⟨m1,ds,fs⟩:=m;refine Bl λhv=>?_;simp [Cx,Ez,dMdc,maxLen] at hv;refine AQ AE func145 rfl [1,2,3]<|AP rfl<|Ak (λj:Nat=>[(8,.imm (.int .i64 ((j:Int)-1))),(1,.imm (.sl (dKns Γ))),(2,.imm (.str x)),(3,.ref 1 0),(6,.ref 2 0)]) (λ_=>[(1,some (.immb 43 3 (dMdc ⟨m1,ds,fs⟩))),(2,some (.cells 25 4 [.imm (.int .i64 0),.imm (.int .i64 0),.imm (.str []),.nils]))]) [3] (λj=>j)
  (λj=>j<=Γ.length/\LP Γ x=LP (Γ.take j) x) Γ.length
  ⟨BL _,by rw [Ig]⟩ ⟨A8 (by simp;exact BW (by omega) (by omega)),BJ⟩ AD rfl λj hj jh=>?_
 refine AM rfl<|Aa rfl (λh=>?_) (λh=>?_)
 ·have h1:1<=j:=by simp at h;omega
  obtain ⟨i,rfl⟩:∃i,j=i+1:=⟨j-1,by omega⟩
  obtain ⟨p,hp⟩:=Am (l:=Γ) (i:=i) (by omega);have hg:=Ni hp;have hlk:=hj.2;rw [Bk hp,QU] at hlk;obtain ⟨y,u1,u2,u3,u4⟩:=p;refine AM rfl<|ri rfl (c:=Vw (y,.mk u1 u2 u3 u4)) (λ_=>⟨by simp,by simpa using hg,by simp⟩) (by simp)<|AP rfl<|Aa rfl (λh2=>?_) (λh2=>?_)
  ·have hx:y=x:=by simpa using h2
   rw [if_pos hx] at hlk;refine AM rfl<|ri rfl (c:=Vw (y,.mk u1 u2 u3 u4)) (λ_=>⟨by simp,by simpa using hg,by simp⟩) (by simp)<|AP rfl<|Ab rfl rfl ?_;simp only [CM,hlk];rfl
  ·have hx:y≠x:=by simpa using h2
   rw [if_neg hx] at hlk;exact AM rfl<|Ae (jh i (by omega) ⟨by omega,hlk⟩) ⟨A8 (by rw [BW (by omega) (by omega)];omega),BJ⟩ AD rfl
 ·have h1:j=0:=by simp at h;omega
  subst h1;have hlk:LP Γ x=none:=hj.2;refine At rfl<|AM rfl<|Ak (λi:Nat=>[(9,.imm (.int .i64 i)),(2,.imm (.str x)),(3,.ref 1 0),(6,.ref 2 0)]) (λ_=>[(1,some (.immb 43 3 (dMdc ⟨m1,ds,fs⟩))),(2,some (.cells 25 4 [.imm (.int .i64 0),.imm (.int .i64 0),.imm (.str []),.nils]))]) [3] (λi=>fs.length-i)
   (λi=>i<=fs.length/\MV fs x=MV (fs.drop i) x) 0
   ⟨AF _,rfl⟩ BJ AD rfl λi hi ih=>?_
  refine AM rfl<|Aa rfl (λh=>?_) (λh=>?_)
  ·have hlt:i<fs.length:=by simp at h;omega
   obtain ⟨f,hf⟩:=Am hlt;have hg:=HZ hf;have hft:=hi.2;rw [TK hf] at hft;have hF:=Ow f.from_ f.to_;obtain ⟨f1,f2,⟨a1,a2,a3,a4⟩,⟨b1,b2,b3,b4⟩,⟨c1,c2,c3,c4,c5⟩⟩:=f;simp only at hft hF;refine AM rfl<|ri rfl (c:=Cg ⟨f1,f2,⟨a1,a2,a3,a4⟩,⟨b1,b2,b3,b4⟩,⟨c1,c2,c3,c4,c5⟩⟩) (λ_=>⟨by simp,by simpa using hg,by simp [Cg]⟩) (by simp)<|AP rfl<|Aa rfl (λh2=>?_) (λh2=>?_)
   ·have hx:f1=x:=by simpa using h2
    rw [if_pos hx] at hft;refine AM rfl<|ri rfl (c:=Cg ⟨f1,f2,⟨a1,a2,a3,a4⟩,⟨b1,b2,b3,b4⟩,⟨c1,c2,c3,c4,c5⟩⟩) (λ_=>⟨by simp,by simpa using hg,by simp [Cg]⟩) (by simp)<|AP rfl<|ri rfl (c:=Cg ⟨f1,f2,⟨a1,a2,a3,a4⟩,⟨b1,b2,b3,b4⟩,⟨c1,c2,c3,c4,c5⟩⟩) (λ_=>⟨by simp,by simpa using hg,by simp [Cg]⟩) (by simp)<|AP rfl<|Ad rfl hF<|rg [] rfl (by simp;rfl)<|Ab rfl rfl ?_;simp only [CM,hlk,hft];rfl
   ·have hx:f1≠x:=by simpa using h2
    rw [if_neg hx] at hft;exact AM rfl<|Ae (ih (i+1) (by omega) ⟨by omega,hft⟩) ⟨M6,AH⟩ AD rfl
  ·have hlt:¬i<fs.length:=by simp at h;omega
   have hft:=hi.2;rw [Bh (by omega)] at hft;refine At rfl<|AM rfl<|Ab rfl rfl ?_;simp only [CM,hlk,hft];rfl
noncomputable def thS (σ:Sb):Int->Ty:=open Classical in if h:∃θ,Sol σ θ then h.choose else Ao
theorem Us (h:Sol σ θ):thS σ=θ:=by
 have h':∃θ,Sol σ θ:=⟨θ,h⟩
 rw [thS,dif_pos h'];exact h'.choose_spec.unique h
def MF (σ:Sb):Nat->Nat
 | 0=>0
 | i+1=>if (σ (i:Int)).isSome then i+1 else MF σ i
noncomputable def zdn (σ:Sb) (H:Nat):List Ty:=(List.range (MF σ H)).map λi:Nat=>thS σ i
theorem jP (n:Nat) (h:n<=1000000):StL (List.replicate n Dr):=by
 refine ⟨⟨Ao,(?_:Sol _ _)⟩,?_,by simpa using h⟩
 ·rw [VZ];exact Sol.mk (λn t h=>nomatch h) (λn h=>rfl) (λn t h=>nomatch h) (λn t h=>nomatch h)
 ·rw [VZ];intro n t h;cases h
def Px {α:Type} (o:Bool) (x:α):Option α:=if o=true then some x else none
@[simp] theorem resO_true (x:α):Px true x=some x:=rfl
@[simp] theorem resO_false (x:α):Px false x=none:=rfl
theorem Fe {β:Type} (f:α->β) (o:Bool) (x:α):(Px o x).map f=Px o (f x):=by cases o <;> rfl
theorem StL.ok (h:StL L):StOk L.length (Fk L):=⟨by omega,h.dom,h.sol⟩
def zap (L:List Ty) (a b:Ty) (L':List Ty) (o:Bool):Prop:=L'.length=L.length/\(o=true->StL L') /\
 match Px o (Fk L') with | some σ'=>StpR L.length (Fk L) L.length σ' (λ_=>()) (λη _=>A9 η a=A9 η b) | none=>StpN (Fk L) (β:=Unit) (λη _=>A9 η a=A9 η b)
theorem Vr {b:Ty} (hL:StL L) (ha:TypL L a) (hb:TypL L b):∃L' o,zap L a b L' o/\∀S,Tq3 65 [.agg (Il L S),.agg (Al a),.agg (Al b)] (.tup [.agg (Il L' S),.bool o]):=by
 obtain ⟨n,r,hE,hr⟩:=YA hL.ok ha.wf hb.wf ha.inb hb.inb;obtain ⟨q1,q2,q3⟩:=Nb n L a b r hE hL ha hb;refine ⟨(eqF n L a b).1,(eqF n L a b).2,⟨q1,?_,?_⟩,λS=>jI n L S a b r hE hL ha hb⟩
 ·intro ho;rw [q2] at ho;cases r with
  | none=>cases ho
  | some σ'=>exact hL.of ha hb hE q1 (q3 σ' rfl)
 ·rw [q2];cases r with
  | none=>exact hr
  | some σ' =>
   simp only [Option.isSome_some,resO_true];rw [q3 σ' rfl];exact hr
def qL (m:Md) (p t:Ty) (Γ:Au) (L:List Ty) (Γ':Au) (L':List Ty) (o:Bool):Prop :=
 Ld m p t Γ L.length (Fk L) (Px o (Γ',Fk L'))/\L'.length=L.length/\(o=true->StL L'/\Γ'.length<=Γ.length+DH p)
def uX (m:Md) (ps ts:List Ty) (Γ:Au) (L:List Ty) (Γ':Au) (L':List Ty) (o:Bool):Prop :=
 Pp m ps ts Γ L.length (Fk L) (Px o (Γ',Fk L'))/\L'.length=L.length/\(o=true->StL L'/\Γ'.length<=Γ.length+CX ps)
def Iq (m:Md) (S:List Ty) (p t:Ty) (Γ:Au) (L:List Ty) (Γ':Au) (L':List Ty) (o:Bool):Prop :=
 Tq3 220 [.agg (dMdc m),.sl (dKns Γ),.agg (Al p),.agg (Al t),.agg (Il L S)] (.tup [.sl (dKns Γ'),.agg (Il L' S),.bool o])
def PatsC (m:Md) (S:List Ty):List Ty->List Ty->Au->List Ty->Au->List Ty->Bool->Prop
 | p::ps,t::ts,Γ,L,Γ',L',o=>∃Γ1 L1 o1,Iq m S p t Γ L Γ1 L1 o1/\if o1=true then PatsC m S ps ts Γ1 L1 Γ' L' o else (Γ'=Γ1/\L'=L1/\o=false)
 | _,_,Γ,L,Γ',L',o=>Γ'=Γ/\L'=L/\o=true
theorem PatsC.stop {ts:List Ty} (h:Iq m S p t Γ L Γ1 L1 false):PatsC m S (p::ps) (t::ts) Γ L Γ1 L1 false:=by
 rw [PatsC];exact ⟨Γ1,L1,false,h,by rw [if_neg (by simp)];exact ⟨rfl,rfl,rfl⟩⟩
theorem PatsC.step {ts:List Ty} {Γ2:Au} {o:Bool} (h:Iq m S p t Γ L Γ1 L1 true) (h2:PatsC m S ps ts Γ1 L1 Γ2 L2 o):PatsC m S (p::ps) (t::ts) Γ L Γ2 L2 o:=by
 rw [PatsC];exact ⟨Γ1,L1,true,h,by rw [if_pos rfl];exact h2⟩
theorem Ws {m:Md} {S:List Ty} {n:Nat} (hP:∀(p t:Ty) (Γ:Au) (L:List Ty),DH p<=n->StL L->TypL L t->EnvOk L.length Γ->Γ.length+DH p<=1000000->∃Γ' L' o,Iq m S p t Γ L Γ' L' o/\qL m p t Γ L Γ' L' o) :
  ∀(ps ts:List Ty) (Γ:Au) (L:List Ty),ps.length=ts.length->CX ps<=n->StL L->(∀t∈ts,TypL L t)->EnvOk L.length Γ->Γ.length+CX ps<=1000000->∃Γ' L' o,PatsC m S ps ts Γ L Γ' L' o/\uX m ps ts Γ L Γ' L' o
 | [],[],Γ,L,_,_,hL,_,hΓ,_=>⟨Γ,L,true,⟨rfl,rfl,rfl⟩,Wr hL.ok hΓ,rfl,λ_=>⟨hL,by simp [CX]⟩⟩
 | [],_::_,_,_,h,_,_,_,_,_=>by cases h
 | _::_,[],_,_,h,_,_,_,_,_=>by cases h
 | p::ps,t::ts,Γ,L,h,hn,hL,ht,hΓ,hB=>by
  simp only [CX] at hn hB;have htt:TysOk L.length ts:=λu hu=>⟨(ht u (by simp [hu])).wf,(ht u (by simp [hu])).inb⟩
  obtain ⟨Γ1,L1,o1,c1,r1,l1,g1⟩:=hP p t Γ L (by omega) hL (ht t (by simp)) hΓ (by omega);cases o1 with
  | false=>exact ⟨Γ1,L1,false,PatsC.stop c1,Tb r1,l1,λh=>nomatch h⟩
  | true =>
   obtain ⟨s1,s2⟩:=g1 rfl;obtain ⟨Γ2,L2,o2,c2,r2,l2,g2⟩:=Ws hP ps ts Γ1 L1 (by simpa using h) (by omega) s1 (λu hu=>(ht u (by simp [hu])).len l1) (by rw [l1];exact r1.2) (by omega);rw [l1] at r2;refine ⟨Γ2,L2,o2,PatsC.step c1 c2,NJ htt r1 r2,l2.trans l1,λh=>⟨(g2 h).1,?_⟩⟩;have:=(g2 h).2;simp only [CX];omega
theorem TypL.lit (f:Int):TypL L (NW f):=by
 refine ⟨?_,?_⟩
 ·unfold NW;split
  ·rfl
  ·split <;> rfl
 ·refine BD ?_ _;unfold NW;split
  ·rfl
  ·split <;> rfl
theorem TypL.data (x:Str):TypL L (Bx x):=⟨by simp [Bx,C9,Gw],BD (by simp [Bx,CO,DK]) _⟩
theorem fK (m:Md) (S:List Ty) (f n:Int) (x:Str) (ps:List Ty) (t:Ty) (Γ:Au) (L L':List Ty) (o:Bool) (hf:f=3\/f=4\/f=5) (hE:Tq3 65 [.agg (Il L S),.agg (Al t),.agg (Al (NW f))] (.tup [.agg (Il L' S),.bool o])) :
  Iq m S (.mk f n x ps) t Γ L Γ L' o:=by
 unfold Iq;have hi:=DW;have hb:=KW;have hu:=Jw;obtain ⟨t1,t2,t3,t4⟩:=t;obtain ⟨m1,m2,m3⟩:=m;refine AQ AE func220 rfl [1,2,3,4,5,6]<|AP rfl<|Aa rfl (λh=>by exfalso;simp at h;omega) (λh=>?_);refine AM rfl ?_;rcases hf with rfl | rfl | rfl
 ·exact R6 rfl λh=>AM rfl<|Ad rfl hi<|AP rfl<|Ad rfl hE<|rg [] rfl (by simp;first | rfl | exact ⟨rfl,rfl⟩)<|Ab rfl rfl rfl
 ·exact R7 rfl λh=>AM rfl<|R6 rfl λh=>AM rfl<|Ad rfl hb<|AP rfl<|Ad rfl hE<|rg [] rfl (by simp;first | rfl | exact ⟨rfl,rfl⟩)<|Ab rfl rfl rfl
 ·exact R7 rfl λh=>AM rfl<|R7 rfl λh=>AM rfl<|R6 rfl λh=>AM rfl<|Ad rfl hu<|AP rfl<|Ad rfl hE<|rg [] rfl (by simp;first | rfl | exact ⟨rfl,rfl⟩)<|Ab rfl rfl rfl
theorem fL (m:Md) (S:List Ty) (f n:Int) (x:Str) (ps:List Ty) (t:Ty) (Γ:Au) (L:List Ty) (hf:f≠2/\f≠3/\f≠4/\f≠5/\f≠6) :
  Iq m S (.mk f n x ps) t Γ L Γ L true:=by
 unfold Iq;obtain ⟨t1,t2,t3,t4⟩:=t;obtain ⟨m1,m2,m3⟩:=m;obtain ⟨f2,f3,f4,f5,f6⟩:=hf;refine AQ AE func220 rfl [1,2,3,4,5,6]<|AP rfl<|Aa rfl (λh=>by exfalso;simp at h;exact f2 h) (λh=>?_);refine AM rfl<|Aa rfl (λh=>by exfalso;simp at h;exact f3 h) (λh=>?_);refine AM rfl<|Aa rfl (λh=>by exfalso;simp at h;exact f4 h) (λh=>?_);refine AM rfl<|Aa rfl (λh=>by exfalso;simp at h;exact f5 h) (λh=>?_);refine AM rfl<|Aa rfl (λh=>by exfalso;simp at h;exact f6 h) (λh=>?_);exact rd [] rfl (by simp;rfl)<|Ab rfl rfl rfl
theorem YK (m:Md) (S:List Ty) (n:Int) (x:Str) (ps:List Ty) (t:Ty) (Γ:Au) (L:List Ty) (hΓ:Γ.length<=1000000) :
  Iq m S (.mk 2 n x ps) t Γ L (Γ++[(x,t)]) L true:=by
 unfold Iq;have hw:=Me Γ x t hΓ;obtain ⟨t1,t2,t3,t4⟩:=t;obtain ⟨m1,m2,m3⟩:=m;exact AQ AE func220 rfl [1,2,3,4,5,6]<|AP rfl<|R6 rfl λh=>AM rfl<|Ad rfl hw<|rg [] rfl (by simp;rfl)<|Ab rfl rfl rfl
theorem JM (m:Md) (S:List Ty) (n:Int) (x:Str) (ps:List Ty) (t:Ty) (Γ:Au) (L:List Ty) (hC:HA m.datas x=none\/∃c i,HA m.datas x=some (c,i)/\c.args.length≠ps.length) :
  Iq m S (.mk 6 n x ps) t Γ L Γ L false:=by
 unfold Iq;have hc:=PU m x;obtain ⟨t1,t2,t3,t4⟩:=t;obtain ⟨m1,m2,m3⟩:=m;simp only at hC hc;refine AQ AE func220 rfl [1,2,3,4,5,6,7,8]<|AP rfl<|R7 rfl λh=>AM rfl<|R7 rfl λh=>AM rfl<|R7 rfl λh=>AM rfl<|R7 rfl λh=>AM rfl<|R6 rfl λh=>AM rfl ?_;rcases hC with hC | ⟨c,i,hC,hl⟩
 ·rw [hC] at hc;exact Ad rfl hc<|IX rfl<|R6 rfl λh=>rd [] rfl (by simp;first | rfl | exact ⟨rfl,rfl⟩)<|Ab rfl rfl rfl
 ·rw [hC] at hc;obtain ⟨c1,c2⟩:=c;simp only at hl;refine Ad rfl hc<|IX rfl<|Aa rfl (λh=>?_) (λh=>by exfalso;simp at h;exact hl (by omega));exact rd [] rfl (by simp;first | rfl | exact ⟨rfl,rfl⟩)<|Ab rfl rfl rfl
theorem Td (m:Md) (S:List Ty) (n:Int) (x:Str) (ps:List Ty) (t:Ty) (Γ:Au) (L L1:List Ty) (o1:Bool) (Γ':Au) (L':List Ty) (o':Bool) (c:Cd) (i:Nat) (d:Dt) (hC:HA m.datas x=some (c,i)) (hd:m.datas[i]?=some d) (hl:c.args.length=ps.length)
  (hE:Tq3 65 [.agg (Il L S),.agg (Al t),.agg (Al (Bx d.name))] (.tup [.agg (Il L1 S),.bool o1]))
  (hP:if o1=true then PatsC m S ps c.args Γ L1 Γ' L' o' else (Γ'=Γ/\L'=L1/\o'=false)) :
  Iq m S (.mk 6 n x ps) t Γ L Γ' L' o':=by
 unfold Iq;refine Bl λhv=>?_;simp [Cx,Ez,Al,maxLen] at hv;have hc:=PU m x;rw [hC] at hc;have hD:=XK m i d hd;obtain ⟨t1,t2,t3,t4⟩:=t;obtain ⟨c1,ts⟩:=c;obtain ⟨m1,m2,m3⟩:=m;simp only at hC hc hl hP;refine AQ AE func220 rfl [1,2,3,4,5,6,7,8]<|AP rfl<|R7 rfl λh=>AM rfl<|R7 rfl λh=>AM rfl<|R7 rfl λh=>AM rfl<|R7 rfl λh=>AM rfl<|R6 rfl λh=>AM rfl<|Ad rfl hc<|IX rfl<|Aa rfl (λh=>by exfalso;simp at h;exact h (by omega)) (λh=>?_)
 refine AM rfl<|Ad rfl hD<|AP rfl<|Ad rfl hE<|rg [] rfl (by simp;first | rfl | exact ⟨rfl,rfl⟩)<|Ak (λz:Nat×Au×List Ty×Bool=>[(17,.imm (.int .i64 z.1)),(1,.imm (.sl (dKns z.2.1))),(13,.imm (.bool z.2.2.2)),(5,.ref 1 0),(7,.ref 2 0),(9,.ref 4 0),(11,.ref 5 0),(14,.ref 6 0)])
  (λz=>[(1,some (.immb 43 3 (dMdc ⟨m1,m2,m3⟩))),(2,some (.immb 182 4 (Al (.mk 6 n x ps)))),(4,some (.immb 105 2 (Il z.2.2.1 S))),(5,some (.cells 105 2 [.nils,.nils])),(6,some (.immb 178 2 (CK ⟨c1,ts⟩)))]) [7,8] (λz=>ps.length-z.1)
  (λz=>z.1<=ps.length/\if z.2.2.2=true then PatsC ⟨m1,m2,m3⟩ S (ps.drop z.1) (ts.drop z.1) z.2.1 z.2.2.1 Γ' L' o' else (Γ'=z.2.1/\L'=z.2.2.1/\o'=false)) (0,Γ,L1,o1)
  ⟨AF _,hP⟩ Mr BA rfl λz hz ih=>?_
 obtain ⟨j,Δ,K,o⟩:=z;obtain ⟨hz1,hz2⟩:=hz;simp only at hz1 hz2 ih;refine zH rfl<|Aa rfl (λh=>?_) (λh=>?_)
 ·have hlt:j<ps.length/\o=true:=by simp at h;exact ⟨by omega,by grind⟩
  obtain ⟨hlt,rfl⟩:=hlt;obtain ⟨p,hp⟩:=Am hlt;obtain ⟨q,hq⟩:=Am (l:=ts) (i:=j) (by omega);have hgp:=AA hp;have hgq:=AA hq;rw [if_pos rfl,As hp,As hq,PatsC] at hz2;obtain ⟨Γ1,K1,o2,hI,hz2⟩:=hz2;unfold Iq at hI;have hih:=ih (j+1,Γ1,K1,o2) (by simp only;omega) ⟨by simp only;omega,hz2⟩;obtain ⟨p1,p2,p3,p4⟩:=p;obtain ⟨q1,q2,q3,q4⟩:=q;exact AM rfl<|riz rfl hgp<|AP rfl<|riz rfl hgq<|AP rfl<|Ad rfl hI<|rg [] rfl (by simp;first | rfl | exact ⟨rfl,rfl⟩)<|Ae hih ⟨M6,F6⟩ BA rfl
 ·have hlt:j=ps.length\/o=false:=by simp at h;grind
  refine At rfl<|rd [] rfl (by simp;first | rfl | exact ⟨rfl,rfl⟩)<|Ab rfl rfl ?_;cases o with
  | false =>
   obtain ⟨h1,h2,h3⟩:=hz2;rw [h1,h2,h3]
  | true =>
   rcases hlt with rfl | h
   ·rw [if_pos rfl,Bh (BL _)] at hz2;simp only [PatsC] at hz2;obtain ⟨h1,h2,h3⟩:=hz2;rw [h1,h2,h3]
   ·cases h
theorem sJ (hm:Dx m) (S:List Ty):∀(N:Nat) (p t:Ty) (Γ:Au) (L:List Ty),DH p<=N->StL L->TypL L t->EnvOk L.length Γ->Γ.length+DH p<=1000000->∃Γ' L' o,Iq m S p t Γ L Γ' L' o/\qL m p t Γ L Γ' L' o:=by
 intro N
 induction N with
 | zero=>intro p t Γ L h;have:=HE p;omega
 | succ N ih =>
 intro p t Γ L hN hL ht hΓ hB;obtain ⟨f,n,x,ps⟩:=p;have hB':=hB;simp only [DH] at hN hB';by_cases e2:f=2
 ·subst e2;refine ⟨Γ++[(x,t)],L,true,YK m S n x ps t Γ L (by omega),Wt hL.ok hΓ ht.wf ht.inb,rfl,λ_=>⟨hL,?_⟩⟩;simp only [DH,AZ,Cq,B5];omega
 by_cases e345:f=3\/f=4\/f=5
 ·obtain ⟨L',o,⟨r1,r2,r3⟩,hE⟩:=Vr hL ht (TypL.lit f);refine ⟨Γ,L',o,fK m S f n x ps t Γ L L' o e345 (hE S),?_,r1,λh=>⟨r2 h,by omega⟩⟩;have:=UE (m:=m) (n:=n) (x:=x) (ps:=ps) (τ:=t) (r:=Px o (Fk L')) hΓ e345 r3;rw [Fe] at this;exact this
 by_cases e6:f=6
 ·subst e6;obtain ⟨i1,i2⟩:=On (l:=m.datas) (x:=x);cases hC:HA m.datas x with
  | none =>
   exact ⟨Γ,L,false,JM m S n x ps t Γ L (.inl hC),GR (.inl (i1 hC)),rfl,λh=>nomatch h⟩
  | some ci =>
   obtain ⟨c,i⟩:=ci;obtain ⟨d,hd,hM⟩:=i2 c i hC;by_cases hl:c.args.length=ps.length
   ·obtain ⟨L1,o1,⟨r1,r2,r3⟩,hE⟩:=Vr hL ht (TypL.data d.name);cases o1 with
    | false =>
     exact ⟨Γ,L1,false,Td m S n x ps t Γ L L1 false Γ L1 false c i d hC hd hl (hE S) (by rw [if_neg (by simp)];exact ⟨rfl,rfl,rfl⟩),Q3 hM r3,r1,λh=>nomatch h⟩
    | true =>
     have hT:∀u∈c.args,TypL L1 u:=λu hu=>⟨(Fi hm hM u hu).2,BD (Fi hm hM u hu).1 _⟩
     obtain ⟨Γ',L',o',c1,g1,g2,g3⟩:=Ws ih ps c.args Γ L1 hl.symm (by omega) (r2 rfl) hT (by rw [r1];exact hΓ) (by omega);rw [r1] at g1;refine ⟨Γ',L',o',Td m S n x ps t Γ L L1 true Γ' L' o' c i d hC hd hl (hE S) (by rw [if_pos rfl];exact c1),UF hm hM hl hΓ r3 g1,g2.trans r1,λh=>⟨(g3 h).1,?_⟩⟩;have:=(g3 h).2;simp only [DH];omega
   ·exact ⟨Γ,L,false,JM m S n x ps t Γ L (.inr ⟨c,i,hC,hl⟩),GR (.inr ⟨c,d.name,hM,hl⟩),rfl,λh=>nomatch h⟩
 ·have hf:f≠2/\f≠3/\f≠4/\f≠5/\f≠6:=⟨e2,λh=>e345 (.inl h),λh=>e345 (.inr (.inl h)),λh=>e345 (.inr (.inr h)),e6⟩
  exact ⟨Γ,L,true,fL m S f n x ps t Γ L hf,cD hL.ok hΓ hf,rfl,λ_=>⟨hL,by omega⟩⟩
theorem xI (n:Int) (x:Str) (ks:List Tm) (ps:List Ty) (a:Ty):Tq3 151 [.agg (dTmc (.mk 1 n x ks ps)),.agg (Al a)] (.tup [.sl (A0 (A5 1 a).1),.agg (Al (A5 1 a).2.1),.bool true]):=by
 obtain ⟨a1,a2,a3,a4⟩:=a;exact AQ AE func151 rfl [1,2,3,4]<|rg [.a,.a] rfl (by simp)<|Ad rfl DW<|AP rfl<|Ab rfl rfl rfl
theorem xH (n:Int) (x:Str) (ks:List Tm) (ps:List Ty) (a:Ty):Tq3 151 [.agg (dTmc (.mk 2 n x ks ps)),.agg (Al a)] (.tup [.sl (A0 (A5 2 a).1),.agg (Al (A5 2 a).2.1),.bool true]):=by
 obtain ⟨a1,a2,a3,a4⟩:=a;exact AQ AE func151 rfl [1,2,3,4]<|rg [.a,.a,.a] rfl (by simp)<|Ad rfl KW<|AP rfl<|Ab rfl rfl rfl
theorem xG (n:Int) (x:Str) (ks:List Tm) (ps:List Ty) (a:Ty):Tq3 151 [.agg (dTmc (.mk 3 n x ks ps)),.agg (Al a)] (.tup [.sl (A0 (A5 3 a).1),.agg (Al (A5 3 a).2.1),.bool true]):=by
 obtain ⟨a1,a2,a3,a4⟩:=a;exact AQ AE func151 rfl [1,2,3,4]<|rg (Qy 4 [.a]) rfl (by simp)<|Ad rfl Jw<|AP rfl<|Ab rfl rfl rfl
theorem xF (n:Int) (x:Str) (ks:List Tm) (ps:List Ty) (a:Ty):Tq3 151 [.agg (dTmc (.mk 8 n x ks ps)),.agg (Al a)] (.tup [.sl (A0 (A5 8 a).1),.agg (Al (A5 8 a).2.1),.bool true]):=by
 obtain ⟨a1,a2,a3,a4⟩:=a;exact AQ AE func151 rfl [1,2,3,4]<|rg (Qy 5 [.a]) rfl (by simp)<|Ad rfl KW<|rg [] rfl (by simp;rfl)<|Ab rfl rfl rfl
theorem xE (n:Int) (x:Str) (ks:List Tm) (ps:List Ty) (a:Ty):Tq3 151 [.agg (dTmc (.mk 9 n x ks ps)),.agg (Al a)] (.tup [.sl (A0 (A5 9 a).1),.agg (Al (A5 9 a).2.1),.bool true]):=by
 obtain ⟨a1,a2,a3,a4⟩:=a;exact AQ AE func151 rfl [1,2,3,4]<|rg (Qy 7 [.a]) rfl (by simp)<|Ad rfl DW<|AP rfl<|Ad rfl DW<|AP rfl<|Ad rfl DW<|AP rfl<|Ab rfl rfl rfl
theorem sE (n:Int) (x:Str) (ks:List Tm) (ps:List Ty) (a:Ty):Tq3 151 [.agg (dTmc (.mk 10 n x ks ps)),.agg (Al a)] (.tup [.sl (A0 (A5 10 a).1),.agg (Al (A5 10 a).2.1),.bool true]):=by
 obtain ⟨a1,a2,a3,a4⟩:=a;exact AQ AE func151 rfl [1,2,3,4]<|rg (Qy 8 [.a]) rfl (by simp)<|Ad rfl DW<|AP rfl<|Ad rfl DW<|AP rfl<|Ad rfl DW<|AP rfl<|Ab rfl rfl rfl
theorem sD (n:Int) (x:Str) (ks:List Tm) (ps:List Ty) (a:Ty):Tq3 151 [.agg (dTmc (.mk 11 n x ks ps)),.agg (Al a)] (.tup [.sl (A0 (A5 11 a).1),.agg (Al (A5 11 a).2.1),.bool true]):=by
 obtain ⟨a1,a2,a3,a4⟩:=a;exact AQ AE func151 rfl [1,2,3,4]<|rg (Qy 8 [.a]) rfl (by simp)<|Ad rfl DW<|AP rfl<|Ad rfl DW<|AP rfl<|Ad rfl DW<|AP rfl<|Ab rfl rfl rfl
theorem sC (n:Int) (x:Str) (ks:List Tm) (ps:List Ty) (a:Ty):Tq3 151 [.agg (dTmc (.mk 12 n x ks ps)),.agg (Al a)] (.tup [.sl (A0 (A5 12 a).1),.agg (Al (A5 12 a).2.1),.bool true]):=by
 obtain ⟨a1,a2,a3,a4⟩:=a;exact AQ AE func151 rfl [1,2,3,4]<|rg (Qy 9 [.a]) rfl (by simp)<|Ad rfl DW<|AP rfl<|Ad rfl DW<|AP rfl<|Ad rfl KW<|AP rfl<|Ab rfl rfl rfl
theorem sB (n:Int) (x:Str) (ks:List Tm) (ps:List Ty) (a:Ty):Tq3 151 [.agg (dTmc (.mk 13 n x ks ps)),.agg (Al a)] (.tup [.sl (A0 (A5 13 a).1),.agg (Al (A5 13 a).2.1),.bool true]):=by
 obtain ⟨a1,a2,a3,a4⟩:=a;exact AQ AE func151 rfl [1,2,3,4]<|rg (Qy 10 [.a]) rfl (by simp)<|Ad rfl KW<|rg [] rfl (by simp;rfl)<|Ab rfl rfl rfl
theorem sA (n:Int) (x:Str) (ks:List Tm) (ps:List Ty) (a:Ty):Tq3 151 [.agg (dTmc (.mk 16 n x ks ps)),.agg (Al a)] (.tup [.sl (A0 (A5 16 a).1),.agg (Al (A5 16 a).2.1),.bool true]):=by
 have h5:=JP 5 a;obtain ⟨a1,a2,a3,a4⟩:=a;exact AQ AE func151 rfl [1,2,3,4]<|rg (Qy 11 [.a]) rfl (by simp)<|Ad rfl h5<|rg [] rfl (by simp;rfl)<|Ab rfl rfl rfl
theorem rZ (n:Int) (x:Str) (ks:List Tm) (ps:List Ty) (a:Ty):Tq3 151 [.agg (dTmc (.mk 17 n x ks ps)),.agg (Al a)] (.tup [.sl (A0 (A5 17 a).1),.agg (Al (A5 17 a).2.1),.bool true]):=by
 have h5:=JP 5 a;obtain ⟨a1,a2,a3,a4⟩:=a;exact AQ AE func151 rfl [1,2,3,4]<|rg (Qy 12 [.a]) rfl (by simp)<|Ad rfl h5<|rg [] rfl (by simp;rfl)<|Ab rfl rfl rfl
theorem rY (n:Int) (x:Str) (ks:List Tm) (ps:List Ty) (a:Ty):Tq3 151 [.agg (dTmc (.mk 18 n x ks ps)),.agg (Al a)] (.tup [.sl (A0 (A5 18 a).1),.agg (Al (A5 18 a).2.1),.bool true]):=by
 have h5:=JP 5 a;obtain ⟨a1,a2,a3,a4⟩:=a;exact AQ AE func151 rfl [1,2,3,4]<|rg (Qy 13 [.a]) rfl (by simp)<|Ad rfl h5<|AP rfl<|Ad rfl Jw<|rg [] rfl (by simp;rfl)<|Ab rfl rfl rfl
theorem rX (n:Int) (x:Str) (ks:List Tm) (ps:List Ty) (a:Ty):Tq3 151 [.agg (dTmc (.mk 19 n x ks ps)),.agg (Al a)] (.tup [.sl (A0 (A5 19 a).1),.agg (Al (A5 19 a).2.1),.bool true]):=by
 have hF:=Ow Dm a;have h7:=JP 7 a;obtain ⟨a1,a2,a3,a4⟩:=a;exact AQ AE func151 rfl [1,2,3,4]<|rg (Qy 14 [.a]) rfl (by simp)<|Ad rfl Jw<|AP rfl<|Ad rfl hF<|AP rfl<|Ad rfl h7<|rg [] rfl (by simp;rfl)<|Ab rfl rfl rfl
theorem rW (n:Int) (x:Str) (ks:List Tm) (ps:List Ty) (a:Ty):Tq3 151 [.agg (dTmc (.mk 20 n x ks ps)),.agg (Al a)] (.tup [.sl (A0 (A5 20 a).1),.agg (Al (A5 20 a).2.1),.bool true]):=by
 have h7:=JP 7 a;obtain ⟨a1,a2,a3,a4⟩:=a;exact AQ AE func151 rfl [1,2,3,4]<|rg (Qy 15 [.a]) rfl (by simp)<|Ad rfl h7<|rg [] rfl (by simp;rfl)<|Ab rfl rfl rfl
theorem rV (n:Int) (x:Str) (ks:List Tm) (ps:List Ty) (a:Ty):Tq3 151 [.agg (dTmc (.mk 21 n x ks ps)),.agg (Al a)] (.tup [.sl (A0 (A5 21 a).1),.agg (Al (A5 21 a).2.1),.bool true]):=by
 have h6:=JP 6 a;obtain ⟨a1,a2,a3,a4⟩:=a;exact AQ AE func151 rfl [1,2,3,4]<|rg (Qy 16 [.a]) rfl (by simp)<|Ad rfl h6<|AP rfl<|Ab rfl rfl rfl
theorem rU (n:Int) (x:Str) (ks:List Tm) (ps:List Ty) (a:Ty):Tq3 151 [.agg (dTmc (.mk 22 n x ks ps)),.agg (Al a)] (.tup [.sl (A0 (A5 22 a).1),.agg (Al (A5 22 a).2.1),.bool true]):=by
 have h6:=JP 6 a;obtain ⟨a1,a2,a3,a4⟩:=a;exact AQ AE func151 rfl [1,2,3,4]<|rg (Qy 17 [.a]) rfl (by simp)<|Ad rfl h6<|AP rfl<|Ad rfl Jw<|rg [] rfl (by simp;rfl)<|Ab rfl rfl rfl
theorem rT (n:Int) (x:Str) (ks:List Tm) (ps:List Ty) (a:Ty):Tq3 151 [.agg (dTmc (.mk 23 n x ks ps)),.agg (Al a)] (.tup [.sl (A0 (A5 23 a).1),.agg (Al (A5 23 a).2.1),.bool true]):=by
 have h6:=JP 6 a;obtain ⟨a1,a2,a3,a4⟩:=a;exact AQ AE func151 rfl [1,2,3,4]<|rg (Qy 18 [.a]) rfl (by simp)<|Ad rfl h6<|rg [] rfl (by simp;rfl)<|Ab rfl rfl rfl
theorem rS (n:Int) (x:Str) (ks:List Tm) (ps:List Ty) (a:Ty):Tq3 151 [.agg (dTmc (.mk 24 n x ks ps)),.agg (Al a)] (.tup [.sl (A0 (A5 24 a).1),.agg (Al (A5 24 a).2.1),.bool true]):=by
 obtain ⟨a1,a2,a3,a4⟩:=a;exact AQ AE func151 rfl [1,2,3,4]<|rg (Qy 19 [.a]) rfl (by simp)<|Ad rfl DW<|AP rfl<|Ad rfl Jw<|AP rfl<|Ab rfl rfl rfl
theorem rR (n:Int) (x:Str) (ks:List Tm) (ps:List Ty) (a:Ty):Tq3 151 [.agg (dTmc (.mk 25 n x ks ps)),.agg (Al a)] (.tup [.sl (A0 (A5 25 a).1),.agg (Al (A5 25 a).2.1),.bool true]):=by
 obtain ⟨a1,a2,a3,a4⟩:=a;exact AQ AE func151 rfl [1,2,3,4]<|rg [.a,.a] rfl (by simp)<|Ad rfl DW<|AP rfl<|Ab rfl rfl rfl
theorem rQ (n:Int) (x:Str) (ks:List Tm) (ps:List Ty) (a:Ty):Tq3 151 [.agg (dTmc (.mk 26 n x ks ps)),.agg (Al a)] (.tup [.sl (A0 (A5 26 a).1),.agg (Al (A5 26 a).2.1),.bool true]):=by
 obtain ⟨a1,a2,a3,a4⟩:=a;exact AQ AE func151 rfl [1,2,3,4]<|rg (Qy 20 [.a]) rfl (by simp)<|Ad rfl DW<|AP rfl<|Ad rfl DW<|AP rfl<|Ab rfl rfl rfl
theorem rP (n:Int) (x:Str) (ks:List Tm) (ps:List Ty) (a:Ty):Tq3 151 [.agg (dTmc (.mk 28 n x ks ps)),.agg (Al a)] (.tup [.sl (A0 (A5 28 a).1),.agg (Al (A5 28 a).2.1),.bool true]):=by
 obtain ⟨a1,a2,a3,a4⟩:=a;exact AQ AE func151 rfl [1,2,3,4]<|rg (Qy 4 [.a]) rfl (by simp)<|Ad rfl Jw<|AP rfl<|Ab rfl rfl rfl
theorem bT {op:Int} (h:BX op) (n:Int) (x:Str) (ks:List Tm) (ps:List Ty) (a:Ty):Tq3 151 [.agg (dTmc (.mk op n x ks ps)),.agg (Al a)] (.tup [.sl (A0 (A5 op a).1),.agg (Al (A5 op a).2.1),.bool true]):=by
 rcases h with rfl | rfl | rfl | rfl | rfl | rfl | rfl | rfl | rfl | rfl | rfl | rfl | rfl | rfl | rfl | rfl | rfl | rfl | rfl | rfl | rfl
 ·exact xI n x ks ps a
 ·exact rR n x ks ps a
 ·exact xH n x ks ps a
 ·exact xG n x ks ps a
 ·exact rP n x ks ps a
 ·exact xF n x ks ps a
 ·exact xE n x ks ps a
 ·exact sE n x ks ps a
 ·exact sD n x ks ps a
 ·exact sC n x ks ps a
 ·exact sB n x ks ps a
 ·exact sA n x ks ps a
 ·exact rZ n x ks ps a
 ·exact rY n x ks ps a
 ·exact rX n x ks ps a
 ·exact rW n x ks ps a
 ·exact rV n x ks ps a
 ·exact rU n x ks ps a
 ·exact rT n x ks ps a
 ·exact rS n x ks ps a
 ·exact rQ n x ks ps a
mutual
def H8:Tm->Nat
 | .mk _ _ _ ks ps=>1+BY ks+CX ps
def BY:List Tm->Nat
 | []=>0
 | t::r=>H8 t+BY r
end
theorem Uv (t:Tm):1<=H8 t:=by cases t;simp [H8];omega
theorem M5:∀{l:List Tm},CY l=true↔∀t∈l,Cb t=true
 | []=>by simp [CY]
 | t::r=>by simp [CY,M5 (l:=r)]
def Ar (op:Int) (k p:Nat):Prop:=(op=4/\k=0)\/(op=5/\k=1)\/(op=27/\k=1)\/(op=6/\k=2)\/(op=7/\k=2)\/op=14\/(op=15/\k=1+p)\/(BX op/\k=(A5 op (Ao 0)).1.length)
theorem Ar.rule {op:Int} {k p:Nat} (h:BX op) (hk:k=(A5 op (Ao 0)).1.length):Ar op k p:=.inr (.inr (.inr (.inr (.inr (.inr (.inr ⟨h,hk⟩))))))
theorem mH {op:Int} {k p:Nat} (h:B0 op n x k p=true):Ar op k p:=by
 unfold B0 at h;by_cases e0:op=1
 ·rw [if_pos e0] at h;have hk:k=0:=by simp only [A2,beq_iff_eq] at h;omega
  subst e0;exact Ar.rule (by unfold BX;decide) (by rw [hk];rfl)
 rw [if_neg e0] at h;by_cases e1:op=2
 ·rw [if_pos e1] at h;have hk:k=0:=by simp only [A2,beq_iff_eq] at h;omega
  subst e1;exact Ar.rule (by unfold BX;decide) (by rw [hk];rfl)
 rw [if_neg e1] at h;by_cases e2:op=3\/op=21\/op=25\/op=28
 ·rw [if_pos e2] at h;have hk:k=0:=by simp only [A2,beq_iff_eq] at h;omega
  rcases e2 with rfl | rfl | rfl | rfl
  ·exact Ar.rule (by unfold BX;decide) (by rw [hk];rfl)
  ·exact Ar.rule (by unfold BX;decide) (by rw [hk];rfl)
  ·exact Ar.rule (by unfold BX;decide) (by rw [hk];rfl)
  ·exact Ar.rule (by unfold BX;decide) (by rw [hk];rfl)
 rw [if_neg e2] at h;by_cases e3:op=4
 ·rw [if_pos e3] at h;have hk:k=0:=by simp only [A2,beq_iff_eq] at h;omega
  subst e3;exact .inl ⟨rfl,hk⟩
 rw [if_neg e3] at h;by_cases e4:op=5\/op=27
 ·rw [if_pos e4] at h;have hk:k=1:=by simp only [A2,beq_iff_eq] at h;omega
  rcases e4 with rfl | rfl
  ·exact .inr (.inl ⟨rfl,hk⟩)
  ·exact .inr (.inr (.inl ⟨rfl,hk⟩))
 rw [if_neg e4] at h;by_cases e5:op=7
 ·rw [if_pos e5] at h;have hk:k=2:=by simp only [A2,beq_iff_eq] at h;omega
  subst e5;exact .inr (.inr (.inr (.inr (.inl ⟨rfl,hk⟩))))
 rw [if_neg e5] at h;by_cases e6:op=8
 ·rw [if_pos e6] at h;have hk:k=3:=by simp only [A2,beq_iff_eq] at h;omega
  subst e6;exact Ar.rule (by unfold BX;decide) (by rw [hk];rfl)
 rw [if_neg e6] at h;by_cases e7:op=14
 ·rw [if_pos e7] at h;subst e7;exact .inr (.inr (.inr (.inr (.inr (.inl rfl)))))
 rw [if_neg e7] at h;by_cases e8:op=15
 ·rw [if_pos e8] at h;have hk:k=1+p:=by simp only [A2,beq_iff_eq] at h;omega
  subst e8;exact .inr (.inr (.inr (.inr (.inr (.inr (.inl ⟨rfl,hk⟩))))))
 rw [if_neg e8] at h;by_cases e9:op=16\/op=17\/op=19\/op=20\/op=23\/op=26
 ·rw [if_pos e9] at h;have hk:k=1:=by simp only [A2,beq_iff_eq] at h;omega
  rcases e9 with rfl | rfl | rfl | rfl | rfl | rfl
  ·exact Ar.rule (by unfold BX;decide) (by rw [hk];rfl)
  ·exact Ar.rule (by unfold BX;decide) (by rw [hk];rfl)
  ·exact Ar.rule (by unfold BX;decide) (by rw [hk];rfl)
  ·exact Ar.rule (by unfold BX;decide) (by rw [hk];rfl)
  ·exact Ar.rule (by unfold BX;decide) (by rw [hk];rfl)
  ·exact Ar.rule (by unfold BX;decide) (by rw [hk];rfl)
 rw [if_neg e9] at h;by_cases e10:op=24
 ·rw [if_pos e10] at h;have hk:k=1:=by simp only [A2,beq_iff_eq] at h;omega
  subst e10;exact Ar.rule (by unfold BX;decide) (by rw [hk];rfl)
 rw [if_neg e10] at h;by_cases e11:op=6\/op=9\/op=10\/op=11\/op=12\/op=13\/op=18\/op=22
 ·rw [if_pos e11] at h;have hk:k=2:=by simp only [A2,beq_iff_eq] at h;omega
  rcases e11 with rfl | rfl | rfl | rfl | rfl | rfl | rfl | rfl
  ·exact .inr (.inr (.inr (.inl ⟨rfl,hk⟩)))
  ·exact Ar.rule (by unfold BX;decide) (by rw [hk];rfl)
  ·exact Ar.rule (by unfold BX;decide) (by rw [hk];rfl)
  ·exact Ar.rule (by unfold BX;decide) (by rw [hk];rfl)
  ·exact Ar.rule (by unfold BX;decide) (by rw [hk];rfl)
  ·exact Ar.rule (by unfold BX;decide) (by rw [hk];rfl)
  ·exact Ar.rule (by unfold BX;decide) (by rw [hk];rfl)
  ·exact Ar.rule (by unfold BX;decide) (by rw [hk];rfl)
 rw [if_neg e11] at h;cases h
theorem cM {op:Int} (h:Cb (.mk op n x ks ps)=true):Ar op ks.length ps.length:=by
 simp only [Cb,A2] at h;exact mH h.1.1
theorem Tk {op:Int} (h:Cb (.mk op n x ks ps)=true):∀t∈ks,Cb t=true:=by
 simp only [Cb,A2] at h;exact M5.1 h.2
def Gr (m:Md) (Γ:Au) (t:Tm) (L S:List Ty) (τ:Ty) (L' S':List Ty) (o:Bool):Prop :=
 Tq3 88 [.agg (dMdc m),.sl (dKns Γ),.agg (dTmc t),.agg (Il L S)] (.tup [.agg (Al τ),.agg (Il L' S'),.bool o])
def vF (L S:List Ty) (a b:Ty) (L':List Ty) (o:Bool):Prop :=
 Tq3 65 [.agg (Il L S),.agg (Al a),.agg (Al b)] (.tup [.agg (Il L' S),.bool o])
def AllK (m:Md) (Γ:Au):List Tm->List Ty->List Ty->List Ty->List Ty->List Ty->Bool->Prop
 | t::ts,u::us,L,S,L',S',o=>∃τ L1 S1 o1,Gr m Γ t L S τ L1 S1 o1/\if o1=true then (∃L2 o2,vF L1 S1 τ u L2 o2/\if o2=true then AllK m Γ ts us L2 S1 L' S' o else (L'=L2/\S'=S1/\o=false)) else (L'=L/\S'=S/\o=false)
 | _,_,L,S,L',S',o=>L'=L/\S'=S/\o=true
def AllC (m:Md) (Γ:Au) (ts:List Tm) (us:List Ty) (L S L' S':List Ty) (o:Bool):Prop :=
 Tq3 147 [.agg (dMdc m),.sl (dKns Γ),.sl (Dq ts),.sl (A0 us),.agg (Il L S)] (.tup [.agg (Il L' S'),.bool o])
theorem Yb (m:Md) (Γ:Au) (ts:List Tm) (us:List Ty) (L S L' S':List Ty) (o:Bool) (hl:ts.length<=us.length) (h:AllK m Γ ts us L S L' S' o):AllC m Γ ts us L S L' S' o:=by
 unfold AllC;refine Bl λhv=>?_;simp [Cx,Ez,maxLen] at hv;obtain ⟨m1,m2,m3⟩:=m;refine AQ AE func147 rfl [1,2,3,4,5,6,7,8]<|AP rfl<|Ak (λz:Nat×List Ty×List Ty=>[(12,.imm (.int .i64 z.1)),(1,.imm (.sl (dKns Γ))),(2,.imm (.sl (Dq ts))),(3,.imm (.sl (A0 us))),(5,.ref 1 0),(9,.ref 2 0),(10,.ref 3 0)])
  (λz=>[(1,some (.immb 43 3 (dMdc ⟨m1,m2,m3⟩))),(2,some (.immb 105 2 (Il z.2.1 z.2.2))),(3,some (.cells 105 2 [.nils,.nils]))]) [4,5,6,7,8] (λz=>ts.length-z.1)
  (λz=>z.1<=ts.length/\AllK ⟨m1,m2,m3⟩ Γ (ts.drop z.1) (us.drop z.1) z.2.1 z.2.2 L' S' o) (0,L,S)
  ⟨AF _,h⟩ F6 AH rfl λz hz ih=>?_
 clear h;obtain ⟨j,K,R⟩:=z;obtain ⟨hz1,hz2⟩:=hz;simp only at hz1 hz2 ih;refine AM rfl<|Aa rfl (λh=>?_) (λh=>?_)
 ·have hlt:j<ts.length:=by simp at h;omega
  obtain ⟨t,ht⟩:=Am hlt;obtain ⟨u,hu⟩:=Am (l:=us) (i:=j) (by omega);have hgt:=E5 ht;have hgu:=AA hu;rw [As ht,As hu,AllK] at hz2;obtain ⟨τ,K1,R1,o1,hI,hz2⟩:=hz2;unfold Gr at hI;obtain ⟨t1,t2,t3,t4,t5⟩:=t;obtain ⟨u1,u2,u3,u4⟩:=u;obtain ⟨a1,a2,a3,a4⟩:=τ;refine AM rfl<|riz rfl hgt<|AP rfl<|Ad rfl hI ?_;cases o1 with
  | false =>
   refine rg [] rfl (by simp;rfl)<|R6 rfl λh=>AM rfl<|Ab rfl rfl ?_;obtain ⟨h1,h2,h3⟩:=hz2;rw [h1,h2,h3]
  | true =>
   obtain ⟨K2,o2,hE,hz2⟩:=hz2;unfold vF at hE;refine rg [] rfl (by simp;rfl)<|R7 rfl λh=>AM rfl<|riz rfl hgu<|AP rfl<|Ad rfl hE ?_;cases o2 with
   | false =>
    refine rg [] rfl (by simp;rfl)<|R6 rfl λh=>AM rfl<|Ab rfl rfl ?_;obtain ⟨h1,h2,h3⟩:=hz2;rw [h1,h2,h3]
   | true =>
    refine rg [] rfl (by simp;rfl)<|R7 rfl λh=>AM rfl ?_;have hih:=ih (j+1,K2,R1) (by simp only;omega) ⟨by simp only;omega,hz2⟩;exact Ae hih ⟨M6,GE⟩ AH rfl
 ·have hlt:j=ts.length:=by simp at h;omega
  subst hlt;refine At rfl<|AM rfl ?_;rw [Bh (BL _)] at hz2;simp only [AllK] at hz2;obtain ⟨h1,h2,h3⟩:=hz2;refine Ab rfl rfl ?_;rw [h1,h2,h3]
structure Bnd (Γ:Au) (L S:List Ty) (n:Nat):Prop where
 st:StL L
 env:EnvOk L.length Γ
 l:L.length+2*n<=1000000
 s:S.length+n<=1000000
 g:Γ.length+n<=1000000
def qQ (m:Md) (t:Tm) (Γ:Au) (L S:List Ty) (τ:Ty) (L' S':List Ty) (o:Bool):Prop :=
 ∃N,BM m Γ t L.length (Fk L) (Px o (τ,(L'.length:Int),Fk L',N))/\(o=true->StL L'/\S'=S++N/\N.length<=H8 t/\L'.length<=L.length+2*H8 t)
def vB (m:Md) (ts:List Tm) (us:List Ty) (Γ:Au) (L S:List Ty) (L' S':List Ty) (o:Bool):Prop :=
 ∃N,H6 m ts (us.map λu=>(Γ,u)) L.length (Fk L) (Px o ((L'.length:Int),Fk L',N))/\S'.length<=S.length+BY ts/\(o=true->StL L'/\S'=S++N/\N.length<=BY ts/\L'.length<=L.length+2*BY ts)
theorem AllK.stop1 {t:Tm} {u:Ty} {us:List Ty} (h:Gr m Γ t L S τ L1 S1 false):AllK m Γ (t::ts) (u::us) L S L S false:=by
 rw [AllK];refine ⟨τ,L1,S1,false,h,?_⟩;rw [if_neg (by simp)];exact ⟨rfl,rfl,rfl⟩
theorem AllK.stop2 {t:Tm} {u:Ty} {us:List Ty} (h:Gr m Γ t L S τ L1 S1 true) (h2:vF L1 S1 τ u L2 false):AllK m Γ (t::ts) (u::us) L S L2 S1 false:=by
 rw [AllK];refine ⟨τ,L1,S1,true,h,?_⟩;rw [if_pos rfl];refine ⟨L2,false,h2,?_⟩;rw [if_neg (by simp)];exact ⟨rfl,rfl,rfl⟩
theorem AllK.step {t:Tm} {u:Ty} {us:List Ty} {o:Bool} (h:Gr m Γ t L S τ L1 S1 true) (h2:vF L1 S1 τ u L2 true) (h3:AllK m Γ ts us L2 S1 L' S' o):AllK m Γ (t::ts) (u::us) L S L' S' o:=by
 rw [AllK];refine ⟨τ,L1,S1,true,h,?_⟩;rw [if_pos rfl];refine ⟨L2,true,h2,?_⟩;rw [if_pos rfl];exact h3
def bD (m:Md) (n:Nat):Prop:=∀(t:Tm) (Γ:Au) (L S:List Ty),H8 t<=n->Cb t=true->Bnd Γ L S (H8 t)->∃τ L' S' o,Gr m Γ t L S τ L' S' o/\qQ m t Γ L S τ L' S' o
theorem I8 {m:Md} {n:Nat} (hI:bD m n):∀(ts:List Tm) (us:List Ty) (Γ:Au) (L S:List Ty),ts.length=us.length->BY ts<=n->(∀t∈ts,Cb t=true)->(∀u∈us,TypL L u)->Bnd Γ L S (BY ts)->∃L' S' o,AllK m Γ ts us L S L' S' o/\vB m ts us Γ L S L' S' o
 | [],[],Γ,L,S,_,_,_,_,hB=>by
  refine ⟨L,S,true,?_,[],WT hB.st.ok,by omega,λ_=>⟨hB.st,by simp,by simp [BY],by simp [BY]⟩⟩;rw [AllK]
  ·exact ⟨rfl,rfl,rfl⟩
  ·intro _ _ _ _ h;cases h
 | [],_::_,_,_,_,h,_,_,_,_=>by cases h
 | _::_,[],_,_,_,h,_,_,_,_=>by cases h
 | t::ts,u::us,Γ,L,S,h,hn,hf,hu,⟨b1,b2,b3,b4,b5⟩=>by
  simp only [BY] at hn b3 b4 b5;obtain ⟨τ,L1,S1,o1,c1,N1,r1,g1⟩:=hI t Γ L S (by omega) (hf t (by simp)) ⟨b1,b2,by omega,by omega,by omega⟩;cases o1 with
  | false =>
   refine ⟨L,S,false,AllK.stop1 c1,[],J3 r1,by omega,λh=>nomatch h⟩
  | true =>
   obtain ⟨s1,s2,s3,s4⟩:=g1 rfl;have hle:L.length<=L1.length:=by have:=r1.1.1;omega
   have hTτ:TypL L1 τ:=⟨r1.2.1,r1.2.2.1⟩
   have hTu:TypL L1 u:=⟨(hu u (by simp)).wf,inB.mono (hu u (by simp)).inb (by omega)⟩
   obtain ⟨L2,o2,⟨e1,e2,e3⟩,hE⟩:=Vr s1 hTτ hTu;cases o2 with
   | false =>
    refine ⟨L2,S1,false,AllK.stop2 c1 (hE S1),[],MJ r1 (hu u (by simp)).inb e3,by rw [s2,AZ];simp only [BY];omega,λh=>nomatch h⟩
   | true =>
    obtain ⟨L',S',o,c3,N,r3,gS,g3⟩:=I8 hI ts us Γ L2 S1 (by simpa using h) (by omega) (λt ht=>hf t (by simp [ht])) (λv hv=>⟨(hu v (by simp [hv])).wf,inB.mono (hu v (by simp [hv])).inb (by omega)⟩)
     ⟨e2 rfl,EnvOk.mono b2 (by omega),by omega,by rw [s2,AZ];omega,by omega⟩
    rw [e1] at r3;have hko:KidsOk L.length ((Γ,u)::us.map λu=>(Γ,u)):=by
     intro p hp;rcases CA.1 hp with rfl | hp
     ·exact ⟨b2,(hu u (by simp)).wf,(hu u (by simp)).inb⟩
     ·obtain ⟨v,hv,rfl⟩:=Cc.1 hp;exact ⟨b2,(hu v (by simp [hv])).wf,(hu v (by simp [hv])).inb⟩
    refine ⟨L',S',o,AllK.step c1 (hE S1) c3,N1++N,?_,by rw [s2,AZ] at gS;simp only [BY];omega,λh=>?_⟩
    ·have:=NX hko r1 e3 r3;rw [Fe] at this;exact this
    ·obtain ⟨t1,t2,t3,t4⟩:=g3 h;simp only [BY];exact ⟨t1,by rw [t2,s2,Cl],by rw [AZ];omega,by omega⟩
def iT (m:Md) (Γ:Au) (t:Tm) (L S:List Ty) (τ:Ty) (L' S':List Ty) (o:Bool):Prop :=
 Tq3 149 [.agg (dMdc m),.sl (dKns Γ),.agg (dTmc t),.agg (Il L S)] (.tup [.agg (Al τ),.agg (Il L' S'),.bool o])
theorem Vg (m:Md) (Γ:Au) (n:Int) (x:Str) (ks:List Tm) (ps:List Ty) (L S:List Ty):Gr m Γ (.mk 4 n x ks ps) L S ((CM m Γ x).getD Dr) L S (CM m Γ x).isSome:=by
 unfold Gr;have hk:=nJ m Γ x;generalize CM m Γ x=r at *;obtain ⟨m1,m2,m3⟩:=m;refine AQ AE func88 rfl [1,2,3,4,5,6,7,8]<|rg [.a] rfl (by simp)<|Ad rfl hk ?_;cases r with
 | none =>
  exact rg [] rfl (by simp;rfl)<|Ab rfl rfl rfl
 | some τ =>
  obtain ⟨a1,a2,a3,a4⟩:=τ;exact rg [] rfl (by simp;rfl)<|Ab rfl rfl rfl
theorem ID (m:Md) (Γ:Au) (n:Int) (x:Str) (ks:List Tm) (ps:List Ty) (L S:List Ty) (hC:HA m.datas x=none\/∃c i,HA m.datas x=some (c,i)/\c.args.length≠ks.length):Gr m Γ (.mk 14 n x ks ps) L S Dr L S false:=by
 unfold Gr;have hc:=PU m x;obtain ⟨m1,m2,m3⟩:=m;simp only at hC hc;refine AQ AE func88 rfl [1,2,3,4,5,6,7,8]<|rg [.a,.a] rfl (by simp) ?_;rcases hC with hC | ⟨c,i,hC,hl⟩
 ·rw [hC] at hc;exact Ad rfl hc<|IX rfl<|R6 rfl λh=>rd [] rfl (by simp;rfl)<|Ab rfl rfl rfl
 ·rw [hC] at hc;obtain ⟨c1,c2⟩:=c;simp only at hl;refine Ad rfl hc<|IX rfl<|Aa rfl (λh=>?_) (λh=>by exfalso;simp at h;exact hl (by omega));exact rd [] rfl (by simp;rfl)<|Ab rfl rfl rfl
theorem Xh (m:Md) (Γ:Au) (n:Int) (x:Str) (ks:List Tm) (ps:List Ty) (L S L' S':List Ty) (o:Bool) (c:Cd) (i:Nat) (d:Dt) (hC:HA m.datas x=some (c,i)) (hd:m.datas[i]?=some d) (hl:c.args.length=ks.length) (hA:AllC m Γ ks c.args L S L' S' o):Gr m Γ (.mk 14 n x ks ps) L S (Bx d.name) L' S' o:=by
 unfold Gr;unfold AllC at hA;have hc:=PU m x;rw [hC] at hc;have hD:=XK m i d hd;obtain ⟨c1,c2⟩:=c;obtain ⟨m1,m2,m3⟩:=m;simp only at hc hl hA;refine AQ AE func88 rfl [1,2,3,4,5,6,7,8]<|rg [.a,.a] rfl (by simp)<|Ad rfl hc<|IX rfl<|Aa rfl (λh=>by exfalso;simp at h;exact h (by omega)) (λh=>?_);exact AM rfl<|Ad rfl hA<|AP rfl<|Ad rfl hD<|rg [] rfl (by simp;rfl)<|Ab rfl rfl rfl
theorem DU (m:Md) (Γ:Au) (op n:Int) (x:Str) (ks:List Tm) (ps:List Ty) (L S:List Ty) (τ:Ty) (L' S':List Ty) (o:Bool) (hop:op=5\/op=27\/op=6\/op=7\/op=15) (hB:iT m Γ (.mk op n x ks ps) L S τ L' S' o):Gr m Γ (.mk op n x ks ps) L S τ L' S' o:=by
 unfold Gr;unfold iT at hB;obtain ⟨m1,m2,m3⟩:=m;obtain ⟨a1,a2,a3,a4⟩:=τ;refine AQ AE func88 rfl [1,2,3,4,5,6,7,8] ?_;rcases hop with rfl | rfl | rfl | rfl | rfl
 ·exact rg [.a,.a,.a,.a] rfl (by simp)<|Ad rfl hB<|AP rfl<|Ab rfl rfl rfl
 ·exact rg (Qy 4 [.a]) rfl (by simp)<|Ad rfl hB<|AP rfl<|Ab rfl rfl rfl
 ·exact rg (Qy 5 [.a]) rfl (by simp)<|Ad rfl hB<|AP rfl<|Ab rfl rfl rfl
 ·exact rg (Qy 6 [.a]) rfl (by simp)<|Ad rfl hB<|AP rfl<|Ab rfl rfl rfl
 ·exact rg (Qy 6 [.a]) rfl (by simp)<|Ad rfl hB<|AP rfl<|Ab rfl rfl rfl
theorem Vf (m:Md) (Γ:Au) (op n:Int) (x:Str) (ks:List Tm) (ps:List Ty) (L S L' S':List Ty) (o:Bool) (hop:BX op) (h13:op≠13) (hL:L.length<=1000000) (hA:AllC m Γ ks (A5 op (Ao L.length)).1 (L++[Dr]) S L' S' o):Gr m Γ (.mk op n x ks ps) L S (A5 op (Ao L.length)).2.1 L' S' o:=by
 unfold Gr;unfold AllC at hA;have hf:=FJ L S hL;have hr:=bT hop n x ks ps (Ao L.length);have hn:op≠4/\op≠14/\op≠5/\op≠27/\op≠6/\op≠7/\op≠15:=by unfold BX at hop;omega
 obtain ⟨n1,n2,n3,n4,n5,n6,n7⟩:=hn;generalize (A5 op (Ao L.length)).1=us at *;generalize (A5 op (Ao L.length)).2.1=τ at *;obtain ⟨m1,m2,m3⟩:=m;obtain ⟨a1,a2,a3,a4⟩:=τ;refine AQ AE func88 rfl [1,2,3,4,5,6,7,8]<|AP rfl<|Aa rfl (λh=>by exfalso;simp at h;exact n1 h) (λh=>?_);refine AM rfl<|Aa rfl (λh=>by exfalso;simp at h;exact n2 h) (λh=>?_);refine AM rfl<|Aa rfl (λh=>by exfalso;simp at h;exact n3 h) (λh=>?_);refine AM rfl<|Aa rfl (λh=>by exfalso;simp at h;exact n4 h) (λh=>?_);refine AM rfl<|Aa rfl (λh=>by exfalso;simp at h;exact n5 h) (λh=>?_);refine AM rfl<|Aa rfl (λh=>by exfalso;simp at h;exact n6 h) (λh=>?_);refine AM rfl<|Aa rfl (λh=>by exfalso;simp at h;exact n7 h) (λh=>?_)
 refine AM rfl<|Ad rfl hf<|AP rfl<|Ad rfl hr<|AP rfl<|Ad rfl hA<|AP rfl<|Aa rfl (λh=>by exfalso;simp at h;exact h13 h) (λh=>?_);exact rd [] rfl (by simp;rfl)<|Ab rfl rfl rfl
theorem Ve (m:Md) (Γ:Au) (n:Int) (x:Str) (ks:List Tm) (ps:List Ty) (L S L' S':List Ty) (o:Bool) (hL:L.length<=1000000) (hS:S'.length<=1000000) (hA:AllC m Γ ks (A5 13 (Ao L.length)).1 (L++[Dr]) S L' S' o):Gr m Γ (.mk 13 n x ks ps) L S (A5 13 (Ao L.length)).2.1 L' (S'++[Ao L.length]) o:=by
 unfold Gr;unfold AllC at hA;have hf:=FJ L S hL;have hr:=bT (show BX 13 by unfold BX;decide) n x ks ps (Ao L.length);have h4:∀c∈A0 S',c.length=4:=λc hc=>by rw [CU] at hc;obtain ⟨x,_,rfl⟩:=Cc.1 hc;simp
 have hlen:(A0 S').length=S'.length:=dTys_length S';have happ:A0 (S'++[Ao L.length])=A0 S'++[Al (Ao L.length)]:=E4 S' [Ao L.length];generalize (A5 13 (Ao L.length)).1=us at *;generalize (A5 13 (Ao L.length)).2.1=τ at *;obtain ⟨m1,m2,m3⟩:=m;obtain ⟨a1,a2,a3,a4⟩:=τ;refine AQ AE func88 rfl [1,2,3,4,5,6,7,8,9,10]<|rg (Qy 6 [.a]) rfl (by simp)<|Ad rfl hf<|AP rfl<|Ad rfl hr<|AP rfl<|Ad rfl hA<|rg [.a] rfl (by simp) ?_;by_cases hne:S'=[]
 ·subst hne;have e0:A0 []=[]:=rfl;simp only [Il,e0];exact LR AE rfl<|AP rfl<|Bn AE rfl ⟨by simp,by simp [maxLen],by simp,trivial⟩<|rgf 3 rfl (by simp;rfl)<|Bv 8 rfl<|rd [] rfl (by simp;rfl)<|Ab rfl rfl rfl
 ·refine Bn AE rfl ⟨h4,by simp only [maxLen,B5] at *;omega,by simp only [B5] at *;omega,trivial⟩<|AP rfl<|Bn AE rfl ⟨by simp,by simp only [maxLen,B5,G5,AZ,Cq] at *;omega,by simp only [B5,G5,AZ,Cq] at *;omega,trivial⟩<|rgf 3 rfl (by simp;rfl)<|Bv 9 rfl<|rd [] rfl (by simp;rfl)<|Ab rfl rfl ?_;simp only [Il,happ];rfl
theorem aZ (m:Md) (Γ:Au) (n:Int) (x:Str) (t:Tm) (ps:List Ty) (L S:List Ty) (τ:Ty) (L' S':List Ty) (o:Bool) (hL:L.length<=1000000) (hΓ:Γ.length<=1000000) (hI:Gr m (Γ++[(x,Ao L.length)]) t (L++[Dr]) S τ L' S' o):iT m Γ (.mk 5 n x [t] ps) L S (Be (Ao L.length) τ) L' S' o:=by
 unfold iT;unfold Gr at hI;have hf:=FJ L S hL;have hw:=Me Γ x (Ao L.length) hΓ;have hF:=Ow (Ao L.length) τ;obtain ⟨m1,m2,m3⟩:=m;obtain ⟨a1,a2,a3,a4⟩:=τ;obtain ⟨t1,t2,t3,t4,t5⟩:=t;exact AQ AE func149 rfl [1,2,3,4,5,6,7,8,9,10]<|AP rfl<|Ad rfl hf<|rg [.a] rfl (by simp)<|Ad rfl hw<|AP rfl<|ri rfl (c:=dTmc (.mk t1 t2 t3 t4 t5)) (λ_=>⟨by simp,by simp [Dq],by simp⟩) (by simp)<|AP rfl<|Ad rfl hI<|rg [] rfl (by simp;rfl)<|Ad rfl hF<|rg [] rfl (by simp;rfl)<|Ab rfl rfl rfl
theorem V0 (m:Md) (Γ:Au) (n:Int) (x:Str) (ks:List Tm) (ps:List Ty) (L S:List Ty) (L' S':List Ty) (o:Bool) (hL:L.length<=1000000) (hΓ:Γ.length<=1000000) (hA:AllC m (Γ++[(x,Be (Ao L.length) AU)]) ks [AU] (L++[Dr]) S L' S' o):iT m Γ (.mk 27 n x ks ps) L S (Ao L.length) L' S' o:=by
 unfold iT;unfold AllC at hA;have hf:=FJ L S hL;have hw:=Me Γ x (Be (Ao L.length) AU) hΓ;have hF:=Ow (Ao L.length) AU;have hi:=DW;obtain ⟨m1,m2,m3⟩:=m;exact AQ AE func149 rfl [1,2,3,4,5,6,7,8,9,10]<|AP rfl<|Ad rfl hf<|rg [.a,.a] rfl (by simp)<|Ad rfl hi<|AP rfl<|Ad rfl hF<|AP rfl<|Ad rfl hw<|AP rfl<|Ad rfl hi<|AP rfl<|Ad rfl hA<|rg [] rfl (by simp;exact ⟨rfl,rfl⟩)<|Ab rfl rfl rfl
theorem V2 (m:Md) (Γ:Au) (n:Int) (x:Str) (ks:List Tm) (ps:List Ty) (L S:List Ty) (L' S':List Ty) (o:Bool) (hL:L.length<1000000) (hA:AllC m Γ ks [Be (Ao (L.length+1)) (Ao L.length),Ao (L.length+1)] (L++[Dr]++[Dr]) S L' S' o):iT m Γ (.mk 6 n x ks ps) L S (Ao L.length) L' S' o:=by
 unfold iT;unfold AllC at hA;have hf:=FJ L S (by omega);have hf2:=FJ (L++[Dr]) S (by simp;omega);have hF:=Ow (Ao (L.length+1)) (Ao L.length);rw [show ((L++[Dr]).length:Int)=L.length+1 by simp] at hf2;obtain ⟨m1,m2,m3⟩:=m;exact AQ AE func149 rfl [1,2,3,4,5,6,7,8,9,10]<|AP rfl<|Ad rfl hf<|rg [.a,.a,.a] rfl (by simp)<|Ad rfl hf2<|AP rfl<|Ad rfl hF<|AP rfl<|Ad rfl hA<|rg [] rfl (by simp;exact ⟨rfl,rfl⟩)<|Ab rfl rfl rfl
theorem Pk (m:Md) (Γ:Au) (op n:Int) (x:Str) (t:Tm) (ks:List Tm) (ps:List Ty) (L S:List Ty) (τ:Ty) (L1 S1:List Ty) (hop:op=7\/op=15) (hL:L.length<=1000000) (hI:Gr m Γ t (L++[Dr]) S τ L1 S1 false):iT m Γ (.mk op n x (t::ks) ps) L S (Ao L.length) L1 S1 false:=by
 unfold iT;unfold Gr at hI;have hf:=FJ L S hL;obtain ⟨m1,m2,m3⟩:=m;obtain ⟨a1,a2,a3,a4⟩:=τ;obtain ⟨t1,t2,t3,t4,t5⟩:=t;refine AQ AE func149 rfl [1,2,3,4,5,6,7,8,9,10]<|AP rfl<|Ad rfl hf ?_;rcases hop with rfl | rfl
 ·exact rg [.a,.a,.a] rfl (by simp)<|ri rfl (c:=dTmc (.mk t1 t2 t3 t4 t5)) (λ_=>⟨by simp,by simp [Dq],by simp⟩) (by simp)<|AP rfl<|Ad rfl hI<|rg [.a] rfl (by simp;exact ⟨rfl,rfl⟩)<|Ab rfl rfl rfl
 ·exact rg [.a,.a,.a] rfl (by simp)<|ri rfl (c:=dTmc (.mk t1 t2 t3 t4 t5)) (λ_=>⟨by simp,by simp [Dq],by simp⟩) (by simp)<|AP rfl<|Ad rfl hI<|rg [.a] rfl (by simp;exact ⟨rfl,rfl⟩)<|Ab rfl rfl rfl
theorem aY (m:Md) (Γ:Au) (n:Int) (x:Str) (t t':Tm) (ps:List Ty) (L S:List Ty) (τ:Ty) (L1 S1:List Ty) (τ':Ty) (L' S':List Ty) (o:Bool) (hL:L.length<=1000000) (hΓ:Γ.length<=1000000) (hI:Gr m Γ t (L++[Dr]) S τ L1 S1 true) (hI2:Gr m (Γ++[(x,τ)]) t' L1 S1 τ' L' S' o):iT m Γ (.mk 7 n x [t,t'] ps) L S τ' L' S' o:=by
 unfold iT;unfold Gr at hI hI2;have hf:=FJ L S hL;have hw:=Me Γ x τ hΓ;obtain ⟨m1,m2,m3⟩:=m;obtain ⟨a1,a2,a3,a4⟩:=τ;obtain ⟨b1,b2,b3,b4⟩:=τ';obtain ⟨t1,t2,t3,t4,t5⟩:=t;obtain ⟨u1,u2,u3,u4,u5⟩:=t';exact AQ AE func149 rfl [1,2,3,4,5,6,7,8,9,10]<|AP rfl<|Ad rfl hf<|rg [.a,.a,.a] rfl (by simp)<|ri rfl (c:=dTmc (.mk t1 t2 t3 t4 t5)) (λ_=>⟨by simp,by simp [Dq],by simp⟩) (by simp)<|AP rfl<|Ad rfl hI<|rg [.a,.a] rfl (by simp;rfl)<|Ad rfl hw<|AP rfl<|ri rfl (c:=dTmc (.mk u1 u2 u3 u4 u5)) (λ_=>⟨by simp,by simp [Dq],by simp⟩) (by simp)<|AP rfl<|Ad rfl hI2<|rg [] rfl (by simp;rfl)<|Ab rfl rfl rfl
def RowsC (m:Md) (Γ:Au) (b a:Ty):List Ty->List Tm->List Ty->List Ty->List Ty->List Ty->Bool->Prop
 | p::ps,t::ts,L,S,L',S',o=>∃Γ1 L1 o1,Iq m S p b Γ L Γ1 L1 o1/\if o1=true then (∃L2 S2 o2,AllC m Γ1 [t] [a] L1 S L2 S2 o2/\if o2=true then RowsC m Γ b a ps ts L2 S2 L' S' o else (L'=L2/\S'=S2/\o=false)) else (L'=L/\S'=S/\o=false)
 | _,_,L,S,L',S',o=>L'=L/\S'=S/\o=true
theorem V1 (m:Md) (Γ:Au) (n:Int) (x:Str) (t:Tm) (ks:List Tm) (ps:List Ty) (L S:List Ty) (τ:Ty) (L1 S1:List Ty) (L' S':List Ty) (o:Bool) (hl:ks.length=ps.length) (hL:L.length<=1000000) (hI:Gr m Γ t (L++[Dr]) S τ L1 S1 true) (hR:RowsC m Γ τ (Ao L.length) ps ks L1 S1 L' S' o):iT m Γ (.mk 15 n x (t::ks) ps) L S (Ao L.length) L' S' o:=by
 unfold iT;unfold Gr at hI;refine Bl λhv=>?_;simp [Cx,Ez,dTmc,maxLen] at hv;have hf:=FJ L S hL;obtain ⟨m1,m2,m3⟩:=m;obtain ⟨a1,a2,a3,a4⟩:=τ;obtain ⟨t1,t2,t3,t4,t5⟩:=t;have hks:Dq (.mk t1 t2 t3 t4 t5::ks)=dTmc (.mk t1 t2 t3 t4 t5)::Dq ks:=rfl;refine AQ AE func149 rfl [1,2,3,4,5,6,7,8,9,10]<|AP rfl<|Ad rfl hf<|rg [.a,.a,.a] rfl (by simp)<|ri rfl (c:=dTmc (.mk t1 t2 t3 t4 t5)) (λ_=>⟨by simp,by simp [Dq],by simp⟩) (by simp)<|AP rfl<|Ad rfl hI<|rg [.a,.a] rfl (by simp;rfl)<|Ak (λz:Nat×List Ty×List Ty=>[(22,.imm (.int .i64 z.1)),(1,.imm (.sl (dKns Γ))),(4,.ref 1 0),(6,.ref 2 0),(7,.ref 3 0),(8,.ref 4 0),(9,.ref 5 0),(11,.ref 6 0),(20,.ref 7 0)])
  (λz=>[(1,some (.immb 43 3 (dMdc ⟨m1,m2,m3⟩))),(2,some (.immb 49 5 (dTmc (.mk 15 n x (.mk t1 t2 t3 t4 t5::ks) ps)))),(3,some (.immb 105 2 (Il z.2.1 z.2.2))),(4,some (.cells 25 4 [.imm (.int .i64 0),.imm (.int .i64 0),.imm (.str []),.nils])),(5,some (.cells 105 2 [.nils,.nils])),(6,some (.immb 25 4 (Al (Ao L.length)))),(7,some (.immb 25 4 (Al (.mk a1 a2 a3 a4))))]) [8,9,10] (λz=>ps.length-z.1)
  (λz=>z.1<=ps.length/\RowsC ⟨m1,m2,m3⟩ Γ (.mk a1 a2 a3 a4) (Ao L.length) (ps.drop z.1) (ks.drop z.1) z.2.1 z.2.2 L' S' o) (0,L1,S1)
  ⟨AF _,hR⟩ Y0 F6 rfl λz hz ih=>?_
 clear hR hI;obtain ⟨j,K,R⟩:=z;obtain ⟨hz1,hz2⟩:=hz;simp only at hz1 hz2 ih;refine AM rfl<|Aa rfl (λh=>?_) (λh=>?_)
 ·have hlt:j<ps.length:=by simp at h;omega
  obtain ⟨p,hp⟩:=Am hlt;obtain ⟨u,hu⟩:=Am (l:=ks) (i:=j) (by omega);have hgp:=AA hp;rw [As hp,As hu,RowsC] at hz2;obtain ⟨Γ1,K1,o1,hP,hz2⟩:=hz2;unfold Iq at hP;obtain ⟨p1,p2,p3,p4⟩:=p;refine AM rfl<|riz rfl hgp<|AP rfl<|Ad rfl hP ?_;cases o1 with
  | false =>
   refine rg [.a] rfl (by simp;exact ⟨rfl,rfl⟩)<|Ab rfl rfl ?_;obtain ⟨h1,h2,h3⟩:=hz2;rw [h1,h2,h3]
  | true =>
   rw [if_pos rfl] at hz2;obtain ⟨K2,R2,o2,hA,hz2⟩:=hz2;unfold AllC at hA;have e2:A0 [Ao L.length]=[Al (Ao L.length)]:=rfl;rw [e2] at hA;have hw1:IntKind.i64.wrap (1+(j:Int))=j+1:=by rw [BW (by omega) (by omega)];omega
   have hw2:IntKind.i64.wrap (2+(j:Int))=j+2:=by rw [BW (by omega) (by omega)];omega
   have h5:∀c∈Dq (.mk t1 t2 t3 t4 t5::ks),c.length=5:=λc hc=>by rw [KP] at hc;obtain ⟨x,_,rfl⟩:=Cc.1 hc;simp
   have hsl:List.take 1 (List.drop (j+1) (Dq (.mk t1 t2 t3 t4 t5::ks)))=[dTmc u]:=by
    rw [hks,wD,As (E5 hu)];rfl
   have hA':∀es,es=[dTmc u]->Tq3 147 [.agg (dMdc ⟨m1,m2,m3⟩),.sl (dKns Γ1),.sl es,.sl [Al (Ao L.length)],.agg (Il K1 R)] (.tup [.agg (Il K2 R2),.bool o2]):=λes he=>by rw [he];exact hA
   refine rg [.a] rfl (by simp;exact ⟨⟨by rw [hw1];omega,by rw [hw1,hw2];omega,by rw [hw2];omega⟩,h5,rfl⟩)<|Aj rfl (λ_=>hA' _ (by
    simp only [hw1,hw2];rw [show ((j:Int)+1).toNat=j+1 by omega,show ((j:Int)+2).toNat-(j+1)=1 by omega];exact hsl)) (by simp) ?_
   cases o2 with
   | false =>
    refine rg [.a] rfl (by simp;exact ⟨rfl,rfl⟩)<|Ab rfl rfl ?_;obtain ⟨h1,h2,h3⟩:=hz2;rw [h1,h2,h3]
   | true =>
    rw [if_pos rfl] at hz2;have hih:=ih (j+1,K2,R2) (by simp only;omega) ⟨by simp only;omega,hz2⟩;exact rg [.a] rfl (by simp;rfl)<|Ae hih ⟨M6,Mr⟩ F6 rfl
 ·have hlt:j=ps.length:=by simp at h;omega
  subst hlt;refine At rfl<|rd [] rfl (by simp;rfl) ?_;rw [Bh (BL _)] at hz2;simp only [RowsC] at hz2;obtain ⟨h1,h2,h3⟩:=hz2;refine Ab rfl rfl ?_;rw [h1,h2,h3]
theorem AllC.one {t:Tm} {u:Ty} {o:Bool} (h:AllK m Γ [t] [u] L S L' S' o):AllC m Γ [t] [u] L S L' S' o:=Yb m Γ [t] [u] L S L' S' o (by simp) h
theorem RowsC.stop1 {b:Ty} {t:Tm} (h:Iq m S p b Γ L Γ1 L1 false):RowsC m Γ b a (p::ps) (t::ts) L S L S false:=by
 rw [RowsC];refine ⟨Γ1,L1,false,h,?_⟩;rw [if_neg (by simp)];exact ⟨rfl,rfl,rfl⟩
theorem RowsC.stop2 {b:Ty} {t:Tm} (h:Iq m S p b Γ L Γ1 L1 true) (h2:AllC m Γ1 [t] [a] L1 S L2 S2 false):RowsC m Γ b a (p::ps) (t::ts) L S L2 S2 false:=by
 rw [RowsC];refine ⟨Γ1,L1,true,h,?_⟩;rw [if_pos rfl];refine ⟨L2,S2,false,h2,?_⟩;rw [if_neg (by simp)];exact ⟨rfl,rfl,rfl⟩
theorem RowsC.step {b:Ty} {t:Tm} {o:Bool} (h:Iq m S p b Γ L Γ1 L1 true) (h2:AllC m Γ1 [t] [a] L1 S L2 S2 true) (h3:RowsC m Γ b a ps ts L2 S2 L' S' o):RowsC m Γ b a (p::ps) (t::ts) L S L' S' o:=by
 rw [RowsC];refine ⟨Γ1,L1,true,h,?_⟩;rw [if_pos rfl];refine ⟨L2,S2,true,h2,?_⟩;rw [if_pos rfl];exact h3
def uV (m:Md) (b a:Ty) (ps:List Ty) (ts:List Tm) (Γ:Au) (L S:List Ty) (L' S':List Ty) (o:Bool):Prop :=
 ∃N,J5 m b a Γ ps ts L.length (Fk L) (Px o ((L'.length:Int),Fk L',N))/\(o=true->StL L'/\S'=S++N/\N.length<=BY ts/\L'.length<=L.length+2*BY ts)
theorem AllK.end_:AllK m Γ [] [] L S L S true:=by
 rw [AllK]
 ·exact ⟨rfl,rfl,rfl⟩
 ·intro _ _ _ _ h;cases h
theorem Wd {m:Md} (hm:Dx m) {n:Nat} (hI:bD m n):∀(ps:List Ty) (ts:List Tm) (Γ:Au) (b a:Ty) (L S:List Ty),ps.length=ts.length->BY ts<=n->(∀t∈ts,Cb t=true)->TypL L b->TypL L a->Bnd Γ L S (BY ts+CX ps)->∃L' S' o,RowsC m Γ b a ps ts L S L' S' o/\uV m b a ps ts Γ L S L' S' o
 | [],[],Γ,b,a,L,S,_,_,_,_,_,hB=>by
  refine ⟨L,S,true,?_,[],Wc hB.st.ok,λ_=>⟨hB.st,by simp,by simp [BY],by simp [BY]⟩⟩;rw [RowsC]
  ·exact ⟨rfl,rfl,rfl⟩
  ·intro _ _ _ _ h;cases h
 | [],_::_,_,_,_,_,_,h,_,_,_,_,_=>by cases h
 | _::_,[],_,_,_,_,_,h,_,_,_,_,_=>by cases h
 | p::ps,t::ts,Γ,b,a,L,S,h,hn,hf,hb,ha,⟨b1,b2,b3,b4,b5⟩=>by
  simp only [BY,CX] at hn b3 b4 b5;obtain ⟨Γ1,L1,o1,c1,r1,l1,g1⟩:=sJ hm S (DH p) p b Γ L (BL _) b1 hb b2 (by omega);cases o1 with
  | false=>exact ⟨L,S,false,RowsC.stop1 c1,[],Li r1,λh=>nomatch h⟩
  | true =>
   obtain ⟨s1,s2⟩:=g1 rfl;have hΓ1:EnvOk L1.length Γ1:=by rw [l1];exact r1.2
   obtain ⟨τ,L2,S2,o2,c2,N1,r2,g2⟩:=hI t Γ1 L1 S (by omega) (hf t (by simp)) ⟨s1,hΓ1,by omega,by omega,by omega⟩;rw [l1] at r2;cases o2 with
   | false=>exact ⟨L1,S,false,RowsC.stop2 c1 (AllC.one (AllK.stop1 c2)),[],J0 r1 r2,λh=>nomatch h⟩
   | true =>
    obtain ⟨d1,d2,d3,d4⟩:=g2 rfl;have hle:L.length<=L2.length:=by have:=r2.1.1;omega
    have hTτ:TypL L2 τ:=⟨r2.2.1,r2.2.2.1⟩
    have hTa:TypL L2 a:=⟨ha.wf,inB.mono ha.inb (by omega)⟩
    obtain ⟨L3,o3,⟨e1,e2,e3⟩,hE⟩:=Vr d1 hTτ hTa;cases o3 with
    | false=>exact ⟨L3,S2,false,RowsC.stop2 c1 (AllC.one (AllK.stop2 c2 (hE S2))),[],Ms ha.inb r1 r2 e3,λh=>nomatch h⟩
    | true =>
     obtain ⟨L',S',o,c3,N,r3,g3⟩:=Wd hm hI ps ts Γ b a L3 S2 (by simpa using h) (by omega) (λt ht=>hf t (by simp [ht])) ⟨hb.wf,inB.mono hb.inb (by omega)⟩ ⟨ha.wf,inB.mono ha.inb (by omega)⟩
      ⟨e2 rfl,EnvOk.mono b2 (by omega),by omega,by rw [d2,AZ];omega,by omega⟩
     rw [e1] at r3;refine ⟨L',S',o,RowsC.step c1 (AllC.one (AllK.step c2 (hE S2) AllK.end_)) c3,N1++N,?_,λh=>?_⟩
     ·have:=NF ha.inb hb.inb b2 r1 r2 e3 r3;rw [Fe] at this;exact this
     ·obtain ⟨t1,t2,t3,t4⟩:=g3 h;simp only [BY];exact ⟨t1,by rw [t2,d2,Cl],by rw [AZ];omega,by omega⟩
theorem StL.fresh (h:StL L) (hl:L.length<1000000):StL (L++[Dr]):=by
 refine ⟨by rw [K4];exact h.sol,?_,by simp;omega⟩;rw [K4];exact h.dom.mono (by simp;omega)
theorem SX {op:Int} (h:BX op) (a b:Ty):(A5 op a).1.length=(A5 op b).1.length:=by
 rcases h with rfl | rfl | rfl | rfl | rfl | rfl | rfl | rfl | rfl | rfl | rfl | rfl | rfl | rfl | rfl | rfl | rfl | rfl | rfl | rfl | rfl <;> rfl
theorem sF {op:Int} (h:BX op) (h13:op≠13) (a:Ty):(A5 op a).2.2=[]:=by
 rcases h with rfl | rfl | rfl | rfl | rfl | rfl | rfl | rfl | rfl | rfl | rfl | rfl | rfl | rfl | rfl | rfl | rfl | rfl | rfl | rfl | rfl <;> first | rfl | exact absurd rfl h13
def TyK (k:Int) (t:Ty):Prop:=C9 t=true/\inB k t
theorem TyK.i:TyK k AU:=⟨rfl,BD rfl _⟩
theorem TyK.b:TyK k Ca:=⟨rfl,BD rfl _⟩
theorem TyK.u:TyK k Dm:=⟨rfl,BD rfl _⟩
theorem TyK.f {b:Ty} (h:TyK k a) (h':TyK k b):TyK k (Be a b):=⟨bG h.1 h'.1,Xm h.2 h'.2⟩
theorem TyK.o {s:Int} (hs:s≠9) (h0:s≠0) (h:TyK k a):TyK k (Ir s a):=⟨jU hs h0 h.1,cV hs h.2⟩
theorem Mq {op:Int} (h:BX op) (ha:TyK k a):(∀u∈(A5 op a).1,TyK k u)/\TyK k (A5 op a).2.1/\∀u∈(A5 op a).2.2,TyK k u:=by
 have h5:=TyK.o (s:=5) (by decide) (by decide) ha;have h6:=TyK.o (s:=6) (by decide) (by decide) ha;have h7:=TyK.o (s:=7) (by decide) (by decide) ha;have hf:=TyK.f (TyK.u (k:=k)) ha;have hi:=TyK.i (k:=k);have hb:=TyK.b (k:=k);have hu:=TyK.u (k:=k);have n0:∀u∈([]:List Ty),TyK k u:=λu h=>nomatch h;have n1:∀{x:Ty},TyK k x->∀u∈[x],TyK k u:=λhx u h=>by rw [AN.1 h];exact hx
 have n2:∀{x y:Ty},TyK k x->TyK k y->∀u∈[x,y],TyK k u:=λhx hy u h=>by
  rcases CA.1 h with rfl | h
  ·exact hx
  ·exact n1 hy u h
 have n3:∀{x y z:Ty},TyK k x->TyK k y->TyK k z->∀u∈[x,y,z],TyK k u:=λhx hy hz u h=>by
  rcases CA.1 h with rfl | h
  ·exact hx
  ·exact n2 hy hz u h
 rcases h with rfl | rfl | rfl | rfl | rfl | rfl | rfl | rfl | rfl | rfl | rfl | rfl | rfl | rfl | rfl | rfl | rfl | rfl | rfl | rfl | rfl
 ·exact ⟨n0,hi,n0⟩
 ·exact ⟨n0,hi,n0⟩
 ·exact ⟨n0,hb,n0⟩
 ·exact ⟨n0,hu,n0⟩
 ·exact ⟨n0,hu,n0⟩
 ·exact ⟨n3 hb ha ha,ha,n0⟩
 ·exact ⟨n2 hi hi,hi,n0⟩
 ·exact ⟨n2 hi hi,hi,n0⟩
 ·exact ⟨n2 hi hi,hi,n0⟩
 ·exact ⟨n2 hi hi,hb,n0⟩
 ·exact ⟨n2 ha ha,hb,n1 ha⟩
 ·exact ⟨n1 ha,h5,n0⟩
 ·exact ⟨n1 h5,ha,n0⟩
 ·exact ⟨n2 h5 ha,hu,n0⟩
 ·exact ⟨n1 hf,h7,n0⟩
 ·exact ⟨n1 h7,ha,n0⟩
 ·exact ⟨n0,h6,n0⟩
 ·exact ⟨n2 h6 ha,hu,n0⟩
 ·exact ⟨n1 h6,ha,n0⟩
 ·exact ⟨n1 hi,hu,n0⟩
 ·exact ⟨n1 hi,hi,n0⟩
theorem TyK.h (h:0<=n/\n<k):TyK k (Ao n):=⟨by simp [Ao,C9,Gw],IF h⟩
theorem zda (hm:Dx m):∀n,bD m n:=by
 intro n
 induction n with
 | zero=>intro t Γ L S h;have:=Uv t;omega
 | succ n IH =>
 intro t Γ L S hn hf hB;obtain ⟨op,nn,x,ks,ps⟩:=t;have hk:=Tk hf;have har:=cM hf;obtain ⟨b1,b2,b3,b4,b5⟩:=hB;have hsz:H8 (.mk op nn x ks ps)=1+BY ks+CX ps:=rfl;rw [hsz] at hn b3 b4 b5;have hL':((L++[Dr]).length:Int)=L.length+1:=by simp
 have hLn:(L++[Dr]).length=L.length+1:=by simp
 have hσ:Fk (L++[Dr])=Fk L:=K4 L;have hfr:StL (L++[Dr]):=b1.fresh (by omega);have hΓ':EnvOk (L++[Dr]).length Γ:=b2.mono (by rw [hLn];omega);have hh:TyK ((L++[Dr]).length:Int) (Ao L.length):=TyK.h ⟨by omega,by rw [hLn];omega⟩;unfold qQ;rw [hsz];clear hsz;rcases har with ⟨rfl,h0⟩ | ⟨rfl,h0⟩ | ⟨rfl,h0⟩ | ⟨rfl,h0⟩ | ⟨rfl,h0⟩ | rfl | ⟨rfl,h0⟩ | ⟨hr,h0⟩
 ·-- a name
  obtain rfl:ks=[]:=Je.1 h0;refine ⟨_,L,S,_,Vg m Γ nn x [] ps L S,[],?_,λ_=>⟨b1,by simp,by simp,by omega⟩⟩;have:=Xj hm (n:=nn) (x:=x) (ps:=ps) b1.ok b2;cases hl:CM m Γ x with
  | none=>rw [hl] at this;exact this
  | some τ=>rw [hl] at this;exact this
 ·-- a function
  obtain ⟨t0,rfl⟩:=LI.1 h0;have hs0:BY [t0]=H8 t0:=by simp [BY]
  rw [hs0] at hn b3 b4 b5 ⊢;have hE:EnvOk (L++[Dr]).length (Γ++[(x,Ao L.length)]):=hΓ'.add hh.1 hh.2;obtain ⟨τ,L1,S1,o,c1,N,r1,g1⟩:=IH t0 (Γ++[(x,Ao L.length)]) (L++[Dr]) S (by omega) (hk t0 (by simp)) ⟨hfr,hE,by rw [hLn];omega,by omega,by rw [AZ,uL];omega⟩;refine ⟨Be (Ao L.length) τ,L1,S1,o,DU m Γ 5 nn x [t0] ps L S _ L1 S1 o (.inl rfl) (aZ m Γ nn x t0 ps L S τ L1 S1 o (by omega) (by omega) c1),N,?_,λh=>?_⟩
  ·rw [hL',hσ] at r1;have:=Vi (n:=nn) (ps:=ps) b1.ok b2 r1;rw [Fe] at this;exact this
  ·obtain ⟨t1,t2,t3,t4⟩:=g1 h;exact ⟨t1,t2,by omega,by rw [hLn] at t4;omega⟩
 ·-- a continuation
  obtain ⟨t0,rfl⟩:=LI.1 h0;have hkf:TyK ((L++[Dr]).length:Int) (Be (Ao L.length) AU):=TyK.f hh TyK.i;have hE:EnvOk (L++[Dr]).length (Γ++[(x,Be (Ao L.length) AU)]):=hΓ'.add hkf.1 hkf.2;obtain ⟨L1,S1,o,c1,N,r1,gS,g1⟩:=I8 IH [t0] [AU] (Γ++[(x,Be (Ao L.length) AU)]) (L++[Dr]) S rfl (by omega) hk (λu hu=>by rw [AN.1 hu];exact ⟨rfl,BD rfl _⟩) ⟨hfr,hE,by rw [hLn];omega,by omega,by rw [AZ,uL];omega⟩;refine ⟨Ao L.length,L1,S1,o,DU m Γ 27 nn x [t0] ps L S _ L1 S1 o (.inr (.inl rfl)) (V0 m Γ nn x [t0] ps L S L1 S1 o (by omega) (by omega) (Yb _ _ _ _ _ _ _ _ _ (by simp) c1)),N,?_,λh=>?_⟩
  ·rw [hL'] at hE hkf hh;rw [hL',hσ] at r1;have:=IE (op:=27) (n:=nn) (x:=x) (ps:=ps) (j:=1) b1.ok (SV (by omega) b2) (λp hp=>by rw [AN.1 hp];exact ⟨hE,rfl,BD rfl _⟩) hh.1 hh.2 (λt h=>nomatch h) r1;rw [Fe] at this;simpa using this
  ·obtain ⟨t1,t2,t3,t4⟩:=g1 h;exact ⟨t1,t2,by omega,by rw [hLn] at t4;omega⟩
 ·-- an application
  have hLn2:(L++[Dr]++[Dr]).length=L.length+2:=by simp
  have hL2:((L++[Dr]++[Dr]).length:Int)=L.length+2:=by rw [hLn2];simp
  have hfr2:StL (L++[Dr]++[Dr]):=hfr.fresh (by rw [hLn];omega);have hσ2:Fk (L++[Dr]++[Dr])=Fk L:=by rw [K4,hσ]
  have hha:TyK ((L++[Dr]++[Dr]).length:Int) (Ao L.length):=TyK.h ⟨by omega,by rw [hL2];omega⟩;have hhb:TyK ((L++[Dr]++[Dr]).length:Int) (Ao (L.length+1)):=TyK.h ⟨by omega,by rw [hL2];omega⟩;have hhf:=TyK.f hhb hha;have hE:EnvOk (L++[Dr]++[Dr]).length Γ:=b2.mono (by rw [hL2];omega);obtain ⟨L1,S1,o,c1,N,r1,gS,g1⟩:=I8 IH ks [Be (Ao (L.length+1)) (Ao L.length),Ao (L.length+1)] Γ (L++[Dr]++[Dr]) S h0 (by omega) hk (λu hu=>by
   rcases CA.1 hu with rfl | hu
   ·exact ⟨hhf.1,hhf.2⟩
   ·rw [AN.1 hu];exact ⟨hhb.1,hhb.2⟩) ⟨hfr2,hE,by rw [hLn2];omega,by omega,by omega⟩
  refine ⟨Ao L.length,L1,S1,o,DU m Γ 6 nn x ks ps L S _ L1 S1 o (.inr (.inr (.inl rfl))) (V2 m Γ nn x ks ps L S L1 S1 o (by omega) (Yb _ _ _ _ _ _ _ _ _ (by rw [h0];simp) c1)),N,?_,λh=>?_⟩
  ·rw [hL2] at hE hha hhb hhf;rw [hL2,hσ2] at r1;have:=IE (op:=6) (n:=nn) (x:=x) (ps:=ps) (j:=2) b1.ok (eU (by omega) b2) (λp hp=>by
    rcases CA.1 hp with rfl | hp
    ·exact ⟨hE,hhf.1,hhf.2⟩
    ·rw [AN.1 hp];exact ⟨hE,hhb.1,hhb.2⟩) hha.1 hha.2 (λt h=>nomatch h) r1
   rw [Fe] at this;simpa using this
  ·obtain ⟨t1,t2,t3,t4⟩:=g1 h;exact ⟨t1,t2,by omega,by rw [hLn2] at t4;omega⟩
 ·-- let
  obtain ⟨t0,u0,rfl⟩:∃t0 u0,ks=[t0,u0]:=by
   match ks,h0 with
   | [a,b],_=>exact ⟨a,b,rfl⟩
  have hs0:BY [t0,u0]=H8 t0+H8 u0:=by simp [BY]
  rw [hs0] at hn b3 b4 b5 ⊢;obtain ⟨τ,L1,S1,o,c1,N,r1,g1⟩:=IH t0 Γ (L++[Dr]) S (by omega) (hk t0 (by simp)) ⟨hfr,hΓ',by rw [hLn];omega,by omega,by omega⟩;rw [hL',hσ] at r1;cases o with
  | false =>
   exact ⟨Ao L.length,L1,S1,false,DU m Γ 7 nn x [t0,u0] ps L S _ L1 S1 false (.inr (.inr (.inr (.inl rfl)))) (Pk m Γ 7 nn x t0 [u0] ps L S τ L1 S1 (.inl rfl) (by omega) c1),[],MM r1,λh=>nomatch h⟩
  | true =>
   obtain ⟨t1,t2,t3,t4⟩:=g1 rfl;have hle:(L.length:Int)+1<=L1.length:=r1.1.1;rw [hLn] at t4;obtain ⟨τ',L2,S2,o2,c2,N2,r2,g2⟩:=IH u0 (Γ++[(x,τ)]) L1 S1 (by omega) (hk u0 (by simp)) ⟨t1,(b2.mono (by omega)).add r1.2.1 r1.2.2.1,by omega,by rw [t2,AZ];omega,by rw [AZ,uL];omega⟩;refine ⟨τ',L2,S2,o2,DU m Γ 7 nn x [t0,u0] ps L S _ L2 S2 o2 (.inr (.inr (.inr (.inl rfl)))) (aY m Γ nn x t0 u0 ps L S τ L1 S1 τ' L2 S2 o2 (by omega) (by omega) c1 c2),N++N2,?_,λh=>?_⟩
   ·have:=Vh (n:=nn) (ps:=ps) (by omega) b2 r1 r2;rw [Fe] at this;exact this
   ·obtain ⟨u1,u2,u3,u4⟩:=g2 h;exact ⟨u1,by rw [u2,t2,Cl],by rw [AZ];omega,by omega⟩
 ·-- a constructor
  obtain ⟨i1,i2⟩:=On (l:=m.datas) (x:=x);cases hC:HA m.datas x with
  | none=>exact ⟨Dr,L,S,false,ID m Γ nn x ks ps L S (.inl hC),[],MN (i1 hC),λh=>nomatch h⟩
  | some ci =>
   obtain ⟨c,i⟩:=ci;obtain ⟨d,hd,hM⟩:=i2 c i hC;by_cases hl:c.args.length=ks.length
   ·obtain ⟨L1,S1,o,c1,N,r1,gS,g1⟩:=I8 IH ks c.args Γ L S hl.symm (by omega) hk (λu hu=>⟨(Fi hm hM u hu).2,BD (Fi hm hM u hu).1 _⟩) ⟨b1,b2,by omega,by omega,by omega⟩;refine ⟨Bx d.name,L1,S1,o,Xh m Γ nn x ks ps L S L1 S1 o c i d hC hd hl (Yb _ _ _ _ _ _ _ _ _ (by omega) c1),N,?_,λh=>?_⟩
    ·have:=MO hm (n:=nn) (ps:=ps) b1.ok b2 hM r1;rw [Fe] at this;exact this
    ·obtain ⟨t1,t2,t3,t4⟩:=g1 h;exact ⟨t1,t2,by omega,by omega⟩
   ·refine ⟨Dr,L,S,false,ID m Γ nn x ks ps L S (.inr ⟨c,i,hC,hl⟩),[],?_,λh=>nomatch h⟩;exact MO hm (n:=nn) (ps:=ps) (r:=none) b1.ok b2 hM (T8 (by simpa using λh=>hl h.symm))
 ·-- a match
  obtain ⟨t0,ks,rfl⟩:∃t0 l,ks=t0::l:=by
   cases ks with
   | nil=>simp at h0;omega
   | cons a l=>exact ⟨a,l,rfl⟩
  have hs0:BY (t0::ks)=H8 t0+BY ks:=rfl;rw [hs0] at hn b3 b4 b5 ⊢;obtain ⟨τ,L1,S1,o,c1,N,r1,g1⟩:=IH t0 Γ (L++[Dr]) S (by omega) (hk t0 (by simp)) ⟨hfr,hΓ',by rw [hLn];omega,by omega,by omega⟩;rw [hL',hσ] at r1;cases o with
  | false =>
   exact ⟨Ao L.length,L1,S1,false,DU m Γ 15 nn x (t0::ks) ps L S _ L1 S1 false (.inr (.inr (.inr (.inr rfl)))) (Pk m Γ 15 nn x t0 ks ps L S τ L1 S1 (.inr rfl) (by omega) c1),[],Kf r1,λh=>nomatch h⟩
  | true =>
   obtain ⟨t1,t2,t3,t4⟩:=g1 rfl;have hle:(L.length:Int)+1<=L1.length:=r1.1.1;rw [hLn] at t4;obtain ⟨L2,S2,o2,c2,N2,r2,g2⟩:=Wd hm IH ps ks Γ τ (Ao L.length) L1 S1 (by simp at h0;omega) (by omega) (λt ht=>hk t (by simp [ht])) ⟨r1.2.1,r1.2.2.1⟩ ⟨hh.1,IF ⟨by omega,by omega⟩⟩ ⟨t1,b2.mono (by omega),by omega,by rw [t2,AZ];omega,by omega⟩;refine ⟨Ao L.length,L2,S2,o2,DU m Γ 15 nn x (t0::ks) ps L S _ L2 S2 o2 (.inr (.inr (.inr (.inr rfl)))) (V1 m Γ nn x t0 ks ps L S τ L1 S1 L2 S2 o2 (by simp at h0;omega) (by omega) c1 c2),N++N2,?_,λh=>?_⟩
   ·have:=So (n:=nn) (x:=x) b1.ok b2 r1 r2;rw [Fe] at this;exact this
   ·obtain ⟨u1,u2,u3,u4⟩:=g2 h;exact ⟨u1,by rw [u2,t2,Cl],by rw [AZ];omega,by omega⟩
 ·-- the others
  obtain ⟨k1,k2,k3⟩:=Mq hr hh;have hlen:ks.length=(A5 op (Ao L.length)).1.length:=h0.trans (SX hr _ _);obtain ⟨L1,S1,o,c1,N,r1,gS,g1⟩:=I8 IH ks (A5 op (Ao L.length)).1 Γ (L++[Dr]) S hlen (by omega) hk (λu hu=>⟨(k1 u hu).1,(k1 u hu).2⟩) ⟨hfr,hΓ',by rw [hLn];omega,by omega,by omega⟩;have hA:=Yb _ _ _ _ _ _ _ _ _ (Nat.le_of_eq hlen) c1;have hI:BM m Γ (.mk op nn x ks ps) L.length (Fk L) (Px o ((A5 op (Ao L.length)).2.1,(L1.length:Int),Fk L1,N++(A5 op (Ao L.length)).2.2)):=by
   rw [hL'] at k1 k2 k3 hΓ';rw [hL',hσ] at r1;have:=IE (op:=op) (n:=nn) (x:=x) (ps:=ps) (j:=1) b1.ok (VY hr (λ_=>by omega) b2) (λp hp=>by
    obtain ⟨u,hu,rfl⟩:=Cc.1 hp;exact ⟨hΓ',(k1 u hu).1,(k1 u hu).2⟩) k2.1 k2.2 (λu hu=>k3 u hu) r1
   rw [Fe] at this;exact this
  by_cases h13:op=13
  ·subst h13;refine ⟨_,L1,S1++[Ao L.length],o,Ve m Γ nn x ks ps L S L1 S1 o (by omega) (by omega) hA,N++[Ao L.length],hI,λh=>?_⟩;obtain ⟨t1,t2,t3,t4⟩:=g1 h;exact ⟨t1,by rw [t2,Cl],by rw [AZ,uL];omega,by rw [hLn] at t4;omega⟩
  ·rw [sF hr h13,HP] at hI;refine ⟨_,L1,S1,o,Vf m Γ op nn x ks ps L S L1 S1 o hr h13 (by omega) hA,N,hI,λh=>?_⟩;obtain ⟨t1,t2,t3,t4⟩:=g1 h;exact ⟨t1,t2,by omega,by rw [hLn] at t4;omega⟩
abbrev Lc:=Option (Ty×List (Int×Ty)×Int×List Ty)
def U0 (m:Md) (T:List (Int×Ty)) (k:Int) (S:List Ty):St:=[(1,some (eQ m k 2 4 (A0 S).length)),(2,some (VR T)),(4,some (.row 25 4 (A0 S)))]
def Dj (m:Md):Lc->Out
 | some (τ,T',k',S')=>.ret (.imm (.agg (Al τ))) (U0 m T' k' S')
 | none=>.pan Gn
def Cu (f:FuncId) (m:Md) (Γ:Au) (t:Tm) (T:List (Int×Ty)) (k:Int) (S:List Ty) (r:Lc):Prop :=
 Tq4 f [.ref 1 0,.imm (.agg (dTmc t)),.imm (.sl (dKns Γ))] (CI m T k S) (Dj m r)
def Ey (m:Md) (Γ:Au) (t:Tm) (T:List (Int×Ty)) (k:Int) (S:List Ty) (r:Lc):Prop:=Cu 79 m Γ t T k S r
def vE (m:Md) (T:List (Int×Ty)) (k:Int) (S:List Ty) (a b:Ty):Option (List (Int×Ty))->Prop
 | some T'=>Dk m T k S a b T'
 | none=>DL m T k S a b
abbrev HC:=Option (List (Int×Ty)×Int×List Ty)
def B7 (m:Md) (Γ:Au):List Tm->List Ty->List (Int×Ty)->Int->List Ty->HC->Prop
 | t::ts,u::us,T,k,S,r=>(Ey m Γ t T k S none/\r=none)\/∃τ T1 k1 S1,Ey m Γ t T k S (some (τ,T1,k1,S1))/\((DL m T1 k1 S1 τ u/\r=none)\/∃T2,Dk m T1 k1 S1 τ u T2/\B7 m Γ ts us T2 k1 S1 r)
 | _,_,T,k,S,r=>r=some (T,k,S)
def zds (m:Md) (k:Int) (S:List Ty):Option (Au×List (Int×Ty))->Out
 | some (Γ',T')=>.ret (.imm (.sl (dKns Γ'))) (CI m T' k S)
 | none=>.pan Gn
def GB (m:Md) (Γ:Au) (p τ:Ty) (T:List (Int×Ty)) (k:Int) (S:List Ty) (r:Option (Au×List (Int×Ty))):Prop :=
 Tq4 263 [.ref 1 0,.imm (.agg (Al p)),.imm (.agg (Al τ)),.imm (.sl (dKns Γ))] (CI m T k S) (zds m k S r)
def Nw (m:Md) (k:Int) (S:List Ty):List Ty->List Ty->Au->List (Int×Ty)->Option (Au×List (Int×Ty))->Prop
 | p::ps,t::ts,Γ,T,r=>(GB m Γ p t T k S none/\r=none)\/∃Γ1 T1,GB m Γ p t T k S (some (Γ1,T1))/\Nw m k S ps ts Γ1 T1 r
 | _,_,Γ,T,r=>r=some (Γ,T)
def Ky (m:Md) (Γ:Au) (b a:Ty):List Ty->List Tm->List (Int×Ty)->Int->List Ty->HC->Prop
 | p::ps,t::ts,T,k,S,r=>(GB m Γ p b T k S none/\r=none)\/∃Γ1 T1,GB m Γ p b T k S (some (Γ1,T1))/\((Ey m Γ1 t T1 k S none/\r=none)\/∃τ T2 k2 S2,Ey m Γ1 t T1 k S (some (τ,T2,k2,S2)) /\
   ((DL m T2 k2 S2 τ a/\r=none)\/∃T3,Dk m T2 k2 S2 τ a T3/\Ky m Γ b a ps ts T3 k2 S2 r))
 | _,_,T,k,S,r=>r=some (T,k,S)
theorem StOk.mono (h:StOk k σ) (hk:k<=k'):StOk k' σ:=⟨by have:=h.1;omega,h.2.1.mono hk,h.2.2⟩
def yW (T:List (Int×Ty)) (k:Int) (a b:Ty):Option (List (Int×Ty))->Prop
 | some T'=>StpR k (BH T) k (BH T') (λ_=>()) (λη _=>A9 η a=A9 η b)
 | none=>StpN (BH T) (β:=Unit) (λη _=>A9 η a=A9 η b)
theorem IJ (m:Md) (T:List (Int×Ty)) (k:Int) (S:List Ty) {b:Ty} (h:StOk k (BH T)) (ha:TyK k a) (hb:TyK k b):∃r,vE m T k S a b r/\yW T k a b r:=by
 obtain ⟨n,r,h1,h2⟩:=YA h ha.1 hb.1 ha.2 hb.2;obtain ⟨h0,hd,hs⟩:=h;have ek:((k.toNat:Nat):Int)=k:=by omega
 obtain ⟨a1,a2⟩:=ha;obtain ⟨b1,b2⟩:=hb;rw [<- ek] at hd a2 b2;have h3:=dJ m k S n T a b r h1 hs hd a1 b1 a2 b2;cases r with
 | none=>exact ⟨none,h3,h2⟩
 | some σ' =>
  obtain ⟨T',c,e⟩:=h3;exact ⟨some T',c,by subst e;exact h2⟩
structure vH (Γ:Au) (T:List (Int×Ty)) (k:Int) (S:List Ty) (n:Nat):Prop where
 st:StOk k (BH T)
 env:EnvOk k Γ
 l:k+n<=1000000
 s:S.length+n<=1000000
 g:Γ.length+n<=1000000
def vC (m:Md) (t:Tm) (Γ:Au) (T:List (Int×Ty)) (k:Int) (S:List Ty):Lc->Prop
 | some (τ,T',k',S')=>∃N,BM m Γ t k (BH T) (some (τ,k',BH T',N))/\S'=S++N/\N.length<=H8 t/\k'<=k+H8 t
 | none=>BM m Γ t k (BH T) none
def qO (m:Md) (ts:List Tm) (us:List Ty) (Γ:Au) (T:List (Int×Ty)) (k:Int) (S:List Ty):HC->Prop
 | some (T',k',S')=>∃N,H6 m ts (us.map λu=>(Γ,u)) k (BH T) (some (k',BH T',N))/\S'=S++N/\N.length<=BY ts/\k'<=k+BY ts
 | none=>H6 m ts (us.map λu=>(Γ,u)) k (BH T) none
def V5 (m:Md) (n:Nat):Prop:=∀(t:Tm) (Γ:Au) (T:List (Int×Ty)) (k:Int) (S:List Ty),H8 t<=n->Cb t=true->vH Γ T k S (H8 t)->∃r,Ey m Γ t T k S r/\vC m t Γ T k S r
theorem TyK.mono (h:TyK k t) (hk:k<=k'):TyK k' t:=⟨h.1,h.2.mono hk⟩
theorem Hg {m:Md} {n:Nat} (hI:V5 m n):∀(ts:List Tm) (us:List Ty) (Γ:Au) (T:List (Int×Ty)) (k:Int) (S:List Ty),ts.length=us.length->BY ts<=n->(∀t∈ts,Cb t=true)->(∀u∈us,TyK k u)->vH Γ T k S (BY ts) ->
  ∃r,B7 m Γ ts us T k S r/\qO m ts us Γ T k S r
 | [],[],Γ,T,k,S,_,_,_,_,hB=>by
  refine ⟨some (T,k,S),?_,[],WT hB.st,by simp,by simp [BY],by simp [BY]⟩;simp only [B7]
 | [],_::_,_,_,_,_,h,_,_,_,_=>by cases h
 | _::_,[],_,_,_,_,h,_,_,_,_=>by cases h
 | t::ts,u::us,Γ,T,k,S,h,hn,hf,hu,⟨b1,b2,b3,b4,b5⟩=>by
  simp only [BY] at hn b3 b4 b5;obtain ⟨r1,c1,g1⟩:=hI t Γ T k S (by omega) (hf t (by simp)) ⟨b1,b2,by omega,by omega,by omega⟩;cases r1 with
  | none =>
   refine ⟨none,?_,J3 (k:=k) (σ:=BH T) g1⟩;rw [B7];exact .inl ⟨c1,rfl⟩
  | some z =>
   obtain ⟨τ,T1,k1,S1⟩:=z;obtain ⟨N1,r1,s1,s2,s3⟩:=g1;have hle:k<=k1:=r1.1.1;have hu0:=hu u (by simp);obtain ⟨r2,c2,g2⟩:=IJ m T1 k1 S1 r1.1.2.1 ⟨r1.2.1,r1.2.2.1⟩ (hu0.mono hle);cases r2 with
   | none =>
    refine ⟨none,?_,MJ r1 hu0.2 g2⟩;rw [B7];exact .inr ⟨τ,T1,k1,S1,c1,.inl ⟨c2,rfl⟩⟩
   | some T2 =>
    obtain ⟨r,c3,g3⟩:=Hg hI ts us Γ T2 k1 S1 (by simpa using h) (by omega) (λt ht=>hf t (by simp [ht])) (λv hv=>(hu v (by simp [hv])).mono hle)
     ⟨g2.2.1,b2.mono hle,by omega,by rw [s1,AZ];omega,by omega⟩
    have hko:KidsOk k ((Γ,u)::us.map λu=>(Γ,u)):=by
     intro p hp;rcases CA.1 hp with rfl | hp
     ·exact ⟨b2,hu0⟩
     ·obtain ⟨v,hv,rfl⟩:=Cc.1 hp;exact ⟨b2,hu v (by simp [hv])⟩
    refine ⟨r,?_,?_⟩
    ·rw [B7];exact .inr ⟨τ,T1,k1,S1,c1,.inr ⟨T2,c2,c3⟩⟩
    ·cases r with
     | none =>
      exact NX (r:=none) hko r1 g2 g3
     | some y =>
      obtain ⟨T',k',S'⟩:=y;obtain ⟨N,r3,t1,t2,t3⟩:=g3;refine ⟨N1++N,NX (r:=some (k',BH T',N)) hko r1 g2 r3,by rw [t1,s1,Cl],by rw [AZ];simp only [BY];omega,by simp only [BY];omega⟩
def V4 (m:Md) (p τ:Ty) (Γ:Au) (T:List (Int×Ty)) (k:Int):Option (Au×List (Int×Ty))->Prop
 | some (Γ',T')=>Ld m p τ Γ k (BH T) (some (Γ',BH T'))/\Γ'.length<=Γ.length+DH p
 | none=>Ld m p τ Γ k (BH T) none
def qK (m:Md) (ps ts:List Ty) (Γ:Au) (T:List (Int×Ty)) (k:Int):Option (Au×List (Int×Ty))->Prop
 | some (Γ',T')=>Pp m ps ts Γ k (BH T) (some (Γ',BH T'))/\Γ'.length<=Γ.length+CX ps
 | none=>Pp m ps ts Γ k (BH T) none
theorem Tc {m:Md} {S:List Ty} {k:Int} {n:Nat} (hP:∀(p τ:Ty) (Γ:Au) (T:List (Int×Ty)),DH p<=n->StOk k (BH T)->TyK k τ->EnvOk k Γ->Γ.length+DH p<=1000000->∃r,GB m Γ p τ T k S r/\V4 m p τ Γ T k r) :
  ∀(ps ts:List Ty) (Γ:Au) (T:List (Int×Ty)),ps.length=ts.length->CX ps<=n->StOk k (BH T)->(∀t∈ts,TyK k t)->EnvOk k Γ->Γ.length+CX ps<=1000000->∃r,Nw m k S ps ts Γ T r/\qK m ps ts Γ T k r
 | [],[],Γ,T,_,_,hs,_,hΓ,_=>by
  refine ⟨some (Γ,T),by simp only [Nw],Wr hs hΓ,by simp [CX]⟩
 | [],_::_,_,_,h,_,_,_,_,_=>by cases h
 | _::_,[],_,_,h,_,_,_,_,_=>by cases h
 | p::ps,t::ts,Γ,T,h,hn,hs,ht,hΓ,hg=>by
  simp only [CX] at hn hg;obtain ⟨r1,c1,g1⟩:=hP p t Γ T (by omega) hs (ht t (by simp)) hΓ (by omega);cases r1 with
  | none =>
   refine ⟨none,?_,Tb (k:=k) (σ:=BH T) g1⟩;rw [Nw];exact .inl ⟨c1,rfl⟩
  | some z =>
   obtain ⟨Γ1,T1⟩:=z;obtain ⟨g1,l1⟩:=g1;obtain ⟨r,c2,g2⟩:=Tc hP ps ts Γ1 T1 (by simpa using h) (by omega) g1.1.2.1 (λu hu=>ht u (by simp [hu])) g1.2 (by omega);refine ⟨r,?_,?_⟩
   ·rw [Nw];exact .inr ⟨Γ1,T1,c1,c2⟩
   ·have hto:TysOk k ts:=λu hu=>ht u (by simp [hu]);cases r with
    | none=>exact NJ (r:=none) hto g1 g2
    | some y =>
     obtain ⟨Γ',T'⟩:=y;exact ⟨NJ (r:=some (Γ',BH T')) hto g1 g2.1,by have:=g2.2;simp only [CX];omega⟩
def qI (m:Md) (b a:Ty) (ps:List Ty) (ts:List Tm) (Γ:Au) (T:List (Int×Ty)) (k:Int) (S:List Ty):HC->Prop
 | some (T',k',S')=>∃N,J5 m b a Γ ps ts k (BH T) (some (k',BH T',N))/\S'=S++N/\N.length<=BY ts/\k'<=k+BY ts
 | none=>J5 m b a Γ ps ts k (BH T) none
def dW (m:Md):Prop:=∀(S:List Ty) (k:Int) (p τ:Ty) (Γ:Au) (T:List (Int×Ty)),StOk k (BH T)->TyK k τ->EnvOk k Γ->Γ.length+DH p<=1000000->∃r,GB m Γ p τ T k S r/\V4 m p τ Γ T k r
theorem SY {m:Md} (hP:dW m) {n:Nat} (hI:V5 m n):∀(ps:List Ty) (ts:List Tm) (Γ:Au) (b a:Ty) (T:List (Int×Ty)) (k:Int) (S:List Ty),ps.length=ts.length->BY ts<=n->(∀t∈ts,Cb t=true)->TyK k b->TyK k a->vH Γ T k S (BY ts+CX ps) ->
  ∃r,Ky m Γ b a ps ts T k S r/\qI m b a ps ts Γ T k S r
 | [],[],Γ,b,a,T,k,S,_,_,_,_,_,hB=>by
  refine ⟨some (T,k,S),by simp only [Ky],[],Wc hB.st,by simp,by simp [BY],by simp [BY]⟩
 | [],_::_,_,_,_,_,_,_,h,_,_,_,_,_=>by cases h
 | _::_,[],_,_,_,_,_,_,h,_,_,_,_,_=>by cases h
 | p::ps,t::ts,Γ,b,a,T,k,S,h,hn,hf,hb,ha,⟨b1,b2,b3,b4,b5⟩=>by
  simp only [BY,CX] at hn b3 b4 b5;obtain ⟨r1,c1,g1⟩:=hP S k p b Γ T b1 hb b2 (by omega);cases r1 with
  | none =>
   refine ⟨none,?_,Li (k:=k) (σ:=BH T) g1⟩;rw [Ky];exact .inl ⟨c1,rfl⟩
  | some z =>
   obtain ⟨Γ1,T1⟩:=z;obtain ⟨r1,l1⟩:=g1;obtain ⟨r2,c2,g2⟩:=hI t Γ1 T1 k S (by omega) (hf t (by simp)) ⟨r1.1.2.1,r1.2,by omega,by omega,by omega⟩;cases r2 with
   | none =>
    refine ⟨none,?_,J0 r1 g2⟩;rw [Ky];exact .inr ⟨Γ1,T1,c1,.inl ⟨c2,rfl⟩⟩
   | some z =>
    obtain ⟨τ,T2,k2,S2⟩:=z;obtain ⟨N1,r2,d1,d2,d3⟩:=g2;have hle:k<=k2:=r2.1.1;obtain ⟨r3,c3,g3⟩:=IJ m T2 k2 S2 r2.1.2.1 ⟨r2.2.1,r2.2.2.1⟩ (ha.mono hle);cases r3 with
    | none =>
     refine ⟨none,?_,Ms ha.2 r1 r2 g3⟩;rw [Ky];exact .inr ⟨Γ1,T1,c1,.inr ⟨τ,T2,k2,S2,c2,.inl ⟨c3,rfl⟩⟩⟩
    | some T3 =>
     obtain ⟨r,c4,g4⟩:=SY hP hI ps ts Γ b a T3 k2 S2 (by simpa using h) (by omega) (λt ht=>hf t (by simp [ht])) (hb.mono hle) (ha.mono hle)
      ⟨g3.2.1,b2.mono hle,by omega,by rw [d1,AZ];omega,by omega⟩
     refine ⟨r,?_,?_⟩
     ·rw [Ky];exact .inr ⟨Γ1,T1,c1,.inr ⟨τ,T2,k2,S2,c2,.inr ⟨T3,c3,c4⟩⟩⟩
     ·cases r with
      | none=>exact NF (r:=none) ha.2 hb.2 b2 r1 r2 g3 g4
      | some y =>
       obtain ⟨T',k',S'⟩:=y;obtain ⟨N,r4,t1,t2,t3⟩:=g4;exact ⟨N1++N,NF (r:=some (k',BH T',N)) ha.2 hb.2 b2 r1 r2 g3 r4,by rw [t1,d1,Cl],by rw [AZ];simp only [BY];omega,by simp only [BY];omega⟩
def lT (tt:TT) (n:Nat) (env:Env) (todo:List DI):Option PBa :=
 match Bt todo ([],[]) with
 | some (_,o,todo')=>match o.guard,o.op with
  | none,.build t ⟨parts⟩=>match lk tt t with
   | some { sh:=.arr m e,zero:=z0::z,.. }=>match lk tt e,JN env 1 parts,BK n o.dst with
    | some ti,some ds,true=>match Nat.beq ti.size 1,Nat.beq (ds.length+1) m,Nat.beq (z.length+1) m,z0.one with
     | true,true,true,true=>some ⟨z0::ds,o.dst,todo'⟩
     | _,_,_,_=>none
    | _,_,_=>none
   | _=>none
  | _,_=>none
 | none=>none
structure PVx where
 xs:List V
 len:Nat
 m:Int
 g:Option (Bool×Bool)
 ob:List Prop
 t:Nat
 todo:List DI
def vL (tt:TT) (n:Nat) (env:Env) (todo:List DI):Option PVx :=
 match Bt todo ([],[]) with
 | some (all,o,todo')=>match o.op,Co all env o with
  | .index t x i,some g=>match lk tt t,Mf (Ap g) env x,Mf (Ap g) env i with
   | some { sh:=.arr len e,.. },some (.imm (.agg xs),o1),some (.imm (.int _ m),o2)=>match lk tt e,o.dst,BK n o.dst with
    | some ti,some t',true=>match Nat.beq ti.size 1,ti.agg with
     | true,false=>some ⟨xs,len,m,g,IS o1 o2,t',todo'⟩
     | _,_=>none
    | _,_,_=>none
   | _,_,_=>none
  | _,_=>none
 | none=>none
section
variable {n:Nat} {k:List DI} {a:Act}
theorem tS (htt:TTok P tt) {c:PBa} (h:lT tt n env todo=some c) (hk:G P n F Q c.todo (BN c.dst (HM c.ds) env) st ids):G P n F Q todo env st ids:=by
 unfold lT at h
 split at h
 ·rename_i all o todo' h1
  split at h
  ·rename_i t parts hg hop
   split at h
   ·rename_i m e _ _ _ z0 z ht
    split at h
    ·rename_i ti ds hti hps hd
     split at h
     ·rename_i hsz hlen hzlen hone;cases h;refine BG (fr:=[]) (wr:=[]) (rd:=[]) h1 ?_ hd (λc hc=>by rw [hop] at hc;cases hc) hk;intro I μ st1 ids1 a w hag hst hon;refine ⟨λ_=>?_,λhw=>by rw [AL hg] at hw;cases hw⟩;have hops:=Bm hon;rw [hop] at hops;obtain ⟨q1,q2,q3⟩:=OE (a:=a) (I:=I) (μ:=μ) hps (λx hx=>hops x (by simp only [Op.operands];simpa using hx));have hty:=htt t _ ht;obtain ⟨inf,zv,hi1,_,_,hi4,hi5,hi6⟩:=hty.info;have hu:P.underlying t=some (.array m e):=htt.sh ht;have hs1:ti.size=1:=C7 hsz;obtain ⟨hz1,hz2⟩:=hi5 I μ;have hzl:zv.cells.toList.length=m:=by
       rw [hz1];exact C7 hzlen
      have hpl:(parts.map λp=>a.eval p.2).length+1=m:=by rw [q2.1];exact C7 hlen
      obtain ⟨v0,vr,hvz⟩:∃v0 vr,zv.cells.toList=v0::vr:=by
       cases hc:zv.cells.toList with
       | nil=>rw [hc] at hzl;simp at hzl;omega
       | cons a b=>exact ⟨a,b,rfl⟩
      rw [hvz] at hzl hz2;have hv0:RepD I μ v0 z0:=hz2 0 v0 z0 rfl rfl;have hfill:=Xy (parts.map λp=>a.eval p.2) [v0] vr (by simp at hzl;simp at hpl;simp;omega) q3;simp only [Cq,B5,D0,G5,Dw] at hfill;have hrun:(execOp a.eval o).run P w = .ok (.value (.agg (v0::parts.map λp=>a.eval p.2).toArray)) w:=by
       simp only [execOp,hop,Instr.build,Sem.run_bind,zeroValue,typeInfo,run_program,Result.andThen_ok,hi1,hi4,Sem.run_pure,run_underlying hu,(htt e ti hti).sizeOf w,hs1,Lk,q1];rw [show zv.cells=zv.cells.toList.toArray from rfl,hvz,hfill];rfl
      rw [hrun];refine ⟨I,μ,hst,He ⟨by simp [q2.1],λi v d p q=>?_⟩ (λv hv=>?_),Mu.le_refl μ,Ext.refl _ _ _ _⟩
      ·match i,p,q with
       | 0,p,q=>cases p;cases q;exact hv0
       | i+1,p,q=>exact q2.2 i v d (by simpa using p) (by simpa using q)
      ·rcases CA.1 hv with rfl | hv
       ·exact hv0.one hone
       ·exact q3 v hv
     ·cases h
    ·cases h
   ·cases h
  ·cases h
 ·cases h
theorem yC (htt:TTok P tt) {c:PVx} {x:V} (h:vL tt n env todo=some c) (hc:Ap c.g->0<=c.m/\c.m<c.len/\c.xs[c.m.toNat]?=some x) (hob:AG c.ob)
  (hk:G P n F Q c.todo ((c.t,gD c.g (.imm x))::env) st ids):G P n F Q todo env st ids:=by
 unfold vL at h
 split at h
 ·rename_i all o todo' h1
  split at h
  ·rename_i t y i g hop hg
   split at h
   ·rename_i len e _ _ _ _ xs o1 kk m o2 ht hx hi
    split at h
    ·rename_i ti t' hti hdst hd
     split at h
     ·rename_i hsz hagg;cases h;have hk:G P n F Q todo' (BN o.dst (gD g (.imm x)) env) st ids:=by rw [hdst];exact hk
      refine BG (fr:=[]) (wr:=[]) (rd:=[]) h1 (D1 hg λI μ st1 ids1 a w _ hst hops hcx=>?_) (by rw [hdst] at hd ⊢;exact hd) (λc hc=>by rw [hop] at hc;cases hc) hk;rw [hop] at hops;obtain ⟨ho1,ho2⟩:=B8 hob;have rx:=(DZ hx ho1 hcx (hops y (by simp [Op.operands]))).immInv;have ri:=(DZ hi ho2 hcx (hops i (by simp [Op.operands]))).immInv.intInv;obtain ⟨c0,c1,c2⟩:=hc hcx;simp only at c0 c1 c2;have hu:P.underlying t=some (.array len e):=htt.sh ht;have hs1:ti.size=1:=C7 hsz;obtain ⟨cs,hcs,hl,hrep⟩:∃cs:Array Value,a.eval y = .agg cs/\cs.size=xs.length/\∀(i:Nat) (c:Value) (x:V),cs[i]?=some c->xs[i]?=some x->RepV I c x:=by
       have:∀v,RepV I v (.agg xs)->∃cs:Array Value,v = .agg cs/\cs.size=xs.length/\∀(i:Nat) (c:Value) (x:V),cs[i]?=some c->xs[i]?=some x->RepV I c x:=λv hv=>by
        cases hv with
        | agg cs _ hl _ h=>exact ⟨cs,rfl,hl,h⟩
       exact this _ rx
      have hlt:m.toNat<cs.size:=by rw [hl];exact (AO.1 c2).1
      have hget:cs[m.toNat]?=some cs[m.toNat]:=P2 hlt;have hr:=hrep m.toNat _ x hget c2;have hna:=(htt e ti hti).isAgg w;rw [hagg] at hna;simp only [execOp,hop,ri,hcs];have hrun:(do pure (.value (<- Instr.index t (.agg cs) (.int kk m))):Sem Next).run P w = .ok (.value cs[m.toNat]) w:=by
       apply A7;simp only [Instr.index,Sem.run_bind,asIntOf,Sem.run_pure,Result.andThen_ok,run_underlying hu];simp [c0,c1,(htt e ti hti).sizeOf w,hs1,part,hna,hget]
      rw [hrun];exact ⟨I,μ,hst,.imm _ _ hr,Mu.le_refl μ,Ext.refl _ _ _ _⟩
     ·cases h
    ·cases h
   ·cases h
  ·cases h
 ·cases h
end
section
variable {n:Nat}
def bH (m:Nat):D:=.agg (List.replicate (m+1) SF)
theorem Bs (t m:Nat) (h:lk env t=some (bH m)):DGo P n F Q todo env st ids:=by
 intro b cs I μ a w items hd hc;have hv:=hc.env t _ h;generalize a.tmps.getD t undef=v at hv;cases hv with
 | agg cs ds hl _ hr =>
  have h0:0<cs.size:=by rw [hl];simp
  have:=hr 0 cs[0] SF (P2 h0) rfl;generalize cs[0]=u at this;cases this;omega
theorem Bg {c:Uj} {x:V} (m:Nat) (σ:List (Nat×Nat)) (h:TY n env todo=some c) (hob:AG c.ob) (hE:IR P c.f (F7 (Ep σ) c.das) st0 (.pan x)) (hb:EZ σ st st0) (hn:Di σ (Br σ) (I0 c.das)=true) (hq:KY Q x)
  (h1:Bt todo (FH σ,[])=some (c.all,c.o,todo')) (hk:G P n F Q todo' (BN c.dst (bH m) env) st ids):G P n F Q todo env st ids:=by
 obtain ⟨_,q2,q3,q4,q5,q6⟩:=Nd (P:=P) h hob;rw [q6] at q4 hk;exact BG (fr:=[]) (wr:=[]) h1 (QV q2 q3 hE hb hn hq) q4 q5 hk
theorem DC {m:Nat} (I:Imm) (μ:Mu) (v:Value):¬RepD I μ v (bH m):=λh=>by
 cases h with
 | agg cs ds hl _ hr =>
  have h0:0<cs.size:=by rw [hl];simp
  have:=hr 0 cs[0] SF (P2 h0) rfl;generalize cs[0]=u at this;cases this;omega
theorem fO (I:Imm) (μ:Mu) (v:Value):¬RepD I μ v SF:=λh=>by
 cases h;omega
structure PVo where
 d:D
 all:List Oper
 o:Oper
 todo:List DI
def vK (n:Nat) (env:Env) (t:Nat) (todo:List DI):Option PVo :=
 match Bt todo ([],[]) with
 | some (all,o,todo')=>match o.guard,EX (o.op.operands.toList.filterMap λx=>match x with | .tmp i=>some i | _=>none) t,lk env t,BK n o.dst with
  | none,true,some d,true=>some ⟨d,all,o,todo'⟩
  | _,_,_,_=>none
 | none=>none
theorem Eh (t:Nat) (d':D) {c:PVo} (h:vK n env t todo=some c) (hv:∀I μ v,¬RepD I μ v c.d) (hnd:∀x,c.o.op ≠ .defer x) (hk:G P n F Q c.todo (BN c.o.dst d' env) st ids):G P n F Q todo env st ids:=by
 unfold vK at h
 split at h
 ·rename_i all o todo' h1
  split at h
  ·rename_i d hg hm hl hd;cases h;refine BG (fr:=[]) (wr:=[]) (rd:=[]) h1 (λI μ st2 ids1 a w hag hst hon=>⟨λ_=>?_,λhw=>by rw [AL hg] at hw;cases hw⟩) hd hnd hk;exfalso;have hm:=BR.1 hm;obtain ⟨x,hx,e⟩:=List.mem_filterMap.1 hm;cases x with
   | tmp i =>
    cases e;exact hv I μ _ ((Bm hon) (.tmp t) (by simpa using hx) d hl)
   | _=>cases e
  ·cases h
 ·cases h
end
theorem aP (Γ:Au):∀c∈dKns Γ,c.length=5:=λc hc=>by obtain ⟨x,_,rfl⟩:=Cc.1 hc;simp [Vw]
theorem oG (es:List (List V)):Tq4 137 [.imm (.sl es)] [] (.ret (.clip es) []):=by
 exact AQ Ah func137 rfl [1,2]<|Ai rfl<|yD Ah rfl rfl rfl<|Ai rfl<|Ag ⟨_,AD⟩
theorem JZ (Γ:Au) (x:Str) (t:Ty) (hΓ:Γ.length<=1000000):Tq3 75 [.sl (dKns Γ),.str x,.agg (Al t)] (.sl (dKns (Γ++[(x,t)]))):=by
 have hC:=oG (dKns Γ);have h5:=aP Γ;have hl:(dKns Γ).length<=1000000:=by simpa [dKns] using hΓ
 have he:dKns (Γ++[(x,t)])=dKns Γ++[.str x::Al t]:=by simp [dKns,Vw]
 rw [he];generalize dKns Γ=es at *;obtain ⟨t1,t2,t3,t4⟩:=t;exact AQ Ah func75 rfl [1,2,3]<|Ai rfl<|Jf [] [] [] rfl hC trivial rfl rfl<|Ai rfl<|iD Ah rfl ⟨by simp,by simp [maxLen];omega,by simp;omega,λc hc=>h5 c hc,by simp⟩ (λc hc=>h5 c hc)<|yg [] rfl (by simp;rfl)<|Ab rfl rfl rfl
def kY:List V:=[.nilfn,.fn (.func 192),.fn (.func 193),.fn (.func 194),.fn (.func 195),.fn (.func 196),.fn (.func 197),.fn (.func 198),.fn (.func 199),.fn (.func 200),.fn (.func 200),.fn (.func 200),.fn (.func 201),.fn (.func 202),.fn (.func 203),.fn (.func 204),.fn (.func 205),.fn (.func 206),.fn (.func 207),.fn (.func 208),.fn (.func 209),.fn (.func 210),.fn (.func 211),.fn (.func 212),.fn (.func 213),.fn (.func 192),.fn (.func 214),.fn (.func 215),.fn (.func 194)]
theorem fY:Tq3 141 [] (.agg kY):=by
 exact AQ Ah func141 rfl [1]<|Ai rfl<|tS Ah rfl<|Ai rfl<|Ab rfl rfl rfl
theorem DS (op:Nat) {f:FuncId} (hop:kY[op]?=some (.fn (.func f))) {r:Lc} (h:Cu f m Γ (.mk op n x ks ps) T k S r):Ey m Γ (.mk op n x ks ps) T k S r:=by
 have hlt:op<29:=(AO.1 hop).1;have hR:=fY;unfold Ey Cu;unfold Cu at h;refine AQ Ah func79 rfl [5,6,4,7]<|Ai rfl<|Ad rfl hR<|Ai rfl<|yC Ah rfl (λ_=>⟨by simp,by simp;omega,by simpa using hop⟩) (by simp)<|Ai rfl ?_;cases r with
 | some z =>
  obtain ⟨⟨τ1,τ2,τ3,τ4⟩,T',k',S'⟩:=z;exact A4 [(1,1),(2,2),(3,3)] [(4,4)] [] (fr:=[4]) (nm:=[1,2,4,1,2,3]) rfl trivial (by simp) h Ax rfl trivial rfl rfl rfl<|yg [] rfl (by simp;rfl)<|Ag ⟨_,BA⟩
 | none =>
  exact Bg 3 [(1,1),(2,2),(3,3)] rfl (by simp) h Ax rfl rfl rfl<|yg [] rfl (by simp;rfl)<|Bs 14 3 rfl
theorem CB {i:Nat} {u:Tm} {op:Int} (hu:ks[i]?=some u) {r:Lc} (h:Ey m Γ u T k S r) :
  Tq4 260 [.ref 1 0,.imm (.agg (dTmc (.mk op n x ks ps))),.imm (.int .i64 i),.imm (.sl (dKns Γ))] (CI m T k S) (Dj m r):=by
 unfold Ey Cu at h;have hg:=E5 hu;have hlt:=(AO.1 hu).1;obtain ⟨u1,u2,u3,u4,u5⟩:=u;refine AQ Ah func260 rfl [5,6,4,7]<|Ai rfl<|yiz rfl hg<|Ai rfl ?_;cases r with
 | some z =>
  obtain ⟨⟨τ1,τ2,τ3,τ4⟩,T',k',S'⟩:=z;exact Jf [4] [(1,1),(2,2),(3,3)] [(4,4)] rfl h Ax rfl rfl<|Ai rfl<|Ag ⟨_,BA⟩
 | none =>
  exact Bg 3 [(1,1),(2,2),(3,3)] rfl (by simp) h Ax rfl rfl rfl<|Bs 16 3 rfl
def rnL (i j:Nat):List D->List D->Prop
 | [],[]=>True
 | d::r,d'::r'=>(d=d'\/∃l,d = .own i l/\d' = .own j l)/\rnL i j r r'
 | _,_=>False
theorem Wi {i j:Nat}:∀{ds ds':List D},rnL i j ds ds'->ds.length=ds'.length/\∀(q:Nat) (d':D),ds'[q]?=some d'->∃d,ds[q]?=some d/\(d=d'\/∃l,d = .own i l/\d' = .own j l)
 | [],[],_=>⟨rfl,λi d h=>by simp at h⟩
 | d::r,d'::r',h=>by
  obtain ⟨h1,h2⟩:=Wi h.2;refine ⟨by simp [h1],λq x hx=>?_⟩
  match q,hx with
  | 0,hx=>simp at hx;subst hx;exact ⟨d,rfl,h.1⟩
  | q+1,hx=>exact h2 q x (by simpa using hx)
 | [],_::_,h=>h.elim
 | _::_,[],h=>h.elim
theorem Ft {n:Nat} (i j k:Nat) {t:TypeId} {sz':Nat} {ds:List D} (ds':List D) (hl:lk st i=some (some (.row e sz es))) (hk:lk st k=some (some (.cells t sz' ds))) (hik:i≠k) (hcl:rnL i j ds ds') (h:DGo P n F Q todo env ((k,some (.cells t sz' ds'))::(j,some (.row e sz es))::(i,none)::st) ids'):DGo P n F Q todo env st (j::ids'):=by
 refine EJ λI μ a w hc=>?_;obtain ⟨g,hg,hr⟩:=hc.blk i _ hl;obtain ⟨gk,hgk,_⟩:=hc.blk k _ hk;have hjk:j≠k:=λe=>by rw [<- e,hc.idsFree j (by simp)] at hgk;cases hgk
 obtain ⟨q1,q2,q3⟩:=StRep.relay (R:=[i]) (new:=[(j,g,.row e sz es)]) (ids':=ids') hc.toStRep
  (λp hp b hb=>by rw [AN.1 hp] at hb;exact ⟨i,_,g,by simp,hl,hg,hb⟩)
  (λp hp q hq b _ _=>by rw [AN.1 hp,AN.1 hq]) (Imm.le_refl I) hc.imm (λb o h=>.inl h)
  (λhle p hp=>by rw [AN.1 hp];exact hr.mono (Imm.le_refl I) hle)
 have hmj:Ef [(j,g,Blk.row e sz es)] μ j=some g:=by simp [Ef,lk]
 have hmi:∀x v,μ x=some v->Ef [(j,g,Blk.row e sz es)] μ x=some v:=q1;have hk2:Az ((j,some (.row e sz es))::(i,none)::st) k (.cells t sz' ds):=by
  refine AB.2 (.inr ⟨hjk.symm,?_⟩);show lk ((i,none)::st) k=_;rw [A6 _ _ hik];exact hk
 obtain ⟨c1,c2⟩:=Wi hcl;obtain ⟨p1,p2⟩:=q2.retell (st1:=(k,some (.cells t sz' ds'))::(j,some (.row e sz es))::(i,none)::st) (λx bb hlb=>by
  rcases AB.1 hlb with ⟨rfl,rfl⟩ | ⟨_,h2⟩
  ·refine ⟨_,hk2,λgb hb=>?_⟩;obtain ⟨hs,b,us,e1,e2,e3,e4⟩:=hb;refine ⟨by rw [<- c1,hs],b,us,e1,e2,⟨by rw [<- c1,e3.1],λq v y hv hy=>?_⟩,e4⟩;obtain ⟨d,y1,y2⟩:=c2 q y hy;have hr:=e3.2 q v d hv y1;rcases y2 with rfl | ⟨l,rfl,rfl⟩
   ·exact hr
   ·cases hr with
    | own _ _ ad cap hm =>
     rw [hmi i g hg] at hm;cases hm;exact .own j l ad cap hmj
  ·exact ⟨bb,h2,λ_ h=>h⟩)
 exact ⟨I,_,env,_,ids',p1,λt d hd=>(hc.env t d hd).mono (Imm.le_refl I) q1,q3.trans p2,.of_le q1,h⟩
def outK (m:Md):HC->Out
 | some (T',k',S')=>.ret (.imm (.tup [])) (U0 m T' k' S')
 | none=>.pan Gn
theorem Kb (m:Md) (Γ:Au) (op n:Int) (x:Str) (ks:List Tm) (ps:List Ty) (u:Ty) (T:List (Int×Ty)) (k:Int) (S:List Ty) (r:HC) (hl:ks.length<=1000000) (h:B7 m Γ ks (ks.map λ_=>u) T k S r) :
  Tq4 261 [.ref 1 0,.imm (.agg (dTmc (.mk op n x ks ps))),.imm (.sl (dKns Γ)),.imm (.agg (Al u))] (CI m T k S) (outK m r):=by
 obtain ⟨u1,u2,u3,u4⟩:=u;refine AQ Ah func261 rfl [5,6,4,7,8,9]<|Ai rfl<|Ft 3 4 1 [.imm (.str m.name),.imm (.sl (m.datas.map BE)),.imm (.sl (m.funs.map Cg)),.mapr 2,.imm (.int .i64 (k)),.own 4 (A0 S).length] rfl rfl (by decide) ⟨.inl rfl,.inl rfl,.inl rfl,.inl rfl,.inl rfl,.inr ⟨_,rfl,rfl⟩,trivial⟩<|Ak (λz:Nat×List (Int×Ty)×Int×List Ty=>[(12,.imm (.int .i64 z.1)),(11,.imm (.int .i64 ks.length)),(0,.ref 1 0),(2,.imm (.sl (dKns Γ))),(5,.ref 5 0),(7,.ref 6 0)]) (λz=>(5,some (.immb 49 5 (dTmc (.mk op n x ks ps))))::(6,some (.immb 25 4 (Al (.mk u1 u2 u3 u4))))::U0 m z.2.1 z.2.2.1 z.2.2.2) [7,8,9] (λz=>ks.length-z.1)
  (λz=>z.1<=ks.length/\B7 m Γ (ks.drop z.1) ((ks.drop z.1).map λ_=>.mk u1 u2 u3 u4) z.2.1 z.2.2.1 z.2.2.2 r) (0,T,k,S)
  ⟨AF _,h⟩ ⟨rfl,A8 (by simp),BJ⟩ BA rfl λz hz ih=>?_
 clear h;obtain ⟨j,T1,k1,S1⟩:=z;obtain ⟨hj1,hj2⟩:=hz;simp only at hj1 hj2 ih;refine Av rfl<|Aa rfl (λh'=>?_) (λh'=>?_)
 ·have hlt:j<ks.length:=by simp at h';omega
  obtain ⟨t,ht⟩:=Am hlt;rw [As ht,Cv,B7] at hj2;refine Av rfl ?_;rcases hj2 with ⟨hI,rfl⟩ | ⟨⟨τ1,τ2,τ3,τ4⟩,T2,k2,S2,hI,hj2⟩
  ·have hK:=CB (op:=op) (n:=n) (x:=x) (ps:=ps) ht hI;simp only [Dj] at hK;exact Bg 3 [(1,1),(2,2),(4,3)] rfl (by simp) hK Ax rfl rfl rfl<|Ai rfl<|Eh 20 (.imm (.tup [])) rfl DC (λx h=>by cases h)<|yg [] rfl (by simp;rfl)<|Bs 20 3 rfl
  ·have hK:=CB (op:=op) (n:=n) (x:=x) (ps:=ps) ht hI;simp only [Dj] at hK;refine A4 [(1,1),(2,2),(4,3)] [(4,7)] [] (fr:=[7]) (nm:=[1,2,7,1,2,4]) rfl trivial (by simp) hK Ax rfl trivial rfl rfl rfl<|Ai rfl ?_;rcases hj2 with ⟨hE,rfl⟩ | ⟨T3,hE,hj2⟩
   ·unfold DL at hE;exact Bd [(1,1),(2,2),(7,3)] rfl (by simp) hE Ax rfl rfl rfl<|N0 1 rfl (by simp;rfl)<|By 22 rfl
   ·unfold Dk at hE;exact A4 [(1,1),(2,2),(7,3)] [] [] (fr:=[]) (nm:=[1,2,7,1,2,7]) rfl trivial (by simp) hE Ax rfl trivial rfl rfl rfl<|yg [] rfl (by simp;rfl)<|Bo 7 4 rfl<|Ae (ih (j+1,T3,k2,S2) (by simp only;omega) ⟨by simp only;omega,hj2⟩) ⟨M6,BA⟩ BA rfl
 ·have hlt:¬j<ks.length:=by simp at h';omega
  rw [Bh (by omega)] at hj2;simp only [FB,B7] at hj2;subst hj2;exact At rfl<|Av rfl<|BP ⟨_,BA⟩
theorem Ka (m:Md) (Γ:Au) (op n:Int) (x:Str) (t0:Tm) (ks:List Tm) (ps:List Ty) (s:Int) (T:List (Int×Ty)) (k:Int) (S:List Ty) (r:HC) (hk:0<=k/\k<=1000000) (h:B7 m Γ [t0] [Ir s (Ao k)] T (k+1) S r) :
  Tq4 264 [.ref 1 0,.imm (.agg (dTmc (.mk op n x (t0::ks) ps))),.imm (.int .i64 s),.imm (.sl (dKns Γ))] (CI m T k S) (Dj m (r.map λz=>(Ao k,z))):=by
 have hA:=HS m T k S hk;have hKd:=BC s [Ao k];have ht:(t0::ks)[0]?=some t0:=rfl;rw [B7] at h;refine AQ Ah func264 rfl [5,6,7,4,8]<|Ai rfl<|Jf [] [(1,1),(2,2),(3,3)] [] rfl hA Ax rfl rfl<|Ai rfl ?_;rcases h with ⟨hI,rfl⟩ | ⟨⟨τ1,τ2,τ3,τ4⟩,T2,k2,S2,hI,h⟩
 ·have hK:=CB (op:=op) (n:=n) (x:=x) (ps:=ps) ht hI;simp only [Dj] at hK;exact Bg 3 [(1,1),(2,2),(3,3)] rfl (by simp) hK Ax rfl rfl rfl<|Ai rfl<|Ad rfl hKd<|Ai rfl<|Eh 16 (.imm (.tup [])) rfl DC (λx h=>by cases h)<|yg [] rfl (by simp;rfl)<|Bs 16 3 rfl
 ·have hK:=CB (op:=op) (n:=n) (x:=x) (ps:=ps) ht hI;simp only [Dj] at hK;refine A4 [(1,1),(2,2),(3,3)] [(4,4)] [] (fr:=[4]) (nm:=[1,2,4,1,2,3]) rfl trivial (by simp) hK Ax rfl trivial rfl rfl rfl<|Ai rfl<|Ad rfl hKd<|Ai rfl ?_;rcases h with ⟨hE,rfl⟩ | ⟨T3,hE,h⟩
  ·unfold DL at hE;exact Bd [(1,1),(2,2),(4,3)] rfl (by simp) hE Ax rfl rfl rfl<|N0 1 rfl (by simp;rfl)<|By 21 rfl
  ·unfold Dk at hE;simp only [B7] at h;subst h;exact A4 [(1,1),(2,2),(4,3)] [] [] (fr:=[]) (nm:=[1,2,4,1,2,4]) rfl trivial (by simp) hE Ax rfl trivial rfl rfl rfl<|yg [] rfl (by simp;rfl)<|Ag ⟨_,BA⟩
theorem QY (m:Md) (Γ:Au) (op n:Int) (x:Str) (ks:List Tm) (ps:List Ty) (T:List (Int×Ty)) (k:Int) (S:List Ty):Cu 192 m Γ (.mk op n x ks ps) T k S (some (AU,T,k,S)):=by
 have hKd:=BC 1 [];unfold Cu;exact AQ Ah func192 rfl [4,5,6,7]<|Ft 3 4 1 [.imm (.str m.name),.imm (.sl (m.datas.map BE)),.imm (.sl (m.funs.map Cg)),.mapr 2,.imm (.int .i64 (k)),.own 4 (A0 S).length] rfl rfl (by decide) ⟨.inl rfl,.inl rfl,.inl rfl,.inl rfl,.inl rfl,.inr ⟨_,rfl,rfl⟩,trivial⟩<|Av rfl<|Ad rfl hKd<|Ai rfl<|Ag ⟨_,BA⟩
theorem nS (m:Md) (Γ:Au) (op n:Int) (x:Str) (ks:List Tm) (ps:List Ty) (T:List (Int×Ty)) (k:Int) (S:List Ty):Cu 193 m Γ (.mk op n x ks ps) T k S (some (Ca,T,k,S)):=by
 have hKd:=BC 2 [];unfold Cu;exact AQ Ah func193 rfl [4,5,6,7]<|Ft 3 4 1 [.imm (.str m.name),.imm (.sl (m.datas.map BE)),.imm (.sl (m.funs.map Cg)),.mapr 2,.imm (.int .i64 (k)),.own 4 (A0 S).length] rfl rfl (by decide) ⟨.inl rfl,.inl rfl,.inl rfl,.inl rfl,.inl rfl,.inr ⟨_,rfl,rfl⟩,trivial⟩<|Av rfl<|Ad rfl hKd<|Ai rfl<|Ag ⟨_,BA⟩
theorem QX (m:Md) (Γ:Au) (op n:Int) (x:Str) (ks:List Tm) (ps:List Ty) (T:List (Int×Ty)) (k:Int) (S:List Ty):Cu 194 m Γ (.mk op n x ks ps) T k S (some (Dm,T,k,S)):=by
 have hKd:=BC 3 [];unfold Cu;exact AQ Ah func194 rfl [4,5,6,7]<|Ft 3 4 1 [.imm (.str m.name),.imm (.sl (m.datas.map BE)),.imm (.sl (m.funs.map Cg)),.mapr 2,.imm (.int .i64 (k)),.own 4 (A0 S).length] rfl rfl (by decide) ⟨.inl rfl,.inl rfl,.inl rfl,.inl rfl,.inl rfl,.inr ⟨_,rfl,rfl⟩,trivial⟩<|Av rfl<|Ad rfl hKd<|Ai rfl<|Ag ⟨_,BA⟩
theorem Zz (m:Md) (Γ:Au) (op n:Int) (x:Str) (ks:List Tm) (ps:List Ty) (T:List (Int×Ty)) (k:Int) (S:List Ty) (r:HC) (hl:ks.length<=1000000) (h:B7 m Γ ks (ks.map λ_=>AU) T k S r):Cu 200 m Γ (.mk op n x ks ps) T k S (r.map λz=>(AU,z)):=by
 have hKd:=BC 1 [];have hKi:=BC 1 [];have hH:=Kb m Γ op n x ks ps AU T k S r hl h;unfold Cu;refine AQ Ah func200 rfl [5,6,4,7]<|Ai rfl<|Ad rfl hKi<|Ai rfl ?_;cases r with
 | none =>
  exact Bd [(1,1),(2,2),(3,3)] rfl (by simp) hH Ax rfl rfl rfl<|N0 1 rfl (by simp;rfl)<|By 11 rfl
 | some z =>
  obtain ⟨T',k',S'⟩:=z;exact A4 [(1,1),(2,2),(3,3)] [(4,4)] [] (fr:=[4]) (nm:=[1,2,4,1,2,3]) rfl trivial (by simp) hH Ax rfl trivial rfl rfl rfl<|yg [] rfl (by simp;rfl)<|Ad rfl hKd<|Ai rfl<|Ag ⟨_,BA⟩
theorem tG (m:Md) (Γ:Au) (op n:Int) (x:Str) (ks:List Tm) (ps:List Ty) (T:List (Int×Ty)) (k:Int) (S:List Ty) (r:HC) (hl:ks.length<=1000000) (h:B7 m Γ ks (ks.map λ_=>AU) T k S r):Cu 201 m Γ (.mk op n x ks ps) T k S (r.map λz=>(Ca,z)):=by
 have hKd:=BC 2 [];have hKi:=BC 1 [];have hH:=Kb m Γ op n x ks ps AU T k S r hl h;unfold Cu;refine AQ Ah func201 rfl [5,6,4,7]<|Ai rfl<|Ad rfl hKi<|Ai rfl ?_;cases r with
 | none =>
  exact Bd [(1,1),(2,2),(3,3)] rfl (by simp) hH Ax rfl rfl rfl<|N0 1 rfl (by simp;rfl)<|By 11 rfl
 | some z =>
  obtain ⟨T',k',S'⟩:=z;exact A4 [(1,1),(2,2),(3,3)] [(4,4)] [] (fr:=[4]) (nm:=[1,2,4,1,2,3]) rfl trivial (by simp) hH Ax rfl trivial rfl rfl rfl<|yg [] rfl (by simp;rfl)<|Ad rfl hKd<|Ai rfl<|Ag ⟨_,BA⟩
theorem xT (m:Md) (Γ:Au) (op n:Int) (x:Str) (ks:List Tm) (ps:List Ty) (T:List (Int×Ty)) (k:Int) (S:List Ty) (r:HC) (hl:ks.length<=1000000) (h:B7 m Γ ks (ks.map λ_=>AU) T k S r):Cu 213 m Γ (.mk op n x ks ps) T k S (r.map λz=>(Dm,z)):=by
 have hKd:=BC 3 [];have hKi:=BC 1 [];have hH:=Kb m Γ op n x ks ps AU T k S r hl h;unfold Cu;refine AQ Ah func213 rfl [5,6,4,7]<|Ai rfl<|Ad rfl hKi<|Ai rfl ?_;cases r with
 | none =>
  exact Bd [(1,1),(2,2),(3,3)] rfl (by simp) hH Ax rfl rfl rfl<|N0 1 rfl (by simp;rfl)<|By 11 rfl
 | some z =>
  obtain ⟨T',k',S'⟩:=z;exact A4 [(1,1),(2,2),(3,3)] [(4,4)] [] (fr:=[4]) (nm:=[1,2,4,1,2,3]) rfl trivial (by simp) hH Ax rfl trivial rfl rfl rfl<|yg [] rfl (by simp;rfl)<|Ad rfl hKd<|Ai rfl<|Ag ⟨_,BA⟩
theorem nV (m:Md) (Γ:Au) (op n:Int) (x:Str) (ks:List Tm) (ps:List Ty) (T:List (Int×Ty)) (k:Int) (S:List Ty) (r:HC) (hl:ks.length<=1000000) (h:B7 m Γ ks (ks.map λ_=>AU) T k S r):Cu 214 m Γ (.mk op n x ks ps) T k S (r.map λz=>(AU,z)):=by
 have hKd:=BC 1 [];have hKi:=BC 1 [];have hH:=Kb m Γ op n x ks ps AU T k S r hl h;unfold Cu;refine AQ Ah func214 rfl [5,6,4,7]<|Ai rfl<|Ad rfl hKi<|Ai rfl ?_;cases r with
 | none =>
  exact Bd [(1,1),(2,2),(3,3)] rfl (by simp) hH Ax rfl rfl rfl<|N0 1 rfl (by simp;rfl)<|By 11 rfl
 | some z =>
  obtain ⟨T',k',S'⟩:=z;exact A4 [(1,1),(2,2),(3,3)] [(4,4)] [] (fr:=[4]) (nm:=[1,2,4,1,2,3]) rfl trivial (by simp) hH Ax rfl trivial rfl rfl rfl<|yg [] rfl (by simp;rfl)<|Ad rfl hKd<|Ai rfl<|Ag ⟨_,BA⟩
theorem oB (m:Md) (Γ:Au) (op n:Int) (x:Str) (ks:List Tm) (ps:List Ty) (T:List (Int×Ty)) (k:Int) (S:List Ty) (r:HC) (hk:0<=k/\k<=1000000) (hl:ks.length<=1000000) (hS:∀z,r=some z->z.2.2.length<=1000000) (h:B7 m Γ ks (ks.map λ_=>Ao k) T (k+1) S r):Cu 202 m Γ (.mk op n x ks ps) T k S (r.map λz=>(Ca,z.1,z.2.1,z.2.2++[Ao k])):=by
 have hA:=HS m T k S hk;have hKd:=BC 2 [];have hH:=Kb m Γ op n x ks ps (Ao k) T (k+1) S r hl h;unfold Cu;refine AQ Ah func202 rfl [5,6,7,8,4,9,10]<|Ai rfl<|Jf [] [(1,1),(2,2),(3,3)] [] rfl hA Ax rfl rfl<|Ai rfl ?_;cases r with
 | none =>
  exact Bd [(1,1),(2,2),(3,3)] rfl (by simp) hH Ax rfl rfl rfl<|By 14 rfl
 | some z =>
  obtain ⟨T',k',S'⟩:=z;have hSl:=hS _ rfl;simp only at hSl;have hap:A0 (S'++[Ao k])=A0 S'++[Al (Ao k)]:=by rw [E4];rfl
  have hln:(A0 S').length=S'.length:=dTys_length S';have hst:(A0 S'++[[V.int .i64 0,V.int .i64 0,V.str [],V.sl []]]).set (A0 S').length (Al (Ao k))=A0 (S'++[Ao k]):=by
   rw [hap,zb9 _ _ (BL _),LL];rfl
  have hgt:(A0 S'++[[V.int .i64 0,V.int .i64 0,V.str [],V.sl []]])[(A0 S').length]?=some [V.int .i64 0,V.int .i64 0,V.str [],V.sl []]:=by
   rw [QG (BL _),LL];rfl
  exact Jf [8] [(1,1),(2,2),(3,3)] [(4,8)] rfl hH Ax rfl rfl<|Ai rfl<|Bn Ah rfl ⟨by simp,by simp [maxLen];omega,by simp;omega,trivial⟩<|Ai rfl<|FG Ah rfl (λ_=>⟨by show (0:Int)<=((A0 S').length:Int);omega,by show ((A0 S').length:Int)<((A0 S'++[[V.int .i64 0,V.int .i64 0,V.str [],V.sl []]]).length:Int);simp;omega⟩) (by simp [Ap])<|Ai rfl<|Kj Ah (e:=[V.int .i64 0,V.int .i64 0,V.str [],V.sl []]) (e':=Al (Ao k)) rfl (by simpa using hgt) (by show 0+4<=4;decide) (by simp [Ao,Al]) (by simp)<|yg [] rfl (by simp;rfl)<|Ad rfl hKd<|Ai rfl<|Ag ⟨_,rfl,rfl,congrArg (λq=>some (some (eQ m k' 2 4 q))) (by simp:(A0 S'++[[V.int .i64 0,V.int .i64 0,V.str [],V.sl []]]).length=(A0 (S'++[Ao k])).length),rfl,congrArg (λq=>some (some (Blk.row 25 4 q))) hst,trivial⟩
theorem WS {u0 u1:Ty} {r:HC} (h:B7 m Γ [t0,t1] [u0,u1] T k S r) :
  ∃r1,B7 m Γ [t0] [u0] T k S r1/\((r1=none/\r=none)\/∃T1 k1 S1,r1=some (T1,k1,S1)/\B7 m Γ [t1] [u1] T1 k1 S1 r):=by
 rw [B7] at h;rcases h with ⟨hI,rfl⟩ | ⟨τ,T2,k2,S2,hI,h⟩
 ·refine ⟨none,?_,.inl ⟨rfl,rfl⟩⟩;rw [B7];exact .inl ⟨hI,rfl⟩
 ·rcases h with ⟨hE,rfl⟩ | ⟨T3,hE,h⟩
  ·refine ⟨none,?_,.inl ⟨rfl,rfl⟩⟩;rw [B7];exact .inr ⟨τ,T2,k2,S2,hI,.inl ⟨hE,rfl⟩⟩
  ·refine ⟨some (T3,k2,S2),?_,.inr ⟨T3,k2,S2,rfl,h⟩⟩;rw [B7];exact .inr ⟨τ,T2,k2,S2,hI,.inr ⟨T3,hE,by simp only [B7]⟩⟩
theorem xU (m:Md) (Γ:Au) (n:Int) (x:Str) (t0:Tm) (ks:List Tm) (ps:List Ty) (T:List (Int×Ty)) (k:Int) (S:List Ty) (r:HC) (hk:0<=k/\k<=1000000) (h:B7 m Γ [t0] [Ir 5 (Ao k)] T (k+1) S r):Cu 206 m Γ (.mk 17 n x (t0::ks) ps) T k S (r.map λz=>(Ao k,z)):=by
 have hP:=Ka m Γ 17 n x t0 ks ps 5 T k S r hk h;unfold Cu;refine AQ Ah func206 rfl [5,6,4,7]<|Ai rfl ?_;cases r with
 | none =>
  exact Bg 3 [(1,1),(2,2),(3,3)] rfl (by simp) hP Ax rfl rfl rfl<|Bs 10 3 rfl
 | some z =>
  obtain ⟨T',k',S'⟩:=z;exact Jf [4] [(1,1),(2,2),(3,3)] [(4,4)] rfl hP Ax rfl rfl<|Ai rfl<|Ag ⟨_,BA⟩
theorem tH (m:Md) (Γ:Au) (n:Int) (x:Str) (t0:Tm) (ks:List Tm) (ps:List Ty) (T:List (Int×Ty)) (k:Int) (S:List Ty) (r:HC) (hk:0<=k/\k<=1000000) (h:B7 m Γ [t0] [Ir 7 (Ao k)] T (k+1) S r):Cu 209 m Γ (.mk 20 n x (t0::ks) ps) T k S (r.map λz=>(Ao k,z)):=by
 have hP:=Ka m Γ 20 n x t0 ks ps 7 T k S r hk h;unfold Cu;refine AQ Ah func209 rfl [5,6,4,7]<|Ai rfl ?_;cases r with
 | none =>
  exact Bg 3 [(1,1),(2,2),(3,3)] rfl (by simp) hP Ax rfl rfl rfl<|Bs 10 3 rfl
 | some z =>
  obtain ⟨T',k',S'⟩:=z;exact Jf [4] [(1,1),(2,2),(3,3)] [(4,4)] rfl hP Ax rfl rfl<|Ai rfl<|Ag ⟨_,BA⟩
theorem tC (m:Md) (Γ:Au) (n:Int) (x:Str) (t0:Tm) (ks:List Tm) (ps:List Ty) (T:List (Int×Ty)) (k:Int) (S:List Ty) (r:HC) (hk:0<=k/\k<=1000000) (h:B7 m Γ [t0] [Ir 6 (Ao k)] T (k+1) S r):Cu 212 m Γ (.mk 23 n x (t0::ks) ps) T k S (r.map λz=>(Ao k,z)):=by
 have hP:=Ka m Γ 23 n x t0 ks ps 6 T k S r hk h;unfold Cu;refine AQ Ah func212 rfl [5,6,4,7]<|Ai rfl ?_;cases r with
 | none =>
  exact Bg 3 [(1,1),(2,2),(3,3)] rfl (by simp) hP Ax rfl rfl rfl<|Bs 10 3 rfl
 | some z =>
  obtain ⟨T',k',S'⟩:=z;exact Jf [4] [(1,1),(2,2),(3,3)] [(4,4)] rfl hP Ax rfl rfl<|Ai rfl<|Ag ⟨_,BA⟩
theorem xS (m:Md) (Γ:Au) (n:Int) (x:Str) (t0 t1:Tm) (ks:List Tm) (ps:List Ty) (T:List (Int×Ty)) (k:Int) (S:List Ty) (r:HC) (hk:0<=k/\k<=1000000) (h:B7 m Γ [t0,t1] [Ir 5 (Ao k),Ao k] T (k+1) S r):Cu 207 m Γ (.mk 18 n x (t0::t1::ks) ps) T k S (r.map λz=>(Dm,z)):=by
 have hKd:=BC 3 [];have ht:(t0::t1::ks)[1]?=some t1:=rfl;obtain ⟨r1,hP,h⟩:=WS h;have hP:=Ka m Γ 18 n x t0 (t1::ks) ps 5 T k S r1 hk hP;unfold Cu;refine AQ Ah func207 rfl [5,6,8,7,4,9]<|Ai rfl ?_;rcases h with ⟨rfl,rfl⟩ | ⟨T1,k1,S1,rfl,h⟩
 ·exact Bg 3 [(1,1),(2,2),(3,3)] rfl (by simp) hP Ax rfl rfl rfl<|Bs 11 3 rfl
 ·rw [B7] at h;refine Jf [8] [(1,1),(2,2),(3,3)] [(4,8)] rfl hP Ax rfl rfl<|Ai rfl ?_;rcases h with ⟨hI,rfl⟩ | ⟨⟨τ1,τ2,τ3,τ4⟩,T2,k2,S2,hI,h⟩
  ·have hK:=CB (op:=18) (n:=n) (x:=x) (ps:=ps) ht hI;simp only [Dj] at hK;exact Bg 3 [(1,1),(2,2),(8,3)] rfl (by simp) hK Ax rfl rfl rfl<|Ai rfl<|Eh 16 (.imm (.tup [])) rfl DC (λx h=>by cases h)<|yg [] rfl (by simp;rfl)<|Bs 16 3 rfl
  ·have hK:=CB (op:=18) (n:=n) (x:=x) (ps:=ps) ht hI;simp only [Dj] at hK;refine A4 [(1,1),(2,2),(8,3)] [(4,4)] [] (fr:=[4]) (nm:=[1,2,4,1,2,8]) rfl trivial (by simp) hK Ax rfl trivial rfl rfl rfl<|Ai rfl ?_;rcases h with ⟨hE,rfl⟩ | ⟨T3,hE,h⟩
   ·unfold DL at hE;exact Bd [(1,1),(2,2),(4,3)] rfl (by simp) hE Ax rfl rfl rfl<|N0 1 rfl (by simp;rfl)<|By 18 rfl
   ·unfold Dk at hE;simp only [B7] at h;subst h;exact A4 [(1,1),(2,2),(4,3)] [] [] (fr:=[]) (nm:=[1,2,4,1,2,4]) rfl trivial (by simp) hE Ax rfl trivial rfl rfl rfl<|yg [] rfl (by simp;rfl)<|Ad rfl hKd<|Ai rfl<|Ag ⟨_,BA⟩
theorem tD (m:Md) (Γ:Au) (n:Int) (x:Str) (t0 t1:Tm) (ks:List Tm) (ps:List Ty) (T:List (Int×Ty)) (k:Int) (S:List Ty) (r:HC) (hk:0<=k/\k<=1000000) (h:B7 m Γ [t0,t1] [Ir 6 (Ao k),Ao k] T (k+1) S r):Cu 211 m Γ (.mk 22 n x (t0::t1::ks) ps) T k S (r.map λz=>(Dm,z)):=by
 have hKd:=BC 3 [];have ht:(t0::t1::ks)[1]?=some t1:=rfl;obtain ⟨r1,hP,h⟩:=WS h;have hP:=Ka m Γ 22 n x t0 (t1::ks) ps 6 T k S r1 hk hP;unfold Cu;refine AQ Ah func211 rfl [5,6,8,7,4,9]<|Ai rfl ?_;rcases h with ⟨rfl,rfl⟩ | ⟨T1,k1,S1,rfl,h⟩
 ·exact Bg 3 [(1,1),(2,2),(3,3)] rfl (by simp) hP Ax rfl rfl rfl<|Bs 11 3 rfl
 ·rw [B7] at h;refine Jf [8] [(1,1),(2,2),(3,3)] [(4,8)] rfl hP Ax rfl rfl<|Ai rfl ?_;rcases h with ⟨hI,rfl⟩ | ⟨⟨τ1,τ2,τ3,τ4⟩,T2,k2,S2,hI,h⟩
  ·have hK:=CB (op:=22) (n:=n) (x:=x) (ps:=ps) ht hI;simp only [Dj] at hK;exact Bg 3 [(1,1),(2,2),(8,3)] rfl (by simp) hK Ax rfl rfl rfl<|Ai rfl<|Eh 16 (.imm (.tup [])) rfl DC (λx h=>by cases h)<|yg [] rfl (by simp;rfl)<|Bs 16 3 rfl
  ·have hK:=CB (op:=22) (n:=n) (x:=x) (ps:=ps) ht hI;simp only [Dj] at hK;refine A4 [(1,1),(2,2),(8,3)] [(4,4)] [] (fr:=[4]) (nm:=[1,2,4,1,2,8]) rfl trivial (by simp) hK Ax rfl trivial rfl rfl rfl<|Ai rfl ?_;rcases h with ⟨hE,rfl⟩ | ⟨T3,hE,h⟩
   ·unfold DL at hE;exact Bd [(1,1),(2,2),(4,3)] rfl (by simp) hE Ax rfl rfl rfl<|N0 1 rfl (by simp;rfl)<|By 18 rfl
   ·unfold Dk at hE;simp only [B7] at h;subst h;exact A4 [(1,1),(2,2),(4,3)] [] [] (fr:=[]) (nm:=[1,2,4,1,2,4]) rfl trivial (by simp) hE Ax rfl trivial rfl rfl rfl<|yg [] rfl (by simp;rfl)<|Ad rfl hKd<|Ai rfl<|Ag ⟨_,BA⟩
theorem nT (m:Md) (Γ:Au) (n:Int) (x:Str) (t0:Tm) (ks:List Tm) (ps:List Ty) (T:List (Int×Ty)) (k:Int) (S:List Ty) (r:HC) (hk:0<=k/\k<=1000000) (h:B7 m Γ [t0] [Be Dm (Ao k)] T (k+1) S r):Cu 208 m Γ (.mk 19 n x (t0::ks) ps) T k S (r.map λz=>(Ir 7 (Ao k),z)):=by
 have hA:=HS m T k S hk;have hK3:=BC 3 [];have hK4:=BC 4 [Dm,Ao k];have hK7:=BC 7 [Ao k];have ht:(t0::ks)[0]?=some t0:=rfl;rw [B7] at h;unfold Cu;refine AQ Ah func208 rfl [5,6,8,4,7]<|Ai rfl<|Jf [] [(1,1),(2,2),(3,3)] [] rfl hA Ax rfl rfl<|Ai rfl ?_;rcases h with ⟨hI,rfl⟩ | ⟨⟨τ1,τ2,τ3,τ4⟩,T2,k2,S2,hI,h⟩
 ·have hK:=CB (op:=19) (n:=n) (x:=x) (ps:=ps) ht hI;simp only [Dj] at hK;exact Bg 3 [(1,1),(2,2),(3,3)] rfl (by simp) hK Ax rfl rfl rfl<|Ai rfl<|Ad rfl hK3<|Ai rfl<|Ad rfl hK4<|Ai rfl<|Eh 14 (.imm (.tup [])) rfl DC (λx h=>by cases h)<|yg [] rfl (by simp;rfl)<|Bs 14 3 rfl
 ·have hK:=CB (op:=19) (n:=n) (x:=x) (ps:=ps) ht hI;simp only [Dj] at hK;refine A4 [(1,1),(2,2),(3,3)] [(4,4)] [] (fr:=[4]) (nm:=[1,2,4,1,2,3]) rfl trivial (by simp) hK Ax rfl trivial rfl rfl rfl<|Ai rfl<|Ad rfl hK3<|Ai rfl<|Ad rfl hK4<|Ai rfl ?_;rcases h with ⟨hE,rfl⟩ | ⟨T3,hE,h⟩
  ·unfold DL at hE;exact Bd [(1,1),(2,2),(4,3)] rfl (by simp) hE Ax rfl rfl rfl<|N0 1 rfl (by simp;rfl)<|By 19 rfl
  ·unfold Dk at hE;simp only [B7] at h;subst h;exact A4 [(1,1),(2,2),(4,3)] [] [] (fr:=[]) (nm:=[1,2,4,1,2,4]) rfl trivial (by simp) hE Ax rfl trivial rfl rfl rfl<|yg [] rfl (by simp;rfl)<|Ad rfl hK7<|Ai rfl<|Ag ⟨_,BA⟩
theorem ZN (m:Md) (Γ:Au) (op n:Int) (x:Str) (ks:List Tm) (ps:List Ty) (T:List (Int×Ty)) (k:Int) (S:List Ty) (hk:0<=k/\k<=1000000):Cu 210 m Γ (.mk op n x ks ps) T k S (some (Ir 6 (Ao k),T,k+1,S)):=by
 have hA:=HS m T k S hk;have hKd:=BC 6 [Ao k];unfold Cu;exact AQ Ah func210 rfl [4,5,6,7]<|Ft 3 4 1 [.imm (.str m.name),.imm (.sl (m.datas.map BE)),.imm (.sl (m.funs.map Cg)),.mapr 2,.imm (.int .i64 (k)),.own 4 (A0 S).length] rfl rfl (by decide) ⟨.inl rfl,.inl rfl,.inl rfl,.inl rfl,.inl rfl,.inr ⟨_,rfl,rfl⟩,trivial⟩<|Av rfl<|Jf [] [(1,1),(2,2),(4,3)] [] rfl hA Ax rfl rfl<|Ai rfl<|Ad rfl hKd<|Ai rfl<|Ag ⟨_,BA⟩
theorem tJ (m:Md) (Γ:Au) (n:Int) (x:Str) (t0:Tm) (ks:List Tm) (ps:List Ty) (T:List (Int×Ty)) (k:Int) (S:List Ty) {r:Lc} (h:Ey m Γ t0 T k S r):Cu 205 m Γ (.mk 16 n x (t0::ks) ps) T k S (r.map λz=>(Ir 5 z.1,z.2)):=by
 have ht:(t0::ks)[0]?=some t0:=rfl;unfold Cu;refine AQ Ah func205 rfl [5,6,4,7]<|Ai rfl ?_;cases r with
 | none =>
  have hK:=CB (op:=16) (n:=n) (x:=x) (ps:=ps) ht h;simp only [Dj] at hK;exact Bg 3 [(1,1),(2,2),(3,3)] rfl (by simp) hK Ax rfl rfl rfl<|Bs 10 3 rfl
 | some z =>
  obtain ⟨⟨τ1,τ2,τ3,τ4⟩,T',k',S'⟩:=z;have hKd:=BC 5 [.mk τ1 τ2 τ3 τ4];have hK:=CB (op:=16) (n:=n) (x:=x) (ps:=ps) ht h;simp only [Dj] at hK;exact Jf [4] [(1,1),(2,2),(3,3)] [(4,4)] rfl hK Ax rfl rfl<|Ai rfl<|Ad rfl hKd<|Ai rfl<|Ag ⟨_,BA⟩
def ApO (m:Md) (Γ:Au) (t0 t1:Tm) (T:List (Int×Ty)) (k:Int) (S:List Ty) (r:Lc):Prop :=
 (Ey m Γ t0 T k S none/\r=none)\/∃τ T1 k1 S1,Ey m Γ t0 T k S (some (τ,T1,k1,S1))/\((Ey m Γ t1 T1 k1 S1 none/\r=none)\/∃a T2 k2 S2,Ey m Γ t1 T1 k1 S1 (some (a,T2,k2,S2))/\(0<=k2/\k2<=1000000) /\
  ((DL m T2 (k2+1) S2 τ (Be a (Ao k2))/\r=none)\/∃T3,Dk m T2 (k2+1) S2 τ (Be a (Ao k2)) T3/\r=some (Ao k2,T3,k2+1,S2)))
def LetO (m:Md) (Γ:Au) (x:Str) (t0 t1:Tm) (T:List (Int×Ty)) (k:Int) (S:List Ty) (r:Lc):Prop :=
 (Ey m Γ t0 T k S none/\r=none)\/∃τ T1 k1 S1,Ey m Γ t0 T k S (some (τ,T1,k1,S1))/\Ey m (Γ++[(x,τ)]) t1 T1 k1 S1 r
def IfO (m:Md) (Γ:Au) (t0 t1 t2:Tm) (T:List (Int×Ty)) (k:Int) (S:List Ty) (r:Lc):Prop :=
 (B7 m Γ [t0] [Ca] T k S none/\r=none)\/∃T1 k1 S1,B7 m Γ [t0] [Ca] T k S (some (T1,k1,S1))/\((Ey m Γ t1 T1 k1 S1 none/\r=none)\/∃τ T2 k2 S2,Ey m Γ t1 T1 k1 S1 (some (τ,T2,k2,S2)) /\
  ((Ey m Γ t2 T2 k2 S2 none/\r=none)\/∃a T3 k3 S3,Ey m Γ t2 T2 k2 S2 (some (a,T3,k3,S3))/\((DL m T3 k3 S3 τ a/\r=none)\/∃T4,Dk m T3 k3 S3 τ a T4/\r=some (τ,T4,k3,S3))))
theorem xV (m:Md) (Γ:Au) (n:Int) (x:Str) (t0:Tm) (ks:List Tm) (ps:List Ty) (T:List (Int×Ty)) (k:Int) (S:List Ty) (hk:0<=k/\k<=1000000) (hΓ:Γ.length<=1000000) {r:Lc} (h:Ey m (Γ++[(x,Ao k)]) t0 T (k+1) S r):Cu 196 m Γ (.mk 5 n x (t0::ks) ps) T k S (r.map λz=>(Be (Ao k) z.1,z.2)):=by
 have hA:=HS m T k S hk;have hW:=JZ Γ x (Ao k) hΓ;have ht:(t0::ks)[0]?=some t0:=rfl;unfold Cu;refine AQ Ah func196 rfl [5,6,7,4,8,9]<|Ai rfl<|Jf [] [(1,1),(2,2),(3,3)] [] rfl hA Ax rfl rfl<|Ai rfl<|Ad rfl hW<|Ai rfl ?_;cases r with
 | none =>
  have hK:=CB (op:=5) (n:=n) (x:=x) (ps:=ps) ht h;simp only [Dj] at hK;exact Bg 3 [(1,1),(2,2),(3,3)] rfl (by simp) hK Ax rfl rfl rfl<|yg [] rfl (by simp;rfl)<|Bs 18 3 rfl
 | some z =>
  obtain ⟨⟨τ1,τ2,τ3,τ4⟩,T',k',S'⟩:=z;have hKd:=BC 4 [Ao k,.mk τ1 τ2 τ3 τ4];have hK:=CB (op:=5) (n:=n) (x:=x) (ps:=ps) ht h;simp only [Dj] at hK;exact A4 [(1,1),(2,2),(3,3)] [(4,4)] [] (fr:=[4]) (nm:=[1,2,4,1,2,3]) rfl trivial (by simp) hK Ax rfl trivial rfl rfl rfl<|yg [] rfl (by simp;rfl)<|Ad rfl hKd<|Ai rfl<|Ag ⟨_,BA⟩
theorem nU (m:Md) (Γ:Au) (n:Int) (x:Str) (t0:Tm) (ks:List Tm) (ps:List Ty) (T:List (Int×Ty)) (k:Int) (S:List Ty) (hk:0<=k/\k<=1000000) (hΓ:Γ.length<=1000000) {r:HC} (h:B7 m (Γ++[(x,Be (Ao k) AU)]) [t0] [AU] T (k+1) S r):Cu 215 m Γ (.mk 27 n x (t0::ks) ps) T k S (r.map λz=>(Ao k,z)):=by
 have hA:=HS m T k S hk;have hK1:=BC 1 [];have hK4:=BC 4 [Ao k,AU];have hW:=JZ Γ x (Be (Ao k) AU) hΓ;have ht:(t0::ks)[0]?=some t0:=rfl;rw [B7] at h;unfold Cu;refine AQ Ah func215 rfl [5,6,7,4,8,9]<|Ai rfl<|Jf [] [(1,1),(2,2),(3,3)] [] rfl hA Ax rfl rfl<|Ai rfl<|Ad rfl hK1<|Ai rfl<|Ad rfl hK4<|Ai rfl<|Ad rfl hW<|Ai rfl ?_;rcases h with ⟨hI,rfl⟩ | ⟨⟨τ1,τ2,τ3,τ4⟩,T2,k2,S2,hI,h⟩
 ·have hK:=CB (op:=27) (n:=n) (x:=x) (ps:=ps) ht hI;simp only [Dj] at hK;exact Bg 3 [(1,1),(2,2),(3,3)] rfl (by simp) hK Ax rfl rfl rfl<|Ai rfl<|Ad rfl hK1<|Ai rfl<|Eh 21 (.imm (.tup [])) rfl DC (λx h=>by cases h)<|yg [] rfl (by simp;rfl)<|Bs 21 3 rfl
 ·have hK:=CB (op:=27) (n:=n) (x:=x) (ps:=ps) ht hI;simp only [Dj] at hK;refine A4 [(1,1),(2,2),(3,3)] [(4,4)] [] (fr:=[4]) (nm:=[1,2,4,1,2,3]) rfl trivial (by simp) hK Ax rfl trivial rfl rfl rfl<|Ai rfl<|Ad rfl hK1<|Ai rfl ?_;rcases h with ⟨hE,rfl⟩ | ⟨T3,hE,h⟩
  ·unfold DL at hE;exact Bd [(1,1),(2,2),(4,3)] rfl (by simp) hE Ax rfl rfl rfl<|N0 1 rfl (by simp;rfl)<|By 23 rfl
  ·unfold Dk at hE;simp only [B7] at h;subst h;exact A4 [(1,1),(2,2),(4,3)] [] [] (fr:=[]) (nm:=[1,2,4,1,2,4]) rfl trivial (by simp) hE Ax rfl trivial rfl rfl rfl<|yg [] rfl (by simp;rfl)<|Ag ⟨_,BA⟩
theorem MK (m:Md) (Γ:Au) (n:Int) (x:Str) (t0 t1:Tm) (ks:List Tm) (ps:List Ty) (T:List (Int×Ty)) (k:Int) (S:List Ty) (r:Lc) (h:ApO m Γ t0 t1 T k S r):Cu 197 m Γ (.mk 6 n x (t0::t1::ks) ps) T k S (r):=by
 have ht:(t0::t1::ks)[0]?=some t0:=rfl;have ht1:(t0::t1::ks)[1]?=some t1:=rfl;unfold Cu;refine AQ Ah func197 rfl [5,6,8,7,4,9,10]<|Ai rfl ?_;rcases h with ⟨hI,rfl⟩ | ⟨⟨τ1,τ2,τ3,τ4⟩,T1,k1,S1,hI,h⟩
 ·have hK:=CB (op:=6) (n:=n) (x:=x) (ps:=ps) ht hI;simp only [Dj] at hK;exact Bg 3 [(1,1),(2,2),(3,3)] rfl (by simp) hK Ax rfl rfl rfl<|Bs 13 3 rfl
 ·have hK:=CB (op:=6) (n:=n) (x:=x) (ps:=ps) ht hI;simp only [Dj] at hK;refine Jf [8] [(1,1),(2,2),(3,3)] [(4,8)] rfl hK Ax rfl rfl<|Ai rfl ?_;rcases h with ⟨hI2,rfl⟩ | ⟨⟨a1,a2,a3,a4⟩,T2,k2,S2,hI2,hk2,h⟩
  ·have hK2:=CB (op:=6) (n:=n) (x:=x) (ps:=ps) ht1 hI2;simp only [Dj] at hK2;exact Bg 3 [(1,1),(2,2),(8,3)] rfl (by simp) hK2 Ax rfl rfl rfl<|Bs 17 3 rfl
  ·have hA:=HS m T2 k2 S2 hk2;have hK4:=BC 4 [.mk a1 a2 a3 a4,Ao k2];have hK2:=CB (op:=6) (n:=n) (x:=x) (ps:=ps) ht1 hI2;simp only [Dj] at hK2;refine Jf [4] [(1,1),(2,2),(8,3)] [(4,4)] rfl hK2 Ax rfl rfl<|Ai rfl<|Jf [] [(1,1),(2,2),(4,3)] [] rfl hA Ax rfl rfl<|Ai rfl<|Ad rfl hK4<|Ai rfl ?_;rcases h with ⟨hE,rfl⟩ | ⟨T3,hE,rfl⟩
   ·unfold DL at hE;exact Bd [(1,1),(2,2),(4,3)] rfl (by simp) hE Ax rfl rfl rfl<|N0 1 rfl (by simp;rfl)<|By 26 rfl
   ·unfold Dk at hE;exact A4 [(1,1),(2,2),(4,3)] [] [] (fr:=[]) (nm:=[1,2,4,1,2,4]) rfl trivial (by simp) hE Ax rfl trivial rfl rfl rfl<|yg [] rfl (by simp;rfl)<|Ag ⟨_,BA⟩
theorem nX (m:Md) (Γ:Au) (n:Int) (x:Str) (t0 t1:Tm) (ks:List Tm) (ps:List Ty) (T:List (Int×Ty)) (k:Int) (S:List Ty) (r:Lc) (hΓ:Γ.length<=1000000) (h:LetO m Γ x t0 t1 T k S r):Cu 198 m Γ (.mk 7 n x (t0::t1::ks) ps) T k S (r):=by
 have ht:(t0::t1::ks)[0]?=some t0:=rfl;have ht1:(t0::t1::ks)[1]?=some t1:=rfl;unfold Cu;refine AQ Ah func198 rfl [5,6,8,7,4,9,10]<|Ai rfl ?_;rcases h with ⟨hI,rfl⟩ | ⟨⟨τ1,τ2,τ3,τ4⟩,T1,k1,S1,hI,h⟩
 ·have hK:=CB (op:=7) (n:=n) (x:=x) (ps:=ps) ht hI;simp only [Dj] at hK;exact Bg 3 [(1,1),(2,2),(3,3)] rfl (by simp) hK Ax rfl rfl rfl<|Bs 11 3 rfl
 ·have hW:=JZ Γ x (.mk τ1 τ2 τ3 τ4) hΓ;have hK:=CB (op:=7) (n:=n) (x:=x) (ps:=ps) ht hI;simp only [Dj] at hK;refine Jf [8] [(1,1),(2,2),(3,3)] [(4,8)] rfl hK Ax rfl rfl<|Ai rfl<|Ad rfl hW<|Ai rfl ?_;cases r with
  | none =>
   have hK2:=CB (op:=7) (n:=n) (x:=x) (ps:=ps) ht1 h;simp only [Dj] at hK2;exact Bg 3 [(1,1),(2,2),(8,3)] rfl (by simp) hK2 Ax rfl rfl rfl<|yg [] rfl (by simp;rfl)<|Bs 19 3 rfl
  | some z =>
   obtain ⟨⟨a1,a2,a3,a4⟩,T',k',S'⟩:=z;have hK2:=CB (op:=7) (n:=n) (x:=x) (ps:=ps) ht1 h;simp only [Dj] at hK2;exact A4 [(1,1),(2,2),(8,3)] [(4,4)] [] (fr:=[4]) (nm:=[1,2,4,1,2,8]) rfl trivial (by simp) hK2 Ax rfl trivial rfl rfl rfl<|yg [] rfl (by simp;rfl)<|Ag ⟨_,BA⟩
theorem WR (m:Md) (Γ:Au) (n:Int) (x:Str) (t0 t1 t2:Tm) (ks:List Tm) (ps:List Ty) (T:List (Int×Ty)) (k:Int) (S:List Ty) (r:Lc) (h:IfO m Γ t0 t1 t2 T k S r):Cu 199 m Γ (.mk 8 n x (t0::t1::t2::ks) ps) T k S (r):=by
 have ht:(t0::t1::t2::ks)[0]?=some t0:=rfl;have ht1:(t0::t1::t2::ks)[1]?=some t1:=rfl;have ht2:(t0::t1::t2::ks)[2]?=some t2:=rfl;have hKb:=BC 2 [];unfold Cu;refine AQ Ah func199 rfl [5,6,8,9,7,4,10]<|Ai rfl ?_;rcases h with ⟨h,rfl⟩ | ⟨T1,k1,S1,h,h'⟩
 ·rw [B7] at h;rcases h with ⟨hI,_⟩ | ⟨⟨τ1,τ2,τ3,τ4⟩,T2,k2,S2,hI,h⟩
  ·have hK:=CB (op:=8) (n:=n) (x:=x) (ps:=ps) ht hI;simp only [Dj] at hK;exact Bg 3 [(1,1),(2,2),(3,3)] rfl (by simp) hK Ax rfl rfl rfl<|Bs 12 3 rfl
  ·have hK:=CB (op:=8) (n:=n) (x:=x) (ps:=ps) ht hI;simp only [Dj] at hK;refine Jf [8] [(1,1),(2,2),(3,3)] [(4,8)] rfl hK Ax rfl rfl<|Ai rfl<|Ad rfl hKb<|Ai rfl ?_;rcases h with ⟨hE,_⟩ | ⟨T3,hE,h⟩
   ·unfold DL at hE;exact Bd [(1,1),(2,2),(8,3)] rfl (by simp) hE Ax rfl rfl rfl<|By 14 rfl
   ·simp only [B7] at h;cases h
 ·rw [B7] at h;rcases h with ⟨_,h⟩ | ⟨⟨τ1,τ2,τ3,τ4⟩,T2,k2,S2,hI,h⟩
  ·cases h
  rcases h with ⟨_,h⟩ | ⟨T3,hE,h⟩
  ·cases h
  simp only [B7] at h;cases h;unfold Dk at hE;have hK:=CB (op:=8) (n:=n) (x:=x) (ps:=ps) ht hI;simp only [Dj] at hK;refine Jf [8] [(1,1),(2,2),(3,3)] [(4,8)] rfl hK Ax rfl rfl<|Ai rfl<|Ad rfl hKb<|Ai rfl<|Jf [] [(1,1),(2,2),(8,3)] [] rfl hE Ax rfl rfl<|Ai rfl ?_;rcases h' with ⟨hI2,rfl⟩ | ⟨⟨a1,a2,a3,a4⟩,T4,k4,S4,hI2,h⟩
  ·have hK2:=CB (op:=8) (n:=n) (x:=x) (ps:=ps) ht1 hI2;simp only [Dj] at hK2;exact Bg 3 [(1,1),(2,2),(8,3)] rfl (by simp) hK2 Ax rfl rfl rfl<|Bs 18 3 rfl
  ·have hK2:=CB (op:=8) (n:=n) (x:=x) (ps:=ps) ht1 hI2;simp only [Dj] at hK2;refine Jf [9] [(1,1),(2,2),(8,3)] [(4,9)] rfl hK2 Ax rfl rfl<|Ai rfl ?_;rcases h with ⟨hI3,rfl⟩ | ⟨⟨c1,c2,c3,c4⟩,T5,k5,S5,hI3,h⟩
   ·have hK3:=CB (op:=8) (n:=n) (x:=x) (ps:=ps) ht2 hI3;simp only [Dj] at hK3;exact Bg 3 [(1,1),(2,2),(9,3)] rfl (by simp) hK3 Ax rfl rfl rfl<|Ai rfl<|Eh 24 (.imm (.tup [])) rfl DC (λx h=>by cases h)<|yg [] rfl (by simp;rfl)<|Bs 24 3 rfl
   ·have hK3:=CB (op:=8) (n:=n) (x:=x) (ps:=ps) ht2 hI3;simp only [Dj] at hK3;refine A4 [(1,1),(2,2),(9,3)] [(4,4)] [] (fr:=[4]) (nm:=[1,2,4,1,2,9]) rfl trivial (by simp) hK3 Ax rfl trivial rfl rfl rfl<|Ai rfl ?_;rcases h with ⟨hE2,rfl⟩ | ⟨T6,hE2,rfl⟩
    ·unfold DL at hE2;exact Bd [(1,1),(2,2),(4,3)] rfl (by simp) hE2 Ax rfl rfl rfl<|N0 1 rfl (by simp;rfl)<|By 25 rfl
    ·unfold Dk at hE2;exact A4 [(1,1),(2,2),(4,3)] [] [] (fr:=[]) (nm:=[1,2,4,1,2,4]) rfl trivial (by simp) hE2 Ax rfl trivial rfl rfl rfl<|yg [] rfl (by simp;rfl)<|Ag ⟨_,BA⟩
theorem tF (m:Md) (Γ:Au) (n:Int) (x:Str) (ks:List Tm) (ps:List Ty) (T:List (Int×Ty)) (k:Int) (S:List Ty):Cu 195 m Γ (.mk 4 n x ks ps) T k S ((CM m Γ x).map λτ=>(τ,T,k,S)):=by
 obtain ⟨m1,ds,fs⟩:=m;unfold Cu;refine AQ Ah func195 rfl [4,5,6,7,8]<|Ft 3 4 1 [.imm (.str m1),.imm (.sl (ds.map BE)),.imm (.sl (fs.map Cg)),.mapr 2,.imm (.int .i64 k),.own 4 (A0 S).length] rfl rfl (by decide) ⟨.inl rfl,.inl rfl,.inl rfl,.inl rfl,.inl rfl,.inr ⟨_,rfl,rfl⟩,trivial⟩<|FN (t:=2) rfl λhv=>?_;simp [Ez,maxLen,dKns] at hv;refine Av rfl<|Ak (λj:Nat=>[(7,.imm (.int .i64 ((j:Int)-1))),(0,.ref 1 0),(2,.imm (.sl (dKns Γ))),(4,.ref 5 0),(6,.ref 6 0)]) (λ_=>(5,some (.immb 49 5 (dTmc (.mk 4 n x ks ps))))::(6,some (.cells 25 4 [.imm (.int .i64 0),.imm (.int .i64 0),.imm (.str []),.nils]))::U0 ⟨m1,ds,fs⟩ T k S) [7,8] (λj=>j)
  (λj=>j<=Γ.length/\LP Γ x=LP (Γ.take j) x) Γ.length
  ⟨BL _,by rw [Ig]⟩ ⟨A8 (by simp [dKns];exact BW (by omega) (by omega)),BJ⟩ BA rfl λj hj jh=>?_
 refine Av rfl<|Aa rfl (λh=>?_) (λh=>?_)
 ·have h1:1<=j:=by simp at h;omega
  obtain ⟨i,rfl⟩:∃i,j=i+1:=⟨j-1,by omega⟩
  obtain ⟨p,hp⟩:=Am (l:=Γ) (i:=i) (by omega);have hg:=Ni hp;have hlk:=hj.2;rw [Bk hp,QU] at hlk;obtain ⟨y,u1,u2,u3,u4⟩:=p;refine Av rfl<|yi rfl (c:=Vw (y,.mk u1 u2 u3 u4)) (λ_=>⟨by simp,by simpa using hg,by simp⟩) (by simp)<|yg [] rfl (by simp;rfl)<|Aa rfl (λh2=>?_) (λh2=>?_)
  ·have hx:y=x:=by simpa using h2
   rw [if_pos hx] at hlk;have hr:CM ⟨m1,ds,fs⟩ Γ x=some (.mk u1 u2 u3 u4):=by simp only [CM,hlk]
   rw [hr];exact Av rfl<|yi rfl (c:=Vw (y,.mk u1 u2 u3 u4)) (λ_=>⟨by simp,by simpa using hg,by simp⟩) (by simp)<|Ai rfl<|Ag ⟨_,BA⟩
  ·have hx:y≠x:=by simpa using h2
   rw [if_neg hx] at hlk;exact Av rfl<|Ae (jh i (by omega) ⟨by omega,hlk⟩) ⟨A8 (by rw [BW (by omega) (by omega)];omega),BJ⟩ BA rfl
 ·have h1:j=0:=by simp at h;omega
  subst h1;have hlk:LP Γ x=none:=hj.2;clear hj jh;refine At rfl<|Av rfl<|FN (t:=34) rfl λhv2=>?_;simp [Ez,maxLen] at hv2;refine Ak (λi:Nat=>[(36,.imm (.int .i64 i)),(35,.imm (.int .i64 fs.length)),(34,.imm (.sl (fs.map Cg))),(4,.ref 5 0),(6,.ref 6 0)]) (λ_=>(5,some (.immb 49 5 (dTmc (.mk 4 n x ks ps))))::(6,some (.cells 25 4 [.imm (.int .i64 0),.imm (.int .i64 0),.imm (.str []),.nils]))::U0 ⟨m1,ds,fs⟩ T k S) [7,8] (λi=>fs.length-i)
   (λi=>i<=fs.length/\MV fs x=MV (fs.drop i) x) 0
   ⟨AF _,rfl⟩ ⟨rfl,A8 (by simp),AH⟩ BA rfl λi hi ih=>?_
  refine Av rfl<|Aa rfl (λh=>?_) (λh=>?_)
  ·have hlt:i<fs.length:=by simp at h;omega
   obtain ⟨f,hf⟩:=Am hlt;have hg:=HZ hf;have hft:=hi.2;rw [TK hf] at hft;have hF:=BC 4 [f.from_,f.to_];obtain ⟨f1,f2,⟨a1,a2,a3,a4⟩,⟨b1,b2,b3,b4⟩,⟨c1,c2,c3,c4,c5⟩⟩:=f;simp only at hft hF;refine Av rfl<|yi rfl (c:=Cg ⟨f1,f2,⟨a1,a2,a3,a4⟩,⟨b1,b2,b3,b4⟩,⟨c1,c2,c3,c4,c5⟩⟩) (λ_=>⟨by simp,by simpa using hg,by simp [Cg]⟩) (by simp)<|Ai rfl<|Aa rfl (λh2=>?_) (λh2=>?_)
   ·have hx:f1=x:=by simpa using h2
    rw [if_pos hx] at hft;have hr:CM ⟨m1,ds,fs⟩ Γ x=some (Be (.mk a1 a2 a3 a4) (.mk b1 b2 b3 b4)):=by simp only [CM,hlk,hft]
    rw [hr];exact Av rfl<|Ad rfl hF<|Ai rfl<|Ag ⟨_,BA⟩
   ·have hx:f1≠x:=by simpa using h2
    rw [if_neg hx] at hft;exact Av rfl<|Ae (ih (i+1) (by omega) ⟨by omega,hft⟩) ⟨M6,BJ⟩ BA rfl
  ·have hlt:¬i<fs.length:=by simp at h;omega
   have hft:=hi.2;rw [Bh (by omega)] at hft;have hr:CM ⟨m1,ds,fs⟩ Γ x=none:=by simp only [CM,hlk,hft];rfl
   rw [hr];exact At rfl<|Av rfl<|IK rfl rfl rfl rfl
def YO (m:Md) (T:List (Int×Ty)) (k:Int) (S:List Ty):Option (Cd×Str)->Out
 | some (c,y)=>.ret (.imm (.tup [.agg (CK c),.agg (Al (Bx y))])) (CI m T k S)
 | none=>.pan Gn
theorem iX {i:Nat} {d:Dt} (h:l[i]?=some d) (x:Str):Fj (l.drop i) x=match Ju d.cons x with
 | some c=>some (c,d.name)
 | none=>Fj (l.drop (i+1)) x:=by rw [As h];rfl
theorem KB (m:Md) (x:Str) (T:List (Int×Ty)) (k:Int) (S:List Ty):Tq4 262 [.ref 1 0,.imm (.str x)] (CI m T k S) (YO m T k S (Fj m.datas x)):=by
 obtain ⟨m1,ds,fs⟩:=m;refine AQ Ah func262 rfl [5,6,7,8,9]<|Ai rfl<|FN (t:=14) rfl λhv=>?_;simp [Ez,maxLen] at hv;refine Ak (λi:Nat=>[(16,.imm (.int .i64 i)),(15,.imm (.int .i64 ds.length)),(14,.imm (.sl (ds.map BE))),(1,.imm (.str x)),(4,.ref 5 0),(5,.ref 6 0)]) (λ_=>(5,some (.cells 178 2 [.imm (.str []),.nils]))::(6,some (.cells 25 4 [.imm (.int .i64 0),.imm (.int .i64 0),.imm (.str []),.nils]))::CI ⟨m1,ds,fs⟩ T k S) [7,8,9] (λi=>ds.length-i)
  (λi=>i<=ds.length/\Fj ds x=Fj (ds.drop i) x) 0
  ⟨AF _,rfl⟩ ⟨rfl,A8 (by simp),BJ⟩ BA rfl λi hi ih=>?_
 refine Av rfl<|Aa rfl (λh=>?_) (λh=>?_)
 ·have hlt:i<ds.length:=by simp at h;omega
  obtain ⟨d,hd⟩:=Am hlt;have hg:=GZ hd;have hcd:=hi.2;rw [iX hd] at hcd;obtain ⟨d1,cs⟩:=d;simp only at hcd;refine Av rfl<|yi rfl (c:=BE ⟨d1,cs⟩) (λ_=>⟨by simp,by simpa using hg,by simp [BE]⟩) (by simp)<|Ai rfl<|FN (t:=21) rfl λhv2=>?_;simp [Ez,maxLen] at hv2
  refine Ak (λj:Nat=>[(23,.imm (.int .i64 j)),(22,.imm (.int .i64 cs.length)),(21,.imm (.sl (cs.map CK))),(7,.ref 7 0),(16,.imm (.int .i64 i)),(15,.imm (.int .i64 ds.length)),(14,.imm (.sl (ds.map BE))),(1,.imm (.str x)),(4,.ref 5 0),(5,.ref 6 0)]) (λ_=>(7,some (.immb 113 2 (BE ⟨d1,cs⟩)))::(5,some (.cells 178 2 [.imm (.str []),.nils]))::(6,some (.cells 25 4 [.imm (.int .i64 0),.imm (.int .i64 0),.imm (.str []),.nils]))::CI ⟨m1,ds,fs⟩ T k S) [8,9] (λj=>cs.length-j)
   (λj=>j<=cs.length/\Ju cs x=Ju (cs.drop j) x) 0
   ⟨AF _,rfl⟩ ⟨rfl,A8 (by simp),Mr⟩ GE rfl λj hj jh=>?_
  refine Av rfl<|Aa rfl (λh=>?_) (λh=>?_)
  ·have hlt2:j<cs.length:=by simp at h;omega
   obtain ⟨c,hc⟩:=Am hlt2;have hgc:=Nj hc;have hcl:=hj.2;rw [Ub hc] at hcl;obtain ⟨c1,ag⟩:=c;simp only at hcl;refine Av rfl<|yi rfl (c:=CK ⟨c1,ag⟩) (λ_=>⟨by simp,by simpa using hgc,by simp [CK]⟩) (by simp)<|Ai rfl<|Aa rfl (λh2=>?_) (λh2=>?_)
   ·have hx:c1=x:=by simpa using h2
    rw [if_pos hx] at hcl;have hr:Fj ds x=some (⟨c1,ag⟩,d1):=by rw [hcd,hcl]
    simp only [hr];exact yd [] rfl (by simp;rfl)<|Ag ⟨_,BA⟩
   ·have hx:c1≠x:=by simpa using h2
    rw [if_neg hx] at hcl;exact Av rfl<|Ae (jh (j+1) (by omega) ⟨by omega,hcl⟩) ⟨M6,Y0⟩ GE rfl
  ·have hlt2:¬j<cs.length:=by simp at h;omega
   have hcl:=hj.2;rw [Bh (by omega)] at hcl;have hcl:Ju cs x=none:=hcl;rw [hcl] at hcd;simp only at hcd;exact At rfl<|Av rfl<|Ae (ih (i+1) (by omega) ⟨by omega,hcd⟩) ⟨M6,BA⟩ BA rfl
 ·have hlt:¬i<ds.length:=by simp at h;omega
  have hcd:=hi.2;rw [Bh (by omega)] at hcd;have hr:Fj ds x=none:=hcd;simp only [hr];exact At rfl<|Av rfl<|IK rfl rfl rfl rfl
theorem zbk (m:Md) (Γ:Au) (n:Int) (x:Str) (ks:List Tm) (ps:List Ty) (T:List (Int×Ty)) (k:Int) (S:List Ty) (h:Fj m.datas x=none\/∃c y,Fj m.datas x=some (c,y)/\c.args.length≠ks.length):Cu 203 m Γ (.mk 14 n x ks ps) T k S none:=by
 have hF:=KB m x T k S;unfold Cu;refine AQ Ah func203 rfl [5,6,7,8,4,9]<|Ai rfl ?_;rcases h with h | ⟨c,y,h,hl⟩
 ·rw [h] at hF;simp only [YO] at hF;exact Bg 1 [(1,1),(2,2),(3,3)] rfl (by simp) hF Ax rfl rfl rfl<|Bs 15 1 rfl
 ·rw [h] at hF;obtain ⟨c1,ag⟩:=c;simp only [YO] at hF;exact Jf [] [(1,1),(2,2),(3,3)] [] rfl hF Ax rfl rfl<|Ai rfl<|Bd [] rfl (by simp) (I7 _ (by simp at hl ⊢;omega)) trivial rfl rfl rfl<|By 25 rfl
theorem xW (m:Md) (Γ:Au) (n:Int) (x:Str) (ks:List Tm) (ps:List Ty) (T:List (Int×Ty)) (k:Int) (S:List Ty) (r:HC) (c:Cd) (y:Str) (hC:Fj m.datas x=some (c,y)) (hl:c.args.length=ks.length) (h:B7 m Γ ks c.args T k S r):Cu 203 m Γ (.mk 14 n x ks ps) T k S (r.map λz=>(Bx y,z)):=by
 have hF:=KB m x T k S;rw [hC] at hF;obtain ⟨c1,ag⟩:=c;simp only [YO] at hF;simp only at hl h;have hwt:Tq3 117 [.bool (((A0 ag).length:Int) == (Dq ks).length)] (.tup []):=by
  rw [show (((A0 ag).length:Int) == (Dq ks).length)=true by simp;omega];exact Fx
 unfold Cu;refine AQ Ah func203 rfl [5,6,7,8,4,9,10,11]<|Ai rfl<|Jf [] [(1,1),(2,2),(3,3)] [] rfl hF Ax rfl rfl<|Ai rfl<|Ad rfl hwt<|Ai rfl<|Ft 3 4 1 [.imm (.str m.name),.imm (.sl (m.datas.map BE)),.imm (.sl (m.funs.map Cg)),.mapr 2,.imm (.int .i64 (k)),.own 4 (A0 S).length] rfl rfl (by decide) ⟨.inl rfl,.inl rfl,.inl rfl,.inl rfl,.inl rfl,.inr ⟨_,rfl,rfl⟩,trivial⟩<|FN (t:=27) rfl λhv=>?_;simp [Ez,maxLen] at hv
 refine Ak (λz:Nat×List (Int×Ty)×Int×List Ty=>[(29,.imm (.int .i64 z.1)),(28,.imm (.int .i64 ag.length)),(27,.imm (.sl (A0 ag))),(0,.ref 1 0),(2,.imm (.sl (dKns Γ))),(4,.ref 5 0),(6,.ref 6 0),(8,.ref 8 0)]) (λz=>(5,some (.immb 49 5 (dTmc (.mk 14 n x ks ps))))::(6,some (.cells 25 4 [.imm (.int .i64 0),.imm (.int .i64 0),.imm (.str []),.nils]))::(8,some (.immb 25 4 (Al (Bx y))))::U0 m z.2.1 z.2.2.1 z.2.2.2) [9,10,11] (λz=>ag.length-z.1)
  (λz=>z.1<=ag.length/\B7 m Γ (ks.drop z.1) (ag.drop z.1) z.2.1 z.2.2.1 z.2.2.2 r) (0,T,k,S)
  ⟨AF _,h⟩ ⟨rfl,A8 (by simp),GE⟩ GE rfl λz hz ih=>?_
 clear h;obtain ⟨j,T1,k1,S1⟩:=z;obtain ⟨hj1,hj2⟩:=hz;simp only at hj1 hj2 ih;refine Av rfl<|Aa rfl (λh'=>?_) (λh'=>?_)
 ·have hlt:j<ag.length:=by simp at h';omega
  obtain ⟨u,hu⟩:=Am hlt;obtain ⟨t,ht⟩:=Am (l:=ks) (i:=j) (by omega);have hgu:=AA hu;rw [As ht,As hu,B7] at hj2;obtain ⟨u1,u2,u3,u4⟩:=u;refine Av rfl<|yiz rfl hgu<|Ai rfl ?_;rcases hj2 with ⟨hI,rfl⟩ | ⟨⟨τ1,τ2,τ3,τ4⟩,T2,k2,S2,hI,hj2⟩
  ·have hK:=CB (op:=14) (n:=n) (x:=x) (ps:=ps) ht hI;simp only [Dj] at hK;exact Bg 3 [(1,1),(2,2),(4,3)] rfl (by simp) hK Ax rfl rfl rfl<|Ai rfl<|Eh 39 (.imm (.tup [])) rfl DC (λx h=>by cases h)<|yg [] rfl (by simp;rfl)<|Bs 39 3 rfl
  ·have hK:=CB (op:=14) (n:=n) (x:=x) (ps:=ps) ht hI;simp only [Dj] at hK;refine A4 [(1,1),(2,2),(4,3)] [(4,10)] [] (fr:=[10]) (nm:=[1,2,10,1,2,4]) rfl trivial (by simp) hK Ax rfl trivial rfl rfl rfl<|Ai rfl ?_;rcases hj2 with ⟨hE,rfl⟩ | ⟨T3,hE,hj2⟩
   ·unfold DL at hE;exact Bd [(1,1),(2,2),(10,3)] rfl (by simp) hE Ax rfl rfl rfl<|N0 1 rfl (by simp;rfl)<|By 41 rfl
   ·unfold Dk at hE;exact A4 [(1,1),(2,2),(10,3)] [] [] (fr:=[]) (nm:=[1,2,10,1,2,10]) rfl trivial (by simp) hE Ax rfl trivial rfl rfl rfl<|yg [] rfl (by simp;rfl)<|Bo 10 4 rfl<|Ae (ih (j+1,T3,k2,S2) (by simp only;omega) ⟨by simp only;omega,hj2⟩) ⟨M6,F6⟩ GE rfl
 ·have hlt:¬j<ag.length:=by simp at h';omega
  rw [Bh (by omega:ks.length<=j)] at hj2;simp only [B7] at hj2;subst hj2;exact At rfl<|Av rfl<|Ag ⟨_,BA⟩
theorem fZ (m:Md) (Γ:Au) (n:Int) (x:Str) (ps:List Ty) (τ:Ty) (T:List (Int×Ty)) (k:Int) (S:List Ty) (hΓ:Γ.length<=1000000):GB m Γ (.mk 2 n x ps) τ T k S (some (Γ++[(x,τ)],T)):=by
 have hW:=JZ Γ x τ hΓ;obtain ⟨τ1,τ2,τ3,τ4⟩:=τ;unfold GB;exact AQ Ah func263 rfl [5,6,7,8]<|yg [.a] rfl (by simp)<|Ad rfl hW<|Ai rfl<|Ag ⟨_,BA⟩
theorem nW (m:Md) (Γ:Au) (f n:Int) (x:Str) (ps:List Ty) (τ:Ty) (T:List (Int×Ty)) (k:Int) (S:List Ty) (hf:f≠2/\f≠3/\f≠4/\f≠5/\f≠6):GB m Γ (.mk f n x ps) τ T k S (some (Γ,T)):=by
 obtain ⟨τ1,τ2,τ3,τ4⟩:=τ;unfold GB;refine AQ Ah func263 rfl [5,6,7,8]<|Ai rfl<|Aa rfl (λh=>by exfalso;simp at h;omega) (λh=>?_);refine Av rfl<|Aa rfl (λh=>by exfalso;simp at h;omega) (λh=>?_);refine Av rfl<|Aa rfl (λh=>by exfalso;simp at h;omega) (λh=>?_);refine Av rfl<|Aa rfl (λh=>by exfalso;simp at h;omega) (λh=>?_);refine Av rfl<|Aa rfl (λh=>by exfalso;simp at h;omega) (λh=>?_);exact Av rfl<|Ag ⟨_,BA⟩
theorem gC (m:Md) (Γ:Au) (n:Int) (x:Str) (ps:List Ty) (τ:Ty) (T:List (Int×Ty)) (k:Int) (S:List Ty) (r:Option (List (Int×Ty))) (h:vE m T k S τ (NW 3) r):GB m Γ (.mk 3 n x ps) τ T k S (r.map λT'=>(Γ,T')):=by
 have hKd:=BC 1 [];obtain ⟨τ1,τ2,τ3,τ4⟩:=τ;unfold GB;refine AQ Ah func263 rfl [5,6,7,8]<|yg [.a,.a] rfl (by simp)<|Ad rfl hKd<|Ai rfl ?_;cases r with
 | none =>
  have h:DL m T k S _ (.mk 1 0 [] []):=h;unfold DL at h;exact Bd [(1,1),(2,2),(3,3)] rfl (by simp) h Ax rfl rfl rfl<|N0 1 rfl (by simp;rfl)<|By 27 rfl
 | some T' =>
  have h:Dk m T k S _ (.mk 1 0 [] []) T':=h;unfold Dk at h;exact A4 [(1,1),(2,2),(3,3)] [] [] (fr:=[]) (nm:=[1,2,3,1,2,3]) rfl trivial (by simp) h Ax rfl trivial rfl rfl rfl<|yg [] rfl (by simp;rfl)<|Ag ⟨_,BA⟩
theorem gB (m:Md) (Γ:Au) (n:Int) (x:Str) (ps:List Ty) (τ:Ty) (T:List (Int×Ty)) (k:Int) (S:List Ty) (r:Option (List (Int×Ty))) (h:vE m T k S τ (NW 4) r):GB m Γ (.mk 4 n x ps) τ T k S (r.map λT'=>(Γ,T')):=by
 have hKd:=BC 2 [];obtain ⟨τ1,τ2,τ3,τ4⟩:=τ;unfold GB;refine AQ Ah func263 rfl [5,6,7,8]<|yg [.a,.a,.a] rfl (by simp)<|Ad rfl hKd<|Ai rfl ?_;cases r with
 | none =>
  have h:DL m T k S _ (.mk 2 0 [] []):=h;unfold DL at h;exact Bd [(1,1),(2,2),(3,3)] rfl (by simp) h Ax rfl rfl rfl<|N0 1 rfl (by simp;rfl)<|By 33 rfl
 | some T' =>
  have h:Dk m T k S _ (.mk 2 0 [] []) T':=h;unfold Dk at h;exact A4 [(1,1),(2,2),(3,3)] [] [] (fr:=[]) (nm:=[1,2,3,1,2,3]) rfl trivial (by simp) h Ax rfl trivial rfl rfl rfl<|yg [] rfl (by simp;rfl)<|Ag ⟨_,BA⟩
theorem gA (m:Md) (Γ:Au) (n:Int) (x:Str) (ps:List Ty) (τ:Ty) (T:List (Int×Ty)) (k:Int) (S:List Ty) (r:Option (List (Int×Ty))) (h:vE m T k S τ (NW 5) r):GB m Γ (.mk 5 n x ps) τ T k S (r.map λT'=>(Γ,T')):=by
 have hKd:=BC 3 [];obtain ⟨τ1,τ2,τ3,τ4⟩:=τ;unfold GB;refine AQ Ah func263 rfl [5,6,7,8]<|yg [.a,.a,.a,.a] rfl (by simp)<|Ad rfl hKd<|Ai rfl ?_;cases r with
 | none =>
  have h:DL m T k S _ (.mk 3 0 [] []):=h;unfold DL at h;exact Bd [(1,1),(2,2),(3,3)] rfl (by simp) h Ax rfl rfl rfl<|N0 1 rfl (by simp;rfl)<|By 39 rfl
 | some T' =>
  have h:Dk m T k S _ (.mk 3 0 [] []) T':=h;unfold Dk at h;exact A4 [(1,1),(2,2),(3,3)] [] [] (fr:=[]) (nm:=[1,2,3,1,2,3]) rfl trivial (by simp) h Ax rfl trivial rfl rfl rfl<|yg [] rfl (by simp;rfl)<|Ag ⟨_,BA⟩
theorem Lr (m:Md) (Γ:Au) (n:Int) (x:Str) (ps:List Ty) (τ:Ty) (T:List (Int×Ty)) (k:Int) (S:List Ty) (h:Fj m.datas x=none\/∃c y,Fj m.datas x=some (c,y)/\c.args.length≠ps.length):GB m Γ (.mk 6 n x ps) τ T k S none:=by
 have hF:=KB m x T k S;obtain ⟨τ1,τ2,τ3,τ4⟩:=τ;unfold GB;refine AQ Ah func263 rfl [5,6,7,8,9]<|yg (Qy 4 [.a]) rfl (by simp) ?_;rcases h with h | ⟨c,y,h,hl⟩
 ·rw [h] at hF;simp only [YO] at hF;exact Bg 1 [(1,1),(2,2),(3,3)] rfl (by simp) hF Ax rfl rfl rfl<|Bs 46 1 rfl
 ·rw [h] at hF;obtain ⟨c1,ag⟩:=c;simp only [YO] at hF;exact Jf [] [(1,1),(2,2),(3,3)] [] rfl hF Ax rfl rfl<|Ai rfl<|Bd [] rfl (by simp) (I7 _ (by simp at hl ⊢;omega)) trivial rfl rfl rfl<|By 56 rfl
theorem WN (m:Md) (Γ:Au) (n:Int) (x:Str) (ps:List Ty) (τ:Ty) (T:List (Int×Ty)) (k:Int) (S:List Ty) (r:Option (Au×List (Int×Ty))) (c:Cd) (y:Str) (hC:Fj m.datas x=some (c,y)) (hl:c.args.length=ps.length)
  (h:(DL m T k S τ (Bx y)/\r=none)\/∃T1,Dk m T k S τ (Bx y) T1/\Nw m k S ps c.args Γ T1 r):GB m Γ (.mk 6 n x ps) τ T k S r:=by
 have hF:=KB m x T k S;rw [hC] at hF;obtain ⟨c1,ag⟩:=c;simp only [YO] at hF;simp only at hl h;have hwt:Tq3 117 [.bool (((A0 ag).length:Int) == (A0 ps).length)] (.tup []):=by
  rw [show (((A0 ag).length:Int) == (A0 ps).length)=true by simp;omega];exact Fx
 obtain ⟨τ1,τ2,τ3,τ4⟩:=τ;unfold GB;refine AQ Ah func263 rfl [5,6,7,8,9,10]<|yg (Qy 4 [.a]) rfl (by simp)<|Jf [] [(1,1),(2,2),(3,3)] [] rfl hF Ax rfl rfl<|Ai rfl<|Ad rfl hwt<|Ai rfl ?_;rcases h with ⟨hE,rfl⟩ | ⟨T1,hE,h⟩
 ·unfold DL at hE;exact Bd [(1,1),(2,2),(3,3)] rfl (by simp) hE Ax rfl rfl rfl<|By 60 rfl
 unfold Dk at hE;refine Jf [] [(1,1),(2,2),(3,3)] [] rfl hE Ax rfl rfl<|Ai rfl<|FN (t:=62) rfl λhv=>?_;simp [Ez,maxLen] at hv;refine Ak (λz:Nat×Au×List (Int×Ty)=>[(64,.imm (.int .i64 z.1)),(63,.imm (.int .i64 ps.length)),(62,.imm (.sl (A0 ps))),(0,.ref 1 0),(3,.imm (.sl (dKns z.2.1))),(9,.ref 7 0)]) (λz=>(7,some (.immb 178 2 (CK ⟨c1,ag⟩)))::CI m z.2.2 k S) [9,10] (λz=>ps.length-z.1)
  (λz=>z.1<=ps.length/\Nw m k S (ps.drop z.1) (ag.drop z.1) z.2.1 z.2.2 r) (0,Γ,T1)
  ⟨AF _,h⟩ ⟨rfl,A8 (by simp),BJ⟩ BJ rfl λz hz ih=>?_
 clear h;obtain ⟨j,Γ1,T2⟩:=z;obtain ⟨hj1,hj2⟩:=hz;simp only at hj1 hj2 ih;refine Av rfl<|Aa rfl (λh'=>?_) (λh'=>?_)
 ·have hlt:j<ps.length:=by simp at h';omega
  obtain ⟨p,hp⟩:=Am hlt;obtain ⟨u,hu⟩:=Am (l:=ag) (i:=j) (by omega);have hgp:=AA hp;have hgu:=AA hu;rw [As hp,As hu,Nw] at hj2;obtain ⟨u1,u2,u3,u4⟩:=u;obtain ⟨p1,p2,p3,p4⟩:=p;refine Av rfl<|yiz rfl hgp<|Ai rfl<|yiz rfl hgu<|Ai rfl ?_;rcases hj2 with ⟨hP,rfl⟩ | ⟨Γ2,T3,hP,hj2⟩
  ·unfold GB at hP;simp only [zds] at hP;exact Bd [(1,1),(2,2),(3,3)] rfl (by simp) hP Ax rfl rfl rfl<|yg [] rfl (by simp;rfl)<|By 77 rfl
  ·unfold GB at hP;simp only [zds] at hP;exact A4 [(1,1),(2,2),(3,3)] [] [] (fr:=[]) (nm:=[1,2,3,1,2,3]) rfl trivial (by simp) hP Ax rfl trivial rfl rfl rfl<|yg [] rfl (by simp;rfl)<|Ae (ih (j+1,Γ2,T3) (by simp only;omega) ⟨by simp only;omega,hj2⟩) ⟨M6,BA⟩ BJ rfl
 ·have hlt:¬j<ps.length:=by simp at h';omega
  rw [Bh (by omega:ps.length<=j)] at hj2;simp only [Nw] at hj2;subst hj2;exact At rfl<|Av rfl<|Ag ⟨_,BA⟩
theorem lU (hm:Dx m):dW m:=by
 intro S k;have key:∀(N:Nat) (p τ:Ty) (Γ:Au) (T:List (Int×Ty)),DH p<=N->StOk k (BH T)->TyK k τ->EnvOk k Γ->Γ.length+DH p<=1000000->∃r,GB m Γ p τ T k S r/\V4 m p τ Γ T k r:=by
  intro N
  induction N with
  | zero=>intro p t Γ L h;have:=HE p;omega
  | succ N ih =>
  intro p t Γ T hN hs ht hΓ hB;obtain ⟨f,n,x,ps⟩:=p;have hB':=hB;simp only [DH] at hN hB';by_cases e2:f=2
  ·subst e2;refine ⟨some (Γ++[(x,t)],T),fZ m Γ n x ps t T k S (by omega),Wt hs hΓ ht.1 ht.2,?_⟩;simp only [DH,AZ,Cq,B5];omega
  by_cases e345:f=3\/f=4\/f=5
  ·have hlit:TyK k (NW f):=by
    unfold NW;split
    ·exact TyK.i
    ·split
     ·exact TyK.b
     ·exact TyK.u
   obtain ⟨r,hE,hR⟩:=IJ m T k S hs ht hlit;have hP:GB m Γ (.mk f n x ps) t T k S (r.map λT'=>(Γ,T')):=by
    rcases e345 with rfl | rfl | rfl
    ·exact gC m Γ n x ps t T k S r hE
    ·exact gB m Γ n x ps t T k S r hE
    ·exact gA m Γ n x ps t T k S r hE
   refine ⟨_,hP,?_⟩;cases r with
   | none=>exact UE (m:=m) (n:=n) (x:=x) (ps:=ps) (τ:=t) (r:=none) hΓ e345 hR
   | some T'=>exact ⟨UE (m:=m) (n:=n) (x:=x) (ps:=ps) (τ:=t) (r:=some (BH T')) hΓ e345 hR,by omega⟩
  by_cases e6:f=6
  ·subst e6;cases hC:Fj m.datas x with
   | none=>exact ⟨none,Lr m Γ n x ps t T k S (.inl hC),GR (k:=k) (σ:=BH T) (.inl hC)⟩
   | some cy =>
    obtain ⟨c,y⟩:=cy;by_cases hl:c.args.length=ps.length
    ·obtain ⟨r,hE,hR⟩:=IJ m T k S hs ht (b:=Bx y) ⟨by simp [Bx,C9,Gw],BD (by simp [Bx,CO,DK]) _⟩;cases r with
     | none=>exact ⟨none,WN m Γ n x ps t T k S none c y hC hl (.inl ⟨hE,rfl⟩),Q3 (k:=k) (σ:=BH T) hC hR⟩
     | some T1 =>
      have hT:∀u∈c.args,TyK k u:=λu hu=>⟨(Fi hm hC u hu).2,BD (Fi hm hC u hu).1 _⟩
      obtain ⟨r,c1,g1⟩:=Tc ih ps c.args Γ T1 hl.symm (by omega) hR.2.1 hT hΓ (by omega);refine ⟨r,WN m Γ n x ps t T k S r c y hC hl (.inr ⟨T1,hE,c1⟩),?_⟩;cases r with
      | none=>exact UF hm (r:=none) hC hl hΓ hR g1
      | some z =>
       obtain ⟨Γ',T'⟩:=z;exact ⟨UF hm (r:=some (Γ',BH T')) hC hl hΓ hR g1.1,by have:=g1.2;simp only [DH];omega⟩
    ·exact ⟨none,Lr m Γ n x ps t T k S (.inr ⟨c,y,hC,hl⟩),GR (k:=k) (σ:=BH T) (.inr ⟨c,y,hC,hl⟩)⟩
  ·have hf:f≠2/\f≠3/\f≠4/\f≠5/\f≠6:=⟨e2,λh=>e345 (.inl h),λh=>e345 (.inr (.inl h)),λh=>e345 (.inr (.inr h)),e6⟩
   exact ⟨some (Γ,T),nW m Γ f n x ps t T k S hf,cD hs hΓ hf,by omega⟩
 exact λp τ Γ T=>key (DH p) p τ Γ T (BL _)
def yT (m:Md) (Γ:Au) (t0:Tm) (ks:List Tm) (ps:List Ty) (T:List (Int×Ty)) (k:Int) (S:List Ty) (r:Lc):Prop :=
 (Ey m Γ t0 T k S none/\r=none)\/∃b T1 k1 S1,Ey m Γ t0 T k S (some (b,T1,k1,S1))/\(0<=k1/\k1<=1000000)/\∃r',Ky m Γ b (Ao k1) ps ks T1 (k1+1) S1 r'/\r=r'.map λz=>(Ao k1,z)
theorem WP (m:Md) (Γ:Au) (n:Int) (x:Str) (t0:Tm) (ks:List Tm) (ps:List Ty) (T:List (Int×Ty)) (k:Int) (S:List Ty) (r:Lc) (hl:ks.length=ps.length) (h:yT m Γ t0 ks ps T k S r):Cu 204 m Γ (.mk 15 n x (t0::ks) ps) T k S r:=by
 have ht:(t0::ks)[0]?=some t0:=rfl;unfold Cu;refine AQ Ah func204 rfl [5,6,8,7,9,10,11,12]<|Ai rfl ?_;rcases h with ⟨hI,rfl⟩ | ⟨⟨b1,b2,b3,b4⟩,T1,k1,S1,hI,hk1,r',h,rfl⟩
 ·have hK:=CB (op:=15) (n:=n) (x:=x) (ps:=ps) ht hI;simp only [Dj] at hK;exact Bg 3 [(1,1),(2,2),(3,3)] rfl (by simp) hK Ax rfl rfl rfl<|Bs 14 3 rfl
 have hA:=HS m T1 k1 S1 hk1;have hK:=CB (op:=15) (n:=n) (x:=x) (ps:=ps) ht hI;simp only [Dj] at hK;refine Jf [8] [(1,1),(2,2),(3,3)] [(4,8)] rfl hK Ax rfl rfl<|Ai rfl<|Jf [] [(1,1),(2,2),(8,3)] [] rfl hA Ax rfl rfl<|Ai rfl<|Bo 8 4 rfl<|FN (t:=18) rfl λhv=>?_;simp [Ez,maxLen] at hv
 refine Ak (λz:Nat×List (Int×Ty)×Int×List Ty=>[(20,.imm (.int .i64 z.1)),(19,.imm (.int .i64 ps.length)),(18,.imm (.sl (A0 ps))),(0,.ref 1 0),(2,.imm (.sl (dKns Γ))),(4,.ref 5 0),(6,.ref 6 0),(7,.ref 7 0),(8,.ref 9 0)]) (λz=>(5,some (.immb 49 5 (dTmc (.mk 15 n x (t0::ks) ps))))::(6,some (.cells 25 4 [.imm (.int .i64 0),.imm (.int .i64 0),.imm (.str []),.nils]))::(7,some (.immb 25 4 (Al (.mk b1 b2 b3 b4))))::(9,some (.immb 25 4 (Al (Ao k1))))::U0 m z.2.1 z.2.2.1 z.2.2.2) [10,11,12] (λz=>ps.length-z.1)
  (λz=>z.1<=ps.length/\Ky m Γ (.mk b1 b2 b3 b4) (Ao k1) (ps.drop z.1) (ks.drop z.1) z.2.1 z.2.2.1 z.2.2.2 r') (0,T1,k1+1,S1)
  ⟨AF _,h⟩ ⟨rfl,A8 (by simp),F6⟩ F6 rfl λz hz ih=>?_
 clear h hK hA hI;obtain ⟨j,T2,k2,S2⟩:=z;obtain ⟨hj1,hj2⟩:=hz;simp only at hj1 hj2 ih;refine Av rfl<|Aa rfl (λh'=>?_) (λh'=>?_)
 ·have hlt:j<ps.length:=by simp at h';omega
  obtain ⟨p,hp⟩:=Am hlt;obtain ⟨t,ht1⟩:=Am (l:=ks) (i:=j) (by omega);have ht2:(t0::ks)[j+1]?=some t:=by simpa using ht1
  have hw:IntKind.i64.wrap ((j:Int)+1)=((j+1:Nat):Int):=by rw [BW (by omega) (by omega)];omega
  have hgp:=AA hp;rw [As hp,As ht1,Ky] at hj2;obtain ⟨p1,p2,p3,p4⟩:=p;refine Av rfl<|yiz rfl hgp<|Ai rfl ?_;rcases hj2 with ⟨hP,rfl⟩ | ⟨Γ1,T3,hP,hj2⟩
  ·unfold GB at hP;simp only [zds] at hP;exact Bd [(1,1),(2,2),(4,3)] rfl (by simp) hP Ax rfl rfl rfl<|Eh 34 (bH 3) rfl fO (λx h=>by cases h)<|Ai rfl<|Eh 35 (.imm (.tup [])) rfl DC (λx h=>by cases h)<|yg [] rfl (by simp;rfl)<|Bs 35 3 rfl
  ·unfold GB at hP;simp only [zds] at hP;refine A4 [(1,1),(2,2),(4,3)] [] [] (fr:=[]) (nm:=[1,2,4,1,2,4]) rfl trivial (by simp) hP Ax rfl trivial rfl rfl rfl<|Ai rfl ?_;rcases hj2 with ⟨hI,rfl⟩ | ⟨⟨τ1,τ2,τ3,τ4⟩,T4,k4,S4,hI,hj2⟩
   ·have hK:=CB (op:=15) (n:=n) (x:=x) (ps:=ps) ht2 hI;simp only [Dj] at hK;rw [<- hw] at hK;exact Bg 3 [(1,1),(2,2),(4,3)] rfl (by simp) hK Ax rfl rfl rfl<|Ai rfl<|Eh 35 (.imm (.tup [])) rfl DC (λx h=>by cases h)<|yg [] rfl (by simp;rfl)<|Bs 35 3 rfl
   ·have hK:=CB (op:=15) (n:=n) (x:=x) (ps:=ps) ht2 hI;simp only [Dj] at hK;rw [<- hw] at hK;refine A4 [(1,1),(2,2),(4,3)] [(4,11)] [] (fr:=[11]) (nm:=[1,2,11,1,2,4]) rfl trivial (by simp) hK Ax rfl trivial rfl rfl rfl<|Ai rfl ?_;rcases hj2 with ⟨hE,rfl⟩ | ⟨T5,hE,hj2⟩
    ·unfold DL at hE;exact Bd [(1,1),(2,2),(11,3)] rfl (by simp) hE Ax rfl rfl rfl<|N0 1 rfl (by simp;rfl)<|By 37 rfl
    ·unfold Dk at hE;exact A4 [(1,1),(2,2),(11,3)] [] [] (fr:=[]) (nm:=[1,2,11,1,2,11]) rfl trivial (by simp) hE Ax rfl trivial rfl rfl rfl<|yg [] rfl (by simp;rfl)<|Bo 11 4 rfl<|Ae (ih (j+1,T5,k4,S4) (by simp only;omega) ⟨by simp only;omega,hj2⟩) ⟨M6,Mr⟩ F6 rfl
 ·have hlt:¬j<ps.length:=by simp at h';omega
  rw [Bh (by omega:ps.length<=j)] at hj2;simp only [Ky] at hj2;subst hj2;exact At rfl<|Av rfl<|Ag ⟨_,BA⟩
theorem oK {t2:Tm} {k1 k2:Int} {σ1 σ2:Sb} {N1 N2:List Ty} (hΓ:EnvOk k Γ) (r1:H6 m [t0] [(Γ,Ca)] k σ (some (k1,σ1,N1))) (r2:BM m Γ t1 k1 σ1 (some (τ,k2,σ2,N2))) (r3:BM m Γ t2 k2 σ2 none):BM m Γ (.mk 8 n x [t0,t1,t2] ps) k σ none:=by
 obtain ⟨a1,a2⟩:=r1;obtain ⟨c1,c2,c3,c4⟩:=r2;have hB:StpR k σ k2 σ2 (λη=>(N1.map (A9 η),A9 η τ,N2.map (A9 η))) (λη (w:List Ty×Ty×List Ty)=>Dc m [t0] [(F1 η Γ,Ca)] w.1/\CC m t1 (F1 η Γ) w.2.1 w.2.2) :=
  a1.bind c1 (λη g1 g2=>⟨by simpa [FS] using g1,g2⟩) λη w hG=>⟨w.1,by simpa [FS] using hG.1,λη1 ha hv=>⟨(w.2.1,w.2.2),by rw [ha.env hΓ];exact hG.2,λη2 hb _ hv2=>by
   obtain ⟨w1,w2,w3⟩:=w;simp only [Bc] at hv2 ⊢;exact ⟨by rw [hb.tys a2,hv],hv2.1,hv2.2⟩⟩⟩
 refine StpN.second hB r3 λη w hw=>?_;obtain ⟨S1,S2,S3,q1,q2,q3,_⟩:=Ob.1 hw;exact ⟨(S1,w.1,S2),⟨q1,q2⟩,λη1 ha _=>⟨(w.1,S3),by rw [ha.env hΓ];exact q3⟩⟩
def jOk (op:Int) (j:Nat):Prop:=j<=1/\(C1 op->op≠8->op≠16->j=1)
theorem Yz {op:Int} (h:BX op) (a:Ty):(A5 op a).2.2.length<=1:=by
 rcases h with rfl | rfl | rfl | rfl | rfl | rfl | rfl | rfl | rfl | rfl | rfl | rfl | rfl | rfl | rfl | rfl | rfl | rfl | rfl | rfl | rfl <;> simp [A5]
theorem U5 {op:Int} (h:BX op) (h8:op≠8) (h16:op≠16) (ho:¬C1 op) (a b:Ty):A5 op a=A5 op b:=by
 rcases h with rfl | rfl | rfl | rfl | rfl | rfl | rfl | rfl | rfl | rfl | rfl | rfl | rfl | rfl | rfl | rfl | rfl | rfl | rfl | rfl | rfl <;> first | rfl | (exfalso;simp [C1] at ho)
theorem eY {op:Int} (h:BX op) (h8:op≠8) (h16:op≠16) (hj:jOk op j) (hk:0<=k):(∀u∈(A5 op (Ao k)).1,TyK (k+j) u)/\TyK (k+j) (A5 op (Ao k)).2.1/\∀u∈(A5 op (Ao k)).2.2,TyK (k+j) u:=by
 by_cases ho:C1 op
 ·have:=hj.2 ho h8 h16;subst this;exact Mq h (TyK.h ⟨hk,by omega⟩)
 ·rw [U5 h h8 h16 ho (Ao k) AU];exact Mq h TyK.i
theorem El {t:Tm} {us:List Ty} (hk:k'=k+j) (h:∀r,B7 m Γ ks us T k' S r->Ey m Γ t T k S (r.map λz=>(τ,z))) :
  ∀r,B7 m Γ ks us T (k+j) S r->Ey m Γ t T k S (r.map λz=>(τ,z.1,z.2.1,z.2.2++[])):=λr hr=>by
 subst hk;have:=h r hr;cases r with
 | none=>exact this
 | some z=>simpa using this
theorem tE (m:Md) (Γ:Au) (op n:Int) (x:Str) (ks:List Tm) (ps:List Ty) (T:List (Int×Ty)) (k:Int) (S:List Ty) (hr:BX op) (h8:op≠8) (h16:op≠16) (hk:0<=k/\k<=1000000) (hl:ks.length=(A5 op (Ao k)).1.length) :
  ∃j:Nat,jOk op j/\∀r,B7 m Γ ks (A5 op (Ao k)).1 T (k+j) S r->(∀z,r=some z->z.2.2.length<=1000000)->Ey m Γ (.mk op n x ks ps) T k S (r.map λz=>((A5 op (Ao k)).2.1,z.1,z.2.1,z.2.2++(A5 op (Ao k)).2.2)):=by
 have c0:jOk op 0\/C1 op:=by
  by_cases h:C1 op
  ·exact .inr h
  ·exact .inl ⟨by omega,λh'=>absurd h' h⟩
 have c1:jOk op 1:=⟨by omega,λ_ _ _=>rfl⟩
 have k0:k=k+(0:Nat):=by simp
 rcases hr with rfl | rfl | rfl | rfl | rfl | rfl | rfl | rfl | rfl | rfl | rfl | rfl | rfl | rfl | rfl | rfl | rfl | rfl | rfl | rfl | rfl
 ·obtain rfl:ks=[]:=Je.1 hl;exact ⟨0,c0.resolve_right (by simp [C1]),λr hr _=>El k0 (λr h=>by simp only [A5,B7] at h;subst h;exact DS 1 rfl (QY m Γ 1 n x [] ps T k S)) r hr⟩
 ·obtain rfl:ks=[]:=Je.1 hl;exact ⟨0,c0.resolve_right (by simp [C1]),λr hr _=>El k0 (λr h=>by simp only [A5,B7] at h;subst h;exact DS 25 rfl (QY m Γ 25 n x [] ps T k S)) r hr⟩
 ·obtain rfl:ks=[]:=Je.1 hl;exact ⟨0,c0.resolve_right (by simp [C1]),λr hr _=>El k0 (λr h=>by simp only [A5,B7] at h;subst h;exact DS 2 rfl (nS m Γ 2 n x [] ps T k S)) r hr⟩
 ·obtain rfl:ks=[]:=Je.1 hl;exact ⟨0,c0.resolve_right (by simp [C1]),λr hr _=>El k0 (λr h=>by simp only [A5,B7] at h;subst h;exact DS 3 rfl (QX m Γ 3 n x [] ps T k S)) r hr⟩
 ·obtain rfl:ks=[]:=Je.1 hl;exact ⟨0,c0.resolve_right (by simp [C1]),λr hr _=>El k0 (λr h=>by simp only [A5,B7] at h;subst h;exact DS 28 rfl (QX m Γ 28 n x [] ps T k S)) r hr⟩
 ·exact absurd rfl h8
 ·obtain ⟨a,b,rfl⟩:∃a b,ks=[a,b]:=by
   match ks,hl with
   | [a,b],_=>exact ⟨a,b,rfl⟩
  exact ⟨0,c0.resolve_right (by simp [C1]),λr hr _=>El k0 (λr h=>DS 9 rfl (Zz m Γ 9 n x [a,b] ps T k S r (by simp) h)) r hr⟩
 ·obtain ⟨a,b,rfl⟩:∃a b,ks=[a,b]:=by
   match ks,hl with
   | [a,b],_=>exact ⟨a,b,rfl⟩
  exact ⟨0,c0.resolve_right (by simp [C1]),λr hr _=>El k0 (λr h=>DS 10 rfl (Zz m Γ 10 n x [a,b] ps T k S r (by simp) h)) r hr⟩
 ·obtain ⟨a,b,rfl⟩:∃a b,ks=[a,b]:=by
   match ks,hl with
   | [a,b],_=>exact ⟨a,b,rfl⟩
  exact ⟨0,c0.resolve_right (by simp [C1]),λr hr _=>El k0 (λr h=>DS 11 rfl (Zz m Γ 11 n x [a,b] ps T k S r (by simp) h)) r hr⟩
 ·obtain ⟨a,b,rfl⟩:∃a b,ks=[a,b]:=by
   match ks,hl with
   | [a,b],_=>exact ⟨a,b,rfl⟩
  exact ⟨0,c0.resolve_right (by simp [C1]),λr hr _=>El k0 (λr h=>DS 12 rfl (tG m Γ 12 n x [a,b] ps T k S r (by simp) h)) r hr⟩
 ·obtain ⟨a,b,rfl⟩:∃a b,ks=[a,b]:=by
   match ks,hl with
   | [a,b],_=>exact ⟨a,b,rfl⟩
  exact ⟨1,c1,λr hr hb=>DS 13 rfl (oB m Γ 13 n x [a,b] ps T k S r hk (by simp) hb hr)⟩
 ·exact absurd rfl h16
 ·obtain ⟨a,rfl⟩:∃a,ks=[a]:=by
   match ks,hl with
   | [a],_=>exact ⟨a,rfl⟩
  exact ⟨1,c1,λr hr _=>El (by simp) (λr h=>DS 17 rfl (xU m Γ n x a [] ps T k S r hk h)) r hr⟩
 ·obtain ⟨a,b,rfl⟩:∃a b,ks=[a,b]:=by
   match ks,hl with
   | [a,b],_=>exact ⟨a,b,rfl⟩
  exact ⟨1,c1,λr hr _=>El (by simp) (λr h=>DS 18 rfl (xS m Γ n x a b [] ps T k S r hk h)) r hr⟩
 ·obtain ⟨a,rfl⟩:∃a,ks=[a]:=by
   match ks,hl with
   | [a],_=>exact ⟨a,rfl⟩
  exact ⟨1,c1,λr hr _=>El (by simp) (λr h=>DS 19 rfl (nT m Γ n x a [] ps T k S r hk h)) r hr⟩
 ·obtain ⟨a,rfl⟩:∃a,ks=[a]:=by
   match ks,hl with
   | [a],_=>exact ⟨a,rfl⟩
  exact ⟨1,c1,λr hr _=>El (by simp) (λr h=>DS 20 rfl (tH m Γ n x a [] ps T k S r hk h)) r hr⟩
 ·obtain rfl:ks=[]:=Je.1 hl;exact ⟨1,c1,λr hr _=>El (k':=k+1) (by simp) (λr h=>by simp only [A5,B7] at h;subst h;exact DS 21 rfl (ZN m Γ 21 n x [] ps T k S hk)) r hr⟩
 ·obtain ⟨a,b,rfl⟩:∃a b,ks=[a,b]:=by
   match ks,hl with
   | [a,b],_=>exact ⟨a,b,rfl⟩
  exact ⟨1,c1,λr hr _=>El (by simp) (λr h=>DS 22 rfl (tD m Γ n x a b [] ps T k S r hk h)) r hr⟩
 ·obtain ⟨a,rfl⟩:∃a,ks=[a]:=by
   match ks,hl with
   | [a],_=>exact ⟨a,rfl⟩
  exact ⟨1,c1,λr hr _=>El (by simp) (λr h=>DS 23 rfl (tC m Γ n x a [] ps T k S r hk h)) r hr⟩
 ·obtain ⟨a,rfl⟩:∃a,ks=[a]:=by
   match ks,hl with
   | [a],_=>exact ⟨a,rfl⟩
  exact ⟨0,c0.resolve_right (by simp [C1]),λr hr _=>El k0 (λr h=>DS 24 rfl (xT m Γ 24 n x [a] ps T k S r (by simp) h)) r hr⟩
 ·obtain ⟨a,rfl⟩:∃a,ks=[a]:=by
   match ks,hl with
   | [a],_=>exact ⟨a,rfl⟩
  exact ⟨0,c0.resolve_right (by simp [C1]),λr hr _=>El k0 (λr h=>DS 26 rfl (nV m Γ 26 n x [a] ps T k S r (by simp) h)) r hr⟩
theorem StOk.fresh (h:StOk k σ):StOk (k+1) σ:=h.mono (by omega)
theorem Xk (hm:Dx m):∀n,V5 m n:=by
 intro n
 induction n with
 | zero=>intro t Γ T k S h;have:=Uv t;omega
 | succ n IH =>
 intro t Γ T k S hn hf hB;obtain ⟨op,nn,x,ks,ps⟩:=t;have hk:=Tk hf;have har:=cM hf;obtain ⟨b1,b2,b3,b4,b5⟩:=hB;have hsz:H8 (.mk op nn x ks ps)=1+BY ks+CX ps:=rfl;rw [hsz] at hn b3 b4 b5;have hk0:0<=k:=b1.1;have hΓ':EnvOk (k+1) Γ:=b2.mono (by omega);have hh:TyK (k+1) (Ao k):=TyK.h ⟨hk0,by omega⟩;rcases har with ⟨rfl,h0⟩ | ⟨rfl,h0⟩ | ⟨rfl,h0⟩ | ⟨rfl,h0⟩ | ⟨rfl,h0⟩ | rfl | ⟨rfl,h0⟩ | ⟨hr,h0⟩
 ·-- a name
  obtain rfl:ks=[]:=Je.1 h0;refine ⟨_,DS 4 rfl (tF m Γ nn x [] ps T k S),?_⟩;have:=Xj hm (n:=nn) (x:=x) (ps:=ps) b1 b2;cases hl:CM m Γ x with
  | none=>rw [hl] at this;exact this
  | some τ=>rw [hl] at this;exact ⟨[],this,by simp,by simp,by omega⟩
 ·-- a function
  obtain ⟨t0,rfl⟩:=LI.1 h0;have hs0:BY [t0]=H8 t0:=by simp [BY]
  rw [hs0] at hn b3 b4 b5 hsz;obtain ⟨r,c1,g1⟩:=IH t0 (Γ++[(x,Ao k)]) T (k+1) S (by omega) (hk t0 (by simp)) ⟨b1.fresh,hΓ'.add hh.1 hh.2,by omega,by omega,by rw [AZ,uL];omega⟩;refine ⟨_,DS 5 rfl (xV m Γ nn x t0 [] ps T k S (by omega) (by omega) c1),?_⟩;cases r with
  | none=>exact Vi (n:=nn) (ps:=ps) (r:=none) b1 b2 g1
  | some z =>
   obtain ⟨τ,T1,k1,S1⟩:=z;obtain ⟨N,r1,s1,s2,s3⟩:=g1;exact ⟨N,Vi (n:=nn) (ps:=ps) (r:=some (τ,k1,BH T1,N)) b1 b2 r1,s1,by rw [hsz];omega,by rw [hsz];omega⟩
 ·-- a continuation
  obtain ⟨t0,rfl⟩:=LI.1 h0;have hs0:BY [t0]=H8 t0:=by simp [BY]
  have hkf:TyK (k+1) (Be (Ao k) AU):=TyK.f hh TyK.i;have hE:EnvOk (k+1) (Γ++[(x,Be (Ao k) AU)]):=hΓ'.add hkf.1 hkf.2;obtain ⟨r,c1,g1⟩:=Hg IH [t0] [AU] (Γ++[(x,Be (Ao k) AU)]) T (k+1) S rfl (by omega) hk (λu hu=>by rw [AN.1 hu];exact TyK.i) ⟨b1.fresh,hE,by omega,by omega,by rw [AZ,uL];omega⟩;refine ⟨_,DS 27 rfl (nU m Γ nn x t0 [] ps T k S (by omega) (by omega) c1),?_⟩;have hN:∀{r},H6 m [t0] [(Γ++[(x,Be (Ao k) AU)],AU)] (k+1) (BH T) r->BM m Γ (.mk 27 nn x [t0] ps) k (BH T) (r.map λy=>(Ao k,y.1,y.2.1,y.2.2++[])):=λhr =>
   IE (op:=27) (n:=nn) (x:=x) (ps:=ps) (j:=1) b1 (SV (by omega) b2) (λp hp=>by rw [AN.1 hp];exact ⟨hE,rfl,BD rfl _⟩) hh.1 hh.2 (λt h=>nomatch h) hr
  cases r with
  | none=>exact hN (r:=none) g1
  | some z =>
   obtain ⟨T1,k1,S1⟩:=z;obtain ⟨N,r1,s1,s2,s3⟩:=g1;exact ⟨N,by simpa using hN (r:=some (k1,BH T1,N)) r1,s1,by rw [hsz];omega,by rw [hsz];omega⟩
 ·-- an application
  obtain ⟨t0,u0,rfl⟩:∃t0 u0,ks=[t0,u0]:=by
   match ks,h0 with
   | [a,b],_=>exact ⟨a,b,rfl⟩
  have hs0:BY [t0,u0]=H8 t0+H8 u0:=by simp [BY]
  rw [hs0] at hn b3 b4 b5 hsz;obtain ⟨r1,c1,g1⟩:=IH t0 Γ T k S (by omega) (hk t0 (by simp)) ⟨b1,b2,by omega,by omega,by omega⟩;cases r1 with
  | none=>exact ⟨none,DS 6 rfl (MK m Γ nn x t0 u0 [] ps T k S none (.inl ⟨c1,rfl⟩)),nY (k:=k) (k0:=k) (σ:=BH T) g1 λη w hw=>by
    obtain ⟨a0,S1,S2,q1,q2,_⟩:=IP.1 hw;exact ⟨_,_,q1⟩⟩
  | some z =>
   obtain ⟨f,T1,k1,S1⟩:=z;obtain ⟨N1,r1,s1,s2,s3⟩:=g1;have hle:k<=k1:=r1.1.1;obtain ⟨r2,c2,g2⟩:=IH u0 Γ T1 k1 S1 (by omega) (hk u0 (by simp)) ⟨r1.1.2.1,b2.mono hle,by omega,by rw [s1,AZ];omega,by omega⟩;cases r2 with
   | none=>exact ⟨none,DS 6 rfl (MK m Γ nn x t0 u0 [] ps T k S none (.inr ⟨f,T1,k1,S1,c1,.inl ⟨c2,rfl⟩⟩)),gH b2 r1 g2 λη w hw=>by
     obtain ⟨a0,S1,S2,q1,q2,_⟩:=IP.1 hw;exact ⟨⟨_,_,q1⟩,_,_,q2⟩⟩
   | some z =>
    obtain ⟨a,T2,k2,S2⟩:=z;obtain ⟨N2,r2,u1,u2,u3⟩:=g2;have hle2:k1<=k2:=r2.1.1;have hh2:TyK (k2+1) (Ao k2):=TyK.h ⟨by omega,by omega⟩;have ha2:TyK k2 a:=⟨r2.2.1,r2.2.2.1⟩
    obtain ⟨r3,c3,g3⟩:=IJ m T2 (k2+1) S2 r2.1.2.1.fresh (a:=f) (b:=Be a (Ao k2)) (TyK.mono ⟨r1.2.1,r1.2.2.1⟩ (by omega)) (TyK.f (ha2.mono (by omega)) hh2);cases r3 with
    | none=>exact ⟨none,DS 6 rfl (MK m Γ nn x t0 u0 [] ps T k S none (.inr ⟨f,T1,k1,S1,c1,.inr ⟨a,T2,k2,S2,c2,by omega,.inl ⟨c3,rfl⟩⟩⟩)),Lv (r:=none) b2 r1 r2 g3⟩
    | some T3=>exact ⟨some (Ao k2,T3,k2+1,S2),DS 6 rfl (MK m Γ nn x t0 u0 [] ps T k S _ (.inr ⟨f,T1,k1,S1,c1,.inr ⟨a,T2,k2,S2,c2,by omega,.inr ⟨T3,c3,rfl⟩⟩⟩)),N1++N2,Lv (r:=some (BH T3)) b2 r1 r2 g3,by rw [u1,s1,Cl],by rw [hsz,AZ];omega,by rw [hsz];omega⟩
 ·-- let
  obtain ⟨t0,u0,rfl⟩:∃t0 u0,ks=[t0,u0]:=by
   match ks,h0 with
   | [a,b],_=>exact ⟨a,b,rfl⟩
  have hs0:BY [t0,u0]=H8 t0+H8 u0:=by simp [BY]
  rw [hs0] at hn b3 b4 b5 hsz;obtain ⟨r1,c1,g1⟩:=IH t0 Γ T k S (by omega) (hk t0 (by simp)) ⟨b1,b2,by omega,by omega,by omega⟩;cases r1 with
  | none=>exact ⟨none,DS 7 rfl (nX m Γ nn x t0 u0 [] ps T k S none (by omega) (.inl ⟨c1,rfl⟩)),MM (k:=k) (k0:=k) (σ:=BH T) g1⟩
  | some z =>
   obtain ⟨τ,T1,k1,S1⟩:=z;obtain ⟨N1,r1,s1,s2,s3⟩:=g1;have hle:k<=k1:=r1.1.1;obtain ⟨r2,c2,g2⟩:=IH u0 (Γ++[(x,τ)]) T1 k1 S1 (by omega) (hk u0 (by simp)) ⟨r1.1.2.1,(b2.mono hle).add r1.2.1 r1.2.2.1,by omega,by rw [s1,AZ];omega,by rw [AZ,uL];omega⟩;refine ⟨r2,DS 7 rfl (nX m Γ nn x t0 u0 [] ps T k S r2 (by omega) (.inr ⟨τ,T1,k1,S1,c1,c2⟩)),?_⟩;cases r2 with
   | none=>exact Vh (n:=nn) (ps:=ps) (r:=none) (JV _) b2 r1 g2
   | some z =>
    obtain ⟨τ',T2,k2,S2⟩:=z;obtain ⟨N2,r2,u1,u2,u3⟩:=g2;exact ⟨N1++N2,Vh (n:=nn) (ps:=ps) (r:=some (τ',k2,BH T2,N2)) (JV _) b2 r1 r2,by rw [u1,s1,Cl],by rw [hsz,AZ];omega,by rw [hsz];omega⟩
 ·-- a constructor
  cases hC:Fj m.datas x with
  | none=>exact ⟨none,DS 14 rfl (zbk m Γ nn x ks ps T k S (.inl hC)),MN (k:=k) (σ:=BH T) hC⟩
  | some cy =>
   obtain ⟨c,y⟩:=cy;by_cases hl:c.args.length=ks.length
   ·obtain ⟨r,c1,g1⟩:=Hg IH ks c.args Γ T k S hl.symm (by omega) hk (λu hu=>⟨(Fi hm hC u hu).2,BD (Fi hm hC u hu).1 _⟩) ⟨b1,b2,by omega,by omega,by omega⟩;refine ⟨_,DS 14 rfl (xW m Γ nn x ks ps T k S r c y hC hl c1),?_⟩;cases r with
    | none=>exact MO hm (n:=nn) (ps:=ps) (r:=none) b1 b2 hC g1
    | some z =>
     obtain ⟨T1,k1,S1⟩:=z;obtain ⟨N,r1,s1,s2,s3⟩:=g1;exact ⟨N,MO hm (n:=nn) (ps:=ps) (r:=some (k1,BH T1,N)) b1 b2 hC r1,s1,by rw [hsz];omega,by rw [hsz];omega⟩
   ·exact ⟨none,DS 14 rfl (zbk m Γ nn x ks ps T k S (.inr ⟨c,y,hC,hl⟩)),MO hm (n:=nn) (ps:=ps) (r:=none) b1 b2 hC (T8 (by simpa using λh=>hl h.symm))⟩
 ·-- a match
  obtain ⟨t0,ks,rfl⟩:∃t0 l,ks=t0::l:=by
   cases ks with
   | nil=>simp at h0;omega
   | cons a l=>exact ⟨a,l,rfl⟩
  have hs0:BY (t0::ks)=H8 t0+BY ks:=rfl;rw [hs0] at hn b3 b4 b5 hsz;obtain ⟨r1,c1,g1⟩:=IH t0 Γ T k S (by omega) (hk t0 (by simp)) ⟨b1,b2,by omega,by omega,by omega⟩;cases r1 with
  | none=>exact ⟨none,DS 15 rfl (WP m Γ nn x t0 ks ps T k S none (by simp at h0;omega) (.inl ⟨c1,rfl⟩)),Kf (k:=k) (k0:=k) (σ:=BH T) g1⟩
  | some z =>
   obtain ⟨b,T1,k1,S1⟩:=z;obtain ⟨N1,r1,s1,s2,s3⟩:=g1;have hle:k<=k1:=r1.1.1;have hh2:TyK (k1+1) (Ao k1):=TyK.h ⟨by omega,by omega⟩;obtain ⟨r2,c2,g2⟩:=SY (lU hm) IH ps ks Γ b (Ao k1) T1 (k1+1) S1 (by simp at h0;omega) (by omega) (λt ht=>hk t (by simp [ht])) (TyK.mono ⟨r1.2.1,r1.2.2.1⟩ (by omega)) hh2 ⟨r1.1.2.1.fresh,b2.mono (by omega),by omega,by rw [s1,AZ];omega,by omega⟩;refine ⟨_,DS 15 rfl (WP m Γ nn x t0 ks ps T k S (r2.map λz=>(Ao k1,z)) (by simp at h0;omega) (.inr ⟨b,T1,k1,S1,c1,by omega,r2,c2,rfl⟩)),?_⟩;cases r2 with
   | none=>exact Lu (n:=nn) (x:=x) (r:=none) b2 r1 g2
   | some z =>
    obtain ⟨T2,k2,S2⟩:=z;obtain ⟨N2,r2,u1,u2,u3⟩:=g2;exact ⟨N1++N2,Lu (n:=nn) (x:=x) (r:=some (k2,BH T2,N2)) b2 r1 r2,by rw [u1,s1,Cl],by rw [hsz,AZ];omega,by rw [hsz];omega⟩
 ·-- the others
  by_cases h16:op=16
  ·subst h16;obtain ⟨t0,rfl⟩:∃t0,ks=[t0]:=LI.1 (by rw [h0];rfl);have hs0:BY [t0]=H8 t0:=by simp [BY]
   rw [hs0] at hn b3 b4 b5 hsz;obtain ⟨r,c1,g1⟩:=IH t0 Γ T k S (by omega) (hk t0 (by simp)) ⟨b1,b2,by omega,by omega,by omega⟩;refine ⟨_,DS 16 rfl (tJ m Γ nn x t0 [] ps T k S c1),?_⟩;cases r with
   | none=>exact MP (k:=k) (σ:=BH T) (n:=nn) (x:=x) (ps:=ps) (r:=none) g1
   | some z =>
    obtain ⟨τ,T1,k1,S1⟩:=z;obtain ⟨N,r1,s1,s2,s3⟩:=g1;exact ⟨N,MP (n:=nn) (x:=x) (ps:=ps) (r:=some (τ,k1,BH T1,N)) r1,s1,by rw [hsz];omega,by rw [hsz];omega⟩
  by_cases h8:op=8
  ·subst h8;obtain ⟨t0,t1,t2,rfl⟩:∃t0 t1 t2,ks=[t0,t1,t2]:=by
    match ks,h0 with
    | [a,b,c],_=>exact ⟨a,b,c,rfl⟩
   have hs0:BY [t0,t1,t2]=H8 t0+H8 t1+H8 t2:=by simp [BY];omega
   rw [hs0] at hn b3 b4 b5 hsz;have hs1:BY [t0]=H8 t0:=by simp [BY]
   obtain ⟨r1,c1,g1⟩:=Hg IH [t0] [Ca] Γ T k S rfl (by omega) (λt ht=>hk t (by rw [AN.1 ht];simp)) (λu hu=>by rw [AN.1 hu];exact TyK.b) ⟨b1,b2,by omega,by omega,by omega⟩;cases r1 with
   | none=>exact ⟨none,DS 8 rfl (WR m Γ nn x t0 t1 t2 [] ps T k S none (.inl ⟨c1,rfl⟩)),StpN.first g1 λη w hw=>by
     obtain ⟨S1,S2,S3,q1,_⟩:=Ob.1 hw;exact ⟨S1,by simpa [FS] using q1⟩⟩
   | some z =>
    obtain ⟨T1,k1,S1⟩:=z;obtain ⟨N1,r1,s1,s2,s3⟩:=g1;have hle:k<=k1:=r1.1.1;obtain ⟨r2,c2,g2⟩:=IH t1 Γ T1 k1 S1 (by omega) (hk t1 (by simp)) ⟨r1.1.2.1,b2.mono hle,by omega,by rw [s1,AZ];omega,by omega⟩;cases r2 with
    | none=>exact ⟨none,DS 8 rfl (WR m Γ nn x t0 t1 t2 [] ps T k S none (.inr ⟨T1,k1,S1,c1,.inl ⟨c2,rfl⟩⟩)),StpN.second r1.1 g2 λη w hw=>by
      obtain ⟨S1,S2,S3,q1,q2,q3,_⟩:=Ob.1 hw;exact ⟨S1,by simpa [FS] using q1,λη1 ha _=>⟨(_,S2),by rw [ha.env b2];exact q2⟩⟩⟩
    | some z =>
     obtain ⟨τ,T2,k2,S2⟩:=z;obtain ⟨N2,r2,u1,u2,u3⟩:=g2;have hle2:k1<=k2:=r2.1.1;obtain ⟨r3,c3,g3⟩:=IH t2 Γ T2 k2 S2 (by omega) (hk t2 (by simp)) ⟨r2.1.2.1,b2.mono (by omega),by omega,by rw [u1,s1,AZ,AZ];omega,by omega⟩;cases r3 with
     | none =>
      refine ⟨none,DS 8 rfl (WR m Γ nn x t0 t1 t2 [] ps T k S none (.inr ⟨T1,k1,S1,c1,.inr ⟨τ,T2,k2,S2,c2,.inl ⟨c3,rfl⟩⟩⟩)),?_⟩;exact oK b2 r1 r2 g3
     | some z =>
      obtain ⟨a,T3,k3,S3⟩:=z;obtain ⟨N3,r3,v1,v2,v3⟩:=g3;have hle3:k2<=k3:=r3.1.1;obtain ⟨r4,c4,g4⟩:=IJ m T3 k3 S3 r3.1.2.1 (a:=τ) (b:=a) (TyK.mono ⟨r2.2.1,r2.2.2.1⟩ hle3) ⟨r3.2.1,r3.2.2.1⟩;cases r4 with
      | none=>exact ⟨none,DS 8 rfl (WR m Γ nn x t0 t1 t2 [] ps T k S none (.inr ⟨T1,k1,S1,c1,.inr ⟨τ,T2,k2,S2,c2,.inr ⟨a,T3,k3,S3,c3,.inl ⟨c4,rfl⟩⟩⟩⟩)),Rg (r:=none) b2 r1 r2 r3 g4⟩
      | some T4=>exact ⟨some (τ,T4,k3,S3),DS 8 rfl (WR m Γ nn x t0 t1 t2 [] ps T k S _ (.inr ⟨T1,k1,S1,c1,.inr ⟨τ,T2,k2,S2,c2,.inr ⟨a,T3,k3,S3,c3,.inr ⟨T4,c4,rfl⟩⟩⟩⟩)),N1++(N2++N3),Rg (r:=some (BH T4)) b2 r1 r2 r3 g4,by rw [v1,u1,s1];simp,by rw [hsz,AZ,AZ];omega,by rw [hsz];omega⟩
  obtain ⟨k1,k2,k3⟩:=Mq hr hh;have hlen:ks.length=(A5 op (Ao k)).1.length:=h0.trans (SX hr _ _);obtain ⟨j,hj,hw⟩:=tE m Γ op nn x ks ps T k S hr h8 h16 (by omega) hlen;obtain ⟨n1,n2,n3⟩:=eY hr h8 h16 (j:=j) hj hk0;have hj1:j<=1:=hj.1;obtain ⟨r,c1,g1⟩:=Hg IH ks (A5 op (Ao k)).1 Γ T (k+j) S hlen (by omega) hk n1 ⟨b1.mono (by omega),b2.mono (by omega),by omega,by omega,by omega⟩;have hI:∀{r},H6 m ks ((A5 op (Ao k)).1.map λu=>(Γ,u)) (k+j) (BH T) r->BM m Γ (.mk op nn x ks ps) k (BH T) (r.map λy=>((A5 op (Ao k)).2.1,y.1,y.2.1,y.2.2++(A5 op (Ao k)).2.2)):=λhr' =>
   IE (op:=op) (n:=nn) (x:=x) (ps:=ps) (j:=j) b1 (VY hr (λho=>by have:=hj.2 ho h8 h16;omega) b2) (λp hp=>by
    obtain ⟨u,hu,rfl⟩:=Cc.1 hp;exact ⟨b2.mono (by omega),n1 u hu⟩) n2.1 n2.2 n3 hr'
  refine ⟨_,hw r c1 (λz hz=>by
   subst hz;obtain ⟨T1,k1',S1⟩:=z;obtain ⟨N,_,s1,s2,_⟩:=g1;simp only [s1,AZ];omega),?_⟩
  cases r with
  | none=>exact hI (r:=none) g1
  | some z =>
   obtain ⟨T1,k1',S1⟩:=z;obtain ⟨N,r1,s1,s2,s3⟩:=g1;have hSl:(A5 op (Ao k)).2.2.length<=1:=Yz hr _;exact ⟨N++(A5 op (Ao k)).2.2,hI (r:=some (k1',BH T1,N)) r1,by rw [s1,Cl],by rw [hsz,AZ];omega,by show k1'<=_;rw [hsz];omega⟩
def IO (l:List Int):List (List V):=l.map λx=>[.int .i64 x]
theorem zax {l:List Int} {i:Nat} {x:Int} (h:l[i]?=some x):(IO l)[i]?=some [.int .i64 x]:=by simp [IO,h]
@[simp] theorem dNums_length (l:List Int):(IO l).length=l.length:=by simp [IO]
theorem lP (L S:List Ty) (hs:Sol (Fk L) θ) (hd:Dom L.length (Fk L)) (hS:∀t∈S,inB L.length t):Tq3 89 [.agg (Il L S)] (.bool ((S.map (A9 θ)).all Df)):=by
 refine Bl λhv=>?_;simp [Cx,Ez,Il,maxLen] at hv;refine AQ AE func89 rfl [1,2,3]<|AP rfl<|Ak (λi:Nat=>[(3,.imm (.int .i64 i)),(1,.ref 1 0)]) (λ_=>[(1,some (.immb 105 2 (Il L S)))]) [2,3] (λi=>S.length-i) (λi=>i<=S.length/\(S.map (A9 θ)).all Df=((S.drop i).map (A9 θ)).all Df) 0
  ⟨AF _,rfl⟩ AD AC rfl λi hi ih=>?_
 obtain ⟨hi1,hi2⟩:=hi;refine AM rfl<|Aa rfl (λh=>?_) (λh=>?_)
 ·have hlt:i<S.length:=by simp at h;omega
  obtain ⟨p,hp⟩:=Am hlt;have hg:=AA hp;obtain ⟨u,hu⟩:=L8 hs p;have hH:=PM L S hs hd p u hu (hS p (AK hp));have hu1:=hu.srt_eq hs;rw [As hp,Cv,Da] at hi2;have hpl:Df (A9 θ p)=(BQ u == 1||BQ u == 2||BQ u == 3):=by rw [Df,hu1]
  rw [hpl] at hi2;clear hu hu1 hpl;obtain ⟨p1,p2,p3,p4⟩:=p;obtain ⟨f,u2,u3,u4⟩:=u;simp only [BQ] at hi2;refine AM rfl<|riz rfl hg<|AP rfl<|Ad rfl hH<|rg [] rfl (by simp [Ap];rfl) ?_;by_cases hf:f=1\/f=2\/f=3
  ·have hb:(f == 1||f == 2||f == 3)=true:=by simpa [or_assoc] using hf
   rw [hb,JU] at hi2;refine Aa rfl (λh=>by exfalso;simp at h;grind) (λh=>?_);exact AM rfl<|Ae (ih (i+1) (by omega) ⟨by omega,hi2⟩) ⟨M6,AC⟩ AC rfl
  ·have hb:(f == 1||f == 2||f == 3)=false:=by simp only [not_or] at hf;simp [hf.1,hf.2.1,hf.2.2]
   rw [hb,UL] at hi2;refine Aa rfl (λh=>?_) (λh=>by exfalso;simp at h;grind);exact AM rfl<|Ag ⟨_,rfl,tV (by rw [hi2]),trivial⟩
 ·have hlt:¬i<S.length:=by simp at h;omega
  refine At rfl<|AM rfl ?_;rw [Bh (by omega)] at hi2;exact Ag ⟨_,rfl,tV (by rw [hi2];rfl),trivial⟩
theorem zbd (l:List Int) (n:Int):Tq3 91 [.sl (IO l),.int .i64 n] (.int .i64 (atI l n)):=by
 refine Bl λhv=>?_;simp [Cx,Ez,maxLen] at hv;refine AQ AE func91 rfl [1,2,3]<|AP rfl<|Ak (λi:Nat=>[(5,.imm (.int .i64 i)),(0,.imm (.sl (IO l))),(1,.imm (.int .i64 n))]) (λ_=>[]) [1,2,3] (λi=>l.length-i) (λi=>i<=l.length/\n∉l.take i) 0
  ⟨AF _,by simp⟩ AH trivial rfl λi hi ih=>?_
 obtain ⟨hi1,hi2⟩:=hi;refine AM rfl<|Aa rfl (λh=>?_) (λh=>?_)
 ·have hlt:i<l.length:=by simp at h;omega
  obtain ⟨p,hp⟩:=Am hlt;have hg:=zax hp;refine AM rfl<|riz rfl hg<|AP rfl<|Aa rfl (λh2=>?_) (λh2=>?_)
  ·have e:p=n:=by simpa using h2
   subst e;refine AM rfl<|Ab rfl rfl (congrArg _ ?_);have hm:=AK hp;rw [atI,if_pos hm];have e1:l=l.take i++p::l.drop (i+1):=by
    have:=cQ i l;rw [As hp] at this;exact this.symm
   have:l.idxOf p=i:=by
    rw [e1,zb8,if_neg hi2];simp;omega
   rw [this]
  ·have e:p≠n:=by simpa using h2
   refine AM rfl<|Ae (ih (i+1) (by omega) ⟨by omega,?_⟩) ⟨M6,AD⟩ trivial rfl;rw [Bk hp];simp only [BU,AN,not_or];exact ⟨hi2,λh=>e h.symm⟩
 ·have hlt:¬i<l.length:=by simp at h;omega
  rw [CQ (by omega)] at hi2;exact At rfl<|AM rfl<|Ag ⟨_,rfl,tV (by rw [atI,if_neg hi2]),trivial⟩
end Go.Hk
