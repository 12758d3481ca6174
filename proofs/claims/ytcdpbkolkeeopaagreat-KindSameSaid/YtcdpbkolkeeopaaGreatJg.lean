/- Contracts of hearthref03. -/
import Derived.Test.YtcdpbkolkeeopaaGreatJf
set_option linter.all false
set_option maxRecDepth 100000
set_option maxHeartbeats 4000000
namespace Go.Hk
open Go.Proofs.Tryz
open Go.Proofs
variable {m:Md} {a i n b f p sz j H:Nat} {t:Tm} {x s:Z} {S ps:L1 Y} {I J:U} {P:Program} {T:D0} {st au:St} {aa l F ids':L1 Nat} {μ ν:Mu} {w w':World} {τ:Y} {env q E:Env} {ob:L1 Prop} {Γ:Ax} {Q:DQ} {todo r:L1 DI} {θ η:Int->Y} {B:TT} {v:Value} {L:L1 Int} {g:S0} {α:Type} {d:D} {es:G1} {e:TypeId} {c:L1 V} {y:Int} {z:Code} {o:Oper}
noncomputable def nbS (bk l:L1 Int):St:=[(1,some (.cells 123 2 [.mapr 2,.mapr 3])),(2,some (.map (EO (tkL bk l)))),(3,some (.map (byM bk l)))]
def ndD (f n:Int) (x:Z) (a:Nat):D:=.agg [.imm (.int .i64 f),.imm (.int .i64 n),.imm (.str x),.hv a 0]
def zbf (bk l:L1 Int) (t:Y):Prop :=
 Tq4 81 [.ref 1 0,ndD (CD t) (num t) (F7 t) 4] (nbS bk l++[(4,some (.hp (LS (Hr t))))])
  (.ret (ndD (CD (Gh bk (Dy t l) t)) (num (Gh bk (Dy t l) t)) (F7 (Gh bk (Dy t l) t)) 5) (nbS bk (Dy t l)++[(5,some (.hp (LS (Hr (Gh bk (Dy t l) t)))))]))
def U4 {α:Type} (a b:α):∀l:L1 α,(l++[a]).set l.length b=l++[b]
 |[]=>rfl
 |x::r=>by simp[U4 a b r]
def znp {a:Tr} {f n:Int} (h:gM a (.mk f n x ps)):∃v ks,a=.nd f n x v ks/\KM ks ps:=by cases a with|nd q r u v ks=>simp only[gM]at h;obtain⟨rfl,rfl,rfl,h⟩:=h;exact⟨v,ks,rfl,h⟩|im _ _=>simp[gM]at h|gp _ _ _ _=>{simp[gM]at h}
def PI (bk:L1 Int) (f n:Int) (x:Z) (ps:L1 Y) (l:L1 Int) (hl3:ps.length<=3) (hw:∀p∈ps,CL p=true) (IH:∀p∈ps,∀l:L1 Int,(Dy p l).length<=1000000->zbf bk l p) (P:(C2 ps l).length<=1000000) :
  Tq2 Tryz.f81.ntmps [1,2,3,4] (KZ bZ Tryz.f81.results.toList (.ret (ndD f n x 5) (nbS bk (C2 ps l)++[(5,some (.hp (LS (Hc bk (C2 ps l) ps))))])))
   [.code (ES Tryz.f81 2)] [(0,.ref 1 0),(3,.ref 6 0),(4,.ref 7 0)]
   ((6,some (.cells 25 4 [i7 f,i7 n,.imm (.str x),.hv 4 0]))::(7,some (.cells 25 4 [i7 0,i7 0,.imm (.str []),.nils]))::nbS bk l++[(4,some (.hp (LS ps)))]) [8,5,9,10,11,12,13]:=by
 refine Jo (ids':=[5,9,10,11,12,13]) 4 8 (λx:(Option Addr×Nat)×{ D:L1 Tr // KM D ps }=>[.slice x.1.1 ps.length x.1.2]) (λx=>GI (.slice x.1.1 ps.length x.1.2) x.2.1) O (λQ I w s h=>?_) λy=>?_
 ·obtain⟨v,D,S,T,h3⟩:=h;let⟨a,A,t,_⟩:=Pz h3;rw[Qg S]at t;subst t;exact⟨((a,A),⟨D,S⟩),T,h3⟩
 obtain⟨⟨ad,A⟩,⟨gs0,G⟩⟩:=y;refine A3 O<|Al (λy:Nat×L1 Tr=>[(60,i7 y.1),(59,i7 ps.length),(58,.raw (.slice ad ps.length A)),(0,.ref 1 0),(3,.ref 6 0),(4,.ref 7 0)])
  (λy=>(6,some (.cells 25 4 [i7 f,i7 n,.imm (.str x),.raw (.slice ad ps.length A)]))::(7,some (.cells 25 4 [i7 0,i7 0,.imm (.str []),.nils])) ::
   (8,some (.hp (GI (.slice ad ps.length A) y.2)))::nbS bk (C2 (ps.take y.1) l)) [5,9,10,11,12,13] (λy=>ps.length-y.1) (λy=>y.1<=ps.length/\y.2.length=ps.length/\(∀(j:Nat) a p,j<y.1->y.2[j]?=some a->ps[j]?=some p->gM a (Gh bk (C2 ps l) p))/\(∀(j:Nat) a p,y.1<=j->y.2[j]?=some a->ps[j]?=some p->gM a p)) (0,gs0)
  ⟨AK _,Qg G,λj a p h=>by omega,λj a p _ E C=>(KL.1 G).2 j a p E C⟩ EG EG O λy hi ih=>?_
 clear G;obtain⟨i,D⟩:=y;obtain⟨hi1,K,V,W⟩:=hi;simp only at hi1 K V W;refine A3 O<|Aa O (λh=>?_) (λh=>?_)
 ·simp at h;let⟨k,hk⟩:=At h;have F:=AF hk;obtain⟨a,H⟩:∃a,D[i]?=some a:=⟨_,Bq (by omega)⟩
  have hak:=W i a k (BO _) H hk;have c:C2 (ps.take (i+1)) l=Dy k (C2 (ps.take i) l):=by rw[Ba hk,L5];rfl
  obtain⟨r,hr⟩:∃r,C2 ps l=C2 (ps.take (i+1)) l++r:=by
   let⟨r,hr⟩:=R3 (ps.drop (i+1)) (C2 (ps.take (i+1)) l);exact⟨r,by rw[<- hr,<- L5,fM]⟩
  have d:Gh bk (C2 ps l) k=Gh bk (Dy k (C2 (ps.take i) l)) k:=by
   rw[hr,c];exact Yk k (λh hh=>(Np k _).2 (.inr hh)) (hw k F)
  have hbl:(Dy k (C2 (ps.take i) l)).length<=1000000:=by
   rw[hr,c]at P;simp only[AZ]at P;omega
  have hC:=IH k F (C2 (ps.take i) l) hbl;unfold zbf at hC;rw[<- d,<- c]at hC;generalize C2 (ps.take i) l=l0 at *;obtain⟨g,m,o,kp⟩:=k;obtain⟨v,ks,rfl,hks⟩:=znp hak;obtain⟨N,J⟩:∃N,Gh bk (C2 ps l) (.mk g m o kp)=N:=⟨_,rfl⟩
  rw[J]at hC;refine Dz 8 (λ_:{ b:Nat // ad=some ⟨b,0,none⟩ }=>GI (.slice ad ps.length A) D) O (λQ I w s R=>?_) λz=>?_
  ·let⟨a,cap',t,e2⟩:=Pz R;simp only[cd]at t;let⟨b,P⟩:=e2 (by rw[K];omega);exact⟨⟨b,by rw[t.1,P]⟩,R⟩
  obtain⟨b,rfl⟩:=z;refine uZ (ids':=[10,11,12,13]) 8 5 9 (λ_:Unit=>GI (.slice (some ⟨b,0,none⟩) ps.length A) (D.set i (.gp g m o v))) (λ_=>GI v ks) O (λQ I w s R=>?_) λ_=>?_
  ·let⟨b1,b2,q1,q2,q3,q4,q5⟩:=lU R H;exact⟨(),b1,b2,q1,q2,q3,q4,q5⟩
  have L:(D.set i (.gp g m o v))[i]?=some (.gp g m o v):=HY (by omega)
  refine A3 O<|Er Aj O O (λ_=>⟨by simp,by simp;omega⟩) (by simp)<|Ak O<|CR Aj 5 [i7 g,i7 m,.imm (.str o),.raw v] O O (λ_ Q I w s R=>by have:=lW R L;simpa[B4]using this) O O (by simp)<|QK 4 O (by simp)<|KT (ids':=[12,13]) 9 10 11 [v] (A:=LS kp) [i7 g,i7 m,.imm (.str o),.hv 11 0] O O (λus I w s h=>⟨_,ks,hks,rfl,h⟩) ⟨.inl O,.inl O,.inl O,.inr ⟨0,_,rfl,rfl,rfl⟩,ab⟩<|A3 O<|AD (fr:=[12]) [(1,1),(2,2),(3,3),(11,4)] [(5,12)] [] (nm:=[1,2,3,12,1,2,3,11]) O trivial (by simp) hC H9 O trivial rfl O O<|Ak O<|Er Aj O O (λ_=>⟨by simp,by simp;omega⟩) (by simp)<|Ak O<|IT Aj 5 12 13 (zoc (.slice (some ⟨b,0,none⟩) ps.length A) (D.set i (.gp g m o v)) i (CD N) (num N) (F7 N) (Hr N)) O O O (by decide) (by
   have e:0+((i:Int)).toNat*4=i*4:=by simp
   show Gw _ _ _ 12 b (0+((i:Int)).toNat*4) _;rw[e];exact UJ L O) ?_
  refine yg [] O (by simp;rfl)<|Dz 13 (λa:{ a:Tr // gM a N }=>GI (.slice (some ⟨b,0,none⟩) ps.length A) (D.set i a.1)) O (λQ I w s R=>?_) λz=>?_
  ·obtain⟨u,ks,S,T⟩:=R;rw[ZR]at T;obtain⟨t1,t2,t3,t4⟩:=N;exact⟨⟨.nd t1 t2 t3 u ks,by simpa[gM,Hr]using S⟩,T⟩
  obtain⟨a,E⟩:=z;refine AR 8 13 O<|Ad (ih (i+1,D.set i a) (by simp only;omega) ⟨by simp only;omega,by simpa using K,λj a' p hj B C=>?_,λj a' p hj B C=>?_⟩) ⟨B8 (Gx (by simp only;omega) (by simp only;omega)),BD⟩ EG O
  ·simp only at hj B;by_cases e:i=j
   ·subst e;rw[HY (by omega)]at B;cases B;rw[hk]at C;cases C;rw[J];exact E
   ·rw[KE e]at B;exact V j a' p (by omega) B C
  ·simp only at hj B;rw[KE (by omega)]at B;exact W j a' p (by omega) B C
 ·simp at h;have hl:i=ps.length:=by omega
  subst hl;rw[Mv];have his:KM D (Hc bk (C2 ps l) ps):=KL.2 ⟨by rw[Vf,C6];exact K,λj a p E C=>by
   rw[Vf,Ct]at C;cases hq:ps[j]? with
   |none=>rw[hq]at C;cases C
   |some q=>
    rw[hq]at C;simp only[HX,Ci]at C;rw[<- C];exact V j a q (A9.1 hq).1 E hq⟩
  exact Az O<|A3 O<|KT (ids':=[9,10,11,12,13]) 8 7 5 [.slice ad ps.length A] (A:=LS (Hc bk (C2 ps l) ps)) [i7 f,i7 n,.imm (.str x),.hv 5 0] O O (λus I w s h=>⟨_,D,his,rfl,h⟩) ⟨.inl O,.inl O,.inl O,.inr ⟨0,_,rfl,rfl,rfl⟩,ab⟩<|Af ⟨_,EG⟩
def zd3 (bk:L1 Int) (hst:bk.length<=1000000):∀(t:Y) (l:L1 Int),CL t=true->(Dy t l).length<=1000000->zbf bk l t
 |.mk f n x ps,l,hw,c=>by have d:=LV hw;have g:∀p∈ps,CL p=true:=λp A=>G7 hw p (by simpa[Hr]using A);have IH:∀p∈ps,∀l:L1 Int,(Dy p l).length<=1000000->zbf bk l p:=λp A l h=>zd3 bk hst p l (g p A) h;simp only[Hr]at d;unfold zbf;by_cases h9:f=9;subst h9;have e:=Fa hw O;simp only[Ay,num,Y.mk.injEq]at e;obtain⟨_,_,rfl,rfl⟩:=e;have m:∀L,Gh bk L (.mk 9 n [] [])=.mk 9 (F2 bk (L.idxOf n)) [] []:=λL=>by{simp[Gh,Hc]};rw[m];refine Ac Aj func81 O [6,7,8,5,9,10,11,12,13]<|Ak O<|Aa O (λh=>by exfalso;simp[CD]at h) (λh=>?_);refine A3 O<|Aa O (λh=>?_) (λh=>by exfalso;simp[CD]at h);refine A3 O ?_;by_cases i:n∈l;have eg:Dy (.mk 9 n [] []) l=l:=by{simp[Dy,i]};rw[eg]at c ⊢;have V:=PI bk 9 (F2 bk (l.idxOf n)) [] [] l (by simp) (λp A=>by simp at A) (λp A=>by simp at A) (by simpa[C2]using c);have u:=jU (bk:=bk) (l:=l) (h:=n);rw[ae i]at u;have W:=zk2 (bk:=bk) i;have C:=zjc (bk:=bk) (nH.2 i);have a:=zcj C;have D:=jV bk l;have G:=Dn (tkL bk l);have hlb:=zk1 bk l;have hjt:=(A9.1 a).1;have hjb:=(A9.1 W).1;simp only[nbS,C2]at V;simp only[nbS];generalize byM bk l=B at *;generalize(tkL bk l).idxOf ↑(F2 bk (l.idxOf n))=jt at *;generalize EO (tkL bk l)=K at *;generalize F2 bk (l.idxOf n)=N at *;generalize l.idxOf n=jb at *;refine Dd Aj 3 (z:=.int .i64 0) (zd:=.int .i64 0) (dr:=.imm (.tup [.int .i64 N,.bool true])) O O O D (by simp) O (λ_=>.int _ _) (by simp only[He];rw[show num (Y.mk 9 n [] [])=n from rfl,u];rfl)<|yg [] O (by simp;rfl)<|Al (λ_:Unit=>[(5,i7 N),(6,.imm (.bool true)),(0,.ref 1 0),(3,.ref 6 0),(4,.ref 7 0)]) (λ_=>(6,some (.cells 25 4 [i7 9,i7 n,.imm (.str []),.hv 4 0]))::(7,some (.cells 25 4 [i7 0,i7 0,.imm (.str []),.nils]))::(1,some (.cells 123 2 [.mapr 2,.mapr 3]))::(2,some (.map K))::(3,some (.map B))::[(4,some (.hp (LS [])))]) [8,5,9,10,11,12,13] (λ_=>0) (λ_=>True) () ab BD EG O λ_ _ o=>?_;clear o;refine A3 O<|Ag O λh=>Az O<|KS 3 O λb1 s q v w=>KS 2 O λb2 y r E F=>?_;obtain⟨x1,H⟩:∃e,s[jb]?=some e:=⟨_,PW (by omega)⟩;obtain⟨x2,I⟩:∃e,y[jt]?=some e:=⟨_,PW (by omega)⟩;exact A3 O<|uM Aj jb (e:=x1) O D H W O<|Ak O<|aZ jb (e:=x1) O O H O W<|Ak O<|uM Aj jt (e:=x2) O G I a O<|Ak O<|aZ jt (e:=x2) O O I O a<|QK 2 O (by simp;rfl)<|Jp 2 O<|Jp 3 O<|ydf 5 O (by simp)<|Ad V AC ⟨rfl,rfl,rfl,af Blk.map (U3 a),af Blk.map (U3 W),AG⟩ O;have eg:Dy (.mk 9 n [] []) l=l++[n]:=by{simp[Dy,i]};have ei:(l++[n]).idxOf n=l.length:=by{rw[fu,ac i];simp};rw[eg]at c ⊢;rw[ei];have V:=PI bk 9 (F2 bk l.length) [] [] (l++[n]) (by simp) (λp A=>by simp at A) (λp A=>by simp at A) (by simpa[C2]using c);have u:=jU (bk:=bk) (l:=l) (h:=n);rw[ac i]at u;have C:=λ(j:Nat) (hj:j<=F2 bk l.length)=>zms (bk:=bk) (l:=l) hj;have D:=jV bk l;have G:=Dn (tkL bk l);have hNb:F2 bk l.length<=2000000:=by{have:=zjd bk l.length;simp at c;omega};have J:=QW (F2 bk l.length:Int) (tkL bk l);rw[ac (λh=>by have:=(C _ (BO _)).1 h;omega)]at J;have P:=U4 (.int .i64 n,.int .i64 0) (.int .i64 n,.int .i64 (F2 bk l.length:Int)) (byM bk l);rw[<- zhd]at P;have Q:=U4 (.int .i64 (F2 bk l.length:Int),.bool false) (.int .i64 (F2 bk l.length:Int),.bool true) (EO (tkL bk l));have m:EO (tkL bk l)++[(.int .i64 (F2 bk l.length:Int),.bool true)]=EO (tkL bk (l++[n])):=by{rw[zb7];simp[EO]};rw[m]at Q;have R:=λ(j:Nat)=>H6 (j:Int) (tkL bk l);clear m;simp only[nbS,C2]at V;simp only[nbS];generalize byM bk (l++[n])=B' at *;generalize byM bk l=B at *;generalize EO (tkL bk (l++[n]))=K' at *;generalize hK:EO (tkL bk l)=K at *;generalize F2 bk l.length=N at *;refine Dd Aj 3 (z:=.int .i64 0) (zd:=.int .i64 0) (dr:=.imm (.tup [.int .i64 0,.bool false])) O O O D (by simp) O (λ_=>.int _ _) (by simp only[He];rw[show num (Y.mk 9 n [] [])=n from rfl,u];rfl)<|yg [] O (by simp;rfl)<|Al (λz:Nat×Bool=>[(5,i7 z.1),(6,.imm (.bool z.2)),(0,.ref 1 0),(3,.ref 6 0),(4,.ref 7 0)]) (λ_=>(6,some (.cells 25 4 [i7 9,i7 n,.imm (.str []),.hv 4 0]))::(7,some (.cells 25 4 [i7 0,i7 0,.imm (.str []),.nils]))::(1,some (.cells 123 2 [.mapr 2,.mapr 3]))::(2,some (.map K))::(3,some (.map B))::[(4,some (.hp (LS [])))]) [8,5,9,10,11,12,13] (λz=>if z.2=true then 0 else N-z.1+1) (λz=>z.1<=N/\(z.2=true->z.1=N)) (0,false) ⟨AK _,λh=>nomatch h⟩ BD EG O λz hz o=>?_;obtain⟨j,is⟩:=z;obtain⟨b,S⟩:=hz;simp only at b S;cases is with|false=>{refine A3 O<|Aq O λh=>A3 O ?_;by_cases T:j<N;have hd:decide ((j:Int)∈tkL bk l)=true:=bf ((C j b).2 T);exact Dd Aj 2 (z:=.bool false) (zd:=.bool false) (dr:=.imm (.bool true)) O O O G (by simp) O (λ_=>.bool _) (by rw[R,hd])<|Ak O<|Aq O λh=>A3 O<|Ad (o (j+1,false) (by simp;omega) ⟨by simp only;omega,λh=>nomatch h⟩) ⟨B8 (Gx (by simp only;omega) (by simp only;omega)),B0⟩ EG O;have hd:decide ((j:Int)∈tkL bk l)=false:=aq (λh=>T ((C j b).1 h));exact Dd Aj 2 (z:=.bool false) (zd:=.bool false) (dr:=.imm (.bool false)) O O O G (by simp) O (λ_=>.bool _) (by rw[R,hd])<|Ak O<|Ag O λh=>A3 O<|Ad (o (j,true) (by simp) ⟨b,λ_=>by omega⟩) BD EG O}|true=>{have ej:=S O;subst ej;clear o;exact A3 O<|Ag O λh=>Az O<|KS 3 O λb1 s q v w=>KS 2 O λb2 y r E F=>A3 O<|uN Aj (z:=.int .i64 0) (zd:=.int .i64 0) O D u O (λ_=>.int _ _)<|Ak O<|aZ B.length (e:=⟨.int .i64 n,.int .i64 0,q⟩) (p:=(.int .i64 n,.int .i64 0)) O O (by simp[<- v]) O (by simp)<|Ak O<|uN Aj (z:=.bool false) (zd:=.bool false) O G J O (λ_=>.bool _)<|Ak O<|aZ K.length (e:=⟨.int .i64 j,.bool false,r⟩) (p:=(.int .i64 j,.bool false)) O O (by simp[<- E]) O (by simp)<|QK 2 O (by simp;rfl)<|Jp 2 O<|Jp 3 O<|ydf 5 O (by simp)<|Ad V AC ⟨rfl,rfl,rfl,af Blk.map Q,af Blk.map P,AG⟩ O};have e1:Dy (.mk f n x ps) l=C2 ps l:=by{simp only[Dy,ac h9]};have m:∀L,Gh bk L (.mk f n x ps)=.mk (if f=10 then 9 else f) n x (Hc bk L ps):=λL=>by{simp only[Gh,ac h9]};rw[e1]at c ⊢;rw[m];refine Ac Aj func81 O [6,7,8,5,9,10,11,12,13]<|Ak O ?_;by_cases k:f=10;subst k;have V:=PI bk 9 n x ps l d g IH c;refine Aa O (λh=>?_) (λh=>by exfalso;simp[CD]at h);exact ydf 5 O (by simp)<|Ad V AC EG O;have V:=PI bk f n x ps l d g IH c;rw[ac k];refine Aa O (λh=>by exfalso;simp[CD]at h;exact k h) (λh=>?_);refine A3 O<|Aa O (λh=>by exfalso;simp[CD]at h;exact h9 h) (λh=>?_);exact ydf 2 O (by simp)<|Ad V AC EG O
termination_by t=>SizeOf.sizeOf t
decreasing_by have:=Cr A;simp_wf;omega
def pO (l:Ax) (f:FuncId) (a b:L1 V) (q:Z×Y->Bool) (m:∀t∈l,Tq3 f (a++[.agg (kU t)]++b) (.bool (q t))):∃i:Int,(0<=i↔l.any q=true)/\Tq3 188 [.sl (dKns l),.clo (.func f) a b] (.int .i64 i):=by obtain⟨i,d,e⟩:∃i:Int,(0<=i↔l.any q=true)/\((i = -1/\l.any q=false)\/∃(k:Nat) (t:Z×Y),i=k/\l[k]?=some t/\q t=true/\(l.take k).any q=false):=by{by_cases h:l.any q=true;have N:∀(n:Nat),(l.take n).any q=true->∃(k:Nat) (t:Z×Y),l[k]?=some t/\q t=true/\(l.take k).any q=false:=λn=>by{induction n with|zero=>intro h;simp at h|succ n R=>{intro h;by_cases B:(l.take n).any q=true;exact R B;by_cases p:n<l.length;let⟨t,A⟩:=At p;rw[Ba A,Jh]at h;simp only[Vp]at B;rw[B,Vn]at h;exact⟨n,t,A,by simpa using h,B⟩;rw[CA (by omega)]at h B;exact absurd h B}};let⟨k,t,C,D,W⟩:=N l.length (by rw[Mv];exact h);exact⟨k,⟨λ_=>h,λ_=>by omega⟩,.inr ⟨k,t,rfl,C,D,W⟩⟩;exact⟨-1,⟨λg=>by omega,λg=>absurd g h⟩,.inl ⟨rfl,by simpa using h⟩⟩};refine⟨i,d,?_⟩;clear d;refine BH λs=>?_;simp[D8,Gy,maxLen]at s;refine Ac Aj func188 O [1,2]<|Ak O<|Al (λj:Nat=>[(8,i7 j),(7,i7 l.length),(0,.imm (.sl (dKns l))),(1,.imm (.clo (.func f) a b))]) (λ_=>[]) [1,2] (λj=>l.length-j) (λj=>j<=l.length/\(l.take j).any q=false) 0 ⟨AK _,rfl⟩ ⟨rfl,B8 (by simp),AP⟩ ab O λj v R=>?_;obtain⟨w,r⟩:=v;refine A3 O<|Aa O (λh=>?_) (λh=>?_);have G:j<l.length:=by{simp at h;omega};let⟨t,A⟩:=At G;have x:=MR A;have E:=m t (AF A);have c:(l.take (j+1)).any q=q t:=by{rw[Ba A,Jh,r];simp};have z:q t=true->i=j:=λK=>by{rcases e with⟨_,h⟩|⟨k,u,rfl,C,D,W⟩;have:l.any q=true:=EJ.2 ⟨t,AF A,K⟩;rw[this]at h;cases h;congr 1;rcases OP k j with hc|hc|hc;have:(l.take j).any q=true:=EJ.2 ⟨u,DW.2 ⟨k,by rw[DO,ae hc];exact C⟩,D⟩;rw[r]at this;cases this;exact hc;have:(l.take k).any q=true:=EJ.2 ⟨t,DW.2 ⟨j,by rw[DO,ae hc];exact A⟩,K⟩;rw[W]at this;cases this};generalize q t=o at *;obtain⟨y,⟨t1,t2,t3,t4⟩⟩:=t;refine A3 O<|WF O x<|Ak O<|TW O (λ_=>E) (by simp)<|Ak O ?_;cases o with|true=>{exact Aq O λh=>A3 O<|Af ⟨_,rfl,tV (by rw[z O]),ab⟩}|false=>{exact Ag O λh=>A3 O<|Ad (R (j+1) (by omega) ⟨by omega,c⟩) ⟨Bf,AC⟩ ab O};have G:¬j<l.length:=by{simp at h;omega};rw[CA (by omega)]at r;have F:i = -1:=by{rcases e with⟨h,_⟩|⟨k,u,_,C,D,_⟩;exact h;have:l.any q=true:=EJ.2 ⟨u,AF C,D⟩;rw[r]at this;cases this};exact Az O<|A3 O<|Af ⟨_,rfl,tV (by rw[F]),ab⟩
def Xa (l:Ax) (f:FuncId) (a b:L1 V) (q:Z×Y->Bool) (h:∀t∈l,Tq3 f (a++[.agg (kU t)]++b) (.bool (q t))):Tq3 129 [.sl (dKns l),.clo (.func f) a b] (.bool (l.any q)):=by let⟨i,r,u⟩:=pO l f a b q h;refine Ac Aj func129 O [1,2]<|Ak O<|Ah O u<|Ak O<|Ab O O (af _ ?_);rw[FC,<- r];simp
def zM (g:FuncId) (q:Z×Y->Bool) (t:Z×Y) (h:Tq3 g [.agg (kU t)] (.bool (q t))):Tq3 130 [.agg (kU t),.ip 116 [.fn (.func g)] 0] (.bool (!q t)):=by generalize q t=o at *;obtain⟨y,⟨t1,t2,t3,t4⟩⟩:=t;exact P4<|Ac Aj func130 O [2,3,4,5]<|Ak O<|Ah O h<|Ak O<|Ab O O O
def zfq (l:Ax) (g:FuncId) (q:Z×Y->Bool) (h:∀t∈l,Tq3 g [.agg (kU t)] (.bool (q t))):Tq3 71 [.sl (dKns l),.fn (.func g)] (.bool (l.all q)):=by have r:=Xa l 130 [] [.ip 116 [.fn (.func g)] 0] (λt=>!q t) λt u=>zM g q t (h t u);refine Ac Aj func71 O [2,3,4,5]<|Ak O<|N0 O (λ_=>r) O (by simp)<|Ak O<|Ab O O (af _ ?_);rw[FC];simp
def Rz (p:Z×Y):Bool:=BV p.1&&AW true p.2
def pL (p:Z×Y):Tq3 72 [.agg (kU p)] (.bool (Rz p)):=by have q:=Gk p.1;have h:=GN [p.2];simp only[D4,Ls,In]at h;unfold Rz;generalize AW true p.2=r at *;generalize BV p.1=u at *;obtain⟨y,⟨t1,t2,t3,t4⟩⟩:=p;refine Ac Aj func72 O [2,3,4,5]<|Ak O<|Ah O q<|Cw O<|Bt O h<|Cw O ?_;exact Af ⟨_,rfl,tV (by cases u<;>cases r<;>rfl),ab⟩
def gS (m:Md) (Γ:Ax) (t:Tm) (T:L1 (Int×Y)) (k:Int) (S:L1 Y) (u:L1 V):St :=
 Dw m T k S++[(5,some (.cells 92 1 [.ref 1 0])),(6,some (.immb 49 5 (dTmc t))),(7,some (.immb 118 1 [.sl (dKns Γ)])),(8,some (.immb 25 4 u))]
def zl8 (m:Md) (Γ:Ax) (t:Tm) (T:L1 (Int×Y)) (k:Int) (S:L1 Y) (u:L1 V):St :=
 Zu m T k S++[(5,some (.cells 92 1 [.ref 1 0])),(6,some (.immb 49 5 (dTmc t))),(7,some (.immb 118 1 [.sl (dKns Γ)])),(8,some (.immb 25 4 u))]
def gI {k:Int} (h:FA m Γ t [] 0 [] (some (τ,T,k,S))) (q:Sol (Cc T) θ) (r:S.length<=1000000) (u:(S.map (AH θ)).all DS=true):Tq4 78 [.ref 5 0,.ref 6 0,.ref 7 0,.ref 8 0] (gS m Γ t [] 0 [] (As Nd)) (.ret (.imm (.tup [])) (zl8 m Γ t T k S (As τ))):=by have z:=Qd m T k S q r u;unfold FA CX Ed at h;obtain⟨t1,t2,t3,t4,t5⟩:=t;obtain⟨A,B,C,D⟩:=τ;exact Ac Aj func78 O [4,9,10]<|Ak O<|Ao [4] S6 [(4,4)] O h A5 O O<|Ak O<|Ao [] T0 [] O z A5 O O<|Ak O<|Bw ⟨[],XI⟩
def gJ {k:Int} (h:FA m Γ t [] 0 [] (some (τ,T,k,S))) (q:Sol (Cc T) θ) (r:S.length<=1000000) (u:(S.map (AH θ)).all DS=false):Tq4 78 [.ref 5 0,.ref 6 0,.ref 7 0,.ref 8 0] (gS m Γ t [] 0 [] (As Nd)) (.pan HF):=by have z:=SE m T k S q r u;unfold FA CX Ed at h;obtain⟨t1,t2,t3,t4,t5⟩:=t;obtain⟨A,B,C,D⟩:=τ;exact Ac Aj func78 O [4,9,10]<|Ak O<|Ao [4] S6 [(4,4)] O h A5 O O<|Ak O<|Bo T0 O (by simp) z A5 O O O<|Ak O<|BB 9 O
def pK (h:FA m Γ t [] 0 [] none):Tq4 78 [.ref 5 0,.ref 6 0,.ref 7 0,.ref 8 0] (gS m Γ t [] 0 [] (As Nd)) (.pan HF):=by unfold FA CX Ed at h;obtain⟨t1,t2,t3,t4,t5⟩:=t;exact Ac Aj func78 O [4,9,10]<|Ak O<|Bs 3 S6 O (by simp) h A5 O O O<|B5 7 3 O
section
variable {h:Env} {A stx:St} {u:L1 Nat} {c:Code} {all rest:L1 Oper}
def VZ {L:I0} {fc:Func} {stB:St} {cf:Option Code} (hf:P.funcs[L.fn]?=some fc) (hps:L.ps = #[p]) (hsz:L.tmps.size=n) (hd:Hb d=[]) (hp:p<n) (hfree:R9 aa L.E stx L.F) (hasg:WE P n L.asg ((p,d)::L.E) stx aa env st ids') (h:DGo P n (XM::(L.F++PM L.E)) (zmj cf stB) [.code L.body] env st ids'):La P [d] (Cg L stx none) cf.isNone (Cg L stB cf):=by
 intro I μ w b xs hμ hst hx;have hl0:Aw (QJ 1 (Cg L stx none)) 0 .pin:=A1.2 (.inl ⟨rfl,rfl⟩);have hl1:Aw (QJ 1 (Cg L stx none)) 1 (.bun 0 (Cg L stx none)):=A1.2 (.inr ⟨by simp,A1.2 (.inl ⟨rfl,rfl⟩)⟩);obtain⟨g1,hg1,b',bs,hb1,rfl,hP⟩:=hst.blk 1 _ hl1;rw[hμ]at hb1;cases hb1;have hbs:∀k∈bs,I k=none/\k<w.heap.size:=λk hk=>hst.apart 1 _ _ k hl1 hg1 (Do.2 hk);have hP0:=hP;let⟨r,ν,bs0,e1,hr1,⟨hr2,hr3⟩,⟨hr4,hr5,hr6,hr7,hr8⟩,hE1,hS,f,hnb,hF⟩:=Wr hP hfree hst.imm hbs;subst e1;obtain⟨x,rfl⟩:∃x,xs = #[x]:=by
  obtain⟨l⟩:=xs;have:=hx.1
  match l,this with
  |[x],_=>exact⟨x,rfl⟩
 have hxd1:X I ν x d:=(hx.2 0 x d O O).sub λj hj=>by rw[hd]at hj;cases hj
 have hszp:(#[x]:Array Value).size=r.params.size:=by rw[hr5,hps];rfl
 unfold zon;rw[run_yield hr1 hszp];refine K7 (fc:=fc) (by rw[hr4];exact hf) λfb cs hbf hbr=>?_;rw[hr5,hps,hr6,hr7,hr8];have hfold:((#[p]:Array Nat).zip #[x]).foldl (λtmps (t,a)=>tmps.setIfInBounds t a) L.tmps=L.tmps.setIfInBounds p x:=by simp
 rw[hfold];let⟨hIb,F⟩:=hbs b (by simp);have N:¬AX ν stx b:=λh=>hnb ((f b).2 h);have C:∀(w:World) (o:Obj),(w.putObj b o).heap=w.heap.setIfInBounds b o:=λw o=>by
  unfold World.putObj;by_cases hi:b<w.heap.size<;>simp[hi]
 have K:∀(w:World) (o:Obj) k,k≠b->(w.putObj b o).heap[k]?=w.heap[k]?:=λw o k hk=>by rw[C,Hd (b7 hk)]
 let⟨c1,c2,c3⟩:=HN (n:=n) (w:=w) (a:={ tmps:=L.tmps,defers:=[] }) (dst:=some p) hE1 hsz (λt ht=>by cases ht;exact hp) hxd1;have hc0:Conc n I ν ((p,d)::L.E) stx aa (Act.put { tmps:=L.tmps,defers:=[] } (some p) x) w:={ hS with size:=c2,env:=c1,defers:=by rw[c3];exact MarksOk.nil _ _ _ _ }
 refine hasg fb cs _ I ν _ w _ hc0 λIA H aA wA hcA hmA z=>?_;have m:¬AX H st b:=λh=>N (z.fresh b F h);have J:wA.heap[b]?=some (.loop r):=by rw[z.block b F N];exact hr1
 have hIbA:IA b=none:=by rw[z.old b F N];exact hIb
 have hbltA:b<wA.heap.size:=(GS.1 J).1;obtain⟨w1,A⟩:∃w1:World,w1=wA.putObj b (.loop { r with state:=.busy }):=⟨_,rfl⟩
 have hbeg:=run_beginRound (P:=P) J hr2;refine Reach.step (stepR_beginRound hbr hbeg) ?_;rw[<- A];have hmarks:MarksOk IA H st w1 aA.defers:=by
  obtain⟨rs,m1,m2,m3⟩:=hcA.defers;refine⟨rs,m1,m2,λk hk=>⟨?_,(m3 k hk).2⟩⟩;have h0:=(m3 k hk).1;rw[A,K _ _ k (λe=>by rw[e,J]at h0;cases h0)];exact h0
 have hc:Conc n IA H env st ids' aA w1 :=
  {hcA.toStRep.other (by rw[A,C];simp) (λk o hk=>by rw[A];exact K _ _ k (λe=>by rw[e,hIbA]at hk;cases hk)) (λk hk=>by rw[A];exact K _ _ k (λe=>m (e▸hk)))with
   size:=hcA.size
   env:=hcA.env
   defers:=hmarks }
 have hgo:=h ⟨fb,.inl (by simp)⟩ cs IA H _ w1 [.code L.body] AG hc;refine Reach.mono (λe a' w' hpost=>?_) hgo;obtain⟨x',q,au,u,I',D,p1,p2,p3,p4,Q,p6⟩:=hpost;have hb1:w1.heap[b]?=some (.loop { r with state:=.busy }):=by rw[A,C];simp[hbltA]
 have hsz1:w1.heap.size=wA.heap.size:=by rw[A,C];simp
 have hszA:w.heap.size<=wA.heap.size:=z.size;have hno2:∀k,k<w.heap.size->¬AX ν stx k->¬AX H st k:=λk hk ho hq=>ho (z.fresh k hk hq);have hfr2:∀k,k<w.heap.size->AX D au k->AX ν stx k:=λk hk ho=>z.fresh k hk (Q.fresh k (by omega) ho);have hold2:∀k,k<w.heap.size->¬AX ν stx k->I' k=I k:=λk hk ho=>(Q.old k (by omega) (hno2 k hk ho)).trans (z.old k hk ho);have S:I.le I':=U.le_trans z.imm Q.imm;have hb':w'.heap[b]?=some (.loop { r with state:=.busy }):=by rw[Q.block b (by omega) m];exact hb1
 have hno':¬AX D au b:=λho=>m (Q.fresh b (by omega) ho);have hI':I' b=none:=by rw[Q.old b (by omega) m];exact hIbA
 have hblt':b<w'.heap.size:=(GS.1 hb').1;have fin:Gl au stB->∃v w'',(Instr.endRound b cf).run P w'=.ok v w''/\(∃I2 B,X I2 B v (.imm (.bool cf.isNone))/\StRep I2 B (QJ 2 (Cg L stB cf)) [] w'' /\
   Pin (CT (QJ 1 (Cg L stx none))) μ B/\Ext I μ (QJ 1 (Cg L stx none)) w I2 B (QJ 2 (Cg L stB cf)) w''):=by
  intro hsub;have hSB:StRep I' D stB [] w':=p3.toStRep.less (CH hsub) .nil (λ_ h=>by simp at h);have s:∀k,AX D stB k->AX D au k:=λk ⟨i,bi,g,q1,R⟩=>⟨i,bi,g,CH hsub i bi q1,R⟩
  have hnoB:¬AX D stB b:=λh=>hno' (s b h);obtain⟨w2,V⟩:∃w2:World,w2=w'.putObj b (.loop { r with state:=if cf.isNone then .ready else .done,pending:=cf }):=⟨_,rfl⟩
  have hend:(Instr.endRound b cf).run P w'=.ok (.bool cf.isNone) w2:=by
   have:=run_endRound (P:=P) cf hb';rw[V];exact this
  have hw2s:w2.heap.size=w'.heap.size:=by rw[V,C];simp
  have T:∀k,k≠b->w2.heap[k]?=w'.heap[k]?:=λk hk=>by rw[V];exact K _ _ k hk
  have y:StRep I' D stB [] w2:=hSB.other (by omega) (λk o hk=>T k (λe=>by rw[e,hI']at hk;cases hk)) (λk hk=>T k (λe=>hnoB (e▸hk)));let⟨W,E⟩:=OJ D stB;have hPN:(Cg L stB cf).P I' w2 b (b::W):=by
   refine⟨{ r with state:=if cf.isNone then .ready else .done,pending:=cf },D,W,rfl,by rw[V,C];simp[hblt'],⟨by cases cf<;>rfl,rfl⟩,⟨hr4,hr5,hr6,hr7,hr8⟩,λt d hl=>?_,y.blk,y.inj,E,λhm=>hnoB ((E b).1 hm),λi hi=>?_⟩
   ·exact((hE1 t d hl).mono S (Mu.le_refl ν)).sub λj hj g hg=>p4 j (by simp[ZJ hl j hj]) g (hmA j g hg)
   ·exact λg hg0=>p4 i (by simp[hi]) g (hmA i g (hF i hi g hg0))
  obtain⟨B,hμ2⟩:∃B:Mu,B=λi=>if i=2 then some (.agg (UL (b::W)))else μ i:=⟨_,rfl⟩
  have hm0:B 0=some (.func (.yield b) #[] #[]):=by rw[hμ2];simpa using hμ
  have hm2:B 2=some (.agg (UL (b::W))):=by rw[hμ2];simp
  have hold:∀k,k∈b::W->k<w.heap.size->k∈b::bs0:=λk hk hlt=>by
   rcases Ck.1 hk with rfl|hk
   ·simp
   ·exact Gr _ ((f k).2 (hfr2 k hlt (s k ((E k).1 hk))))
  have hnew:∀k∈b::W,I' k=none/\k<w2.heap.size:=λk hk=>by
   rcases Ck.1 hk with rfl|hk
   ·exact⟨hI',by omega⟩
   ·obtain⟨i,bi,g,q1,R,q3⟩:=(E k).1 hk;exact y.apart i bi g k q1 R q3
  have G:∀k,AX μ (QJ 1 (Cg L stx none)) k↔k∈b::bs0:=λk=>by
   constructor
   ·rintro ⟨i,bi,g,q1,R,q3⟩;rcases Gi (by simp) q1 with⟨rfl,rfl⟩|⟨rfl,rfl⟩
    ·rw[hμ]at R;cases R;exact q3.elim
    ·rw[hg1]at R;cases R;exact Do.1 q3
   ·intro hk;exact⟨1,_,_,hl1,hg1,Do.2 hk⟩
  have hownN:∀k,AX B (QJ 2 (Cg L stB cf)) k->k∈b::W:=λk=>by
   rintro ⟨i,bi,g,q1,R,q3⟩;rcases Gi (by simp) q1 with⟨rfl,rfl⟩|⟨rfl,rfl⟩
   ·rw[hm0]at R;cases R;exact q3.elim
   ·rw[hm2]at R;cases R;exact Do.1 q3
  refine⟨_,w2,hend,I',B,.imm _ _ (.bool _),?_,?_,?_⟩
  ·refine { imm:=y.imm,blk:=λi bi hl=>?_,apart:=λi bi g k hl hgi hk=>hnew k (hownN k ⟨i,bi,g,hl,hgi,hk⟩),inj:=λi j bi bj gi gj k hi hj hgi hgj hki hkj=>?_,nodup:=.nil,idsFree:=λ_ h=>by simp at h }
   ·rcases Gi (by simp) hl with⟨rfl,rfl⟩|⟨rfl,rfl⟩
    ·exact⟨_,hm0,b,rfl⟩
    ·exact⟨_,hm2,b,_,hm0,rfl,hPN⟩
   ·rcases Gi (by simp) hi with⟨rfl,rfl⟩|⟨rfl,rfl⟩<;>rcases Gi (by simp) hj with⟨rfl,rfl⟩|⟨rfl,rfl⟩
    ·rfl
    ·rw[hm0]at hgi;cases hgi;exact hki.elim
    ·rw[hm0]at hgj;cases hgj;exact hkj.elim
    ·rfl
  ·intro i hi g hg;simp only[QJ,CT,C0,Jk,Ck,Ji,cb]at hi;have:i≠2:=by omega
   rw[hμ2];simp only[ac this];exact hg
  ·refine { imm:=S,os:=?_,tape:=?_,output:=?_,size:=?_,block:=λk hk hno=>?_,fresh:=λk hk ho=>(G k).2 (hold k (hownN k ho) hk),old:=λk hk hno=>hold2 k hk (λh=>hno ((G k).2 (Gr _ ((f k).2 h)))) }
   ·have:=Q.os;rw[A]at this;rw[V,<- z.os];unfold World.putObj at this ⊢;exact this
   ·have:=Q.tape;rw[A]at this;rw[V,<- z.tape];unfold World.putObj at this ⊢;exact this
   ·have:=Q.output;rw[A]at this;rw[V,<- z.output];unfold World.putObj at this ⊢;exact this
   ·have:=Q.size;omega
   ·have hkb:k≠b:=λe=>hno ((G k).2 (by simp[e]));have hno3:¬AX ν stx k:=λh=>hno ((G k).2 (Gr _ ((f k).2 h)));rw[T k hkb,Q.block k (by omega) (hno2 k hk hno3),A,K _ _ k hkb,z.block k hk hno3]
 cases e with
 |normal=>
  cases x'<;>simp only[LJ]at p1;cases cf with
  |none=>exact fin p2
  |some c=>exact p2.elim
 |ret=>
  cases x'<;>simp only[LJ]at p1;cases cf with
  |none=>exact p2.elim
  |some c=>cases c<;>first|exact p2.elim|exact fin p2
 |exit j=>
  cases x'<;>simp only[LJ]at p1;cases cf with
  |none=>exact p2.elim
  |some c=>
   cases c<;>first|exact p2.elim|skip
   obtain⟨q1,R⟩:=p2;subst q1;subst p1;exact fin R
 |goto l=>
  cases x'<;>simp only[LJ]at p1;cases cf<;>exact p2.elim
 |panic chain=>
  cases x'<;>simp only[LJ]at p1;cases cf<;>exact p2.elim
 |outgrown=>cases x'<;>simp only[LJ]at p1
end
def NU (Γ:Ax):Ax:=Γ.map λp=>(p.1,Hj p.2)
def zaf (Γ:Ax) (p:Z×Y):NU (Γ++[p])=NU Γ++[(p.1,Hj p.2)]:=by simp[NU]
def ndG (l:L1 Int) (u:Y):L1 Int:=if CD u=9 then(if num u∈l then l else l++[num u])else l
def zd9 (l:L1 Int) (f n:Int) (x:Z) (ps:L1 Y):ndG l (.mk f n x ps)=if f=9 then(if n∈l then l else l++[n])else l:=rfl
mutual
def cP:∀(t:Y) (l:L1 Int),CL t=true->(Il t).foldl ndG l=Dy t l
 |.mk f n x ps,l,q=>by simp only[Il,LP,zd9,Dy];by_cases h:f=9;subst h;have e:=Fa q O;simp only[Ay,num,Y.mk.injEq]at e;obtain⟨_,_,rfl,rfl⟩:=e;simp only[Ds,ZP,ar];rw[ac h,ac h];exact X5 ps l λp r=>G7 q p (by simpa[Hr]using r)
def X5:∀(h:L1 Y) (l:L1 Int),(∀t∈h,CL t=true)->(Ds h).foldl ndG l=C2 h l
 |[],_,_=>rfl
 |t::r,l,q=>by simp only[Ds,ZQ,C2];rw[cP t l (q t (by simp)),X5 r _ λp u=>q p (by simp[u])]
end
def U7 {h:Int}:∀{l:L1 Int},h∈l->Gn (EO l) (.int .i64 h) (.bool true)=EO l
 |x::r,u=>by simp only[EO,C0,Gn,ND];by_cases e:x=h;subst e;simp;have z:¬h=x:=λh=>e h.symm;have q:=U7 (l:=r) (by simpa[z]using u);simp only[EO]at q;rw[show decide (x=h)=false from aq e];simp only[DN,aw,q]
def dY:Code->Option (Code×Code)
 |.rangeFunc _ _ a b=>some (a,b)
 |.seq x y=>match dY x with
  |some r=>some r
  |none=>dY y
 |.block _ c=>dY c
 |.loop c=>dY c
 |.cond _ x y=>match dY x with
  |some r=>some r
  |none=>dY y
 |_=>none
def zc5 (f:Func):Code:=match dY (ES f 0)with
 |some (a,_)=>a
 |none=>.skip
def mB (f:Func):Code:=match dY (ES f 0)with
 |some (_,b)=>b
 |none=>.skip
def uA (m:Md) (t:Tm) (Γ:Ax) (l:L1 Int):St :=
 [(11,some (.immb 43 3 (dMdc m))),(12,some (.immb 49 5 (dTmc t))),(13,some (.cells 25 4 [.imm (.int .i64 0),.imm (.int .i64 0),.imm (.str []),.nils])),
 (14,some (.immb 118 1 [.sl (dKns Γ)])),(15,some (.map (EO l))),(16,some (.map [])),(17,some (.cells 123 2 [.mapr 15,.mapr 16])),(18,some (.cells 119 1 [.ref 17 0]))]
def inE (Γ:Ax) (i:Nat):Env:=[(42,.imm (.int .i64 i)),(41,.imm (.int .i64 Γ.length)),(40,.imm (.sl (dKns Γ))),(3,.ref 11 0),(5,.ref 12 0),(6,.ref 13 0),(8,.ref 14 0),(9,.ref 18 0)]
def iG (m:Md) (t:Tm) (C Γ:Ax) (i:Nat) (l:L1 Int) (u:Y) {L:I0} (R:prog.funcs[L.fn]?.isSome) (V:L.tmps.size=Tryz.f26.ntmps) (W:L.ps = #[56]) (a:L.asg=zc5 Tryz.f26) (b:L.body=mB Tryz.f26) (K:L.E=inE C i) (N:L.F=[]):La prog [.imm (.agg (As u))] (Cg L (uA m t Γ l) none) true (Cg L (uA m t Γ (ndG l u)) none):=by let⟨d,c⟩:=Mz.1 R;obtain⟨f,n,x,ps⟩:=u;have q:R9 [21,22,23] L.E (uA m t Γ l) L.F:=by{rw[K,N];refine⟨by decide,?_⟩;simp[uA,inE,PM,Hb,Dx,LM,FQ,CT]};have D:=Dn l;have r:n∉l->Gn (EO l) (.int .i64 n) (.bool true)=EO (l++[n]):=λh=>K3 h;have z:n∈l->Gn (EO l) (.int .i64 n) (.bool true)=EO l:=λh=>U7 h;have A:∀stx,WE prog Tryz.f26.ntmps L.asg ((56,.imm (.agg (As (.mk f n x ps))))::L.E) stx [21,22,23] _ _ _:=λstx=>by{rw[a];exact vP Aj O O O O (by simp) (by simp)};refine VZ (cf:=none) c W V O (by decide) q (A _) ?_;rw[b,K,N];rw[zd9];refine A3 O ?_;by_cases G:f=9;subst G;rw[ae O];refine Aq O λh=>A3 O<|FD Aj O O O D ?_;by_cases B:n∈l;rw[z B,ae B];exact yg [] O (by simp;rfl)<|Bw (⟨rfl,rfl,rfl,rfl,rfl,rfl,rfl,rfl,ab⟩:Gl _ (uA m t Γ l));rw[r B,ac B];exact yg [] O (by simp;rfl)<|Bw (⟨rfl,rfl,rfl,rfl,rfl,rfl,rfl,rfl,ab⟩:Gl _ (uA m t Γ (l++[n])));rw[ac G];refine Aa O (λh=>by exfalso;simp at h;exact G h) (λh=>?_);exact A3 O<|Bw (⟨rfl,rfl,rfl,rfl,rfl,rfl,rfl,rfl,ab⟩:Gl _ (uA m t Γ l))
def cJ (p q:Addr) (w:World):CallsD prog 119 #[.pointer (some p),.pointer (some q)] .returning w λe r w'=>e=.returned (.tuple #[])/\r=.returning/\w'=w:=by refine ci func119 O λh z u=>?_;apply ch;apply bn;simp[wpOpsS,go_sem,recoverD,u,Tryz.ntmps119,Exit.thenS];apply ch;apply bn;simp[wpOpsS,go_sem,Exit.thenS];refine dj (t:=false) (by simp[Act.eval,Array.replicate]) ?_;simp only[aw,DN];refine cz (wp_skip ?_);cases h;simp_all [bodyPostS,results,Tryz.results119]
def GT:Array Value:=#[.int .i64 0,.int .i64 0,.string ⟨#[]⟩,.slice none 0 0]
def zlb (n:Nat) (w w':World):Prop:=w'.os=w.os/\w'.tape=w.tape/\w'.output=w.output/\w.heap.size<=w'.heap.size/\∀b,b<w.heap.size->b≠n+1->b≠n+2->w'.heap[b]?=w.heap[b]?
def Zh (h:Nat) (w:World) (G:w.heap[h+1]?=some (.cells GT 25 (0,0))) (K:w.heap[h+2]?=some (.cells #[.bool false] 4 (0,0))):CallsD prog 119 #[.pointer (some ⟨h+1,0,none⟩),.pointer (some ⟨h+2,0,none⟩)] (.panicking [{ v:=.iface 171 (.agg #[]),recovered:=false }]) w λe c w'=>e=.returned (.tuple #[])/\c=.panicking [{ v:=.iface 171 (.agg #[]),recovered:=true }]/\zlb h w w'/\w'.heap[h+1]?=some (.cells GT 25 (0,0))/\w'.heap[h+2]?=some (.cells #[.bool false] 4 (0,0)):=by refine ci func119 O λN x R=>?_;change Code.wpS _ _ _ { tmps:=#[.pointer (some ⟨h+1,0,none⟩),.pointer (some ⟨h+2,0,none⟩),undef,undef,undef,undef,undef,undef,undef,undef,undef,undef,undef,undef,undef,undef,undef],defers:=[] } _ _;apply ch;apply bn;simp[wpOpsS,go_sem,recoverD,R,Tryz.ntmps119,Exit.thenS];apply ch;apply bn;simp[wpOpsS,go_sem,Exit.thenS];refine dj (t:=true) (by simp[Act.eval,Array.replicate]) ?_;simp only[ar];refine cz ?_;clear R;have d:∀w:World,(Instr.typeAssert (.iface 171 (.agg #[])) 20 171 true).run prog w=.ok (.tuple #[.agg #[],.bool true]) w:=λ_=>by{kernel_rfl};have A:h+1<w.heap.size:=(GS.1 G).1;have B:h+2<w.heap.size:=(GS.1 K).1;have q:(w.alloc (.cells #[] 171)).heap[h+1]?=some (.cells GT 25 (0,0)):=(DB w _ A).trans G;have z:(w.alloc (.cells #[] 171)).heap[h+2]?=some (.cells #[.bool false] 4 (0,0)):=(DB w _ B).trans K;have f:(w.alloc (.cells #[] 171)).cell? ⟨h+1,0,none⟩=some (.int .i64 0):=by{unfold World.cell?;simp[q,GT]};have g:(w.alloc (.cells #[] 171)).frozen? ⟨h+1,0,none⟩=false:=by{unfold World.frozen?;simp[q]};have i:(w.alloc (.cells #[] 171)).cell? ⟨h+1,1,none⟩=some (.int .i64 0):=by{unfold World.cell?;simp[q,GT]};have j:(w.alloc (.cells #[] 171)).frozen? ⟨h+1,1,none⟩=false:=by{unfold World.frozen?;simp[q]};have k:(w.alloc (.cells #[] 171)).cell? ⟨h+1,2,none⟩=some (.string ⟨#[]⟩):=by{unfold World.cell?;simp[q,GT]};have l:(w.alloc (.cells #[] 171)).frozen? ⟨h+1,2,none⟩=false:=by{unfold World.frozen?;simp[q]};have m:(w.alloc (.cells #[] 171)).cell? ⟨h+1,3,none⟩=some (.slice none 0 0):=by{unfold World.cell?;simp[q,GT]};have n:(w.alloc (.cells #[] 171)).frozen? ⟨h+1,3,none⟩=false:=by{unfold World.frozen?;simp[q]};have o:(w.alloc (.cells #[] 171)).cell? ⟨h+2,0,none⟩=some (.bool false):=by{unfold World.cell?;simp[z]};have p:(w.alloc (.cells #[] 171)).frozen? ⟨h+2,0,none⟩=false:=by{unfold World.frozen?;simp[z]};have r:((w.alloc (.cells #[] 171)).setRow (h+1) GT).heap[h+2]?=some (.cells #[.bool false] 4 (0,0)):=(az _ _ _ _ (by omega)).trans z;have V:((w.alloc (.cells #[] 171)).setRow (h+1) GT).cell? ⟨h+2,0,none⟩=some (.bool false):=by{unfold World.cell?;simp[r]};have W:((w.alloc (.cells #[] 171)).setRow (h+1) GT).frozen? ⟨h+2,0,none⟩=false:=by{unfold World.frozen?;simp[r]};refine wp_seq (wp_mono (Q:=λe a w'=>e=.normal/\w'=(w.alloc (.cells #[] 171))/\∃t2 t3 t4 t5 t6 t7 t8 t9 t10 t11 t12 t13 t14 t15 t16,a={ tmps:=#[.pointer (some ⟨h+1,0,none⟩),.pointer (some ⟨h+2,0,none⟩),t2,t3,t4,t5,t6,t7,t8,t9,t10,t11,t12,t13,t14,t15,t16],defers:=[] }) ?_ ?_);go_wp2;rintro e a w' ⟨rfl,rfl,t2,t3,t4,t5,t6,t7,t8,t9,t10,t11,t12,t13,t14,t15,t16,rfl⟩;have u:(prog.built 25 []).getD #[]=GT:=by{kernel_rfl};simp only[Exit.then];refine wp_region_lit<|wpList_build O 25 #[] O (by kernel_rfl)<|wpList_store_row O 25 (.tmp 0) (.tmp 16) O (h+1) GT O (by simp[Act.put,Act.eval,u]) 25 GT q (by kernel_rfl) O (by simp[GT];decide) ?_;go_wp2;have C:=Fx (v:=.bool false) r;have s:((w.alloc (.cells #[] 171)).setRow (h+1) GT).heap.size=w.heap.size+1:=by{rw[br];simp};rw[C];refine⟨rfl,_,rfl,.tuple #[],by simp[results,Tryz.results119],rfl,rfl,⟨rfl,rfl,rfl,?_,λb t D v=>?_⟩,?_,?_⟩;simp[br];show(Array.setIfInBounds _ (h+2) _)[b]?=_;rw[Hd (by omega),az _ _ _ _ D,DB w _ t];show(Array.setIfInBounds _ (h+2) _)[h+1]?=_;rw[Hd (by omega)];have:=b8 (w.alloc (.cells #[] 171)) (h+1) GT GT _ _ q;exact this;show(Array.setIfInBounds _ (h+2) _)[h+2]?=_;rw[zer (by omega)]
def H0 (w:World) (a b c d:Value):World:=(((w.alloc (.cells #[a,b,c,d] 25)).alloc (.cells GT 25)).alloc (.cells #[.bool false] 4)).alloc (.cells #[.int .i64 12] 3)
def Qc (o a b c d:Value) (L:a.oneCell'=true/\b.oneCell'=true/\c.oneCell'=true/\d.oneCell'=true) (w:World) (K:Value->World->Prop) (j:World->Prop)
  (B:Tq6 120 #[o,.agg #[a,b,c,d],.pointer (some ⟨w.heap.size+3,0,none⟩)] (H0 w a b c d) λe w'=>match e with
   |.returned u=>K u w'
   |.panicked r=>r=[{ v:=.iface 171 (.agg #[]),recovered:=false }]/\j w'
   |.outgrown=>False)
  (s:∀u w',K u w'->(∃h:Array Value,u=.agg h/\h.size=4/\h.all (·.oneCell')=true)/\w'.heap[w.heap.size+1]?=some (.cells GT 25 (0,0))/\w'.heap[w.heap.size+2]?=some (.cells #[.bool false] 4 (0,0)))
  (k:∀w',j w'->w'.heap[w.heap.size+1]?=some (.cells GT 25 (0,0))/\w'.heap[w.heap.size+2]?=some (.cells #[.bool false] 4 (0,0))) :
  Tq6 58 #[o,.agg #[a,b,c,d]] w λe w'=>(∃u W,K u W/\e=.returned (.tuple #[u,.bool true])/\zlb w.heap.size W w')\/(∃W,j W/\e=.returned (.tuple #[.agg GT,.bool false])/\zlb w.heap.size W w'):=by
 go_enter_defers func58,Tryz.ntmps58
 have hmf:=zpd
 go_wp2_with fail
 refine bc B ?_;intro e w' C;cases e with
 |outgrown=>exact C.elim
 |returned u=>
  obtain⟨⟨h,rfl,D,f⟩,g,i⟩:=s u w' C;have G:(w'.setRow (w.heap.size+1) h).heap[w.heap.size+2]?=some (.cells #[.bool false] 4 (0,0)):=(az _ _ _ _ (by omega)).trans i;have t:(w'.setRow (w.heap.size+1) h).cell? ⟨w.heap.size+1+1,0,none⟩=some (.bool false):=by unfold World.cell?;simp[G]
  have v:(w'.setRow (w.heap.size+1) h).frozen? ⟨w.heap.size+1+1,0,none⟩=false:=by unfold World.frozen?;simp[G]
  simp only;rename_i P x Q l;apply l;refine wpList_store_row O 25 (.tmp 4) (.tmp 10) O (w.heap.size+1) h O O 25 GT g ?_ (by rw[D];rfl) f ?_
  ·rw[D];kernel_rfl
  go_wp2
  have z:=Fx (v:=.bool true) G;have m:w.heap.size+2<w'.heap.size:=(GS.1 i).1;have N:(loadVar 25 ⟨w.heap.size+1,0,none⟩).run prog ((w'.setRow (w.heap.size+1) h).setCell ⟨w.heap.size+1+1,0,none⟩ (.bool true))=.ok (.agg h) ((w'.setRow (w.heap.size+1) h).setCell ⟨w.heap.size+1+1,0,none⟩ (.bool true)):=by
   obtain⟨y,R,_⟩:=(Aj 25 _ rfl).sh;refine run_loadVar_row _ _ 25 _ h (0,0) _ ?_ R O (by rw[D];kernel_rfl);show((w'.setRow (w.heap.size+1) h).setCell ⟨w.heap.size+2,0,none⟩ (.bool true)).heap[w.heap.size+1]?=_;rw[z];show(Array.setIfInBounds _ (w.heap.size+2) _)[w.heap.size+1]?=_;rw[Hd (by omega)];exact b8 w' (w.heap.size+1) GT h _ _ g
  have V:((w'.setRow (w.heap.size+1) h).setCell ⟨w.heap.size+1+1,0,none⟩ (.bool true)).cell? ⟨w.heap.size+1+1,0,none⟩=some (.bool true):=by
   show((w'.setRow (w.heap.size+1) h).setCell ⟨w.heap.size+2,0,none⟩ (.bool true)).cell? ⟨w.heap.size+2,0,none⟩=_;rw[z];unfold World.cell?;simp[br,m]
  have A:(loadVar 4 ⟨w.heap.size+1+1,0,none⟩).run prog ((w'.setRow (w.heap.size+1) h).setCell ⟨w.heap.size+1+1,0,none⟩ (.bool true))=.ok (.bool true) ((w'.setRow (w.heap.size+1) h).setCell ⟨w.heap.size+1+1,0,none⟩ (.bool true)):=by simp[go_sem,V]
  refine cq (f:=119) (args:=#[.pointer (some ⟨w.heap.size+1,0,none⟩),.pointer (some ⟨w.heap.size+1+1,0,none⟩)]) (by simp) (by simp[go_sem])<|(cJ _ _ _).mono ?_;rintro e E q ⟨rfl,rfl,rfl⟩;simp[Leaves,settle,results,Tryz.results58,asAddr,N,A];refine⟨_,w',C,rfl,?_⟩;show zlb _ w' ((w'.setRow (w.heap.size+1) h).setCell ⟨w.heap.size+2,0,none⟩ (.bool true));rw[z];refine⟨rfl,rfl,rfl,by simp[br],λb S n F=>?_⟩;show(Array.setIfInBounds _ (w.heap.size+2) _)[b]?=_;rw[Hd (by omega),az _ _ _ _ n]
 |panicked r=>
  obtain⟨rfl,C⟩:=C;let⟨g,i⟩:=k w' C;simp only;refine cq (f:=119) (args:=#[.pointer (some ⟨w.heap.size+1,0,none⟩),.pointer (some ⟨w.heap.size+1+1,0,none⟩)]) (by simp) (by simp[go_sem])<|(Zh w.heap.size _ g i).mono ?_;rintro e E q ⟨rfl,rfl,H,I,J⟩;have N:(loadVar 25 ⟨w.heap.size+1,0,none⟩).run prog q=.ok (.agg GT) q:=by
   obtain⟨y,R,_⟩:=(Aj 25 _ rfl).sh;exact run_loadVar_row _ _ 25 _ GT (0,0) _ I R O (by kernel_rfl)
  have V:q.cell? ⟨w.heap.size+1+1,0,none⟩=some (.bool false):=by unfold World.cell?;simp[J]
  have A:(loadVar 4 ⟨w.heap.size+1+1,0,none⟩).run prog q=.ok (.bool false) q:=by simp[go_sem,V]
  simp[Leaves,settle,results,Tryz.results58,asAddr,N,A];exact⟨w',C,H⟩
def I8:∀{st:St} {i:Nat} {b:Blk},Aw st i b->i∈CT st
 |[],i,b,h=>by simp[Aw,lk]at h
 |(k,y)::r,i,b,h=>by by_cases q:k=i;subst q;simp[CT];have:Aw r i b:=by{unfold Aw at h ⊢;rwa [AB _ _ q]at h};simp only[CT,C0,Ck];exact .inr (I8 this)
def StRep.restr (r:StRep I μ st aa w) (W:∀i∈Dx st,i∈CT st) (u:l.Nodup) (a:∀i∈l,i∉CT st):∃ν:Mu,(∀i∈CT st,ν i=μ i)/\StRep I ν st l w/\∀b,AX ν st b↔AX μ st b:=by obtain⟨ν,B⟩:∃ν:Mu,ν=λi=>if Gg (CT st) i=true then μ i else none:=⟨_,rfl⟩;have q:∀i∈CT st,ν i=μ i:=λi A=>by{rw[B];simp[Cp.2 A]};refine⟨ν,q,?_,λb=>?_⟩;refine { imm:=r.imm,blk:=λi b u=>?_,apart:=λi c g k u K d=>r.apart i c g k u (by rw[<- q i (I8 u)];exact K) d,inj:=λi j C e f m k A D N z=>r.inj i j C e f m k A D (by rw[<- q i (I8 A)];exact N) (by rw[<- q j (I8 D)];exact z),nodup:=u,idsFree:=λi A=>?_ };let⟨g,K,n⟩:=r.blk i b u;refine⟨g,by rw[q i (I8 u)];exact K,n.sub λj D g z=>?_⟩;rw[q j (W j ((D9 u).2 j D))];exact z;rw[B];have:=a i A;have o:Gg (CT st) i=false:=by{cases h:Gg (CT st) i with|false=>rfl|true=>{exact absurd (Cp.1 h) this}};simp[o];constructor<;>rintro ⟨i,C,g,G,R,V⟩;exact⟨i,C,g,G,by rw[<- q i (I8 G)];exact R,V⟩;exact⟨i,C,g,G,by rw[q i (I8 G)];exact R,V⟩
def RQ (w:World) (a b c d:Value):(H0 w a b c d).heap.size=w.heap.size+4:=by simp[H0]
def Un (w:World) (a b c d:Value) (h:i<w.heap.size):(H0 w a b c d).heap[i]?=w.heap[i]?:=by unfold H0;rw[DB _ _ (by simp;omega),DB _ _ (by simp;omega),DB _ _ (by simp;omega),DB _ _ h]
def Um (w:World) (a b c d:Value):(H0 w a b c d).heap[w.heap.size+1]?=some (.cells GT 25 (0,0)):=by unfold H0;rw[DB _ _ (by simp),DB _ _ (by simp)];have:=Fi (w.alloc (.cells #[a,b,c,d] 25)) (.cells GT 25);simpa using this
def Xu (w:World) (a b c d:Value):(H0 w a b c d).heap[w.heap.size+2]?=some (.cells #[.bool false] 4 (0,0)):=by unfold H0;rw[DB _ _ (by simp)];have:=Fi ((w.alloc (.cells #[a,b,c,d] 25)).alloc (.cells GT 25)) (.cells #[.bool false] 4);simpa using this
def lJ (m:Md) (T:D0) (k:Int) (S:L1 Y):(∀i∈Dx (Dw m T k S),i∈CT (Dw m T k S))/\CT (Dw m T k S)=[1,2,3]:=⟨GH (a:=Dx (Dw m T k S)) (b:=CT (Dw m T k S)) O,rfl⟩
def Xq {k:Int} {H a b c d:Value} {t:Y} (G:StRep I μ (Dw m T k S) [] w) (h1:X I μ H (.ref 1 0)) (h2:M I (.agg #[a,b,c,d]) (.agg (As t))) :
  ∃r:Mu,StRep I r (J3 m T k S 12) [] (H0 w a b c d)/\RepL I r #[H,.agg #[a,b,c,d],.pointer (some ⟨w.heap.size+3,0,none⟩)].toList [.ref 1 0,.imm (.agg (As t)),.ref 4 0]/\Pin [1,2,3] μ r /\
   (∀i,AX r (J3 m T k S 12) i->i=w.heap.size+3\/AX μ (Dw m T k S) i)/\(∀i,AX μ (Dw m T k S) i->i<w.heap.size)/\∀i,w.heap.size<=i->I i=none:=by
 let⟨n1,J⟩:=lJ m T k S;let⟨ν,y,N,z⟩:=G.restr (l:=[4]) n1 (by simp) (λi A=>by rw[J,AL.1 A];decide);have R:∀i o,I i=some o->i<w.heap.size:=λi o h=>(GS.1 (G.imm i o h)).1;have V:∀i,AX μ (Dw m T k S) i->i<w.heap.size:=λi h=>Fo G h;obtain⟨u,K⟩:∃u,u=((w.alloc (.cells #[a,b,c,d] 25)).alloc (.cells GT 25)).alloc (.cells #[.bool false] 4):=⟨_,rfl⟩
 have W:u.heap.size=w.heap.size+3:=by rw[K];simp
 have B:∀i,i<w.heap.size->u.heap[i]?=w.heap[i]?:=λi A=>by
  rw[K,DB _ _ (by simp;omega),DB _ _ (by simp;omega),DB _ _ A]
 have C:StRep I ν (Dw m T k S) [4] u:=N.other (by omega) (λi o h=>B i (R i o h)) (λi h=>B i (V i ((z i).1 h)));have E:H0 w a b c d=u.alloc (.cells #[.int .i64 12] 3):=by rw[K];rfl
 let⟨r,L,e,f,_⟩:=C.allocO (.cells #[.int .i64 12] 3) (.pointer (some ⟨u.heap.size,0,none⟩)) (λi A=>A.symm) (.immb 3 1 [.int .i64 12]) (λμ' _=>⟨rfl,u.heap.size,#[.int .i64 12],rfl,Fi _ _,⟨rfl,λi v x p q=>by
   match i,p,q with
   |0,p,q=>cases p;cases q;exact .int _ _
   |i+1,p,q=>simp at p⟩,λv s=>by simp at s;rw[s];rfl⟩)
 have D:∀i∈[1,2,3],∀v,μ i=some v->r i=some v:=λi A v s=>e i v (by rw[y i (by rw[J];exact A)];exact s);refine⟨r,by rw[E];exact f,⟨rfl,λi v dd p q=>?_⟩,D,λi ⟨j,P,g,l,F,Q⟩=>?_,V,λi A=>?_⟩
 ·match i,p,q with
  |0,p,q=>
   cases p;cases q;cases h1 with
   |ref b id off hm=>exact .ref b 1 0 (D 1 (by decide) _ hm)
  |1,p,q=>cases p;cases q;exact .imm _ _ h2
  |2,p,q=>cases p;cases q;exact .ref _ 4 0 (by rw[<- W];exact L)
  |i+3,p,q=>simp at p
 ·rcases A1.1 l with⟨rfl,rfl⟩|⟨hne,l⟩
  ·rw[L]at F;cases F;left;have:u.heap.size=i:=Q;omega
  ·right;have hj:=I8 l;let⟨g0,n,_⟩:=C.blk j P l;have:=e j g0 n;rw[F]at this;cases this;exact(z i).1 ⟨j,P,g,l,n,Q⟩
 ·cases h:I i with
  |none=>rfl
  |some o=>have:=R i o h;omega
def Uh {xs:Array Value} {t:Y} (h:RepL I μ xs.toList [.ref 1 0,.imm (.agg (As t))]):∃C a b c d,xs = #[C,.agg #[a,b,c,d]]/\X I μ C (.ref 1 0)/\M I (.agg #[a,b,c,d]) (.agg (As t))/\a.oneCell'=true/\b.oneCell'=true/\c.oneCell'=true/\d.oneCell'=true:=by obtain⟨l,rfl⟩:∃l:L1 Value,xs=l.toArray:=⟨xs.toList,by simp⟩;rw[Mt]at h;match l,h with|[v,u],h=>have r:=h.2 0 v _ O O;have D:=(h.2 1 u _ O O).immInv;have A:∀u,M I u (.agg (As t))->∃a b c d,u=.agg #[a,b,c,d]/\a.oneCell'=true/\b.oneCell'=true/\c.oneCell'=true/\d.oneCell'=true:=λu G=>by{cases G with|agg B _ K r _=>{have z:B.toList.length=4:=by{rw[PV,K];obtain⟨t1,t2,t3,t4⟩:=t;rfl};obtain⟨l,rfl⟩:∃l:L1 Value,B=l.toArray:=⟨B.toList,by simp⟩;rw[Mt]at z r;match l,z,r with|[a,b,c,d],_,r=>{exact⟨a,b,c,d,rfl,r a (by simp),r b (by simp),r c (by simp),r d (by simp)⟩}}};obtain⟨a,b,c,d,rfl,q⟩:=A u D;exact⟨v,a,b,c,d,rfl,r,D,q⟩|[],h=>exact absurd h.1 (by simp)|[_],h=>exact absurd h.1 (by simp)|_::_::_::_,h=>{exact absurd h.1 (by simp)}
def wC {k:Int} {t u:Y} {z:Int} (hF:WC m T k S t 12 u z) :
  Tq4 58 [.ref 1 0,.imm (.agg (As t))] (Dw m T k S) (.ret (.imm (.tup [.agg (As u),.bool true])) (Dw m T k S)):=by
 intro I μ w xs Q hxs;obtain⟨sp,a,b,c,d,rfl,h1,h2,n⟩:=Uh hxs;let⟨G,s,hx1,E,D,F,H⟩:=Xq Q h1 h2;rw[run_callFunc_body func58 (by decide +kernel) O];unfold WC at hF;have K:=hF I G _ _ s hx1;rw[run_callFunc_body func120 (by decide +kernel) O]at K;show Tq6 _ _ w _;have N:¬AX G (J3 m T k S 12) (w.heap.size+1):=λh=>by
  rcases D _ h with h|h
  ·omega
  ·have:=F _ h;omega
 have R:¬AX G (J3 m T k S 12) (w.heap.size+2):=λh=>by
  rcases D _ h with h|h
  ·omega
  ·have:=F _ h;omega
 have hws:=RQ w a b c d;refine bc (Qc sp a b c d n w (λv w'=>∃V r,X V r v (.imm (.agg (As u)))/\StRep V r (J3 m T k S z) [] w'/\Pin (CT (J3 m T k S 12)) G r/\Ext I G (J3 m T k S 12) (H0 w a b c d) V r (J3 m T k S z) w') (λ_=>False) (bc K λe w' he=>?_) (λv w' ⟨V,r,q1,L,q3,A⟩=>⟨?_,?_,?_⟩) (λ_ h=>h.elim)) ?_
 ·cases e with
  |returned v=>exact he
  |panicked=>exact he.elim
  |outgrown=>exact he.elim
 ·have key:∀v,M V v (.agg (As u))->∃us:Array Value,v=.agg us/\us.size=4/\us.all (·.oneCell')=true:=λv hv=>by
   cases hv with
   |agg cs _ P h1 _=>exact⟨cs,rfl,by rw[P];obtain⟨u1,u2,u3,u4⟩:=u;rfl,by rw[Array.all_eq_true_iff_forall_mem];exact λx J=>h1 x (by simpa using J)⟩
  exact key v q1.immInv
 ·exact(A.block _ (by omega) N).trans (Um w a b c d)
 ·exact(A.block _ (by omega) R).trans (Xu w a b c d)
 ·rintro e w2 (⟨v,w1,⟨V,r,q1,L,q3,A⟩,rfl,n1,n2,n3,n4,n5⟩|⟨_,J,_⟩)
  ·have hI1:V (w.heap.size+1)=none:=(A.old _ (by omega) N).trans (H _ (by omega));have hI2:V (w.heap.size+2)=none:=(A.old _ (by omega) R).trans (H _ (by omega));have W:∀i bi,Aw (Dw m T k S) i bi->Aw (J3 m T k S z) i bi:=λi bi P=>A1.2 (.inr ⟨λe=>by
    have:=I8 P;rw[(lJ m T k S).2]at this;simp only[Ck,Ji,cb]at this;omega,P⟩)
   have B:∀i,AX r (Dw m T k S) i->AX r (J3 m T k S z) i:=λi ⟨j,bj,g,p1,p2,p3⟩=>⟨j,bj,g,W j bj p1,p2,p3⟩
   have hfr:∀i,AX r (J3 m T k S z) i->i≠w.heap.size+1/\i≠w.heap.size+2:=λi C=>⟨λe=>N (e▸A.fresh i (by omega) C),λe=>R (e▸A.fresh i (by omega) C)⟩
   refine⟨V,r,?_,?_,?_,?_⟩
   ·refine .imm _ _ (.tup _ _ O λi y x p q=>?_)
    match i,p,q with
    |0,p,q=>cases p;cases q;exact q1.immInv
    |1,p,q=>cases p;cases q;exact .bool true
    |i+2,p,q=>simp at p
   ·refine(L.less W .nil (λi C=>by cases C)).other n4 (λi o h=>?_) (λi h=>?_)
    ·exact n5 i (GS.1 (L.imm i o h)).1 (λe=>by rw[e,hI1]at h;cases h) (λe=>by rw[e,hI2]at h;cases h)
    ·have:=hfr i (B i h);exact n5 i (Fo L (B i h)) this.1 this.2
   ·intro i C x J;rw[(lJ m T k S).2]at C;exact q3 i (Gr _ C) x (E i C x J)
   ·have f:∀i,i<w.heap.size->¬AX μ (Dw m T k S) i->¬AX G (J3 m T k S 12) i:=λi C l h=>by
     rcases D i h with h|h
     ·omega
     ·exact l h
    exact { imm:=A.imm,os:=n1.trans A.os,tape:=n2.trans A.tape,output:=n3.trans A.output,size:=by have:=A.size;omega,
            block:=λi C l=>(n5 i (by have:=A.size;omega) (by omega) (by omega)).trans ((A.block i (by omega) (f i C l)).trans (Un w a b c d C)),
            fresh:=λi C l=>(D i (A.fresh i (by omega) (B i l))).elim (λe=>by omega) id,
            old:=λi C l=>A.old i (by omega) (f i C l) }
  ·exact J.elim
def zbp {k:Int} {t:Y} (hF:bV m T k S t 12) :
  Tq4 58 [.ref 1 0,.imm (.agg (As t))] (Dw m T k S) (.ret (.imm (.tup [.agg (As Nd),.bool false])) []):=by
 intro I μ w xs n s;obtain⟨sp,a,b,c,d,rfl,h1,h2,R⟩:=Uh s;let⟨r,V,E,hpin,z,W,f⟩:=Xq n h1 h2;rw[run_callFunc_body func58 (by decide +kernel) O];unfold bV at hF;have A:=hF I r _ _ V E;rw[run_callFunc_body func120 (by decide +kernel) O]at A;show Tq6 _ _ w _;have D:¬AX r (J3 m T k S 12) (w.heap.size+1):=λh=>by
  rcases z _ h with h|h
  ·omega
  ·have:=W _ h;omega
 have G:¬AX r (J3 m T k S 12) (w.heap.size+2):=λh=>by
  rcases z _ h with h|h
  ·omega
  ·have:=W _ h;omega
 have hws:=RQ w a b c d;refine bc (Qc sp a b c d R w (λ_ _=>False) (λw'=>∃B,B.ok w'/\Ext I r (J3 m T k S 12) (H0 w a b c d) B r [] w') (bc A λe w' F=>?_) (λ_ _ h=>h.elim) (λw' ⟨B,H,u⟩=>⟨?_,?_⟩)) ?_
 ·cases e with
  |returned v=>exact F.elim
  |panicked J=>
   obtain⟨v,x,B,e1,e2,e3,e4,e5⟩:=F;subst e2;have L:∀v,M B v zfa->v=.iface 171 (.agg #[]):=λv P=>by
    cases P with
    |iface _ v' _ P=>
     cases P with
     |agg cs _ C _ _=>
      have:cs = #[]:=nR (by simpa using C);subst this;rfl
   rw[L v e3]at e1;exact⟨e1,B,e4,e5⟩
  |outgrown=>exact F.elim
 ·exact(u.block _ (by omega) D).trans (Um w a b c d)
 ·exact(u.block _ (by omega) G).trans (Xu w a b c d)
 ·rintro e w2 (⟨_,_,hx,_⟩|⟨w1,⟨B,H,u⟩,rfl,n1,n2,n3,n4,n5⟩)
  ·exact hx.elim
  ·have Q:B (w.heap.size+1)=none:=(u.old _ (by omega) D).trans (f _ (by omega));have hI2:B (w.heap.size+2)=none:=(u.old _ (by omega) G).trans (f _ (by omega));have K:∀i,i<w.heap.size->¬AX μ (Dw m T k S) i->¬AX r (J3 m T k S 12) i:=λi N l h=>by
    rcases z i h with h|h
    ·omega
    ·exact l h
   refine⟨B,μ,?_,?_,Pin.refl _ _,?_⟩
   ·refine .imm _ _ (.tup _ _ O λi y x p q=>?_)
    match i,p,q with
    |0,p,q=>
     cases p;cases q;exact J6 B
    |1,p,q=>cases p;cases q;exact .bool false
    |i+2,p,q=>simp at p
   ·exact { imm:=λi o h=>(n5 i (GS.1 (H i o h)).1 (λe=>by rw[e,Q]at h;cases h) (λe=>by rw[e,hI2]at h;cases h)).trans (H i o h),blk:=λid blk C=>(by cases C),apart:=λid blk g b C=>(by cases C),inj:=λi j bi bj gi gj b C=>(by cases C),nodup:=.nil,idsFree:=λid N=>(by cases N) }
   ·exact { imm:=u.imm,os:=n1.trans u.os,tape:=n2.trans u.tape,output:=n3.trans u.output,size:=by have:=u.size;omega,
            block:=λi N l=>(n5 i (by have:=u.size;omega) (by omega) (by omega)).trans ((u.block i (by omega) (K i N l)).trans (Un w a b c d N)),
            fresh:=λi N ⟨j,bj,g,C,_⟩=>(by cases C),
            old:=λi N l=>u.old i (by omega) (K i N l) }
def Ib (m:Md) (k:Int):Tq4 54 [.imm (.agg (dMdc m)),i7 k] [] (.ret (.ref 1 0) (Dw m [] k [])):=by obtain⟨h,q,r⟩:=m;exact Ac Aj func54 O [4,2,1,3,5,6]<|Ak O<|E5 O<|QK 4 O (by simp)<|Fj 1 3 (e:=25) (sz:=4) [.imm (.str h),.imm (.sl (q.map D2)),.imm (.sl (r.map DJ)),.mapr 2,i7 k,.own 3 0] (by decide) O ⟨.inl O,.inl O,.inl O,.inl O,.inl O,.inr ⟨rfl,rfl⟩,ab⟩<|A3 O<|Af ⟨_,BD⟩
mutual
def UW:∀t:Y,Bn t=Fw t
 |.mk _ _ _ ps=>by simp only[Bn,Fw,Yb ps]
def Yb:∀ps:L1 Y,A6 ps=Ei ps
 |[]=>rfl
 |t::r=>by simp only[A6,Ei,UW t,Yb r]
end
def zai {t:Y} (h:AW true t=true):Fw t<=12:=by simp only[AW,Am,al]at h;rw[<- UW];exact h.1
def Xr {k:Int} (q:Sol (Cc T) θ) {t:Y} (r:CL t=true):(Fw (AH θ t)<=12->Tq4 58 [.ref 1 0,.imm (.agg (As t))] (Dw m T k S) (.ret (.imm (.tup [.agg (As (AH θ t)),.bool true])) (Dw m T k S)))/\(12<Fw (AH θ t)->Tq4 58 [.ref 1 0,.imm (.agg (As t))] (Dw m T k S) (.ret (.imm (.tup [.agg (As Nd),.bool false])) [])):=by let⟨u,z⟩:=zgf m T k S q _ t (BO _) r 12 (by omega) (by omega);exact⟨λh=>wC (u (by omega)),λh=>zbp (z (by omega))⟩
def yJ:L1 (Int×Y)->Int
 |[]=>-1
 |p::r=>max p.1 (yJ r)
def zed {x:Int}:∀{T:D0},(∀p∈T,p.1<=x)->(x = -1\/∃p∈T,p.1=x)->(∀p∈T,0<=p.1)->-1<=x->yJ T=x:=by have z:∀{T:D0},-1<=x->(∀p∈T,p.1<=x)->yJ T<=x:=λ{T} C h=>by{induction T with|nil=>simpa[yJ]using C|cons p r u=>{simp only[yJ];have:=h p (by simp);have:=u λq hq=>h q (by simp[hq]);omega}};have A:∀{T:D0},(∃p∈T,p.1=x)->x<=yJ T:=λ{T} h=>by{induction T with|nil=>obtain⟨p,D,_⟩:=h;cases D|cons p r u=>{obtain⟨q,hq,e⟩:=h;simp only[yJ];rcases Ck.1 hq with rfl|hq;omega;have:=u ⟨q,hq,e⟩;omega}};have B:∀{T:D0},-1<=yJ T:=λ{T}=>by{induction T with|nil=>simp[yJ]|cons p r u=>{simp only[yJ];omega}};intro T G h2 N K;have:=z K G;rcases h2 with rfl|h2;have:=@B T;omega;have:=A h2;omega
noncomputable def zbx (T:L1 (Int×Y)) (θ:Int->Y):L1 Y:=(List.range (yJ T+1).toNat).map λi:Nat=>θ i
def Hs (n:Int):V:=.int .i64 n
def md0:Md:=⟨[],[],[]⟩
def tO (h:X I μ v .nils):M I v (.sl []):=by cases h;exact .slnil
def zjn (h:X I μ v (.agg [.imm (.str []),.nils,.nils])):X I μ v (.imm (.agg (dMdc md0))):=by cases h with|agg u _ z A h=>{refine .imm _ _ (.agg u _ z A λi c x r q=>?_);match i,q with|0,q=>cases q;exact(h 0 c _ r O).immInv|1,q=>cases q;exact tO (h 1 c _ r O)|2,q=>cases q;exact tO (h 2 c _ r O)|i+3,q=>{simp[dMdc]at q}}
def Oi:Tq4 54 [.agg [.imm (.str []),.nils,.nils],i7 0] [] (.ret (.ref 1 0) (Dw md0 [] 0 [])):=λI μ w u h r=>Ib md0 0 I μ w u h ⟨r.1,λi v d p q=>by
 match i,q with
 |0,q=>cases q;exact zjn (r.2 0 v _ p O)
 |1,q=>cases q;exact r.2 1 v _ p O
 |i+2,q=>simp at q⟩
def zO (a b:Y) (h:(AW true a&&AW true b)=true) (r:ER md0 [] 0 [] a b):Tq3 13 [.agg (As a),.agg (As b)] (.tup [.sl [],Hs 7]):=by have q:=GN [a,b];simp only[D4,Ls,In]at q;rw[h]at q;have u:=Oi;have z:=MF func55 (by decide +kernel) O GM func56 (by decide +kernel) O (df:=[]) (dc:=[.ref 4 0,.ref 5 0,.ref 6 0]) (wH r);obtain⟨A,B,C,D⟩:=a;obtain⟨G,K,N,R⟩:=b;exact Ac Aj func13 O [5,6,1,2,3,4,7]<|Ak O<|Ah O q<|Ak O<|Ag O λh=>A3 O<|Ao [1,2,3] [] S6 O u ab O O<|Ak O<|Ao [] [(1,1),(2,2),(3,3),(4,4),(5,5),(6,6)] [] O z ⟨⟨rfl,rfl,rfl⟩,⟨rfl,rfl,rfl⟩,⟨rfl,rfl,rfl⟩,⟨rfl,rfl,rfl⟩,⟨rfl,rfl,rfl⟩,⟨rfl,rfl,rfl⟩,ab⟩ O O<|Ak O<|Aq O λh=>A3 O<|Ab O O O
def lS {vs:L1 Value} {C:L1 Nat} {ks:L1 Tr} {f n:Int} (r:KM ks ps) (h:(GI v ks).P vs I w C) (N:I.le J) (D:∀b∈C,J b=w.heap[b]?) (cs:L1 Value) (R:RepL J noMu cs [i7 f,i7 n,.imm (.str x),.raw v]):RepVL J cs (As (.mk f n x ps)):=by obtain⟨V,G,K,e⟩:=h;have W:M J v (.sl (A4 ps)):=dR V G (λk A=>D k (by rw[K];simp[A])) r λi a t B d=> tU ((KL.1 r).2 i a t B d) (Gj.1 G i a B).2 λk A=>D k (by rw[K];simp only[B2];exact .inr (PN.2 ⟨a,AF B,A⟩));obtain⟨l1,u⟩:=R;refine⟨l1,λi c y z q=>?_⟩;match i,q with|0,q=>cases q;exact(u 0 c _ z O).immInv|1,q=>cases q;exact(u 1 c _ z O).immInv|2,q=>cases q;exact(u 2 c _ z O).immInv|3,q=>{cases q;have:=u 3 c _ z O;cases this with|raw _ _=>{exact W}}|i+4,q=>{simp at q}
def infE:Env:=[(3,.ref 11 0),(5,.ref 12 0),(6,.ref 13 0),(8,.ref 14 0),(9,.ref 18 0)]
def QH (m:Md) (t:Tm) (Γ:Ax) (bk:L1 Int) (h:V):Prop :=
 Tq2 Tryz.f26.ntmps (CT []) (KZ bZ Tryz.f26.results.toList (.ret (.imm h) [])) [.code (ES Tryz.f26 5)] infE (uA m t Γ bk) [1,2,3,21,22,4,23,24,25,26,27]
def Y3 (m:Md) (t:Tm) (Γ:Ax) (bk:L1 Int) (q:Tq4 78 [.ref 5 0,.ref 6 0,.ref 7 0,.ref 8 0] (gS m Γ t [] 0 [] (As Nd)) (.pan HF)):QH m t Γ bk (.tup [.agg (As Nd),Hs 7]):=by have r:=Ib m 0;have u:=MF func55 (by decide +kernel) O GM func78 (by decide +kernel) O (df:=[]) (dc:=[.ref 5 0,.ref 6 0,.ref 7 0,.ref 8 0]) q;clear q;obtain⟨z,A,B⟩:=m;obtain⟨t1,t2,t3,t4,t5⟩:=t;unfold QH;exact A3 O<|Ao [1,2,3] [] S6 O r ab O O<|QK 6 O (by simp)<|Wd 22 (t:=25) (sz:=4) (ds:=[i7 0,i7 0,.imm (.str []),.nils]) (As Nd) O O<|A3 O<|Ao [] [(1,1),(2,2),(3,3),(21,5),(12,6),(14,7),(22,8)] [] O u dO O O<|Ak O<|Aq O λh=>A3 O<|Ab O O O
mutual
def uJ:∀(t:Y) (l:L1 Int),(Dy t l).length<=l.length+Fw t
 |.mk f n x ps,l=>by simp only[Dy,Fw];split;split;omega;simp only[AZ,Co,Cb];omega;have:=iF ps l;omega
def iF:∀(h:L1 Y) (l:L1 Int),(C2 h l).length<=l.length+Ei h
 |[],l=>by simp[C2]
 |t::r,l=>by simp only[C2,Ei];have q:=uJ t l;have u:=iF r (Dy t l);omega
end
noncomputable def Ok (bk:L1 Int) (u:Y):V :=
 if Fw u<=12 then(if AW true (Gh bk (Dy u []) u)=true then .tup [.agg (As (Gh bk (Dy u []) u)),Hs 0]else .tup [.agg (As Nd),Hs 3])else .tup [.agg (As Nd),Hs 3]
def gQ (m:Md) (t:Tm) (Γ:Ax) (bk:L1 Int) {k:Int} (b:Tq4 78 [.ref 5 0,.ref 6 0,.ref 7 0,.ref 8 0] (gS m Γ t [] 0 [] (As Nd)) (.ret (.imm (.tup [])) (zl8 m Γ t T k S (As τ)))) (D:Sol (Cc T) θ) (G:CL τ=true) (K:bk.length<=1000000):QH m t Γ bk (Ok bk (AH θ τ)):=by have l:=Ib m 0;have c:=KO func55 (by decide +kernel) O GM func78 (by decide +kernel) O (df:=[]) (dc:=[.ref 5 0,.ref 6 0,.ref 7 0,.ref 8 0]) b;clear b;let⟨d,e⟩:=Xr (m:=m) (k:=k) (S:=S) D G;have q:CL (AH θ τ)=true:=Ui (λn=>D.wfθ n) _ G;clear D G;generalize AH θ τ=u at *;unfold Ok;obtain⟨m1,m2,m3⟩:=m;obtain⟨t1,t2,t3,t4,t5⟩:=t;obtain⟨a1,a2,a3,a4⟩:=τ;unfold QH;refine A3 O<|Ao [1,2,3] [] S6 O l ab O O<|QK 6 O (by simp)<|Wd 22 (t:=25) (sz:=4) (ds:=[i7 0,i7 0,.imm (.str []),.nils]) (As Nd) O O<|A3 O<|Ao [4] [(1,1),(2,2),(3,3),(21,5),(12,6),(14,7),(22,8)] [(4,4)] O c dO O O<|Ak O<|Ag O λh=>A3 O ?_;by_cases r:Fw u<=12;{have N:=d r;have o:=V7 u q;have z:(Dy u []).length<=1000000:=by{have:=uJ u [];simp at this;omega};have B:=zd3 bk K u [] q z;have f:=GN [Gh bk (Dy u []) u];simp only[D4,Ls,In]at f;rw[ae r];unfold zbf at B;have g:tkL bk []=bk:=by{simp[tkL]};have i:nbS bk []=[(1,some (.cells 123 2 [.mapr 2,.mapr 3])),(2,some (.map (EO bk))),(3,some (.map []))]:=by{rw[nbS,g];rfl};rw[i]at B;obtain⟨nb,A⟩:∃x,nbS bk (Dy u [])=[(1,some (.cells 123 2 [.mapr 2,.mapr 3])),(2,some (.map x.1)),(3,some (.map x.2))]:=⟨(_,_),rfl⟩;rw[A]at B;generalize Gh bk (Dy u []) u=v at *;generalize p:AW true v=s at *;clear d e g i z q A c;obtain⟨u1,u2,u3,u4⟩:=u;obtain⟨E,F,H,j⟩:=v;refine Ao [] T0 [] O N A5 O O<|Ak O<|Ag O λh=>A3 O<|AD (fr:=[24]) [] [(1,24)] [] (nm:=[24]) O trivial (by simp) o ab O trivial rfl O O<|Ak O<|AD (fr:=[25]) [(17,1),(15,2),(16,3),(24,4)] [(5,25)] [] (nm:=[17,15,16,25,17,15,16,24]) O trivial (by simp) B H9 O trivial rfl O O<|QK 3 O (by simp;rfl)<|Jo (ids':=[27]) 25 26 (λx:Value×{ C:L1 Tr // KM C j }=>[x.1]) (λx=>GI x.1 x.2.1) O (λL I w P h=>by obtain⟨v,C,R,V,W⟩:=h;exact⟨(v,⟨C,R⟩),V,W⟩) λy=>?_;obtain⟨vv,⟨C,a⟩⟩:=y;refine Q3 26 23 (As (.mk E F H j)) O O (λL I J w P R V W Q hc=>lS a R V W Q hc) O<|A3 O<|Ah O f<|Ak O ?_;cases s with|false=>{exact Aq O λh=>A3 O<|Ab O O O}|true=>{exact Ag O λh=>A3 O<|Ab O O O}};have N:=e (by omega);rw[ac r];exact Ao [] T0 [] O N A5 O O<|Ak O<|Aq O λh=>A3 O<|Ab O O O
def Ly (m:Md) (Γ:Ax) (t:Tm):Bool:=KB m&&decide (Γ.length<=20)&&Γ.all Rz&&FI t
def Ru (m:Md) (Γ:Ax) (t:Tm) (h:Ly m Γ t=true) (Q:∀p∈Γ,CL p.2=true) {D:V} (hT:QH m t (NU Γ) (F8 Γ []) D):Tq3 26 [.agg (dMdc m),.sl (dKns Γ),.agg (dTmc t)] D:=by have c:=J1 m;have s:=zfq Γ 72 Rz λp _=>pL p;have f:=Nc t;unfold Ly at h;simp only[Am,al]at h;obtain⟨⟨⟨S,q2⟩,T⟩,q4⟩:=h;unfold OY at c f;rw[S]at c;rw[T]at s;rw[q4]at f;clear S T q4;have G:(dKns Γ).length=Γ.length:=dKns_length Γ;obtain⟨g,k,n⟩:=m;obtain⟨t1,t2,t3,t4,t5⟩:=t;refine Ac Aj func26 O [11,12,13,14,15,16,17,18,19,6,1,2,3,4,21,22,23,24,25,26,27]<|Ak O<|Ah O c<|Cw O<|Bt O s<|Cw O<|Bt O f<|Cw O<|Aa O (λv=>?_) (λv=>?_);exfalso;rw[G]at v;have:decide ((20:Int)<Γ.length)=false:=aq (by omega);simp[this]at v;refine A3 O<|E5 O<|Ak O<|E5 O<|QK 6 O (by simp)<|Wd 14 (t:=118) (sz:=1) (ds:=[.nils]) [.sl []] O O<|A3 O<|Al (λi:Nat=>inE Γ i) (λi=>uA ⟨g,k,n⟩ (.mk t1 t2 t3 t4 t5) (NU (Γ.take i)) (F8 (Γ.take i) [])) [19,6,1,2,3,21,22,4,23,24,25,26,27] (λi=>Γ.length-i) (λi=>i<=Γ.length) 0 (AK _) ⟨rfl,B8 (by simp),EG⟩ WO O λi w ih=>?_;refine A3 O<|Aa O (λh=>?_) (λh=>?_);have K:i<Γ.length:=by{simp at h;omega};let⟨p,o⟩:=At K;have hg:=MR o;have N:=AF o;have E:=gF p.2 (Q p N);have F:=M5 (NU (Γ.take i)) p.1 (Hj p.2) (by simp[NU];omega);have hN:=Yv p.2;have C:=ih (i+1) (by omega) (by omega);have R:=cP p.2 (F8 (Γ.take i) []) (Q p N);have W:F8 (Γ.take (i+1)) []=Dy p.2 (F8 (Γ.take i) []):=by{rw[Ba o,Ux]};have a:NU (Γ.take (i+1))=NU (Γ.take i)++[(p.1,Hj p.2)]:=by{rw[Ba o,zaf]};rw[W,a]at C;clear ih W a c s f;generalize F8 (Γ.take i) []=l at *;generalize NU (Γ.take i)=H at *;obtain⟨y,I⟩:=p;simp only at E F hN C R;generalize H++[(y,Hj I)]=B at *;obtain⟨tf,J⟩:∃x,Hj I=x:=⟨_,rfl⟩;rw[J]at E F;obtain⟨f1,f2,f3,f4⟩:=tf;obtain⟨q,r,z,A⟩:=I;refine A3 O<|WF O hg<|Ak O<|Ah O E<|Ak O<|Ah O F<|yg [] O (by simp;rfl)<|L6 (bl:=[]) (fr:=[6]) [] [(6,6)] O (by simp) hN ab O O O O<|Ak O<|FU (y:=3) (j:=4) (j2:=5) (stc:=Hy (.mk q r z A)) (stc':=Hy (.mk q r z A)) (stx:=uA ⟨g,k,n⟩ (.mk t1 t2 t3 t4 t5) B l) (stB:=uA ⟨g,k,n⟩ (.mk t1 t2 t3 t4 t5) B ((Il (.mk q r z A)).foldl ndG l)) (cf:=none) (E:=inE Γ i) (ids':=[19,6,1,2,3,21,22,4,23,24,25,26,27]) (d:=.tup []) O func139 (by decide +kernel) O (by decide) WO (CH XI) (λL h1 h2 h3 h4 h5 h6 h7=>Rh (b:=true) (.mk q r z A) ?_) ?_ ?_ ?_ ?_ ?_;have:=Yields.all (P:=prog) (l:=E8 (Il (.mk q r z A))) (λj=>Cg L (uA ⟨g,k,n⟩ (.mk t1 t2 t3 t4 t5) B (((Il (.mk q r z A)).take j).foldl ndG l)) none) λj d b=>by{rw[E8,Ct]at b;cases P:(Il (.mk q r z A))[j]? with|none=>rw[P]at b;cases b|some u=>{rw[P]at b;cases b;have e:((Il (.mk q r z A)).take (j+1)).foldl ndG l=ndG (((Il (.mk q r z A)).take j).foldl ndG l) u:=by{rw[Ba P,ZQ];rfl};rw[e];exact iG _ _ Γ B i _ u h1 h2 h3 h4 h5 h6 h7}};have hl:(E8 (Il (.mk q r z A))).length=(Il (.mk q r z A)).length:=by{simp[E8]};rw[hl]at this;simpa using this;simp[Hy,uA,CT];simp[Hy,CT];intro i w;have e:FQ (F1 (DZ (Bg []++[(6,6)])) []++F1 (DZ (Bg []++[(6,6)])) [.ref 6 0])=[6]:=rfl;rw[e]at w;simpa[Hy,CT,Dx,LM,FQ,Hb]using w;refine⟨by decide,?_⟩;simp[uA,inE,PM,Hb,Dx,LM,FQ,CT];rw[R];exact A3 O<|Ad C ⟨Bf,K5⟩ WO O;have K:¬i<Γ.length:=by{simp at h;omega};refine Az O ?_;have e1:Γ.take i=Γ:=CA (by omega);rw[e1];exact Ad hT BD WO O
mutual
def zgk:∀t:Y,CL t=true->inB 1000 t->CL (Hj t)=true/\Dc (Hj t)=[]
 |.mk f n x ps,h,u=>by by_cases q:f=9;subst q;have z:=u.num O;simp only[num]at z;have e:=Fa h O;simp only[Ay,num,Y.mk.injEq]at e;obtain⟨_,_,rfl,rfl⟩:=e;have A:n<=1000000:=by{omega};have B:0<=n:=by{omega};rw[Hj,ae O];refine⟨?_,by simp[Dc,Dq,Oq]⟩;simp[CL,G8,B,A,Oq];have r:=uQ ps (G7 h) λp r=>u.part q r;rw[Hj,ac q];simp only[CL,Am]at h ⊢;refine⟨⟨⟨⟨by simp[q],h.1.1.2⟩,h.1.2.1,by rw[VS,C6];exact h.1.2.2⟩,r.1⟩,by rw[Dc,ac q];exact r.2⟩
def uQ:∀l:L1 Y,(∀t∈l,CL t=true)->(∀t∈l,inB 1000 t)->G8 (Oq l)=true/\Dq (Oq l)=[]
 |[],_,_=>by simp[Oq,G8,Dq]
 |t::r,q,u=>by have z:=zgk t (q t (by simp)) (u t (by simp));have A:=uQ r (λp h=>q p (by simp[h])) (λp h=>u p (by simp[h]));simp[Oq,G8,Dq,z.1,z.2,A.1,A.2]
end
def SJ (h:∀p∈Γ,CL p.2=true/\inB 1000 p.2):EnvCl (NU Γ):=λp u=>by
 obtain⟨q,r,rfl⟩:=C7.1 u;have:=zgk q.2 (h q r).1 (h q r).2;exact⟨this.2,this.1⟩
noncomputable def Jl (bk:L1 Int):Option (Y×Int×Sb×L1 Y)->V
 |none=>.tup [.agg (As Nd),Hs 7]
 |some (τ,_,h,N)=>if(N.map (AH (thS h))).all DS=true then Ok bk (AH (thS h) τ)else .tup [.agg (As Nd),Hs 7]
def cX:StOk 0 (Cc []):=⟨M0 _,λn t h=>(nomatch h),Ay,Sol.mk (λn t h=>nomatch h) (λn h=>rfl) (λn t h=>nomatch h) (λn t h=>nomatch h)⟩
def Y0 (V:FK m) (Γ:Ax) (t:Tm) (h:Ly m Γ t=true) (A:∀p∈Γ,CL p.2=true/\inB 1000 p.2) (W:AV t=true) (b:Nh t<=100000):∃r,Cm m (NU Γ) t 0 (λ_=>none) r/\Tq3 26 [.agg (dMdc m),.sl (dKns Γ),.agg (dTmc t)] (Jl (F8 Γ []) r):=by have B:=SJ A;have d:Γ.length<=20:=by{simp only[Ly,Am,al]at h;exact h.1.1.2};have C:(F8 Γ []).length<=1000000:=by{have:=lF (B:=1000) λp q=>(A p q).2;omega};have D:∀p∈Γ,CL p.2=true:=λp q=>(A p q).1;have a:zli (NU Γ) [] 0 [] (Nh t):=⟨cX,λp q=>⟨(B p q).2,CK (B p q).1 _⟩,by omega,by simp;omega,by simp[NU];omega⟩;let⟨r,c,g⟩:=gR V (Nh t) t (NU Γ) [] 0 [] (BO _) W a;cases r with|none=>exact⟨none,g,Ru m Γ t h D (Y3 m t _ _ (pK c))⟩|some z=>{obtain⟨τ,T,k,S⟩:=z;obtain⟨N,G,R,e,f⟩:=g;simp only[HZ]at R;subst R;refine⟨_,G,?_⟩;obtain⟨θ,u⟩:=G.1.2.1.2.2;have K:thS (Cc T)=θ:=QS u;simp only[Jl,K];cases q:(S.map (AH θ)).all DS with|true=>rw[ae O];exact Ru m Γ t h D (gQ m t _ _ (gI c u (by omega) q) u G.2.1 C)|false=>{rw[ac (by simp)];exact Ru m Γ t h D (Y3 m t _ _ (gJ c u (by omega) q))}}
def bK (a b:L1 Int):KW (a++b)=KW a++KW b:=by simp[KW]
mutual
def zbr {η:Int->Y}:∀t:Y,CL (AH η t)=true->∀h∈Dc t,CL (η h)=true
 |.mk f n x ps,q,h,r=>by by_cases u:f=9;simp only[Dc,ae u,AL]at r;rw[AH,ae u]at q;rw[r];exact q;simp only[Dc,ac u]at r;rw[AH,ac u]at q;simp only[CL,Am]at q;exact rP ps q.2 h r
def rP {η:Int->Y}:∀l:L1 Y,G8 (Df η l)=true->∀h∈Dq l,CL (η h)=true
 |[],_,h,q=>by simp[Dq]at q
 |t::r,u,h,q=>by simp only[Df,G8,Am]at u;simp only[Dq,B2]at q;exact q.elim (zbr t u.1 h) (rP r u.2 h)
end
noncomputable def znb (bk:L1 Int) (T:Y) (h:Int):Int:=(F2 bk ((Dy T []).idxOf h):Nat)
def tM (bk:L1 Int) (T:Y):zof bk T (znb bk T):=λi h q=>by{have r:=R2 T [] (by simp);have e:(Dy T []).idxOf h=i:=by{let⟨u,z⟩:=A9.1 q;rw[<- z];exact r.idxOf_getElem i u};exact⟨_,by rw[znb,e],Nn bk i⟩}
mutual
def nG {bk L:L1 Int}:∀t:Y,Fw (Gh bk L t)=Fw t
 |.mk f n x ps=>by rw[Gh,Fw,Fw,tR ps]
def tR {bk L:L1 Int}:∀l:L1 Y,Ei (Hc bk L l)=Ei l
 |[]=>rfl
 |t::r=>by rw[Hc,Ei,Ei,nG t,tR r]
end
def pQ (l:L1 Dt) (f:FuncId) (a b:L1 V) (q:Dt->Bool) (m:∀t∈l,Tq3 f (a++[.agg (D2 t)]++b) (.bool (q t))):∃i:Int,(0<=i↔l.any q=true)/\Tq3 286 [.sl ((l.map D2)),.clo (.func f) a b] (.int .i64 i):=by obtain⟨i,d,e⟩:∃i:Int,(0<=i↔l.any q=true)/\((i = -1/\l.any q=false)\/∃(k:Nat) (t:Dt),i=k/\l[k]?=some t/\q t=true/\(l.take k).any q=false):=by{by_cases h:l.any q=true;have N:∀(n:Nat),(l.take n).any q=true->∃(k:Nat) (t:Dt),l[k]?=some t/\q t=true/\(l.take k).any q=false:=λn=>by{induction n with|zero=>intro h;simp at h|succ n R=>{intro h;by_cases B:(l.take n).any q=true;exact R B;by_cases p:n<l.length;let⟨t,A⟩:=At p;rw[Ba A,Jh]at h;simp only[Vp]at B;rw[B,Vn]at h;exact⟨n,t,A,by simpa using h,B⟩;rw[CA (by omega)]at h B;exact absurd h B}};let⟨k,t,C,D,W⟩:=N l.length (by rw[Mv];exact h);exact⟨k,⟨λ_=>h,λ_=>by omega⟩,.inr ⟨k,t,rfl,C,D,W⟩⟩;exact⟨-1,⟨λg=>by omega,λg=>absurd g h⟩,.inl ⟨rfl,by simpa using h⟩⟩};refine⟨i,d,?_⟩;clear d;refine BH λs=>?_;simp[D8,Gy,maxLen]at s;refine Ac Aj func286 O [1,2]<|Ak O<|Al (λj:Nat=>[(8,i7 j),(7,i7 l.length),(0,.imm (.sl ((l.map D2)))),(1,.imm (.clo (.func f) a b))]) (λ_=>[]) [1,2] (λj=>l.length-j) (λj=>j<=l.length/\(l.take j).any q=false) 0 ⟨AK _,rfl⟩ ⟨rfl,B8 (by simp),AP⟩ ab O λj v R=>?_;obtain⟨w,r⟩:=v;refine A3 O<|Aa O (λh=>?_) (λh=>?_);have G:j<l.length:=by{simp at h;omega};let⟨t,A⟩:=At G;have x:=bL A;have y:=m t (AF A);have c:(l.take (j+1)).any q=q t:=by{rw[Ba A,Jh,r];simp};have z:q t=true->i=j:=λK=>by{rcases e with⟨_,h⟩|⟨k,u,rfl,C,D,W⟩;have:l.any q=true:=EJ.2 ⟨t,AF A,K⟩;rw[this]at h;cases h;congr 1;rcases OP k j with hc|hc|hc;have:(l.take j).any q=true:=EJ.2 ⟨u,DW.2 ⟨k,by rw[DO,ae hc];exact C⟩,D⟩;rw[r]at this;cases this;exact hc;have:(l.take k).any q=true:=EJ.2 ⟨t,DW.2 ⟨j,by rw[DO,ae hc];exact A⟩,K⟩;rw[W]at this;cases this};generalize q t=o at *;obtain⟨t1,t2⟩:=t;refine A3 O<|yi O (c:=D2 ⟨t1,t2⟩) (λ_=>⟨by simp,by simpa using x,by simp[D2]⟩) (by simp)<|Ak O<|TW O (λ_=>y) (by simp)<|Ak O ?_;cases o with|true=>{exact Aq O λh=>A3 O<|Af ⟨_,rfl,tV (by rw[z O]),ab⟩}|false=>{exact Ag O λh=>A3 O<|Ad (R (j+1) (by omega) ⟨by omega,c⟩) ⟨Bf,AC⟩ ab O};have G:¬j<l.length:=by{simp at h;omega};rw[CA (by omega)]at r;have E:i = -1:=by{rcases e with⟨h,_⟩|⟨k,u,_,C,D,_⟩;exact h;have:l.any q=true:=EJ.2 ⟨u,AF C,D⟩;rw[r]at this;cases this};exact Az O<|A3 O<|Af ⟨_,rfl,tV (by rw[E]),ab⟩
def Om (l:L1 Dt) (f:FuncId) (a b:L1 V) (q:Dt->Bool) (h:∀t∈l,Tq3 f (a++[.agg (D2 t)]++b) (.bool (q t))):Tq3 265 [.sl ((l.map D2)),.clo (.func f) a b] (.bool (l.any q)):=by let⟨i,r,u⟩:=pQ l f a b q h;refine Ac Aj func265 O [1,2]<|Ak O<|Ah O u<|Ak O<|Ab O O (af _ ?_);rw[FC,<- r];simp
def pP (l:L1 Fd) (f:FuncId) (a b:L1 V) (q:Fd->Bool) (m:∀t∈l,Tq3 f (a++[.agg (DJ t)]++b) (.bool (q t))):∃i:Int,(0<=i↔l.any q=true)/\Tq3 270 [.sl ((l.map DJ)),.clo (.func f) a b] (.int .i64 i):=by obtain⟨i,d,e⟩:∃i:Int,(0<=i↔l.any q=true)/\((i = -1/\l.any q=false)\/∃(k:Nat) (t:Fd),i=k/\l[k]?=some t/\q t=true/\(l.take k).any q=false):=by{by_cases h:l.any q=true;have N:∀(n:Nat),(l.take n).any q=true->∃(k:Nat) (t:Fd),l[k]?=some t/\q t=true/\(l.take k).any q=false:=λn=>by{induction n with|zero=>intro h;simp at h|succ n R=>{intro h;by_cases B:(l.take n).any q=true;exact R B;by_cases p:n<l.length;let⟨t,A⟩:=At p;rw[Ba A,Jh]at h;simp only[Vp]at B;rw[B,Vn]at h;exact⟨n,t,A,by simpa using h,B⟩;rw[CA (by omega)]at h B;exact absurd h B}};let⟨k,t,C,D,W⟩:=N l.length (by rw[Mv];exact h);exact⟨k,⟨λ_=>h,λ_=>by omega⟩,.inr ⟨k,t,rfl,C,D,W⟩⟩;exact⟨-1,⟨λg=>by omega,λg=>absurd g h⟩,.inl ⟨rfl,by simpa using h⟩⟩};refine⟨i,d,?_⟩;clear d;refine BH λs=>?_;simp[D8,Gy,maxLen]at s;refine Ac Aj func270 O [1,2]<|Ak O<|Al (λj:Nat=>[(8,i7 j),(7,i7 l.length),(0,.imm (.sl ((l.map DJ)))),(1,.imm (.clo (.func f) a b))]) (λ_=>[]) [1,2] (λj=>l.length-j) (λj=>j<=l.length/\(l.take j).any q=false) 0 ⟨AK _,rfl⟩ ⟨rfl,B8 (by simp),AP⟩ ab O λj v R=>?_;obtain⟨w,r⟩:=v;refine A3 O<|Aa O (λh=>?_) (λh=>?_);have G:j<l.length:=by{simp at h;omega};let⟨t,A⟩:=At G;have x:=Q5 A;have y:=m t (AF A);have c:(l.take (j+1)).any q=q t:=by{rw[Ba A,Jh,r];simp};have z:q t=true->i=j:=λK=>by{rcases e with⟨_,h⟩|⟨k,u,rfl,C,D,W⟩;have:l.any q=true:=EJ.2 ⟨t,AF A,K⟩;rw[this]at h;cases h;congr 1;rcases OP k j with hc|hc|hc;have:(l.take j).any q=true:=EJ.2 ⟨u,DW.2 ⟨k,by rw[DO,ae hc];exact C⟩,D⟩;rw[r]at this;cases this;exact hc;have:(l.take k).any q=true:=EJ.2 ⟨t,DW.2 ⟨j,by rw[DO,ae hc];exact A⟩,K⟩;rw[W]at this;cases this};generalize q t=o at *;obtain⟨t1,t2,⟨E,F,H,I⟩,⟨J,L,P,Q⟩,⟨S,T,c3,c4,c5⟩⟩:=t;refine A3 O<|yi O (c:=DJ ⟨t1,t2,.mk E F H I,.mk J L P Q,.mk S T c3 c4 c5⟩) (λ_=>⟨by simp,by simpa using x,by simp[DJ]⟩) (by simp)<|Ak O<|TW O (λ_=>y) (by simp)<|Ak O ?_;cases o with|true=>{exact Aq O λh=>A3 O<|Af ⟨_,rfl,tV (by rw[z O]),ab⟩}|false=>{exact Ag O λh=>A3 O<|Ad (R (j+1) (by omega) ⟨by omega,c⟩) ⟨Bf,AC⟩ ab O};have G:¬j<l.length:=by{simp at h;omega};rw[CA (by omega)]at r;have hi:i = -1:=by{rcases e with⟨h,_⟩|⟨k,u,_,C,D,_⟩;exact h;have:l.any q=true:=EJ.2 ⟨u,AF C,D⟩;rw[r]at this;cases this};exact Az O<|A3 O<|Af ⟨_,rfl,tV (by rw[hi]),ab⟩
def Ol (l:L1 Fd) (f:FuncId) (a b:L1 V) (q:Fd->Bool) (h:∀t∈l,Tq3 f (a++[.agg (DJ t)]++b) (.bool (q t))):Tq3 225 [.sl ((l.map DJ)),.clo (.func f) a b] (.bool (l.any q)):=by let⟨i,r,u⟩:=pP l f a b q h;refine Ac Aj func225 O [1,2]<|Ak O<|Ah O u<|Ak O<|Ab O O (af _ ?_);rw[FC,<- r];simp
def zK (d e:Dt):Tq3 266 [.agg (D2 e),.ip 113 (D2 d) 0] (.bool (e.name==d.name)):=by obtain⟨d1,d2⟩:=d;obtain⟨h,q⟩:=e;exact P4<|Ac Aj func266 O [2,3,4,5]<|Ak O<|Ab O O O
def zfm (d e:Fd):Tq3 268 [.agg (DJ e),.ip 71 (DJ d) 0] (.bool (e.name==d.name)):=by obtain⟨d1,d2,⟨h,q,r,u⟩,⟨z,A,B,C⟩,⟨D,G,K,N,R⟩⟩:=d;obtain⟨V,W,⟨f1,f2,f3,f4⟩,⟨a,b,c,f⟩,⟨g,i,j,k,l⟩⟩:=e;exact P4<|Ac Aj func268 O [2,3,4,5]<|Ak O<|Ab O O O
def yV (e:Fd):Tq3 226 [.agg (DJ e)] (.bool (e.name==Vd&&CD e.from_==3)):=by obtain⟨h,q,⟨f1,f2,f3,f4⟩,⟨r,u,z,A⟩,⟨B,C,D,G,K⟩⟩:=e;refine Ac Aj func226 O [2,3,4,5]<|Ak O<|Ab O O ?_;show V.bool (bif h==Vd then f1==3 else false)=V.bool (h==Vd&&f1==3);cases(h==Vd)<;>rfl
def oM (t:Y) (e:Dt):Tq3 287 [.agg (D2 e),.ip 25 (As t) 0] (.bool (e.name==F7 t)):=by obtain⟨t1,t2,t3,t4⟩:=t;obtain⟨h,q⟩:=e;exact P4<|Ac Aj func287 O [2,3,4,5]<|Ak O<|Ab O O O
def Tk (m:Md):L1 V:=dMdc m++[.mapv [],.int .i64 0,.sl []]
def Ri (m:Md) (u:Y):Bool:=!(CD u==8&&!m.datas.any λd=>d.name==F7 u)
def WW (m:Md) (b:Bool):St:=[(11,some (.immb 92 1 [.ip 98 (Tk m) 0])),(12,some (.immb 4 1 [.bool b]))]
def knE (l:L1 Y) (i:Nat):Env:=[(10,.imm (.int .i64 i)),(9,.imm (.int .i64 l.length)),(8,.imm (.sl (A4 l))),(2,.ref 11 0),(4,.ref 12 0)]
def SF (m:Md) (l:L1 Y) (i:Nat) (u:Y) {L:I0} (c:prog.funcs[L.fn]?.isSome) (G:L.tmps.size=Tryz.f267.ntmps) (K:L.ps = #[16]) (e:L.asg=zc5 Tryz.f267) (N:L.body=mB Tryz.f267) (B:L.E=knE l i) (C:L.F=[]):(Ri m u=true->La prog [.imm (.agg (As u))] (Cg L (WW m false) none) true (Cg L (WW m false) none))/\(Ri m u=false->La prog [.imm (.agg (As u))] (Cg L (WW m false) none) false (Cg L (WW m false) (some .ret))):=by let⟨g,R⟩:=Mz.1 c;have V:=Om m.datas 287 [] [.ip 25 (As u) 0] (λd=>d.name==F7 u) λd _=>oM u d;have q:R9 [21,22,23] L.E (WW m false) L.F:=by{rw[B,C];refine⟨by decide,?_⟩;simp[WW,knE,PM,Hb,Dx,LM,FQ,CT]};unfold Ri;generalize(m.datas.any λd=>d.name==F7 u)=o at *;obtain⟨W,a,b⟩:=m;obtain⟨f,n,x,ps⟩:=u;simp only[CD];have r:∀stx,WE prog Tryz.f267.ntmps L.asg ((16,.imm (.agg (As (.mk f n x ps))))::L.E) stx [21,22,23] _ _ _:=λstx=>by{rw[e];exact vP Aj O O O O (by simp) (by simp)};refine⟨λA=>?_,λA=>?_⟩;refine VZ (cf:=none) R K G O (by decide) q (r _) ?_;rw[N,B,C];refine WG O<|N0 O (λ_=>V) O (by simp[Ap])<|Cw O<|Aa O (λh=>?_) (λh=>?_);exfalso;by_cases z:f=8;subst z;cases o<;>simp at h A;simp[z]at h;exact A3 O<|Bw (⟨rfl,rfl,ab⟩:Gl _ (WW ⟨W,a,b⟩ false));refine VZ (cf:=some .ret) R K G O (by decide) q (r _) ?_;rw[N,B,C];refine WG O<|N0 O (λ_=>V) O (by simp[Ap])<|Cw O ?_;have D:f=8/\o=false:=by{by_cases z:f=8;subst z;cases o<;>simp at A ⊢;simp[z]at A};obtain⟨rfl,rfl⟩:=D;exact Aq O λh=>A3 O<|Af (⟨rfl,rfl,ab⟩:Gl _ (WW ⟨W,a,b⟩ false))
def Ue {P:Program} {S S':Bun} {q:Y->Bool}:∀(l:L1 Y),(∀u∈l,q u=true->La P [.imm (.agg (As u))] S true S)->(∀u∈l,q u=false->La P [.imm (.agg (As u))] S false S')->(l.all q=true->Yields P (E8 l) S true S)/\(l.all q=false->Yields P (E8 l) S false S')
 |[],_,_=>⟨λ_=>Yields.nil S,λh=>by simp at h⟩
 |u::r,z,C=>by have D:=Ue r (λv A=>z v (by simp[A])) (λv A=>C v (by simp[A]));refine⟨λh=>?_,λh=>?_⟩;simp only[D4,Am]at h;exact .cons (z u (by simp) h.1) (D.1 h.2);simp only[D4,OS]at h;cases B:q u with|false=>exact .stop (C u (by simp) B)|true=>{rcases h with h|h;rw[B]at h;cases h;exact .cons (z u (by simp) B) (D.2 h)}
def Yw (m:Md) (l:L1 Y) (y:l.length<=1000000):Tq3 267 [.ip 98 (Tk m) 0,.sl (A4 l)] (.bool ((Ds l).all (Ri m))):=by refine Ac Aj func267 O [11,12,13,6,1,2,3]<|Ak O<|Al (λi:Nat=>knE l i) (λ_=>WW m false) [13,6,1,2,3] (λi=>l.length-i) (λi=>i<=l.length/\(Ds (l.take i)).all (Ri m)=true) 0 ⟨AK _,rfl⟩ ⟨rfl,B8 (by simp),AC⟩ AP O λi q n=>?_;obtain⟨v,z⟩:=q;refine A3 O<|Aa O (λh=>?_) (λh=>?_);have f:i<l.length:=by{simp at h;omega};let⟨p,o⟩:=At f;have w:=AQ o;have x:=Yv p;have g:∀(a b:L1 Y),Ds (a++b)=Ds a++Ds b:=λa b=>by{induction a with|nil=>rfl|cons t r n=>{simp[Ds,n]}};have j:(Ds (l.take (i+1))).all (Ri m)=(Il p).all (Ri m):=by{rw[Ba o,g,Km,z];simp[Ds]};have A:(Il p).all (Ri m)=false->(Ds l).all (Ri m)=false:=λh=>by{have e:l=l.take i++p::l.drop (i+1):=by{rw[<- Au o,fM]};rw[e,g,Km,Ds,Km,h];simp};have s:∀{L:I0},prog.funcs[L.fn]?.isSome->L.tmps.size=Tryz.f267.ntmps->L.ps = #[16]->L.asg=zc5 Tryz.f267->L.body=mB Tryz.f267->L.E=knE l i->L.F=[]->((Il p).all (Ri m)=true->Yields prog (E8 (Il p)) (Cg L (WW m false) none) true (Cg L (WW m false) none))/\((Il p).all (Ri m)=false->Yields prog (E8 (Il p)) (Cg L (WW m false) none) false (Cg L (WW m false) (some .ret))):=λK N R V W c d=>Ue _ (λu _=>(SF m l i u K N R V W c d).1) (λu _=>(SF m l i u K N R V W c d).2);obtain⟨B,C,D,G⟩:=p;refine A3 O<|WF O w<|Ak O<|L6 (bl:=[]) (fr:=[6]) [] [(6,6)] O (by simp) x ab O O O O<|Ak O ?_;cases k:(Il (.mk B C D G)).all (Ri m)with|true=>{rw[k]at j;refine FU (y:=3) (j:=4) (j2:=5) (stc:=Hy (.mk B C D G)) (stc':=Hy (.mk B C D G)) (stx:=WW m false) (stB:=WW m false) (cf:=none) (E:=knE l i) (ids':=[13,6,1,2,3]) (d:=.tup []) O func139 (by decide +kernel) O (by decide) BD (CH AC) (λL K N R V W c d=>Rh (.mk B C D G) ((s K N R V W c d).1 k)) ?_ ?_ ?_ ?_ ?_;simp[Hy,WW,CT];simp[Hy,CT];intro i q;have e:FQ (F1 (DZ (Bg []++[(6,6)])) []++F1 (DZ (Bg []++[(6,6)])) [.ref 6 0])=[6]:=rfl;rw[e]at q;simpa[Hy,CT,Dx,LM,FQ,Hb]using q;refine⟨by decide,?_⟩;simp[WW,knE,PM,Hb,Dx,LM,FQ,CT];exact A3 O<|Ad (n (i+1) (by omega) ⟨by omega,j⟩) ⟨Bf,B0⟩ AP O}|false=>{have A:=A k;refine FU (y:=3) (j:=4) (j2:=5) (stc:=Hy (.mk B C D G)) (stc':=Hy (.mk B C D G)) (stx:=WW m false) (stB:=WW m false) (cf:=some .ret) (E:=knE l i) (ids':=[13,6,1,2,3]) (d:=.tup []) O func139 (by decide +kernel) O (by decide) BD (CH AC) (λL K N R V W c d=>Rh (.mk B C D G) ((s K N R V W c d).2 k)) ?_ ?_ ?_ ?_ ?_;simp[Hy,WW,CT];simp[Hy,CT];intro i q;have e:FQ (F1 (DZ (Bg []++[(6,6)])) []++F1 (DZ (Bg []++[(6,6)])) [.ref 6 0])=[6]:=rfl;rw[e]at q;simpa[Hy,CT,Dx,LM,FQ,Hb]using q;refine⟨by decide,?_⟩;simp[WW,knE,PM,Hb,Dx,LM,FQ,CT];exact Af ⟨_,rfl,tV (by rw[A]),ab⟩};have f:¬i<l.length:=by{simp at h;omega};rw[CA (by omega)]at z;exact Az O<|A3 O<|Af ⟨_,rfl,tV (by rw[z]),ab⟩
def MB (l:L1 Z) (x:Z):L1 Z:=if Bm l x=true then l else l++[x]
def dI {x:Z}:∀{l:L1 Z},Bm l x=true->Gn (E3 l) (.str x) (.bool true)=E3 l
 |[],h=>by simp[Bm]at h
 |y::r,h=>by simp only[Bm,Fg,ao]at h;simp only[E3,C0,Gn,eqK];by_cases e:x=y;subst e;simp;have q:=dI (l:=r) (h.resolve_left λh=>e h.symm);simp only[E3]at q;simp[e,q]
def dJ (l:L1 Z) (x:Z):Gn (E3 l) (.str x) (.bool true)=E3 (MB l x):=by unfold MB;cases h:Bm l x with|true=>rw[ae O];exact dI h|false=>{rw[ac (by simp)];exact U6 l x h}
def zaw (m:Md) (z:Bool×L1 Z) (c:Cd):Bool×L1 Z:=(z.1&&!Bm z.2 c.name&&(Ds c.args).all (Ri m),MB z.2 c.name)
def Xi (m:Md) (i:Nat) (d:Dt) (h:L1 Z):Bool×L1 Z:=d.cons.foldl (zaw m) (!((m.datas.take i).any λe=>e.name==d.name),h)
def zfo (m:Md) (i:Nat) (d:Dt) (u:L1 Z) (g:m.datas[i]?=some d) (K:∀c∈d.cons,c.args.length<=1000000):Tq4 223 [.imm (.ip 98 (Tk m) 0),i7 i,.mapr 1] [(1,some (.map (E3 u)))] (.ret (.imm (.bool (Xi m i d u).1)) [(1,some (.map (E3 (Xi m i d u).2)))]):=by have x:=bL g;have N:=Om (m.datas.take i) 266 [] [.ip 113 (D2 d) 0] (λe=>e.name==d.name) λe _=>zK d e;have y:=λl K=>Yw m l K;unfold Xi;generalize((m.datas.take i).any λe=>e.name==d.name)=o at *;generalize k:Ri m=q at *;have C:zaw m=λz c=>(z.1&&!Bm z.2 c.name&&(Ds c.args).all q,MB z.2 c.name):=by{funext z c;rw[zaw,k]};rw[C];clear C k;obtain⟨E,n,H⟩:=m;obtain⟨d1,B⟩:=d;simp only at K;have P:i<n.length:=(A9.1 g).1;refine Ac Aj func223 O [2,3,4,5,6]<|Ak O<|yi O (c:=D2 ⟨d1,B⟩) (λ_=>⟨by simp,by simpa using x,by simp[D2]⟩) (by simp)<|yg [] O (by simp;omega) ?_;simp only[nT]at N;refine N0 O (λ_=>N) O (by simp)<|Ak O ?_;clear N;refine Gv (t:=30) O λI=>?_;simp[Gy,maxLen]at I;generalize p:(λ(z:Bool×L1 Z) (c:Cd)=>(z.1&&!Bm z.2 c.name&&(Ds c.args).all q,MB z.2 c.name))=F at *;have V:∀(o:Bool) (A:L1 Z) (c:Cd),F (o,A) c=(o&&!Bm A c.name&&(Ds c.args).all q,MB A c.name):=λo A c=>by{rw[<- p]};clear p;refine Al (λz:Nat×Bool×L1 Z=>[(32,i7 z.1),(31,i7 B.length),(30,.imm (.sl (B.map FW))),(8,.imm (.bool z.2.1)),(2,.mapr 1),(0,.imm (.ip 98 (Tk ⟨E,n,H⟩) 0))]) (λz=>[(1,some (.map (E3 z.2.2)))]) [4,5,6] (λz=>B.length-z.1) (λz=>z.1<=B.length/\(B.drop z.1).foldl F z.2=B.foldl F (!o,u)) (0,!o,u) ⟨AK _,rfl⟩ ⟨rfl,B8 (by simp),B0⟩ AG O λz J s=>?_;obtain⟨j,b,A⟩:=z;obtain⟨W,r⟩:=J;simp only at W r s;generalize L:B.foldl F (!o,u)=R at *;clear L;refine A3 O<|Aa O (λh=>?_) (λh=>?_);have D:j<B.length:=by{simp at h;omega};let⟨c,a⟩:=At D;have f:=vG a;have t:=y c.args (K c (AF a));have v:=dJ A c.name;rw[Au a,LP,V]at r;obtain⟨G,ag⟩:=c;simp only at t r v;generalize(Ds ag).all q=w at *;refine A3 O<|yi O (c:=FW ⟨G,ag⟩) (λ_=>⟨by simp,by simpa using f,by simp[FW]⟩) (by simp)<|Cw O<|Dd Aj 1 O O O (EC A) (by simp[Ap]) (z:=.bool false) O (λ_=>.bool _) (IN A G)<|Cw O<|Bt O t<|Cw O<|FD Aj O O O (EC A) ?_;rw[v];refine Ak O ?_;exact Ad (s (j+1,b&&!Bm A G&&w,MB A G) (by simp only;omega) ⟨by simp only;omega,r⟩) ⟨Bf,rfl,rfl,by cases b<;>cases Bm A G<;>cases w<;>rfl,AP⟩ AG O;have D:¬j<B.length:=by{simp at h;omega};rw[Bu (by omega)]at r;simp only[ZP]at r;refine Az O<|A3 O ?_;subst r;exact Af ⟨_,AC⟩
structure zp5 (m:Md):Prop where
 datas:m.datas.length<=1000
 funs:m.funs.length<=1000
 cons:∀d∈m.datas,d.cons.length<=1000
structure OkM (m:Md):Prop where
 few:zp5 m
 closed:FK m
 body:∀f∈m.funs,AV f.body=true/\Nh f.body<=100000
def aX:DR m [t] [(Γ,τ)] S↔Cv m t Γ τ S:=by simp only[DR];constructor;rintro ⟨S1,r,q,rfl,rfl⟩;rw[JL];exact q;intro h;exact⟨S,[],h,rfl,by simp⟩
def qT (r:FK m) {f:Fd} (u:f∈m.funs):(Dc f.from_=[]/\CL f.from_=true)/\Dc f.to_=[]/\CL f.to_=true:=by let⟨h,q⟩:=r.1 f u;simp only[Bz,Dc,Dq]at h;simp only[Bz,CL,G8,Am]at q;simp at h;exact⟨⟨h.1,q.2.1⟩,h.2,q.2.2.1⟩
def zma (m:Md) (f:Fd) (T:L1 (Int×Y)) (k:Int) (S:L1 Y):St:=Dw m T k S++[(5,some (.cells 92 1 [.ref 1 0])),(6,some (.immb 71 15 (DJ f)))]
def zpg (m:Md) (f:Fd) (T:L1 (Int×Y)) (k:Int) (S:L1 Y):St:=Zu m T k S++[(5,some (.cells 92 1 [.ref 1 0])),(6,some (.immb 71 15 (DJ f)))]
def zfl {f:Fd} {r:J5} (h:BG m [(f.param,f.from_)] [f.body] [f.to_] [] 0 [] r) {b:Bool} (a:∀T k S,r=some (T,k,S)->S.length<=1000000/\∃θ,Sol (Cc T) θ/\(S.map (AH θ)).all DS=b) (R:r=none->b=false):(b=true->∃T k S,Tq4 269 [.ref 5 0,.ref 6 0] (zma m f [] 0 []) (.ret (.imm (.tup [])) (zpg m f T k S)))/\(b=false->Tq4 269 [.ref 5 0,.ref 6 0] (zma m f [] 0 []) (.pan HF)):=by obtain⟨f1,f2,⟨i,j,l,n⟩,⟨o,p,s,t⟩,⟨t1,t2,t3,t4,t5⟩⟩:=f;rw[BG]at h;rcases h with⟨q,rfl⟩|⟨⟨c,d,e,g⟩,v,C,D,q,h⟩;have u:=R O;refine⟨λh=>(by rw[u]at h;cases h),λ_=>?_⟩;unfold FA CX Ed at q;exact Ac Aj func269 O [4,9,10]<|Ak O<|Bs 3 S6 O (by simp) q A5 O O O<|Ak O<|Fs 12 (.imm (.tup [])) O EH (λx h=>by cases h)<|yg [] rfl (by simp;rfl)<|B5 12 3 O;{rcases h with⟨z,rfl⟩|⟨G,z,h⟩;{have u:=R O;refine⟨λh=>(by rw[u]at h;cases h),λ_=>?_⟩;unfold FA CX Ed at q;unfold ER at z;exact Ac Aj func269 O [4,9,10]<|Ak O<|AD (fr:=[4]) S6 [(4,4)] [] (nm:=[1,2,4,1,2,3]) O trivial (by simp) q A5 O trivial rfl O O<|Ak O<|Bo T0 O (by simp) z A5 O O O<|QK 1 O (by simp;rfl)<|BB 15 O};{simp only[BG]at h;let⟨V,θ,A,K⟩:=a _ _ _ h;unfold FA CX Ed at q;unfold Eg at z;have W:=Qd m G C D A V;have B:=SE m G C D A V;rw[K]at W B;refine⟨λu=>⟨G,C,D,?_⟩,λu=>?_⟩;{have N:=W u;exact Ac Aj func269 O [4,9,10]<|Ak O<|AD (fr:=[4]) S6 [(4,4)] [] (nm:=[1,2,4,1,2,3]) O trivial (by simp) q A5 O trivial rfl O O<|Ak O<|AD (fr:=[]) T0 [] [] (nm:=[1,2,4,1,2,4]) O trivial (by simp) z A5 O trivial rfl O O<|yg [] O (by simp;rfl)<|Ao [] T0 [] O N A5 O O<|Ak O<|Bw ⟨[],K5⟩};{have N:=B u;exact Ac Aj func269 O [4,9,10]<|Ak O<|AD (fr:=[4]) S6 [(4,4)] [] (nm:=[1,2,4,1,2,3]) O trivial (by simp) q A5 O trivial rfl O O<|Ak O<|AD (fr:=[]) T0 [] [] (nm:=[1,2,4,1,2,4]) O trivial (by simp) z A5 O trivial rfl O O<|yg [] O (by simp;rfl)<|Bo T0 O (by simp) N A5 O O O<|Ak O<|BB 17 O}}}
def zfp (B:OkM m) {f:Fd} (R:f∈m.funs):∃r,BG m [(f.param,f.from_)] [f.body] [f.to_] [] 0 [] r/\(∀T k S,r=some (T,k,S)->S.length<=1000000/\∃θ,Sol (Cc T) θ/\(S.map (AH θ)).all DS=NW m f)/\(r=none->NW m f=false):=by let⟨⟨V,W⟩,a,b⟩:=qT B.closed R;let⟨j,x⟩:=B.body f R;have C:EnvCl [(f.param,f.from_)]:=λp D=>by{rw[AL.1 D];exact⟨V,W⟩};have l:Em [f.body]=Nh f.body:=by{simp[Em]};let⟨r,c,A⟩:=IR (gR B.closed (Nh f.body)) [f.body] [f.to_] [(f.param,f.from_)] [] 0 [] rfl (by omega) (λt o=>by rw[AL.1 o];exact j) (λu s=>by rw[AL.1 s];exact⟨b,CK a _⟩) ⟨cX,λp D=>by rw[AL.1 D];exact⟨W,CK V _⟩,by simp;omega,by simp;omega,by simp;omega⟩;refine⟨r,c,?_⟩;clear c;have q:∀η,Iy η ([f.to_].map λu=>([(f.param,f.from_)],u))=[([(f.param,f.from_)],f.to_)]:=λη=>by{simp only[Iy,C0,Jk];rw[C.ap,IV a b]};refine⟨λT k S e=>?_,λe=>?_⟩;subst e;obtain⟨N,A,d,y,E⟩:=A;simp only[HZ]at d;subst d;obtain⟨θ,z⟩:=A.1.2.1.2.2;refine⟨by omega,θ,z,(zhf ?_ λg G=>?_).symm⟩;have:DR m [f.body] (Iy θ _) (S.map (AH θ)):=(A.1.2.2.1 θ z.eq).2;rw[q]at this;exact aX.1 this;let⟨K,_,v,i⟩:=A.1.2.2.2 Ay g (λn t h=>nomatch h) (by show DR m [f.body] (Iy Ay _) g;rw[q];exact aX.2 G);refine⟨K,?_⟩;simp only at i;rw[<- i,Vr];exact Kn λu _=>z.mguT v u;subst e;refine zhg λS w=>A Ay S (λn t h=>nomatch h) ?_;show DR m [f.body] (Iy Ay _) S;rw[q];exact aX.2 w
def zj2 (C:OkM m) (i:Nat) (f:Fd) (u:m.funs[i]?=some f):Tq3 224 [.ip 98 (Tk m) 0,.int .i64 i] (.bool (!((m.funs.take i).any λe=>e.name==f.name)&&((Ds [f.from_,f.to_]).all (Ri m)&&NW m f))):=by have D:=Q5 u;have V:i<m.funs.length:=(A9.1 u).1;have z:=Ol (m.funs.take i) 268 [] [.ip 71 (DJ f) 0] (λe=>e.name==f.name) λe _=>zfm f e;have G:=Yw m [f.from_,f.to_] (by simp);have W:=Ib m 0;let⟨r,K,N,R⟩:=zfp C (AF u);let⟨a,b⟩:=zfl K N R;clear K N R C;generalize NW m f=B at *;generalize((m.funs.take i).any λe=>e.name==f.name)=o at *;generalize(Ds [f.from_,f.to_]).all (Ri m)=q at *;simp only[nT]at z;obtain⟨v,w,x⟩:=m;obtain⟨f1,f2,⟨c,d,g,j⟩,⟨l,n,p,s⟩,⟨t1,t2,t3,t4,t5⟩⟩:=f;simp only at V;refine Ac Aj func224 O [6,1,2,3,5,4,7,8]<|Ak O<|yi O (c:=DJ ⟨f1,f2,.mk c d g j,.mk l n p s,.mk t1 t2 t3 t4 t5⟩) (λ_=>⟨by simp,by simpa using D,by simp[DJ]⟩) (by simp)<|yg [] O (by simp;omega)<|N0 O (λ_=>z) O (by simp)<|Cw O<|Bt O G<|Cw O ?_;clear z G D;refine Aa O (λh=>?_) (λh=>?_);refine A3 O ?_;exact Af ⟨_,rfl,tV (by cases o<;>cases q<;>simp at h ⊢),ab⟩;have e:(!o&&(q&&B))=B:=by{cases o<;>cases q<;>simp at h ⊢};rw[e];clear e h;refine A3 O<|Ao [1,2,3] [] S6 O W ab O O<|Ak O ?_;cases B with|true=>{let⟨T,k,S,t⟩:=a rfl;have A:=KO func55 (by decide +kernel) O GM func269 (by decide +kernel) O (df:=[]) (dc:=[.ref 5 0,.ref 6 0]) t;exact Ao [4] c8 [(4,4)] O A dN O O<|Ak O<|Ab O O O}|false=>{have A:=MF func55 (by decide +kernel) O GM func269 (by decide +kernel) O (df:=[]) (dc:=[.ref 5 0,.ref 6 0]) (b O);exact Ao [] c8 [] O A dN O O<|Ak O<|Ab O O O}
def zae (p:Nat->Bool) (h:i<n):L7 p i (n-i)=if p i then some i else L7 p (i+1) (n-(i+1)):=by rw[show n-i=(n-(i+1))+1 by omega];rfl
def zgh (p:Nat->Bool) (h:n<=i):L7 p i (n-i)=none:=by rw[show n-i=0 by omega];rfl
def zi5 {f:FuncId} {g:Fn} {a v:V} (h:Iz P f [a,.clo g [] []] v):Iz P f [a,.fn g] v:=λI μ w z r u=>h I μ w z r ⟨u.1,λi v d p q=>by
 match i,q with
 |0,q=>cases q;exact u.2 0 v _ p O
 |1,q=>
  cases q;have:=(u.2 1 v _ p O).immInv;cases this;exact .imm _ _ (.clo _ _ _ _ _ O O (λi c x h=>by simp at h) (λi c x h=>by simp at h))
 |i+2,q=>simp at q⟩
def wrV:Int×Int->V
 |(1,i)=>.iface 148 (.agg [.int .i64 i])
 |(2,i)=>.iface 149 (.agg [.int .i64 i])
 |(3,_)=>.iface 151 (.agg [])
 |_=>.niliface
def TG (m:Md):Nat->Nat->L1 Z->Option Nat
 |_,0,_=>none
 |i,n+1,h=>match m.datas[i]? with
  |some d=>if(Xi m i d h).1=true then TG m (i+1) n (Xi m i d h).2 else some i
  |none=>none
noncomputable def Xb (m:Md) (i:Nat):Bool:=match m.funs[i]? with
 |some f=>!(!((m.funs.take i).any λe=>e.name==f.name)&&((Ds [f.from_,f.to_]).all (Ri m)&&NW m f))
 |none=>false
noncomputable def HD (m:Md) (h:Int):Int×Int :=
 if h=0 then(match TG m 0 m.datas.length []with|some i=>(1,(i:Int))|none=>(0,0))
 else if h=1 then(match L7 (Xb m) 0 m.funs.length with|some i=>(2,(i:Int))|none=>(0,0))
 else if zeh m=true then(0,0)else(3,0)
def zh6 (m:Md):Prop:=∀d∈m.datas,∀c∈d.cons,c.args.length<=1000000
def yW (N:zp5 m) (C:zh6 m):Tq3 152 [.ip 98 (Tk m) 0,.int .i64 0] (wrV (HD m 0)):=by have g:=N.datas;have V:=λi d A r=>zfo m i d A r (λc W=>C d (AF r) c W);have e:HD m 0=(match TG m 0 m.datas.length []with|some i=>(1,(i:Int))|none=>(0,0)):=rfl;rw[e];clear e C;refine Ac Aj func152 O [1,2,3,4]<|Ak O<|Aq O λh=>A3 O<|E5 O<|Ak O<|Al (λz:Nat×L1 Z=>[(18,i7 z.1),(17,i7 m.datas.length),(5,.mapr 1),(0,.imm (.ip 98 (Tk m) 0))]) (λz=>[(1,some (.map (E3 z.2)))]) [2,3,4] (λz=>m.datas.length-z.1) (λz=>z.1<=m.datas.length/\TG m z.1 (m.datas.length-z.1) z.2=TG m 0 m.datas.length []) (0,[]) ⟨AK _,rfl⟩ ⟨rfl,B8 (by simp),AP⟩ AG O λz a D=>?_;obtain⟨i,G⟩:=z;obtain⟨B,q⟩:=a;simp only at B q D;generalize TG m 0 m.datas.length []=R at *;refine A3 O<|Aa O (λh=>?_) (λh=>?_);have u:i<m.datas.length:=by{simp at h;omega};let⟨d,r⟩:=At u;have K:=V i d G r;rw[show m.datas.length-i=(m.datas.length-(i+1))+1 by omega,TG,r]at q;simp only at q;generalize Xi m i d G=w at *;obtain⟨b,f⟩:=w;simp only at K q;refine A3 O<|Ae O K A2 O<|Ak O ?_;cases b with|false=>{refine Aq O λh=>?_;rw[ac (by simp)]at q;rw[<- q];exact A3 O<|Ab O O O}|true=>{refine Ag O λh=>?_;rw[ae O]at q;exact A3 O<|Ad (D (i+1,f) (by simp only;omega) ⟨by simp only;omega,q⟩) ⟨Bf,AC⟩ AG O};have u:¬i<m.datas.length:=by{simp at h;omega};rw[show m.datas.length-i=0 by omega,TG]at q;rw[<- q];exact Az O<|A3 O<|Ab O O O
def oK (z:OkM m):Tq3 152 [.ip 98 (Tk m) 0,.int .i64 1] (wrV (HD m 1)):=by have B:=λi f u=>zj2 z i f u;have N:=z.few.funs;have e:HD m 1=(match L7 (Xb m) 0 m.funs.length with|some i=>(2,(i:Int))|none=>(0,0)):=rfl;rw[e];clear e z;refine Ac Aj func152 O [1,2,3,4]<|Ak O<|Ag O λh=>A3 O<|Aq O λh=>A3 O<|Al (λi:Nat=>[(38,i7 i),(37,i7 m.funs.length),(0,.imm (.ip 98 (Tk m) 0))]) (λ_=>[]) [1,2,3,4] (λi=>m.funs.length-i) (λi=>i<=m.funs.length/\L7 (Xb m) i (m.funs.length-i)=L7 (Xb m) 0 m.funs.length) 0 ⟨AK _,rfl⟩ ⟨rfl,B8 (by simp),AG⟩ ab O λi C D=>?_;obtain⟨G,q⟩:=C;generalize L7 (Xb m) 0 m.funs.length=R at *;refine A3 O<|Aa O (λh=>?_) (λh=>?_);have r:i<m.funs.length:=by{simp at h;omega};let⟨f,u⟩:=At r;have K:=B i f u;have A:Xb m i = !(!((m.funs.take i).any λe=>e.name==f.name)&&((Ds [f.from_,f.to_]).all (Ri m)&&NW m f)):=by{rw[Xb,u]};rw[zae _ r,A]at q;clear A;generalize(!((m.funs.take i).any λe=>e.name==f.name)&&((Ds [f.from_,f.to_]).all (Ri m)&&NW m f))=o at *;refine A3 O<|Ah O K<|Ak O ?_;cases o with|false=>{refine Aq O λh=>?_;simp only[Bool.not_false,ar]at q;rw[<- q];exact A3 O<|Ab O O O}|true=>{refine Ag O λh=>?_;simp only[Bool.not_true,DN,aw]at q;exact A3 O<|Ad (D (i+1) (by omega) ⟨by omega,q⟩) ⟨Bf,AP⟩ ab O};have r:¬i<m.funs.length:=by{simp at h;omega};rw[zgh _ (by omega)]at q;rw[<- q];exact Az O<|A3 O<|Ab O O O
def yU (m:Md):Tq3 152 [.ip 98 (Tk m) 0,.int .i64 2] (wrV (HD m 2)):=by have q:=zi5 (Ol m.funs 226 [] [] (λe=>e.name==Vd&&CD e.from_==3) λe _=>yV e);have e:HD m 2=(if zeh m=true then(0,0)else(3,0)):=rfl;rw[e];unfold zeh;generalize(m.funs.any λe=>e.name==Vd&&CD e.from_==3)=o at *;clear e;refine Ac Aj func152 O [1,2,3,4]<|Ak O<|Ag O λh=>A3 O<|Ag O λh=>A3 O<|Aq O λh=>A3 O<|Ah O q<|Ak O ?_;cases o with|false=>{exact Aq O λh=>A3 O<|Ab O O O}|true=>{exact Ag O λh=>A3 O<|Ab O O O}
structure PSeq where
 t:TypeId
 b:Bool
 g:Option (Bool×Bool)
 ob:List Prop
 dst:Option Nat
 todo:List DI
def zfu:D->Option Bool
 |.imm .niliface=>some true
 |.imm (.iface _ _)=>some false
 |_=>none
def zlv (n:Nat) (env:Env) (todo:L1 DI):Option PSeq :=
 match B1 todo ([],[])with
 |some (all,o,r)=>match o.op,CF all env o with
  |.binOp h t x (.const .nilIface) _,some g=>match EM env x,Ce n o.dst with
   |some q,true=>match zfu q,h with
    |some b,.eql=>some ⟨t,b,g,[],o.dst,r⟩
    |some b,.neq=>some ⟨t,!b,g,[],o.dst,r⟩
    |_,_=>none
   |_,_=>none
  |_,_=>none
 |none=>none
def ez:=@eqGuard_nil_constR
def gO {t:TypeId} {x:Operand} {z:Bool} {A:D} (r:P.underlying t=some (.interface (P.methodsAt t))) (q:zfu A=some z) (h:X I μ v A):((do eqGuard .eql t x (.const .nilIface) v .nilIface;binOp .eql t v .nilIface:Sem Value).run P w=.ok (.bool z) w)/\((do eqGuard .neq t x (.const .nilIface) v .nilIface;binOp .neq t v .nilIface:Sem Value).run P w=.ok (.bool (!z)) w):=by unfold zfu at q;split at q;cases q;have:=h.immInv;cases this;rw[ez,ez];exact⟨run_eql_nil_nil w t r,run_neq_nil_nil w t r⟩;cases q;have:=h.immInv;cases this with|iface u v x B=>{exact⟨run_eql_held_nil w t _ _ r,run_neq_held_nil w t _ _ r⟩};cases q
def R5 {t:TypeId} {b:Bool} {dst:Option Nat} {z:L1 DI} (h:zlv n env todo=some ⟨t,b,g,ob,dst,z⟩) (f:P.underlying t=some (.interface (P.methodsAt t))) (i:G P n F Q z (Ca dst (gD g (.imm (.bool b))) env) st aa):G P n F Q todo env st aa:=by unfold zlv at h;split at h;rename_i all o r j;split at h;rename_i m p x t2 s u C;split at h;rename_i v k D;split at h;rename_i l R;cases h;refine BQ (fr:=[]) (wr:=[]) (rd:=[]) j (Ea C λI μ V K a w W B q d=>?_) D (λc N=>by rw[u]at N;cases N) i;rw[u]at q;have e:=q x (by simp[Op.operands]) _ k;have A:(execOp a.eval o).run P w=.ok (.value (.bool b)) w:=by{simp only[execOp,u];exact AE (gO f R e).1};rw[A];exact⟨I,μ,B,.imm _ _ (.bool _),Mu.le_refl μ,Ext.refl _ _ _ _⟩;rename_i l R;cases h;refine BQ (fr:=[]) (wr:=[]) (rd:=[]) j (Ea C λI μ V K a w W B q d=>?_) D (λc N=>by rw[u]at N;cases N) i;rw[u]at q;have e:=q x (by simp[Op.operands]) _ k;have A:(execOp a.eval o).run P w=.ok (.value (.bool (!l))) w:=by{simp only[execOp,u];exact AE (gO f R e).2};rw[A];exact⟨I,μ,B,.imm _ _ (.bool _),Mu.le_refl μ,Ext.refl _ _ _ _⟩;cases h;cases h;cases h;cases h
noncomputable def LT (m:Md):Int×Int:=if(HD m 0).1≠0 then HD m 0 else if(HD m 1).1≠0 then HD m 1 else HD m 2
def Ze {p:Int×Int} (h:p.1=0):wrV p=.niliface:=by obtain⟨a,b⟩:=p;simp only at h;subst h;rfl
def Nr (m:Md) (j:Nat):(HD m j).1=0\/(∃i,HD m j=(1,i))\/(∃i,HD m j=(2,i))\/HD m j=(3,0):=by unfold HD;split;split;exact .inr (.inl ⟨_,rfl⟩);exact .inl O;split;split;exact .inr (.inr (.inl ⟨_,rfl⟩));exact .inl O;split;exact .inl O;exact .inr (.inr (.inr O))
def yZ (B:OkM m) (G:zh6 m):Tq3 97 [.agg (dMdc m)] (wrV (LT m)):=by have K:=Ib m 0;have N:∀j:Nat,j<3->Tq3 152 [.ip 98 (Tk m) 0,.int .i64 j] (wrV (HD m j)):=λj z=>by{match j,z with|0,_=>exact yW B.few G|1,_=>exact oK B|2,_=>{exact yU m}};have V:=Nr m;have W:∀j:Nat,j<3->(∀i:Nat,i<j->(HD m i).1=0)->(HD m j).1≠0->LT m=HD m j:=λj z C u=>by{unfold LT;match j,z with|0,_=>have u:(HD m 0).1≠0:=u;rw[ae u];rfl|1,_=>have u:(HD m 1).1≠0:=u;rw[ac (λh=>h (C 0 (by omega))),ae u];rfl|2,_=>{rw[ac (λh=>h (C 0 (by omega))),ac (λh=>h (C 1 (by omega)))];rfl}};have a:(∀i:Nat,i<3->(HD m i).1=0)->wrV (LT m)=.niliface:=λh=>by{unfold LT;rw[ac (λD=>D (h 0 (by omega))),ac (λD=>D (h 1 (by omega)))];exact Ze (h 2 (by omega))};clear B G;generalize LT m=R at *;have c:Tk m=dMdc m++[.mapv [],.int .i64 0,.sl []]:=rfl;generalize HD m=lk at *;obtain⟨d,f,g⟩:=m;refine Ac Aj func97 O [4,1,2,3,5]<|Ak O<|Al (λj:Nat=>[(5,i7 j),(1,.ref 4 0)]) (λ_=>[(4,some (.immb 43 3 (dMdc ⟨d,f,g⟩)))]) [1,2,3,5] (λj=>3-j) (λj=>j<=3/\∀i:Nat,i<j->(lk i).1=0) 0 ⟨by omega,λi h=>by omega⟩ AP AG O λj z k=>?_;obtain⟨l,q⟩:=z;refine A3 O<|Aa O (λh=>?_) (λh=>?_);{have r:j<3:=by{simp at h;omega};have b:=N j r;refine A3 O<|Ao [1,2,3] [] S6 O K ab O O<|Ak O<|jD 2 O<|Cn 3 O<|JW 9 O O<|A3 O<|Ah O b ?_;have hcj:=V j;have A:=W j r q;clear b K N V W a;rcases hcj with hcj|hcj;rw[Ze hcj];refine Ak O<|R5 O (by kernel_rfl)<|Ak O<|Aa O (λh=>by cases h) (λh=>?_);exact A3 O<|Ad (k (j+1) (by omega) ⟨by omega,λi hi=>if e:i=j then(e▸hcj)else q i (by omega)⟩) ⟨Bf,AG⟩ AG O;{rcases hcj with⟨i,hi⟩|⟨i,hi⟩|hi;all_goals(rw[hi]at A ⊢;rw[A (by simp)];refine Ak O<|R5 O (by kernel_rfl)<|Ak O<|Aa O (λh=>?_) (λh=>by cases h);exact A3 O<|Ab O O O)}};have r:¬j<3:=by{simp at h;omega};obtain rfl:j=3:=by{omega};exact Az O<|A3 O<|Af ⟨_,rfl,tV (a q).symm,ab⟩
def zik (i:Int):Tq3 341 [.agg [.int .i64 i]] (.tup [.int .i64 1,.int .i64 i])/\Tq3 342 [.agg [.int .i64 i]] (.tup [.int .i64 2,.int .i64 i])/\Tq3 343 [.agg []] (.tup [.int .i64 3,.int .i64 0]):=by refine⟨?_,?_,?_⟩;exact Ac Aj func341 O [1,2]<|yg [] O (by simp;rfl)<|Ab O O O;exact Ac Aj func342 O [1,2]<|yg [] O (by simp;rfl)<|Ab O O O;exact Ac Aj func343 O [1,2]<|Ak O<|Ab O O O
def kV (m:Md):(LT m).1=0\/(∃i,LT m=(1,i))\/(∃i,LT m=(2,i))\/LT m=(3,0):=by unfold LT;split;exact Nr m 0;split;exact Nr m 1;exact Nr m 2
def zN (r:KB m=true->OkM m/\zh6 m):Tq3 35 [.agg (dMdc m)] (if KB m=true then(if(LT m).1=0 then .tup [.int .i64 0,.int .i64 0,Hs 5]else .tup [.int .i64 (LT m).1,.int .i64 (LT m).2,Hs 0])else .tup [.int .i64 0,.int .i64 0,Hs 2]):=by have q:=J1 m;let⟨t1,t2,t3⟩:=zik (LT m).2;have hc:=kV m;cases u:KB m with|false=>{rw[ac (by simp)];rw[u]at q;clear t1 t2 t3 hc r;obtain⟨B,C,D⟩:=m;exact Ac Aj func35 O [1,2]<|Ak O<|Ah O q<|Ak O<|Aq O λh=>A3 O<|Ab O O O}|true=>{rw[ae O];rw[u]at q;let⟨z,A⟩:=r u;have G:=yZ z A;clear z A r;generalize LT m=R at *;obtain⟨B,C,D⟩:=m;refine Ac Aj func35 O [1,2]<|Ak O<|Ah O q<|Ak O<|Ag O λh=>A3 O<|Ah O G ?_;rcases hc with hc|hc;rw[Ze hc,ae hc];refine Ak O<|R5 O (by kernel_rfl)<|Ak O<|Aa O (λh=>?_) (λh=>by cases h);exact A3 O<|Ab O O O;rcases hc with⟨i,rfl⟩|⟨i,rfl⟩|rfl;rw[ac (by simp)];refine Ak O<|R5 O (by kernel_rfl)<|Ak O<|Aa O (λh=>by cases h) (λh=>?_);exact A3 O<|bA 341 O (by kernel_rfl) (λ_=>t1) (by simp)<|Ak O<|Ab O O O;rw[ac (by simp)];refine Ak O<|R5 O (by kernel_rfl)<|Ak O<|Aa O (λh=>by cases h) (λh=>?_);exact A3 O<|bA 342 O (by kernel_rfl) (λ_=>t2) (by simp)<|Ak O<|Ab O O O;rw[ac (by simp)];refine Ak O<|R5 O (by kernel_rfl)<|Ak O<|Aa O (λh=>by cases h) (λh=>?_);exact A3 O<|bA 343 O (by kernel_rfl) (λ_=>t3) (by simp)<|Ak O<|Ab O O O}
def oL {es:Array MapEntry} {seen:Array Nat} (h:(leftOf es seen).size=0) {e:MapEntry} (r:es[j]?=some e):seen.contains e.born=true:=by have q:leftOf es seen = #[]:=nR h;unfold leftOf at q;rw[Array.filter_eq_empty_iff]at q;have:=q e (Array.mem_of_getElem? r);simpa using this
noncomputable def Yu (L:L1 Y):V:=if L.all (AW true)=true then .tup [.sl (A4 L),Hs 0]else .tup [.sl [],Hs 3]
def pJ (a b:Y) (h:(AW true a&&AW true b)=true) (hE:Eg md0 [] 0 [] a b T) (hs:Sol (Cc T) θ) (hk:∀p∈T,0<=p.1/\p.1<100):Tq3 13 [.agg (As a),.agg (As b)] (Yu (zbx T θ)):=by have y:=GN [a,b];simp only[D4,Ls,In]at y;rw[h]at y;have hS:=Oi;have s:=KO func55 (by decide +kernel) O GM func56 (by decide +kernel) O (df:=[]) (dc:=[.ref 4 0,.ref 5 0,.ref 6 0]) (kY hE);obtain⟨a1,a2,a3,a4⟩:=a;obtain⟨b1,b2,b3,b4⟩:=b;refine Ac Aj func13 O [5,6,1,2,3,4,7,8,9,10,11]<|Ak O<|Ah O y<|Ak O<|Ag O λh=>A3 O<|Ao [1,2,3] [] S6 O hS ab O O<|Ak O<|Ao [] [(1,1),(2,2),(3,3),(4,4),(5,5),(6,6)] [] O s ⟨⟨rfl,rfl,rfl⟩,⟨rfl,rfl,rfl⟩,⟨rfl,rfl,rfl⟩,⟨rfl,rfl,rfl⟩,⟨rfl,rfl,rfl⟩,⟨rfl,rfl,rfl⟩,ab⟩ O O ?_;clear s;refine Ak O<|Ag O λh=>KS 2 O λbm es q E c=>A3 O<|zgb Aj O<|Ak O ?_;have D:es.size=T.length:=by{simpa using E};refine Al (λz:Array Nat×Int=>[(27,.iter 7),(8,i7 z.2),(6,.ref 4 0),(7,.nils)]) (λz=>[(4,some (.cells 92 1 [.ref 1 0])),(1,some (wS md0 0 2 3 0)),(2,some (.mapx (T.map dPr) bm es q)),(3,some (.row 25 4 [])),(7,some (.miter bm q z.1 q))]) [8,9,10,11] (λz=>(leftOf es z.1).size) (λz=>((z.2 = -1\/∃p∈T,p.1=z.2)/\-1<=z.2/\z.2<100)/\∀(j:Nat) (e:MapEntry) (p:Int×Y),es[j]?=some e->z.1.contains e.born=true->T[j]?=some p->p.1<=z.2) (#[],-1) ⟨⟨.inl O,by simp,by simp⟩,λj e p _ h=>by simp at h⟩ B0 BD O λz W t=>?_;obtain⟨seen,x⟩:=z;obtain⟨⟨B,d,F⟩,C⟩:=W;simp only at B d F C;refine A3 O<|zke 2 O O (λx hx=>c.1 x hx) (BO _) (by decide) λz W=>?_;rcases z with _|⟨j,g⟩;rotate_left;obtain⟨K,H⟩:=W;obtain⟨p,G⟩:∃p,T[j]?=some p:=At (by rw[<- D];exact(GS.1 K).1);have k:(T.map dPr)[j]?=some (dPr p):=by{simp[G]};have hD:eZ (T.map dPr) (some (j,g))=.imm (.tup [.bool true,.int .i64 p.1,.agg (As p.2)]):=by{simp only[eZ,k,dPr]};rw[hD];refine A3 O<|Aq O λh=>A3 O<|zgc 2 O O O O K k<|Ak O ?_;have I:=left_shrinks es seen g H;have l:=AF G;let⟨k1,k2⟩:=hk p l;refine Ad (t (seen.push g.born,if p.1 > x then p.1 else x) I ⟨⟨?_,?_,?_⟩,λJ L p' q1 q2 q3=>?_⟩) B0 BD O;simp only;split;exact .inr ⟨p,l,rfl⟩;exact B;simp only;split<;>omega;simp only;split<;>omega;simp only at q2 ⊢;rw[contains_push,Fg]at q2;rcases q2 with q2|q2;have:=C J L p' q1 q2 q3;split<;>omega;have hb:L.born=g.born:=by{simpa using q2};have P:J=j:=by{have Q:=c.2.1;have S:(es.toList.map (·.born))[J]?=some L.born:=by{simp[q1]};have g2:(es.toList.map (·.born))[j]?=some g.born:=by{simp[K]};rw[hb]at S;exact(fq (A9.1 S).1 Q).1 (S.trans g2.symm)};subst P;rw[q3]at G;cases G;split<;>omega;have W:(leftOf es seen).size=0:=W;have hmx:yJ T=x:=zed (λp G=>by{let⟨j,v⟩:=HW G;obtain⟨e,he⟩:∃e,es[j]?=some e:=⟨_,PW (by rw[D];exact(A9.1 v).1)⟩;exact C j e p he (oL W he) v}) B (λp G=>(hk p G).1) d;clear t C B;obtain⟨N,hN⟩:∃N:Nat,x+1=N:=⟨(x+1).toNat,by omega⟩;have hL:zbx T θ=(List.range N).map λi:Nat=>θ i:=by{rw[zbx,hmx,hN,fk]};rw[hL];have hN1:N<=100:=by{omega};refine A3 O<|Ag O λh=>Az O<|Jp 2 O<|A3 O<|ML (e:=25) (sz:=4) 7 8 (by decide) O<|Al (λj:Nat=>[(37,i7 j),(36,i7 N),(6,.ref 4 0),(7,.own 8 (A4 ((List.range j).map λi:Nat=>θ i)).length)]) (λj=>[(4,some (.cells 92 1 [.ref 1 0])),(1,some (wS md0 0 2 3 0)),(2,some (dA T)),(3,some (.row 25 4 [])),(8,some (.row 25 4 (A4 ((List.range j).map λi:Nat=>θ i))))]) [9,10,11] (λj=>N-j) (λj=>j<=N/\((List.range j).map λi:Nat=>θ i).all (AW true)=true) 0 ⟨AK _,rfl⟩ ⟨rfl,B8 (by rw[Gx (by omega) (by omega)];exact hN),AP⟩ BD O λj v t=>?_;obtain⟨hj1,m⟩:=v;refine A3 O<|Aa O (λh=>?_) (λh=>?_);{have R:j<N:=by{simp at h;omega};have s:=gE j;let⟨w1,w2⟩:=Xr (m:=md0) (k:=0) (S:=[]) hs (t:=Ay j) rfl;rw[De]at w1 w2;have w:=GN [θ j];simp only[D4,Ls,In]at w;have r:∀f,AW true (θ j)=f->((List.range N).map λi:Nat=>θ i).all (AW true)=true->f=true:=λf hf h=>by{rw[<- hf];exact CJ.1 h _ (C7.2 ⟨j,Of.2 R,rfl⟩)};have V:(List.range (j+1)).map (λi:Nat=>θ i)=((List.range j).map λi:Nat=>θ i)++[θ j]:=by{rw[Vj,Cy];rfl};refine A3 O<|Ah O s<|Ak O ?_;generalize hu:θ (j:Int)=u at w1 w2 w r V;by_cases n:Fw u<=12;{have hW:=w1 n;generalize o:AW true u=fo at w;have A:=r fo o;obtain⟨t1,t2,t3,t4⟩:=u;refine AD S6 [] [1,2,3] (fr:=[]) (nm:=[]) O trivial (by simp) hW A5 O Fl O O O<|yg [] O (by simp;rfl)<|Bt O w<|Cw O ?_;cases fo with|false=>refine Aq O λh=>A3 O<|Ab O O ?_;rw[Yu,ac (λh=>by cases A h)];rfl|true=>{refine Ag O λh=>A3 O<|BK Aj O ⟨by simp,by simp[maxLen];omega,by simp;omega,ab⟩<|Ak O<|AR 8 10 O ?_;have et:A4 ((List.range (j+1)).map λi:Nat=>θ i)=A4 ((List.range j).map λi:Nat=>θ i)++[As (.mk t1 t2 t3 t4)]:=by{rw[V,FH];rfl};refine Ad (t (j+1) (by omega) ⟨by omega,?_⟩) ⟨Bf,rfl,rfl,by rw[et];rfl,ab⟩ ⟨rfl,rfl,rfl,rfl,by rw[et];rfl,ab⟩ O;rw[V,Km,m];simpa using o}};{have hW:=w2 (by omega);have hno:AW true u=false:=by{cases hf:AW true u with|false=>rfl|true=>{exact absurd (zai hf) n}};have A:=r false hno;refine AD S6 [] [] (fr:=[]) (nm:=[1,2,3]) O trivial (by simp) hW A5 O trivial rfl O O<|yg [] O (by simp[Ap];rfl)<|Ai (v:=.bool false) O (λhc=>by simp[Ap]at hc) (by simp[Ap])<|Cw O<|Aq O λh=>A3 O<|Ab O O ?_;rw[Yu,ac (λh=>by cases A h)];rfl}};have R:j=N:=by{simp at h;omega};subst R;refine Az O<|Cn 8 O<|A3 O<|Ab O O ?_;rw[Yu,ae m];rfl
def UZ {op n:Int} {k:Nat} (h:Bl op n x k p=true):p<=5:=by unfold Bl at h;by_cases u:op=1;rw[ae u]at h;simp[AT,DP]at h;omega;rw[ac u]at h;by_cases z:op=2;rw[ae z]at h;simp[AT,DP]at h;omega;rw[ac z]at h;by_cases A:op=3\/op=21\/op=25\/op=28;rw[ae A]at h;simp[AT,DP]at h;omega;rw[ac A]at h;by_cases B:op=4;rw[ae B]at h;simp[AT,DP]at h;omega;rw[ac B]at h;by_cases C:op=5\/op=27;rw[ae C]at h;simp[AT,DP]at h;omega;rw[ac C]at h;by_cases D:op=7;rw[ae D]at h;simp[AT,DP]at h;omega;rw[ac D]at h;by_cases G:op=8;rw[ae G]at h;simp[AT,DP]at h;omega;rw[ac G]at h;by_cases K:op=14;rw[ae K]at h;simp[AT,DP]at h;omega;rw[ac K]at h;by_cases N:op=15;rw[ae N]at h;simp[AT,DP]at h;omega;rw[ac N]at h;by_cases R:op=16\/op=17\/op=19\/op=20\/op=23\/op=26;rw[ae R]at h;simp[AT,DP]at h;omega;rw[ac R]at h;by_cases q:op=24;rw[ae q]at h;simp[AT,DP]at h;omega;rw[ac q]at h;by_cases r:op=6\/op=9\/op=10\/op=11\/op=12\/op=13\/op=18\/op=22;rw[ae r]at h;simp[AT,DP]at h;omega;rw[ac r]at h;cases h
def XS:∀{l:L1 Y},l.all CI=true->Ei l<=12*l.length
 |[],_=>by simp[Ei]
 |t::r,h=>by simp only[D4,Am]at h;have q:=h.1;simp only[CI,Am,al]at q;have u:=Ey t 12 q.1.1;rw[UW]at u;have z:=XS h.2;simp only[Ei,Co];omega
mutual
def rX:∀(t:Tm) (l d:Int),0<=Be t l d->AV t=true->(Nh t:Int)<=61*(l-Be t l d)
 |.mk u n x r ps,l,d,h,q=>by simp only[Be]at h ⊢;by_cases e:l<1\/d<1;rw[ae e]at h;omega;rw[ac e]at h ⊢;simp only[AV,Am]at q;have z:=cQ r (l-1) (d-1) h q.2;have A:=UZ q.1.1;have B:=XS q.1.2;simp only[Nh];omega
def cQ:∀(q:L1 Tm) (l d:Int),0<=B7 q l d->Br q=true->(Em q:Int)<=61*(l-B7 q l d)
 |[],l,d,h,_=>by simp[Em,B7]
 |t::r,l,d,h,u=>by simp only[B7]at h ⊢;by_cases e:0<=l;rw[ae e]at h ⊢;simp only[Br,Am]at u;have z:0<=Be t l d:=by{by_cases A:0<=Be t l d;exact A;have:=(J7 r (Be t l d) d (Hz t l d).1).2;omega};have B:=rX t l d z u.1;have C:=cQ r (Be t l d) d h u.2;simp only[Em];omega;rw[ac e]at h;omega
end
def X6 (h:Cs t=true):AV t=true/\Nh t<=100000:=by simp only[Cs,Am,al]at h;have q:=rX t 60 14 h.1 h.2;exact⟨h.2,by omega⟩
def Uf {t:Y} (h:G6 t=true):Dc t=[]/\CL t=true:=by simp only[G6,Am]at h;have:=Mc t h.2;exact⟨this.2.2 O,this.1⟩
def zee (h:DA m=true):OkM m/\zh6 m:=by simp only[DA,Am,al,DP]at h;obtain⟨⟨⟨⟨a,b⟩,e⟩,C⟩,D⟩:=h;have z:∀f∈m.funs,Qm f=true:=CJ.1 D;have G:∀d∈m.datas,Jt d=true:=CJ.1 C;have A:∀d∈m.datas,d.cons.length<=5/\∀c∈d.cons,Pc c=true:=λd q=>by{have:=G d q;simp only[Jt,Am,al,DP]at this;exact⟨by omega,CJ.1 this.2⟩};have B:∀d∈m.datas,∀c∈d.cons,c.args.length<=3/\∀t∈c.args,G6 t=true:=λd q c r=>by{have:=(A d q).2 c r;simp only[Pc,Am,al]at this;exact⟨by omega,CJ.1 this.2⟩};refine⟨⟨⟨by omega,by omega,λd q=>by have:=(A d q).1;omega⟩,⟨λf u=>?_,λd q c r t K=>Uf ((B d q c r).2 t K)⟩,λf u=>?_⟩,λd q c r=>by have:=(B d q c r).1;omega⟩;have:=z f u;simp only[Qm,Am]at this;let⟨N,R⟩:=Uf this.1.1.2;let⟨V,W⟩:=Uf this.1.2;exact⟨by simp[Bz,Dc,Dq,N,V],by simp[Bz,CL,G8,R,W]⟩;have:=z f u;simp only[Qm,Am]at this;exact X6 this.2
def mW {op n:Int} {k:Nat} (h:Bl op n x k p=true):x.length<=30:=by unfold Bl at h;by_cases z:op=1;{rw[ae z]at h;simp[AT,DP,BV,CW]at h;first|omega|(have q:x=[]:=(by grind);subst q;simp)};rw[ac z]at h;by_cases A:op=2;{rw[ae A]at h;simp[AT,DP,BV,CW]at h;first|omega|(have q:x=[]:=(by grind);subst q;simp)};rw[ac A]at h;by_cases B:op=3\/op=21\/op=25\/op=28;{rw[ae B]at h;simp[AT,DP,BV,CW]at h;first|omega|(have q:x=[]:=(by grind);subst q;simp)};rw[ac B]at h;by_cases C:op=4;{rw[ae C]at h;simp[AT,DP,BV,CW]at h;first|omega|(have q:x=[]:=(by grind);subst q;simp)};rw[ac C]at h;by_cases D:op=5\/op=27;{rw[ae D]at h;simp[AT,DP,BV,CW]at h;first|omega|(have q:x=[]:=(by grind);subst q;simp)};rw[ac D]at h;by_cases G:op=7;{rw[ae G]at h;simp[AT,DP,BV,CW]at h;first|omega|(have q:x=[]:=(by grind);subst q;simp)};rw[ac G]at h;by_cases K:op=8;{rw[ae K]at h;simp[AT,DP,BV,CW]at h;first|omega|(have q:x=[]:=(by grind);subst q;simp)};rw[ac K]at h;by_cases N:op=14;{rw[ae N]at h;simp[AT,DP,BV,CW]at h;first|omega|(have q:x=[]:=(by grind);subst q;simp)};rw[ac N]at h;by_cases R:op=15;{rw[ae R]at h;simp[AT,DP,BV,CW]at h;first|omega|(have q:x=[]:=(by grind);subst q;simp)};rw[ac R]at h;by_cases V:op=16\/op=17\/op=19\/op=20\/op=23\/op=26;{rw[ae V]at h;simp[AT,DP,BV,CW]at h;first|omega|(have q:x=[]:=(by grind);subst q;simp)};rw[ac V]at h;by_cases r:op=24;{rw[ae r]at h;simp[AT,DP,BV,CW]at h;first|omega|(have q:x=[]:=(by grind);subst q;simp)};rw[ac r]at h;by_cases u:op=6\/op=9\/op=10\/op=11\/op=12\/op=13\/op=18\/op=22;{rw[ae u]at h;simp[AT,DP,BV,CW]at h;first|omega|(have q:x=[]:=(by grind);subst q;simp)};rw[ac u]at h;cases h
def xY {f n:Int} {k:Nat} (h:Fc f n x k=true):x.length<=30:=by unfold Fc at h;by_cases q:f=1\/f=5;rw[ae q]at h;simp at h;simp[h.2];rw[ac q]at h;by_cases r:f=2;rw[ae r]at h;simp[BV]at h;omega;rw[ac r]at h;by_cases u:f=3;rw[ae u]at h;simp at h;simp[h.1.2];rw[ac u]at h;by_cases z:f=4;rw[ae z]at h;simp at h;simp[h.1.2];rw[ac z]at h;by_cases A:f=6;rw[ae A]at h;simp[CW]at h;omega;rw[ac A]at h;cases h
mutual
def UR:∀t:Y,BI t=true->HL t=true
 |.mk f n x ps,h=>by simp only[BI,Am]at h;simp only[HL,Sn ps h.2,Jj,al];exact xY h.1
def Sn:∀l:L1 Y,BX l=true->En l=true
 |[],_=>rfl
 |t::r,h=>by simp only[BX,Am]at h;simp only[En,UR t h.1,Sn r h.2,Vl]
end
mutual
def Uk:∀(t:Y) (l m:Int),l<=m->0<=B6 t l->B6 t m=B6 t l+(m-l)
 |.mk _ _ _ ps,l,m,h,q=>by simp only[B6]at q ⊢;by_cases e:l<1;rw[ae e]at q;omega;rw[ac e]at q ⊢;rw[ac (by omega),RO ps (l-1) (m-1) (by omega) q];omega
def RO:∀(ps:L1 Y) (l m:Int),l<=m->0<=BA ps l->BA ps m=BA ps l+(m-l)
 |[],l,m,h,q=>by simp only[BA];omega
 |t::r,l,m,h,q=>by simp only[BA]at q ⊢;by_cases e:0<=l;rw[ae e]at q ⊢;rw[ae (by omega)];have z:0<=B6 t l:=by{by_cases u:0<=B6 t l;exact u;exfalso;cases r with|nil=>simp only[BA]at q;omega|cons a b=>{simp only[BA,ac u]at q;omega}};rw[Uk t l m h z,RO r (B6 t l) (B6 t l+(m-l)) (by omega) q];omega;rw[ac e]at q;omega
end
def eM {p:Y} (h:CI p=true):BW p=true:=by simp only[CI,Am,al]at h;simp only[BW,UR p h.1.2,In,al];rw[Uk p 12 16 (by decide) h.1.1];omega
mutual
def Sq:∀t:Tm,AV t=true->GX t=true
 |.mk A n x q ps,h=>by simp only[AV,Am]at h;have r:=mW h.1.1;have B:=UZ h.1.1;have u:ps.all BW=true:=CJ.2 λp z=>eM (CJ.1 h.1.2 p z);simp only[GX,PJ q h.2,u,In,Am,al];exact⟨r,by omega⟩
def PJ:∀l:L1 Tm,Br l=true->E9 l=true
 |[],_=>rfl
 |t::r,h=>by simp only[Br,Am]at h;simp only[E9,Sq t h.1,PJ r h.2,Vl]
end
def lB (h:Cs t=true):DU t=true:=by have q:=h;rw[X7]at h;simp only[DU,Sq t h.1,In,al];exact(O5 t 80 16).1.2 ⟨by omega,by omega⟩
mutual
def unF:Y->Y
 |.mk f n x ps=>.mk (if f=10 then 9 else f) n x (zih ps)
def zih:L1 Y->L1 Y
 |[]=>[]
 |t::r=>unF t::zih r
end
mutual
def nF {bk L:L1 Int}:∀t:Y,CL t=true->Gh bk L t=unF (AH (λh=>Ay (F2 bk (L.idxOf h):Nat)) t)
 |.mk f n x ps,r=>by by_cases q:f=9;have u:=Fa r (by simp[CD,q]);simp only[Ay,num,Y.mk.injEq]at u;rw[u.2.2.1,u.2.2.2,Gh,AH,ae q,ae q,q];rfl;simp only[CL,Am]at r;rw[Gh,AH,ac q,ac q,unF,tQ ps r.2]
def tQ {bk L:L1 Int}:∀l:L1 Y,G8 l=true->Hc bk L l=zih (Df (λh=>Ay (F2 bk (L.idxOf h):Nat)) l)
 |[],_=>rfl
 |t::r,q=>by simp only[G8,Am]at q;rw[Hc,Df,zih,nF t q.1,tQ r q.2]
end
def zjp {bk:L1 Int} {T h:Y} {η':Int->Y} (z:CL T=true) (r:CL h=true) (A:AH η T=h) (B:AH η' h=T):Gh bk (Dy T []) T=Gh bk (Dy h []) h:=by
 have C:AH (λn=>if n∈Dc T then η n else Ay n) T=h:=by
  rw[<- A];exact FJ T λn u=>ae u
 have q:=yB z (λn=>by
  by_cases u:n∈Dc T
  ·rw[ae u];exact zbr T (by rw[A];exact r) n u
  ·rw[ac u];simp[Ay,CL,G8]) C B (tM bk T) (tM bk h)
 simp only[znb]at q;rw[nF T z,nF h r,q]
def Yx (q:EnvCl Γ) (bk:L1 Int) {g:Tm} {r V:S5} (h:Cm m Γ t 0 (λ_=>none) r) (D:Cm m Γ g 0 (λ_=>none) V) (W:∀τ S,Cv m t Γ τ S↔Cv m g Γ τ S):Jl bk r=Jl bk V:=by cases r with|none=>{cases V with|none=>rfl|some z=>{obtain⟨τ,k,σ,N⟩:=z;obtain⟨θ,a⟩:=D.1.2.1.2.2;exact absurd ((W _ _).2 (MC q D a).1) (pT q h _ _)}}|some w=>{obtain⟨G,kA,l,o⟩:=w;obtain⟨B,u⟩:=h.1.2.1.2.2;have b:=MC q h u;cases V with|none=>exact absurd ((W _ _).1 b.1) (pT q D _ _)|some z=>{obtain⟨K,kB,p,s⟩:=z;obtain⟨C,A⟩:=D.1.2.1.2.2;have i:=MC q D A;have v:CL (AH B G)=true:=Ui (λn=>u.wfθ n) _ h.2.1;have E:CL (AH C K)=true:=Ui (λn=>A.wfθ n) _ D.2.1;simp only[Jl,QS u,QS A];generalize AH B G=c at *;generalize AH C K=F at *;generalize o.map (AH B)=H at *;generalize s.map (AH C)=I at *;let⟨η,J,L⟩:=b.2 _ _ ((W _ _).2 i.1);let⟨P,Q,T⟩:=i.2 _ _ ((W _ _).1 b.1);have d:H.all DS=I.all DS:=by{rw[FC];simp only[CJ];constructor;intro h x R;rw[<- L]at R;obtain⟨y,e,rfl⟩:=C7.1 R;exact mL (h y e);intro h x R;rw[<- T]at R;obtain⟨y,e,rfl⟩:=C7.1 R;exact mL (h y e)};have j:=zjp (bk:=bk) v E J Q;have f:Fw c=Fw F:=by{rw[<- nG (bk:=bk) (L:=Dy c []) c,j,nG]};rw[d];simp only[Ok,j,f]}}
def WV (c:UInt8):Bool:=97<=c&&c<=122
def zf3 (c:UInt8):Bool:=65<=c&&c<=90
def Q1 (c:UInt8):Bool:=48<=c&&c<=57
def WN (p:UInt8->Bool):Z->Nat
 |[]=>0
 |c::r=>if p c=true then WN p r+1 else 0
def I5 (s:Z) (h:Nat) (d:Bool):Nat:=WN (if d=true then Q1 else WV) (s.drop h)
def signsL:L1 Z:=[[61,62],[61,61],[45,62],[61],[60],[43],[45],[42],[40],[41],[123],[125],[124],[44],[59],[58],[95],[63]]
def Ob (t:Z):L1 Z->Z
 |[]=>[]
 |x::r=>if x.length<=t.length/\t.take x.length=x then x else Ob t r
def XE (s:Z) (h:Nat):Z:=Ob (s.drop h) signsL
structure Tok where
 kind:Int
 text:Z
 n:Int
 at_:Int
def MP (t:Tok):L1 V:=[.int .i64 t.kind,.str t.text,.int .i64 t.n,.int .i64 t.at_]
def YO (s:Z) (a n:Nat):Z:=(s.drop a).take n
def Ye (s:Z) (h:Nat):Option Tok :=
 if WV (s.getD h 0)=true then
  some ⟨if V6 (YO s h (I5 s h false))=true then 3 else if(YO s h (I5 s h false)).length<=8 then 1 else 0,YO s h (I5 s h false),0,h⟩
 else if zf3 (s.getD h 0)=true then
  some ⟨if(YO s h (1+I5 s (h+1) false)).length<=8 then 2 else 0,YO s h (1+I5 s (h+1) false),0,h⟩
 else if Q1 (s.getD h 0)=true then(if I5 s h true=1 then some ⟨4,YO s h 1,((s.getD h 0).toNat:Int)-48,h⟩else none)
 else if s.getD h 0=126 then none
 else some ⟨if XE s h=[]then 0 else 5,XE s h,0,h⟩
def Wu (c:UInt8):Bool:=c=32||c=9||c=10
def Gc (s:Z) (h:Nat):Nat:=h+WN Wu (s.drop h)
def Ky:Nat->Z->Nat->Option (L1 Tok)
 |0,_,_=>none
 |f+1,s,a=>if s.length<=a then some []else if s.getD a 0=47 then none else match Ye s a with
  |some t=>if t.kind=0 then none else match Ky f s (Gc s (a+t.text.length))with
   |some l=>some (t::l)
   |none=>none
  |none=>none
def Bh (l:L1 Tok) (a:Nat) (s:Z):Bool:=match l[a]? with
 |some t=>(t.kind==5||t.kind==3)&&t.text==s
 |none=>false
def OW (l:L1 Tok) (a:Nat) (k:Int):Bool:=match l[a]? with
 |some t=>t.kind==k
 |none=>false
def Dm (l:L1 Tok) (a:Nat):Z:=match l[a]? with
 |some t=>t.text
 |none=>[]
def nAt (l:L1 Tok) (a:Nat):Int:=match l[a]? with
 |some t=>t.n
 |none=>0
def FY (s:Z):Int×Int :=
 if s=[99,101,108,108]then(16,1)else if s=[103,101,116]then(17,1)else if s=[112,117,116]then(18,2)
 else if s=[115,112,97,119,110]then(19,1)else if s=[106,111,105,110]then(20,1)else if s=[99,104,97,110]then(21,0)
 else if s=[115,101,110,100]then(22,2)else if s=[116,97,107,101]then(23,1)else if s=[111,117,116]then(24,-1)
 else if s=[105,110,112,117,116]then(25,0)else if s=[114,101,115,101,116]then(26,1)else if s=[112,97,117,115,101]then(28,0)else(0,0)
def tru:Z:=[116,114,117,101]
def iN:Z:=[102,97,108,115,101]
def yK:Z:=[109,97,116,99,104]
def QD (l:L1 Tok) (a:Nat):Bool:=match l[a]? with
 |some t=>if t.kind=3 then(decide ((FY t.text).1≠0)||t.text==tru||t.text==iN||t.text==yK)else(decide (t.kind≠5)||t.text==[40])
 |none=>false
def zij (op:Int) (a b:Tm):Tm:=.mk op 0 [] [a,b] []
def after (l:L1 Tok) (a:Nat) (s:Z) {α:Type} (r:Option α):Option α:=if Bh l a s=true then r else none
def Tw (l:L1 Tok) (a:Nat) (s:L1 Z) {α:Type} (r:Option α):Option α:=if s.any (Bh l a)=true then none else r
mutual
def DV (l:L1 Tok):Nat->Nat->Option (Tm×Nat)
 |0,_=>none
 |f+1,a=>
  if Bh l a [102,117,110]=true then
   (if OW l (a+1) 1=true then after l (a+2) [61,62] ((DV l f (a+3)).map λr=>(.mk 5 0 (Dm l (a+1)) [r.1] [],r.2))else none)
  else Tw l a [[115,104,105,102,116]] (if Bh l a [108,101,116]=true then
   (if OW l (a+1) 1=true then after l (a+2) [61] ((DV l f (a+3)).bind λr=>after l r.2 [105,110] ((DV l f (r.2+1)).map λu=>(.mk 7 0 (Dm l (a+1)) [r.1,u.1] [],u.2)))else none)
  else if Bh l a [105,102]=true then
   (DV l f (a+1)).bind λr=>after l r.2 [116,104,101,110] ((DV l f (r.2+1)).bind λu=>after l u.2 [101,108,115,101] ((DV l f (u.2+1)).map λv=>(.mk 8 0 [] [r.1,u.1,v.1] [],v.2)))
  else(mQ l f a).bind λr=>if Bh l r.2 [60]=true then(mQ l f (r.2+1)).map (λu=>(zij 12 r.1 u.1,u.2))else Tw l r.2 [[61,61]] (some r))
def mQ (l:L1 Tok):Nat->Nat->Option (Tm×Nat)
 |0,_=>none
 |f+1,a=>(mS l f a).bind λr=>Sp l f r.1 r.2
def Sp (l:L1 Tok):Nat->Tm->Nat->Option (Tm×Nat)
 |0,_,_=>none
 |f+1,t,a=>Tw l a [[42]] (if Bh l a [43]=true then(mS l f (a+1)).bind λr=>Sp l f (zij 9 t r.1) r.2 else Tw l a [[45]] (some (t,a)))
def mS (l:L1 Tok):Nat->Nat->Option (Tm×Nat)
 |0,_=>none
 |f+1,a=>(UT l f a).bind λr=>eO l f r.1 r.2
def eO (l:L1 Tok):Nat->Tm->Nat->Option (Tm×Nat)
 |0,_,_=>none
 |f+1,t,a=>if QD l a=true then(UT l f a).bind λr=>eO l f (zij 6 t r.1) r.2 else some (t,a)
def UT (l:L1 Tok):Nat->Nat->Option (Tm×Nat)
 |0,_=>none
 |f+1,a=>
  if OW l a 4=true then some (.mk 1 (nAt l a) [] [] [],a+1)
  else if OW l a 1=true then some (.mk 4 0 (Dm l a) [] [],a+1)
  else if OW l a 2=true then
   if Bh l (a+1) [40]=true then(OH l f (-1) (a+1)).map λr=>(.mk 14 0 (Dm l a) r.1 [],r.2)
   else some (.mk 14 0 (Dm l a) [] [],a+1)
  else Tw l a [tru,iN] (if Bh l a yK=true then ZH l f (a+1)
  else if Bh l a [40]=true then
   Tw l (a+1) [[41]] ((DV l f (a+1)).bind λr=>after l r.2 [41] (some (r.1,r.2+1)))
  else if OW l a 3=true then tH l f a
  else none)
def tH (l:L1 Tok):Nat->Nat->Option (Tm×Nat)
 |0,_=>none
 |f+1,a=>
  if(FY (Dm l a)).1=0 then none
  else if 0<(FY (Dm l a)).2 then(OH l f (FY (Dm l a)).2 (a+1)).map λr=>(.mk (FY (Dm l a)).1 0 [] r.1 [],r.2)
  else if(FY (Dm l a)).2<0 then
   after l (a+1) [40] (if OW l (a+2) 4=true then after l (a+3) [44] ((DV l f (a+4)).bind λr=>after l r.2 [41] (some (.mk (FY (Dm l a)).1 (nAt l (a+2)) [] [r.1] [],r.2+1)))else none)
  else some (.mk (FY (Dm l a)).1 0 [] [] [],a+1)
def OH (l:L1 Tok):Nat->Int->Nat->Option (L1 Tm×Nat)
 |0,_,_=>none
 |f+1,n,a=>after l a [40] ((DV l f (a+1)).bind λr=>PE l f n [r.1] r.2)
def PE (l:L1 Tok):Nat->Int->L1 Tm->Nat->Option (L1 Tm×Nat)
 |0,_,_,_=>none
 |f+1,n,h,a=>
  if(n<0/\Bh l a [44]=true)\/(h.length:Int)<n then after l a [44] ((DV l f (a+1)).bind λr=>PE l f n (h++[r.1]) r.2)
  else after l a [41] (some (h,a+1))
def ZH (l:L1 Tok):Nat->Nat->Option (Tm×Nat)
 |0,_=>none
 |f+1,a=>(DV l f a).bind λr=>after l r.2 [123] (PG l f [] [r.1] (r.2+1))
def PG (l:L1 Tok):Nat->L1 Y->L1 Tm->Nat->Option (Tm×Nat)
 |0,_,_,_=>none
 |f+1,ps,h,a=>(mR l f a).bind λr=>after l r.2 [45,62] ((DV l f (r.2+1)).bind λu=>
   if Bh l u.2 [124]=true then PG l f (ps++[r.1]) (h++[u.1]) (u.2+1)else after l u.2 [125] (some (.mk 15 0 [] (h++[u.1]) (ps++[r.1]),u.2+1)))
def mR (l:L1 Tok):Nat->Nat->Option (Y×Nat)
 |0,_=>none
 |f+1,a=>Tw l a [[95]] (
  if OW l a 1=true then some (.mk 2 0 (Dm l a) [],a+1)
  else if OW l a 4=true then none else Tw l a [tru,iN,[40]] (if OW l a 2=true then
   if Bh l (a+1) [40]=true then(Re l f [] (a+2)).map λr=>(.mk 6 0 (Dm l a) r.1,r.2)
   else some (.mk 6 0 (Dm l a) [],a+1)
  else none))
def Re (l:L1 Tok):Nat->L1 Y->Nat->Option (L1 Y×Nat)
 |0,_,_=>none
 |f+1,ps,a=>(mR l f a).bind λr=>if Bh l r.2 [44]=true then Re l f (ps++[r.1]) (r.2+1)else after l r.2 [41] (some (ps++[r.1],r.2+1))
end
def PF (l:L1 Tok) (a:Nat):Option (Y×Nat):=Tw l (a+1) [[45,62]] (
 if Bh l a [105,110,116]=true then some (.mk 1 0 [] [],a+1)
 else if Bh l a [98,111,111,108]=true then some (.mk 2 0 [] [],a+1)
 else if Bh l a [117,110,105,116]=true then some (.mk 3 0 [] [],a+1)
 else Tw l a [[99,101,108,108],[99,104,97,110],[116,97,115,107],[63],[40]] (if OW l a 2=true then some (.mk 8 0 (Dm l a) [],a+1)else none))
def XY (l:L1 Tok):Nat->L1 Y->Nat->Option (L1 Y×Nat)
 |0,_,_=>none
 |f+1,h,a=>(PF l a).bind λr=>if Bh l r.2 [44]=true then XY l f (h++[r.1]) (r.2+1)else after l r.2 [41] (some (h++[r.1],r.2+1))
def XX (l:L1 Tok):Nat->L1 Cd->Nat->Option (L1 Cd×Nat)
 |0,_,_=>none
 |f+1,h,a=>if OW l a 2=true then
   ((if Bh l (a+1) [40]=true then XY l f [] (a+2)else some ([],a+1))).bind λr=>
    if Bh l r.2 [124]=true then XX l f (h++[⟨Dm l a,r.1⟩]) (r.2+1)else after l r.2 [59] (some (h++[⟨Dm l a,r.1⟩],r.2+1))
  else none
def tG (l:L1 Tok) (f:Nat) (a:Nat):Option (Dt×Nat):=if OW l a 2=true then after l (a+1) [61] ((XX l f [] (a+2)).map λr=>(⟨Dm l a,r.1⟩,r.2))else none
def zi8 (l:L1 Tok) (f:Nat) (a:Nat):Option (Fd×Nat) :=
 if OW l a 1=true then after l (a+1) [40] (if OW l (a+2) 1=true then after l (a+3) [58] ((PF l (a+4)).bind λr=>after l r.2 [41] (after l (r.2+1) [58] ((PF l (r.2+2)).bind λu=>
  after l u.2 [61] ((DV l f (u.2+1)).bind λv=>after l v.2 [59] (some (⟨Dm l a,Dm l (a+2),r.1,u.1,v.1⟩,v.2+1))))))else none)else none
def Rf (l:L1 Tok):Nat->L1 Dt->Nat->Option (L1 Dt×Nat)
 |0,_,_=>none
 |f+1,h,a=>if Bh l a [116,121,112,101]=true then(tG l f (a+1)).bind λr=>Rf l f (h++[r.1]) r.2 else some (h,a)
def XW (l:L1 Tok):Nat->L1 Fd->Nat->Option (L1 Fd×Nat)
 |0,_,_=>none
 |f+1,h,a=>if Bh l a [102,117,110]=true then(zi8 l f (a+1)).bind λr=>XW l f (h++[r.1]) r.2 else some (h,a)
def ZG (l:L1 Tok) (f:Nat):Option (Md×Nat):=after l 0 [109,111,100,117,108,101] (if OW l 1 1=true then after l 2 [123] ((Rf l f [] 3).bind λr=>(XW l f [] r.2).bind λu=>after l u.2 [125] (some (⟨Dm l 1,r.1,u.1⟩,u.2+1)))else none)
def znf {β:Type} (a b:L1 (Nat×β)) (t:Nat):lk (a++b) t=(match lk a t with|some x=>some x|none=>lk b t):=by induction a with|nil=>rfl|cons p r h=>{simp only[Dj,lk];split<;>simp_all}
def TTok.app {a b:TT} (q:TTok P a) (r:TTok P b):TTok P (a++b):=λt ti h=>by{rw[znf]at h;cases e:lk a t with|some x=>rw[e]at h;cases h;exact q t _ e|none=>{rw[e]at h;exact r t _ h}}
def ttJ:TT:=bZ++[
 (238,⟨.ptr 279,false,1,8,[.imm .nilp]⟩),
 (283,⟨.struct [(0,281),(1,9),(2,3),(3,3)],true,4,40,[.imm (.int .i64 0),.imm (.str []),.imm (.int .i64 0),.imm (.int .i64 0)]⟩),
 (275,⟨.sl 283,false,1,24,[.nils]⟩),
 (279,⟨.struct [(0,275),(1,3),(2,4)],true,3,40,[.nils,.imm (.int .i64 0),.imm (.bool false)]⟩),
 (281,⟨.int .i64,false,1,8,[.imm (.int .i64 0)]⟩),
 (73,⟨.sl 9,false,1,24,[.nils]⟩)]
def AO:TTok prog ttJ:=TTok.app Aj (.of_eq (l:=[238,283,275,279,281,73]) (by kernel_rfl))
section
variable {k:L1 DI}
def jd (r:L1 Pt) (h:run ttJ n 300 r todo env st aa []=.at k q au ids' ob) (u:A8 ob) (z:Tq1 n F Q k q au ids'):Tq2 n F Q todo env st aa:=JY AO mixed 300 r h u z
def AA (h:run ttJ n 300 [] todo env st aa []=.at k q au ids' ob) (u:Tq1 n F Q k q au ids') (r:A8 ob:=by simp):Tq2 n F Q todo env st aa:=jd [] h r u
def gL (h:run ttJ n 300 [] todo env st aa []=.at k q au ids' ob) (u:Tq1 n F Q k q au ids') (r:A8 ob:=by simp[Ap]):Tq2 n F Q todo env st aa:=jd [] h r u
def jg (r:L1 Pt) (h:run ttJ n 300 r todo env st aa []=.at k q au ids' ob) (u:A8 ob) (z:Tq1 n F Q k q au ids'):Tq1 n F Q todo env st aa:=Iw AO mixed 300 r h u z
def Av (h:run ttJ n 300 [] todo env st aa []=.at k q au ids' ob) (u:Tq1 n F Q k q au ids') (r:A8 ob:=by simp):Tq1 n F Q todo env st aa:=jg [] h r u
def NT (h:run ttJ n 300 [] todo env st aa []=.at k q au ids' ob) (u:Tq1 n F Q k q au ids') (r:A8 ob:=by simp[Ap]):Tq1 n F Q todo env st aa:=jg [] h r u
def jgf (f:Nat) (h:run ttJ n f [] todo env st aa []=.at k q au ids' ob) (r:A8 ob) (u:Tq1 n F Q k q au ids'):Tq1 n F Q todo env st aa:=Iw AO mixed f [] h r u
def ji {m:Int} {t:Nat} (h:Fm ttJ n env todo=some ⟨es,m,sz,e,g,ob,some t,r⟩) (u:Ap g->0<=m/\es[m.toNat]?=some c/\c.length=sz) (q:A8 ob) (z:Tq1 n F Q r ((t,gD g (.ip e c 0))::env) st aa):Tq1 n F Q todo env st aa:=G4 AO h u q z
def jiz {t:Nat} (h:Fm ttJ n env todo=some ⟨es,(i:Int),sz,e,g,ob,some t,r⟩) (u:es[i]?=some c) (z:Tq1 n F Q r ((t,gD g (.ip e c 0))::env) st aa) (A:c.length=sz:=by simp) (q:A8 ob:=by simp):Tq1 n F Q todo env st aa:=ji h (λ_=>⟨by omega,by simpa using u,A⟩) q z
def zno {t:Nat} (h:Fm ttJ n env todo=some ⟨es,(i:Int),sz,e,g,ob,some t,r⟩) (u:es[i]?=some c) (z:Tq1 n F Q r ((t,gD g (.ip e c 0))::env) st aa) (A:c.length=sz:=by simp) (q:A8 ob:=by simp[Ap]):Tq1 n F Q todo env st aa:=ji h (λ_=>⟨by omega,by simpa using u,A⟩) q z
end
def Ys (c:UInt8):Tq3 309 [.int .u8 c.toNat] (.bool (WV c)):=by refine Ac AO func309 O [1,2]<|NT O<|Ab O O (af _ ?_);simp[WV,ax];norm_cast
def zX (c:UInt8):Tq3 311 [.int .u8 c.toNat] (.bool (zf3 c)):=by refine Ac AO func311 O [1,2]<|NT O<|Ab O O (af _ ?_);simp[zf3,ax];norm_cast
def jB (c:UInt8):Tq3 312 [.int .u8 c.toNat] (.bool (Q1 c)):=by refine Ac AO func312 O [1,2]<|NT O<|Ab O O (af _ ?_);simp[Q1,ax];norm_cast
def xC {d:Bool} {c:UInt8} (h:s[a]?=some c):I5 s a d=if(if d=true then Q1 c else WV c)=true then I5 s (a+1) d+1 else 0:=by unfold I5;rw[Au h,WN];cases d<;>rfl
def zcp {d:Bool} (h:s.length<=a):I5 s a d=0:=by unfold I5;rw[Bu h];rfl
def sH (s:Z) (a:Nat) (d:Bool):I5 s a d<=s.length-a:=by have h:∀(p:UInt8->Bool) (l:Z),WN p l<=l.length:=λp l=>by{induction l with|nil=>simp[WN]|cons c r q=>{simp only[WN];split<;>simp<;>omega}};have:=h (if d=true then Q1 else WV) (s.drop a);rw[Jg]at this;exact this
def Z2 (s:Z) (a:Nat) (d:Bool) (C:a<=s.length) (V:s.length<=1000000):Tq3 310 [.str s,.int .i64 a,.bool d] (.int .i64 (I5 s a d)):=by refine Ac AO func310 O [1,2]<|Av O<|Al (λn:Nat=>[(7,i7 n),(0,.imm (.str s)),(1,i7 a),(2,.imm (.bool d))]) (λ_=>[]) [1,2] (λn=>s.length-n) (λn=>a<=n/\n<=s.length/\I5 s a d=n-a+I5 s n d) a ⟨BO _,C,by omega⟩ B0 ab O λn D B=>?_;obtain⟨G,K,r⟩:=D;have N:=jB (s[n]?.getD 0);have R:=Ys (s[n]?.getD 0);by_cases u:n<s.length;{let⟨c,q⟩:=At u;have A:s[n]?.getD 0=c:=by{rw[q];rfl};have z:∀o,(if d=true then Q1 c else WV c)=o->I5 s a d=if o=true then(n+1-a)+I5 s (n+1) d else n-a:=λo h=>by{rw[r,xC q,h];split<;>omega};rw[<- A]at z;refine jd [] O (by simp[Ap];omega) ?_;cases d with|true=>{refine Bt O N<|NT O<|Ai (v:=.bool false) O (λq=>by simp[Ap]at q) (by simp[Ap])<|jg [] O (by simp[Ap];grind) ?_;have:=z _ O;simp only[ar]at this;generalize Q1 (s[n]?.getD 0)=o at *;cases o with|true=>{refine Aa O (λh=>?_) (λh=>by exfalso;simp[u]at h);exact AA O<|Ad (B (n+1) (by omega) ⟨by omega,by omega,by simpa using this⟩) ⟨Bf,AC⟩ ab O}|false=>{exact Ag O λh=>Az O<|AA O<|Af ⟨_,rfl,tV (af _ (by rw[this];simp;rw[Gx (by omega) (by omega)];omega)),ab⟩}}|false=>{refine Ai (v:=.bool false) O (λq=>by simp[Ap]at q) (by simp[Ap])<|NT O<|Bt O R<|NT O ?_;have:=z _ O;simp only[DN,aw]at this;generalize WV (s[n]?.getD 0)=o at *;cases o with|true=>{refine Aa O (λh=>?_) (λh=>by exfalso;simp[u]at h);exact AA O<|Ad (B (n+1) (by omega) ⟨by omega,by omega,by simpa using this⟩) ⟨Bf,AC⟩ ab O}|false=>{exact Ag O λh=>Az O<|AA O<|Af ⟨_,rfl,tV (af _ (by rw[this];simp;rw[Gx (by omega) (by omega)];omega)),ab⟩}}};rw[zcp (a:=n) (by omega)]at r;exact jd [] O (by simp[Ap];omega)<|Ai (v:=.bool false) O (λq=>by simp[Ap]at q;omega) (by simp[Ap])<|jg [] O (by simp[Ap];omega)<|Ai (v:=.bool false) O (λq=>by simp[Ap]at q;omega) (by simp[Ap])<|jg [] O (by simp[Ap];omega)<|Ag O λh=>Az O<|AA O<|Af ⟨_,rfl,tV (af _ (by rw[r,Gx (by omega) (by omega)];omega)),ab⟩
def zcg:Tq3 320 [] (.sl (Cq signsL)):=by exact Ac AO func320 O [1]<|Av O<|Ab O O O
def lN {t:Z} {l:L1 Z} (h:l[i]?=some x):Ob t (l.drop i)=if x.length<=t.length/\t.take x.length=x then x else Ob t (l.drop (i+1)):=by rw[Au h,Ob]
def ziv (s:Z) (a:Nat) (d:a<=s.length) (e:s.length<=1000000):Tq3 315 [.str s,.int .i64 a] (.str (XE s a)):=by have N:=zcg;have u:∀x∈signsL,x.length<=2:=by{decide};have R:signsL.length<=18:=by{decide};unfold XE;generalize signsL=l at *;refine Ac AO func315 O [1]<|Av O<|Ah O N<|Av O<|Al (λi:Nat=>[(6,i7 i),(5,.imm (.sl (Cq l))),(0,.imm (.str s)),(1,i7 a)]) (λ_=>[]) [1] (λi=>l.length-i) (λi=>i<=l.length/\Ob (s.drop a) l=Ob (s.drop a) (l.drop i)) 0 ⟨AK _,rfl⟩ B0 ab O λi V W=>?_;obtain⟨b,q⟩:=V;refine AA O<|Aa O (λh=>?_) (λh=>?_);have r:i<l.length:=by{simp at h;omega};let⟨x,B⟩:=At r;have A:=MQ B;have c:=u x (AF B);rw[lN B]at q;refine AA O<|jiz O A<|NT O<|zno O A ?_;have C:IntKind.i64.wrap ((s.length:Int)-a)=s.length-a:=Gx (by omega) (by omega);have D:IntKind.i64.wrap ((a:Int)+x.length)=a+x.length:=Gx (by omega) (by omega);refine jg [] O (by simp[Ap,C,D];omega)<|zno O A<|jg [] O (by simp[Ap];kernel_rfl) ?_;have G:(x.length<=(s.drop a).length/\(s.drop a).take x.length=x)↔((x.length:Int)<=s.length-a/\(s.drop a).take (a+x.length-a)=x):=by{rw[Jg,nL];refine and_congr ?_ cj;omega};have z:((a:Int)+(x.length:Int)).toNat=a+x.length:=by{omega};refine Aa O (λh=>?_) (λh=>?_);rw[C,D,z]at h;rw[ae (G.2 (by simpa[and_comm]using h))]at q;exact AA O<|jiz O A<|Av O<|Af ⟨_,rfl,tV (af _ q.symm),ab⟩;rw[C,D,z]at h;rw[ac (λK=>by have:=G.1 K;simp[this]at h;exact h K.2)]at q;exact AA O<|Ad (W (i+1) (by omega) ⟨by omega,q⟩) ⟨Bf,AC⟩ ab O;have r:l.length<=i:=by{simp at h;omega};rw[Bu r]at q;exact Az O<|AA O<|Af ⟨_,rfl,tV (af _ q.symm),ab⟩
def jC {c:UInt8} (h:Q1 c=true):48<=c.toNat/\c.toNat<=57:=by simp only[Q1,Am,al,ax]at h;exact h
def gN (s:Z) (a:Nat) (D:a<s.length) (r:s.length<=1000000) (u:Q1 (s.getD a 0)=true) (z:I5 s a true=1):Tq3 313 [.str s,.int .i64 a] (.int .i64 1):=by have q:=Z2 s a true (by omega) r;let⟨A,B⟩:=jC u;have C:s[a]?.getD 0=s.getD a 0:=by{simp};rw[<- C]at A B;rw[z]at q;refine Ac AO func313 O [1]<|jg [] O (by simp;omega)<|Aa O (λh=>by exfalso;simp at h;omega) (λh=>?_);exact AA O<|Ah O q<|jg [] O (by simp[Ap];omega)<|Ag O λh=>AA O<|Af ⟨_,rfl,tV (by simp;rfl),ab⟩
def mU (c:UInt8) (q:Q1 c=true):Tq3 314 [.str [c]] (.int .i64 ((c.toNat:Int)-48)):=by let⟨r,u⟩:=jC q;have z:IntKind.i64.wrap (IntKind.i64.wrap 0+IntKind.i64.wrap (IntKind.u8.wrap ((c.toNat:Int)-48)))=(c.toNat:Int)-48:=by{obtain⟨k,C,e⟩:∃k:Nat,k<10/\c.toNat=48+k:=⟨c.toNat-48,by omega,by omega⟩;rw[e];clear e r u q;revert k;decide};refine Ac AO func314 O [1]<|Av O<|Aa O (λh=>by exfalso;simp at h;omega) (λh=>?_);refine AA O<|Al (λi:Nat=>[(4,i7 i),(3,i7 ((if i=0 then 0 else(c.toNat:Int)-48))),(0,.imm (.str [c]))]) (λ_=>[]) [1] (λi=>1-i) (λi=>i<=1) 0 (AK _) AC ab O λi D A=>?_;rcases Nat.lt_or_ge i 1 with B|hge;obtain rfl:i=0:=by{omega};exact AA O<|Aq O λh=>AA O<|Ad (A 1 (by omega) (BO _)) ⟨B8 O,B8 (by simp;exact z),AG⟩ ab O;obtain rfl:i=1:=by{omega};exact AA O<|Ag O λh=>Az O<|AA O<|Af ⟨_,rfl,tV (by simp),ab⟩
def lK {c:UInt8} (h:s[a]?=some c):Gc s a=if Wu c=true then Gc s (a+1)else a:=by unfold Gc;rw[Au h,WN];split<;>omega
def wT (h:s.length<=a):Gc s a=a:=by unfold Gc;rw[Bu h];rfl
def sI (p:UInt8->Bool):∀l:Z,WN p l<=l.length
 |[]=>BO _
 |c::r=>by have:=sI p r;simp only[WN];split<;>simp<;>omega
def dB (s:Z) (a:Nat) (h:a<=s.length):a<=Gc s a/\Gc s a<=s.length:=by unfold Gc;have:=sI Wu (s.drop a);rw[Jg]at this;omega
def kD (c:UInt8):(bif (bif (c.toNat:Int)==32 then true else(c.toNat:Int)==9)then true else(c.toNat:Int)==10)=Wu c:=by have e:∀k:UInt8,(decide (c=k))=((c.toNat:Int)==(k.toNat:Int)):=λk=>by{rw[FC,de,ao,ZN,UInt8.toNat_inj]};unfold Wu;rw[e 32,e 9,e 10];show _=((c.toNat:Int)==32||(c.toNat:Int)==9||(c.toNat:Int)==10);cases((c.toNat:Int)==32)<;>cases((c.toNat:Int)==9)<;>rfl
def U2 (s:Z) (a:Nat) (N:a<=s.length) (b:s.length<=1000000) (C:s.getD (Gc s a) 0≠47):Tq3 299 [.str s,.int .i64 a] (.int .i64 (Gc s a)):=by refine Ac AO func299 O [1]<|Av O<|Al (λn:Nat=>[(1,i7 n),(0,.imm (.str s))]) (λ_=>[]) [1] (λn=>s.length-n) (λn=>n<=s.length/\Gc s a=Gc s n) a ⟨N,rfl⟩ AP ab O λn R V=>?_;obtain⟨W,q⟩:=R;refine AA O<|Aa O (λh=>?_) (λh=>?_);have A:n<s.length:=by{simp at h;omega};let⟨c,u⟩:=At A;have z:s.getD n 0=c:=by{simp[u]};have r:=lK u;refine jd [] O (by simp[Ap];omega)<|Aa O (λh=>?_) (λh=>?_);have h:(bif (bif ((s.getD n 0).toNat:Int)==32 then true else((s.getD n 0).toNat:Int)==9)then true else((s.getD n 0).toNat:Int)==10)=true:=h;rw[kD,z]at h;rw[ae h]at r;exact AA O<|Ad (V (n+1) (by omega) ⟨by omega,by rw[q,r]⟩) ⟨Bf,AG⟩ ab O;have h:(bif (bif ((s.getD n 0).toNat:Int)==32 then true else((s.getD n 0).toNat:Int)==9)then true else((s.getD n 0).toNat:Int)==10)=false:=h;rw[kD,z]at h;rw[ac (by rw[h];simp)]at r;rw[q,r,z]at C;have D:IntKind.i64.wrap ((s.length:Int)-n)=s.length-n:=Gx (by omega) (by omega);have G:IntKind.i64.wrap ((n:Int)+2)=n+2:=Gx (by omega) (by omega);refine jd [] O (by simp[Ap,D,G];omega)<|Aa O (λh=>?_) (λh=>?_);exfalso;rw[D,G,show((n:Int)+2).toNat-(n:Int).toNat=2 by omega,show(n:Int).toNat=n from rfl,Au u]at h;have K:((c::s.drop (n+1)).take 2==[47,47])=true:=by{cases e:(decide ((s.length:Int)-n>=2))with|false=>rw[e]at h;cases h|true=>{rw[e]at h;exact h}};simp at K;exact C K.1;exact AA O<|Af ⟨_,rfl,tV (by rw[q,r]),ab⟩;have B:s.length<=n:=by{simp at h;omega};rw[wT B]at q;exact Az O<|AA O<|Af ⟨_,rfl,tV (by rw[q]),ab⟩
def zji (s:Z) (a:Nat) (t:Tok) (i:a<s.length) (G:s.length<=1000000) (h:Ye s a=some t):Tq3 300 [.str s,.int .i64 a] (.agg (MP t)):=by{have z:=Ys (s.getD a 0);have C:=zX (s.getD a 0);have K:=jB (s.getD a 0);unfold Ye at h;by_cases A:WV (s.getD a 0)=true;rw[ae A]at h;rw[A]at z;have N:=Z2 s a false (by omega) G;have R:=sH s a false;have k:=zh1 (YO s a (I5 s a false));generalize I5 s a false=r at *;have q:IntKind.i64.wrap ((a:Int)+r)=a+r:=Gx (by omega) (by omega);have D:(s.drop (a:Int).toNat).take ((IntKind.i64.wrap ((a:Int)+r)).toNat-(a:Int).toNat)=YO s a r:=by{rw[q,show((a:Int)+r).toNat-(a:Int).toNat=r by omega];rfl};have V:(YO s a r).length=r:=by{rw[YO,Gt,Jg];omega};refine Ac AO func300 O [1,2,3]<|jg [] O (by simp;omega)<|Ah O z<|Av O<|Aq O λh=>AA O<|Ah O N<|jg [] O (by simp[q];omega) ?_;rw[D];generalize YO s a r=x at *;refine Ah O k<|Av O ?_;generalize V6 x=o at *;cases o with|true=>{rw[ae O]at h;cases h;exact Aq O λh=>AA O<|Ab O O O}|false=>{rw[ac (by simp)]at h;cases h;refine Ag O λh=>AA O<|Aa O (λh=>?_) (λh=>?_);rw[ae (by simp at h;omega)];exact AA O<|Ab O O O;rw[ac (by simp at h;omega)];exact AA O<|Ab O O O};have A:WV (s.getD a 0)=false:=by{simpa using A};rw[ac (by rw[A];simp)]at h;rw[A]at z;by_cases B:zf3 (s.getD a 0)=true;rw[ae B]at h;rw[B]at C;have N:=Z2 s (a+1) false (by omega) G;have R:=sH s (a+1) false;have W:IntKind.i64.wrap ((a:Int)+1)=((a+1:Nat):Int):=by{rw[Gx (by omega) (by omega)];omega};generalize I5 s (a+1) false=r at *;have q:IntKind.i64.wrap (((a+1:Nat):Int)+r)=a+(1+r):=by{rw[Gx (by omega) (by omega)];omega};have D:(s.drop (a:Int).toNat).take ((IntKind.i64.wrap (((a+1:Nat):Int)+r)).toNat-(a:Int).toNat)=YO s a (1+r):=by{rw[q,show((a:Int)+(1+r)).toNat-(a:Int).toNat=1+r by omega];rfl};have V:(YO s a (1+r)).length=1+r:=by{rw[YO,Gt,Jg];omega};cases h;refine Ac AO func300 O [1,2,3]<|jg [] O (by simp;omega)<|Ah O z<|Av O<|Ag O λh=>jd [] O (by simp;omega)<|Ah O C<|Av O<|Aq O λh=>AA O ?_;rw[W];refine Ah O N<|jg [] O (by rw[q];simp;omega) ?_;rw[D];generalize YO s a (1+r)=x at *;refine Aa O (λh=>?_) (λh=>?_);rw[ae (by simp at h;omega)];exact AA O<|Ab O O O;rw[ac (by simp at h;omega)];exact AA O<|Ab O O O;have B:zf3 (s.getD a 0)=false:=by{simpa using B};rw[ac (by rw[B];simp)]at h;rw[B]at C;by_cases u:Q1 (s.getD a 0)=true;rw[ae u]at h;rw[u]at K;by_cases b:I5 s a true=1;rw[ae b]at h;cases h;have l:=gN s a i G u b;have m:=mU (s.getD a 0) u;have q:IntKind.i64.wrap ((a:Int)+1)=a+1:=Gx (by omega) (by omega);have D:(s.drop (a:Int).toNat).take ((IntKind.i64.wrap ((a:Int)+1)).toNat-(a:Int).toNat)=YO s a 1:=by{rw[q,show((a:Int)+1).toNat-(a:Int).toNat=1 by omega];rfl};have d:YO s a 1=[s.getD a 0]:=by{let⟨c,j⟩:=At i;rw[YO,Au j];simp[j]};refine Ac AO func300 O [1,2,3]<|jg [] O (by simp;omega)<|Ah O z<|Av O<|Ag O λh=>jd [] O (by simp;omega)<|Ah O C<|Av O<|Ag O λh=>jd [] O (by simp;omega)<|Ah O K<|NT O<|Aq O λh=>AA O<|Ah O l<|Av O<|Aq O λh=>jd [] O (by simp[q];omega) ?_;rw[D,d];exact Ah O m<|jg [] O (by simp;kernel_rfl)<|Ab O O O;rw[ac b]at h;cases h;have u:Q1 (s.getD a 0)=false:=by{simpa using u};rw[ac (by rw[u];simp)]at h;rw[u]at K;by_cases f:s.getD a 0=126;rw[ae f]at h;cases h;rw[ac f]at h;cases h;have n:=ziv s a (by omega) G;have g:((s.getD a 0).toNat:Int)≠126:=λe=>f (UInt8.toNat_inj.1 (ZN.1 (e:_=((126:UInt8).toNat:Int))));generalize XE s a=x at *;refine Ac AO func300 O [1,2,3]<|jg [] O (by simp;omega)<|Ah O z<|Av O<|Ag O λh=>jd [] O (by simp;omega)<|Ah O C<|Av O<|Ag O λh=>jd [] O (by simp;omega)<|Ah O K<|jg [] O (by simp[Ap];omega)<|Aa O (λh=>by exfalso;simp at h g;omega) (λh=>?_);refine AA O<|Ah O n<|Av O<|Aa O (λh=>?_) (λh=>?_);rw[ac (by simpa using h)];exact AA O<|Ab O O O;rw[ae (by simpa using h)];exact AA O<|Ab O O O} @[simp] theorem dTok_length (t:Tok):(MP t).length=4:=rfl
def zn2 (l:L1 Tok):∀c∈l.map MP,c.length=4:=λc h=>by obtain⟨x,_,rfl⟩:=C7.1 h;rfl
def yE {t:Tok} (B:a<s.length) (h:Ye s a=some t) (C:t.kind≠0):a+t.text.length<=s.length:=by have q:∀n,(YO s a n).length<=s.length-a:=λn=>by{rw[YO,Gt,Jg];omega};have A:∀(u:Z) (l:L1 Z),(Ob u l).length<=u.length:=λu l=>by{induction l with|nil=>simp[Ob]|cons x r D=>{rw[Ob];split<;>omega}};have z:=A (s.drop a) signsL;rw[Jg]at z;have z:(XE s a).length<=s.length-a:=z;unfold Ye at h;split at h;cases h;have:=q (I5 s a false);simp only;omega;split at h;cases h;have:=q (1+I5 s (a+1) false);simp only;omega;split at h;split at h;cases h;have:=q 1;simp only;omega;cases h;split at h;cases h;cases h;simp only;omega
def zld (s:Z) (l:L1 Tok) (V:s.length<=1000000) (f:Nat) (E:f<=1000000) (h:Ky f s (Gc s 0)=some l):Tq3 277 [.str s] (.tup [.sl (l.map MP),.int .i64 s.length]):=by have B:∀f a l,Ky f s a=some l->s.getD a 0≠47:=λf a l h=>by{cases f with|zero=>cases h|succ f=>{rw[Ky]at h;by_cases e:s.length<=a;simp[Og e];rw[ac e]at h;intro u;rw[ae u]at h;cases h}};have C:=U2 s 0 (AK _) V (B _ _ _ h);have W:=dB s 0 (AK _);refine Ac AO func277 O [1,2,3,4]<|Av O<|Ah O C<|Av O<|ML (e:=283) (sz:=4) 4 1 (by decide) O ?_;generalize Gc s 0=k at *;clear C;refine Al (λz:Nat×Nat×L1 Tok=>[(5,i7 z.2.1),(4,.own 1 (z.2.2.map MP).length),(0,.imm (.str s))]) (λz=>[(1,some (.row 283 4 (z.2.2.map MP)))]) [2,3,4] (λz=>z.1) (λz=>z.2.1<=s.length/\z.2.2.length+z.1=f/\∃r,Ky z.1 s z.2.1=some r/\z.2.2++r=l) (f,k,[]) ⟨W.2,by simp,l,h,rfl⟩ AC AG O λz m d=>?_;obtain⟨f,a,A⟩:=z;obtain⟨n,o,r,q,N⟩:=m;simp only at n o q N d;refine AA O<|Aa O (λh=>?_) (λh=>?_);have D:a<s.length:=by{simp at h;omega};cases f with|zero=>cases q|succ f=>{rw[Ky,ac (by omega)]at q;by_cases g:s.getD a 0=47;rw[ae g]at q;cases q;rw[ac g]at q;cases R:Ye s a with|none=>rw[R]at q;cases q|some t=>{rw[R]at q;simp only at q;by_cases u:t.kind=0;rw[ae u]at q;cases q;rw[ac u]at q;cases G:Ky f s (Gc s (a+t.text.length))with|none=>rw[G]at q;cases q|some p=>{rw[G]at q;cases q;have v:=zji s a t D V R;have b:=yE D R u;have i:=U2 s (a+t.text.length) b V (B _ _ _ G);have K:=dB s (a+t.text.length) b;obtain⟨t1,t2,t3,t4⟩:=t;simp only at u b i K G;generalize Gc s (a+t2.length)=x at *;refine AA O<|Ah O v<|Av O<|Aa O (λh=>by exfalso;simp at h;exact u h) (λh=>?_);refine AA O<|BK AO O ⟨by simp,by simp[maxLen];omega,by simp;omega,ab⟩ ?_;have w:IntKind.i64.wrap ((a:Int)+t2.length)=((a+t2.length:Nat):Int):=by{rw[Gx (by omega) (by omega)];omega};refine Av O ?_;rw[w];refine Ah O i<|Av O<|AR 1 3 O ?_;have j:(A++[(⟨t1,t2,t3,t4⟩:Tok)]).map MP=A.map MP++[MP ⟨t1,t2,t3,t4⟩]:=by{simp};exact Ad (d (f,x,A++[⟨t1,t2,t3,t4⟩]) (Di _) ⟨K.2,by simp only[AZ,Co,Cb];omega,p,G,by rw[Cl];exact N⟩) ⟨rfl,by rw[j];rfl,AG⟩ ⟨by rw[j];rfl,ab⟩ O}}};have c:s.length<=a:=by{simp at h;omega};have y:r=[]:=by{cases f with|zero=>cases q|succ f=>{rw[Ky,ae c]at q;cases q;rfl}};subst y;rw[JL]at N;subst N;exact Az O<|Cn 1 O<|AA O<|Ab O O O
def zbe (s:Z) (l:L1 Tok) (u:s.length<=8000) (f:Nat) (q:f<=1000000) (h:Ky f s (Gc s 0)=some l):Tq3 236 [.str s] (.tup [.sl (l.map MP),.int .i64 0]):=by have r:=zld s l (by omega) f q h;refine Ac AO func236 O [1,2]<|Av O<|Aa O (λh=>by exfalso;simp at h;omega) (λh=>?_);exact AA O<|Ah O r<|Av O<|Ag O λh=>AA O<|Ab O O O
def rdB (l:L1 Tok) (a:Nat):Blk:=.immb 279 3 [.sl (l.map MP),.int .i64 a,.bool false]
def Im (l:L1 Tok) (a:Nat):St:=[(1,some (rdB l a))]
def sO (s:Z) (l:L1 Tok) (q:s.length<=8000) (f:Nat) (r:f<=1000000) (h:Ky f s (Gc s 0)=some l):Tq4 170 [.imm (.str s)] [] (.ret (.tup [.ref 1 0,i7 0]) (Im l 0)):=by have u:=zbe s l q f r h;exact Ac AO func170 O [1,2]<|Av O<|Ah O u<|Av O<|Af ⟨_,AC⟩
def KV {l:L1 Tok} {t:Tok} (h:l[i]?=some t):(l.map MP)[i]?=some (MP t):=by simp[h]
def Py (l:L1 Tok) (a:Nat) (x:Z):Tq4 279 [.ref 1 0,.imm (.str x)] (Im l a) (.ret (.imm (.bool (Bh l a x))) (Im l a)):=by refine Ac AO func279 O [2,3]<|jg [] O (by simp[Ap];kernel_rfl) ?_;unfold Bh;cases h:l[a]? with|none=>{have q:l.length<=a:=OQ.1 h;refine Aa O (λh=>?_) (λh=>by exfalso;simp at h;omega);exact AA O<|Af ⟨_,AC⟩}|some t=>{have r:=(A9.1 h).1;have u:=KV h;refine Aa O (λh=>by exfalso;simp at h;omega) (λh=>?_);obtain⟨t1,t2,t3,t4⟩:=t;refine AA O<|jiz O u<|jg [] O (by simp;kernel_rfl)<|Af ⟨_,rfl,?_,AG⟩;show Pq (JD [D.imm (V.bool (bif (bif t1==5 then true else t1==3)then t2==x else false))]) (D.imm (V.bool ((t1==5||t1==3)&&t2==x)));cases(t1==5)<;>cases(t1==3)<;>rfl}
def DE {l:L1 Tok} (u:l.length<=10000) (h:Bh l a x=true):Tq4 239 [.ref 1 0,.imm (.str x)] (Im l a) (.ret (.imm (.bool true)) (Im l (a+1))):=by have q:=Py l a x;rw[h]at q;have r:a<l.length:=by{cases e:l[a]? with|none=>rw[Bh,e]at h;cases h|some t=>{exact(A9.1 e).1}};have w:IntKind.i64.wrap ((a:Int)+1)=((a+1:Nat):Int):=by{rw[Gx (by omega) (by omega)];omega};refine Ac AO func239 O [2,3]<|Av O<|Ae O q A2 O<|Av O<|Aq O λh=>AA O ?_;rw[w];exact Af ⟨_,AC⟩
def By {l:L1 Tok} (h:Bh l a x=false):Tq4 239 [.ref 1 0,.imm (.str x)] (Im l a) (.ret (.imm (.bool false)) (Im l a)):=by have q:=Py l a x;rw[h]at q;exact Ac AO func239 O [2,3]<|Av O<|Ae O q A2 O<|Av O<|Ag O λh=>AA O<|Af ⟨_,AC⟩
def BR {l:L1 Tok} (q:l.length<=10000) (h:Bh l a x=true):Tq4 237 [.ref 1 0,.imm (.str x)] (Im l a) (.ret (.imm (.tup [])) (Im l (a+1))):=by have r:=DE q h;exact Ac AO func237 O [2,3]<|Av O<|Ae O r A2 O<|Av O<|Ag O λh=>AA O<|Bw ⟨[],AC⟩
def MA (l:L1 Tok) (a:Nat) (k:Int):Tq4 278 [.ref 1 0,i7 k] (Im l a) (.ret (.imm (.bool (OW l a k))) (Im l a)):=by refine Ac AO func278 O [2,3]<|NT O ?_;unfold OW;cases h:l[a]? with|none=>have q:l.length<=a:=OQ.1 h;refine ji O (c:=[.int .i64 0,.str [],.int .i64 0,.int .i64 0]) (λr=>by exfalso;simp[Ap]at r;omega) (by simp[Ap])<|jg [] O (by simp[Ap];kernel_rfl)<|Af ⟨_,rfl,?_,AG⟩;rw[show decide ((a:Int)<((l.map MP).length:Int))=false from aq (by simp;omega)];rfl|some t=>{have u:=(A9.1 h).1;have z:=KV h;obtain⟨t1,t2,t3,t4⟩:=t;refine zno O z<|jg [] O (by simp[Ap];kernel_rfl)<|Af ⟨_,rfl,?_,AG⟩;rw[show decide ((a:Int)<((l.map MP).length:Int))=true from bf (by simp;omega)];rfl}
def E4 {l:L1 Tok} {k:Int} (B:l.length<=10000) {t:Tok} (q:l[a]?=some t) (u:t.kind=k):Tq4 238 [.ref 1 0,i7 k] (Im l a) (.ret (.imm (.agg (MP t))) (Im l (a+1))):=by have r:=MA l a k;rw[OW,q]at r;simp only[u,dl]at r;have z:=(A9.1 q).1;have A:=KV q;have w:IntKind.i64.wrap ((a:Int)+1)=((a+1:Nat):Int):=by{rw[Gx (by omega) (by omega)];omega};obtain⟨t1,t2,t3,t4⟩:=t;refine Ac AO func238 O [2,3,4]<|Av O<|Ae O r A2 O<|Av O<|Ag O λh=>AA O<|jiz O A<|jg [] O (by simp;kernel_rfl) ?_;rw[w];exact Af ⟨_,AC⟩
def Xs (l:L1 Tok):Tq4 172 [.ref 1 0] (Im l l.length) (.ret (.imm (.bool true)) (Im l l.length)):=by refine Ac AO func172 O [2,3]<|jg [] O (by simp[Ap];kernel_rfl)<|Af ⟨_,rfl,?_,AG⟩;rw[show((l.length:Int)==((l.map MP).length:Int))=true by simp];rfl
def Fh {l:L1 Tok} {k:Int} (h:OW l a k=true):∃t,l[a]?=some t/\t.kind=k/\Dm l a=t.text/\nAt l a=t.n:=by unfold OW at h;unfold Dm nAt;cases e:l[a]? with|none=>rw[e]at h;cases h|some t=>{rw[e]at h;exact⟨t,rfl,by simpa using h,rfl,rfl⟩}
def Bd {l:L1 Tok} {r:Option α} {v:α} (h:after l a s r=some v):Bh l a s=true/\r=some v:=by unfold after at h;split at h;{exact⟨by assumption,h⟩};cases h
def EK {l:L1 Tok} {s:L1 Z} {r:Option α} {v:α} (h:Tw l a s r=some v):(∀x∈s,Bh l a x=false)/\r=some v:=by unfold Tw at h;split at h;cases h;rename_i q;refine⟨λx u=>?_,h⟩;cases e:Bh l a x with|false=>rfl|true=>{exact absurd (EJ.2 ⟨x,u,e⟩) q}
def YW (s:Z):Tq3 324 [.str s] (.tup [.int .i64 (FY s).1,.int .i64 (FY s).2]):=by unfold FY;refine Ac AO func324 O [1]<|Av O ?_;by_cases q:s=[99,101,108,108];rw[ae q];subst q;exact Aq O λh=>AA O<|Ab O O O;rw[ac q];refine Aa O (λh=>by exfalso;simp at h;exact q h) (λh=>?_);refine AA O ?_;by_cases r:s=[103,101,116];rw[ae r];subst r;exact Aq O λh=>AA O<|Ab O O O;rw[ac r];refine Aa O (λh=>by exfalso;simp at h;exact r h) (λh=>?_);refine AA O ?_;by_cases u:s=[112,117,116];rw[ae u];subst u;exact Aq O λh=>AA O<|Ab O O O;rw[ac u];refine Aa O (λh=>by exfalso;simp at h;exact u h) (λh=>?_);refine AA O ?_;by_cases z:s=[115,112,97,119,110];rw[ae z];subst z;exact Aq O λh=>AA O<|Ab O O O;rw[ac z];refine Aa O (λh=>by exfalso;simp at h;exact z h) (λh=>?_);refine AA O ?_;by_cases A:s=[106,111,105,110];rw[ae A];subst A;exact Aq O λh=>AA O<|Ab O O O;rw[ac A];refine Aa O (λh=>by exfalso;simp at h;exact A h) (λh=>?_);refine AA O ?_;by_cases B:s=[99,104,97,110];rw[ae B];subst B;exact Aq O λh=>AA O<|Ab O O O;rw[ac B];refine Aa O (λh=>by exfalso;simp at h;exact B h) (λh=>?_);refine AA O ?_;by_cases C:s=[115,101,110,100];rw[ae C];subst C;exact Aq O λh=>AA O<|Ab O O O;rw[ac C];refine Aa O (λh=>by exfalso;simp at h;exact C h) (λh=>?_);refine AA O ?_;by_cases D:s=[116,97,107,101];rw[ae D];subst D;exact Aq O λh=>AA O<|Ab O O O;rw[ac D];refine Aa O (λh=>by exfalso;simp at h;exact D h) (λh=>?_);refine AA O ?_;by_cases G:s=[111,117,116];rw[ae G];subst G;exact Aq O λh=>AA O<|Ab O O O;rw[ac G];refine Aa O (λh=>by exfalso;simp at h;exact G h) (λh=>?_);refine AA O ?_;by_cases K:s=[105,110,112,117,116];rw[ae K];subst K;exact Aq O λh=>AA O<|Ab O O O;rw[ac K];refine Aa O (λh=>by exfalso;simp at h;exact K h) (λh=>?_);refine AA O ?_;by_cases N:s=[114,101,115,101,116];rw[ae N];subst N;exact Aq O λh=>AA O<|Ab O O O;rw[ac N];refine Aa O (λh=>by exfalso;simp at h;exact N h) (λh=>?_);refine AA O ?_;by_cases R:s=[112,97,117,115,101];rw[ae R];subst R;exact Aq O λh=>AA O<|Ab O O O;rw[ac R];refine Aa O (λh=>by exfalso;simp at h;exact R h) (λh=>?_);exact AA O<|Ab O O O
def zbc (l:L1 Tok) (a:Nat):Tq4 318 [.ref 1 0] (Im l a) (.ret (.imm (.bool (QD l a))) (Im l a)):=by refine Ac AO func318 O [2,3]<|jg [] O (by simp[Ap];kernel_rfl) ?_;unfold QD;cases h:l[a]? with|none=>{have u:l.length<=a:=OQ.1 h;refine Aa O (λh=>?_) (λh=>by exfalso;simp at h;omega);exact AA O<|Af ⟨_,AC⟩}|some t=>{have z:=(A9.1 h).1;have A:=KV h;obtain⟨t1,t2,t3,t4⟩:=t;have B:=YW t2;simp only;generalize FY t2=c at *;obtain⟨q,C⟩:=c;refine Aa O (λh=>by exfalso;simp at h;omega) (λh=>?_);refine AA O<|jiz O A<|jg [] O (by simp;kernel_rfl) ?_;by_cases r:t1=3;subst r;rw[ae O];refine Aq O λh=>AA O<|Ah O B<|NT O<|Af ⟨_,rfl,?_,AG⟩;show Pq (JD [D.imm (V.bool (bif (bif (bif !(q==0)then true else t2==tru)then true else t2==iN)then true else t2==yK))]) _;rw[show decide (q≠0) = !(q==0) by by_cases e:q=0<;>simp[e]];cases(q==0)<;>cases(t2==tru)<;>cases(t2==iN)<;>cases(t2==yK)<;>rfl;rw[ac r];refine Aa O (λh=>by exfalso;simp at h;exact r h) (λh=>?_);refine gL O<|Af ⟨_,rfl,?_,AG⟩;show Pq (JD [D.imm (V.bool (bif !(t1==5)then true else t2==[40]))]) _;rw[show decide (t1≠5) = !(t1==5) by by_cases e:t1=5<;>simp[e]];cases(t1==5)<;>cases(t2==[40])<;>rfl}
def kZ (op:Int) (a b:Tm):Tq3 244 [.int .i64 op,.agg (dTmc a),.agg (dTmc b)] (.agg (dTmc (zij op a b))):=by obtain⟨h,q,r,u,z⟩:=a;obtain⟨A,B,C,D,G⟩:=b;exact Ac AO func244 O [1,2,3]<|Av O<|Ab O O O
def wV {l:L1 Tok} {t:Y} (C:l.length<=10000) (h:PF l a=some (t,b)):Tq4 301 [.ref 1 0] (Im l a) (.ret (.imm (.agg (As t))) (Im l b))/\Bh l b [45,62]=false:=by unfold PF at h;let⟨z,h⟩:=EK h;have z:=z _ (AL.2 O);by_cases q:Bh l a [105,110,116]=true;rw[ae q]at h;cases h;refine⟨?_,z⟩;exact Ac AO func301 O [2,3]<|Av O<|Ae O (DE C q) A2 O<|Av O<|Aq O λh=>AA O<|Af ⟨_,AC⟩;rw[ac q]at h;have q:Bh l a [105,110,116]=false:=by{simpa using q};by_cases r:Bh l a [98,111,111,108]=true;rw[ae r]at h;cases h;refine⟨?_,z⟩;exact Ac AO func301 O [2,3]<|Av O<|Ae O (By q) A2 O<|Av O<|Ag O λh=>AA O<|Ae O (DE C r) A2 O<|Av O<|Aq O λh=>AA O<|Af ⟨_,AC⟩;rw[ac r]at h;have r:Bh l a [98,111,111,108]=false:=by{simpa using r};by_cases A:Bh l a [117,110,105,116]=true;rw[ae A]at h;cases h;refine⟨?_,z⟩;exact Ac AO func301 O [2,3]<|Av O<|Ae O (By q) A2 O<|Av O<|Ag O λh=>AA O<|Ae O (By r) A2 O<|Av O<|Ag O λh=>AA O<|Ae O (DE C A) A2 O<|Av O<|Aq O λh=>AA O<|Af ⟨_,AC⟩;rw[ac A]at h;have A:Bh l a [117,110,105,116]=false:=by{simpa using A};let⟨B,h⟩:=EK h;split at h;(case isFalse=>cases h);rename_i D;let⟨u,G,D,K,_⟩:=Fh D;rw[K]at h;cases h;refine⟨?_,z⟩;obtain⟨N,R,V,W⟩:=u;exact Ac AO func301 O [2,3]<|Av O<|Ae O (By q) A2 O<|Av O<|Ag O λh=>AA O<|Ae O (By r) A2 O<|Av O<|Ag O λh=>AA O<|Ae O (By A) A2 O<|Av O<|Ag O λh=>AA O<|Ae O (By (B [99,101,108,108] (by simp))) A2 O<|Av O<|Ag O λh=>AA O<|Ae O (By (B [99,104,97,110] (by simp))) A2 O<|Av O<|Ag O λh=>AA O<|Ae O (By (B [116,97,115,107] (by simp))) A2 O<|Av O<|Ag O λh=>AA O<|Ae O (By (B [63] (by simp))) A2 O<|Av O<|Ag O λh=>AA O<|Ae O (By (B [40] (by simp))) A2 O<|Av O<|Ag O λh=>AA O<|Ae O (E4 C G D) A2 O<|Av O<|Af ⟨_,AC⟩
def V5 {l:L1 Tok} {t:Y} (q:l.length<=10000) (h:PF l a=some (t,b)):Tq4 280 [.ref 1 0] (Im l a) (.ret (.imm (.agg (As t))) (Im l b)):=by let⟨r,u⟩:=wV q h;obtain⟨t1,t2,t3,t4⟩:=t;exact Ac AO func280 O [2,3]<|Av O<|Ae O (r) A2 O<|Av O<|Ae O (By u) A2 O<|Av O<|Ag O λh=>AA O<|Af ⟨_,AC⟩
def zoe (l:L1 Tok) (f:Nat):Prop:=∀(a:Nat) (t:Y) (b:Nat),mR l f a=some (t,b)->Tq4 325 [.ref 1 0] (Im l a) (.ret (.imm (.agg (As t))) (Im l b))
def ptB (x:Z) (n:Nat):Blk:=.cells 182 4 [.imm (.int .i64 6),.imm (.int .i64 0),.imm (.str x),.own 4 n]
def xX {l:L1 Tok} (G:l.length<=10000) (n:Nat) (hn:n<=1000000) (J:∀f,f<n->zoe l f):zoe l n:=by
 intro a t b h;cases n with
 |zero=>simp[mR]at h
 |succ f=>
 rw[mR]at h;let⟨W,h⟩:=EK h;have W:=W _ (AL.2 O);by_cases c:OW l a 1=true
 ·rw[ae c]at h;let⟨u,g,K,j,_⟩:=Fh c;have p:=MA l a 1;rw[c]at p;rw[j]at h;cases h;obtain⟨s,i,v,w⟩:=u;exact Ac AO func325 O [2,3]<|Av O<|Ae O (By W) A2 O<|Av O<|Ag O λh=>AA O<|Ae O (p) A2 O<|Av O<|Aq O λh=>AA O<|Ae O (E4 G g K) A2 O<|Av O<|Af ⟨_,AC⟩
 rw[ac c]at h;have C:=MA l a 1;rw[show OW l a 1=false by simpa using c]at C
 split at h
 case isTrue=>cases h
 rename_i L;have D:=MA l a 4;rw[show OW l a 4=false by simpa using L]at D;let⟨N,h⟩:=EK h
 split at h
 case isFalse=>cases h
 rename_i K;let⟨u,g,K,j,_⟩:=Fh K;rw[j]at h;by_cases R:Bh l (a+1) [40]=true
 case neg=>
  rw[ac R]at h;have R:Bh l (a+1) [40]=false:=by simpa using R
  cases h;obtain⟨s,i,v,w⟩:=u;exact Ac AO func325 O [2,3]<|Av O<|Ae O (By W) A2 O<|Av O<|Ag O λh=>AA O<|Ae O (C) A2 O<|Av O<|Ag O λh=>AA O<|Ae O (D) A2 O<|Av O<|Ag O λh=>AA O<|Ae O (By (N tru (by simp))) A2 O<|Av O<|Ag O λh=>AA O<|Ae O (By (N iN (by simp))) A2 O<|Av O<|Ag O λh=>AA O<|Ae O (By (N [40] (by simp))) A2 O<|Av O<|Ag O λh=>AA O<|Ae O (E4 G g K) A2 O<|Av O<|Ae O (By R) A2 O<|Av O<|Ag O λh=>AA O<|Af ⟨_,AC⟩
 rw[ae R]at h;cases k:Re l f [] (a+2)with
 |none=>rw[k]at h;cases h
 |some r=>
 rw[k]at h;cases h;obtain⟨x,b⟩:=r;obtain⟨s,i,v,w⟩:=u;simp only
 refine Ac AO func325 O [2,3,4,5,6,7]<|Av O<|Ae O (By W) A2 O<|Av O<|Ag O λh=>AA O<|Ae O (C) A2 O<|Av O<|Ag O λh=>AA O<|Ae O (D) A2 O<|Av O<|Ag O λh=>AA O<|Ae O (By (N tru (by simp))) A2 O<|Av O<|Ag O λh=>AA O<|Ae O (By (N iN (by simp))) A2 O<|Av O<|Ag O λh=>AA O<|Ae O (By (N [40] (by simp))) A2 O<|Av O<|Ag O λh=>AA O<|Ae O (E4 G g K) A2 O<|Av O<|Ae O (DE G R) A2 O<|Av O<|Aq O λh=>AA O<|Fj 3 4 (e:=182) (sz:=4) [i7 6,i7 0,.imm (.str i),.own 4 0] (by decide) O ⟨.inl O,.inl O,.inl O,.inr ⟨rfl,rfl⟩,ab⟩<|Al (λz:Bool×Nat×L1 Y×Nat=>[(4,.imm (.bool z.1)),(0,.ref 1 0),(3,.ref 3 0),(2,.ref 2 0)]) (λz=>[(1,some (rdB l z.2.2.2)),(2,some (.cells 182 4 [i7 0,i7 0,.imm (.str []),.nils])),(3,some (ptB i (A4 z.2.2.1).length)),(4,some (.row 182 4 (A4 z.2.2.1)))]) [5,6,7] (λz=>z.2.1)
  (λz=>z.2.1<=f/\z.2.2.1.length+z.2.1<=f/\if z.1=true then Re l z.2.1 z.2.2.1 z.2.2.2=some (x,b)else x=z.2.2.1/\Bh l z.2.2.2 [41]=true/\b=z.2.2.2+1) (true,f,[],a+2)
  ⟨BO _,by simp,by rw[ae O];exact k⟩ B0 B0 O λz P m=>?_
 obtain⟨d,f1,ps,y⟩:=z;obtain⟨Q,S,A⟩:=P;simp only at Q A S m;refine gL O ?_;cases d with
 |false=>
  simp only[DN,aw]at A;obtain⟨rfl,A,rfl⟩:=A;exact Ag O λh=>Az O<|Cn 4 O<|AA O<|Ae O (BR G A) A2 O<|Av O<|Af ⟨_,AC⟩
 |true=>
  simp only[ar]at A;cases f1 with
  |zero=>simp[Re]at A
  |succ f1=>
  rw[Re]at A;cases o:mR l f1 y with
  |none=>rw[o]at A;cases A
  |some r=>
  rw[o]at A;obtain⟨q,e⟩:=r;simp only[Ep]at A;have T:=J f1 (by omega) y q e o;have B:A4 (ps++[q])=A4 ps++[As q]:=by rw[FH];rfl
  obtain⟨E,F,H,I⟩:=q;refine Aq O λh=>AA O<|Ae O (T) A2 O<|Av O<|BK AO O ⟨by simp,by simp[maxLen];omega,by simp;omega,ab⟩<|Av O ?_;by_cases V:Bh l e [44]=true
  ·rw[ae V]at A;exact Ae O (DE G V) A2 O<|Av O<|AR 4 6 O<|Ad (m (true,f1,ps++[.mk E F H I],e+1) (Di _) ⟨by simp only;omega,by simp only[AZ,Co,Cb];omega,by rw[ae O];exact A⟩) B0 ⟨rfl,rfl,by rw[B];rfl,by rw[B];rfl,ab⟩ O
  ·rw[ac V]at A;have V:Bh l e [44]=false:=by simpa using V
   let⟨z4,A⟩:=Bd A;cases A;exact Ae O (By V) A2 O<|Av O<|AR 4 6 O<|Ad (m (false,f1,ps++[.mk E F H I],e) (Di _) ⟨by simp only;omega,by simp only[AZ,Co,Cb];omega,by rw[ac (by simp)];exact⟨rfl,z4,rfl⟩⟩) B0 ⟨rfl,rfl,by rw[B];rfl,by rw[B];rfl,ab⟩ O
def zdt {l:L1 Tok} (h:l.length<=10000):∀n,n<=1000000->zoe l n:=λn=>by{induction n using Nat.strongRecOn with|ind n q=>{exact λr=>xX h n r λf u=>q f u (by omega)}}
def zmg (l:L1 Tok) (f:Nat):Prop:=∀(a:Nat) (t:Tm) (b:Nat),DV l f a=some (t,b)->Tq4 173 [.ref 1 0] (Im l a) (.ret (.imm (.agg (dTmc t))) (Im l b))
def zp0 (l:L1 Tok) (f:Nat):Prop:=∀(a:Nat) (t:Tm) (b:Nat),mQ l f a=some (t,b)->Tq4 243 [.ref 1 0] (Im l a) (.ret (.imm (.agg (dTmc t))) (Im l b))
def zp7 (l:L1 Tok) (f:Nat):Prop:=∀(a:Nat) (t:Tm) (b:Nat),mS l f a=some (t,b)->Tq4 302 [.ref 1 0] (Im l a) (.ret (.imm (.agg (dTmc t))) (Im l b))
def zmk (l:L1 Tok) (f:Nat):Prop:=∀(a:Nat) (t:Tm) (b:Nat),UT l f a=some (t,b)->Tq4 317 [.ref 1 0] (Im l a) (.ret (.imm (.agg (dTmc t))) (Im l b))
def zh7 (l:L1 Tok) (f:Nat):Prop:=∀(a:Nat) (t:Tm) (b:Nat),ZH l f a=some (t,b)->Tq4 322 [.ref 1 0] (Im l a) (.ret (.imm (.agg (dTmc t))) (Im l b))
def zhs (l:L1 Tok) (f:Nat):Prop:=∀(n:Int) (a:Nat) (h:L1 Tm) (b:Nat),OH l f n a=some (h,b)->Tq4 321 [.ref 1 0,.imm (.int .i64 n)] (Im l a) (.ret (.imm (.sl (Cz h))) (Im l b))
structure kP (l:List Tok) (f:Nat):Prop where
 term:zmg l f
 sum:zp0 l f
 app:zp7 l f
 atom:zmk l f
 cases_:zh7 l f
 terms:zhs l f
def zbz {l:L1 Tok} (q:l.length<=10000) {op:Int} (h:OW l a 1=true) (r:Bh l (a+1) [61,62]=true) (z:Tq4 173 [.ref 1 0] (Im l (a+2)) (.ret (.imm (.agg (dTmc t))) (Im l b))):Tq4 242 [.ref 1 0,i7 op] (Im l a) (.ret (.imm (.agg (dTmc (.mk op 0 (Dm l a) [t] [])))) (Im l b)):=by let⟨u,A,h,B,_⟩:=Fh h;rw[B];obtain⟨C,D,G,K⟩:=u;obtain⟨t1,t2,t3,t4,t5⟩:=t;exact Ac AO func242 O [2,3,4]<|Av O<|Ae O (E4 q A h) A2 O<|Av O<|Ae O (BR q r) A2 O<|Av O<|Ae O (z) A2 O<|Av O<|Af ⟨_,AC⟩
def wO {l:L1 Tok} (D:l.length<=10000) (n:Nat) (e:∀f,f<n->kP l f):zmg l n:=by
 intro a t b h;cases n with
 |zero=>simp[DV]at h
 |succ f=>
 have B:=(e f (Di f)).term;have W:=(e f (Di f)).sum;clear e;rw[DV]at h;by_cases G:Bh l a [102,117,110]=true
 ·rw[ae G]at h
  split at h
  case isFalse=>cases h
  rename_i g;let⟨i,h⟩:=Bd h;cases A:DV l f (a+3)with
  |none=>rw[A]at h;cases h
  |some r=>
  rw[A]at h;cases h;have S:=zbz D (op:=5) g i (B _ r.1 r.2 A);obtain⟨⟨j,k,m,o,p⟩,s⟩:=r;exact Ac AO func173 O [2,3]<|Av O<|Ae O (DE D G) A2 O<|Av O<|Aq O λh=>AA O<|Ae O (S) A2 O<|Av O<|Af ⟨_,AC⟩
 rw[ac G]at h;have G:Bh l a [102,117,110]=false:=by simpa using G
 let⟨V,h⟩:=EK h;have V:=V _ (AL.2 O);by_cases K:Bh l a [108,101,116]=true
 ·rw[ae K]at h
  split at h
  case isFalse=>cases h
  rename_i g;let⟨i,h⟩:=Bd h;let⟨w,T,hk,hx,_⟩:=Fh g;rw[hx]at h;cases A:DV l f (a+3)with
  |none=>rw[A]at h;cases h
  |some r=>
  rw[A]at h;simp only[Ep]at h;let⟨c,h⟩:=Bd h;cases C:DV l f (r.2+1)with
  |none=>rw[C]at h;cases h
  |some u=>
  rw[C]at h;cases h;have q:=B _ r.1 r.2 A;have z:=B _ u.1 u.2 C;obtain⟨w1,w2,w3,w4⟩:=w;obtain⟨⟨j,k,m,o,p⟩,s⟩:=r;obtain⟨⟨E,F,H,I,J⟩,L⟩:=u;simp only at c q z ⊢;exact Ac AO func173 O [2,3,4,5]<|Av O<|Ae O (By G) A2 O<|Av O<|Ag O λh=>AA O<|Ae O (By V) A2 O<|Av O<|Ag O λh=>AA O<|Ae O (DE D K) A2 O<|Av O<|Aq O λh=>AA O<|Ae O (E4 D T hk) A2 O<|Av O<|Ae O (BR D i) A2 O<|Av O<|Ae O (q) A2 O<|Av O<|Ae O (BR D c) A2 O<|Av O<|Ae O (z) A2 O<|Av O<|Af ⟨_,AC⟩
 rw[ac K]at h;have K:Bh l a [108,101,116]=false:=by simpa using K
 by_cases N:Bh l a [105,102]=true
 ·rw[ae N]at h;cases A:DV l f (a+1)with
  |none=>rw[A]at h;cases h
  |some r=>
  rw[A]at h;simp only[Ep]at h;let⟨c,h⟩:=Bd h;cases C:DV l f (r.2+1)with
  |none=>rw[C]at h;cases h
  |some u=>
  rw[C]at h;simp only[Ep]at h;let⟨P,h⟩:=Bd h;cases x:DV l f (u.2+1)with
  |none=>rw[x]at h;cases h
  |some v=>
  rw[x]at h;cases h;have q:=B _ r.1 r.2 A;have z:=B _ u.1 u.2 C;have d:=B _ v.1 v.2 x;obtain⟨⟨j,k,m,o,p⟩,s⟩:=r;obtain⟨⟨E,F,H,I,J⟩,L⟩:=u;obtain⟨⟨v1,v2,v3,v4,v5⟩,vp⟩:=v;simp only at c P q z d ⊢;exact Ac AO func173 O [2,3,4,5]<|Av O<|Ae O (By G) A2 O<|Av O<|Ag O λh=>AA O<|Ae O (By V) A2 O<|Av O<|Ag O λh=>AA O<|Ae O (By K) A2 O<|Av O<|Ag O λh=>AA O<|Ae O (DE D N) A2 O<|Av O<|Aq O λh=>AA O<|Ae O (q) A2 O<|Av O<|Ae O (BR D c) A2 O<|Av O<|Ae O (z) A2 O<|Av O<|Ae O (BR D P) A2 O<|Av O<|Ae O (d) A2 O<|Av O<|Af ⟨_,AC⟩
 rw[ac N]at h;have N:Bh l a [105,102]=false:=by simpa using N
 cases A:mQ l f a with
 |none=>rw[A]at h;cases h
 |some r=>
 rw[A]at h;simp only[Ep]at h;have q:=W _ r.1 r.2 A;by_cases R:Bh l r.2 [60]=true
 ·rw[ae R]at h;cases C:mQ l f (r.2+1)with
  |none=>rw[C]at h;cases h
  |some u=>
  rw[C]at h;cases h;have z:=W _ u.1 u.2 C;have Q:=kZ 12 r.1 u.1;obtain⟨⟨j,k,m,o,p⟩,s⟩:=r;obtain⟨⟨E,F,H,I,J⟩,L⟩:=u;simp only at R q z Q ⊢;exact Ac AO func173 O [2,3,4,5]<|Av O<|Ae O (By G) A2 O<|Av O<|Ag O λh=>AA O<|Ae O (By V) A2 O<|Av O<|Ag O λh=>AA O<|Ae O (By K) A2 O<|Av O<|Ag O λh=>AA O<|Ae O (By N) A2 O<|Av O<|Ag O λh=>AA O<|Ae O (q) A2 O<|Av O<|Ae O (DE D R) A2 O<|Av O<|Aq O λh=>AA O<|Ae O (z) A2 O<|Av O<|Ah O Q<|Av O<|Af ⟨_,AC⟩
 ·rw[ac R]at h;have R:Bh l r.2 [60]=false:=by simpa using R
  let⟨y,h⟩:=EK h;have y:=y _ (AL.2 O);cases h;obtain⟨t1,t2,t3,t4,t5⟩:=t;exact Ac AO func173 O [2,3,4,5]<|Av O<|Ae O (By G) A2 O<|Av O<|Ag O λh=>AA O<|Ae O (By V) A2 O<|Av O<|Ag O λh=>AA O<|Ae O (By K) A2 O<|Av O<|Ag O λh=>AA O<|Ae O (By N) A2 O<|Av O<|Ag O λh=>AA O<|Ae O (q) A2 O<|Av O<|Ae O (By R) A2 O<|Av O<|Ag O λh=>AA O<|Ae O (By y) A2 O<|Av O<|Ag O λh=>AA O<|Af ⟨_,AC⟩
def UM {l:L1 Tok} (r:Tq4 302 [.ref 1 0] (Im l a) (.ret (.imm (.agg (dTmc t))) (Im l b))) (q:Bh l b [42]=false):Tq4 281 [.ref 1 0] (Im l a) (.ret (.imm (.agg (dTmc t))) (Im l b)):=by obtain⟨t1,t2,t3,t4,t5⟩:=t;exact Ac AO func281 O [2,3,4]<|Av O<|Ae O (r) A2 O<|Av O<|Al (λ_:Nat=>[(0,.ref 1 0),(3,.ref 3 0),(2,.ref 2 0)]) (λ_=>[(1,some (rdB l b)),(2,some (.cells 49 5 [i7 0,i7 0,.imm (.str []),.nils,.nils])),(3,some (.immb 49 5 (dTmc (.mk t1 t2 t3 t4 t5))))]) [4] (λ_=>0) (λ_=>True) 0 trivial AC AC O λ_ _ _=>AA O<|Ae O (By q) A2 O<|Av O<|Ag O λh=>Az O<|AA O<|Af ⟨_,AC⟩
def X9 {l:L1 Tok} {r:Tm×Nat} (h:Sp l f t a=some r):Bh l a [42]=false:=by cases f with|zero=>simp[Sp]at h|succ f=>{rw[Sp]at h;exact(EK h).1 _ (AL.2 O)}
def ziw {l:L1 Tok} (h:Bh l a x=true):a<l.length:=by cases e:l[a]? with|none=>rw[Bh,e]at h;cases h|some t=>{exact(A9.1 e).1}
def zb9 {l:L1 Tok} (y:l.length<=10000) (n:Nat) (G:∀f,f<n->kP l f):zp0 l n:=by
 intro a t b h;cases n with
 |zero=>simp[mQ]at h
 |succ f=>
 rw[mQ]at h;cases K:mS l f a with
 |none=>rw[K]at h;cases h
 |some r=>
 rw[K]at h;simp only[Ep]at h;have N:=UM ((G f (Di f)).app _ r.1 r.2 K) (X9 h);have G:=λg (E:g<=f)=>(G g (by omega)).app;clear K;obtain⟨⟨d,e,i,j,k⟩,m⟩:=r;simp only at h N;refine Ac AO func243 O [2,3,4,5]<|Av O<|Ae O (N) A2 O<|Av O ?_;clear N;refine Al (λ_:Nat×Tm×Nat=>[(0,.ref 1 0),(3,.ref 3 0),(2,.ref 2 0)]) (λz=>[(1,some (rdB l z.2.2)),(2,some (.cells 49 5 [i7 0,i7 0,.imm (.str []),.nils,.nils])),(3,some (.immb 49 5 (dTmc z.2.1)))]) [4,5] (λz=>z.1)
  (λz=>z.1<=f/\Sp l z.1 z.2.1 z.2.2=some (t,b)) (f,.mk d e i j k,m) ⟨BO _,h⟩ AC AC O λz o V=>?_
 clear h;obtain⟨f1,⟨t1,t2,t3,t4,t5⟩,A⟩:=z;obtain⟨p,q⟩:=o;simp only at p q V;cases f1 with
 |zero=>simp[Sp]at q
 |succ f1=>
 rw[Sp]at q;let⟨_,q⟩:=EK q;have B:=Py l A [43];by_cases C:Bh l A [43]=true
 ·rw[ae C]at q;rw[C]at B;cases R:mS l f1 (A+1)with
  |none=>rw[R]at q;cases q
  |some u=>
  rw[R]at q;simp only[Ep]at q;have W:=UM (G f1 (by omega) _ u.1 u.2 R) (X9 q);have c:=kZ 9 (.mk t1 t2 t3 t4 t5) u.1;have s:=ziw C;have w:IntKind.i64.wrap ((A:Int)+1)=((A+1:Nat):Int):=by rw[Gx (by omega) (by omega)];omega
  obtain⟨⟨F,H,I,J,L⟩,v⟩:=u;simp only at q W c;refine gL O<|AD [(1,1)] [] [1] (fr:=[]) (nm:=[]) O (by simp[Ap]) (by simp) (B) A2 O ⟨⟨rfl,rfl⟩,ab⟩ O O O<|NT O<|Nz (.imm (.bool false)) O (by simp[Ap])<|NT O<|Aq O λh=>AA O<|Ae O (B) A2 O<|Av O<|Aq O λh=>AA O ?_;rw[w];exact Ae O (W) A2 O<|Av O<|Ah O c<|Av O<|Ad (V (f1,_,v) (Di _) ⟨by simp only;omega,q⟩) AC AC O
 ·rw[ac C]at q;let⟨x,q⟩:=EK q;have D:=Py l A [45];rw[x _ (AL.2 O)]at D;rw[show Bh l A [43]=false by simpa using C]at B;cases q;exact gL O<|AD [(1,1)] [] [1] (fr:=[]) (nm:=[]) O (by simp[Ap]) (by simp) (B) A2 O ⟨⟨rfl,rfl⟩,ab⟩ O O O<|NT O<|AD [(1,1)] [] [1] (fr:=[]) (nm:=[]) O (by simp[Ap]) (by simp) (D) A2 O ⟨⟨rfl,rfl⟩,ab⟩ O O O<|NT O<|Ag O λh=>Az O<|AA O<|Af ⟨_,AC⟩
def zhk {l:L1 Tok} (s:l.length<=10000) (n:Nat) (A:∀f,f<n->kP l f):zp7 l n:=by
 intro a t b h;cases n with
 |zero=>simp[mS]at h
 |succ f=>
 rw[mS]at h;cases B:UT l f a with
 |none=>rw[B]at h;cases h
 |some r=>
 rw[B]at h;simp only[Ep]at h;have K:=(A f (Di f)).atom _ r.1 r.2 B;have A:=λg (v:g<=f)=>(A g (by omega)).atom;clear B;obtain⟨⟨c,d,e,i,j⟩,k⟩:=r;simp only at h K;refine Ac AO func302 O [2,3,4,5]<|Av O<|Ae O (K) A2 O<|Av O ?_;clear K;refine Al (λ_:Nat×Tm×Nat=>[(0,.ref 1 0),(3,.ref 3 0),(2,.ref 2 0)]) (λz=>[(1,some (rdB l z.2.2)),(2,some (.cells 49 5 [i7 0,i7 0,.imm (.str []),.nils,.nils])),(3,some (.immb 49 5 (dTmc z.2.1)))]) [4,5] (λz=>z.1)
  (λz=>z.1<=f/\eO l z.1 z.2.1 z.2.2=some (t,b)) (f,.mk c d e i j,k) ⟨BO _,h⟩ AC AC O λz m R=>?_
 clear h;obtain⟨f1,⟨t1,t2,t3,t4,t5⟩,C⟩:=z;obtain⟨o,q⟩:=m;simp only at o q R;cases f1 with
 |zero=>simp[eO]at q
 |succ f1=>
 rw[eO]at q;have D:=zbc l C;by_cases G:QD l C=true
 ·rw[ae G]at q;rw[G]at D;cases N:UT l f1 C with
  |none=>rw[N]at q;cases q
  |some u=>
  rw[N]at q;simp only[Ep]at q;have V:=A f1 (by omega) _ u.1 u.2 N;have W:=kZ 6 (.mk t1 t2 t3 t4 t5) u.1;obtain⟨⟨w,x,y,E,F⟩,p⟩:=u;simp only at q V W;exact AA O<|Ae O (D) A2 O<|Av O<|Aq O λh=>AA O<|Ae O (V) A2 O<|Av O<|Ah O W<|Av O<|Ad (R (f1,_,p) (Di _) ⟨by simp only;omega,q⟩) AC AC O
 ·rw[ac G]at q;rw[show QD l C=false by simpa using G]at D;cases q;exact AA O<|Ae O (D) A2 O<|Av O<|Ag O λh=>Az O<|AA O<|Af ⟨_,AC⟩
def za7 {l:L1 Tok} (A:l.length<=10000) (n:Nat) (B:∀f,f<n->kP l f) {u:Tok} (C:l[a]?=some u) (h:tH l n a=some (t,b)):Tq4 323 [.ref 1 0] (Im l a) (.ret (.imm (.agg (dTmc t))) (Im l b)):=by cases n with|zero=>simp[tH]at h|succ f=>{have D:=(B f (Di f)).term;have G:=(B f (Di f)).terms;clear B;have g:Dm l a=u.text:=by{rw[Dm,C]};have i:=(A9.1 C).1;have K:=KV C;have w:IntKind.i64.wrap ((a:Int)+1)=((a+1:Nat):Int):=by{rw[Gx (by omega) (by omega)];omega};have z:=YW u.text;rw[tH,g]at h;obtain⟨E,j,F,H⟩:=u;simp only at z h;generalize FY j=c at *;obtain⟨I,N⟩:=c;simp only at z h;split at h;(case isTrue=>cases h);rename_i R;by_cases V:0<N;rw[ae V]at h;cases q:OH l f N (a+1)with|none=>rw[q]at h;cases h|some r=>{rw[q]at h;cases h;have k:=G _ _ r.1 r.2 q;refine Ac AO func323 O [2,3,4,5]<|Av O<|jiz O K<|Av O<|Ah O z<|jg [] O (by simp;kernel_rfl)<|Aa O (λh=>by exfalso;simp at h;exact R h) (λh=>?_);refine AA O ?_;rw[w];refine Aa O (λh=>?_) (λh=>by exfalso;simp at h;omega);exact AA O<|Ae O (k) A2 O<|Av O<|Af ⟨_,AC⟩};rw[ac V]at h;by_cases W:N<0;{rw[ae W]at h;let⟨m,h⟩:=Bd h;split at h;(case isFalse=>cases h);rename_i o;let⟨p,h⟩:=Bd h;let⟨v,s,x,_,y⟩:=Fh o;rw[y]at h;cases q:DV l f (a+4)with|none=>rw[q]at h;cases h|some r=>{rw[q]at h;simp only[Ep]at h;let⟨d,h⟩:=Bd h;cases h;have e:=D _ r.1 r.2 q;obtain⟨J,L,P,Q⟩:=v;obtain⟨⟨S,T,r3,r4,r5⟩,rp⟩:=r;simp only at d e ⊢;refine Ac AO func323 O [2,3,4,5]<|Av O<|jiz O K<|Av O<|Ah O z<|jg [] O (by simp;kernel_rfl)<|Aa O (λh=>by exfalso;simp at h;exact R h) (λh=>?_);refine AA O ?_;rw[w];refine Aa O (λh=>by exfalso;simp at h;omega) (λh=>?_);refine AA O<|Aa O (λh=>?_) (λh=>by exfalso;simp at h;omega);exact AA O<|Ae O (BR A m) A2 O<|Av O<|Ae O (E4 A s x) A2 O<|Av O<|Ae O (BR A p) A2 O<|Av O<|Ae O (e) A2 O<|Av O<|Ae O (BR A d) A2 O<|Av O<|Af ⟨_,AC⟩}};rw[ac W]at h;cases h;refine Ac AO func323 O [2,3,4,5]<|Av O<|jiz O K<|Av O<|Ah O z<|jg [] O (by simp;kernel_rfl)<|Aa O (λh=>by exfalso;simp at h;exact R h) (λh=>?_);refine AA O ?_;rw[w];refine Aa O (λh=>by exfalso;simp at h;omega) (λh=>?_);refine AA O<|Aa O (λh=>by exfalso;simp at h;omega) (λh=>?_);exact AA O<|Af ⟨_,AC⟩}
def zbd {l:L1 Tok} (D:l.length<=10000) (n:Nat) (R:∀f,f<n->kP l f):zmk l n:=by intro a t b h;cases n with|zero=>simp[UT]at h|succ f=>{have i:=(R f (Di f)).term;have j:=(R f (Di f)).terms;have k:=(R f (Di f)).cases_;have m:=λu C t b h=>za7 D f (λg T=>R g (by omega)) (u:=u) (a:=a) C (t:=t) (b:=b) h;clear R;rw[UT]at h;have q:=MA l a 4;by_cases V:OW l a 4=true;rw[ae V]at h;rw[V]at q;let⟨u,C,K,_,L⟩:=Fh V;rw[L]at h;cases h;obtain⟨o,p,s,v⟩:=u;exact Ac AO func317 O [2,3,4]<|Av O<|Ae O (q) A2 O<|Av O<|Aq O λh=>AA O<|Ae O (E4 D C K) A2 O<|Av O<|Af ⟨_,AC⟩;rw[ac V]at h;rw[show OW l a 4=false by simpa using V]at q;have z:=MA l a 1;by_cases W:OW l a 1=true;rw[ae W]at h;rw[W]at z;let⟨u,C,K,w,_⟩:=Fh W;rw[w]at h;cases h;obtain⟨o,p,s,v⟩:=u;exact Ac AO func317 O [2,3,4]<|Av O<|Ae O (q) A2 O<|Av O<|Ag O λh=>AA O<|Ae O (z) A2 O<|Av O<|Aq O λh=>AA O<|Ae O (E4 D C K) A2 O<|Av O<|Af ⟨_,AC⟩;rw[ac W]at h;rw[show OW l a 1=false by simpa using W]at z;have A:=MA l a 2;by_cases c:OW l a 2=true;rw[ae c]at h;rw[c]at A;let⟨u,C,K,w,_⟩:=Fh c;rw[w]at h;have e:=Py l (a+1) [40];by_cases B:Bh l (a+1) [40]=true;rw[ae B]at h;rw[B]at e;cases G:OH l f (-1) (a+1)with|none=>rw[G]at h;cases h|some r=>{rw[G]at h;cases h;have P:=j _ _ r.1 r.2 G;obtain⟨o,p,s,v⟩:=u;exact Ac AO func317 O [2,3,4]<|Av O<|Ae O (q) A2 O<|Av O<|Ag O λh=>AA O<|Ae O (z) A2 O<|Av O<|Ag O λh=>AA O<|Ae O (A) A2 O<|Av O<|Aq O λh=>AA O<|Ae O (E4 D C K) A2 O<|Av O<|Ae O (e) A2 O<|Av O<|Aq O λh=>AA O<|Ae O (P) A2 O<|Av O<|Af ⟨_,AC⟩};rw[ac B]at h;rw[show Bh l (a+1) [40]=false by simpa using B]at e;cases h;obtain⟨o,p,s,v⟩:=u;exact Ac AO func317 O [2,3,4]<|Av O<|Ae O (q) A2 O<|Av O<|Ag O λh=>AA O<|Ae O (z) A2 O<|Av O<|Ag O λh=>AA O<|Ae O (A) A2 O<|Av O<|Aq O λh=>AA O<|Ae O (E4 D C K) A2 O<|Av O<|Ae O (e) A2 O<|Av O<|Ag O λh=>AA O<|Af ⟨_,AC⟩;rw[ac c]at h;rw[show OW l a 2=false by simpa using c]at A;let⟨F,h⟩:=EK h;have x:=F tru (by simp);have y:=F iN (by simp);by_cases B:Bh l a yK=true;rw[ae B]at h;have Q:=k _ t b h;obtain⟨t1,t2,t3,t4,t5⟩:=t;exact Ac AO func317 O [2,3,4]<|Av O<|Ae O (q) A2 O<|Av O<|Ag O λh=>AA O<|Ae O (z) A2 O<|Av O<|Ag O λh=>AA O<|Ae O (A) A2 O<|Av O<|Ag O λh=>AA O<|Ae O (By x) A2 O<|Av O<|Ag O λh=>AA O<|Ae O (By y) A2 O<|Av O<|Ag O λh=>AA O<|Ae O (DE D B) A2 O<|Av O<|Aq O λh=>AA O<|Ae O (Q) A2 O<|Av O<|Af ⟨_,AC⟩;rw[ac B]at h;have B:Bh l a yK=false:=by{simpa using B};by_cases N:Bh l a [40]=true;rw[ae N]at h;let⟨E,h⟩:=EK h;have E:=E _ (AL.2 O);cases G:DV l f (a+1)with|none=>rw[G]at h;cases h|some r=>{rw[G]at h;simp only[Ep]at h;let⟨H,h⟩:=Bd h;cases h;have I:=i _ r.1 r.2 G;obtain⟨⟨r1,r2,r3,r4,r5⟩,rp⟩:=r;simp only at H I ⊢;exact Ac AO func317 O [2,3,4]<|Av O<|Ae O (q) A2 O<|Av O<|Ag O λh=>AA O<|Ae O (z) A2 O<|Av O<|Ag O λh=>AA O<|Ae O (A) A2 O<|Av O<|Ag O λh=>AA O<|Ae O (By x) A2 O<|Av O<|Ag O λh=>AA O<|Ae O (By y) A2 O<|Av O<|Ag O λh=>AA O<|Ae O (By B) A2 O<|Av O<|Ag O λh=>AA O<|Ae O (DE D N) A2 O<|Av O<|Aq O λh=>AA O<|Ae O (By E) A2 O<|Av O<|Ag O λh=>AA O<|Ae O (I) A2 O<|Av O<|Ae O (BR D H) A2 O<|Av O<|Af ⟨_,AC⟩};rw[ac N]at h;have N:Bh l a [40]=false:=by{simpa using N};have d:=MA l a 3;split at h;(case isFalse=>cases h);rename_i J;rw[J]at d;let⟨u,C,_⟩:=Fh J;have S:=m u C t b h;obtain⟨t1,t2,t3,t4,t5⟩:=t;exact Ac AO func317 O [2,3,4]<|Av O<|Ae O (q) A2 O<|Av O<|Ag O λh=>AA O<|Ae O (z) A2 O<|Av O<|Ag O λh=>AA O<|Ae O (A) A2 O<|Av O<|Ag O λh=>AA O<|Ae O (By x) A2 O<|Av O<|Ag O λh=>AA O<|Ae O (By y) A2 O<|Av O<|Ag O λh=>AA O<|Ae O (By B) A2 O<|Av O<|Ag O λh=>AA O<|Ae O (By N) A2 O<|Av O<|Ag O λh=>AA O<|Ae O (d) A2 O<|Av O<|Aq O λh=>AA O<|Ae O (S) A2 O<|Av O<|Af ⟨_,AC⟩}
def lA {l:L1 Tok} (G:l.length<=10000) (n:Nat) (w:n<=1000000) (K:∀f,f<n->kP l f):zhs l n:=by
 intro k a x b h;cases n with
 |zero=>simp[OH]at h
 |succ f=>
 rw[OH]at h;let⟨y,h⟩:=Bd h;cases c:DV l f (a+1)with
 |none=>rw[c]at h;cases h
 |some r=>
 rw[c]at h;simp only[Ep]at h;have d:=(K f (Di f)).term _ r.1 r.2 c;have K:=λg (S:g<=f)=>(K g (by omega)).term;clear c;obtain⟨⟨E,F,H,I,J⟩,L⟩:=r;simp only at h d;refine Ac AO func321 O [2,3,4,5,6]<|Av O<|Ae O (BR G y) A2 O<|Av O<|Ae O (d) A2 O<|jgf 6 O (by simp)<|zge AO 3 O (by simp)<|Av O ?_;clear d;refine Al (λz:Nat×L1 Tm×Nat=>[(0,.ref 1 0),(1,i7 k),(6,.own 3 (Cz z.2.1).length)]) (λz=>[(1,some (rdB l z.2.2)),(3,some (.row 49 5 (Cz z.2.1)))]) [4,5,6] (λz=>z.1)
  (λz=>z.1+z.2.1.length<=f+1/\PE l z.1 k z.2.1 z.2.2=some (x,b)) (f,[.mk E F H I J],L) ⟨by simp,h⟩ AC AP O λz P i=>?_
 clear h;obtain⟨f1,A,N⟩:=z;obtain⟨Q,q⟩:=P;simp only at Q q i;cases f1 with
 |zero=>simp[PE]at q
 |succ f1=>
 rw[PE]at q;refine gL O ?_;by_cases R:k<0
 ·by_cases D:Bh l N [44]=true
  ·rw[ae (.inl ⟨R,D⟩)]at q;let⟨_,q⟩:=Bd q;cases C:DV l f1 (N+1)with
   |none=>rw[C]at q;cases q
   |some u=>
   rw[C]at q;simp only[Ep]at q;have V:=K f1 (by omega) _ u.1 u.2 C;have B:Cz (A++[u.1])=Cz A++[dTmc u.1]:=by rw[JZ];rfl
   obtain⟨⟨j,m,o,p,s⟩,t⟩:=u;simp only at q V B;refine AD [(1,1)] [] [] (fr:=[]) (nm:=[1,1]) O (by simp[Ap,R]) (by simp[Ap]) (DE G D) A2 O trivial rfl O O<|jg [] O (by simp[Ap];omega)<|Aa O (λh=>?_) (λh=>by exfalso;simp[R]at h);refine AA O<|Aa O (λh=>by exfalso;simp at h;omega) (λh=>?_);exact AA O<|Ae O (V) A2 O<|Av O<|BK AO O ⟨by simp,by simp[maxLen];omega,by simp;omega,ab⟩<|Av O<|AR 3 5 O<|Ad (i (f1,A++[.mk j m o p s],t) (Di _) ⟨by simp only[AZ,Co,Cb];omega,q⟩) ⟨rfl,rfl,by rw[B];rfl,ab⟩ ⟨rfl,by rw[B];rfl,ab⟩ O
  ·have e:¬((k<0/\Bh l N [44]=true)\/(A.length:Int)<k):=λh=>h.elim (λh=>D h.2) (λh=>by omega);rw[ac e]at q;have D:Bh l N [44]=false:=by simpa using D
   let⟨W,q⟩:=Bd q;cases q;refine AD [(1,1)] [] [1] (fr:=[]) (nm:=[]) O (by simp[Ap,R]) (by simp[Ap]) (By D) A2 O ⟨⟨rfl,rfl⟩,ab⟩ O O O<|NT O<|Aa O (λh=>by exfalso;simp at h;omega) (λh=>?_);exact Az O<|Cn 3 O<|AA O<|Ae O (BR G W) A2 O<|Av O<|Af ⟨_,AC⟩
 ·refine Nz (.imm (.bool false)) O (by simp[Ap];omega)<|NT O ?_;by_cases v:(A.length:Int)<k
  ·rw[ae (.inr v)]at q;let⟨W,q⟩:=Bd q;cases C:DV l f1 (N+1)with
   |none=>rw[C]at q;cases q
   |some u=>
   rw[C]at q;simp only[Ep]at q;have V:=K f1 (by omega) _ u.1 u.2 C;have B:Cz (A++[u.1])=Cz A++[dTmc u.1]:=by rw[JZ];rfl
   obtain⟨⟨j,m,o,p,s⟩,t⟩:=u;simp only at q V B;refine Aa O (λh=>?_) (λh=>by exfalso;simp at h;omega);refine AA O<|Aa O (λh=>?_) (λh=>by exfalso;simp at h;omega);exact AA O<|Ae O (BR G W) A2 O<|Av O<|Ae O (V) A2 O<|Av O<|BK AO O ⟨by simp,by simp[maxLen];omega,by simp;omega,ab⟩<|Av O<|AR 3 5 O<|Ad (i (f1,A++[.mk j m o p s],t) (Di _) ⟨by simp only[AZ,Co,Cb];omega,q⟩) ⟨rfl,rfl,by rw[B];rfl,ab⟩ ⟨rfl,by rw[B];rfl,ab⟩ O
  ·rw[ac (λh=>h.elim (λh=>R h.1) v)]at q;let⟨W,q⟩:=Bd q;cases q;refine Aa O (λh=>by exfalso;simp at h;omega) (λh=>?_);exact Az O<|Cn 3 O<|AA O<|Ae O (BR G W) A2 O<|Av O<|Af ⟨_,AC⟩
def mtB (n k:Nat):Blk:=.cells 49 5 [.imm (.int .i64 15),.imm (.int .i64 0),.imm (.str []),.own 5 n,.own 6 k]
def qZ {l:L1 Tok} (G:l.length<=10000) (n:Nat) (J:n<=1000000) (N:∀f,f<n->kP l f):zh7 l n:=by
 intro a t b h;cases n with
 |zero=>simp[ZH]at h
 |succ f=>
 rw[ZH]at h;cases R:DV l f a with
 |none=>rw[R]at h;cases h
 |some r=>
 rw[R]at h;simp only[Ep]at h;let⟨j,h⟩:=Bd h;have c:=(N f (Di f)).term _ r.1 r.2 R;have N:=λg (hg:g<=f)=>(N g (by omega)).term;clear R;obtain⟨⟨L,P,Q,S,T⟩,rp⟩:=r;simp only at h c j;refine Ac AO func322 O [2,3,5,4,6,7,8,9,10]<|Av O<|Ae O (c) A2 O<|jgf 6 O (by simp)<|zge AO 5 O (by simp)<|Av O<|Ae O (BR G j) A2 O<|Av O ?_;clear c
 refine Fj 4 6 (e:=182) (sz:=4) [i7 15,i7 0,.imm (.str []),.own 5 1,.own 6 0] (by decide) O ⟨.inl O,.inl O,.inl O,.inl O,.inr ⟨rfl,rfl⟩,ab⟩<|Al (λz:Bool×Nat×L1 Y×L1 Tm×Nat=>[(5,.imm (.bool z.1)),(0,.ref 1 0),(4,.ref 4 0),(2,.ref 2 0)]) (λz=>[(1,some (rdB l z.2.2.2.2)),(2,some (.cells 49 5 [i7 0,i7 0,.imm (.str []),.nils,.nils])),(4,some (mtB (Cz z.2.2.2.1).length (A4 z.2.2.1).length)),(5,some (.row 49 5 (Cz z.2.2.2.1))),(6,some (.row 182 4 (A4 z.2.2.1)))]) [7,8,9,10] (λz=>z.2.1)
  (λz=>z.2.1+z.2.2.1.length<=f/\z.2.1+z.2.2.2.1.length<=f+1/\if z.1=true then PG l z.2.1 z.2.2.1 z.2.2.2.1 z.2.2.2.2=some (t,b)else t=.mk 15 0 [] z.2.2.2.1 z.2.2.1/\Bh l z.2.2.2.2 [125]=true/\b=z.2.2.2.2+1) (true,f,[],[.mk L P Q S T],rp+1)
  ⟨by simp,by simp,by rw[ae O];exact h⟩ B0 BD O λz hz d=>?_
 clear h;obtain⟨K,f1,ps,V,k⟩:=z;obtain⟨z1,z3,A⟩:=hz;simp only at z1 A z3 d;refine gL O ?_;cases K with
 |false=>
  simp only[DN,aw]at A;obtain⟨rfl,A,rfl⟩:=A;exact Ag O λh=>Az O<|Cn 5 O<|Cn 6 O<|AA O<|Ae O (BR G A) A2 O<|Av O<|Af ⟨_,AC⟩
 |true=>
  simp only[ar]at A;cases f1 with
  |zero=>simp[PG]at A
  |succ f1=>
  rw[PG]at A;cases e:mR l f1 k with
  |none=>rw[e]at A;cases A
  |some q=>
  rw[e]at A;simp only[Ep]at A;let⟨m,A⟩:=Bd A;cases i:DV l f1 (q.2+1)with
  |none=>rw[i]at A;cases A
  |some u=>
  rw[i]at A;simp only[Ep]at A;have o:=zdt G f1 (by omega) k q.1 q.2 e;have p:=N f1 (by omega) _ u.1 u.2 i;have B:A4 (ps++[q.1])=A4 ps++[As q.1]:=by rw[FH];rfl
  have C:Cz (V++[u.1])=Cz V++[dTmc u.1]:=by rw[JZ];rfl
  obtain⟨⟨s,v,w,x⟩,qp⟩:=q;obtain⟨⟨y,E,F,H,I⟩,W⟩:=u;simp only at A m o p B C;refine Aq O λh=>AA O<|Ae O (o) A2 O<|Av O<|Ae O (BR G m) A2 O<|Av O<|Ae O (p) A2 O<|Av O<|BK AO O ⟨by simp,by simp[maxLen];omega,by simp;omega,ab⟩<|Av O<|BK AO O ⟨by simp,by simp[maxLen];omega,by simp;omega,ab⟩<|Av O ?_;by_cases D:Bh l W [124]=true
  ·rw[ae D]at A;exact Ae O (DE G D) A2 O<|Av O<|AR 6 9 O<|AR 5 10 O<|Ad (d (true,f1,ps++[.mk s v w x],V++[.mk y E F H I],W+1) (Di _) ⟨by simp only[AZ,Co,Cb];omega,by simp only[AZ,Co,Cb];omega,by rw[ae O];exact A⟩) B0 ⟨rfl,rfl,by rw[B,C];rfl,by rw[C];rfl,by rw[B];rfl,ab⟩ O
  ·rw[ac D]at A;have D:Bh l W [124]=false:=by simpa using D
   let⟨z4,A⟩:=Bd A;cases A;exact Ae O (By D) A2 O<|Av O<|AR 6 9 O<|AR 5 10 O<|Ad (d (false,f1,ps++[.mk s v w x],V++[.mk y E F H I],W) (Di _) ⟨by simp only[AZ,Co,Cb];omega,by simp only[AZ,Co,Cb];omega,by rw[ac (by simp)];exact⟨rfl,z4,rfl⟩⟩) B0 ⟨rfl,rfl,by rw[B,C];rfl,by rw[C];rfl,by rw[B];rfl,ab⟩ O
def tF {l:L1 Tok} (q:l.length<=10000):∀n,n<=1000000->kP l n:=λn=>by{induction n using Nat.strongRecOn with|ind n z=>{exact λr=>have h:=λf u=>z f u (zjq (Nat.le_of_lt u) r);⟨wO q n h,zb9 q n h,zhk q n h,zbd q n h,qZ q n r h,lA q n r h⟩}}
def zpn (x:Z) (n:Nat):Blk:=.cells 113 2 [.imm (.str x),.own 4 n]
def cnB (x:Z) (n:Nat):Blk:=.cells 178 2 [.imm (.str x),.own 6 n]
def zg4 {l:L1 Tok} (N:l.length<=10000) (hf:f<=100000) {d:Dt} (h:tG l f a=some (d,b)):Tq4 240 [.ref 1 0] (Im l a) (.ret (.imm (.agg (D2 d))) (Im l b)):=by
 unfold tG at h
 split at h
 case isFalse=>cases h
 rename_i J;let⟨L,h⟩:=Bd h;let⟨u,P,o,p,_⟩:=Fh J;rw[p]at h;cases s:XX l f [] (a+2)with
 |none=>rw[s]at h;cases h
 |some r=>
 rw[s]at h;cases h;obtain⟨j,b⟩:=r;obtain⟨u1,F,u3,u4⟩:=u;simp only;refine Ac AO func240 O [2,3,4,5,6,7,8,9]<|Av O<|Ae O (E4 N P o) A2 O<|Av O<|Ae O (BR N L) A2 O<|Av O<|Fj 3 4 (e:=178) (sz:=2) [.imm (.str F),.own 4 0] (by decide) O ⟨.inl O,.inr ⟨rfl,rfl⟩,ab⟩<|Al (λz:Bool×Nat×L1 Cd×Nat=>[(4,.imm (.bool z.1)),(0,.ref 1 0),(3,.ref 3 0),(2,.ref 2 0)]) (λz=>[(1,some (rdB l z.2.2.2)),(2,some (.cells 113 2 [.imm (.str []),.nils])),(3,some (zpn F (z.2.2.1.map FW).length)),(4,some (.row 178 2 (z.2.2.1.map FW)))]) [5,6,7,8,9] (λz=>z.2.1)
  (λz=>z.2.1+z.2.2.1.length<=f/\if z.1=true then XX l z.2.1 z.2.2.1 z.2.2.2=some (j,b)else j=z.2.2.1/\Bh l z.2.2.2 [59]=true/\b=z.2.2.2+1) (true,f,[],a+2)
  ⟨by simp,by rw[ae O];exact s⟩ B0 B0 O λz hz k=>?_
 clear s P J p o L;obtain⟨G,f1,V,W⟩:=z;obtain⟨z1,A⟩:=hz;simp only at z1 A k;refine gL O ?_;cases G with
 |false=>
  simp only[DN,aw]at A;obtain⟨rfl,A,rfl⟩:=A;exact Ag O λh=>Az O<|Cn 4 O<|AA O<|Ae O (BR N A) A2 O<|Av O<|Af ⟨_,AC⟩
 |true=>
  simp only[ar]at A;cases f1 with
  |zero=>simp[XX]at A
  |succ f1=>
  rw[XX]at A
  split at A
  case isFalse=>cases A
  rename_i k2;let⟨v,hv,o,p,_⟩:=Fh k2;rw[p]at A;obtain⟨v1,e,v3,v4⟩:=v;have D:∀g,(V++[(⟨e,g⟩:Cd)]).map FW=V.map FW++[FW ⟨e,g⟩]:=λg=>by simp
  simp only at A;refine Aq O λh=>AA O<|Ae O (E4 N hv o) A2 O<|Av O ?_;by_cases i:Bh l (W+1) [40]=true
  ·rw[ae i]at A;cases t:XY l f1 [] (W+2)with
   |none=>rw[t]at A;cases A
   |some w=>
   rw[t]at A;obtain⟨R,c⟩:=w;simp only[Ep]at A;refine Ae O (DE N i) A2 O<|Av O<|Aq O λh=>AA O<|Fj 5 6 (e:=25) (sz:=4) [.imm (.str e),.own 6 0] (by decide) O ⟨.inl O,.inr ⟨rfl,rfl⟩,ab⟩<|Al (λz:Bool×Nat×L1 Y×Nat=>[(6,.imm (.bool z.1)),(0,.ref 1 0),(3,.ref 3 0),(2,.ref 2 0),(5,.ref 5 0)]) (λz=>[(1,some (rdB l z.2.2.2)),(2,some (.cells 113 2 [.imm (.str []),.nils])),(3,some (zpn F (V.map FW).length)),(4,some (.row 178 2 (V.map FW))),(5,some (cnB e (A4 z.2.2.1).length)),(6,some (.row 25 4 (A4 z.2.2.1)))]) [7,8,9] (λz=>z.2.1)
    (λz=>z.2.1+z.2.2.1.length<=f1/\if z.1=true then XY l z.2.1 z.2.2.1 z.2.2.2=some (R,c)else R=z.2.2.1/\Bh l z.2.2.2 [41]=true/\c=z.2.2.2+1) (true,f1,[],W+2)
    ⟨by simp,by rw[ae O];exact t⟩ BD EG O λy hy H=>?_
   clear t;obtain⟨G,x,g,m⟩:=y;obtain⟨y1,C⟩:=hy;simp only at y1 C H;refine gL O ?_;cases G with
   |false=>
    simp only[DN,aw]at C;obtain⟨rfl,C,rfl⟩:=C;refine Ag O λh=>Az O<|Cn 6 O<|AA O<|Ae O (BR N C) A2 O<|Av O<|BK AO O ⟨by simp,by simp[maxLen];omega,by simp;omega,ab⟩<|Av O ?_;by_cases B:Bh l (m+1) [124]=true
    ·rw[ae B]at A;exact Ae O (DE N B) A2 O<|Av O<|AR 4 7 O<|Ad (k (true,f1,V++[⟨e,R⟩],m+1+1) (Di _) ⟨by simp only[AZ,Co,Cb];omega,by rw[ae O];exact A⟩) B0 ⟨rfl,rfl,by rw[D];rfl,by rw[D];rfl,ab⟩ O
    ·rw[ac B]at A;have B:Bh l (m+1) [124]=false:=by simpa using B
     let⟨n,A⟩:=Bd A;cases A;exact Ae O (By B) A2 O<|Av O<|AR 4 7 O<|Ad (k (false,f1,V++[⟨e,R⟩],m+1) (Di _) ⟨by simp only[AZ,Co,Cb];omega,by rw[ac (by simp)];exact⟨rfl,n,rfl⟩⟩) B0 ⟨rfl,rfl,by rw[D];rfl,by rw[D];rfl,ab⟩ O
   |true=>
    simp only[ar]at C;cases x with
    |zero=>simp[XY]at C
    |succ x=>
    rw[XY]at C;cases I:PF l m with
    |none=>rw[I]at C;cases C
    |some q=>
    rw[I]at C;simp only[Ep]at C;have Q:=V5 N (t:=q.1) (b:=q.2) I;have K:A4 (g++[q.1])=A4 g++[As q.1]:=by rw[FH];rfl
    obtain⟨⟨S,T,q3,q4⟩,E⟩:=q;simp only at C Q K
    refine Aq O λh=>AA O<|Ae O (Q) A2 O<|Av O<|BK AO O ⟨by simp,by simp[maxLen];omega,by simp;omega,ab⟩<|Av O ?_;by_cases B:Bh l E [44]=true
    ·rw[ae B]at C;exact Ae O (DE N B) A2 O<|Av O<|AR 6 8 O<|Ad (H (true,x,g++[.mk S T q3 q4],E+1) (Di _) ⟨by simp only[AZ,Co,Cb];omega,by rw[ae O];exact C⟩) BD ⟨rfl,rfl,rfl,rfl,by rw[K];rfl,by rw[K];rfl,ab⟩ O
    ·rw[ac B]at C;have B:Bh l E [44]=false:=by simpa using B
     let⟨n,C⟩:=Bd C;cases C;exact Ae O (By B) A2 O<|Av O<|AR 6 8 O<|Ad (H (false,x,g++[.mk S T q3 q4],E) (Di _) ⟨by simp only[AZ,Co,Cb];omega,by rw[ac (by simp)];exact⟨rfl,n,rfl⟩⟩) BD ⟨rfl,rfl,rfl,rfl,by rw[K];rfl,by rw[K];rfl,ab⟩ O
  ·rw[ac i]at A;have i:Bh l (W+1) [40]=false:=by simpa using i
   simp only[Ep]at A;refine Ae O (By i) A2 O<|Av O<|Ag O λh=>AA O<|BK AO O ⟨by simp,by simp[maxLen];omega,by simp;omega,ab⟩<|Av O ?_;by_cases B:Bh l (W+1) [124]=true
   ·rw[ae B]at A;exact Ae O (DE N B) A2 O<|Av O<|AR 4 6 O<|Ad (k (true,f1,V++[⟨e,[]⟩],W+1+1) (Di _) ⟨by simp only[AZ,Co,Cb];omega,by rw[ae O];exact A⟩) B0 ⟨rfl,rfl,by rw[D];rfl,by rw[D];rfl,ab⟩ O
   ·rw[ac B]at A;have B:Bh l (W+1) [124]=false:=by simpa using B
    let⟨n,A⟩:=Bd A;cases A;exact Ae O (By B) A2 O<|Av O<|AR 4 6 O<|Ad (k (false,f1,V++[⟨e,[]⟩],W+1) (Di _) ⟨by simp only[AZ,Co,Cb];omega,by rw[ac (by simp)];exact⟨rfl,n,rfl⟩⟩) B0 ⟨rfl,rfl,by rw[D];rfl,by rw[D];rfl,ab⟩ O
def zkg {l:L1 Tok} (q:l.length<=10000) (p:f<=100000) {d:Fd} (h:zi8 l f a=some (d,b)):Tq4 241 [.ref 1 0] (Im l a) (.ret (.imm (.agg (DJ d))) (Im l b)):=by
 unfold zi8 at h
 split at h
 case isFalse=>cases h
 rename_i e;let⟨g,h⟩:=Bd h
 split at h
 case isFalse=>cases h
 rename_i i;let⟨j,h⟩:=Bd h;let⟨x,k,m,n,_⟩:=Fh e;let⟨y,o,C,D,_⟩:=Fh i;rw[n,D]at h;cases z:PF l (a+4)with
 |none=>rw[z]at h;cases h
 |some r=>
 rw[z]at h;simp only[Ep]at h;let⟨G,h⟩:=Bd h;let⟨K,h⟩:=Bd h;cases A:PF l (r.2+2)with
 |none=>rw[A]at h;cases h
 |some u=>
 rw[A]at h;simp only[Ep]at h;let⟨N,h⟩:=Bd h;cases B:DV l f (u.2+1)with
 |none=>rw[B]at h;cases h
 |some v=>
 rw[B]at h;simp only[Ep]at h;let⟨R,h⟩:=Bd h;cases h;have V:=V5 q (t:=r.1) (b:=r.2) z;have W:=V5 q (t:=u.1) (b:=u.2) A;have c:=(tF q f (by omega)).term _ v.1 v.2 B;clear z A B;obtain⟨⟨s,t,w,E⟩,F⟩:=r;obtain⟨⟨H,I,J,L⟩,P⟩:=u;obtain⟨⟨Q,S,T,v4,v5⟩,vp⟩:=v;obtain⟨x1,x2,x3,x4⟩:=x;obtain⟨y1,y2,y3,y4⟩:=y;simp only at G K N R V W c ⊢
 exact Ac AO func241 O [2,3]<|Av O<|Ae O (E4 q k m) A2 O<|Av O<|Ae O (BR q g) A2 O<|Av O<|Ae O (E4 q o C) A2 O<|Av O<|Ae O (BR q j) A2 O<|Av O<|Ae O (V) A2 O<|Av O<|Ae O (BR q G) A2 O<|Av O<|Ae O (BR q K) A2 O<|Av O<|Ae O (W) A2 O<|Av O<|Ae O (BR q N) A2 O<|Av O<|Ae O (c) A2 O<|Av O<|Ae O (BR q R) A2 O<|Av O<|Af ⟨_,AC⟩
def mdB (x:Z) (n:Nat):Blk:=.cells 43 3 [.imm (.str x),.own 4 n,.nils]
def mdB2 (x:Z) (n k:Nat):Blk:=.cells 43 3 [.imm (.str x),.own 4 n,.own 5 k]
def nB {l:L1 Tok} (C:l.length<=10000) (I:f<=100000) (h:ZG l f=some (m,b)):Tq4 171 [.ref 1 0] (Im l 0) (.ret (.imm (.agg (dMdc m))) (Im l b)):=by
 unfold ZG at h;let⟨v,h⟩:=Bd h
 split at h
 case isFalse=>cases h
 rename_i o;let⟨w,h⟩:=Bd h;let⟨x,y,E,F,_⟩:=Fh o;rw[F]at h;cases g:Rf l f [] 3 with
 |none=>rw[g]at h;cases h
 |some r=>
 rw[g]at h;simp only[Ep]at h;cases V:XW l f [] r.2 with
 |none=>rw[V]at h;cases h
 |some u=>
 rw[V]at h;simp only[Ep]at h;let⟨p,h⟩:=Bd h;cases h;obtain⟨W,c⟩:=r;obtain⟨H,e⟩:=u;obtain⟨J,a,L,P⟩:=x;simp only at V p ⊢;refine Ac AO func171 O [2,3,4,5,6,7,8]<|Av O<|Ae O (BR C v) A2 O<|Av O<|Ae O (E4 C y E) A2 O<|Av O<|Ae O (BR C w) A2 O<|Av O<|Fj 3 4 (e:=113) (sz:=2) [.imm (.str a),.own 4 0,.nils] (by decide) O ⟨.inl O,.inr ⟨rfl,rfl⟩,.inl O,ab⟩<|Al (λ_:Nat×L1 Dt×Nat=>[(0,.ref 1 0),(3,.ref 3 0),(2,.ref 2 0)]) (λz=>[(1,some (rdB l z.2.2)),(2,some (.cells 43 3 [.imm (.str []),.nils,.nils])),(3,some (mdB a (z.2.1.map D2).length)),(4,some (.row 113 2 (z.2.1.map D2)))]) [5,6,7,8] (λz=>z.1)
  (λz=>z.1+z.2.1.length<=f/\Rf l z.1 z.2.1 z.2.2=some (W,c)) (f,[],3) ⟨by simp,g⟩ AC B0 O λz i D=>?_
 obtain⟨f1,d1,j⟩:=z;obtain⟨d,A⟩:=i;simp only at d A D;cases f1 with
 |zero=>simp[Rf]at A
 |succ f1=>
 rw[Rf]at A;refine AA O ?_;by_cases K:Bh l j [116,121,112,101]=true
 ·rw[ae K]at A;cases G:tG l f1 (j+1)with
  |none=>rw[G]at A;cases A
  |some q=>
  rw[G]at A;simp only[Ep]at A;have R:=zg4 C (f:=f1) (by omega) (d:=q.1) (b:=q.2) G;have B:(d1++[q.1]).map D2=d1.map D2++[D2 q.1]:=by simp
  obtain⟨⟨s,t⟩,k⟩:=q;simp only at A R B;exact Ae O (DE C K) A2 O<|Av O<|Aq O λh=>AA O<|Ae O (R) A2 O<|Av O<|BK AO O ⟨by simp,by simp[maxLen];omega,by simp;omega,ab⟩<|Av O<|AR 4 6 O<|Ad (D (f1,d1++[⟨s,t⟩],k) (Di _) ⟨by simp only[AZ,Co,Cb];omega,A⟩) AC ⟨rfl,rfl,by rw[B];rfl,by rw[B];rfl,ab⟩ O
 rw[ac K]at A;have K:Bh l j [116,121,112,101]=false:=by simpa using K
 cases A;clear D;refine Ae O (By K) A2 O<|Av O<|Ag O λh=>Az O<|AA O<|Fj 3 5 (e:=71) (sz:=15) [.imm (.str a),.own 4 (W.map D2).length,.own 5 0] (by decide) O ⟨.inl O,.inl O,.inr ⟨rfl,rfl⟩,ab⟩<|Al (λ_:Nat×L1 Fd×Nat=>[(0,.ref 1 0),(3,.ref 3 0),(2,.ref 2 0)]) (λz=>[(1,some (rdB l z.2.2)),(2,some (.cells 43 3 [.imm (.str []),.nils,.nils])),(3,some (mdB2 a (W.map D2).length (z.2.1.map DJ).length)),(4,some (.row 113 2 (W.map D2))),(5,some (.row 71 15 (z.2.1.map DJ)))]) [6,7,8] (λz=>z.1)
  (λz=>z.1+z.2.1.length<=f/\XW l z.1 z.2.1 z.2.2=some (H,e)) (f,[],c) ⟨by simp,V⟩ AC BD O λz i D=>?_
 clear d;obtain⟨f2,d1,n⟩:=z;obtain⟨d,A⟩:=i;simp only at d A D;cases f2 with
 |zero=>simp[XW]at A
 |succ f2=>
 rw[XW]at A;refine AA O ?_;by_cases N:Bh l n [102,117,110]=true
 ·rw[ae N]at A;cases G:zi8 l f2 (n+1)with
  |none=>rw[G]at A;cases A
  |some q=>
  rw[G]at A;simp only[Ep]at A;have R:=zkg C (f:=f2) (by omega) (d:=q.1) (b:=q.2) G;have B:(d1++[q.1]).map DJ=d1.map DJ++[DJ q.1]:=by simp
  obtain⟨⟨s,t,⟨Q,S,T,g4⟩,⟨o,k2,k3,k4⟩,⟨t1,t2,t3,t4,t5⟩⟩,k⟩:=q;simp only at A R B;exact Ae O (DE C N) A2 O<|Av O<|Aq O λh=>AA O<|Ae O (R) A2 O<|Av O<|BK AO O ⟨by simp,by simp[maxLen];omega,by simp;omega,ab⟩<|Av O<|AR 5 7 O<|Ad (D (f2,d1++[_],k) (Di _) ⟨by simp only[AZ,Co,Cb];omega,A⟩) AC ⟨rfl,rfl,by rw[B];rfl,rfl,by rw[B];rfl,ab⟩ O
 rw[ac N]at A;have N:Bh l n [102,117,110]=false:=by simpa using N
 cases A;clear D;exact Ae O (By N) A2 O<|Av O<|Ag O λh=>Az O<|Cn 4 O<|Cn 5 O<|AA O<|Ae O (BR C p) A2 O<|Av O<|Af ⟨_,AC⟩
def LK {l:L1 Tok} {g:Nat} (r:s.length<=8000) (u:g<=1000000) (z:Ky g s (Gc s 0)=some l) (A:l.length<=10000) (N:f<=100000) (B:DV l f 0=some (t,l.length)) (C:Cs t=true):Tq3 111 [.str s] (.tup [.agg (dTmc t),.int .i64 0]):=by have D:=sO s l r g u z;have G:=(tF A f (by omega)).term _ _ _ B;have K:=Xs l;have q:=Ub t;rw[C]at q;obtain⟨t1,t2,t3,t4,t5⟩:=t;exact Ac AO func111 O [2,1,3]<|Av O<|Ao [1] [] [(1,1)] O D ab O O<|Av O<|Ag O λh=>AA O<|Ae O (G) A2 O<|Av O<|Ae O (K) A2 O<|Av O<|Ag O λh=>AA O<|Ah O q<|Av O<|Ag O λh=>AA O<|Ab O O O
def WB {l:L1 Tok} {g:Nat} {t:Md} (r:s.length<=8000) (u:g<=1000000) (z:Ky g s (Gc s 0)=some l) (A:l.length<=10000) (B:f<=100000) (C:ZG l f=some (t,l.length)) (D:DA t=true):Tq3 110 [.str s] (.tup [.agg (dMdc t),.int .i64 0]):=by have G:=sO s l r g u z;have K:=nB A B C;have N:=Xs l;have q:=Za t;rw[D]at q;obtain⟨t1,t2,t3⟩:=t;exact Ac AO func110 O [2,1,3]<|Av O<|Ao [1] [] [(1,1)] O G ab O O<|Av O<|Ag O λh=>AA O<|Ae O (K) A2 O<|Av O<|Ae O (N) A2 O<|Av O<|Ag O λh=>AA O<|Ah O q<|Av O<|Ag O λh=>AA O<|Ab O O O
def V2 (σ:Sb):∀H,(∀i:Nat,i<H->(σ (i:Int)).isSome=true->i+1<=Qa σ H)/\(Qa σ H=0\/∃i:Nat,i<H/\Qa σ H=i+1/\(σ (i:Int)).isSome=true)
 |0=>⟨λi h=>by omega,.inl O⟩
 |H+1=>by let⟨u,z⟩:=V2 σ H;simp only[Qa];split;rename_i r;exact⟨λi A _=>by omega,.inr ⟨H,by omega,rfl,r⟩⟩;rename_i r;refine⟨λi A q=>?_,z.imp id λ⟨i,a,b,c⟩=>⟨i,by omega,b,c⟩⟩;by_cases e:i=H;subst e;exact absurd q r;exact u i (by omega) q
def Z1 {n:Int}:(Cc T n).isSome=true↔∃p∈T,p.1=n:=by induction T with|nil=>simp[Cc]|cons p r q=>{simp only[Cc];split;rename_i h;simp[h];rename_i h;simp[h,q]}
def zec (h:∀p∈T,0<=p.1/\p.1<H):yJ T=(Qa (Cc T) H:Int)-1:=by let⟨u,r⟩:=V2 (Cc T) H;refine zed (λp q=>?_) ?_ (λp q=>(h p q).1) (by omega);let⟨a,b⟩:=h p q;have:=u p.1.toNat (by omega) (Z1.2 ⟨p,q,by omega⟩);omega;rcases r with r|⟨i,a,b,c⟩;left;omega;right;let⟨p,q,e⟩:=Z1.1 c;exact⟨p,q,by omega⟩
noncomputable def zfc (H:Nat):Option Sb->V
 |some h=>Yu (zby h H)
 |none=>.tup [.sl [],Hs 7]
mutual
def Sa {b:Bool}:∀t:Y,Dv b t=true->Zs t=true
 |.mk s n x ps,h=>by simp only[Dv,Am]at h;let⟨r,u,q,z⟩:=sC h.1;simp only[Zs,Ps ps h.2,In,Fg,Am,al,bne_iff_ne];by_cases e:s=9;right;have:=q e;omega;exact .inl e
def Ps {b:Bool}:∀l:L1 Y,C8 b l=true->TN l=true
 |[],_=>rfl
 |t::r,h=>by simp only[C8,Am]at h;simp only[TN,Sa t h.1,Ps r h.2,Vl]
end
def Qq {t:Y} (h:AW true t=true):CL t=true/\inB 100 t/\Zs t=true:=by simp only[AW,Am]at h;have:=Mc t h.2;exact⟨this.1,this.2.1,Sa t h.2⟩
def zP {a b:Y} (h:(AW true a&&AW true b)=true) {r:Option Sb} (C:Zc n (λ_=>none) a b r) (k:H<=100) (D:inB H a) (G:inB H b):Tq3 13 [.agg (As a),.agg (As b)] (zfc H r):=by have z:=h;simp only[Am]at z;let⟨K,_,_⟩:=Qq z.1;let⟨N,_,_⟩:=Qq z.2;have R:Dom (H:Int) (Cc []):=λn t h=>(nomatch h);have q:Sol (Cc []) Ay:=Sol.mk (λn t h=>nomatch h) (λn h=>rfl) (λn t h=>nomatch h) (λn t h=>nomatch h);have V:=uW md0 0 [] (H:=H) n [] a b r C ⟨Ay,q⟩ R K N D G;have d:=VX (H:=H) C q R K N D G;cases r with|none=>exact zO a b h V|some f=>{obtain⟨A,g,rfl⟩:=V;obtain⟨⟨θ,u⟩,i,_⟩:=d;have W:∀p∈A,0<=p.1/\p.1<(H:Int):=λp B=>by{let⟨t,j⟩:=Mz.1 (Z1.2 ⟨p,B,rfl⟩);exact(i _ _ j).1};have c:=pJ a b h g u λp B=>by{have:=W p B;omega};have e:zbx A θ=zby (Cc A) H:=by{rw[zbx,zby,zec W,QS u];congr 2;omega};rw[e]at c;exact c}
def zow:Z:=[109,111,100,117,108,101,32,109,32,123,32,116,121,112,101,32,76,105,115,116,32,61,32,78,105,108,32,124,32,67,111,110,115,40,105,110,116,44,32,76,105,115,116,41,59,32,102,117,110,32,115,117,109,40,108,32,58,32,76,105,115,116,41,32,58,32,105,110,116,32,61,32,109,97,116,99,104,32,108,32,123,32,78,105,108,32,45,62,32,48,32,124,32,67,111,110,115,40,120,44,32,114,41,32,45,62,32,120,32,43,32,115,117,109,32,114,32,125,59,32,102,117,110,32,109,97,105,110,40,117,32,58,32,117,110,105,116,41,32,58,32,105,110,116,32,61,32,108,101,116,32,99,32,61,32,99,101,108,108,40,78,105,108,41,32,105,110,32,108,101,116,32,120,32,61,32,112,117,116,40,99,44,32,67,111,110,115,40,105,110,112,117,116,44,32,103,101,116,40,99,41,41,41,32,105,110,32,111,117,116,40,49,44,32,115,117,109,32,40,103,101,116,40,99,41,41,41,59,32,125]
def zoz:Z:=[102,117,110,32,102,32,61,62,32,102,32,49]
def zoy:Z:=[102,117,110,32,120,32,61,62,32,120,32,120]
def zox:Z:=[115,117,109]
def CN:Z:=[76,105,115,116]
def rW (s:Z):L1 Tok:=(Ky 200 s (Gc s 0)).getD []
def sumK:Fd:=⟨[115,117,109],[108],BJ CN,Bk,(.mk 15 0 [] [(.mk 4 0 [108] [] []),(.mk 1 0 [] [] []),(.mk 9 0 [] [(.mk 4 0 [120] [] []),(.mk 6 0 [] [(.mk 4 0 [115,117,109] [] []),(.mk 4 0 [114] [] [])] [])] [])] [.mk 6 0 [78,105,108] [],.mk 6 0 [67,111,110,115] [.mk 2 0 [120] [],.mk 2 0 [114] []]])⟩
def mainK:Fd:=⟨[109,97,105,110],[117],E2,Bk,(.mk 7 0 [99] [(.mk 16 0 [] [(.mk 14 0 [78,105,108] [] [])] []),(.mk 7 0 [120] [(.mk 18 0 [] [(.mk 4 0 [99] [] []),(.mk 14 0 [67,111,110,115] [(.mk 25 0 [] [] []),(.mk 17 0 [] [(.mk 4 0 [99] [] [])] [])] [])] []),(.mk 24 1 [] [(.mk 6 0 [] [(.mk 4 0 [115,117,109] [] []),(.mk 17 0 [] [(.mk 4 0 [99] [] [])] [])] [])] [])] [])] [])⟩
def mK:Md:=⟨[109],[⟨CN,[⟨[78,105,108],[]⟩,⟨[67,111,110,115],[Bk,BJ CN]⟩]⟩],[sumK,mainK]⟩
def t1K:Tm:=(.mk 5 0 [102] [(.mk 6 0 [] [(.mk 4 0 [102] [] []),(.mk 1 1 [] [] [])] [])] [])
def t2K:Tm:=(.mk 5 0 [120] [(.mk 6 0 [] [(.mk 4 0 [120] [] []),(.mk 4 0 [120] [] [])] [])] [])
def t3K:Tm:=(.mk 4 0 [115,117,109] [] [])
def nC:Tq3 51 [] (.agg (dMdc mK)):=by have h:=WB (s:=zow) (l:=rW zow) (g:=200) (f:=60) (t:=mK) (ap (by kernel_rfl)) (by decide) (by kernel_rfl) (ap (by kernel_rfl)) (by decide) (by kernel_rfl) (by kernel_rfl);exact Ac AO func51 O [1,2]<|Av O<|Ah O h<|Av O<|Ab O O O
def Uu (h:Tq3 111 [.str s] (.tup [.agg (dTmc t),.int .i64 0])):Tq3 52 [.str s] (.agg (dTmc t)):=by obtain⟨t1,t2,t3,t4,t5⟩:=t;exact Ac AO func52 O [1,2]<|Av O<|Ah O h<|Av O<|Ab O O O
def zmx:Tq3 52 [.str zoz] (.agg (dTmc t1K)):=Uu (LK (l:=rW zoz) (g:=200) (f:=60) (ap (by kernel_rfl)) (by decide) (by kernel_rfl) (ap (by kernel_rfl)) (by decide) (by kernel_rfl) (by kernel_rfl))
def zmw:Tq3 52 [.str zoy] (.agg (dTmc t2K)):=Uu (LK (l:=rW zoy) (g:=200) (f:=60) (ap (by kernel_rfl)) (by decide) (by kernel_rfl) (ap (by kernel_rfl)) (by decide) (by kernel_rfl) (by kernel_rfl))
def zmu:Tq3 52 [.str zox] (.agg (dTmc t3K)):=Uu (LK (l:=rW zox) (g:=200) (f:=60) (ap (by kernel_rfl)) (by decide) (by kernel_rfl) (ap (by kernel_rfl)) (by decide) (by kernel_rfl) (by kernel_rfl))
def lP {op:Int} {K:K2} (h:Bc m Γ op x ps K τ S) (b:op≠13):S=[]:=by unfold Bc at h;by_cases c:op=1\/op=25;rw[ae c]at h;exact h.2.2;rw[ac c]at h;by_cases d:op=2;rw[ae d]at h;exact h.2.2;rw[ac d]at h;by_cases e:op=3\/op=28;rw[ae e]at h;exact h.2.2;rw[ac e]at h;by_cases f:op=4;rw[ae f]at h;exact h.2.2;rw[ac f]at h;by_cases g:op=5;rw[ae g]at h;obtain⟨_,_,h⟩:=h;exact h.2.2;rw[ac g]at h;by_cases i:op=6;rw[ae i]at h;obtain⟨_,h⟩:=h;exact h.2;rw[ac i]at h;by_cases j:op=7;rw[ae j]at h;obtain⟨_,h⟩:=h;exact h.2;rw[ac j]at h;by_cases k:op=8;rw[ae k]at h;exact h.2;rw[ac k]at h;by_cases l:op=9\/op=10\/op=11;rw[ae l]at h;exact h.2.2;rw[ac l]at h;by_cases n:op=12;rw[ae n]at h;exact h.2.2;rw[ac n]at h;by_cases q:op=13;rw[ae q]at h;exact absurd q b;rw[ac q]at h;by_cases r:op=14;rw[ae r]at h;obtain⟨_,_,h⟩:=h;exact h.2.2.2;rw[ac r]at h;by_cases u:op=15;rw[ae u]at h;obtain⟨_,_,h⟩:=h;exact h.2.2;rw[ac u]at h;by_cases z:op=16;rw[ae z]at h;obtain⟨_,h⟩:=h;exact h.2.2;rw[ac z]at h;by_cases A:op=17;rw[ae A]at h;exact h.2;rw[ac A]at h;by_cases B:op=18;rw[ae B]at h;obtain⟨_,h⟩:=h;exact h.2.2;rw[ac B]at h;by_cases C:op=19;rw[ae C]at h;obtain⟨_,h⟩:=h;exact h.2.2;rw[ac C]at h;by_cases D:op=20;rw[ae D]at h;exact h.2;rw[ac D]at h;by_cases G:op=21;rw[ae G]at h;obtain⟨_,h⟩:=h;exact h.2.2;rw[ac G]at h;by_cases N:op=22;rw[ae N]at h;obtain⟨_,h⟩:=h;exact h.2.2;rw[ac N]at h;by_cases R:op=23;rw[ae R]at h;exact h.2;rw[ac R]at h;by_cases V:op=24;rw[ae V]at h;exact h.2.2;rw[ac V]at h;by_cases W:op=26;rw[ae W]at h;exact h.2.2;rw[ac W]at h;by_cases a:op=27;rw[ae a]at h;exact h.2;rw[ac a]at h;exact h.elim
mutual
def Nv {m:Md}:∀(t:Tm) (Γ:Ax) (τ:Y) (S:L1 Y),SR 13 t=false->Cv m t Γ τ S->S=[]
 |.mk A n x q ps,Γ,τ,S,h,⟨K,S1,B,r,u,z⟩=>by simp only[SR,Lu,cv]at h;rw[z,VL q K S1 h.2 u,lP r h.1];rfl
def VL {m:Md}:∀(q:L1 Tm) (K:K2) (S:L1 Y),Pa 13 q=false->DR m q K S->S=[]
 |[],[],S,_,h=>h
 |t::q,k::u,S,r,⟨S1,z,A,B,C⟩=>by simp only[Pa,Lu]at r;rw[C,Nv t k.1 k.2 S1 r.1 A,VL q u z r.2 B];rfl
 |[],_::_,_,_,h=>h.elim
 |_::_,[],_,_,h=>h.elim
end
def zmy (h:Cv mK t1K [] τ S):∃b,τ=Bz (Bz Bk b) b/\S=[]:=by have A:=Nv t1K [] τ S (by decide) h;obtain⟨K,S1,B,u,C,_⟩:=h;have u:∃a b,K=[([]++[([102],a)],b)]/\τ=Bz a b/\B=[]:=by{simpa[Bc]using u};obtain⟨a,b,rfl,rfl,_⟩:=u;obtain⟨N,_,⟨K,R,D,z,G,_⟩,_,_⟩:=C;have z:∃c,K=[([]++[([102],a)],Bz c b),([]++[([102],a)],c)]/\D=[]:=by{simpa[Bc]using z};obtain⟨c,rfl,_⟩:=z;obtain⟨_,_,⟨_,_,_,q,_,_⟩,⟨_,_,⟨_,_,_,r,_,_⟩,_,_⟩,_⟩:=G;have q:a=Bz c b:=by{simp[Bc,CG,JP]at q;exact q.2.1};have r:c=Bk:=by{simp[Bc]at r;exact r.2.1};subst r;subst q;exact⟨b,rfl,A⟩
def rY (b:Y):Cv mK t1K [] (Bz (Bz Bk b) b) []:=⟨[([]++[([102],Bz Bk b)],b)],[],[],(by simp[Bc];exact⟨_,_,⟨rfl,rfl⟩,rfl⟩),⟨[],[],⟨[([]++[([102],Bz Bk b)],Bz Bk b),([]++[([102],Bz Bk b)],Bk)],[],[],by simp[Bc],⟨[],[],⟨[],[],[],by simp[Bc,CG,JP],rfl,rfl⟩,⟨[],[],⟨[],[],[],by simp[Bc],rfl,rfl⟩,rfl,rfl⟩,rfl⟩,rfl⟩,rfl,rfl⟩,rfl⟩
def zin:¬Cv mK t2K [] τ S:=by rintro ⟨K,S1,z,r,A,_⟩;have r:∃a b,K=[([]++[([120],a)],b)]/\τ=Bz a b/\z=[]:=by{simpa[Bc]using r};obtain⟨a,b,rfl,rfl,_⟩:=r;obtain⟨D,_,⟨K,G,B,u,C,_⟩,_,_⟩:=A;have u:∃c,K=[([]++[([120],a)],Bz c b),([]++[([120],a)],c)]/\B=[]:=by{simpa[Bc]using u};obtain⟨c,rfl,_⟩:=u;obtain⟨_,_,⟨_,_,_,h,_,_⟩,⟨_,_,⟨_,_,_,q,_,_⟩,_,_⟩,_⟩:=C;have h:a=Bz c b:=by{simp[Bc,CG,JP]at h;exact h.2.1};have q:a=c:=by{simp[Bc,CG,JP]at q;exact q.2.1};have:=af Fw (q.symm.trans h);simp only[Bz,Fw,Ei]at this;omega
def zmv (h:Cv mK t3K [] τ S):τ=Bz (BJ CN) Bk/\S=[]:=by have r:=Nv t3K [] τ S (by decide) h;obtain⟨K,S1,u,q,z,_⟩:=h;have q:K=[]/\Bz (BJ CN) Bk=τ/\u=[]:=by{simpa[Bc,CG,JP,mK,T7,sumK]using q};exact⟨q.2.1.symm,r⟩
def zim:Cv mK t3K [] (Bz (BJ CN) Bk) []:=⟨[],[],[],by simp[Bc,CG,JP,mK,T7,sumK],rfl,rfl⟩
def zca:Cv mK sumK.body [(sumK.param,sumK.from_)] sumK.to_ []:=by have r:HJ mK (.mk 6 0 [78,105,108] []) (BJ CN) [([108],BJ CN)] [([108],BJ CN)]:=by{simp[HJ,Hm,RG,mK];exact⟨_,_,⟨rfl,rfl⟩,rfl,rfl,rfl⟩};have u:HJ mK (.mk 6 0 [67,111,110,115] [.mk 2 0 [120] [],.mk 2 0 [114] []]) (BJ CN) [([108],BJ CN)] [([108],BJ CN),([120],Bk),([114],BJ CN)]:=by{simp[HJ,Hm,RG,mK];exact⟨_,_,⟨rfl,rfl⟩,rfl,rfl,⟨_,rfl,⟨_,rfl,rfl⟩⟩⟩};have rw:Kf mK (BJ CN) [([108],BJ CN)] [.mk 6 0 [78,105,108] [],.mk 6 0 [67,111,110,115] [.mk 2 0 [120] [],.mk 2 0 [114] []]] [[([108],BJ CN)],[([108],BJ CN),([120],Bk),([114],BJ CN)]]:=⟨_,_,r,⟨_,_,u,rfl,rfl⟩,rfl⟩;have q:∀(Γ:Ax) (x:Z) (τ:Y),CG mK Γ x=some τ->Cv mK (.mk 4 0 x [] []) Γ τ []:=λΓ x τ h=>⟨[],[],[],by simp[Bc,h],rfl,rfl⟩;refine⟨[([([108],BJ CN)],BJ CN),([([108],BJ CN)],Bk),([([108],BJ CN),([120],Bk),([114],BJ CN)],Bk)],[],[],?_,?_,rfl⟩;show Bc mK _ 15 _ _ _ _ _;unfold Bc;exact⟨_,_,rw,rfl,rfl⟩;refine⟨[],[],q _ _ _ (by simp[CG,JP]),⟨[],[],⟨[],[],[],by simp[Bc,sumK],rfl,rfl⟩,⟨[],[],⟨[([([108],BJ CN),([120],Bk),([114],BJ CN)],Bk),([([108],BJ CN),([120],Bk),([114],BJ CN)],Bk)],[],[],by simp[Bc],?_,rfl⟩,rfl,rfl⟩,rfl⟩,rfl⟩;refine⟨[],[],q _ _ _ (by simp[CG,JP]),⟨[],[],⟨[([([108],BJ CN),([120],Bk),([114],BJ CN)],Bz (BJ CN) Bk),([([108],BJ CN),([120],Bk),([114],BJ CN)],BJ CN)],[],[],by simp[Bc],⟨[],[],q _ _ _ (by simp[CG,JP,T7,mK,sumK]),⟨[],[],q _ _ _ (by simp[CG,JP]),rfl,rfl⟩,rfl⟩,rfl⟩,rfl,rfl⟩,rfl⟩
def yM (S:L1 Y):¬Cv mK mainK.body [(mainK.param,mainK.from_)] mainK.to_ S:=by rintro ⟨K,S1,r,h,u,_⟩;have h:∃a,K=[([([117],E2)],a),([([117],E2)]++[([99],a)],Bk)]/\r=[]:=by{simpa[Bc,mainK]using h};obtain⟨a,rfl,_⟩:=h;obtain⟨_,_,_,⟨_,_,⟨K,C,z,q,A,_⟩,_,_⟩,_⟩:=u;have q:∃b,K=[([([117],E2)]++[([99],a)],b),([([117],E2)]++[([99],a)]++[([120],b)],Bk)]/\z=[]:=by{simpa[Bc,mainK]using q};obtain⟨b,rfl,_⟩:=q;obtain⟨_,_,_,⟨_,_,⟨K,D,G,B,N,_⟩,_,_⟩,_⟩:=A;simp[Bc,Bk,E2]at B
structure Bfs (m:Md) (a i:Nat) (l:List Nat):Prop where
 nd:l.Nodup
 lt:∀j∈l,j<m.funs.length
 has:a∈l
 rch:∀j∈l,Rch m a j
 done:∀p j f k g,p<i->l[p]?=some j->m.funs[j]?=some f->m.funs[k]?=some g->aY 4 g.name f.body=true->k∈l
def Ya (h:l.Nodup) (q:∀x∈l,x<n):l.length<=n:=by have:=RH (l:=l.map λi:Nat=>(i:Int)) (n:=n) (fh _ (λa b h e=>h (ZN.1 e)) h) λx r=>by{obtain⟨y,u,rfl⟩:=C7.1 r;have:=q y u;omega};rw[C6]at this;omega
def Bfs.len (h:Bfs m a i l):l.length<=m.funs.length:=Ya h.nd h.lt
def Bfs.init (h:a<m.funs.length):Bfs m a 0 [a]:=⟨by simp,λj q=>by rw[AL.1 q];exact h,by simp,λj q=>by rw[AL.1 q];exact .base,λp j f k g r=>by omega⟩
def Bfs.all (h:Bfs m a i l) (C:l.length<=i):∀j,Rch m a j->j∈l:=by intro j r;induction r with|base=>exact h.has|step _ u z A B=>{let⟨p,q⟩:=DW.1 B;exact h.done p _ _ _ _ (by have:=(A9.1 q).1;omega) q u z A}
structure BfsK (m:Md) (a i k:Nat) (l:List Nat):Prop where
 b:Bfs m a i l
 now:∀j f k' g,l[i]?=some j->m.funs[j]?=some f->k'<k->m.funs[k']?=some g->aY 4 g.name f.body=true->k'∈l
def Bfs.k (h:Bfs m a i l):BfsK m a i 0 l:=⟨h,λj f q g _ _ r=>by omega⟩
def BfsK.next {k:Nat} (h:BfsK m a i k l) (B:m.funs.length<=k):Bfs m a (i+1) l:=by refine⟨h.b.nd,h.b.lt,h.b.has,h.b.rch,λp j f r g C u z q A=>?_⟩;by_cases e:p=i;subst e;exact h.now j f r g u z (by have:=(A9.1 q).1;omega) q A;exact h.b.done p j f r g (by omega) u z q A
def BfsK.skip {k:Nat} (h:BfsK m a i k l) (hn:k∈l\/∀j f g,l[i]?=some j->m.funs[j]?=some f->m.funs[k]?=some g->aY 4 g.name f.body=false):BfsK m a i (k+1) l:=by refine⟨h.b,λj f q g r u B z A=>?_⟩;by_cases e:q=k;subst e;rcases hn with hn|hn;exact hn;have:=hn j f g r u z;rw[A]at this;cases this;exact h.now j f q g r u (by omega) z A
def BfsK.add {k:Nat} {f g:Fd} (h:BfsK m a i k l) (V:k∉l) (K:l[i]?=some j) (W:m.funs[j]?=some f) (N:m.funs[k]?=some g) (b:aY 4 g.name f.body=true):BfsK m a i (k+1) (l++[k]):=by have c:i<l.length:=(A9.1 K).1;have q:∀p,p<=i->(l++[k])[p]?=l[p]?:=λp R=>KD (by omega);refine⟨⟨?_,?_,?_,?_,?_⟩,?_⟩;rw[CV];exact⟨h.b.nd,by simp,λx hx y d e=>by rw[AL.1 d]at e;exact V (e▸hx)⟩;intro x hx;rcases B2.1 hx with hx|hx;exact h.b.lt x hx;rw[AL.1 hx];exact(A9.1 N).1;exact Ko _ h.b.has;intro x hx;rcases B2.1 hx with hx|hx;exact h.b.rch x hx;rw[AL.1 hx];exact .step (h.b.rch j (AF K)) W N b;intro p C D B G R r u z A;rw[q p (by omega)]at r;exact Ko _ (h.b.done p C D B G R r u z A);intro C D B G r u n z A;rw[q i (BO _)]at r;by_cases e:B=k;subst e;simp;exact Ko _ (h.now C D B G r u (by omega) z A)
def zk5 (m:Md) (op:Int) (l:L1 Nat):Bool:=l.any λj=>match m.funs[j]? with
 |some f=>SR op f.body
 |none=>false
def VA (l:L1 Int) (x:Int):L1 Int:=if x∈l then l else l++[x]
def dL (l:L1 Int) (x:Int):Gn (EO l) (.int .i64 x) (.bool true)=EO (VA l x):=by unfold VA;by_cases h:x∈l;rw[ae h];exact U7 h;rw[ac h];exact K3 h
def zeg {l:L1 Int} {x:Int}:y∈VA l x↔y∈l\/x=y:=by unfold VA;split;rename_i h;exact⟨.inl,λq=>q.elim id λe=>e▸h⟩;simp[fa]
def zf0 {l:L1 Z} {y:Z}:Bm (MB l x) y=(Bm l y||x==y):=by have q:∀a b:L1 Z,Bm (a++b) y=(Bm a y||Bm b y):=λa b=>by{induction a with|nil=>rfl|cons z r u=>{simp only[Dj,Bm,u,ZU]}};unfold MB;split;rename_i h;by_cases e:x=y;subst e;simp[h];simp[e];rw[q];simp[Bm]
mutual
def TC:Tm->L1 Int×L1 Z->L1 Int×L1 Z
 |.mk h _ x q _,z=>JU q (VA z.1 h,if h=4 then MB z.2 x else z.2)
def JU:L1 Tm->L1 Int×L1 Z->L1 Int×L1 Z
 |[],z=>z
 |t::r,z=>JU r (TC t z)
end
mutual
def RE {y:Int}:∀(t:Tm) (z:L1 Int×L1 Z),y∈(TC t z).1↔y∈z.1\/SR y t=true
 |.mk q n x h ps,z=>by simp only[TC,SR,Wa h,zeg,Fg,ao,fx]
def Wa {y:Int}:∀(h:L1 Tm) (z:L1 Int×L1 Z),y∈(JU h z).1↔y∈z.1\/Pa y h=true
 |[],z=>by simp[JU,Pa]
 |t::r,z=>by simp only[JU,Pa,Wa r,RE t,Fg,fx]
end
mutual
def Wb {y:Z}:∀(t:Tm) (z:L1 Int×L1 Z),Bm (TC t z).2 y=(Bm z.2 y||aY 4 y t)
 |.mk h n x q ps,z=>by simp only[TC,aY,YK q];by_cases e:h=4;subst e;simp[zf0,ZU];simp[e,show(h==4)=false by simpa using e]
def YK {y:Z}:∀(h:L1 Tm) (z:L1 Int×L1 Z),Bm (JU h z).2 y=(Bm z.2 y||iB 4 y h)
 |[],z=>by simp[JU,iB]
 |t::r,z=>by simp only[JU,iB,YK r,Wb t,ZU]
end
def X8 {t:Tm}:∀{l:L1 Tm},t∈l->Nh t<=Em l
 |x::r,h=>by simp only[Em];rcases Ck.1 h with rfl|h;omega;have:=X8 h;omega
def zas (z:L1 Int×L1 Z):St:=[(1,some (.map (EO z.1))),(2,some (.map (E3 z.2)))]
def SH:∀(b:Nat) (t:Tm) (z:L1 Int×L1 Z),Nh t<=b->Tq4 93 [.imm (.agg (dTmc t)),.mapr 1,.mapr 2] (zas z) (.ret (.imm (.tup [])) (zas (TC t z)))
 |0,t,z,f=>by have:=sB t;omega
 |b+1,.mk A n x C ps,z,f=>by have m:=dL z.1 A;have o:=dJ z.2 x;have g:=λ(u:Tm) (D:u∈C) (z:L1 Int×L1 Z)=>SH b u z (by have:=X8 D;simp only[Nh]at f;omega);obtain⟨d,r⟩:=z;simp only[TC];refine FT 0 O λN=>?_;simp[Gy,D8,maxLen,dTmc]at N;refine Ac Aj func93 O [3,4,5]<|Ak O<|FD Aj O O O (Dn d) ?_;rw[m];refine Ak O ?_;have R:4=A->Gn (E3 r) (.str x) (.bool true)=E3 (if A=4 then MB r x else r):=λe=>by{rw[o,ae e.symm]};have V:A≠4->r=if A=4 then MB r x else r:=λe=>by{rw[ac e]};have i:∀q,q=(if A=4 then MB r x else r)->Tq2 Tryz.f93.ntmps (CT (zas (d,r))) (KZ bZ Tryz.f93.results.toList (.ret (.imm (.tup [])) (zas (JU C (VA d A,if A=4 then MB r x else r))))) [.code (ES Tryz.f93 3)] [(3,.ref 3 0),(1,.mapr 1),(2,.mapr 2)] ((3,some (.immb 49 5 (dTmc (.mk A n x C ps))))::zas (VA d A,q)) [4,5]:=by{intro q e;subst e;generalize(if A=4 then MB r x else r)=q at *;generalize VA d A=W at *;refine A3 O<|Al (λz:Nat×L1 Int×L1 Z=>[(20,i7 z.1),(19,i7 C.length),(18,.imm (.sl (Cz C))),(1,.mapr 1),(2,.mapr 2)]) (λz=>zas z.2) [4,5] (λz=>C.length-z.1) (λz=>z.1<=C.length/\JU (C.drop z.1) z.2=JU C (W,q)) (0,W,q) ⟨AK _,rfl⟩ ⟨rfl,B8 (by simp),AC⟩ AP O λz p k=>?_;obtain⟨j,d1,l⟩:=z;obtain⟨a,B⟩:=p;simp only at a B k;generalize JU C (W,q)=E at *;refine A3 O<|Aa O (λh=>?_) (λh=>?_);have G:j<C.length:=by{simp at h;omega};let⟨u,D⟩:=At G;have s:=Et D;have v:=g u (AF D) (d1,l);rw[Au D,JU]at B;generalize TC u (d1,l)=w at *;obtain⟨y,F,H,I,J⟩:=u;exact A3 O<|WF O s<|Ak O<|Ao [] c7 [] O v zcv O O<|Ak O<|Ad (k (j+1,w) (by simp only;omega) ⟨by simp only;omega,B⟩) ⟨Bf,B0⟩ AP O;have G:¬j<C.length:=by{simp at h;omega};rw[Bu (by omega)]at B;simp only[JU]at B;subst B;exact Az O<|A3 O<|Bw ⟨[],B0⟩};clear g;by_cases K:A=4;have c:=R K.symm;refine Aa O (λh=>?_) (λh=>by exfalso;simp at h;exact h K);refine A3 O<|FD Aj O O O (EC r) ?_;rw[c];refine Wc<|LC ?_ ?_ ?_ (i _ O);exact AC;exact AC;rfl;have c:=V K;refine Aa O (λh=>by exfalso;simp at h;exact K h) (λh=>?_);refine Gu<|LC ?_ ?_ ?_ (i _ c);exact AC;exact AC;rfl
def YN (l:L1 Nat):L1 (L1 V):=KW (l.map λi:Nat=>(i:Int))
@[simp] theorem dNats_length (l:L1 Nat):(YN l).length=l.length:=by simp[YN]
def zky (a b:L1 Nat):YN (a++b)=YN a++YN b:=by simp[YN,KW]
end Go.Hk
