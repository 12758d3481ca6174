/- hearthlaw03.KindInfers returns true for all its arguments, and changes nothing: the most general type of any term, or the errors. No condition. -/
import Derived.Test.YtcdpbkolkeeopaaGreatTf
import Derived.Test.YtcdpbkolkeeopaaGreatTd
import Derived.Test.YtcdpbkolkeeopaaGreatTe
import Derived.Test.YtcdpbkolkeeopaaGreatTb
import Derived.Below
import Derived.ChangeSame
import Derived.ChangeOld
import Derived.Carry
import Derived.ChangeArms
import Derived.DataReads
import Derived.WideKeyArgs
import Derived.OpenShut
import Derived.RowKit
import Derived.ProofKit
import Derived.Test.YtcdpbkolkeeopaaGreatRows
import Derived.WalkKit
set_option linter.all false
set_option maxRecDepth 100000
set_option maxHeartbeats 4000000
namespace Go.Hk
open Go.Proofs.Tryz
open Go.Proofs
open Go.RowKit Go.WideShapes Go.ChangeShapes
open Go.RowKit Go.WideShapes Go.ChangeShapes Go.ChangeAt
variable {m:Md} {W W':World} {p:Int->Int->Str->Nat->Bool} {l:List Nat} {a i n sz:Nat} {P:Program} {t:Tm} {q η G ν:Int->Ty} {Γ:Au} {H α:Type} {b:Bool} {v:Value} {x y:Str} {τ:Ty} {S:List Ty} {L:List Int} {z:List D} {cs vs:List Value} {ps:List MemPlace} {T:List (Int×Ty)} {f g:Fd} {s:ChangeSpec} {xs:List V} {tt:TT}
theorem oN {l:List Str}:BS (Ke l x) y=(BS l y||x == y):=by
 unfold Ke;split
 ·rename_i h;by_cases e:x=y
  ·subst e;simp [h]
  ·simp [e]
 ·rw [Ki];simp [BS]
theorem XL (m:Md) (cs:List Cd) (b:Bool) (met:List Str):∀j,j<=cs.length ->
  ((cs.take j).foldl (iR m) (b,met)).1=(b && !((List.range j).any λk=>match cs[k]? with | some c=>BS (met++(cs.take k).map (λc:Cd=>c.name)) c.name | none=>false)&&(cs.take j).all λc=>(CG c.args).all (NP m)) /\
   ∀s,BS ((cs.take j).foldl (iR m) (b,met)).2 s=BS (met++(cs.take j).map (λc:Cd=>c.name)) s
 | 0,_=>by simp
 | j+1,h=>by
  obtain ⟨h1,h2⟩:=XL m cs b met j (by omega);obtain ⟨c,hc⟩:=Am (l:=cs) (i:=j) (by omega);rw [Bk hc,Za,OO,Zb,NU,Gj];simp only [iR,h1,h2,Zh,List.any_nil,hc,Bool.or_false,Ii,Da,Jd,Ze,oN,CL,Cv,FB];refine ⟨?_,λs=>?_⟩
  ·generalize (List.range j).any _=o1;generalize BS _ c.name=o2;generalize (cs.take j).all _=o3;generalize (CG c.args).all _=o4;cases b <;> cases o1 <;> cases o2 <;> cases o3 <;> cases o4 <;> rfl
  ·rw [<- Cl,Ki _ [c.name]];simp [BS]
theorem yJ (hm:D6 m=true) {d:Dt} (hd:m.datas[i]?=some d) {met:List Str} (hmet:∀s,BS met s=BS (Pf (m.datas.take i)) s) :
  (Sx m i d met).1 = !Mc m i/\∀s,BS (Sx m i d met).2 s=BS (Pf (m.datas.take (i+1))) s:=by
 obtain ⟨h1,h2⟩:=XL m d.cons (!((m.datas.take i).any λe=>e.name == d.name)) met d.cons.length (BL _);rw [Ig] at h1 h2;have hw:∀c∈d.cons,Ck false c.args=true:=λc hc=>by
  simp only [D6,A2] at hm;have:=Eo.1 hm.1.2 d (AK hd);simp only [H2,A2] at this;have:=Eo.1 this.2 c hc;simp only [LW,A2] at this;refine SR λt ht=>?_;have:=Eo.1 this.2 t ht;simp only [Fp,A2] at this;exact this.2
 have e1:(d.cons.all λc=>(CG c.args).all (NP m)) = !d.cons.any λc=>!Fw m c.args:=by
  have:∀l:List Cd,(∀c∈l,(CG c.args).all (NP m)=Fw m c.args)->(l.all λc=>(CG c.args).all (NP m)) = !l.any λc=>!Fw m c.args:=λl=>by
   induction l with
   | nil=>intro _;rfl
   | cons c r ih =>
    intro h;simp only [Da,Zh,ih λx hx=>h x (by simp [hx]),h c (by simp)];cases Fw m c.args <;> simp
  exact this _ λc hc=>PK m c.args (hw c hc)
 have e2:∀k:Nat,(match d.cons[k]? with | some c=>BS (met++(d.cons.take k).map (λc:Cd=>c.name)) c.name | none=>false)=(match d.cons[k]? with | some c=>BS (Pf (m.datas.take i)++(d.cons.take k).map (λc:Cd=>c.name)) c.name | none=>false):=λk=>by
  cases d.cons[k]? with
  | none=>rfl
  | some c=>simp only [Ki,hmet]
 refine ⟨?_,λs=>?_⟩
 ·unfold Sx;rw [h1,e1];simp only [e2,Mc,Yp,hd];generalize (List.range d.cons.length).any _=o1;generalize (m.datas.take i).any _=o2;generalize d.cons.any _=o3;cases o1 <;> cases o2 <;> cases o3 <;> rfl
 ·unfold Sx;rw [h2,Ki,hmet,Bk hd];simp only [Pf,CL,Zu,Cv,FB,JT,List.flatten_nil,HP,Ki]
theorem dL {m:Md} (hm:D6 m=true):∀(n i:Nat) (met:List Str),i+n=m.datas.length->(∀s,BS met s=BS (Pf (m.datas.take i)) s)->P9 m i n met=GX (Mc m) i n
 | 0,_,_,_,_=>rfl
 | n+1,i,met,h,hmet=>by
  obtain ⟨d,hd⟩:=Am (l:=m.datas) (i:=i) (by omega);obtain ⟨h1,h2⟩:=yJ hm hd hmet;rw [P9,GX,hd];simp only [h1];cases Mc m i with
  | true=>rfl
  | false =>
   simp only [mW,if_true,E1,if_false];exact dL hm n (i+1) _ (by omega) h2
theorem Yl (hm:D6 m=true):Is m=RW m:=by
 have e0:P9 m 0 m.datas.length []=GX (Mc m) 0 m.datas.length:=dL hm _ 0 [] (by omega) λs=>by simp [Pf]
 have e1:Sp m=N6 m:=funext λi=>by
  unfold Sp N6;cases hf:m.funs[i]? with
  | none=>rfl
  | some f =>
   simp only;have hw:Ck false [f.from_,f.to_]=true:=by
    simp only [D6,A2] at hm;have:=Eo.1 hm.2 f (AK hf);simp only [MW,Fp,A2] at this;simp [Ck,this.1.1.2.2,this.1.2.2]
   have:=PK m _ hw;rw [this];simp only [Fw,Ze];generalize (m.funs.take i).any _=o1;generalize JR m f.from_=o2;generalize JR m f.to_=o3;generalize Io m f=o4;cases o1 <;> cases o2 <;> cases o3 <;> cases o4 <;> rfl
 have l0:Gk m 0=(match P9 m 0 m.datas.length [] with | some i=>(1,(i:Int)) | none=>(0,0)):=rfl;have l1:Gk m 1=(match GX (Sp m) 0 m.funs.length with | some i=>(2,(i:Int)) | none=>(0,0)):=rfl;have l2:Gk m 2=if WC m=true then (0,0) else (3,0):=rfl
 unfold Is RW;rw [l0,l1,l2,e0,e1];cases GX (Mc m) 0 m.datas.length with
 | some i=>simp
 | none =>
  cases GX (N6 m) 0 m.funs.length with
  | some i=>simp
  | none=>simp
theorem QW (σ:Sb):∀H,(∀i:Nat,i<H->(σ (i:Int)).isSome=true->i+1<=MF σ H)/\(MF σ H=0\/∃i:Nat,i<H/\MF σ H=i+1/\(σ (i:Int)).isSome=true)
 | 0=>⟨λi h=>by omega,.inl rfl⟩
 | H+1=>by
  obtain ⟨h1,h2⟩:=QW σ H;simp only [MF]
  split
  ·rename_i hs;exact ⟨λi hi _=>by omega,.inr ⟨H,by omega,rfl,hs⟩⟩
  ·rename_i hs;refine ⟨λi hi his=>?_,h2.imp id λ⟨i,a,b,c⟩=>⟨i,by omega,b,c⟩⟩;by_cases e:i=H
   ·subst e;exact absurd his hs
   ·exact h1 i (by omega) his
theorem U2 {n:Int}:(BH T n).isSome=true↔∃p∈T,p.1=n:=by
 induction T with
 | nil=>simp [BH]
 | cons p r ih =>
  simp only [BH]
  split
  ·rename_i h;simp [h]
  ·rename_i h;simp [h,ih]
theorem mN {H:Nat} (h:∀p∈T,0<=p.1/\p.1<H):fQ T=(MF (BH T) H:Int)-1:=by
 obtain ⟨h1,h2⟩:=QW (BH T) H;refine mO (λp hp=>?_) ?_ (λp hp=>(h p hp).1) (by omega)
 ·obtain ⟨a,b⟩:=h p hp;have:=h1 p.1.toNat (by omega) (U2.2 ⟨p,hp,by omega⟩)
  omega
 ·rcases h2 with h2 | ⟨i,a,b,c⟩
  ·left;omega
  ·right;obtain ⟨p,hp,e⟩:=U2.1 c;exact ⟨p,hp,by omega⟩
noncomputable def nR (H:Nat):Option Sb->V
 | some σ=>Tx (zdn σ H)
 | none=>.tup [.sl [],FD 7]
mutual
theorem O9 {b:Bool}:∀t:Ty,CP b t=true->Uy t=true
 | .mk s n x ps,h=>by
  simp only [CP,A2] at h;obtain ⟨h1,h2,h3,h4⟩:=bP h.1;simp only [Uy,Mk ps h.2,Ze,Hv,A2,decide_eq_true_eq,bne_iff_ne];by_cases e:s=9
  ·right;have:=h3 e;omega
  ·exact .inl e
theorem Mk {b:Bool}:∀l:List Ty,Ck b l=true->PH l=true
 | [],_=>rfl
 | t::r,h=>by
  simp only [Ck,A2] at h;simp only [PH,O9 t h.1,Mk r h.2,Bool.and_self]
end
theorem MY {t:Ty} (h:AV true t=true):C9 t=true/\inB 100 t/\Uy t=true:=by
 simp only [AV,A2] at h;have:=Ml t h.2;exact ⟨this.1,this.2.1,O9 t h.2⟩
theorem gX {a b:Ty} (h:(AV true a&&AV true b)=true) {r:Option Sb} (hE:Ox n (λ_=>none) a b r) {H:Nat} (hH:H<=100) (ha:inB H a) (hb:inB H b) :
  Tq3 13 [.agg (Al a),.agg (Al b)] (nR H r):=by
 have hf:=h;simp only [A2] at hf;obtain ⟨wa,_,_⟩:=MY hf.1;obtain ⟨wb,_,_⟩:=MY hf.2;have h0:Dom (H:Int) (BH []):=λn t h=>(nomatch h)
 have hs0:Sol (BH []) Ao:=Sol.mk (λn t h=>nomatch h) (λn h=>rfl) (λn t h=>nomatch h) (λn t h=>nomatch h);have hG:=dJ sX 0 [] (H:=H) n [] a b r hE ⟨Ao,hs0⟩ h0 wa wb ha hb;have hU:=Ru (H:=H) hE hs0 h0 wa wb ha hb;cases r with
 | none=>exact gW a b h hG
 | some σ' =>
  obtain ⟨T',hK,rfl⟩:=hG;obtain ⟨⟨θ,hθ⟩,hD,_⟩:=hU;have hk:∀p∈T',0<=p.1/\p.1<(H:Int):=λp hp=>by
   obtain ⟨t,ht⟩:=zb5.1 (U2.2 ⟨p,hp,rfl⟩);exact (hD _ _ ht).1
  have hY:=ZO a b h hK hθ λp hp=>by have:=hk p hp;omega
  have e:zdm T' θ=zdn (BH T') H:=by
   rw [zdm,zdn,mN hk,Us hθ];congr 2;omega
  rw [e] at hY;exact hY
def zA:Str:=[109,111,100,117,108,101,32,109,32,123,32,116,121,112,101,32,76,105,115,116,32,61,32,78,105,108,32,124,32,67,111,110,115,40,105,110,116,44,32,76,105,115,116,41,59,32,102,117,110,32,115,117,109,40,108,32,58,32,76,105,115,116,41,32,58,32,105,110,116,32,61,32,109,97,116,99,104,32,108,32,123,32,78,105,108,32,45,62,32,48,32,124,32,67,111,110,115,40,120,44,32,114,41,32,45,62,32,120,32,43,32,115,117,109,32,114,32,125,59,32,102,117,110,32,109,97,105,110,40,117,32,58,32,117,110,105,116,41,32,58,32,105,110,116,32,61,32,108,101,116,32,99,32,61,32,99,101,108,108,40,78,105,108,41,32,105,110,32,108,101,116,32,120,32,61,32,112,117,116,40,99,44,32,67,111,110,115,40,105,110,112,117,116,44,32,103,101,116,40,99,41,41,41,32,105,110,32,111,117,116,40,49,44,32,115,117,109,32,40,103,101,116,40,99,41,41,41,59,32,125]
def zD:Str:=[102,117,110,32,102,32,61,62,32,102,32,49]
def zC:Str:=[102,117,110,32,120,32,61,62,32,120,32,120]
def zB:Str:=[115,117,109]
def Cr:Str:=[76,105,115,116]
def bL (s:Str):List Tok:=(Iu 200 s (EO s 0)).getD []
def sumK:Fd:=⟨[115,117,109],[108],Bx Cr,AU,(.mk 15 0 [] [(.mk 4 0 [108] [] []),(.mk 1 0 [] [] []),(.mk 9 0 [] [(.mk 4 0 [120] [] []),(.mk 6 0 [] [(.mk 4 0 [115,117,109] [] []),(.mk 4 0 [114] [] [])] [])] [])] [.mk 6 0 [78,105,108] [],.mk 6 0 [67,111,110,115] [.mk 2 0 [120] [],.mk 2 0 [114] []]])⟩
def mainK:Fd:=⟨[109,97,105,110],[117],Dm,AU,(.mk 7 0 [99] [(.mk 16 0 [] [(.mk 14 0 [78,105,108] [] [])] []),(.mk 7 0 [120] [(.mk 18 0 [] [(.mk 4 0 [99] [] []),(.mk 14 0 [67,111,110,115] [(.mk 25 0 [] [] []),(.mk 17 0 [] [(.mk 4 0 [99] [] [])] [])] [])] []),(.mk 24 1 [] [(.mk 6 0 [] [(.mk 4 0 [115,117,109] [] []),(.mk 17 0 [] [(.mk 4 0 [99] [] [])] [])] [])] [])] [])] [])⟩
def mK:Md:=⟨[109],[⟨Cr,[⟨[78,105,108],[]⟩,⟨[67,111,110,115],[AU,Bx Cr]⟩]⟩],[sumK,mainK]⟩
def yY:Tm:=(.mk 5 0 [102] [(.mk 6 0 [] [(.mk 4 0 [102] [] []),(.mk 1 1 [] [] [])] [])] [])
def t2K:Tm:=(.mk 5 0 [120] [(.mk 6 0 [] [(.mk 4 0 [120] [] []),(.mk 4 0 [120] [] [])] [])] [])
def yX:Tm:=(.mk 4 0 [115,117,109] [] [])
theorem YW:Tq3 51 [] (.agg (dMdc mK)):=by
 have hP:=RS (s:=zA) (l:=bL zA) (g:=200) (f:=60) (t:=mK) (of_decide_eq_true (by kernel_rfl)) (by decide) (by kernel_rfl) (of_decide_eq_true (by kernel_rfl)) (by decide) (by kernel_rfl) (by kernel_rfl);exact AQ AJ func51 rfl [1,2]<|Aq rfl<|Ad rfl hP<|Aq rfl<|Ab rfl rfl rfl
theorem Qj {s:Str} (h:Tq3 111 [.str s] (.tup [.agg (dTmc t),.int .i64 0])):Tq3 52 [.str s] (.agg (dTmc t)):=by
 obtain ⟨t1,t2,t3,t4,t5⟩:=t;exact AQ AJ func52 rfl [1,2]<|Aq rfl<|Ad rfl h<|Aq rfl<|Ab rfl rfl rfl
theorem wY:Tq3 52 [.str zD] (.agg (dTmc yY)):=Qj (Jy (l:=bL zD) (g:=200) (f:=60) (of_decide_eq_true (by kernel_rfl)) (by decide) (by kernel_rfl) (of_decide_eq_true (by kernel_rfl)) (by decide) (by kernel_rfl) (by kernel_rfl))
theorem wX:Tq3 52 [.str zC] (.agg (dTmc t2K)):=Qj (Jy (l:=bL zC) (g:=200) (f:=60) (of_decide_eq_true (by kernel_rfl)) (by decide) (by kernel_rfl) (of_decide_eq_true (by kernel_rfl)) (by decide) (by kernel_rfl) (by kernel_rfl))
theorem wV:Tq3 52 [.str zB] (.agg (dTmc yX)):=Qj (Jy (l:=bL zB) (g:=200) (f:=60) (of_decide_eq_true (by kernel_rfl)) (by decide) (by kernel_rfl) (of_decide_eq_true (by kernel_rfl)) (by decide) (by kernel_rfl) (by kernel_rfl))
theorem Yy {op:Int} {ps:List Ty} {K:List (Au×Ty)} (h:Bp m Γ op x ps K τ S) (h13:op≠13):S=[]:=by
 unfold Bp at h;by_cases e0:op=1\/op=25
 ·rw [if_pos e0] at h;exact h.2.2
 rw [if_neg e0] at h;by_cases e1:op=2
 ·rw [if_pos e1] at h;exact h.2.2
 rw [if_neg e1] at h;by_cases e2:op=3\/op=28
 ·rw [if_pos e2] at h;exact h.2.2
 rw [if_neg e2] at h;by_cases e3:op=4
 ·rw [if_pos e3] at h;exact h.2.2
 rw [if_neg e3] at h;by_cases e4:op=5
 ·rw [if_pos e4] at h;obtain ⟨_,_,h⟩:=h;exact h.2.2
 rw [if_neg e4] at h;by_cases e5:op=6
 ·rw [if_pos e5] at h;obtain ⟨_,h⟩:=h;exact h.2
 rw [if_neg e5] at h;by_cases e6:op=7
 ·rw [if_pos e6] at h;obtain ⟨_,h⟩:=h;exact h.2
 rw [if_neg e6] at h;by_cases e7:op=8
 ·rw [if_pos e7] at h;exact h.2
 rw [if_neg e7] at h;by_cases e8:op=9\/op=10\/op=11
 ·rw [if_pos e8] at h;exact h.2.2
 rw [if_neg e8] at h;by_cases e9:op=12
 ·rw [if_pos e9] at h;exact h.2.2
 rw [if_neg e9] at h;by_cases e10:op=13
 ·rw [if_pos e10] at h;exact absurd e10 h13
 rw [if_neg e10] at h;by_cases e11:op=14
 ·rw [if_pos e11] at h;obtain ⟨_,_,h⟩:=h;exact h.2.2.2
 rw [if_neg e11] at h;by_cases e12:op=15
 ·rw [if_pos e12] at h;obtain ⟨_,_,h⟩:=h;exact h.2.2
 rw [if_neg e12] at h;by_cases e13:op=16
 ·rw [if_pos e13] at h;obtain ⟨_,h⟩:=h;exact h.2.2
 rw [if_neg e13] at h;by_cases e14:op=17
 ·rw [if_pos e14] at h;exact h.2
 rw [if_neg e14] at h;by_cases e15:op=18
 ·rw [if_pos e15] at h;obtain ⟨_,h⟩:=h;exact h.2.2
 rw [if_neg e15] at h;by_cases e16:op=19
 ·rw [if_pos e16] at h;obtain ⟨_,h⟩:=h;exact h.2.2
 rw [if_neg e16] at h;by_cases e17:op=20
 ·rw [if_pos e17] at h;exact h.2
 rw [if_neg e17] at h;by_cases e18:op=21
 ·rw [if_pos e18] at h;obtain ⟨_,h⟩:=h;exact h.2.2
 rw [if_neg e18] at h;by_cases e19:op=22
 ·rw [if_pos e19] at h;obtain ⟨_,h⟩:=h;exact h.2.2
 rw [if_neg e19] at h;by_cases e20:op=23
 ·rw [if_pos e20] at h;exact h.2
 rw [if_neg e20] at h;by_cases e21:op=24
 ·rw [if_pos e21] at h;exact h.2.2
 rw [if_neg e21] at h;by_cases e22:op=26
 ·rw [if_pos e22] at h;exact h.2.2
 rw [if_neg e22] at h;by_cases e23:op=27
 ·rw [if_pos e23] at h;exact h.2
 rw [if_neg e23] at h;exact h.elim
mutual
theorem KC {m:Md}:∀(t:Tm) (Γ:Au) (τ:Ty) (S:List Ty),OZ 13 t=false->CC m t Γ τ S->S=[]
 | .mk op n x ks ps,Γ,τ,S,hd,⟨K,S1,S2,h1,h2,h3⟩=>by
  simp only [OZ,QP,beq_eq_false_iff_ne] at hd;rw [h3,Rl ks K S1 hd.2 h2,Yy h1 hd.1];rfl
theorem Rl {m:Md}:∀(ts:List Tm) (K:List (Au×Ty)) (S:List Ty),LU 13 ts=false->Dc m ts K S->S=[]
 | [],[],S,_,hp=>hp
 | t::ts,k::ks,S,hd,⟨S1,S2,h1,h2,h3⟩=>by
  simp only [LU,QP] at hd;rw [h3,KC t k.1 k.2 S1 hd.1 h1,Rl ts ks S2 hd.2 h2];rfl
 | [],_::_,_,_,hp=>hp.elim
 | _::_,[],_,_,hp=>hp.elim
end
theorem wZ (h:CC mK yY [] τ S):∃b,τ=Be (Be AU b) b/\S=[]:=by
 have hS:=KC yY [] τ S (by decide) h;obtain ⟨K,S1,S2,h1,h2,_⟩:=h;have h1:∃a b,K=[([]++[([102],a)],b)]/\τ=Be a b/\S2=[]:=by simpa [Bp] using h1
 obtain ⟨a,b,rfl,rfl,_⟩:=h1;obtain ⟨S3,_,⟨K,S4,S5,h3,h4,_⟩,_,_⟩:=h2;have h3:∃c,K=[([]++[([102],a)],Be c b),([]++[([102],a)],c)]/\S5=[]:=by simpa [Bp] using h3
 obtain ⟨c,rfl,_⟩:=h3;obtain ⟨_,_,⟨_,_,_,h5,_,_⟩,⟨_,_,⟨_,_,_,h6,_,_⟩,_,_⟩,_⟩:=h4;have h5:a=Be c b:=by
  simp [Bp,CM,LP] at h5;exact h5.2.1
 have h6:c=AU:=by
  simp [Bp] at h6;exact h6.2.1
 subst h6;subst h5;exact ⟨b,rfl,hS⟩
theorem bN (b:Ty):CC mK yY [] (Be (Be AU b) b) [] :=
 ⟨[([]++[([102],Be AU b)],b)],[],[],(by simp [Bp];exact ⟨_,_,⟨rfl,rfl⟩,rfl⟩),⟨[],[],⟨[([]++[([102],Be AU b)],Be AU b),([]++[([102],Be AU b)],AU)],[],[],by simp [Bp],
  ⟨[],[],⟨[],[],[],by simp [Bp,CM,LP],rfl,rfl⟩,⟨[],[],⟨[],[],[],by simp [Bp],rfl,rfl⟩,rfl,rfl⟩,rfl⟩,rfl⟩,rfl,rfl⟩,rfl⟩
theorem rH:¬CC mK t2K [] τ S:=by
 rintro ⟨K,S1,S2,h1,h2,_⟩;have h1:∃a b,K=[([]++[([120],a)],b)]/\τ=Be a b/\S2=[]:=by simpa [Bp] using h1
 obtain ⟨a,b,rfl,rfl,_⟩:=h1;obtain ⟨S3,_,⟨K,S4,S5,h3,h4,_⟩,_,_⟩:=h2;have h3:∃c,K=[([]++[([120],a)],Be c b),([]++[([120],a)],c)]/\S5=[]:=by simpa [Bp] using h3
 obtain ⟨c,rfl,_⟩:=h3;obtain ⟨_,_,⟨_,_,_,h5,_,_⟩,⟨_,_,⟨_,_,_,h6,_,_⟩,_,_⟩,_⟩:=h4;have h5:a=Be c b:=by
  simp [Bp,CM,LP] at h5;exact h5.2.1
 have h6:a=c:=by
  simp [Bp,CM,LP] at h6;exact h6.2.1
 have:=congrArg DH (h6.symm.trans h5);simp only [Be,DH,CX] at this;omega
theorem wW (h:CC mK yX [] τ S):τ=Be (Bx Cr) AU/\S=[]:=by
 have hS:=KC yX [] τ S (by decide) h;obtain ⟨K,S1,S2,h1,h2,_⟩:=h;have h1:K=[]/\Be (Bx Cr) AU=τ/\S2=[]:=by simpa [Bp,CM,LP,mK,MV,sumK] using h1
 exact ⟨h1.2.1.symm,hS⟩
theorem rG:CC mK yX [] (Be (Bx Cr) AU) [] :=
 ⟨[],[],[],by simp [Bp,CM,LP,mK,MV,sumK],rfl,rfl⟩
theorem kO:CC mK sumK.body [(sumK.param,sumK.from_)] sumK.to_ []:=by
 have p1:IQ mK (.mk 6 0 [78,105,108] []) (Bx Cr) [([108],Bx Cr)] [([108],Bx Cr)]:=by
  simp [IQ,Fj,Ju,mK];exact ⟨_,_,⟨rfl,rfl⟩,rfl,rfl,rfl⟩
 have p2:IQ mK (.mk 6 0 [67,111,110,115] [.mk 2 0 [120] [],.mk 2 0 [114] []]) (Bx Cr) [([108],Bx Cr)] [([108],Bx Cr),([120],AU),([114],Bx Cr)]:=by
  simp [IQ,Fj,Ju,mK];exact ⟨_,_,⟨rfl,rfl⟩,rfl,rfl,⟨_,rfl,⟨_,rfl,rfl⟩⟩⟩
 have rw:Nv mK (Bx Cr) [([108],Bx Cr)] [.mk 6 0 [78,105,108] [],.mk 6 0 [67,111,110,115] [.mk 2 0 [120] [],.mk 2 0 [114] []]] [[([108],Bx Cr)],[([108],Bx Cr),([120],AU),([114],Bx Cr)]] :=
  ⟨_,_,p1,⟨_,_,p2,rfl,rfl⟩,rfl⟩
 have hn:∀(Γ:Au) (x:Str) (τ:Ty),CM mK Γ x=some τ->CC mK (.mk 4 0 x [] []) Γ τ []:=λΓ x τ h=>⟨[],[],[],by simp [Bp,h],rfl,rfl⟩
 refine ⟨[([([108],Bx Cr)],Bx Cr),([([108],Bx Cr)],AU),([([108],Bx Cr),([120],AU),([114],Bx Cr)],AU)],[],[],?_,?_,rfl⟩
 ·show Bp mK _ 15 _ _ _ _ _;unfold Bp;exact ⟨_,_,rw,rfl,rfl⟩
 ·refine ⟨[],[],hn _ _ _ (by simp [CM,LP]),⟨[],[],⟨[],[],[],by simp [Bp,sumK],rfl,rfl⟩,⟨[],[],⟨[([([108],Bx Cr),([120],AU),([114],Bx Cr)],AU),([([108],Bx Cr),([120],AU),([114],Bx Cr)],AU)],[],[],by simp [Bp],?_,rfl⟩,rfl,rfl⟩,rfl⟩,rfl⟩;refine ⟨[],[],hn _ _ _ (by simp [CM,LP]),⟨[],[],⟨[([([108],Bx Cr),([120],AU),([114],Bx Cr)],Be (Bx Cr) AU),([([108],Bx Cr),([120],AU),([114],Bx Cr)],Bx Cr)],[],[],by simp [Bp],⟨[],[],hn _ _ _ (by simp [CM,LP,MV,mK,sumK]),⟨[],[],hn _ _ _ (by simp [CM,LP]),rfl,rfl⟩,rfl⟩,rfl⟩,rfl,rfl⟩,rfl⟩
theorem fT (S:List Ty):¬CC mK mainK.body [(mainK.param,mainK.from_)] mainK.to_ S:=by
 rintro ⟨K,S1,S2,h1,h2,_⟩;have h1:∃a,K=[([([117],Dm)],a),([([117],Dm)]++[([99],a)],AU)]/\S2=[]:=by simpa [Bp,mainK] using h1
 obtain ⟨a,rfl,_⟩:=h1;obtain ⟨_,_,_,⟨_,_,⟨K,S3,S4,h3,h4,_⟩,_,_⟩,_⟩:=h2;have h3:∃b,K=[([([117],Dm)]++[([99],a)],b),([([117],Dm)]++[([99],a)]++[([120],b)],AU)]/\S4=[]:=by simpa [Bp,mainK] using h3
 obtain ⟨b,rfl,_⟩:=h3;obtain ⟨_,_,_,⟨_,_,⟨K,S5,S6,h5,h6,_⟩,_,_⟩,_⟩:=h4;simp [Bp,AU,Dm] at h5
structure Bfs (m:Md) (a i:Nat) (l:List Nat):Prop where
 nd:l.Nodup
 lt:∀j∈l,j<m.funs.length
 has:a∈l
 rch:∀j∈l,Rch m a j
 done:∀p j f k g,p<i->l[p]?=some j->m.funs[j]?=some f->m.funs[k]?=some g->Vk 4 g.name f.body=true->k∈l
theorem Ti (h:l.Nodup) (hb:∀x∈l,x<n):l.length<=n:=by
 have:=Oo (l:=l.map λi:Nat=>(i:Int)) (n:=n) (List.Pairwise.map _ (λa b h e=>h (UM.1 e)) h) λx hx=>by
  obtain ⟨y,hy,rfl⟩:=Cc.1 hx;have:=hb y hy;omega
 rw [Dh] at this;omega
theorem Bfs.len (h:Bfs m a i l):l.length<=m.funs.length:=Ti h.nd h.lt
theorem Bfs.init (h:a<m.funs.length):Bfs m a 0 [a] :=
 ⟨by simp,λj hj=>by rw [AN.1 hj];exact h,by simp,λj hj=>by rw [AN.1 hj];exact .base,λp j f k g hp=>by omega⟩
theorem Bfs.all (h:Bfs m a i l) (hi:l.length<=i):∀j,Rch m a j->j∈l:=by
 intro j hj
 induction hj with
 | base=>exact h.has
 | step _ hf hg hh ih =>
  obtain ⟨p,hp⟩:=DE.1 ih;exact h.done p _ _ _ _ (by have:=(AO.1 hp).1;omega) hp hf hg hh
structure BfsK (m:Md) (a i k:Nat) (l:List Nat):Prop where
 b:Bfs m a i l
 now:∀j f k' g,l[i]?=some j->m.funs[j]?=some f->k'<k->m.funs[k']?=some g->Vk 4 g.name f.body=true->k'∈l
theorem Bfs.k (h:Bfs m a i l):BfsK m a i 0 l:=⟨h,λj f k' g _ _ hk=>by omega⟩
theorem BfsK.next {k:Nat} (h:BfsK m a i k l) (hk:m.funs.length<=k):Bfs m a (i+1) l:=by
 refine ⟨h.b.nd,h.b.lt,h.b.has,h.b.rch,λp j f k' g hp hj hf hg hh=>?_⟩;by_cases e:p=i
 ·subst e;exact h.now j f k' g hj hf (by have:=(AO.1 hg).1;omega) hg hh
 ·exact h.b.done p j f k' g (by omega) hj hf hg hh
theorem BfsK.skip {k:Nat} (h:BfsK m a i k l) (hn:k∈l\/∀j f g,l[i]?=some j->m.funs[j]?=some f->m.funs[k]?=some g->Vk 4 g.name f.body=false):BfsK m a i (k+1) l:=by
 refine ⟨h.b,λj f k' g hj hf hk hg hh=>?_⟩;by_cases e:k'=k
 ·subst e;rcases hn with hn | hn
  ·exact hn
  ·have:=hn j f g hj hf hg;rw [hh] at this;cases this
 ·exact h.now j f k' g hj hf (by omega) hg hh
theorem BfsK.add {k:Nat} {j:Nat} (h:BfsK m a i k l) (hk:k∉l) (hj:l[i]?=some j) (hf:m.funs[j]?=some f) (hg:m.funs[k]?=some g) (hh:Vk 4 g.name f.body=true):BfsK m a i (k+1) (l++[k]):=by
 have hil:i<l.length:=(AO.1 hj).1;have hsame:∀p,p<=i->(l++[k])[p]?=l[p]?:=λp hp=>Tt (by omega);refine ⟨⟨?_,?_,?_,?_,?_⟩,?_⟩
 ·rw [Hu];exact ⟨h.b.nd,by simp,λx hx y hy e=>by rw [AN.1 hy] at e;exact hk (e ▸ hx)⟩
 ·intro x hx;rcases BU.1 hx with hx | hx
  ·exact h.b.lt x hx
  ·rw [AN.1 hx];exact (AO.1 hg).1
 ·exact LN _ h.b.has
 ·intro x hx;rcases BU.1 hx with hx | hx
  ·exact h.b.rch x hx
  ·rw [AN.1 hx];exact .step (h.b.rch j (AK hj)) hf hg hh
 ·intro p j' f' k' g' hp hj' hf' hg' hh';rw [hsame p (by omega)] at hj';exact LN _ (h.b.done p j' f' k' g' hp hj' hf' hg' hh')
 ·intro j' f' k' g' hj' hf' hk' hg' hh';rw [hsame i (BL _)] at hj';by_cases e:k'=k
  ·subst e;simp
  ·exact LN _ (h.now j' f' k' g' hj' hf' (by omega) hg' hh')
def uR (m:Md) (op:Int) (l:List Nat):Bool:=l.any λj=>match m.funs[j]? with
 | some f=>OZ op f.body
 | none=>false
def Re (l:List Int) (x:Int):List Int:=if x∈l then l else l++[x]
theorem VX (l:List Int) (x:Int):F2 (DJ l) (.int .i64 x) (.bool true)=DJ (Re l x):=by
 unfold Re;by_cases h:x∈l
 ·rw [if_pos h];exact Qu h
 ·rw [if_neg h];exact Iy h
theorem mP {l:List Int} {x y:Int}:y∈Re l x↔y∈l\/x=y:=by
 unfold Re;split
 ·rename_i h;exact ⟨.inl,λh'=>h'.elim id λe=>e ▸ h⟩
 ·simp [eq_comm]
theorem oM {l:List Str}:BS (Ke l x) y=(BS l y||x == y):=by
 have ha:∀a b:List Str,BS (a++b) y=(BS a y||BS b y):=λa b=>by
  induction a with
  | nil=>rfl
  | cons z r ih=>simp only [D0,BS,ih,UN]
 unfold Ke;split
 ·rename_i h;by_cases e:x=y
  ·subst e;simp [h]
  ·simp [e]
 ·rw [ha];simp [BS]
mutual
def P7:Tm->List Int×List Str->List Int×List Str
 | .mk op _ x ks _,z=>HW ks (Re z.1 op,if op=4 then Ke z.2 x else z.2)
def HW:List Tm->List Int×List Str->List Int×List Str
 | [],z=>z
 | t::r,z=>HW r (P7 t z)
end
mutual
theorem Oj {y:Int}:∀(t:Tm) (z:List Int×List Str),y∈(P7 t z).1↔y∈z.1\/OZ y t=true
 | .mk op n x ks ps,z=>by
  simp only [P7,OZ,Ry ks,mP,Hv,beq_iff_eq,or_assoc]
theorem Ry {y:Int}:∀(ts:List Tm) (z:List Int×List Str),y∈(HW ts z).1↔y∈z.1\/LU y ts=true
 | [],z=>by simp [HW,LU]
 | t::r,z=>by simp only [HW,LU,Ry r,Oj t,Hv,or_assoc]
end
mutual
theorem Rz {y:Str}:∀(t:Tm) (z:List Int×List Str),BS (P7 t z).2 y=(BS z.2 y||Vk 4 y t)
 | .mk op n x ks ps,z=>by
  simp only [P7,Vk,TW ks];by_cases e:op=4
  ·subst e;simp [oM,UN]
  ·simp [e,show (op == 4)=false by simpa using e]
theorem TW {y:Str}:∀(ts:List Tm) (z:List Int×List Str),BS (HW ts z).2 y=(BS z.2 y||Xr 4 y ts)
 | [],z=>by simp [HW,Xr]
 | t::r,z=>by simp only [HW,Xr,TW r,Rz t,UN]
end
theorem SO {t:Tm}:∀{l:List Tm},t∈l->H8 t<=BY l
 | x::r,h=>by
  simp only [BY];rcases CA.1 h with rfl | h
  ·omega
  ·have:=SO h;omega
def iN (z:List Int×List Str):St:=[(1,some (.map (DJ z.1))),(2,some (.map (Hr z.2)))]
theorem OW:∀(b:Nat) (t:Tm) (z:List Int×List Str),H8 t<=b->Tq4 93 [.imm (.agg (dTmc t)),.mapr 1,.mapr 2] (iN z) (.ret (.imm (.tup [])) (iN (P7 t z)))
 | 0,t,z,hb=>by have:=Uv t;omega
 | b+1,.mk op n x ks ps,z,hb=>by
  have hI:=VX z.1 op;have hK:=VW z.2 x;have hR:=λ(u:Tm) (hu:u∈ks) (z:List Int×List Str)=>OW b u z (by have:=SO hu;simp only [H8] at hb;omega);obtain ⟨d,nm⟩:=z;simp only [P7];refine EI 0 rfl λhok=>?_;simp [Ez,Cx,maxLen,dTmc] at hok;refine AQ Ah func93 rfl [3,4,5]<|Ai rfl<|Fs Ah rfl rfl rfl (CE d) ?_;rw [hI];refine Ai rfl ?_;have hn1:4=op->F2 (Hr nm) (.str x) (.bool true)=Hr (if op=4 then Ke nm x else nm):=λe=>by rw [hK,if_pos e.symm]
  have hn2:op≠4->nm=if op=4 then Ke nm x else nm:=λe=>by rw [if_neg e]
  have hB:∀nm',nm'=(if op=4 then Ke nm x else nm)->Tq2 Tryz.f93.ntmps (DY (iN (d,nm))) (Lb Yj Tryz.f93.results.toList (.ret (.imm (.tup [])) (iN (HW ks (Re d op,if op=4 then Ke nm x else nm)))))
    [.code (Gx Tryz.f93 3)] [(3,.ref 3 0),(1,.mapr 1),(2,.mapr 2)] ((3,some (.immb 49 5 (dTmc (.mk op n x ks ps))))::iN (Re d op,nm')) [4,5]:=by
   intro nm' e;subst e;generalize (if op=4 then Ke nm x else nm)=nm' at *;generalize Re d op=d' at *;refine Av rfl<|Ak (λz:Nat×List Int×List Str=>[(20,.imm (.int .i64 z.1)),(19,.imm (.int .i64 ks.length)),(18,.imm (.sl (Dq ks))),(1,.mapr 1),(2,.mapr 2)]) (λz=>iN z.2) [4,5] (λz=>ks.length-z.1)
    (λz=>z.1<=ks.length/\HW (ks.drop z.1) z.2=HW ks (d',nm')) (0,d',nm')
    ⟨AF _,rfl⟩ ⟨rfl,A8 (by simp),AH⟩ AD rfl λz hz ih=>?_
   obtain ⟨j,d1,n1⟩:=z;obtain ⟨hj1,hj2⟩:=hz;simp only at hj1 hj2 ih;generalize HW ks (d',nm')=E at *;refine Av rfl<|Aa rfl (λh=>?_) (λh=>?_)
   ·have hlt:j<ks.length:=by simp at h;omega
    obtain ⟨u,hu⟩:=Am hlt;have hg:=E5 hu;have hC:=hR u (AK hu) (d1,n1);rw [As hu,HW] at hj2;generalize P7 u (d1,n1)=w at *;obtain ⟨u1,u2,u3,u4,u5⟩:=u;exact Av rfl<|yiz rfl hg<|Ai rfl<|Jf [] [(1,1),(2,2)] [] rfl hC kZ rfl rfl<|Ai rfl<|Ae (ih (j+1,w) (by simp only;omega) ⟨by simp only;omega,hj2⟩) ⟨M6,BJ⟩ AD rfl
   ·have hlt:¬j<ks.length:=by simp at h;omega
    rw [Bh (by omega)] at hj2;simp only [HW] at hj2;subst hj2;exact At rfl<|Av rfl<|BP ⟨[],BJ⟩
  clear hR;by_cases h4:op=4
  ·have hn:=hn1 h4.symm;refine Aa rfl (λh=>?_) (λh=>by exfalso;simp at h;exact h h4);refine Av rfl<|Fs Ah rfl rfl rfl (Gb nm) ?_;rw [hn];refine R3<|Jr ?_ ?_ ?_ (hB _ rfl)
   ·exact AH
   ·exact AH
   ·rfl
  ·have hn:=hn2 h4;refine Aa rfl (λh=>by exfalso;simp at h;exact h4 h) (λh=>?_);refine Nh<|Jr ?_ ?_ ?_ (hB _ hn)
   ·exact AH
   ·exact AH
   ·rfl
def TZ (l:List Nat):List (List V):=IO (l.map λi:Nat=>(i:Int))
@[simp] theorem dNats_length (l:List Nat):(TZ l).length=l.length:=by simp [TZ]
theorem uJ (a b:List Nat):TZ (a++b)=TZ a++TZ b:=by simp [TZ,IO]
def mM (m:Md) (s:Str) (l:List Nat):Bool:=l.any λj=>match m.funs[j]? with
 | some f=>Vk 4 s f.body
 | none=>false
structure EfI (m:Md) (a:Nat) (l:List Nat) (z:List Int×List Str):Prop where
 nd:l.Nodup
 lt:∀j∈l,j<m.funs.length
 has:a∈l
 rch:∀j∈l,Rch m a j
 dos:∀y,y∈z.1↔uR m y l=true
 nam:∀s,BS z.2 s=mM m s l
theorem EfI.init (h:m.funs[a]?=some f):EfI m a [a] (P7 f.body ([],[])):=by
 have hlt:=(AO.1 h).1;refine ⟨by simp,λj hj=>by rw [AN.1 hj];exact hlt,by simp,λj hj=>by rw [AN.1 hj];exact .base,λy=>?_,λs=>?_⟩
 ·rw [Oj];simp [uR,h]
 ·rw [Rz];simp [mM,h,BS]
theorem EfI.add {k:Nat} {z:List Int×List Str} (h:EfI m a l z) (hg:m.funs[k]?=some g) (hk:k∉l) (hn:BS z.2 g.name=true):EfI m a (l++[k]) (P7 g.body z):=by
 have hlt:=(AO.1 hg).1;refine ⟨?_,λj hj=>?_,LN _ h.has,λj hj=>?_,λy=>?_,λs=>?_⟩
 ·rw [Hu];exact ⟨h.nd,by simp,λx hx y hy e=>by rw [AN.1 hy] at e;exact hk (e ▸ hx)⟩
 ·rcases BU.1 hj with hj | hj
  ·exact h.lt j hj
  ·rw [AN.1 hj];exact hlt
 ·rcases BU.1 hj with hj | hj
  ·exact h.rch j hj
  ·rw [AN.1 hj];rw [h.nam,mM,Dz] at hn;obtain ⟨i,h1,h2⟩:=hn;cases hf:m.funs[i]? with
   | none=>rw [hf] at h2;cases h2
   | some f=>rw [hf] at h2;exact .step (h.rch i h1) hf hg h2
 ·rw [Oj,h.dos];simp [uR,Gj,hg]
 ·rw [Rz,h.nam];simp [mM,Gj,hg]
open Classical in
theorem EfI.fin {z:List Int×List Str} (h:EfI m a l z) (hc:∀(k:Nat) (g:Fd),m.funs[k]?=some g->BS z.2 g.name=true->k∈l) (op:Int):decide (op∈z.1)=pK m a op:=by
 have hall:∀j,Rch m a j->j∈l:=λj hj=>by
  induction hj with
  | base=>exact h.has
  | step _ hf hg hh ih =>
   refine hc _ _ hg ?_;rw [h.nam,mM,Dz];exact ⟨_,ih,by rw [hf];exact hh⟩
 unfold pK;rw [decide_eq_decide,h.dos,uR,Dz];constructor
 ·rintro ⟨j,h1,h2⟩;cases hf:m.funs[j]? with
  | none=>rw [hf] at h2;cases h2
  | some f=>rw [hf] at h2;exact ⟨j,f,h.rch j h1,hf,h2⟩
 ·rintro ⟨j,f,h1,h2,h3⟩;exact ⟨j,hall j h1,by rw [h2];exact h3⟩
theorem EfI.len {z:List Int×List Str} (h:EfI m a l z):l.length<=m.funs.length:=Ti h.nd h.lt
def P1 (l:List Nat):List Int:=l.map λi:Nat=>(i:Int)
theorem W8 {k:Nat}:(k:Int)∈P1 l↔k∈l:=by
 simp only [P1,Cc,UM,exists_eq_right]
theorem Xa (m:Md) (a:Nat) (hm:G3 m=true) (ha:a<m.funs.length) (hl:m.funs.length<=1000000):Tq3 32 [.agg (dMdc m),.int .i64 a] (.tup [.sl (IO (uD m a)),FD 0]):=by
 have hM:=FR m;rw [hm] at hM;obtain ⟨f,hf⟩:=Am ha;have hg:=HZ hf;have hE:=λt z=>OW (H8 t) t z (BL _);have hE0:=hE f.body ([],[]);have hI:=EfI.init hf;generalize P7 f.body ([],[])=z0 at *;obtain ⟨m1,m2,m3⟩:=m;obtain ⟨f1,f2,⟨a1,a2,a3,a4⟩,⟨b1,b2,b3,b4⟩,⟨t1,t2,t3,t4,t5⟩⟩:=f;simp only at hE0 ha hl;refine AQ Ah func32 rfl [6,1,2,3,7,8,9,10]<|Ai rfl<|Ad rfl hM<|CW rfl<|Aa rfl (λhh=>?_) (λhh=>?_)
 ·exfalso;simp at hh;omega
 refine Av rfl<|Ev rfl<|Ai rfl<|Ev rfl<|Ai rfl<|Ev rfl<|Ai rfl<|Fs Ah rfl rfl rfl (CE [])<|Ai rfl<|yi rfl (c:=Cg ⟨f1,f2,.mk a1 a2 a3 a4,.mk b1 b2 b3 b4,.mk t1 t2 t3 t4 t5⟩) (λ_=>⟨by simp,by simpa using hg,by simp [Cg]⟩) (by simp)<|Ai rfl<|Jf [] [(1,1),(2,2)] [] rfl hE0 kZ rfl rfl<|Ai rfl ?_;clear hE0 hM hh hg;refine Ak (λz:List Nat×List Int×List Str=>[(6,.mapr 1),(7,.mapr 2),(8,.mapr 3),(2,.ref 6 0)]) (λz=>[(1,some (.map (DJ z.2.1))),(2,some (.map (Hr z.2.2))),(3,some (.map (DJ (P1 z.1)))),(6,some (.immb 43 3 (dMdc ⟨m1,m2,m3⟩)))]) [7,8,9,10]
  (λz=>m3.length-z.1.length) (λz=>EfI ⟨m1,m2,m3⟩ a z.1 z.2) ([a],z0) hI BJ BJ rfl λz hz ih=>?_
 clear hI;obtain ⟨l,d,nm⟩:=z;simp only at hz ih;refine Av rfl<|Ak (λi:Nat=>[(44,.imm (.int .i64 i)),(43,.imm (.int .i64 m3.length)),(42,.imm (.sl (m3.map Cg))),(6,.mapr 1),(7,.mapr 2),(8,.mapr 3),(2,.ref 6 0)]) (λ_=>[(1,some (.map (DJ d))),(2,some (.map (Hr nm))),(3,some (.map (DJ (P1 l)))),(6,some (.immb 43 3 (dMdc ⟨m1,m2,m3⟩)))]) [7,8,9,10]
  (λi=>m3.length-i) (λi=>i<=m3.length/\∀(k:Nat) (g:Fd),k<i->m3[k]?=some g->BS nm g.name=true->k∈l) 0 ⟨AF _,λk g h=>by omega⟩
  ⟨rfl,A8 (by simp),BA⟩ BJ rfl λi hi jh=>?_
 obtain ⟨hi1,hi2⟩:=hi;refine Av rfl<|Aa rfl (λh=>?_) (λh=>?_)
 ·have hlt:i<m3.length:=by simp at h;omega
  obtain ⟨g,hg⟩:=Am hlt;have hgg:=HZ hg;have hC:=hE g.body (d,nm);have hadd:=λh1 h2=>hz.add (k:=i) (g:=g) hg h1 h2;have hk3:F2 (DJ (P1 l)) (.int .i64 i) (.bool true)=DJ (Re (P1 l) i):=VX _ _;have hlk:decide ((i:Int)∈P1 l)=decide (i∈l):=by rw [decide_eq_decide];exact W8
  obtain ⟨g1,g2,⟨c1,c2,c3,c4⟩,⟨d1,d2,d3,d4⟩,⟨u1,u2,u3,u4,u5⟩⟩:=g;simp only at hC hadd;generalize P7 (.mk u1 u2 u3 u4 u5) (d,nm)=z1 at *;refine Av rfl<|yi rfl (c:=Cg ⟨g1,g2,.mk c1 c2 c3 c4,.mk d1 d2 d3 d4,.mk u1 u2 u3 u4 u5⟩) (λ_=>⟨by simp,by simpa using hgg,by simp [Cg]⟩) (by simp)<|Ai rfl<|CJ Ah 2 rfl rfl rfl (Gb nm) (by simp [Ap]) (z:=.bool false) rfl (λ_=>.bool _) (K3 nm g1)<|CW rfl<|CJ Ah 3 rfl rfl rfl (CE (P1 l)) (by simp [Ap]) (z:=.bool false) rfl (λ_=>.bool _) (by rw [Gc,hlk])<|CW rfl ?_;generalize hb1:BS nm g1=b1 at *;refine Aa rfl (λh=>?_) (λh=>?_)
  ·have hb2:b1=true/\i∉l:=by
    by_cases e:i∈l
    ·cases b1 <;> simp [e] at h
    ·cases b1 <;> simp [e] at h ⊢
   obtain ⟨rfl,hnl⟩:=hb2;have hz1:=hadd hnl rfl;have hin:Re (P1 l) i=P1 (l++[i]):=by
    unfold Re;rw [if_neg (λh=>hnl (W8.1 h))];simp [P1]
   rw [hin] at hk3;have hle:=hz1.len;simp only [AZ,Cq,B5] at hle;refine Av rfl<|Fs Ah rfl rfl rfl (CE (P1 l)) ?_;rw [hk3];exact Ai rfl<|Jf [] [(1,1),(2,2)] [] rfl hC kZ rfl rfl<|Ai rfl<|Ae (ih (l++[i],z1) (by simp only [AZ,Cq,B5];omega) hz1) BJ BJ rfl
  ·have hkk:∀(k:Nat) (g:Fd),k<i+1->m3[k]?=some g->BS nm g.name=true->k∈l:=λk g hk hg' hn=>by
    by_cases e:k=i
    ·subst e;rw [hg] at hg';cases hg';rw [hb1] at hn;subst hn;simpa using h
    ·exact hi2 k g (by omega) hg' hn
   exact Av rfl<|Ae (jh (i+1) (by omega) ⟨by omega,hkk⟩) ⟨M6,GE⟩ BJ rfl
 ·have hlt:¬i<m3.length:=by simp at h;omega
  have hfin:=hz.fin λk g hg=>hi2 k g (by have:=(AO.1 hg).1;simp only at this;omega) hg;clear ih jh hE hf;unfold uD;simp only at hfin;generalize pK ⟨m1,m2,m3⟩ a=eb at *;refine At rfl<|At rfl<|Av rfl<|HX (e:=45) (sz:=1) 11 7 (by decide) rfl ?_;generalize hL:(λq:Nat=>((List.range q).map λi:Nat=>16+(i:Int)).filter eb)=L at *;have hL13:(((List.range 13).map λi:Nat=>16+(i:Int)).filter eb)=L 13:=by rw [<- hL]
  have hL0:L 0=[]:=by rw [<- hL];rfl
  have hLs:∀q,L (q+1)=L q++if eb (16+(q:Int))=true then [16+(q:Int)] else []:=λq=>by
   rw [<- hL];simp only [NU,CL,za8,Cv,FB,Zq,List.filter_nil]
  have hLl:∀q,(L q).length<=q:=λq=>by
   rw [<- hL];exact sY (zb4 _ _) (by simp)
  rw [hL13];clear hL hL13;refine Ak (λq:Nat=>[(12,.imm (.int .i64 (16+(q:Int)))),(11,.own 7 (IO (L q)).length),(6,.mapr 1)]) (λq=>[(1,some (.map (DJ d))),(7,some (.row 45 1 (IO (L q))))]) [8,9,10]
   (λq=>13-q) (λq=>q<=13) 0 (AF _)
   ⟨rfl,by rw [hL0];rfl,AC⟩ ⟨rfl,by rw [hL0];rfl,trivial⟩ rfl λq hq ih=>?_
  refine Av rfl<|Aa rfl (λh=>?_) (λh=>?_)
  ·have hlt:q<13:=by simp at h;omega
   have hs:=hLs q;have hll:=hLl q;have hlk:=hfin (16+(q:Int));refine Av rfl<|CJ Ah 1 rfl rfl rfl (CE d) (by simp [Ap]) (z:=.bool false) rfl (λ_=>.bool _) (by rw [Gc,hlk]) ?_;generalize eb (16+(q:Int))=b at *;refine Ai rfl ?_;cases b with
   | false =>
    refine R7 rfl λh=>Av rfl ?_;rw [if_neg (by simp),HP] at hs;exact Ae (ih (q+1) (by omega) (by omega)) ⟨A8 (by rw [BW (by omega) (by omega)];omega),by rw [hs];rfl,AC⟩ ⟨rfl,by rw [hs];rfl,trivial⟩ rfl
   | true =>
    refine R6 rfl λh=>Av rfl<|Bn Ah rfl ⟨by simp,by simp [maxLen];omega,by simp;omega,trivial⟩<|Ai rfl ?_;rw [if_pos rfl] at hs;have et:IO (L (q+1))=IO (L q)++[[.int .i64 (16+(q:Int))]]:=by rw [hs,Vv];rfl
    exact Bo 7 8 rfl<|Ae (ih (q+1) (by omega) (by omega)) ⟨A8 (by rw [BW (by omega) (by omega)];omega),by rw [et];rfl,AC⟩ ⟨rfl,by rw [et];rfl,trivial⟩ rfl
  ·have hlt:q=13:=by simp at h;omega
   subst hlt;exact At rfl<|Bv 7 rfl<|Av rfl<|Ab rfl rfl rfl
theorem mQ:D6 mK=true:=by kernel_rfl
theorem vY:OkM mK/\bF mK:=YX mQ
theorem qW:RW mK=(2,1):=by
 have b0:Io mK sumK=true:=by
  rw [aW (N:=[]) kO λS hS=>⟨Ao,(KC sumK.body _ _ S (by decide) hS).symm⟩];rfl
 have b1:Io mK mainK=false:=aX fT;have d0:GX (Mc mK) 0 mK.datas.length=none:=by kernel_rfl
 have f0:N6 mK 0=false:=by
  rw [Um (f:=sumK) rfl,b0];kernel_rfl
 have f1:N6 mK 1=true:=by
  rw [Um (f:=mainK) rfl,b1];simp
 unfold RW;rw [d0];rw [show mK.funs.length=2 from rfl];simp [GX,f0,f1]
theorem uC:uD mK 0=[]:=by
 have hr:∀j,Rch mK 0 j->j=0:=λj h=>by
  induction h with
  | base=>rfl
  | @step j k f g _ hf hg hh ih =>
   subst ih;cases hf;have hk:k<2:=(AO.1 hg).1
   match k,hk,hg with
   | 0,_,_=>rfl
   | 1,_,hg =>
    cases hg;exact absurd hh (by decide)
 unfold uD;rw [List.filter_eq_nil_iff];intro op hop h;simp only [pK,decide_eq_true_eq] at h;obtain ⟨j,f,h1,h2,h3⟩:=h;obtain rfl:=hr j h1;cases h2;simp only [Cc,QL] at hop;obtain ⟨i,hi,rfl⟩:=hop;have:∀i:Nat,i<13->OZ (16+(i:Int)) sumK.body=false:=by decide
 rw [this i hi] at h3;cases h3
theorem XP:∀n,H4 [] n=n
 | 0=>rfl
 | n+1=>by rw [De,XP n];simp
theorem mE (k:Nat):EC [] k=k:=by
 have:=(M4 [] k).2
 rwa [XP] at this
theorem zc5:Tq3 13 [.agg (Al (Be (Ao 0) AU)),.agg (Al (Be Ca (Ao 1)))] (.tup [.sl (A0 [Ca,AU]),FD 0]):=by
 have ia:inB (2:Nat) (Be (Ao 0) AU):=by intro m hm;simp [Be,AU,Ao,CO,DK] at hm;omega
 have ib:inB (2:Nat) (Be Ca (Ao 1)):=by intro m hm;simp [Be,Ca,Ao,CO,DK] at hm;omega
 have hs:StOk (2:Nat) (λ_=>none):=eP (by omega);obtain ⟨n,r,hE,hr⟩:=YA hs (a:=Be (Ao 0) AU) (b:=Be Ca (Ao 1)) (by decide) (by decide) ia ib;have hU:=gX (H:=2) (a:=Be (Ao 0) AU) (b:=Be Ca (Ao 1)) (by decide) hE (by omega) ia ib;cases r with
 | none=>exact absurd rfl (hr (λn=>if n=0 then Ca else AU) () (λn t h=>nomatch h))
 | some σ =>
  obtain ⟨_,⟨_,hD,θ,hθ⟩,h1,_⟩:=hr;have h2:=(h1 θ hθ.eq).2;simp only [Be,AU,Ca,Ao,A9,Db,Ty.mk.injEq,E2] at h2;simp at h2;obtain ⟨e0,e1⟩:=h2;have hs1:(σ 1).isSome=true:=by
   cases e:σ 1 with
   | some t=>rfl
   | none =>
    have:=hθ.free 1 e;rw [<- e1] at this;cases this
  have hl:MF σ 2=2:=by
   show (if (σ ((1:Nat):Int)).isSome then 1+1 else MF σ 1)=2;exact if_pos hs1
  have hL:zdn σ 2=[Ca,AU]:=by
   rw [zdn,hl,Us hθ];show [θ 0,θ 1]=[Ca,AU];rw [e0,<- e1];rfl
  have hv:nR 2 (some σ) = .tup [.sl (A0 [Ca,AU]),FD 0]:=by
   rw [nR,hL,Tx,if_pos (by decide)]
  rw [hv] at hU;exact hU
theorem oH:Tq3 14 [.agg (Al (Be (Ao 0) (Ao 0))),.agg (Al (Be AU Ca))] (.tup [.bool false,.int .i64 0]):=by
 have h:=Vc (Be (Ao 0) (Ao 0)) (Be AU Ca);rw [show (AV true (Be (Ao 0) (Ao 0))&&AV true (Be AU Ca)&&(WB (Be (Ao 0) (Ao 0)) (Be AU Ca) λ_=>none).isSome)=false by kernel_rfl] at h;exact h
theorem Vj (h:MQ mK [] t=true) (ht:Cb t=true) (hz:H8 t<=100000):∃r,BM mK [] t 0 (λ_=>none) r/\Tq3 26 [.agg (dMdc mK),.sl [],.agg (dTmc t)] (WQ [] r) :=
 gY vY.1.closed [] t h (λp hp=>by cases hp) ht hz
theorem TF {r:Option (Ty×Int×Sb×List Ty)} (hr:BM mK [] t 0 (λ_=>none) r) {T0:Ty} {S0:List Ty} (h0:CC mK t [] T0 S0):∃T N,zak mK [] t T N/\C9 T=true/\WQ [] r=if N.all Df=true then OV [] T else .tup [.agg (Al Dr),FD 7]:=by
 have hcl:EnvCl []:=λp hp=>by cases hp
 cases r with
 | none=>exact absurd h0 (xY hcl hr _ _)
 | some z =>
  obtain ⟨τ,k,σ,N⟩:=z;obtain ⟨θ,hθ⟩:=hr.1.2.1.2.2;refine ⟨A9 θ τ,N.map (A9 θ),Xi hcl hr hθ,VB (λn=>hθ.wfθ n) _ hr.2.1,?_⟩;simp only [WQ,Us hθ]
theorem tN:Tq3 26 [.agg (dMdc mK),.sl [],.agg (dTmc yY)] (.tup [.agg (Al (Be (Be AU (Ao 0)) (Ao 0))),FD 0]):=by
 obtain ⟨r,hr,hP⟩:=Vj (t:=yY) (by kernel_rfl) (by kernel_rfl) (by decide);obtain ⟨T,N,hp,hw,hv⟩:=TF hr (bN (Ao 0));obtain ⟨b,rfl,hN⟩:=wZ hp.1;subst hN;obtain ⟨η,he,_⟩:=hp.2 _ _ (bN (Ao 0));have hb:∃n,b=Ao n:=by
  have hwb:C9 b=true:=EU hw b (by simp [Be,Ff]);simp only [Be,AU,Ao,A9,Db,Ty.mk.injEq,E2] at he;simp at he;by_cases e:BQ b=9
  ·exact ⟨num b,E7 hwb e⟩
  ·obtain ⟨f,n,x,e1,e2,e3⟩:=Ya (θ:=η) e;rw [e3] at he;simp at he;exact absurd he.1 e2
 obtain ⟨n,rfl⟩:=hb;rw [hv] at hP;have hf:(if ([]:List Ty).all Df=true then OV [] (Be (Be AU (Ao n)) (Ao n)) else .tup [.agg (Al Dr),FD 7]) = .tup [.agg (Al (Be (Be AU (Ao 0)) (Ao 0))),FD 0]:=by
  have hg:D2 (Be (Be AU (Ao n)) (Ao n)) []=[n]:=by simp [D2,Cm,Be,AU,Ao]
  have hl:G4 [] [n] (Be (Be AU (Ao n)) (Ao n))=Be (Be AU (Ao 0)) (Ao 0):=by
   simp [G4,Ht,Be,AU,Ao,mE]
  simp only [Jd,if_true];rw [OV,hg,hl,if_pos (by simp [Be,AU,Ao,DH,CX]),if_pos (by kernel_rfl)]
 rw [hf] at hP;exact hP
theorem tM:Tq3 26 [.agg (dMdc mK),.sl [],.agg (dTmc t2K)] (.tup [.agg (Al Dr),FD 7]):=by
 obtain ⟨r,hr,hP⟩:=Vj (t:=t2K) (by kernel_rfl) (by kernel_rfl) (by decide);have hcl:EnvCl []:=λp hp=>by cases hp
 cases r with
 | none=>exact hP
 | some z =>
  obtain ⟨τ,k,σ,N⟩:=z;obtain ⟨θ,hθ⟩:=hr.1.2.1.2.2;exact absurd (Xi hcl hr hθ).1 rH
theorem tL:Tq3 26 [.agg (dMdc mK),.sl [],.agg (dTmc yX)] (.tup [.agg (Al (Be (Bx Cr) AU)),FD 0]):=by
 obtain ⟨r,hr,hP⟩:=Vj (t:=yX) (by kernel_rfl) (by kernel_rfl) (by decide);obtain ⟨T,N,hp,hw,hv⟩:=TF hr rG;obtain ⟨rfl,rfl⟩:=wW hp.1;rw [hv] at hP;have hl:G4 [] (D2 (Be (Bx Cr) AU) []) (Be (Bx Cr) AU)=Be (Bx Cr) AU:=by
  simp [G4,Ht,Be,AU,Bx]
 have hf:(if ([]:List Ty).all Df=true then OV [] (Be (Bx Cr) AU) else .tup [.agg (Al Dr),FD 7]) = .tup [.agg (Al (Be (Bx Cr) AU)),FD 0]:=by
  simp only [Jd,if_true];rw [OV,hl,if_pos (by simp [Be,AU,Bx,DH,CX]),if_pos (by kernel_rfl)]
 rw [hf] at hP;exact hP
theorem eC:Tq3 35 [.agg (dMdc mK)] (.tup [.int .i64 2,.int .i64 1,FD 0]):=by
 have h:=zc9 (m:=mK) λ_=>vY;rw [Yl mQ,qW,if_pos (by kernel_rfl),if_neg (by decide)] at h;exact h
theorem uE:Tq3 32 [.agg (dMdc mK),.int .i64 0] (.tup [.sl [],FD 0]):=by
 have h:=Xa mK 0 (by kernel_rfl) (by decide) (by decide);rw [uC] at h;exact h
theorem WO:Tq3 12 [] (.bool true):=by
 have hH0:=PT 0;have hH1:=PT 1;have hI:=DW;have hB:=KW;have hF:=Ow;have hM:=YW;have hS:∀a:Ty,Tq3 21 [.agg (Al a),.agg (Al a)] (.bool true):=λa=>by
  have:=Po a a
  rwa [(Rv a a).2 rfl] at this
 refine AQ Ah func12 rfl [1,2,3,4,5,6,7]<|Ai rfl<|Ad rfl hH0<|Ai rfl<|Ad rfl hH1<|Ai rfl<|Ad rfl hI<|Ai rfl<|Aj rfl (λ_=>hF (Ao 0) AU) (by simp)<|Ai rfl<|Ad rfl hB<|Ai rfl<|Aj rfl (λ_=>hF Ca (Ao 1)) (by simp)<|Ai rfl<|Ad rfl zc5<|yg [] rfl (by simp;kernel_rfl)<|Aj rfl (λ_=>hF (Ao 0) (Ao 0)) (by simp)<|Ai rfl<|Ad rfl hI<|Ai rfl<|Ad rfl hB<|Ai rfl<|Aj rfl (λ_=>hF AU Ca) (by simp)<|Ai rfl<|Ad rfl oH<|Ai rfl<|Ad rfl hM<|Ai rfl<|Ad rfl wY<|Ai rfl<|Ad rfl tN<|Ai rfl<|Ad rfl hM<|Ai rfl<|Ad rfl wX<|Ai rfl<|Ad rfl tM<|Ai rfl<|Ad rfl hM<|Ai rfl<|Ad rfl wV<|Ai rfl<|Ad rfl tL<|Ai rfl<|Ad rfl hM<|Ai rfl<|Ad rfl eC<|Ai rfl<|Ad rfl hM<|Ai rfl<|Ad rfl uE<|CW rfl<|Aa rfl (λh=>by cases h) (λh=>?_)
 exact Av rfl<|yi rfl (c:=Al Ca) (λ_=>⟨by simp,rfl,rfl⟩) (by simp)<|Ai rfl<|Ad rfl hB<|Ai rfl<|Aj rfl (λ_=>hS Ca) (by simp [Ap])<|CW rfl<|yi rfl (c:=Al AU) (λ_=>⟨by simp,rfl,rfl⟩) (by simp [Ap])<|CW rfl<|Ce rfl hI<|CW rfl<|Aj rfl (λ_=>hS AU) (by simp [Ap])<|CW rfl<|Ce rfl hI<|CW rfl<|Aj rfl (λ_=>hF AU (Ao 0)) (by simp [Ap])<|CW rfl<|Aj rfl (λ_=>hF (Be AU (Ao 0)) (Ao 0)) (by simp [Ap])<|CW rfl<|Aj rfl (λ_=>hS (Be (Be AU (Ao 0)) (Ao 0))) (by simp [Ap])<|CW rfl<|Ce rfl hI<|CW rfl<|Aj rfl (λ_=>hF (Bx Cr) AU) (by simp [Ap])<|CW rfl<|Aj rfl (λ_=>hS (Be (Bx Cr) AU)) (by simp [Ap])<|yg [] rfl (by simp [Ap];kernel_rfl)<|Ab rfl rfl rfl
mutual
def QK (p:Int->Int->Str->Nat->Bool) (q:Int->Ty):Ty->Ty
 | .mk f n x ps=>if p f n x ps.length then q n else .mk f n x (Q9 p q ps)
def Q9 (p:Int->Int->Str->Nat->Bool) (q:Int->Ty):List Ty->List Ty
 | []=>[]
 | t::r=>QK p q t::Q9 p q r
end
mutual
def jE (p:Int->Int->Str->Nat->Bool):Ty->Bool
 | .mk f n x ps=>!p f n x ps.length&&UK p ps
def UK (p:Int->Int->Str->Nat->Bool):List Ty->Bool
 | []=>true
 | t::r=>jE p t&&UK p r
end
theorem za4 (p:Int->Int->Str->Nat->Bool) (q:Int->Ty):∀l:List Ty,Q9 p q l=l.map (QK p q)
 | []=>rfl
 | t::r=>by simp [Q9,za4 p q r]
mutual
theorem zd1 {p:Int->Int->Str->Nat->Bool} {q:Int->Ty}:∀t:Ty,jE p t=true->QK p q t=t
 | .mk f n x ps,h=>by
  simp only [jE,A2,JX] at h;rw [QK,if_neg (by rw [h.1];simp),zdz ps h.2]
theorem zdz {p:Int->Int->Str->Nat->Bool} {q:Int->Ty}:∀l:List Ty,UK p l=true->Q9 p q l=l
 | [],_=>rfl
 | t::r,h=>by
  simp only [UK,A2] at h;rw [Q9,zd1 t h.1,zdz r h.2]
end
def pU (p:Int->Int->Str->Nat->Bool):Prop:=∀f x l,1<=f->f<=8->p f 0 x l=false
mutual
theorem zbr {p:Int->Int->Str->Nat->Bool} (hp:pU p) {b:Bool} (hb:b=false\/∀n,p 9 n [] 0=false):∀t:Ty,CP b t=true->jE p t=true
 | .mk f n x ps,h=>by
  simp only [CP,A2] at h;rw [jE,zbi hp hb ps h.2,Ze,JX];have h1:=h.1;simp only [C3] at h1
  split at h1
  ·simp only [A2,beq_iff_eq] at h1;rw [h1.1.2];exact hp _ _ _ (by omega) (by omega)
  split at h1
  ·simp only [A2,beq_iff_eq] at h1;rw [h1.1.2];exact hp _ _ _ (by omega) (by omega)
  split at h1
  ·simp only [A2,beq_iff_eq] at h1;rw [h1.1.2];exact hp _ _ _ (by omega) (by omega)
  split at h1
  ·simp only [A2,beq_iff_eq] at h1;rw [h1.1.2];exact hp _ _ _ (by omega) (by omega)
  split at h1
  ·rename_i e9;subst e9;simp only [A2,beq_iff_eq] at h1;obtain ⟨⟨⟨hb',hk⟩,hx⟩,_⟩:=h1;rcases hb with hb | hb
   ·rw [hb] at hb';cases hb'
   ·have:ps.length=0:=by omega
    rw [hx,this];exact hb n
  ·cases h1
theorem zbi {p:Int->Int->Str->Nat->Bool} (hp:pU p) {b:Bool} (hb:b=false\/∀n,p 9 n [] 0=false):∀l:List Ty,Ck b l=true->UK p l=true
 | [],_=>rfl
 | t::r,h=>by
  simp only [Ck,A2] at h;rw [UK,zbr hp hb t h.1,zbi hp hb r h.2];rfl
end
def zbq (m:Md):Prop:=(∀f∈m.funs,Fp f.from_=true/\Fp f.to_=true)/\∀d∈m.datas,∀c∈d.cons,∀t∈c.args,Fp t=true
theorem zbp (hm:zbq m) (hp:pU p) (q:Int->Ty):zat m (QK p q):=by
 have hw:∀t,Fp t=true->QK p q t=t:=λt h=>by
  simp only [Fp,A2] at h;exact zd1 t (zbr hp (.inl rfl) t h.2)
 have hf:∀a b,QK p q (Be a b)=Be (QK p q a) (QK p q b):=λa b=>by simp [Be,QK,Q9,hp 4]
 refine ⟨by simp [AU,QK,Q9,hp 1],by simp [Ca,QK,Q9,hp 2],by simp [Dm,QK,Q9,hp 3],hf,λa=>by simp [Ir,QK,Q9,hp 5],λa=>by simp [Ir,QK,Q9,hp 6],λa=>by simp [Ir,QK,Q9,hp 7],λx=>by simp [Bx,QK,Q9,hp 8],λf h=>?_,λd h1 c h2 t h3=>hw t (hm.2 d h1 c h2 t h3)⟩;rw [hf,hw _ (hm.1 f h).1,hw _ (hm.1 f h).2]
mutual
theorem zb2 {p:Int->Int->Str->Nat->Bool} (hp:pU p) (h9:∀n,p 9 n [] 0=false) {η:Int->Ty}:∀t:Ty,C9 t=true->A9 η t=QK p (λ_=>AU) t->jE p t=true
 | .mk f n x ps,hw,h=>by
  by_cases e9:f=9
  ·subst e9;have hq:=E7 hw rfl;simp only [Ao,num,Ty.mk.injEq] at hq;obtain ⟨_,_,rfl,rfl⟩:=hq;simp [jE,UK,h9]
  ·rw [A9,if_neg e9,QK] at h;by_cases hpn:p f n x ps.length=true
   ·rw [if_pos hpn] at h;simp only [AU,Ty.mk.injEq] at h;obtain ⟨rfl,rfl,_⟩:=h;rw [hp 1 x _ (by omega) (by omega)] at hpn;cases hpn
   ·rw [if_neg hpn] at h;simp only [Ty.mk.injEq,true_and] at h;have hw2:Gw ps=true:=by simp only [C9,A2] at hw;exact hw.2
    rw [jE,zbm hp h9 ps hw2 h,Ze];simpa using hpn
theorem zbm {p:Int->Int->Str->Nat->Bool} (hp:pU p) (h9:∀n,p 9 n [] 0=false) {η:Int->Ty}:∀l:List Ty,Gw l=true->Db η l=Q9 p (λ_=>AU) l->UK p l=true
 | [],_,_=>rfl
 | t::r,hw,h=>by
  simp only [Gw,A2] at hw;simp only [Db,Q9,E2] at h;rw [UK,zb2 hp h9 t hw.1 h.1,zbm hp h9 r hw.2 h.2];rfl
end
theorem za6 (hm:zbq m) {T:Ty} {N:List Ty} (hP:zak m Γ t T N) (hT:C9 T=true) (hp:pU p) (h9:∀n,p 9 n [] 0=false) (hΓ:∀e∈Γ,jE p e.2=true):jE p T=true:=by
 have h:=zav (zbp hm hp λ_=>AU) t Γ T N hP.1;rw [show mpE (QK p λ_=>AU) Γ=Γ from (Jg (g:=id) λe he=>by rw [zd1 _ (hΓ e he)];rfl).trans (zbo _)] at h;obtain ⟨η,h1,_⟩:=hP.2 _ _ h;exact zb2 hp h9 T hT h1
mutual
theorem zdj {η:Int->Ty}:∀t:Ty,C9 (A9 η t)=true->∀h∈CO t,C9 (η h)=true
 | .mk f n x ps,hw,h,hh=>by
  by_cases e9:f=9
  ·simp only [CO,if_pos e9,AN] at hh;rw [A9,if_pos e9] at hw;rw [hh];exact hw
  ·simp only [CO,if_neg e9] at hh;rw [A9,if_neg e9] at hw;simp only [C9,A2] at hw;exact zcg ps hw.2 h hh
theorem zcg {η:Int->Ty}:∀l:List Ty,Gw (Db η l)=true->∀h∈DK l,C9 (η h)=true
 | [],_,h,hh=>by simp [DK] at hh
 | t::r,hw,h,hh=>by
  simp only [Db,Gw,A2] at hw;simp only [DK,BU] at hh;exact hh.elim (zdj t hw.1 h) (zcg r hw.2 h)
end
mutual
theorem zeo {p:Int->Int->Str->Nat->Bool} {q:Int->Ty} {η:Int->Ty} (h9:∀n x l,p 9 n x l=false) (hq:∀n (η:Int->Ty),A9 η (q n)=q n):∀t:Ty,QK p q (A9 η t)=A9 (λn=>QK p q (η n)) (QK p q t)
 | .mk f n x ps=>by
  by_cases e9:f=9
  ·subst e9;rw [A9,if_pos rfl,QK,if_neg (by rw [h9];simp),A9,if_pos rfl]
  ·rw [A9,if_neg e9,QK,QK,show (Db η ps).length=ps.length by rw [Ib,Dh]];by_cases hpn:p f n x ps.length=true
   ·rw [if_pos hpn,if_pos hpn,hq]
   ·rw [if_neg hpn,if_neg hpn,A9,if_neg e9,zd0 h9 hq ps]
theorem zd0 {p:Int->Int->Str->Nat->Bool} {q:Int->Ty} {η:Int->Ty} (h9:∀n x l,p 9 n x l=false) (hq:∀n (η:Int->Ty),A9 η (q n)=q n):∀l:List Ty,Q9 p q (Db η l)=Db (λn=>QK p q (η n)) (Q9 p q l)
 | []=>rfl
 | t::r=>by simp only [Db,Q9,zeo h9 hq t,zd0 h9 hq r]
end
def Ns (f _:Int) (_:Str) (_:Nat):Bool:=f == 10
def Qz (f n:Int) (_:Str) (_:Nat):Bool:=f == 8&&decide (0<n)
def zdg (f _:Int) (x:Str) (l:Nat):Bool:=f == 10&&(x != []||l != 0)
def zbc (f n:Int) (x:Str) (l:Nat):Bool:=f == 8&&decide (0<n)&&(x != []||l != 0)
def za7 (stay:List Int) (f n:Int) (_:Str) (_:Nat):Bool:=f == 8&&decide (0<n)&&decide (n-1∉stay)
def S8 (n:Int):Ty:=.mk 8 (1+n) [] []
def Zc (n:Int):Ty:=.mk 10 (n-1) [] []
theorem zet:pU Ns:=λf x l h1 h2=>by simp [Ns];omega
theorem zez:pU Qz:=λf x l h1 h2=>by simp [Qz]
theorem ze1:pU zdg:=λf x l h1 h2=>by
 have:(f == 10)=false:=by simp;omega
 simp [zdg,this]
theorem ze0:pU zbc:=λf x l h1 h2=>by simp [zbc]
theorem fitO (stay:List Int):pU (za7 stay):=λf x l h1 h2=>by simp [za7]
theorem vG {f n:Int} {ps:List Ty} (h:CP b (.mk f n x ps)=true):Ck b ps=true/\((f=9/\x=[]/\ps=[]/\0<=n)\/(1<=f/\f<=8/\n=0)):=by
 simp only [CP,A2] at h;refine ⟨h.2,?_⟩;have h1:=h.1;simp only [C3] at h1
 split at h1
 ·simp only [A2,beq_iff_eq] at h1;exact .inr ⟨by omega,by omega,h1.1.2⟩
 split at h1
 ·simp only [A2,beq_iff_eq] at h1;exact .inr ⟨by omega,by omega,h1.1.2⟩
 split at h1
 ·simp only [A2,beq_iff_eq] at h1;exact .inr ⟨by omega,by omega,h1.1.2⟩
 split at h1
 ·simp only [A2,beq_iff_eq] at h1;exact .inr ⟨by omega,by omega,h1.1.2⟩
 split at h1
 ·rename_i e9;simp only [A2,beq_iff_eq,D4,decide_eq_true_eq] at h1;obtain ⟨⟨⟨_,hk⟩,hx⟩,hn⟩:=h1;exact .inl ⟨e9,hx,Ll (by omega),by omega⟩
 ·cases h1
mutual
theorem zc0:∀t:Ty,CP true t=true->QK Ns S8 (FI t)=Ul t
 | .mk f n x ps,h=>by
  obtain ⟨h2,h1⟩:=vG h;by_cases e9:f=9
  ·subst e9;rw [FI,if_pos rfl,Ul,if_pos rfl,QK,if_pos (by simp [Ns])];rfl
  ·have e10:f≠10:=by omega
   rw [FI,if_neg e9,Ul,if_neg e9,QK,if_neg (by simpa [Ns] using e10),zb0 ps h2]
theorem zb0:∀l:List Ty,Ck true l=true->Q9 Ns S8 (Lw l)=ZP l
 | [],_=>rfl
 | t::r,h=>by
  simp only [Ck,A2] at h;rw [Lw,ZP,Q9,zc0 t h.1,zb0 r h.2]
end
mutual
theorem zcl:∀t:Ty,CP true t=true->QK Qz Zc (Ul t)=FI t
 | .mk f n x ps,h=>by
  obtain ⟨h2,h1⟩:=vG h;by_cases e9:f=9
  ·subst e9;obtain ⟨_,rfl,rfl,hn⟩ | h1:=h1
   ·rw [FI,if_pos rfl,Ul,if_pos rfl,QK,if_pos (by simp [Qz];omega),Zc,Lw,show 1+n-1=n by omega]
   ·omega
  ·have e8:f≠9/\n=0:=⟨e9,by omega⟩
   rw [FI,if_neg e9,Ul,if_neg e9,QK,if_neg (by simp [Qz,e8.2]),zbs ps h2]
theorem zbs:∀l:List Ty,Ck true l=true->Q9 Qz Zc (ZP l)=Lw l
 | [],_=>rfl
 | t::r,h=>by
  simp only [Ck,A2] at h;rw [Lw,ZP,Q9,zcl t h.1,zbs r h.2]
end
mutual
theorem zdx {p:Int->Int->Str->Nat->Bool} (hp:pU p):∀t:Ty,CP true t=true->(∀n∈CO t,p 10 n [] 0=false)->jE p (FI t)=true
 | .mk f n x ps,h,hh=>by
  obtain ⟨h2,h1⟩:=vG h;rcases h1 with ⟨rfl,rfl,rfl,hn⟩ | ⟨q1,q2,rfl⟩
  ·rw [FI,if_pos rfl,Lw,jE,UK,B5,hh n (by simp [CO])];rfl
  ·have e9:f≠9:=by omega
   rw [FI,if_neg e9,jE,hp f x _ q1 q2,zcq hp ps h2 (by simpa [CO,e9] using hh)];rfl
theorem zcq {p:Int->Int->Str->Nat->Bool} (hp:pU p):∀l:List Ty,Ck true l=true->(∀n∈DK l,p 10 n [] 0=false)->UK p (Lw l)=true
 | [],_,_=>rfl
 | t::r,h,hh=>by
  simp only [Ck,A2] at h;simp only [DK,BU] at hh;rw [Lw,UK,zdx hp t h.1 λn hn=>hh n (.inl hn),zcq hp r h.2 λn hn=>hh n (.inr hn)];rfl
end
mutual
theorem zdw {p:Int->Int->Str->Nat->Bool} (hp:pU p):∀t:Ty,CP true t=true->(∀n∈CO t,p 8 (1+n) [] 0=false)->jE p (Ul t)=true
 | .mk f n x ps,h,hh=>by
  obtain ⟨h2,h1⟩:=vG h;rcases h1 with ⟨rfl,rfl,rfl,hn⟩ | ⟨q1,q2,rfl⟩
  ·rw [Ul,if_pos rfl,jE,UK,B5,hh n (by simp [CO])];rfl
  ·have e9:f≠9:=by omega
   rw [Ul,if_neg e9,jE,qV,Dh,hp f x _ q1 q2,<- qV,zcp hp ps h2 (by simpa [CO,e9] using hh)];rfl
theorem zcp {p:Int->Int->Str->Nat->Bool} (hp:pU p):∀l:List Ty,Ck true l=true->(∀n∈DK l,p 8 (1+n) [] 0=false)->UK p (ZP l)=true
 | [],_,_=>rfl
 | t::r,h,hh=>by
  simp only [Ck,A2] at h;simp only [DK,BU] at hh;rw [ZP,UK,zdw hp t h.1 λn hn=>hh n (.inl hn),zcp hp r h.2 λn hn=>hh n (.inr hn)];rfl
end
mutual
theorem zbu:∀t:Ty,jE Ns t=true->jE zbc t=true->QK Ns S8 (QK Qz Zc t)=t
 | .mk f n x ps,h,hb=>by
  simp only [jE,A2,JX] at h hb;by_cases hr:Qz f n x ps.length=true
  ·rw [QK,if_pos hr,Zc,QK,if_pos (by simp [Ns]),S8];have hb1:=hb.1;simp only [Qz,A2,beq_iff_eq,decide_eq_true_eq] at hr;obtain ⟨rfl,hn⟩:=hr;simp only [zbc,beq_self_eq_true,JU,decide_eq_true hn,QP,bne_eq_false_iff_eq] at hb1;obtain ⟨rfl,hl⟩:=hb1;rw [Ll hl,show 1+(n-1)=n by omega]
  ·rw [QK,if_neg hr,QK,za4,Dh,if_neg (by rw [h.1];simp),<- za4,zbj ps h.2 hb.2]
theorem zbj:∀l:List Ty,UK Ns l=true->UK zbc l=true->Q9 Ns S8 (Q9 Qz Zc l)=l
 | [],_,_=>rfl
 | t::r,h,hb=>by
  simp only [UK,A2] at h hb;rw [Q9,Q9,zbu t h.1 hb.1,zbj r h.2 hb.2]
end
theorem zdq (hq:∀n,Df (q n)=false) {t:Ty} (h:Df (QK p q t)=true):Df t=true:=by
 obtain ⟨f,n,x,ps⟩:=t;rw [QK] at h;by_cases hp:p f n x ps.length=true
 ·rw [if_pos hp,hq] at h;cases h
 ·rw [if_neg hp] at h;exact h
mutual
theorem zea {p:Int->Int->Str->Nat->Bool} {q:Int->Ty} (h9:∀n x l,p 9 n x l=false) (hq:∀n l,D2 (q n) l=l):∀(t:Ty) (l:List Int),(∀f n x k,p f n x k=true->f≠9)->jE (λf n x k=>p f n x k&&k != 0) t=true->D2 (QK p q t) l=D2 t l
 | .mk f n x ps,l,hf,hl=>by
  simp only [jE,A2,JX] at hl;by_cases hp:p f n x ps.length=true
  ·have e9:=hf _ _ _ _ hp;have hl1:=hl.1;rw [hp,JU,bne_eq_false_iff_eq] at hl1;rw [QK,if_pos hp,hq,D2,if_neg e9,Ll hl1,Cm]
  ·rw [QK,if_neg hp,D2,D2,zcx h9 hq ps l hf hl.2]
theorem zcx {p:Int->Int->Str->Nat->Bool} {q:Int->Ty} (h9:∀n x l,p 9 n x l=false) (hq:∀n l,D2 (q n) l=l):∀(ts:List Ty) (l:List Int),(∀f n x k,p f n x k=true->f≠9)->UK (λf n x k=>p f n x k&&k != 0) ts=true->Cm (Q9 p q ts) l=Cm ts l
 | [],_,_,_=>rfl
 | t::r,l,hf,hl=>by
  simp only [UK,A2] at hl;rw [Q9,Cm,Cm,zea h9 hq t l hf hl.1,zcx h9 hq r _ hf hl.2]
end
def unR (n:Int):Ty:=Ao (n-1)
noncomputable def zej (stay:List Int) (T:Ty) (h:Int):Int:=(EC stay ((D2 T []).idxOf h):Nat)
theorem zcn (stay:List Int) (T:Ty):zew stay T (zej stay T):=λi h hi=>by
 have hn:=TH T [] (by simp);have e:(D2 T []).idxOf h=i:=by
  obtain ⟨hl,he⟩:=AO.1 hi;rw [<- he];exact hn.idxOf_getElem i hl
 exact ⟨_,by rw [zej,e],M4 stay i⟩
theorem zcv {a:Int}:∀(l:List Int) (h:Int),(l.map λx=>a+x).idxOf (a+h)=l.idxOf h
 | [],h=>rfl
 | x::r,h=>by
  rw [Cv,zb7,zb7,zcv r h];by_cases e:x=h
  ·subst e;simp
  ·rw [show (a+x == a+h)=false by simp;omega,show (x == h)=false by simpa using e]
mutual
theorem zcz {stay:List Int} (hs:∀n∈stay,n<1000):∀(t:Ty) (l' l:List Int),jE (za7 stay) t=true->jE zbc t=true->(∀h∈CO t,0<=h)->l'.filter (λh=>decide (h∉stay))=l.map (λx=>1000+x) ->
  (D2 (Vm 1000 t) l').filter (λh=>decide (h∉stay))=(D2 t l).map λx=>1000+x
 | .mk f n x ps,l',l,ho,hb,hh,hl=>by
  simp only [jE,A2,JX] at ho hb;by_cases e8:f=8/\0<n
  ·have hin:n-1∈stay:=by
    have:=ho.1;simpa [za7,e8.1,e8.2] using this
   have e9:f≠9:=by omega
   have hb1:=hb.1;simp only [zbc,e8.1,e8.2,beq_self_eq_true,JU,decide_true,QP,bne_eq_false_iff_eq] at hb1;rw [Vm,if_pos e8,Ao,D2,if_pos rfl,D2,if_neg e9,Ll hb1.2,Cm];by_cases hm:n-1∈l'
   ·rw [if_pos hm];exact hl
   ·rw [if_neg hm,za8,hl];simp [hin]
  ·by_cases e9:f=9
   ·subst e9;have hn:=hh n (by simp [CO]);have hns:1000+n∉stay:=λh=>by have:=hs _ h;omega
    have hiff:(1000+n∈l')↔n∈l:=by
     have h1:1000+n∈l'.filter (λh=>decide (h∉stay))↔1000+n∈l':=by simp [hns]
     rw [<- h1,hl,Cc];constructor
     ·rintro ⟨a,q1,q2⟩;have:a=n:=by omega
      exact this ▸ q1
     ·intro h;exact ⟨n,h,rfl⟩
    rw [Vm,if_neg e8,if_pos rfl,Ao,D2,if_pos rfl,D2,if_pos rfl];by_cases hm:n∈l
    ·rw [if_pos (hiff.2 hm),if_pos hm];exact hl
    ·rw [if_neg (λh=>hm (hiff.1 h)),if_neg hm,za8,hl,CL];simp [hns]
   ·rw [Vm,if_neg e8,if_neg e9,D2,if_neg e9,D2,if_neg e9];exact zby hs ps l' l ho.2 hb.2 (by simpa [CO,e9] using hh) hl
theorem zby {stay:List Int} (hs:∀n∈stay,n<1000):∀(ts:List Ty) (l' l:List Int),UK (za7 stay) ts=true->UK zbc ts=true->(∀h∈DK ts,0<=h)->l'.filter (λh=>decide (h∉stay))=l.map (λx=>1000+x) ->
  (Cm (nA 1000 ts) l').filter (λh=>decide (h∉stay))=(Cm ts l).map λx=>1000+x
 | [],_,_,_,_,_,hl=>hl
 | t::r,l',l,ho,hb,hh,hl=>by
  simp only [UK,A2] at ho hb;simp only [DK,BU] at hh;rw [nA,Cm,Cm];exact zby hs r _ _ ho.2 hb.2 (λh hm=>hh h (.inr hm)) (zcz hs t l' l ho.1 hb.1 (λh hm=>hh h (.inl hm)) hl)
end
mutual
theorem zd7 {stay:List Int} {G ν:Int->Ty} (hG1:∀n∈stay,G n=Ao n) (hν:∀h,QK Qz unR (ν h)=ν h):∀t:Ty,jE (za7 stay) t=true->(∀h∈CO t,G (1000+h)=ν h)->A9 G (Vm 1000 t)=QK Qz unR (A9 ν t)
 | .mk f n x ps,ho,hG=>by
  simp only [jE,A2,JX] at ho;by_cases e8:f=8/\0<n
  ·have hin:n-1∈stay:=by
    have:=ho.1;simpa [za7,e8.1,e8.2] using this
   have e9:f≠9:=by omega
   rw [Vm,if_pos e8,CV,hG1 _ hin,A9,if_neg e9,QK,if_pos (by simp [Qz,e8.1,e8.2])];rfl
  ·by_cases e9:f=9
   ·subst e9;rw [Vm,if_neg e8,if_pos rfl,CV,hG n (by simp [CO]),A9,if_pos rfl,hν]
   ·rw [Vm,if_neg e8,if_neg e9,A9,if_neg e9,A9,if_neg e9,QK,if_neg (by simpa [Qz] using e8),zcu hG1 hν ps ho.2 (by simpa [CO,e9] using hG)]
theorem zcu {stay:List Int} {G ν:Int->Ty} (hG1:∀n∈stay,G n=Ao n) (hν:∀h,QK Qz unR (ν h)=ν h):∀l:List Ty,UK (za7 stay) l=true->(∀h∈DK l,G (1000+h)=ν h)->Db G (nA 1000 l)=Q9 Qz unR (Db ν l)
 | [],_,_=>rfl
 | t::r,ho,hG=>by
  simp only [UK,A2] at ho;simp only [DK,BU] at hG;rw [nA,Db,Db,Q9,zd7 hG1 hν t ho.1 λh hm=>hG h (.inl hm),zcu hG1 hν r ho.2 λh hm=>hG h (.inr hm)]
end
theorem zci (k:Int):QK Qz unR (Ao k)=Ao k:=by simp [Ao,QK,Q9,Qz]
theorem zer {stay:List Int} (hs:∀n∈stay,n<1000) {T:Ty} (ho:jE (za7 stay) T=true) (hb:jE zbc T=true) (hh:∀h∈CO T,0<=h) :
  zb3 stay T=QK Qz unR (A9 (λh=>Ao (zej stay T h)) T):=by
 have hord:zbv stay (Vm 1000 T)=(D2 T []).map λx=>1000+x:=zcz hs T [] [] ho hb hh rfl;unfold zb3 pS;refine zd7 (λn hn=>if_pos hn) (λh=>zci _) T ho λh hm=>?_;have hns:1000+h∉stay:=λhx=>by have:=hs _ hx;have:=hh h hm;omega
 rw [if_neg hns,hord,zcv];rfl
mutual
theorem zd3 {stay L:List Int}:∀t:Ty,jE Qz t=true->jE zdg t=true->C9 t=true->G4 stay L t=QK Qz unR (A9 (λh=>Ao (EC stay (L.idxOf h):Nat)) (QK Ns S8 t))
 | .mk f n x ps,hr,hb,hw=>by
  simp only [jE,A2,JX] at hr hb;by_cases e10:f=10
  ·subst e10;have hb1:=hb.1;simp only [zdg,beq_self_eq_true,JU,QP,bne_eq_false_iff_eq] at hb1;have hn:0<=n:=by
    simp only [C9,A2,Hv,decide_eq_true_eq] at hw;have:=hw.1.1.2;simpa using this.resolve_left (by decide) |>.1
   rw [G4,if_pos rfl,if_neg (by decide),hb1.1,Ll hb1.2,Ht,QK,if_pos (by simp [Ns]),S8,A9,if_neg (by decide),QK,if_pos (by simp [Qz];omega),unR,show 1+n-1=n by omega];rfl
  ·by_cases e9:f=9
   ·subst e9;have hq:=E7 hw rfl;simp only [Ao,num,Ty.mk.injEq] at hq;obtain ⟨_,_,rfl,rfl⟩:=hq;rw [G4,if_neg e10,if_pos rfl,Ht,QK,if_neg (by simp [Ns]),A9,if_pos rfl,zci];rfl
   ·have hw2:Gw ps=true:=by simp only [C9,A2] at hw;exact hw.2
    have hr1:¬(f=8/\0<n):=by have:=hr.1;simpa [Qz] using this
    rw [G4,if_neg e10,if_neg e9,QK,if_neg (by simpa [Ns] using e10),A9,if_neg e9,QK,if_neg (by simpa [Qz] using hr1),zcs ps hr.2 hb.2 hw2]
theorem zcs {stay L:List Int}:∀l:List Ty,UK Qz l=true->UK zdg l=true->Gw l=true->Ht stay L l=Q9 Qz unR (Db (λh=>Ao (EC stay (L.idxOf h):Nat)) (Q9 Ns S8 l))
 | [],_,_,_=>rfl
 | t::r,hr,hb,hw=>by
  simp only [UK,Gw,A2] at hr hb hw;rw [Ht,Q9,Db,Q9,zd3 t hr.1 hb.1 hw.1,zcs r hr.2 hb.2 hw.2]
end
mutual
theorem zd2 {stay L:List Int}:∀t:Ty,DH (G4 stay L t)=DH t
 | .mk f n x ps=>by rw [G4,DH,DH,zcr ps]
theorem zcr {stay L:List Int}:∀l:List Ty,CX (Ht stay L l)=CX l
 | []=>rfl
 | t::r=>by rw [Ht,CX,CX,zd2 t,zcr r]
end
theorem zei (hΓ:∀e∈Γ,CP true e.2=true):mpE (QK Ns S8) (LS Γ)=mY Γ:=by
 simp only [mpE,LS,mY,US];exact Jg λe he=>by simp [zc0 e.2 (hΓ e he)]
theorem zek (hΓ:∀e∈Γ,CP true e.2=true):mpE (QK Qz Zc) (mY Γ)=LS Γ:=by
 simp only [mpE,LS,mY,US];exact Jg λe he=>by simp [zcl e.2 (hΓ e he)]
def zce (f n:Int) (_:Str) (_:Nat):Bool:=f == 10&&decide (1000<=n)
theorem fitG:pU zce:=λf x l h1 h2=>by simp [zce]
mutual
theorem zdk:∀t:Ty,C9 t=true->jE zce t=true->C9 (QK Ns S8 t)=true
 | .mk f n x ps,hw,hb=>by
  simp only [jE,A2,JX] at hb;simp only [C9,A2,Hv,decide_eq_true_eq] at hw;by_cases e10:f=10
  ·subst e10;have h1:=hb.1;simp only [zce,beq_self_eq_true,JU,decide_eq_false_iff_not] at h1;have h2:=hw.1.1.2.resolve_left (by decide);rw [QK,if_pos (by simp [Ns]),S8];simp [C9,Gw];omega
  ·rw [QK,if_neg (by simpa [Ns] using e10)];simp only [C9,A2,Hv,decide_eq_true_eq];rw [show (Q9 Ns S8 ps).length=ps.length by rw [za4,Dh]];exact ⟨hw.1,zch ps hw.2 hb.2⟩
theorem zch:∀l:List Ty,Gw l=true->UK zce l=true->Gw (Q9 Ns S8 l)=true
 | [],_,_=>rfl
 | t::r,hw,hb=>by
  simp only [Gw,UK,A2] at hw hb;rw [Q9,Gw,zdk t hw.1 hb.1,zch r hw.2 hb.2];rfl
end
theorem zcc (hM:zbq m) (hΓ:∀e∈Γ,CP true e.2=true) {rA rB:Option (Ty×Int×Sb×List Ty)} (hA:BM m (LS Γ) t 0 (λ_=>none) rA) (hB:BM m (mY Γ) t 0 (λ_=>none) rB) :
  WQ (Gz Γ []) rA=match zeb (Gz Γ []) rB with
   | none=>.tup [.agg (Al Dr),FD 7]
   | some x=>if kD x=true then .tup [.agg (Al x),FD 0] else .tup [.agg (Al Dr),FD 3]:=by
 have hwf:∀e∈Γ,C9 e.2=true/\inB 1000 e.2:=λe he=>⟨(Ml e.2 (hΓ e he)).1,(Ml e.2 (hΓ e he)).2.1.mono (by omega)⟩
 have hcA:=Xw hwf;have hcB:=zaz hwf;have mA:=zbp hM zet S8;have mB:=zbp hM zez Zc;have eA:=zei hΓ;have eB:=zek hΓ;have hs:∀n∈Gz Γ [],n<1000:=λn hn=>by
  rcases (W7 Γ []).1 hn with h | ⟨e,he,h⟩
  ·cases h
  ·exact ((hwf e he).2 n h).2
 have hin:∀e∈Γ,∀n∈CO e.2,n∈Gz Γ []/\0<=n:=λe he n hn=>⟨(W7 Γ []).2 (.inr ⟨e,he,hn⟩),((hwf e he).2 n hn).1⟩
 cases rA with
 | none =>
  cases rB with
  | none=>rfl
  | some z =>
   obtain ⟨τ,k,σ,N⟩:=z;obtain ⟨θ,hθ⟩:=hB.1.2.1.2.2;have h1:=zav mB t _ _ _ (Xi hcB hB hθ).1;rw [eB] at h1;have h3:=hA Ao (QK Qz Zc (A9 θ τ),(N.map (A9 θ)).map (QK Qz Zc)) (λn t h=>by cases h);simp only [hcA.ap] at h3;exact absurd h1 h3
 | some w =>
  obtain ⟨τA,kA,σA,NA⟩:=w;obtain ⟨θA,hθA⟩:=hA.1.2.1.2.2;have PA:=Xi hcA hA hθA;cases rB with
  | none =>
   have h1:=zav mA t _ _ _ PA.1;rw [eA] at h1;have h3:=hB Ao (QK Ns S8 (A9 θA τA),(NA.map (A9 θA)).map (QK Ns S8)) (λn t h=>by cases h);simp only [hcB.ap] at h3;exact absurd h1 h3
  | some z =>
   obtain ⟨τB,kB,σB,NB⟩:=z;obtain ⟨θB,hθB⟩:=hB.1.2.1.2.2;have PB:=Xi hcB hB hθB;have wA:C9 (A9 θA τA)=true:=VB (λn=>hθA.wfθ n) _ hA.2.1;have wB:C9 (A9 θB τB)=true:=VB (λn=>hθB.wfθ n) _ hB.2.1;have bB:∀h∈CO (A9 θB τB),0<=h:=λh hh=>(hθB.inBT hB.1.2.1.2.1 hB.2.2.1 h hh).1;simp only [WQ,zeb,Us hθA,Us hθB];generalize hTA:A9 θA τA=TA at *;generalize hTB:A9 θB τB=TB at *;generalize NA.map (A9 θA)=SA at *;generalize NB.map (A9 θB)=SB at *;have h1:=zav mA t _ _ _ PA.1;rw [eA] at h1;have h2:=zav mB t _ _ _ PB.1;rw [eB] at h2;obtain ⟨η,i1,i2⟩:=PB.2 _ _ h1;obtain ⟨η',j1,j2⟩:=PA.2 _ _ h2;have hpl:SA.all Df=SB.all Df:=by
    rw [EY];simp only [Eo];constructor
    ·intro h x hx;have hm:QK Qz Zc x∈SA.map (A9 η'):=by rw [j2];exact UU hx
     obtain ⟨y,hy,e⟩:=Cc.1 hm;refine zdq (p:=Qz) (q:=Zc) (λn=>rfl) ?_;rw [<- e];exact xL (h y hy)
    ·intro h x hx;have hm:QK Ns S8 x∈SB.map (A9 η):=by rw [i2];exact UU hx
     obtain ⟨y,hy,e⟩:=Cc.1 hm;refine zdq (p:=Ns) (q:=S8) (λn=>rfl) ?_;rw [<- e];exact xL (h y hy)
   rw [hpl];cases hp:SB.all Df with
   | false=>simp
   | true =>
    rw [if_pos rfl,if_pos rfl];have ge:∀{p:Int->Int->Str->Nat->Bool},pU p->(∀n,p 9 n [] 0=false)->(∀n,0<=n->n<1000->p 10 n [] 0=false)->jE p TA=true:=λ{p} hf h9 h=>za6 hM PA wA hf h9 λe he=>by
     obtain ⟨q,hq,rfl⟩:=Cc.1 he;exact zdx hf q.2 (hΓ q hq) λn hn=>h n (hin q hq n hn).2 (hs n (hin q hq n hn).1)
    have gr:∀{p:Int->Int->Str->Nat->Bool},pU p->(∀n,p 9 n [] 0=false)->(∀n,0<=n->n∈Gz Γ []->p 8 (1+n) [] 0=false)->jE p TB=true:=λ{p} hf h9 h=>za6 hM PB wB hf h9 λe he=>by
     obtain ⟨q,hq,rfl⟩:=Cc.1 he;exact zdw hf q.2 (hΓ q hq) λn hn=>h n (hin q hq n hn).2 (hin q hq n hn).1
    have a1:jE Qz TA=true:=ge zez (λn=>rfl) λn _ _=>rfl;have a2:jE zdg TA=true:=ge ze1 (λn=>rfl) λn _ _=>rfl;have b1:jE Ns TB=true:=gr zet (λn=>rfl) λn _ _=>rfl;have b2:jE zbc TB=true:=gr ze0 (λn=>rfl) λn _ _=>by simp [zbc]
    have b3:jE (za7 (Gz Γ [])) TB=true:=gr (fitO _) (λn=>rfl) λn _ hn=>by
     simp only [za7,show 1+n-1=n by omega,hn];simp
    have a3:jE (λf n x k=>Ns f n x k&&k != 0) TA=true:=ge (λf x l q1 q2=>by simp [zet f x l q1 q2]) (λn=>rfl) λn _ _=>rfl;have eG:D2 (QK Ns S8 TA) []=D2 TA []:=zea (λn x l=>rfl) (λn l=>rfl) TA [] (λf n x k h=>by simp only [Ns,beq_iff_eq] at h;omega) a3;have a4:jE zce TA=true:=ge fitG (λn=>rfl) λn _ hn=>by simp [zce];omega
    have hw2:C9 (A9 η TB)=true:=by rw [i1];exact zdk TA wA a4
    have n1:A9 (λn=>if n∈CO TB then η n else Ao n) TB=QK Ns S8 TA:=by
     rw [<- i1];exact FQ TB λn hn=>if_pos hn
    have n2:A9 (λn=>QK Ns S8 (η' n)) (QK Ns S8 TA)=TB:=by
     rw [<- zeo (λn x l=>rfl) (λn η=>rfl),j1,zbu TB b1 b2]
    have hnum:=zc7 wB (λn=>by
     by_cases hn:n∈CO TB
     ·rw [if_pos hn];exact zdj TB hw2 n hn
     ·rw [if_neg hn];simp [Ao,C9,Gw]) n1 n2 (zcn (Gz Γ []) TB) (zcn (Gz Γ []) (QK Ns S8 TA))
    have hX:G4 (Gz Γ []) (D2 TA []) TA=zb3 (Gz Γ []) TB:=by
     rw [zer hs b3 b2 bB,hnum,zd3 TA a1 a2 wA];simp only [zej,eG]
    have hsz:DH TA=DH (zb3 (Gz Γ []) TB):=by rw [<- hX,zd2]
    simp only [OV];rw [hX];by_cases h12:DH TA<=12
    ·rw [if_pos h12,dZ]
    ·rw [if_neg h12];have:kD (zb3 (Gz Γ []) TB)=false:=by
      rw [<- dZ,AV,Q7,<- hsz,decide_eq_false h12,UL]
     simp [this]
def zbb (Γ:Au):Bool:=decide (Γ.length<=20)&&Γ.all λp=>ER p.1&&kD p.2
theorem zdh (Γ:Au):Tq3 28 [.sl (dKns Γ)] (.bool (zbb Γ)):=by
 refine AQ AE func28 rfl [1,2]<|AP rfl ?_;by_cases hl:Γ.length<=20
 ·have hb:zbb Γ=Γ.all λp=>ER p.1&&kD p.2:=by simp [zbb,hl]
  rw [hb];refine Aa rfl (λh=>by exfalso;simp at h;omega) (λh=>?_);refine AM rfl<|Ak (λi:Nat=>[(3,.imm (.int .i64 i)),(0,.imm (.sl (dKns Γ)))]) (λ_=>[]) [1,2] (λi=>Γ.length-i) (λi=>i<=Γ.length/\(Γ.all λp=>ER p.1&&kD p.2)=((Γ.drop i).all λp=>ER p.1&&kD p.2)) 0
   ⟨AF _,rfl⟩ AD trivial rfl λi hi ih=>?_
  obtain ⟨hi1,hi2⟩:=hi;refine AM rfl<|Aa rfl (λh=>?_) (λh=>?_)
  ·have hlt:i<Γ.length:=by simp at h;omega
   obtain ⟨p,hp⟩:=Am hlt;have hg:=Ni hp;rw [As hp,Da] at hi2;have hN:=Ic p.1;have hT:=zc2 p.2;obtain ⟨y,⟨p1,p2,p3,p4⟩⟩:=p;simp only at hi2 hN hT;generalize ER y=nb at *;generalize kD (.mk p1 p2 p3 p4)=tb at *;refine AM rfl<|riz rfl hg<|AP rfl<|Ad rfl hN<|IX rfl<|rizc rfl hg<|IX rfl<|Ce rfl hT<|IX rfl ?_;cases hbo:nb&&tb with
   | true =>
    rw [hbo,JU] at hi2;refine Aa rfl (λh=>by exfalso;revert h hbo;cases nb <;> cases tb <;> simp) (λh=>?_);exact AM rfl<|Ae (ih (i+1) (by omega) ⟨by omega,hi2⟩) ⟨M6,AC⟩ trivial rfl
   | false =>
    rw [hbo,UL] at hi2;refine Aa rfl (λh=>?_) (λh=>by exfalso;revert h hbo;cases nb <;> cases tb <;> simp);exact AM rfl<|Ag ⟨_,rfl,tV (by rw [hi2]),trivial⟩
  ·have hlt:¬i<Γ.length:=by simp at h;omega
   rw [Bh (by omega)] at hi2;exact At rfl<|AM rfl<|Ag ⟨_,rfl,tV (by rw [hi2];rfl),trivial⟩
 ·have hb:zbb Γ=false:=by simp [zbb,hl]
  rw [hb];refine Aa rfl (λh=>?_) (λh=>by exfalso;simp at h;omega);exact AM rfl<|Ab rfl rfl rfl
def zec (l:Au):Bool:=decide (l.length<=24)&&l.all λp=>decide (p.1.length<=30)&&Cz p.2
theorem zel (l:Au):Tq3 24 [.sl (dKns l)] (.bool (zec l)):=by
 refine AQ Ah func24 rfl [1,2]<|Ai rfl<|Ak (λi:Nat=>[(3,.imm (.int .i64 i)),(0,.imm (.sl (dKns l)))]) (λ_=>[]) [1,2] (λi=>l.length-i)
  (λi=>i<=l.length/\i<=30/\l.all (λp=>decide (p.1.length<=30)&&Cz p.2)=(l.drop i).all (λp=>decide (p.1.length<=30)&&Cz p.2)) 0 ⟨AF _,by simp,rfl⟩ AD trivial rfl λi hi ih=>?_
 obtain ⟨hi1,hi0,hi2⟩:=hi;refine Pu rfl ?_;by_cases hlt:i<l.length/\i<30
 case neg =>
  refine Aa rfl (λh=>by exfalso;simp at h;omega) (λh=>?_);refine At rfl<|Av rfl<|Ab rfl rfl (congrArg _ ?_);simp only [zec,dKns_length];by_cases h5:l.length<=24
  ·rw [hi2,Bh (by omega)];simp [h5];omega
  ·simp [h5];omega
 refine Aa rfl (λh=>?_) (λh=>by exfalso;simp at h;omega);obtain ⟨p,hp⟩:=Am hlt.1;have hg:=Ni hp;rw [As hp,Da] at hi2;have hS:=Jx p.2;obtain ⟨y,⟨p1,p2,p3,p4⟩⟩:=p;simp only at hi2 hS;generalize Cz (.mk p1 p2 p3 p4)=o at *;refine Av rfl<|yiz rfl hg<|CW rfl<|yizc rfl hg<|CW rfl<|Ce rfl hS<|CW rfl ?_;by_cases hy:y.length<=30/\o=true
 ·obtain ⟨hy,rfl⟩:=hy;refine Aa rfl (λh=>by exfalso;simp at h;omega) (λh=>?_);exact Av rfl<|Ae (ih (i+1) (by omega) ⟨by omega,by omega,by rw [hi2];simp [hy]⟩) ⟨M6,AC⟩ trivial rfl
 ·refine Aa rfl (λh=>?_) (λh=>by exfalso;apply hy;cases o <;> simp at h ⊢;omega);refine Av rfl<|Ab rfl rfl (congrArg _ ?_);rw [zec,hi2];cases o with
  | false=>simp
  | true=>simp at hy;simp;omega
theorem zdv:Tq3 30 [.agg (Al Dr)] (.bool true):=by
 have hS:=Po Dr Dr;rw [(Rv Dr Dr).2 rfl] at hS;exact AQ Ah func30 rfl [1,2]<|Ai rfl<|Ad rfl hS<|Ai rfl<|Ab rfl rfl rfl
theorem zc8 (h:D6 m=true):zbq m:=by
 simp only [D6,A2,decide_eq_true_eq,D4] at h;obtain ⟨⟨⟨⟨h1,h2⟩,h3⟩,h4⟩,h5⟩:=h;refine ⟨λf hf=>?_,λd hd c hc t ht=>?_⟩
 ·have:=Eo.1 h5 f hf;simp only [MW,A2] at this;simp [this]
 ·have:=Eo.1 h4 d hd;simp only [H2,A2,decide_eq_true_eq,D4] at this;have:=Eo.1 this.2 c hc;simp only [LW,A2,decide_eq_true_eq] at this;exact Eo.1 this.2 t ht
theorem zev (hm:G3 m=D6 m) (ht:Im t=O5 t):MQ m Γ t=(D6 m&&zbb Γ&&O5 t):=by
 have:Γ.all Vl=Γ.all λp=>ER p.1&&kD p.2:=by
  congr 1;funext p;simp only [Vl,dZ]
 rw [MQ,zbb,hm,ht,this];simp only [NV]
theorem KindInfers_pure (m:Md) (Γ:Au) (t:Tm):Tq3 5 [.agg (dMdc m),.sl (dKns Γ),.agg (dTmc t)] (.bool true):=by
 have hK:=WO;have hsm:=RR m;have hfw:=zel Γ;have hst:=V3 t;have hMo:=Uh m;have hNo:=zdh Γ;have hTo:=dV t;have hno:=zdv;cases hs:(Du m&&zec Γ&&Hq t) with
 | false =>
  clear hMo hNo hTo hno;generalize Du m=o1 at *;generalize zec Γ=o2 at *;generalize Hq t=o3 at *;obtain ⟨m1,m2,m3⟩:=m;obtain ⟨t1,t2,t3,t4,t5⟩:=t;refine AQ Ah func5 rfl [1,2,3,4,5,6]<|Ai rfl<|Ad rfl hsm<|CW rfl<|Ce rfl hfw<|CW rfl<|Ce rfl hst<|CW rfl<|Aa rfl (λh=>?_) (λh=>by exfalso;cases o1 <;> cases o2 <;> cases o3 <;> simp at h hs);exact Av rfl<|Ad rfl hK<|Ai rfl<|Ab rfl rfl rfl
 | true =>
  simp only [A2] at hs;obtain ⟨⟨s1,s2⟩,s3⟩:=hs;have hia:=zev (Γ:=Γ) (sU m s1) (aR t s3);rw [s1] at hsm;rw [s2] at hfw;rw [s3] at hst;cases ha:(D6 m&&zbb Γ&&O5 t) with
  | false =>
   have hI:=zcb m Γ t (by rw [hia,ha]);clear hia s1 s2 s3;generalize D6 m=o1 at *;generalize zbb Γ=o2 at *;generalize O5 t=o3 at *;obtain ⟨m1,m2,m3⟩:=m;obtain ⟨t1,t2,t3,t4,t5⟩:=t;refine AQ Ah func5 rfl [1,2,3,4,5,6]<|Ai rfl<|Ad rfl hsm<|CW rfl<|Ce rfl hfw<|CW rfl<|Ce rfl hst<|CW rfl<|R7 rfl λh=>Av rfl<|Ad rfl hI<|Ai rfl<|Ad rfl hMo<|CW rfl<|Ce rfl hNo<|CW rfl<|Ce rfl hTo<|CW rfl<|Aa rfl (λh=>?_) (λh=>by exfalso;cases o1 <;> cases o2 <;> cases o3 <;> simp at h ha);exact Pu rfl<|Ce rfl hno<|CW rfl<|Ce rfl hK<|CW rfl<|Ab rfl rfl rfl
  | true =>
   have ha':=ha;simp only [A2] at ha';obtain ⟨⟨hm,hE⟩,ht⟩:=ha';have hOk:=(YX hm).1;obtain ⟨hn,hz⟩:=eM ht;have hsrt:∀e∈Γ,CP true e.2=true:=λe he=>by
    simp only [zbb,A2] at hE;have:=Eo.1 hE.2 e he;simp only [A2] at this;rw [<- dZ] at this;simp only [AV,A2] at this;exact this.2.2
   have hwf:∀e∈Γ,C9 e.2=true/\inB 1000 e.2:=λe he=>⟨(Ml e.2 (hsrt e he)).1,(Ml e.2 (hsrt e he)).2.1.mono (by omega)⟩
   have hl:Γ.length<=20:=by
    simp only [zbb,A2,decide_eq_true_eq] at hE;exact hE.1
   obtain ⟨rA,iA,hI⟩:=gY hOk.closed Γ t (by rw [hia,ha]) hwf hn hz;obtain ⟨rB,iB,hR⟩:=zdi hOk.closed Γ t hwf hn hz (by omega);rw [zcc (zc8 hm) hsrt iA iB] at hI;rw [hm] at hMo;rw [hE] at hNo;rw [ht] at hTo;generalize zeb (Gz Γ []) rB=R at *;clear iA iB hia ha hm hE ht hOk hn hz hsrt hwf hl s1 s2 s3;obtain ⟨m1,m2,m3⟩:=m;obtain ⟨t1,t2,t3,t4,t5⟩:=t;refine AQ Ah func5 rfl [1,2,3,4,5,6]<|Ai rfl<|Ad rfl hsm<|CW rfl<|Ce rfl hfw<|CW rfl<|Ce rfl hst<|CW rfl<|R7 rfl λh=>Av rfl<|Ad rfl hI ?_;cases R with
   | none =>
    simp only [zcd] at hR;simp only;exact Ai rfl<|Ad rfl hMo<|CW rfl<|Ce rfl hNo<|CW rfl<|Ce rfl hTo<|CW rfl<|R7 rfl λh=>Av rfl<|Ad rfl hR<|Ai rfl<|R6 rfl λh=>Pu rfl<|Ce rfl hno<|CW rfl<|Ce rfl hK<|CW rfl<|Ab rfl rfl rfl
   | some x =>
    simp only [zcd] at hR;simp only;have hTx:=zc2 x;have hSx:=Po x x;rw [(Rv x x).2 rfl] at hSx;cases hx:kD x with
    | false =>
     rw [hx] at hTx;rw [if_neg (by simp)];clear hx hSx;obtain ⟨x1,x2,x3,x4⟩:=x;exact Ai rfl<|Ad rfl hMo<|CW rfl<|Ce rfl hNo<|CW rfl<|Ce rfl hTo<|CW rfl<|R7 rfl λh=>Av rfl<|Ad rfl hR<|Ai rfl<|R7 rfl λh=>Av rfl<|Ad rfl hTx<|Ai rfl<|R6 rfl λh=>Pu rfl<|Ce rfl hno<|CW rfl<|Ce rfl hK<|CW rfl<|Ab rfl rfl rfl
    | true =>
     rw [hx] at hTx;rw [if_pos rfl];clear hx;obtain ⟨x1,x2,x3,x4⟩:=x;exact Ai rfl<|Ad rfl hMo<|CW rfl<|Ce rfl hNo<|CW rfl<|Ce rfl hTo<|CW rfl<|R7 rfl λh=>Av rfl<|Ad rfl hR<|Ai rfl<|R7 rfl λh=>Av rfl<|Ad rfl hTx<|Ai rfl<|R7 rfl λh=>Pu rfl<|Ce rfl hSx<|CW rfl<|Ce rfl hK<|CW rfl<|Ab rfl rfl rfl
theorem Ext.below {I I':Imm} {μ μ':Mu} {w w':World} {st':St} (h:Ext I μ [] w I' μ' st' w'):Below w.heap.size w w' :=
 ⟨h.os,h.tape,h.output,h.size,λk hk=>h.block k hk (by rintro ⟨id,blk,g,hl,_⟩;cases hl)⟩
theorem nO {enc:TypeId×Value->H} {f:Func} {apart fresh handsOn again:Bool} {args:Array Value} {ds gs:List (DataW H)} {before pa pv:List MemPlace} (hW:DataW.Whole enc P f.params.toList s.vars apart W args.toList ds gs before) (hb:Below W.heap.size W W') (hps:before=pa++pv) (hres:∀(b:Nat) (sp:Nat->Bool) (hd:Bool),DataW.TrodAll enc P W' b sp hd f.resultTypes.toList (v.resultList f.resultTypes.size) (s.fn H (ds++gs)).results []) (hargs:∀sp:Nat->Bool,(∀p∈before,sp p.block=true)->DataW.TrodAll enc P W' 0 sp true f.params.toList args.toList (s.fn H (ds++gs)).args pa) (hvars:∀sp:Nat->Bool,(∀p∈before,sp p.block=true)->DataW.TrodVars enc P W' sp s.vars (s.fn H (ds++gs)).vars pv) (hok:∀(j:Nat) (t:TypeId) (r:Value),f.resultTypes[j]?=some t->(v.resultList f.resultTypes.size)[j]?=some r->Value.okWide P W' .any 0 t r) :
  s.post enc P f apart fresh handsOn again W args v W':=by
 have lt:∀p∈before,decide (p.block<W.heap.size)=true:=λp hp=>by simpa using hW.lt p hp
 refine ⟨ds,gs,before,[],pa,pv,hW,hres _ _ _,hargs (λb=>decide (b<W.heap.size)) lt,hvars (λb=>decide (b<W.heap.size)) lt,World.keptBut_mono (λp hp=>⟨hp,.inr ?_⟩) (hb.frame (· ∈ before)),λ_=>⟨hok,?_⟩⟩
 ·rw [hps] at hp;exact BU.1 hp
 ·have hlt:=hW.lt;obtain ⟨_,_,_,_,_,hz,hn⟩:=hW;refine ⟨(s.fn H (ds++gs)).results++(s.fn H (ds++gs)).args,(s.fn H (ds++gs)).vars,pa++pv,⟨pa,pv,?_,hvars _ (λ_ _=>rfl),rfl,λb off hp=>?_,λha=>?_⟩,λp hp _=>by rw [hps];exact hp⟩
  ·have:=trodAll_append (hargs (λ_=>true) λ_ _=>rfl) (hres 0 (λ_=>true) true);simpa using this
  ·have hin:MemPlace.cell b off∈before:=by rw [hps];exact hp
   rw [hb.frozen (hlt _ hin)];exact hz b off hin
  ·rw [<- hps];exact hn ha
def P4 (W:World):Imm:=λb=>W.heap[b]?
theorem tO (W:World):(P4 W).ok W:=λ_ _ h=>h
def Rds (P:Program) (W:World) (n:Nat) (t:TypeId) (cs:List Value):Prop :=
 ∃(H:Type) (enc:TypeId×Value->H) (x:DataW H×List MemPlace),DataW.trod enc P W 0 (λ_=>true) true n t cs=some x
def RV (W:World) (cs:List Value) (xs:List V):Prop:=RepVL (P4 W) cs xs/\∀c∈cs,c.oneCell'=true
theorem RV.app {a b:List Value} {x y:List V} (h:RV W a x) (k:RV W b y):RV W (a++b) (x++y) :=
 ⟨h.1.append k.1,λc hc=>(BU.1 hc).elim (h.2 c) (k.2 c)⟩
theorem RV.one {x:V} (h:RepV (P4 W) v x) (h1:v.oneCell'=true):RV W [v] [x] :=
 ⟨.mk h .nil,λc hc=>by simp at hc;rw [hc];exact h1⟩
theorem RV.agg {cs:Array Value} (h:RV W cs.toList xs):RepV (P4 W) (.agg cs) (.agg xs) :=
 .agg _ _ (by simpa using h.1.1) h.2 (λi c x a b=>h.1.2 i c x (by simpa using a) b)
theorem RV.len (h:RV W cs xs):cs.length=xs.length:=h.1.1
section
variable {t:TypeId}
theorem PJ {k:IntKind} {a:Bool} {by_:Nat} (htt:TTok P tt) (hl:lk tt t=some ⟨.int k,a,sz,by_,z⟩) (h:Rds P W n t cs):∃m,RV W cs [.int k m]/\(Lit.int k m).wf=true:=by
 obtain ⟨H,enc,x,h⟩:=h;have hu:P.underlying t=some (.int k):=htt.sh hl;cases n with
 | zero=>simp [DataW.trod] at h
 | succ n =>
  unfold DataW.trod at h;rw [hu] at h
  split at h <;> simp_all
  rename_i k' m heq;exact ⟨m,.one (.int _ _) rfl,h.1.2⟩
theorem IZ {a:Bool} {by_:Nat} (htt:TTok P tt) (hl:lk tt t=some ⟨.str,a,sz,by_,z⟩) (h:Rds P W n t cs):∃s,RV W cs [.str s]/\s.length<=maxLen:=by
 obtain ⟨H,enc,x,h⟩:=h;have hu:P.underlying t=some .string:=htt.sh hl;cases n with
 | zero=>simp [DataW.trod] at h
 | succ n =>
  unfold DataW.trod at h;rw [hu] at h
  split at h <;> simp_all
  rename_i s;exact ⟨s.data.toList,.one (.str _ _ rfl) rfl,by have:=h.1;simpa using this⟩
theorem RK {a:Addr} {k:Nat} {cs':List Value} (h:W.cells? 0 a k=some cs') (hk:0<k):a.spot=none/\∀(j:Nat) (v:Value),cs'[j]?=some v->(P4 W).cell a.block (a.off+j)=some v:=by
 obtain ⟨_,h2,h3⟩:=World.cells?_some h;have cell:∀(b:Addr) (v:Value),W.cell? b=some v->b.spot=none/\(P4 W).cell b.block b.off=some v:=by
  intro b v hb;unfold World.cell? at hb
  split at hb
  ·rename_i c t0 fz hh
   split at hb
   ·cases hb
   ·rename_i hs;refine ⟨by cases h:b.spot with | none=>rfl | some _=>rw [h] at hs;exact absurd rfl hs,?_⟩;unfold Imm.cell P4;rw [hh];exact hb
  ·cases hb
 have hs:a.spot=none:=by
  have hlt:0<cs'.length:=by omega
  have:=h3 0 hk;rw [Bw hlt] at this;exact (cell (a.add 0) _ this).1
 refine ⟨hs,λj v hv=>?_⟩;have hj:=(AO.1 hv).1;have:=(cell (a.add j) v (by rw [h3 j (by omega)];exact hv)).2;unfold Addr.add at this;by_cases h0:j=0
 ·subst h0;simpa using this
 ·rw [if_neg h0] at this;exact this
theorem Gf {e:TypeId} {a:Bool} {by_:Nat} {i:TyI} {d:α->List V} (htt:TTok P tt) (hl:lk tt t=some ⟨.sl e,a,sz,by_,z⟩) (hi:lk tt e=some i) (hpos:0<i.size) (hd:∀x,(d x).length=i.size) (hel:∀m,m<n->∀cs',Rds P W m e cs'->∃x,RV W cs' (d x)) (h:Rds P W n t cs):∃xs:List α,RV W cs [.sl (xs.map d)]:=by
 obtain ⟨H,enc,x,h⟩:=h;have hu:P.underlying t=some (.slice e):=htt.sh hl;have hce:P.cellsOf e=i.size:=(htt e i hi).cellsOf;rcases DataW.trod_slice hu h with ⟨rfl,_⟩ | ⟨ad,len,cap,elems,rest,m,rfl,rfl,_,_,h1,h2,h3,h4,h5,_⟩
 ·exact ⟨[],.one .slnil rfl⟩
 rw [hce] at h4 h5;have he:∀k,k<len->∃(cs':List Value) (x:α),W.cells? 0 (ad.add (k*i.size)) i.size=some cs'/\RV W cs' (d x):=by
  intro k hk;have:=h4 k hk;rw [Bw (by omega)] at this;obtain ⟨cs',q1,q2⟩:=zd4.1 this;obtain ⟨x,hx⟩:=hel m (by omega) cs' ⟨H,enc,_,q2⟩;exact ⟨cs',x,q1,hx⟩
 have hch:∃(C:Nat->List Value) (X:Nat->Option α),∀k,k<len->∃x,X k=some x/\W.cells? 0 (ad.add (k*i.size)) i.size=some (C k)/\RV W (C k) (d x):=by
  classical
  refine ⟨λk=>if hk:k<len then (he k hk).choose else [],λk=>if hk:k<len then some ((he k hk).choose_spec.choose) else none,λk hk=>?_⟩;simp only [hk,dif_pos];exact ⟨_,rfl,(he k hk).choose_spec.choose_spec⟩
 obtain ⟨C,X,hCX⟩:=hch;have hlist:∀l,l<=len->∃xs:List α,xs.length=l/\∀k x,xs[k]?=some x->X k=some x:=by
  intro l
  induction l with
  | zero=>exact λ_=>⟨[],rfl,λk x h=>by simp at h⟩
  | succ l ih =>
   intro hl';obtain ⟨xs,q1,q2⟩:=ih (by omega);obtain ⟨x,hx,_⟩:=hCX l (by omega);refine ⟨xs++[x],by simp [q1],λk y hy=>?_⟩;by_cases hk:k<xs.length
   ·rw [Tt hk] at hy;exact q2 k y hy
   ·rw [QG (by omega)] at hy;have:k-xs.length=0:=by
     have:=(AO.1 hy).1;simp at this;omega
    rw [this] at hy;cases hy;have:k=l:=by omega
    rw [this];exact hx
 obtain ⟨xs,hx1,hx2⟩:=hlist len (BL _);refine ⟨xs,.one ?_ rfl⟩;by_cases hcap:cap=0
 ·have:len=0:=by omega
  subst this;subst hcap;have:xs=[]:=Ll hx1;subst this;exact .sl0 ad
 have hspot:ad.spot=none:=by
  by_cases hlen:0<len
  ·obtain ⟨x,_,q,_⟩:=hCX 0 hlen;have:=(RK q hpos).1;simpa [Addr.add] using this
  ·have h6:=h5 rfl;have h7:=h6.2 0 (by omega);rw [Bw (by omega)] at h7;obtain ⟨cs',q1,q2⟩:=zd4.1 h7;have:=(RK q1 hpos).1;have hl0:len=0:=by omega
   subst hl0;simpa [Addr.add] using this
 obtain ⟨b,o,sp⟩:=ad;simp only at hspot;subst hspot;have hget:∀(k:Nat) (e:List V),(xs.map d)[k]?=some e->k<len/\∃x,X k=some x/\e=d x/\W.cells? 0 ⟨b,o+k*i.size,none⟩ i.size=some (C k)/\RV W (C k) (d x):=by
  intro k e hk;rw [Et,OP] at hk;obtain ⟨x,q1,q2⟩:=hk;have hlt:=(AO.1 q1).1;obtain ⟨y,r1,r2,r3⟩:=hCX k (by omega);rw [hx2 k x q1] at r1;cases r1;refine ⟨by omega,x,hx2 k x q1,q2.symm,?_,r3⟩;rw [<- r2];congr 1;unfold Addr.add;by_cases h0:k*i.size=0
  ·simp [h0]
  ·simp [h0]
 refine .sl b o len cap i.size _ (λk j=>(C k).getD j undef) (by simp [hx1]) h1 h2 (λe he=>?_) (λk e j x hk hj=>?_) (λk e j x hk hj=>?_)
 ·obtain ⟨x,_,rfl⟩:=Cc.1 he;exact hd x
 ·obtain ⟨_,y,_,rfl,q3,q4⟩:=hget k e hk;have hlt:j<(C k).length:=by rw [q4.len];exact (AO.1 hj).1
  have hv:(C k)[j]?=some ((C k)[j]):=Bw hlt;have hD:(C k).getD j undef=(C k)[j]:=by simp [List.getD,hv]
  show (P4 W).cell b (o+k*i.size+j)=some ((C k).getD j undef)/\((C k).getD j undef).oneCell'=true;rw [hD];exact ⟨(RK q3 hpos).2 j _ hv,q4.2 _ (I6 _)⟩
 ·obtain ⟨_,y,_,rfl,q3,q4⟩:=hget k e hk;have hlt:j<(C k).length:=by rw [q4.len];exact (AO.1 hj).1
  have hv:(C k)[j]?=some ((C k)[j]):=Bw hlt;have hD:(C k).getD j undef=(C k)[j]:=by simp [List.getD,hv]
  show RepV (P4 W) ((C k).getD j undef) x;rw [hD];exact q4.1.2 j _ x hv hj
theorem Ge {fs:List (Nat×TypeId)} {a:Bool} {by_:Nat} (htt:TTok P tt) (hl:lk tt t=some ⟨.struct fs,a,sz,by_,z⟩) (h:Rds P W n t cs) :
  cs.length=sz/\∃m,n=m+1/\∀(j off:Nat) (ft:TypeId) (i:TyI),fs[j]?=some (off,ft)->lk tt ft=some i->Rds P W m ft ((cs.drop off).take i.size):=by
 obtain ⟨H,enc,x,h⟩:=h;obtain ⟨fields,hu,hmap,_⟩:∃fields,P.underlying t=some (.struct fields)/\fields.toList.map (λf=>(f.offset,f.type))=fs/\∀f∈fields.toList,0<P.cellsOf f.type:=htt.sh hl;obtain ⟨xs,m,rfl,_,h1,h2,h3⟩:=DataW.trod_struct hu h;refine ⟨by rw [h1];exact (htt t _ hl).cellsOf,m,rfl,λj off ft i hj hi=>?_⟩;rw [<- hmap,Et,OP] at hj;obtain ⟨f,q1,q2⟩:=hj;cases q2;have hf:fields[j]?=some f:=by rw [<- QI];exact q1
 have hlt:=(GH.1 hf).1;have:=h3 j f hf;rw [Bw (by omega),(htt _ i hi).cellsOf] at this;exact ⟨H,enc,_,this⟩
end
theorem four {l:List α} (h:l.length=4):∃a b c d,l=[a,b,c,d]:=by
 match l,h with
 | [a,b,c,d],_=>exact ⟨a,b,c,d,rfl⟩
theorem zey {l:List α} (h:l.length=5):∃a b c d e,l=[a,b,c,d,e]:=by
 match l,h with
 | [a,b,c,d,e],_=>exact ⟨a,b,c,d,e,rfl⟩
theorem R9 (l:List Ty):l.map Al=A0 l:=(CU l).symm
theorem pQ (l:List Tm):l.map dTmc=Dq l:=(KP l).symm
theorem SZ (tt0 ts tl:TypeId) (hs:lk bI tt0=some ⟨.struct [(0,ts),(1,3),(2,9),(3,tl)],true,4,56,[.imm (.int .i64 0),.imm (.int .i64 0),.imm (.str []),.nils]⟩)
  (h1:lk bI ts=some ⟨.int .i64,false,1,8,[.imm (.int .i64 0)]⟩) (h2:lk bI tl=some ⟨.sl tt0,false,1,24,[.nils]⟩) :
  ∀(n:Nat) (cs:List Value),Rds prog W n tt0 cs->∃t:Ty,RV W cs (Al t):=by
 intro n
 induction n using Nat.strongRecOn with
 | ind n ih =>
  intro cs h;obtain ⟨hl,m,rfl,hf⟩:=Ge Bf hs h;obtain ⟨a,b,c,d,rfl⟩:=four hl;obtain ⟨s,r1,_⟩:=PJ Bf h1 (hf 0 0 ts _ rfl h1);obtain ⟨k,r2,_⟩:=PJ Bf rfl (hf 1 1 3 _ rfl rfl);obtain ⟨x,r3,_⟩:=IZ Bf rfl (hf 2 2 9 _ rfl rfl);obtain ⟨ps,r4⟩:=Gf (d:=Al) Bf h2 hs (show 0<4 by decide) dTyc_length (λm' hm cs'=>ih m' (by omega) cs') (hf 3 3 tl _ rfl h2);exact ⟨.mk s k x ps,by rw [Al,<- R9];exact ((r1.app r2).app r3).app r4⟩
theorem NH (n:Nat) (cs:List Value) (h:Rds prog W n 25 cs):∃t:Ty,RV W cs (Al t):=SZ 25 22 23 rfl rfl rfl n cs h
theorem lD (n:Nat) (cs:List Value) (h:Rds prog W n 182 cs):∃t:Ty,RV W cs (Al t):=SZ 182 180 47 rfl rfl rfl n cs h
theorem read_term:∀(n:Nat) (cs:List Value),Rds prog W n 49 cs->∃t:Tm,RV W cs (dTmc t):=by
 intro n
 induction n using Nat.strongRecOn with
 | ind n ih =>
  intro cs h;obtain ⟨hl,m,rfl,hf⟩:=Ge Bf rfl h;obtain ⟨a,b,c,d,e,rfl⟩:=zey hl;obtain ⟨s,r1,_⟩:=PJ Bf rfl (hf 0 0 45 _ rfl rfl);obtain ⟨k,r2,_⟩:=PJ Bf rfl (hf 1 1 3 _ rfl rfl);obtain ⟨x,r3,_⟩:=IZ Bf rfl (hf 2 2 9 _ rfl rfl);obtain ⟨ks,r4⟩:=Gf (d:=dTmc) Bf rfl (e:=49) rfl (by decide) dTmc_length (λm' hm cs'=>ih m' (by omega) cs') (hf 3 3 46 _ rfl rfl);obtain ⟨ps,r5⟩:=Gf (d:=Al) Bf rfl (e:=182) rfl (by decide) dTyc_length (λm' hm cs'=>lD m' cs') (hf 4 4 47 _ rfl rfl);exact ⟨.mk s k x ks ps,by rw [dTmc,<- R9,<- pQ];exact (((r1.app r2).app r3).app r4).app r5⟩
theorem lF (n:Nat) (cs:List Value) (h:Rds prog W n 178 cs):∃c:Cd,RV W cs (CK c):=by
 obtain ⟨hl,m,rfl,hf⟩:=Ge Bf rfl h
 match cs,hl with
 | [a,b],_ =>
 obtain ⟨x,r1,_⟩:=IZ Bf rfl (hf 0 0 9 _ rfl rfl);obtain ⟨ts,r2⟩:=Gf (d:=Al) Bf rfl (e:=25) rfl (by decide) dTyc_length (λm' hm cs'=>NH m' cs') (hf 1 1 23 _ rfl rfl);exact ⟨⟨x,ts⟩,by rw [CK,<- R9];exact r1.app r2⟩
theorem fG (n:Nat) (cs:List Value) (h:Rds prog W n 113 cs):∃c:Dt,RV W cs (BE c):=by
 obtain ⟨hl,m,rfl,hf⟩:=Ge Bf rfl h
 match cs,hl with
 | [a,b],_ =>
 obtain ⟨x,r1,_⟩:=IZ Bf rfl (hf 0 0 9 _ rfl rfl);obtain ⟨ts,r2⟩:=Gf (d:=CK) Bf rfl (e:=178) rfl (by decide) (λ_=>rfl) (λm' hm cs'=>lF m' cs') (hf 1 1 111 _ rfl rfl);exact ⟨⟨x,ts⟩,r1.app r2⟩
theorem lE (n:Nat) (cs:List Value) (h:Rds prog W n 71 cs):∃c:Fd,RV W cs (Cg c):=by
 obtain ⟨hl,m,rfl,hf⟩:=Ge Bf rfl h
 match cs,hl with
 | [a0,a1,a2,a3,a4,a5,a6,a7,a8,a9,a10,a11,a12,a13,a14],_ =>
 obtain ⟨x,r1,_⟩:=IZ Bf rfl (hf 0 0 9 _ rfl rfl);obtain ⟨y,r2,_⟩:=IZ Bf rfl (hf 1 1 9 _ rfl rfl);obtain ⟨t1,r3⟩:=NH _ _ (hf 2 2 25 _ rfl rfl);obtain ⟨t2,r4⟩:=NH _ _ (hf 3 6 25 _ rfl rfl);obtain ⟨b,r5⟩:=read_term _ _ (hf 4 10 49 _ rfl rfl);exact ⟨⟨x,y,t1,t2,b⟩,(((r1.app r2).app r3).app r4).app r5⟩
theorem read_module (n:Nat) (cs:List Value) (h:Rds prog W n 43 cs):∃c:Md,RV W cs (dMdc c):=by
 obtain ⟨hl,m,rfl,hf⟩:=Ge Bf rfl h
 match cs,hl with
 | [a,b,c],_ =>
 obtain ⟨x,r1,_⟩:=IZ Bf rfl (hf 0 0 9 _ rfl rfl);obtain ⟨ds,r2⟩:=Gf (d:=BE) Bf rfl (e:=113) rfl (by decide) (λ_=>rfl) (λm' hm cs'=>fG m' cs') (hf 1 1 40 _ rfl rfl);obtain ⟨fs,r3⟩:=Gf (d:=Cg) Bf rfl (e:=71) rfl (by decide) (λc=>by simp [Cg]) (λm' hm cs'=>lE m' cs') (hf 2 2 41 _ rfl rfl);exact ⟨⟨x,ds,fs⟩,(r1.app r2).app r3⟩
theorem zc6 (n:Nat) (cs:List Value) (h:Rds prog W n 84 cs):∃p:Str×Ty,RV W cs (Vw p):=by
 obtain ⟨hl,m,rfl,hf⟩:=Ge Ah rfl h;obtain ⟨a,b,c,d,e,rfl⟩:=zey hl;obtain ⟨x,r1,_⟩:=IZ Ah rfl (hf 0 0 9 _ rfl rfl);obtain ⟨t,r2⟩:=NH _ _ (hf 1 1 25 _ rfl rfl);exact ⟨(x,t),r1.app r2⟩
theorem read_names (n:Nat) (cs:List Value) (h:Rds prog W n 44 cs):∃l:List (Str×Ty),RV W cs [.sl (dKns l)]:=by
 obtain ⟨l,r⟩:=Gf (d:=Vw) Ah rfl (e:=84) rfl (by decide) dKn_length (λm' hm cs'=>zc6 m' cs') h;exact ⟨l,r⟩
theorem Mh {H:Type} {enc:TypeId×Value->H} {P:Program} (hl:laidOutB P=true) {W W':World} (hb:Below W.heap.size W W') {sp:Nat->Bool} :
  ∀{ts:List TypeId} {vs:List Value} {ds:List (DataW H)} {ps:List MemPlace},ts.all (λt=>P.readableRec t&&decide (t<P.types.size))=true->DataW.TrodAll enc P W 0 (λ_=>true) true ts vs ds ps ->
   (∀p∈ps,p.block<W.heap.size)->(∀p∈ps,sp p.block=true)->DataW.TrodAll enc P W' 0 sp true ts vs ds ps
 | [],[],[],_,_,h,_,_=>h
 | [],[],_::_,_,_,h,_,_=>h.elim
 | [],_::_,_,_,_,h,_,_=>h.elim
 | _::_,[],_,_,_,h,_,_=>h.elim
 | _::_,_::_,[],_,_,h,_,_=>h.elim
 | t::ts,v::vs,d::ds,ps,ht,h,hlt,hs=>by
  obtain ⟨p,q,h1,h2,rfl⟩:=h;rw [Da,A2,A2,decide_eq_true_eq] at ht;refine ⟨p,q,WideElems.Trod_stays hl ht.1.1 ht.1.2 h1 (λx hx=>hb.same (hlt x (LN _ hx))) (λx hx=>hs x (LN _ hx)),?_,rfl⟩;exact Mh hl hb ht.2 h2 (λx hx=>hlt x (Zw _ hx)) (λx hx=>hs x (Zw _ hx))
theorem Rds.of {enc:TypeId×Value->H} {t:TypeId} {d:DataW H} (h:DataW.Trod enc P W 0 (λ_=>true) true t v d ps):∃n,Rds P W n t v.cells.toList:=by
 obtain ⟨n,hn⟩:=h;exact ⟨n,H,enc,_,hn⟩
section
variable {enc:TypeId×Value->H} {sp:Nat->Bool} {hd:Bool}
theorem trodAll0 {ds:List (DataW H)} (h:DataW.TrodAll enc P W 0 sp hd [] vs ds ps):vs=[]/\ds=[]:=by
 cases vs with
 | nil=>cases ds with
  | nil=>exact ⟨rfl,rfl⟩
  | cons=>exact h.elim
 | cons=>cases ds <;> exact h.elim
theorem trodAllS {t:TypeId} {ts:List TypeId} {ds:List (DataW H)} (h:DataW.TrodAll enc P W 0 sp hd (t::ts) vs ds ps) :
  ∃v vs' d ds' p q,vs=v::vs'/\ds=d::ds'/\DataW.Trod enc P W 0 sp hd t v d p/\DataW.TrodAll enc P W 0 sp hd ts vs' ds' q:=by
 cases vs with
 | nil=>cases ds <;> exact h.elim
 | cons v vs=>cases ds with
  | nil=>exact h.elim
  | cons d ds =>
   obtain ⟨p,q,h1,h2,_⟩:=h;exact ⟨v,vs,d,ds,p,q,rfl,rfl,h1,h2⟩
end
theorem agg_of {base:Nat} {t:TypeId} {fs:Array Field} (hu:P.underlying t=some (.struct fs)) (h:Value.okWide P W .any base t v):∃cs,v = .agg cs:=by
 unfold Value.okWide at h;rw [hu] at h;obtain ⟨cs,e,_⟩:=h;exact ⟨cs,e⟩
theorem one_of {base:Nat} {t:TypeId} {x:V} (h:Value.okWide P W .any base t v) (hu:P.underlying t=some .string\/∃e,P.underlying t=some (.slice e)) (hr:RV W v.cells.toList [x]):RepV (P4 W) v x:=by
 have hc:v.cells = #[v]:=by
  cases v <;> first
   | rfl
   | (exfalso
      unfold Value.okWide at h;rcases hu with hu | ⟨e,hu⟩ <;> (rw [hu] at h;unfold Cell.okWide Cell.ok at h;rw [hu] at h;exact h))
 rw [hc] at hr;exact hr.1.2 0 v x rfl rfl
theorem Sz {P: Program} {f: FuncId} {fn: Func} {c: Code} (hf : P.funcs[f]? = some fn) (hname : (fn.name == "runtime.NumGoroutine") = false) (hb : fn.body = some c) {W: World} {args: Array Value} {vs: List V} {b: Bool} (hv : RepVL (P4 W) args.toList vs) (hp : GL P f vs (.bool b)) :
  Calls P f args W λe W'=>e = .returned (.bool b)/\Below W.heap.size W W':=by
 have h:=hp (P4 W) (λ_=>none) W args { imm:=tO W,blk:=λid blk hl=>(by cases hl),apart:=λid blk g b hl=>(by cases hl),inj:=λi j bi bj gi gj b hl=>(by cases hl),nodup:=.nil,idsFree:=λid hi=>(by cases hi) }
  ⟨by simpa using hv.1,λi v d h1 h2=>by
   rw [Et,OP] at h2;obtain ⟨x,q1,rfl⟩:=h2;exact .imm _ _ (hv.2 i v x h1 q1)⟩
 rw [B6 hf hname hb] at h;refine Calls.mono h λe w' he=>?_;cases e with
 | returned v =>
  obtain ⟨I',μ',h1,_,_,h4⟩:=he;cases h1 with
  | imm v x hx =>
   cases hx;exact ⟨rfl,h4.below⟩
 | panicked=>exact he.elim
 | outgrown=>exact he.elim
theorem law_done {enc:TypeId×Value->H} {f:FuncId} {fn:Func} {c:Code} {apart fresh handsOn again:Bool} {args:Array Value} {ds gs:List (DataW H)} {before:List MemPlace} {tb:TypeId} {vs:List V} (hW : DataW.Whole enc P fn.params.toList s.vars apart W args.toList ds gs before) (hv : s.vars = []) (hf : P.funcs[f]? = some fn) (hname : (fn.name == "runtime.NumGoroutine") = false) (hb : fn.body = some c) (hrt : fn.resultTypes = #[tb]) (hbool : P.underlying tb = some .bool) (hl:laidOutB P=true) (hpar:fn.params.toList.all (λt=>P.readableRec t&&decide (t<P.types.size))=true) (hs:s.fn H ds={ results:=[.lit (.bool true)],args:=ds }) (hx:RepVL (P4 W) args.toList vs) (hp:GL P f vs (.bool true)) :
  Calls P f args W λe W'=>∃v,e = .returned v/\s.post enc P fn apart fresh handsOn again W args v W':=by
 refine (Sz hf hname hb hx hp).mono λe W' ⟨he,hg⟩=>?_;subst he;have hW':=hW;obtain ⟨p,q,hA,hV,e1,hfz,hnd⟩:=hW;rw [hv] at hV;have hg0:gs=[]/\q=[]:=by
  cases gs with
  | nil=>exact ⟨rfl,hV⟩
  | cons=>exact hV.elim
 obtain ⟨rfl,rfl⟩:=hg0;rw [HP] at e1;subst e1;have hlt:=hW'.lt;refine ⟨_,rfl,nO (pa:=before) (pv:=[]) hW' hg (by simp) (λb sp hd=>?_) (λsp hsp=>?_) (λsp hsp=>?_) ?_⟩
 ·rw [HP,hs,hrt];exact trodAll_cons_mk (shut_bool hbool _) trodAll_mk0
 ·rw [HP,hs];exact Mh hl hg hpar hA hlt hsp
 ·rw [HP,hs,hv];rfl
 ·exact ok_one hrt rfl (okWide_bool_mk hbool _)
end Go.Hk
namespace Go.Proofs.YtcdpbkolkeeopaaGreat.kindInfers
open Go.ChangeShapes Go.WideShapes Go.RowKit
set_option linter.unusedVariables false
theorem own:ownKnob Tryz.prog.godebug=none:=by kernel_rfl
theorem xQ (os:Os) (started:os.Started) (H:Type) (enc:TypeId×Value->H) :
  ReturnsInHanded {} Tryz.checked os 5 .any (Rows.kindInfersSpec.pre6 enc Tryz.prog Tryz.f5 Rows.kindInfersRow.domain false) (Rows.kindInfersSpec.post enc Tryz.prog Tryz.f5 false true false false):=by
 refine returnsInHanded_of_change (C:=Tryz.checked) own started (by kernel_rfl) Tryz.func5
  (ChangeSpec.witness6 (enc:=enc) (C:=Tryz.checked) false ⟨#[],#[.agg #[.string ⟨#[]⟩,.slice none 0 0,.slice none 0 0],.slice none 0 0,.agg #[.int .i64 0,.int .i64 0,.string ⟨#[]⟩,.slice none 0 0,.slice none 0 0]],[]⟩ 8 (by kernel_rfl) (by kernel_rfl) (by kernel_rfl) (by kernel_rfl)) ?_
 intro W base args ds gs before hval hW hcnd _;obtain ⟨p,q,hA,_⟩:=id hW;obtain ⟨v1,w1,d1,x1,p1,q1,e1,rfl,hd1,hA⟩:=Hk.trodAllS (t:=43) hA;obtain ⟨v2,w2,d2,x2,p2,q2,e2,rfl,hd2,hA⟩:=Hk.trodAllS (t:=44) hA;obtain ⟨v3,w3,d3,x3,p3,q3,e3,rfl,hd3,hA⟩:=Hk.trodAllS (t:=49) hA;obtain ⟨rfl,rfl⟩:=Hk.trodAll0 hA;obtain ⟨args⟩:=args;simp only at e1;subst e3;subst e2;subst e1;obtain ⟨n1,hn1⟩:=Hk.Rds.of hd1;obtain ⟨m1,hm1⟩:=Hk.read_module n1 _ hn1;obtain ⟨c1,rfl⟩:=Hk.agg_of Tryz.underlying43 (hval 0 43 v1 rfl rfl);obtain ⟨n2,hn2⟩:=Hk.Rds.of hd2;obtain ⟨m2,hm2⟩:=Hk.read_names n2 _ hn2;have r2:=Hk.one_of (hval 1 44 v2 rfl rfl) (.inr ⟨_,Tryz.underlying44⟩) hm2;obtain ⟨n3,hn3⟩:=Hk.Rds.of hd3
 obtain ⟨m3,hm3⟩:=Hk.read_term n3 _ hn3;obtain ⟨c3,rfl⟩:=Hk.agg_of Tryz.underlying49 (hval 2 49 v3 rfl rfl);exact Hk.law_done hW rfl Tryz.func5 (by decide +kernel) rfl rfl Tryz.underlying4 (by kernel_rfl) (by kernel_rfl) rfl (vs:=[.agg (Hk.dMdc m1),.sl (Hk.dKns m2),.agg (Hk.dTmc m3)]) (.mk (Hk.RV.agg hm1) (.mk r2 (.mk (Hk.RV.agg hm3) .nil))) (Hk.KindInfers_pure m1 m2 m3)
theorem zW:laidOutB Tryz.pinned.checked.prog=true:=by kernel_rfl
theorem zV:mapsRowed Tryz.pinned.checked.prog=true:=by kernel_rfl
theorem yH:(Rows.kindInfersRow.inPlace == Tryz.pinned.checked.prog.inPlace 5)=true:=by kernel_rfl
theorem yG:(Rows.kindInfersRow.unfollowed == Tryz.pinned.checked.prog.unfollowed 5)=true:=by kernel_rfl
theorem yF:(Rows.kindInfersRow.recurses == Tryz.pinned.checked.prog.recurses 5)=true:=by kernel_rfl
theorem yE:(Rows.kindInfersRow.named == Tryz.pinned.checked.prog.varsNamed 5)=true:=by kernel_rfl
theorem closed:joinedFacts Tryz.pinned.checked.prog 5 Tryz.f5 Rows.kindInfersSpec Rows.kindInfersRow=true:=by
 unfold joinedFacts;simp only [Bool.and_eq_true];exact ⟨⟨⟨⟨⟨⟨⟨⟨⟨⟨⟨⟨⟨⟨⟨⟨⟨⟨⟨⟨⟨⟨⟨⟨⟨⟨⟨⟨⟨⟨⟨by kernel_rfl,zW⟩,zV⟩,by kernel_rfl⟩,by kernel_rfl⟩,by kernel_rfl⟩,by kernel_rfl⟩,by kernel_rfl⟩,by kernel_rfl⟩,yH⟩,yG⟩,yF⟩,yE⟩,by kernel_rfl⟩,by kernel_rfl⟩,by kernel_rfl⟩,by kernel_rfl⟩,by kernel_rfl⟩,by kernel_rfl⟩,by kernel_rfl⟩,by kernel_rfl⟩,by kernel_rfl⟩,by kernel_rfl⟩,by kernel_rfl⟩,by kernel_rfl⟩,by kernel_rfl⟩,by kernel_rfl⟩,by kernel_rfl⟩,by kernel_rfl⟩,by kernel_rfl⟩,by kernel_rfl⟩,by kernel_rfl⟩
theorem over:Rows.kindInfersRow.holds Tryz.pinned (OpenSpec.ofChange Rows.kindInfersSpec) :=
 OpenClaim.holds_of_wide 5 Tryz.f5 rfl rfl rfl rfl rfl rfl rfl ⟨rfl,rfl,rfl,rfl,rfl⟩ rfl rfl rfl rfl rfl (by kernel_rfl) Tryz.func5 closed
  (of_decide_eq_true (by kernel_rfl)) (by unfold Func.isWrapper;first | (rw [if_pos (by decide +kernel)];kernel_rfl) | (rw [if_neg (by decide +kernel)];exact ⟨rfl,rfl⟩))
  (λos started H enc _=>xQ os started H enc)
theorem proved:Rows.KindInfersSaid :=
 over
end Go.Proofs.YtcdpbkolkeeopaaGreat.kindInfers
