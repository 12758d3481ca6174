/- Formed modules, terms and types; what Unify of package kind says (plain theory, and one contract). -/
import Derived.Test.YtcdpbkolkeeopaaGreatTe
import Derived.Test.YtcdpbkolkeeopaaGreatProg
import Derived.Test.YtcdpbkolkeeopaaGreatTb
import Derived.WalkKit
import Derived.RowKit3
import Derived.Laws.NewBlocks
import Derived.Defers
import Derived.Recover
import Derived.Test.YtcdpbkolkeeopaaGreatTc
import Derived.Test.YtcdpbkolkeeopaaGreatTd
import Derived.Maps.RangeRun
import Derived.Laws.StructEq
import Derived.WideLaws
import Derived.Laws.Entries
set_option linter.all false
set_option maxRecDepth 100000
set_option maxHeartbeats 4000000
namespace Go.Hk
open Go.Proofs.Tryz
open Go.Proofs
open Go.MapKept
variable {I J:Imm} {w w':World} {m:Md} {θ:Int->Ty} {P:Program} {n i b j c b0:Nat} {st st':St} {ids F ids':List Nat} {μ ν:Mu} {env env' E:Env} {v u:Value} {Q:DQ} {todo todo':List DI} {T:List (Int×Ty)} {S ps:List Ty} {k f h:Int} {vs:List Value} {tt:TT} {d:D} {ob:List Prop} {x:Str} {t τ:Ty} {a:Act} {Pn:V->Prop} {cx:Prop} {Γ:Au} {es:Array MapEntry} {l:List Int} {e:MapEntry} {S':Bun} {α:Type} {o:Oper} {d0:Option Nat} {p:V×V} {L:Nx} {c':Code}
def zK (m:Md) (T:List (Int×Ty)) (k:Int) (S:List Ty):St:=CI m T k S++[(5,some (.cells 92 1 [.ref 1 0]))]
def YI (m:Md) (T:List (Int×Ty)) (k:Int) (S:List Ty):St:=zK m T k S++[(6,some (.cells 26 1 [.fn (.func 142) [] [.ref 5 0]]))]
theorem UW (m:Md) (T:List (Int×Ty)) (k:Int) (S:List Ty) (hs:Sol (BH T) θ) (t:Ty) :
  Tq4 142 [.imm (.agg (Al t)),.ref 5 0] (zK m T k S) (.ret (.imm (.bool (Df (A9 θ t)))) (zK m T k S)):=by
 obtain ⟨u,hu⟩:=L8 hs t;have hH:=Cn m T k S hs t u hu;have hu1:=hu.srt_eq hs;have hpl:Df (A9 θ t)=(BQ u == 1||BQ u == 2||BQ u == 3):=by rw [Df,hu1]
 rw [hpl];clear hu hu1 hpl;obtain ⟨t1,t2,t3,t4⟩:=t;obtain ⟨f,u2,u3,u4⟩:=u;refine AQ Ah func142 rfl [7,8,9]<|Ai rfl<|A4 [(1,1),(2,2),(3,3)] [] [] (fr:=[]) (nm:=[1,2,3,1,2,3]) rfl trivial (by simp) hH Ax rfl trivial rfl rfl rfl<|Ai rfl<|Ag ⟨_,rfl,tV (congrArg _ ?_),BJ⟩;simp only [BQ];by_cases h1:f=1
 ·subst h1;rfl
 by_cases h2:f=2
 ·subst h2;rfl
 by_cases h3:f=3
 ·subst h3;rfl
 ·simp [h1,h2,h3]
theorem gU (m:Md) (T:List (Int×Ty)) (k:Int) (S:List Ty) (hs:Sol (BH T) θ) (t:Ty) :
  Tq4 175 [.imm (.agg (Al t)),.ref 6 0] (YI m T k S) (.ret (.imm (.bool (!Df (A9 θ t)))) (YI m T k S)):=by
 have hH:=UW m T k S hs t;generalize Df (A9 θ t)=o at *;obtain ⟨t1,t2,t3,t4⟩:=t;exact AQ Ah func175 rfl [7,8,9]<|Ai rfl<|A4 [(1,1),(2,2),(3,3),(5,5)] [] [] (fr:=[]) (nm:=[1,2,3,5,1,2,3,5]) rfl trivial (by simp) hH JK rfl trivial rfl rfl rfl<|Ai rfl<|Ag ⟨_,rfl,tV rfl,BA⟩
theorem ZT (m:Md) (T:List (Int×Ty)) (k:Int) (S:List Ty) (hs:Sol (BH T) θ) (hl:S.length<=1000000) :
  ∃i:Int,(0<=i↔(S.map (A9 θ)).all Df=false)/\Tq4 245 [.own 3 (A0 S).length,.fn (.func 175) [] [.ref 6 0]] (YI m T k S) (.ret (.imm (.int .i64 i)) (YI m T k S)):=by
 have hfi:∃i:Int,(0<=i↔(S.map (A9 θ)).all Df=false)/\((i = -1/\(S.map (A9 θ)).all Df=true)\/∃(j:Nat) (t:Ty),i=j/\S[j]?=some t/\Df (A9 θ t)=false/\((S.take j).map (A9 θ)).all Df=true):=by
  cases h:(S.map (A9 θ)).all Df with
  | true=>exact ⟨-1,⟨λh=>by omega,λh=>nomatch h⟩,.inl ⟨rfl,rfl⟩⟩
  | false =>
   have key:∀(n:Nat),((S.take n).map (A9 θ)).all Df=false->∃(j:Nat) (t:Ty),S[j]?=some t/\Df (A9 θ t)=false/\((S.take j).map (A9 θ)).all Df=true:=λn=>by
    induction n with
    | zero=>intro h;simp at h
    | succ n ih =>
     intro h;cases hn:((S.take n).map (A9 θ)).all Df with
     | false=>exact ih hn
     | true =>
      by_cases hl:n<S.length
      ·obtain ⟨t,ht⟩:=Am hl;rw [Bk ht,CL,Ii,hn,JU] at h;exact ⟨n,t,ht,by simpa using h,hn⟩
      ·rw [CQ (by omega)] at h hn;rw [hn] at h;cases h
   obtain ⟨j,t,k1,k2,k3⟩:=key S.length (by rw [Ig];exact h);exact ⟨j,⟨λ_=>rfl,λ_=>by omega⟩,.inr ⟨j,t,rfl,k1,k2,k3⟩⟩
 obtain ⟨i,h1,h2⟩:=hfi;refine ⟨i,h1,?_⟩;clear h1;refine AQ Ah func245 rfl [7,8,9]<|Ai rfl<|Ak (λj:Nat=>[(8,.imm (.int .i64 j)),(7,.imm (.int .i64 S.length)),(0,.own 3 (A0 S).length),(1,.fn (.func 175) [] [.ref 6 0])]) (λ_=>YI m T k S) [7,8,9] (λj=>S.length-j) (λj=>j<=S.length/\((S.take j).map (A9 θ)).all Df=true) 0
  ⟨AF _,rfl⟩ ⟨rfl,A8 (by simp),AD⟩ BA rfl λj hj ih=>?_
 obtain ⟨hj1,hj2⟩:=hj;refine Av rfl<|Aa rfl (λh=>?_) (λh=>?_)
 ·have hlt:j<S.length:=by simp at h;omega
  obtain ⟨t,ht⟩:=Am hlt;have hg:=AA ht;have hQ:=gU m T k S hs t;have htk:((S.take (j+1)).map (A9 θ)).all Df=Df (A9 θ t):=by rw [Bk ht,CL,Ii,hj2];simp
  have hfound:Df (A9 θ t)=false->i=j:=λhqt=>by
   rcases h2 with ⟨_,h⟩ | ⟨k',u,rfl,k1,k2,k3⟩
   ·rw [Eo.1 h _ (Cc.2 ⟨t,AK ht,rfl⟩)] at hqt;cases hqt
   ·congr 1;rcases LM k' j with hc | hc | hc
    ·rw [Eo.1 hj2 _ (Cc.2 ⟨u,DE.2 ⟨k',by rw [Dl,if_pos hc];exact k1⟩,rfl⟩)] at k2;cases k2
    ·exact hc
    ·rw [Eo.1 k3 _ (Cc.2 ⟨t,DE.2 ⟨j,by rw [Dl,if_pos hc];exact ht⟩,rfl⟩)] at hqt;cases hqt
  generalize Df (A9 θ t)=o at *;obtain ⟨t1,t2,t3,t4⟩:=t;refine Av rfl<|FG Ah rfl (λ_=>⟨by simp,by simpa using hlt⟩) (by simp)<|Ai rfl<|PN Ah (e:=Al (.mk t1 t2 t3 t4)) rfl (λ_=>by simpa using hg) rfl (by simp)<|Ai rfl<|Jf [] [(1,1),(2,2),(3,3),(5,5),(6,6)] [] rfl hQ Wa rfl rfl<|Ai rfl ?_;cases o with
  | false =>
   exact R6 rfl λh=>Av rfl<|Ag ⟨_,rfl,tV (by rw [hfound rfl]),BA⟩
  | true =>
   exact R7 rfl λh=>Av rfl<|Ae (ih (j+1) (by omega) ⟨by omega,htk⟩) ⟨M6,AH⟩ BA rfl
 ·have hlt:¬j<S.length:=by simp at h;omega
  rw [CQ (by omega)] at hj2;have hi:i = -1:=by
   rcases h2 with ⟨h,_⟩ | ⟨k',u,_,k1,k2,_⟩
   ·exact h
   ·rw [Eo.1 hj2 _ (Cc.2 ⟨u,AK k1,rfl⟩)] at k2;cases k2
  exact At rfl<|Av rfl<|Ag ⟨_,rfl,tV (by rw [hi]),BA⟩
theorem Sm (m:Md) (T:List (Int×Ty)) (k:Int) (S:List Ty) (hs:Sol (BH T) θ) (hl:S.length<=1000000) :
  Tq4 174 [.own 3 (A0 S).length,.fn (.func 175) [] [.ref 6 0]] (YI m T k S) (.ret (.imm (.bool (!((S.map (A9 θ)).all Df)))) (YI m T k S)):=by
 obtain ⟨i,h1,hI⟩:=ZT m T k S hs hl;have hb:decide (0<=i) = !((S.map (A9 θ)).all Df):=by rw [EY,decide_eq_true_iff,h1];simp
 refine AQ Ah func174 rfl [7,8,9]<|Ai rfl<|Jf [] [(1,1),(2,2),(3,3),(5,5),(6,6)] [] rfl hI Wa rfl rfl<|Ai rfl<|Ag ⟨_,rfl,tV ?_,BA⟩;rw [<- hb]
theorem WX (m:Md) (T:List (Int×Ty)) (k:Int) (S:List Ty) (hs:Sol (BH T) θ) (hl:S.length<=1000000) :
  Tq4 112 [.own 3 (A0 S).length,.fn (.func 142) [] [.ref 5 0]] (zK m T k S) (.ret (.imm (.bool ((S.map (A9 θ)).all Df))) (zK m T k S)):=by
 have hC:=Sm m T k S hs hl;refine AQ Ah func112 rfl [6,7,8,9]<|Ai rfl<|Jf [] [(1,1),(2,2),(3,3),(5,5),(6,6)] [] rfl hC Wa rfl rfl<|Ai rfl<|Ag ⟨_,rfl,tV (congrArg _ ?_),BJ⟩;rw [EY];simp
theorem MI (m:Md) (T:List (Int×Ty)) (k:Int) (S:List Ty) (hs:Sol (BH T) θ) (hl:S.length<=1000000) (hp:(S.map (A9 θ)).all Df=true) :
  Tq4 80 [.ref 1 0] (CI m T k S) (.ret (.imm (.tup [])) (CI m T k S)):=by
 have hC:=WX m T k S hs hl;rw [hp] at hC;exact AQ Ah func80 rfl [5,6,7,8,9]<|Ai rfl<|Jf [] [(1,1),(2,2),(3,3),(5,5)] [] rfl hC JK rfl rfl<|Ai rfl<|Ad rfl Fx<|Ai rfl<|BP ⟨_,BA⟩
theorem OS (m:Md) (T:List (Int×Ty)) (k:Int) (S:List Ty) (hs:Sol (BH T) θ) (hl:S.length<=1000000) (hp:(S.map (A9 θ)).all Df=false) :
  Tq4 80 [.ref 1 0] (CI m T k S) (.pan Gn):=by
 have hC:=WX m T k S hs hl;rw [hp] at hC;exact AQ Ah func80 rfl [5,6,7,8,9]<|Ai rfl<|Jf [] [(1,1),(2,2),(3,3),(5,5)] [] rfl hC JK rfl rfl<|Ai rfl<|Bd [] rfl (by simp) (I7 _ rfl) trivial rfl rfl rfl<|Ai rfl<|By 8 rfl
theorem zQ:∀(fn:Fn) (first cap:Array Value) (w:World),(Instr.makeFunc fn first cap).run prog w = .ok (.func fn first cap) w:=λ_ _ _ _=>rfl
theorem UY (p:Addr) (w:World) :
  CallsD prog 115 #[.pointer (some p)] .returning w λe u' w'=>e = .returned (.tuple #[])/\u' = .returning/\w'=w:=by
 refine callsD_of_wpS func115 rfl λc₀ cs hu=>?_;apply wpS_seq;apply wpS_region;simp [wpOpsS,go_sem,recoverD,hu,Tryz.ntmps115,Exit.thenS];apply wpS_seq;apply wpS_region;simp [wpOpsS,go_sem,Exit.thenS];refine wpS_cond (t:=false) (by simp [Act.eval,Array.replicate]) ?_;simp only [if_false,E1];refine wpS_of_wp (wp_skip ?_);cases c₀;simp_all [bodyPostS,results,Tryz.results115]
theorem UZ (pb:Nat) (x:Value) (w:World) (hpb:pb<w.heap.size) (hx:w.cell? ⟨pb,0,none⟩=some x) (hz:w.frozen? ⟨pb,0,none⟩=false) :
  CallsD prog 115 #[.pointer (some ⟨pb,0,none⟩)] (.panicking [{ v:=.iface 167 (.agg #[]),recovered:=false }]) w λe u' w'=>e = .returned (.tuple #[]) /\
   u' = .panicking [{ v:=.iface 167 (.agg #[]),recovered:=true }]/\w'=(w.setCell ⟨pb,0,none⟩ (.bool false)).alloc (.cells #[] 167):=by
 refine callsD_of_wpS func115 rfl λc₀ cs hu=>?_;change Code.wpS _ _ _ { tmps:=#[.pointer (some ⟨pb,0,none⟩),undef,undef,undef,undef,undef,undef,undef,undef,undef,undef,undef,undef,undef,undef],defers:=[] } _ _;apply wpS_seq;apply wpS_region;simp [wpOpsS,go_sem,recoverD,hu,Tryz.ntmps115,Exit.thenS];apply wpS_seq;apply wpS_region;simp [wpOpsS,go_sem,Exit.thenS];refine wpS_cond (t:=true) (by simp [Act.eval,Array.replicate]) ?_;simp only [if_true];refine wpS_of_wp ?_;clear hu;have hta:∀w:World,(Instr.typeAssert (.iface 167 (.agg #[])) 20 167 true).run prog w = .ok (.tuple #[.agg #[],.bool true]) w:=λ_=>by kernel_rfl
 have hx':(w.alloc (.cells #[] 167)).cell? ⟨pb,0,none⟩=some x:=by rw [World.cell?_alloc_past _ _ _ hpb];exact hx
 have hz':(w.alloc (.cells #[] 167)).frozen? ⟨pb,0,none⟩=false:=by rw [RowKit.frozen?_alloc_cells];exact hz
 go_wp2
 simp [bodyPostS,results,Tryz.results115]
theorem UX (g:FuncId) (fi ca:Array Value) (w:World) (K:World->Prop) (Kp:World->Prop)
  (hen:(callFunc g (fi++ca)).run prog (w.alloc (.cells #[.bool false] 4)) = .ok (.enter g (fi++ca)) (w.alloc (.cells #[.bool false] 4)))
  (hcall:Tq6 g (fi++ca) (w.alloc (.cells #[.bool false] 4)) λe w'=>match e with
   | .returned _=>K w'
   | .panicked chain=>chain=[{ v:=.iface 167 (.agg #[]),recovered:=false }]/\Kp w'
   | .outgrown=>False)
  (hK:∀w',K w'->w'.heap[w.heap.size]?=some (.cells #[.bool false] 4 (0,0))) (hKp:∀w',Kp w'->w'.heap[w.heap.size]?=some (.cells #[.bool false] 4 (0,0))) :
  Tq6 55 #[.func (.func g) fi ca] w λe w'=>(e = .returned (.bool true)/\∃w1,K w1/\w'=w1.setCell ⟨w.heap.size,0,none⟩ (.bool true)) \/
   (e = .returned (.bool false)/\∃w1,Kp w1/\w'=(w1.setCell ⟨w.heap.size,0,none⟩ (.bool false)).alloc (.cells #[] 167)):=by
 go_enter_defers func55,Tryz.ntmps55
 have zS:=zQ
 go_wp2_with fail
 clear hen;refine hcall.mono ?_;intro e w' he;cases e with
 | outgrown=>exact he.elim
 | returned v =>
  have hc:w'.cell? ⟨w.heap.size,0,none⟩=some (.bool false):=by unfold World.cell?;simp [hK w' he]
  have hz:w'.frozen? ⟨w.heap.size,0,none⟩=false:=by unfold World.frozen?;simp [hK w' he]
  simp only
  go_wp2
  refine leaves_cons (f:=115) (args:=#[.pointer (some ⟨w.heap.size,0,none⟩)]) (by simp) (by simp [go_sem])<|(UY ⟨w.heap.size,0,none⟩ _).mono ?_;rintro e u' w'' ⟨rfl,rfl,rfl⟩;simp [Leaves,settle,results,Tryz.results55,go_sem,hc];exact ⟨w',he,rfl⟩
 | panicked chain =>
  obtain ⟨rfl,he⟩:=he;have hc:w'.cell? ⟨w.heap.size,0,none⟩=some (.bool false):=by unfold World.cell?;simp [hKp w' he]
  have hz:w'.frozen? ⟨w.heap.size,0,none⟩=false:=by unfold World.frozen?;simp [hKp w' he]
  have hlt:w.heap.size<w'.heap.size:=(GH.1 (hKp w' he)).1;refine leaves_cons (f:=115) (args:=#[.pointer (some ⟨w.heap.size,0,none⟩)]) (by simp) (by simp [go_sem])<|(UZ w.heap.size _ _ hlt hc hz).mono ?_;rintro e u' w'' ⟨rfl,rfl,rfl⟩;have hc2:((w'.setCell ⟨w.heap.size,0,none⟩ (.bool false)).alloc (.cells #[] 167)).cell? ⟨w.heap.size,0,none⟩=some (.bool false):=by
   rw [Ek (hKp w' he),World.cell?_alloc_past _ _ _ (by simpa using hlt)];unfold World.cell?;simp [hlt]
  simp [Leaves,settle,results,Tryz.results55,go_sem,hc2];exact ⟨w',he,rfl⟩
theorem Fy:KV prog 55 167 4:=λg fi ca w K Kp h1 h2 h3 h4=>UX g fi ca w K Kp h1 h2 h3 h4
def wQ (m:Md) (T:List (Int×Ty)) (k:Int) (S:List Ty) (a b:Ty):St:=(4,some (.cells 92 1 [.ref 1 0]))::(5,some (.immb 25 4 (Al a)))::(6,some (.immb 25 4 (Al b)))::CI m T k S
theorem Yn {T':List (Int×Ty)} {a b:Ty} (hE:Dk m T k S a b T'):Tq4 56 [.ref 4 0,.ref 5 0,.ref 6 0] (wQ m T k S a b) (.ret (.imm (.tup [])) (wQ m T' k S a b)):=by
 unfold Dk at hE;obtain ⟨a1,a2,a3,a4⟩:=a;obtain ⟨b1,b2,b3,b4⟩:=b;exact AQ Ah func56 rfl [7,8]<|Ai rfl<|Jf [] [(1,1),(2,2),(3,3)] [] rfl hE Ax rfl rfl<|Ai rfl<|BP ⟨_,Mr⟩
theorem eH {a b:Ty} (hE:DL m T k S a b):Tq4 56 [.ref 4 0,.ref 5 0,.ref 6 0] (wQ m T k S a b) (.pan Gn):=by
 unfold DL at hE;obtain ⟨a1,a2,a3,a4⟩:=a;obtain ⟨b1,b2,b3,b4⟩:=b;exact AQ Ah func56 rfl [7,8]<|Ai rfl<|Bd [(1,1),(2,2),(3,3)] rfl (by simp) hE Ax rfl rfl rfl<|By 6 rfl
theorem Rc:Tq3 138 [.sl []] (.sl []):=by
 refine AQ Ah func138 rfl [1]<|Ai rfl<|KM Ah rfl λb hb=>?_;cases b with
 | true =>
  exact yd [.a] rfl (by simp)<|Ab rfl rfl rfl
 | false =>
  exact yd [.a] rfl (by simp)<|TJ Ah rfl<|Ai rfl<|Ab rfl rfl rfl
theorem Kc (es:List (List V)) (hne:es≠[]) (hs:∀c∈es,c.length=4) (hlen:es.length<=1000000):Tq4 138 [.imm (.sl es)] [] (.ret (.own 1 es.length) [(1,some (.row 25 4 es))]):=by
 cases es with
 | nil=>exact absurd rfl hne
 | cons e r =>
  refine AQ Ah func138 rfl [1,2]<|Ai rfl<|KM Ah rfl λb hb=>?_;have hb:b=false:=hb (by simp);subst hb;exact yd [.a] rfl (by simp)<|Bn Ah rfl ⟨hs,by simp only [maxLen,B5] at *;omega,by simp only [B5] at *;omega,λc hc=>by simp at hc,by simp⟩<|Ai rfl<|Ag ⟨_,AH⟩
def nP:V:=.iface 171 (.agg [])
def HB (m:Md) (T:List (Int×Ty)) (k:Int) (S:List Ty) (c:Int):St:=(4,some (.immb 3 1 [.int .i64 c]))::CI m T k S
def RT (m:Md) (T:List (Int×Ty)) (k:Int) (S:List Ty) (t:Ty) (c:Int) (u:Ty) (c':Int):Prop :=
 Tq4 120 [.ref 1 0,.imm (.agg (Al t)),.ref 4 0] (HB m T k S c) (.ret (.imm (.agg (Al u))) (HB m T k S c'))
def V6 (m:Md) (T:List (Int×Ty)) (k:Int) (S:List Ty) (t:Ty) (c:Int):Prop :=
 Tq4 120 [.ref 1 0,.imm (.agg (Al t)),.ref 4 0] (HB m T k S c) (.pan nP)
theorem iE (m:Md) (T:List (Int×Ty)) (k:Int) (S:List Ty) (hs:Sol (BH T) θ) (t:Ty):V6 m T k S t 0:=by
 unfold V6;obtain ⟨u,hu⟩:=L8 hs t;have hA:=Cn m T k S hs t u hu;obtain ⟨t1,t2,t3,t4⟩:=t;obtain ⟨u1,u2,u3,u4⟩:=u;refine AQ Ah func120 rfl [5,6,7,8]<|Ai rfl<|Jf [] [(1,1),(2,2),(3,3)] [] rfl hA Ax rfl rfl<|Ai rfl<|Aa rfl (λh'=>?_) (λh'=>by exfalso;simp at h';revert h';decide);exact Av rfl<|IK rfl rfl rfl rfl
theorem TL (m:Md) (T:List (Int×Ty)) (k:Int) (S:List Ty) (hs:Sol (BH T) θ) (t:Ty) (f n:Int) (x:Str) (hu:Top (BH T) t (.mk f n x [])) (c:Int) (hc:1<=c/\c<=1000000):RT m T k S t c (.mk f n x []) (c-1):=by
 unfold RT;have hA:=Cn m T k S hs t _ hu;have e1:IntKind.i64.wrap (c-1)=c-1:=BW (by omega) (by omega);obtain ⟨t1,t2,t3,t4⟩:=t;refine AQ Ah func120 rfl [5,6,7,8]<|Ai rfl<|Jf [] [(1,1),(2,2),(3,3)] [] rfl hA Ax rfl rfl<|Ai rfl<|Aa rfl (λh'=>by exfalso;simp [e1] at h';omega) (λh'=>?_);refine Av rfl<|Ad rfl Rc<|Ai rfl<|Ak (λ_:Unit=>[(29,.imm (.int .i64 0)),(28,.imm (.int .i64 0)),(7,.imm (.sl [])),(4,.ref 5 0),(6,.ref 6 0)]) (λ_=>(5,some (.immb 25 4 (Al (.mk f n x []))))::(6,some (.cells 25 4 [.imm (.int .i64 0),.imm (.int .i64 0),.imm (.str []),.nils]))::HB m T k S (IntKind.i64.wrap (c-1))) [7,8] (λ_=>0) (λ_=>True) ()
  trivial BA GE rfl λ_ _ ih=>?_
 refine Av rfl<|Aa rfl (λh'=>by exfalso;simp at h') (λh'=>?_);exact At rfl<|Av rfl<|Ag ⟨_,rfl,tV rfl,congrArg (λz=>some (some (Blk.immb 3 1 [V.int .i64 z]))) e1,AH⟩
theorem R8 (L:List Ty) (i:Nat) (t:Ty):A0 (L.set i t)=(A0 L).set i (Al t):=by simp [CU,List.map_set]
def Pr (m:Md) (T:List (Int×Ty)) (k:Int) (S:List Ty):List Ty->Int->List Ty->Int->Prop
 | [],c,us,c'=>us=[]/\c'=c
 | p::r,c,us,c'=>∃v c1 vs,RT m T k S p c v c1/\us=v::vs/\Pr m T k S r c1 vs c'
theorem iF (m:Md) (T:List (Int×Ty)) (k:Int) (S:List Ty) (hs:Sol (BH T) θ) (t:Ty) (f n:Int) (x:Str) (ps us:List Ty) (hne:ps≠[]) (hl:ps.length<=3) (hu:Top (BH T) t (.mk f n x ps)) (c c':Int) (hc:1<=c/\c<=1000000) (hlu:us.length=ps.length) (hC:Pr m T k S ps (c-1) us c'):RT m T k S t c (.mk f n x us) c':=by
 unfold RT;have hA:=Cn m T k S hs t _ hu;have e1:IntKind.i64.wrap (c-1)=c-1:=BW (by omega) (by omega);have hpe:A0 ps≠[]:=λe=>hne (by have:=congrArg List.length e;simpa using this);have h4:∀c∈A0 ps,c.length=4:=λc hc=>by rw [CU] at hc;obtain ⟨x,_,rfl⟩:=Cc.1 hc;simp
 have hK:=Kc (A0 ps) hpe h4 (by simp;omega);obtain ⟨t1,t2,t3,t4⟩:=t;rw [<- e1] at hC;refine AQ Ah func120 rfl [5,6,7,8,9]<|Ai rfl<|Jf [] [(1,1),(2,2),(3,3)] [] rfl hA Ax rfl rfl<|Ai rfl<|Aa rfl (λh'=>by exfalso;simp [e1] at h';omega) (λh'=>?_);refine Av rfl<|Jf [7] [] [(1,7)] rfl hK trivial rfl rfl<|Ai rfl<|Ak (λz:Nat×Int=>[(29,.imm (.int .i64 z.1)),(28,.imm (.int .i64 ps.length)),(27,.own 7 (A0 ps).length),(7,.own 7 (A0 ps).length),(0,.ref 1 0),(2,.ref 4 0),(4,.ref 5 0),(6,.ref 6 0)])
  (λz=>(5,some (.immb 25 4 (Al (.mk f n x ps))))::(6,some (.cells 25 4 [.imm (.int .i64 0),.imm (.int .i64 0),.imm (.str []),.nils]))::(7,some (.row 25 4 (A0 (us.take z.1++ps.drop z.1))))::HB m T k S z.2) [8,9] (λz=>ps.length-z.1)
  (λz=>z.1<=ps.length/\Pr m T k S (ps.drop z.1) z.2 (us.drop z.1) c') (0,IntKind.i64.wrap (c-1))
  ⟨AF _,hC⟩ ⟨rfl,A8 (by simp),GE⟩ F6 rfl λz hz ih=>?_
 clear hC;obtain ⟨j,e⟩:=z;obtain ⟨hj1,hj2⟩:=hz;simp only at hj1 hj2 ih;refine Av rfl<|Aa rfl (λh'=>?_) (λh'=>?_)
 ·have hlt:j<ps.length:=by simp at h';omega
  obtain ⟨p,hp⟩:=Am hlt;rw [As hp,Pr] at hj2;obtain ⟨v,e2,vs,hF,hus,hj2⟩:=hj2;have hv:us[j]?=some v:=by
   have:=congrArg (·[0]?) hus;simpa using this
  have hvs:us.drop (j+1)=vs:=by
   rw [As hv] at hus;exact (List.cons.inj hus).2
  have hlen:(us.take j).length=j:=by rw [FA];omega
  have hg:(A0 (us.take j++ps.drop j))[j]?=some (Al p):=AA (by rw [QG (by omega),hlen,LL,ES];simpa using hp);have hset:(A0 (us.take j++ps.drop j)).set j (Al v)=A0 (us.take (j+1)++ps.drop (j+1)):=by
   rw [<- R8,zb9 _ _ (by omega),hlen,LL,As hp,Bk hv];simp
  have hrl:(A0 (us.take j++ps.drop j)).length=(A0 ps).length:=by simp;omega
  have hpl:(A0 ps).length=ps.length:=dTys_length ps;have hih:=ih (j+1,e2) (by simp only;omega) ⟨by simp only;omega,by rw [hvs];exact hj2⟩;unfold RT at hF;simp only [<- hset] at hih;generalize A0 (us.take j++ps.drop j)=R at *;obtain ⟨p1,p2,p3,p4⟩:=p;obtain ⟨v1,v2,v3,v4⟩:=v
  exact Av rfl<|FG Ah rfl (λ_=>⟨by simp,by simp;omega⟩) (by simp [Ap])<|CW rfl<|PN Ah (e:=Al (.mk p1 p2 p3 p4)) rfl (λ_=>by simpa using hg) rfl (by simp [Ap])<|Ai rfl<|Jf [] [(1,1),(2,2),(3,3),(4,4)] [] rfl hF JK rfl rfl<|Ai rfl<|FG Ah rfl (λ_=>⟨by simp,by simp;omega⟩) (by simp [Ap])<|CW rfl<|Kj Ah (e:=Al (.mk p1 p2 p3 p4)) (e':=Al (.mk v1 v2 v3 v4)) rfl (by simpa using hg) (by show 0+4<=4;decide) (by simp) (by simp)<|Ai rfl<|Ae hih ⟨M6,F6⟩ F6 rfl
 ·have hlt:j=ps.length:=by simp at h';omega
  subst hlt;rw [Bh (BL _),Pr] at hj2;obtain ⟨_,e2⟩:=hj2;subst e2;have hrow:us.take ps.length++ps.drop ps.length=us:=by rw [Bh (BL _),HP,CQ (by omega)]
  simp only [hrow];clear ih hrow;exact At rfl<|Bv 7 rfl<|Av rfl<|Ag ⟨_,rfl,tV rfl,BJ⟩
def Pq (m:Md) (T:List (Int×Ty)) (k:Int) (S:List Ty):List Ty->Int->Prop
 | [],_=>False
 | p::r,c=>V6 m T k S p c\/∃v c1,RT m T k S p c v c1/\Pq m T k S r c1
theorem ZZ (m:Md) (T:List (Int×Ty)) (k:Int) (S:List Ty) (hs:Sol (BH T) θ) (t:Ty) (f n:Int) (x:Str) (ps:List Ty) (hne:ps≠[]) (hl:ps.length<=3) (hu:Top (BH T) t (.mk f n x ps)) (c:Int) (hc:1<=c/\c<=1000000) (hC:Pq m T k S ps (c-1)):V6 m T k S t c:=by
 unfold V6;have hA:=Cn m T k S hs t _ hu;have e1:IntKind.i64.wrap (c-1)=c-1:=BW (by omega) (by omega);have hpe:A0 ps≠[]:=λe=>hne (by have:=congrArg List.length e;simpa using this);have h4:∀c∈A0 ps,c.length=4:=λc hc=>by rw [CU] at hc;obtain ⟨x,_,rfl⟩:=Cc.1 hc;simp
 have hK:=Kc (A0 ps) hpe h4 (by simp;omega);obtain ⟨t1,t2,t3,t4⟩:=t;rw [<- e1] at hC;refine AQ Ah func120 rfl [5,6,7,8,9]<|Ai rfl<|Jf [] [(1,1),(2,2),(3,3)] [] rfl hA Ax rfl rfl<|Ai rfl<|Aa rfl (λh'=>by exfalso;simp [e1] at h';omega) (λh'=>?_);refine Av rfl<|Jf [7] [] [(1,7)] rfl hK trivial rfl rfl<|Ai rfl<|Ak (λz:Nat×Int×List Ty=>[(29,.imm (.int .i64 z.1)),(28,.imm (.int .i64 ps.length)),(27,.own 7 (A0 ps).length),(7,.own 7 (A0 ps).length),(0,.ref 1 0),(2,.ref 4 0),(4,.ref 5 0),(6,.ref 6 0)])
  (λz=>(5,some (.immb 25 4 (Al (.mk f n x ps))))::(6,some (.cells 25 4 [.imm (.int .i64 0),.imm (.int .i64 0),.imm (.str []),.nils]))::(7,some (.row 25 4 (A0 z.2.2)))::HB m T k S z.2.1) [8,9] (λz=>ps.length-z.1)
  (λz=>z.1<=ps.length/\z.2.2.length=ps.length/\z.2.2.drop z.1=ps.drop z.1/\Pq m T k S (ps.drop z.1) z.2.1) (0,IntKind.i64.wrap (c-1),ps)
  ⟨AF _,rfl,rfl,hC⟩ ⟨rfl,A8 (by simp),GE⟩ F6 rfl λz hz ih=>?_
 clear hC;obtain ⟨j,e,R0⟩:=z;obtain ⟨hj1,hjl,hjd,hj2⟩:=hz;simp only at hj1 hjl hjd hj2 ih;refine Av rfl<|Aa rfl (λh'=>?_) (λh'=>?_)
 ·have hlt:j<ps.length:=by simp at h';omega
  obtain ⟨p,hp⟩:=Am hlt;rw [As hp,Pq] at hj2;have hR:R0[j]?=some p:=by
   have:=congrArg (·[0]?) hjd;simp only [ES,I5] at this;rw [this,hp]
  have hg:(A0 R0)[j]?=some (Al p):=AA hR;have hrl:(A0 R0).length=(A0 ps).length:=by simp;omega
  have hpl:(A0 ps).length=ps.length:=dTys_length ps;have hih:=λ(v:Ty) (e2:Int) (h2:Pq m T k S (ps.drop (j+1)) e2)=>ih (j+1,e2,R0.set j v) (by simp only;omega) ⟨by simp only;omega,by simpa using hjl,by
   show (R0.set j v).drop (j+1)=ps.drop (j+1);rw [List.drop_set,if_pos (by omega)];have:=congrArg (·.drop 1) hjd;simpa [mT,Nat.add_comm] using this,h2⟩
  simp only [R8] at hih;generalize A0 R0=R at *;clear hR hjd;obtain ⟨p1,p2,p3,p4⟩:=p;refine Av rfl<|FG Ah rfl (λ_=>⟨by simp,by simp;omega⟩) (by simp [Ap])<|CW rfl<|PN Ah (e:=Al (.mk p1 p2 p3 p4)) rfl (λ_=>by simpa using hg) rfl (by simp [Ap])<|Ai rfl ?_;rcases hj2 with hF | ⟨v,e2,hF,hj2⟩
  ·unfold V6 at hF;exact Bd [(1,1),(2,2),(3,3),(4,4)] rfl (by simp) hF JK rfl rfl rfl<|By 39 rfl
  ·unfold RT at hF;have hihv:=hih v e2 hj2;obtain ⟨v1,v2,v3,v4⟩:=v;exact Jf [] [(1,1),(2,2),(3,3),(4,4)] [] rfl hF JK rfl rfl<|Ai rfl<|FG Ah rfl (λ_=>⟨by simp,by simp;omega⟩) (by simp [Ap])<|CW rfl<|Kj Ah (e:=Al (.mk p1 p2 p3 p4)) (e':=Al (.mk v1 v2 v3 v4)) rfl (by simpa using hg) (by show 0+4<=4;decide) (by simp) (by simp)<|Ai rfl<|Ae hihv ⟨M6,F6⟩ F6 rfl
 ·have hlt:j=ps.length:=by simp at h';omega
  subst hlt;rw [Bh (BL _),Pq] at hj2;exact hj2.elim
def yV (m:Md) (T:List (Int×Ty)) (k:Int) (S:List Ty) (θ:Int->Ty) (t:Ty) (c:Int):Prop :=
 ((DH (A9 θ t):Int)<=c->RT m T k S t c (A9 θ t) (c-DH (A9 θ t)))/\(c<(DH (A9 θ t):Int)->V6 m T k S t c)
theorem Ro {m:Md} {T:List (Int×Ty)} {k:Int} {S:List Ty} {θ:Int->Ty}:∀(ps:List Ty) (c:Int),0<=c->(∀p∈ps,∀c,0<=c->c<=1000000->yV m T k S θ p c)->c<=1000000 ->
  ((CX (Db θ ps):Int)<=c->Pr m T k S ps c (Db θ ps) (c-CX (Db θ ps)))/\(c<(CX (Db θ ps):Int)->Pq m T k S ps c)
 | [],c,h0,_,_=>by
  refine ⟨λ_=>?_,λh=>?_⟩
  ·rw [Pr];exact ⟨rfl,by simp [Db,CX]⟩
  ·simp [Db,CX] at h;omega
 | p::r,c,h0,hp,hc=>by
  have h1:=hp p (by simp) c h0 hc;have hpos:0<=(DH (A9 θ p):Int):=by omega
  refine ⟨λh=>?_,λh=>?_⟩
  ·simp only [Db,CX] at h ⊢;have h2:=(Ro (m:=m) (T:=T) (k:=k) (S:=S) (θ:=θ) r (c-DH (A9 θ p)) (by omega) (λq hq=>hp q (by simp [hq])) (by omega)).1 (by omega);rw [Pr];refine ⟨_,_,_,h1.1 (by omega),rfl,?_⟩;rw [show c-((DH (A9 θ p)+CX (Db θ r):Nat):Int)=c-DH (A9 θ p)-CX (Db θ r) by omega];exact h2
  ·simp only [Db,CX] at h;rw [Pq];by_cases hb:c<(DH (A9 θ p):Int)
   ·exact .inl (h1.2 hb)
   ·have h2:=(Ro (m:=m) (T:=T) (k:=k) (S:=S) (θ:=θ) r (c-DH (A9 θ p)) (by omega) (λq hq=>hp q (by simp [hq])) (by omega)).2 (by omega);exact .inr ⟨_,_,h1.1 (by omega),h2⟩
theorem oW (m:Md) (T:List (Int×Ty)) (k:Int) (S:List Ty) (hs:Sol (BH T) θ):∀(s:Nat) (t:Ty),DH (A9 θ t)<=s->C9 t=true->∀c,0<=c->c<=1000000->yV m T k S θ t c:=by
 intro s
 induction s with
 | zero=>intro t h;have:=HE (A9 θ t);omega
 | succ s IH =>
 intro t ht hw c h0 hc;have hpos:=HE (A9 θ t);by_cases hz:c=0
 ·subst hz;exact ⟨λh=>by omega,λ_=>iE m T k S hs t⟩
 obtain ⟨u,hu⟩:=L8 hs t;have he:A9 θ t=A9 θ u:=hu.ap hs.eq;have hwu:=hu.wf hs hw;rw [he] at ht hpos;unfold yV;rw [he];by_cases h9:BQ u=9
 ·have eu:=E7 hwu h9;have hfree:=hu.end_ h9;have ea:A9 θ u=u:=by rw [GK h9,hs.free _ hfree];exact eu.symm
  rw [ea];rw [eu] at hu ⊢;refine ⟨λ_=>?_,λh=>?_⟩
  ·have:=TL m T k S hs t 9 (num u) [] hu c ⟨by omega,hc⟩;simpa [Ao,DH,CX] using this
  ·simp [Ao,DH,CX] at h;omega
 ·obtain ⟨f,n,x,ps⟩:=u;simp only [BQ] at h9;have hlen:=Ie hwu;have hpw:=EU hwu;simp only [Ff] at hlen hpw;have ea:A9 θ (.mk f n x ps) = .mk f n x (Db θ ps):=by simp only [A9,if_neg h9]
  rw [ea] at ht ⊢;simp only [DH] at ht ⊢;by_cases hne:ps=[]
  ·subst hne;refine ⟨λ_=>?_,λh=>?_⟩
   ·have:=TL m T k S hs t f n x hu c ⟨by omega,hc⟩;simpa [Db,CX] using this
   ·simp [Db,CX] at h;omega
  ·have hF:=Ro (m:=m) (T:=T) (k:=k) (S:=S) (θ:=θ) ps (c-1) (by omega) (λp hp c h0 hc=>IH p (by
    have:=Qk (UU (f:=A9 θ) hp);rw [<- Ib] at this;omega) (hpw p hp) c h0 hc) (by omega)
   refine ⟨λh=>?_,λh=>?_⟩
   ·have hk:=hF.1 (by omega);have:=iF m T k S hs t f n x ps (Db θ ps) hne hlen hu c _ ⟨by omega,hc⟩ (by rw [Ib,Dh]) hk;rw [show c-((1+CX (Db θ ps):Nat):Int)=c-1-CX (Db θ ps) by omega];exact this
   ·exact ZZ m T k S hs t f n x ps hne hlen hu c ⟨by omega,hc⟩ (hF.2 (by omega))
mutual
def GD:Ty->List Ty
 | .mk f n x ps=>.mk f n x ps::CG ps
def CG:List Ty->List Ty
 | []=>[]
 | t::r=>GD t++CG r
end
def D8 (l:List Ty):List D:=l.map λu=>.imm (.agg (Al u))
theorem RX (a b:List Ty):D8 (a++b)=D8 a++D8 b:=by simp [D8]
def Wz (r:St):St:=(1,some (.cells 26 1 [.yld 3]))::(2,some (.cells 26 1 [.fn (.func 140) [] [.ref 1 0,.ref 2 0]]))::r
def xN (t:Ty) (b:Bool) (S S':Bun):Prop:=IR prog 140 [.imm (.agg (Al t)),.ref 1 0,.ref 2 0]
 (Wz [(3,some .pin),(4,some (.bun 3 S))]) (.ret (.imm (.bool b)) (Wz [(3,some .pin),(5,some (.bun 3 S'))]))
theorem mI (s n:Int) (x:Str) (ps:List Ty) (IH:∀t∈ps,∀{b:Bool} {S S':Bun},Yields prog (D8 (GD t)) S b S'->xN t b S S') {b:Bool} {S:Bun} (hY:Yields prog (D8 (CG ps)) S b S') :
  Tq2 Tryz.f140.ntmps [1,2,3,4] (Lb Yj Tryz.f140.results.toList (.ret (.imm (.bool b)) (Wz [(3,some .pin),(5,some (.bun 3 S'))])))
   [.code (Gx Tryz.f140 2)] [(3,.ref 8 0),(1,.ref 1 0),(2,.ref 2 0)] ((8,some (.immb 25 4 (Al (.mk s n x ps))))::Wz [(3,some .pin),(6,some (.bun 3 S))]) [7,9,10,11,5]:=by
 refine Pu rfl<|FN (t:=12) rfl λhv=>?_;have hlen:ps.length<=9223372036854775807:=by simp [Ez,maxLen] at hv;omega
 refine Ak (λy:Nat×Bun=>[(14,.imm (.int .i64 y.1)),(13,.imm (.int .i64 ps.length)),(12,.imm (.sl (A0 ps))),(1,.ref 1 0),(2,.ref 2 0)])
  (λy=>Wz [(3,some .pin),(6,some (.bun 3 y.2))]) [7,9,10,11,5] (λy=>ps.length-y.1)
  (λy=>y.1<=ps.length/\Yields prog (D8 (CG (ps.drop y.1))) y.2 b S') (0,S) ⟨AF _,hY⟩ ⟨rfl,A8 (by simp),AH⟩ BJ rfl λy hi ih=>?_
 obtain ⟨i,S0⟩:=y;obtain ⟨hi1,hi2⟩:=hi;simp only at hi1 hi2;refine Pu rfl<|Aa rfl (λh=>?_) (λh=>?_)
 ·simp at h;obtain ⟨t,ht⟩:=Am h;have hd:ps.drop i=t::ps.drop (i+1):=As ht;rw [hd,CG,RX] at hi2;obtain ⟨t1,t2,t3,t4⟩:=t;refine Pu rfl<|yiz rfl (AA ht)<|CW rfl ?_;rcases Yields.split hi2 with ⟨S1,q1,q2⟩ | ⟨q1,q2⟩
  ·exact Jf [9] [(1,1),(2,2),(3,3),(6,4)] [(5,9)] rfl (IH _ (AK ht) q1) JK rfl rfl<|Ai rfl<|R7 rfl λh=>Av rfl<|Bo 6 9 rfl<|Ae (ih (i+1,S1) (by simp only;omega) ⟨by simp only;omega,q2⟩) ⟨A8 (BW (by simp only;omega) (by simp only;omega)),BJ⟩ BJ rfl
  ·subst q1;exact Jf [9] [(1,1),(2,2),(3,3),(6,4)] [(5,9)] rfl (IH _ (AK ht) q2) JK rfl rfl<|Ai rfl<|R6 rfl λh=>Av rfl<|KN (ids':=[]) 9 5 rfl rfl<|Ag ⟨_,rfl,tV rfl,BJ⟩
 ·simp at h;have hd:ps.drop i=[]:=Bh (by omega);rw [hd] at hi2;obtain ⟨rfl,rfl⟩:=Yields.nilInv hi2;exact At rfl<|Av rfl<|KN (ids':=[]) 6 5 rfl rfl<|Ag ⟨_,rfl,tV rfl,BJ⟩
theorem mJ:∀(t:Ty) {b:Bool} {S S':Bun},Yields prog (D8 (GD t)) S b S'->xN t b S S'
 | .mk s n x ps,b,S,S',hY=>by
  have IH:∀t∈ps,∀{b:Bool} {S S':Bun},Yields prog (D8 (GD t)) S b S'->xN t b S S':=λt ht {b S S'} h=>mJ t h;refine Ac Ah func140 (by decide +kernel) rfl [8,6,7,9,10,11,5] rfl rfl ?_;refine CW rfl ?_;have e:D8 (GD (.mk s n x ps)) = .imm (.agg (Al (.mk s n x ps)))::D8 (CG ps):=rfl;rw [e] at hY;cases hY with
  | cons h h1 =>
   refine dB (j:=4) (j2:=6) rfl (by simp [Ap]) (by simp [Ap]) h rfl rfl rfl rfl rfl ?_;refine Ai rfl ?_;refine R7 rfl λh=>?_;refine Nh ?_;exact Ae (mI s n x ps IH h1) ⟨rfl,rfl,rfl,trivial⟩ ⟨rfl,rfl,rfl,rfl,rfl,trivial⟩ rfl
  | stop h =>
   refine dB (j:=4) (j2:=6) rfl (by simp [Ap]) (by simp [Ap]) h rfl rfl rfl rfl rfl ?_;refine Ai rfl ?_;refine R6 rfl λh=>?_;refine Av rfl ?_;refine KN (ids':=[]) 6 5 rfl rfl ?_;exact Ag ⟨_,rfl,tV rfl,rfl,rfl,rfl,rfl,trivial⟩
termination_by t=>SizeOf.sizeOf t
decreasing_by
 all_goals
  have:=List.sizeOf_lt_of_mem ht;simp_wf;omega
def FX (t:Ty):St:=[(6,some (.immb 25 4 (Al t)))]
theorem NO (t:Ty) {b:Bool} {S:Bun} (hY:Yields prog (D8 (GD t)) S b S') :
  Tq4 139 [.yld 3,.ref 6 0] ((3,some .pin)::(4,some (.bun 3 S))::FX t) (.ret (.tup []) ((3,some .pin)::(5,some (.bun 3 S'))::FX t)):=by
 have hC:=mJ t hY;obtain ⟨t1,t2,t3,t4⟩:=t;exact AQ Ah func139 rfl [1,2,7,5]<|CW rfl<|Jf [7] [(1,1),(2,2),(3,3),(4,4)] [(5,7)] rfl hC JK rfl rfl<|CW rfl<|KN (ids':=[]) 7 5 rfl rfl<|BP ⟨[],BA⟩
theorem Tz (t:Ty):Tq4 77 [.imm (.agg (Al t))] [] (.ret (.fn (.func 139) [] [.ref 6 0]) (FX t)):=by
 obtain ⟨t1,t2,t3,t4⟩:=t;exact AQ Ah func77 rfl [6]<|CW rfl<|Ag ⟨_,AH⟩
mutual
def FI:Ty->Ty
 | .mk f n x ps=>.mk (if f=9 then 10 else f) n x (Lw ps)
def Lw:List Ty->List Ty
 | []=>[]
 | t::r=>FI t::Lw r
end
theorem Rr:∀l:List Ty,Lw l=l.map FI
 | []=>rfl
 | t::r=>by simp [Lw,Rr r]
theorem WV:∀t:Ty,C9 t=true->Tq3 76 [.agg (Al t)] (.agg (Al (FI t)))
 | .mk f n x ps,hw=>by
  have hl:=Ie hw;simp only [Ff] at hl;have IH:∀t∈ps,Tq3 76 [.agg (Al t)] (.agg (Al (FI t))):=λt ht=>WV t (EU hw t (by simpa [Ff] using ht));clear hw;have node:∀g:Int,(if f=9 then 10 else f)=g ->
   Tq2 Tryz.f76.ntmps (DY []) (Lb Yj Tryz.f76.results.toList (.ret (.imm (.agg (Al (FI (.mk f n x ps))))) []))
    [.code (Gx Tryz.f76 2)] [(1,.ref 1 0),(2,.ref 2 0)] [(1,some (.immb 25 4 (Al (.mk g n x ps)))),(2,some (.cells 25 4 [.imm (.int .i64 0),.imm (.int .i64 0),.imm (.str []),.nils]))] [7,8,9,10]:=λg hg=>by
   rw [FI,hg,Rr];clear hg;refine Av rfl ?_;cases ps with
   | nil =>
    refine Ad rfl Rc<|Ai rfl<|Ak (λ_:Unit=>[(15,.imm (.int .i64 0)),(14,.imm (.int .i64 0)),(3,.imm (.sl [])),(1,.ref 1 0),(2,.ref 2 0)]) (λ_=>[(1,some (.immb 25 4 (Al (.mk g n x [])))),(2,some (.cells 25 4 [.imm (.int .i64 0),.imm (.int .i64 0),.imm (.str []),.nils]))]) [7,8,9,10] (λ_=>0) (λ_=>True) ()
     trivial BA AD rfl λ_ _ ih=>?_
    refine Av rfl<|Aa rfl (λh'=>by exfalso;simp at h') (λh'=>?_);exact At rfl<|Av rfl<|Ab rfl rfl rfl
   | cons p0 r0 =>
    generalize hps:p0::r0=ps at *;have hne:ps≠[]:=by rw [<- hps];simp
    clear hps;have hpe:A0 ps≠[]:=λe=>hne (by have:=congrArg List.length e;simpa using this);have h4:∀c∈A0 ps,c.length=4:=λc hc=>by rw [CU] at hc;obtain ⟨x,_,rfl⟩:=Cc.1 hc;simp
    have hK:=Kc (A0 ps) hpe h4 (by simp;omega);refine Jf [7] [] [(1,7)] rfl hK trivial rfl rfl<|Ai rfl<|Ak (λz:Nat=>[(15,.imm (.int .i64 z)),(14,.imm (.int .i64 ps.length)),(13,.own 7 (A0 ps).length),(3,.own 7 (A0 ps).length),(1,.ref 1 0),(2,.ref 2 0)])
     (λz=>[(1,some (.immb 25 4 (Al (.mk g n x ps)))),(2,some (.cells 25 4 [.imm (.int .i64 0),.imm (.int .i64 0),.imm (.str []),.nils])),(7,some (.row 25 4 (A0 ((ps.map FI).take z++ps.drop z))))]) [8,9,10] (λz=>ps.length-z)
     (λz=>z<=ps.length) 0
     (AF _) ⟨rfl,A8 (by simp),BJ⟩ AH rfl λj hj1 ih=>?_
    refine Av rfl<|Aa rfl (λh'=>?_) (λh'=>?_)
    ·have hlt:j<ps.length:=by simp at h';omega
     obtain ⟨p,hp⟩:=Am hlt;have hv:(ps.map FI)[j]?=some (FI p):=by simp [hp]
     have hlen:((ps.map FI).take j).length=j:=by rw [FA,Dh];omega
     have hg:(A0 ((ps.map FI).take j++ps.drop j))[j]?=some (Al p):=AA (by rw [QG (by omega),hlen,LL,ES];simpa using hp);have hset:(A0 ((ps.map FI).take j++ps.drop j)).set j (Al (FI p))=A0 ((ps.map FI).take (j+1)++ps.drop (j+1)):=by
      rw [<- R8,zb9 _ _ (by omega),hlen,LL,As hp,Bk hv];simp
     have hrl:(A0 ((ps.map FI).take j++ps.drop j)).length=(A0 ps).length:=by simp;omega
     have hpl:(A0 ps).length=ps.length:=dTys_length ps;have hih:=ih (j+1) (by omega) (by omega);have hF:=IH p (AK hp);simp only [<- hset] at hih;generalize A0 ((ps.map FI).take j++ps.drop j)=R at *;generalize FI p=v at *;obtain ⟨p1,p2,p3,p4⟩:=p;obtain ⟨v1,v2,v3,v4⟩:=v;exact Av rfl<|FG Ah rfl (λ_=>⟨by simp,by simp;omega⟩) (by simp [Ap])<|CW rfl<|PN Ah (e:=Al (.mk p1 p2 p3 p4)) rfl (λ_=>by simpa using hg) rfl (by simp [Ap])<|Ai rfl<|Ad rfl hF<|Ai rfl<|FG Ah rfl (λ_=>⟨by simp,by simp;omega⟩) (by simp [Ap])<|CW rfl<|Kj Ah (e:=Al (.mk p1 p2 p3 p4)) (e':=Al (.mk v1 v2 v3 v4)) rfl (by simpa using hg) (by show 0+4<=4;decide) (by simp) (by simp)<|Ai rfl<|Ae hih ⟨M6,BA⟩ AH rfl
    ·have hlt:j=ps.length:=by simp at h';omega
     subst hlt;have hrow:(ps.map FI).take ps.length++ps.drop ps.length=ps.map FI:=by rw [Bh (BL _),HP,CQ (by simp)]
     simp only [hrow];clear ih hrow;exact At rfl<|Bv 7 rfl<|Av rfl<|Ab rfl rfl rfl
  refine AQ Ah func76 rfl [1,2,7,8,9,10]<|Ai rfl ?_;by_cases h9:f=9
  ·subst h9;exact R6 rfl λh=>yZ 4 rfl (by simp)<|Ae (node 10 rfl) AD AD rfl
  ·refine Aa rfl (λh=>by exfalso;simp at h;exact h9 h) (λh=>?_);exact Nh<|Ae (node f (if_neg h9)) AD AD rfl
termination_by t=>SizeOf.sizeOf t
decreasing_by
 have:=Ct ht;simp_wf;omega
inductive Tr where
 | nd (f n:Int) (x:Str) (v:Value) (ks:List Tr)
 | im (cs:List Value) (c:List V)
 | gp (f n:Int) (x:Str) (v:Value)
def cT:Tr->List Value
 | .nd f n x v _=>[.int .i64 f,.int .i64 n,rO x,v]
 | .im cs _=>cs
 | .gp f n x v=>[.int .i64 f,.int .i64 n,rO x,v]
mutual
def VA (I:Imm) (w:World):Tr->Prop
 | .nd _ _ _ v ks=>Wg w 25 4 v ks.length/\IV I w (F0 v) 0 ks
 | .im cs c=>RepVL I cs c/\(∀y∈cs,y.oneCell'=true)/\c.length=4
 | .gp _ _ _ v=>v.oneCell'=true
def IV (I:Imm) (w:World) (b:Nat):Nat->List Tr->Prop
 | _,[]=>True
 | i,a::r=>(uQ w b (i*4) (cT a)/\VA I w a)/\IV I w b (i+1) r
end
mutual
def Yk:Tr->List Nat
 | .nd _ _ _ v ks=>Hs v ks.length++GM ks
 | .im _ _=>[]
 | .gp _ _ _ _=>[]
def GM:List Tr->List Nat
 | []=>[]
 | a::r=>Yk a++GM r
end
mutual
def Xc:Tr->Ty->Prop
 | .nd f n x _ ks,.mk f' n' x' ps=>f=f'/\n=n'/\x=x'/\IC ks ps
 | _,_=>False
def IC:List Tr->List Ty->Prop
 | [],[]=>True
 | a::r,t::q=>Xc a t/\IC r q
 | _,_=>False
end
theorem ML:∀{l:List Tr} {q:List Ty},IC l q->l.length=q.length
 | [],[],_=>rfl
 | _::_,_::_,h=>by simp only [IC] at h;simp [ML h.2]
 | [],_::_,h=>by simp [IC] at h
 | _::_,[],h=>by simp [IC] at h
theorem IB:∀{l:List Tr} {q:List Ty},IC l q↔l.length=q.length/\∀(i:Nat) a t,l[i]?=some a->q[i]?=some t->Xc a t
 | [],[]=>by simp [IC]
 | a::r,t::q=>by
  simp only [IC,IB (l:=r) (q:=q),Cq,Nat.add_right_cancel_iff];constructor
  ·rintro ⟨h1,h2,h3⟩;refine ⟨h2,λi a' t' ha ht=>?_⟩
   match i,ha,ht with
   | 0,ha,ht=>simp at ha ht;rw [<- ha,<- ht];exact h1
   | i+1,ha,ht=>exact h3 i a' t' (by simpa using ha) (by simpa using ht)
  ·rintro ⟨h2,h3⟩;exact ⟨h3 0 a t rfl rfl,h2,λi a' t' ha ht=>h3 (i+1) a' t' (by simpa using ha) (by simpa using ht)⟩
 | [],_::_=>by simp [IC]
 | _::_,[]=>by simp [IC]
theorem Fb {I:Imm} {w:World} {b:Nat}:∀{gs:List Tr} {i:Nat},IV I w b i gs↔∀(j:Nat) a,gs[j]?=some a->uQ w b ((i+j)*4) (cT a)/\VA I w a
 | [],i=>by simp [IV]
 | x::r,i=>by
  simp only [IV,Fb (gs:=r) (i:=i+1)];constructor
  ·rintro ⟨h1,h2⟩ j a ha
   match j,ha with
   | 0,ha=>simp at ha;rw [<- ha];exact h1
   | j+1,ha=>rw [show i+(j+1)=i+1+j by omega];exact h2 j a (by simpa using ha)
  ·intro h;exact ⟨h 0 x rfl,λj a ha=>by rw [show i+1+j=i+(j+1) by omega];exact h (j+1) a (by simpa using ha)⟩
theorem M7 {k:Nat}:∀{gs:List Tr},k∈GM gs↔∃a∈gs,k∈Yk a
 | []=>by simp [GM]
 | x::r=>by simp [GM,M7 (gs:=r)]
mutual
theorem Uq {I:Imm} {w w':World}:∀{a:Tr},(∀k∈Yk a,w'.heap[k]?=w.heap[k]?)->VA I w a->VA I w' a
 | .im _ _,_,h=>h
 | .gp _ _ _ _,_,h=>h
 | .nd f n x v ks,h,ha=>by
  simp only [VA] at ha ⊢;simp only [Yk,BU] at h;exact ⟨Wf (λk hk=>h k (.inl hk)) ha.1,Qf (λhne=>h (F0 v) (.inl (by cases ks with | nil=>exact absurd rfl hne | cons=>simp [Hs]))) (λk hk=>h k (.inr hk)) ha.2⟩
theorem Qf {I:Imm} {w w':World} {b:Nat}:∀{gs:List Tr} {i:Nat},(gs≠[]->w'.heap[b]?=w.heap[b]?)->(∀k∈GM gs,w'.heap[k]?=w.heap[k]?)->IV I w b i gs->IV I w' b i gs
 | [],_,_,_,_=>by simp [IV]
 | a::r,i,hb,h,ha=>by
  simp only [IV] at ha ⊢;simp only [GM,BU] at h;exact ⟨⟨uO (hb (by simp)) ha.1.1,Uq (λk hk=>h k (.inl hk)) ha.1.2⟩,Qf (λ_=>hb (by simp)) (λk hk=>h k (.inr hk)) ha.2⟩
end
mutual
theorem kI {I J:Imm} {w:World} (h:I.le J):∀{a:Tr},VA I w a->VA J w a
 | .nd f n x v ks,ha=>by
  simp only [VA] at ha ⊢;exact ⟨ha.1,N8 h ha.2⟩
 | .im cs c,ha=>⟨ha.1.mono h,ha.2⟩
 | .gp _ _ _ _,ha=>ha
theorem N8 {I J:Imm} {w:World} (h:I.le J) {b:Nat}:∀{gs:List Tr} {i:Nat},IV I w b i gs->IV J w b i gs
 | [],_,_=>by simp [IV]
 | a::r,i,ha=>by
  simp only [IV] at ha ⊢;exact ⟨⟨ha.1.1,kI h ha.1.2⟩,N8 h ha.2⟩
end
theorem pW {a:Tr} (h:VA I w a):(cT a).length=4:=by
 cases a with
 | nd f n x v ks=>rfl
 | im cs c=>simp only [VA] at h;exact h.1.1.trans h.2.2
 | gp f n x v=>rfl
theorem yM {a:Tr} (h:VA I w a):∀c∈cT a,c.oneCell'=true:=by
 cases a with
 | im cs c=>simp only [VA] at h;exact h.2.1
 | nd f n x v ks =>
  simp only [VA] at h;have h1:=We h.1;intro c hc;simp only [cT,CA,LJ,or_false] at hc;rcases hc with rfl | rfl | rfl | rfl <;> first | rfl | exact h1
 | gp f n x v =>
  intro c hc;simp only [cT,CA,LJ,or_false] at hc;rcases hc with rfl | rfl | rfl | rfl <;> first | rfl | exact h
def Fv (v:Value) (gs:List Tr):Asn where
 P:=λ_ I w bs=>Wg w 25 4 v gs.length/\IV I w (F0 v) 0 gs/\bs=Hs v gs.length++GM gs/\bs.Nodup
 mono:=λh ⟨h1,h2,h3⟩=>⟨h1,N8 h h2,h3⟩
 loc:=λ{vs I w w' bs} h ⟨h1,h2,h3,h4⟩=>⟨Wf (λk hk=>h k (by rw [h3];simp [hk])) h1,Qf (λhne=>h _ (by rw [h3];cases gs with | nil=>exact absurd rfl hne | cons=>simp [Hs])) (λk hk=>h k (by rw [h3];simp [hk])) h2,h3,h4⟩
def J7 (ps:List Ty):Asn where
 P:=λvs I w bs=>∃v ks,IC ks ps/\vs=[v]/\(Fv v ks).P [] I w bs
 mono:=λh ⟨v,ks,h1,h2,h3⟩=>⟨v,ks,h1,h2,(Fv v ks).mono h h3⟩
 loc:=λh ⟨v,ks,h1,h2,h3⟩=>⟨v,ks,h1,h2,(Fv v ks).loc h h3⟩
def Rh:List (List Value)->List (List V)->List Tr
 | cs::r,c::q=>.im cs c::Rh r q
 | _,_=>[]
def LZ (es:List (List V)):Asn where
 P:=λvs I w bs=>∃v css,css.length=es.length/\vs=[v]/\(Fv v (Rh css es)).P [] I w bs
 mono:=λh hx=>by
  obtain ⟨v,css,h1,h2,h3⟩:=hx;exact ⟨v,css,h1,h2,(Fv v (Rh css es)).mono h h3⟩
 loc:=λh hx=>by
  obtain ⟨v,css,h1,h2,h3⟩:=hx;exact ⟨v,css,h1,h2,(Fv v (Rh css es)).loc h h3⟩
theorem cX:∀{css:List (List Value)} {es:List (List V)} {i:Nat},css.length=es.length->(Rh css es)[i]?=match css[i]?,es[i]? with | some cs,some c=>some (.im cs c) | _,_=>none
 | [],[],i,_=>by simp [Rh]
 | cs::r,c::q,0,_=>rfl
 | cs::r,c::q,i+1,h=>by simpa [Rh] using cX (css:=r) (es:=q) (i:=i) (by simpa using h)
 | [],_::_,_,h=>by cases h
 | _::_,[],_,h=>by cases h
theorem Jl:∀{css:List (List Value)} {es:List (List V)},css.length=es.length->(Rh css es).length=es.length
 | [],[],_=>rfl
 | cs::r,c::q,h=>by simp [Rh,Jl (css:=r) (es:=q) (by simpa using h)]
 | [],_::_,h=>by cases h
 | _::_,[],h=>by cases h
theorem wH:∀{css:List (List Value)} {es:List (List V)},GM (Rh css es)=[]
 | [],_=>by simp [Rh,GM]
 | _::_,[]=>by simp [Rh,GM]
 | cs::r,c::q=>by simp [Rh,GM,Yk,wH (css:=r) (es:=q)]
theorem Ud {bs:List Nat} {es:List (List V)} (h0:es=[]->∃v,vs=[v]/\bs=[]/\(∃a c,v = .slice a 0 c)/\∀I,RepV I v (.sl [])) (h:es≠[]->∃b cap cur,vs=[.slice (some ⟨b,0,none⟩) es.length cap]/\bs=[b]/\w.heap[b]?=some (.cells cur 25 (0,0))/\es.length<=cap/\cap<=maxLen/\cur.size=cap*4 /\
   ∀(j:Nat) (e:List V),es[j]?=some e->∃cs:List Value,(∀(i:Nat) (c:Value),cs[i]?=some c->cur[j*4+i]?=some c)/\RepVL I cs e/\(∀c∈cs,c.oneCell'=true)/\e.length=4):(LZ es).P vs I w bs:=by
 by_cases hne:es=[]
 ·obtain ⟨v,rfl,rfl,h1,h2⟩:=h0 hne;subst hne;exact ⟨v,[],rfl,rfl,.inl ⟨rfl,h1,h2⟩,by simp [Rh,IV],by simp [Rh,Hs,GM],.nil⟩
 ·obtain ⟨b,cap,cur,rfl,rfl,h1,h2,h3,h4,h5⟩:=h hne;have key:∀(l:List (List V)) (o:Nat),(∀(j:Nat) (e:List V),l[j]?=some e->∃cs:List Value,(∀(i:Nat) (c:Value),cs[i]?=some c->cur[(o+j)*4+i]?=some c)/\RepVL I cs e/\(∀c∈cs,c.oneCell'=true)/\e.length=4) ->
    ∃css:List (List Value),css.length=l.length/\IV I w b o (Rh css l):=by
   intro l
   induction l with
   | nil=>exact λo _=>⟨[],rfl,by simp [Rh,IV]⟩
   | cons e r ih =>
    intro o hl;obtain ⟨cs,q1,q2,q3,q4⟩:=hl 0 e rfl;obtain ⟨css,e1,e2⟩:=ih (o+1) λj e' he'=>by
     have:=hl (j+1) e' (by simpa using he')
     rwa [show o+(j+1)=o+1+j by omega] at this
    refine ⟨cs::css,by simp [e1],?_⟩;simp only [Rh,IV];exact ⟨⟨⟨cur,_,_,h1,λi c hc=>by simpa using q1 i c hc⟩,q2,q3,q4⟩,e2⟩
  obtain ⟨css,e1,e2⟩:=key es 0 λj e he=>by rw [Dw];exact h5 j e he
  have hpos:0<es.length:=by cases es with | nil=>exact absurd rfl hne | cons=>simp
  refine ⟨_,css,e1,rfl,.inr ⟨by rw [Jl e1];exact hpos,b,cap,cur,by rw [Jl e1],h1,by rw [Jl e1];exact h2,h3,h4⟩,e2,?_,by simp⟩;rw [Jl e1,wH];cases hl:es.length with
  | zero=>omega
  | succ n=>simp [Hs,F0]
theorem bU {bs:List Nat} {gs:List Tr} (h:(Fv v gs).P vs I w bs) {a:Tr} (ha:gs[i]?=some a):∃cur ty k,w.heap[F0 v]?=some (.cells cur ty k)/\(∀(j:Nat) (c:Value),(cT a)[j]?=some c->cur[i*4+j]?=some c)/\VA I w a:=by
 obtain ⟨h1,h2⟩:=Fb.1 h.2.1 i a ha;obtain ⟨cur,ty,k,q1,q2⟩:=h1;rw [Dw] at q2;exact ⟨cur,ty,k,q1,q2,h2⟩
theorem Y5 {bs:List Nat} {gs:List Tr} (h:(Fv v gs).P vs I w bs) {cs:List Value} {c:List V} (ha:gs[i]?=some (.im cs c)):PV I w (F0 v) (i*4) (c.map .imm):=by
 obtain ⟨cur,ty,k,q1,q2,h3,h4,h5⟩:=bU h ha;refine ⟨cur,ty,k,q1,λj d hd=>?_⟩;rw [Et] at hd;cases hx:c[j]? with
 | none=>rw [hx] at hd;cases hd
 | some x =>
  rw [hx] at hd;cases hd;have hlt:j<cs.length:=by rw [h3.1];exact (AO.1 hx).1
  have hc:=Bw hlt;exact ⟨_,q2 j _ hc,h4 _ (AK hc),.imm _ _ (h3.2 j _ x hc hx)⟩
theorem Y6 {bs:List Nat} {gs:List Tr} (h:(Fv v gs).P vs I w bs) {n:Int} (ha:gs[i]?=some (.gp f n x u)):PV I w (F0 v) (i*4) [.imm (.int .i64 f),.imm (.int .i64 n),.imm (.str x),.raw u]:=by
 obtain ⟨cur,ty,k,q1,q2,h3⟩:=bU h ha;refine ⟨cur,ty,k,q1,λj d hd=>?_⟩
 match j,hd with
 | 0,hd=>cases hd;exact ⟨_,q2 0 _ rfl,rfl,.imm _ _ (.int _ _)⟩
 | 1,hd=>cases hd;exact ⟨_,q2 1 _ rfl,rfl,.imm _ _ (.int _ _)⟩
 | 2,hd=>cases hd;exact ⟨_,q2 2 _ rfl,rfl,.imm _ _ (.encStr _ _)⟩
 | 3,hd=>cases hd;exact ⟨_,q2 3 _ rfl,h3,.raw _ h3⟩
 | j+4,hd=>simp at hd
theorem Mt {bs:List Nat} {gs:List Tr} (h:(Fv v gs).P vs I w bs):∃a cap,v = .slice a gs.length cap/\(0<gs.length->∃b,a=some ⟨b,0,none⟩):=by
 rcases h.1 with ⟨h0,⟨a,c,rfl⟩,_⟩ | ⟨h0,b,cap,cur,rfl,_⟩
 ·exact ⟨a,c,by rw [h0],λh=>by omega⟩
 ·exact ⟨_,cap,rfl,λ_=>⟨b,rfl⟩⟩
theorem Qg {a:Tr}:∀{gs:List Tr} {i:Nat} {g:Tr},gs[i]?=some g->Yk g=[]->∃l r,GM gs=l++r/\GM (gs.set i a)=l++(Yk a++r)
 | x::q,0,g,h,h0=>by
  simp at h;subst h;exact ⟨[],GM q,by simp [GM,h0],by simp [GM]⟩
 | x::q,i+1,g,h,h0=>by
  obtain ⟨l,r,e1,e2⟩:=Qg (a:=a) (gs:=q) (i:=i) (by simpa using h) h0;exact ⟨Yk x++l,r,by simp [GM,e1],by simp [GM,e2]⟩
theorem Y3 {b1 b2:List Nat} {gs:List Tr} (h:(Fv v gs).P vs I w b1) {g a:Tr} (hg:gs[i]?=some g) (h0:Yk g=[]) (ha:VA I w a) (hb:b2=Yk a) (hd2:b2.Nodup) (hdis:∀b∈b1,b∉b2) :
  F0 v∈b1/\∃cur,w.heap[F0 v]?=some (.cells cur 25 (0,0))/\i*4+4<=cur.size /\
   ∃bs,(∀b∈bs,b∈b1\/b∈b2)/\(Fv v (gs.set i a)).P [] I (w.setRow (F0 v) (cur.toList.take (i*4)++cT a++cur.toList.drop (i*4+4)).toArray) bs:=by
 obtain ⟨h1,h2,h3,h4⟩:=h;have hlt:i<gs.length:=(AO.1 hg).1;rcases h1 with ⟨q0,_⟩ | ⟨q0,b,cap,cur,rfl,hheap,hcap,hcm,hcs⟩
 ·omega
 have hbl:F0 (.slice (some ⟨b,0,none⟩) gs.length cap)=b:=rfl;rw [hbl] at h2 ⊢;have hrb:Hs (.slice (some ⟨b,0,none⟩) gs.length cap) gs.length=[b]:=by
  cases hl:gs.length with
  | zero=>omega
  | succ n=>simp [Hs,F0]
 rw [hrb] at h3;have hbs:b∈b1:=by rw [h3];simp
 have hfit:i*4+4<=cur.size:=by rw [hcs];omega
 refine ⟨hbs,cur,hheap,hfit,?_⟩;have hcl:=pW ha;have hf:i*4+(cT a).length<=cur.size:=by rw [hcl];exact hfit
 have hnb:b∉GM gs:=by
  rw [h3] at h4;intro hk;exact (Hu.1 h4).2.2 b (by simp) b hk rfl
 have hnb2:b∉Yk a:=λhk=>hdis b hbs (by rw [hb];exact hk);obtain ⟨l,r,e1,e2⟩:=Qg (a:=a) hg h0;refine ⟨[b]++GM (gs.set i a),λk hk=>?_,?_,?_,?_,?_⟩
 ·rw [e2] at hk;rw [h3,e1,hb];simp only [BU] at hk ⊢;grind
 ·rw [zbn];refine .inr ⟨q0,b,cap,(cur.toList.take (i*4)++cT a++cur.toList.drop (i*4+4)).toArray,rfl,?_,hcap,hcm,?_⟩
  ·have:=ND (off:=i*4) (cs:=cT a) hheap
   rwa [hcl] at this
  ·rw [<- hcs];have hl2:cur.toList.length=cur.size:=WI;show (cur.toList.take (i*4)++cT a++cur.toList.drop (i*4+4)).length=cur.size;rw [AZ,AZ,FA,J2];omega
 ·have e4:i*4+4=i*4+(cT a).length:=by rw [hcl]
  rw [e4,hbl,Fb];intro j y hy;rw [Dw];by_cases e:i=j
  ·subst e;rw [Ln (by omega)] at hy;cases hy;exact ⟨uP hheap hf,Uq (λk hk=>setRow_other w b k _ (λe=>hnb2 (e ▸ hk))) ha⟩
  ·rw [Lm e] at hy;obtain ⟨p1,p2⟩:=Fb.1 h2 j y hy;rw [Dw] at p1;refine ⟨qA hheap hf p1 ?_,Uq (λk hk=>setRow_other w b k _ (λe=>hnb (e ▸ M7.2 ⟨y,AK hy,hk⟩))) p2⟩;have:=pW p2;rcases Nat.lt_or_gt_of_ne e with hc | hc
   ·right;omega
   ·left;omega
 ·rw [zbn,hrb]
 ·rw [e2];rw [h3,e1] at h4;have hd:∀k∈[b]++(l++r),k∉Yk a:=λk hk=>by rw [<- hb];exact hdis k (by rw [h3,e1];exact hk)
  rw [hb] at hd2;simp only [D0,G5,Lj,BU,Hu,not_or] at h4 hd ⊢;grind
theorem Y4 {bs:List Nat} {gs:List Tr} (h:(Fv v gs).P vs I w bs) {n:Int} {ks:List Tr} (hg:gs[i]?=some (.nd f n x u ks)) :
  ∃b1 b2,(∀b∈b1,b∈bs)/\(∀b∈b2,b∈bs)/\(∀b∈b1,b∉b2)/\(Fv v (gs.set i (.gp f n x u))).P [] I w b1/\(Fv u ks).P [] I w b2:=by
 obtain ⟨h1,h2,h3,h4⟩:=h;have hlt:i<gs.length:=(AO.1 hg).1;have hset:(gs.set i (.gp f n x u)).set i (.nd f n x u ks)=gs:=by
  rw [List.set_set];apply mZ;intro j;by_cases e:i=j
  ·subst e;rw [Ln hlt,hg]
  ·rw [Lm e]
 obtain ⟨l,r,e1,e2⟩:=Qg (a:=.nd f n x u ks) (gs:=gs.set i (.gp f n x u)) (i:=i) (Ln hlt) rfl;rw [hset] at e2;obtain ⟨p1,p2⟩:=Fb.1 h2 i _ hg;simp only [VA] at p2;have hB:Yk (.nd f n x u ks)=Hs u ks.length++GM ks:=rfl;rw [h3,e2,hB] at h4;refine ⟨Hs v gs.length++(l++r),Hs u ks.length++GM ks,λb hb=>?_,λb hb=>?_,λb hb hb2=>?_,⟨by rw [zbn];exact h1,?_,by rw [zbn,e1],?_⟩,p2.1,p2.2,rfl,?_⟩
 ·rw [h3,e2,hB];simp only [BU] at hb ⊢;grind
 ·rw [h3,e2,hB];simp only [BU] at hb ⊢;grind
 ·simp only [Hu,BU] at h4 hb hb2;grind
 ·rw [Fb];intro j y hy;by_cases e:i=j
  ·subst e;rw [Ln hlt] at hy;cases hy;exact ⟨p1,We p2.1⟩
  ·rw [Lm e] at hy;exact Fb.1 h2 j y hy
 ·simp only [Hu,BU] at h4 ⊢;grind
 ·simp only [Hu,BU] at h4 ⊢;grind
theorem Wh {gs:List Tr} (hr:Wg w 25 4 v gs.length) (hw:IV I w (F0 v) 0 gs) (hJ:∀k∈Hs v gs.length,J k=w.heap[k]?) (hp:IC gs ps) (ih:∀(i:Nat) a t,gs[i]?=some a->ps[i]?=some t->RepVL J (cT a) (Al t)):RepV J v (.sl (A0 ps)):=by
 have hlen:=ML hp;rcases hr with ⟨h0,_,h1⟩ | ⟨h0,b,cap,cur,rfl,h1,h2,h3,h4⟩
 ·have:ps=[]:=Ll (by omega);subst this;exact h1 J
 ·have hJb:J b=some (.cells cur 25 (0,0)):=by
   rw [hJ b (by cases gs with | nil=>simp at h0 | cons=>simp [Hs,F0]),h1]
  have hb:F0 (.slice (some ⟨b,0,none⟩) gs.length cap)=b:=rfl;rw [hb] at hw;have hget:∀(i:Nat) (e:List V) (j:Nat) (x:V),(A0 ps)[i]?=some e->e[j]?=some x->∃c,cur[i*4+j]?=some c/\c.oneCell'=true/\RepV J c x:=by
   intro i e j x hi hj;rw [CU,Et] at hi;cases ht:ps[i]? with
   | none=>rw [ht] at hi;cases hi
   | some t =>
    rw [ht] at hi;cases hi;obtain ⟨a,ha⟩:=Am (l:=gs) (i:=i) (by rw [hlen];exact (AO.1 ht).1);obtain ⟨g2,g3⟩:=Fb.1 hw i a ha;have hrep:=ih i a t ha ht;have hlt:j<(cT a).length:=by rw [hrep.1];exact (AO.1 hj).1
    have hc:=Bw hlt;obtain ⟨cur',ty,k,q1,q2⟩:=g2;rw [h1] at q1;cases q1;refine ⟨_,?_,yM g3 _ (AK hc),hrep.2 j _ x hc hj⟩;have:=q2 j _ hc
    rwa [Dw] at this
  refine .sl b 0 gs.length cap 4 (A0 ps) (λi j=>(cur[i*4+j]?).getD undef) (by simpa using hlen) h2 h3 (λe he=>?_) (λi e j x hi hj=>?_) (λi e j x hi hj=>?_)
  ·rw [CU] at he;obtain ⟨t,_,rfl⟩:=Cc.1 he;simp
  ·obtain ⟨c,k3,k4,k5⟩:=hget i e j x hi hj;simp [Imm.cell,hJb,k3,k4]
  ·obtain ⟨c,k3,k4,k5⟩:=hget i e j x hi hj;simpa [k3] using k5
theorem cR {w:World} {I J:Imm}:∀{t:Ty} {a:Tr},Xc a t->VA I w a->(∀k∈Yk a,J k=w.heap[k]?)->RepVL J (cT a) (Al t)
 | .mk f n x ps,.nd f' n' x' v ks,h,hw,hJ=>by
  simp only [Xc] at h;obtain ⟨rfl,rfl,rfl,h⟩:=h;simp only [VA] at hw;simp only [Yk,BU] at hJ;have hv:RepV J v (.sl (A0 ps)):=Wh hw.1 hw.2 (λk hk=>hJ k (.inl hk)) h λi a t ha ht =>
   cR ((IB.1 h).2 i a t ha ht) (Fb.1 hw.2 i a ha).2 λk hk=>hJ k (.inr (M7.2 ⟨a,AK ha,hk⟩))
  refine ⟨rfl,λi c y h1 h2=>?_⟩;simp only [cT] at h1
  match i with
  | 0=>cases h1;cases h2;exact .int _ _
  | 1=>cases h1;cases h2;exact .int _ _
  | 2=>cases h1;cases h2;exact .encStr _ _
  | 3=>cases h1;cases h2;exact hv
  | i+4=>simp at h1
 | .mk _ _ _ _,.im _ _,h,_,_=>by simp [Xc] at h
 | .mk _ _ _ _,.gp _ _ _ _,h,_,_=>by simp [Xc] at h
termination_by t=>SizeOf.sizeOf t
decreasing_by
 have:=Ct (AK ht);simp_wf;omega
theorem RJ {bs:List Nat} (h:(yU (.sl [])).P vs I w bs):(LZ []).P vs I w bs:=by
 obtain ⟨rfl,v,rfl,h1,h2⟩:=h;refine Ud (λ_=>⟨v,rfl,rfl,?_,?_⟩) (λh=>absurd rfl h)
 ·obtain ⟨ad,len,cap,rfl,_,rfl⟩:=Mo h1;exact ⟨_,_,rfl⟩
 ·intro J;cases h1 with
  | slnil=>exact .slnil
  | sl0 a=>exact .sl0 a
  | sl b o len cap sz es vs hl hc hm _ _ _=>exact .sl b o len cap sz [] vs hl hc hm (λe he=>by cases he) (λi e j x hi=>by simp at hi) (λi e j x hi=>by simp at hi)
theorem aQ {bs:List Nat} {es:List (List V)} (hne:es≠[]) (h:(yP 25 4 es).P vs I w bs):(LZ es).P vs I w bs:=by
 obtain ⟨v,rfl,⟨_,h0,_⟩ | ⟨b,cap,cur,rfl,rfl,h1,h2,h3,h4,h5,h6,h7,h8⟩⟩:=h
 ·exact absurd h0 hne
 refine Ud (λh=>absurd h hne) (λ_=>⟨b,cap,cur,rfl,rfl,h1,h2,h3,h4,λj e hj=>?_⟩);have he:=h6 e (AK hj);have hlt:=(AO.1 hj).1;have hget:∀i,i<4->∃c x,cur.toList[j*4+i]?=some c/\e[i]?=some x/\RepV I c x/\c.oneCell'=true:=by
  intro i hi;obtain ⟨x,hx⟩:∃x,e[i]?=some x:=⟨_,Bw (by omega)⟩
  have hf:=C4 h6 j e i x hj hx;obtain ⟨c,hc⟩:∃c,cur.toList[j*4+i]?=some c:=⟨_,Bw (by simp;omega)⟩
  have hr:=h5.2 (j*4+i) c x (by rw [Dl,if_pos (by omega)];exact hc) hf;exact ⟨c,x,hc,hx,hr,hr.one (h7 e (AK hj) x (AK hx))⟩
 refine ⟨(cur.toList.drop (j*4)).take 4,λi c hc=>?_,⟨?_,λi c x hc hx=>?_⟩,λc hc=>?_,he⟩
 ·rw [Dl] at hc
  split at hc
  ·rw [ES] at hc;simpa using hc
  ·cases hc
 ·rw [FA,J2,he];simp;omega
 ·rw [Dl] at hc
  split at hc
  ·rename_i hi;rw [ES] at hc;obtain ⟨c',x',k1,k2,k3,_⟩:=hget i hi;rw [k1] at hc;cases hc;rw [k2] at hx;cases hx;exact k3
  ·cases hc
 ·obtain ⟨i,hi⟩:=I4 hc;rw [Dl] at hi
  split at hi
  ·rename_i hl;rw [ES] at hi;obtain ⟨c',x',k1,_,_,k4⟩:=hget i hl;rw [k1] at hi;cases hi;exact k4
  ·cases hi
theorem ZX (es:List (List V)) (hs:∀c∈es,c.length=4) (hlen:es.length<=1000000) :
  Tq4 138 [.imm (.sl es)] [] (.ret (.hv 1 0) [(1,some (.hp (LZ es)))]):=by
 cases es with
 | nil =>
  refine AQ Ah func138 rfl [1]<|Ai rfl<|KM Ah rfl λb hb=>?_;cases b with
  | true =>
   exact yd [.a] rfl (by simp)<|Pc (x:=.sl []) 2 1 rfl rfl rfl<|Js 1 (λ_:Unit=>LZ []) rfl (λvs I w bs h=>⟨(),RJ h⟩) λ_=>Ag ⟨_,AH⟩
  | false =>
   exact yd [.a] rfl (by simp)<|TJ Ah rfl<|Ai rfl<|Pc (x:=.sl []) 2 1 rfl rfl rfl<|Js 1 (λ_:Unit=>LZ []) rfl (λvs I w bs h=>⟨(),RJ h⟩) λ_=>Ag ⟨_,AH⟩
 | cons e r =>
  refine AQ Ah func138 rfl [2,1]<|Ai rfl<|KM Ah rfl λb hb=>?_;have hb:b=false:=hb (by simp);subst hb;exact yd [.a] rfl (by simp)<|Bn Ah rfl ⟨hs,by simp only [maxLen,B5] at *;omega,by simp only [B5] at *;omega,λc hc=>by simp at hc,by simp⟩<|Ai rfl<|XF 2 2 1 rfl rfl<|Js 1 (λ_:Unit=>LZ (e::r)) rfl (λvs I w bs h=>⟨(),aQ (by simp) h⟩) λ_=>Ag ⟨_,AH⟩
def yQ (v:Value) (gs:List Tr) (i:Nat) (f n:Int) (x:Str) (ps:List Ty):Asn where
 P:=λ_ I w bs=>∃u ks,IC ks ps/\(Fv v (gs.set i (.nd f n x u ks))).P [] I w bs
 mono:=λh ⟨u,ks,h1,h3⟩=>⟨u,ks,h1,(Fv v (gs.set i (.nd f n x u ks))).mono h h3⟩
 loc:=λh ⟨u,ks,h1,h3⟩=>⟨u,ks,h1,(Fv v (gs.set i (.nd f n x u ks))).loc h h3⟩
theorem Q0 {gs:List Tr} {g:Tr} {n:Int} (hg:gs[i]?=some g) (h0:Yk g=[]):Nt (Fv v gs) (J7 ps) (yQ v gs i f n x ps) j (F0 v) (i*4) [.imm (.int .i64 f),.imm (.int .i64 n),.imm (.str x),.hv j 0]:=by
 intro us vs I w b1 b2 h1 ⟨u,ks,k1,k2,k3⟩ hdis;subst k2;obtain ⟨q1,cur,q2,q3,bs,q4,q5⟩:=Y3 (a:=.nd f n x u ks) h1 hg h0 ⟨k3.1,k3.2.1⟩ k3.2.2.1 k3.2.2.2 hdis;refine ⟨q1,cur,_,q2,q3,λcs hl hcs hone=>?_⟩;have e:cs=cT (.nd f n x u ks):=by
  match cs,hl with
  | [c0,c1,c2,c3],_ =>
   have e0:=(show RepD I noMu _ (.imm _) from hcs 0 _ _ rfl rfl).immInv.intInv;have e1:=(show RepD I noMu _ (.imm _) from hcs 1 _ _ rfl rfl).immInv.intInv;have e2:=(show RepD I noMu _ (.imm _) from hcs 2 _ _ rfl rfl).immInv.strEq;have e3:j=j/\[u][0]?=some c3:=hcs 3 _ _ rfl rfl;have e3:=e3.2;simp at e3;rw [e0,e1,e2,e3];rfl
 rw [e];exact ⟨bs,q4,u,ks,k1,q5⟩
theorem Rb:∀t:Ty,C9 t=true->Tq4 82 [.imm (.agg (Al t))] [] (.ret (.agg [.imm (.int .i64 (BQ t)),.imm (.int .i64 (num t)),.imm (.str (Lf t)),.hv 1 0]) [(1,some (.hp (J7 (Ff t))))])
 | .mk f n x ps,hw=>by
  have hl3:=Ie hw;simp only [Ff] at hl3;have IH:∀t∈ps,Tq4 82 [.imm (.agg (Al t))] [] (.ret (.agg [.imm (.int .i64 (BQ t)),.imm (.int .i64 (num t)),.imm (.str (Lf t)),.hv 1 0]) [(1,some (.hp (J7 (Ff t))))]):=λt ht=>Rb t (EU hw t (by simpa [Ff] using ht));refine AQ Ah func82 rfl [2,3,4,5,1,6,7,8]<|Ai rfl<|Jf [4] [] [(1,4)] rfl (ZX (A0 ps) (λc hc=>by rw [CU] at hc;obtain ⟨p,_,rfl⟩:=Cc.1 hc;simp) (by simp;omega)) trivial rfl rfl<|yg [] rfl (by simp <;> rfl)<|R4 (ids':=[1,6,7,8]) 4 5 (λx:(Option Addr×Nat)×{ css:List (List Value) // css.length=(A0 ps).length }=>[.slice x.1.1 ps.length x.1.2]) (λx=>Fv (.slice x.1.1 ps.length x.1.2) (Rh x.2.1 (A0 ps))) rfl (λvs I w bs h=>?_) λy=>?_
  ·obtain ⟨v,css,h1,h2,h3⟩:=h;have hlen:(Rh css (A0 ps)).length=ps.length:=by rw [Jl h1];simp
   obtain ⟨a,cap,e1,_⟩:=Mt h3;rw [hlen] at e1;subst e1;exact ⟨((a,cap),⟨css,h1⟩),h2,h3⟩
  obtain ⟨⟨ad,cap⟩,⟨css,hcss⟩⟩:=y;have hlen0:(Rh css (A0 ps)).length=ps.length:=by rw [Jl hcss];simp
  have him0:∀(j:Nat) (p:Ty),ps[j]?=some p->∃cs,(Rh css (A0 ps))[j]?=some (.im cs (Al p)):=λj p hp=>by
   have hlt:=(AO.1 hp).1;have hc:=Bw (l:=css) (i:=j) (by rw [hcss];simpa using hlt);exact ⟨_,by rw [cX hcss,hc,AA hp]⟩
  refine Av rfl<|Ak (λy:Nat×List Tr=>[(12,.imm (.int .i64 y.1)),(11,.imm (.int .i64 ps.length)),(10,.raw (.slice ad ps.length cap)),(1,.ref 2 0),(2,.ref 3 0)])
   (λy=>[(2,some (.cells 25 4 [.imm (.int .i64 f),.imm (.int .i64 n),.imm (.str x),.raw (.slice ad ps.length cap)])),(3,some (.cells 25 4 [.imm (.int .i64 0),.imm (.int .i64 0),.imm (.str []),.nils])),
    (5,some (.hp (Fv (.slice ad ps.length cap) y.2)))]) [1,6,7,8] (λy=>ps.length-y.1) (λy=>y.1<=ps.length/\y.2.length=ps.length/\(∀(j:Nat) a p,j<y.1->y.2[j]?=some a->ps[j]?=some p->Xc a p)/\(∀(j:Nat) p,y.1<=j->ps[j]?=some p->∃cs,y.2[j]?=some (.im cs (Al p)))) (0,Rh css (A0 ps))
   ⟨AF _,hlen0,λj a p h=>by omega,λj p _ hp=>him0 j p hp⟩ BA AH rfl λy hi ih=>?_
  clear hlen0 him0;obtain ⟨i,gs⟩:=y;obtain ⟨hi1,hi2,hi3,hi4⟩:=hi;simp only at hi1 hi2 hi3 hi4;refine Av rfl<|Aa rfl (λh=>?_) (λh=>?_)
  ·simp at h;obtain ⟨k,hk⟩:=Am h;obtain ⟨cs,hgi⟩:=hi4 i k (BL _) hk;refine Js 5 (λ_:{ b:Nat // ad=some ⟨b,0,none⟩ }=>Fv (.slice ad ps.length cap) gs) rfl (λvs I w bs h'=>?_) λz=>?_
   ·obtain ⟨a,cap',e1,e2⟩:=Mt h';simp only [Value.slice.injEq] at e1;obtain ⟨b,hb⟩:=e2 (by rw [hi2];omega);exact ⟨⟨b,by rw [e1.1,hb]⟩,h'⟩
   obtain ⟨b,rfl⟩:=z;have hC:=IH k (AK hk);obtain ⟨kf,kn,kx,kp⟩:=k;refine Av rfl<|MU Ah rfl rfl (λ_=>⟨by simp,by simp;omega⟩) (by simp)<|Ai rfl<|dD Ah 5 ((Al (.mk kf kn kx kp)).map .imm) rfl rfl (λ_ vs I w bs h'=>by have:=Y5 h' hgi;simpa [F0] using this) rfl rfl (by simp)<|Ai rfl<|A4 (fr:=[6]) [] [(1,6)] [] (nm:=[6]) rfl trivial (by simp) hC trivial rfl trivial rfl rfl rfl<|Ai rfl<|MU Ah rfl rfl (λ_=>⟨by simp,by simp;omega⟩) (by simp)<|Ai rfl<|TI Ah 5 6 7 (yQ (.slice (some ⟨b,0,none⟩) ps.length cap) gs i kf kn kx kp) rfl rfl rfl (by decide) (by
    have e:0+((i:Int)).toNat*4=i*4:=by simp
    show Nt _ _ _ 6 b (0+((i:Int)).toNat*4) _;rw [e];exact Q0 hgi rfl) ?_
   refine yg [] rfl (by simp <;> rfl)<|Js 7 (λa:{ a:Tr // Xc a (.mk kf kn kx kp) }=>Fv (.slice (some ⟨b,0,none⟩) ps.length cap) (gs.set i a.1)) rfl (λvs I w bs h'=>?_) λz=>?_
   ·obtain ⟨u,ks,h1,h2⟩:=h';exact ⟨⟨.nd kf kn kx u ks,by simpa [Xc] using h1⟩,h2⟩
   obtain ⟨a,ha⟩:=z;refine Bo 5 7 rfl<|Ae (ih (i+1,gs.set i a) (by simp only;omega) ⟨by simp only;omega,by simpa using hi2,λj a' p hj ha' hp=>?_,λj p hj hp=>?_⟩) ⟨A8 (BW (by simp only;omega) (by simp only;omega)),BJ⟩ AH rfl
   ·simp only at hj ha';by_cases e:i=j
    ·subst e;rw [Ln (by omega)] at ha';cases ha';rw [hk] at hp;cases hp;exact ha
    ·rw [Lm e] at ha';exact hi3 j a' p (by omega) ha' hp
   ·simp only at hj ⊢;rw [Lm (by omega)];exact hi4 j p (by omega) hp
  ·simp at h;have hl:i=ps.length:=by omega
   have his:IC gs ps:=IB.2 ⟨hi2,λj a p ha hp=>hi3 j a p (by have:=(AO.1 hp).1;omega) ha hp⟩;exact At rfl<|Av rfl<|Om 5 3 1 [.slice ad ps.length cap] (A:=J7 ps) [.imm (.int .i64 f),.imm (.int .i64 n),.imm (.str x),.hv 1 0] rfl rfl (λus I w bs h=>⟨_,gs,his,rfl,h⟩) ⟨.inl rfl,.inl rfl,.inl rfl,.inr ⟨0,_,rfl,rfl,rfl⟩,trivial⟩<|Ag ⟨_,AH⟩
termination_by t=>SizeOf.sizeOf t
decreasing_by
 all_goals
  have:=Ct ht;simp_wf;omega
section
variable {k:List DI}
end
structure PMr where
 id:Nat
 kv:List (V×V)
 b:Nat
 es:Array MapEntry
 clock:Nat
 id':Nat
 ids':List Nat
 dst:Option Nat
 todo:List DI
def bY (tt:TT) (n:Nat) (env:Env) (st:St) (ids:List Nat) (todo:List DI):Option PMr :=
 match NN todo,ids with
 | some o,id'::ids'=>match o.guard,o.op with
  | none,.range t x=>match lk tt t,DN env x with
   | some { sh:=.map _ _,.. },some (.mapr i)=>match lk st i,BK n o.dst,Bt todo ([i],[id']) with
    | some (some (.mapx kv b es clock)),true,some (_,_,todo')=>some ⟨i,kv,b,es,clock,id',ids',o.dst,todo'⟩
    | _,_,_=>none
   | _,_=>none
  | _,_=>none
 | _,_=>none
structure PMn where
 i:Nat
 kv:List (V×V)
 b:Nat
 b2:Nat
 es:Array MapEntry
 clock:Nat
 since:Nat
 seen:Array Nat
 c:Nat
 dst:Option Nat
 k:List DI
 all:List Oper
 rest:List Oper
def lL (n:Nat) (env:Env) (st:St) (m:Nat) (todo:List DI):Option PMn :=
 match todo with
 | .ops all (o::rest)::k=>match o.guard,o.op with
  | none,.next x false=>match DN env x,BK n o.dst,lk st m with
   | some (.iter i),true,some (some (.mapx kv b es clock))=>match lk st i with
    | some (some (.miter b' since seen c))=>some ⟨i,kv,b,b',es,clock,since,seen,c,o.dst,k,all,rest⟩
    | _=>none
   | _,_,_=>none
  | _,_=>none
 | _=>none
structure PMe where
 i:Nat
 kv:List (V×V)
 b:Nat
 b2:Nat
 es:Array MapEntry
 clock:Nat
 seen:Array Nat
 c:Nat
 dst:Option Nat
 todo:List DI
def bZ (n:Nat) (env:Env) (st:St) (m:Nat) (todo:List DI):Option PMe :=
 match NN todo with
 | some o=>match o.guard,o.op with
  | none,.entry x=>match DN env x,BK n o.dst,lk st m with
   | some (.iter i),true,some (some (.mapx kv b es clock))=>match lk st i,Bt todo ([i,m],[]) with
    | some (some (.miter b' _ seen c)),some (_,_,todo')=>some ⟨i,kv,b,b',es,clock,seen,c,o.dst,todo'⟩
    | _,_=>none
   | _,_,_=>none
  | _,_=>none
 | none=>none
section
variable {k:List DI}
theorem uH {all rest:List Oper} (d:α->D) (wr:α->St) (hg:o.guard=none) (hnd:∀c,o.op ≠ .defer c) (hn:BK n o.dst=true) (hl:∀I μ a w,StRep I μ st ids w->DG I μ env a o.op->valX P ((execOp a.eval o).run P w) (λv w'=>∃x,∃I' μ',StRep I' μ' (wr x++st) ids w'/\RepD I' μ' v (d x)/\μ.le μ'/\Ext I μ st w I' μ' (wr x++st) w') (KZ (KY Q) I μ st w)) (h:∀x,DGo P n F Q (.ops all rest::k) (BN o.dst (d x) env) (wr x++st) ids):DGo P n F Q (.ops all (o::rest)::k) env st ids:=by
 have hn:∀t,o.dst=some t->t<n:=λt ht=>by
  unfold BK at hn;rw [ht] at hn;simpa [HQ] using hn
 intro b cs I μ a w items hd hc;obtain ⟨j,is,rfl,hr,hk⟩:=HY hd;obtain ⟨hj,hr'⟩:=DM hr;have hon:J6 (o.looksAt all.toArray) I μ env a:=λt _ d hl=>hc.env t d hl;have hlen:(o::rest).length=rest.length+1:=rfl;rw [hlen,OM];have hw:Region.wanted o (yielded all.toArray a.tmps)=true:=AL hg;refine F8 hj hw hnd (valX.upon ((hl I μ a w hc.toStRep (Bm hon)).mono ?_ ?_))
 ·rintro v w2 ⟨x,I',μ',q1,q2,q4,q3⟩;obtain ⟨p1,p2,p3⟩:=HI (n:=n) (w:=w2) (dst:=o.dst) (λt d hl=>(hc.env t d hl).mono q3.imm q4) hc.size hn q2;have:=h x b cs I' μ' (a.put o.dst v) w2 (.inRegion all.toArray (List.range' (j+1) rest.length)::is) ⟨⟨rfl,j+1,hr',rfl⟩,hk⟩
   {q1 with size:=p2,env:=by cases hdst:o.dst <;> simpa [BN,hdst] using p1,defers:=by rw [p3];exact hc.defers.ext q3 }
  rw [p3] at this;exact this.mono λe a' w'' hp=>hp.back (.of_le q4) q3
 ·rintro chain w2 ⟨v,x,I2,q1,q2,q3,q4,q5⟩;refine ⟨.panic x,[],[],[],I2,μ,⟨v,q1,q3⟩,q2,?_,.refl _ _,q5,.refl _ _⟩;exact Ku q4 hc.size (hc.defers.ext q5)
theorem StRep.retellAt {st1:St} (hst:StRep I μ st ids w) (h:∀i b,Az st1 i b->∃b0,Az st i b0/\∀g,μ i=some g->BlkRep I μ w g b0->BlkRep I μ w g b):StRep I μ st1 ids w/\Ext I μ st w I μ st1 w:=by
 refine ⟨{ imm:=hst.imm,blk:=λi b hl=>?_,apart:=λi b g k hl hg hk=>?_,inj:=λi j bi bj gi gj k hi hj=>?_,nodup:=hst.nodup,idsFree:=hst.idsFree },?_⟩
 ·obtain ⟨b0,h1,h2⟩:=h i b hl;obtain ⟨g,hg,hr⟩:=hst.blk i b0 h1;exact ⟨g,hg,h2 g hg hr⟩
 ·obtain ⟨b0,h1,_⟩:=h i b hl;exact hst.apart i b0 g k h1 hg hk
 ·obtain ⟨b0,h1,_⟩:=h i bi hi;obtain ⟨b1,h2,_⟩:=h j bj hj;exact hst.inj i j b0 b1 gi gj k h1 h2
 ·exact { imm:=Imm.le_refl I,os:=rfl,tape:=rfl,output:=rfl,size:=BL _,block:=λ_ _ _=>rfl,old:=λ_ _ _=>rfl
          fresh:=λb _ ⟨i,bi,g,h1,h2⟩=>let ⟨b0,q,_⟩:=h i bi h1;⟨i,b0,g,q,h2⟩ }
theorem IL (id:Nat) {kv:List (V×V)} (hl:lk st id=some (some (.map kv)))
  (h:∀b es clock,es.size=kv.length->MapKept.Stamped es clock->DGo P n F Q todo env ((id,some (.mapx kv b es clock))::st) ids):DGo P n F Q todo env st ids:=by
 refine EJ λI μ a w hc=>?_;obtain ⟨g,hg,b,es,clock,rfl,h2,h3,h4,h5⟩:=hc.blk id _ hl;obtain ⟨q1,q2⟩:=hc.toStRep.retellAt (st1:=(id,some (.mapx kv b es clock))::st) λi c hlc=>by
  rcases AB.1 hlc with ⟨rfl,rfl⟩ | ⟨_,h⟩
  ·exact ⟨_,hl,λg' hg' _=>by rw [hg] at hg';cases hg';exact ⟨rfl,h2,h3,h4,h5⟩⟩
  ·exact ⟨c,h,λ_ _ h=>h⟩
 exact ⟨I,μ,env,_,ids,q1,hc.env,q2,.refl _ _,h b es clock h3 h4⟩
theorem Hy (id:Nat) {kv:List (V×V)} {clock:Nat} (hl:lk st id=some (some (.mapx kv b es clock))) (h:DGo P n F Q todo env ((id,some (.map kv))::st) ids):DGo P n F Q todo env st ids:=by
 refine EJ λI μ a w hc=>?_;obtain ⟨q1,q2⟩:=hc.toStRep.retellAt (st1:=(id,some (.map kv))::st) λi c hlc=>by
  rcases AB.1 hlc with ⟨rfl,rfl⟩ | ⟨_,h⟩
  ·exact ⟨_,hl,λg' hg' ⟨h1,h2,h3,h4,h5⟩=>⟨b,es,clock,h1,h2,h3,h4,h5⟩⟩
  ·exact ⟨c,h,λ_ _ h=>h⟩
 exact ⟨I,μ,env,_,ids,q1,hc.env,q2,.refl _ _,h⟩
theorem oT (htt:TTok P tt) {i0:Nat} {kv:List (V×V)} {clock id0:Nat} {ids0:List Nat} {todo0:List DI} (h:bY tt n env st ids todo=some ⟨i0,kv,b,es,clock,id0,ids0,d0,todo0⟩) (hk:G P n F Q todo0 (BN d0 (.iter id0) env) ((id0,some (.miter b clock #[] clock))::st) ids0):G P n F Q todo env st ids:=by
 unfold bY at h
 split at h
 ·rename_i o id' ids' ho
  split at h
  ·rename_i t x hg hop
   split at h
   ·rename_i _ _ _ _ _ _ i ht hx
    split at h
    ·rename_i _ _ _ _ all o' todo' hl hd h1;cases h;have ho':o'=o:=Dd ho h1;subst ho';refine BG (fr:=[id0]) (wr:=[(id0,some (.miter b clock #[] clock))]) (rd:=[i0]) h1 ?_ hd (λc hc=>by rw [hop] at hc;cases hc) hk;intro I μ st1 ids1 a w hag hst hon;refine ⟨λ_=>?_,λhw=>by rw [AL hg] at hw;cases hw⟩;have hops:=Bm hon;rw [hop] at hops;have hl1:Az st1 i0 (.mapx kv b es clock):=by unfold Az;rw [hag i0 (by simp)];exact hl
     obtain ⟨g,hgm,rfl,hheap,_⟩:=hst.blk i0 _ hl1;have hv:=hops x (by simp [Op.operands]) _ hx;have e1:a.eval x = .map (some b):=by
      generalize a.eval x=v at hv;cases hv with
      | mapr _ b' hm=>rw [hgm] at hm;cases hm;rfl
     have hu:=htt.sh ht;have hrun:(execOp a.eval o').run P w = .ok (.value (.pointer (some ⟨w.heap.size,0,none⟩))) (w.alloc (.mapIter (some b) clock #[] clock)):=by
      simp only [execOp,hop,e1];exact DR (run_range_map w _ _ _ b es clock hu hheap)
     rw [hrun];obtain ⟨μ',q1,q2,q3,q4⟩:=hst.allocO (.mapIter (some b) clock #[] clock) (.pointer (some ⟨w.heap.size,0,none⟩)) (λ_ h=>Eq.symm h) (.miter b clock #[] clock) (λμ' _=>⟨w.heap.size,rfl,Eu w _⟩);exact ⟨I,μ',q3,.iter _ _ q1,q2,q4⟩
    ·cases h
   ·cases h
  ·cases h
 ·cases h
theorem StRep.drew (hst:StRep I μ st ids w):StRep I μ st ids w.drew :=
 {imm:=hst.imm,blk:=λi b h=>let ⟨g,h1,h2⟩:=hst.blk i b h;⟨g,h1,h2.world λ_ _=>rfl⟩,apart:=hst.apart,inj:=hst.inj,nodup:=hst.nodup,idsFree:=hst.idsFree }
def qM (es:Array MapEntry) (seen:Array Nat):Option (Nat×MapEntry)->Prop
 | none=>(leftOf es seen).size=0
 | some (j,e)=>es[j]?=some e/\e∈(leftOf es seen).toList
def W3 (kv:List (V×V)):Option (Nat×MapEntry)->D
 | none=>.imm (.tup [.bool false])
 | some (j,_)=>match kv[j]? with
  | some p=>.imm (.tup [.bool true,p.1,p.2])
  | none=>.undef
def vW (i b since:Nat) (seen:Array Nat) (clock:Nat):Option (Nat×MapEntry)->St
 | none=>[]
 | some (_,e)=>[(i,some (.miter b since (seen.push e.born) clock))]
theorem tR (m:Nat) {kv:List (V×V)} {clock since:Nat} {seen:Array Nat} {k0:List DI} {all rest:List Oper} (h:lL n env st m todo=some ⟨i,kv,b,b0,es,clock,since,seen,c,d0,k0,all,rest⟩) (hbb:b0=b) (hold:∀x∈es.toList,x.born<since) (hsc:since<=c) (hne:i≠m) (hk:∀x,qM es seen x->DGo P n F Q (.ops all rest::k0) (BN d0 (W3 kv x) env) (vW i b since seen clock x++st) ids):DGo P n F Q todo env st ids:=by
 unfold lL at h
 split at h
 ·rename_i all' o rest' k'
  split at h
  ·rename_i x hg hop
   split at h
   ·rename_i i' kv' b1 es' clock' hx hd hm
    split at h
    ·rename_i b2 since' seen' c' hi
     ·cases h;subst hbb;refine uH (α:={ x:Option (Nat×MapEntry) // qM es seen x }) (λx=>W3 kv x.1) (λx=>vW i b0 since seen clock x.1) hg (λc hc=>by rw [hop] at hc;cases hc) hd (λI μ a w hst hops=>?_) λx=>hk x.1 x.2;rw [hop] at hops;obtain ⟨gm,hgm,rfl,hheap,hlen,hst2,hent⟩:=hst.blk m _ hm;obtain ⟨gi,hgi,r,rfl,hheapi⟩:=hst.blk i _ hi;obtain ⟨r',_,hmi⟩:=(hops x (by simp [Op.operands]) _ hx).iterInv;rw [hgi] at hmi;have e1:a.eval x = .pointer (some ⟨r,0,none⟩):=(QF hmi).symm;have hex:∀v w',(Instr.next (.pointer (some ⟨r,0,none⟩)) false o.type).run P w = .ok v w'->(execOp a.eval o).run P w = .ok (.value v) w':=λv w' hr=>by
       simp only [execOp,hop,e1];exact DR hr
      rcases run_next_at w o.type r b0 since c seen es clock hheapi hheap hold hsc with ⟨h0,hr⟩ | ⟨e,he,w1,hw1,hr⟩
      ·rw [hex _ _ hr];refine ⟨⟨none,h0⟩,I,μ,hst,.imm _ _ (.tup _ _ rfl λi c x hc hx=>?_),Mu.le_refl μ,Ext.refl _ _ _ _⟩
       match i,hc,hx with
       | 0,hc,hx=>cases hc;cases hx;exact .bool _
       | i+1,hc,hx=>simp at hx
      ·rw [hex _ _ hr];obtain ⟨he1,_⟩:=mem_left he;obtain ⟨j,hj⟩:=I4 he1;have hj':es[j]?=some e:=by simpa using hj
       obtain ⟨p,hp⟩:∃p,kv[j]?=some p:=⟨_,Bw (by rw [<- hlen];exact (GH.1 hj').1)⟩
       obtain ⟨k1,k2⟩:=hent j e p hj' hp;have hst1:StRep I μ st ids w1/\Ext I μ st w I μ st w1:=by
        rcases hw1 with rfl | rfl
        ·exact ⟨hst,Ext.refl _ _ _ _⟩
        ·exact ⟨hst.drew,Ext.drew I μ st w⟩
       have hheap1:w1.heap[r]?=some (.mapIter (some b0) since seen c):=by rcases hw1 with rfl | rfl <;> exact hheapi
       have hbl:=BZ hheap1;obtain ⟨q1,q2⟩:=hst1.1.update (blk':=.miter b0 since (seen.push e.born) clock) (w':=ChangeMaps.setBlock w1 r (.mapIter (some b0) since (seen.push e.born) clock)) hi hgi rfl (by simp [ChangeMaps.setBlock]) rfl rfl rfl
        (λk hk=>FV (Ne.symm hk)) ⟨r,rfl,by simp [ChangeMaps.setBlock,hbl]⟩
       refine ⟨⟨some (j,e),hj',he⟩,I,μ,q1,?_,Mu.le_refl μ,hst1.2.trans q2⟩;simp only [W3,hp];refine .imm _ _ (.tup _ _ rfl λi c x hc hx=>?_)
       match i,hc,hx with
       | 0,hc,hx=>cases hc;cases hx;exact .bool _
       | 1,hc,hx=>cases hc;cases hx;exact k1
       | 2,hc,hx=>cases hc;cases hx;exact k2
       | i+3,hc,hx=>simp at hx
    ·cases h
   ·cases h
  ·cases h
 ·cases h
theorem oU (m:Nat) {kv:List (V×V)} {seen0:Array Nat} {todo0:List DI} {seen:Array Nat} {clock:Nat} (h:bZ n env st m todo=some ⟨i,kv,b,b0,es,clock,seen0,c,d0,todo0⟩) (hbb:b0=b) (hcc:c=clock) (hs:seen0=seen.push e.born) (hj:es[j]?=some e) (hp:kv[j]?=some p) (hk:G P n F Q todo0 (BN d0 (.imm (.tup [p.1,p.2])) env) st ids):G P n F Q todo env st ids:=by
 unfold bZ at h
 split at h
 ·rename_i o ho
  split at h
  ·rename_i x hg hop
   split at h
   ·rename_i i' kv' b1 es' clock' hx hd hm
    split at h
    ·rename_i b2 since' seen' c' all o' todo' hi h1
     ·cases h;subst hbb;subst hcc;subst hs;have ho':o'=o:=Dd ho h1;subst ho';refine BG (fr:=[]) (wr:=[]) (rd:=[i,m]) h1 ?_ hd (λc hc=>by rw [hop] at hc;cases hc) hk;intro I μ st1 ids1 a w hag hst hon;refine ⟨λ_=>?_,λhw=>by rw [AL hg] at hw;cases hw⟩;have hops:=Bm hon;rw [hop] at hops;have hm1:Az st1 m (.mapx kv b0 es c):=by unfold Az;rw [hag m (by simp)];exact hm
      have hi1:Az st1 i (.miter b0 since' (seen.push e.born) c):=by unfold Az;rw [hag i (by simp)];exact hi
      obtain ⟨gm,hgm,rfl,hheap,hlen,hst2,hent⟩:=hst.blk m _ hm1;obtain ⟨gi,hgi,r,rfl,hheapi⟩:=hst.blk i _ hi1;obtain ⟨r',_,hmi⟩:=(hops x (by simp [Op.operands]) _ hx).iterInv;rw [hgi] at hmi;have e1:a.eval x = .pointer (some ⟨r,0,none⟩):=(QF hmi).symm;have he:e∈es.toList:=AK (by simpa using hj:es.toList[j]?=some e);have hrun:(execOp a.eval o').run P w = .ok (.value (.tuple #[e.key,e.val])) w:=by
       simp only [execOp,hop,e1];exact DR (run_entry_at w r b0 since' seen es c e hheapi hheap he hst2.2.1)
      rw [hrun];obtain ⟨k1,k2⟩:=hent j e p hj hp;refine ⟨I,μ,hst,.imm _ _ (.tup _ _ rfl λi c x hc hx=>?_),Mu.le_refl μ,Ext.refl _ _ _ _⟩
      match i,hc,hx with
      | 0,hc,hx=>cases hc;cases hx;exact k1
      | 1,hc,hx=>cases hc;cases hx;exact k2
      | i+2,hc,hx=>simp at hx
    ·cases h
   ·cases h
  ·cases h
 ·cases h
end
structure PMt where
 id:Nat
 kv:List (V×V)
 b:Nat
 es:Array MapEntry
 clock:Nat
 kind:IntKind
 key:Int
 et:TypeId
 dst:Option Nat
 todo:List DI
def cA (tt:TT) (n:Nat) (env:Env) (st:St) (todo:List DI):Option PMt :=
 match NN todo with
 | some o=>match o.guard,o.op with
  | none,.mapEntry t m k=>match lk tt t,DN env m,DN env k with
   | some { sh:=.map kt et,.. },some (.mapr id),some (.imm (.int ik i))=>match lk tt kt,lk st id,Bt todo ([id],[id]),BK n o.dst with
    | some { sh:=.int ik',.. },some (some (.mapx kv b es clock)),some (_,_,todo'),true=>bif decide (ik'=ik) then some ⟨id,kv,b,es,clock,ik,i,et,o.dst,todo'⟩ else none
    | _,_,_,_=>none
   | _,_,_=>none
  | _,_=>none
 | none=>none
structure PMu where
 id:Nat
 kv:List (V×V)
 b:Nat
 es:Array MapEntry
 clock:Nat
 stamp:Int
 x:V
 todo:List DI
def vP (env:Env) (st:St) (todo:List DI):Option PMu :=
 match NN todo with
 | some o=>match o.guard,o.op,o.dst with
  | none,.entryStore _ m s x,none=>match DN env m,DN env s,DN env x with
   | some (.mapr id),some (.imm (.int _ i)),some (.imm vx)=>match lk st id,Bt todo ([id],[id]) with
    | some (some (.mapx kv b es clock)),some (_,_,todo')=>some ⟨id,kv,b,es,clock,i,vx,todo'⟩
    | _,_=>none
   | _,_,_=>none
  | _,_,_=>none
 | none=>none
def O2:V->Value
 | .int k i=>.int k i
 | .bool b=>.bool b
 | _=>undef
def xD:V->Bool
 | .int _ _=>true
 | .bool _=>true
 | _=>false
theorem eE {x:V} (h:xD x=true):RepV I (O2 x) x:=by
 cases x <;> first | exact .int _ _ | exact .bool _ | cases h
theorem jW {x:V} (h:xD x=true) (hv:RepV I v x):v=O2 x:=by
 cases x <;> first | (cases h;done) | (cases hv;rfl)
section
variable {k:List DI}
theorem iJ {l:List MapEntry} (hn:(l.map (·.born)).Nodup) {e0:MapEntry} (h:l[j]?=some e0):l.findIdx? (λe=>((e.born:Nat):Int) == ((e0.born:Nat):Int))=some j:=by
 induction l generalizing j with
 | nil=>simp at h
 | cons a r ih =>
  simp only [Cv,Lj] at hn;cases j with
  | zero =>
   simp only [wC,Cf] at h;subst h;simp [List.findIdx?_cons]
  | succ j =>
   simp only [nH] at h;have hne:a.born≠e0.born:=λe1=>hn.1 (Cc.2 ⟨e0,AK h,e1.symm⟩);have hb:(((a.born:Nat):Int) == ((e0.born:Nat):Int))=false:=by
    simp only [beq_eq_false_iff_ne,ne_eq,Int.natCast_inj];exact hne
   rw [List.findIdx?_cons,hb];simp [ih hn.2 h]
theorem oY (xs:Array MapEntry) (p:MapEntry->Bool):xs.findIdx? p=xs.toList.findIdx? p:=by
 cases xs;simp
theorem zdc {h:Array Obj} {o:Obj} (hb:h[b]?=some o):h.setIfInBounds b o=h:=by
 apply Zk;intro i;by_cases e:b=i
 ·subst e;have hlt:=(GH.1 hb).1;rw [zd5 hlt,hb]
 ·rw [FV e]
theorem dE (htt:TTok P tt) (j:Nat) {c:PMt} (h:cA tt n env st todo=some c) (hkv:∀p∈c.kv,GV (.int c.kind) p.1=true) (hj:c.es[j]?=some e) (hp:c.kv[j]?=some p) (hpk:p.1 = .int c.kind c.key) (hg:G P n F Q c.todo (BN c.dst (.imm (.tup [p.2,.int .i64 e.born])) env) ((c.id,some (.mapx c.kv c.b c.es c.clock))::st) ids):G P n F Q todo env st ids:=by
 unfold cA at h
 split at h
 ·rename_i o ho
  split at h
  ·rename_i t m x hgd hop
   split at h
   ·rename_i kt et _ _ _ _ id ik i ht hm hx
    split at h
    ·rename_i ik' _ _ _ _ kv b es clock all o' todo' hi hl h1 hdo;cases hik:decide (ik'=ik) with
     | false=>rw [hik] at h;cases h
     | true =>
     rw [hik] at h;simp only [cond_true,Cf] at h;have hik:=of_decide_eq_true hik;subst hik;subst h;simp only at hkv hj hp hpk hg;have ho':o'=o:=Dd ho h1;subst ho';refine BG (fr:=[]) (wr:=[(id,some (.mapx kv b es clock))]) (rd:=[id]) h1 ?_ hdo (λc hc=>by rw [hop] at hc;cases hc) hg;intro I μ st1 ids1 a w hag hst hon;refine ⟨λ_=>?_,λhw=>by rw [AL hgd] at hw;cases hw⟩;have hops:=Bm hon;rw [hop] at hops;have hl1:Az st1 id (.mapx kv b es clock):=by unfold Az;rw [hag id (by simp)];exact hl
     obtain ⟨g,hmu,rfl,hheap,hlen,hst2,hent⟩:=hst.blk id _ hl1;have e1:a.eval m = .map (some b):=by
      have:=hops m (by simp [Op.operands]) _ hm;generalize a.eval m=v at this;cases this with
      | mapr _ b' hmm=>rw [hmm] at hmu;exact QF hmu
     have rx:=(hops x (by simp [Op.operands]) _ hx).immInv;have ex:=rx.intInv;have hu:P.underlying t=some (.map kt et):=htt.sh ht;have hd:Jt (.int ik')=some (.int ik'):=rfl;have hkd:P.underlying kt=some (.int ik'):=KO hd (htt.sh hi);have hkx:GV (.int ik') (.int ik' i)=true:=by simp [GV]
     have hiky:=Hh hd hkx rx;rcases Kl (I:=I) hd hkx rx es.toList kv 0 (by simpa using hlen) (λj e p h1 h2=>hent j e p (by simpa using h1) h2) hkv with ⟨q1,_,q3,q4⟩ | ⟨j',e',y',q1,q2,q3,_,q5,q6⟩
     ·exfalso;have hk1:=(hent j e p hj hp).1;rw [hpk] at hk1;exact q4 e (by simpa using AK (by simpa using hj:es.toList[j]?=some e)) (by rw [hk1.intInv,ex])
     ·have hj':es[j']?=some e':=by simpa using q2
      have ejj:j'=j:=by
       have hk1:=(hent j e p hj hp).1;rw [hpk] at hk1;have hkk:e.key=e'.key:=by rw [hk1.intInv,q3,ex]
       have hnd:=hst2.2.2;have h1':(es.toList.map (·.key))[j]?=some e.key:=by rw [Et];simp [hj]
       have h2':(es.toList.map (·.key))[j']?=some e'.key:=by rw [Et];simp [hj']
       have l1:=(AO.1 h1')
       have l2:=(AO.1 h2')
       obtain ⟨l1,g1⟩:=l1;obtain ⟨l2,g2⟩:=l2;exact (List.getElem?_inj l2 hnd).1 (by rw [h1',h2',hkk])
      subst ejj;rw [hj'] at hj;cases hj;have hsame:es.modify j' (λe=>{ e with key:=a.eval x })=es:=by
       apply Zk;intro i';rw [UR];by_cases e2:j'=i'
       ·subst e2;rw [if_pos rfl,hj'];simp [<- q3]
       ·rw [if_neg e2]
      have hrun:(execOp a.eval o').run P w = .ok (.value (.tuple #[e.val,goInt e.born])) w:=by
       simp only [execOp,hop,e1];refine DR ?_;simp [Instr.mapEntry,run_underlying hu,MapKept.run_getObj_map hheap,MapKept.run_checkKey hkd hiky,MapKept.run_findKey hkd q1,hj',q3,MapKept.run_keyThatStays hiky,MapKept.run_setObj_map _ hheap,Result.andThen,hsame,zdc hheap]
      rw [hrun];obtain ⟨r1,r2⟩:=hst.update (blk':=.mapx kv b es clock) (w':=w) hl1 hmu rfl (by simp) rfl rfl rfl (λk hk=>rfl) ⟨rfl,hheap,hlen,hst2,hent⟩;have hv:=(hent j' e p hj' hp).2;refine ⟨I,μ,r1,.imm _ _ (.tup _ _ rfl λi c x hc hx=>?_),Mu.le_refl μ,r2⟩
      match i,hc,hx with
      | 0,hc,hx=>cases hc;cases hx;exact hv
      | 1,hc,hx=>cases hc;cases hx;exact .int _ _
      | i+2,hc,hx=>simp at hx
    ·cases h
   ·cases h
  ·cases h
 ·cases h
theorem dF (htt:TTok P tt) {c:PMt} {z:Value} {zd:V} (h:cA tt n env st todo=some c) (hkv:∀p∈c.kv,GV (.int c.kind) p.1=true) (hno:G6 c.kv (.int c.kind c.key)=none) (hz:(P.info? c.et).bind (·.zero)=some z) (hzr:∀I,RepV I z zd)
  (hg:G P n F Q c.todo (BN c.dst (.imm (.tup [zd,.int .i64 c.clock])) env) ((c.id,some (.mapx (c.kv++[(.int c.kind c.key,zd)]) c.b (c.es.push ⟨.int c.kind c.key,z,c.clock⟩) (c.clock+1)))::st) ids):G P n F Q todo env st ids:=by
 unfold cA at h
 split at h
 ·rename_i o ho
  split at h
  ·rename_i t m x hgd hop
   split at h
   ·rename_i kt et _ _ _ _ id ik i ht hm hx
    split at h
    ·rename_i ik' _ _ _ _ kv b es clock all o' todo' hi hl h1 hdo;cases hik:decide (ik'=ik) with
     | false=>rw [hik] at h;cases h
     | true =>
     rw [hik] at h;simp only [cond_true,Cf] at h;have hik:=of_decide_eq_true hik;subst hik;subst h;simp only at hkv hno hz hg;have ho':o'=o:=Dd ho h1;subst ho';refine BG (fr:=[]) (wr:=[(id,some (.mapx (kv++[(.int ik' i,zd)]) b (es.push ⟨.int ik' i,z,clock⟩) (clock+1)))]) (rd:=[id]) h1 ?_ hdo (λc hc=>by rw [hop] at hc;cases hc) hg;intro I μ st1 ids1 a w hag hst hon;refine ⟨λ_=>?_,λhw=>by rw [AL hgd] at hw;cases hw⟩;have hops:=Bm hon;rw [hop] at hops;have hl1:Az st1 id (.mapx kv b es clock):=by unfold Az;rw [hag id (by simp)];exact hl
     obtain ⟨g,hmu,rfl,hheap,hlen,hst2,hent⟩:=hst.blk id _ hl1;have e1:a.eval m = .map (some b):=by
      have:=hops m (by simp [Op.operands]) _ hm;generalize a.eval m=v at this;cases this with
      | mapr _ b' hmm=>rw [hmm] at hmu;exact QF hmu
     have rx:=(hops x (by simp [Op.operands]) _ hx).immInv;have ex:=rx.intInv;have hu:P.underlying t=some (.map kt et):=htt.sh ht;have hd:Jt (.int ik')=some (.int ik'):=rfl;have hkd:P.underlying kt=some (.int ik'):=KO hd (htt.sh hi);have hkx:GV (.int ik') (.int ik' i)=true:=by simp [GV]
     have hiky:=Hh hd hkx rx;rcases Kl (I:=I) hd hkx rx es.toList kv 0 (by simpa using hlen) (λj e p h1 h2=>hent j e p (by simpa using h1) h2) hkv with ⟨q1,_,q3,q4⟩ | ⟨j',e',y',q1,q2,q3,q5,_,q6⟩
     ·rw [ex] at q1 q4 hiky;have hrun:(execOp a.eval o').run P w = .ok (.value (.tuple #[z,goInt clock])) { w with heap:=w.heap.setIfInBounds b (.map (es.push ⟨.int ik' i,z,clock⟩) (clock+1)) }:=by
       simp only [execOp,hop,e1,ex];refine DR ?_;simp [Instr.mapEntry,run_underlying hu,MapKept.run_getObj_map hheap,MapKept.run_checkKey hkd hiky,MapKept.run_findKey hkd q1,EB hz,MapKept.run_setObj_map _ hheap,Result.andThen]
      rw [hrun];have hbl:=BZ hheap;obtain ⟨r1,r2⟩:=hst.update (blk':=.mapx (kv++[(.int ik' i,zd)]) b (es.push ⟨.int ik' i,z,clock⟩) (clock+1)) (w':={ w with heap:=w.heap.setIfInBounds b (.map (es.push ⟨.int ik' i,z,clock⟩) (clock+1)) }) hl1 hmu rfl (by simp) rfl rfl rfl (λk hk=>FV (Ne.symm hk))
       ⟨rfl,by simp [hbl],by simp [hlen],stamped_push hst2 (key:=.int ik' i) (val:=z) q4,λi' e p h1 h2=>by
        rw [QO] at h1;rw [LO] at h2;by_cases hi:i'=es.size
        ·rw [if_pos hi] at h1;cases h1;rw [if_neg (by omega)] at h2;rw [show i'-kv.length=0 by omega] at h2;cases h2;exact ⟨.int _ _,hzr I⟩
        ·rw [if_neg hi] at h1;have:=(GH.1 h1).1;rw [if_pos (by omega)] at h2;exact hent i' e p h1 h2⟩
      refine ⟨I,μ,r1,.imm _ _ (.tup _ _ rfl λi c x hc hx=>?_),Mu.le_refl μ,r2⟩
      match i,hc,hx with
      | 0,hc,hx=>cases hc;cases hx;exact hzr I
      | 1,hc,hx=>cases hc;cases hx;exact .int _ _
      | i+2,hc,hx=>simp at hx
     ·rw [q5] at hno;cases hno
    ·cases h
   ·cases h
  ·cases h
 ·cases h
theorem Vn (j:Nat) {c:PMu} (h:vP env st todo=some c) (hs:xD c.x=true) (hj:c.es[j]?=some e) (hb:(e.born:Int)=c.stamp) (hp:c.kv[j]?=some p) (hg:G P n F Q c.todo env ((c.id,some (.mapx (c.kv.set j (p.1,c.x)) c.b (c.es.modify j λe=>{ e with val:=O2 c.x }) c.clock))::st) ids):G P n F Q todo env st ids:=by
 unfold vP at h
 split at h
 ·rename_i o ho
  split at h
  ·rename_i t m s x hgd hop hdst
   split at h
   ·rename_i id ik i vx hm hsm hx
    split at h
    ·rename_i kv b es clock all o' todo' hl h1;cases h;simp only at hs hj hb hp hg;have ho':o'=o:=Dd ho h1;subst ho';have hg:G P n F Q todo' (BN o'.dst .undef env) ((id,some (.mapx (kv.set j (p.1,vx)) b (es.modify j λe=>{ e with val:=O2 vx }) clock))::st) ids:=by rw [hdst];exact hg
     refine BG (fr:=[]) (wr:=[(id,some (.mapx (kv.set j (p.1,vx)) b (es.modify j λe=>{ e with val:=O2 vx }) clock))]) (rd:=[id]) h1 ?_ (by simp [BK,hdst]) (λc hc=>by rw [hop] at hc;cases hc) hg;intro I μ st1 ids1 a w hag hst hon;refine ⟨λ_=>?_,λhw=>by rw [AL hgd] at hw;cases hw⟩;have hops:=Bm hon;rw [hop] at hops;have hl1:Az st1 id (.mapx kv b es clock):=by unfold Az;rw [hag id (by simp)];exact hl
     obtain ⟨g,hmu,rfl,hheap,hlen,hst2,hent⟩:=hst.blk id _ hl1;have e1:a.eval m = .map (some b):=by
      have:=hops m (by simp [Op.operands]) _ hm;generalize a.eval m=v at this;cases this with
      | mapr _ b' hmm=>rw [hmm] at hmu;exact QF hmu
     have es':=(hops s (by simp [Op.operands]) _ hsm).immInv.intInv;have ex:=jW hs (hops x (by simp [Op.operands]) _ hx).immInv;have hidx:es.findIdx? (λe=>((e.born:Nat):Int) == i)=some j:=by
      rw [oY,<- hb];exact iJ hst2.2.1 (by simpa using hj)
     have hbl:=BZ hheap;have hrun:(execOp a.eval o').run P w = .ok .skip { w with heap:=w.heap.setIfInBounds b (.map (es.modify j λe=>{ e with val:=O2 vx }) clock) }:=by
      simp only [execOp,hop,e1,ex,es'];simp [Instr.entryStore,MapKept.run_getObj_map hheap,asInt,asIntOf,hidx,MapKept.run_setObj_map _ hheap,Result.andThen]
     rw [hrun];obtain ⟨r1,r2⟩:=hst.update (blk':=.mapx (kv.set j (p.1,vx)) b (es.modify j λe=>{ e with val:=O2 vx }) clock) (w':={ w with heap:=w.heap.setIfInBounds b (.map (es.modify j λe=>{ e with val:=O2 vx }) clock) }) hl1 hmu rfl (by simp) rfl rfl rfl (λk hk=>FV (Ne.symm hk))
      ⟨rfl,by simp [hbl],by simp [hlen],stamped_modify hst2 _ _ (λ_ _=>rfl) (λe' _ he'=>rfl),λi' e' p' h1 h2=>by
       rw [UR] at h1;rw [UP] at h2;by_cases hi:j=i'
       ·subst hi;rw [if_pos rfl,hj] at h1;cases h1;rw [if_pos rfl] at h2
        split at h2
        ·cases h2;exact ⟨(hent j e p hj hp).1,eE hs⟩
        ·cases h2
       ·rw [if_neg hi] at h1 h2;exact hent i' e' p' h1 h2⟩
     exact ⟨I,μ,r1,.undef _,Mu.le_refl μ,r2⟩
    ·cases h
   ·cases h
  ·cases h
 ·cases h
end
noncomputable def tkL (stay l:List Int):List Int:=stay++(List.range l.length).map λk=>(EC stay k:Int)
noncomputable def byM (stay l:List Int):List (V×V):=l.zipIdx.map λp=>(.int .i64 p.1,.int .i64 (EC stay p.2))
theorem XU (stay l:List Int):∀p∈byM stay l,GV (.int .i64) p.1=true:=λp hp=>by
 obtain ⟨q,_,rfl⟩:=Cc.1 hp;rfl
theorem uM (stay l:List Int):(byM stay l).length=l.length:=by simp [byM]
theorem pX (stay l:List Int) (h:Int):byM stay (l++[h])=byM stay l++[(.int .i64 h,.int .i64 (EC stay l.length))]:=by
 simp [byM,List.zipIdx_append]
theorem kM (stay l:List Int) (h:Int):tkL stay (l++[h])=tkL stay l++[(EC stay l.length:Int)]:=by
 simp [tkL,NU]
theorem XV {stay:List Int} (h:Int):∀(l:List Int) (k:Nat),G6 ((l.zipIdx k).map λp=>((.int .i64 p.1,.int .i64 (EC stay p.2)):V×V)) (.int .i64 h)=if h∈l then some (.int .i64 (EC stay (k+l.idxOf h))) else none
 | [],_=>rfl
 | x::r,k=>by
  have ih:=XV (stay:=stay) h r (k+1);simp only [mV,Cv,G6,KJ];by_cases e:x=h
  ·subst e;simp
  ·have e':¬h=x:=λh=>e h.symm;have ed:decide (x=h)=false:=decide_eq_false e;rw [ed];simp only [E1,if_false,ih,CA,e',false_or];by_cases hm:h∈r
   ·rw [if_pos hm,if_pos hm,show (x::r).idxOf h=r.idxOf h+1 by rw [zb7,show (x == h)=false by simpa using e];rfl,show k+1+r.idxOf h=k+(r.idxOf h+1) by omega]
   ·rw [if_neg hm,if_neg hm]
theorem XT {stay:List Int}:G6 (byM stay l) (.int .i64 h)=if h∈l then some (.int .i64 (EC stay (l.idxOf h))) else none:=by
 rw [byM,XV h l 0,Dw]
theorem uN {stay:List Int} (hm:h∈l):(byM stay l)[l.idxOf h]?=some (.int .i64 h,.int .i64 (EC stay (l.idxOf h))):=by
 have hlt:=zb6.2 hm;have hg:l[l.idxOf h]?=some h:=by rw [Bw hlt,List.getElem_idxOf]
 simp [byM,Et,List.getElem?_zipIdx,hg]
theorem kV (hm:h∈l):(DJ l)[l.idxOf h]?=some (.int .i64 h,.bool true):=by
 have hlt:=zb6.2 hm;have hg:l[l.idxOf h]?=some h:=by rw [Bw hlt,List.getElem_idxOf]
 simp [DJ,hg]
theorem Qr {α:Type}:∀{l:List α} {j:Nat} {a:α},l[j]?=some a->l.set j a=l
 | [],_,_,h=>by simp at h
 | b::r,0,a,h=>by simp at h;subst h;rfl
 | b::r,j+1,a,h=>by simp at h;simp [Qr h]
theorem wU {stay:List Int} (hj:j<=EC stay l.length):(j:Int)∈tkL stay l↔j<EC stay l.length:=by
 obtain ⟨h1,h2⟩:=M4 stay l.length;constructor
 ·intro h;rcases zca j (EC stay l.length) with hl | hl
  ·exact hl
  ·exfalso;have e:j=EC stay l.length:=by omega
   rw [tkL,BU] at h;rcases h with h | h
   ·rw [e] at h;exact h1 h
   ·obtain ⟨i,hi,he⟩:=Cc.1 h;have hi:=QL.1 hi;have he:EC stay i=EC stay l.length:=by omega
    have:=(M4 stay i).2;rw [he,h2] at this;omega
 ·intro hl;rw [tkL,BU];by_cases hs:(j:Int)∈stay
  ·exact .inl hs
  ·right;have hc:=KQ (stay:=stay) (show j+1<=EC stay l.length from hl);rw [De,if_neg hs,h2] at hc;refine Cc.2 ⟨H4 stay j,QL.2 (by omega),?_⟩;have:NthF stay (H4 stay j) j:=⟨hs,rfl⟩
   have:=this.unique (M4 stay (H4 stay j));omega
theorem sN {stay:List Int} {k:Nat} (h:k<l.length):(EC stay k:Int)∈tkL stay l:=by
 rw [tkL,BU];exact .inr (Cc.2 ⟨k,QL.2 h,rfl⟩)
mutual
noncomputable def G4 (stay L:List Int):Ty->Ty
 | .mk f n x ps=>.mk (if f=10 then 9 else f) (if f=9 then EC stay (L.idxOf n) else n) x (Ht stay L ps)
noncomputable def Ht (stay L:List Int):List Ty->List Ty
 | []=>[]
 | t::r=>G4 stay L t::Ht stay L r
end
theorem QE (stay L:List Int):∀l:List Ty,Ht stay L l=l.map (G4 stay L)
 | []=>rfl
 | t::r=>by simp [Ht,QE stay L r]
mutual
theorem oP:∀(t:Ty) (l:List Int),∃r,D2 t l=l++r
 | .mk f n x ps,l=>by
  simp only [D2]
  split
  ·split
   ·exact ⟨[],by simp⟩
   ·exact ⟨[n],rfl⟩
  ·exact Oc ps l
theorem Oc:∀(ts:List Ty) (l:List Int),∃r,Cm ts l=l++r
 | [],l=>⟨[],by simp [Cm]⟩
 | t::r,l=>by
  obtain ⟨a,e1⟩:=oP t l;obtain ⟨b,e2⟩:=Oc r (D2 t l);exact ⟨a++b,by rw [Cm,e2,e1,Cl]⟩
end
theorem Jn:∀(a b:List Ty) (l:List Int),Cm (a++b) l=Cm b (Cm a l)
 | [],_,_=>rfl
 | t::r,b,l=>by simp only [D0,Cm];exact Jn r b _
mutual
theorem Tq {stay:List Int}:∀(t:Ty) {L r:List Int},(∀h∈CO t,h∈L)->C9 t=true->G4 stay (L++r) t=G4 stay L t
 | .mk f n x ps,L,r,h,hw=>by
  have hwp:∀p∈ps,C9 p=true:=λp hp=>EU hw p (by simpa [Ff] using hp);by_cases h9:f=9
  ·subst h9;have hn:n∈L:=h n (by simp [CO]);have e:=E7 hw rfl;simp only [Ao,num,Ty.mk.injEq] at e;obtain ⟨_,_,rfl,rfl⟩:=e;simp only [G4,Ht,if_true];rw [zb8,if_pos hn]
  ·simp only [G4,if_neg h9];congr 1;exact QD ps (λp hp m hm=>h m (by simp only [CO,if_neg h9];exact JS.2 ⟨p,hp,hm⟩)) hwp
theorem QD {stay:List Int}:∀(ts:List Ty) {L r:List Int},(∀t∈ts,∀h∈CO t,h∈L)->(∀t∈ts,C9 t=true)->Ht stay (L++r) ts=Ht stay L ts
 | [],_,_,_,_=>rfl
 | t::q,L,r,h,hw=>by
  simp only [Ht];rw [Tq t (h t (by simp)) (hw t (by simp)),QD q (λp hp=>h p (by simp [hp])) (λp hp=>hw p (by simp [hp]))]
end
noncomputable def nbS (stay l:List Int):St:=[(1,some (.cells 123 2 [.mapr 2,.mapr 3])),(2,some (.map (DJ (tkL stay l)))),(3,some (.map (byM stay l)))]
def ndD (f n:Int) (x:Str) (a:Nat):D:=.agg [.imm (.int .i64 f),.imm (.int .i64 n),.imm (.str x),.hv a 0]
def jH (stay l:List Int) (t:Ty):Prop :=
 Tq4 81 [.ref 1 0,ndD (BQ t) (num t) (Lf t) 4] (nbS stay l++[(4,some (.hp (J7 (Ff t))))])
  (.ret (ndD (BQ (G4 stay (D2 t l) t)) (num (G4 stay (D2 t l) t)) (Lf (G4 stay (D2 t l) t)) 5) (nbS stay (D2 t l)++[(5,some (.hp (J7 (Ff (G4 stay (D2 t l) t)))))]))
theorem Qs {α:Type} (a b:α):∀l:List α,(l++[a]).set l.length b=l++[b]
 | []=>rfl
 | x::r=>by simp [Qs a b r]
theorem xX {a:Tr} {n:Int} (h:Xc a (.mk f n x ps)):∃v ks,a = .nd f n x v ks/\IC ks ps:=by
 cases a with
 | nd f' n' x' v ks=>simp only [Xc] at h;obtain ⟨rfl,rfl,rfl,h⟩:=h;exact ⟨v,ks,rfl,h⟩
 | im _ _=>simp [Xc] at h
 | gp _ _ _ _=>simp [Xc] at h
theorem M3 (stay:List Int) (f n:Int) (x:Str) (ps:List Ty) (l:List Int) (hl3:ps.length<=3) (hw:∀p∈ps,C9 p=true) (IH:∀p∈ps,∀l:List Int,(D2 p l).length<=1000000->jH stay l p) (hb:(Cm ps l).length<=1000000) :
  Tq2 Tryz.f81.ntmps [1,2,3,4] (Lb Yj Tryz.f81.results.toList (.ret (ndD f n x 5) (nbS stay (Cm ps l)++[(5,some (.hp (J7 (Ht stay (Cm ps l) ps))))])))
   [.code (Gx Tryz.f81 2)] [(0,.ref 1 0),(3,.ref 6 0),(4,.ref 7 0)]
   ((6,some (.cells 25 4 [.imm (.int .i64 f),.imm (.int .i64 n),.imm (.str x),.hv 4 0]))::(7,some (.cells 25 4 [.imm (.int .i64 0),.imm (.int .i64 0),.imm (.str []),.nils]))::nbS stay l++[(4,some (.hp (J7 ps)))]) [8,5,9,10,11,12,13]:=by
 refine R4 (ids':=[5,9,10,11,12,13]) 4 8 (λx:(Option Addr×Nat)×{ gs:List Tr // IC gs ps }=>[.slice x.1.1 ps.length x.1.2]) (λx=>Fv (.slice x.1.1 ps.length x.1.2) x.2.1) rfl (λvs I w bs h=>?_) λy=>?_
 ·obtain ⟨v,gs,h1,h2,h3⟩:=h;obtain ⟨a,cap,e1,_⟩:=Mt h3;rw [ML h1] at e1;subst e1;exact ⟨((a,cap),⟨gs,h1⟩),h2,h3⟩
 obtain ⟨⟨ad,cap⟩,⟨gs0,hgs0⟩⟩:=y;refine Av rfl<|Ak (λy:Nat×List Tr=>[(60,.imm (.int .i64 y.1)),(59,.imm (.int .i64 ps.length)),(58,.raw (.slice ad ps.length cap)),(0,.ref 1 0),(3,.ref 6 0),(4,.ref 7 0)])
  (λy=>(6,some (.cells 25 4 [.imm (.int .i64 f),.imm (.int .i64 n),.imm (.str x),.raw (.slice ad ps.length cap)]))::(7,some (.cells 25 4 [.imm (.int .i64 0),.imm (.int .i64 0),.imm (.str []),.nils])) ::
   (8,some (.hp (Fv (.slice ad ps.length cap) y.2)))::nbS stay (Cm (ps.take y.1) l)) [5,9,10,11,12,13] (λy=>ps.length-y.1) (λy=>y.1<=ps.length/\y.2.length=ps.length/\(∀(j:Nat) a p,j<y.1->y.2[j]?=some a->ps[j]?=some p->Xc a (G4 stay (Cm ps l) p))/\(∀(j:Nat) a p,y.1<=j->y.2[j]?=some a->ps[j]?=some p->Xc a p)) (0,gs0)
  ⟨AF _,ML hgs0,λj a p h=>by omega,λj a p _ ha hp=>(IB.1 hgs0).2 j a p ha hp⟩ GE GE rfl λy hi ih=>?_
 clear hgs0;obtain ⟨i,gs⟩:=y;obtain ⟨hi1,hi2,hi3,hi4⟩:=hi;simp only at hi1 hi2 hi3 hi4;refine Av rfl<|Aa rfl (λh=>?_) (λh=>?_)
 ·simp at h;obtain ⟨k,hk⟩:=Am h;have hkm:=AK hk;obtain ⟨a,hga⟩:∃a,gs[i]?=some a:=⟨_,Bw (by omega)⟩
  have hak:=hi4 i a k (BL _) hga hk;have htk:Cm (ps.take (i+1)) l=D2 k (Cm (ps.take i) l):=by rw [Bk hk,Jn];rfl
  obtain ⟨r,hr⟩:∃r,Cm ps l=Cm (ps.take (i+1)) l++r:=by
   obtain ⟨r,hr⟩:=Oc (ps.drop (i+1)) (Cm (ps.take (i+1)) l);exact ⟨r,by rw [<- hr,<- Jn,cQ]⟩
  have hmore:G4 stay (Cm ps l) k=G4 stay (D2 k (Cm (ps.take i) l)) k:=by
   rw [hr,htk];exact Tq k (λh hh=>(UJ k _).2 (.inr hh)) (hw k hkm)
  have hbl:(D2 k (Cm (ps.take i) l)).length<=1000000:=by
   rw [hr,htk] at hb;simp only [AZ] at hb;omega
  have hC:=IH k hkm (Cm (ps.take i) l) hbl;unfold jH at hC;rw [<- hmore,<- htk] at hC;generalize Cm (ps.take i) l=l0 at *;obtain ⟨kf,kn,kx,kp⟩:=k;obtain ⟨v,ks,rfl,hks⟩:=xX hak;obtain ⟨t',ht'⟩:∃t',G4 stay (Cm ps l) (.mk kf kn kx kp)=t':=⟨_,rfl⟩
  rw [ht'] at hC;refine Js 8 (λ_:{ b:Nat // ad=some ⟨b,0,none⟩ }=>Fv (.slice ad ps.length cap) gs) rfl (λvs I w bs h'=>?_) λz=>?_
  ·obtain ⟨a,cap',e1,e2⟩:=Mt h';simp only [Value.slice.injEq] at e1;obtain ⟨b,hb⟩:=e2 (by rw [hi2];omega);exact ⟨⟨b,by rw [e1.1,hb]⟩,h'⟩
  obtain ⟨b,rfl⟩:=z;refine uG (ids':=[10,11,12,13]) 8 5 9 (λ_:Unit=>Fv (.slice (some ⟨b,0,none⟩) ps.length cap) (gs.set i (.gp kf kn kx v))) (λ_=>Fv v ks) rfl (λvs I w bs h'=>?_) λ_=>?_
  ·obtain ⟨b1,b2,q1,q2,q3,q4,q5⟩:=Y4 h' hga;exact ⟨(),b1,b2,q1,q2,q3,q4,q5⟩
  have hgi:(gs.set i (.gp kf kn kx v))[i]?=some (.gp kf kn kx v):=Ln (by omega)
  refine Av rfl<|MU Ah rfl rfl (λ_=>⟨by simp,by simp;omega⟩) (by simp)<|Ai rfl<|dD Ah 5 [.imm (.int .i64 kf),.imm (.int .i64 kn),.imm (.str kx),.raw v] rfl rfl (λ_ vs I w bs h'=>by have:=Y6 h' hgi;simpa [F0] using this) rfl rfl (by simp)<|N0 4 rfl (by simp)<|Om (ids':=[12,13]) 9 10 11 [v] (A:=J7 kp) [.imm (.int .i64 kf),.imm (.int .i64 kn),.imm (.str kx),.hv 11 0] rfl rfl (λus I w bs h=>⟨_,ks,hks,rfl,h⟩) ⟨.inl rfl,.inl rfl,.inl rfl,.inr ⟨0,_,rfl,rfl,rfl⟩,trivial⟩<|Av rfl<|A4 (fr:=[12]) [(1,1),(2,2),(3,3),(11,4)] [(5,12)] [] (nm:=[1,2,3,12,1,2,3,11]) rfl trivial (by simp) hC JK rfl trivial rfl rfl rfl<|Ai rfl<|MU Ah rfl rfl (λ_=>⟨by simp,by simp;omega⟩) (by simp)<|Ai rfl<|TI Ah 5 12 13 (yQ (.slice (some ⟨b,0,none⟩) ps.length cap) (gs.set i (.gp kf kn kx v)) i (BQ t') (num t') (Lf t') (Ff t')) rfl rfl rfl (by decide) (by
   have e:0+((i:Int)).toNat*4=i*4:=by simp
   show Nt _ _ _ 12 b (0+((i:Int)).toNat*4) _;rw [e];exact Q0 hgi rfl) ?_
  refine yg [] rfl (by simp;rfl)<|Js 13 (λa:{ a:Tr // Xc a t' }=>Fv (.slice (some ⟨b,0,none⟩) ps.length cap) (gs.set i a.1)) rfl (λvs I w bs h'=>?_) λz=>?_
  ·obtain ⟨u,ks,h1,h2⟩:=h';rw [List.set_set] at h2;obtain ⟨t1,t2,t3,t4⟩:=t';exact ⟨⟨.nd t1 t2 t3 u ks,by simpa [Xc,Ff] using h1⟩,h2⟩
  obtain ⟨a,ha⟩:=z;refine Bo 8 13 rfl<|Ae (ih (i+1,gs.set i a) (by simp only;omega) ⟨by simp only;omega,by simpa using hi2,λj a' p hj ha' hp=>?_,λj a' p hj ha' hp=>?_⟩) ⟨A8 (BW (by simp only;omega) (by simp only;omega)),BA⟩ GE rfl
  ·simp only at hj ha';by_cases e:i=j
   ·subst e;rw [Ln (by omega)] at ha';cases ha';rw [hk] at hp;cases hp;rw [ht'];exact ha
   ·rw [Lm e] at ha';exact hi3 j a' p (by omega) ha' hp
  ·simp only at hj ha';rw [Lm (by omega)] at ha';exact hi4 j a' p (by omega) ha' hp
 ·simp at h;have hl:i=ps.length:=by omega
  subst hl;rw [Ig];have his:IC gs (Ht stay (Cm ps l) ps):=IB.2 ⟨by rw [QE,Dh];exact hi2,λj a p ha hp=>by
   rw [QE,Et] at hp;cases hq:ps[j]? with
   | none=>rw [hq] at hp;cases hp
   | some q =>
    rw [hq] at hp;simp only [cP,Cf] at hp;rw [<- hp];exact hi3 j a q (AO.1 hq).1 ha hq⟩
  exact At rfl<|Av rfl<|Om (ids':=[9,10,11,12,13]) 8 7 5 [.slice ad ps.length cap] (A:=J7 (Ht stay (Cm ps l) ps)) [.imm (.int .i64 f),.imm (.int .i64 n),.imm (.str x),.hv 5 0] rfl rfl (λus I w bs h=>⟨_,gs,his,rfl,h⟩) ⟨.inl rfl,.inl rfl,.inl rfl,.inr ⟨0,_,rfl,rfl,rfl⟩,trivial⟩<|Ag ⟨_,GE⟩
theorem mD (stay:List Int) (hst:stay.length<=1000000):∀(t:Ty) (l:List Int),C9 t=true->(D2 t l).length<=1000000->jH stay l t
 | .mk f n x ps,l,hw,hb=>by
  have hl3:=Ie hw;have hwp:∀p∈ps,C9 p=true:=λp hp=>EU hw p (by simpa [Ff] using hp);have IH:∀p∈ps,∀l:List Int,(D2 p l).length<=1000000->jH stay l p:=λp hp l h=>mD stay hst p l (hwp p hp) h;simp only [Ff] at hl3;unfold jH;by_cases h9:f=9
  ·subst h9;have e:=E7 hw rfl;simp only [Ao,num,Ty.mk.injEq] at e;obtain ⟨_,_,rfl,rfl⟩:=e;have e2:∀L,G4 stay L (.mk 9 n [] []) = .mk 9 (EC stay (L.idxOf n)) [] []:=λL=>by simp [G4,Ht]
   rw [e2];refine AQ Ah func81 rfl [6,7,8,5,9,10,11,12,13]<|Ai rfl<|Aa rfl (λh=>by exfalso;simp [BQ] at h) (λh=>?_);refine Av rfl<|Aa rfl (λh=>?_) (λh=>by exfalso;simp [BQ] at h);refine Av rfl ?_;by_cases hm:n∈l
   ·have eg:D2 (.mk 9 n [] []) l=l:=by simp [D2,hm]
    rw [eg] at hb ⊢;have hT:=M3 stay 9 (EC stay (l.idxOf n)) [] [] l (by simp) (λp hp=>by simp at hp) (λp hp=>by simp at hp) (by simpa [Cm] using hb);have hlk:=XT (stay:=stay) (l:=l) (h:=n);rw [if_pos hm] at hlk;have hgb:=uN (stay:=stay) hm;have htk:=sN (stay:=stay) (zb6.2 hm);have hgt:=kV htk;have hkb:=XU stay l;have hkt:=CE (tkL stay l);have hlb:=uM stay l;have hjt:=(AO.1 hgt).1;have hjb:=(AO.1 hgb).1;simp only [nbS,Cm] at hT;simp only [nbS];generalize byM stay l=B at *;generalize (tkL stay l).idxOf ↑(EC stay (l.idxOf n))=jt at *;generalize DJ (tkL stay l)=K at *;generalize EC stay (l.idxOf n)=N at *;generalize l.idxOf n=jb at *
    refine CJ Ah 3 (z:=.int .i64 0) (zd:=.int .i64 0) (dr:=.imm (.tup [.int .i64 N,.bool true])) rfl rfl rfl hkb (by simp) rfl (λ_=>.int _ _) (by simp only [FC];rw [show num (Ty.mk 9 n [] [])=n from rfl,hlk];rfl)<|yg [] rfl (by simp;rfl)<|Ak (λ_:Unit=>[(5,.imm (.int .i64 N)),(6,.imm (.bool true)),(0,.ref 1 0),(3,.ref 6 0),(4,.ref 7 0)])
     (λ_=>(6,some (.cells 25 4 [.imm (.int .i64 9),.imm (.int .i64 n),.imm (.str []),.hv 4 0]))::(7,some (.cells 25 4 [.imm (.int .i64 0),.imm (.int .i64 0),.imm (.str []),.nils]))::(1,some (.cells 123 2 [.mapr 2,.mapr 3]))::(2,some (.map K))::(3,some (.map B))::[(4,some (.hp (J7 [])))])
     [8,5,9,10,11,12,13] (λ_=>0) (λ_=>True) () trivial BA GE rfl λ_ _ ih=>?_
    clear ih;refine Av rfl<|R7 rfl λh=>At rfl<|IL 3 rfl λb1 es1 clock1 hs1 hst1=>IL 2 rfl λb2 es2 clock2 hs2 hst2=>?_;obtain ⟨x1,hx1⟩:∃e,es1[jb]?=some e:=⟨_,P2 (by omega)⟩
    obtain ⟨x2,hx2⟩:∃e,es2[jt]?=some e:=⟨_,P2 (by omega)⟩
    exact Av rfl<|dE Ah jb (e:=x1) rfl hkb hx1 hgb rfl<|Ai rfl<|Vn jb (e:=x1) rfl rfl hx1 rfl hgb<|Ai rfl<|dE Ah jt (e:=x2) rfl hkt hx2 hgt rfl<|Ai rfl<|Vn jt (e:=x2) rfl rfl hx2 rfl hgt<|N0 2 rfl (by simp;rfl)<|Hy 2 rfl<|Hy 3 rfl<|yZ 5 rfl (by simp)<|Ae hT AH ⟨rfl,rfl,rfl,congrArg Blk.map (Qr hgt),congrArg Blk.map (Qr hgb),AC⟩ rfl
   ·have eg:D2 (.mk 9 n [] []) l=l++[n]:=by simp [D2,hm]
    have ei:(l++[n]).idxOf n=l.length:=by rw [zb8,if_neg hm];simp
    rw [eg] at hb ⊢;rw [ei];have hT:=M3 stay 9 (EC stay l.length) [] [] (l++[n]) (by simp) (λp hp=>by simp at hp) (λp hp=>by simp at hp) (by simpa [Cm] using hb);have hlk:=XT (stay:=stay) (l:=l) (h:=n);rw [if_neg hm] at hlk;have htk:=λ(j:Nat) (hj:j<=EC stay l.length)=>wU (stay:=stay) (l:=l) hj;have hkb:=XU stay l;have hkt:=CE (tkL stay l);have hNb:EC stay l.length<=2000000:=by have:=sO stay l.length;simp at hb;omega
    have hlt:=NE (EC stay l.length:Int) (tkL stay l);rw [if_neg (λh=>by have:=(htk _ (BL _)).1 h;omega)] at hlt;have hq3:=Qs (.int .i64 n,.int .i64 0) (.int .i64 n,.int .i64 (EC stay l.length:Int)) (byM stay l);rw [<- pX] at hq3;have hq2:=Qs (.int .i64 (EC stay l.length:Int),.bool false) (.int .i64 (EC stay l.length:Int),.bool true) (DJ (tkL stay l));have e2:DJ (tkL stay l)++[(.int .i64 (EC stay l.length:Int),.bool true)]=DJ (tkL stay (l++[n])):=by rw [kM];simp [DJ]
    rw [e2] at hq2;have hlook:=λ(j:Nat)=>Gc (j:Int) (tkL stay l);clear e2;simp only [nbS,Cm] at hT;simp only [nbS];generalize byM stay (l++[n])=B' at *;generalize byM stay l=B at *;generalize DJ (tkL stay (l++[n]))=K' at *;generalize hK:DJ (tkL stay l)=K at *;generalize EC stay l.length=N at *;refine CJ Ah 3 (z:=.int .i64 0) (zd:=.int .i64 0) (dr:=.imm (.tup [.int .i64 0,.bool false])) rfl rfl rfl hkb (by simp) rfl (λ_=>.int _ _) (by simp only [FC];rw [show num (Ty.mk 9 n [] [])=n from rfl,hlk];rfl)<|yg [] rfl (by simp;rfl)<|Ak (λz:Nat×Bool=>[(5,.imm (.int .i64 z.1)),(6,.imm (.bool z.2)),(0,.ref 1 0),(3,.ref 6 0),(4,.ref 7 0)])
     (λ_=>(6,some (.cells 25 4 [.imm (.int .i64 9),.imm (.int .i64 n),.imm (.str []),.hv 4 0]))::(7,some (.cells 25 4 [.imm (.int .i64 0),.imm (.int .i64 0),.imm (.str []),.nils]))::(1,some (.cells 123 2 [.mapr 2,.mapr 3]))::(2,some (.map K))::(3,some (.map B))::[(4,some (.hp (J7 [])))])
     [8,5,9,10,11,12,13] (λz=>if z.2=true then 0 else N-z.1+1) (λz=>z.1<=N/\(z.2=true->z.1=N)) (0,false) ⟨AF _,λh=>nomatch h⟩ BA GE rfl λz hz ih=>?_
    obtain ⟨j,is⟩:=z;obtain ⟨hz1,hz2⟩:=hz;simp only at hz1 hz2;cases is with
    | false =>
     refine Av rfl<|R6 rfl λh=>Av rfl ?_;by_cases hjN:j<N
     ·have hd:decide ((j:Int)∈tkL stay l)=true:=decide_eq_true ((htk j hz1).2 hjN);exact CJ Ah 2 (z:=.bool false) (zd:=.bool false) (dr:=.imm (.bool true)) rfl rfl rfl hkt (by simp) rfl (λ_=>.bool _) (by rw [hlook,hd])<|Ai rfl<|R6 rfl λh=>Av rfl<|Ae (ih (j+1,false) (by simp;omega) ⟨by simp only;omega,λh=>nomatch h⟩) ⟨A8 (BW (by simp only;omega) (by simp only;omega)),BJ⟩ GE rfl
     ·have hd:decide ((j:Int)∈tkL stay l)=false:=decide_eq_false (λh=>hjN ((htk j hz1).1 h));exact CJ Ah 2 (z:=.bool false) (zd:=.bool false) (dr:=.imm (.bool false)) rfl rfl rfl hkt (by simp) rfl (λ_=>.bool _) (by rw [hlook,hd])<|Ai rfl<|R7 rfl λh=>Av rfl<|Ae (ih (j,true) (by simp) ⟨hz1,λ_=>by omega⟩) BA GE rfl
    | true =>
     have ej:=hz2 rfl;subst ej;clear ih;exact Av rfl<|R7 rfl λh=>At rfl<|IL 3 rfl λb1 es1 clock1 hs1 hst1=>IL 2 rfl λb2 es2 clock2 hs2 hst2=>Av rfl<|dF Ah (z:=.int .i64 0) (zd:=.int .i64 0) rfl hkb hlk rfl (λ_=>.int _ _)<|Ai rfl<|Vn B.length (e:=⟨.int .i64 n,.int .i64 0,clock1⟩) (p:=(.int .i64 n,.int .i64 0)) rfl rfl (by simp [<- hs1]) rfl (by simp)<|Ai rfl<|dF Ah (z:=.bool false) (zd:=.bool false) rfl hkt hlt rfl (λ_=>.bool _)<|Ai rfl<|Vn K.length (e:=⟨.int .i64 j,.bool false,clock2⟩) (p:=(.int .i64 j,.bool false)) rfl rfl (by simp [<- hs2]) rfl (by simp)<|N0 2 rfl (by simp;rfl)<|Hy 2 rfl<|Hy 3 rfl<|yZ 5 rfl (by simp)<|Ae hT AH ⟨rfl,rfl,rfl,congrArg Blk.map hq2,congrArg Blk.map hq3,AC⟩ rfl
  ·have e1:D2 (.mk f n x ps) l=Cm ps l:=by simp only [D2,if_neg h9]
   have e2:∀L,G4 stay L (.mk f n x ps) = .mk (if f=10 then 9 else f) n x (Ht stay L ps):=λL=>by simp only [G4,if_neg h9]
   rw [e1] at hb ⊢;rw [e2];refine AQ Ah func81 rfl [6,7,8,5,9,10,11,12,13]<|Ai rfl ?_;by_cases h10:f=10
   ·subst h10;have hT:=M3 stay 9 n x ps l hl3 hwp IH hb;refine Aa rfl (λh=>?_) (λh=>by exfalso;simp [BQ] at h);exact yZ 5 rfl (by simp)<|Ae hT AH GE rfl
   ·have hT:=M3 stay f n x ps l hl3 hwp IH hb;rw [if_neg h10];refine Aa rfl (λh=>by exfalso;simp [BQ] at h;exact h10 h) (λh=>?_);refine Av rfl<|Aa rfl (λh=>by exfalso;simp [BQ] at h;exact h9 h) (λh=>?_);exact yZ 2 rfl (by simp)<|Ae hT AH GE rfl
termination_by t=>SizeOf.sizeOf t
decreasing_by
 have:=Ct hp;simp_wf;omega
theorem ZU (l:Au) (f:FuncId) (a b:List V) (q:Str×Ty->Bool) (hq:∀t∈l,Tq3 f (a++[.agg (Vw t)]++b) (.bool (q t))) :
  ∃i:Int,(0<=i↔l.any q=true)/\Tq3 188 [.sl (dKns l),.clo (.func f) a b] (.int .i64 i):=by
 obtain ⟨i,h1,h2⟩:∃i:Int,(0<=i↔l.any q=true)/\((i = -1/\l.any q=false)\/∃(k:Nat) (t:Str×Ty),i=k/\l[k]?=some t/\q t=true/\(l.take k).any q=false):=by
  by_cases h:l.any q=true
  ·have key:∀(n:Nat),(l.take n).any q=true->∃(k:Nat) (t:Str×Ty),l[k]?=some t/\q t=true/\(l.take k).any q=false:=λn=>by
    induction n with
    | zero=>intro h;simp at h
    | succ n ih =>
     intro h;by_cases hn:(l.take n).any q=true
     ·exact ih hn
     ·by_cases hl:n<l.length
      ·obtain ⟨t,ht⟩:=Am hl;rw [Bk ht,Gj] at h;simp only [QN] at hn;rw [hn,Ih] at h;exact ⟨n,t,ht,by simpa using h,hn⟩
      ·rw [CQ (by omega)] at h hn;exact absurd h hn
   obtain ⟨k,t,k1,k2,k3⟩:=key l.length (by rw [Ig];exact h);exact ⟨k,⟨λ_=>h,λ_=>by omega⟩,.inr ⟨k,t,rfl,k1,k2,k3⟩⟩
  ·exact ⟨-1,⟨λh'=>by omega,λh'=>absurd h' h⟩,.inl ⟨rfl,by simpa using h⟩⟩
 refine ⟨i,h1,?_⟩;clear h1;refine Bl λhv=>?_;simp [Cx,Ez,maxLen] at hv;refine AQ Ah func188 rfl [1,2]<|Ai rfl<|Ak (λj:Nat=>[(8,.imm (.int .i64 j)),(7,.imm (.int .i64 l.length)),(0,.imm (.sl (dKns l))),(1,.imm (.clo (.func f) a b))]) (λ_=>[]) [1,2] (λj=>l.length-j) (λj=>j<=l.length/\(l.take j).any q=false) 0
  ⟨AF _,rfl⟩ ⟨rfl,A8 (by simp),AD⟩ trivial rfl λj hj ih=>?_
 obtain ⟨hj1,hj2⟩:=hj;refine Av rfl<|Aa rfl (λh=>?_) (λh=>?_)
 ·have hlt:j<l.length:=by simp at h;omega
  obtain ⟨t,ht⟩:=Am hlt;have hg:=Ni ht;have hQ:=hq t (AK ht);have htk:(l.take (j+1)).any q=q t:=by rw [Bk ht,Gj,hj2];simp
  have hfound:q t=true->i=j:=λhqt=>by
   rcases h2 with ⟨_,h⟩ | ⟨k,u,rfl,k1,k2,k3⟩
   ·have:l.any q=true:=Dz.2 ⟨t,AK ht,hqt⟩;rw [this] at h;cases h
   ·congr 1;rcases LM k j with hc | hc | hc
    ·have:(l.take j).any q=true:=Dz.2 ⟨u,DE.2 ⟨k,by rw [Dl,if_pos hc];exact k1⟩,k2⟩;rw [hj2] at this;cases this
    ·exact hc
    ·have:(l.take k).any q=true:=Dz.2 ⟨t,DE.2 ⟨j,by rw [Dl,if_pos hc];exact ht⟩,hqt⟩;rw [k3] at this;cases this
  generalize q t=o at *;obtain ⟨y,⟨t1,t2,t3,t4⟩⟩:=t;refine Av rfl<|yiz rfl hg<|Ai rfl<|PP rfl (λ_=>hQ) (by simp)<|Ai rfl ?_;cases o with
  | true =>
   exact R6 rfl λh=>Av rfl<|Ag ⟨_,rfl,tV (by rw [hfound rfl]),trivial⟩
  | false =>
   exact R7 rfl λh=>Av rfl<|Ae (ih (j+1) (by omega) ⟨by omega,htk⟩) ⟨M6,AH⟩ trivial rfl
 ·have hlt:¬j<l.length:=by simp at h;omega
  rw [CQ (by omega)] at hj2;have hi:i = -1:=by
   rcases h2 with ⟨h,_⟩ | ⟨k,u,_,k1,k2,_⟩
   ·exact h
   ·have:l.any q=true:=Dz.2 ⟨u,AK k1,k2⟩;rw [hj2] at this;cases this
  exact At rfl<|Av rfl<|Ag ⟨_,rfl,tV (by rw [hi]),trivial⟩
theorem Sn (l:Au) (f:FuncId) (a b:List V) (q:Str×Ty->Bool) (hq:∀t∈l,Tq3 f (a++[.agg (Vw t)]++b) (.bool (q t))) :
  Tq3 129 [.sl (dKns l),.clo (.func f) a b] (.bool (l.any q)):=by
 obtain ⟨i,h1,h2⟩:=ZU l f a b q hq;refine AQ Ah func129 rfl [1,2]<|Ai rfl<|Ad rfl h2<|Ai rfl<|Ab rfl rfl (congrArg _ ?_);rw [EY,<- h1];simp
theorem gV (g:FuncId) (q:Str×Ty->Bool) (t:Str×Ty) (hq:Tq3 g [.agg (Vw t)] (.bool (q t))):Tq3 130 [.agg (Vw t),.ip 116 [.fn (.func g)] 0] (.bool (!q t)):=by
 generalize q t=o at *;obtain ⟨y,⟨t1,t2,t3,t4⟩⟩:=t;exact Mw<|AQ Ah func130 rfl [2,3,4,5]<|Ai rfl<|Ad rfl hq<|Ai rfl<|Ab rfl rfl rfl
theorem oE (l:Au) (g:FuncId) (q:Str×Ty->Bool) (hq:∀t∈l,Tq3 g [.agg (Vw t)] (.bool (q t))):Tq3 71 [.sl (dKns l),.fn (.func g)] (.bool (l.all q)):=by
 have hC:=Sn l 130 [] [.ip 116 [.fn (.func g)] 0] (λt=>!q t) λt ht=>gV g q t (hq t ht);refine AQ Ah func71 rfl [2,3,4,5]<|Ai rfl<|Jo rfl (λ_=>hC) rfl (by simp)<|Ai rfl<|Ab rfl rfl (congrArg _ ?_);rw [EY];simp
def Vl (p:Str×Ty):Bool:=ER p.1&&AV true p.2
theorem ZR (p:Str×Ty):Tq3 72 [.agg (Vw p)] (.bool (Vl p)):=by
 have hN:=Gy p.1;have hC:=Fz [p.2];simp only [Da,Jd,Ze] at hC;unfold Vl;generalize AV true p.2=o2 at *;generalize ER p.1=o1 at *;obtain ⟨y,⟨t1,t2,t3,t4⟩⟩:=p;refine AQ Ah func72 rfl [2,3,4,5]<|Ai rfl<|Ad rfl hN<|CW rfl<|Ce rfl hC<|CW rfl ?_;exact Ag ⟨_,rfl,tV (by cases o1 <;> cases o2 <;> rfl),trivial⟩
def Xl (m:Md) (Γ:Au) (t:Tm) (T:List (Int×Ty)) (k:Int) (S:List Ty) (u:List V):St :=
 CI m T k S++[(5,some (.cells 92 1 [.ref 1 0])),(6,some (.immb 49 5 (dTmc t))),(7,some (.immb 118 1 [.sl (dKns Γ)])),(8,some (.immb 25 4 u))]
def wG (m:Md) (Γ:Au) (t:Tm) (T:List (Int×Ty)) (k:Int) (S:List Ty) (u:List V):St :=
 U0 m T k S++[(5,some (.cells 92 1 [.ref 1 0])),(6,some (.immb 49 5 (dTmc t))),(7,some (.immb 118 1 [.sl (dKns Γ)])),(8,some (.immb 25 4 u))]
theorem WY {t:Tm} (hI:Ey m Γ t [] 0 [] (some (τ,T,k,S))) (hs:Sol (BH T) θ) (hl:S.length<=1000000) (hp:(S.map (A9 θ)).all Df=true) :
  Tq4 78 [.ref 5 0,.ref 6 0,.ref 7 0,.ref 8 0] (Xl m Γ t [] 0 [] (Al Dr)) (.ret (.imm (.tup [])) (wG m Γ t T k S (Al τ))):=by
 have hS:=MI m T k S hs hl hp;unfold Ey Cu Dj at hI;obtain ⟨t1,t2,t3,t4,t5⟩:=t;obtain ⟨u1,u2,u3,u4⟩:=τ;exact AQ Ah func78 rfl [4,9,10]<|Ai rfl<|Jf [4] [(1,1),(2,2),(3,3)] [(4,4)] rfl hI Ax rfl rfl<|Ai rfl<|Jf [] [(1,1),(2,2),(4,3)] [] rfl hS Ax rfl rfl<|Ai rfl<|BP ⟨[],Y0⟩
theorem WZ {t:Tm} (hI:Ey m Γ t [] 0 [] (some (τ,T,k,S))) (hs:Sol (BH T) θ) (hl:S.length<=1000000) (hp:(S.map (A9 θ)).all Df=false) :
  Tq4 78 [.ref 5 0,.ref 6 0,.ref 7 0,.ref 8 0] (Xl m Γ t [] 0 [] (Al Dr)) (.pan Gn):=by
 have hS:=OS m T k S hs hl hp;unfold Ey Cu Dj at hI;obtain ⟨t1,t2,t3,t4,t5⟩:=t;obtain ⟨u1,u2,u3,u4⟩:=τ;exact AQ Ah func78 rfl [4,9,10]<|Ai rfl<|Jf [4] [(1,1),(2,2),(3,3)] [(4,4)] rfl hI Ax rfl rfl<|Ai rfl<|Bd [(1,1),(2,2),(4,3)] rfl (by simp) hS Ax rfl rfl rfl<|Ai rfl<|By 9 rfl
theorem ZQ {t:Tm} (hI:Ey m Γ t [] 0 [] none) :
  Tq4 78 [.ref 5 0,.ref 6 0,.ref 7 0,.ref 8 0] (Xl m Γ t [] 0 [] (Al Dr)) (.pan Gn):=by
 unfold Ey Cu Dj at hI;obtain ⟨t1,t2,t3,t4,t5⟩:=t;exact AQ Ah func78 rfl [4,9,10]<|Ai rfl<|Bg 3 [(1,1),(2,2),(3,3)] rfl (by simp) hI Ax rfl rfl rfl<|Bs 7 3 rfl
section
variable {env2:Env} {st2 stx:St} {ids2:List Nat} {c:Code} {all rest:List Oper}
theorem Rx {p:Nat} {fc:Func} {stB:St} {pend:Option Code} (hf:P.funcs[L.fn]?=some fc) (hps:L.ps = #[p]) (hsz:L.tmps.size=n) (hd:J9 d=[]) (hp:p<n) (hfree:Rs ids L.E stx L.F) (hasg:RU P n L.asg ((p,d)::L.E) stx ids env st ids') (h:DGo P n (lA::(L.F++W1 L.E)) (zar pend stB) [.code L.body] env st ids'):Oy P [d] (Do L stx none) pend.isNone (Do L stB pend):=by
 intro I μ w b xs hμ hst hx;have hl0:Az (V9 1 (Do L stx none)) 0 .pin:=AB.2 (.inl ⟨rfl,rfl⟩);have hl1:Az (V9 1 (Do L stx none)) 1 (.bun 0 (Do L stx none)):=AB.2 (.inr ⟨by simp,AB.2 (.inl ⟨rfl,rfl⟩)⟩);obtain ⟨g1,hg1,b',bs,hb1,rfl,hP⟩:=hst.blk 1 _ hl1;rw [hμ] at hb1;cases hb1;have hbs:∀k∈bs,I k=none/\k<w.heap.size:=λk hk=>hst.apart 1 _ _ k hl1 hg1 (DB.2 hk);have hP0:=hP;obtain ⟨r,ν,bs0,e1,hr1,⟨hr2,hr3⟩,⟨hr4,hr5,hr6,hr7,hr8⟩,hE1,hS,hown,hnb,hF⟩:=XW hP hfree hst.imm hbs;subst e1;obtain ⟨x,rfl⟩:∃x,xs = #[x]:=by
  obtain ⟨l⟩:=xs;have:=hx.1
  match l,this with
  | [x],_=>exact ⟨x,rfl⟩
 have hxd1:RepD I ν x d:=(hx.2 0 x d rfl rfl).sub λj hj=>by rw [hd] at hj;cases hj
 have hszp:(#[x]:Array Value).size=r.params.size:=by rw [hr5,hps];rfl
 unfold zaq;rw [run_yield hr1 hszp];refine NG (fc:=fc) (by rw [hr4];exact hf) λfb cs hbf hbr=>?_;rw [hr5,hps,hr6,hr7,hr8];have hfold:((#[p]:Array Nat).zip #[x]).foldl (λtmps (t,a)=>tmps.setIfInBounds t a) L.tmps=L.tmps.setIfInBounds p x:=by simp
 rw [hfold];obtain ⟨hIb,hblt⟩:=hbs b (by simp);have hnob0:¬Bu ν stx b:=λh=>hnb ((hown b).2 h);have hput:∀(w:World) (o:Obj),(w.putObj b o).heap=w.heap.setIfInBounds b o:=λw o=>by
  unfold World.putObj;by_cases hi:b<w.heap.size <;> simp [hi]
 have hoth:∀(w:World) (o:Obj) k,k≠b->(w.putObj b o).heap[k]?=w.heap[k]?:=λw o k hk=>by rw [hput,FV (Ne.symm hk)]
 obtain ⟨c1,c2,c3⟩:=HI (n:=n) (w:=w) (a:={ tmps:=L.tmps,defers:=[] }) (dst:=some p) hE1 hsz (λt ht=>by cases ht;exact hp) hxd1;have hc0:Conc n I ν ((p,d)::L.E) stx ids (Act.put { tmps:=L.tmps,defers:=[] } (some p) x) w:={ hS with size:=c2,env:=c1,defers:=by rw [c3];exact MarksOk.nil _ _ _ _ }
 refine hasg fb cs _ I ν _ w _ hc0 λIA νA aA wA hcA hmA heA=>?_;have hnob:¬Bu νA st b:=λh=>hnob0 (heA.fresh b hblt h);have hrA1:wA.heap[b]?=some (.loop r):=by rw [heA.block b hblt hnob0];exact hr1
 have hIbA:IA b=none:=by rw [heA.old b hblt hnob0];exact hIb
 have hbltA:b<wA.heap.size:=(GH.1 hrA1).1;obtain ⟨w1,hw1⟩:∃w1:World,w1=wA.putObj b (.loop { r with state:=.busy }):=⟨_,rfl⟩
 have hbeg:=run_beginRound (P:=P) hrA1 hr2;refine Reach.step (stepR_beginRound hbr hbeg) ?_;rw [<- hw1];have hmarks:MarksOk IA νA st w1 aA.defers:=by
  obtain ⟨rs,m1,m2,m3⟩:=hcA.defers;refine ⟨rs,m1,m2,λk hk=>⟨?_,(m3 k hk).2⟩⟩;have h0:=(m3 k hk).1;rw [hw1,hoth _ _ k (λe=>by rw [e,hrA1] at h0;cases h0)];exact h0
 have hc:Conc n IA νA env st ids' aA w1 :=
  {hcA.toStRep.other (by rw [hw1,hput];simp) (λk o hk=>by rw [hw1];exact hoth _ _ k (λe=>by rw [e,hIbA] at hk;cases hk)) (λk hk=>by rw [hw1];exact hoth _ _ k (λe=>hnob (e ▸ hk))) with
   size:=hcA.size
   env:=hcA.env
   defers:=hmarks }
 have hgo:=h ⟨fb,.inl (by simp)⟩ cs IA νA _ w1 [.code L.body] AC hc;refine Reach.mono (λe a' w' hpost=>?_) hgo;obtain ⟨x',env',st',ids2,I',μ',p1,p2,p3,p4,p5,p6⟩:=hpost;have hb1:w1.heap[b]?=some (.loop { r with state:=.busy }):=by rw [hw1,hput];simp [hbltA]
 have hsz1:w1.heap.size=wA.heap.size:=by rw [hw1,hput];simp
 have hszA:w.heap.size<=wA.heap.size:=heA.size;have hno2:∀k,k<w.heap.size->¬Bu ν stx k->¬Bu νA st k:=λk hk ho hq=>ho (heA.fresh k hk hq);have hfr2:∀k,k<w.heap.size->Bu μ' st' k->Bu ν stx k:=λk hk ho=>heA.fresh k hk (p5.fresh k (by omega) ho);have hold2:∀k,k<w.heap.size->¬Bu ν stx k->I' k=I k:=λk hk ho=>(p5.old k (by omega) (hno2 k hk ho)).trans (heA.old k hk ho);have himm2:I.le I':=Imm.le_trans heA.imm p5.imm;have hb':w'.heap[b]?=some (.loop { r with state:=.busy }):=by rw [p5.block b (by omega) hnob];exact hb1
 have hno':¬Bu μ' st' b:=λho=>hnob (p5.fresh b (by omega) ho);have hI':I' b=none:=by rw [p5.old b (by omega) hnob];exact hIbA
 have hblt':b<w'.heap.size:=(GH.1 hb').1;have fin:Iw st' stB->∃v w'',(Instr.endRound b pend).run P w' = .ok v w''/\(∃I2 μ2,RepD I2 μ2 v (.imm (.bool pend.isNone))/\StRep I2 μ2 (V9 2 (Do L stB pend)) [] w'' /\
   Pin (DY (V9 1 (Do L stx none))) μ μ2/\Ext I μ (V9 1 (Do L stx none)) w I2 μ2 (V9 2 (Do L stB pend)) w''):=by
  intro hsub;have hSB:StRep I' μ' stB [] w':=p3.toStRep.less (Fq hsub) .nil (λ_ h=>by simp at h);have hownB':∀k,Bu μ' stB k->Bu μ' st' k:=λk ⟨i,bi,g,q1,q2⟩=>⟨i,bi,g,Fq hsub i bi q1,q2⟩
  have hnoB:¬Bu μ' stB b:=λh=>hno' (hownB' b h);obtain ⟨w2,hw2⟩:∃w2:World,w2=w'.putObj b (.loop { r with state:=if pend.isNone then .ready else .done,pending:=pend }):=⟨_,rfl⟩
  have hend:(Instr.endRound b pend).run P w' = .ok (.bool pend.isNone) w2:=by
   have:=run_endRound (P:=P) pend hb';rw [hw2];exact this
  have hw2s:w2.heap.size=w'.heap.size:=by rw [hw2,hput];simp
  have hw2o:∀k,k≠b->w2.heap[k]?=w'.heap[k]?:=λk hk=>by rw [hw2];exact hoth _ _ k hk
  have hSB2:StRep I' μ' stB [] w2:=hSB.other (by omega) (λk o hk=>hw2o k (λe=>by rw [e,hI'] at hk;cases hk)) (λk hk=>hw2o k (λe=>hnoB (e ▸ hk)));obtain ⟨bsN,hbsN⟩:=Q5 μ' stB;have hPN:(Do L stB pend).P I' w2 b (b::bsN):=by
   refine ⟨{ r with state:=if pend.isNone then .ready else .done,pending:=pend },μ',bsN,rfl,by rw [hw2,hput];simp [hblt'],⟨by cases pend <;> rfl,rfl⟩,⟨hr4,hr5,hr6,hr7,hr8⟩,λt d hl=>?_,hSB2.blk,hSB2.inj,hbsN,λhm=>hnoB ((hbsN b).1 hm),λi hi=>?_⟩
   ·exact ((hE1 t d hl).mono himm2 (Mu.le_refl ν)).sub λj hj g hg=>p4 j (by simp [YT hl j hj]) g (hmA j g hg)
   ·exact λg hg0=>p4 i (by simp [hi]) g (hmA i g (hF i hi g hg0))
  obtain ⟨μ2,hμ2⟩:∃μ2:Mu,μ2=λi=>if i=2 then some (.agg (UD (b::bsN))) else μ i:=⟨_,rfl⟩
  have hm0:μ2 0=some (.func (.yield b) #[] #[]):=by rw [hμ2];simpa using hμ
  have hm2:μ2 2=some (.agg (UD (b::bsN))):=by rw [hμ2];simp
  have hold:∀k,k∈b::bsN->k<w.heap.size->k∈b::bs0:=λk hk hlt=>by
   rcases CA.1 hk with rfl | hk
   ·simp
   ·exact HR _ ((hown k).2 (hfr2 k hlt (hownB' k ((hbsN k).1 hk))))
  have hnew:∀k∈b::bsN,I' k=none/\k<w2.heap.size:=λk hk=>by
   rcases CA.1 hk with rfl | hk
   ·exact ⟨hI',by omega⟩
   ·obtain ⟨i,bi,g,q1,q2,q3⟩:=(hbsN k).1 hk;exact hSB2.apart i bi g k q1 q2 q3
  have hownO:∀k,Bu μ (V9 1 (Do L stx none)) k↔k∈b::bs0:=λk=>by
   constructor
   ·rintro ⟨i,bi,g,q1,q2,q3⟩;rcases JA (by simp) q1 with ⟨rfl,rfl⟩ | ⟨rfl,rfl⟩
    ·rw [hμ] at q2;cases q2;exact q3.elim
    ·rw [hg1] at q2;cases q2;exact DB.1 q3
   ·intro hk;exact ⟨1,_,_,hl1,hg1,DB.2 hk⟩
  have hownN:∀k,Bu μ2 (V9 2 (Do L stB pend)) k->k∈b::bsN:=λk=>by
   rintro ⟨i,bi,g,q1,q2,q3⟩;rcases JA (by simp) q1 with ⟨rfl,rfl⟩ | ⟨rfl,rfl⟩
   ·rw [hm0] at q2;cases q2;exact q3.elim
   ·rw [hm2] at q2;cases q2;exact DB.1 q3
  refine ⟨_,w2,hend,I',μ2,.imm _ _ (.bool _),?_,?_,?_⟩
  ·refine { imm:=hSB2.imm,blk:=λi bi hl=>?_,apart:=λi bi g k hl hgi hk=>hnew k (hownN k ⟨i,bi,g,hl,hgi,hk⟩),inj:=λi j bi bj gi gj k hi hj hgi hgj hki hkj=>?_,nodup:=.nil,idsFree:=λ_ h=>by simp at h }
   ·rcases JA (by simp) hl with ⟨rfl,rfl⟩ | ⟨rfl,rfl⟩
    ·exact ⟨_,hm0,b,rfl⟩
    ·exact ⟨_,hm2,b,_,hm0,rfl,hPN⟩
   ·rcases JA (by simp) hi with ⟨rfl,rfl⟩ | ⟨rfl,rfl⟩ <;> rcases JA (by simp) hj with ⟨rfl,rfl⟩ | ⟨rfl,rfl⟩
    ·rfl
    ·rw [hm0] at hgi;cases hgi;exact hki.elim
    ·rw [hm0] at hgj;cases hgj;exact hkj.elim
    ·rfl
  ·intro i hi g hg;simp only [V9,DY,Cv,FB,CA,LJ,or_false] at hi;have:i≠2:=by omega
   rw [hμ2];simp only [if_neg this];exact hg
  ·refine { imm:=himm2,os:=?_,tape:=?_,output:=?_,size:=?_,block:=λk hk hno=>?_,fresh:=λk hk ho=>(hownO k).2 (hold k (hownN k ho) hk),old:=λk hk hno=>hold2 k hk (λh=>hno ((hownO k).2 (HR _ ((hown k).2 h)))) }
   ·have:=p5.os;rw [hw1] at this;rw [hw2,<- heA.os];unfold World.putObj at this ⊢;exact this
   ·have:=p5.tape;rw [hw1] at this;rw [hw2,<- heA.tape];unfold World.putObj at this ⊢;exact this
   ·have:=p5.output;rw [hw1] at this;rw [hw2,<- heA.output];unfold World.putObj at this ⊢;exact this
   ·have:=p5.size;omega
   ·have hkb:k≠b:=λe=>hno ((hownO k).2 (by simp [e]));have hno3:¬Bu ν stx k:=λh=>hno ((hownO k).2 (HR _ ((hown k).2 h)));rw [hw2o k hkb,p5.block k (by omega) (hno2 k hk hno3),hw1,hoth _ _ k hkb,heA.block k hk hno3]
 cases e with
 | normal =>
  cases x' <;> simp only [Ot] at p1;cases pend with
  | none=>exact fin p2
  | some c=>exact p2.elim
 | ret =>
  cases x' <;> simp only [Ot] at p1;cases pend with
  | none=>exact p2.elim
  | some c=>cases c <;> first | exact p2.elim | exact fin p2
 | exit j =>
  cases x' <;> simp only [Ot] at p1;cases pend with
  | none=>exact p2.elim
  | some c =>
   cases c <;> first | exact p2.elim | skip
   obtain ⟨q1,q2⟩:=p2;subst q1;subst p1;exact fin q2
 | goto l =>
  cases x' <;> simp only [Ot] at p1;cases pend <;> exact p2.elim
 | panic chain =>
  cases x' <;> simp only [Ot] at p1;cases pend <;> exact p2.elim
 | outgrown=>cases x' <;> simp only [Ot] at p1
end
def LS (Γ:Au):Au:=Γ.map λp=>(p.1,FI p.2)
theorem iH (Γ:Au) (p:Str×Ty):LS (Γ++[p])=LS Γ++[(p.1,FI p.2)]:=by simp [LS]
def sT (l:List Int) (u:Ty):List Int:=if BQ u=9 then (if num u∈l then l else l++[num u]) else l
theorem mL (l:List Int) (f n:Int) (x:Str) (ps:List Ty):sT l (.mk f n x ps)=if f=9 then (if n∈l then l else l++[n]) else l:=rfl
mutual
theorem VI:∀(t:Ty) (l:List Int),C9 t=true->(GD t).foldl sT l=D2 t l
 | .mk f n x ps,l,hw=>by
  simp only [GD,OO,mL,D2];by_cases h9:f=9
  ·subst h9;have e:=E7 hw rfl;simp only [Ao,num,Ty.mk.injEq] at e;obtain ⟨_,_,rfl,rfl⟩:=e;simp only [CG,Zb,if_true]
  ·rw [if_neg h9,if_neg h9];exact SN ps l λp hp=>EU hw p (by simpa [Ff] using hp)
theorem SN:∀(ts:List Ty) (l:List Int),(∀t∈ts,C9 t=true)->(CG ts).foldl sT l=Cm ts l
 | [],_,_=>rfl
 | t::r,l,hw=>by
  simp only [CG,Za,Cm];rw [VI t l (hw t (by simp)),SN r _ λp hp=>hw p (by simp [hp])]
end
theorem Qu {h:Int}:∀{l:List Int},h∈l->F2 (DJ l) (.int .i64 h) (.bool true)=DJ l
 | x::r,hm=>by
  simp only [DJ,Cv,F2,KJ];by_cases e:x=h
  ·subst e;simp
  ·have e':¬h=x:=λh=>e h.symm;have ih:=Qu (l:=r) (by simpa [e'] using hm);simp only [DJ] at ih;rw [show decide (x=h)=false from decide_eq_false e];simp only [E1,if_false,ih]
def Wj:Code->Option (Code×Code)
 | .rangeFunc _ _ a b=>some (a,b)
 | .seq x y=>match Wj x with
  | some r=>some r
  | none=>Wj y
 | .block _ c=>Wj c
 | .loop c=>Wj c
 | .cond _ x y=>match Wj x with
  | some r=>some r
  | none=>Wj y
 | _=>none
def lC (f:Func):Code:=match Wj (Gx f 0) with
 | some (a,_)=>a
 | none=>.skip
def Y8 (f:Func):Code:=match Wj (Gx f 0) with
 | some (_,b)=>b
 | none=>.skip
def cU (m:Md) (t:Tm) (Γ:Au) (l:List Int):St :=
 [(11,some (.immb 43 3 (dMdc m))),(12,some (.immb 49 5 (dTmc t))),(13,some (.cells 25 4 [.imm (.int .i64 0),.imm (.int .i64 0),.imm (.str []),.nils])),
 (14,some (.immb 118 1 [.sl (dKns Γ)])),(15,some (.map (DJ l))),(16,some (.map [])),(17,some (.cells 123 2 [.mapr 15,.mapr 16])),(18,some (.cells 119 1 [.ref 17 0]))]
def zR (Γ:Au) (i:Nat):Env:=[(42,.imm (.int .i64 i)),(41,.imm (.int .i64 Γ.length)),(40,.imm (.sl (dKns Γ))),(3,.ref 11 0),(5,.ref 12 0),(6,.ref 13 0),(8,.ref 14 0),(9,.ref 18 0)]
theorem Xv (m:Md) (t:Tm) (Γ0 Γ:Au) (i:Nat) (l:List Int) (u:Ty) (h1:prog.funcs[L.fn]?.isSome) (h2:L.tmps.size=Tryz.f26.ntmps) (h3:L.ps = #[56]) (h4:L.asg=lC Tryz.f26) (h5:L.body=Y8 Tryz.f26) (h6:L.E=zR Γ0 i) (h7:L.F=[]):Oy prog [.imm (.agg (Al u))] (Do L (cU m t Γ l) none) true (Do L (cU m t Γ (sT l u)) none):=by
 obtain ⟨fc,hf⟩:=zb5.1 h1;obtain ⟨f,n,x,ps⟩:=u;have hfree:Rs [21,22,23] L.E (cU m t Γ l) L.F:=by
  rw [h6,h7];refine ⟨by decide,?_⟩;simp [cU,zR,W1,J9,F3,UI,I0,DY]
 have hkt:=CE l;have hnew:n∉l->F2 (DJ l) (.int .i64 n) (.bool true)=DJ (l++[n]):=λh=>Iy h;have hold:n∈l->F2 (DJ l) (.int .i64 n) (.bool true)=DJ l:=λh=>Qu h;have hasg:∀stx,RU prog Tryz.f26.ntmps L.asg ((56,.imm (.agg (Al (.mk f n x ps))))::L.E) stx [21,22,23] _ _ _:=λstx=>by
  rw [h4];exact dT Ah rfl rfl rfl rfl (by simp) (by simp)
 refine Rx (pend:=none) hf h3 h2 rfl (by decide) hfree (hasg _) ?_;rw [h5,h6,h7];rw [mL];refine Av rfl ?_;by_cases h9:f=9
 ·subst h9;rw [if_pos rfl];refine R6 rfl λh=>Av rfl<|Fs Ah rfl rfl rfl hkt ?_;by_cases hn:n∈l
  ·rw [hold hn,if_pos hn];exact yg [] rfl (by simp;rfl)<|BP (⟨rfl,rfl,rfl,rfl,rfl,rfl,rfl,rfl,trivial⟩:Iw _ (cU m t Γ l))
  ·rw [hnew hn,if_neg hn];exact yg [] rfl (by simp;rfl)<|BP (⟨rfl,rfl,rfl,rfl,rfl,rfl,rfl,rfl,trivial⟩:Iw _ (cU m t Γ (l++[n])))
 ·rw [if_neg h9];refine Aa rfl (λh=>by exfalso;simp at h;exact h9 h) (λh=>?_);exact Av rfl<|BP (⟨rfl,rfl,rfl,rfl,rfl,rfl,rfl,rfl,trivial⟩:Iw _ (cU m t Γ l))
theorem VD (p q:Addr) (w:World) :
  CallsD prog 119 #[.pointer (some p),.pointer (some q)] .returning w λe u' w'=>e = .returned (.tuple #[])/\u' = .returning/\w'=w:=by
 refine callsD_of_wpS func119 rfl λc₀ cs hu=>?_;apply wpS_seq;apply wpS_region;simp [wpOpsS,go_sem,recoverD,hu,Tryz.ntmps119,Exit.thenS];apply wpS_seq;apply wpS_region;simp [wpOpsS,go_sem,Exit.thenS];refine wpS_cond (t:=false) (by simp [Act.eval,Array.replicate]) ?_;simp only [if_false,E1];refine wpS_of_wp (wp_skip ?_);cases c₀;simp_all [bodyPostS,results,Tryz.results119]
def F4:Array Value:=#[.int .i64 0,.int .i64 0,.string ⟨#[]⟩,.slice none 0 0]
def uY (n:Nat) (w w':World):Prop:=w'.os=w.os/\w'.tape=w.tape/\w'.output=w.output/\w.heap.size<=w'.heap.size/\∀b,b<w.heap.size->b≠n+1->b≠n+2->w'.heap[b]?=w.heap[b]?
theorem Uo (pb:Nat) (w:World) (h1:w.heap[pb+1]?=some (.cells F4 25 (0,0))) (h2:w.heap[pb+2]?=some (.cells #[.bool false] 4 (0,0))) :
  CallsD prog 119 #[.pointer (some ⟨pb+1,0,none⟩),.pointer (some ⟨pb+2,0,none⟩)] (.panicking [{ v:=.iface 171 (.agg #[]),recovered:=false }]) w λe u' w'=>e = .returned (.tuple #[]) /\
   u' = .panicking [{ v:=.iface 171 (.agg #[]),recovered:=true }]/\uY pb w w'/\w'.heap[pb+1]?=some (.cells F4 25 (0,0))/\w'.heap[pb+2]?=some (.cells #[.bool false] 4 (0,0)):=by
 refine callsD_of_wpS func119 rfl λc₀ cs hu=>?_;change Code.wpS _ _ _ { tmps:=#[.pointer (some ⟨pb+1,0,none⟩),.pointer (some ⟨pb+2,0,none⟩),undef,undef,undef,undef,undef,undef,undef,undef,undef,undef,undef,undef,undef,undef,undef],defers:=[] } _ _;apply wpS_seq;apply wpS_region;simp [wpOpsS,go_sem,recoverD,hu,Tryz.ntmps119,Exit.thenS];apply wpS_seq;apply wpS_region;simp [wpOpsS,go_sem,Exit.thenS];refine wpS_cond (t:=true) (by simp [Act.eval,Array.replicate]) ?_;simp only [if_true];refine wpS_of_wp ?_;clear hu;have hta:∀w:World,(Instr.typeAssert (.iface 171 (.agg #[])) 20 171 true).run prog w = .ok (.tuple #[.agg #[],.bool true]) w:=λ_=>by kernel_rfl
 have hsz1:pb+1<w.heap.size:=(GH.1 h1).1;have hsz2:pb+2<w.heap.size:=(GH.1 h2).1;have h1':(w.alloc (.cells #[] 171)).heap[pb+1]?=some (.cells F4 25 (0,0)):=(CR w _ hsz1).trans h1;have h2':(w.alloc (.cells #[] 171)).heap[pb+2]?=some (.cells #[.bool false] 4 (0,0)):=(CR w _ hsz2).trans h2;have hc0:(w.alloc (.cells #[] 171)).cell? ⟨pb+1,0,none⟩=some (.int .i64 0):=by unfold World.cell?;simp [h1',F4]
 have hz0:(w.alloc (.cells #[] 171)).frozen? ⟨pb+1,0,none⟩=false:=by unfold World.frozen?;simp [h1']
 have hc1:(w.alloc (.cells #[] 171)).cell? ⟨pb+1,1,none⟩=some (.int .i64 0):=by unfold World.cell?;simp [h1',F4]
 have hz1:(w.alloc (.cells #[] 171)).frozen? ⟨pb+1,1,none⟩=false:=by unfold World.frozen?;simp [h1']
 have hc2:(w.alloc (.cells #[] 171)).cell? ⟨pb+1,2,none⟩=some (.string ⟨#[]⟩):=by unfold World.cell?;simp [h1',F4]
 have hz2:(w.alloc (.cells #[] 171)).frozen? ⟨pb+1,2,none⟩=false:=by unfold World.frozen?;simp [h1']
 have hc3:(w.alloc (.cells #[] 171)).cell? ⟨pb+1,3,none⟩=some (.slice none 0 0):=by unfold World.cell?;simp [h1',F4]
 have hz3:(w.alloc (.cells #[] 171)).frozen? ⟨pb+1,3,none⟩=false:=by unfold World.frozen?;simp [h1']
 have hcb:(w.alloc (.cells #[] 171)).cell? ⟨pb+2,0,none⟩=some (.bool false):=by unfold World.cell?;simp [h2']
 have hzb:(w.alloc (.cells #[] 171)).frozen? ⟨pb+2,0,none⟩=false:=by unfold World.frozen?;simp [h2']
 have h2'':((w.alloc (.cells #[] 171)).setRow (pb+1) F4).heap[pb+2]?=some (.cells #[.bool false] 4 (0,0)):=(setRow_other _ _ _ _ (by omega)).trans h2';have hcb':((w.alloc (.cells #[] 171)).setRow (pb+1) F4).cell? ⟨pb+2,0,none⟩=some (.bool false):=by unfold World.cell?;simp [h2'']
 have hzb':((w.alloc (.cells #[] 171)).setRow (pb+1) F4).frozen? ⟨pb+2,0,none⟩=false:=by unfold World.frozen?;simp [h2'']
 refine wp_seq (wp_mono (Q:=λe a' w'=>e = .normal/\w'=(w.alloc (.cells #[] 171))/\∃t2 t3 t4 t5 t6 t7 t8 t9 t10 t11 t12 t13 t14 t15 t16,a'={ tmps:=#[.pointer (some ⟨pb+1,0,none⟩),.pointer (some ⟨pb+2,0,none⟩),t2,t3,t4,t5,t6,t7,t8,t9,t10,t11,t12,t13,t14,t15,t16],defers:=[] }) ?_ ?_)
 ·go_wp2
 ·rintro e a' w' ⟨rfl,rfl,t2,t3,t4,t5,t6,t7,t8,t9,t10,t11,t12,t13,t14,t15,t16,rfl⟩;have hbuilt:(prog.built 25 []).getD #[]=F4:=by kernel_rfl
  simp only [Exit.then];refine wp_region_lit<|wpList_build rfl 25 #[] rfl (by kernel_rfl)<|wpList_store_row rfl 25 (.tmp 0) (.tmp 16) rfl (pb+1) F4 rfl (by simp [Act.put,Act.eval,hbuilt]) 25 F4 h1' (by kernel_rfl) rfl (by simp [F4];decide) ?_
  go_wp2
  have hset:=Ek (v:=.bool false) h2'';have hsz:((w.alloc (.cells #[] 171)).setRow (pb+1) F4).heap.size=w.heap.size+1:=by rw [setRow_size];simp
  rw [hset];refine ⟨rfl,_,rfl,.tuple #[],by simp [results,Tryz.results119],rfl,rfl,⟨rfl,rfl,rfl,?_,λb hb hb1 hb2=>?_⟩,?_,?_⟩
  ·simp [setRow_size]
  ·show (Array.setIfInBounds _ (pb+2) _)[b]?=_;rw [FV (by omega),setRow_other _ _ _ _ hb1,CR w _ hb]
  ·show (Array.setIfInBounds _ (pb+2) _)[pb+1]?=_;rw [FV (by omega)];have:=setRow_heap (w.alloc (.cells #[] 171)) (pb+1) F4 F4 _ _ h1';exact this
  ·show (Array.setIfInBounds _ (pb+2) _)[pb+2]?=_;rw [zd5 (by omega)]
def FY (w:World) (a b c d:Value):World:=(((w.alloc (.cells #[a,b,c,d] 25)).alloc (.cells F4 25)).alloc (.cells #[.bool false] 4)).alloc (.cells #[.int .i64 12] 3)
theorem MH (sp a b c d:Value) (h1:a.oneCell'=true/\b.oneCell'=true/\c.oneCell'=true/\d.oneCell'=true) (w:World) (K:Value->World->Prop) (Kp:World->Prop)
  (hcall:Tq6 120 #[sp,.agg #[a,b,c,d],.pointer (some ⟨w.heap.size+3,0,none⟩)] (FY w a b c d) λe w'=>match e with
   | .returned u=>K u w'
   | .panicked chain=>chain=[{ v:=.iface 171 (.agg #[]),recovered:=false }]/\Kp w'
   | .outgrown=>False)
  (hK:∀u w',K u w'->(∃us:Array Value,u = .agg us/\us.size=4/\us.all (·.oneCell')=true)/\w'.heap[w.heap.size+1]?=some (.cells F4 25 (0,0))/\w'.heap[w.heap.size+2]?=some (.cells #[.bool false] 4 (0,0)))
  (hKp:∀w',Kp w'->w'.heap[w.heap.size+1]?=some (.cells F4 25 (0,0))/\w'.heap[w.heap.size+2]?=some (.cells #[.bool false] 4 (0,0))) :
  Tq6 58 #[sp,.agg #[a,b,c,d]] w λe w'=>(∃u w1,K u w1/\e = .returned (.tuple #[u,.bool true])/\uY w.heap.size w1 w')\/(∃w1,Kp w1/\e = .returned (.tuple #[.agg F4,.bool false])/\uY w.heap.size w1 w'):=by
 go_enter_defers func58,Tryz.ntmps58
 have zS:=zQ
 go_wp2_with fail
 refine Calls.mono hcall ?_;intro e w' he;cases e with
 | outgrown=>exact he.elim
 | returned u =>
  obtain ⟨⟨us,rfl,hus,hone⟩,q1,q2⟩:=hK u w' he;have q2':(w'.setRow (w.heap.size+1) us).heap[w.heap.size+2]?=some (.cells #[.bool false] 4 (0,0)):=(setRow_other _ _ _ _ (by omega)).trans q2;have hcb:(w'.setRow (w.heap.size+1) us).cell? ⟨w.heap.size+1+1,0,none⟩=some (.bool false):=by unfold World.cell?;simp [q2']
  have hzb:(w'.setRow (w.heap.size+1) us).frozen? ⟨w.heap.size+1+1,0,none⟩=false:=by unfold World.frozen?;simp [q2']
  simp only;rename_i Kr hKr Ks hKs;apply hKs;refine wpList_store_row rfl 25 (.tmp 4) (.tmp 10) rfl (w.heap.size+1) us rfl rfl 25 F4 q1 ?_ (by rw [hus];rfl) hone ?_
  ·rw [hus];kernel_rfl
  go_wp2
  have hset:=Ek (v:=.bool true) q2';have hsz:w.heap.size+2<w'.heap.size:=(GH.1 q2).1;have hlo:(loadVar 25 ⟨w.heap.size+1,0,none⟩).run prog ((w'.setRow (w.heap.size+1) us).setCell ⟨w.heap.size+1+1,0,none⟩ (.bool true)) = .ok (.agg us) ((w'.setRow (w.heap.size+1) us).setCell ⟨w.heap.size+1+1,0,none⟩ (.bool true)):=by
   obtain ⟨fs,hfs,_⟩:=(Ah 25 _ rfl).sh;refine run_loadVar_row _ _ 25 _ us (0,0) _ ?_ hfs rfl (by rw [hus];kernel_rfl);show ((w'.setRow (w.heap.size+1) us).setCell ⟨w.heap.size+2,0,none⟩ (.bool true)).heap[w.heap.size+1]?=_;rw [hset];show (Array.setIfInBounds _ (w.heap.size+2) _)[w.heap.size+1]?=_;rw [FV (by omega)];exact setRow_heap w' (w.heap.size+1) F4 us _ _ q1
  have hlb:((w'.setRow (w.heap.size+1) us).setCell ⟨w.heap.size+1+1,0,none⟩ (.bool true)).cell? ⟨w.heap.size+1+1,0,none⟩=some (.bool true):=by
   show ((w'.setRow (w.heap.size+1) us).setCell ⟨w.heap.size+2,0,none⟩ (.bool true)).cell? ⟨w.heap.size+2,0,none⟩=_;rw [hset];unfold World.cell?;simp [setRow_size,hsz]
  have hlb2:(loadVar 4 ⟨w.heap.size+1+1,0,none⟩).run prog ((w'.setRow (w.heap.size+1) us).setCell ⟨w.heap.size+1+1,0,none⟩ (.bool true)) = .ok (.bool true) ((w'.setRow (w.heap.size+1) us).setCell ⟨w.heap.size+1+1,0,none⟩ (.bool true)):=by simp [go_sem,hlb]
  refine leaves_cons (f:=119) (args:=#[.pointer (some ⟨w.heap.size+1,0,none⟩),.pointer (some ⟨w.heap.size+1+1,0,none⟩)]) (by simp) (by simp [go_sem])<|(VD _ _ _).mono ?_;rintro e u' w'' ⟨rfl,rfl,rfl⟩;simp [Leaves,settle,results,Tryz.results58,asAddr,hlo,hlb2];refine ⟨_,w',he,rfl,?_⟩;show uY _ w' ((w'.setRow (w.heap.size+1) us).setCell ⟨w.heap.size+2,0,none⟩ (.bool true));rw [hset];refine ⟨rfl,rfl,rfl,by simp [setRow_size],λb hb hb1 hb2=>?_⟩;show (Array.setIfInBounds _ (w.heap.size+2) _)[b]?=_;rw [FV (by omega),setRow_other _ _ _ _ hb1]
 | panicked chain =>
  obtain ⟨rfl,he⟩:=he;obtain ⟨q1,q2⟩:=hKp w' he;simp only;refine leaves_cons (f:=119) (args:=#[.pointer (some ⟨w.heap.size+1,0,none⟩),.pointer (some ⟨w.heap.size+1+1,0,none⟩)]) (by simp) (by simp [go_sem])<|(Uo w.heap.size _ q1 q2).mono ?_;rintro e u' w'' ⟨rfl,rfl,hn,p1,p2⟩;have hlo:(loadVar 25 ⟨w.heap.size+1,0,none⟩).run prog w'' = .ok (.agg F4) w'':=by
   obtain ⟨fs,hfs,_⟩:=(Ah 25 _ rfl).sh;exact run_loadVar_row _ _ 25 _ F4 (0,0) _ p1 hfs rfl (by kernel_rfl)
  have hlb:w''.cell? ⟨w.heap.size+1+1,0,none⟩=some (.bool false):=by unfold World.cell?;simp [p2]
  have hlb2:(loadVar 4 ⟨w.heap.size+1+1,0,none⟩).run prog w'' = .ok (.bool false) w'':=by simp [go_sem,hlb]
  simp [Leaves,settle,results,Tryz.results58,asAddr,hlo,hlb2];exact ⟨w',he,hn⟩
theorem GU:∀{st:St} {i:Nat} {b:Blk},Az st i b->i∈DY st
 | [],i,b,h=>by simp [Az,lk] at h
 | (k,y)::r,i,b,h=>by
  by_cases hk:k=i
  ·subst hk;simp [DY]
  ·have:Az r i b:=by unfold Az at h ⊢;rwa [A6 _ _ hk] at h
   simp only [DY,Cv,CA];exact .inr (GU this)
theorem StRep.restr (hst:StRep I μ st ids w) (hn:∀i∈F3 st,i∈DY st) {l:List Nat} (hl:l.Nodup) (hf:∀i∈l,i∉DY st) :
  ∃ν:Mu,(∀i∈DY st,ν i=μ i)/\StRep I ν st l w/\∀b,Bu ν st b↔Bu μ st b:=by
 obtain ⟨ν,hν⟩:∃ν:Mu,ν=λi=>if EX (DY st) i=true then μ i else none:=⟨_,rfl⟩
 have hν1:∀i∈DY st,ν i=μ i:=λi hi=>by rw [hν];simp [BR.2 hi]
 refine ⟨ν,hν1,?_,λb=>?_⟩
 ·refine { imm:=hst.imm,blk:=λi b hl=>?_,apart:=λi bb g k hl hg hk=>hst.apart i bb g k hl (by rw [<- hν1 i (GU hl)];exact hg) hk,inj:=λi j bi bj gi gj k hi hj hgi hgj=>hst.inj i j bi bj gi gj k hi hj (by rw [<- hν1 i (GU hi)];exact hgi) (by rw [<- hν1 j (GU hj)];exact hgj),nodup:=hl,idsFree:=λi hi=>?_ }
  ·obtain ⟨g,hg,hr⟩:=hst.blk i b hl;refine ⟨g,by rw [hν1 i (GU hl)];exact hg,hr.sub λj hj g hgj=>?_⟩;rw [hν1 j (hn j ((EG hl).2 j hj))];exact hgj
  ·rw [hν];have:=hf i hi;have hm:EX (DY st) i=false:=by
    cases h:EX (DY st) i with
    | false=>rfl
    | true=>exact absurd (BR.1 h) this
   simp [hm]
 ·constructor <;> rintro ⟨i,bi,g,h1,h2,h3⟩
  ·exact ⟨i,bi,g,h1,by rw [<- hν1 i (GU h1)];exact h2,h3⟩
  ·exact ⟨i,bi,g,h1,by rw [hν1 i (GU h1)];exact h2,h3⟩
theorem O0 (w:World) (a b c d:Value):(FY w a b c d).heap.size=w.heap.size+4:=by simp [FY]
theorem Qd (w:World) (a b c d:Value) (h:i<w.heap.size):(FY w a b c d).heap[i]?=w.heap[i]?:=by
 unfold FY;rw [CR _ _ (by simp;omega),CR _ _ (by simp;omega),CR _ _ (by simp;omega),CR _ _ h]
theorem Qc (w:World) (a b c d:Value):(FY w a b c d).heap[w.heap.size+1]?=some (.cells F4 25 (0,0)):=by
 unfold FY;rw [CR _ _ (by simp),CR _ _ (by simp)];have:=Eu (w.alloc (.cells #[a,b,c,d] 25)) (.cells F4 25);simpa using this
theorem SE (w:World) (a b c d:Value):(FY w a b c d).heap[w.heap.size+2]?=some (.cells #[.bool false] 4 (0,0)):=by
 unfold FY;rw [CR _ _ (by simp)];have:=Eu ((w.alloc (.cells #[a,b,c,d] 25)).alloc (.cells F4 25)) (.cells #[.bool false] 4);simpa using this
theorem Yu (m:Md) (T:List (Int×Ty)) (k:Int) (S:List Ty):(∀i∈F3 (CI m T k S),i∈DY (CI m T k S))/\DY (CI m T k S)=[1,2,3]:=⟨Fu (a:=F3 (CI m T k S)) (b:=DY (CI m T k S)) rfl,rfl⟩
theorem zbg {sp a b c d:Value} (hst:StRep I μ (CI m T k S) [] w) (h1:RepD I μ sp (.ref 1 0)) (h2:RepV I (.agg #[a,b,c,d]) (.agg (Al t))) :
  ∃μ1:Mu,StRep I μ1 (HB m T k S 12) [] (FY w a b c d)/\RepL I μ1 #[sp,.agg #[a,b,c,d],.pointer (some ⟨w.heap.size+3,0,none⟩)].toList [.ref 1 0,.imm (.agg (Al t)),.ref 4 0]/\Pin [1,2,3] μ μ1 /\
   (∀i,Bu μ1 (HB m T k S 12) i->i=w.heap.size+3\/Bu μ (CI m T k S) i)/\(∀i,Bu μ (CI m T k S) i->i<w.heap.size)/\∀i,w.heap.size<=i->I i=none:=by
 obtain ⟨n1,n2⟩:=Yu m T k S;obtain ⟨ν,hν,hst1,hown⟩:=hst.restr (l:=[4]) n1 (by simp) (λi hi=>by rw [n2,AN.1 hi];decide);have hlt:∀i o,I i=some o->i<w.heap.size:=λi o h=>(GH.1 (hst.imm i o h)).1;have hol:∀i,Bu μ (CI m T k S) i->i<w.heap.size:=λi h=>Ed hst h;obtain ⟨w3,hw3⟩:∃w3,w3=((w.alloc (.cells #[a,b,c,d] 25)).alloc (.cells F4 25)).alloc (.cells #[.bool false] 4):=⟨_,rfl⟩
 have hsz3:w3.heap.size=w.heap.size+3:=by rw [hw3];simp
 have hold:∀i,i<w.heap.size->w3.heap[i]?=w.heap[i]?:=λi hi=>by
  rw [hw3,CR _ _ (by simp;omega),CR _ _ (by simp;omega),CR _ _ hi]
 have hst3:StRep I ν (CI m T k S) [4] w3:=hst1.other (by omega) (λi o h=>hold i (hlt i o h)) (λi h=>hold i (hol i ((hown i).1 h)));have hws:FY w a b c d=w3.alloc (.cells #[.int .i64 12] 3):=by rw [hw3];rfl
 obtain ⟨μ1,g1,hle,hst4,_⟩:=hst3.allocO (.cells #[.int .i64 12] 3) (.pointer (some ⟨w3.heap.size,0,none⟩)) (λi hi=>hi.symm) (.immb 3 1 [.int .i64 12]) (λμ' _=>⟨rfl,w3.heap.size,#[.int .i64 12],rfl,Eu _ _,⟨rfl,λi v x p q=>by
   match i,p,q with
   | 0,p,q=>cases p;cases q;exact .int _ _
   | i+1,p,q=>simp at p⟩,λv hv=>by simp at hv;rw [hv];rfl⟩)
 have hpin:∀i∈[1,2,3],∀v,μ i=some v->μ1 i=some v:=λi hi v hv=>hle i v (by rw [hν i (by rw [n2];exact hi)];exact hv);refine ⟨μ1,by rw [hws];exact hst4,⟨rfl,λi v dd p q=>?_⟩,hpin,λi ⟨j,bj,g,q1,q2,q3⟩=>?_,hol,λi hi=>?_⟩
 ·match i,p,q with
  | 0,p,q =>
   cases p;cases q;cases h1 with
   | ref b id off hm=>exact .ref b 1 0 (hpin 1 (by decide) _ hm)
  | 1,p,q=>cases p;cases q;exact .imm _ _ h2
  | 2,p,q=>cases p;cases q;exact .ref _ 4 0 (by rw [<- hsz3];exact g1)
  | i+3,p,q=>simp at p
 ·rcases AB.1 q1 with ⟨rfl,rfl⟩ | ⟨hne,q1⟩
  ·rw [g1] at q2;cases q2;left;have:w3.heap.size=i:=q3;omega
  ·right;have hj:=GU q1;obtain ⟨g0,hg0,_⟩:=hst3.blk j bj q1;have:=hle j g0 hg0;rw [q2] at this;cases this;exact (hown i).1 ⟨j,bj,g,q1,hg0,q3⟩
 ·cases h:I i with
  | none=>rfl
  | some o=>have:=hlt i o h;omega
theorem Qa {xs:Array Value} (hxs:RepL I μ xs.toList [.ref 1 0,.imm (.agg (Al t))]) :
  ∃sp a b c d,xs = #[sp,.agg #[a,b,c,d]]/\RepD I μ sp (.ref 1 0)/\RepV I (.agg #[a,b,c,d]) (.agg (Al t))/\a.oneCell'=true/\b.oneCell'=true/\c.oneCell'=true/\d.oneCell'=true:=by
 obtain ⟨l,rfl⟩:∃l:List Value,xs=l.toArray:=⟨xs.toList,by simp⟩
 rw [MA] at hxs
 match l,hxs with
 | [v,u],hxs =>
  have h1:=hxs.2 0 v _ rfl rfl;have h2:=(hxs.2 1 u _ rfl rfl).immInv;have key:∀u,RepV I u (.agg (Al t))->∃a b c d,u = .agg #[a,b,c,d]/\a.oneCell'=true/\b.oneCell'=true/\c.oneCell'=true/\d.oneCell'=true:=λu hu=>by
   cases hu with
   | agg cs _ hl h1 _ =>
    have hl4:cs.toList.length=4:=by rw [WI,hl];obtain ⟨t1,t2,t3,t4⟩:=t;rfl
    obtain ⟨l,rfl⟩:∃l:List Value,cs=l.toArray:=⟨cs.toList,by simp⟩
    rw [MA] at hl4 h1
    match l,hl4,h1 with
    | [a,b,c,d],_,h1=>exact ⟨a,b,c,d,rfl,h1 a (by simp),h1 b (by simp),h1 c (by simp),h1 d (by simp)⟩
  obtain ⟨a,b,c,d,rfl,q⟩:=key u h2;exact ⟨v,a,b,c,d,rfl,h1,h2,q⟩
 | [],hxs=>exact absurd hxs.1 (by simp)
 | [_],hxs=>exact absurd hxs.1 (by simp)
 | _::_::_::_,hxs=>exact absurd hxs.1 (by simp)
theorem eD {u:Ty} {c':Int} (hF:RT m T k S t 12 u c') :
  Tq4 58 [.ref 1 0,.imm (.agg (Al t))] (CI m T k S) (.ret (.imm (.tup [.agg (Al u),.bool true])) (CI m T k S)):=by
 intro I μ w xs hst hxs;obtain ⟨sp,a,b,c,d,rfl,h1,h2,hone⟩:=Qa hxs;obtain ⟨μ1,hst1,hx1,hpin,hown,hol,hIn⟩:=zbg hst h1 h2;rw [B6 func58 (by decide +kernel) rfl];unfold RT at hF;have hcall:=hF I μ1 _ _ hst1 hx1;rw [B6 func120 (by decide +kernel) rfl] at hcall;show Tq6 _ _ w _;have hno1:¬Bu μ1 (HB m T k S 12) (w.heap.size+1):=λh=>by
  rcases hown _ h with h | h
  ·omega
  ·have:=hol _ h;omega
 have hno2:¬Bu μ1 (HB m T k S 12) (w.heap.size+2):=λh=>by
  rcases hown _ h with h | h
  ·omega
  ·have:=hol _ h;omega
 have hws:=O0 w a b c d;refine Calls.mono (MH sp a b c d hone w (λv w'=>∃I' μ',RepD I' μ' v (.imm (.agg (Al u)))/\StRep I' μ' (HB m T k S c') [] w'/\Pin (DY (HB m T k S 12)) μ1 μ'/\Ext I μ1 (HB m T k S 12) (FY w a b c d) I' μ' (HB m T k S c') w') (λ_=>False) (Calls.mono hcall λe w' he=>?_) (λv w' ⟨I',μ',q1,q2,q3,q4⟩=>⟨?_,?_,?_⟩) (λ_ h=>h.elim)) ?_
 ·cases e with
  | returned v=>exact he
  | panicked=>exact he.elim
  | outgrown=>exact he.elim
 ·have key:∀v,RepV I' v (.agg (Al u))->∃us:Array Value,v = .agg us/\us.size=4/\us.all (·.oneCell')=true:=λv hv=>by
   cases hv with
   | agg cs _ hl h1 _=>exact ⟨cs,rfl,by rw [hl];obtain ⟨u1,u2,u3,u4⟩:=u;rfl,by rw [Array.all_eq_true_iff_forall_mem];exact λx hx=>h1 x (by simpa using hx)⟩
  exact key v q1.immInv
 ·exact (q4.block _ (by omega) hno1).trans (Qc w a b c d)
 ·exact (q4.block _ (by omega) hno2).trans (SE w a b c d)
 ·rintro e w2 (⟨v,w1,⟨I',μ',q1,q2,q3,q4⟩,rfl,n1,n2,n3,n4,n5⟩ | ⟨_,hx,_⟩)
  ·have hI1:I' (w.heap.size+1)=none:=(q4.old _ (by omega) hno1).trans (hIn _ (by omega));have hI2:I' (w.heap.size+2)=none:=(q4.old _ (by omega) hno2).trans (hIn _ (by omega));have hsub:∀i bi,Az (CI m T k S) i bi->Az (HB m T k S c') i bi:=λi bi hl=>AB.2 (.inr ⟨λe=>by
    have:=GU hl;rw [(Yu m T k S).2] at this;simp only [CA,LJ,or_false] at this;omega,hl⟩)
   have hosub:∀i,Bu μ' (CI m T k S) i->Bu μ' (HB m T k S c') i:=λi ⟨j,bj,g,p1,p2,p3⟩=>⟨j,bj,g,hsub j bj p1,p2,p3⟩
   have hfr:∀i,Bu μ' (HB m T k S c') i->i≠w.heap.size+1/\i≠w.heap.size+2:=λi hi=>⟨λe=>hno1 (e ▸ q4.fresh i (by omega) hi),λe=>hno2 (e ▸ q4.fresh i (by omega) hi)⟩
   refine ⟨I',μ',?_,?_,?_,?_⟩
   ·refine .imm _ _ (.tup _ _ rfl λi y x p q=>?_)
    match i,p,q with
    | 0,p,q=>cases p;cases q;exact q1.immInv
    | 1,p,q=>cases p;cases q;exact .bool true
    | i+2,p,q=>simp at p
   ·refine (q2.less hsub .nil (λi hi=>by cases hi)).other n4 (λi o h=>?_) (λi h=>?_)
    ·exact n5 i (GH.1 (q2.imm i o h)).1 (λe=>by rw [e,hI1] at h;cases h) (λe=>by rw [e,hI2] at h;cases h)
    ·have:=hfr i (hosub i h);exact n5 i (Ed q2 (hosub i h)) this.1 this.2
   ·intro i hi x hx;rw [(Yu m T k S).2] at hi;exact q3 i (HR _ hi) x (hpin i hi x hx)
   ·have hnot:∀i,i<w.heap.size->¬Bu μ (CI m T k S) i->¬Bu μ1 (HB m T k S 12) i:=λi hi ho h=>by
     rcases hown i h with h | h
     ·omega
     ·exact ho h
    exact { imm:=q4.imm,os:=n1.trans q4.os,tape:=n2.trans q4.tape,output:=n3.trans q4.output,size:=by have:=q4.size;omega,
            block:=λi hi ho=>(n5 i (by have:=q4.size;omega) (by omega) (by omega)).trans ((q4.block i (by omega) (hnot i hi ho)).trans (Qd w a b c d hi)),
            fresh:=λi hi ho=>(hown i (q4.fresh i (by omega) (hosub i ho))).elim (λe=>by omega) id,
            old:=λi hi ho=>q4.old i (by omega) (hnot i hi ho) }
  ·exact hx.elim
theorem jR (hF:V6 m T k S t 12) :
  Tq4 58 [.ref 1 0,.imm (.agg (Al t))] (CI m T k S) (.ret (.imm (.tup [.agg (Al Dr),.bool false])) []):=by
 intro I μ w xs hst hxs;obtain ⟨sp,a,b,c,d,rfl,h1,h2,hone⟩:=Qa hxs;obtain ⟨μ1,hst1,hx1,hpin,hown,hol,hIn⟩:=zbg hst h1 h2;rw [B6 func58 (by decide +kernel) rfl];unfold V6 at hF;have hcall:=hF I μ1 _ _ hst1 hx1;rw [B6 func120 (by decide +kernel) rfl] at hcall;show Tq6 _ _ w _;have hno1:¬Bu μ1 (HB m T k S 12) (w.heap.size+1):=λh=>by
  rcases hown _ h with h | h
  ·omega
  ·have:=hol _ h;omega
 have hno2:¬Bu μ1 (HB m T k S 12) (w.heap.size+2):=λh=>by
  rcases hown _ h with h | h
  ·omega
  ·have:=hol _ h;omega
 have hws:=O0 w a b c d;refine Calls.mono (MH sp a b c d hone w (λ_ _=>False) (λw'=>∃I',I'.ok w'/\Ext I μ1 (HB m T k S 12) (FY w a b c d) I' μ1 [] w') (Calls.mono hcall λe w' he=>?_) (λ_ _ h=>h.elim) (λw' ⟨I',q2,q4⟩=>⟨?_,?_⟩)) ?_
 ·cases e with
  | returned v=>exact he.elim
  | panicked chain =>
   obtain ⟨v,x,I',e1,e2,e3,e4,e5⟩:=he;subst e2;have key:∀v,RepV I' v nP->v = .iface 171 (.agg #[]):=λv hv=>by
    cases hv with
    | iface _ v' _ hv =>
     cases hv with
     | agg cs _ hl _ _ =>
      have:cs = #[]:=Zj (by simpa using hl);subst this;rfl
   rw [key v e3] at e1;exact ⟨e1,I',e4,e5⟩
  | outgrown=>exact he.elim
 ·exact (q4.block _ (by omega) hno1).trans (Qc w a b c d)
 ·exact (q4.block _ (by omega) hno2).trans (SE w a b c d)
 ·rintro e w2 (⟨_,_,hx,_⟩ | ⟨w1,⟨I',q2,q4⟩,rfl,n1,n2,n3,n4,n5⟩)
  ·exact hx.elim
  ·have hI1:I' (w.heap.size+1)=none:=(q4.old _ (by omega) hno1).trans (hIn _ (by omega));have hI2:I' (w.heap.size+2)=none:=(q4.old _ (by omega) hno2).trans (hIn _ (by omega));have hnot:∀i,i<w.heap.size->¬Bu μ (CI m T k S) i->¬Bu μ1 (HB m T k S 12) i:=λi hi ho h=>by
    rcases hown i h with h | h
    ·omega
    ·exact ho h
   refine ⟨I',μ,?_,?_,Pin.refl _ _,?_⟩
   ·refine .imm _ _ (.tup _ _ rfl λi y x p q=>?_)
    match i,p,q with
    | 0,p,q =>
     cases p;cases q;exact HD I'
    | 1,p,q=>cases p;cases q;exact .bool false
    | i+2,p,q=>simp at p
   ·exact { imm:=λi o h=>(n5 i (GH.1 (q2 i o h)).1 (λe=>by rw [e,hI1] at h;cases h) (λe=>by rw [e,hI2] at h;cases h)).trans (q2 i o h),blk:=λid blk hl=>(by cases hl),apart:=λid blk g b hl=>(by cases hl),inj:=λi j bi bj gi gj b hl=>(by cases hl),nodup:=.nil,idsFree:=λid hi=>(by cases hi) }
   ·exact { imm:=q4.imm,os:=n1.trans q4.os,tape:=n2.trans q4.tape,output:=n3.trans q4.output,size:=by have:=q4.size;omega,
            block:=λi hi ho=>(n5 i (by have:=q4.size;omega) (by omega) (by omega)).trans ((q4.block i (by omega) (hnot i hi ho)).trans (Qd w a b c d hi)),
            fresh:=λi hi ⟨j,bj,g,hl,_⟩=>(by cases hl),
            old:=λi hi ho=>q4.old i (by omega) (hnot i hi ho) }
theorem G7 (m:Md) (k:Int):Tq4 54 [.imm (.agg (dMdc m)),.imm (.int .i64 k)] [] (.ret (.ref 1 0) (CI m [] k [])):=by
 obtain ⟨m1,m2,m3⟩:=m;exact AQ Ah func54 rfl [4,2,1,3,5,6]<|Ai rfl<|Ev rfl<|N0 4 rfl (by simp)<|DV 1 3 (e:=25) (sz:=4) [.imm (.str m1),.imm (.sl (m2.map BE)),.imm (.sl (m3.map Cg)),.mapr 2,.imm (.int .i64 k),.own 3 0] (by decide) rfl ⟨.inl rfl,.inl rfl,.inl rfl,.inl rfl,.inl rfl,.inr ⟨rfl,rfl⟩,trivial⟩<|Av rfl<|Ag ⟨_,BA⟩
mutual
theorem Q7:∀t:Ty,B9 t=DH t
 | .mk _ _ _ ps=>by simp only [B9,DH,Tj ps]
theorem Tj:∀ps:List Ty,A1 ps=CX ps
 | []=>rfl
 | t::r=>by simp only [A1,CX,Q7 t,Tj r]
end
theorem iI (h:AV true t=true):DH t<=12:=by
 simp only [AV,A2,decide_eq_true_eq] at h;rw [<- Q7];exact h.1
theorem zbh (hs:Sol (BH T) θ) (hw:C9 t=true) :
  (DH (A9 θ t)<=12->Tq4 58 [.ref 1 0,.imm (.agg (Al t))] (CI m T k S) (.ret (.imm (.tup [.agg (Al (A9 θ t)),.bool true])) (CI m T k S))) /\
  (12<DH (A9 θ t)->Tq4 58 [.ref 1 0,.imm (.agg (Al t))] (CI m T k S) (.ret (.imm (.tup [.agg (Al Dr),.bool false])) [])):=by
 obtain ⟨h1,h2⟩:=oW m T k S hs _ t (BL _) hw 12 (by omega) (by omega);exact ⟨λh=>eD (h1 (by omega)),λh=>jR (h2 (by omega))⟩
def fQ:List (Int×Ty)->Int
 | []=>-1
 | p::r=>max p.1 (fQ r)
theorem mO {x:Int}:∀{T:List (Int×Ty)},(∀p∈T,p.1<=x)->(x = -1\/∃p∈T,p.1=x)->(∀p∈T,0<=p.1) -> -1<=x->fQ T=x:=by
 have hle:∀{T:List (Int×Ty)},-1<=x->(∀p∈T,p.1<=x)->fQ T<=x:=λ{T} hx h=>by
  induction T with
  | nil=>simpa [fQ] using hx
  | cons p r ih=>simp only [fQ];have:=h p (by simp);have:=ih λq hq=>h q (by simp [hq]);omega
 have hge:∀{T:List (Int×Ty)},(∃p∈T,p.1=x)->x<=fQ T:=λ{T} h=>by
  induction T with
  | nil=>obtain ⟨p,hp,_⟩:=h;cases hp
  | cons p r ih =>
   obtain ⟨q,hq,e⟩:=h;simp only [fQ];rcases CA.1 hq with rfl | hq
   ·omega
   ·have:=ih ⟨q,hq,e⟩;omega
 have hm1:∀{T:List (Int×Ty)},-1<=fQ T:=λ{T}=>by
  induction T with
  | nil=>simp [fQ]
  | cons p r ih=>simp only [fQ];omega
 intro T h1 h2 h3 h4;have:=hle h4 h1;rcases h2 with rfl | h2
 ·have:=@hm1 T;omega
 ·have:=hge h2;omega
noncomputable def zdm (T:List (Int×Ty)) (θ:Int->Ty):List Ty:=(List.range (fQ T+1).toNat).map λi:Nat=>θ i
def FD (n:Int):V:=.int .i64 n
def sX:Md:=⟨[],[],[]⟩
theorem cN (h:RepD I μ v .nils):RepV I v (.sl []):=by
 cases h;exact .slnil
theorem sW (h:RepD I μ v (.agg [.imm (.str []),.nils,.nils])):RepD I μ v (.imm (.agg (dMdc sX))):=by
 cases h with
 | agg cs _ hl h1 h =>
  refine .imm _ _ (.agg cs _ hl h1 λi c x hc hx=>?_)
  match i,hx with
  | 0,hx=>cases hx;exact (h 0 c _ hc rfl).immInv
  | 1,hx=>cases hx;exact cN (h 1 c _ hc rfl)
  | 2,hx=>cases hx;exact cN (h 2 c _ hc rfl)
  | i+3,hx=>simp [dMdc] at hx
theorem Lq:Tq4 54 [.agg [.imm (.str []),.nils,.nils],.imm (.int .i64 0)] [] (.ret (.ref 1 0) (CI sX [] 0 [])):=λI μ w xs hst hx=>G7 sX 0 I μ w xs hst ⟨hx.1,λi v d p q=>by
 match i,q with
 | 0,q=>cases q;exact sW (hx.2 0 v _ p rfl)
 | 1,q=>cases q;exact hx.2 1 v _ p rfl
 | i+2,q=>simp at q⟩
theorem gW (a b:Ty) (h:(AV true a&&AV true b)=true) (hE:DL sX [] 0 [] a b):Tq3 13 [.agg (Al a),.agg (Al b)] (.tup [.sl [],FD 7]):=by
 have hK:=Fz [a,b];simp only [Da,Jd,Ze] at hK;rw [h] at hK;have hS:=Lq;have hH:=Kh func55 (by decide +kernel) rfl Fy func56 (by decide +kernel) rfl (df:=[]) (dc:=[.ref 4 0,.ref 5 0,.ref 6 0]) (eH hE);obtain ⟨a1,a2,a3,a4⟩:=a;obtain ⟨b1,b2,b3,b4⟩:=b;exact AQ Ah func13 rfl [5,6,1,2,3,4,7]<|Ai rfl<|Ad rfl hK<|Ai rfl<|R7 rfl λh=>Av rfl<|Jf [1,2,3] [] [(1,1),(2,2),(3,3)] rfl hS trivial rfl rfl<|Ai rfl<|Jf [] [(1,1),(2,2),(3,3),(4,4),(5,5),(6,6)] [] rfl hH ⟨⟨rfl,rfl,rfl⟩,⟨rfl,rfl,rfl⟩,⟨rfl,rfl,rfl⟩,⟨rfl,rfl,rfl⟩,⟨rfl,rfl,rfl⟩,⟨rfl,rfl,rfl⟩,trivial⟩ rfl rfl<|Ai rfl<|R6 rfl λh=>Av rfl<|Ab rfl rfl rfl
theorem Y1 {bs:List Nat} {ks:List Tr} {n:Int} (his:IC ks ps) (h:(Fv v ks).P vs I w bs) (hle:I.le J) (hJ:∀b∈bs,J b=w.heap[b]?) (cs:List Value) (hc:RepL J noMu cs [.imm (.int .i64 f),.imm (.int .i64 n),.imm (.str x),.raw v]):RepVL J cs (Al (.mk f n x ps)):=by
 obtain ⟨h1,h2,h3,h4⟩:=h;have hv:RepV J v (.sl (A0 ps)):=Wh h1 h2 (λk hk=>hJ k (by rw [h3];simp [hk])) his λi a t ha ht =>
  cR ((IB.1 his).2 i a t ha ht) (Fb.1 h2 i a ha).2 λk hk=>hJ k (by rw [h3];simp only [BU];exact .inr (M7.2 ⟨a,AK ha,hk⟩))
 obtain ⟨l1,l2⟩:=hc;refine ⟨l1,λi c y hi hy=>?_⟩
 match i,hy with
 | 0,hy=>cases hy;exact (l2 0 c _ hi rfl).immInv
 | 1,hy=>cases hy;exact (l2 1 c _ hi rfl).immInv
 | 2,hy=>cases hy;exact (l2 2 c _ hi rfl).immInv
 | 3,hy =>
  cases hy;have:=l2 3 c _ hi rfl;cases this with
  | raw _ _=>exact hv
 | i+4,hy=>simp at hy
def infE:Env:=[(3,.ref 11 0),(5,.ref 12 0),(6,.ref 13 0),(8,.ref 14 0),(9,.ref 18 0)]
def Nz (m:Md) (t:Tm) (Γ:Au) (stay:List Int) (out:V):Prop :=
 Tq2 Tryz.f26.ntmps (DY []) (Lb Yj Tryz.f26.results.toList (.ret (.imm out) [])) [.code (Gx Tryz.f26 5)] infE (cU m t Γ stay) [1,2,3,21,22,4,23,24,25,26,27]
theorem TE (m:Md) (t:Tm) (Γ:Au) (stay:List Int) (hE:Tq4 78 [.ref 5 0,.ref 6 0,.ref 7 0,.ref 8 0] (Xl m Γ t [] 0 [] (Al Dr)) (.pan Gn)):Nz m t Γ stay (.tup [.agg (Al Dr),FD 7]):=by
 have hS:=G7 m 0;have hH:=Kh func55 (by decide +kernel) rfl Fy func78 (by decide +kernel) rfl (df:=[]) (dc:=[.ref 5 0,.ref 6 0,.ref 7 0,.ref 8 0]) hE;clear hE;obtain ⟨m1,m2,m3⟩:=m;obtain ⟨t1,t2,t3,t4,t5⟩:=t;unfold Nz;exact Av rfl<|Jf [1,2,3] [] [(1,1),(2,2),(3,3)] rfl hS trivial rfl rfl<|N0 6 rfl (by simp)<|R5 22 (t:=25) (sz:=4) (ds:=[.imm (.int .i64 0),.imm (.int .i64 0),.imm (.str []),.nils]) (Al Dr) rfl rfl<|Av rfl<|Jf [] [(1,1),(2,2),(3,3),(21,5),(12,6),(14,7),(22,8)] [] rfl hH Wb rfl rfl<|Ai rfl<|R6 rfl λh=>Av rfl<|Ab rfl rfl rfl
mutual
theorem dA:∀(t:Ty) (l:List Int),(D2 t l).length<=l.length+DH t
 | .mk f n x ps,l=>by
  simp only [D2,DH]
  split
  ·split
   ·omega
   ·simp only [AZ,Cq,B5];omega
  ·have:=Xu ps l;omega
theorem Xu:∀(ts:List Ty) (l:List Int),(Cm ts l).length<=l.length+CX ts
 | [],l=>by simp [Cm]
 | t::r,l=>by
  simp only [Cm,CX];have h1:=dA t l;have h2:=Xu r (D2 t l);omega
end
noncomputable def OV (stay:List Int) (u:Ty):V :=
 if DH u<=12 then (if AV true (G4 stay (D2 u []) u)=true then .tup [.agg (Al (G4 stay (D2 u []) u)),FD 0] else .tup [.agg (Al Dr),FD 3]) else .tup [.agg (Al Dr),FD 3]
theorem Xg (m:Md) (t:Tm) (Γ:Au) (stay:List Int) (hE:Tq4 78 [.ref 5 0,.ref 6 0,.ref 7 0,.ref 8 0] (Xl m Γ t [] 0 [] (Al Dr)) (.ret (.imm (.tup [])) (wG m Γ t T k S (Al τ)))) (hs:Sol (BH T) θ) (hw:C9 τ=true) (hst:stay.length<=1000000):Nz m t Γ stay (OV stay (A9 θ τ)):=by
 have hS:=G7 m 0;have hH:=II func55 (by decide +kernel) rfl Fy func78 (by decide +kernel) rfl (df:=[]) (dc:=[.ref 5 0,.ref 6 0,.ref 7 0,.ref 8 0]) hE;clear hE;obtain ⟨w1,w2⟩:=zbh (m:=m) (k:=k) (S:=S) hs hw;have huw:C9 (A9 θ τ)=true:=VB (λn=>hs.wfθ n) _ hw;clear hs hw;generalize A9 θ τ=u at *;unfold OV;obtain ⟨m1,m2,m3⟩:=m;obtain ⟨t1,t2,t3,t4,t5⟩:=t;obtain ⟨a1,a2,a3,a4⟩:=τ;unfold Nz
 refine Av rfl<|Jf [1,2,3] [] [(1,1),(2,2),(3,3)] rfl hS trivial rfl rfl<|N0 6 rfl (by simp)<|R5 22 (t:=25) (sz:=4) (ds:=[.imm (.int .i64 0),.imm (.int .i64 0),.imm (.str []),.nils]) (Al Dr) rfl rfl<|Av rfl<|Jf [4] [(1,1),(2,2),(3,3),(21,5),(12,6),(14,7),(22,8)] [(4,4)] rfl hH Wb rfl rfl<|Ai rfl<|R7 rfl λh=>Av rfl ?_;by_cases hsz:DH u<=12
 ·have hW:=w1 hsz;have hC:=Rb u huw;have hgl:(D2 u []).length<=1000000:=by have:=dA u [];simp at this;omega
  have hN:=mD stay hst u [] huw hgl;have hF:=Fz [G4 stay (D2 u []) u];simp only [Da,Jd,Ze] at hF;rw [if_pos hsz];unfold jH at hN;have e0:tkL stay []=stay:=by simp [tkL]
  have e1:nbS stay []=[(1,some (.cells 123 2 [.mapr 2,.mapr 3])),(2,some (.map (DJ stay))),(3,some (.map []))]:=by rw [nbS,e0];rfl
  rw [e1] at hN;obtain ⟨nb,hnb⟩:∃x,nbS stay (D2 u [])=[(1,some (.cells 123 2 [.mapr 2,.mapr 3])),(2,some (.map x.1)),(3,some (.map x.2))]:=⟨(_,_),rfl⟩
  rw [hnb] at hN;generalize G4 stay (D2 u []) u=v at *;generalize hfo:AV true v=fo at *;clear w1 w2 e0 e1 hgl huw hnb hH;obtain ⟨u1,u2,u3,u4⟩:=u;obtain ⟨v1,v2,v3,v4⟩:=v;refine Jf [] [(1,1),(2,2),(4,3)] [] rfl hW Ax rfl rfl<|Ai rfl<|R7 rfl λh=>Av rfl<|A4 (fr:=[24]) [] [(1,24)] [] (nm:=[24]) rfl trivial (by simp) hC trivial rfl trivial rfl rfl rfl<|Ai rfl<|A4 (fr:=[25]) [(17,1),(15,2),(16,3),(24,4)] [(5,25)] [] (nm:=[17,15,16,25,17,15,16,24]) rfl trivial (by simp) hN JK rfl trivial rfl rfl rfl<|N0 3 rfl (by simp;rfl)<|R4 (ids':=[27]) 25 26 (λx:Value×{ ks:List Tr // IC ks v4 }=>[x.1]) (λx=>Fv x.1 x.2.1) rfl (λvs I w bs h=>by obtain ⟨v,ks,h1,h2,h3⟩:=h;exact ⟨(v,⟨ks,h1⟩),h2,h3⟩) λy=>?_
  obtain ⟨vv,⟨ks,his⟩⟩:=y;refine Vt 26 23 (Al (.mk v1 v2 v3 v4)) rfl rfl (λvs I J w bs h1 h2 h3 cs hc=>Y1 his h1 h2 h3 cs hc) rfl<|Av rfl<|Ad rfl hF<|Ai rfl ?_;cases fo with
  | false =>
   exact R6 rfl λh=>Av rfl<|Ab rfl rfl rfl
  | true =>
   exact R7 rfl λh=>Av rfl<|Ab rfl rfl rfl
 ·have hW:=w2 (by omega);rw [if_neg hsz];exact Jf [] [(1,1),(2,2),(4,3)] [] rfl hW Ax rfl rfl<|Ai rfl<|R6 rfl λh=>Av rfl<|Ab rfl rfl rfl
def MQ (m:Md) (Γ:Au) (t:Tm):Bool:=G3 m&&decide (Γ.length<=20)&&Γ.all Vl&&Im t
theorem zcb (m:Md) (Γ:Au) (t:Tm) (h:MQ m Γ t=false):Tq3 26 [.agg (dMdc m),.sl (dKns Γ),.agg (dTmc t)] (.tup [.agg (Al Dr),FD 2]):=by
 have hM:=FR m;have hA:=oE Γ 72 Vl λp _=>ZR p;have hC:=Yh t;unfold MQ at h;unfold Su at hM hC;have hgl:decide (Γ.length<=20) = !decide ((20:Int)<Γ.length):=by
  by_cases h:Γ.length<=20
  ·rw [decide_eq_true h,decide_eq_false (by omega)];rfl
  ·rw [decide_eq_false h,decide_eq_true (by omega)];rfl
 rw [hgl] at h;clear hgl;have hlen:(dKns Γ).length=Γ.length:=dKns_length Γ;generalize dKns Γ=es at *;generalize Γ.all Vl=o2 at *;generalize Γ.length=n at *;generalize G3 m=o1 at *;generalize Im t=o3 at *;obtain ⟨m1,m2,m3⟩:=m;obtain ⟨t1,t2,t3,t4,t5⟩:=t;refine AQ Ah func26 rfl [11,12,13,14]<|Ai rfl<|Ad rfl hM<|CW rfl<|Ce rfl hA<|CW rfl<|Ce rfl hC<|CW rfl<|Aa rfl (λhh=>?_) (λhh=>?_)
 ·exact Av rfl<|Ab rfl rfl rfl
 ·exfalso;rw [hlen] at hh;generalize decide ((20:Int)<n)=o4 at *;cases o1 <;> cases o2 <;> cases o3 <;> cases o4 <;> simp_all [Id.run]
theorem NY (m:Md) (Γ:Au) (t:Tm) (h:MQ m Γ t=true) (hw:∀p∈Γ,C9 p.2=true) {out:V} (hT:Nz m t (LS Γ) (Gz Γ []) out):Tq3 26 [.agg (dMdc m),.sl (dKns Γ),.agg (dTmc t)] out:=by
 have hM:=FR m;have hA:=oE Γ 72 Vl λp _=>ZR p;have hC:=Yh t;unfold MQ at h;simp only [A2,decide_eq_true_eq] at h;obtain ⟨⟨⟨q1,q2⟩,q3⟩,q4⟩:=h;unfold Su at hM hC;rw [q1] at hM;rw [q3] at hA;rw [q4] at hC;clear q1 q3 q4;have hlen:(dKns Γ).length=Γ.length:=dKns_length Γ;obtain ⟨m1,m2,m3⟩:=m;obtain ⟨t1,t2,t3,t4,t5⟩:=t;refine AQ Ah func26 rfl [11,12,13,14,15,16,17,18,19,6,1,2,3,4,21,22,23,24,25,26,27]<|Ai rfl<|Ad rfl hM<|CW rfl<|Ce rfl hA<|CW rfl<|Ce rfl hC<|CW rfl<|Aa rfl (λhh=>?_) (λhh=>?_)
 ·exfalso;rw [hlen] at hh;have:decide ((20:Int)<Γ.length)=false:=decide_eq_false (by omega);simp [this] at hh
 refine Av rfl<|Ev rfl<|Ai rfl<|Ev rfl<|N0 6 rfl (by simp)<|R5 14 (t:=118) (sz:=1) (ds:=[.nils]) [.sl []] rfl rfl<|Av rfl<|Ak (λi:Nat=>zR Γ i) (λi=>cU ⟨m1,m2,m3⟩ (.mk t1 t2 t3 t4 t5) (LS (Γ.take i)) (Gz (Γ.take i) [])) [19,6,1,2,3,21,22,4,23,24,25,26,27] (λi=>Γ.length-i) (λi=>i<=Γ.length) 0 (AF _)
  ⟨rfl,A8 (by simp),GE⟩ Mr rfl λi hi ih=>?_
 refine Av rfl<|Aa rfl (λh=>?_) (λh=>?_)
 ·have hlt:i<Γ.length:=by simp at h;omega
  obtain ⟨p,hp⟩:=Am hlt;have hg:=Ni hp;have hpm:=AK hp;have hF:=WV p.2 (hw p hpm);have hW:=JZ (LS (Γ.take i)) p.1 (FI p.2) (by simp [LS];omega);have hN:=Tz p.2;have hih:=ih (i+1) (by omega) (by omega);have hgv:=VI p.2 (Gz (Γ.take i) []) (hw p hpm);have hst:Gz (Γ.take (i+1)) []=D2 p.2 (Gz (Γ.take i) []):=by rw [Bk hp,Qm]
  have hfr:LS (Γ.take (i+1))=LS (Γ.take i)++[(p.1,FI p.2)]:=by rw [Bk hp,iH]
  rw [hst,hfr] at hih;clear ih hst hfr hM hA hC;generalize Gz (Γ.take i) []=l at *;generalize LS (Γ.take i)=Γ1 at *;obtain ⟨y,tp⟩:=p;simp only at hF hW hN hih hgv;generalize Γ1++[(y,FI tp)]=Γ2 at *;obtain ⟨tf,htf⟩:∃x,FI tp=x:=⟨_,rfl⟩
  rw [htf] at hF hW;obtain ⟨f1,f2,f3,f4⟩:=tf;obtain ⟨p1,p2,p3,p4⟩:=tp;refine Av rfl<|yiz rfl hg<|Ai rfl<|Ad rfl hF<|Ai rfl<|Ad rfl hW<|yg [] rfl (by simp;rfl)<|Af (st0:=[]) (fr:=[6]) [] [(6,6)] rfl (by simp) hN trivial rfl rfl rfl rfl<|Ai rfl<|Ol (y:=3) (j:=4) (j2:=5) (stc:=FX (.mk p1 p2 p3 p4)) (stc':=FX (.mk p1 p2 p3 p4)) (stx:=cU ⟨m1,m2,m3⟩ (.mk t1 t2 t3 t4 t5) Γ2 l) (stB:=cU ⟨m1,m2,m3⟩ (.mk t1 t2 t3 t4 t5) Γ2 ((GD (.mk p1 p2 p3 p4)).foldl sT l)) (pend:=none) (E:=zR Γ i) (ids':=[19,6,1,2,3,21,22,4,23,24,25,26,27]) (d:=.tup []) rfl func139 (by decide +kernel) rfl (by decide) Mr
   (Fq Y0) (λL h1 h2 h3 h4 h5 h6 h7=>NO (b:=true) (.mk p1 p2 p3 p4) ?_) ?_ ?_ ?_ ?_ ?_
  ·have:=Yields.all (P:=prog) (l:=D8 (GD (.mk p1 p2 p3 p4))) (λj=>Do L (cU ⟨m1,m2,m3⟩ (.mk t1 t2 t3 t4 t5) Γ2 (((GD (.mk p1 p2 p3 p4)).take j).foldl sT l)) none) λj d hj=>by
    rw [D8,Et] at hj;cases hu:(GD (.mk p1 p2 p3 p4))[j]? with
    | none=>rw [hu] at hj;cases hj
    | some u =>
     rw [hu] at hj;cases hj;have e:((GD (.mk p1 p2 p3 p4)).take (j+1)).foldl sT l=sT (((GD (.mk p1 p2 p3 p4)).take j).foldl sT l) u:=by rw [Bk hu,Za];rfl
     rw [e];exact Xv _ _ Γ Γ2 i _ u h1 h2 h3 h4 h5 h6 h7
   have hl:(D8 (GD (.mk p1 p2 p3 p4))).length=(GD (.mk p1 p2 p3 p4)).length:=by simp [D8]
   rw [hl] at this;simpa using this
  ·simp [FX,cU,DY]
  ·simp [FX,DY]
  ·intro i hi;have e:I0 (F7 (Ep (Br []++[(6,6)])) []++F7 (Ep (Br []++[(6,6)])) [.ref 6 0])=[6]:=rfl;rw [e] at hi;simpa [FX,DY,F3,UI,I0,J9] using hi
  ·refine ⟨by decide,?_⟩;simp [cU,zR,W1,J9,F3,UI,I0,DY]
  ·rw [hgv];exact Av rfl<|Ae hih ⟨M6,F6⟩ Mr rfl
 ·have hlt:¬i<Γ.length:=by simp at h;omega
  refine At rfl ?_;have e1:Γ.take i=Γ:=CQ (by omega);rw [e1];exact Ae hT BA Mr rfl
mutual
theorem oX:∀t:Ty,C9 t=true->inB 1000 t->C9 (FI t)=true/\CO (FI t)=[]
 | .mk f n x ps,hw,hi=>by
  by_cases e9:f=9
  ·subst e9;have hn:=hi.num rfl;simp only [num] at hn;have e:=E7 hw rfl;simp only [Ao,num,Ty.mk.injEq] at e;obtain ⟨_,_,rfl,rfl⟩:=e;have h2:n<=1000000:=by omega
   have h1:0<=n:=by omega
   rw [FI,if_pos rfl];refine ⟨?_,by simp [CO,DK,Lw]⟩;simp [C9,Gw,h1,h2,Lw]
  ·have hp:=dH ps (EU hw) λp hp=>hi.part e9 hp;rw [FI,if_neg e9];simp only [C9,A2] at hw ⊢;refine ⟨⟨⟨⟨by simp [e9],hw.1.1.2⟩,hw.1.2.1,by rw [Rr,Dh];exact hw.1.2.2⟩,hp.1⟩,by rw [CO,if_neg e9];exact hp.2⟩
theorem dH:∀l:List Ty,(∀t∈l,C9 t=true)->(∀t∈l,inB 1000 t)->Gw (Lw l)=true/\DK (Lw l)=[]
 | [],_,_=>by simp [Lw,Gw,DK]
 | t::r,hw,hi=>by
  have h1:=oX t (hw t (by simp)) (hi t (by simp));have h2:=dH r (λp hp=>hw p (by simp [hp])) (λp hp=>hi p (by simp [hp]));simp [Lw,Gw,DK,h1.1,h1.2,h2.1,h2.2]
end
theorem Xw (h:∀p∈Γ,C9 p.2=true/\inB 1000 p.2):EnvCl (LS Γ):=λp hp=>by
 obtain ⟨q,hq,rfl⟩:=Cc.1 hp;have:=oX q.2 (h q hq).1 (h q hq).2;exact ⟨this.2,this.1⟩
noncomputable def WQ (stay:List Int):Option (Ty×Int×Sb×List Ty)->V
 | none=>.tup [.agg (Al Dr),FD 7]
 | some (τ,_,σ,N)=>if (N.map (A9 (thS σ))).all Df=true then OV stay (A9 (thS σ) τ) else .tup [.agg (Al Dr),FD 7]
theorem VO:StOk 0 (BH []):=⟨JV _,λn t h=>(nomatch h),Ao,Sol.mk (λn t h=>nomatch h) (λn h=>rfl) (λn t h=>nomatch h) (λn t h=>nomatch h)⟩
theorem gY (hm:Dx m) (Γ:Au) (t:Tm) (h:MQ m Γ t=true) (hΓ:∀p∈Γ,C9 p.2=true/\inB 1000 p.2) (ht:Cb t=true) (hz:H8 t<=100000) :
  ∃r,BM m (LS Γ) t 0 (λ_=>none) r/\Tq3 26 [.agg (dMdc m),.sl (dKns Γ),.agg (dTmc t)] (WQ (Gz Γ []) r):=by
 have hcl:=Xw hΓ;have hl:Γ.length<=20:=by
  simp only [MQ,A2,decide_eq_true_eq] at h;exact h.1.1.2
 have hst:(Gz Γ []).length<=1000000:=by have:=Yr (B:=1000) λp hp=>(hΓ p hp).2;omega
 have hw:∀p∈Γ,C9 p.2=true:=λp hp=>(hΓ p hp).1;have hB:vH (LS Γ) [] 0 [] (H8 t):=⟨VO,λp hp=>⟨(hcl p hp).2,BD (hcl p hp).1 _⟩,by omega,by simp;omega,by simp [LS];omega⟩
 obtain ⟨r,c,g⟩:=Xk hm (H8 t) t (LS Γ) [] 0 [] (BL _) ht hB;cases r with
 | none=>exact ⟨none,g,NY m Γ t h hw (TE m t _ _ (ZQ c))⟩
 | some z =>
  obtain ⟨τ,T,k,S⟩:=z;obtain ⟨N,g1,g2,g3,g4⟩:=g;simp only [G5] at g2;subst g2;refine ⟨_,g1,?_⟩;obtain ⟨θ,hθ⟩:=g1.1.2.1.2.2;have hth:thS (BH T)=θ:=Us hθ;simp only [WQ,hth];cases hp:(S.map (A9 θ)).all Df with
  | true =>
   rw [if_pos rfl];exact NY m Γ t h hw (Xg m t _ _ (WY c hθ (by omega) hp) hθ g1.2.1 hst)
  | false =>
   rw [if_neg (by simp)];exact NY m Γ t h hw (TE m t _ _ (WZ c hθ (by omega) hp))
theorem ZW (l:List Dt) (f:FuncId) (a b:List V) (q:Dt->Bool) (hq:∀t∈l,Tq3 f (a++[.agg (BE t)]++b) (.bool (q t))) :
  ∃i:Int,(0<=i↔l.any q=true)/\Tq3 286 [.sl ((l.map BE)),.clo (.func f) a b] (.int .i64 i):=by
 obtain ⟨i,h1,h2⟩:∃i:Int,(0<=i↔l.any q=true)/\((i = -1/\l.any q=false)\/∃(k:Nat) (t:Dt),i=k/\l[k]?=some t/\q t=true/\(l.take k).any q=false):=by
  by_cases h:l.any q=true
  ·have key:∀(n:Nat),(l.take n).any q=true->∃(k:Nat) (t:Dt),l[k]?=some t/\q t=true/\(l.take k).any q=false:=λn=>by
    induction n with
    | zero=>intro h;simp at h
    | succ n ih =>
     intro h;by_cases hn:(l.take n).any q=true
     ·exact ih hn
     ·by_cases hl:n<l.length
      ·obtain ⟨t,ht⟩:=Am hl;rw [Bk ht,Gj] at h;simp only [QN] at hn;rw [hn,Ih] at h;exact ⟨n,t,ht,by simpa using h,hn⟩
      ·rw [CQ (by omega)] at h hn;exact absurd h hn
   obtain ⟨k,t,k1,k2,k3⟩:=key l.length (by rw [Ig];exact h);exact ⟨k,⟨λ_=>h,λ_=>by omega⟩,.inr ⟨k,t,rfl,k1,k2,k3⟩⟩
  ·exact ⟨-1,⟨λh'=>by omega,λh'=>absurd h' h⟩,.inl ⟨rfl,by simpa using h⟩⟩
 refine ⟨i,h1,?_⟩;clear h1;refine Bl λhv=>?_;simp [Cx,Ez,maxLen] at hv;refine AQ Ah func286 rfl [1,2]<|Ai rfl<|Ak (λj:Nat=>[(8,.imm (.int .i64 j)),(7,.imm (.int .i64 l.length)),(0,.imm (.sl ((l.map BE)))),(1,.imm (.clo (.func f) a b))]) (λ_=>[]) [1,2] (λj=>l.length-j) (λj=>j<=l.length/\(l.take j).any q=false) 0
  ⟨AF _,rfl⟩ ⟨rfl,A8 (by simp),AD⟩ trivial rfl λj hj ih=>?_
 obtain ⟨hj1,hj2⟩:=hj;refine Av rfl<|Aa rfl (λh=>?_) (λh=>?_)
 ·have hlt:j<l.length:=by simp at h;omega
  obtain ⟨t,ht⟩:=Am hlt;have hg:=GZ ht;have hQ:=hq t (AK ht);have htk:(l.take (j+1)).any q=q t:=by rw [Bk ht,Gj,hj2];simp
  have hfound:q t=true->i=j:=λhqt=>by
   rcases h2 with ⟨_,h⟩ | ⟨k,u,rfl,k1,k2,k3⟩
   ·have:l.any q=true:=Dz.2 ⟨t,AK ht,hqt⟩;rw [this] at h;cases h
   ·congr 1;rcases LM k j with hc | hc | hc
    ·have:(l.take j).any q=true:=Dz.2 ⟨u,DE.2 ⟨k,by rw [Dl,if_pos hc];exact k1⟩,k2⟩;rw [hj2] at this;cases this
    ·exact hc
    ·have:(l.take k).any q=true:=Dz.2 ⟨t,DE.2 ⟨j,by rw [Dl,if_pos hc];exact ht⟩,hqt⟩;rw [k3] at this;cases this
  generalize q t=o at *;obtain ⟨t1,t2⟩:=t;refine Av rfl<|yi rfl (c:=BE ⟨t1,t2⟩) (λ_=>⟨by simp,by simpa using hg,by simp [BE]⟩) (by simp)<|Ai rfl<|PP rfl (λ_=>hQ) (by simp)<|Ai rfl ?_;cases o with
  | true =>
   exact R6 rfl λh=>Av rfl<|Ag ⟨_,rfl,tV (by rw [hfound rfl]),trivial⟩
  | false =>
   exact R7 rfl λh=>Av rfl<|Ae (ih (j+1) (by omega) ⟨by omega,htk⟩) ⟨M6,AH⟩ trivial rfl
 ·have hlt:¬j<l.length:=by simp at h;omega
  rw [CQ (by omega)] at hj2;have hi:i = -1:=by
   rcases h2 with ⟨h,_⟩ | ⟨k,u,_,k1,k2,_⟩
   ·exact h
   ·have:l.any q=true:=Dz.2 ⟨u,AK k1,k2⟩;rw [hj2] at this;cases this
  exact At rfl<|Av rfl<|Ag ⟨_,rfl,tV (by rw [hi]),trivial⟩
theorem Lt (l:List Dt) (f:FuncId) (a b:List V) (q:Dt->Bool) (hq:∀t∈l,Tq3 f (a++[.agg (BE t)]++b) (.bool (q t))) :
  Tq3 265 [.sl ((l.map BE)),.clo (.func f) a b] (.bool (l.any q)):=by
 obtain ⟨i,h1,h2⟩:=ZW l f a b q hq;refine AQ Ah func265 rfl [1,2]<|Ai rfl<|Ad rfl h2<|Ai rfl<|Ab rfl rfl (congrArg _ ?_);rw [EY,<- h1];simp
theorem ZV (l:List Fd) (f:FuncId) (a b:List V) (q:Fd->Bool) (hq:∀t∈l,Tq3 f (a++[.agg (Cg t)]++b) (.bool (q t))) :
  ∃i:Int,(0<=i↔l.any q=true)/\Tq3 270 [.sl ((l.map Cg)),.clo (.func f) a b] (.int .i64 i):=by
 obtain ⟨i,h1,h2⟩:∃i:Int,(0<=i↔l.any q=true)/\((i = -1/\l.any q=false)\/∃(k:Nat) (t:Fd),i=k/\l[k]?=some t/\q t=true/\(l.take k).any q=false):=by
  by_cases h:l.any q=true
  ·have key:∀(n:Nat),(l.take n).any q=true->∃(k:Nat) (t:Fd),l[k]?=some t/\q t=true/\(l.take k).any q=false:=λn=>by
    induction n with
    | zero=>intro h;simp at h
    | succ n ih =>
     intro h;by_cases hn:(l.take n).any q=true
     ·exact ih hn
     ·by_cases hl:n<l.length
      ·obtain ⟨t,ht⟩:=Am hl;rw [Bk ht,Gj] at h;simp only [QN] at hn;rw [hn,Ih] at h;exact ⟨n,t,ht,by simpa using h,hn⟩
      ·rw [CQ (by omega)] at h hn;exact absurd h hn
   obtain ⟨k,t,k1,k2,k3⟩:=key l.length (by rw [Ig];exact h);exact ⟨k,⟨λ_=>h,λ_=>by omega⟩,.inr ⟨k,t,rfl,k1,k2,k3⟩⟩
  ·exact ⟨-1,⟨λh'=>by omega,λh'=>absurd h' h⟩,.inl ⟨rfl,by simpa using h⟩⟩
 refine ⟨i,h1,?_⟩;clear h1;refine Bl λhv=>?_;simp [Cx,Ez,maxLen] at hv;refine AQ Ah func270 rfl [1,2]<|Ai rfl<|Ak (λj:Nat=>[(8,.imm (.int .i64 j)),(7,.imm (.int .i64 l.length)),(0,.imm (.sl ((l.map Cg)))),(1,.imm (.clo (.func f) a b))]) (λ_=>[]) [1,2] (λj=>l.length-j) (λj=>j<=l.length/\(l.take j).any q=false) 0
  ⟨AF _,rfl⟩ ⟨rfl,A8 (by simp),AD⟩ trivial rfl λj hj ih=>?_
 obtain ⟨hj1,hj2⟩:=hj;refine Av rfl<|Aa rfl (λh=>?_) (λh=>?_)
 ·have hlt:j<l.length:=by simp at h;omega
  obtain ⟨t,ht⟩:=Am hlt;have hg:=HZ ht;have hQ:=hq t (AK ht);have htk:(l.take (j+1)).any q=q t:=by rw [Bk ht,Gj,hj2];simp
  have hfound:q t=true->i=j:=λhqt=>by
   rcases h2 with ⟨_,h⟩ | ⟨k,u,rfl,k1,k2,k3⟩
   ·have:l.any q=true:=Dz.2 ⟨t,AK ht,hqt⟩;rw [this] at h;cases h
   ·congr 1;rcases LM k j with hc | hc | hc
    ·have:(l.take j).any q=true:=Dz.2 ⟨u,DE.2 ⟨k,by rw [Dl,if_pos hc];exact k1⟩,k2⟩;rw [hj2] at this;cases this
    ·exact hc
    ·have:(l.take k).any q=true:=Dz.2 ⟨t,DE.2 ⟨j,by rw [Dl,if_pos hc];exact ht⟩,hqt⟩;rw [k3] at this;cases this
  generalize q t=o at *;obtain ⟨t1,t2,⟨a1,a2,a3,a4⟩,⟨b1,b2,b3,b4⟩,⟨c1,c2,c3,c4,c5⟩⟩:=t;refine Av rfl<|yi rfl (c:=Cg ⟨t1,t2,.mk a1 a2 a3 a4,.mk b1 b2 b3 b4,.mk c1 c2 c3 c4 c5⟩) (λ_=>⟨by simp,by simpa using hg,by simp [Cg]⟩) (by simp)<|Ai rfl<|PP rfl (λ_=>hQ) (by simp)<|Ai rfl ?_;cases o with
  | true =>
   exact R6 rfl λh=>Av rfl<|Ag ⟨_,rfl,tV (by rw [hfound rfl]),trivial⟩
  | false =>
   exact R7 rfl λh=>Av rfl<|Ae (ih (j+1) (by omega) ⟨by omega,htk⟩) ⟨M6,AH⟩ trivial rfl
 ·have hlt:¬j<l.length:=by simp at h;omega
  rw [CQ (by omega)] at hj2;have hi:i = -1:=by
   rcases h2 with ⟨h,_⟩ | ⟨k,u,_,k1,k2,_⟩
   ·exact h
   ·have:l.any q=true:=Dz.2 ⟨u,AK k1,k2⟩;rw [hj2] at this;cases this
  exact At rfl<|Av rfl<|Ag ⟨_,rfl,tV (by rw [hi]),trivial⟩
theorem Ls (l:List Fd) (f:FuncId) (a b:List V) (q:Fd->Bool) (hq:∀t∈l,Tq3 f (a++[.agg (Cg t)]++b) (.bool (q t))) :
  Tq3 225 [.sl ((l.map Cg)),.clo (.func f) a b] (.bool (l.any q)):=by
 obtain ⟨i,h1,h2⟩:=ZV l f a b q hq;refine AQ Ah func225 rfl [1,2]<|Ai rfl<|Ad rfl h2<|Ai rfl<|Ab rfl rfl (congrArg _ ?_);rw [EY,<- h1];simp
theorem gT (d e:Dt):Tq3 266 [.agg (BE e),.ip 113 (BE d) 0] (.bool (e.name == d.name)):=by
 obtain ⟨d1,d2⟩:=d;obtain ⟨e1,e2⟩:=e;exact Mw<|AQ Ah func266 rfl [2,3,4,5]<|Ai rfl<|Ab rfl rfl rfl
theorem oA (d e:Fd):Tq3 268 [.agg (Cg e),.ip 71 (Cg d) 0] (.bool (e.name == d.name)):=by
 obtain ⟨d1,d2,⟨a1,a2,a3,a4⟩,⟨b1,b2,b3,b4⟩,⟨c1,c2,c3,c4,c5⟩⟩:=d;obtain ⟨e1,e2,⟨f1,f2,f3,f4⟩,⟨g1,g2,g3,g4⟩,⟨h1,h2,h3,h4,h5⟩⟩:=e;exact Mw<|AQ Ah func268 rfl [2,3,4,5]<|Ai rfl<|Ab rfl rfl rfl
theorem gF (e:Fd):Tq3 226 [.agg (Cg e)] (.bool (e.name == HO&&BQ e.from_ == 3)):=by
 obtain ⟨e1,e2,⟨f1,f2,f3,f4⟩,⟨g1,g2,g3,g4⟩,⟨h1,h2,h3,h4,h5⟩⟩:=e;refine AQ Ah func226 rfl [2,3,4,5]<|Ai rfl<|Ab rfl rfl ?_;show V.bool (bif e1 == HO then f1 == 3 else false)=V.bool (e1 == HO&&f1 == 3);cases (e1 == HO) <;> rfl
theorem Z2 (t:Ty) (e:Dt):Tq3 287 [.agg (BE e),.ip 25 (Al t) 0] (.bool (e.name == Lf t)):=by
 obtain ⟨t1,t2,t3,t4⟩:=t;obtain ⟨e1,e2⟩:=e;exact Mw<|AQ Ah func287 rfl [2,3,4,5]<|Ai rfl<|Ab rfl rfl rfl
def Pv (m:Md):List V:=dMdc m++[.mapv [],.int .i64 0,.sl []]
def NP (m:Md) (u:Ty):Bool:=!(BQ u == 8 && !m.datas.any λd=>d.name == Lf u)
def Sk (m:Md) (b:Bool):St:=[(11,some (.immb 92 1 [.ip 98 (Pv m) 0])),(12,some (.immb 4 1 [.bool b]))]
def wE (l:List Ty) (i:Nat):Env:=[(10,.imm (.int .i64 i)),(9,.imm (.int .i64 l.length)),(8,.imm (.sl (A0 l))),(2,.ref 11 0),(4,.ref 12 0)]
theorem OT (m:Md) (l:List Ty) (i:Nat) (u:Ty) (h1:prog.funcs[L.fn]?.isSome) (h2:L.tmps.size=Tryz.f267.ntmps) (h3:L.ps = #[16]) (h4:L.asg=lC Tryz.f267) (h5:L.body=Y8 Tryz.f267) (h6:L.E=wE l i) (h7:L.F=[]) :
  (NP m u=true->Oy prog [.imm (.agg (Al u))] (Do L (Sk m false) none) true (Do L (Sk m false) none)) /\
  (NP m u=false->Oy prog [.imm (.agg (Al u))] (Do L (Sk m false) none) false (Do L (Sk m false) (some .ret))):=by
 obtain ⟨fc,hf⟩:=zb5.1 h1;have hC:=Lt m.datas 287 [] [.ip 25 (Al u) 0] (λd=>d.name == Lf u) λd _=>Z2 u d;have hfree:Rs [21,22,23] L.E (Sk m false) L.F:=by
  rw [h6,h7];refine ⟨by decide,?_⟩;simp [Sk,wE,W1,J9,F3,UI,I0,DY]
 unfold NP;generalize (m.datas.any λd=>d.name == Lf u)=o at *;obtain ⟨m1,m2,m3⟩:=m;obtain ⟨f,n,x,ps⟩:=u;simp only [BQ];have hasg:∀stx,RU prog Tryz.f267.ntmps L.asg ((16,.imm (.agg (Al (.mk f n x ps))))::L.E) stx [21,22,23] _ _ _:=λstx=>by
  rw [h4];exact dT Ah rfl rfl rfl rfl (by simp) (by simp)
 refine ⟨λhb=>?_,λhb=>?_⟩
 ·refine Rx (pend:=none) hf h3 h2 rfl (by decide) hfree (hasg _) ?_;rw [h5,h6,h7];refine Pu rfl<|Jo rfl (λ_=>hC) rfl (by simp [Ap])<|CW rfl<|Aa rfl (λh=>?_) (λh=>?_)
  ·exfalso;by_cases h8:f=8
   ·subst h8;cases o <;> simp at h hb
   ·simp [h8] at h
  ·exact Av rfl<|BP (⟨rfl,rfl,trivial⟩:Iw _ (Sk ⟨m1,m2,m3⟩ false))
 ·refine Rx (pend:=some .ret) hf h3 h2 rfl (by decide) hfree (hasg _) ?_;rw [h5,h6,h7];refine Pu rfl<|Jo rfl (λ_=>hC) rfl (by simp [Ap])<|CW rfl ?_;have hb':f=8/\o=false:=by
   by_cases h8:f=8
   ·subst h8;cases o <;> simp at hb ⊢
   ·simp [h8] at hb
  obtain ⟨rfl,rfl⟩:=hb';exact R6 rfl λh=>Av rfl<|Ag (⟨rfl,rfl,trivial⟩:Iw _ (Sk ⟨m1,m2,m3⟩ false))
theorem PX {P:Program} {S S':Bun} {q:Ty->Bool}:∀(l:List Ty),(∀u∈l,q u=true->Oy P [.imm (.agg (Al u))] S true S)->(∀u∈l,q u=false->Oy P [.imm (.agg (Al u))] S false S')->(l.all q=true->Yields P (D8 l) S true S)/\(l.all q=false->Yields P (D8 l) S false S')
 | [],_,_=>⟨λ_=>Yields.nil S,λh=>by simp at h⟩
 | u::r,h1,h2=>by
  have ih:=PX r (λv hv=>h1 v (by simp [hv])) (λv hv=>h2 v (by simp [hv]));refine ⟨λh=>?_,λh=>?_⟩
  ·simp only [Da,A2] at h;exact .cons (h1 u (by simp) h.1) (ih.1 h.2)
  ·simp only [Da,LK] at h;cases hq:q u with
   | false=>exact .stop (h2 u (by simp) hq)
   | true =>
    rcases h with h | h
    ·rw [hq] at h;cases h
    ·exact .cons (h1 u (by simp) hq) (ih.2 h)
theorem T7 (m:Md) (l:List Ty) (hl:l.length<=1000000):Tq3 267 [.ip 98 (Pv m) 0,.sl (A0 l)] (.bool ((CG l).all (NP m))):=by
 refine AQ Ah func267 rfl [11,12,13,6,1,2,3]<|Ai rfl<|Ak (λi:Nat=>wE l i) (λ_=>Sk m false) [13,6,1,2,3] (λi=>l.length-i) (λi=>i<=l.length/\(CG (l.take i)).all (NP m)=true) 0 ⟨AF _,rfl⟩
  ⟨rfl,A8 (by simp),AH⟩ AD rfl λi hi ih=>?_
 obtain ⟨hi1,hi2⟩:=hi;refine Av rfl<|Aa rfl (λh=>?_) (λh=>?_)
 ·have hlt:i<l.length:=by simp at h;omega
  obtain ⟨p,hp⟩:=Am hlt;have hg:=AA hp;have hN:=Tz p;have htk:∀(a b:List Ty),CG (a++b)=CG a++CG b:=λa b=>by
   induction a with
   | nil=>rfl
   | cons t r ih=>simp [CG,ih]
  have hnx:(CG (l.take (i+1))).all (NP m)=(GD p).all (NP m):=by rw [Bk hp,htk,Ii,hi2];simp [CG]
  have hno:(GD p).all (NP m)=false->(CG l).all (NP m)=false:=λh=>by
   have e:l=l.take i++p::l.drop (i+1):=by rw [<- As hp,cQ]
   rw [e,htk,Ii,CG,Ii,h];simp
  have hR:∀{L:Nx},prog.funcs[L.fn]?.isSome->L.tmps.size=Tryz.f267.ntmps->L.ps = #[16]->L.asg=lC Tryz.f267->L.body=Y8 Tryz.f267->L.E=wE l i->L.F=[] ->
   ((GD p).all (NP m)=true->Yields prog (D8 (GD p)) (Do L (Sk m false) none) true (Do L (Sk m false) none))/\((GD p).all (NP m)=false->Yields prog (D8 (GD p)) (Do L (Sk m false) none) false (Do L (Sk m false) (some .ret))):=λh1 h2 h3 h4 h5 h6 h7=>PX _ (λu _=>(OT m l i u h1 h2 h3 h4 h5 h6 h7).1) (λu _=>(OT m l i u h1 h2 h3 h4 h5 h6 h7).2)
  obtain ⟨p1,p2,p3,p4⟩:=p;refine Av rfl<|yiz rfl hg<|Ai rfl<|Af (st0:=[]) (fr:=[6]) [] [(6,6)] rfl (by simp) hN trivial rfl rfl rfl rfl<|Ai rfl ?_;cases hb:(GD (.mk p1 p2 p3 p4)).all (NP m) with
  | true =>
   rw [hb] at hnx;refine Ol (y:=3) (j:=4) (j2:=5) (stc:=FX (.mk p1 p2 p3 p4)) (stc':=FX (.mk p1 p2 p3 p4)) (stx:=Sk m false) (stB:=Sk m false) (pend:=none) (E:=wE l i) (ids':=[13,6,1,2,3]) (d:=.tup []) rfl func139 (by decide +kernel) rfl (by decide) BA
    (Fq AH) (λL h1 h2 h3 h4 h5 h6 h7=>NO (.mk p1 p2 p3 p4) ((hR h1 h2 h3 h4 h5 h6 h7).1 hb)) ?_ ?_ ?_ ?_ ?_
   ·simp [FX,Sk,DY]
   ·simp [FX,DY]
   ·intro i hi;have e:I0 (F7 (Ep (Br []++[(6,6)])) []++F7 (Ep (Br []++[(6,6)])) [.ref 6 0])=[6]:=rfl;rw [e] at hi;simpa [FX,DY,F3,UI,I0,J9] using hi
   ·refine ⟨by decide,?_⟩;simp [Sk,wE,W1,J9,F3,UI,I0,DY]
   ·exact Av rfl<|Ae (ih (i+1) (by omega) ⟨by omega,hnx⟩) ⟨M6,BJ⟩ AD rfl
  | false =>
   have hno:=hno hb;refine Ol (y:=3) (j:=4) (j2:=5) (stc:=FX (.mk p1 p2 p3 p4)) (stc':=FX (.mk p1 p2 p3 p4)) (stx:=Sk m false) (stB:=Sk m false) (pend:=some .ret) (E:=wE l i) (ids':=[13,6,1,2,3]) (d:=.tup []) rfl func139 (by decide +kernel) rfl (by decide) BA
    (Fq AH) (λL h1 h2 h3 h4 h5 h6 h7=>NO (.mk p1 p2 p3 p4) ((hR h1 h2 h3 h4 h5 h6 h7).2 hb)) ?_ ?_ ?_ ?_ ?_
   ·simp [FX,Sk,DY]
   ·simp [FX,DY]
   ·intro i hi;have e:I0 (F7 (Ep (Br []++[(6,6)])) []++F7 (Ep (Br []++[(6,6)])) [.ref 6 0])=[6]:=rfl;rw [e] at hi;simpa [FX,DY,F3,UI,I0,J9] using hi
   ·refine ⟨by decide,?_⟩;simp [Sk,wE,W1,J9,F3,UI,I0,DY]
   ·exact Ag ⟨_,rfl,tV (by rw [hno]),trivial⟩
 ·have hlt:¬i<l.length:=by simp at h;omega
  rw [CQ (by omega)] at hi2;exact At rfl<|Av rfl<|Ag ⟨_,rfl,tV (by rw [hi2]),trivial⟩
def Ke (l:List Str) (x:Str):List Str:=if BS l x=true then l else l++[x]
theorem VU {x:Str}:∀{l:List Str},BS l x=true->F2 (Hr l) (.str x) (.bool true)=Hr l
 | [],h=>by simp [BS] at h
 | y::r,h=>by
  simp only [BS,Hv,beq_iff_eq] at h;simp only [Hr,Cv,F2,jN];by_cases e:x=y
  ·subst e;simp
  ·have ih:=VU (l:=r) (h.resolve_left λh=>e h.symm);simp only [Hr] at ih;simp [e,ih]
theorem VW (l:List Str) (x:Str):F2 (Hr l) (.str x) (.bool true)=Hr (Ke l x):=by
 unfold Ke;cases h:BS l x with
 | true=>rw [if_pos rfl];exact VU h
 | false=>rw [if_neg (by simp)];exact VV l x h
def iR (m:Md) (z:Bool×List Str) (c:Cd):Bool×List Str:=(z.1 && !BS z.2 c.name&&(CG c.args).all (NP m),Ke z.2 c.name)
def Sx (m:Md) (i:Nat) (d:Dt) (met:List Str):Bool×List Str:=d.cons.foldl (iR m) (!((m.datas.take i).any λe=>e.name == d.name),met)
theorem oC (m:Md) (i:Nat) (d:Dt) (met:List Str) (hd:m.datas[i]?=some d) (hl:∀c∈d.cons,c.args.length<=1000000) :
  Tq4 223 [.imm (.ip 98 (Pv m) 0),.imm (.int .i64 i),.mapr 1] [(1,some (.map (Hr met)))] (.ret (.imm (.bool (Sx m i d met).1)) [(1,some (.map (Hr (Sx m i d met).2)))]):=by
 have hg:=GZ hd;have hC:=Lt (m.datas.take i) 266 [] [.ip 113 (BE d) 0] (λe=>e.name == d.name) λe _=>gT d e;have hK:=λl hl=>T7 m l hl;unfold Sx;generalize ((m.datas.take i).any λe=>e.name == d.name)=o at *;generalize hm:NP m=q at *;have hdc:iR m=λz c=>(z.1 && !BS z.2 c.name&&(CG c.args).all q,Ke z.2 c.name):=by funext z c;rw [iR,hm]
 rw [hdc];clear hdc hm;obtain ⟨m1,m2,m3⟩:=m;obtain ⟨d1,cs⟩:=d;simp only at hl;have hi:i<m2.length:=(AO.1 hd).1;refine AQ Ah func223 rfl [2,3,4,5,6]<|Ai rfl<|yi rfl (c:=BE ⟨d1,cs⟩) (λ_=>⟨by simp,by simpa using hg,by simp [BE]⟩) (by simp)<|yg [] rfl (by simp;omega) ?_;simp only [Zi] at hC;refine Jo rfl (λ_=>hC) rfl (by simp)<|Ai rfl ?_;clear hC;refine FN (t:=30) rfl λhv=>?_;simp [Ez,maxLen] at hv;generalize hF:(λ(z:Bool×List Str) (c:Cd)=>(z.1 && !BS z.2 c.name&&(CG c.args).all q,Ke z.2 c.name))=F at *;have hFe:∀(o:Bool) (me:List Str) (c:Cd),F (o,me) c=(o && !BS me c.name&&(CG c.args).all q,Ke me c.name):=λo me c=>by rw [<- hF]
 clear hF;refine Ak (λz:Nat×Bool×List Str=>[(32,.imm (.int .i64 z.1)),(31,.imm (.int .i64 cs.length)),(30,.imm (.sl (cs.map CK))),(8,.imm (.bool z.2.1)),(2,.mapr 1),(0,.imm (.ip 98 (Pv ⟨m1,m2,m3⟩) 0))]) (λz=>[(1,some (.map (Hr z.2.2)))]) [4,5,6] (λz=>cs.length-z.1)
  (λz=>z.1<=cs.length/\(cs.drop z.1).foldl F z.2=cs.foldl F (!o,met)) (0,!o,met)
  ⟨AF _,rfl⟩ ⟨rfl,A8 (by simp),BJ⟩ AC rfl λz hz ih=>?_
 obtain ⟨j,b,me⟩:=z;obtain ⟨hj1,hj2⟩:=hz;simp only at hj1 hj2 ih;generalize hR:cs.foldl F (!o,met)=R at *;clear hR;refine Av rfl<|Aa rfl (λh=>?_) (λh=>?_)
 ·have hlt:j<cs.length:=by simp at h;omega
  obtain ⟨c,hc⟩:=Am hlt;have hgc:=Nj hc;have hk:=hK c.args (hl c (AK hc));have hn:=VW me c.name;rw [As hc,OO,hFe] at hj2;obtain ⟨c1,ag⟩:=c;simp only at hk hj2 hn;generalize (CG ag).all q=o3 at *;refine Av rfl<|yi rfl (c:=CK ⟨c1,ag⟩) (λ_=>⟨by simp,by simpa using hgc,by simp [CK]⟩) (by simp)<|CW rfl<|CJ Ah 1 rfl rfl rfl (Gb me) (by simp [Ap]) (z:=.bool false) rfl (λ_=>.bool _) (K3 me c1)<|CW rfl<|Ce rfl hk<|CW rfl<|Fs Ah rfl rfl rfl (Gb me) ?_;rw [hn];refine Ai rfl ?_;exact Ae (ih (j+1,b && !BS me c1&&o3,Ke me c1) (by simp only;omega) ⟨by simp only;omega,hj2⟩) ⟨M6,rfl,rfl,by cases b <;> cases BS me c1 <;> cases o3 <;> rfl,AD⟩ AC rfl
 ·have hlt:¬j<cs.length:=by simp at h;omega
  rw [Bh (by omega)] at hj2;simp only [Zb] at hj2;refine At rfl<|Av rfl ?_;subst hj2;exact Ag ⟨_,AH⟩
theorem Vv (a b:List Int):IO (a++b)=IO a++IO b:=by simp [IO]
mutual
theorem zbz:∀(t:Ty) (l:List Int),l.length<=(D2 t l).length
 | .mk f n x ps,l=>by
  simp only [D2]
  split
  ·split <;> simp
  ·exact zI ps l
theorem zI:∀(ts:List Ty) (l:List Int),l.length<=(Cm ts l).length
 | [],l=>by simp [Cm]
 | t::r,l=>by
  simp only [Cm];have h1:=zbz t l;have h2:=zI r (D2 t l);omega
end
theorem zba {p:Ty} (h:ps[i]?=some p) (l:List Int):Cm (ps.drop i) l=Cm (ps.drop (i+1)) (D2 p l):=by rw [As h];rfl
theorem zaw:∀(t:Ty) (l:List Int),C9 t=true->(D2 t l).length<=3000000->Tq4 87 [.imm (.agg (Al t)),.own 1 (IO l).length] [(1,some (.row 3 1 (IO l)))] (.ret (.own 2 (IO (D2 t l)).length) [(2,some (.row 3 1 (IO (D2 t l))))])
 | .mk f n x ps,l,hw,hb=>by
  have hpl:=Ie hw;have hpw:=EU hw;simp only [Ff] at hpl hpw;have hml:=zbz (.mk f n x ps) l;refine AQ AE func87 rfl [3,2,4,5,6]<|AP rfl ?_;by_cases e9:f=9
  ·subst e9;refine R6 rfl λh=>AM rfl<|Ak (λi:Nat=>[(5,.imm (.int .i64 i)),(1,.own 1 (IO l).length),(2,.ref 3 0)]) (λ_=>[(1,some (.row 3 1 (IO l))),(3,some (.immb 25 4 (Al (.mk 9 n x ps))))]) [2,4,5,6] (λi=>l.length-i) (λi=>i<=l.length/\n∉l.take i) 0
    ⟨AF _,by simp⟩ AH AD rfl λi hi ih=>?_
   obtain ⟨hi1,hi2⟩:=hi;refine AM rfl<|Aa rfl (λh=>?_) (λh=>?_)
   ·have hlt:i<l.length:=by simp at h;omega
    obtain ⟨p,hp⟩:=Am hlt;have hg:=zax hp;refine AM rfl<|FG AE rfl (λ_=>⟨by simp,by simpa using hlt⟩) (by simp [Ap])<|IX rfl<|PN AE (e:=[.int .i64 p]) rfl (λ_=>by simpa using hg) rfl (by simp [Ap])<|rg [] rfl (by simp;rfl)<|Aa rfl (λh2=>?_) (λh2=>?_)
    ·have e:p=n:=by simpa using h2
     subst e;have hm:=AK hp;rw [D2,if_pos rfl,if_pos hm];exact AM rfl<|zbl 1 2 4 rfl rfl<|Ag ⟨_,AH⟩
    ·have e:p≠n:=by simpa using h2
     refine AM rfl<|Ae (ih (i+1) (by omega) ⟨by omega,?_⟩) ⟨M6,AD⟩ AD rfl;rw [Bk hp];simp only [BU,AN,not_or];exact ⟨hi2,λh=>e h.symm⟩
   ·have hlt:¬i<l.length:=by simp at h;omega
    rw [CQ (by omega)] at hi2;rw [D2,if_pos rfl,if_neg hi2] at hb ⊢;simp only [AZ,uL] at hb;refine At rfl<|AM rfl<|Bn AE rfl ⟨by simp,by simp [maxLen];omega,by simp;omega,trivial⟩<|AP rfl ?_;rw [Vv,show IO [n]=[[.int .i64 n]] from rfl];exact Ag ⟨_,AH⟩
  ·rw [D2,if_neg e9] at hb ⊢;refine Aa rfl (λh=>by exfalso;simp at h;exact e9 h) (λh=>?_);refine AM rfl<|zbl 1 2 1 rfl rfl<|Ak (λz:Nat×List Int=>[(6,.imm (.int .i64 z.1)),(1,.own 2 (IO z.2).length),(2,.ref 3 0)]) (λz=>[(2,some (.row 3 1 (IO z.2))),(3,some (.immb 25 4 (Al (.mk f n x ps))))]) [4,5,6] (λz=>ps.length-z.1) (λz=>z.1<=ps.length/\Cm ps l=Cm (ps.drop z.1) z.2) (0,l)
    ⟨AF _,rfl⟩ AH AD rfl λz hi ih=>?_
   obtain ⟨i,k⟩:=z;obtain ⟨hi1,hi2⟩:=hi;simp only at hi1 hi2 ih;refine AM rfl<|Aa rfl (λh=>?_) (λh=>?_)
   ·have hlt:i<ps.length:=by simp at h;omega
    obtain ⟨p,hp⟩:=Am hlt;have hg:=AA hp;have hle:=zI (ps.drop (i+1)) (D2 p k);rw [zba hp] at hi2;have hI:=zaw p k (hpw p (AK hp)) (by rw [<- hi2] at hle;omega);obtain ⟨p1,p2,p3,p4⟩:=p;exact AM rfl<|riz rfl hg<|AP rfl<|Jf [4] [(2,1)] [(2,4)] rfl hI Aw rfl rfl<|AP rfl<|Bo 2 4 rfl<|Ae (ih (i+1,D2 (.mk p1 p2 p3 p4) k) (by simp only;omega) ⟨by simp only;omega,hi2⟩) ⟨M6,AD⟩ AD rfl
   ·have hlt:¬i<ps.length:=by simp at h;omega
    rw [Bh (by omega)] at hi2;refine At rfl<|AM rfl ?_;rw [hi2];exact Ag ⟨_,AH⟩
termination_by t=>SizeOf.sizeOf t
decreasing_by
 have:=Ct (AK hp);simp_wf;omega
theorem zdd (t:Ty) (hw:C9 t=true) (hb:(D2 t []).length<=3000000):Tq4 87 [.imm (.agg (Al t)),.nils] [] (.ret (.own 2 (IO (D2 t [])).length) [(2,some (.row 3 1 (IO (D2 t []))))]):=by
 obtain ⟨f,n,x,ps⟩:=t;have hpl:=Ie hw;have hpw:=EU hw;simp only [Ff] at hpl hpw;refine AQ AE func87 rfl [3,2,4,5,6]<|AP rfl ?_;by_cases e9:f=9
 ·subst e9;refine R6 rfl λh=>AM rfl<|HX (e:=3) (sz:=1) 1 2 (by decide) rfl<|Ak (λi:Nat=>[(5,.imm (.int .i64 i)),(1,.own 2 (IO []).length),(2,.ref 3 0)]) (λ_=>[(2,some (.row 3 1 (IO []))),(3,some (.immb 25 4 (Al (.mk 9 n x ps))))]) [4,5,6] (λi=>0-i) (λi=>i=0) 0
   rfl AH AD rfl λi hi ih=>?_
  subst hi;refine AM rfl<|R7 rfl λh=>?_;rw [D2,if_pos rfl,if_neg (by simp)];exact At rfl<|AM rfl<|Bn AE rfl ⟨by simp,by simp [maxLen],by simp,trivial⟩<|AP rfl<|Bo 2 4 rfl<|Ag ⟨_,AH⟩
 ·rw [D2,if_neg e9] at hb ⊢;refine Aa rfl (λh=>by exfalso;simp at h;exact e9 h) (λh=>?_);refine AM rfl<|HX (e:=3) (sz:=1) 1 2 (by decide) rfl<|Ak (λz:Nat×List Int=>[(6,.imm (.int .i64 z.1)),(1,.own 2 (IO z.2).length),(2,.ref 3 0)]) (λz=>[(2,some (.row 3 1 (IO z.2))),(3,some (.immb 25 4 (Al (.mk f n x ps))))]) [4,5,6] (λz=>ps.length-z.1) (λz=>z.1<=ps.length/\Cm ps []=Cm (ps.drop z.1) z.2) (0,[])
   ⟨AF _,rfl⟩ AH AD rfl λz hi ih=>?_
  obtain ⟨i,k⟩:=z;obtain ⟨hi1,hi2⟩:=hi;simp only at hi1 hi2 ih;refine AM rfl<|Aa rfl (λh=>?_) (λh=>?_)
  ·have hlt:i<ps.length:=by simp at h;omega
   obtain ⟨p,hp⟩:=Am hlt;have hg:=AA hp;have hle:=zI (ps.drop (i+1)) (D2 p k);rw [zba hp] at hi2;have hI:=zaw p k (hpw p (AK hp)) (by rw [<- hi2] at hle;omega);obtain ⟨p1,p2,p3,p4⟩:=p;exact AM rfl<|riz rfl hg<|AP rfl<|Jf [4] [(2,1)] [(2,4)] rfl hI Aw rfl rfl<|AP rfl<|Bo 2 4 rfl<|Ae (ih (i+1,D2 (.mk p1 p2 p3 p4) k) (by simp only;omega) ⟨by simp only;omega,hi2⟩) ⟨M6,AD⟩ AD rfl
  ·have hlt:¬i<ps.length:=by simp at h;omega
   rw [Bh (by omega)] at hi2;refine At rfl<|AM rfl ?_;rw [hi2];exact Ag ⟨_,AH⟩
theorem zbt:∀t:Ty,C9 t=true->inB 1000 t->Tq3 86 [.agg (Al t)] (.agg (Al (Ul t)))
 | .mk f n x ps,hw,hi=>by
  have hl:=Ie hw;have hwp:=EU hw;simp only [Ff] at hl hwp;refine AQ AE func86 rfl [1,2,3,4,5]<|AP rfl ?_;by_cases e9:f=9
  ·subst e9;have hn:=hi.num rfl;simp only [num] at hn;rw [Ul,if_pos rfl];refine R6 rfl λh=>AM rfl<|Ab rfl rfl ?_;have e:IntKind.i64.wrap (1+n)=1+n:=BW (by omega) (by omega);simp only [Al,A0,e]
  have hpi:∀p∈ps,inB 1000 p:=λp hp=>hi.part e9 hp;rw [Ul,if_neg e9,qV];refine Aa rfl (λh=>by exfalso;simp at h;exact e9 h) (λh=>?_);refine AM rfl<|HX (e:=25) (sz:=4) 3 3 (by decide) rfl<|Ak (λi:Nat=>[(4,.imm (.int .i64 i)),(3,.own 3 (A0 ((ps.take i).map (Ul))).length),(1,.ref 1 0),(2,.ref 2 0)])
   (λi=>[(1,some (.immb 25 4 (Al (.mk f n x ps)))),(2,some (.cells 25 4 [.imm (.int .i64 0),.imm (.int .i64 0),.imm (.str []),.nils])),(3,some (.row 25 4 (A0 ((ps.take i).map (Ul)))))]) [4,5] (λi=>ps.length-i) (λi=>i<=ps.length) 0 (AF _)
   BJ AH rfl λi hi ih=>?_
  refine AM rfl<|Aa rfl (λh=>?_) (λh=>?_)
  ·have hlt:i<ps.length:=by simp at h;omega
   obtain ⟨p,hp⟩:=Am hlt;have hg:=AA hp;have hI:=zbt p (hwp p (AK hp)) (hpi p (AK hp));have hih:=ih (i+1) (by omega) (by omega);rw [Bk hp,CL,E4,show A0 (List.map (Ul) [p])=[Al (Ul p)] from rfl] at hih;have hlen:(A0 ((ps.take i).map (Ul))).length<=3:=by rw [dTys_length,Dh,FA];omega
   generalize A0 ((ps.take i).map (Ul))=R at *;obtain ⟨p1,p2,p3,p4⟩:=p;generalize Ul (.mk p1 p2 p3 p4)=q at *;obtain ⟨q1,q2,q3,q4⟩:=q;exact AM rfl<|riz rfl hg<|AP rfl<|Ad rfl hI<|AP rfl<|Bn AE rfl ⟨by simp,by simp [maxLen];omega,by simp;omega,trivial⟩<|AP rfl<|Bo 3 4 rfl<|Ae hih ⟨M6,by simp only [AZ];rfl,AD⟩ AH rfl
  ·have hlt:¬i<ps.length:=by simp at h;omega
   refine At rfl ?_;rw [CQ (by omega)];exact Bv 3 rfl<|AM rfl<|Ab rfl rfl rfl
termination_by t=>SizeOf.sizeOf t
decreasing_by
 have:=Ct (AK hp);simp_wf;omega
theorem zbw:∀t:Ty,C9 t=true->inB 1000001 t->Tq3 90 [.agg (Al t),.int .i64 1000] (.agg (Al (Vm 1000 t)))
 | .mk f n x ps,hw,hi=>by
  have hl:=Ie hw;have hwp:=EU hw;have hwn:=zdl hw;simp only [Ff,BQ,num] at hl hwp hwn;refine AQ AE func90 rfl [1,2,3,4,5]<|IX rfl ?_;by_cases e8:f=8/\0<n
  ·obtain ⟨rfl,e8⟩:=e8;have hn:=hwn (by decide);rw [Vm,if_pos ⟨rfl,e8⟩];have hH:=PT (n-1);rw [show (n-1:Int)=IntKind.i64.wrap (n-1) from (BW (by omega) (by omega)).symm] at hH;rw [show (n-1:Int)=IntKind.i64.wrap (n-1) from (BW (by omega) (by omega)).symm];refine Aa rfl (λh=>?_) (λh=>by exfalso;simp at h;omega);exact AM rfl<|Ad rfl hH<|AP rfl<|Ab rfl rfl rfl
  refine Aa rfl (λh=>by exfalso;simp at h;exact e8 (by grind)) (λh=>?_);refine AM rfl ?_;by_cases e9:f=9
  ·subst e9;have hn:=hi.num rfl;simp only [num] at hn;rw [Vm,if_neg (by simp),if_pos rfl];have hH:=PT (1000+n);rw [show (1000+n:Int)=IntKind.i64.wrap (1000+n) from (BW (by omega) (by omega)).symm] at hH;rw [show (1000+n:Int)=IntKind.i64.wrap (1000+n) from (BW (by omega) (by omega)).symm];exact R6 rfl λh=>AM rfl<|Ad rfl hH<|AP rfl<|Ab rfl rfl rfl
  have hpi:∀p∈ps,inB 1000001 p:=λp hp=>hi.part e9 hp;rw [Vm,if_neg e8,if_neg e9,za9];refine Aa rfl (λh=>by exfalso;simp at h;exact e9 h) (λh=>?_);refine AM rfl<|HX (e:=25) (sz:=4) 5 3 (by decide) rfl<|Ak (λi:Nat=>[(6,.imm (.int .i64 i)),(5,.own 3 (A0 ((ps.take i).map (Vm 1000))).length),(2,.ref 1 0),(4,.ref 2 0),(1,.imm (.int .i64 1000))])
   (λi=>[(1,some (.immb 25 4 (Al (.mk f n x ps)))),(2,some (.cells 25 4 [.imm (.int .i64 0),.imm (.int .i64 0),.imm (.str []),.nils])),(3,some (.row 25 4 (A0 ((ps.take i).map (Vm 1000)))))]) [4,5] (λi=>ps.length-i) (λi=>i<=ps.length) 0 (AF _)
   BA AH rfl λi hi ih=>?_
  refine AM rfl<|Aa rfl (λh=>?_) (λh=>?_)
  ·have hlt:i<ps.length:=by simp at h;omega
   obtain ⟨p,hp⟩:=Am hlt;have hg:=AA hp;have hI:=zbw p (hwp p (AK hp)) (hpi p (AK hp));have hih:=ih (i+1) (by omega) (by omega);rw [Bk hp,CL,E4,show A0 (List.map (Vm 1000) [p])=[Al (Vm 1000 p)] from rfl] at hih;have hlen:(A0 ((ps.take i).map (Vm 1000))).length<=3:=by rw [dTys_length,Dh,FA];omega
   generalize A0 ((ps.take i).map (Vm 1000))=R at *;obtain ⟨p1,p2,p3,p4⟩:=p;generalize Vm 1000 (.mk p1 p2 p3 p4)=q at *;obtain ⟨q1,q2,q3,q4⟩:=q;exact AM rfl<|riz rfl hg<|AP rfl<|Ad rfl hI<|AP rfl<|Bn AE rfl ⟨by simp,by simp [maxLen];omega,by simp;omega,trivial⟩<|AP rfl<|Bo 3 4 rfl<|Ae hih ⟨M6,by simp only [AZ];rfl,AH⟩ AH rfl
  ·have hlt:¬i<ps.length:=by simp at h;omega
   refine At rfl ?_;rw [CQ (by omega)];exact Bv 3 rfl<|AM rfl<|Ab rfl rfl rfl
termination_by t=>SizeOf.sizeOf t
decreasing_by
 have:=Ct (AK hp);simp_wf;omega
theorem zdy (stay order:List Int) (f n:Int) (x:Str) (ps:List Ty) (h:f≠9):pS stay order (.mk f n x ps) = .mk f n x (ps.map (pS stay order)):=by
 simp only [pS,A9,if_neg h,Ib]
theorem za0 (stay order:List Int) (hst:stay.length<=1000000) (hor:order.length<=3000000):∀t:Ty,C9 t=true->(∀h∈CO t,h∉stay->h∈order)->Tq3 92 [.agg (Al t),.sl (IO stay),.sl (IO order)] (.agg (Al (pS stay order t)))
 | .mk f n x ps,hw,hi=>by
  have hl:=Ie hw;have hwp:=EU hw;have hA:=zbd stay n;simp only [Ff] at hl hwp;refine AQ AE func92 rfl [1,2,3,4,5]<|IX rfl<|Ce rfl hA<|IX rfl ?_;by_cases e9:f=9/\n∉stay
  ·obtain ⟨rfl,hns⟩:=e9;have hno:n∈order:=hi n (by simp [CO]) hns;have hneg:atI stay n<0:=fF.2 hns;have hO:Tq3 91 [.sl (IO order),.int .i64 n] (.int .i64 ((order.idxOf n:Nat):Int)):=by
    have:=zbd order n
    rwa [atI,if_pos hno] at this
   have hK:order.idxOf n<=3000000:=by have:=List.idxOf_lt_length_of_mem hno;omega
   have hres:pS stay order (.mk 9 n x ps)=Ao (EC stay (order.idxOf n)):=by
    simp only [pS,A9,if_true,if_neg hns]
   rw [hres];clear hi hno;generalize order.idxOf n=K at *;refine Aa rfl (λh=>?_) (λh=>by exfalso;simp at h;omega);refine AM rfl<|Ad rfl hO<|AP rfl<|Ak (λi:Nat=>[(8,.imm (.int .i64 i)),(7,.imm (.int .i64 K)),(1,.imm (.sl (IO stay))),(6,.ref 2 0)]) (λ_=>[(2,some (.cells 25 4 [.imm (.int .i64 0),.imm (.int .i64 0),.imm (.str []),.nils]))]) [3,4,5] (λi=>EC stay 0-i) (λi=>H4 stay i=0) 0
    rfl BJ AC rfl λi hc0 ih=>?_
   have hil:=zco (stay:=stay) (k:=0) (n:=i) (by omega);have hnl:=sO stay 0;have hAi:=zbd stay i;refine AM rfl<|Ad rfl hAi<|AP rfl<|Aa rfl (λh=>?_) (λh=>?_)
   ·have hm:(i:Int)∈stay:=by
     simp at h;exact Classical.byContradiction λhc=>by have:=fF.2 hc;omega
    have hne:i≠EC stay 0:=λe=>(M4 stay 0).1 (e ▸ hm);exact AM rfl<|Ae (ih (i+1) (by omega) (by rw [De,hc0,if_pos hm])) ⟨M6,AH⟩ AC rfl
   ·have hm:(i:Int)∉stay:=by
     simp at h;exact fF.1 (by omega)
    clear ih;refine At rfl<|AM rfl<|Ak (λz:Nat×Nat=>[(8,.imm (.int .i64 z.2)),(7,.imm (.int .i64 z.1)),(1,.imm (.sl (IO stay))),(6,.ref 2 0)]) (λ_=>[(2,some (.cells 25 4 [.imm (.int .i64 0),.imm (.int .i64 0),.imm (.str []),.nils]))]) [3,4,5] (λz=>EC stay K-z.2) (λz=>H4 stay (z.2+1)+z.1=K+1/\(z.1=0->(z.2:Int)∉stay)) (K,i)
     ⟨by simp only;rw [De,hc0,if_neg hm];omega,λ_=>hm⟩ BJ AC rfl λz hz ih=>?_
    obtain ⟨k,j⟩:=z;obtain ⟨hz1,hz2⟩:=hz;simp only at hz1 hz2 ih;have hKl:=sO stay K;have hKo:=M4 stay K;refine AM rfl<|Aa rfl (λh=>?_) (λh=>?_)
    ·have hk:1<=k:=by simp at h;omega
     have hj:j<EC stay K:=by
      have:=zco (stay:=stay) (k:=K) (n:=j+1) (by omega);omega
     have hw1:IntKind.i64.wrap ((j:Int)+1)=((j+1:Nat):Int):=by rw [BW (by omega) (by omega)];omega
     have hAj:=zbd stay ((j+1:Nat):Int);rw [<- hw1] at hAj;refine AM rfl<|Ad rfl hAj<|AP rfl ?_;by_cases hm2:((j+1:Nat):Int)∈stay
     ·refine Aa rfl (λh=>by exfalso;simp at h;rw [fF,hw1] at h;exact h hm2) (λh=>?_);exact AM rfl<|Ae (ih (k,j+1) (by simp only;omega) ⟨by simp only;rw [De,if_pos hm2];omega,λh=>by simp only at h;omega⟩) ⟨A8 hw1,AH⟩ AC rfl
     ·refine Aa rfl (λh=>?_) (λh=>by exfalso;have:=fF.2 hm2;rw [<- hw1] at this;simp at h;omega);refine AM rfl<|Ae (ih (k-1,j+1) (by simp only;omega) ⟨by simp only;rw [De,if_neg hm2];omega,λ_=>hm2⟩) ⟨A8 hw1,A8 (by rw [BW (by omega) (by omega)];simp only;omega),AD⟩ AC rfl
    ·have hk:k=0:=by simp at h;omega
     subst hk;have hN:NthF stay K j:=⟨hz2 rfl,by rw [De,if_neg (hz2 rfl)] at hz1;omega⟩
     have hj:j=EC stay K:=hN.unique hKo;have hH:=PT j;rw [<- hj];exact At rfl<|AM rfl<|Ad rfl hH<|AP rfl<|Ab rfl rfl rfl
  have hres:pS stay order (.mk f n x ps) = .mk f n x (ps.map (pS stay order)):=by
   by_cases h9:f=9
   ·subst h9;have hm:n∈stay:=Classical.byContradiction λh=>e9 ⟨rfl,h⟩;have:=E7 hw rfl;simp only [num,Ao,Ty.mk.injEq,true_and] at this;obtain ⟨rfl,rfl⟩:=this;simp only [pS,A9,if_true,if_pos hm];rfl
   ·exact zdy stay order f n x ps h9
  have hpi:∀p∈ps,∀h∈CO p,h∉stay->h∈order:=λp hp h hh=>by
   by_cases h9:f=9
   ·subst h9;have:=E7 hw rfl;simp only [num,Ao,Ty.mk.injEq,true_and] at this;rw [this.2] at hp;cases hp
   ·exact hi h (by simp only [CO,if_neg h9];exact JS.2 ⟨p,hp,hh⟩)
  rw [hres];refine Aa rfl (λh=>by exfalso;simp at h;exact e9 (by by_cases h9:f=9 <;> simp_all [fF])) (λh=>?_);refine AM rfl<|HX (e:=25) (sz:=4) 9 3 (by decide) rfl<|Ak (λi:Nat=>[(10,.imm (.int .i64 i)),(9,.own 3 (A0 ((ps.take i).map (pS stay order))).length),(3,.ref 1 0),(6,.ref 2 0),(1,.imm (.sl (IO stay))),(2,.imm (.sl (IO order)))])
   (λi=>[(1,some (.immb 25 4 (Al (.mk f n x ps)))),(2,some (.cells 25 4 [.imm (.int .i64 0),.imm (.int .i64 0),.imm (.str []),.nils])),(3,some (.row 25 4 (A0 ((ps.take i).map (pS stay order)))))]) [4,5] (λi=>ps.length-i) (λi=>i<=ps.length) 0 (AF _)
   GE AH rfl λi hi ih=>?_
  refine AM rfl<|Aa rfl (λh=>?_) (λh=>?_)
  ·have hlt:i<ps.length:=by simp at h;omega
   obtain ⟨p,hp⟩:=Am hlt;have hg:=AA hp;have hI:=za0 stay order hst hor p (hwp p (AK hp)) (hpi p (AK hp));have hih:=ih (i+1) (by omega) (by omega);rw [Bk hp,CL,E4,show A0 (List.map (pS stay order) [p])=[Al (pS stay order p)] from rfl] at hih;have hlen:(A0 ((ps.take i).map (pS stay order))).length<=3:=by rw [dTys_length,Dh,FA];omega
   generalize A0 ((ps.take i).map (pS stay order))=R at *;obtain ⟨p1,p2,p3,p4⟩:=p;generalize pS stay order (.mk p1 p2 p3 p4)=q at *;obtain ⟨q1,q2,q3,q4⟩:=q;exact AM rfl<|riz rfl hg<|AP rfl<|Ad rfl hI<|AP rfl<|Bn AE rfl ⟨by simp,by simp [maxLen];omega,by simp;omega,trivial⟩<|AP rfl<|Bo 3 4 rfl<|Ae hih ⟨M6,by simp only [AZ];rfl,BJ⟩ AH rfl
  ·have hlt:¬i<ps.length:=by simp at h;omega
   refine At rfl ?_;rw [CQ (by omega)];exact Bv 3 rfl<|AM rfl<|Ab rfl rfl rfl
termination_by t=>SizeOf.sizeOf t
decreasing_by
 have:=Ct (AK hp);simp_wf;omega
noncomputable def zb3 (stay:List Int) (T:Ty):Ty:=pS stay (zbv stay (Vm 1000 T)) (Vm 1000 T)
noncomputable def zeb (stay:List Int) (r:Option (Ty×Int×Sb×List Ty)):Option Ty:=match r with
 | some (τ,_,σ,N)=>if (N.map (A9 (thS σ))).all Df=true then some (zb3 stay (A9 (thS σ) τ)) else none
 | none=>none
def zcd (r:Option Ty):V:=match r with
 | some t=>.tup [.agg (Al t),.bool true]
 | none=>.tup [.agg (Al Dr),.bool false]
theorem zaz (h:∀p∈Γ,C9 p.2=true/\inB 1000 p.2):EnvCl (mY Γ):=λp hp=>by
 obtain ⟨q,hq,rfl⟩:=Cc.1 hp;have:=zdp q.2 (h q hq).1 (h q hq).2;exact ⟨this.2,this.1⟩
theorem zb1 (a b:Au):dKns (a++b)=dKns a++dKns b:=by simp [dKns]
theorem zdf (Γ:Au):∀c∈dKns Γ,c.length=5:=λc hc=>by obtain ⟨x,_,rfl⟩:=Cc.1 hc;simp
theorem zdi (hm:Dx m) (Γ:Au) (t:Tm) (hΓ:∀p∈Γ,C9 p.2=true/\inB 1000 p.2) (ht:Cb t=true) (hz:H8 t<=100000) (hl:Γ.length<=1000) :
  ∃r,BM m (mY Γ) t 0 (λ_=>none) r/\Tq3 31 [.agg (dMdc m),.sl (dKns Γ),.agg (dTmc t)] (zcd (zeb (Gz Γ []) r)):=by
 have hcl:=zaz hΓ;have hL0:StL []:=jP 0 (by omega);have hlen:(mY Γ).length=Γ.length:=by simp [mY]
 obtain ⟨τ,L,S,o,c1,N,r1,g1⟩:=zda hm (H8 t) t (mY Γ) [] [] (BL _) ht ⟨hL0,λp hp=>⟨(hcl p hp).2,BD (hcl p hp).1 _⟩,by simp;omega,by simp;omega,by rw [hlen];omega⟩;rw [rM] at r1;refine ⟨_,r1,?_⟩;unfold Gr at c1;have hsn:(Gz Γ []).length<=1000:=Yr (B:=1000) λp hp=>(hΓ p hp).2;obtain ⟨m1,m2,m3⟩:=m;obtain ⟨t1,t2,t3,t4,t5⟩:=t;refine AQ AE func31 rfl [1,2,3,4,5,6,7,8,9,10,11,12,13,14]<|AP rfl<|HX (e:=84) (sz:=5) 8 4 (by decide) rfl<|HX (e:=3) (sz:=1) 9 5 (by decide) rfl<|Ak (λi:Nat=>[(10,.imm (.int .i64 i)),(8,.own 4 (dKns (mY (Γ.take i))).length),(9,.own 5 (IO (Gz (Γ.take i) [])).length),(1,.imm (.sl (dKns Γ))),(3,.ref 1 0),(5,.ref 2 0),(6,.ref 3 0)])
  (λi=>[(1,some (.immb 43 3 (dMdc ⟨m1,m2,m3⟩))),(2,some (.immb 49 5 (dTmc (.mk t1 t2 t3 t4 t5)))),(3,some (.cells 25 4 [.imm (.int .i64 0),.imm (.int .i64 0),.imm (.str []),.nils])),(4,some (.row 84 5 (dKns (mY (Γ.take i))))),(5,some (.row 3 1 (IO (Gz (Γ.take i) []))))]) [6,7,8,9,10,11,12,13,14] (λi=>Γ.length-i) (λi=>i<=Γ.length) 0 (AF _)
  F6 BA rfl λi hi ih=>?_
 refine AM rfl<|Aa rfl (λh=>?_) (λh=>?_)
 ·have hlt:i<Γ.length:=by simp at h;omega
  obtain ⟨p,hp⟩:=Am hlt;have hg:=Ni hp;have hpm:=AK hp;have hR:=zbt p.2 (hΓ p hpm).1 (hΓ p hpm).2;have hmt:∀q∈Γ.take (i+1),inB (1000:Nat) q.2:=λq hq=>(hΓ q (Lo hq)).2;have hih:=ih (i+1) (by omega) (by omega);have hsb:=Yr hmt;rw [Bk hp,Qm] at hih hsb;have hG:=zaw p.2 (Gz (Γ.take i) []) (hΓ p hpm).1 (by omega);have ek:mY (Γ.take i++[p])=mY (Γ.take i)++[(p.1,Ul p.2)]:=by simp [mY]
  rw [ek,zb1,show dKns [(p.1,Ul p.2)]=[.str p.1::Al (Ul p.2)] from rfl] at hih;have hk5:=zdf (mY (Γ.take i));have hkl:(dKns (mY (Γ.take i))).length<=1000:=by simp [mY];omega
  generalize dKns (mY (Γ.take i))=R at *;generalize Gz (Γ.take i) []=s at *;obtain ⟨y,⟨p1,p2,p3,p4⟩⟩:=p;simp only at hR hih hsb hG;generalize Ul (.mk p1 p2 p3 p4)=q at *;generalize D2 (.mk p1 p2 p3 p4) s=s' at *;obtain ⟨q1,q2,q3,q4⟩:=q;exact AM rfl<|riz rfl hg<|AP rfl<|riz rfl hg<|AP rfl<|Ad rfl hR<|AP rfl<|Bn AE rfl ⟨by simp,by simp [maxLen];omega,by simp;omega,trivial⟩<|rg [] rfl (by simp;rfl)<|riz rfl hg<|AP rfl<|Jf [7] [(5,1)] [(2,7)] rfl hG Aw rfl rfl<|AP rfl<|Bo 4 6 rfl<|Bo 5 7 rfl<|Ae hih ⟨M6,by simp only [AZ];rfl,BA⟩ BA rfl
 ·have hlt:¬i<Γ.length:=by simp at h;omega
  refine At rfl ?_;rw [CQ (by omega)];clear ih;refine Bv 4 rfl<|Bv 5 rfl<|AM rfl<|Ad rfl c1 ?_;obtain ⟨a1,a2,a3,a4⟩:=τ;cases o with
  | false =>
   exact IX rfl<|Aj (v:=.bool false) rfl (λhc=>by simp [Ap] at hc) (by simp [Ap])<|IX rfl<|R6 rfl λh=>AM rfl<|Ab rfl rfl rfl
  | true =>
   obtain ⟨z1,z2,z3,z4⟩:=g1 rfl;simp only [G5] at z2;subst z2;clear g1;obtain ⟨θ,hθ⟩:=z1.sol;have hth:thS (Fk L)=θ:=Us hθ;have hSi:∀u∈S,inB L.length u:=λu hu=>(r1.2.2.2 u hu).2;have hP:=lP L S hθ z1.dom hSi;refine IX rfl<|Ce rfl hP<|IX rfl ?_;simp only [resO_true,zeb,hth];cases hpl:(S.map (A9 θ)).all Df with
   | false =>
    exact R6 rfl λh=>AM rfl<|Ab rfl rfl rfl
   | true =>
    refine R7 rfl λh=>?_;have hF:=zem L S hθ z1.dom _ (.mk a1 a2 a3 a4) (BL _) r1.2.1 r1.2.2.1;have hTw:C9 (A9 θ (.mk a1 a2 a3 a4))=true:=VB (λn=>hθ.wfθ n) _ r1.2.1;have hTi:inB L.length (A9 θ (.mk a1 a2 a3 a4)):=hθ.inBT z1.dom r1.2.2.1;have hLl:=z1.len;have hLs:=zbw _ hTw (hTi.mono (by omega));obtain ⟨o1,o2⟩:=zd6 (B:=L.length) (by omega) _ hTw hTi;unfold zb3;generalize A9 θ (.mk a1 a2 a3 a4)=T at *;generalize Vm 1000 T=O at *;have hGb:=zde (B:=1001000) (l:=[]) (by simp) (λx h=>nomatch h) o2;have hG:=zdd O o1 (by omega);refine AM rfl<|Ad rfl hF<|AP rfl<|Ad rfl hLs ?_;have hN:=za0 (Gz Γ []) (zbv (Gz Γ []) O) (by omega) (by
     have:(zbv (Gz Γ []) O).length<=(D2 O []).length:=zb4 ..;omega) O o1 (λh hh hn=>zdt h hh hn)
    have hord:zbv (Gz Γ []) O=(D2 O []).filter λh=>decide (h∉Gz Γ []):=rfl;generalize zbv (Gz Γ []) O=od at *;generalize D2 O []=l at *;generalize Gz Γ []=s at *;obtain ⟨b1,b2,b3,b4⟩:=O;refine AP rfl<|Jf [9] [] [(2,9)] rfl hG trivial rfl rfl<|AP rfl<|Bv 9 rfl<|HX (e:=3) (sz:=1) 15 10 (by decide) rfl<|Ak (λi:Nat=>[(17,.imm (.int .i64 i)),(15,.own 10 (IO ((l.take i).filter λh=>decide (h∉s))).length),(16,.imm (.sl (IO l))),(9,.imm (.sl (IO s))),(14,.ref 8 0),(6,.ref 3 0)])
     (λi=>[(3,some (.cells 25 4 [.imm (.int .i64 0),.imm (.int .i64 0),.imm (.str []),.nils])),(8,some (.immb 25 4 (Al (.mk b1 b2 b3 b4)))),(10,some (.row 3 1 (IO ((l.take i).filter λh=>decide (h∉s)))))]) [11,12,13,14] (λi=>l.length-i) (λi=>i<=l.length) 0 (AF _)
     GE AH rfl λi hi ih=>?_
    refine AM rfl<|Aa rfl (λh=>?_) (λh=>?_)
    ·have hlt:i<l.length:=by simp at h;omega
     obtain ⟨p,hp⟩:=Am hlt;have hg:=zax hp;have hA:=zbd s p;have hih:=ih (i+1) (by omega) (by omega);rw [Bk hp,za8] at hih;have hfl:((l.take i).filter λh=>decide (h∉s)).length<=2000000:=by
      have h1:((l.take i).filter λh=>decide (h∉s)).length<=(l.take i).length:=zb4 ..;rw [FA] at h1;omega
     generalize (l.take i).filter (λh=>decide (h∉s))=R at *;refine AM rfl<|riz rfl hg<|AP rfl<|Ad rfl hA<|AP rfl ?_;by_cases hm:p∈s
     ·rw [show List.filter (λh=>decide (h∉s)) [p]=[] by simp [hm],HP] at hih;refine Aa rfl (λh=>by exfalso;simp at h;exact fF.1 h hm) (λh=>?_);exact AM rfl<|Ae hih ⟨M6,BA⟩ AH rfl
     ·rw [show List.filter (λh=>decide (h∉s)) [p]=[p] by simp [hm],Vv,show IO [p]=[[.int .i64 p]] from rfl] at hih;refine Aa rfl (λh=>?_) (λh=>by exfalso;simp at h;have:=fF.2 hm;omega);exact AM rfl<|riz rfl hg<|AP rfl<|Bn AE rfl ⟨by simp,by simp [maxLen];omega,by simp;omega,trivial⟩<|AP rfl<|Bo 10 11 rfl<|Ae hih ⟨M6,by simp only [AZ];rfl,BJ⟩ AH rfl
    ·have hlt:¬i<l.length:=by simp at h;omega
     refine At rfl ?_;rw [CQ (by omega),<- hord];exact Bv 10 rfl<|AM rfl<|Ad rfl hN<|AP rfl<|Ab rfl rfl rfl
structure vD (m:Md):Prop where
 datas:m.datas.length<=1000
 funs:m.funs.length<=1000
 cons:∀d∈m.datas,d.cons.length<=1000
structure OkM (m:Md):Prop where
 few:vD m
 closed:Dx m
 body:∀f∈m.funs,Cb f.body=true/\H8 f.body<=100000
theorem KD {t:Tm}:Dc m [t] [(Γ,τ)] S↔CC m t Γ τ S:=by
 simp only [Dc];constructor
 ·rintro ⟨S1,S2,h1,rfl,rfl⟩;rw [HP];exact h1
 ·intro h;exact ⟨S,[],h,rfl,by simp⟩
theorem RI (hm:Dx m) {f:Fd} (hf:f∈m.funs):(CO f.from_=[]/\C9 f.from_=true)/\CO f.to_=[]/\C9 f.to_=true:=by
 obtain ⟨h1,h2⟩:=hm.1 f hf;simp only [Be,CO,DK] at h1;simp only [Be,C9,Gw,A2] at h2;simp at h1;exact ⟨⟨h1.1,h2.2.1⟩,h1.2,h2.2.2.1⟩
def wI (m:Md) (f:Fd) (T:List (Int×Ty)) (k:Int) (S:List Ty):St:=CI m T k S++[(5,some (.cells 92 1 [.ref 1 0])),(6,some (.immb 71 15 (Cg f)))]
def zT (m:Md) (f:Fd) (T:List (Int×Ty)) (k:Int) (S:List Ty):St:=U0 m T k S++[(5,some (.cells 92 1 [.ref 1 0])),(6,some (.immb 71 15 (Cg f)))]
theorem nZ {f:Fd} {r:HC} (h:B7 m [(f.param,f.from_)] [f.body] [f.to_] [] 0 [] r) {b:Bool} (hp:∀T k S,r=some (T,k,S)->S.length<=1000000/\∃θ,Sol (BH T) θ/\(S.map (A9 θ)).all Df=b) (hn:r=none->b=false) :
  (b=true->∃T k S,Tq4 269 [.ref 5 0,.ref 6 0] (wI m f [] 0 []) (.ret (.imm (.tup [])) (zT m f T k S)))/\(b=false->Tq4 269 [.ref 5 0,.ref 6 0] (wI m f [] 0 []) (.pan Gn)):=by
 obtain ⟨f1,f2,⟨a1,a2,a3,a4⟩,⟨b1,b2,b3,b4⟩,⟨t1,t2,t3,t4,t5⟩⟩:=f;rw [B7] at h;rcases h with ⟨hI,rfl⟩ | ⟨⟨τ1,τ2,τ3,τ4⟩,T2,k2,S2,hI,h⟩
 ·have hb:=hn rfl;refine ⟨λh=>(by rw [hb] at h;cases h),λ_=>?_⟩;unfold Ey Cu Dj at hI;exact AQ Ah func269 rfl [4,9,10]<|Ai rfl<|Bg 3 [(1,1),(2,2),(3,3)] rfl (by simp) hI Ax rfl rfl rfl<|Ai rfl<|Eh 12 (.imm (.tup [])) rfl DC (λx h=>by cases h)<|yg [] rfl (by simp;rfl)<|Bs 12 3 rfl
 ·rcases h with ⟨hE,rfl⟩ | ⟨T3,hE,h⟩
  ·have hb:=hn rfl;refine ⟨λh=>(by rw [hb] at h;cases h),λ_=>?_⟩;unfold Ey Cu Dj at hI;unfold DL at hE;exact AQ Ah func269 rfl [4,9,10]<|Ai rfl<|A4 (fr:=[4]) [(1,1),(2,2),(3,3)] [(4,4)] [] (nm:=[1,2,4,1,2,3]) rfl trivial (by simp) hI Ax rfl trivial rfl rfl rfl<|Ai rfl<|Bd [(1,1),(2,2),(4,3)] rfl (by simp) hE Ax rfl rfl rfl<|N0 1 rfl (by simp;rfl)<|By 15 rfl
  ·simp only [B7] at h;obtain ⟨hl,θ,hθ,hpl⟩:=hp _ _ _ h;unfold Ey Cu Dj at hI;unfold Dk at hE;have hy:=MI m T3 k2 S2 hθ hl;have hno:=OS m T3 k2 S2 hθ hl;rw [hpl] at hy hno;refine ⟨λhb=>⟨T3,k2,S2,?_⟩,λhb=>?_⟩
   ·have hS:=hy hb;exact AQ Ah func269 rfl [4,9,10]<|Ai rfl<|A4 (fr:=[4]) [(1,1),(2,2),(3,3)] [(4,4)] [] (nm:=[1,2,4,1,2,3]) rfl trivial (by simp) hI Ax rfl trivial rfl rfl rfl<|Ai rfl<|A4 (fr:=[]) [(1,1),(2,2),(4,3)] [] [] (nm:=[1,2,4,1,2,4]) rfl trivial (by simp) hE Ax rfl trivial rfl rfl rfl<|yg [] rfl (by simp;rfl)<|Jf [] [(1,1),(2,2),(4,3)] [] rfl hS Ax rfl rfl<|Ai rfl<|BP ⟨[],F6⟩
   ·have hS:=hno hb;exact AQ Ah func269 rfl [4,9,10]<|Ai rfl<|A4 (fr:=[4]) [(1,1),(2,2),(3,3)] [(4,4)] [] (nm:=[1,2,4,1,2,3]) rfl trivial (by simp) hI Ax rfl trivial rfl rfl rfl<|Ai rfl<|A4 (fr:=[]) [(1,1),(2,2),(4,3)] [] [] (nm:=[1,2,4,1,2,4]) rfl trivial (by simp) hE Ax rfl trivial rfl rfl rfl<|yg [] rfl (by simp;rfl)<|Bd [(1,1),(2,2),(4,3)] rfl (by simp) hS Ax rfl rfl rfl<|Ai rfl<|By 17 rfl
theorem oD (hm:OkM m) {f:Fd} (hf:f∈m.funs):∃r,B7 m [(f.param,f.from_)] [f.body] [f.to_] [] 0 [] r/\(∀T k S,r=some (T,k,S)->S.length<=1000000/\∃θ,Sol (BH T) θ/\(S.map (A9 θ)).all Df=Io m f)/\(r=none->Io m f=false):=by
 obtain ⟨⟨c1,c2⟩,c3,c4⟩:=RI hm.closed hf;obtain ⟨n1,n2⟩:=hm.body f hf;have hcl:EnvCl [(f.param,f.from_)]:=λp hp=>by rw [AN.1 hp];exact ⟨c1,c2⟩
 have hsz:BY [f.body]=H8 f.body:=by simp [BY]
 obtain ⟨r,k1,g1⟩:=Hg (Xk hm.closed (H8 f.body)) [f.body] [f.to_] [(f.param,f.from_)] [] 0 [] rfl (by omega) (λt ht=>by rw [AN.1 ht];exact n1) (λu hu=>by rw [AN.1 hu];exact ⟨c4,BD c3 _⟩)
  ⟨VO,λp hp=>by rw [AN.1 hp];exact ⟨c2,BD c1 _⟩,by simp;omega,by simp;omega,by simp;omega⟩
 refine ⟨r,k1,?_⟩;clear k1;have hapK:∀η,FS η ([f.to_].map λu=>([(f.param,f.from_)],u))=[([(f.param,f.from_)],f.to_)]:=λη=>by
  simp only [FS,Cv,FB];rw [hcl.ap,Gq c3 c4]
 refine ⟨λT k S e=>?_,λe=>?_⟩
 ·subst e;obtain ⟨N,g1,g2,g3,g4⟩:=g1;simp only [G5] at g2;subst g2;obtain ⟨θ,hθ⟩:=g1.1.2.1.2.2;refine ⟨by omega,θ,hθ,(aW ?_ λS' hS'=>?_).symm⟩
  ·have:Dc m [f.body] (FS θ _) (S.map (A9 θ)):=(g1.1.2.2.1 θ hθ.eq).2;rw [hapK] at this;exact KD.1 this
  ·obtain ⟨η',_,e1,e2⟩:=g1.1.2.2.2 Ao S' (λn t h=>nomatch h) (by show Dc m [f.body] (FS Ao _) S';rw [hapK];exact KD.2 hS');refine ⟨η',?_⟩;simp only at e2;rw [<- e2,US];exact Jg λu _=>hθ.mguT e1 u
 ·subst e;refine aX λS hS=>g1 Ao S (λn t h=>nomatch h) ?_;show Dc m [f.body] (FS Ao _) S;rw [hapK];exact KD.2 hS
theorem tI (hm:OkM m) (i:Nat) (f:Fd) (hf:m.funs[i]?=some f):Tq3 224 [.ip 98 (Pv m) 0,.int .i64 i] (.bool (!((m.funs.take i).any λe=>e.name == f.name)&&((CG [f.from_,f.to_]).all (NP m)&&Io m f))):=by
 have hg:=HZ hf;have hi:i<m.funs.length:=(AO.1 hf).1;have hC:=Ls (m.funs.take i) 268 [] [.ip 71 (Cg f) 0] (λe=>e.name == f.name) λe _=>oA f e;have hK:=T7 m [f.from_,f.to_] (by simp);have hS:=G7 m 0;obtain ⟨r,k1,k2,k3⟩:=oD hm (AK hf);obtain ⟨y1,y2⟩:=nZ k1 k2 k3;clear k1 k2 k3 hm;generalize Io m f=B at *;generalize ((m.funs.take i).any λe=>e.name == f.name)=o at *;generalize (CG [f.from_,f.to_]).all (NP m)=q at *;simp only [Zi] at hC;obtain ⟨m1,m2,m3⟩:=m;obtain ⟨f1,f2,⟨a1,a2,a3,a4⟩,⟨b1,b2,b3,b4⟩,⟨t1,t2,t3,t4,t5⟩⟩:=f;simp only at hi
 refine AQ Ah func224 rfl [6,1,2,3,5,4,7,8]<|Ai rfl<|yi rfl (c:=Cg ⟨f1,f2,.mk a1 a2 a3 a4,.mk b1 b2 b3 b4,.mk t1 t2 t3 t4 t5⟩) (λ_=>⟨by simp,by simpa using hg,by simp [Cg]⟩) (by simp)<|yg [] rfl (by simp;omega)<|Jo rfl (λ_=>hC) rfl (by simp)<|CW rfl<|Ce rfl hK<|CW rfl ?_;clear hC hK hg;refine Aa rfl (λh=>?_) (λh=>?_)
 ·refine Av rfl ?_;exact Ag ⟨_,rfl,tV (by cases o <;> cases q <;> simp at h ⊢),trivial⟩
 ·have e:(!o&&(q&&B))=B:=by cases o <;> cases q <;> simp at h ⊢
  rw [e];clear e h;refine Av rfl<|Jf [1,2,3] [] [(1,1),(2,2),(3,3)] rfl hS trivial rfl rfl<|Ai rfl ?_;cases B with
  | true =>
   obtain ⟨T,k,S,hE⟩:=y1 rfl;have hH:=II func55 (by decide +kernel) rfl Fy func269 (by decide +kernel) rfl (df:=[]) (dc:=[.ref 5 0,.ref 6 0]) hE;exact Jf [4] [(1,1),(2,2),(3,3),(5,5),(6,6)] [(4,4)] rfl hH Wa rfl rfl<|Ai rfl<|Ab rfl rfl rfl
  | false =>
   have hH:=Kh func55 (by decide +kernel) rfl Fy func269 (by decide +kernel) rfl (df:=[]) (dc:=[.ref 5 0,.ref 6 0]) (y2 rfl);exact Jf [] [(1,1),(2,2),(3,3),(5,5),(6,6)] [] rfl hH Wa rfl rfl<|Ai rfl<|Ab rfl rfl rfl
theorem Of (p:Nat->Bool) (h:i<n):GX p i (n-i)=if p i then some i else GX p (i+1) (n-(i+1)):=by
 rw [show n-i=(n-(i+1))+1 by omega];rfl
theorem Rq (p:Nat->Bool) (h:n<=i):GX p i (n-i)=none:=by
 rw [show n-i=0 by omega];rfl
theorem Um {f:Fd} (h:m.funs[i]?=some f):N6 m i=((m.funs.take i).any (λg=>g.name == f.name) || !JR m f.from_ || !JR m f.to_ || !Io m f):=by rw [N6,h]
theorem sH {f:FuncId} {g:Fn} {a v:V} (h:GL P f [a,.clo g [] []] v):GL P f [a,.fn g] v:=λI μ w xs hst hx=>h I μ w xs hst ⟨hx.1,λi v d p q=>by
 match i,q with
 | 0,q=>cases q;exact hx.2 0 v _ p rfl
 | 1,q =>
  cases q;have:=(hx.2 1 v _ p rfl).immInv;cases this;exact .imm _ _ (.clo _ _ _ _ _ rfl rfl (λi c x h=>by simp at h) (λi c x h=>by simp at h))
 | i+2,q=>simp at q⟩
def wO:Int×Int->V
 | (1,i)=>.iface 148 (.agg [.int .i64 i])
 | (2,i)=>.iface 149 (.agg [.int .i64 i])
 | (3,_)=>.iface 151 (.agg [])
 | _=>.niliface
def P9 (m:Md):Nat->Nat->List Str->Option Nat
 | _,0,_=>none
 | i,n+1,met=>match m.datas[i]? with
  | some d=>if (Sx m i d met).1=true then P9 m (i+1) n (Sx m i d met).2 else some i
  | none=>none
noncomputable def Sp (m:Md) (i:Nat):Bool:=match m.funs[i]? with
 | some f=>!(!((m.funs.take i).any λe=>e.name == f.name)&&((CG [f.from_,f.to_]).all (NP m)&&Io m f))
 | none=>false
noncomputable def Gk (m:Md) (at_:Int):Int×Int :=
 if at_=0 then (match P9 m 0 m.datas.length [] with | some i=>(1,(i:Int)) | none=>(0,0))
 else if at_=1 then (match GX (Sp m) 0 m.funs.length with | some i=>(2,(i:Int)) | none=>(0,0))
 else if WC m=true then (0,0) else (3,0)
def bF (m:Md):Prop:=∀d∈m.datas,∀c∈d.cons,c.args.length<=1000000
theorem gG (hf:vD m) (hA:bF m):Tq3 152 [.ip 98 (Pv m) 0,.int .i64 0] (wO (Gk m 0)):=by
 have hl:=hf.datas;have hD:=λi d met hd=>oC m i d met hd (λc hc=>hA d (AK hd) c hc);have e:Gk m 0=(match P9 m 0 m.datas.length [] with | some i=>(1,(i:Int)) | none=>(0,0)):=rfl;rw [e];clear e hA;refine AQ Ah func152 rfl [1,2,3,4]<|Ai rfl<|R6 rfl λh=>Av rfl<|Ev rfl<|Ai rfl<|Ak (λz:Nat×List Str=>[(18,.imm (.int .i64 z.1)),(17,.imm (.int .i64 m.datas.length)),(5,.mapr 1),(0,.imm (.ip 98 (Pv m) 0))]) (λz=>[(1,some (.map (Hr z.2)))]) [2,3,4] (λz=>m.datas.length-z.1)
  (λz=>z.1<=m.datas.length/\P9 m z.1 (m.datas.length-z.1) z.2=P9 m 0 m.datas.length []) (0,[])
  ⟨AF _,rfl⟩ ⟨rfl,A8 (by simp),AD⟩ AC rfl λz hz ih=>?_
 obtain ⟨i,me⟩:=z;obtain ⟨hi1,hi2⟩:=hz;simp only at hi1 hi2 ih;generalize P9 m 0 m.datas.length []=R at *;refine Av rfl<|Aa rfl (λh=>?_) (λh=>?_)
 ·have hlt:i<m.datas.length:=by simp at h;omega
  obtain ⟨d,hd⟩:=Am hlt;have hC:=hD i d me hd;rw [show m.datas.length-i=(m.datas.length-(i+1))+1 by omega,P9,hd] at hi2;simp only at hi2;generalize Sx m i d me=w at *;obtain ⟨w1,w2⟩:=w;simp only at hC hi2;refine Av rfl<|C8 rfl hC Aw rfl<|Ai rfl ?_;cases w1 with
  | false =>
   refine R6 rfl λh=>?_;rw [if_neg (by simp)] at hi2;rw [<- hi2];exact Av rfl<|Ab rfl rfl rfl
  | true =>
   refine R7 rfl λh=>?_;rw [if_pos rfl] at hi2;exact Av rfl<|Ae (ih (i+1,w2) (by simp only;omega) ⟨by simp only;omega,hi2⟩) ⟨M6,AH⟩ AC rfl
 ·have hlt:¬i<m.datas.length:=by simp at h;omega
  rw [show m.datas.length-i=0 by omega,P9] at hi2;rw [<- hi2];exact At rfl<|Av rfl<|Ab rfl rfl rfl
theorem Z0 (hm:OkM m):Tq3 152 [.ip 98 (Pv m) 0,.int .i64 1] (wO (Gk m 1)):=by
 have hF:=λi f hf=>tI hm i f hf;have hl:=hm.few.funs;have e:Gk m 1=(match GX (Sp m) 0 m.funs.length with | some i=>(2,(i:Int)) | none=>(0,0)):=rfl;rw [e];clear e hm;refine AQ Ah func152 rfl [1,2,3,4]<|Ai rfl<|R7 rfl λh=>Av rfl<|R6 rfl λh=>Av rfl<|Ak (λi:Nat=>[(38,.imm (.int .i64 i)),(37,.imm (.int .i64 m.funs.length)),(0,.imm (.ip 98 (Pv m) 0))]) (λ_=>[]) [1,2,3,4] (λi=>m.funs.length-i)
  (λi=>i<=m.funs.length/\GX (Sp m) i (m.funs.length-i)=GX (Sp m) 0 m.funs.length) 0
  ⟨AF _,rfl⟩ ⟨rfl,A8 (by simp),AC⟩ trivial rfl λi hi ih=>?_
 obtain ⟨hi1,hi2⟩:=hi;generalize GX (Sp m) 0 m.funs.length=R at *;refine Av rfl<|Aa rfl (λh=>?_) (λh=>?_)
 ·have hlt:i<m.funs.length:=by simp at h;omega
  obtain ⟨f,hf⟩:=Am hlt;have hC:=hF i f hf;have hw:Sp m i = !(!((m.funs.take i).any λe=>e.name == f.name)&&((CG [f.from_,f.to_]).all (NP m)&&Io m f)):=by rw [Sp,hf]
  rw [Of _ hlt,hw] at hi2;clear hw;generalize (!((m.funs.take i).any λe=>e.name == f.name)&&((CG [f.from_,f.to_]).all (NP m)&&Io m f))=o at *;refine Av rfl<|Ad rfl hC<|Ai rfl ?_;cases o with
  | false =>
   refine R6 rfl λh=>?_;simp only [mW,if_true] at hi2;rw [<- hi2];exact Av rfl<|Ab rfl rfl rfl
  | true =>
   refine R7 rfl λh=>?_;simp only [Bool.not_true,E1,if_false] at hi2;exact Av rfl<|Ae (ih (i+1) (by omega) ⟨by omega,hi2⟩) ⟨M6,AD⟩ trivial rfl
 ·have hlt:¬i<m.funs.length:=by simp at h;omega
  rw [Rq _ (by omega)] at hi2;rw [<- hi2];exact At rfl<|Av rfl<|Ab rfl rfl rfl
theorem gE (m:Md):Tq3 152 [.ip 98 (Pv m) 0,.int .i64 2] (wO (Gk m 2)):=by
 have hC:=sH (Ls m.funs 226 [] [] (λe=>e.name == HO&&BQ e.from_ == 3) λe _=>gF e);have e:Gk m 2=(if WC m=true then (0,0) else (3,0)):=rfl;rw [e];unfold WC;generalize (m.funs.any λe=>e.name == HO&&BQ e.from_ == 3)=o at *;clear e;refine AQ Ah func152 rfl [1,2,3,4]<|Ai rfl<|R7 rfl λh=>Av rfl<|R7 rfl λh=>Av rfl<|R6 rfl λh=>Av rfl<|Ad rfl hC<|Ai rfl ?_;cases o with
 | false =>
  exact R6 rfl λh=>Av rfl<|Ab rfl rfl rfl
 | true =>
  exact R7 rfl λh=>Av rfl<|Ab rfl rfl rfl
structure PSeq where
 t:TypeId
 b:Bool
 g:Option (Bool×Bool)
 ob:List Prop
 dst:Option Nat
 todo:List DI
def oI:D->Option Bool
 | .imm .niliface=>some true
 | .imm (.iface _ _)=>some false
 | _=>none
def vQ (n:Nat) (env:Env) (todo:List DI):Option PSeq :=
 match Bt todo ([],[]) with
 | some (all,o,todo')=>match o.op,Co all env o with
  | .binOp op t x (.const .nilIface) _,some g=>match DN env x,BK n o.dst with
   | some dx,true=>match oI dx,op with
    | some b,.eql=>some ⟨t,b,g,[],o.dst,todo'⟩
    | some b,.neq=>some ⟨t,!b,g,[],o.dst,todo'⟩
    | _,_=>none
   | _,_=>none
  | _,_=>none
 | none=>none
theorem Xe {t:TypeId} {x:Operand} {b0:Bool} {dx:D} (hu:P.underlying t=some (.interface (P.methodsAt t))) (hb:oI dx=some b0) (h:RepD I μ v dx) :
  ((do eqGuard .eql t x (.const .nilIface) v .nilIface;binOp .eql t v .nilIface:Sem Value).run P w = .ok (.bool b0) w)/\((do eqGuard .neq t x (.const .nilIface) v .nilIface;binOp .neq t v .nilIface:Sem Value).run P w = .ok (.bool (!b0)) w):=by
 unfold oI at hb
 split at hb
 ·cases hb;have:=h.immInv;cases this;rw [eqGuard_nil_constR,eqGuard_nil_constR];exact ⟨run_eql_nil_nil w t hu,run_neq_nil_nil w t hu⟩
 ·cases hb;have:=h.immInv;cases this with
  | iface u v x hv =>
  exact ⟨run_eql_held_nil w t _ _ hu,run_neq_held_nil w t _ _ hu⟩
 ·cases hb
theorem Od {t:TypeId} {b:Bool} {g:Option (Bool×Bool)} {dst:Option Nat} {todo0:List DI} (h:vQ n env todo=some ⟨t,b,g,ob,dst,todo0⟩) (hu:P.underlying t=some (.interface (P.methodsAt t))) (hk:G P n F Q todo0 (BN dst (gD g (.imm (.bool b))) env) st ids):G P n F Q todo env st ids:=by
 unfold vQ at h
 split at h
 ·rename_i all o todo' h1
  split at h
  ·rename_i op t' x t2 g' hop hgd
   split at h
   ·rename_i dx hx hdo
    split at h
    ·rename_i b' hb;cases h;refine BG (fr:=[]) (wr:=[]) (rd:=[]) h1 (D1 hgd λI μ st1 ids1 a w hag hst hops hcx=>?_) hdo (λc hc=>by rw [hop] at hc;cases hc) hk;rw [hop] at hops;have rx:=hops x (by simp [Op.operands]) _ hx;have hrun:(execOp a.eval o).run P w = .ok (.value (.bool b)) w:=by
      simp only [execOp,hop];exact A7 (Xe hu hb rx).1
     rw [hrun];exact ⟨I,μ,hst,.imm _ _ (.bool _),Mu.le_refl μ,Ext.refl _ _ _ _⟩
    ·rename_i b' hb;cases h;refine BG (fr:=[]) (wr:=[]) (rd:=[]) h1 (D1 hgd λI μ st1 ids1 a w hag hst hops hcx=>?_) hdo (λc hc=>by rw [hop] at hc;cases hc) hk;rw [hop] at hops;have rx:=hops x (by simp [Op.operands]) _ hx;have hrun:(execOp a.eval o).run P w = .ok (.value (.bool (!b'))) w:=by
      simp only [execOp,hop];exact A7 (Xe hu hb rx).2
     rw [hrun];exact ⟨I,μ,hst,.imm _ _ (.bool _),Mu.le_refl μ,Ext.refl _ _ _ _⟩
    ·cases h
   ·cases h
  ·cases h
 ·cases h
noncomputable def Is (m:Md):Int×Int:=if (Gk m 0).1≠0 then Gk m 0 else if (Gk m 1).1≠0 then Gk m 1 else Gk m 2
theorem PD {p:Int×Int} (h:p.1=0):wO p = .niliface:=by
 obtain ⟨a,b⟩:=p;simp only at h;subst h;rfl
theorem K8 (m:Md) (j:Nat):(Gk m j).1=0\/(∃i,Gk m j=(1,i))\/(∃i,Gk m j=(2,i))\/Gk m j=(3,0):=by
 unfold Gk
 split
 ·split
  ·exact .inr (.inl ⟨_,rfl⟩)
  ·exact .inl rfl
 ·split
  ·split
   ·exact .inr (.inr (.inl ⟨_,rfl⟩))
   ·exact .inl rfl
  ·split
   ·exact .inl rfl
   ·exact .inr (.inr (.inr rfl))
theorem T9 (hm:OkM m) (hA:bF m):Tq3 97 [.agg (dMdc m)] (wO (Is m)):=by
 have hS:=G7 m 0;have hL:∀j:Nat,j<3->Tq3 152 [.ip 98 (Pv m) 0,.int .i64 j] (wO (Gk m j)):=λj hj=>by
  match j,hj with
  | 0,_=>exact gG hm.few hA
  | 1,_=>exact Z0 hm
  | 2,_=>exact gE m
 have hc:=K8 m;have hW:∀j:Nat,j<3->(∀i:Nat,i<j->(Gk m i).1=0)->(Gk m j).1≠0->Is m=Gk m j:=λj hj h1 h2=>by
  unfold Is
  match j,hj with
  | 0,_=>have h2:(Gk m 0).1≠0:=h2;rw [if_pos h2];rfl
  | 1,_=>have h2:(Gk m 1).1≠0:=h2;rw [if_neg (λh=>h (h1 0 (by omega))),if_pos h2];rfl
  | 2,_=>rw [if_neg (λh=>h (h1 0 (by omega))),if_neg (λh=>h (h1 1 (by omega)))];rfl
 have hN:(∀i:Nat,i<3->(Gk m i).1=0)->wO (Is m) = .niliface:=λh=>by
  unfold Is;rw [if_neg (λh'=>h' (h 0 (by omega))),if_neg (λh'=>h' (h 1 (by omega)))];exact PD (h 2 (by omega))
 clear hm hA;generalize Is m=R at *;have hS':Pv m=dMdc m++[.mapv [],.int .i64 0,.sl []]:=rfl;generalize Gk m=lk at *;obtain ⟨m1,m2,m3⟩:=m;refine AQ Ah func97 rfl [4,1,2,3,5]<|Ai rfl<|Ak (λj:Nat=>[(5,.imm (.int .i64 j)),(1,.ref 4 0)]) (λ_=>[(4,some (.immb 43 3 (dMdc ⟨m1,m2,m3⟩)))]) [1,2,3,5] (λj=>3-j)
  (λj=>j<=3/\∀i:Nat,i<j->(lk i).1=0) 0
  ⟨by omega,λi h=>by omega⟩ AD AC rfl λj hj ih=>?_
 obtain ⟨hj1,hj2⟩:=hj;refine Av rfl<|Aa rfl (λh=>?_) (λh=>?_)
 ·have hlt:j<3:=by simp at h;omega
  have hP:=hL j hlt;refine Av rfl<|Jf [1,2,3] [] [(1,1),(2,2),(3,3)] rfl hS trivial rfl rfl<|Ai rfl<|XC 2 rfl<|Bv 3 rfl<|XG 9 rfl rfl<|Av rfl<|Ad rfl hP ?_;have hcj:=hc j;have hWj:=hW j hlt hj2;clear hP hS hL hc hW hN;rcases hcj with hcj | hcj
  ·rw [PD hcj];refine Ai rfl<|Od rfl (by kernel_rfl)<|Ai rfl<|Aa rfl (λh=>by cases h) (λh=>?_);exact Av rfl<|Ae (ih (j+1) (by omega) ⟨by omega,λi hi=>if e:i=j then (e ▸ hcj) else hj2 i (by omega)⟩) ⟨M6,AC⟩ AC rfl
  ·rcases hcj with ⟨i,hi⟩ | ⟨i,hi⟩ | hi
   all_goals
    rw [hi] at hWj ⊢;rw [hWj (by simp)];refine Ai rfl<|Od rfl (by kernel_rfl)<|Ai rfl<|Aa rfl (λh=>?_) (λh=>by cases h);exact Av rfl<|Ab rfl rfl rfl
 ·have hlt:¬j<3:=by simp at h;omega
  obtain rfl:j=3:=by omega
  exact At rfl<|Av rfl<|Ag ⟨_,rfl,tV (hN hj2).symm,trivial⟩
theorem rE (i:Int):Tq3 341 [.agg [.int .i64 i]] (.tup [.int .i64 1,.int .i64 i])/\Tq3 342 [.agg [.int .i64 i]] (.tup [.int .i64 2,.int .i64 i])/\Tq3 343 [.agg []] (.tup [.int .i64 3,.int .i64 0]):=by
 refine ⟨?_,?_,?_⟩
 ·exact AQ Ah func341 rfl [1,2]<|yg [] rfl (by simp;rfl)<|Ab rfl rfl rfl
 ·exact AQ Ah func342 rfl [1,2]<|yg [] rfl (by simp;rfl)<|Ab rfl rfl rfl
 ·exact AQ Ah func343 rfl [1,2]<|Ai rfl<|Ab rfl rfl rfl
theorem L5 (m:Md):(Is m).1=0\/(∃i,Is m=(1,i))\/(∃i,Is m=(2,i))\/Is m=(3,0):=by
 unfold Is
 split
 ·exact K8 m 0
 ·split
  ·exact K8 m 1
  ·exact K8 m 2
theorem zc9 (hm:G3 m=true->OkM m/\bF m):Tq3 35 [.agg (dMdc m)] (if G3 m=true then (if (Is m).1=0 then .tup [.int .i64 0,.int .i64 0,FD 5] else .tup [.int .i64 (Is m).1,.int .i64 (Is m).2,FD 0]) else .tup [.int .i64 0,.int .i64 0,FD 2]):=by
 have hM:=FR m;obtain ⟨t1,t2,t3⟩:=rE (Is m).2;have hc:=L5 m;cases hb:G3 m with
 | false =>
  rw [if_neg (by simp)];rw [hb] at hM;clear t1 t2 t3 hc hm;obtain ⟨m1,m2,m3⟩:=m;exact AQ Ah func35 rfl [1,2]<|Ai rfl<|Ad rfl hM<|Ai rfl<|R6 rfl λh=>Av rfl<|Ab rfl rfl rfl
 | true =>
  rw [if_pos rfl];rw [hb] at hM;obtain ⟨h1,h2⟩:=hm hb;have hF:=T9 h1 h2;clear h1 h2 hm;generalize Is m=R at *;obtain ⟨m1,m2,m3⟩:=m;refine AQ Ah func35 rfl [1,2]<|Ai rfl<|Ad rfl hM<|Ai rfl<|R7 rfl λh=>Av rfl<|Ad rfl hF ?_;rcases hc with hc | hc
  ·rw [PD hc,if_pos hc];refine Ai rfl<|Od rfl (by kernel_rfl)<|Ai rfl<|Aa rfl (λh=>?_) (λh=>by cases h);exact Av rfl<|Ab rfl rfl rfl
  ·rcases hc with ⟨i,rfl⟩ | ⟨i,rfl⟩ | rfl
   ·rw [if_neg (by simp)];refine Ai rfl<|Od rfl (by kernel_rfl)<|Ai rfl<|Aa rfl (λh=>by cases h) (λh=>?_);exact Av rfl<|Vo 341 rfl (by kernel_rfl) (λ_=>t1) (by simp)<|Ai rfl<|Ab rfl rfl rfl
   ·rw [if_neg (by simp)];refine Ai rfl<|Od rfl (by kernel_rfl)<|Ai rfl<|Aa rfl (λh=>by cases h) (λh=>?_);exact Av rfl<|Vo 342 rfl (by kernel_rfl) (λ_=>t2) (by simp)<|Ai rfl<|Ab rfl rfl rfl
   ·rw [if_neg (by simp)];refine Ai rfl<|Od rfl (by kernel_rfl)<|Ai rfl<|Aa rfl (λh=>by cases h) (λh=>?_);exact Av rfl<|Vo 343 rfl (by kernel_rfl) (λ_=>t3) (by simp)<|Ai rfl<|Ab rfl rfl rfl
theorem Z1 {seen:Array Nat} (h:(leftOf es seen).size=0) (he:es[j]?=some e):seen.contains e.born=true:=by
 have h2:leftOf es seen = #[]:=Zj h;unfold leftOf at h2;rw [Array.filter_eq_empty_iff] at h2;have:=h2 e (Array.mem_of_getElem? he);simpa using this
noncomputable def Tx (L:List Ty):V:=if L.all (AV true)=true then .tup [.sl (A0 L),FD 0] else .tup [.sl [],FD 3]
theorem ZO (a b:Ty) (h:(AV true a&&AV true b)=true) (hE:Dk sX [] 0 [] a b T) (hs:Sol (BH T) θ) (hk:∀p∈T,0<=p.1/\p.1<100) :
  Tq3 13 [.agg (Al a),.agg (Al b)] (Tx (zdm T θ)):=by
 have hK:=Fz [a,b];simp only [Da,Jd,Ze] at hK;rw [h] at hK;have hS:=Lq;have hH:=II func55 (by decide +kernel) rfl Fy func56 (by decide +kernel) rfl (df:=[]) (dc:=[.ref 4 0,.ref 5 0,.ref 6 0]) (Yn hE);obtain ⟨a1,a2,a3,a4⟩:=a;obtain ⟨b1,b2,b3,b4⟩:=b;refine AQ Ah func13 rfl [5,6,1,2,3,4,7,8,9,10,11]<|Ai rfl<|Ad rfl hK<|Ai rfl<|R7 rfl λh=>Av rfl<|Jf [1,2,3] [] [(1,1),(2,2),(3,3)] rfl hS trivial rfl rfl<|Ai rfl<|Jf [] [(1,1),(2,2),(3,3),(4,4),(5,5),(6,6)] [] rfl hH ⟨⟨rfl,rfl,rfl⟩,⟨rfl,rfl,rfl⟩,⟨rfl,rfl,rfl⟩,⟨rfl,rfl,rfl⟩,⟨rfl,rfl,rfl⟩,⟨rfl,rfl,rfl⟩,trivial⟩ rfl rfl ?_;clear hH;refine Ai rfl<|R7 rfl λh=>IL 2 rfl λbm es clock hes hst=>Av rfl<|oT Ah rfl<|Ai rfl ?_
 have hlen:es.size=T.length:=by simpa using hes
 refine Ak (λz:Array Nat×Int=>[(27,.iter 7),(8,.imm (.int .i64 z.2)),(6,.ref 4 0),(7,.nils)])
  (λz=>[(4,some (.cells 92 1 [.ref 1 0])),(1,some (eQ sX 0 2 3 0)),(2,some (.mapx (T.map jO) bm es clock)),(3,some (.row 25 4 [])),(7,some (.miter bm clock z.1 clock))]) [8,9,10,11]
  (λz=>(leftOf es z.1).size) (λz=>((z.2 = -1\/∃p∈T,p.1=z.2) /\ -1<=z.2/\z.2<100)/\∀(j:Nat) (e:MapEntry) (p:Int×Ty),es[j]?=some e->z.1.contains e.born=true->T[j]?=some p->p.1<=z.2) (#[],-1)
  ⟨⟨.inl rfl,by simp,by simp⟩,λj e p _ h=>by simp at h⟩ BJ BA rfl λz hz ih=>?_
 obtain ⟨seen,x⟩:=z;obtain ⟨⟨hz1,hz2,hz3⟩,hz4⟩:=hz;simp only at hz1 hz2 hz3 hz4;refine Av rfl<|tR 2 rfl rfl (λx hx=>hst.1 x hx) (BL _) (by decide) λz hz=>?_;rcases z with _ | ⟨j,e1⟩
 rotate_left
 ·obtain ⟨hy1,hy2⟩:=hz;obtain ⟨p,hp⟩:∃p,T[j]?=some p:=Am (by rw [<- hlen];exact (GH.1 hy1).1);have hkv:(T.map jO)[j]?=some (jO p):=by simp [hp]
  have hD:W3 (T.map jO) (some (j,e1)) = .imm (.tup [.bool true,.int .i64 p.1,.agg (Al p.2)]):=by simp only [W3,hkv,jO]
  rw [hD];refine Av rfl<|R6 rfl λh=>Av rfl<|oU 2 rfl rfl rfl rfl hy1 hkv<|Ai rfl ?_;have hsh:=left_shrinks es seen e1 hy2;have hpm:=AK hp;obtain ⟨k1,k2⟩:=hk p hpm;refine Ae (ih (seen.push e1.born,if p.1 > x then p.1 else x) hsh ⟨⟨?_,?_,?_⟩,λj' e' p' q1 q2 q3=>?_⟩) BJ BA rfl
  ·simp only;split
   ·exact .inr ⟨p,hpm,rfl⟩
   ·exact hz1
  ·simp only;split <;> omega
  ·simp only;split <;> omega
  ·simp only at q2 ⊢;rw [contains_push,Hv] at q2;rcases q2 with q2 | q2
   ·have:=hz4 j' e' p' q1 q2 q3
    split <;> omega
   ·have hb:e'.born=e1.born:=by simpa using q2
    have hjj:j'=j:=by
     have hnd:=hst.2.1;have g1:(es.toList.map (·.born))[j']?=some e'.born:=by simp [q1]
     have g2:(es.toList.map (·.born))[j]?=some e1.born:=by simp [hy1]
     rw [hb] at g1;exact (List.getElem?_inj (AO.1 g1).1 hnd).1 (g1.trans g2.symm)
    subst hjj;rw [q3] at hp;cases hp
    split <;> omega
 have hz:(leftOf es seen).size=0:=hz;have hmx:fQ T=x:=mO (λp hp=>by
  obtain ⟨j,hj⟩:=I4 hp;obtain ⟨e,he⟩:∃e,es[j]?=some e:=⟨_,P2 (by rw [hlen];exact (AO.1 hj).1)⟩
  exact hz4 j e p he (Z1 hz he) hj) hz1 (λp hp=>(hk p hp).1) hz2
 clear ih hz4 hz1;obtain ⟨N,hN⟩:∃N:Nat,x+1=N:=⟨(x+1).toNat,by omega⟩
 have hL:zdm T θ=(List.range N).map λi:Nat=>θ i:=by rw [zdm,hmx,hN,Int.toNat_natCast]
 rw [hL];have hN1:N<=100:=by omega
 refine Av rfl<|R7 rfl λh=>At rfl<|Hy 2 rfl<|Av rfl<|HX (e:=25) (sz:=4) 7 8 (by decide) rfl<|Ak (λj:Nat=>[(37,.imm (.int .i64 j)),(36,.imm (.int .i64 N)),(6,.ref 4 0),(7,.own 8 (A0 ((List.range j).map λi:Nat=>θ i)).length)])
  (λj=>[(4,some (.cells 92 1 [.ref 1 0])),(1,some (eQ sX 0 2 3 0)),(2,some (VR T)),(3,some (.row 25 4 [])),(8,some (.row 25 4 (A0 ((List.range j).map λi:Nat=>θ i))))]) [9,10,11]
  (λj=>N-j) (λj=>j<=N/\((List.range j).map λi:Nat=>θ i).all (AV true)=true) 0
  ⟨AF _,rfl⟩ ⟨rfl,A8 (by rw [BW (by omega) (by omega)];exact hN),AD⟩ BA rfl λj hj ih=>?_
 obtain ⟨hj1,hj2⟩:=hj;refine Av rfl<|Aa rfl (λh=>?_) (λh=>?_)
 ·have hlt:j<N:=by simp at h;omega
  have hH:=WU j;obtain ⟨w1,w2⟩:=zbh (m:=sX) (k:=0) (S:=[]) hs (t:=Ao j) rfl;rw [CV] at w1 w2;have hC:=Fz [θ j];simp only [Da,Jd,Ze] at hC;have hall:∀f,AV true (θ j)=f->((List.range N).map λi:Nat=>θ i).all (AV true)=true->f=true:=λf hf h=>by
   rw [<- hf];exact Eo.1 h _ (Cc.2 ⟨j,QL.2 hlt,rfl⟩)
  have hnx:(List.range (j+1)).map (λi:Nat=>θ i)=((List.range j).map λi:Nat=>θ i)++[θ j]:=by rw [NU,CL];rfl
  refine Av rfl<|Ad rfl hH<|Ai rfl ?_;generalize hu:θ (j:Int)=u at w1 w2 hC hall hnx;by_cases hsz:DH u<=12
  ·have hW:=w1 hsz;generalize hfo:AV true u=fo at hC;have hfo':=hall fo hfo;obtain ⟨t1,t2,t3,t4⟩:=u;refine A4 [(1,1),(2,2),(3,3)] [] [1,2,3] (fr:=[]) (nm:=[]) rfl trivial (by simp) hW Ax rfl Ec rfl rfl rfl<|yg [] rfl (by simp;rfl)<|Ce rfl hC<|CW rfl ?_;cases fo with
   | false =>
    refine R6 rfl λh=>Av rfl<|Ab rfl rfl ?_;rw [Tx,if_neg (λh=>by cases hfo' h)];rfl
   | true =>
    refine R7 rfl λh=>Av rfl<|Bn Ah rfl ⟨by simp,by simp [maxLen];omega,by simp;omega,trivial⟩<|Ai rfl<|Bo 8 10 rfl ?_;have et:A0 ((List.range (j+1)).map λi:Nat=>θ i)=A0 ((List.range j).map λi:Nat=>θ i)++[Al (.mk t1 t2 t3 t4)]:=by rw [hnx,E4];rfl
    refine Ae (ih (j+1) (by omega) ⟨by omega,?_⟩) ⟨M6,rfl,rfl,by rw [et];rfl,trivial⟩ ⟨rfl,rfl,rfl,rfl,by rw [et];rfl,trivial⟩ rfl;rw [hnx,Ii,hj2];simpa using hfo
  ·have hW:=w2 (by omega);have hno:AV true u=false:=by
    cases hf:AV true u with
    | false=>rfl
    | true=>exact absurd (iI hf) hsz
   have hfo':=hall false hno;refine A4 [(1,1),(2,2),(3,3)] [] [] (fr:=[]) (nm:=[1,2,3]) rfl trivial (by simp) hW Ax rfl trivial rfl rfl rfl<|yg [] rfl (by simp [Ap];rfl)<|Aj (v:=.bool false) rfl (λhc=>by simp [Ap] at hc) (by simp [Ap])<|CW rfl<|R6 rfl λh=>Av rfl<|Ab rfl rfl ?_;rw [Tx,if_neg (λh=>by cases hfo' h)];rfl
 ·have hlt:j=N:=by simp at h;omega
  subst hlt;refine At rfl<|Bv 8 rfl<|Av rfl<|Ab rfl rfl ?_;rw [Tx,if_pos hj2];rfl
theorem YS {op n:Int} {k p:Nat} (h:B0 op n x k p=true):p<=5:=by
 unfold B0 at h;by_cases e0:op=1
 ·rw [if_pos e0] at h;simp [Bq,D4] at h;omega
 rw [if_neg e0] at h;by_cases e1:op=2
 ·rw [if_pos e1] at h;simp [Bq,D4] at h;omega
 rw [if_neg e1] at h;by_cases e2:op=3\/op=21\/op=25\/op=28
 ·rw [if_pos e2] at h;simp [Bq,D4] at h;omega
 rw [if_neg e2] at h;by_cases e3:op=4
 ·rw [if_pos e3] at h;simp [Bq,D4] at h;omega
 rw [if_neg e3] at h;by_cases e4:op=5\/op=27
 ·rw [if_pos e4] at h;simp [Bq,D4] at h;omega
 rw [if_neg e4] at h;by_cases e5:op=7
 ·rw [if_pos e5] at h;simp [Bq,D4] at h;omega
 rw [if_neg e5] at h;by_cases e6:op=8
 ·rw [if_pos e6] at h;simp [Bq,D4] at h;omega
 rw [if_neg e6] at h;by_cases e7:op=14
 ·rw [if_pos e7] at h;simp [Bq,D4] at h;omega
 rw [if_neg e7] at h;by_cases e8:op=15
 ·rw [if_pos e8] at h;simp [Bq,D4] at h;omega
 rw [if_neg e8] at h;by_cases e9:op=16\/op=17\/op=19\/op=20\/op=23\/op=26
 ·rw [if_pos e9] at h;simp [Bq,D4] at h;omega
 rw [if_neg e9] at h;by_cases e10:op=24
 ·rw [if_pos e10] at h;simp [Bq,D4] at h;omega
 rw [if_neg e10] at h;by_cases e11:op=6\/op=9\/op=10\/op=11\/op=12\/op=13\/op=18\/op=22
 ·rw [if_pos e11] at h;simp [Bq,D4] at h;omega
 rw [if_neg e11] at h;cases h
theorem Ta:∀{l:List Ty},l.all Gg=true->CX l<=12*l.length
 | [],_=>by simp [CX]
 | t::r,h=>by
  simp only [Da,A2] at h;have h1:=h.1;simp only [Gg,A2,decide_eq_true_eq] at h1;have h2:=Fa t 12 h1.1.1;rw [Q7] at h2;have h3:=Ta h.2;simp only [CX,Cq];omega
mutual
theorem bM:∀(t:Tm) (l d:Int),0<=B1 t l d->Cb t=true->(H8 t:Int)<=61*(l-B1 t l d)
 | .mk op n x ks ps,l,d,h,hn=>by
  simp only [B1] at h ⊢;by_cases e:l<1\/d<1
  ·rw [if_pos e] at h;omega
  ·rw [if_neg e] at h ⊢;simp only [Cb,A2] at hn;have h1:=VJ ks (l-1) (d-1) h hn.2;have h2:=YS hn.1.1;have h3:=Ta hn.1.2;simp only [H8];omega
theorem VJ:∀(ts:List Tm) (l d:Int),0<=BT ts l d->CY ts=true->(BY ts:Int)<=61*(l-BT ts l d)
 | [],l,d,h,_=>by simp [BY,BT]
 | t::r,l,d,h,hn=>by
  simp only [BT] at h ⊢;by_cases e:0<=l
  ·rw [if_pos e] at h ⊢;simp only [CY,A2] at hn;have h0:0<=B1 t l d:=by
    by_cases e2:0<=B1 t l d
    ·exact e2
    ·have:=(JD r (B1 t l d) d (Hl t l d).1).2;omega
   have h1:=bM t l d h0 hn.1;have h2:=VJ r (B1 t l d) d h hn.2;simp only [BY];omega
  ·rw [if_neg e] at h;omega
end
theorem eM {t:Tm} (h:O5 t=true):Cb t=true/\H8 t<=100000:=by
 simp only [O5,A2,decide_eq_true_eq] at h;have h1:=bM t 60 14 h.1 h.2;exact ⟨h.2,by omega⟩
theorem PY (h:Fp t=true):CO t=[]/\C9 t=true:=by
 simp only [Fp,A2] at h;have:=Ml t h.2;exact ⟨this.2.2 rfl,this.1⟩
theorem YX (h:D6 m=true):OkM m/\bF m:=by
 simp only [D6,A2,decide_eq_true_eq,D4] at h;obtain ⟨⟨⟨⟨h1,h2⟩,h3⟩,h4⟩,h5⟩:=h;have hf:∀f∈m.funs,MW f=true:=Eo.1 h5;have hd:∀d∈m.datas,H2 d=true:=Eo.1 h4;have hc:∀d∈m.datas,d.cons.length<=5/\∀c∈d.cons,LW c=true:=λd hd'=>by
  have:=hd d hd';simp only [H2,A2,decide_eq_true_eq,D4] at this;exact ⟨by omega,Eo.1 this.2⟩
 have ha:∀d∈m.datas,∀c∈d.cons,c.args.length<=3/\∀t∈c.args,Fp t=true:=λd hd' c hc'=>by
  have:=(hc d hd').2 c hc';simp only [LW,A2,decide_eq_true_eq] at this;exact ⟨by omega,Eo.1 this.2⟩
 refine ⟨⟨⟨by omega,by omega,λd hd'=>by have:=(hc d hd').1;omega⟩,⟨λf hf'=>?_,λd hd' c hc' t ht=>PY ((ha d hd' c hc').2 t ht)⟩,λf hf'=>?_⟩,λd hd' c hc'=>by have:=(ha d hd' c hc').1;omega⟩
 ·have:=hf f hf';simp only [MW,A2] at this;obtain ⟨a1,a2⟩:=PY this.1.1.2;obtain ⟨b1,b2⟩:=PY this.1.2;exact ⟨by simp [Be,CO,DK,a1,b1],by simp [Be,C9,Gw,a2,b2]⟩
 ·have:=hf f hf';simp only [MW,A2] at this;exact eM this.2
mutual
theorem xO (m:Md) {b:Bool}:∀t:Ty,CP b t=true->(GD t).all (NP m)=JR m t
 | .mk s n x ps,h=>by
  simp only [CP,A2] at h;simp only [GD,Da,JR,PK m ps h.2];by_cases e:s=8
  ·subst e;have hp:ps=[]:=by
    have:=h.1;simp [C3] at this;exact this.1.1
   subst hp;simp [NP,BQ,Lf,Fw]
  ·rw [if_neg e];simp [NP,BQ,e]
theorem PK (m:Md) {b:Bool}:∀l:List Ty,Ck b l=true->(CG l).all (NP m)=Fw m l
 | [],_=>rfl
 | t::r,h=>by
  simp only [Ck,A2] at h;simp only [CG,Ii,Fw,xO m t h.1,PK m r h.2]
end
theorem SR {b:Bool}:∀{l:List Ty},(∀t∈l,CP b t=true)->Ck b l=true
 | [],_=>rfl
 | t::r,h=>by simp only [Ck,A2];exact ⟨h t (by simp),SR λu hu=>h u (by simp [hu])⟩
end Go.Hk
